/- Walks: puts and alphas in any state; limits.
   The law SubstSmall. -/
import Derived.Test.YtknaeibenggbmaaGreatDoorKW
import Derived.Test.YtknaeibenggbmaaGreatDoorLG
import Derived.Test.YtknaeibenggbmaaGreatDoorKC
import Derived.Test.YtknaeibenggbmaaGreatDoorLC
set_option linter.all false
open Nat renaming reduceEqDiff → zE, reduceBEq → zB, reduceAdd → zA, reduceMul → zM, reduceSub → zS, reduceLeDiff → zL
attribute [local go_sem] Go.Iv.cf Go.Iv.setAt List.all_cons List.all_nil Bool.and_self Bool.true_and Bool.and_true Bool.false_and Bool.and_false Bool.not_true Bool.not_false List.mem_nil_iff if_false if_true beq_self_eq_true Nat.zero_add Nat.add_zero List.getElem?_cons_zero List.getElem?_cons_succ Option.map_some List.mem_cons or_false false_or or_true true_or Nat.sub_zero forall_const Int.toNat_natCast List.length_cons List.length_nil List.map_cons List.map_nil List.take_succ_cons List.take_zero List.drop_zero List.drop_succ_cons List.cons_append List.nil_append List.append_nil and_true true_and and_self true_implies List.zip_cons_cons List.zip_nil_left
namespace Go.Proofs.Tryz
open Go Go.Iv
set_option maxRecDepth 4000
attribute [local go_sem] inOrder_one inOrder_two
variable {gl : Nat → Option IV}

theorem join_nil (st : ISt) : join (fun _ => none) st = st := by
  funext b
  unfold join
  cases st b <;> rfl
theorem any_state {f : FuncId} {args : List IV} (h : ICall prog gl f args (fun _ => none) (fun r st' => r = .raw (.bool true) ∧ st' = fun _ => none)) (st : ISt) : ICall prog gl f args st (fun r st' => r = .raw (.bool true) ∧ st' = st) := by
  have h1 := h.frame (own := st) (fun _ _ => rfl)
  rw [join_nil] at h1
  refine h1.mono ?_
  rintro r st' ⟨stu, _, rfl, rfl, rfl⟩
  exact ⟨rfl, join_nil st⟩
theorem puts_any (G : Gl gl) (T : Gt gl) (hgl : agedG gl) (f : Fm) (x : IV) (hx : IsFm f x) (hs : f.size ≤ 1000) (l : Sb) (tg : Tag) (xs : List IV) (htg : okEs tg 4) (hxs : IsOnes l xs) (hl : l.length ≤ 100) (hls : ∀ p ∈ l, p.2.size ≤ 1000) (hws : wS l ≤ 1000000000) (st : ISt) :
    ICall prog gl 17 [x, .sl tg xs] st (fun r st' => r = .raw (.bool true) ∧ st' = st) :=
  any_state (puts_c G T hgl f x hx hs l tg xs htg hxs hl hls hws _ (fun _ _ h => by cases h) flatSt.none) st
theorem alphas_any (G : Gl gl) (T : Gt gl) (hgl : agedG gl) (f g : Fm) (x y : IV) (hx : IsFm f x) (hy : IsFm g y) (hs : f.size ≤ 1000) (hs' : g.size ≤ 1000) (st : ISt) :
    ICall prog gl 19 [x, y] st (fun r st' => r = .raw (.bool true) ∧ st' = st) :=
  any_state (alphas_c G T hgl f g x y hx hy hs hs' _ (fun _ _ h => by cases h) flatSt.none) st
theorem puts_one (G : Gl gl) (T : Gt gl) (hgl : agedG gl) (f : Fm) (x : IV) (hx : IsFm f x) (hs : f.size ≤ 1000) (o : ByteArray × Tm) (tg : Tag) (y : IV) (htg : okEs tg 4) (hy : IsOne o y) (ho : o.2.size ≤ 1000) (st : ISt) :
    ICall prog gl 17 [x, .sl tg [y]] st (fun r st' => r = .raw (.bool true) ∧ st' = st) :=
  puts_any G T hgl f x hx hs [o] tg [y] htg (IsOnes.one hy) (by simp) (fun p hp => by rw [List.mem_singleton] at hp; subst hp; exact ho) (by simp only [wS]; omega) st
theorem puts_two (G : Gl gl) (T : Gt gl) (hgl : agedG gl) (f : Fm) (x : IV) (hx : IsFm f x) (hs : f.size ≤ 1000) (o o' : ByteArray × Tm) (tg : Tag) (y y' : IV) (htg : okEs tg 4) (hy : IsOne o y) (hy' : IsOne o' y') (ho : o.2.size ≤ 1000) (ho' : o'.2.size ≤ 1000) (st : ISt) :
    ICall prog gl 17 [x, .sl tg [y, y']] st (fun r st' => r = .raw (.bool true) ∧ st' = st) :=
  puts_any G T hgl f x hx hs [o, o'] tg [y, y'] htg ⟨_, _, rfl, hy, _, _, rfl, hy', rfl⟩ (by simp) (fun p hp => by
    simp only [List.mem_cons, List.not_mem_nil, or_false] at hp
    rcases hp with rfl | rfl <;> assumption) (by simp only [wS]; omega) st

theorem quoN (c : Nat) (hc : c ≠ 0) (n : Nat) (hn : n ≤ 1000000000) (C : Int) (hC : C = c) : (if C = 0 then none else some (Value.int .i64 (IntKind.i64.wrap (((n : Nat) : Int).tdiv C)))) = some (Value.int .i64 ((n / c : Nat) : Int)) := by
  subst hC
  have h1 : ((n : Nat) : Int).tdiv (c : Int) = ((n / c : Nat) : Int) := rfl
  have h2 : n / c ≤ n := Nat.div_le_self _ _
  rw [if_neg (by omega), h1]
  generalize n / c = m at h2
  rw [w64 (by omega) (by omega)]
theorem remN (c : Nat) (hc : c ≠ 0) (n : Nat) (C : Int) (hC : C = c) : (if C = 0 then none else some (Value.int .i64 (((n : Nat) : Int).tmod C))) = some (Value.int .i64 ((n % c : Nat) : Int)) := by
  subst hC
  have h1 : ((n : Nat) : Int).tmod (c : Int) = ((n % c : Nat) : Int) := rfl
  rw [if_neg (by omega), h1]
theorem slc_es' {tg : Tag} {es a b c : Nat} (h1 : tg.es = es) : okEs (slcTag tg a b c none) es := by
  unfold slcTag
  split
  · exact .inr h1
  · simp only
    split
    · exact .inr h1
    · exact .inr h1
theorem slc_es {tg : Tag} {es a b c : Nat} (h : okEs tg es) : okEs (slcTag (reTag es tg) a b c none) es := slc_es' (reTag_es h)
theorem sliceI_to {k n : Nat} (h : k ≤ n) : sliceI none (some (k : Int)) n = some (0, k) := by
  unfold sliceI
  rw [if_pos]
  · simp
  · simp; omega
theorem IsTms.takes : ∀ {us : List Tm} {xs : List IV} (_ : IsTms us xs) (k : Nat), IsTms (us.take k) (xs.take k)
  | [], xs, h, k => by simp only [IsTms] at h; subst h; simp [IsTms]
  | a :: us, xs, h, 0 => by simp [IsTms]
  | a :: us, xs, h, k + 1 => by
    simp only [IsTms] at h
    obtain ⟨y, ys, rfl, hy, h⟩ := h
    exact ⟨y, ys.take k, rfl, hy, IsTms.takes h k⟩
theorem isV (s : ByteArray) : IsTm (.mk true s []) (.agg [.raw (.bool true), .raw (.string s), .sl ⟨true, .nil, 0⟩ []]) := ⟨_, [], rfl, .inl rfl, rfl⟩
theorem isC (s : ByteArray) {t : Tag} {us : List Tm} {xs : List IV} (ht : okEs t 3) (h : IsTms us xs) : IsTm (.mk false s us) (.agg [.raw (.bool false), .raw (.string s), .sl t xs]) := ⟨_, _, rfl, ht, h⟩
theorem isO (s : ByteArray) {t : Tm} {v : Bool} {n : ByteArray} {tg : Tag} {xs : List IV} (h : IsTm t (.agg [.raw (.bool v), .raw (.string n), .sl tg xs])) : IsOne (s, t) (.agg [.raw (.string s), .raw (.bool v), .raw (.string n), .sl tg xs]) := ⟨v, n, tg, xs, rfl, h⟩
theorem isF (op : Nat) (hop : op < 256) (s : ByteArray) {t : Tag} {sub : List Fm} {xs : List IV} (ht : okEs t 4) (h : IsFms sub xs) (o : Int) (ho : o = op) : IsFm (.mk op s [] sub) (.agg [.raw (.int .u8 o), .raw (.string s), .sl ⟨true, .nil, 0⟩ [], .sl t xs]) := by
  subst ho; exact ⟨_, _, _, _, rfl, hop, .inl rfl, rfl, ht, h⟩
theorem isP (s : ByteArray) {t : Tag} {us : List Tm} {xs : List IV} (ht : okEs t 3) (h : IsTms us xs) : IsFm (.mk 1 s us []) (.agg [.raw (.int .u8 1), .raw (.string s), .sl t xs, .sl ⟨true, .nil, 0⟩ []]) := ⟨_, _, _, _, rfl, by decide, ht, h, .inl rfl, rfl⟩
theorem two_le {a b : IV} {f g : Fm} (ha : IsFm f a) (hb : IsFm g b) : IsFms [f, g] [a, b] := ⟨_, _, rfl, ha, _, _, rfl, hb, rfl⟩
theorem twoT {a b : IV} {f g : Tm} (ha : IsTm f a) (hb : IsTm g b) : IsTms [f, g] [a, b] := ⟨_, _, rfl, ha, _, _, rfl, hb, rfl⟩
theorem inOrder_four (x y z w : Operand) : inOrder 4 [(0, x), (1, y), (2, z), (3, w)] = true := rfl
theorem isV0 (s : ByteArray) : IsTm (.mk false s []) (.agg [.raw (.bool false), .raw (.string s), .sl ⟨true, .nil, 0⟩ []]) := ⟨_, [], rfl, .inl rfl, rfl⟩
theorem threeT {a b c : IV} {f g h : Tm} (ha : IsTm f a) (hb : IsTm g b) (hc : IsTm h c) : IsTms [f, g, h] [a, b, c] := ⟨_, _, rfl, ha, twoT hb hc⟩
theorem fourT {a b c d : IV} {f g h i : Tm} (ha : IsTm f a) (hb : IsTm g b) (hc : IsTm h c) (hd : IsTm i d) : IsTms [f, g, h, i] [a, b, c, d] := ⟨_, _, rfl, ha, threeT hb hc hd⟩
theorem sizeTms_take : ∀ (l : List Tm) (k : Nat), sizeTms (l.take k) ≤ sizeTms l
  | [], k => by simp
  | a :: l, 0 => by simp [sizeTms]
  | a :: l, k + 1 => by have := sizeTms_take l k; simp only [List.take_succ_cons, sizeTms]; omega
theorem inOrder_seven (a b c d e f g : Operand) : inOrder 7 [(0, a), (1, b), (2, c), (3, d), (4, e), (5, f), (6, g)] = true := rfl
def bN : ByteArray := ⟨#[]⟩
def bA : ByteArray := ⟨#[97]⟩
def bF : ByteArray := ⟨#[102]⟩
def bB : ByteArray := ⟨#[98]⟩
def bC : ByteArray := ⟨#[99]⟩
def bD : ByteArray := ⟨#[100]⟩
def bT : ByteArray := ⟨#[63, 116]⟩
def oddO : Sb := [(bx, .mk false bA []), (bA, .mk false bA []), (by_, .mk false bx []), (bx, .mk true by_ []), (bT, .mk false bA []), (bz, .mk true bT []), (bN, .mk false bA [])]
variable (gl)
theorem limits_c (G : Gl gl) (T : Gt gl) (hgl : agedG gl) (st : ISt) :
    ICall prog gl 50 [] st (fun r st' => r = .raw (.bool true) ∧ st' = st) := by
  refine ICall.intro (c := cf prog gl [] [(5, [0, 2, 1, 3, 4, 5, 6, 7, 8, 9, 10, 12, 13, 14, 15, 16, 11, 17, 18, 19]), (25, [0, 6, 7, 1, 2, 3, 4, 5, 8, 9, 10, 11, 12, 13]), (35, [4, 5, 6, 7, 8, 9, 10, 11, 12, 13, 14, 15, 16, 17, 18, 0, 1, 2, 3, 19, 20])]) func50 rfl (by show _ ≤ 182; simp) (by kernel_rfl) ?_
  simp -implicitDefEqProofs -dsimp only [go_sem, ↓reduceIte, zE, zB, zA, zM, zS, zL, reduceCtorEq, fits]
  refine LoopC.ctr 13 (fun k fr st' ds => (∃ tg l, fr 1 = .iv (.sl tg (strI l)) ∧ okEs tg 1 ∧ l.length ≤ k ∧ subSt st st') ∧ fr 2 = .iv (.raw (.int .i64 k)) ∧ ds = []) ?_ ?_ ?_
  · simp -implicitDefEqProofs -dsimp only [go_sem, ↓reduceIte, zE, zB, zA, zM, zS, zL, reduceCtorEq]
    exact ⟨⟨_, [], rfl, .inl rfl, Nat.le_refl _, subSt.refl _⟩, rfl⟩
  · rintro k fr st1 _ hlt ⟨⟨tg, l, f1, htg, hll, hsub⟩, f2, rfl⟩
    have hd0 : (l.drop (l.length / 2)).take (l.length - l.length / 2) = l.drop (l.length / 2) := List.take_of_length_le (by rw [List.length_drop]; omega)
    have hk13 : decide ((k : Int) < 13) = true := decide_eq_true (by omega)
    simp -implicitDefEqProofs -dsimp only [go_sem, ↓reduceIte, zE, zB, zA, zM, zS, zL, reduceCtorEq, f1, f2, hk13]
    refine (Fresh_c gl T tg htg l (by omega) _).mono ?_
    rintro _ st1 ⟨rfl, rfl⟩
    simp -implicitDefEqProofs -dsimp only [go_sem, ↓reduceIte, zE, zB, zA, zM, zS, zL, reduceCtorEq, f1, f2]
    refine (rFresh_c gl tg htg l (by omega) _).mono ?_
    rintro _ st1 ⟨rfl, rfl⟩
    simp -implicitDefEqProofs -dsimp only [go_sem, ↓reduceIte, zE, zB, zA, zM, zS, zL, reduceCtorEq, f1, f2, decide_true, strI_length, quoN 2 (by decide) l.length (by omega) 2 rfl, sliceI_from (show l.length / 2 ≤ l.length by omega), reTag_es htg, strI_drop, strI_take, hd0]
    refine (Fresh_c gl T _ (slc_es htg) _ (by rw [List.length_drop]; omega) _).mono ?_
    rintro _ st1 ⟨rfl, rfl⟩
    simp -implicitDefEqProofs -dsimp only [go_sem, ↓reduceIte, zE, zB, zA, zM, zS, zL, reduceCtorEq, f1, f2, strI_length, quoN 2 (by decide) l.length (by omega) 2 rfl, sliceI_from (show l.length / 2 ≤ l.length by omega), reTag_es htg, strI_drop, strI_take, hd0]
    refine (rFresh_c gl _ (slc_es htg) _ (by rw [List.length_drop]; omega) _).mono ?_
    rintro _ st1 ⟨rfl, rfl⟩
    simp -implicitDefEqProofs -dsimp only [go_sem, ↓reduceIte, zE, zB, zA, zM, zS, zL, reduceCtorEq, f1, f2, decide_true]
    refine (rFresh_c gl tg htg l (by omega) _).mono ?_
    rintro _ st1 ⟨rfl, rfl⟩
    simp -implicitDefEqProofs -dsimp only [go_sem, ↓reduceIte, zE, zB, zA, zM, zS, zL, reduceCtorEq, f1, f2]
    refine appV_owns (s := 1) (S0 := st1) (own.full st1 st1 1 1) rfl (strI_length l) (subSt.refl st1) rfl (fits_strI l) (by simp only; omega) (by omega) fun tg2 st2 hown2 hsub2 _ => ?_
    simp -implicitDefEqProofs -dsimp only [go_sem, ↓reduceIte, zE, zB, zA, zM, zS, zL, reduceCtorEq, f1, f2, show IntKind.i64.wrap ((k : Int) + 1) = ((k + 1 : Nat) : Int) from by rw [w64] <;> omega]
    exact ⟨tg2, leastN l :: l, rfl, hown2.es, by simp; omega, hsub.trans hsub2⟩
  · rintro fr st1 _ ⟨⟨tg, l, f1, htg, hll, hsub⟩, f2, rfl⟩
    simp -implicitDefEqProofs -dsimp only [go_sem, ↓reduceIte, zE, zB, zA, zM, zS, zL, reduceCtorEq, f1, f2, show decide (((13 : Nat) : Int) < 13) = false from rfl]
    refine (v_x gl _ _).mono ?_
    rintro _ st1 ⟨rfl, rfl⟩
    simp -implicitDefEqProofs -dsimp only [go_sem, ↓reduceIte, zE, zB, zA, zM, zS, zL, reduceCtorEq, fits, bsize_mk, fits]
    refine (v_x gl _ _).mono ?_
    rintro _ st1 ⟨rfl, rfl⟩
    simp -implicitDefEqProofs -dsimp only [go_sem, ↓reduceIte, zE, zB, zA, zM, zS, zL, reduceCtorEq, fits, bsize_mk, fits]
    refine (p_x gl _ _ _ _).mono ?_
    rintro _ st1 ⟨rfl, rfl⟩
    simp -implicitDefEqProofs -dsimp only [go_sem, ↓reduceIte, zE, zB, zA, zM, zS, zL, reduceCtorEq, fits, bsize_mk, fits]
    refine (c_x gl _ _ _ _).mono ?_
    rintro _ st1 ⟨rfl, rfl⟩
    simp -implicitDefEqProofs -dsimp only [go_sem, ↓reduceIte, zE, zB, zA, zM, zS, zL, reduceCtorEq, fits, bsize_mk, fits]
    refine LoopC.ctr 40 (fun k fr st' ds => (∃ op n t x t' x' f v m tt xx u, fr 3 = .box [.raw (.int .u8 op), .raw (.string n), .sl t x, .sl t' x'] ∧ IsFm f (.agg [.raw (.int .u8 op), .raw (.string n), .sl t x, .sl t' x']) ∧ f.size ≤ 3 + k ∧
      fr 4 = .box [.raw (.bool v), .raw (.string m), .sl tt xx] ∧ IsTm u (.agg [.raw (.bool v), .raw (.string m), .sl tt xx]) ∧ u.size ≤ 1 + k) ∧ fr 5 = .iv (.raw (.int .i64 k)) ∧ st' = st1 ∧ ds = []) ?_ ?_ ?_
    · simp -implicitDefEqProofs -dsimp only [go_sem, ↓reduceIte, zE, zB, zA, zM, zS, zL, reduceCtorEq]
      exact ⟨⟨_, _, _, _, _, _, .mk 1 ⟨#[80]⟩ [.mk true bx [], .mk true bx []] [], _, _, _, _, .mk false bA [], rfl, isP _ (.inr rfl) (twoT (isV bx) (isV bx)), by simp [Fm.size, sizeTms, Tm.size, sizeFms], rfl, isC bA (.inl rfl) rfl, by simp [Tm.size, sizeTms]⟩, rfl⟩
    · rintro k fr st1 _ hlt ⟨⟨op, n, t, x, t', x', f, v, m, tt, xx, u, f3, hf, hfs, f4, hu, hus⟩, f5, rfl, rfl⟩
      simp -implicitDefEqProofs -dsimp only [go_sem, ↓reduceIte, zE, zB, zA, zM, zS, zL, reduceCtorEq, f3, f4, f5, show decide ((k : Int) < 40) = true from decide_eq_true (by omega), fits, bsize_mk]
      refine (puts_one G T hgl f _ hf (by omega) (bx, u) _ _ (.inr rfl) (isO bx hu) (by simp only; omega) _).mono ?_
      rintro _ st1 ⟨rfl, rfl⟩
      simp -implicitDefEqProofs -dsimp only [go_sem, ↓reduceIte, zE, zB, zA, zM, zS, zL, reduceCtorEq, f3, f4, f5, fits, bsize_mk]
      refine (of_x gl _ _ _ _ _).mono ?_
      rintro _ st1 ⟨rfl, rfl⟩
      simp -implicitDefEqProofs -dsimp only [go_sem, ↓reduceIte, zE, zB, zA, zM, zS, zL, reduceCtorEq, fits, bsize_mk, f3, f4, f5]
      refine (v_x gl _ _).mono ?_
      rintro _ st1 ⟨rfl, rfl⟩
      simp -implicitDefEqProofs -dsimp only [go_sem, ↓reduceIte, zE, zB, zA, zM, zS, zL, reduceCtorEq, fits, bsize_mk, f3, f4, f5]
      refine (c_x gl _ _ _ _).mono ?_
      rintro _ st1 ⟨rfl, rfl⟩
      simp -implicitDefEqProofs -dsimp only [go_sem, ↓reduceIte, zE, zB, zA, zM, zS, zL, reduceCtorEq, fits, bsize_mk, f3, f4, f5]
      refine (puts_one G T hgl (.mk 8 by_ [] [f]) _ (isF 8 (by decide) by_ (.inr rfl) (IsFms.one hf) _ rfl) (by simp only [Fm.size, sizeTms, sizeFms]; omega) (bx, .mk false bF [.mk true by_ []]) _ _ (.inr rfl) (isO bx (isC bF (.inr rfl) (IsTms.one (isV by_)))) (by simp [Tm.size, sizeTms]) _).mono ?_
      rintro _ st1 ⟨rfl, rfl⟩
      simp -implicitDefEqProofs -dsimp only [go_sem, ↓reduceIte, zE, zB, zA, zM, zS, zL, reduceCtorEq, f3, f4, f5, fits, bsize_mk]
      refine (of_x gl _ _ _ _ _).mono ?_
      rintro _ st1 ⟨rfl, rfl⟩
      simp -implicitDefEqProofs -dsimp only [go_sem, ↓reduceIte, zE, zB, zA, zM, zS, zL, reduceCtorEq, fits, bsize_mk, f3, f4, f5]
      simp -implicitDefEqProofs -dsimp only [go_sem, ↓reduceIte, zE, zB, zA, zM, zS, zL, reduceCtorEq, remN 2 (by decide) k 2 rfl]
      by_cases hk2 : k % 2 = 0
      · simp -implicitDefEqProofs -dsimp only [go_sem, ↓reduceIte, zE, zB, zA, zM, zS, zL, reduceCtorEq, show decide (((k % 2 : Nat) : Int) = 0) = true from decide_eq_true (by omega), f3, f4, f5, fits, bsize_mk]
        refine (c_x gl _ _ _ _).mono ?_
        rintro _ st1 ⟨rfl, rfl⟩
        simp -implicitDefEqProofs -dsimp only [go_sem, ↓reduceIte, zE, zB, zA, zM, zS, zL, reduceCtorEq, fits, bsize_mk, f3, f4, f5]
        simp -implicitDefEqProofs -dsimp only [go_sem, ↓reduceIte, zE, zB, zA, zM, zS, zL, reduceCtorEq, show IntKind.i64.wrap ((k : Int) + 1) = ((k + 1 : Nat) : Int) from by rw [w64] <;> omega]
        exact ⟨_, _, _, _, _, _, .mk 3 bN [] [f], _, _, _, _, .mk false bF [u], rfl, isF 3 (by decide) bN (.inr rfl) (IsFms.one hf) 3 rfl, by simp only [Fm.size, sizeTms, sizeFms]; omega, rfl, isC bF (.inr rfl) (IsTms.one hu), by simp only [Tm.size, sizeTms]; omega⟩
      · simp -implicitDefEqProofs -dsimp only [go_sem, ↓reduceIte, zE, zB, zA, zM, zS, zL, reduceCtorEq, show decide (((k % 2 : Nat) : Int) = 0) = false from decide_eq_false (by omega), f3, f4, f5, show IntKind.i64.wrap ((k : Int) + 1) = ((k + 1 : Nat) : Int) from by rw [w64] <;> omega]
        exact ⟨_, _, _, _, _, _, .mk 3 bN [] [f], _, _, _, _, u, rfl, isF 3 (by decide) bN (.inr rfl) (IsFms.one hf) 3 rfl, by simp only [Fm.size, sizeTms, sizeFms]; omega, rfl, hu, by omega⟩
    · rintro fr st1 _ ⟨⟨op, n, t, x, t', x', f, v, m, tt, xx, u, f3, hf, hfs, f4, hu, hus⟩, f5, rfl, rfl⟩
      simp -implicitDefEqProofs -dsimp only [go_sem, ↓reduceIte, zE, zB, zA, zM, zS, zL, reduceCtorEq, f5, show decide (((40 : Nat) : Int) < 40) = false from rfl]
      refine (v_x gl _ _).mono ?_
      rintro _ st1 ⟨rfl, rfl⟩
      simp -implicitDefEqProofs -dsimp only [go_sem, ↓reduceIte, zE, zB, zA, zM, zS, zL, reduceCtorEq, fits, bsize_mk, fits]
      refine (p_x gl _ _ _ _).mono ?_
      rintro _ st1 ⟨rfl, rfl⟩
      simp -implicitDefEqProofs -dsimp only [go_sem, ↓reduceIte, zE, zB, zA, zM, zS, zL, reduceCtorEq, fits, bsize_mk, fits]
      refine LoopC.ctr 6 (fun k fr st' ds => (∃ op n t x t' x' f, fr 6 = .box [.raw (.int .u8 op), .raw (.string n), .sl t x, .sl t' x'] ∧ IsFm f (.agg [.raw (.int .u8 op), .raw (.string n), .sl t x, .sl t' x']) ∧ f.size + 1 ≤ 3 * 2 ^ k) ∧ fr 7 = .iv (.raw (.int .i64 k)) ∧ st' = st1 ∧ ds = []) ?_ ?_ ?_
      · simp -implicitDefEqProofs -dsimp only [go_sem, ↓reduceIte, zE, zB, zA, zM, zS, zL, reduceCtorEq]
        exact ⟨⟨_, _, _, _, _, _, .mk 1 ⟨#[80]⟩ [.mk true bx []] [], rfl, isP _ (.inr rfl) (IsTms.one (isV bx)), by simp [Fm.size, sizeTms, Tm.size, sizeFms]⟩, rfl⟩
      · rintro k fr st1 _ hlt ⟨⟨op, n, t, x, t', x', f, f6, hf, hfs⟩, f7, rfl, rfl⟩
        simp -implicitDefEqProofs -dsimp only [go_sem, ↓reduceIte, zE, zB, zA, zM, zS, zL, reduceCtorEq, f6, f7, show decide ((k : Int) < 6) = true from decide_eq_true (by omega), fits, bsize_mk]
        refine (of_x gl _ _ _ _ _).mono ?_
        rintro _ st1 ⟨rfl, rfl⟩
        simp -implicitDefEqProofs -dsimp only [go_sem, ↓reduceIte, zE, zB, zA, zM, zS, zL, reduceCtorEq, fits, bsize_mk, f6, f7]
        simp -implicitDefEqProofs -dsimp only [go_sem, ↓reduceIte, zE, zB, zA, zM, zS, zL, reduceCtorEq, show IntKind.i64.wrap ((k : Int) + 1) = ((k + 1 : Nat) : Int) from by rw [w64] <;> omega]
        exact ⟨_, _, _, _, _, _, .mk 5 bN [] [f, f], rfl, isF 5 (by decide) bN (.inr rfl) (two_le hf hf) 5 rfl, by simp only [Fm.size, sizeTms, sizeFms, Nat.pow_succ]; omega⟩
      · rintro fr st1 _ ⟨⟨op, n, t, x, t', x', f, f6, hf, hfs⟩, f7, rfl, rfl⟩
        simp -implicitDefEqProofs -dsimp only [go_sem, ↓reduceIte, zE, zB, zA, zM, zS, zL, reduceCtorEq, f6, f7, show decide (((6 : Nat) : Int) < 6) = false from rfl]
        refine LoopC.ctr 13 (fun k fr st' ds => (∃ op n t x t' x' f, fr 6 = .box [.raw (.int .u8 op), .raw (.string n), .sl t x, .sl t' x'] ∧ IsFm f (.agg [.raw (.int .u8 op), .raw (.string n), .sl t x, .sl t' x']) ∧ f.size ≤ 191 + 2 * k) ∧ fr 8 = .iv (.raw (.int .i64 k)) ∧ st' = st1 ∧ ds = []) ?_ ?_ ?_
        · simp -implicitDefEqProofs -dsimp only [go_sem, ↓reduceIte, zE, zB, zA, zM, zS, zL, reduceCtorEq, f6]
          exact ⟨⟨_, _, _, _, _, _, f, rfl, hf, by omega⟩, rfl⟩
        · clear f6 f7 hf hfs
          rintro k fr st1 _ hlt ⟨⟨op, n, t, x, t', x', f, f6, hf, hfs⟩, f8, rfl, rfl⟩
          simp -implicitDefEqProofs -dsimp only [go_sem, ↓reduceIte, zE, zB, zA, zM, zS, zL, reduceCtorEq, f6, f8, show decide ((k : Int) < 13) = true from decide_eq_true (by omega), fits, bsize_mk]
          refine (c_x gl _ _ _ _).mono ?_
          rintro _ st1 ⟨rfl, rfl⟩
          simp -implicitDefEqProofs -dsimp only [go_sem, ↓reduceIte, zE, zB, zA, zM, zS, zL, reduceCtorEq, fits, bsize_mk, f6, f8]
          refine (c_x gl _ _ _ _).mono ?_
          rintro _ st1 ⟨rfl, rfl⟩
          simp -implicitDefEqProofs -dsimp only [go_sem, ↓reduceIte, zE, zB, zA, zM, zS, zL, reduceCtorEq, fits, bsize_mk, f6, f8]
          refine (c_x gl _ _ _ _).mono ?_
          rintro _ st1 ⟨rfl, rfl⟩
          simp -implicitDefEqProofs -dsimp only [go_sem, ↓reduceIte, zE, zB, zA, zM, zS, zL, reduceCtorEq, fits, bsize_mk, f6, f8]
          refine (c_x gl _ _ _ _).mono ?_
          rintro _ st1 ⟨rfl, rfl⟩
          simp -implicitDefEqProofs -dsimp only [go_sem, ↓reduceIte, zE, zB, zA, zM, zS, zL, reduceCtorEq, fits, bsize_mk, f6, f8, inOrder_four, remN 5 (by decide) k 5 rfl, show ((k : Int).tmod 5) = ((k % 5 : Nat) : Int) from rfl, sliceI_to (show k % 5 ≤ 4 by omega), Nat.sub_zero, List.drop_zero]
          have htk := IsTms.takes (fourT (isV0 bA) (isV0 bB) (isV0 bC) (isV0 bD)) (k % 5)
          refine (c_x gl _ _ _ _).mono ?_
          rintro _ st1 ⟨rfl, rfl⟩
          simp -implicitDefEqProofs -dsimp only [go_sem, ↓reduceIte, zE, zB, zA, zM, zS, zL, reduceCtorEq, fits, bsize_mk, f6, f8, inOrder_four]
          refine (puts_one G T hgl f _ hf (by omega) (bx, .mk false bF (List.take (k % 5) [.mk false bA [], .mk false bB [], .mk false bC [], .mk false bD []])) _ _ (.inr rfl) (isO bx (isC bF (slc_es' rfl) htk)) (by have hq := sizeTms_take [Tm.mk false bA [], Tm.mk false bB [], Tm.mk false bC [], Tm.mk false bD []] (k % 5); have hq2 : sizeTms [Tm.mk false bA [], Tm.mk false bB [], Tm.mk false bC [], Tm.mk false bD []] = 4 := rfl; simp only [Tm.size]; omega) _).mono ?_
          rintro _ st1 ⟨rfl, rfl⟩
          simp -implicitDefEqProofs -dsimp only [go_sem, ↓reduceIte, zE, zB, zA, zM, zS, zL, reduceCtorEq, f6, f8, fits, bsize_mk]
          refine (c_x gl _ _ _ _).mono ?_
          rintro _ st1 ⟨rfl, rfl⟩
          simp -implicitDefEqProofs -dsimp only [go_sem, ↓reduceIte, zE, zB, zA, zM, zS, zL, reduceCtorEq, fits, bsize_mk, f6, f8]
          refine (c_x gl _ _ _ _).mono ?_
          rintro _ st1 ⟨rfl, rfl⟩
          simp -implicitDefEqProofs -dsimp only [go_sem, ↓reduceIte, zE, zB, zA, zM, zS, zL, reduceCtorEq, fits, bsize_mk, f6, f8]
          refine (c_x gl _ _ _ _).mono ?_
          rintro _ st1 ⟨rfl, rfl⟩
          simp -implicitDefEqProofs -dsimp only [go_sem, ↓reduceIte, zE, zB, zA, zM, zS, zL, reduceCtorEq, fits, bsize_mk, f6, f8, inOrder_three]
          have hth := threeT (isV0 bA) (isV0 bB) (isV0 bC)
          refine (c_x gl _ _ _ _).mono ?_
          rintro _ st1 ⟨rfl, rfl⟩
          simp -implicitDefEqProofs -dsimp only [go_sem, ↓reduceIte, zE, zB, zA, zM, zS, zL, reduceCtorEq, fits, bsize_mk, f6, f8]
          by_cases hk8 : k = 8
          · simp -implicitDefEqProofs -dsimp only [go_sem, ↓reduceIte, zE, zB, zA, zM, zS, zL, reduceCtorEq, show decide ((k : Int) = 8) = true from decide_eq_true (by omega), f6, f8, fits, bsize_mk]
            refine (of_x gl _ _ _ _ _).mono ?_
            rintro _ st1 ⟨rfl, rfl⟩
            simp -implicitDefEqProofs -dsimp only [go_sem, ↓reduceIte, zE, zB, zA, zM, zS, zL, reduceCtorEq, fits, bsize_mk, f6, f8]
            refine (puts_one G T hgl (.mk 3 bN [] [f]) _ (isF 3 (by decide) bN (.inr rfl) (IsFms.one hf) 3 rfl) (by simp only [Fm.size, sizeTms, sizeFms]; omega) (bx, .mk false bF [.mk false bA [], .mk false bB [], .mk false bC []]) _ _ (.inr rfl) (isO bx (isC bF (.inr rfl) hth)) (by decide) _).mono ?_
            rintro _ st1 ⟨rfl, rfl⟩
            simp -implicitDefEqProofs -dsimp only [go_sem, ↓reduceIte, zE, zB, zA, zM, zS, zL, reduceCtorEq, f6, f8, fits, bsize_mk]
            refine (of_x gl _ _ _ _ _).mono ?_
            rintro _ st1 ⟨rfl, rfl⟩
            simp -implicitDefEqProofs -dsimp only [go_sem, ↓reduceIte, zE, zB, zA, zM, zS, zL, reduceCtorEq, fits, bsize_mk, f6, f8]
            refine (of_x gl _ _ _ _ _).mono ?_
            rintro _ st1 ⟨rfl, rfl⟩
            simp -implicitDefEqProofs -dsimp only [go_sem, ↓reduceIte, zE, zB, zA, zM, zS, zL, reduceCtorEq, fits, bsize_mk, f6, f8]
            refine (puts_one G T hgl (.mk 3 bN [] [.mk 3 bN [] [f]]) _ (isF 3 (by decide) bN (.inr rfl) (IsFms.one (isF 3 (by decide) bN (.inr rfl) (IsFms.one hf) 3 rfl)) 3 rfl) (by simp only [Fm.size, sizeTms, sizeFms]; omega) (bx, .mk false bF [.mk false bA [], .mk false bB [], .mk false bC []]) _ _ (.inr rfl) (isO bx (isC bF (.inr rfl) hth)) (by decide) _).mono ?_
            rintro _ st1 ⟨rfl, rfl⟩
            simp -implicitDefEqProofs -dsimp only [go_sem, ↓reduceIte, zE, zB, zA, zM, zS, zL, reduceCtorEq, f6, f8, fits, bsize_mk]
            refine (p_x gl _ _ _ _).mono ?_
            rintro _ st1 ⟨rfl, rfl⟩
            simp -implicitDefEqProofs -dsimp only [go_sem, ↓reduceIte, zE, zB, zA, zM, zS, zL, reduceCtorEq, fits, bsize_mk, f6, f8]
            refine (of_x gl _ _ _ _ _).mono ?_
            rintro _ st1 ⟨rfl, rfl⟩
            simp -implicitDefEqProofs -dsimp only [go_sem, ↓reduceIte, zE, zB, zA, zM, zS, zL, reduceCtorEq, fits, bsize_mk, f6, f8]
            simp -implicitDefEqProofs -dsimp only [go_sem, ↓reduceIte, zE, zB, zA, zM, zS, zL, reduceCtorEq, show IntKind.i64.wrap ((k : Int) + 1) = ((k + 1 : Nat) : Int) from by rw [w64] <;> omega]
            exact ⟨_, _, _, _, _, _, .mk 4 bN [] [f, .mk 1 ⟨#[81]⟩ [] []], rfl, isF 4 (by decide) bN (.inr rfl) (two_le hf (isP _ (us := []) (.inl rfl) rfl)) 4 rfl, by simp only [Fm.size, sizeTms, sizeFms]; omega⟩
          · simp -implicitDefEqProofs -dsimp only [go_sem, ↓reduceIte, zE, zB, zA, zM, zS, zL, reduceCtorEq, show decide ((k : Int) = 8) = false from decide_eq_false (by omega), f6, f8, fits, bsize_mk]
            refine (p_x gl _ _ _ _).mono ?_
            rintro _ st1 ⟨rfl, rfl⟩
            simp -implicitDefEqProofs -dsimp only [go_sem, ↓reduceIte, zE, zB, zA, zM, zS, zL, reduceCtorEq, fits, bsize_mk, f6, f8]
            refine (of_x gl _ _ _ _ _).mono ?_
            rintro _ st1 ⟨rfl, rfl⟩
            simp -implicitDefEqProofs -dsimp only [go_sem, ↓reduceIte, zE, zB, zA, zM, zS, zL, reduceCtorEq, fits, bsize_mk, f6, f8]
            simp -implicitDefEqProofs -dsimp only [go_sem, ↓reduceIte, zE, zB, zA, zM, zS, zL, reduceCtorEq, show IntKind.i64.wrap ((k : Int) + 1) = ((k + 1 : Nat) : Int) from by rw [w64] <;> omega]
            exact ⟨_, _, _, _, _, _, .mk 4 bN [] [f, .mk 1 ⟨#[81]⟩ [] []], rfl, isF 4 (by decide) bN (.inr rfl) (two_le hf (isP _ (us := []) (.inl rfl) rfl)) 4 rfl, by simp only [Fm.size, sizeTms, sizeFms]; omega⟩
        · clear f6 f7 hf hfs
          rintro fr st1 _ ⟨⟨op, n, t, x, t', x', f, f6, hf, hfs⟩, f8, rfl, rfl⟩
          simp -implicitDefEqProofs -dsimp only [go_sem, ↓reduceIte, zE, zB, zA, zM, zS, zL, reduceCtorEq, f8, show decide (((13 : Nat) : Int) < 13) = false from rfl]
          refine (c_x gl _ _ _ _).mono ?_
          rintro _ st1 ⟨rfl, rfl⟩
          simp -implicitDefEqProofs -dsimp only [go_sem, ↓reduceIte, zE, zB, zA, zM, zS, zL, reduceCtorEq, fits, bsize_mk, fits]
          refine (c_x gl _ _ _ _).mono ?_
          rintro _ st1 ⟨rfl, rfl⟩
          simp -implicitDefEqProofs -dsimp only [go_sem, ↓reduceIte, zE, zB, zA, zM, zS, zL, reduceCtorEq, fits, bsize_mk, fits]
          refine (c_x gl _ _ _ _).mono ?_
          rintro _ st1 ⟨rfl, rfl⟩
          simp -implicitDefEqProofs -dsimp only [go_sem, ↓reduceIte, zE, zB, zA, zM, zS, zL, reduceCtorEq, fits, bsize_mk, fits]
          refine (v_x gl _ _).mono ?_
          rintro _ st1 ⟨rfl, rfl⟩
          simp -implicitDefEqProofs -dsimp only [go_sem, ↓reduceIte, zE, zB, zA, zM, zS, zL, reduceCtorEq, fits, bsize_mk, fits]
          refine (c_x gl _ _ _ _).mono ?_
          rintro _ st1 ⟨rfl, rfl⟩
          simp -implicitDefEqProofs -dsimp only [go_sem, ↓reduceIte, zE, zB, zA, zM, zS, zL, reduceCtorEq, fits, bsize_mk, fits]
          refine (v_x gl _ _).mono ?_
          rintro _ st1 ⟨rfl, rfl⟩
          simp -implicitDefEqProofs -dsimp only [go_sem, ↓reduceIte, zE, zB, zA, zM, zS, zL, reduceCtorEq, fits, bsize_mk, fits]
          refine (c_x gl _ _ _ _).mono ?_
          rintro _ st1 ⟨rfl, rfl⟩
          simp -implicitDefEqProofs -dsimp only [go_sem, ↓reduceIte, zE, zB, zA, zM, zS, zL, reduceCtorEq, fits, bsize_mk, inOrder_seven]
          refine LoopC.ctr 49 (fun k fr st' ds => (∃ ys, fr 10 = .iv (.sl ⟨true, .full, 4⟩ ys) ∧ IsOnes oddO ys) ∧ fr 11 = .iv (.raw (.int .i64 k)) ∧ st' = st1 ∧ ds = []) ?_ ?_ ?_
          · simp -implicitDefEqProofs -dsimp only [go_sem, ↓reduceIte, zE, zB, zA, zM, zS, zL, reduceCtorEq]
            exact ⟨⟨_, rfl, _, _, rfl, isO _ (isV0 _), _, _, rfl, isO _ (isV0 _), _, _, rfl, isO _ (isV0 _), _, _, rfl, isO _ (isV _), _, _, rfl, isO _ (isV0 _), _, _, rfl, isO _ (isV _), _, _, rfl, isO _ (isV0 _), rfl⟩, rfl⟩
          · rintro k fr st1 _ hlt ⟨⟨ys, f10, hys⟩, f11, rfl, rfl⟩
            have hl7 : ys.length = 7 := hys.len
            have hos : ∀ p ∈ oddO, p.2.size ≤ 1000 := by decide
            have hw49 : IntKind.i64.wrap (((7 : Nat) : Int) * ((7 : Nat) : Int)) = 49 := by decide
            obtain ⟨o, ho⟩ := get_of_lt (show k % 7 < oddO.length from Nat.mod_lt _ (by decide))
            obtain ⟨o', ho'⟩ := get_of_lt (show k / 7 < oddO.length from (Nat.div_lt_iff_lt_mul (by decide)).2 hlt)
            obtain ⟨y, hy, hoy⟩ := hys.get ho
            obtain ⟨y', hy', hoy'⟩ := hys.get ho'
            obtain ⟨v1, n1, t1, x1, rfl, q1⟩ := id hoy
            obtain ⟨v2, n2, t2, x2, rfl, q2⟩ := id hoy'
            simp -implicitDefEqProofs -dsimp only [go_sem, ↓reduceIte, zE, zB, zA, zM, zS, zL, reduceCtorEq, f10, f11, hl7, hw49, show decide ((k : Int) < 49) = true from decide_eq_true (by omega), fits, bsize_mk, show (((7 : Nat) : Int) = 0) = False from eq_false (by decide), if_false, ite_false, show ((k : Int).tdiv ((7 : Nat) : Int)) = ((k / 7 : Nat) : Int) from rfl, show IntKind.i64.wrap ((k / 7 : Nat) : Int) = ((k / 7 : Nat) : Int) from by rw [w64] <;> omega, show ((k : Int).tmod ((7 : Nat) : Int)) = ((k % 7 : Nat) : Int) from rfl, Int.natCast_nonneg, hy, hy', reTag_es (show okEs ⟨true, .full, 4⟩ 4 from .inr rfl)]
            refine (v_x gl _ _).mono ?_
            rintro _ st1 ⟨rfl, rfl⟩
            simp -implicitDefEqProofs -dsimp only [go_sem, ↓reduceIte, zE, zB, zA, zM, zS, zL, reduceCtorEq, fits, bsize_mk, f10, f11]
            refine (v_x gl _ _).mono ?_
            rintro _ st1 ⟨rfl, rfl⟩
            simp -implicitDefEqProofs -dsimp only [go_sem, ↓reduceIte, zE, zB, zA, zM, zS, zL, reduceCtorEq, fits, bsize_mk, f10, f11]
            refine (p_x gl _ _ _ _).mono ?_
            rintro _ st1 ⟨rfl, rfl⟩
            simp -implicitDefEqProofs -dsimp only [go_sem, ↓reduceIte, zE, zB, zA, zM, zS, zL, reduceCtorEq, fits, bsize_mk, f10, f11, hl7]
            refine (puts_two G T hgl (.mk 1 ⟨#[80]⟩ [.mk true bx [], .mk true by_ []] []) _ (isP _ (.inr rfl) (twoT (isV bx) (isV by_))) (by decide) o o' _ _ _ (.inr rfl) hoy hoy' (hos o (List.mem_of_getElem? ho)) (hos o' (List.mem_of_getElem? ho')) _).mono ?_
            rintro _ st1 ⟨rfl, rfl⟩
            simp -implicitDefEqProofs -dsimp only [go_sem, ↓reduceIte, zE, zB, zA, zM, zS, zL, reduceCtorEq, f10, f11, show IntKind.i64.wrap ((k : Int) + 1) = ((k + 1 : Nat) : Int) from by rw [w64] <;> omega]
            exact ⟨ys, rfl, hys⟩
          · rintro fr st1 _ ⟨⟨ys, f10, hys⟩, f11, rfl, rfl⟩
            have hl7 : ys.length = 7 := hys.len
            have hw49 : IntKind.i64.wrap (((7 : Nat) : Int) * ((7 : Nat) : Int)) = 49 := by decide
            simp -implicitDefEqProofs -dsimp only [go_sem, ↓reduceIte, zE, zB, zA, zM, zS, zL, reduceCtorEq, f10, f11, hl7, hw49, show decide (((49 : Nat) : Int) < 49) = false from rfl]
            exact outK_sub hsub ⟨rfl, rfl⟩
end Go.Proofs.Tryz

namespace Go.Proofs.Tryz
open Go Go.Iv
set_option maxRecDepth 4000
variable (gl : Nat → Option IV)

theorem names5 (ns : List ByteArray) (h : ns.length = 5) (hb : ∀ n ∈ ns, n.size ≤ 2) (j : Nat) (hj : j < 5) : ∃ n : ByteArray, (strI ns)[j]? = some (.raw (.string n)) ∧ n.size ≤ 2 := by
  obtain ⟨n, hn⟩ := get_of_lt (l := ns) (show j < ns.length by omega)
  exact ⟨n, strI_get hn, hb n (List.mem_of_getElem? hn)⟩
theorem inOrder_five (a b c d e : Operand) : inOrder 5 [(0, a), (1, b), (2, c), (3, d), (4, e)] = true := rfl
theorem terms5 (us : List Tm) (ys : List IV) (hy : IsTms us ys) (h : us.length = 5) (hb : ∀ n ∈ us, n.size ≤ 10) (j : Nat) (hj : j < 5) : ∃ v m t xs, ys[j]? = some (.agg [.raw (.bool v), .raw (.string m), .sl t xs]) ∧ ∃ u : Tm, IsTm u (.agg [.raw (.bool v), .raw (.string m), .sl t xs]) ∧ u.size ≤ 10 := by
  obtain ⟨u, hu⟩ := get_of_lt (l := us) (show j < us.length by omega)
  obtain ⟨y, hk, hx⟩ := hy.get hu
  obtain ⟨v, m, l⟩ := u
  obtain ⟨t, xs, rfl, _, _⟩ := hx.mk
  exact ⟨v, m, t, xs, hk, _, hx, hb _ (List.mem_of_getElem? hu)⟩
theorem quants (k : Nat) : ∃ q : Nat, q < 256 ∧ ([IV.raw (.int .u8 8), IV.raw (.int .u8 9)] : List IV)[k % 2]? = some (.raw (.int .u8 (q : Int))) := by
  by_cases h : k % 2 = 0
  · exact ⟨8, by decide, by rw [h]; rfl⟩
  · exact ⟨9, by decide, by rw [show k % 2 = 1 by omega]; rfl⟩
theorem td5 (k : Nat) : ((k : Nat) : Int).tdiv 5 = ((k / 5 : Nat) : Int) := rfl
theorem td25 (k : Nat) : ((k : Nat) : Int).tdiv 25 = ((k / 25 : Nat) : Int) := rfl
theorem td125 (k : Nat) : ((k : Nat) : Int).tdiv 125 = ((k / 125 : Nat) : Int) := rfl
theorem td625 (k : Nat) : ((k : Nat) : Int).tdiv 625 = ((k / 625 : Nat) : Int) := rfl
theorem tm2 (k : Nat) : ((k : Nat) : Int).tmod 2 = ((k % 2 : Nat) : Int) := rfl
theorem tm5 (k : Nat) : ((k : Nat) : Int).tmod 5 = ((k % 5 : Nat) : Int) := rfl
theorem tm37 (k : Nat) : ((k : Nat) : Int).tmod 37 = ((k % 37 : Nat) : Int) := rfl
theorem z2 : ((2 : Int) = 0) = False := eq_false (by decide)
theorem z5 : ((5 : Int) = 0) = False := eq_false (by decide)
theorem z25 : ((25 : Int) = 0) = False := eq_false (by decide)
theorem z37 : ((37 : Int) = 0) = False := eq_false (by decide)
theorem z125 : ((125 : Int) = 0) = False := eq_false (by decide)
theorem z625 : ((625 : Int) = 0) = False := eq_false (by decide)
def nms : List ByteArray := [bx, by_, ⟨#[120, 49]⟩, ⟨#[120, 50]⟩, bz]
def bG : ByteArray := ⟨#[103]⟩
def tms : List Tm := [.mk true bx [], .mk true bx1 [], .mk false bF [.mk true by_ [], .mk true bx2 []], .mk false bA [], .mk false bG [.mk false bF [.mk true bx1 [], .mk true bx []]]]
attribute [local go_sem] inOrder_one inOrder_two td5 td25 td125 td625 tm5 tm2 tm37 z5 z25 z125 z625 z2 z37
theorem SubstSmall_c (G : Gl gl) (T : Gt gl) (hgl : agedG gl) (st : ISt) :
    ICall prog gl 14 [] st (fun r st' => r = .raw (.bool true) ∧ st' = st) := by
  refine ICall.intro (c := cf prog gl [] [(7, [0, 1, 2, 3, 4, 6, 7, 8, 9, 10, 11, 13, 14, 15, 16, 17, 18, 24, 5, 12, 19, 20, 21, 22, 23, 25]), (8, [0, 1, 2, 3, 4, 5, 6, 7, 8, 9, 10, 11, 12, 13, 14, 15, 16, 17, 21, 18, 19, 20, 22]), (9, [0, 1, 2, 3, 4, 5, 6, 7, 8, 14, 9, 10, 11, 12, 13, 15])]) func14 rfl (by show _ ≤ 177; simp) (by kernel_rfl) ?_
  simp -implicitDefEqProofs -dsimp only [go_sem, ↓reduceIte, zE, zB, zA, zM, zS, zL, reduceCtorEq, fits, bsize_mk, inOrder_five]
  refine (v_x gl _ _).mono ?_
  rintro _ st1 ⟨rfl, rfl⟩
  simp -implicitDefEqProofs -dsimp only [go_sem, ↓reduceIte, zE, zB, zA, zM, zS, zL, reduceCtorEq, fits, bsize_mk, fits]
  refine (v_x gl _ _).mono ?_
  rintro _ st1 ⟨rfl, rfl⟩
  simp -implicitDefEqProofs -dsimp only [go_sem, ↓reduceIte, zE, zB, zA, zM, zS, zL, reduceCtorEq, fits, bsize_mk, fits]
  refine (v_x gl _ _).mono ?_
  rintro _ st1 ⟨rfl, rfl⟩
  simp -implicitDefEqProofs -dsimp only [go_sem, ↓reduceIte, zE, zB, zA, zM, zS, zL, reduceCtorEq, fits, bsize_mk, fits]
  refine (v_x gl _ _).mono ?_
  rintro _ st1 ⟨rfl, rfl⟩
  simp -implicitDefEqProofs -dsimp only [go_sem, ↓reduceIte, zE, zB, zA, zM, zS, zL, reduceCtorEq, fits, bsize_mk, fits]
  refine (c_x gl _ _ _ _).mono ?_
  rintro _ st1 ⟨rfl, rfl⟩
  simp -implicitDefEqProofs -dsimp only [go_sem, ↓reduceIte, zE, zB, zA, zM, zS, zL, reduceCtorEq, fits, bsize_mk, fits]
  refine (c_x gl _ _ _ _).mono ?_
  rintro _ st1 ⟨rfl, rfl⟩
  simp -implicitDefEqProofs -dsimp only [go_sem, ↓reduceIte, zE, zB, zA, zM, zS, zL, reduceCtorEq, fits, bsize_mk, fits]
  refine (v_x gl _ _).mono ?_
  rintro _ st1 ⟨rfl, rfl⟩
  simp -implicitDefEqProofs -dsimp only [go_sem, ↓reduceIte, zE, zB, zA, zM, zS, zL, reduceCtorEq, fits, bsize_mk, fits]
  refine (v_x gl _ _).mono ?_
  rintro _ st1 ⟨rfl, rfl⟩
  simp -implicitDefEqProofs -dsimp only [go_sem, ↓reduceIte, zE, zB, zA, zM, zS, zL, reduceCtorEq, fits, bsize_mk, fits]
  refine (c_x gl _ _ _ _).mono ?_
  rintro _ st1 ⟨rfl, rfl⟩
  simp -implicitDefEqProofs -dsimp only [go_sem, ↓reduceIte, zE, zB, zA, zM, zS, zL, reduceCtorEq, fits, bsize_mk, fits]
  refine (c_x gl _ _ _ _).mono ?_
  rintro _ st1 ⟨rfl, rfl⟩
  simp -implicitDefEqProofs -dsimp only [go_sem, ↓reduceIte, zE, zB, zA, zM, zS, zL, reduceCtorEq, fits, bsize_mk, inOrder_five]
  refine LoopC.ctr 3125 (fun k fr st' ds => (∃ fs tg xs, fr 3 = .iv (.sl tg xs) ∧ IsFms fs xs ∧ (∀ f ∈ fs, f.size ≤ 1000) ∧ own st' tg fs.length 4 st1 ∧ subSt st1 st' ∧ fs.length ≤ 2 * k) ∧
    (∃ ns, fr 1 = .iv (.sl ⟨true, .full, 1⟩ (strI ns)) ∧ ns.length = 5 ∧ ∀ n ∈ ns, n.size ≤ 2) ∧ (∃ us ys, fr 2 = .iv (.sl ⟨true, .full, 3⟩ ys) ∧ IsTms us ys ∧ us.length = 5 ∧ ∀ u ∈ us, u.size ≤ 10) ∧ fr 4 = .iv (.raw (.int .i64 k)) ∧ ds = []) ?_ ?_ ?_
  · simp -implicitDefEqProofs -dsimp only [go_sem, ↓reduceIte, zE, zB, zA, zM, zS, zL, reduceCtorEq]
    exact ⟨⟨[], _, [], rfl, rfl, fun _ h => (List.not_mem_nil h).elim, own.nil _ _ _ _ _, subSt.refl _, Nat.le_refl _⟩, ⟨nms, rfl, rfl, by decide⟩, ⟨tms, _, rfl, ⟨_, _, rfl, isV _, _, _, rfl, isV _, _, _, rfl, isC bF (.inr rfl) (twoT (isV _) (isV _)), _, _, rfl, isV0 _, _, _, rfl, isC bG (.inr rfl) (IsTms.one (isC bF (.inr rfl) (twoT (isV _) (isV _)))), rfl⟩, rfl, by decide⟩, rfl⟩
  · rintro k fr st1 _ hlt ⟨⟨fs, tg, xs, f3, hfs, hsz, hown, hsub, hfl⟩, ⟨ns, f1, hnl, hnb⟩, ⟨us, ys, f2, hys, hul, hub⟩, f4, rfl⟩
    have hyl : ys.length = 5 := by rw [hys.len]; exact hul
    have hsl : (strI ns).length = 5 := by rw [strI_length]; exact hnl
    obtain ⟨n1, g1, m1⟩ := names5 ns hnl hnb (k % 5) (by omega)
    obtain ⟨n2, g2, m2⟩ := names5 ns hnl hnb (k / 5 % 5) (by omega)
    obtain ⟨n3, g3, m3⟩ := names5 ns hnl hnb (k / 25 % 5) (by omega)
    obtain ⟨n4, g4, m4⟩ := names5 ns hnl hnb (k / 125 % 5) (by omega)
    obtain ⟨n5, g5, m5⟩ := names5 ns hnl hnb (k / 625) (by omega)
    obtain ⟨v1, a1, t1, x1, e1, u1, hu1, hus1⟩ := terms5 us ys hys hul hub (k % 5) (by omega)
    obtain ⟨v2, a2, t2, x2, e2, u2, hu2, hus2⟩ := terms5 us ys hys hul hub (k / 125 % 5) (by omega)
    obtain ⟨v3, a3, t3, x3, e3, u3, hu3, hus3⟩ := terms5 us ys hys hul hub ((k + 2) % 5) (by omega)
    obtain ⟨q, hqb, hq⟩ := quants k
    have hw : ∀ c : Nat, IntKind.i64.wrap ((k / c : Nat) : Int) = ((k / c : Nat) : Int) := fun c => by
      have : k / c ≤ k := Nat.div_le_self _ _
      generalize k / c = m at this ⊢
      rw [w64] <;> omega
    simp -implicitDefEqProofs -dsimp only [go_sem, ↓reduceIte, zE, zB, zA, zM, zS, zL, reduceCtorEq, f1, f2, f3, f4, show decide ((k : Int) < 3125) = true from decide_eq_true (by omega), fits, bsize_mk, hw, Int.natCast_nonneg, hsl, hyl, g1, g2, g3, g4, g5]
    refine (v_x gl _ _).mono ?_
    rintro _ st1 ⟨rfl, rfl⟩
    simp -implicitDefEqProofs -dsimp only [go_sem, ↓reduceIte, zE, zB, zA, zM, zS, zL, reduceCtorEq, fits, bsize_mk, f1, f4]
    refine (v_x gl _ _).mono ?_
    rintro _ st1 ⟨rfl, rfl⟩
    simp -implicitDefEqProofs -dsimp only [go_sem, ↓reduceIte, zE, zB, zA, zM, zS, zL, reduceCtorEq, fits, bsize_mk, f1, f4]
    refine (v_x gl _ _).mono ?_
    rintro _ st1 ⟨rfl, rfl⟩
    simp -implicitDefEqProofs -dsimp only [go_sem, ↓reduceIte, zE, zB, zA, zM, zS, zL, reduceCtorEq, fits, bsize_mk, f1, f4]
    refine (c_x gl _ _ _ _).mono ?_
    rintro _ st1 ⟨rfl, rfl⟩
    simp -implicitDefEqProofs -dsimp only [go_sem, ↓reduceIte, zE, zB, zA, zM, zS, zL, reduceCtorEq, fits, bsize_mk, f1, f4]
    refine (p_x gl _ _ _ _).mono ?_
    rintro _ st1 ⟨rfl, rfl⟩
    simp -implicitDefEqProofs -dsimp only [go_sem, ↓reduceIte, zE, zB, zA, zM, zS, zL, reduceCtorEq, fits, bsize_mk, f1, f2, f3, f4, hw, Int.natCast_nonneg, hsl, hyl, g1, g2, g3, g4, g5, hq]
    refine (of_x gl _ _ _ _ _).mono ?_
    rintro _ st1 ⟨rfl, rfl⟩
    simp -implicitDefEqProofs -dsimp only [go_sem, ↓reduceIte, zE, zB, zA, zM, zS, zL, reduceCtorEq, fits, bsize_mk, f1, f2, f3, f4, hw, Int.natCast_nonneg, hsl, hyl, g1, g2, g3, g4, g5]
    refine (of_x gl _ _ _ _ _).mono ?_
    rintro _ st1 ⟨rfl, rfl⟩
    simp -implicitDefEqProofs -dsimp only [go_sem, ↓reduceIte, zE, zB, zA, zM, zS, zL, reduceCtorEq, fits, bsize_mk, f1, f2, f3, f4, hw, Int.natCast_nonneg, hsl, hyl, g1, g2, g3, g4, g5]
    refine (of_x gl _ _ _ _ _).mono ?_
    rintro _ st1 ⟨rfl, rfl⟩
    simp -implicitDefEqProofs -dsimp only [go_sem, ↓reduceIte, zE, zB, zA, zM, zS, zL, reduceCtorEq, fits, bsize_mk, f1, f2, f3, f4, hw, Int.natCast_nonneg, hsl, hyl, g1, g2, g3, g4, g5]
    refine (of_x gl _ _ _ _ _).mono ?_
    rintro _ st1 ⟨rfl, rfl⟩
    simp -implicitDefEqProofs -dsimp only [go_sem, ↓reduceIte, zE, zB, zA, zM, zS, zL, reduceCtorEq, fits, bsize_mk, f1, f2, f3, f4, hw, Int.natCast_nonneg, hsl, hyl, g1, g2, g3, g4, g5]
    refine (of_x gl _ _ _ _ _).mono ?_
    rintro _ st1 ⟨rfl, rfl⟩
    simp -implicitDefEqProofs -dsimp only [go_sem, ↓reduceIte, zE, zB, zA, zM, zS, zL, reduceCtorEq, fits, bsize_mk, f1, f2, f3, f4, hw, Int.natCast_nonneg, hsl, hyl, g1, g2, g3, g4, g5]
    have hS : IsFm (.mk 1 ⟨#[82]⟩ [.mk true n1 [], .mk false bF [.mk true n2 [], .mk true n3 []]] []) _ := isP _ (t := ⟨true, .full, 3⟩) (.inr rfl) (twoT (isV n1) (isC bF (t := ⟨true, .full, 3⟩) (.inr rfl) (twoT (isV n2) (isV n3))))
    have hD := isF q hqb n4 (t := ⟨true, .full, 4⟩) (.inr rfl) (IsFms.one (isF 9 (by decide) n5 (t := ⟨true, .full, 4⟩) (.inr rfl) (IsFms.one hS) 9 rfl)) q rfl
    have hU := isF 6 (by decide) bN (t := ⟨true, .full, 4⟩) (.inr rfl) (two_le hD (isF 8 (by decide) n1 (t := ⟨true, .full, 4⟩) (.inr rfl) (IsFms.one (isF 4 (by decide) bN (t := ⟨true, .full, 4⟩) (.inr rfl) (two_le hS hD) 4 rfl)) 8 rfl)) 6 rfl
    have i1 : bF.size = 1 := rfl
    have i2 : bN.size = 0 := rfl
    have i3 : ByteArray.size ⟨#[82]⟩ = 1 := rfl
    refine (asks_c gl _ _ hU (by simp only [bulkF, bulkFs, bulkT, bulkTs]; omega) _).mono ?_
    rintro _ st1 ⟨rfl, rfl⟩
    simp -implicitDefEqProofs -dsimp only [go_sem, ↓reduceIte, zE, zB, zA, zM, zS, zL, reduceCtorEq, f1, f2, f3, f4, hw, Int.natCast_nonneg, hsl, hyl, g1, g2, g3, g4, g5, e1, e2, fits, bsize_mk]
    have hDs : ∀ (c : Nat), (Fm.mk q n4 [] [.mk 9 n5 [] [.mk 1 ⟨#[82]⟩ [.mk true n1 [], .mk false bF [.mk true n2 [], .mk true n3 []]] []]]).size = 7 := fun _ => by simp only [Fm.size, sizeTms, Tm.size, sizeFms]
    have hUs : (Fm.mk 6 bN [] [.mk q n4 [] [.mk 9 n5 [] [.mk 1 ⟨#[82]⟩ [.mk true n1 [], .mk false bF [.mk true n2 [], .mk true n3 []]] []]], .mk 8 n1 [] [.mk 4 bN [] [.mk 1 ⟨#[82]⟩ [.mk true n1 [], .mk false bF [.mk true n2 [], .mk true n3 []]] [], .mk q n4 [] [.mk 9 n5 [] [.mk 1 ⟨#[82]⟩ [.mk true n1 [], .mk false bF [.mk true n2 [], .mk true n3 []]] []]]]]]).size ≤ 1000 := by simp only [Fm.size, sizeTms, Tm.size, sizeFms]; omega
    refine (puts_two G T hgl _ _ hD (by rw [hDs 0]; omega) (n2, u1) (n3, u2) _ _ _ (.inr rfl) (isO n2 hu1) (isO n3 hu2) (by simp only; omega) (by simp only; omega) _).mono ?_
    rintro _ st1 ⟨rfl, rfl⟩
    have hw2 : IntKind.i64.wrap ((k : Int) + 2) = ((k + 2 : Nat) : Int) := by rw [w64] <;> omega
    simp -implicitDefEqProofs -dsimp only [go_sem, ↓reduceIte, zE, zB, zA, zM, zS, zL, reduceCtorEq, f1, f2, f3, f4, hw, Int.natCast_nonneg, hsl, hyl, g1, g2, g3, g4, g5, e3, hw2, fits, bsize_mk]
    refine (puts_one G T hgl _ _ hU hUs (n3, u3) _ _ (.inr rfl) (isO n3 hu3) (by simp only; omega) _).mono ?_
    rintro _ st1 ⟨rfl, rfl⟩
    simp -implicitDefEqProofs -dsimp only [go_sem, ↓reduceIte, zE, zB, zA, zM, zS, zL, reduceCtorEq, f1, f2, f3, f4]
    have hw1 : IntKind.i64.wrap ((k : Int) + 1) = ((k + 1 : Nat) : Int) := by rw [w64] <;> omega
    by_cases hk : k % 37 = 0
    · simp -implicitDefEqProofs -dsimp only [go_sem, ↓reduceIte, zE, zB, zA, zM, zS, zL, reduceCtorEq, f1, f2, f3, f4, show decide (((k % 37 : Nat) : Int) = 0) = true from decide_eq_true (by omega), fits, bsize_mk]
      refine appV_owns hown hfs.len (show List.length [_, _] = 2 from rfl) hsub rfl (by simp [fits, IV.one]) (by simp only; omega) (by omega) fun tg2 st2 hown2 hsub2 _ => ?_
      simp -implicitDefEqProofs -dsimp only [go_sem, ↓reduceIte, zE, zB, zA, zM, zS, zL, reduceCtorEq, f1, f2, f3, f4, hw1]
      refine ⟨⟨fs ++ [_, _], tg2, _, rfl, hfs.append (two_le hD hU), fun f hf => ?_, by rw [List.length_append]; exact hown2, hsub2, by rw [List.length_append]; simp only [List.length_cons, List.length_nil]; omega⟩, ⟨ns, rfl, hnl, hnb⟩, us, ys, rfl, hys, hul, hub⟩
      rcases List.mem_append.1 hf with h | h
      · exact hsz f h
      · simp only [List.mem_cons, List.not_mem_nil, or_false] at h
        rcases h with rfl | rfl
        · rw [hDs 0]; omega
        · exact hUs
    · simp -implicitDefEqProofs -dsimp only [go_sem, ↓reduceIte, zE, zB, zA, zM, zS, zL, reduceCtorEq, f1, f2, f3, f4, show decide (((k % 37 : Nat) : Int) = 0) = false from decide_eq_false (by omega), hw1]
      exact ⟨⟨fs, tg, xs, rfl, hfs, hsz, hown, hsub, by omega⟩, ⟨ns, rfl, hnl, hnb⟩, us, ys, rfl, hys, hul, hub⟩
  · rintro fr st2 _ ⟨⟨fs, tg, xs, f3, hfs, hsz, hown, hsub, hfl⟩, _, _, f4, rfl⟩
    simp -implicitDefEqProofs -dsimp only [go_sem, ↓reduceIte, zE, zB, zA, zM, zS, zL, reduceCtorEq, f3, f4, show decide (((3125 : Nat) : Int) < 3125) = false from rfl]
    have hmm : fs.length * fs.length ≤ 6250 * 6250 := Nat.mul_le_mul (by omega) (by omega)
    have hmul : IntKind.i64.wrap (((fs.length : Nat) : Int) * ((fs.length : Nat) : Int)) = ((fs.length * fs.length : Nat) : Int) := by
      rw [← Int.natCast_mul]
      generalize fs.length * fs.length = m at hmm ⊢
      rw [w64] <;> omega
    have hxl : xs.length = fs.length := hfs.len
    refine LoopC.ctr (fs.length * fs.length) (fun k fr st' ds => fr 3 = .iv (.sl tg xs) ∧ fr 8 = .iv (.raw (.int .i64 k)) ∧ st' = st2 ∧ ds = []) ?_ ?_ ?_
    · simp -implicitDefEqProofs -dsimp only [go_sem, ↓reduceIte, zE, zB, zA, zM, zS, zL, reduceCtorEq, f3]
      rfl
    · rintro k fr _ _ hlt ⟨f3, f8, rfl, rfl⟩
      have hpos : 0 < fs.length := by
        rcases Nat.eq_zero_or_pos fs.length with h | h
        · rw [h] at hlt; omega
        · exact h
      obtain ⟨f, hf⟩ := get_of_lt (show k % fs.length < fs.length from Nat.mod_lt _ hpos)
      obtain ⟨g, hg⟩ := get_of_lt (show k / fs.length < fs.length from (Nat.div_lt_iff_lt_mul hpos).2 hlt)
      obtain ⟨y, hy, hfy⟩ := hfs.get hf
      obtain ⟨z, hz, hgz⟩ := hfs.get hg
      obtain ⟨o1, n1, t1, x1, t2, x2, rfl⟩ := hfy.agg
      obtain ⟨o2, n2, t3, x3, t4, x4, rfl⟩ := hgz.agg
      have hq : IntKind.i64.wrap ((k / fs.length : Nat) : Int) = ((k / fs.length : Nat) : Int) := by
        have : k / fs.length ≤ k := Nat.div_le_self _ _
        generalize k / fs.length = m at this ⊢
        rw [w64] <;> omega
      simp -implicitDefEqProofs -dsimp only [go_sem, ↓reduceIte, zE, zB, zA, zM, zS, zL, reduceCtorEq, f3, f8, hxl, hmul, decide_eq_true (Int.ofNat_lt.2 hlt), fits, show (((fs.length : Nat) : Int) = 0) = False from eq_false (by omega), show ((k : Int).tdiv ((fs.length : Nat) : Int)) = ((k / fs.length : Nat) : Int) from rfl, show ((k : Int).tmod ((fs.length : Nat) : Int)) = ((k % fs.length : Nat) : Int) from rfl, hq, Int.natCast_nonneg, hy, hz, reTag_es hown.es]
      intro _ _
      refine (alphas_any G T hgl f g _ _ hfy hgz (hsz f (List.mem_of_getElem? hf)) (hsz g (List.mem_of_getElem? hg)) _).mono ?_
      rintro _ st2 ⟨rfl, rfl⟩
      have hw1 : IntKind.i64.wrap ((k : Int) + 1) = ((k + 1 : Nat) : Int) := by rw [w64] <;> omega
      simp -implicitDefEqProofs -dsimp only [go_sem, ↓reduceIte, zE, zB, zA, zM, zS, zL, reduceCtorEq, f3, f8, hw1]
    · rintro fr _ _ ⟨f3, f8, rfl, rfl⟩
      simp -implicitDefEqProofs -dsimp only [go_sem, ↓reduceIte, zE, zB, zA, zM, zS, zL, reduceCtorEq, f3, f8, hxl, hmul, decide_eq_false (Int.lt_irrefl ((fs.length * fs.length : Nat) : Int))]
      intro _ _
      refine (limits_c gl G T hgl _).mono ?_
      rintro _ st2 ⟨rfl, rfl⟩
      simp -implicitDefEqProofs -dsimp only [go_sem, ↓reduceIte, zE, zB, zA, zM, zS, zL, reduceCtorEq]
      refine (awake_c gl G T _).mono ?_
      rintro _ st2 ⟨rfl, rfl⟩
      simp -implicitDefEqProofs -dsimp only [go_sem, ↓reduceIte, zE, zB, zA, zM, zS, zL, reduceCtorEq]
      exact outK_sub hsub ⟨rfl, rfl⟩
end Go.Proofs.Tryz
