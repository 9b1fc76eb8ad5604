/- The law SubstWrong. -/
import Derived.Test.YtknaeibenggbmaaGreatDoorKN
import Derived.Test.YtknaeibenggbmaaGreatDoorKG
set_option linter.all false
namespace Go.Proofs.Tryz
open Go Go.Iv
set_option maxRecDepth 4000
attribute [local go_sem] cf setAt List.all_cons List.all_nil Bool.and_self Bool.true_and Bool.and_true Bool.false_and Bool.and_false Bool.not_true Bool.not_false List.mem_nil_iff if_false if_true beq_self_eq_true Nat.zero_add Nat.add_zero List.getElem?_cons_zero List.getElem?_cons_succ Option.map_some List.mem_cons or_false false_or or_true true_or Nat.sub_zero forall_const Int.toNat_natCast List.length_cons List.length_nil List.map_cons List.map_nil List.take_succ_cons List.take_zero List.drop_zero List.drop_succ_cons List.cons_append List.nil_append List.append_nil and_true true_and and_self true_implies List.zip_cons_cons List.zip_nil_left
variable (gl : Nat → Option IV)

theorem IsOne.aged {o : ByteArray × Tm} {x : IV} (h : IsOne o x) : IsOne o (age x) := by
  obtain ⟨v, n, tg, xs, rfl, hx⟩ := h
  refine ⟨v, n, _, _, rfl, ?_⟩
  have := hx.aged
  simpa only [age, ages] using this
theorem IsOnes.aged : ∀ {l : List (ByteArray × Tm)} {xs : List IV}, IsOnes l xs → IsOnes l (ages xs)
  | [], xs, h => by simp only [IsOnes] at h; subst h; rfl
  | a :: l, xs, h => by
    simp only [IsOnes] at h
    obtain ⟨y, ys, rfl, hy, h⟩ := h
    exact ⟨_, _, rfl, hy.aged, IsOnes.aged h⟩
/-- A slice literal that is owned, as the slice that it is. -/
theorem OI.lit {st : ISt} {b es : Nat} {zs cs : List IV} (hst : st b = some (.box cs)) (hcs : cs = zs.flatMap IV.cells) (hs : ∀ x ∈ zs, x.cells.length = es) (hl : zs.length ≤ 140737488355328) :
    OI st (.raw (.slice (some ⟨b, 0, none⟩) zs.length zs.length)) (.sl ⟨false, .app b, es⟩ zs) := by
  refine .sl b zs.length ⟨false, .app b, es⟩ zs cs rfl hl (Nat.le_refl _) hs hst (by rw [hcs, flat_length zs hs]; exact Nat.le_refl _) fun i r c hr hc => ?_
  rw [hcs, hc] at hr
  cases hr
  exact .refl _
def bA : ByteArray := ⟨#[97]⟩
def bT : ByteArray := ⟨#[63, 116]⟩
def bF : ByteArray := ⟨#[102]⟩
theorem puts_bad {f : Fm} {l : Sb} (h : goodL [] l = false) : PutsS f l = (fm0, 2) := by simp [PutsS, h]
theorem puts_bad' {f : Fm} {l : Sb} (h : f.right = false) : PutsS f l = (fm0, 2) := by simp [PutsS, h]
theorem goodL_two (a b : ByteArray × Tm) : goodL [] [a, b] = (nmVar a.1 && a.2.ok && (nmVar b.1 && b.2.ok && !decide (b.1 = a.1))) := by
  simp [goodL, memB, eq_comm]
theorem rem6 (q : Nat) : (if (6 : Int) = 0 then none else some (Value.int .u8 (((q : Nat) : Int).tmod 6))) = some (Value.int .u8 ((q % 6 : Nat) : Int)) := by
  rw [if_neg (by decide), show (((q : Nat) : Int).tmod 6) = ((q % 6 : Nat) : Int) from rfl]
theorem eq_i (a b : Nat) : decide ((a : Int) = (b : Int)) = decide (a = b) := by
  by_cases h : a = b
  · simp [h]
  · rw [decide_eq_false h, decide_eq_false (by omega)]

theorem noBox_one (b : Nat) (cs : List IV) : noBox (ISt.put (fun _ => none) b (some (.box cs))) = fun _ => none := by
  funext c
  unfold noBox
  rw [ISt.put_apply]
  by_cases h : c = b
  · rw [if_pos h]
  · rw [if_neg h]
theorem noBox_two (b : Nat) (cs cs' : List IV) : noBox ((ISt.put (fun _ => none) b (some (.box cs'))).put b (some (.box cs))) = fun _ => none := by
  rw [put_put_same, noBox_one]
theorem wrong_call (G : Gl gl) (T : Gt gl) {f : Fm} {x : IV} (hx : IsFm f x) (hs : f.size ≤ 1000000) {l : Sb} {zs cs : List IV} (ho : IsOnes l zs) (hz : zs.length = 2) (hcells : ∀ x ∈ zs, x.cells.length = 4) (hcs : cs = zs.flatMap IV.cells)
    (hl : l.length ≤ 1000000) (hls : ∀ p ∈ l, p.2.size ≤ 1000000) (hws : wS l ≤ 1000000000) (hE : PutsS f l = (fm0, 2)) (b : Nat) (S : ISt) (hS : S b = some (.box cs)) (hn : noBox S = fun _ => none) :
    ICall prog gl 25 [x, .raw (.slice (some ⟨b, 0, none⟩) 2 2)] S (fun r st' => (∃ z, r = .tup [z, .raw (.int .i64 2)] ∧ IsFm fm0 z) ∧ st' = fun _ => none) := by
  have hlit := OI.lit (es := 4) hS hcs hcells (by omega)
  rw [hz] at hlit
  refine ICall.freeze (args' := [x, .sl ⟨false, .app b, 4⟩ (ages zs)]) ⟨_, _, rfl, .inl rfl, _, _, rfl, .inr ⟨_, hlit, rfl⟩, rfl⟩ ?_
  rw [hn]
  have hp := Puts_c gl G T f x hx hs l ⟨false, .app b, 4⟩ (ages zs) (.inr rfl) ho.aged hl hls hws (fun _ => none)
  rw [hE] at hp
  refine hp.mono ?_
  rintro _ _ ⟨z, rfl, hz, rfl⟩
  exact ⟨⟨z, rfl, hz⟩, rfl⟩
theorem SubstWrong_c (G : Gl gl) (T : Gt gl) (f : Fm) (x : IV) (hx : IsFm f x) (t : Tm) (y : IV) (hy : IsTm t y) (q : Nat) (hq : q < 256) (hb1 : bulkF f ≤ 1125899906842000) (hb2 : bulkT t ≤ 1125899906842000) :
    ICall prog gl 9 [x, y, .raw (.int .u8 q)] (fun _ => none) (fun r st' => r = .raw (.bool true) ∧ st' = fun _ => none) := by
  have hsmall := fun tg htg st => Small_c gl [f] tg [x] htg (IsFms.one hx) (by simpa [bulkFs] using hb1) st
  have hfsz := Fm.size_bulk f
  have htsz := Tm.size_bulk t
  have hright := fun hs st => Right_c gl G f x hx st hs
  have hterm := fun hs st => Term_c gl t y hy hs st
  have halpha := fun f g x y hx hy hs hs' st => Alpha_c gl G f g x y hx hy hs hs' st
  have hsame := fun f g x y hx hy st => Same_c gl f g x y hx hy st
  have hx0 := hx
  have hy0 := hy
  obtain ⟨o0, n0, ta, xa, tb, xb, rfl⟩ := hx.agg
  obtain ⟨v1, n1, t1, x1, rfl⟩ := hy.agg
  have hfew := fun tg htg st => few_c gl [(⟨#[]⟩, t)] tg [.agg [.raw (.string ⟨#[]⟩), .raw (.bool v1), .raw (.string n1), .sl t1 x1]] htg ⟨_, [], rfl, ⟨v1, n1, t1, x1, rfl, hy⟩, rfl⟩ (fun o ho => by rw [List.mem_singleton] at ho; subst ho; exact hb2) st
  refine ICall.intro (c := cf prog gl [39] []) func9 rfl (by show _ ≤ 112; simp) (by kernel_rfl) ?_
  simp -implicitDefEqProofs -dsimp only [go_sem, ↓reduceIte, Nat.reduceEqDiff, Nat.reduceBEq, Nat.reduceAdd, Nat.reduceMul, Nat.reduceSub, Nat.reduceLeDiff, reduceCtorEq, fits]
  refine (awake_c gl G T _).mono ?_
  rintro _ st ⟨rfl, rfl⟩
  simp -implicitDefEqProofs -dsimp only [go_sem, ↓reduceIte, Nat.reduceEqDiff, Nat.reduceBEq, Nat.reduceAdd, Nat.reduceMul, Nat.reduceSub, Nat.reduceLeDiff, reduceCtorEq, fits, inOrder_one]
  refine (hsmall _ (by simp only [go_sem]) _).mono ?_
  rintro _ st ⟨rfl, hst⟩
  subst hst
  by_cases hz : bulkFs [f] ≤ 500
  case neg =>
    simp -implicitDefEqProofs -dsimp only [go_sem, ↓reduceIte, Nat.reduceEqDiff, Nat.reduceBEq, Nat.reduceAdd, Nat.reduceMul, Nat.reduceSub, Nat.reduceLeDiff, reduceCtorEq, fits, decide_eq_false hz]
    exact outK_self ⟨rfl, rfl⟩
  have hz' : bulkF f ≤ 500 := by simpa [bulkFs] using hz
  simp -implicitDefEqProofs -dsimp only [go_sem, ↓reduceIte, Nat.reduceEqDiff, Nat.reduceBEq, Nat.reduceAdd, Nat.reduceMul, Nat.reduceSub, Nat.reduceLeDiff, reduceCtorEq, fits, decide_eq_true hz, inOrder_one]
  refine (hfew _ (by simp only [go_sem]) _).mono ?_
  rintro _ st ⟨rfl, hst⟩
  subst hst
  cases hfw : fewB [(⟨#[]⟩, t)]
  · simp -implicitDefEqProofs -dsimp only [go_sem, ↓reduceIte, Nat.reduceEqDiff, Nat.reduceBEq, Nat.reduceAdd, Nat.reduceMul, Nat.reduceSub, Nat.reduceLeDiff, reduceCtorEq, fits]
    exact outK_self ⟨rfl, rfl⟩
  have htl := (few_size hfw).2 (⟨#[]⟩, t) (by simp)
  simp only at htl
  simp -implicitDefEqProofs -dsimp only [go_sem, ↓reduceIte, Nat.reduceEqDiff, Nat.reduceBEq, Nat.reduceAdd, Nat.reduceMul, Nat.reduceSub, Nat.reduceLeDiff, reduceCtorEq, fits]
  refine (hright (by omega) _).mono ?_
  rintro _ st ⟨rfl, hst⟩
  subst hst
  cases hr : f.right
  · simp -implicitDefEqProofs -dsimp only [go_sem, ↓reduceIte, Nat.reduceEqDiff, Nat.reduceBEq, Nat.reduceAdd, Nat.reduceMul, Nat.reduceSub, Nat.reduceLeDiff, reduceCtorEq, fits]
    exact outK_self ⟨rfl, rfl⟩
  simp -implicitDefEqProofs -dsimp only [go_sem, ↓reduceIte, Nat.reduceEqDiff, Nat.reduceBEq, Nat.reduceAdd, Nat.reduceMul, Nat.reduceSub, Nat.reduceLeDiff, reduceCtorEq, fits]
  refine (hterm (by omega) _).mono ?_
  rintro _ st ⟨rfl, hst⟩
  subst hst
  cases hok : t.ok
  · simp -implicitDefEqProofs -dsimp only [go_sem, ↓reduceIte, Nat.reduceEqDiff, Nat.reduceBEq, Nat.reduceAdd, Nat.reduceMul, Nat.reduceSub, Nat.reduceLeDiff, reduceCtorEq, fits]
    exact outK_self ⟨rfl, rfl⟩
  have hrem := rem6 q
  generalize hm : q % 6 = m at hrem
  have hm6 : m < 6 := by omega
  simp -implicitDefEqProofs -dsimp only [go_sem, ↓reduceIte, Nat.reduceEqDiff, Nat.reduceBEq, Nat.reduceAdd, Nat.reduceMul, Nat.reduceSub, Nat.reduceLeDiff, reduceCtorEq, fits, List.flatMap_cons, List.flatMap_nil, bsize_mk, inOrder_two, hrem]
  intro b
  have q0 : eqB fm0 fm0 = true := eqB_true.2 rfl
  have hvx : nmVar bx = true := rfl
  have hvy : nmVar by_ = true := rfl
  have hva : nmVar bA = false := rfl
  have hvt : nmVar bT = false := rfl
  have hxy : decide (by_ = bx) = false := by decide
  have hone : ∀ nm, IsOne (nm, t) (.agg [.raw (.string nm), .raw (.bool v1), .raw (.string n1), .sl t1 x1]) := fun nm => ⟨v1, n1, t1, x1, rfl, hy0⟩
  have hsz1 : ∀ a c : ByteArray, ∀ p ∈ [(a, t), (c, t)], p.2.size ≤ 1000000 := fun a c p hp => by
    simp only [List.mem_cons, List.not_mem_nil, or_false] at hp
    rcases hp with rfl | rfl <;> (simp only; omega)
  have hsz2 : ∀ a c : ByteArray, wS [(a, t), (c, t)] ≤ 1000000000 := fun a c => by simp only [wS]; omega
  rcases (show m = 0 ∨ m = 1 ∨ m = 2 ∨ m = 3 ∨ m = 4 ∨ m = 5 by omega) with h | h | h | h | h | h
  · simp -implicitDefEqProofs -dsimp only [go_sem, ↓reduceIte, Nat.reduceEqDiff, Nat.reduceBEq, Nat.reduceAdd, Nat.reduceMul, Nat.reduceSub, Nat.reduceLeDiff, reduceCtorEq, show decide ((m : Int) = 0) = true from decide_eq_true (by omega), fits, bsize_mk, inOrder_one, inOrder_two, Int.reduceToNat, Int.reduceLE, Nat.reduceLT, ISt.put_same]
    refine (of_x gl 3 _ _ _ _).mono ?_
    rintro _ st ⟨rfl, rfl⟩
    simp -implicitDefEqProofs -dsimp only [go_sem, ↓reduceIte, Nat.reduceEqDiff, Nat.reduceBEq, Nat.reduceAdd, Nat.reduceMul, Nat.reduceSub, Nat.reduceLeDiff, reduceCtorEq, fits, bsize_mk]
    have hf0 : (Fm.mk 3 bx [] [f]).right = false := by
      have : decide (bx = ⟨#[]⟩) = false := by decide
      simp [Fm.right, Fm.ok, okRow, this]
    have hxf : ∀ tg tg', okEs tg 3 → okEs tg' 4 → IsFm (.mk 3 bx [] [f]) (.agg [.raw (.int .u8 3), .raw (.string bx), .sl tg [], .sl tg' [.agg [.raw (.int .u8 o0), .raw (.string n0), .sl ta xa, .sl tb xb]]]) := fun tg tg' h h' => ⟨_, _, _, _, rfl, by omega, h, rfl, h', IsFms.one hx0⟩
    have hfs : (Fm.mk 3 bx [] [f]).size ≤ 1000000 := by simp only [Fm.size, sizeTms, sizeFms]; omega
    have hN : NormalS (Fm.mk 3 bx [] [f]) = (fm0, 2) := by simp [NormalS, hf0]
    have hnorm := fun x hx st => Normal_c gl G T (Fm.mk 3 bx [] [f]) x hx hfs st
    rw [hN] at hnorm
    have hA : alphaB (Fm.mk 3 bx [] [f]) (Fm.mk 3 bx [] [f]) = false := by simp [alphaB, hf0]
    refine (wrong_call gl G T (hxf _ _ (.inl rfl) (.inr rfl)) hfs (l := [(bx, t), (by_, t)]) ⟨_, _, rfl, hone bx, _, _, rfl, hone by_, rfl⟩ rfl (by simp [IV.cells]) rfl (by simp) (hsz1 _ _) (hsz2 _ _) (puts_bad' hf0) b _ (ISt.put_same _ _ _) (noBox_one _ _)).mono ?_
    rintro _ _ ⟨⟨z, rfl, hz0⟩, rfl⟩
    have hz1 := hz0
    obtain ⟨oz, nz, tz, yz, tz2, yz2, rfl⟩ := hz0.agg
    simp -implicitDefEqProofs -dsimp only [go_sem, ↓reduceIte, Nat.reduceEqDiff, Nat.reduceBEq, Nat.reduceAdd, Nat.reduceMul, Nat.reduceSub, Nat.reduceLeDiff, reduceCtorEq, show decide ((m : Int) = 0) = true from decide_eq_true (by omega), fits, hrem]
    refine (hnorm _ (hxf _ _ (.inl rfl) (.inr rfl)) _).mono ?_
    rintro _ _ ⟨z, rfl, hw0, rfl⟩
    simp only at hw0
    have hw1 := hw0
    obtain ⟨ow, nw, tw, yw, tw2, yw2, rfl⟩ := hw0.agg
    have z22 : decide (((2 : Nat) : Int) = 2) = true := rfl
    simp -implicitDefEqProofs -dsimp only [go_sem, ↓reduceIte, Nat.reduceEqDiff, Nat.reduceBEq, Nat.reduceAdd, Nat.reduceMul, Nat.reduceSub, Nat.reduceLeDiff, reduceCtorEq, fits, z22]
    refine (hsame fm0 fm0 _ _ hw1 (fm0_v _ _ (.inl rfl) (.inl rfl)) _).mono ?_
    rintro _ st ⟨rfl, rfl⟩
    simp -implicitDefEqProofs -dsimp only [go_sem, ↓reduceIte, Nat.reduceEqDiff, Nat.reduceBEq, Nat.reduceAdd, Nat.reduceMul, Nat.reduceSub, Nat.reduceLeDiff, reduceCtorEq, fits, q0]
    refine (halpha _ _ _ _ (hxf _ _ (.inl rfl) (.inr rfl)) (hxf _ _ (.inl rfl) (.inr rfl)) hfs hfs _).mono ?_
    rintro _ st ⟨rfl, rfl⟩
    simp -implicitDefEqProofs -dsimp only [go_sem, ↓reduceIte, Nat.reduceEqDiff, Nat.reduceBEq, Nat.reduceAdd, Nat.reduceMul, Nat.reduceSub, Nat.reduceLeDiff, reduceCtorEq, fits, hA, decide_true]
    refine (hsame fm0 fm0 _ _ hz1 (fm0_v _ _ (.inl rfl) (.inl rfl)) _).mono ?_
    rintro _ st ⟨rfl, rfl⟩
    simp -implicitDefEqProofs -dsimp only [go_sem, ↓reduceIte, Nat.reduceEqDiff, Nat.reduceBEq, Nat.reduceAdd, Nat.reduceMul, Nat.reduceSub, Nat.reduceLeDiff, reduceCtorEq, fits, q0]
    exact outK_self ⟨rfl, rfl⟩
  · simp -implicitDefEqProofs -dsimp only [go_sem, ↓reduceIte, Nat.reduceEqDiff, Nat.reduceBEq, Nat.reduceAdd, Nat.reduceMul, Nat.reduceSub, Nat.reduceLeDiff, reduceCtorEq, show decide ((m : Int) = 0) = false from decide_eq_false (by omega), show decide ((m : Int) = 1) = true from decide_eq_true (by omega), fits, bsize_mk, inOrder_one, inOrder_two, Int.reduceToNat, Int.reduceLE, Nat.reduceLT, ISt.put_same]
    refine (wrong_call gl G T hx0 (by omega) (l := [(bx, t), (bA, t)]) ⟨_, _, rfl, hone bx, _, _, rfl, hone bA, rfl⟩ rfl (by simp [IV.cells]) rfl (by simp) (hsz1 _ _) (hsz2 _ _) (puts_bad (by simp [goodL_two, hva])) b _ (ISt.put_same _ _ _) (noBox_two _ _ _)).mono ?_
    rintro _ _ ⟨⟨z, rfl, hz0⟩, rfl⟩
    have hz1 := hz0
    obtain ⟨oz, nz, tz, yz, tz2, yz2, rfl⟩ := hz0.agg
    simp -implicitDefEqProofs -dsimp only [go_sem, ↓reduceIte, Nat.reduceEqDiff, Nat.reduceBEq, Nat.reduceAdd, Nat.reduceMul, Nat.reduceSub, Nat.reduceLeDiff, reduceCtorEq, show decide ((m : Int) = 0) = false from decide_eq_false (by omega), fits, hrem, decide_true]
    refine (hsame fm0 fm0 _ _ hz1 (fm0_v _ _ (.inl rfl) (.inl rfl)) _).mono ?_
    rintro _ st ⟨rfl, rfl⟩
    simp -implicitDefEqProofs -dsimp only [go_sem, ↓reduceIte, Nat.reduceEqDiff, Nat.reduceBEq, Nat.reduceAdd, Nat.reduceMul, Nat.reduceSub, Nat.reduceLeDiff, reduceCtorEq, fits, q0]
    exact outK_self ⟨rfl, rfl⟩
  · simp -implicitDefEqProofs -dsimp only [go_sem, ↓reduceIte, Nat.reduceEqDiff, Nat.reduceBEq, Nat.reduceAdd, Nat.reduceMul, Nat.reduceSub, Nat.reduceLeDiff, reduceCtorEq, show decide ((m : Int) = 0) = false from decide_eq_false (by omega), show decide ((m : Int) = 1) = false from decide_eq_false (by omega), show decide ((m : Int) = 2) = true from decide_eq_true (by omega), fits, bsize_mk, inOrder_one, inOrder_two, Int.reduceToNat, Int.reduceLE, Nat.reduceLT, ISt.put_same]
    refine (wrong_call gl G T hx0 (by omega) (l := [(bx, t), (bx, t)]) ⟨_, _, rfl, hone bx, _, _, rfl, hone bx, rfl⟩ rfl (by simp [IV.cells]) rfl (by simp) (hsz1 _ _) (hsz2 _ _) (puts_bad (by simp [goodL_two, decide_true])) b _ (ISt.put_same _ _ _) (noBox_two _ _ _)).mono ?_
    rintro _ _ ⟨⟨z, rfl, hz0⟩, rfl⟩
    have hz1 := hz0
    obtain ⟨oz, nz, tz, yz, tz2, yz2, rfl⟩ := hz0.agg
    simp -implicitDefEqProofs -dsimp only [go_sem, ↓reduceIte, Nat.reduceEqDiff, Nat.reduceBEq, Nat.reduceAdd, Nat.reduceMul, Nat.reduceSub, Nat.reduceLeDiff, reduceCtorEq, show decide ((m : Int) = 0) = false from decide_eq_false (by omega), fits, hrem, decide_true]
    refine (hsame fm0 fm0 _ _ hz1 (fm0_v _ _ (.inl rfl) (.inl rfl)) _).mono ?_
    rintro _ st ⟨rfl, rfl⟩
    simp -implicitDefEqProofs -dsimp only [go_sem, ↓reduceIte, Nat.reduceEqDiff, Nat.reduceBEq, Nat.reduceAdd, Nat.reduceMul, Nat.reduceSub, Nat.reduceLeDiff, reduceCtorEq, fits, q0]
    exact outK_self ⟨rfl, rfl⟩
  · simp -implicitDefEqProofs -dsimp only [go_sem, ↓reduceIte, Nat.reduceEqDiff, Nat.reduceBEq, Nat.reduceAdd, Nat.reduceMul, Nat.reduceSub, Nat.reduceLeDiff, reduceCtorEq, show decide ((m : Int) = 0) = false from decide_eq_false (by omega), show decide ((m : Int) = 1) = false from decide_eq_false (by omega), show decide ((m : Int) = 2) = false from decide_eq_false (by omega), show decide ((m : Int) = 3) = true from decide_eq_true (by omega), fits, bsize_mk, inOrder_one, inOrder_two, Int.reduceToNat, Int.reduceLE, Nat.reduceLT, ISt.put_same]
    refine (v_x gl _ _).mono ?_
    rintro _ st ⟨rfl, rfl⟩
    simp -implicitDefEqProofs -dsimp only [go_sem, ↓reduceIte, Nat.reduceEqDiff, Nat.reduceBEq, Nat.reduceAdd, Nat.reduceMul, Nat.reduceSub, Nat.reduceLeDiff, reduceCtorEq, fits, bsize_mk, inOrder_one, inOrder_two, Int.reduceToNat, Int.reduceLE, Nat.reduceLT, ISt.put_same]
    have hone3 : IsOne (bx, Tm.mk true bA []) (.agg [.raw (.string bx), .raw (.bool true), .raw (.string bA), .sl ⟨true, .nil, 0⟩ []]) := ⟨_, _, _, _, rfl, _, [], rfl, .inl rfl, rfl⟩
    have hk : (Tm.mk true bA []).ok = false := by simp [Tm.ok, hva]
    refine (wrong_call gl G T hx0 (by omega) (l := [(bx, Tm.mk true bA []), (by_, t)]) ⟨_, _, rfl, hone3, _, _, rfl, hone by_, rfl⟩ rfl (by simp [IV.cells]) rfl (by simp) (fun p hp => by
      simp only [List.mem_cons, List.not_mem_nil, or_false] at hp
      rcases hp with rfl | rfl
      · simp [Tm.size, sizeTms]
      · simp only; omega) (by simp only [wS, Tm.size, sizeTms]; omega) (puts_bad (by simp [goodL_two, hk])) b _ (ISt.put_same _ _ _) (noBox_two _ _ _)).mono ?_
    rintro _ _ ⟨⟨z, rfl, hz0⟩, rfl⟩
    have hz1 := hz0
    obtain ⟨oz, nz, tz, yz, tz2, yz2, rfl⟩ := hz0.agg
    simp -implicitDefEqProofs -dsimp only [go_sem, ↓reduceIte, Nat.reduceEqDiff, Nat.reduceBEq, Nat.reduceAdd, Nat.reduceMul, Nat.reduceSub, Nat.reduceLeDiff, reduceCtorEq, show decide ((m : Int) = 0) = false from decide_eq_false (by omega), fits, hrem, decide_true]
    refine (hsame fm0 fm0 _ _ hz1 (fm0_v _ _ (.inl rfl) (.inl rfl)) _).mono ?_
    rintro _ st ⟨rfl, rfl⟩
    simp -implicitDefEqProofs -dsimp only [go_sem, ↓reduceIte, Nat.reduceEqDiff, Nat.reduceBEq, Nat.reduceAdd, Nat.reduceMul, Nat.reduceSub, Nat.reduceLeDiff, reduceCtorEq, fits, q0]
    exact outK_self ⟨rfl, rfl⟩
  · simp -implicitDefEqProofs -dsimp only [go_sem, ↓reduceIte, Nat.reduceEqDiff, Nat.reduceBEq, Nat.reduceAdd, Nat.reduceMul, Nat.reduceSub, Nat.reduceLeDiff, reduceCtorEq, show decide ((m : Int) = 0) = false from decide_eq_false (by omega), show decide ((m : Int) = 1) = false from decide_eq_false (by omega), show decide ((m : Int) = 2) = false from decide_eq_false (by omega), show decide ((m : Int) = 3) = false from decide_eq_false (by omega), show decide ((m : Int) = 4) = true from decide_eq_true (by omega), fits, bsize_mk, inOrder_one, inOrder_two, Int.reduceToNat, Int.reduceLE, Nat.reduceLT, ISt.put_same]
    refine (wrong_call gl G T hx0 (by omega) (l := [(bT, t), (by_, t)]) ⟨_, _, rfl, hone bT, _, _, rfl, hone by_, rfl⟩ rfl (by simp [IV.cells]) rfl (by simp) (hsz1 _ _) (hsz2 _ _) (puts_bad (by simp [goodL_two, hvt])) b _ (ISt.put_same _ _ _) (noBox_two _ _ _)).mono ?_
    rintro _ _ ⟨⟨z, rfl, hz0⟩, rfl⟩
    have hz1 := hz0
    obtain ⟨oz, nz, tz, yz, tz2, yz2, rfl⟩ := hz0.agg
    simp -implicitDefEqProofs -dsimp only [go_sem, ↓reduceIte, Nat.reduceEqDiff, Nat.reduceBEq, Nat.reduceAdd, Nat.reduceMul, Nat.reduceSub, Nat.reduceLeDiff, reduceCtorEq, show decide ((m : Int) = 0) = false from decide_eq_false (by omega), fits, hrem, decide_true]
    refine (hsame fm0 fm0 _ _ hz1 (fm0_v _ _ (.inl rfl) (.inl rfl)) _).mono ?_
    rintro _ st ⟨rfl, rfl⟩
    simp -implicitDefEqProofs -dsimp only [go_sem, ↓reduceIte, Nat.reduceEqDiff, Nat.reduceBEq, Nat.reduceAdd, Nat.reduceMul, Nat.reduceSub, Nat.reduceLeDiff, reduceCtorEq, fits, q0]
    exact outK_self ⟨rfl, rfl⟩
  · simp -implicitDefEqProofs -dsimp only [go_sem, ↓reduceIte, Nat.reduceEqDiff, Nat.reduceBEq, Nat.reduceAdd, Nat.reduceMul, Nat.reduceSub, Nat.reduceLeDiff, reduceCtorEq, show decide ((m : Int) = 0) = false from decide_eq_false (by omega), show decide ((m : Int) = 1) = false from decide_eq_false (by omega), show decide ((m : Int) = 2) = false from decide_eq_false (by omega), show decide ((m : Int) = 3) = false from decide_eq_false (by omega), show decide ((m : Int) = 4) = false from decide_eq_false (by omega), fits, bsize_mk, inOrder_one, inOrder_two, Int.reduceToNat, Int.reduceLE, Nat.reduceLT, ISt.put_same]
    refine chk_intro rfl ?_
    refine (c_x gl _ _ _ _).mono ?_
    rintro _ st ⟨rfl, rfl⟩
    simp -implicitDefEqProofs -dsimp only [go_sem, ↓reduceIte, Nat.reduceEqDiff, Nat.reduceBEq, Nat.reduceAdd, Nat.reduceMul, Nat.reduceSub, Nat.reduceLeDiff, reduceCtorEq, fits, bsize_mk, inOrder_one, inOrder_two, Int.reduceToNat, Int.reduceLE, Nat.reduceLT, ISt.put_same]
    have hone5 : IsOne (by_, Tm.mk false bF [t, t, t, t, t]) (.agg [.raw (.string by_), .raw (.bool false), .raw (.string bF), .sl ⟨true, .full, 3⟩ [.agg [.raw (.bool v1), .raw (.string n1), .sl t1 x1], .agg [.raw (.bool v1), .raw (.string n1), .sl t1 x1], .agg [.raw (.bool v1), .raw (.string n1), .sl t1 x1], .agg [.raw (.bool v1), .raw (.string n1), .sl t1 x1], .agg [.raw (.bool v1), .raw (.string n1), .sl t1 x1]]]) :=
      ⟨_, _, _, _, rfl, _, _, rfl, .inr rfl, _, _, rfl, hy0, _, _, rfl, hy0, _, _, rfl, hy0, _, _, rfl, hy0, _, _, rfl, hy0, rfl⟩
    have hk : (Tm.mk false bF [t, t, t, t, t]).ok = false := by simp [Tm.ok]
    have hks : (Tm.mk false bF [t, t, t, t, t]).size ≤ 1000000 := by simp only [Tm.size, sizeTms]; omega
    refine (wrong_call gl G T hx0 (by omega) (l := [(bx, t), (by_, Tm.mk false bF [t, t, t, t, t])]) ⟨_, _, rfl, hone bx, _, _, rfl, hone5, rfl⟩ rfl (by simp [IV.cells]) rfl (by simp) (fun p hp => by
      simp only [List.mem_cons, List.not_mem_nil, or_false] at hp
      rcases hp with rfl | rfl
      · simp only; omega
      · exact hks) (by simp only [wS]; omega) (puts_bad (by simp [goodL_two, hk])) b _ (ISt.put_same _ _ _) (noBox_two _ _ _)).mono ?_
    rintro _ _ ⟨⟨z, rfl, hz0⟩, rfl⟩
    have hz1 := hz0
    obtain ⟨oz, nz, tz, yz, tz2, yz2, rfl⟩ := hz0.agg
    simp -implicitDefEqProofs -dsimp only [go_sem, ↓reduceIte, Nat.reduceEqDiff, Nat.reduceBEq, Nat.reduceAdd, Nat.reduceMul, Nat.reduceSub, Nat.reduceLeDiff, reduceCtorEq, show decide ((m : Int) = 0) = false from decide_eq_false (by omega), fits, hrem, decide_true]
    refine (hsame fm0 fm0 _ _ hz1 (fm0_v _ _ (.inl rfl) (.inl rfl)) _).mono ?_
    rintro _ st ⟨rfl, rfl⟩
    simp -implicitDefEqProofs -dsimp only [go_sem, ↓reduceIte, Nat.reduceEqDiff, Nat.reduceBEq, Nat.reduceAdd, Nat.reduceMul, Nat.reduceSub, Nat.reduceLeDiff, reduceCtorEq, fits, q0]
    exact outK_self ⟨rfl, rfl⟩
end Go.Proofs.Tryz
