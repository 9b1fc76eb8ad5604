/- Walks: Size, Small.
   Walks: few. -/
import Derived.Test.YtknaeibenggbmaaGreatDoorJS
set_option linter.all false
open Nat renaming reduceEqDiff → zE, reduceBEq → zB, reduceAdd → zA, reduceMul → zM, reduceSub → zS, reduceLeDiff → zL
attribute [local go_sem] Go.Iv.cf Go.Iv.setAt List.all_cons List.all_nil Bool.and_self Bool.true_and Bool.and_true Bool.false_and Bool.and_false Bool.not_true Bool.not_false List.mem_nil_iff if_false if_true beq_self_eq_true Nat.zero_add Nat.add_zero List.getElem?_cons_zero List.getElem?_cons_succ Option.map_some List.mem_cons or_false false_or or_true true_or Nat.sub_zero forall_const Int.toNat_natCast List.length_cons List.length_nil List.map_cons List.map_nil List.take_succ_cons List.take_zero List.drop_zero List.drop_succ_cons List.cons_append List.nil_append List.append_nil and_true true_and and_self true_implies List.zip_cons_cons List.zip_nil_left
namespace Go.Proofs.Tryz
open Go Go.Iv
set_option maxRecDepth 4000
variable (gl : Nat → Option IV)

mutual
def bulkF : Fm → Nat
  | .mk _ n us sub => 1 + n.size / 40 + bulkTs us + bulkFs sub
def bulkFs : List Fm → Nat
  | [] => 0
  | a :: l => bulkF a + bulkFs l
end
theorem bulkFs_append : ∀ (l m : List Fm), bulkFs (l ++ m) = bulkFs l + bulkFs m
  | [], m => by simp [bulkFs]
  | a :: l, m => by simp only [List.cons_append, bulkFs, bulkFs_append l m]; omega
theorem bulkFs_take {l : List Fm} {k : Nat} {a : Fm} (h : l[k]? = some a) : bulkFs (l.take (k + 1)) = bulkFs (l.take k) + bulkF a ∧ bulkFs (l.take k) + bulkF a ≤ bulkFs l := by
  have h1 : bulkFs (l.take (k + 1)) = bulkFs (l.take k) + bulkF a := by rw [take_get h, bulkFs_append]; simp [bulkFs]
  refine ⟨h1, ?_⟩
  rw [← h1]
  conv => rhs; rw [← List.take_append_drop (k + 1) l, bulkFs_append]
  omega
def SzF (f : Fm) : Prop := ∀ (x : IV) (_ : IsFm f x) (_ : bulkF f ≤ 1125899906842624) (L : Int) (_ : -1125899906842624 ≤ L) (_ : L ≤ 1125899906842624) (st : ISt),
  ICall prog gl 51 [x, .raw (.int .i64 L)] st (szPost L (bulkF f) st)
theorem Size_step (op : Nat) (nm : ByteArray) (us : List Tm) (sub : List Fm) (IH : ∀ a ∈ sub, SzF gl a) : SzF gl (.mk op nm us sub) := by
  intro x hx hsz L hL1 hL2 st
  obtain ⟨tg, xs, tg', ys, rfl, hop, htg, hxs, htg', hys⟩ := hx.mk
  simp only [bulkF] at hsz ⊢
  have hq : (if (40 : Int) = 0 then none else some (Value.int .i64 (IntKind.i64.wrap (((nm.size : Nat) : Int).tdiv 40)))) = some (Value.int .i64 ((nm.size / 40 : Nat) : Int)) := by
    rw [if_neg (by decide), show (((nm.size : Nat) : Int).tdiv 40) = ((nm.size / 40 : Nat) : Int) from rfl, w64] <;> omega
  have hw1 : IntKind.i64.wrap (1 + ((nm.size / 40 : Nat) : Int)) = ((1 + nm.size / 40 : Nat) : Int) := by rw [w64] <;> omega
  refine ICall.intro (c := cf prog gl [] []) func51 rfl (by show _ ≤ 41; simp) (by kernel_rfl) ?_
  simp -implicitDefEqProofs -dsimp only [go_sem, ↓reduceIte, zE, zB, zA, zM, zS, zL, reduceCtorEq]
  rw [hq]
  simp -implicitDefEqProofs -dsimp only [go_sem, ↓reduceIte, zE, zB, zA, zM, zS, zL, reduceCtorEq, hw1]
  refine (size2_c gl us tg xs htg hxs (by omega) L hL1 hL2 _).mono ?_
  rintro _ st ⟨n0, rfl, h01, h02, rfl⟩
  have hw2 : IntKind.i64.wrap (((1 + nm.size / 40 : Nat) : Int) + (n0 : Int)) = ((1 + nm.size / 40 + n0 : Nat) : Int) := by rw [w64] <;> omega
  simp -implicitDefEqProofs -dsimp only [go_sem, ↓reduceIte, zE, zB, zA, zM, zS, zL, reduceCtorEq, hw1, hw2]
  refine LoopC.ctr sub.length (fun k fr st' ds => (∃ n : Nat, fr 5 = .iv (.raw (.int .i64 n)) ∧ n ≤ 1 + nm.size / 40 + bulkTs us + bulkFs (sub.take k) ∧ ((n : Int) ≤ L → n = 1 + nm.size / 40 + bulkTs us + bulkFs (sub.take k))) ∧
    fr 2 = .box [.raw (.int .u8 op), .raw (.string nm), .sl tg xs, .sl tg' ys] ∧ fr 1 = .iv (.raw (.int .i64 L)) ∧ fr 6 = .iv (.raw (.int .i64 k)) ∧ st' = st ∧ ds = []) ?_ ?_ ?_
  · simp -implicitDefEqProofs -dsimp only [go_sem, ↓reduceIte, zE, zB, zA, zM, zS, zL, reduceCtorEq]
    exact ⟨⟨_, rfl, by simp only [List.take_zero, bulkFs]; omega, fun h => by simp only [List.take_zero, bulkFs]; have := h02 (by omega); omega⟩, rfl⟩
  · rintro k fr st _ hlt ⟨⟨n, f5, hn1, hn2⟩, f2, f1, f6, rfl, rfl⟩
    obtain ⟨a, ha⟩ := get_of_lt hlt
    obtain ⟨x, hkx, hx⟩ := hys.get ha
    obtain ⟨h1, h2⟩ := bulkFs_take ha
    by_cases hL : (n : Int) ≤ L
    · have hw0 : IntKind.i64.wrap (L - n) = L - n := by rw [w64] <;> omega
      have hcall := IH a (List.mem_of_getElem? ha) x hx (by omega) (L - n) (by omega) (by omega) st
      obtain ⟨o2, n2, u2, s2⟩ := a
      obtain ⟨t3, x3, t4, x4, rfl, _⟩ := hx.mk
      simp -implicitDefEqProofs -dsimp only [go_sem, ↓reduceIte, zE, zB, zA, zM, zS, zL, reduceCtorEq, f1, f2, f5, f6, hys.len, lt_i hlt, decide_eq_true hL, fits, reTag_es htg', Int.natCast_nonneg, hkx, hw0]
      intro hlen
      refine hcall.mono ?_
      rintro _ st ⟨n', rfl, hn3, hn4, rfl⟩
      have hw3 : IntKind.i64.wrap ((n : Int) + (n' : Int)) = ((n + n' : Nat) : Int) := by rw [w64] <;> omega
      simp -implicitDefEqProofs -dsimp only [go_sem, ↓reduceIte, zE, zB, zA, zM, zS, zL, reduceCtorEq, f1, f2, f5, f6, hw3, w_succ hlt (show sub.length ≤ 281474976710656 by omega)]
      refine ⟨n + n', rfl, by omega, fun h => ?_⟩
      have e1 := hn2 (by omega)
      have e2 := hn4 (by omega)
      omega
    · simp -implicitDefEqProofs -dsimp only [go_sem, ↓reduceIte, zE, zB, zA, zM, zS, zL, reduceCtorEq, f1, f2, f5, f6, hys.len, lt_i hlt, decide_eq_false hL, fits]
      intro _
      exact outK_self ⟨n, rfl, by omega, fun h => absurd h hL, rfl⟩
  · rintro fr st _ ⟨⟨n, f5, hn1, hn2⟩, f2, f1, f6, rfl, rfl⟩
    rw [List.take_length] at hn1 hn2
    simp -implicitDefEqProofs -dsimp only [go_sem, ↓reduceIte, zE, zB, zA, zM, zS, zL, reduceCtorEq, f1, f2, f5, f6, hys.len, nlt_i (Nat.lt_irrefl _), fits]
    intro _
    exact outK_self ⟨n, rfl, hn1, hn2, rfl⟩
theorem Size_all : ∀ (k : Nat) (t : Fm), SizeOf.sizeOf t < k → SzF gl t
  | 0, f, h => by omega
  | k + 1, .mk o n us sub, h => Size_step gl o n us sub (fun a ha => Size_all k a (by
      have := List.sizeOf_lt_of_mem ha
      simp at h; omega))
theorem Size_c (t : Fm) : SzF gl t := Size_all gl _ t (Nat.lt_succ_self _)
theorem Small_c (us : List Fm) (tg : Tag) (xs : List IV) (htg : okEs tg 4) (hxs : IsFms us xs) (hsz : bulkFs us ≤ 1125899906842000) (st : ISt) :
    ICall prog gl 15 [.sl tg xs] st (fun r st' => r = .raw (.bool (decide (bulkFs us ≤ 500))) ∧ st' = st) := by
  refine ICall.intro (c := cf prog gl [] []) func15 rfl (by show _ ≤ 26; simp) (by kernel_rfl) ?_
  simp -implicitDefEqProofs -dsimp only [go_sem, ↓reduceIte, zE, zB, zA, zM, zS, zL, reduceCtorEq]
  have fin : ∀ n : Nat, n ≤ bulkFs us → ((n : Int) ≤ 500 → n = bulkFs us) → decide ((n : Int) ≤ 500) = decide (bulkFs us ≤ 500) := fun n h1 h2 => by
    by_cases h : (n : Int) ≤ 500
    · have := h2 h
      rw [decide_eq_true h, decide_eq_true (by omega)]
    · rw [decide_eq_false h, decide_eq_false (by omega)]
  refine LoopC.ctr us.length (fun k fr st' ds => (∃ n : Nat, fr 3 = .iv (.raw (.int .i64 n)) ∧ n ≤ bulkFs (us.take k) ∧ ((n : Int) ≤ 500 → n = bulkFs (us.take k))) ∧ fr 0 = .iv (.sl tg xs) ∧ fr 4 = .iv (.raw (.int .i64 k)) ∧ st' = st ∧ ds = []) ?_ ?_ ?_
  · simp -implicitDefEqProofs -dsimp only [go_sem, ↓reduceIte, zE, zB, zA, zM, zS, zL, reduceCtorEq]
    exact ⟨⟨0, rfl, Nat.le_refl _, fun _ => rfl⟩, rfl⟩
  · rintro k fr st _ hlt ⟨⟨n, f3, hn1, hn2⟩, f0, f4, rfl, rfl⟩
    obtain ⟨a, ha⟩ := get_of_lt hlt
    obtain ⟨x, hkx, hx⟩ := hxs.get ha
    obtain ⟨h1, h2⟩ := bulkFs_take ha
    by_cases hL : (n : Int) ≤ 500
    · have hw0 : IntKind.i64.wrap (500 - (n : Int)) = 500 - (n : Int) := by rw [w64] <;> omega
      have hcall := Size_c gl a x hx (by omega) (500 - (n : Int)) (by omega) (by omega) st
      obtain ⟨o2, n2, u2, s2⟩ := a
      obtain ⟨t3, x3, t4, x4, rfl, _⟩ := hx.mk
      simp -implicitDefEqProofs -dsimp only [go_sem, ↓reduceIte, zE, zB, zA, zM, zS, zL, reduceCtorEq, f0, f3, f4, hxs.len, lt_i hlt, decide_eq_true hL, fits, reTag_es htg, Int.natCast_nonneg, hkx, hw0]
      intro hlen
      refine hcall.mono ?_
      rintro _ st ⟨n', rfl, hn3, hn4, rfl⟩
      have hw3 : IntKind.i64.wrap ((n : Int) + (n' : Int)) = ((n + n' : Nat) : Int) := by rw [w64] <;> omega
      simp -implicitDefEqProofs -dsimp only [go_sem, ↓reduceIte, zE, zB, zA, zM, zS, zL, reduceCtorEq, f0, f3, f4, hw3, w_succ hlt (show us.length ≤ 281474976710656 by omega)]
      refine ⟨n + n', rfl, by omega, fun h => ?_⟩
      have e1 := hn2 (by omega)
      have e2 := hn4 (by omega)
      omega
    · have hf := fin n (by omega) (fun h => absurd h hL)
      simp -implicitDefEqProofs -dsimp only [go_sem, ↓reduceIte, zE, zB, zA, zM, zS, zL, reduceCtorEq, f0, f3, f4, hxs.len, lt_i hlt, decide_eq_false hL, fits]
      intro _
      exact outK_self ⟨by rw [← hf, decide_eq_false hL], rfl⟩
  · rintro fr st _ ⟨⟨n, f3, hn1, hn2⟩, f0, f4, rfl, rfl⟩
    rw [List.take_length] at hn1 hn2
    have hf := fin n hn1 hn2
    simp -implicitDefEqProofs -dsimp only [go_sem, ↓reduceIte, zE, zB, zA, zM, zS, zL, reduceCtorEq, f0, f3, f4, hxs.len, nlt_i (Nat.lt_irrefl _), fits, hf]
    intro _
    exact outK_self ⟨rfl, rfl⟩
end Go.Proofs.Tryz

namespace Go.Proofs.Tryz
open Go Go.Iv
set_option maxRecDepth 4000
variable (gl : Nat → Option IV)

def IsOne (o : ByteArray × Tm) (x : IV) : Prop := ∃ v n tg xs, x = .agg [.raw (.string o.1), .raw (.bool v), .raw (.string n), .sl tg xs] ∧ IsTm o.2 (.agg [.raw (.bool v), .raw (.string n), .sl tg xs])
def IsOnes : List (ByteArray × Tm) → List IV → Prop
  | [], xs => xs = []
  | a :: l, xs => ∃ y ys, xs = y :: ys ∧ IsOne a y ∧ IsOnes l ys
theorem IsOnes.len : ∀ {l : List (ByteArray × Tm)} {xs : List IV}, IsOnes l xs → xs.length = l.length
  | [], xs, h => by simp only [IsOnes] at h; subst h; rfl
  | a :: l, xs, h => by
    simp only [IsOnes] at h
    obtain ⟨y, ys, rfl, _, h⟩ := h
    simp [IsOnes.len h]
theorem IsOnes.get : ∀ {l : List (ByteArray × Tm)} {xs : List IV} {k : Nat} {a : ByteArray × Tm}, IsOnes l xs → l[k]? = some a → ∃ x, xs[k]? = some x ∧ IsOne a x
  | [], xs, k, a, h, hk => by simp at hk
  | b :: l, xs, k, a, h, hk => by
    simp only [IsOnes] at h
    obtain ⟨y, ys, rfl, hy, h⟩ := h
    cases k with
    | zero => simp at hk; subst hk; exact ⟨y, rfl, hy⟩
    | succ k => simpa using IsOnes.get h (by simpa using hk)
def oneB (o : ByteArray × Tm) : Bool := decide (o.1.size ≤ 100) && decide (1 + bulkT o.2 ≤ 100)
def fewB (l : List (ByteArray × Tm)) : Bool := decide (l.length ≤ 6) && l.all oneB
theorem few_c (l : List (ByteArray × Tm)) (tg : Tag) (xs : List IV) (htg : okEs tg 4) (hxs : IsOnes l xs) (hsz : ∀ o ∈ l, bulkT o.2 ≤ 1125899906842000) (st : ISt) :
    ICall prog gl 16 [.sl tg xs] st (fun r st' => r = .raw (.bool (fewB l)) ∧ st' = st) := by
  refine ICall.intro (c := cf prog gl [] []) func16 rfl (by show _ ≤ 32; simp) (by kernel_rfl) ?_
  simp -implicitDefEqProofs -dsimp only [go_sem, ↓reduceIte, zE, zB, zA, zM, zS, zL, reduceCtorEq]
  refine LoopC.ctr l.length (fun k fr st' ds => (k ≤ 6 ∧ (l.take k).all oneB = true) ∧ fr 0 = .iv (.sl tg xs) ∧ fr 3 = .iv (.raw (.int .i64 k)) ∧ st' = st ∧ ds = []) ?_ ?_ ?_
  · simp -implicitDefEqProofs -dsimp only [go_sem, ↓reduceIte, zE, zB, zA, zM, zS, zL, reduceCtorEq]
    rfl
  · rintro k fr st _ hlt ⟨⟨hk6, hall⟩, f0, f3, rfl, rfl⟩
    obtain ⟨a, ha⟩ := get_of_lt hlt
    obtain ⟨x, hkx, v, n, t1, x1, rfl, hx⟩ := hxs.get ha
    have hbad : oneB a = false → l.all oneB = false := fun h => by rw [List.all_eq_false]; exact ⟨a, List.mem_of_getElem? ha, by simp [h]⟩
    by_cases h6 : 6 ≤ k
    · simp -implicitDefEqProofs -dsimp only [go_sem, ↓reduceIte, zE, zB, zA, zM, zS, zL, reduceCtorEq, f0, f3, hxs.len, lt_i hlt, show decide ((6 : Int) ≤ (k : Int)) = true from decide_eq_true (by omega), fits]
      intro _
      exact outK_self ⟨by simp only [fewB, decide_eq_false (show ¬ l.length ≤ 6 by omega), Bool.false_and], rfl⟩
    · by_cases h100 : a.1.size ≤ 100
      · have hfm : ∀ t, okEs t 3 → IsFm (.mk 0 ⟨#[]⟩ [a.2] []) (.agg [.raw (.int .u8 0), .raw (.string ⟨#[]⟩), .sl t [.agg [.raw (.bool v), .raw (.string n), .sl t1 x1]], .sl ⟨true, .nil, 0⟩ []]) :=
          fun t ht => ⟨_, _, _, _, rfl, by omega, ht, IsTms.one hx, .inl rfl, rfl⟩
        have hbk : bulkF (.mk 0 ⟨#[]⟩ [a.2] []) = 1 + bulkT a.2 := by simp only [bulkF, bulkTs, bulkFs]; rfl
        have hsa := hsz a (List.mem_of_getElem? ha)
        have hcall := fun t ht st => Size_c gl _ _ (hfm t ht) (by rw [hbk]; omega) 100 (by omega) (by omega) st
        rw [hbk] at hcall
        simp -implicitDefEqProofs -dsimp only [go_sem, ↓reduceIte, zE, zB, zA, zM, zS, zL, reduceCtorEq, f0, f3, hxs.len, lt_i hlt, show decide ((6 : Int) ≤ (k : Int)) = false from decide_eq_false (by omega), show decide ((100 : Int) < (a.1.size : Int)) = false from decide_eq_false (by omega), fits, reTag_es htg, Int.natCast_nonneg, hkx]
        intro hlen hlen2
        refine chk_intro rfl ((hcall _ (.inr rfl) _).mono ?_)
        rintro _ st ⟨q, rfl, hq1, hq2, rfl⟩
        by_cases hq : q ≤ 100
        · have e := hq2 (by omega)
          have hok : oneB a = true := by simp only [oneB, decide_eq_true h100, decide_eq_true (show 1 + bulkT a.2 ≤ 100 by omega), Bool.and_self]
          simp -implicitDefEqProofs -dsimp only [go_sem, ↓reduceIte, zE, zB, zA, zM, zS, zL, reduceCtorEq, f0, f3, show decide ((100 : Int) < (q : Int)) = false from decide_eq_false (by omega), w_succ hlt (show l.length ≤ 281474976710656 by omega)]
          exact ⟨by omega, by rw [take_get ha, List.all_append, hall]; simp [hok]⟩
        · have hok : oneB a = false := by simp only [oneB, decide_eq_false (show ¬ 1 + bulkT a.2 ≤ 100 by omega), Bool.and_false]
          simp -implicitDefEqProofs -dsimp only [go_sem, ↓reduceIte, zE, zB, zA, zM, zS, zL, reduceCtorEq, f0, f3, show decide ((100 : Int) < (q : Int)) = true from decide_eq_true (by omega)]
          exact outK_self ⟨by simp only [fewB, hbad hok, Bool.and_false], rfl⟩
      · simp -implicitDefEqProofs -dsimp only [go_sem, ↓reduceIte, zE, zB, zA, zM, zS, zL, reduceCtorEq, f0, f3, hxs.len, lt_i hlt, show decide ((6 : Int) ≤ (k : Int)) = false from decide_eq_false (by omega), show decide ((100 : Int) < (a.1.size : Int)) = true from decide_eq_true (by omega), fits, reTag_es htg, Int.natCast_nonneg, hkx]
        intro _ _
        have hok : oneB a = false := by simp only [oneB, decide_eq_false h100, Bool.false_and]
        exact outK_self ⟨by simp only [fewB, hbad hok, Bool.and_false], rfl⟩
  · rintro fr st _ ⟨⟨hk6, hall⟩, f0, f3, rfl, rfl⟩
    rw [List.take_length] at hall
    simp -implicitDefEqProofs -dsimp only [go_sem, ↓reduceIte, zE, zB, zA, zM, zS, zL, reduceCtorEq, f0, f3, hxs.len, nlt_i (Nat.lt_irrefl _), fits]
    intro _
    exact outK_self ⟨by simp only [fewB, decide_eq_true hk6, hall, Bool.true_and], rfl⟩
end Go.Proofs.Tryz
