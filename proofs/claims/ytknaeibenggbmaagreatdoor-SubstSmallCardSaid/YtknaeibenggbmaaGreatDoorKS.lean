/- Walks of the second program: names, right terms.
   Walks of the second program: right formulas. -/
import Derived.Test.YtknaeibenggbmaaGreatDoorJL
set_option linter.all false
open Nat renaming reduceEqDiff → zE, reduceBEq → zB, reduceAdd → zA, reduceMul → zM, reduceSub → zS, reduceLeDiff → zL
attribute [local go_sem] Go.Iv.cf Go.Iv.setAt List.all_cons List.all_nil Bool.and_self Bool.true_and Bool.and_true Bool.false_and Bool.and_false Bool.not_true Bool.not_false List.mem_nil_iff if_false if_true beq_self_eq_true Nat.zero_add Nat.add_zero List.getElem?_cons_zero List.getElem?_cons_succ Option.map_some List.mem_cons or_false false_or or_true true_or Nat.sub_zero forall_const Int.toNat_natCast List.length_cons List.length_nil List.map_cons List.map_nil List.take_succ_cons List.take_zero List.drop_zero List.drop_succ_cons List.cons_append List.nil_append List.append_nil and_true true_and and_self true_implies List.zip_cons_cons List.zip_nil_left
namespace Go.Proofs.Tryz
open Go Go.Iv
set_option maxRecDepth 4000
variable (gl : Nat → Option IV)

theorem in_n (c : UInt8) (lo hi : Nat) (a b : Int) (ha : a = lo) (hb : b = hi) (st : ISt) : ICall prog gl 131 [.raw (.int .u8 c.toNat), .raw (.int .u8 a), .raw (.int .u8 b)] st (fun x st' => x = .raw (.bool (inB lo hi c)) ∧ st' = st) := by
  subst ha hb
  have hleq : ∀ x y : Int, binI prog 5 .leq (.int .u8 x) (.int .u8 y) = some (.bool (decide (x ≤ y))) := fun x y => by simp only [go_sem]
  refine ICall.intro (c := cf prog gl [] []) func131 rfl (by show _ ≤ 15; simp) (by kernel_rfl) ?_
  by_cases h1 : lo ≤ c.toNat
  · simp -implicitDefEqProofs -dsimp only [go_sem, ↓reduceIte, zE, zB, zA, zM, zS, zL, reduceCtorEq, show decide ((lo : Int) ≤ (c.toNat : Int)) = true from decide_eq_true (by omega)]
    exact outK_self ⟨by congr 3; simp [inB, h1], rfl⟩
  · simp -implicitDefEqProofs -dsimp only [go_sem, ↓reduceIte, zE, zB, zA, zM, zS, zL, reduceCtorEq, show decide ((lo : Int) ≤ (c.toNat : Int)) = false from decide_eq_false (by omega)]
    exact outK_self ⟨by simp [inB, h1], rfl⟩
def tailB (d : Bool) (c : UInt8) : Bool := isDigit c || (!d && (isCapital c || isSmall c))
def lettersB (d : Bool) (s : ByteArray) : Bool :=
  match s.data.toList with
  | [] => false
  | _ :: cs => decide (cs.length < 16) && cs.all (tailB d)
theorem letters_c (s : ByteArray) (d : Bool) (st : ISt) : ICall prog gl 130 [.raw (.string s), .raw (.bool d)] st (fun x st' => x = .raw (.bool (lettersB d s)) ∧ st' = st) := by
  refine ICall.intro (c := cf prog gl [] []) func130 rfl (by show _ ≤ 42; simp) (by kernel_rfl) ?_
  have hsz := size_list s
  cases hl : s.data.toList with
  | nil =>
    rw [hl] at hsz
    simp -implicitDefEqProofs -dsimp only [go_sem, ↓reduceIte, zE, zB, zA, zM, zS, zL, reduceCtorEq]
    refine LoopC.ctr 0 (fun k fr st' ds => fr 0 = .iv (.raw (.string s)) ∧ fr 5 = .iv (.raw (.int .i64 1)) ∧ st' = st ∧ ds = []) ?_ ?_ ?_
    · simp -implicitDefEqProofs -dsimp only [go_sem, ↓reduceIte, zE, zB, zA, zM, zS, zL, reduceCtorEq]
    · intro k _ _ _ h; omega
    · rintro fr _ _ ⟨f0, f5, rfl, rfl⟩
      simp -implicitDefEqProofs -dsimp only [go_sem, ↓reduceIte, zE, zB, zA, zM, zS, zL, reduceCtorEq, f0, f5, show decide ((1 : Int) < ((s.size : Nat) : Int)) = false from decide_eq_false (by rw [hsz]; simp), show decide ((0 : Int) < ((s.size : Nat) : Int)) = false from decide_eq_false (by rw [hsz]; simp)]
      intros
      exact outK_self ⟨by simp [lettersB, hl], rfl⟩
  | cons c cs =>
    rw [hl, List.length_cons] at hsz
    simp -implicitDefEqProofs -dsimp only [go_sem, ↓reduceIte, zE, zB, zA, zM, zS, zL, reduceCtorEq]
    refine LoopC.ctr cs.length (fun k fr st' ds => (cs.take k).all (tailB d) = true ∧ fr 0 = .iv (.raw (.string s)) ∧ fr 1 = .iv (.raw (.bool d)) ∧ fr 5 = .iv (.raw (.int .i64 ((k + 1 : Nat) : Int))) ∧ st' = st ∧ ds = []) ?_ ?_ ?_
    · simp -implicitDefEqProofs -dsimp only [go_sem, ↓reduceIte, zE, zB, zA, zM, zS, zL, reduceCtorEq]; rfl
    · rintro k fr st _ hlt ⟨hn, f0, f1, f5, rfl, rfl⟩
      obtain ⟨x, hx⟩ := get_of_lt hlt
      have hlt' : decide (((k + 1 : Nat) : Int) < ((s.size : Nat) : Int)) = true := by rw [hsz]; simp; omega
      have hx' : strAt s ((k + 1 : Nat) : Int) = some x := strAt_of (by rw [hl]; simpa using hx)
      have hbad : tailB d x = false → lettersB d s = false := fun h => by
        have : cs.all (tailB d) = false := by rw [List.all_eq_false]; exact ⟨x, List.mem_of_getElem? hx, by simp [h]⟩
        simp [lettersB, hl, this]
      have hgood : tailB d x = true → (cs.take (k + 1)).all (tailB d) = true := fun h => by
        rw [take_get hx, List.all_append, hn]; simp [h]
      simp -implicitDefEqProofs -dsimp only [go_sem, ↓reduceIte, zE, zB, zA, zM, zS, zL, reduceCtorEq, f0, f1, f5, hlt', hx']
      intro hlen
      have hw : IntKind.i64.wrap (((k + 1 : Nat) : Int) + 1) = ((k + 1 + 1 : Nat) : Int) := by rw [w64] <;> omega
      refine (in_n gl x 48 57 _ _ rfl rfl _).mono ?_
      rintro _ st ⟨rfl, rfl⟩
      cases h1 : inB 48 57 x
      case true =>
        simp -implicitDefEqProofs -dsimp only [go_sem, ↓reduceIte, zE, zB, zA, zM, zS, zL, reduceCtorEq, f0, f1, f5, hw]
        exact hgood (by simp [tailB, isDigit, h1])
      cases d
      case true =>
        simp -implicitDefEqProofs -dsimp only [go_sem, ↓reduceIte, zE, zB, zA, zM, zS, zL, reduceCtorEq, f0, f1, f5]
        exact outK_self ⟨by rw [hbad (by simp [tailB, isDigit, h1])], rfl⟩
      simp -implicitDefEqProofs -dsimp only [go_sem, ↓reduceIte, zE, zB, zA, zM, zS, zL, reduceCtorEq, f0, f1, f5, hx']
      refine (in_n gl x 65 90 _ _ rfl rfl _).mono ?_
      rintro _ st ⟨rfl, rfl⟩
      cases h2 : inB 65 90 x
      case true =>
        simp -implicitDefEqProofs -dsimp only [go_sem, ↓reduceIte, zE, zB, zA, zM, zS, zL, reduceCtorEq, f0, f1, f5, hw]
        exact hgood (by simp [tailB, isCapital, h2])
      simp -implicitDefEqProofs -dsimp only [go_sem, ↓reduceIte, zE, zB, zA, zM, zS, zL, reduceCtorEq, f0, f1, f5, hx']
      refine (in_n gl x 97 122 _ _ rfl rfl _).mono ?_
      rintro _ st ⟨rfl, rfl⟩
      cases h3 : inB 97 122 x
      case true =>
        simp -implicitDefEqProofs -dsimp only [go_sem, ↓reduceIte, zE, zB, zA, zM, zS, zL, reduceCtorEq, f0, f1, f5, hw]
        exact hgood (by simp [tailB, isSmall, h3])
      simp -implicitDefEqProofs -dsimp only [go_sem, ↓reduceIte, zE, zB, zA, zM, zS, zL, reduceCtorEq, f0, f1, f5]
      exact outK_self ⟨by rw [hbad (by simp [tailB, isDigit, isCapital, isSmall, h1, h2, h3])], rfl⟩
    · rintro fr st _ ⟨hn, f0, f1, f5, rfl, rfl⟩
      rw [List.take_length] at hn
      simp -implicitDefEqProofs -dsimp only [go_sem, ↓reduceIte, zE, zB, zA, zM, zS, zL, reduceCtorEq, f0, f5, show decide (((cs.length + 1 : Nat) : Int) < ((s.size : Nat) : Int)) = false from decide_eq_false (by rw [hsz]; simp), show decide ((0 : Int) < ((s.size : Nat) : Int)) = true from decide_eq_true (by rw [hsz]; omega)]
      intros
      refine outK_self ⟨?_, rfl⟩
      congr 3
      simp only [lettersB, hl, hn, Bool.and_true]
      rw [hsz]
      simp
      omega
theorem not_res {p q : UInt8 → Bool} {s : ByteArray} {c : UInt8} {cs : List UInt8} (hl : s.data.toList = c :: cs) (h : p c = true) (hq : cs.all q = true)
    (hw : ∀ w ∈ [wAll, wSome, wFalse, wNext, wAlways, wUntil], (match w.data.toList with | [] => true | c :: cs => p c && cs.all q) = false) : isReserved s = false := by
  have key : ∀ w ∈ [wAll, wSome, wFalse, wNext, wAlways, wUntil], s ≠ w := fun w hm he => by
    have := hw w hm
    rw [← he, hl] at this
    simp [h, hq] at this
  simp only [List.mem_cons, List.not_mem_nil, or_false, forall_eq_or_imp, forall_eq] at key
  obtain ⟨k1, k2, k3, k4, k5, k6⟩ := key
  unfold isReserved
  rw [decide_eq_false k1, decide_eq_false k2, decide_eq_false k3, decide_eq_false k4, decide_eq_false k5, decide_eq_false k6]; rfl
theorem tailB_true : tailB true = isDigit := by funext c; simp [tailB]
theorem tailB_false : tailB false = isAlnum := by
  funext c
  simp only [tailB, isAlnum, Bool.not_false, Bool.true_and]
  cases isDigit c <;> cases isCapital c <;> cases isSmall c <;> rfl
theorem letters_nil {d : Bool} {s : ByteArray} (h : lettersB d s = true) : ∃ c cs, s.data.toList = c :: cs ∧ cs.length < 16 ∧ cs.all (tailB d) = true := by
  unfold lettersB at h
  split at h
  · cases h
  · rename_i c cs hl
    simp only [Bool.and_eq_true, decide_eq_true_eq] at h
    exact ⟨c, cs, hl, h.1, h.2⟩
theorem name_of_letters {p : UInt8 → Bool} {d : Bool} {s : ByteArray} {c : UInt8} {cs : List UInt8} (hl : s.data.toList = c :: cs) (hr : p c = true → cs.all (tailB d) = true → isReserved s = false) : nameOf p (tailB d) s = (lettersB d s && p c) := by
  simp only [nameOf, lettersB, hl]
  cases h1 : p c
  · simp
  · cases h2 : cs.all (tailB d)
    · simp
    · simp [hr h1 h2]
theorem name_bad {p : UInt8 → Bool} {d : Bool} {s : ByteArray} (h : lettersB d s = false) : nameOf p (tailB d) s = false := by
  unfold lettersB at h
  unfold nameOf
  split
  · rfl
  · rename_i c cs hl
    rw [hl] at h
    simp only at h
    cases h1 : decide (cs.length < 16) <;> cases h2 : cs.all (tailB d) <;> simp_all
theorem rVariable_c (s : ByteArray) (st : ISt) : ICall prog gl 89 [.raw (.string s)] st (fun x st' => x = .raw (.bool (nmVar s)) ∧ st' = st) := by
  refine ICall.intro (c := cf prog gl [] []) func89 rfl (by show _ ≤ 10; simp) (by kernel_rfl) ?_
  simp -implicitDefEqProofs -dsimp only [go_sem, ↓reduceIte, zE, zB, zA, zM, zS, zL, reduceCtorEq]
  refine (letters_c gl s true _).mono ?_
  rintro _ st ⟨rfl, rfl⟩
  cases h : lettersB true s
  · simp -implicitDefEqProofs -dsimp only [go_sem, ↓reduceIte, zE, zB, zA, zM, zS, zL, reduceCtorEq]
    exact outK_self ⟨by rw [nmVar, ← tailB_true, name_bad h], rfl⟩
  · obtain ⟨c, cs, hl, h16, hq⟩ := letters_nil h
    simp -implicitDefEqProofs -dsimp only [go_sem, ↓reduceIte, zE, zB, zA, zM, zS, zL, reduceCtorEq, strAt_zero hl]
    refine (in_n gl c 117 122 _ _ rfl rfl _).mono ?_
    rintro _ st ⟨rfl, rfl⟩
    simp -implicitDefEqProofs -dsimp only [go_sem, ↓reduceIte, zE, zB, zA, zM, zS, zL, reduceCtorEq]
    refine outK_self ⟨?_, rfl⟩
    rw [nmVar, ← tailB_true, name_of_letters hl (fun h1 h2 => not_res hl h1 (by rw [tailB_true] at h2; exact h2) (by decide)), h, Bool.true_and]
theorem rPredicate_c (s : ByteArray) (st : ISt) : ICall prog gl 170 [.raw (.string s)] st (fun x st' => x = .raw (.bool (nmPred s)) ∧ st' = st) := by
  refine ICall.intro (c := cf prog gl [] []) func170 rfl (by show _ ≤ 10; simp) (by kernel_rfl) ?_
  simp -implicitDefEqProofs -dsimp only [go_sem, ↓reduceIte, zE, zB, zA, zM, zS, zL, reduceCtorEq]
  refine (letters_c gl s false _).mono ?_
  rintro _ st ⟨rfl, rfl⟩
  cases h : lettersB false s
  · simp -implicitDefEqProofs -dsimp only [go_sem, ↓reduceIte, zE, zB, zA, zM, zS, zL, reduceCtorEq]
    exact outK_self ⟨by rw [nmPred, ← tailB_false, name_bad h], rfl⟩
  · obtain ⟨c, cs, hl, h16, hq⟩ := letters_nil h
    simp -implicitDefEqProofs -dsimp only [go_sem, ↓reduceIte, zE, zB, zA, zM, zS, zL, reduceCtorEq, strAt_zero hl]
    refine (in_n gl c 65 90 _ _ rfl rfl _).mono ?_
    rintro _ st ⟨rfl, rfl⟩
    simp -implicitDefEqProofs -dsimp only [go_sem, ↓reduceIte, zE, zB, zA, zM, zS, zL, reduceCtorEq]
    refine outK_self ⟨?_, rfl⟩
    rw [nmPred, ← tailB_false, name_of_letters hl (fun h1 h2 => not_res hl h1 (by rw [tailB_false] at h2; exact h2) (by decide)), h, Bool.true_and]; rfl
theorem nmFun_word {s : ByteArray} (h : isReserved s = true) : nmFun s = false := by
  unfold nmFun nameOf
  split
  · rfl
  · simp [h]
theorem rFunction_c (s : ByteArray) (st : ISt) : ICall prog gl 153 [.raw (.string s)] st (fun x st' => x = .raw (.bool (nmFun s)) ∧ st' = st) := by
  refine ICall.intro (c := cf prog gl [] []) func153 rfl (by show _ ≤ 17; simp) (by kernel_rfl) ?_
  simp -implicitDefEqProofs -dsimp only [go_sem, ↓reduceIte, zE, zB, zA, zM, zS, zL, reduceCtorEq]
  refine condV_intro (fun h => ?_) (fun h => ?_)
  · simp -implicitDefEqProofs -dsimp only [go_sem, ↓reduceIte, zE, zB, zA, zM, zS, zL, reduceCtorEq, h]
    exact outK_self ⟨by rw [nmFun_word (by rw [show s = wAll from of_decide_eq_true h]; rfl)], rfl⟩
  have h1 : s ≠ wAll := of_decide_eq_false h
  simp -implicitDefEqProofs -dsimp only [go_sem, ↓reduceIte, zE, zB, zA, zM, zS, zL, reduceCtorEq, h]
  refine condV_intro (fun h => ?_) (fun h => ?_)
  · simp -implicitDefEqProofs -dsimp only [go_sem, ↓reduceIte, zE, zB, zA, zM, zS, zL, reduceCtorEq, h]
    exact outK_self ⟨by rw [nmFun_word (by rw [show s = wSome from of_decide_eq_true h]; rfl)], rfl⟩
  have h2 : s ≠ wSome := of_decide_eq_false h
  simp -implicitDefEqProofs -dsimp only [go_sem, ↓reduceIte, zE, zB, zA, zM, zS, zL, reduceCtorEq, h]
  refine condV_intro (fun h => ?_) (fun h => ?_)
  · simp -implicitDefEqProofs -dsimp only [go_sem, ↓reduceIte, zE, zB, zA, zM, zS, zL, reduceCtorEq, h]
    exact outK_self ⟨by rw [nmFun_word (by rw [show s = wFalse from of_decide_eq_true h]; rfl)], rfl⟩
  have h3 : s ≠ wFalse := of_decide_eq_false h
  simp -implicitDefEqProofs -dsimp only [go_sem, ↓reduceIte, zE, zB, zA, zM, zS, zL, reduceCtorEq, h]
  refine condV_intro (fun h => ?_) (fun h => ?_)
  · simp -implicitDefEqProofs -dsimp only [go_sem, ↓reduceIte, zE, zB, zA, zM, zS, zL, reduceCtorEq, h]
    exact outK_self ⟨by rw [nmFun_word (by rw [show s = wNext from of_decide_eq_true h]; rfl)], rfl⟩
  have h4 : s ≠ wNext := of_decide_eq_false h
  simp -implicitDefEqProofs -dsimp only [go_sem, ↓reduceIte, zE, zB, zA, zM, zS, zL, reduceCtorEq, h]
  refine condV_intro (fun h => ?_) (fun h => ?_)
  · simp -implicitDefEqProofs -dsimp only [go_sem, ↓reduceIte, zE, zB, zA, zM, zS, zL, reduceCtorEq, h]
    exact outK_self ⟨by rw [nmFun_word (by rw [show s = wAlways from of_decide_eq_true h]; rfl)], rfl⟩
  have h5 : s ≠ wAlways := of_decide_eq_false h
  simp -implicitDefEqProofs -dsimp only [go_sem, ↓reduceIte, zE, zB, zA, zM, zS, zL, reduceCtorEq, h]
  refine (letters_c gl s false _).mono ?_
  rintro _ st ⟨rfl, rfl⟩
  cases h : lettersB false s
  · simp -implicitDefEqProofs -dsimp only [go_sem, ↓reduceIte, zE, zB, zA, zM, zS, zL, reduceCtorEq]
    exact outK_self ⟨by rw [nmFun, ← tailB_false, name_bad h], rfl⟩
  · obtain ⟨c, cs, hl, h16, hq⟩ := letters_nil h
    simp -implicitDefEqProofs -dsimp only [go_sem, ↓reduceIte, zE, zB, zA, zM, zS, zL, reduceCtorEq, strAt_zero hl]
    refine (in_n gl c 97 116 _ _ rfl rfl _).mono ?_
    rintro _ st ⟨rfl, rfl⟩
    simp -implicitDefEqProofs -dsimp only [go_sem, ↓reduceIte, zE, zB, zA, zM, zS, zL, reduceCtorEq]
    refine outK_self ⟨?_, rfl⟩
    rw [nmFun, ← tailB_false, name_of_letters hl (fun k1 _ => ?_), h, Bool.true_and]
    have h6 : s ≠ wUntil := fun he => by
      rw [he] at hl
      have h7 : (117 : UInt8) = c := (List.cons.inj hl).1
      rw [← h7] at k1
      exact absurd k1 (by decide)
    unfold isReserved
    rw [decide_eq_false h1, decide_eq_false h2, decide_eq_false h3, decide_eq_false h4, decide_eq_false h5, decide_eq_false h6]; rfl

/-! ### Terms -/

def RTm (t : Tm) : Prop := ∀ (x : IV) (_ : IsTm t x) (_ : t.size ≤ 1099511627776) (st : ISt), ICall prog gl 132 [x, .raw (.bool false)] st (fun r st' => r = .raw (.bool t.ok) ∧ st' = st)
theorem okTms_append : ∀ (l m : List Tm), okTms (l ++ m) = (okTms l && okTms m)
  | [], m => by simp [okTms]
  | a :: l, m => by simp only [List.cons_append, okTms, okTms_append l m, Bool.and_assoc]
theorem okTms_bad {l : List Tm} {a : Tm} (h : a ∈ l) (ha : a.ok = false) : okTms l = false := by
  induction l with
  | nil => cases h
  | cons b l ih =>
    simp only [okTms]
    rcases List.mem_cons.1 h with rfl | h
    · simp [ha]
    · simp [ih h]
theorem len_le_sizes : ∀ l : List Tm, l.length ≤ sizeTms l
  | [] => Nat.le_refl _
  | a :: l => by have := len_le_sizes l; have := a.size_pos; simp only [List.length_cons, sizeTms]; omega
theorem size_mem {l : List Tm} {a : Tm} (h : a ∈ l) : a.size ≤ sizeTms l := by
  induction l with
  | nil => cases h
  | cons b l ih =>
    simp only [sizeTms]
    rcases List.mem_cons.1 h with rfl | h
    · omega
    · have := ih h; omega
theorem rterm_step (v : Bool) (n : ByteArray) (us : List Tm) (IH : ∀ a ∈ us, RTm gl a) : RTm gl (.mk v n us) := by
  intro x hx hsz st
  obtain ⟨tg, xs, rfl, htg, hxs⟩ := hx.mk
  simp only [Tm.size] at hsz
  have hlsz := len_le_sizes us
  refine ICall.intro (c := cf prog gl [] []) func132 rfl (by show _ ≤ 49; simp) (by kernel_rfl) ?_
  cases v
  · simp -implicitDefEqProofs -dsimp only [go_sem, ↓reduceIte, zE, zB, zA, zM, zS, zL, reduceCtorEq, fits]
    refine LoopC.ctr us.length (fun k fr st' ds => okTms (us.take k) = true ∧ fr 1 = .iv (.raw (.bool false)) ∧ fr 2 = .box [.raw (.bool false), .raw (.string n), .sl tg xs] ∧ fr 5 = .iv (.raw (.int .i64 k)) ∧ st' = st ∧ ds = []) ?_ ?_ ?_
    · simp -implicitDefEqProofs -dsimp only [go_sem, ↓reduceIte, zE, zB, zA, zM, zS, zL, reduceCtorEq]; exact ⟨rfl, rfl⟩
    · rintro k fr st _ hlt ⟨hok, f1, f2, f5, rfl, rfl⟩
      obtain ⟨a, ha⟩ := get_of_lt hlt
      obtain ⟨y, hky, hy⟩ := hxs.get ha
      have hmem := List.mem_of_getElem? ha
      have hcall := IH a hmem y hy (by have := size_mem hmem; omega) st
      obtain ⟨v3, n3, m3⟩ := a
      obtain ⟨t3, x3, rfl, _⟩ := hy.mk
      simp -implicitDefEqProofs -dsimp only [go_sem, ↓reduceIte, zE, zB, zA, zM, zS, zL, reduceCtorEq, f1, f2, f5, hxs.len, lt_i hlt, reTag_es htg, Int.natCast_nonneg, hky, fits]
      intros
      refine hcall.mono ?_
      rintro _ st ⟨rfl, rfl⟩
      cases hb : (Tm.mk v3 n3 m3).ok
      · simp -implicitDefEqProofs -dsimp only [go_sem, ↓reduceIte, zE, zB, zA, zM, zS, zL, reduceCtorEq]
        exact outK_self ⟨by rw [show (Tm.mk false n us).ok = false by simp [Tm.ok, okTms_bad hmem hb]], rfl⟩
      · simp -implicitDefEqProofs -dsimp only [go_sem, ↓reduceIte, zE, zB, zA, zM, zS, zL, reduceCtorEq, f1, f2, f5, w_succ hlt (show us.length ≤ 281474976710656 by omega)]
        rw [take_get ha, okTms_append, hok]
        simp [okTms, hb]
    · rintro fr st _ ⟨hok, f1, f2, f5, rfl, rfl⟩
      rw [List.take_length] at hok
      simp -implicitDefEqProofs -dsimp only [go_sem, ↓reduceIte, zE, zB, zA, zM, zS, zL, reduceCtorEq, f1, f2, f5, hxs.len, nlt_i (Nat.lt_irrefl _), fits]
      intros
      refine (rFunction_c gl n _).mono ?_
      rintro _ st ⟨rfl, rfl⟩
      cases hn : nmFun n
      · simp -implicitDefEqProofs -dsimp only [go_sem, ↓reduceIte, zE, zB, zA, zM, zS, zL, reduceCtorEq]
        exact outK_self ⟨by simp [Tm.ok, hn], rfl⟩
      · simp -implicitDefEqProofs -dsimp only [go_sem, ↓reduceIte, zE, zB, zA, zM, zS, zL, reduceCtorEq, f2, hxs.len, fits]
        intros
        refine outK_self ⟨?_, rfl⟩
        simp only [Tm.ok, hn, hok, Bool.and_true]
        congr 3
        simp
        omega
  · simp -implicitDefEqProofs -dsimp only [go_sem, ↓reduceIte, zE, zB, zA, zM, zS, zL, reduceCtorEq, fits, hxs.len]
    intros
    by_cases h0 : us.length = 0
    · obtain rfl := List.eq_nil_of_length_eq_zero h0
      simp -implicitDefEqProofs -dsimp only [go_sem, ↓reduceIte, zE, zB, zA, zM, zS, zL, reduceCtorEq, fits, show decide (((0 : Nat) : Int) = 0) = true from rfl]
      refine (rVariable_c gl n _).mono ?_
      rintro _ st ⟨rfl, rfl⟩
      cases hn : nmVar n
      · simp -implicitDefEqProofs -dsimp only [go_sem, ↓reduceIte, zE, zB, zA, zM, zS, zL, reduceCtorEq]
        exact outK_self ⟨by simp [Tm.ok, hn], rfl⟩
      · simp -implicitDefEqProofs -dsimp only [go_sem, ↓reduceIte, zE, zB, zA, zM, zS, zL, reduceCtorEq]
        exact outK_self ⟨by simp [Tm.ok, hn], rfl⟩
    · simp -implicitDefEqProofs -dsimp only [go_sem, ↓reduceIte, zE, zB, zA, zM, zS, zL, reduceCtorEq, fits, show decide ((us.length : Int) = 0) = false from decide_eq_false (by omega)]
      exact outK_self ⟨by cases us with | nil => exact absurd rfl h0 | cons => simp [Tm.ok], rfl⟩
theorem rterm_all : ∀ (k : Nat) (t : Tm), SizeOf.sizeOf t < k → RTm gl t
  | 0, f, h => by omega
  | k + 1, .mk v n us, h => rterm_step gl v n us (fun a ha => rterm_all k a (by
      have := List.sizeOf_lt_of_mem ha
      simp at h; omega))
theorem rterm_c (t : Tm) : RTm gl t := rterm_all gl _ t (Nat.lt_succ_self _)
theorem rTerm_c (t : Tm) (x : IV) (hx : IsTm t x) (hs : t.size ≤ 1099511627776) (st : ISt) : ICall prog gl 90 [x] st (fun r st' => r = .raw (.bool t.ok) ∧ st' = st) := by
  have hc := fun st => rterm_c gl t x hx hs st
  obtain ⟨v, n, us⟩ := t
  obtain ⟨tg, xs, rfl, _⟩ := hx.mk
  refine ICall.intro (c := cf prog gl [] []) func90 rfl (by show _ ≤ 5; simp) (by kernel_rfl) ?_
  simp -implicitDefEqProofs -dsimp only [go_sem, ↓reduceIte, zE, zB, zA, zM, zS, zL, reduceCtorEq, fits]
  refine (hc _).mono ?_
  rintro _ st ⟨rfl, rfl⟩
  simp -implicitDefEqProofs -dsimp only [go_sem, ↓reduceIte, zE, zB, zA, zM, zS, zL, reduceCtorEq]
  exact outK_self ⟨rfl, rfl⟩
end Go.Proofs.Tryz

namespace Go.Proofs.Tryz
open Go Go.Iv
set_option maxRecDepth 4000
variable (gl : Nat → Option IV)

theorem di0 (a : Nat) : decide ((a : Int) = 0) = decide (a = 0) := by by_cases h : a = 0 <;> simp [h] <;> omega
theorem di1 (a : Nat) : decide ((a : Int) = 1) = decide (a = 1) := by by_cases h : a = 1 <;> simp [h] <;> omega
theorem di2 (a : Nat) : decide ((a : Int) = 2) = decide (a = 2) := by by_cases h : a = 2 <;> simp [h] <;> omega
theorem dle4 (a : Nat) : decide ((a : Int) ≤ 4) = decide (a ≤ 4) := by by_cases h : a ≤ 4 <;> simp [h] <;> omega
theorem okRow_no {op : Nat} {n : ByteArray} {la ls : Nat} (h : op = 0 ∨ 16 < op) : okRow op n la ls = false := by
  unfold okRow
  split <;> first | rfl | omega
theorem row_c (op : Nat) (n : ByteArray) (us : List Tm) (sub : List Fm) (x : IV) (hx : IsFm (.mk op n us sub) x) (st : ISt) :
    ICall prog gl 151 [x, .raw (.bool false)] st (fun r st' => r = .raw (.bool (okRow op n us.length sub.length)) ∧ st' = st) := by
  obtain ⟨ta, xa, tb, xb, rfl, ho, hta, hxa, htb, hxb⟩ := hx.mk
  refine ICall.intro (c := cf prog gl [] []) func151 rfl (by show _ ≤ 151; simp) (by kernel_rfl) ?_
  simp -implicitDefEqProofs -dsimp only [go_sem, ↓reduceIte, zE, zB, zA, zM, zS, zL, reduceCtorEq, fits, hxa.len, hxb.len]
  intros
  rcases (show op = 1 ∨ op = 2 ∨ op = 3 ∨ op = 4 ∨ op = 5 ∨ op = 6 ∨ op = 7 ∨ op = 8 ∨ op = 9 ∨ op = 10 ∨ op = 11 ∨ op = 12 ∨ op = 13 ∨ op = 14 ∨ op = 15 ∨ op = 16 ∨ (op = 0 ∨ 16 < op) by omega) with h | h | h | h | h | h | h | h | h | h | h | h | h | h | h | h | h
  · simp -implicitDefEqProofs -dsimp only [go_sem, ↓reduceIte, zE, zB, zA, zM, zS, zL, reduceCtorEq, show decide ((op : Int) = 1) = true from decide_eq_true (by omega), fits, hxa.len, hxb.len]
    refine (rPredicate_c gl n _).mono ?_
    rintro _ st ⟨rfl, rfl⟩
    cases h1 : nmPred n
    · simp -implicitDefEqProofs -dsimp only [go_sem, ↓reduceIte, zE, zB, zA, zM, zS, zL, reduceCtorEq, show decide ((op : Int) = 1) = true from decide_eq_true (by omega), fits, hxa.len, hxb.len]
      exact outK_self ⟨by subst h; simp [okRow, h1], rfl⟩
    · cases h2 : decide (us.length ≤ 4)
      · simp -implicitDefEqProofs -dsimp only [go_sem, ↓reduceIte, zE, zB, zA, zM, zS, zL, reduceCtorEq, fits, hxa.len, hxb.len, dle4, h2]
        exact outK_self ⟨by subst h; simp only [okRow, h1, h2, Bool.and_false, Bool.false_and, Bool.true_and, Bool.and_true], rfl⟩
      · simp -implicitDefEqProofs -dsimp only [go_sem, ↓reduceIte, zE, zB, zA, zM, zS, zL, reduceCtorEq, fits, hxa.len, hxb.len, dle4, h2, di0]
        exact outK_self ⟨by subst h; simp only [okRow, h1, h2, Bool.and_false, Bool.false_and, Bool.true_and, Bool.and_true], rfl⟩
  · cases h1 : decide (n = ⟨#[]⟩)
    · simp -implicitDefEqProofs -dsimp only [go_sem, ↓reduceIte, zE, zB, zA, zM, zS, zL, reduceCtorEq, show decide ((op : Int) = 1) = false from decide_eq_false (by omega), show decide ((op : Int) = 2) = true from decide_eq_true (by omega), fits, hxa.len, hxb.len, h1]
      exact outK_self ⟨by subst h; simp [okRow, h1], rfl⟩
    · cases h2 : decide (us.length = 0)
      · simp -implicitDefEqProofs -dsimp only [go_sem, ↓reduceIte, zE, zB, zA, zM, zS, zL, reduceCtorEq, show decide ((op : Int) = 1) = false from decide_eq_false (by omega), show decide ((op : Int) = 2) = true from decide_eq_true (by omega), fits, hxa.len, hxb.len, h1, di0, h2]
        exact outK_self ⟨by subst h; simp only [okRow, h1, h2, Bool.and_false, Bool.false_and, Bool.true_and, Bool.and_true], rfl⟩
      · simp -implicitDefEqProofs -dsimp only [go_sem, ↓reduceIte, zE, zB, zA, zM, zS, zL, reduceCtorEq, show decide ((op : Int) = 1) = false from decide_eq_false (by omega), show decide ((op : Int) = 2) = true from decide_eq_true (by omega), fits, hxa.len, hxb.len, h1, di0, h2, di0]
        exact outK_self ⟨by subst h; simp only [okRow, h1, h2, Bool.and_false, Bool.false_and, Bool.true_and, Bool.and_true], rfl⟩
  · cases h1 : decide (n = ⟨#[]⟩)
    · simp -implicitDefEqProofs -dsimp only [go_sem, ↓reduceIte, zE, zB, zA, zM, zS, zL, reduceCtorEq, show decide ((op : Int) = 1) = false from decide_eq_false (by omega), show decide ((op : Int) = 2) = false from decide_eq_false (by omega), show decide ((op : Int) = 3) = true from decide_eq_true (by omega), fits, hxa.len, hxb.len, h1]
      exact outK_self ⟨by subst h; simp [okRow, h1], rfl⟩
    · cases h2 : decide (us.length = 0)
      · simp -implicitDefEqProofs -dsimp only [go_sem, ↓reduceIte, zE, zB, zA, zM, zS, zL, reduceCtorEq, show decide ((op : Int) = 1) = false from decide_eq_false (by omega), show decide ((op : Int) = 2) = false from decide_eq_false (by omega), show decide ((op : Int) = 3) = true from decide_eq_true (by omega), fits, hxa.len, hxb.len, h1, di0, h2]
        exact outK_self ⟨by subst h; simp only [okRow, h1, h2, Bool.and_false, Bool.false_and, Bool.true_and, Bool.and_true], rfl⟩
      · simp -implicitDefEqProofs -dsimp only [go_sem, ↓reduceIte, zE, zB, zA, zM, zS, zL, reduceCtorEq, show decide ((op : Int) = 1) = false from decide_eq_false (by omega), show decide ((op : Int) = 2) = false from decide_eq_false (by omega), show decide ((op : Int) = 3) = true from decide_eq_true (by omega), fits, hxa.len, hxb.len, h1, di0, h2, di1]
        exact outK_self ⟨by subst h; simp only [okRow, h1, h2, Bool.and_false, Bool.false_and, Bool.true_and, Bool.and_true], rfl⟩
  · cases h1 : decide (n = ⟨#[]⟩)
    · simp -implicitDefEqProofs -dsimp only [go_sem, ↓reduceIte, zE, zB, zA, zM, zS, zL, reduceCtorEq, show decide ((op : Int) = 1) = false from decide_eq_false (by omega), show decide ((op : Int) = 2) = false from decide_eq_false (by omega), show decide ((op : Int) = 3) = false from decide_eq_false (by omega), show decide ((op : Int) = 10) = false from decide_eq_false (by omega), show decide ((op : Int) = 11) = false from decide_eq_false (by omega), show decide ((op : Int) = 12) = false from decide_eq_false (by omega), show decide ((op : Int) = 13) = false from decide_eq_false (by omega), show decide ((op : Int) = 4) = true from decide_eq_true (by omega), fits, hxa.len, hxb.len, h1]
      exact outK_self ⟨by subst h; simp [okRow, h1], rfl⟩
    · cases h2 : decide (us.length = 0)
      · simp -implicitDefEqProofs -dsimp only [go_sem, ↓reduceIte, zE, zB, zA, zM, zS, zL, reduceCtorEq, show decide ((op : Int) = 1) = false from decide_eq_false (by omega), show decide ((op : Int) = 2) = false from decide_eq_false (by omega), show decide ((op : Int) = 3) = false from decide_eq_false (by omega), show decide ((op : Int) = 10) = false from decide_eq_false (by omega), show decide ((op : Int) = 11) = false from decide_eq_false (by omega), show decide ((op : Int) = 12) = false from decide_eq_false (by omega), show decide ((op : Int) = 13) = false from decide_eq_false (by omega), show decide ((op : Int) = 4) = true from decide_eq_true (by omega), fits, hxa.len, hxb.len, h1, di0, h2]
        exact outK_self ⟨by subst h; simp only [okRow, h1, h2, Bool.and_false, Bool.false_and, Bool.true_and, Bool.and_true], rfl⟩
      · simp -implicitDefEqProofs -dsimp only [go_sem, ↓reduceIte, zE, zB, zA, zM, zS, zL, reduceCtorEq, show decide ((op : Int) = 1) = false from decide_eq_false (by omega), show decide ((op : Int) = 2) = false from decide_eq_false (by omega), show decide ((op : Int) = 3) = false from decide_eq_false (by omega), show decide ((op : Int) = 10) = false from decide_eq_false (by omega), show decide ((op : Int) = 11) = false from decide_eq_false (by omega), show decide ((op : Int) = 12) = false from decide_eq_false (by omega), show decide ((op : Int) = 13) = false from decide_eq_false (by omega), show decide ((op : Int) = 4) = true from decide_eq_true (by omega), fits, hxa.len, hxb.len, h1, di0, h2, di2]
        exact outK_self ⟨by subst h; simp only [okRow, h1, h2, Bool.and_false, Bool.false_and, Bool.true_and, Bool.and_true], rfl⟩
  · cases h1 : decide (n = ⟨#[]⟩)
    · simp -implicitDefEqProofs -dsimp only [go_sem, ↓reduceIte, zE, zB, zA, zM, zS, zL, reduceCtorEq, show decide ((op : Int) = 1) = false from decide_eq_false (by omega), show decide ((op : Int) = 2) = false from decide_eq_false (by omega), show decide ((op : Int) = 3) = false from decide_eq_false (by omega), show decide ((op : Int) = 10) = false from decide_eq_false (by omega), show decide ((op : Int) = 11) = false from decide_eq_false (by omega), show decide ((op : Int) = 12) = false from decide_eq_false (by omega), show decide ((op : Int) = 13) = false from decide_eq_false (by omega), show decide ((op : Int) = 4) = false from decide_eq_false (by omega), show decide ((op : Int) = 5) = true from decide_eq_true (by omega), fits, hxa.len, hxb.len, h1]
      exact outK_self ⟨by subst h; simp [okRow, h1], rfl⟩
    · cases h2 : decide (us.length = 0)
      · simp -implicitDefEqProofs -dsimp only [go_sem, ↓reduceIte, zE, zB, zA, zM, zS, zL, reduceCtorEq, show decide ((op : Int) = 1) = false from decide_eq_false (by omega), show decide ((op : Int) = 2) = false from decide_eq_false (by omega), show decide ((op : Int) = 3) = false from decide_eq_false (by omega), show decide ((op : Int) = 10) = false from decide_eq_false (by omega), show decide ((op : Int) = 11) = false from decide_eq_false (by omega), show decide ((op : Int) = 12) = false from decide_eq_false (by omega), show decide ((op : Int) = 13) = false from decide_eq_false (by omega), show decide ((op : Int) = 4) = false from decide_eq_false (by omega), show decide ((op : Int) = 5) = true from decide_eq_true (by omega), fits, hxa.len, hxb.len, h1, di0, h2]
        exact outK_self ⟨by subst h; simp only [okRow, h1, h2, Bool.and_false, Bool.false_and, Bool.true_and, Bool.and_true], rfl⟩
      · simp -implicitDefEqProofs -dsimp only [go_sem, ↓reduceIte, zE, zB, zA, zM, zS, zL, reduceCtorEq, show decide ((op : Int) = 1) = false from decide_eq_false (by omega), show decide ((op : Int) = 2) = false from decide_eq_false (by omega), show decide ((op : Int) = 3) = false from decide_eq_false (by omega), show decide ((op : Int) = 10) = false from decide_eq_false (by omega), show decide ((op : Int) = 11) = false from decide_eq_false (by omega), show decide ((op : Int) = 12) = false from decide_eq_false (by omega), show decide ((op : Int) = 13) = false from decide_eq_false (by omega), show decide ((op : Int) = 4) = false from decide_eq_false (by omega), show decide ((op : Int) = 5) = true from decide_eq_true (by omega), fits, hxa.len, hxb.len, h1, di0, h2, di2]
        exact outK_self ⟨by subst h; simp only [okRow, h1, h2, Bool.and_false, Bool.false_and, Bool.true_and, Bool.and_true], rfl⟩
  · cases h1 : decide (n = ⟨#[]⟩)
    · simp -implicitDefEqProofs -dsimp only [go_sem, ↓reduceIte, zE, zB, zA, zM, zS, zL, reduceCtorEq, show decide ((op : Int) = 1) = false from decide_eq_false (by omega), show decide ((op : Int) = 2) = false from decide_eq_false (by omega), show decide ((op : Int) = 3) = false from decide_eq_false (by omega), show decide ((op : Int) = 10) = false from decide_eq_false (by omega), show decide ((op : Int) = 11) = false from decide_eq_false (by omega), show decide ((op : Int) = 12) = false from decide_eq_false (by omega), show decide ((op : Int) = 13) = false from decide_eq_false (by omega), show decide ((op : Int) = 4) = false from decide_eq_false (by omega), show decide ((op : Int) = 5) = false from decide_eq_false (by omega), show decide ((op : Int) = 6) = true from decide_eq_true (by omega), fits, hxa.len, hxb.len, h1]
      exact outK_self ⟨by subst h; simp [okRow, h1], rfl⟩
    · cases h2 : decide (us.length = 0)
      · simp -implicitDefEqProofs -dsimp only [go_sem, ↓reduceIte, zE, zB, zA, zM, zS, zL, reduceCtorEq, show decide ((op : Int) = 1) = false from decide_eq_false (by omega), show decide ((op : Int) = 2) = false from decide_eq_false (by omega), show decide ((op : Int) = 3) = false from decide_eq_false (by omega), show decide ((op : Int) = 10) = false from decide_eq_false (by omega), show decide ((op : Int) = 11) = false from decide_eq_false (by omega), show decide ((op : Int) = 12) = false from decide_eq_false (by omega), show decide ((op : Int) = 13) = false from decide_eq_false (by omega), show decide ((op : Int) = 4) = false from decide_eq_false (by omega), show decide ((op : Int) = 5) = false from decide_eq_false (by omega), show decide ((op : Int) = 6) = true from decide_eq_true (by omega), fits, hxa.len, hxb.len, h1, di0, h2]
        exact outK_self ⟨by subst h; simp only [okRow, h1, h2, Bool.and_false, Bool.false_and, Bool.true_and, Bool.and_true], rfl⟩
      · simp -implicitDefEqProofs -dsimp only [go_sem, ↓reduceIte, zE, zB, zA, zM, zS, zL, reduceCtorEq, show decide ((op : Int) = 1) = false from decide_eq_false (by omega), show decide ((op : Int) = 2) = false from decide_eq_false (by omega), show decide ((op : Int) = 3) = false from decide_eq_false (by omega), show decide ((op : Int) = 10) = false from decide_eq_false (by omega), show decide ((op : Int) = 11) = false from decide_eq_false (by omega), show decide ((op : Int) = 12) = false from decide_eq_false (by omega), show decide ((op : Int) = 13) = false from decide_eq_false (by omega), show decide ((op : Int) = 4) = false from decide_eq_false (by omega), show decide ((op : Int) = 5) = false from decide_eq_false (by omega), show decide ((op : Int) = 6) = true from decide_eq_true (by omega), fits, hxa.len, hxb.len, h1, di0, h2, di2]
        exact outK_self ⟨by subst h; simp only [okRow, h1, h2, Bool.and_false, Bool.false_and, Bool.true_and, Bool.and_true], rfl⟩
  · cases h1 : decide (n = ⟨#[]⟩)
    · simp -implicitDefEqProofs -dsimp only [go_sem, ↓reduceIte, zE, zB, zA, zM, zS, zL, reduceCtorEq, show decide ((op : Int) = 1) = false from decide_eq_false (by omega), show decide ((op : Int) = 2) = false from decide_eq_false (by omega), show decide ((op : Int) = 3) = false from decide_eq_false (by omega), show decide ((op : Int) = 10) = false from decide_eq_false (by omega), show decide ((op : Int) = 11) = false from decide_eq_false (by omega), show decide ((op : Int) = 12) = false from decide_eq_false (by omega), show decide ((op : Int) = 13) = false from decide_eq_false (by omega), show decide ((op : Int) = 4) = false from decide_eq_false (by omega), show decide ((op : Int) = 5) = false from decide_eq_false (by omega), show decide ((op : Int) = 6) = false from decide_eq_false (by omega), show decide ((op : Int) = 7) = true from decide_eq_true (by omega), fits, hxa.len, hxb.len, h1]
      exact outK_self ⟨by subst h; simp [okRow, h1], rfl⟩
    · cases h2 : decide (us.length = 0)
      · simp -implicitDefEqProofs -dsimp only [go_sem, ↓reduceIte, zE, zB, zA, zM, zS, zL, reduceCtorEq, show decide ((op : Int) = 1) = false from decide_eq_false (by omega), show decide ((op : Int) = 2) = false from decide_eq_false (by omega), show decide ((op : Int) = 3) = false from decide_eq_false (by omega), show decide ((op : Int) = 10) = false from decide_eq_false (by omega), show decide ((op : Int) = 11) = false from decide_eq_false (by omega), show decide ((op : Int) = 12) = false from decide_eq_false (by omega), show decide ((op : Int) = 13) = false from decide_eq_false (by omega), show decide ((op : Int) = 4) = false from decide_eq_false (by omega), show decide ((op : Int) = 5) = false from decide_eq_false (by omega), show decide ((op : Int) = 6) = false from decide_eq_false (by omega), show decide ((op : Int) = 7) = true from decide_eq_true (by omega), fits, hxa.len, hxb.len, h1, di0, h2]
        exact outK_self ⟨by subst h; simp only [okRow, h1, h2, Bool.and_false, Bool.false_and, Bool.true_and, Bool.and_true], rfl⟩
      · simp -implicitDefEqProofs -dsimp only [go_sem, ↓reduceIte, zE, zB, zA, zM, zS, zL, reduceCtorEq, show decide ((op : Int) = 1) = false from decide_eq_false (by omega), show decide ((op : Int) = 2) = false from decide_eq_false (by omega), show decide ((op : Int) = 3) = false from decide_eq_false (by omega), show decide ((op : Int) = 10) = false from decide_eq_false (by omega), show decide ((op : Int) = 11) = false from decide_eq_false (by omega), show decide ((op : Int) = 12) = false from decide_eq_false (by omega), show decide ((op : Int) = 13) = false from decide_eq_false (by omega), show decide ((op : Int) = 4) = false from decide_eq_false (by omega), show decide ((op : Int) = 5) = false from decide_eq_false (by omega), show decide ((op : Int) = 6) = false from decide_eq_false (by omega), show decide ((op : Int) = 7) = true from decide_eq_true (by omega), fits, hxa.len, hxb.len, h1, di0, h2, di2]
        exact outK_self ⟨by subst h; simp only [okRow, h1, h2, Bool.and_false, Bool.false_and, Bool.true_and, Bool.and_true], rfl⟩
  · simp -implicitDefEqProofs -dsimp only [go_sem, ↓reduceIte, zE, zB, zA, zM, zS, zL, reduceCtorEq, show decide ((op : Int) = 1) = false from decide_eq_false (by omega), show decide ((op : Int) = 2) = false from decide_eq_false (by omega), show decide ((op : Int) = 3) = false from decide_eq_false (by omega), show decide ((op : Int) = 10) = false from decide_eq_false (by omega), show decide ((op : Int) = 11) = false from decide_eq_false (by omega), show decide ((op : Int) = 12) = false from decide_eq_false (by omega), show decide ((op : Int) = 13) = false from decide_eq_false (by omega), show decide ((op : Int) = 4) = false from decide_eq_false (by omega), show decide ((op : Int) = 5) = false from decide_eq_false (by omega), show decide ((op : Int) = 6) = false from decide_eq_false (by omega), show decide ((op : Int) = 7) = false from decide_eq_false (by omega), show decide ((op : Int) = 14) = false from decide_eq_false (by omega), show decide ((op : Int) = 8) = true from decide_eq_true (by omega), fits, hxa.len, hxb.len]
    refine (rVariable_c gl n _).mono ?_
    rintro _ st ⟨rfl, rfl⟩
    cases h1 : nmVar n
    · simp -implicitDefEqProofs -dsimp only [go_sem, ↓reduceIte, zE, zB, zA, zM, zS, zL, reduceCtorEq, show decide ((op : Int) = 1) = false from decide_eq_false (by omega), show decide ((op : Int) = 2) = false from decide_eq_false (by omega), show decide ((op : Int) = 3) = false from decide_eq_false (by omega), show decide ((op : Int) = 10) = false from decide_eq_false (by omega), show decide ((op : Int) = 11) = false from decide_eq_false (by omega), show decide ((op : Int) = 12) = false from decide_eq_false (by omega), show decide ((op : Int) = 13) = false from decide_eq_false (by omega), show decide ((op : Int) = 4) = false from decide_eq_false (by omega), show decide ((op : Int) = 5) = false from decide_eq_false (by omega), show decide ((op : Int) = 6) = false from decide_eq_false (by omega), show decide ((op : Int) = 7) = false from decide_eq_false (by omega), show decide ((op : Int) = 14) = false from decide_eq_false (by omega), show decide ((op : Int) = 8) = true from decide_eq_true (by omega), fits, hxa.len, hxb.len]
      exact outK_self ⟨by subst h; simp [okRow, h1], rfl⟩
    · cases h2 : decide (us.length = 0)
      · simp -implicitDefEqProofs -dsimp only [go_sem, ↓reduceIte, zE, zB, zA, zM, zS, zL, reduceCtorEq, fits, hxa.len, hxb.len, di0, h2]
        exact outK_self ⟨by subst h; simp only [okRow, h1, h2, Bool.and_false, Bool.false_and, Bool.true_and, Bool.and_true], rfl⟩
      · simp -implicitDefEqProofs -dsimp only [go_sem, ↓reduceIte, zE, zB, zA, zM, zS, zL, reduceCtorEq, fits, hxa.len, hxb.len, di0, h2, di1]
        exact outK_self ⟨by subst h; simp only [okRow, h1, h2, Bool.and_false, Bool.false_and, Bool.true_and, Bool.and_true], rfl⟩
  · simp -implicitDefEqProofs -dsimp only [go_sem, ↓reduceIte, zE, zB, zA, zM, zS, zL, reduceCtorEq, show decide ((op : Int) = 1) = false from decide_eq_false (by omega), show decide ((op : Int) = 2) = false from decide_eq_false (by omega), show decide ((op : Int) = 3) = false from decide_eq_false (by omega), show decide ((op : Int) = 10) = false from decide_eq_false (by omega), show decide ((op : Int) = 11) = false from decide_eq_false (by omega), show decide ((op : Int) = 12) = false from decide_eq_false (by omega), show decide ((op : Int) = 13) = false from decide_eq_false (by omega), show decide ((op : Int) = 4) = false from decide_eq_false (by omega), show decide ((op : Int) = 5) = false from decide_eq_false (by omega), show decide ((op : Int) = 6) = false from decide_eq_false (by omega), show decide ((op : Int) = 7) = false from decide_eq_false (by omega), show decide ((op : Int) = 14) = false from decide_eq_false (by omega), show decide ((op : Int) = 8) = false from decide_eq_false (by omega), show decide ((op : Int) = 9) = true from decide_eq_true (by omega), fits, hxa.len, hxb.len]
    refine (rVariable_c gl n _).mono ?_
    rintro _ st ⟨rfl, rfl⟩
    cases h1 : nmVar n
    · simp -implicitDefEqProofs -dsimp only [go_sem, ↓reduceIte, zE, zB, zA, zM, zS, zL, reduceCtorEq, show decide ((op : Int) = 1) = false from decide_eq_false (by omega), show decide ((op : Int) = 2) = false from decide_eq_false (by omega), show decide ((op : Int) = 3) = false from decide_eq_false (by omega), show decide ((op : Int) = 10) = false from decide_eq_false (by omega), show decide ((op : Int) = 11) = false from decide_eq_false (by omega), show decide ((op : Int) = 12) = false from decide_eq_false (by omega), show decide ((op : Int) = 13) = false from decide_eq_false (by omega), show decide ((op : Int) = 4) = false from decide_eq_false (by omega), show decide ((op : Int) = 5) = false from decide_eq_false (by omega), show decide ((op : Int) = 6) = false from decide_eq_false (by omega), show decide ((op : Int) = 7) = false from decide_eq_false (by omega), show decide ((op : Int) = 14) = false from decide_eq_false (by omega), show decide ((op : Int) = 8) = false from decide_eq_false (by omega), show decide ((op : Int) = 9) = true from decide_eq_true (by omega), fits, hxa.len, hxb.len]
      exact outK_self ⟨by subst h; simp [okRow, h1], rfl⟩
    · cases h2 : decide (us.length = 0)
      · simp -implicitDefEqProofs -dsimp only [go_sem, ↓reduceIte, zE, zB, zA, zM, zS, zL, reduceCtorEq, fits, hxa.len, hxb.len, di0, h2]
        exact outK_self ⟨by subst h; simp only [okRow, h1, h2, Bool.and_false, Bool.false_and, Bool.true_and, Bool.and_true], rfl⟩
      · simp -implicitDefEqProofs -dsimp only [go_sem, ↓reduceIte, zE, zB, zA, zM, zS, zL, reduceCtorEq, fits, hxa.len, hxb.len, di0, h2, di1]
        exact outK_self ⟨by subst h; simp only [okRow, h1, h2, Bool.and_false, Bool.false_and, Bool.true_and, Bool.and_true], rfl⟩
  · cases h1 : decide (n = ⟨#[]⟩)
    · simp -implicitDefEqProofs -dsimp only [go_sem, ↓reduceIte, zE, zB, zA, zM, zS, zL, reduceCtorEq, show decide ((op : Int) = 1) = false from decide_eq_false (by omega), show decide ((op : Int) = 2) = false from decide_eq_false (by omega), show decide ((op : Int) = 3) = false from decide_eq_false (by omega), show decide ((op : Int) = 10) = true from decide_eq_true (by omega), fits, hxa.len, hxb.len, h1]
      exact outK_self ⟨by subst h; simp [okRow, h1], rfl⟩
    · cases h2 : decide (us.length = 0)
      · simp -implicitDefEqProofs -dsimp only [go_sem, ↓reduceIte, zE, zB, zA, zM, zS, zL, reduceCtorEq, show decide ((op : Int) = 1) = false from decide_eq_false (by omega), show decide ((op : Int) = 2) = false from decide_eq_false (by omega), show decide ((op : Int) = 3) = false from decide_eq_false (by omega), show decide ((op : Int) = 10) = true from decide_eq_true (by omega), fits, hxa.len, hxb.len, h1, di0, h2]
        exact outK_self ⟨by subst h; simp only [okRow, h1, h2, Bool.and_false, Bool.false_and, Bool.true_and, Bool.and_true], rfl⟩
      · simp -implicitDefEqProofs -dsimp only [go_sem, ↓reduceIte, zE, zB, zA, zM, zS, zL, reduceCtorEq, show decide ((op : Int) = 1) = false from decide_eq_false (by omega), show decide ((op : Int) = 2) = false from decide_eq_false (by omega), show decide ((op : Int) = 3) = false from decide_eq_false (by omega), show decide ((op : Int) = 10) = true from decide_eq_true (by omega), fits, hxa.len, hxb.len, h1, di0, h2, di1]
        exact outK_self ⟨by subst h; simp only [okRow, h1, h2, Bool.and_false, Bool.false_and, Bool.true_and, Bool.and_true], rfl⟩
  · cases h1 : decide (n = ⟨#[]⟩)
    · simp -implicitDefEqProofs -dsimp only [go_sem, ↓reduceIte, zE, zB, zA, zM, zS, zL, reduceCtorEq, show decide ((op : Int) = 1) = false from decide_eq_false (by omega), show decide ((op : Int) = 2) = false from decide_eq_false (by omega), show decide ((op : Int) = 3) = false from decide_eq_false (by omega), show decide ((op : Int) = 10) = false from decide_eq_false (by omega), show decide ((op : Int) = 11) = true from decide_eq_true (by omega), fits, hxa.len, hxb.len, h1]
      exact outK_self ⟨by subst h; simp [okRow, h1], rfl⟩
    · cases h2 : decide (us.length = 0)
      · simp -implicitDefEqProofs -dsimp only [go_sem, ↓reduceIte, zE, zB, zA, zM, zS, zL, reduceCtorEq, show decide ((op : Int) = 1) = false from decide_eq_false (by omega), show decide ((op : Int) = 2) = false from decide_eq_false (by omega), show decide ((op : Int) = 3) = false from decide_eq_false (by omega), show decide ((op : Int) = 10) = false from decide_eq_false (by omega), show decide ((op : Int) = 11) = true from decide_eq_true (by omega), fits, hxa.len, hxb.len, h1, di0, h2]
        exact outK_self ⟨by subst h; simp only [okRow, h1, h2, Bool.and_false, Bool.false_and, Bool.true_and, Bool.and_true], rfl⟩
      · simp -implicitDefEqProofs -dsimp only [go_sem, ↓reduceIte, zE, zB, zA, zM, zS, zL, reduceCtorEq, show decide ((op : Int) = 1) = false from decide_eq_false (by omega), show decide ((op : Int) = 2) = false from decide_eq_false (by omega), show decide ((op : Int) = 3) = false from decide_eq_false (by omega), show decide ((op : Int) = 10) = false from decide_eq_false (by omega), show decide ((op : Int) = 11) = true from decide_eq_true (by omega), fits, hxa.len, hxb.len, h1, di0, h2, di1]
        exact outK_self ⟨by subst h; simp only [okRow, h1, h2, Bool.and_false, Bool.false_and, Bool.true_and, Bool.and_true], rfl⟩
  · cases h1 : decide (n = ⟨#[]⟩)
    · simp -implicitDefEqProofs -dsimp only [go_sem, ↓reduceIte, zE, zB, zA, zM, zS, zL, reduceCtorEq, show decide ((op : Int) = 1) = false from decide_eq_false (by omega), show decide ((op : Int) = 2) = false from decide_eq_false (by omega), show decide ((op : Int) = 3) = false from decide_eq_false (by omega), show decide ((op : Int) = 10) = false from decide_eq_false (by omega), show decide ((op : Int) = 11) = false from decide_eq_false (by omega), show decide ((op : Int) = 12) = true from decide_eq_true (by omega), fits, hxa.len, hxb.len, h1]
      exact outK_self ⟨by subst h; simp [okRow, h1], rfl⟩
    · cases h2 : decide (us.length = 0)
      · simp -implicitDefEqProofs -dsimp only [go_sem, ↓reduceIte, zE, zB, zA, zM, zS, zL, reduceCtorEq, show decide ((op : Int) = 1) = false from decide_eq_false (by omega), show decide ((op : Int) = 2) = false from decide_eq_false (by omega), show decide ((op : Int) = 3) = false from decide_eq_false (by omega), show decide ((op : Int) = 10) = false from decide_eq_false (by omega), show decide ((op : Int) = 11) = false from decide_eq_false (by omega), show decide ((op : Int) = 12) = true from decide_eq_true (by omega), fits, hxa.len, hxb.len, h1, di0, h2]
        exact outK_self ⟨by subst h; simp only [okRow, h1, h2, Bool.and_false, Bool.false_and, Bool.true_and, Bool.and_true], rfl⟩
      · simp -implicitDefEqProofs -dsimp only [go_sem, ↓reduceIte, zE, zB, zA, zM, zS, zL, reduceCtorEq, show decide ((op : Int) = 1) = false from decide_eq_false (by omega), show decide ((op : Int) = 2) = false from decide_eq_false (by omega), show decide ((op : Int) = 3) = false from decide_eq_false (by omega), show decide ((op : Int) = 10) = false from decide_eq_false (by omega), show decide ((op : Int) = 11) = false from decide_eq_false (by omega), show decide ((op : Int) = 12) = true from decide_eq_true (by omega), fits, hxa.len, hxb.len, h1, di0, h2, di1]
        exact outK_self ⟨by subst h; simp only [okRow, h1, h2, Bool.and_false, Bool.false_and, Bool.true_and, Bool.and_true], rfl⟩
  · cases h1 : decide (n = ⟨#[]⟩)
    · simp -implicitDefEqProofs -dsimp only [go_sem, ↓reduceIte, zE, zB, zA, zM, zS, zL, reduceCtorEq, show decide ((op : Int) = 1) = false from decide_eq_false (by omega), show decide ((op : Int) = 2) = false from decide_eq_false (by omega), show decide ((op : Int) = 3) = false from decide_eq_false (by omega), show decide ((op : Int) = 10) = false from decide_eq_false (by omega), show decide ((op : Int) = 11) = false from decide_eq_false (by omega), show decide ((op : Int) = 12) = false from decide_eq_false (by omega), show decide ((op : Int) = 13) = true from decide_eq_true (by omega), fits, hxa.len, hxb.len, h1]
      exact outK_self ⟨by subst h; simp [okRow, h1], rfl⟩
    · cases h2 : decide (us.length = 0)
      · simp -implicitDefEqProofs -dsimp only [go_sem, ↓reduceIte, zE, zB, zA, zM, zS, zL, reduceCtorEq, show decide ((op : Int) = 1) = false from decide_eq_false (by omega), show decide ((op : Int) = 2) = false from decide_eq_false (by omega), show decide ((op : Int) = 3) = false from decide_eq_false (by omega), show decide ((op : Int) = 10) = false from decide_eq_false (by omega), show decide ((op : Int) = 11) = false from decide_eq_false (by omega), show decide ((op : Int) = 12) = false from decide_eq_false (by omega), show decide ((op : Int) = 13) = true from decide_eq_true (by omega), fits, hxa.len, hxb.len, h1, di0, h2]
        exact outK_self ⟨by subst h; simp only [okRow, h1, h2, Bool.and_false, Bool.false_and, Bool.true_and, Bool.and_true], rfl⟩
      · simp -implicitDefEqProofs -dsimp only [go_sem, ↓reduceIte, zE, zB, zA, zM, zS, zL, reduceCtorEq, show decide ((op : Int) = 1) = false from decide_eq_false (by omega), show decide ((op : Int) = 2) = false from decide_eq_false (by omega), show decide ((op : Int) = 3) = false from decide_eq_false (by omega), show decide ((op : Int) = 10) = false from decide_eq_false (by omega), show decide ((op : Int) = 11) = false from decide_eq_false (by omega), show decide ((op : Int) = 12) = false from decide_eq_false (by omega), show decide ((op : Int) = 13) = true from decide_eq_true (by omega), fits, hxa.len, hxb.len, h1, di0, h2, di1]
        exact outK_self ⟨by subst h; simp only [okRow, h1, h2, Bool.and_false, Bool.false_and, Bool.true_and, Bool.and_true], rfl⟩
  · cases h1 : decide (n = ⟨#[]⟩)
    · simp -implicitDefEqProofs -dsimp only [go_sem, ↓reduceIte, zE, zB, zA, zM, zS, zL, reduceCtorEq, show decide ((op : Int) = 1) = false from decide_eq_false (by omega), show decide ((op : Int) = 2) = false from decide_eq_false (by omega), show decide ((op : Int) = 3) = false from decide_eq_false (by omega), show decide ((op : Int) = 10) = false from decide_eq_false (by omega), show decide ((op : Int) = 11) = false from decide_eq_false (by omega), show decide ((op : Int) = 12) = false from decide_eq_false (by omega), show decide ((op : Int) = 13) = false from decide_eq_false (by omega), show decide ((op : Int) = 4) = false from decide_eq_false (by omega), show decide ((op : Int) = 5) = false from decide_eq_false (by omega), show decide ((op : Int) = 6) = false from decide_eq_false (by omega), show decide ((op : Int) = 7) = false from decide_eq_false (by omega), show decide ((op : Int) = 14) = true from decide_eq_true (by omega), fits, hxa.len, hxb.len, h1]
      exact outK_self ⟨by subst h; simp [okRow, h1], rfl⟩
    · cases h2 : decide (us.length = 0)
      · simp -implicitDefEqProofs -dsimp only [go_sem, ↓reduceIte, zE, zB, zA, zM, zS, zL, reduceCtorEq, show decide ((op : Int) = 1) = false from decide_eq_false (by omega), show decide ((op : Int) = 2) = false from decide_eq_false (by omega), show decide ((op : Int) = 3) = false from decide_eq_false (by omega), show decide ((op : Int) = 10) = false from decide_eq_false (by omega), show decide ((op : Int) = 11) = false from decide_eq_false (by omega), show decide ((op : Int) = 12) = false from decide_eq_false (by omega), show decide ((op : Int) = 13) = false from decide_eq_false (by omega), show decide ((op : Int) = 4) = false from decide_eq_false (by omega), show decide ((op : Int) = 5) = false from decide_eq_false (by omega), show decide ((op : Int) = 6) = false from decide_eq_false (by omega), show decide ((op : Int) = 7) = false from decide_eq_false (by omega), show decide ((op : Int) = 14) = true from decide_eq_true (by omega), fits, hxa.len, hxb.len, h1, di0, h2]
        exact outK_self ⟨by subst h; simp only [okRow, h1, h2, Bool.and_false, Bool.false_and, Bool.true_and, Bool.and_true], rfl⟩
      · simp -implicitDefEqProofs -dsimp only [go_sem, ↓reduceIte, zE, zB, zA, zM, zS, zL, reduceCtorEq, show decide ((op : Int) = 1) = false from decide_eq_false (by omega), show decide ((op : Int) = 2) = false from decide_eq_false (by omega), show decide ((op : Int) = 3) = false from decide_eq_false (by omega), show decide ((op : Int) = 10) = false from decide_eq_false (by omega), show decide ((op : Int) = 11) = false from decide_eq_false (by omega), show decide ((op : Int) = 12) = false from decide_eq_false (by omega), show decide ((op : Int) = 13) = false from decide_eq_false (by omega), show decide ((op : Int) = 4) = false from decide_eq_false (by omega), show decide ((op : Int) = 5) = false from decide_eq_false (by omega), show decide ((op : Int) = 6) = false from decide_eq_false (by omega), show decide ((op : Int) = 7) = false from decide_eq_false (by omega), show decide ((op : Int) = 14) = true from decide_eq_true (by omega), fits, hxa.len, hxb.len, h1, di0, h2, di2]
        exact outK_self ⟨by subst h; simp only [okRow, h1, h2, Bool.and_false, Bool.false_and, Bool.true_and, Bool.and_true], rfl⟩
  · simp -implicitDefEqProofs -dsimp only [go_sem, ↓reduceIte, zE, zB, zA, zM, zS, zL, reduceCtorEq, show decide ((op : Int) = 1) = false from decide_eq_false (by omega), show decide ((op : Int) = 2) = false from decide_eq_false (by omega), show decide ((op : Int) = 3) = false from decide_eq_false (by omega), show decide ((op : Int) = 10) = false from decide_eq_false (by omega), show decide ((op : Int) = 11) = false from decide_eq_false (by omega), show decide ((op : Int) = 12) = false from decide_eq_false (by omega), show decide ((op : Int) = 13) = false from decide_eq_false (by omega), show decide ((op : Int) = 4) = false from decide_eq_false (by omega), show decide ((op : Int) = 5) = false from decide_eq_false (by omega), show decide ((op : Int) = 6) = false from decide_eq_false (by omega), show decide ((op : Int) = 7) = false from decide_eq_false (by omega), show decide ((op : Int) = 14) = false from decide_eq_false (by omega), show decide ((op : Int) = 8) = false from decide_eq_false (by omega), show decide ((op : Int) = 9) = false from decide_eq_false (by omega), show decide ((op : Int) = 15) = true from decide_eq_true (by omega), fits, hxa.len, hxb.len]
    exact outK_self ⟨by rw [h]; rfl, rfl⟩
  · simp -implicitDefEqProofs -dsimp only [go_sem, ↓reduceIte, zE, zB, zA, zM, zS, zL, reduceCtorEq, show decide ((op : Int) = 1) = false from decide_eq_false (by omega), show decide ((op : Int) = 2) = false from decide_eq_false (by omega), show decide ((op : Int) = 3) = false from decide_eq_false (by omega), show decide ((op : Int) = 10) = false from decide_eq_false (by omega), show decide ((op : Int) = 11) = false from decide_eq_false (by omega), show decide ((op : Int) = 12) = false from decide_eq_false (by omega), show decide ((op : Int) = 13) = false from decide_eq_false (by omega), show decide ((op : Int) = 4) = false from decide_eq_false (by omega), show decide ((op : Int) = 5) = false from decide_eq_false (by omega), show decide ((op : Int) = 6) = false from decide_eq_false (by omega), show decide ((op : Int) = 7) = false from decide_eq_false (by omega), show decide ((op : Int) = 14) = false from decide_eq_false (by omega), show decide ((op : Int) = 8) = false from decide_eq_false (by omega), show decide ((op : Int) = 9) = false from decide_eq_false (by omega), show decide ((op : Int) = 15) = false from decide_eq_false (by omega), show decide ((op : Int) = 16) = true from decide_eq_true (by omega), fits, hxa.len, hxb.len]
    exact outK_self ⟨by rw [h]; rfl, rfl⟩
  · simp -implicitDefEqProofs -dsimp only [go_sem, ↓reduceIte, zE, zB, zA, zM, zS, zL, reduceCtorEq, show decide ((op : Int) = 1) = false from decide_eq_false (by omega), show decide ((op : Int) = 2) = false from decide_eq_false (by omega), show decide ((op : Int) = 3) = false from decide_eq_false (by omega), show decide ((op : Int) = 10) = false from decide_eq_false (by omega), show decide ((op : Int) = 11) = false from decide_eq_false (by omega), show decide ((op : Int) = 12) = false from decide_eq_false (by omega), show decide ((op : Int) = 13) = false from decide_eq_false (by omega), show decide ((op : Int) = 4) = false from decide_eq_false (by omega), show decide ((op : Int) = 5) = false from decide_eq_false (by omega), show decide ((op : Int) = 6) = false from decide_eq_false (by omega), show decide ((op : Int) = 7) = false from decide_eq_false (by omega), show decide ((op : Int) = 14) = false from decide_eq_false (by omega), show decide ((op : Int) = 8) = false from decide_eq_false (by omega), show decide ((op : Int) = 9) = false from decide_eq_false (by omega), show decide ((op : Int) = 15) = false from decide_eq_false (by omega), show decide ((op : Int) = 16) = false from decide_eq_false (by omega), fits, hxa.len, hxb.len]
    exact outK_self ⟨by rw [okRow_no h], rfl⟩

/-! ### Sizes -/

def RSz (us : List Tm) : Prop := ∀ (tg : Tag) (xs : List IV) (_ : okEs tg 3) (_ : IsTms us xs) (_ : sizeTms us ≤ 1099511627776) (st : ISt),
  ICall prog gl 133 [.sl tg xs] st (fun r st' => r = .raw (.int .i64 (sizeTms us)) ∧ st' = st)
theorem sizeTms_app : ∀ (l m : List Tm), sizeTms (l ++ m) = sizeTms l + sizeTms m
  | [], m => by simp [sizeTms]
  | a :: l, m => by simp only [List.cons_append, sizeTms, sizeTms_app l m]; omega
theorem deepTms_app : ∀ (l m : List Tm), deepTms (l ++ m) = max (deepTms l) (deepTms m)
  | [], m => by simp [deepTms]
  | a :: l, m => by simp only [List.cons_append, deepTms, deepTms_app l m]; omega
theorem sizeFms_app : ∀ (l m : List Fm), sizeFms (l ++ m) = sizeFms l + sizeFms m
  | [], m => by simp [sizeFms]
  | a :: l, m => by simp only [List.cons_append, sizeFms, sizeFms_app l m]; omega
theorem deepFms_app : ∀ (l m : List Fm), deepFms (l ++ m) = max (deepFms l) (deepFms m)
  | [], m => by simp [deepFms]
  | a :: l, m => by simp only [List.cons_append, deepFms, deepFms_app l m]; omega
theorem okFms_app : ∀ (l m : List Fm), okFms (l ++ m) = (okFms l && okFms m)
  | [], m => by simp [okFms]
  | a :: l, m => by simp only [List.cons_append, okFms, okFms_app l m, Bool.and_assoc]
theorem sizeTms_takes {us : List Tm} {k : Nat} {a : Tm} (h : us[k]? = some a) : sizeTms (us.take (k + 1)) = sizeTms (us.take k) + a.size ∧ sizeTms (us.take k) + a.size ≤ sizeTms us := by
  have h1 : sizeTms (us.take (k + 1)) = sizeTms (us.take k) + a.size := by rw [take_get h, sizeTms_app]; simp [sizeTms]
  refine ⟨h1, ?_⟩
  have h2 : sizeTms us = sizeTms (us.take (k + 1)) + sizeTms (us.drop (k + 1)) := by rw [← sizeTms_app, List.take_append_drop]
  omega
theorem sizeFms_takes {us : List Fm} {k : Nat} {a : Fm} (h : us[k]? = some a) : sizeFms (us.take (k + 1)) = sizeFms (us.take k) + a.size ∧ sizeFms (us.take k) + a.size ≤ sizeFms us := by
  have h1 : sizeFms (us.take (k + 1)) = sizeFms (us.take k) + a.size := by rw [take_get h, sizeFms_app]; simp [sizeFms]
  refine ⟨h1, ?_⟩
  have h2 : sizeFms us = sizeFms (us.take (k + 1)) + sizeFms (us.drop (k + 1)) := by rw [← sizeFms_app, List.take_append_drop]
  omega
theorem len_le_fms : ∀ l : List Fm, l.length ≤ sizeFms l
  | [] => Nat.le_refl _
  | a :: l => by have := len_le_fms l; have := a.size_pos; simp only [List.length_cons, sizeFms]; omega
mutual
theorem deep_le_size : ∀ t : Tm, t.deep ≤ t.size
  | .mk _ _ l => by have := deeps_le_sizes l; simp only [Tm.deep, Tm.size]; omega
theorem deeps_le_sizes : ∀ l : List Tm, deepTms l ≤ sizeTms l
  | [] => Nat.le_refl _
  | a :: l => by have := deep_le_size a; have := deeps_le_sizes l; simp only [deepTms, sizeTms]; omega
end
mutual
theorem fdeep_le_size : ∀ t : Fm, t.deep ≤ t.size
  | .mk _ _ l s => by have := deeps_le_sizes l; have := fdeeps_le_sizes s; simp only [Fm.deep, Fm.size]; omega
theorem fdeeps_le_sizes : ∀ l : List Fm, deepFms l ≤ sizeFms l
  | [] => Nat.le_refl _
  | a :: l => by have := fdeep_le_size a; have := fdeeps_le_sizes l; simp only [deepFms, sizeFms]; omega
end
theorem w_nat {n : Nat} (h : n ≤ 281474976710656) : IntKind.i64.wrap (n : Int) = (n : Int) := by rw [w64] <;> omega
theorem w_add {a b : Nat} (h : a + b ≤ 281474976710656) : IntKind.i64.wrap ((a : Int) + (b : Int)) = ((a + b : Nat) : Int) := by rw [w64] <;> omega
theorem w_add1 {a b : Nat} (h : a + 1 + b ≤ 281474976710656) : IntKind.i64.wrap (IntKind.i64.wrap ((a : Int) + 1) + (b : Int)) = ((a + (b + 1) : Nat) : Int) := by rw [w64, w64] <;> (try rw [w64]) <;> omega
theorem rsize_step (us : List Tm) (IH : ∀ v n l, Tm.mk v n l ∈ us → RSz gl l) : RSz gl us := by
  intro tg xs htg hxs hsz st
  have hlsz := len_le_sizes us
  refine ICall.intro (c := cf prog gl [] []) func133 rfl (by show _ ≤ 21; simp) (by kernel_rfl) ?_
  simp -implicitDefEqProofs -dsimp only [go_sem, ↓reduceIte, zE, zB, zA, zM, zS, zL, reduceCtorEq]
  refine LoopC.ctr us.length (fun k fr st' ds => fr 0 = .iv (.sl tg xs) ∧ fr 3 = .iv (.raw (.int .i64 (sizeTms (us.take k)))) ∧ fr 4 = .iv (.raw (.int .i64 k)) ∧ st' = st ∧ ds = []) ?_ ?_ ?_
  · simp -implicitDefEqProofs -dsimp only [go_sem, ↓reduceIte, zE, zB, zA, zM, zS, zL, reduceCtorEq]
    first | rfl | exact ⟨rfl, rfl⟩
  · rintro k fr st _ hlt ⟨f0, f3, f4, rfl, rfl⟩
    obtain ⟨⟨v, n, m⟩, ha⟩ := get_of_lt hlt
    obtain ⟨y, hky, hy⟩ := hxs.get ha
    have hmem := List.mem_of_getElem? ha
    obtain ⟨h1, h2⟩ := sizeTms_takes ha
    obtain ⟨t3, x3, rfl, ht3, hx3⟩ := hy.mk
    simp only [Tm.size] at h1 h2
    simp -implicitDefEqProofs -dsimp only [go_sem, ↓reduceIte, zE, zB, zA, zM, zS, zL, reduceCtorEq, f0, f3, f4, hxs.len, lt_i hlt, reTag_es htg, Int.natCast_nonneg, hky, fits]
    intros
    refine (IH v n m hmem t3 x3 ht3 hx3 (by omega) _).mono ?_
    rintro _ st ⟨rfl, rfl⟩
    simp -implicitDefEqProofs -dsimp only [go_sem, ↓reduceIte, zE, zB, zA, zM, zS, zL, reduceCtorEq, f0, f3, f4, w_succ hlt (show us.length ≤ 281474976710656 by omega), w_add1 (show sizeTms (us.take k) + 1 + sizeTms m ≤ 281474976710656 by omega), h1]
  · rintro fr st _ ⟨f0, f3, f4, rfl, rfl⟩
    rw [List.take_length] at f3
    simp -implicitDefEqProofs -dsimp only [go_sem, ↓reduceIte, zE, zB, zA, zM, zS, zL, reduceCtorEq, f0, f3, f4, hxs.len, nlt_i (Nat.lt_irrefl _), fits]
    intros
    exact outK_self ⟨rfl, rfl⟩
theorem rsize_all : ∀ (k : Nat) (us : List Tm), SizeOf.sizeOf us < k → RSz gl us
  | 0, f, h => by omega
  | k + 1, us, h => rsize_step gl us (fun v n l hm => rsize_all k l (by
      have := List.sizeOf_lt_of_mem hm
      simp at this; omega))
theorem rsize_c (us : List Tm) : RSz gl us := rsize_all gl _ us (Nat.lt_succ_self _)
def RDp (us : List Tm) : Prop := ∀ (tg : Tag) (xs : List IV) (_ : okEs tg 3) (_ : IsTms us xs) (_ : sizeTms us ≤ 1099511627776) (st : ISt),
  ICall prog gl 134 [.sl tg xs] st (fun r st' => r = .raw (.int .i64 (deepTms us)) ∧ st' = st)
theorem rdeep_step (us : List Tm) (IH : ∀ v n l, Tm.mk v n l ∈ us → RDp gl l) : RDp gl us := by
  intro tg xs htg hxs hsz st
  have hlsz := len_le_sizes us
  refine ICall.intro (c := cf prog gl [] []) func134 rfl (by show _ ≤ 24; simp) (by kernel_rfl) ?_
  simp -implicitDefEqProofs -dsimp only [go_sem, ↓reduceIte, zE, zB, zA, zM, zS, zL, reduceCtorEq]
  refine LoopC.ctr us.length (fun k fr st' ds => fr 0 = .iv (.sl tg xs) ∧ fr 3 = .iv (.raw (.int .i64 (deepTms (us.take k)))) ∧ fr 4 = .iv (.raw (.int .i64 k)) ∧ st' = st ∧ ds = []) ?_ ?_ ?_
  · simp -implicitDefEqProofs -dsimp only [go_sem, ↓reduceIte, zE, zB, zA, zM, zS, zL, reduceCtorEq]
    first | rfl | exact ⟨rfl, rfl⟩
  · rintro k fr st _ hlt ⟨f0, f3, f4, rfl, rfl⟩
    obtain ⟨⟨v, n, m⟩, ha⟩ := get_of_lt hlt
    obtain ⟨y, hky, hy⟩ := hxs.get ha
    have hmem := List.mem_of_getElem? ha
    have h1 : deepTms (us.take (k + 1)) = max (deepTms (us.take k)) (deepTms m + 1) := by rw [take_get ha, deepTms_app]; simp [deepTms, Tm.deep]
    have h2 := (sizeTms_takes ha).2
    have h3 := deeps_le_sizes m
    have h4 := deeps_le_sizes (us.take k)
    obtain ⟨t3, x3, rfl, ht3, hx3⟩ := hy.mk
    simp only [Tm.size] at h2
    simp -implicitDefEqProofs -dsimp only [go_sem, ↓reduceIte, zE, zB, zA, zM, zS, zL, reduceCtorEq, f0, f3, f4, hxs.len, lt_i hlt, reTag_es htg, Int.natCast_nonneg, hky, fits]
    intros
    refine (IH v n m hmem t3 x3 ht3 hx3 (by omega) _).mono ?_
    rintro _ st ⟨rfl, rfl⟩
    have hw : IntKind.i64.wrap ((deepTms m : Int) + 1) = ((deepTms m + 1 : Nat) : Int) := by rw [w64] <;> omega
    by_cases hg : deepTms (us.take k) < deepTms m + 1
    · simp -implicitDefEqProofs -dsimp only [go_sem, ↓reduceIte, zE, zB, zA, zM, zS, zL, reduceCtorEq, f0, f3, f4, hw, lt_i hg, w_succ hlt (show us.length ≤ 281474976710656 by omega)]
      rw [h1, Nat.max_eq_right (by omega)]
    · simp -implicitDefEqProofs -dsimp only [go_sem, ↓reduceIte, zE, zB, zA, zM, zS, zL, reduceCtorEq, f0, f3, f4, hw, nlt_i hg, w_succ hlt (show us.length ≤ 281474976710656 by omega)]
      rw [h1, Nat.max_eq_left (by omega)]
  · rintro fr st _ ⟨f0, f3, f4, rfl, rfl⟩
    rw [List.take_length] at f3
    simp -implicitDefEqProofs -dsimp only [go_sem, ↓reduceIte, zE, zB, zA, zM, zS, zL, reduceCtorEq, f0, f3, f4, hxs.len, nlt_i (Nat.lt_irrefl _), fits]
    intros
    exact outK_self ⟨rfl, rfl⟩
theorem rdeep_all : ∀ (k : Nat) (us : List Tm), SizeOf.sizeOf us < k → RDp gl us
  | 0, f, h => by omega
  | k + 1, us, h => rdeep_step gl us (fun v n l hm => rdeep_all k l (by
      have := List.sizeOf_lt_of_mem hm
      simp at this; omega))
theorem rdeep_c (us : List Tm) : RDp gl us := rdeep_all gl _ us (Nat.lt_succ_self _)

/-! ### Formulas -/

def RNd (f : Fm) : Prop := ∀ (x : IV) (_ : IsFm f x) (_ : f.size ≤ 1099511627776) (st : ISt), ICall prog gl 92 [x] st (fun r st' => r = .raw (.int .i64 f.size) ∧ st' = st)
theorem rnodes_step (op : Nat) (n : ByteArray) (us : List Tm) (sub : List Fm) (IH : ∀ a ∈ sub, RNd gl a) : RNd gl (.mk op n us sub) := by
  intro x hx hsz st
  obtain ⟨ta, xa, tb, xb, rfl, ho, hta, hxa, htb, hxb⟩ := hx.mk
  simp only [Fm.size] at hsz
  have hl1 := len_le_sizes us
  have hl2 := len_le_fms sub
  refine ICall.intro (c := cf prog gl [] []) func92 rfl (by show _ ≤ 25; simp) (by kernel_rfl) ?_
  simp -implicitDefEqProofs -dsimp only [go_sem, ↓reduceIte, zE, zB, zA, zM, zS, zL, reduceCtorEq, fits]
  refine (rsize_c gl us ta xa hta hxa (by omega) _).mono ?_
  rintro _ st ⟨rfl, rfl⟩
  have hw1 : IntKind.i64.wrap (1 + (sizeTms us : Int)) = ((sizeTms us + 1 : Nat) : Int) := by rw [w64] <;> omega
  simp -implicitDefEqProofs -dsimp only [go_sem, ↓reduceIte, zE, zB, zA, zM, zS, zL, reduceCtorEq, fits, hw1]
  refine LoopC.ctr sub.length (fun k fr st' ds => fr 1 = .box [.raw (.int .u8 op), .raw (.string n), .sl ta xa, .sl tb xb] ∧ fr 3 = .iv (.raw (.int .i64 ((sizeTms us + 1 + sizeFms (sub.take k) : Nat) : Int))) ∧ fr 4 = .iv (.raw (.int .i64 k)) ∧ st' = st ∧ ds = []) ?_ ?_ ?_
  · simp -implicitDefEqProofs -dsimp only [go_sem, ↓reduceIte, zE, zB, zA, zM, zS, zL, reduceCtorEq]
    first | rfl | exact ⟨rfl, rfl⟩
  · rintro k fr st _ hlt ⟨f1, f3, f4, rfl, rfl⟩
    obtain ⟨a, ha⟩ := get_of_lt hlt
    obtain ⟨y, hky, hy⟩ := hxb.get ha
    have hmem := List.mem_of_getElem? ha
    obtain ⟨h1, h2⟩ := sizeFms_takes ha
    have hcall := IH a hmem y hy (by omega)
    obtain ⟨o5, n5, us5, sub5⟩ := a
    obtain ⟨t3, x3, t4, x4, rfl, _⟩ := hy.mk
    simp -implicitDefEqProofs -dsimp only [go_sem, ↓reduceIte, zE, zB, zA, zM, zS, zL, reduceCtorEq, f1, f3, f4, hxb.len, lt_i hlt, reTag_es htb, Int.natCast_nonneg, hky, fits]
    intros
    refine (hcall _).mono ?_
    rintro _ st ⟨rfl, rfl⟩
    simp -implicitDefEqProofs -dsimp only [go_sem, ↓reduceIte, zE, zB, zA, zM, zS, zL, reduceCtorEq, f1, f3, f4, w_succ hlt (show sub.length ≤ 281474976710656 by omega), w_add (show (sizeTms us + 1 + sizeFms (sub.take k)) + (Fm.mk o5 n5 us5 sub5).size ≤ 281474976710656 by omega), h1]
    rw [Nat.add_assoc (sizeTms us + 1)]
  · rintro fr st _ ⟨f1, f3, f4, rfl, rfl⟩
    rw [List.take_length] at f3
    simp -implicitDefEqProofs -dsimp only [go_sem, ↓reduceIte, zE, zB, zA, zM, zS, zL, reduceCtorEq, f1, f3, f4, hxb.len, nlt_i (Nat.lt_irrefl _), fits]
    intros
    exact outK_self ⟨by rw [show (Fm.mk op n us sub).size = sizeTms us + 1 + sizeFms sub by simp only [Fm.size]; omega], rfl⟩
theorem rnodes_all : ∀ (k : Nat) (t : Fm), SizeOf.sizeOf t < k → RNd gl t
  | 0, f, h => by omega
  | k + 1, .mk o n us sub, h => rnodes_step gl o n us sub (fun a ha => rnodes_all k a (by
      have := List.sizeOf_lt_of_mem ha
      simp at h; omega))
theorem rNodes_c (t : Fm) : RNd gl t := rnodes_all gl _ t (Nat.lt_succ_self _)
def RDd (f : Fm) : Prop := ∀ (x : IV) (_ : IsFm f x) (_ : f.size ≤ 1099511627776) (st : ISt), ICall prog gl 93 [x] st (fun r st' => r = .raw (.int .i64 f.deep) ∧ st' = st)
theorem rdepth_step (op : Nat) (n : ByteArray) (us : List Tm) (sub : List Fm) (IH : ∀ a ∈ sub, RDd gl a) : RDd gl (.mk op n us sub) := by
  intro x hx hsz st
  obtain ⟨ta, xa, tb, xb, rfl, ho, hta, hxa, htb, hxb⟩ := hx.mk
  simp only [Fm.size] at hsz
  have hl1 := len_le_sizes us
  have hl2 := len_le_fms sub
  have hd1 := deeps_le_sizes us
  have hd2 := fdeeps_le_sizes sub
  refine ICall.intro (c := cf prog gl [] []) func93 rfl (by show _ ≤ 28; simp) (by kernel_rfl) ?_
  simp -implicitDefEqProofs -dsimp only [go_sem, ↓reduceIte, zE, zB, zA, zM, zS, zL, reduceCtorEq, fits]
  refine (rdeep_c gl us ta xa hta hxa (by omega) _).mono ?_
  rintro _ st ⟨rfl, rfl⟩
  simp -implicitDefEqProofs -dsimp only [go_sem, ↓reduceIte, zE, zB, zA, zM, zS, zL, reduceCtorEq, fits]
  refine LoopC.ctr sub.length (fun k fr st' ds => fr 1 = .box [.raw (.int .u8 op), .raw (.string n), .sl ta xa, .sl tb xb] ∧ fr 3 = .iv (.raw (.int .i64 ((max (deepTms us) (deepFms (sub.take k)) : Nat) : Int))) ∧ fr 4 = .iv (.raw (.int .i64 k)) ∧ st' = st ∧ ds = []) ?_ ?_ ?_
  · simp -implicitDefEqProofs -dsimp only [go_sem, ↓reduceIte, zE, zB, zA, zM, zS, zL, reduceCtorEq]
    rw [show max (deepTms us) (deepFms []) = deepTms us by simp [deepFms]]
    exact ⟨rfl, rfl⟩
  · rintro k fr st _ hlt ⟨f1, f3, f4, rfl, rfl⟩
    obtain ⟨a, ha⟩ := get_of_lt hlt
    obtain ⟨y, hky, hy⟩ := hxb.get ha
    have hmem := List.mem_of_getElem? ha
    have h2 := (sizeFms_takes ha).2
    have hcall := IH a hmem y hy (by omega)
    have h1 : deepFms (sub.take (k + 1)) = max (deepFms (sub.take k)) a.deep := by rw [take_get ha, deepFms_app]; simp [deepFms]
    obtain ⟨o5, n5, us5, sub5⟩ := a
    obtain ⟨t3, x3, t4, x4, rfl, _⟩ := hy.mk
    simp -implicitDefEqProofs -dsimp only [go_sem, ↓reduceIte, zE, zB, zA, zM, zS, zL, reduceCtorEq, f1, f3, f4, hxb.len, lt_i hlt, reTag_es htb, Int.natCast_nonneg, hky, fits]
    intros
    refine (hcall _).mono ?_
    rintro _ st ⟨rfl, rfl⟩
    by_cases hg : max (deepTms us) (deepFms (sub.take k)) < (Fm.mk o5 n5 us5 sub5).deep
    · simp -implicitDefEqProofs -dsimp only [go_sem, ↓reduceIte, zE, zB, zA, zM, zS, zL, reduceCtorEq, f1, f3, f4, lt_i hg, w_succ hlt (show sub.length ≤ 281474976710656 by omega)]
      rw [h1, show max (deepTms us) (max (deepFms (sub.take k)) (Fm.mk o5 n5 us5 sub5).deep) = (Fm.mk o5 n5 us5 sub5).deep by omega]
    · simp -implicitDefEqProofs -dsimp only [go_sem, ↓reduceIte, zE, zB, zA, zM, zS, zL, reduceCtorEq, f1, f3, f4, nlt_i hg, w_succ hlt (show sub.length ≤ 281474976710656 by omega)]
      rw [h1, show max (deepTms us) (max (deepFms (sub.take k)) (Fm.mk o5 n5 us5 sub5).deep) = max (deepTms us) (deepFms (sub.take k)) by omega]
  · rintro fr st _ ⟨f1, f3, f4, rfl, rfl⟩
    rw [List.take_length] at f3
    have hw : IntKind.i64.wrap (((max (deepTms us) (deepFms sub) : Nat) : Int) + 1) = ((max (deepTms us) (deepFms sub) + 1 : Nat) : Int) := by rw [w64] <;> omega
    simp -implicitDefEqProofs -dsimp only [go_sem, ↓reduceIte, zE, zB, zA, zM, zS, zL, reduceCtorEq, f1, f3, f4, hxb.len, nlt_i (Nat.lt_irrefl _), fits, hw]
    intros
    exact outK_self ⟨by simp only [Fm.deep], rfl⟩
theorem rdepth_all : ∀ (k : Nat) (t : Fm), SizeOf.sizeOf t < k → RDd gl t
  | 0, f, h => by omega
  | k + 1, .mk o n us sub, h => rdepth_step gl o n us sub (fun a ha => rdepth_all k a (by
      have := List.sizeOf_lt_of_mem ha
      simp at h; omega))
theorem rDepth_c (t : Fm) : RDd gl t := rdepth_all gl _ t (Nat.lt_succ_self _)
theorem okFms_bad {l : List Fm} {a : Fm} (h : a ∈ l) (ha : a.ok = false) : okFms l = false := by
  induction l with
  | nil => cases h
  | cons b l ih =>
    simp only [okFms]
    rcases List.mem_cons.1 h with rfl | h
    · simp [ha]
    · simp [ih h]
def RRw (f : Fm) : Prop := ∀ (x : IV) (_ : IsFm f x) (_ : f.size ≤ 1099511627776) (st : ISt), ICall prog gl 129 [x, .raw (.bool false)] st (fun r st' => r = .raw (.bool f.ok) ∧ st' = st)
theorem rrows_step (op : Nat) (n : ByteArray) (us : List Tm) (sub : List Fm) (IH : ∀ a ∈ sub, RRw gl a) : RRw gl (.mk op n us sub) := by
  intro x hx hsz st
  have hrow := fun st => row_c gl op n us sub x hx st
  obtain ⟨ta, xa, tb, xb, rfl, ho, hta, hxa, htb, hxb⟩ := hx.mk
  simp only [Fm.size] at hsz
  have hl1 := len_le_sizes us
  have hl2 := len_le_fms sub
  refine ICall.intro (c := cf prog gl [] []) func129 rfl (by show _ ≤ 41; simp) (by kernel_rfl) ?_
  simp -implicitDefEqProofs -dsimp only [go_sem, ↓reduceIte, zE, zB, zA, zM, zS, zL, reduceCtorEq, fits]
  refine (hrow _).mono ?_
  rintro _ st ⟨rfl, rfl⟩
  cases hr : okRow op n us.length sub.length
  · simp -implicitDefEqProofs -dsimp only [go_sem, ↓reduceIte, zE, zB, zA, zM, zS, zL, reduceCtorEq]
    exact outK_self ⟨by simp [Fm.ok, hr], rfl⟩
  simp -implicitDefEqProofs -dsimp only [go_sem, ↓reduceIte, zE, zB, zA, zM, zS, zL, reduceCtorEq, fits]
  refine LoopC.ctr us.length (fun k fr st' ds => okTms (us.take k) = true ∧ fr 1 = .iv (.raw (.bool false)) ∧ fr 2 = .box [.raw (.int .u8 op), .raw (.string n), .sl ta xa, .sl tb xb] ∧ fr 5 = .iv (.raw (.int .i64 k)) ∧ st' = st ∧ ds = []) ?_ ?_ ?_
  · simp -implicitDefEqProofs -dsimp only [go_sem, ↓reduceIte, zE, zB, zA, zM, zS, zL, reduceCtorEq]; exact ⟨rfl, rfl⟩
  · rintro k fr st _ hlt ⟨hok, f1, f2, f5, rfl, rfl⟩
    obtain ⟨a, ha⟩ := get_of_lt hlt
    obtain ⟨y, hky, hy⟩ := hxa.get ha
    have hmem := List.mem_of_getElem? ha
    have hcall := rterm_c gl a y hy (by have := size_mem hmem; omega) st
    obtain ⟨v3, n3, m3⟩ := a
    obtain ⟨t3, x3, rfl, _⟩ := hy.mk
    simp -implicitDefEqProofs -dsimp only [go_sem, ↓reduceIte, zE, zB, zA, zM, zS, zL, reduceCtorEq, f1, f2, f5, hxa.len, lt_i hlt, reTag_es hta, Int.natCast_nonneg, hky, fits]
    intros
    refine hcall.mono ?_
    rintro _ st ⟨rfl, rfl⟩
    cases hb : (Tm.mk v3 n3 m3).ok
    · simp -implicitDefEqProofs -dsimp only [go_sem, ↓reduceIte, zE, zB, zA, zM, zS, zL, reduceCtorEq]
      exact outK_self ⟨by simp [Fm.ok, okTms_bad hmem hb], rfl⟩
    · simp -implicitDefEqProofs -dsimp only [go_sem, ↓reduceIte, zE, zB, zA, zM, zS, zL, reduceCtorEq, f1, f2, f5, w_succ hlt (show us.length ≤ 281474976710656 by omega)]
      rw [take_get ha, okTms_append, hok]
      simp [okTms, hb]
  · rintro fr st _ ⟨hok, f1, f2, f5, rfl, rfl⟩
    rw [List.take_length] at hok
    simp -implicitDefEqProofs -dsimp only [go_sem, ↓reduceIte, zE, zB, zA, zM, zS, zL, reduceCtorEq, f1, f2, f5, hxa.len, nlt_i (Nat.lt_irrefl _), fits]
    intros
    refine LoopC.ctr sub.length (fun k fr st' ds => okFms (sub.take k) = true ∧ fr 1 = .iv (.raw (.bool false)) ∧ fr 2 = .box [.raw (.int .u8 op), .raw (.string n), .sl ta xa, .sl tb xb] ∧ fr 6 = .iv (.raw (.int .i64 k)) ∧ st' = st ∧ ds = []) ?_ ?_ ?_
    · simp -implicitDefEqProofs -dsimp only [go_sem, ↓reduceIte, zE, zB, zA, zM, zS, zL, reduceCtorEq, f1, f2]; exact ⟨rfl, rfl⟩
    · rintro k fr st _ hlt ⟨hok2, f1, f2, f6, rfl, rfl⟩
      obtain ⟨a, ha⟩ := get_of_lt hlt
      obtain ⟨y, hky, hy⟩ := hxb.get ha
      have hmem := List.mem_of_getElem? ha
      have h2 := (sizeFms_takes ha).2
      have hcall := IH a hmem y hy (by omega)
      obtain ⟨o5, n5, us5, sub5⟩ := a
      obtain ⟨t3, x3, t4, x4, rfl, _⟩ := hy.mk
      simp -implicitDefEqProofs -dsimp only [go_sem, ↓reduceIte, zE, zB, zA, zM, zS, zL, reduceCtorEq, f1, f2, f6, hxb.len, lt_i hlt, reTag_es htb, Int.natCast_nonneg, hky, fits]
      intros
      refine (hcall _).mono ?_
      rintro _ st ⟨rfl, rfl⟩
      cases hb : (Fm.mk o5 n5 us5 sub5).ok
      · simp -implicitDefEqProofs -dsimp only [go_sem, ↓reduceIte, zE, zB, zA, zM, zS, zL, reduceCtorEq]
        exact outK_self ⟨by rw [show (Fm.mk op n us sub).ok = false by simp only [Fm.ok, okFms_bad hmem hb, Bool.and_false]], rfl⟩
      · simp -implicitDefEqProofs -dsimp only [go_sem, ↓reduceIte, zE, zB, zA, zM, zS, zL, reduceCtorEq, f1, f2, f6, w_succ hlt (show sub.length ≤ 281474976710656 by omega)]
        rw [take_get ha, okFms_app, hok2]
        simp only [okFms, hb, Bool.and_self]
    · rintro fr st _ ⟨hok2, f1, f2, f6, rfl, rfl⟩
      rw [List.take_length] at hok2
      simp -implicitDefEqProofs -dsimp only [go_sem, ↓reduceIte, zE, zB, zA, zM, zS, zL, reduceCtorEq, f1, f2, f6, hxb.len, nlt_i (Nat.lt_irrefl _), fits]
      intros
      exact outK_self ⟨by simp only [Fm.ok, hr, hok, hok2, Bool.and_self], rfl⟩
theorem rrows_all : ∀ (k : Nat) (t : Fm), SizeOf.sizeOf t < k → RRw gl t
  | 0, f, h => by omega
  | k + 1, .mk o n us sub, h => rrows_step gl o n us sub (fun a ha => rrows_all k a (by
      have := List.sizeOf_lt_of_mem ha
      simp at h; omega))
theorem rRows_c (t : Fm) : RRw gl t := rrows_all gl _ t (Nat.lt_succ_self _)
theorem rRight_c (f : Fm) (x : IV) (hx : IsFm f x) (hs : f.size ≤ 1099511627776) (st : ISt) : ICall prog gl 88 [x] st (fun r st' => r = .raw (.bool f.right) ∧ st' = st) := by
  have h1 := fun st => rRows_c gl f x hx hs st
  have h2 := fun st => rNodes_c gl f x hx hs st
  have h3 := fun st => rDepth_c gl f x hx hs st
  have hri : f.right = (f.ok && decide (f.size ≤ 400) && decide (f.deep ≤ 40)) := rfl
  obtain ⟨op, n, us, sub⟩ := f
  obtain ⟨ta, xa, tb, xb, rfl, _⟩ := hx.mk
  generalize Fm.mk op n us sub = f at *
  refine ICall.intro (c := cf prog gl [] []) func88 rfl (by show _ ≤ 15; simp) (by kernel_rfl) ?_
  simp -implicitDefEqProofs -dsimp only [go_sem, ↓reduceIte, zE, zB, zA, zM, zS, zL, reduceCtorEq, fits]
  refine (h1 _).mono ?_
  rintro _ st ⟨rfl, rfl⟩
  cases hk : f.ok
  · simp -implicitDefEqProofs -dsimp only [go_sem, ↓reduceIte, zE, zB, zA, zM, zS, zL, reduceCtorEq]
    exact outK_self ⟨by simp [hri, hk], rfl⟩
  simp -implicitDefEqProofs -dsimp only [go_sem, ↓reduceIte, zE, zB, zA, zM, zS, zL, reduceCtorEq, fits]
  refine (h2 _).mono ?_
  rintro _ st ⟨rfl, rfl⟩
  by_cases hz : f.size ≤ 400
  · simp -implicitDefEqProofs -dsimp only [go_sem, ↓reduceIte, zE, zB, zA, zM, zS, zL, reduceCtorEq, fits, show decide ((f.size : Int) ≤ 400) = true from decide_eq_true (by omega)]
    refine (h3 _).mono ?_
    rintro _ st ⟨rfl, rfl⟩
    simp -implicitDefEqProofs -dsimp only [go_sem, ↓reduceIte, zE, zB, zA, zM, zS, zL, reduceCtorEq, fits]
    refine outK_self ⟨?_, rfl⟩
    rw [hri, hk, decide_eq_true hz]
    congr 3
    simp
    omega
  · simp -implicitDefEqProofs -dsimp only [go_sem, ↓reduceIte, zE, zB, zA, zM, zS, zL, reduceCtorEq, fits, show decide ((f.size : Int) ≤ 400) = false from decide_eq_false (by omega)]
    exact outK_self ⟨by simp [hri, hz], rfl⟩
end Go.Proofs.Tryz
