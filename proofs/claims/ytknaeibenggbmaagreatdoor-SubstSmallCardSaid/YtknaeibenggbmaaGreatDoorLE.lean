/- Walks of the second program: level, terms, same, Alpha.
   Walks of the second program: same, Alpha. -/
import Derived.Test.YtknaeibenggbmaaGreatDoorKS
import Derived.Test.YtknaeibenggbmaaGreatDoorKM
import Derived.Test.YtknaeibenggbmaaGreatDoorLA
import Derived.Test.YtknaeibenggbmaaGreatDoorJU
set_option linter.all false
open Nat renaming reduceEqDiff → zE, reduceBEq → zB, reduceAdd → zA, reduceMul → zM, reduceSub → zS, reduceLeDiff → zL
attribute [local go_sem] Go.Iv.cf Go.Iv.setAt List.all_cons List.all_nil Bool.and_self Bool.true_and Bool.and_true Bool.false_and Bool.and_false Bool.not_true Bool.not_false List.mem_nil_iff if_false if_true beq_self_eq_true Nat.zero_add Nat.add_zero List.getElem?_cons_zero List.getElem?_cons_succ Option.map_some List.mem_cons or_false false_or or_true true_or Nat.sub_zero forall_const Int.toNat_natCast List.length_cons List.length_nil List.map_cons List.map_nil List.take_succ_cons List.take_zero List.drop_zero List.drop_succ_cons List.cons_append List.nil_append List.append_nil and_true true_and and_self true_implies List.zip_cons_cons List.zip_nil_left
namespace Go.Proofs.Tryz
open Go Go.Iv
set_option maxRecDepth 4000
variable (gl : Nat → Option IV)

theorem lookE_app {a e : List ByteArray} {n : ByteArray} (h : n ∉ a) : lookE (a ++ e) n = lookE e n := by
  induction a with
  | nil => rfl
  | cons m a ih =>
    simp only [List.mem_cons, not_or] at h
    rw [List.cons_append, lookE, if_neg h.1, ih h.2]
theorem lookE_at {p : List ByteArray} {i : Nat} {s : ByteArray} (h : p[i]? = some s) (hn : ∀ q ∈ p.drop (i + 1), q ≠ s) : lookE p.reverse s = some i := by
  have hlt := (List.getElem?_eq_some_iff.1 h).1
  have h1 : p = p.take i ++ s :: p.drop (i + 1) := by
    conv => lhs; rw [← List.take_append_drop i p, List.drop_eq_getElem_cons hlt, (List.getElem?_eq_some_iff.1 h).2]
  rw [h1, List.reverse_append, List.reverse_cons, List.append_assoc, lookE_app fun hm => hn s (List.mem_reverse.1 hm) rfl]
  simp only [List.cons_append, List.nil_append, lookE, if_true, List.length_reverse, List.length_take]
  congr 1; omega
theorem lookE_no {p : List ByteArray} {s : ByteArray} (hn : ∀ q ∈ p, q ≠ s) : lookE p.reverse s = none := by
  have := lookE_app (a := p.reverse) (e := []) (n := s) fun hm => hn s (List.mem_reverse.1 hm) rfl
  rw [List.append_nil] at this
  rw [this]; rfl
def lvl (p : List ByteArray) (s : ByteArray) : Nat := match lookE p.reverse s with | some i => p.length - i | none => 0
theorem lvl_le (p : List ByteArray) (s : ByteArray) : lvl p s ≤ p.length := by unfold lvl; split <;> omega
theorem lvl_eq {p q : List ByteArray} (hl : p.length = q.length) (x y : ByteArray) : lookV p.reverse x = lookV q.reverse y ↔ lvl p x = lvl q y ∧ (lvl p x = 0 → x = y) := by
  have h1 : ∀ i, lookE p.reverse x = some i → i < p.length := fun i h => by have := lookE_lt h; simpa using this
  have h2 : ∀ i, lookE q.reverse y = some i → i < q.length := fun i h => by have := lookE_lt h; simpa using this
  unfold lookV lvl
  cases hx : lookE p.reverse x with
  | none =>
    cases hy : lookE q.reverse y with
    | none => simp
    | some j =>
      have := h2 j hy
      simp only [reduceCtorEq, false_iff]
      rintro ⟨h, _⟩
      omega
  | some i =>
    have := h1 i hx
    cases hy : lookE q.reverse y with
    | none =>
      simp only [reduceCtorEq, false_iff]
      rintro ⟨h, _⟩
      omega
    | some j =>
      have := h2 j hy
      simp only [NlT.bv.injEq]
      constructor
      · rintro rfl
        exact ⟨by omega, fun h => by omega⟩
      · rintro ⟨h, _⟩
        omega
theorem level_c (p : List ByteArray) (tg : Tag) (htg : okEs tg 1) (hl : p.length ≤ 1099511627776) (s : ByteArray) (st : ISt) :
    ICall prog gl 154 [.sl tg (strI p), .raw (.string s)] st (fun r st' => r = .raw (.int .i64 (lvl p s)) ∧ st' = st) := by
  have hwl : IntKind.i64.wrap ((p.length : Int) - 1) = (p.length : Int) - 1 := by rw [w64] <;> omega
  refine ICall.intro (c := cf prog gl [] []) func154 rfl (by show _ ≤ 23; simp) (by kernel_rfl) ?_
  simp -implicitDefEqProofs -dsimp only [go_sem, ↓reduceIte, zE, zB, zA, zM, zS, zL, reduceCtorEq, fits, strI_length, hwl]
  intros
  refine LoopC.ctr p.length (fun k fr st' ds => (∀ q ∈ p.drop (p.length - k), q ≠ s) ∧ fr 0 = .iv (.sl tg (strI p)) ∧ fr 1 = .iv (.raw (.string s)) ∧ fr 5 = .iv (.raw (.int .i64 (((p.length - k : Nat) : Int) - 1))) ∧ st' = st ∧ ds = []) ?_ ?_ ?_
  · simp -implicitDefEqProofs -dsimp only [go_sem, ↓reduceIte, zE, zB, zA, zM, zS, zL, reduceCtorEq]
    intro q hq
    rw [List.drop_length] at hq
    cases hq
  · rintro k fr st _ hlt ⟨hno, f0, f1, f5, rfl, rfl⟩
    obtain ⟨o, ho⟩ := get_of_lt (show p.length - k - 1 < p.length by omega)
    have hi : (((p.length - k : Nat) : Int) - 1) = ((p.length - k - 1 : Nat) : Int) := by omega
    have hge : decide ((0 : Int) ≤ ((p.length - k - 1 : Nat) : Int)) = true := decide_eq_true (by omega)
    have hdr : p.drop (p.length - k - 1) = o :: p.drop (p.length - k) := by
      have hlt2 := (List.getElem?_eq_some_iff.1 ho).1
      rw [List.drop_eq_getElem_cons hlt2, (List.getElem?_eq_some_iff.1 ho).2, show p.length - k - 1 + 1 = p.length - k by omega]
    rw [hi] at f5
    by_cases hos : o = s
    · subst hos
      have hlv : lvl p o = k + 1 := by
        unfold lvl
        rw [lookE_at ho (by rw [show p.length - k - 1 + 1 = p.length - k by omega]; exact hno)]
        simp only; omega
      have hw : IntKind.i64.wrap ((p.length : Int) - ((p.length - k - 1 : Nat) : Int)) = ((k + 1 : Nat) : Int) := by rw [w64] <;> omega
      simp -implicitDefEqProofs -dsimp only [go_sem, ↓reduceIte, zE, zB, zA, zM, zS, zL, reduceCtorEq, f0, f1, f5, hge, decide_true, reTag_es htg, Int.natCast_nonneg, strI_get ho, fits, decide_true, strI_length, hw]
      intros
      exact outK_self ⟨by rw [hlv], rfl⟩
    · have hw : IntKind.i64.wrap (((p.length - k - 1 : Nat) : Int) - 1) = ((p.length - (k + 1) : Nat) : Int) - 1 := by rw [w64] <;> omega
      simp -implicitDefEqProofs -dsimp only [go_sem, ↓reduceIte, zE, zB, zA, zM, zS, zL, reduceCtorEq, f0, f1, f5, hge, decide_true, reTag_es htg, Int.natCast_nonneg, strI_get ho, fits, decide_eq_false hos, hw]
      intro q hq
      rw [show p.length - (k + 1) = p.length - k - 1 by omega, hdr] at hq
      rcases List.mem_cons.1 hq with rfl | hq
      · exact hos
      · exact hno q hq
  · rintro fr st _ ⟨hno, f0, f1, f5, rfl, rfl⟩
    rw [Nat.sub_self, List.drop_zero] at hno
    have hge : decide ((0 : Int) ≤ ((p.length - p.length : Nat) : Int) - 1) = false := decide_eq_false (by omega)
    have hlv : lvl p s = 0 := by unfold lvl; rw [lookE_no hno]
    simp -implicitDefEqProofs -dsimp only [go_sem, ↓reduceIte, zE, zB, zA, zM, zS, zL, reduceCtorEq, f0, f1, f5, hge]
    exact outK_self ⟨by rw [hlv]; rfl, rfl⟩
theorem dbs_app (e : List ByteArray) : ∀ (l m : List Tm), dbs e (l ++ m) = dbs e l ++ dbs e m
  | [], m => by simp [dbs]
  | a :: l, m => by simp only [List.cons_append, dbs, dbs_app e l m]
theorem dbs_len (e : List ByteArray) : ∀ l : List Tm, (dbs e l).length = l.length
  | [] => rfl
  | a :: l => by simp only [dbs, List.length_cons, dbs_len e l]
theorem dbFs_app (e : List ByteArray) : ∀ (l m : List Fm), dbFs e (l ++ m) = dbFs e l ++ dbFs e m
  | [], m => by simp [dbFs]
  | a :: l, m => by simp only [List.cons_append, dbFs, dbFs_app e l m]
theorem dbFs_len (e : List ByteArray) : ∀ l : List Fm, (dbFs e l).length = l.length
  | [] => rfl
  | a :: l => by simp only [dbFs, List.length_cons, dbFs_len e l]
theorem okTm_args {v : Bool} {n : ByteArray} {m : List Tm} (h : (Tm.mk v n m).ok = true) : okTms m = true ∧ (v = true → m = []) := by
  cases v
  · simp only [Tm.ok, Bool.and_eq_true] at h; exact ⟨h.2, fun h => by cases h⟩
  · simp only [Tm.ok, Bool.and_eq_true, List.isEmpty_iff] at h; exact ⟨by rw [h.1]; rfl, fun _ => h.1⟩

def RTe (us : List Tm) : Prop := ∀ (ws : List Tm) (tx ty : Tag) (xs ys : List IV) (_ : okEs tx 3) (_ : okEs ty 3) (_ : IsTms us xs) (_ : IsTms ws ys) (_ : okTms us = true) (_ : okTms ws = true) (_ : sizeTms us ≤ 1099511627776) (p q : List ByteArray) (tp tq : Tag)
  (_ : okEs tp 1) (_ : okEs tq 1) (_ : p.length = q.length) (_ : p.length ≤ 1099511627776) (st : ISt),
  ICall prog gl 135 [.sl tx xs, .sl ty ys, .sl tp (strI p), .sl tq (strI q)] st (fun r st' => r = .raw (.bool (eqB (dbs p.reverse us) (dbs q.reverse ws))) ∧ st' = st)
theorem terms_step (us : List Tm) (IH : ∀ v n l, Tm.mk v n l ∈ us → RTe gl l) : RTe gl us := by
  intro ws tx ty xs ys htx hty hxs hys hou how hsz p q tp tq htp htq hpq hpl st
  have hlsz := len_le_sizes us
  refine ICall.intro (c := cf prog gl [] []) func135 rfl (by show _ ≤ 99; simp) (by kernel_rfl) ?_
  by_cases hlen : us.length = ws.length
  case neg =>
    simp -implicitDefEqProofs -dsimp only [go_sem, ↓reduceIte, zE, zB, zA, zM, zS, zL, reduceCtorEq, fits, hxs.len, hys.len, show decide ((us.length : Int) = (ws.length : Int)) = false from decide_eq_false (by omega)]
    intros
    exact outK_self ⟨by rw [eqB_false.2 fun h => hlen (by have := congrArg List.length h; rwa [dbs_len, dbs_len] at this)], rfl⟩
  simp -implicitDefEqProofs -dsimp only [go_sem, ↓reduceIte, zE, zB, zA, zM, zS, zL, reduceCtorEq, fits, hxs.len, hys.len, show decide ((us.length : Int) = (ws.length : Int)) = true from decide_eq_true (by omega)]
  intros
  refine LoopC.ctr us.length (fun k fr st' ds => dbs p.reverse (us.take k) = dbs q.reverse (ws.take k) ∧ fr 0 = .iv (.sl tx xs) ∧ fr 1 = .iv (.sl ty ys) ∧ fr 2 = .iv (.sl tp (strI p)) ∧ fr 3 = .iv (.sl tq (strI q)) ∧ fr 9 = .iv (.raw (.int .i64 k)) ∧ st' = st ∧ ds = []) ?_ ?_ ?_
  · simp -implicitDefEqProofs -dsimp only [go_sem, ↓reduceIte, zE, zB, zA, zM, zS, zL, reduceCtorEq]
    exact ⟨rfl, rfl⟩
  · rintro k fr st _ hlt ⟨heq, f0, f1, f2, f3, f9, rfl, rfl⟩
    obtain ⟨a, ha⟩ := get_of_lt hlt
    obtain ⟨b, hb⟩ := get_of_lt (show k < ws.length by omega)
    obtain ⟨y, hky, hy⟩ := hxs.get ha
    obtain ⟨z, hkz, hz⟩ := hys.get hb
    have hma := List.mem_of_getElem? ha
    have hmb := List.mem_of_getElem? hb
    have hoa := okTms_mem hou hma
    have hob := okTms_mem how hmb
    have hsa := size_mem hma
    have hbad : db p.reverse a ≠ db q.reverse b → eqB (dbs p.reverse us) (dbs q.reverse ws) = false := fun hne => eqB_false.2 fun h => hne (by
      have h1 := dbs_get (env := p.reverse) ha
      rw [h, dbs_get hb] at h1
      exact (Option.some.inj h1).symm)
    have hgood : db p.reverse a = db q.reverse b → dbs p.reverse (us.take (k + 1)) = dbs q.reverse (ws.take (k + 1)) := fun h => by
      rw [take_get ha, take_get hb, dbs_app, dbs_app, heq]; simp [dbs, h]
    obtain ⟨v, n, m⟩ := a
    obtain ⟨v', n', m'⟩ := b
    obtain ⟨hm1, hm2⟩ := okTm_args hoa
    obtain ⟨hm1', hm2'⟩ := okTm_args hob
    obtain ⟨t3, x3, rfl, ht3, hx3⟩ := hy.mk
    obtain ⟨t4, x4, rfl, ht4, hx4⟩ := hz.mk
    simp only [Tm.size] at hsa
    have hcall := fun st => IH v n m hma m' t3 t4 x3 x4 ht3 ht4 hx3 hx4 hm1 hm1' (by omega) p q tp tq htp htq hpq hpl st
    have bt : (true == false) = false := rfl
    have bf : (false == true) = false := rfl
    cases v <;> cases v'
    · simp -implicitDefEqProofs -dsimp only [go_sem, ↓reduceIte, zE, zB, zA, zM, zS, zL, reduceCtorEq, f0, f1, f2, f3, f9, hxs.len, lt_i hlt, reTag_es htx, reTag_es hty, Int.natCast_nonneg, hky, hkz, fits]
      intros
      refine (hcall _).mono ?_
      rintro _ st ⟨rfl, rfl⟩
      cases he : eqB (dbs p.reverse m) (dbs q.reverse m')
      · simp -implicitDefEqProofs -dsimp only [go_sem, ↓reduceIte, zE, zB, zA, zM, zS, zL, reduceCtorEq, f0, f1, f2, f3, f9]
        exact outK_self ⟨by rw [hbad fun h => by simp only [db, NlT.ap.injEq] at h; exact eqB_false.1 he h.2], rfl⟩
      by_cases hn : n = n'
      · simp -implicitDefEqProofs -dsimp only [go_sem, ↓reduceIte, zE, zB, zA, zM, zS, zL, reduceCtorEq, f0, f1, f2, f3, f9, reTag_es htx, reTag_es hty, Int.natCast_nonneg, hky, hkz, fits, decide_eq_true hn, w_succ hlt (show us.length ≤ 281474976710656 by omega)]
        exact hgood (by simp only [db, hn, eqB_true.1 he])
      · simp -implicitDefEqProofs -dsimp only [go_sem, ↓reduceIte, zE, zB, zA, zM, zS, zL, reduceCtorEq, f0, f1, f2, f3, f9, reTag_es htx, reTag_es hty, Int.natCast_nonneg, hky, hkz, fits, decide_eq_false hn]
        exact outK_self ⟨by rw [hbad fun h => by simp only [db, NlT.ap.injEq] at h; exact hn h.1], rfl⟩
    · simp -implicitDefEqProofs -dsimp only [go_sem, ↓reduceIte, zE, zB, zA, zM, zS, zL, reduceCtorEq, f0, f1, f2, f3, f9, hxs.len, lt_i hlt, reTag_es htx, reTag_es hty, Int.natCast_nonneg, hky, hkz, fits, bf]
      intros
      exact outK_self ⟨by rw [hbad fun h => by simp only [db, lookV] at h; split at h <;> cases h], rfl⟩
    · simp -implicitDefEqProofs -dsimp only [go_sem, ↓reduceIte, zE, zB, zA, zM, zS, zL, reduceCtorEq, f0, f1, f2, f3, f9, hxs.len, lt_i hlt, reTag_es htx, reTag_es hty, Int.natCast_nonneg, hky, hkz, fits, bt]
      intros
      exact outK_self ⟨by rw [hbad fun h => by simp only [db, lookV] at h; split at h <;> cases h], rfl⟩
    · obtain rfl := hm2 rfl
      obtain rfl := hm2' rfl
      simp -implicitDefEqProofs -dsimp only [go_sem, ↓reduceIte, zE, zB, zA, zM, zS, zL, reduceCtorEq, f0, f1, f2, f3, f9, hxs.len, lt_i hlt, reTag_es htx, reTag_es hty, Int.natCast_nonneg, hky, hkz, fits]
      intros
      refine (hcall _).mono ?_
      rintro _ st ⟨rfl, rfl⟩
      have he : eqB (dbs p.reverse []) (dbs q.reverse []) = true := eqB_true.2 rfl
      simp -implicitDefEqProofs -dsimp only [go_sem, ↓reduceIte, zE, zB, zA, zM, zS, zL, reduceCtorEq, f0, f1, f2, f3, f9, he, reTag_es htx, reTag_es hty, Int.natCast_nonneg, hky, hkz, fits]
      refine (level_c gl p tp htp hpl n _).mono ?_
      rintro _ st ⟨rfl, rfl⟩
      simp -implicitDefEqProofs -dsimp only [go_sem, ↓reduceIte, zE, zB, zA, zM, zS, zL, reduceCtorEq, f0, f1, f2, f3, f9, reTag_es htx, reTag_es hty, Int.natCast_nonneg, hky, hkz, fits]
      refine (level_c gl q tq htq (by omega) n' _).mono ?_
      rintro _ st ⟨rfl, rfl⟩
      have hiff := lvl_eq hpq n n'
      by_cases hl : lvl p n = lvl q n'
      · by_cases hl0 : lvl p n = 0
        · by_cases hn : n = n'
          · simp -implicitDefEqProofs -dsimp only [go_sem, ↓reduceIte, zE, zB, zA, zM, zS, zL, reduceCtorEq, f0, f1, f2, f3, f9, reTag_es htx, reTag_es hty, Int.natCast_nonneg, hky, hkz, fits, decide_eq_true hn, show decide ((lvl p n : Int) = (lvl q n' : Int)) = true from decide_eq_true (by omega),
              show decide ((lvl p n : Int) = 0) = true from decide_eq_true (by omega), w_succ hlt (show us.length ≤ 281474976710656 by omega)]
            exact hgood (by simp only [db]; exact hiff.2 ⟨hl, fun _ => hn⟩)
          · simp -implicitDefEqProofs -dsimp only [go_sem, ↓reduceIte, zE, zB, zA, zM, zS, zL, reduceCtorEq, f0, f1, f2, f3, f9, reTag_es htx, reTag_es hty, Int.natCast_nonneg, hky, hkz, fits, decide_eq_false hn, show decide ((lvl p n : Int) = (lvl q n' : Int)) = true from decide_eq_true (by omega),
              show decide ((lvl p n : Int) = 0) = true from decide_eq_true (by omega)]
            exact outK_self ⟨by rw [hbad fun h => by simp only [db] at h; exact hn ((hiff.1 h).2 hl0)], rfl⟩
        · simp -implicitDefEqProofs -dsimp only [go_sem, ↓reduceIte, zE, zB, zA, zM, zS, zL, reduceCtorEq, f0, f1, f2, f3, f9, reTag_es htx, reTag_es hty, Int.natCast_nonneg, hky, hkz, fits, show decide ((lvl p n : Int) = (lvl q n' : Int)) = true from decide_eq_true (by omega),
              show decide ((lvl p n : Int) = 0) = false from decide_eq_false (by omega), w_succ hlt (show us.length ≤ 281474976710656 by omega)]
          exact hgood (by simp only [db]; exact hiff.2 ⟨hl, fun h => absurd h hl0⟩)
      · simp -implicitDefEqProofs -dsimp only [go_sem, ↓reduceIte, zE, zB, zA, zM, zS, zL, reduceCtorEq, f0, f1, f2, f3, f9, reTag_es htx, reTag_es hty, Int.natCast_nonneg, hky, hkz, fits, show decide ((lvl p n : Int) = (lvl q n' : Int)) = false from decide_eq_false (by omega)]
        exact outK_self ⟨by rw [hbad fun h => by simp only [db] at h; exact hl (hiff.1 h).1], rfl⟩
  · rintro fr st _ ⟨heq, f0, f1, f2, f3, f9, rfl, rfl⟩
    rw [List.take_length, hlen, List.take_length] at heq
    simp -implicitDefEqProofs -dsimp only [go_sem, ↓reduceIte, zE, zB, zA, zM, zS, zL, reduceCtorEq, f0, f1, f9, hxs.len, nlt_i (Nat.lt_irrefl _), fits]
    intros
    exact outK_self ⟨by rw [eqB_true.2 heq], rfl⟩
theorem terms_all : ∀ (k : Nat) (us : List Tm), SizeOf.sizeOf us < k → RTe gl us
  | 0, f, h => by omega
  | k + 1, us, h => terms_step gl us (fun v n l hm => terms_all k l (by
      have := List.sizeOf_lt_of_mem hm
      simp at this; omega))
theorem rterms_c (us : List Tm) : RTe gl us := terms_all gl _ us (Nat.lt_succ_self _)
end Go.Proofs.Tryz

namespace Go.Proofs.Tryz
open Go Go.Iv
set_option maxRecDepth 4000
variable (gl : Nat → Option IV)

theorem inOrder_n0 : inOrder 0 [] = true := rfl
def RSm (a : Fm) : Prop := ∀ (b : Fm) (x y : IV) (_ : IsFm a x) (_ : IsFm b y) (_ : a.ok = true) (_ : b.ok = true) (p q : List ByteArray) (tp tq : Tag) (_ : okEs tp 1) (_ : okEs tq 1) (_ : p.length = q.length) (_ : p.length + a.size ≤ 1099511627776) (st : ISt),
  ICall prog gl 95 [x, y, .sl tp (strI p), .sl tq (strI q)] st (fun r st' => r = .raw (.bool (eqB (dbF p.reverse a) (dbF q.reverse b))) ∧ st' = st)
theorem rsame_step (op : Nat) (n : ByteArray) (us : List Tm) (sub : List Fm) (IH : ∀ a ∈ sub, RSm gl a) : RSm gl (.mk op n us sub) := by
  intro b x y hx hy hok hok' p q tp tq htp htq hpq hpl st
  obtain ⟨op', n', us', sub'⟩ := b
  obtain ⟨ta, xa, tb, xb, rfl, ho, hta, hxa, htb, hxb⟩ := hx.mk
  obtain ⟨tc, xc, td, xd, rfl, ho', htc, hxc, htd, hxd⟩ := hy.mk
  obtain ⟨hk1, hk2, _⟩ := ok_form hok
  obtain ⟨hk1', hk2', _⟩ := ok_form hok'
  simp only [Fm.size] at hpl
  have hl1 := len_le_sizes us
  have hl2 := len_le_fms sub
  have hterms := fun st => rterms_c gl us us' ta tc xa xc hta htc hxa hxc hk1 hk1' (by omega) p q tp tq htp htq hpq (by omega) st
  have hne : ∀ {X Y : NlF}, X ≠ Y → eqB X Y = false := fun h => eqB_false.2 h
  refine ICall.intro (c := cf prog gl [] [(4, [0, 1, 3, 4, 5, 2, 6, 7]), (5, [0, 1, 3, 4, 5, 2, 6, 7])]) func95 rfl (by show _ ≤ 76; simp) (by kernel_rfl) ?_
  by_cases hop : op = op'
  case neg =>
    simp -implicitDefEqProofs -dsimp only [go_sem, ↓reduceIte, zE, zB, zA, zM, zS, zL, reduceCtorEq, fits, show decide ((op : Int) = (op' : Int)) = false from decide_eq_false (by omega)]
    exact outK_self ⟨by rw [hne fun h => by simp only [dbF, NlF.mk.injEq] at h; exact hop h.1], rfl⟩
  subst hop
  by_cases hlen : sub.length = sub'.length
  case neg =>
    simp -implicitDefEqProofs -dsimp only [go_sem, ↓reduceIte, zE, zB, zA, zM, zS, zL, reduceCtorEq, fits, decide_true, hxb.len, hxd.len, show decide ((sub.length : Int) = (sub'.length : Int)) = false from decide_eq_false (by omega)]
    intros
    exact outK_self ⟨by rw [hne fun h => by
      simp only [dbF, NlF.mk.injEq] at h
      have := congrArg List.length h.2.2.2
      rw [dbFs_len, dbFs_len] at this
      exact hlen this], rfl⟩
  simp -implicitDefEqProofs -dsimp only [go_sem, ↓reduceIte, zE, zB, zA, zM, zS, zL, reduceCtorEq, fits, decide_true, hxb.len, hxd.len, show decide ((sub.length : Int) = (sub'.length : Int)) = true from decide_eq_true (by omega)]
  intros
  refine (hterms _).mono ?_
  rintro _ st ⟨rfl, rfl⟩
  cases het : eqB (dbs p.reverse us) (dbs q.reverse us')
  · simp -implicitDefEqProofs -dsimp only [go_sem, ↓reduceIte, zE, zB, zA, zM, zS, zL, reduceCtorEq, fits]
    exact outK_self ⟨by rw [hne fun h => by simp only [dbF, NlF.mk.injEq] at h; exact eqB_false.1 het h.2.2.1], rfl⟩
  have het' := eqB_true.1 het
  simp -implicitDefEqProofs -dsimp only [go_sem, ↓reduceIte, zE, zB, zA, zM, zS, zL, reduceCtorEq, fits]
  refine (binds_c gl op n _ _ _ _ _).mono ?_
  rintro _ st ⟨rfl, rfl⟩
  cases hq : isQ op
  · by_cases hn : n = n'
    · have fin : eqB (dbF p.reverse (.mk op n us sub)) (dbF q.reverse (.mk op n' us' sub')) = eqB (dbFs p.reverse sub) (dbFs q.reverse sub') := by
        rw [Bool.eq_iff_iff, eqB_true, eqB_true]
        simp only [dbF, hq, Bool.false_eq_true, if_false, NlF.mk.injEq, true_and, hn, het']
      have hpl2 : p.length + (sizeTms us + sizeFms sub + 1) ≤ 1099511627776 := hpl
      have f4 : True := trivial
      have f5 : True := trivial
      simp -implicitDefEqProofs -dsimp only [go_sem, ↓reduceIte, zE, zB, zA, zM, zS, zL, reduceCtorEq, fits, decide_eq_true hn]
      refine LoopC.ctr sub.length (fun k fr st' ds => dbFs (p).reverse (sub.take k) = dbFs (q).reverse (sub'.take k) ∧ fr 2 = .iv (.sl tp (strI (p))) ∧ fr 3 = .iv (.sl tq (strI (q))) ∧ fr 4 = .box [.raw (.int .u8 op), .raw (.string n), .sl ta xa, .sl tb xb] ∧
        fr 5 = .box [.raw (.int .u8 op), .raw (.string n'), .sl tc xc, .sl td xd] ∧ fr 9 = .iv (.raw (.int .i64 k)) ∧ st' = st ∧ ds = []) ?_ ?_ ?_
      · simp -implicitDefEqProofs -dsimp only [go_sem, ↓reduceIte, zE, zB, zA, zM, zS, zL, reduceCtorEq, f4, f5]
        first | rfl | exact ⟨rfl, rfl⟩
      · rintro k fr stk _ hlt ⟨heq, f2, f3, f4, f5, f9, hst, rfl⟩
        obtain ⟨a, ha⟩ := get_of_lt hlt
        obtain ⟨b, hb⟩ := get_of_lt (show k < sub'.length by omega)
        obtain ⟨y, hky, hy⟩ := hxb.get ha
        obtain ⟨z, hkz, hz⟩ := hxd.get hb
        have hma := List.mem_of_getElem? ha
        have hmb := List.mem_of_getElem? hb
        have hsa := (sizeFms_takes ha).2
        have hcall := fun st => IH a hma b y z hy hz (okFms_mem hk2 hma) (okFms_mem hk2' hmb) (p) (q) tp tq htp htq (by simp [hpq]) (by first | omega | (simp only [List.length_append, List.length_cons, List.length_nil]; omega)) st
        have hbad : eqB (dbF (p).reverse a) (dbF (q).reverse b) = false → eqB (dbFs (p).reverse sub) (dbFs (q).reverse sub') = false := fun hne => eqB_false.2 fun h => eqB_false.1 hne (by
          have h1 := dbFs_get (env := (p).reverse) ha
          rw [h, dbFs_get hb] at h1
          exact (Option.some.inj h1).symm)
        have hgood : eqB (dbF (p).reverse a) (dbF (q).reverse b) = true → dbFs (p).reverse (sub.take (k + 1)) = dbFs (q).reverse (sub'.take (k + 1)) := fun h => by
          rw [take_get ha, take_get hb, dbFs_app, dbFs_app, heq]; simp only [dbFs, eqB_true.1 h]
        obtain ⟨o8, n8, t8, x8, t9, x9, rfl⟩ := hy.agg
        obtain ⟨o6, n6, t6, x6, t7, x7, rfl⟩ := hz.agg
        simp -implicitDefEqProofs -dsimp only [go_sem, ↓reduceIte, zE, zB, zA, zM, zS, zL, reduceCtorEq, f2, f3, f4, f5, f9, hxb.len, lt_i hlt, reTag_es htb, reTag_es htd, Int.natCast_nonneg, hky, hkz, fits]
        intros
        refine (hcall _).mono ?_
        rintro _ stk ⟨rfl, rfl⟩
        cases he : eqB (dbF (p).reverse a) (dbF (q).reverse b)
        · simp -implicitDefEqProofs -dsimp only [go_sem, ↓reduceIte, zE, zB, zA, zM, zS, zL, reduceCtorEq, f2, f3, f4, f5, f9]
          refine outK_sub (by rw [hst]; exact subSt.refl _) ⟨?_, rfl⟩
          rw [fin, hbad he]
        · simp -implicitDefEqProofs -dsimp only [go_sem, ↓reduceIte, zE, zB, zA, zM, zS, zL, reduceCtorEq, f2, f3, f4, f5, f9, w_succ hlt (show sub.length ≤ 281474976710656 by omega)]
          exact ⟨hgood he, hst⟩
      rintro fr stk _ ⟨heq, f2, f3, f4, f5, f9, hst, rfl⟩
      rw [List.take_length, hlen, List.take_length] at heq
      simp -implicitDefEqProofs -dsimp only [go_sem, ↓reduceIte, zE, zB, zA, zM, zS, zL, reduceCtorEq, f4, f9, hxb.len, nlt_i (Nat.lt_irrefl _), fits]
      intros
      refine outK_sub (by rw [hst]; exact subSt.refl _) ⟨?_, rfl⟩
      rw [fin, eqB_true.2 heq]
    · simp -implicitDefEqProofs -dsimp only [go_sem, ↓reduceIte, zE, zB, zA, zM, zS, zL, reduceCtorEq, fits, decide_eq_false hn]
      exact outK_self ⟨by rw [hne fun h => by simp only [dbF, hq, Bool.false_eq_true, if_false, NlF.mk.injEq] at h; exact hn h.2.1], rfl⟩
  · have fin : eqB (dbF p.reverse (.mk op n us sub)) (dbF q.reverse (.mk op n' us' sub')) = eqB (dbFs (p ++ [n]).reverse sub) (dbFs (q ++ [n']).reverse sub') := by
      rw [Bool.eq_iff_iff, eqB_true, eqB_true]
      simp only [dbF, hq, if_true, NlF.mk.injEq, true_and, het', List.reverse_append, List.reverse_cons, List.reverse_nil, List.nil_append, List.cons_append]
    simp -implicitDefEqProofs -dsimp only [go_sem, ↓reduceIte, zE, zB, zA, zM, zS, zL, reduceCtorEq, fits, inOrder_n0, inOrder_one]
    refine appV_owns (s := 1) (S0 := st) (own.full st st 0 1) rfl (strI_length p) (subSt.refl st) rfl (by simp [fits, IV.one, strI]) (by simp only; omega) (by omega) fun tg1 st1 hown1 hsub1 _ => ?_
    simp -implicitDefEqProofs -dsimp only [go_sem, ↓reduceIte, zE, zB, zA, zM, zS, zL, reduceCtorEq, fits, inOrder_one]
    refine appV_own hown1 (by simp [strI_length]) hsub1 rfl (by simp [fits, IV.one]) (by simp only; omega) (by omega) fun tg2 st2 hown2 hsub2 _ => ?_
    have eap : strI p ++ [.raw (.string n)] = strI (p ++ [n]) := by rw [strI_append]; rfl
    have eap2 : strI q ++ [.raw (.string n')] = strI (q ++ [n']) := by rw [strI_append]; rfl
    try simp only [List.nil_append]
    rw [eap]
    simp -implicitDefEqProofs -dsimp only [go_sem, ↓reduceIte, zE, zB, zA, zM, zS, zL, reduceCtorEq, fits, inOrder_n0, inOrder_one]
    refine appV_owns (s := 1) (S0 := st2) (own.full st2 st2 0 1) rfl (strI_length q) (subSt.refl st2) rfl (by simp [fits, IV.one, strI]) (by simp only; omega) (by omega) fun tg3 st3 hown3 hsub3 _ => ?_
    simp -implicitDefEqProofs -dsimp only [go_sem, ↓reduceIte, zE, zB, zA, zM, zS, zL, reduceCtorEq, fits, inOrder_one]
    refine appV_own hown3 (by simp [strI_length]) hsub3 rfl (by simp [fits, IV.one]) (by simp only; omega) (by omega) fun tg4 st4 hown4 hsub4 _ => ?_
    try simp only [List.nil_append]
    rw [eap2]
    have f4 : True := trivial
    have f5 : True := trivial
    simp -implicitDefEqProofs -dsimp only [go_sem, ↓reduceIte, zE, zB, zA, zM, zS, zL, reduceCtorEq, fits]
    refine LoopC.ctr sub.length (fun k fr st' ds => dbFs (p ++ [n]).reverse (sub.take k) = dbFs (q ++ [n']).reverse (sub'.take k) ∧ fr 2 = .iv (.sl tg2 (strI (p ++ [n]))) ∧ fr 3 = .iv (.sl tg4 (strI (q ++ [n']))) ∧ fr 4 = .box [.raw (.int .u8 op), .raw (.string n), .sl ta xa, .sl tb xb] ∧
      fr 5 = .box [.raw (.int .u8 op), .raw (.string n'), .sl tc xc, .sl td xd] ∧ fr 9 = .iv (.raw (.int .i64 k)) ∧ st' = st4 ∧ ds = []) ?_ ?_ ?_
    · simp -implicitDefEqProofs -dsimp only [go_sem, ↓reduceIte, zE, zB, zA, zM, zS, zL, reduceCtorEq, f4, f5]
      first | rfl | exact ⟨rfl, rfl⟩
    · rintro k fr stk _ hlt ⟨heq, f2, f3, f4, f5, f9, hst, rfl⟩
      obtain ⟨a, ha⟩ := get_of_lt hlt
      obtain ⟨b, hb⟩ := get_of_lt (show k < sub'.length by omega)
      obtain ⟨y, hky, hy⟩ := hxb.get ha
      obtain ⟨z, hkz, hz⟩ := hxd.get hb
      have hma := List.mem_of_getElem? ha
      have hmb := List.mem_of_getElem? hb
      have hsa := (sizeFms_takes ha).2
      have hcall := fun st => IH a hma b y z hy hz (okFms_mem hk2 hma) (okFms_mem hk2' hmb) (p ++ [n]) (q ++ [n']) tg2 tg4 hown2.es hown4.es (by simp [hpq]) (by first | omega | (simp only [List.length_append, List.length_cons, List.length_nil]; omega)) st
      have hbad : eqB (dbF (p ++ [n]).reverse a) (dbF (q ++ [n']).reverse b) = false → eqB (dbFs (p ++ [n]).reverse sub) (dbFs (q ++ [n']).reverse sub') = false := fun hne => eqB_false.2 fun h => eqB_false.1 hne (by
        have h1 := dbFs_get (env := (p ++ [n]).reverse) ha
        rw [h, dbFs_get hb] at h1
        exact (Option.some.inj h1).symm)
      have hgood : eqB (dbF (p ++ [n]).reverse a) (dbF (q ++ [n']).reverse b) = true → dbFs (p ++ [n]).reverse (sub.take (k + 1)) = dbFs (q ++ [n']).reverse (sub'.take (k + 1)) := fun h => by
        rw [take_get ha, take_get hb, dbFs_app, dbFs_app, heq]; simp only [dbFs, eqB_true.1 h]
      obtain ⟨o8, n8, t8, x8, t9, x9, rfl⟩ := hy.agg
      obtain ⟨o6, n6, t6, x6, t7, x7, rfl⟩ := hz.agg
      simp -implicitDefEqProofs -dsimp only [go_sem, ↓reduceIte, zE, zB, zA, zM, zS, zL, reduceCtorEq, f2, f3, f4, f5, f9, hxb.len, lt_i hlt, reTag_es htb, reTag_es htd, Int.natCast_nonneg, hky, hkz, fits]
      intros
      refine (hcall _).mono ?_
      rintro _ stk ⟨rfl, rfl⟩
      cases he : eqB (dbF (p ++ [n]).reverse a) (dbF (q ++ [n']).reverse b)
      · simp -implicitDefEqProofs -dsimp only [go_sem, ↓reduceIte, zE, zB, zA, zM, zS, zL, reduceCtorEq, f2, f3, f4, f5, f9]
        refine outK_sub (by rw [hst]; exact hsub2.trans hsub4) ⟨?_, rfl⟩
        rw [fin, hbad he]
      · simp -implicitDefEqProofs -dsimp only [go_sem, ↓reduceIte, zE, zB, zA, zM, zS, zL, reduceCtorEq, f2, f3, f4, f5, f9, w_succ hlt (show sub.length ≤ 281474976710656 by omega)]
        exact ⟨hgood he, hst⟩
    rintro fr stk _ ⟨heq, f2, f3, f4, f5, f9, hst, rfl⟩
    rw [List.take_length, hlen, List.take_length] at heq
    simp -implicitDefEqProofs -dsimp only [go_sem, ↓reduceIte, zE, zB, zA, zM, zS, zL, reduceCtorEq, f4, f9, hxb.len, nlt_i (Nat.lt_irrefl _), fits]
    intros
    refine outK_sub (by rw [hst]; exact hsub2.trans hsub4) ⟨?_, rfl⟩
    rw [fin, eqB_true.2 heq]
theorem rsame_all : ∀ (k : Nat) (t : Fm), SizeOf.sizeOf t < k → RSm gl t
  | 0, f, h => by omega
  | k + 1, .mk o n us sub, h => rsame_step gl o n us sub (fun a ha => rsame_all k a (by
      have := List.sizeOf_lt_of_mem ha
      simp at h; omega))
theorem rsame_c (t : Fm) : RSm gl t := rsame_all gl _ t (Nat.lt_succ_self _)
theorem rAlpha_c (f g : Fm) (x y : IV) (hx : IsFm f x) (hy : IsFm g y) (hs : f.size ≤ 1000000) (hs' : g.size ≤ 1000000) (st : ISt) :
    ICall prog gl 57 [x, y] st (fun r st' => r = .raw (.bool (alphaB f g)) ∧ st' = st) := by
  have h1 := fun st => rRight_c gl f x hx (by omega) st
  have h2 := fun st => rRight_c gl g y hy (by omega) st
  have h3 := fun hf hg tp tq htp htq st => rsame_c gl f g x y hx hy hf hg [] [] tp tq htp htq rfl (by simp; omega) st
  have hal : alphaB f g = (f.right && g.right && eqB (dbF [] f) (dbF [] g)) := rfl
  obtain ⟨o1, n1, t1, x1, t2, x2, rfl⟩ := hx.agg
  obtain ⟨o3, n3, t3, x3, t4, x4, rfl⟩ := hy.agg
  refine ICall.intro (c := cf prog gl [] []) func57 rfl (by show _ ≤ 16; simp) (by kernel_rfl) ?_
  simp -implicitDefEqProofs -dsimp only [go_sem, ↓reduceIte, zE, zB, zA, zM, zS, zL, reduceCtorEq, fits]
  refine (h1 _).mono ?_
  rintro _ st ⟨rfl, rfl⟩
  cases hr : f.right
  · simp -implicitDefEqProofs -dsimp only [go_sem, ↓reduceIte, zE, zB, zA, zM, zS, zL, reduceCtorEq, fits]
    exact outK_self ⟨by simp [hal, hr], rfl⟩
  simp -implicitDefEqProofs -dsimp only [go_sem, ↓reduceIte, zE, zB, zA, zM, zS, zL, reduceCtorEq, fits]
  refine (h2 _).mono ?_
  rintro _ st ⟨rfl, rfl⟩
  cases hr' : g.right
  · simp -implicitDefEqProofs -dsimp only [go_sem, ↓reduceIte, zE, zB, zA, zM, zS, zL, reduceCtorEq, fits]
    exact outK_self ⟨by simp [hal, hr'], rfl⟩
  simp -implicitDefEqProofs -dsimp only [go_sem, ↓reduceIte, zE, zB, zA, zM, zS, zL, reduceCtorEq, fits]
  refine (h3 (right_ok hr).1 (right_ok hr').1 _ _ (.inl rfl) (.inl rfl) _).mono ?_
  rintro _ st ⟨rfl, rfl⟩
  simp -implicitDefEqProofs -dsimp only [go_sem, ↓reduceIte, zE, zB, zA, zM, zS, zL, reduceCtorEq, fits]
  exact outK_self ⟨by rw [hal, hr, hr']; rfl, rfl⟩
end Go.Proofs.Tryz
