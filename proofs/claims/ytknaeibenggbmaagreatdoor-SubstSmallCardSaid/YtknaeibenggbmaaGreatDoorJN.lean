/- Walks: equality of formulas and of lists of names; makers of terms and formulas.
   Walks: the variables of terms, as they are visited. -/
import Derived.Test.YtknaeibenggbmaaGreatDoorJM
set_option linter.all false
open Nat renaming reduceEqDiff → zE, reduceBEq → zB, reduceAdd → zA, reduceMul → zM, reduceSub → zS, reduceLeDiff → zL
attribute [local go_sem] Go.Iv.cf Go.Iv.setAt List.all_cons List.all_nil Bool.and_self Bool.true_and Bool.and_true Bool.false_and Bool.and_false Bool.not_true Bool.not_false List.mem_nil_iff if_false if_true beq_self_eq_true Nat.zero_add Nat.add_zero List.getElem?_cons_zero List.getElem?_cons_succ Option.map_some List.mem_cons or_false false_or or_true true_or Nat.sub_zero forall_const Int.toNat_natCast List.length_cons List.length_nil List.map_cons List.map_nil List.take_succ_cons List.take_zero List.drop_zero List.drop_succ_cons List.cons_append List.nil_append List.append_nil and_true true_and and_self true_implies List.zip_cons_cons List.zip_nil_left
namespace Go.Proofs.Tryz
open Go Go.Iv
set_option maxRecDepth 4000
variable (gl : Nat → Option IV)

def SF (f : Fm) : Prop := ∀ (g : Fm) (x y : IV) (_ : IsFm f x) (_ : IsFm g y) (st : ISt), ICall prog gl 26 [x, y] st (fun r st' => r = .raw (.bool (eqB f g)) ∧ st' = st)

theorem SameForms_step (us ws : List Fm) (IH : ∀ a ∈ us, SF gl a) (t t' : Tag) (xs ys : List IV) (ht : okEs t 4) (ht' : okEs t' 4) (ha : IsFms us xs) (hb : IsFms ws ys) (st : ISt) :
    ICall prog gl 68 [.sl t xs, .sl t' ys] st (fun x st' => x = .raw (.bool (eqB us ws)) ∧ st' = st) := by
  refine ICall.intro (c := cf prog gl [] []) func68 rfl (by show _ ≤ 27; simp) (by kernel_rfl) ?_
  simp -implicitDefEqProofs -dsimp only [go_sem, ↓reduceIte, zE, zB, zA, zM, zS, zL, reduceCtorEq, ha.len, hb.len]
  intro hla hlb
  refine condV_intro (fun h => ?_) (fun h => ?_)
  · have hne : us ≠ ws := by rintro rfl; simp at h
    simp -implicitDefEqProofs -dsimp only [go_sem, ↓reduceIte, zE, zB, zA, zM, zS, zL, reduceCtorEq]
    exact outK_self ⟨by rw [eqB_false.2 hne], rfl⟩
  have hlen : us.length = ws.length := by simp at h; omega
  simp -implicitDefEqProofs -dsimp only [go_sem, ↓reduceIte, zE, zB, zA, zM, zS, zL, reduceCtorEq]
  refine LoopC.ctr us.length (fun k fr st' ds => us.take k = ws.take k ∧ fr 0 = .iv (.sl t xs) ∧ fr 1 = .iv (.sl t' ys) ∧ fr 5 = .iv (.raw (.int .i64 k)) ∧ st' = st ∧ ds = []) ?_ ?_ ?_
  · simp -implicitDefEqProofs -dsimp only [go_sem, ↓reduceIte, zE, zB, zA, zM, zS, zL, reduceCtorEq]; rfl
  · rintro k fr st ds hlt ⟨hn, h0, h1, h5, rfl, rfl⟩
    obtain ⟨a, hka⟩ := get_of_lt hlt
    obtain ⟨b, hkb⟩ := get_of_lt (hlen ▸ hlt)
    obtain ⟨x, hkx, hx⟩ := ha.get hka
    obtain ⟨y, hky, hy⟩ := hb.get hkb
    obtain ⟨o, n, cs, sub⟩ := a
    obtain ⟨o', m, cs', sub'⟩ := b
    obtain ⟨t1, x1, t2, x2, rfl, _⟩ := hx.mk
    obtain ⟨t3, x3, t4, x4, rfl, _⟩ := hy.mk
    have F := And.intro (lt_i hlt) (w_succ hlt (show us.length ≤ 281474976710656 by omega))
    simp -implicitDefEqProofs -dsimp only [go_sem, ↓reduceIte, zE, zB, zA, zM, zS, zL, reduceCtorEq, h0, h1, h5, ha.len, hb.len, F.1, F.2, reTag_es ht, reTag_es ht', Int.natCast_nonneg, hkx, hky]
    intro _
    refine (IH _ (List.mem_of_getElem? hka) _ _ _ hx hy _).mono ?_
    rintro _ st ⟨rfl, rfl⟩
    by_cases hc : Fm.mk o n cs sub = Fm.mk o' m cs' sub'
    · simp -implicitDefEqProofs -dsimp only [go_sem, ↓reduceIte, zE, zB, zA, zM, zS, zL, reduceCtorEq, h0, h1, h5, F.2, eqB_true.2 hc]
      rw [take_get hka, take_get hkb, hn, hc]
    · simp -implicitDefEqProofs -dsimp only [go_sem, ↓reduceIte, zE, zB, zA, zM, zS, zL, reduceCtorEq, h0, h1, h5, eqB_false.2 hc]
      have hne : us ≠ ws := by
        rintro rfl
        rw [hka] at hkb
        injection hkb with hkb
        exact hc hkb
      exact outK_self ⟨by rw [eqB_false.2 hne], rfl⟩
  · rintro fr st ds ⟨hn, h0, h1, h5, rfl, rfl⟩
    simp -implicitDefEqProofs -dsimp only [go_sem, ↓reduceIte, zE, zB, zA, zM, zS, zL, reduceCtorEq, h0, h1, h5, ha.len, nlt_i (Nat.lt_irrefl _)]
    intro _
    have he : us = ws := by rw [List.take_length] at hn; rw [hn, hlen, List.take_length]
    exact outK_self ⟨by rw [eqB_true.2 he], rfl⟩

theorem Same_step (o : Nat) (n : ByteArray) (us : List Tm) (sub : List Fm) (IH : ∀ a ∈ sub, SF gl a) : SF gl (.mk o n us sub) := by
  intro g x y hx hy st
  obtain ⟨o', m, us', sub'⟩ := g
  obtain ⟨t1, x1, t2, x2, rfl, ho, ht1, hx1, ht2, hx2⟩ := hx.mk
  obtain ⟨t3, x3, t4, x4, rfl, ho', ht3, hx3, ht4, hx4⟩ := hy.mk
  refine ICall.intro (c := cf prog gl [] []) func26 rfl (by show _ ≤ 31; simp) (by kernel_rfl) ?_
  have hne : ∀ (r : Fm.mk o n us sub ≠ Fm.mk o' m us' sub'), eqB (Fm.mk o n us sub) (Fm.mk o' m us' sub') = false := fun r => eqB_false.2 r
  by_cases h1 : o = o'
  case neg =>
    simp -implicitDefEqProofs -dsimp only [go_sem, ↓reduceIte, zE, zB, zA, zM, zS, zL, reduceCtorEq, show decide ((o : Int) = (o' : Int)) = false from decide_eq_false (by omega)]
    exact outK_self ⟨by rw [hne (by intro h; injection h; contradiction)], rfl⟩
  subst h1
  by_cases h2 : n = m
  case neg =>
    simp -implicitDefEqProofs -dsimp only [go_sem, ↓reduceIte, zE, zB, zA, zM, zS, zL, reduceCtorEq, decide_true, decide_eq_false h2]
    exact outK_self ⟨by rw [hne (by intro h; injection h; contradiction)], rfl⟩
  subst h2
  simp -implicitDefEqProofs -dsimp only [go_sem, ↓reduceIte, zE, zB, zA, zM, zS, zL, reduceCtorEq, decide_true]
  refine (SameTerms_c gl _ _ us us' _ _ ht1 ht3 hx1 hx3 _).mono ?_
  rintro _ st ⟨rfl, rfl⟩
  by_cases h3 : us = us'
  case neg =>
    simp -implicitDefEqProofs -dsimp only [go_sem, ↓reduceIte, zE, zB, zA, zM, zS, zL, reduceCtorEq, eqB_false.2 h3]
    exact outK_self ⟨by rw [hne (by intro h; injection h; contradiction)], rfl⟩
  subst h3
  simp -implicitDefEqProofs -dsimp only [go_sem, ↓reduceIte, zE, zB, zA, zM, zS, zL, reduceCtorEq, eqB_true.2 rfl]
  refine (SameForms_step gl sub sub' IH _ _ _ _ ht2 ht4 hx2 hx4 _).mono ?_
  rintro _ st ⟨rfl, rfl⟩
  simp -implicitDefEqProofs -dsimp only [go_sem, ↓reduceIte, zE, zB, zA, zM, zS, zL, reduceCtorEq]
  refine outK_self ⟨?_, rfl⟩
  congr 2
  by_cases h4 : sub = sub'
  · subst h4; rw [eqB_true.2 rfl, eqB_true.2 rfl]
  · rw [eqB_false.2 h4, hne (by intro h; injection h; contradiction)]
theorem Same_all : ∀ (k : Nat) (f : Fm), SizeOf.sizeOf f < k → SF gl f
  | 0, f, h => by omega
  | k + 1, .mk op n us sub, h => Same_step gl op n us sub (fun a ha => Same_all k a (by
      have := List.sizeOf_lt_of_mem ha
      simp at h; omega))
theorem Same_c (f g : Fm) (x y : IV) (hx : IsFm f x) (hy : IsFm g y) (st : ISt) : ICall prog gl 26 [x, y] st (fun r st' => r = .raw (.bool (eqB f g)) ∧ st' = st) :=
  Same_all gl _ f (Nat.lt_succ_self _) g x y hx hy st

theorem SameNames_c (t t' : Tag) (us ws : List ByteArray) (ht : okEs t 1) (ht' : okEs t' 1) (st : ISt) :
    ICall prog gl 31 [.sl t (strI us), .sl t' (strI ws)] st (fun x st' => x = .raw (.bool (eqB us ws)) ∧ st' = st) := by
  refine ICall.intro (c := cf prog gl [] []) func31 rfl (by show _ ≤ 26; simp) (by kernel_rfl) ?_
  simp -implicitDefEqProofs -dsimp only [go_sem, ↓reduceIte, zE, zB, zA, zM, zS, zL, reduceCtorEq, strI_length]
  intro hla hlb
  refine condV_intro (fun h => ?_) (fun h => ?_)
  · have hne : us ≠ ws := by rintro rfl; simp at h
    simp -implicitDefEqProofs -dsimp only [go_sem, ↓reduceIte, zE, zB, zA, zM, zS, zL, reduceCtorEq]
    exact outK_self ⟨by rw [eqB_false.2 hne], rfl⟩
  have hlen : us.length = ws.length := by simp at h; omega
  simp -implicitDefEqProofs -dsimp only [go_sem, ↓reduceIte, zE, zB, zA, zM, zS, zL, reduceCtorEq]
  refine LoopC.ctr us.length (fun k fr st' ds => us.take k = ws.take k ∧ fr 0 = .iv (.sl t (strI us)) ∧ fr 1 = .iv (.sl t' (strI ws)) ∧ fr 5 = .iv (.raw (.int .i64 k)) ∧ st' = st ∧ ds = []) ?_ ?_ ?_
  · simp -implicitDefEqProofs -dsimp only [go_sem, ↓reduceIte, zE, zB, zA, zM, zS, zL, reduceCtorEq]; rfl
  · rintro k fr st ds hlt ⟨hn, h0, h1, h5, rfl, rfl⟩
    obtain ⟨a, hka⟩ := get_of_lt hlt
    obtain ⟨b, hkb⟩ := get_of_lt (hlen ▸ hlt)
    have F := And.intro (lt_i hlt) (w_succ hlt (show us.length ≤ 281474976710656 by omega))
    by_cases hc : a = b
    · simp -implicitDefEqProofs -dsimp only [go_sem, ↓reduceIte, zE, zB, zA, zM, zS, zL, reduceCtorEq, h0, h1, h5, strI_length, F.1, F.2, reTag_es ht, reTag_es ht', Int.natCast_nonneg, strI_get hka, strI_get hkb, decide_eq_true hc]
      intro _
      rw [take_get hka, take_get hkb, hn, hc]
    · simp -implicitDefEqProofs -dsimp only [go_sem, ↓reduceIte, zE, zB, zA, zM, zS, zL, reduceCtorEq, h0, h1, h5, strI_length, F.1, F.2, reTag_es ht, reTag_es ht', Int.natCast_nonneg, strI_get hka, strI_get hkb, decide_eq_false hc]
      intro _
      have hne : us ≠ ws := by
        rintro rfl
        rw [hka] at hkb
        injection hkb with hkb
        exact hc hkb
      exact outK_self ⟨by rw [eqB_false.2 hne], rfl⟩
  · rintro fr st ds ⟨hn, h0, h1, h5, rfl, rfl⟩
    simp -implicitDefEqProofs -dsimp only [go_sem, ↓reduceIte, zE, zB, zA, zM, zS, zL, reduceCtorEq, h0, h1, h5, strI_length, nlt_i (Nat.lt_irrefl _)]
    intro _
    have he : us = ws := by rw [List.take_length] at hn; rw [hn, hlen, List.take_length]
    exact outK_self ⟨by rw [eqB_true.2 he], rfl⟩

theorem has_c (t : Tag) (l : List ByteArray) (s : ByteArray) (ht : okEs t 1) (st : ISt) :
    ICall prog gl 27 [.sl t (strI l), .raw (.string s)] st (fun x st' => x = .raw (.bool (hasB l s)) ∧ st' = st) := by
  refine ICall.intro (c := cf prog gl [] []) func27 rfl (by show _ ≤ 18; simp) (by kernel_rfl) ?_
  simp -implicitDefEqProofs -dsimp only [go_sem, ↓reduceIte, zE, zB, zA, zM, zS, zL, reduceCtorEq]
  refine LoopC.ctr l.length (fun k fr st' ds => s ∉ l.take k ∧ fr 0 = .iv (.sl t (strI l)) ∧ fr 1 = .iv (.raw (.string s)) ∧ fr 5 = .iv (.raw (.int .i64 k)) ∧ st' = st ∧ ds = []) ?_ ?_ ?_
  · simp -implicitDefEqProofs -dsimp only [go_sem, ↓reduceIte, zE, zB, zA, zM, zS, zL, reduceCtorEq, List.not_mem_nil, not_false_eq_true]; rfl
  · rintro k fr st ds hlt ⟨hn, h0, h1, h5, rfl, rfl⟩
    obtain ⟨x, hx⟩ := get_of_lt hlt
    simp -implicitDefEqProofs -dsimp only [go_sem, ↓reduceIte, zE, zB, zA, zM, zS, zL, reduceCtorEq, h0, h1, h5, strI_length, lt_i hlt, reTag_es ht, Int.natCast_nonneg, strI_get hx]
    intro hll
    refine condV_intro (fun h => ?_) (fun h => ?_)
    · have hm : s ∈ l := by rw [← of_decide_eq_true h]; exact List.mem_of_getElem? hx
      simp -implicitDefEqProofs -dsimp only [go_sem, ↓reduceIte, zE, zB, zA, zM, zS, zL, reduceCtorEq, h0, h1, h5]
      exact outK_self ⟨by simp [hasB, hm], rfl⟩
    · simp -implicitDefEqProofs -dsimp only [go_sem, ↓reduceIte, zE, zB, zA, zM, zS, zL, reduceCtorEq, h0, h1, h5, w_succ hlt (show l.length ≤ 281474976710656 by omega)]
      rw [take_get hx]
      simp only [List.mem_append, List.mem_singleton, not_or]
      exact ⟨hn, fun he => of_decide_eq_false h he.symm⟩
  · rintro fr st ds ⟨hn, h0, h1, h5, rfl, rfl⟩
    simp -implicitDefEqProofs -dsimp only [go_sem, ↓reduceIte, zE, zB, zA, zM, zS, zL, reduceCtorEq, h0, h1, h5, strI_length, nlt_i (Nat.lt_irrefl _)]
    intro _
    have hm : s ∉ l := by rw [List.take_length] at hn; exact hn
    exact outK_self ⟨by simp [hasB, hm], rfl⟩

theorem v_c (s : ByteArray) (st : ISt) : ICall prog gl 24 [.raw (.string s)] st (fun x st' => IsTm (.mk true s []) x ∧ st' = st) := by
  refine ICall.intro (c := cf prog gl [] []) func24 rfl (by show _ ≤ 5; simp) (by kernel_rfl) ?_
  simp -implicitDefEqProofs -dsimp only [go_sem, ↓reduceIte, zE, zB, zA, zM, zS, zL, reduceCtorEq, fits]
  exact outK_self ⟨by simp only [IsTm]; exact ⟨_, _, rfl, .inl rfl, IsTms.nil⟩, rfl⟩
theorem of_c (op : Nat) (hop : op < 256) (s : ByteArray) (t : Tag) (xs : List IV) (sub : List Fm) (ht : okEs t 4) (hxs : IsFms sub xs) (st : ISt) :
    ICall prog gl 34 [.raw (.int .u8 op), .raw (.string s), .sl t xs] st (fun x st' => IsFm (.mk op s [] sub) x ∧ st' = st) := by
  refine ICall.intro (c := cf prog gl [] []) func34 rfl (by show _ ≤ 11; simp) (by kernel_rfl) ?_
  simp -implicitDefEqProofs -dsimp only [go_sem, ↓reduceIte, zE, zB, zA, zM, zS, zL, reduceCtorEq, fits]
  exact outK_self ⟨by simp only [IsFm]; exact ⟨_, _, _, _, rfl, hop, .inl rfl, IsTms.nil, ht, hxs⟩, rfl⟩
theorem c_c (s : ByteArray) (t : Tag) (xs : List IV) (us : List Tm) (ht : okEs t 3) (hxs : IsTms us xs) (st : ISt) :
    ICall prog gl 35 [.raw (.string s), .sl t xs] st (fun x st' => IsTm (.mk false s us) x ∧ st' = st) := by
  refine ICall.intro (c := cf prog gl [] []) func35 rfl (by show _ ≤ 8; simp) (by kernel_rfl) ?_
  simp -implicitDefEqProofs -dsimp only [go_sem, ↓reduceIte, zE, zB, zA, zM, zS, zL, reduceCtorEq, fits]
  exact outK_self ⟨by simp only [IsTm]; exact ⟨_, _, rfl, ht, hxs⟩, rfl⟩
theorem p_c (s : ByteArray) (t : Tag) (xs : List IV) (us : List Tm) (ht : okEs t 3) (hxs : IsTms us xs) (st : ISt) :
    ICall prog gl 38 [.raw (.string s), .sl t xs] st (fun x st' => IsFm (.mk 1 s us []) x ∧ st' = st) := by
  refine ICall.intro (c := cf prog gl [] []) func38 rfl (by show _ ≤ 8; simp) (by kernel_rfl) ?_
  simp -implicitDefEqProofs -dsimp only [go_sem, ↓reduceIte, zE, zB, zA, zM, zS, zL, reduceCtorEq, fits]
  exact outK_self ⟨by simp only [IsFm]; exact ⟨_, _, _, _, rfl, by decide, ht, hxs, .inl rfl, IsFms.nil⟩, rfl⟩
end Go.Proofs.Tryz

namespace Go.Proofs.Tryz
open Go Go.Iv
set_option maxRecDepth 4000

mutual
def namesTm : Tm → List ByteArray
  | .mk true n l => n :: namesTms l
  | .mk false _ l => namesTms l
def namesTms : List Tm → List ByteArray
  | [] => []
  | a :: l => namesTm a ++ namesTms l
end
theorem namesTms_append : ∀ (l m : List Tm), namesTms (l ++ m) = namesTms l ++ namesTms m
  | [], m => by simp [namesTms]
  | a :: l, m => by simp only [List.cons_append, namesTms, namesTms_append l m, List.append_assoc]

variable (gl : Nat → Option IV)
def yPost (I : Nat → ISt → Prop) (S : ISt → Prop) (k : Nat) (r : IV) (st' : ISt) : Prop := (r = .raw (.bool true) ∧ I k st') ∨ (r = .raw (.bool false) ∧ S st')
def YOk (y : IV) (I : Nat → ISt → Prop) (S : ISt → Prop) (k0 : Nat) (l : List ByteArray) : Prop :=
  ∀ i nm stu, l[i]? = some nm → I (k0 + i) stu → ICallV prog gl y [.raw (.string nm)] stu (yPost I S (k0 + i + 1))
theorem YOk.left {y : IV} {I : Nat → ISt → Prop} {S : ISt → Prop} {k0 : Nat} {l m : List ByteArray} (h : YOk gl y I S k0 (l ++ m)) : YOk gl y I S k0 l := fun i nm stu hi hI =>
  h i nm stu (by rw [List.getElem?_append_left (List.getElem?_eq_some_iff.1 hi).1]; exact hi) hI
theorem YOk.right {y : IV} {I : Nat → ISt → Prop} {S : ISt → Prop} {k0 : Nat} {l m : List ByteArray} (h : YOk gl y I S k0 (l ++ m)) : YOk gl y I S (k0 + l.length) m := fun i nm stu hi hI => by
  have := h (l.length + i) nm stu (by rw [List.getElem?_append_right (by omega)]; simpa using hi) (by rw [← Nat.add_assoc]; exact hI)
  simpa only [Nat.add_assoc] using this
theorem YOk.head {y : IV} {I : Nat → ISt → Prop} {S : ISt → Prop} {k0 : Nat} {n : ByteArray} {m : List ByteArray} (h : YOk gl y I S k0 (n :: m)) {st : ISt} (hI : I k0 st) : ICallV prog gl y [.raw (.string n)] st (yPost I S (k0 + 1)) := h 0 n st rfl hI
theorem YOk.tail {y : IV} {I : Nat → ISt → Prop} {S : ISt → Prop} {k0 : Nat} {n : ByteArray} {m : List ByteArray} (h : YOk gl y I S k0 (n :: m)) : YOk gl y I S (k0 + 1) m := YOk.right gl (l := [n]) h

def VT (t : Tm) : Prop := ∀ (x : IV) (_ : IsTm t x) (f : Fn) (fi ca : List IV) (_ : fnOk f = true) (_ : ∀ g, f = .func g → entI prog g = true) (I : Nat → ISt → Prop) (S : ISt → Prop) (k0 : Nat) (_ : YOk gl (.fn f fi ca) I S k0 (namesTm t)) (st : ISt) (_ : I k0 st),
    ICall prog gl 121 [x, .fn f fi ca] st (yPost I S (k0 + (namesTm t).length))

theorem visitTerm_step (v : Bool) (n : ByteArray) (us : List Tm) (IH : ∀ a ∈ us, VT gl a) : VT gl (.mk v n us) := by
  intro x hx f fi ca hfn hent I S k0 hy st hI
  obtain ⟨tg, xs, rfl, htg, hxs⟩ := hx.mk
  refine ICall.intro (c := cf prog gl [] []) func121 rfl (by show _ ≤ 28; simp) (by kernel_rfl) ?_
  have go : ∀ (k1 : Nat), YOk gl (.fn f fi ca) I S k1 (namesTms us) → k1 + (namesTms us).length = k0 + (namesTm (.mk v n us)).length → ∀ (k : Nat) (fr : Fr) (st : ISt), k < us.length → us.length ≤ 140737488355328 → I (k1 + (namesTms (us.take k)).length) st →
      ICall prog gl 121 [(xs[k]?).getD .junk, .fn f fi ca] st (yPost I S (k1 + (namesTms (us.take (k + 1))).length)) := by
    intro k1 hy' _ k _ st hlt _ hIk
    obtain ⟨a, ha⟩ := get_of_lt hlt
    obtain ⟨x, hkx, hx⟩ := hxs.get ha
    rw [hkx, Option.getD_some]
    have hsplit : namesTms us = namesTms (us.take k) ++ (namesTm a ++ namesTms (us.drop (k + 1))) := by
      conv => lhs; rw [← List.take_append_drop k us, List.drop_eq_getElem_cons hlt]
      rw [namesTms_append, (List.getElem?_eq_some_iff.1 ha).2]; rfl
    rw [hsplit] at hy'
    have := IH a (List.mem_of_getElem? ha) x hx f fi ca hfn hent I S _ (YOk.left gl (YOk.right gl hy')) st hIk
    rw [take_get ha, namesTms_append]
    simpa only [namesTms, List.append_nil, List.length_append, Nat.add_assoc] using this
  cases v
  · simp only [namesTm] at hy ⊢
    simp -implicitDefEqProofs -dsimp only [go_sem, ↓reduceIte, zE, zB, zA, zM, zS, zL, reduceCtorEq, hxs.len]
    intro hlen
    refine LoopC.ctr us.length (fun k fr st ds => I (k0 + (namesTms (us.take k)).length) st ∧ fr 1 = .iv (.fn f fi ca) ∧ fr 17 = .iv (.sl tg xs) ∧ fr 18 = .iv (.raw (.int .i64 us.length)) ∧ fr 19 = .iv (.raw (.int .i64 k)) ∧ ds = []) ?_ ?_ ?_
    · simp -implicitDefEqProofs -dsimp only [go_sem, ↓reduceIte, zE, zB, zA, zM, zS, zL, reduceCtorEq]
      exact ⟨by simpa [namesTms] using hI, rfl⟩
    · rintro k fr st _ hlt ⟨h1, f1, f17, f18, f19, rfl⟩
      obtain ⟨a, ha⟩ := get_of_lt hlt
      obtain ⟨x, hkx, hx⟩ := hxs.get ha
      have hgo := go k0 hy rfl k fr st hlt hlen h1
      rw [hkx, Option.getD_some] at hgo
      obtain ⟨v2, n2, m⟩ := a
      obtain ⟨tx, cx, rfl, _⟩ := hx.mk
      simp -implicitDefEqProofs -dsimp only [go_sem, ↓reduceIte, zE, zB, zA, zM, zS, zL, reduceCtorEq, f1, f17, f18, f19, lt_i hlt, reTag_es htg, Int.natCast_nonneg, hkx]
      refine hgo.mono ?_
      rintro _ st (⟨rfl, h⟩ | ⟨rfl, h⟩)
      · simp -implicitDefEqProofs -dsimp only [go_sem, ↓reduceIte, zE, zB, zA, zM, zS, zL, reduceCtorEq, f1, f17, f18, f19, w_succ hlt (show us.length ≤ 281474976710656 by omega)]
        exact h
      · simp -implicitDefEqProofs -dsimp only [go_sem, ↓reduceIte, zE, zB, zA, zM, zS, zL, reduceCtorEq]
        exact outK_self (.inr ⟨rfl, h⟩)
    · rintro fr st _ ⟨h1, f1, f17, f18, f19, rfl⟩
      simp -implicitDefEqProofs -dsimp only [go_sem, ↓reduceIte, zE, zB, zA, zM, zS, zL, reduceCtorEq, f18, f19, nlt_i (Nat.lt_irrefl _)]
      rw [List.take_length] at h1
      exact outK_self (.inl ⟨rfl, h1⟩)
  · simp only [namesTm] at hy ⊢
    simp -implicitDefEqProofs -dsimp only [go_sem, ↓reduceIte, zE, zB, zA, zM, zS, zL, reduceCtorEq]
    refine callV_of_ICallV hent ((YOk.head gl hy hI).mono ?_)
    rintro _ st (⟨rfl, h⟩ | ⟨rfl, h⟩)
    · simp -implicitDefEqProofs -dsimp only [go_sem, ↓reduceIte, zE, zB, zA, zM, zS, zL, reduceCtorEq, hxs.len]
      intro hlen
      refine LoopC.ctr us.length (fun k fr st ds => I (k0 + 1 + (namesTms (us.take k)).length) st ∧ fr 1 = .iv (.fn f fi ca) ∧ fr 17 = .iv (.sl tg xs) ∧ fr 18 = .iv (.raw (.int .i64 us.length)) ∧ fr 19 = .iv (.raw (.int .i64 k)) ∧ ds = []) ?_ ?_ ?_
      · simp -implicitDefEqProofs -dsimp only [go_sem, ↓reduceIte, zE, zB, zA, zM, zS, zL, reduceCtorEq]
        exact ⟨by simpa [namesTms] using h, rfl⟩
      · rintro k fr st _ hlt ⟨h1, f1, f17, f18, f19, rfl⟩
        obtain ⟨a, ha⟩ := get_of_lt hlt
        obtain ⟨x, hkx, hx⟩ := hxs.get ha
        have hgo := go (k0 + 1) (YOk.tail gl hy) (by simp [namesTm]; omega) k fr st hlt hlen h1
        rw [hkx, Option.getD_some] at hgo
        obtain ⟨v2, n2, m⟩ := a
        obtain ⟨tx, cx, rfl, _⟩ := hx.mk
        simp -implicitDefEqProofs -dsimp only [go_sem, ↓reduceIte, zE, zB, zA, zM, zS, zL, reduceCtorEq, f1, f17, f18, f19, lt_i hlt, reTag_es htg, Int.natCast_nonneg, hkx]
        refine hgo.mono ?_
        rintro _ st (⟨rfl, h⟩ | ⟨rfl, h⟩)
        · simp -implicitDefEqProofs -dsimp only [go_sem, ↓reduceIte, zE, zB, zA, zM, zS, zL, reduceCtorEq, f1, f17, f18, f19, w_succ hlt (show us.length ≤ 281474976710656 by omega)]
          exact h
        · simp -implicitDefEqProofs -dsimp only [go_sem, ↓reduceIte, zE, zB, zA, zM, zS, zL, reduceCtorEq]
          exact outK_self (.inr ⟨rfl, h⟩)
      · rintro fr st _ ⟨h1, f1, f17, f18, f19, rfl⟩
        simp -implicitDefEqProofs -dsimp only [go_sem, ↓reduceIte, zE, zB, zA, zM, zS, zL, reduceCtorEq, f18, f19, nlt_i (Nat.lt_irrefl _)]
        rw [List.take_length] at h1
        refine outK_self (.inl ⟨rfl, ?_⟩)
        rw [show k0 + ((namesTms us).length + 1) = k0 + 1 + (namesTms us).length by omega]; exact h1
    · simp -implicitDefEqProofs -dsimp only [go_sem, ↓reduceIte, zE, zB, zA, zM, zS, zL, reduceCtorEq]
      exact outK_self (.inr ⟨rfl, h⟩)
theorem visitTerm_all : ∀ (k : Nat) (t : Tm), SizeOf.sizeOf t < k → VT gl t
  | 0, f, h => by omega
  | k + 1, .mk v n us, h => visitTerm_step gl v n us (fun a ha => visitTerm_all k a (by
      have := List.sizeOf_lt_of_mem ha
      simp at h; omega))
theorem visitTerm_c (t : Tm) : VT gl t := visitTerm_all gl _ t (Nat.lt_succ_self _)
end Go.Proofs.Tryz
