/- What is put and is not free makes no difference; how large what is put makes a formula. Plain data.
   Walks of the second program: Puts, Put. -/
import Derived.Test.YtknaeibenggbmaaGreatDoorKB
import Derived.Test.YtknaeibenggbmaaGreatDoorLH
set_option linter.all false
namespace Go.Proofs.Tryz
open Go Go.Iv

mutual
theorem mapTm_same {F G : ByteArray → Option Tm} : ∀ t : Tm, (∀ n ∈ namesTm t, F n = G n) → mapTm F t = mapTm G t
  | .mk true n l, h => by
    have h1 := h n (by simp [namesTm])
    have h2 := mapTms_same l fun m hm => h m (by simp [namesTm, hm])
    simp only [mapTm, h1, h2]
  | .mk false n l, h => by
    have h2 := mapTms_same l fun m hm => h m (by simp [namesTm, hm])
    simp only [mapTm, h2]
theorem mapTms_same {F G : ByteArray → Option Tm} : ∀ l : List Tm, (∀ n ∈ namesTms l, F n = G n) → mapTms F l = mapTms G l
  | [], _ => rfl
  | a :: l, h => by
    have h1 := mapTm_same a fun m hm => h m (by simp [namesTms, hm])
    have h2 := mapTms_same l fun m hm => h m (by simp [namesTms, hm])
    simp only [mapTms, h1, h2]
end
theorem look_free {l : Sb} {fr : List ByteArray} {n : ByteArray} (h : n ∈ fr) : lookS (freeS l fr) n = lookS l n := by
  unfold lookS freeS
  rw [List.find?_filter]
  congr 2
  funext p
  by_cases hp : p.1 = n
  · simp [hp, h]
  · simp [hp]
theorem cnt_free {l : Sb} {fr g : List ByteArray} {m : ByteArray} (h : ∀ n ∈ g, n ≠ m → n ∈ fr) : cntS (freeS l fr) m g = cntS l m g := by
  unfold cntS freeS
  rw [List.filter_filter]
  refine List.filter_congr fun p _ => ?_
  cases h1 : memB g p.1
  · simp
  · by_cases h2 : p.1 = m
    · simp [h2]
    · simp [h2, memB_iff.2 (h _ (memB_iff.1 h1) h2)]
theorem under_free {l : Sb} {fr g : List ByteArray} {m : ByteArray} (h : ∀ n ∈ g, n ≠ m → n ∈ fr) : underS (freeS l fr) m g = underS l m g := by
  unfold underS clashS takenS
  rw [cnt_free h]
mutual
theorem form_free : ∀ (f : Fm) (l : Sb) (fr : List ByteArray), (∀ n ∈ frF f, n ∈ fr) → formS (freeS l fr) f = formS l f
  | .mk op m us sub, l, fr, h => by
    have h1 : mapTms (lookS (freeS l fr)) us = mapTms (lookS l) us := mapTms_same us fun n hn => look_free (h n (by simp [frF, hn]))
    cases hq : isQ op
    · have h2 := forms_free sub l fr fun n hn => h n (by simp [frF, hq, hn])
      simp only [formS, hq, Bool.false_eq_true, if_false, h1, h2]
    · have h2 : underS (freeS l fr) m (frFs sub) = underS l m (frFs sub) := under_free fun n hn hne => h n (by simp [frF, hq, hn, hne])
      simp only [formS, hq, if_true, h1, h2]
theorem forms_free : ∀ (f : List Fm) (l : Sb) (fr : List ByteArray), (∀ n ∈ frFs f, n ∈ fr) → formSs (freeS l fr) f = formSs l f
  | [], _, _, _ => rfl
  | a :: f, l, fr, h => by
    have h1 := form_free a l fr fun n hn => h n (by simp [frFs, hn])
    have h2 := forms_free f l fr fun n hn => h n (by simp [frFs, hn])
    simp only [formSs, h1, h2]
end
theorem form_frees (f : Fm) (l : Sb) : formS (freeS l (frF f)) f = formS l f := form_free f l _ fun _ h => h

/-! ### Sizes -/

mutual
theorem mapTm_sz {F : ByteArray → Option Tm} {M : Nat} (hM : 1 ≤ M) (hF : ∀ n u, F n = some u → u.size ≤ M) : ∀ t : Tm, (mapTm F t).size ≤ t.size * M
  | .mk true n l => by
    have ih := mapTms_sz hM hF l
    cases h : F n with
    | some u =>
      have := hF n u h
      simp only [mapTm, h, Tm.size]
      have h1 : 1 * M ≤ (sizeTms l + 1) * M := Nat.mul_le_mul_right _ (by omega)
      omega
    | none =>
      simp only [mapTm, h, Tm.size, Nat.add_mul]
      omega
  | .mk false n l => by
    have ih := mapTms_sz hM hF l
    simp only [mapTm, Tm.size, Nat.add_mul]
    omega
theorem mapTms_sz {F : ByteArray → Option Tm} {M : Nat} (hM : 1 ≤ M) (hF : ∀ n u, F n = some u → u.size ≤ M) : ∀ l : List Tm, sizeTms (mapTms F l) ≤ sizeTms l * M
  | [] => by simp [mapTms, sizeTms]
  | a :: l => by
    have h1 := mapTm_sz hM hF a
    have h2 := mapTms_sz hM hF l
    simp only [mapTms, sizeTms, Nat.add_mul]
    omega
end
theorem look_sz {l : Sb} {M : Nat} (h : ∀ p ∈ l, p.2.size ≤ M) (n : ByteArray) (u : Tm) (hu : lookS l n = some u) : u.size ≤ M := by
  unfold lookS at hu
  obtain ⟨p, hp, rfl⟩ := Option.map_eq_some_iff.1 hu
  exact h p (List.mem_of_find?_eq_some hp)
theorem under_sz {l : Sb} {M : Nat} (hM : 1 ≤ M) (h : ∀ p ∈ l, p.2.size ≤ M) (m : ByteArray) (fr : List ByteArray) : ∀ p ∈ (underS l m fr).2, p.2.size ≤ M := by
  have hc : ∀ p ∈ cntS l m fr, p.2.size ≤ M := fun p hp => h p (List.mem_filter.1 hp).1
  unfold underS
  split
  · intro p hp
    rcases List.mem_append.1 hp with hp | hp
    · exact hc p hp
    · rw [List.mem_singleton] at hp
      subst hp
      simpa [Tm.size, sizeTms] using hM
  · exact hc
mutual
theorem formS_sz {M : Nat} (hM : 1 ≤ M) : ∀ (f : Fm) (l : Sb), (∀ p ∈ l, p.2.size ≤ M) → (formS l f).size ≤ f.size * M
  | .mk op m us sub, l, h => by
    have h1 := mapTms_sz hM (look_sz h) us
    have h2 := formSs_sz hM sub (if isQ op then (underS l m (frFs sub)).2 else l) (by
      split
      · exact under_sz hM h _ _
      · exact h)
    simp only [formS, Fm.size, Nat.add_mul]
    omega
theorem formSs_sz {M : Nat} (hM : 1 ≤ M) : ∀ (f : List Fm) (l : Sb), (∀ p ∈ l, p.2.size ≤ M) → sizeFms (formSs l f) ≤ sizeFms f * M
  | [], _, _ => by simp [formSs, sizeFms]
  | a :: f, l, h => by
    have h1 := formS_sz hM a l h
    have h2 := formSs_sz hM f l h
    simp only [formSs, sizeFms, Nat.add_mul]
    omega
end
theorem goodL_take {l : Sb} {k : Nat} {p : ByteArray × Tm} (hp : l[k]? = some p) (hg : goodL [] (l.take k) = true) : goodL [] (l.take (k + 1)) = (nmVar p.1 && p.2.ok && !memB ((l.take k).map (·.1)) p.1) := by
  rw [take_get hp, goodL_append, hg]; simp [goodL]
theorem goodL_bad {l : Sb} {k : Nat} (h : goodL [] (l.take (k + 1)) = false) : goodL [] l = false := by
  rw [← List.take_append_drop (k + 1) l, goodL_append, h]; rfl
theorem puts_eq (f : Fm) (l : Sb) : PutsS f l = if f.right && goodL [] l then (if decide ((formS l f).size ≤ 400) && decide ((formS l f).deep ≤ 40) then (formS l f, 0) else (fm0, 3)) else (fm0, 2) := by
  unfold PutsS; rw [form_frees]
end Go.Proofs.Tryz

open Nat renaming reduceEqDiff → zE, reduceBEq → zB, reduceAdd → zA, reduceMul → zM, reduceSub → zS, reduceLeDiff → zL
attribute [local go_sem] Go.Iv.cf Go.Iv.setAt List.all_cons List.all_nil Bool.and_self Bool.true_and Bool.and_true Bool.false_and Bool.and_false Bool.not_true Bool.not_false List.mem_nil_iff if_false if_true beq_self_eq_true Nat.zero_add Nat.add_zero List.getElem?_cons_zero List.getElem?_cons_succ Option.map_some List.mem_cons or_false false_or or_true true_or Nat.sub_zero forall_const Int.toNat_natCast List.length_cons List.length_nil List.map_cons List.map_nil List.take_succ_cons List.take_zero List.drop_zero List.drop_succ_cons List.cons_append List.nil_append List.append_nil and_true true_and and_self true_implies List.zip_cons_cons List.zip_nil_left
namespace Go.Proofs.Tryz
open Go Go.Iv
set_option maxRecDepth 4000
variable (gl : Nat → Option IV)

theorem rPuts_c (f : Fm) (x : IV) (hx : IsFm f x) (hs : f.size ≤ 500000) (l : Sb) (tg : Tag) (xs : List IV) (htg : okEs tg 4) (hxs : IsOnes l xs) (hl : l.length ≤ 500000) (hls : ∀ p ∈ l, p.2.size ≤ 1000000) (st : ISt) :
    ICall prog gl 53 [x, .sl tg xs] st (FE (PutsS f l).1 (PutsS f l).2 st) := by
  have hright := fun st => rRight_c gl f x hx (by omega) st
  have hput := fun hok st => rput_c gl f x hx hok l tg xs htg hxs hls (by omega) st
  have hsz := formS_sz (M := 1000000) (by omega) f l hls
  have hbadl : goodL [] l = false → PutsS f l = (fm0, 2) := fun h => by rw [puts_eq, h, Bool.and_false]; rfl
  obtain ⟨o0, n0, ta, xa, tb, xb, rfl⟩ := hx.agg
  refine ICall.intro (c := cf prog gl [] []) func53 rfl (by show _ ≤ 66; simp) (by kernel_rfl) ?_
  simp -implicitDefEqProofs -dsimp only [go_sem, ↓reduceIte, zE, zB, zA, zM, zS, zL, reduceCtorEq, fits]
  refine (hright _).mono ?_
  rintro _ st ⟨rfl, rfl⟩
  cases hr : f.right
  · have hE : PutsS f l = (fm0, 2) := by rw [puts_eq, hr]; rfl
    rw [hE]
    simp -implicitDefEqProofs -dsimp only [go_sem, ↓reduceIte, zE, zB, zA, zM, zS, zL, reduceCtorEq, fits]
    exact outK_self ⟨_, rfl, fm0_v _ _ (.inl rfl) (.inl rfl), rfl⟩
  have hok := (right_ok hr).1
  have hf4 := (right_ok hr).2.1
  simp -implicitDefEqProofs -dsimp only [go_sem, ↓reduceIte, zE, zB, zA, zM, zS, zL, reduceCtorEq, fits]
  refine LoopC.ctr l.length (fun k fr st' ds => goodL [] (l.take k) = true ∧ fr 1 = .iv (.sl tg xs) ∧ fr 2 = .box [.raw (.int .u8 o0), .raw (.string n0), .sl ta xa, .sl tb xb] ∧ fr 4 = .box [.raw (.int .u8 0), .raw (.string ⟨#[]⟩), .sl ⟨true, .nil, 0⟩ [], .sl ⟨true, .nil, 0⟩ []] ∧
    fr 6 = .iv (.raw (.int .i64 k)) ∧ st' = st ∧ ds = []) ?_ ?_ ?_
  · simp -implicitDefEqProofs -dsimp only [go_sem, ↓reduceIte, zE, zB, zA, zM, zS, zL, reduceCtorEq]
    exact ⟨rfl, rfl⟩
  · rintro k fr st _ hlt ⟨hg, f1, f2, f4, f6, rfl, rfl⟩
    obtain ⟨p, hp⟩ := get_of_lt hlt
    obtain ⟨y, hky, v3, n3, t3, x3, rfl, hy⟩ := hxs.get hp
    have hps := hls p (List.mem_of_getElem? hp)
    have hg1 := goodL_take hp hg
    cases hv1 : nmVar p.1
    · rw [hbadl (goodL_bad (by rw [hg1, hv1]; rfl))]
      simp -implicitDefEqProofs -dsimp only [go_sem, ↓reduceIte, zE, zB, zA, zM, zS, zL, reduceCtorEq, f1, f2, f4, f6, hxs.len, lt_i hlt, reTag_es htg, Int.natCast_nonneg, hky, fits]
      intros
      refine (rVariable_c gl p.1 _).mono ?_
      rintro _ st ⟨rfl, rfl⟩
      simp -implicitDefEqProofs -dsimp only [go_sem, ↓reduceIte, zE, zB, zA, zM, zS, zL, reduceCtorEq, f1, f2, f4, f6, hv1, fits]
      exact outK_self ⟨_, rfl, fm0_v _ _ (.inl rfl) (.inl rfl), rfl⟩
    simp -implicitDefEqProofs -dsimp only [go_sem, ↓reduceIte, zE, zB, zA, zM, zS, zL, reduceCtorEq, f1, f2, f4, f6, hxs.len, lt_i hlt, reTag_es htg, Int.natCast_nonneg, hky, fits]
    intros
    refine (rVariable_c gl p.1 _).mono ?_
    rintro _ st ⟨rfl, rfl⟩
    simp -implicitDefEqProofs -dsimp only [go_sem, ↓reduceIte, zE, zB, zA, zM, zS, zL, reduceCtorEq, f1, f2, f4, f6, hv1, fits, reTag_es htg, Int.natCast_nonneg, hky]
    refine (rTerm_c gl p.2 _ hy (by omega) _).mono ?_
    rintro _ st ⟨rfl, rfl⟩
    cases hv2 : p.2.ok
    · rw [hbadl (goodL_bad (by rw [hg1, hv1, hv2]; rfl))]
      simp -implicitDefEqProofs -dsimp only [go_sem, ↓reduceIte, zE, zB, zA, zM, zS, zL, reduceCtorEq, f1, f2, f4, f6, hv2, fits]
      exact outK_self ⟨_, rfl, fm0_v _ _ (.inl rfl) (.inl rfl), rfl⟩
    simp -implicitDefEqProofs -dsimp only [go_sem, ↓reduceIte, zE, zB, zA, zM, zS, zL, reduceCtorEq, f1, f2, f4, f6, hv2, fits]
    refine LoopC.ctr k (fun j fr st' ds => (∀ q ∈ l.take j, q.1 ≠ p.1) ∧ fr 1 = .iv (.sl tg xs) ∧ fr 2 = .box [.raw (.int .u8 o0), .raw (.string n0), .sl ta xa, .sl tb xb] ∧ fr 4 = .box [.raw (.int .u8 0), .raw (.string ⟨#[]⟩), .sl ⟨true, .nil, 0⟩ [], .sl ⟨true, .nil, 0⟩ []] ∧
      fr 6 = .iv (.raw (.int .i64 k)) ∧ fr 7 = .iv (.raw (.int .i64 j)) ∧ st' = st ∧ ds = []) ?_ ?_ ?_
    · simp -implicitDefEqProofs -dsimp only [go_sem, ↓reduceIte, zE, zB, zA, zM, zS, zL, reduceCtorEq, f1, f2, f4, f6]
      exact ⟨(fun q hq => by cases hq), rfl⟩
    · rintro j fr st _ hjk ⟨hne, f1, f2, f4, f6, f7, rfl, rfl⟩
      obtain ⟨q, hq⟩ := get_of_lt (show j < l.length by omega)
      obtain ⟨y4, hky4, v4, n4, t4, x4, rfl, hy4⟩ := hxs.get hq
      by_cases hqp : q.1 = p.1
      · have hmem : memB ((l.take k).map (·.1)) p.1 = true := memB_iff.2 (List.mem_map.2 ⟨q, List.mem_of_getElem? (show (l.take k)[j]? = some q by rw [List.getElem?_take, if_pos hjk]; exact hq), hqp⟩)
        rw [hbadl (goodL_bad (by rw [hg1, hv1, hv2, hmem]; rfl))]
        simp -implicitDefEqProofs -dsimp only [go_sem, ↓reduceIte, zE, zB, zA, zM, zS, zL, reduceCtorEq, f1, f2, f4, f6, f7, lt_i hjk, reTag_es htg, Int.natCast_nonneg, hky, hky4, decide_eq_true hqp, fits]
        exact outK_self ⟨_, rfl, fm0_v _ _ (.inl rfl) (.inl rfl), rfl⟩
      · simp -implicitDefEqProofs -dsimp only [go_sem, ↓reduceIte, zE, zB, zA, zM, zS, zL, reduceCtorEq, f1, f2, f4, f6, f7, lt_i hjk, reTag_es htg, Int.natCast_nonneg, hky, hky4, decide_eq_false hqp, fits, w_succ hjk (show k ≤ 281474976710656 by omega)]
        intro r hr
        rw [take_get hq] at hr
        rcases List.mem_append.1 hr with hr | hr
        · exact hne r hr
        · rw [List.mem_singleton] at hr; subst hr; exact hqp
    · rintro fr st _ ⟨hne, f1, f2, f4, f6, f7, rfl, rfl⟩
      simp -implicitDefEqProofs -dsimp only [go_sem, ↓reduceIte, zE, zB, zA, zM, zS, zL, reduceCtorEq, f1, f2, f4, f6, f7, nlt_i (Nat.lt_irrefl _), fits, w_succ hlt (show l.length ≤ 281474976710656 by omega)]
      have hmem : memB ((l.take k).map (·.1)) p.1 = false := memB_not.2 fun h => by
        obtain ⟨q, hq, he⟩ := List.mem_map.1 h
        exact hne q hq he
      rw [hg1, hv1, hv2, hmem]
      rfl
  · rintro fr st _ ⟨hg, f1, f2, f4, f6, rfl, rfl⟩
    rw [List.take_length] at hg
    have hP : PutsS f l = if decide ((formS l f).size ≤ 400) && decide ((formS l f).deep ≤ 40) then (formS l f, 0) else (fm0, 3) := by
      rw [puts_eq, hr, hg]; rfl
    rw [hP]
    simp -implicitDefEqProofs -dsimp only [go_sem, ↓reduceIte, zE, zB, zA, zM, zS, zL, reduceCtorEq, f1, f2, f4, f6, hxs.len, nlt_i (Nat.lt_irrefl _), fits]
    intros
    refine (hput hok _).mono ?_
    rintro g st ⟨hgv, rfl⟩
    generalize formS l f = gf at *
    have hgv0 := hgv
    have hnod := fun st => rNodes_c gl gf g hgv (by omega) st
    have hdep := fun st => rDepth_c gl gf g hgv (by omega) st
    obtain ⟨o5, n5, t5, x5, t6, x6, rfl⟩ := hgv.agg
    simp -implicitDefEqProofs -dsimp only [go_sem, ↓reduceIte, zE, zB, zA, zM, zS, zL, reduceCtorEq, f1, f2, f4, f6, fits]
    refine (hnod _).mono ?_
    rintro _ st ⟨rfl, rfl⟩
    by_cases hz : gf.size ≤ 400
    · simp -implicitDefEqProofs -dsimp only [go_sem, ↓reduceIte, zE, zB, zA, zM, zS, zL, reduceCtorEq, f1, f2, f4, f6, fits, show decide ((400 : Int) < (gf.size : Int)) = false from decide_eq_false (by omega)]
      refine (hdep _).mono ?_
      rintro _ st ⟨rfl, rfl⟩
      rw [decide_eq_true hz]
      by_cases hd : gf.deep ≤ 40
      · rw [decide_eq_true hd]
        simp only [Bool.and_self, if_true]
        simp -implicitDefEqProofs -dsimp only [go_sem, ↓reduceIte, zE, zB, zA, zM, zS, zL, reduceCtorEq, f1, f2, f4, f6, fits, show decide ((40 : Int) < (gf.deep : Int)) = false from decide_eq_false (by omega)]
        exact outK_self ⟨_, rfl, hgv0, rfl⟩
      · rw [decide_eq_false hd]
        simp only [Bool.and_false, Bool.false_eq_true, if_false]
        simp -implicitDefEqProofs -dsimp only [go_sem, ↓reduceIte, zE, zB, zA, zM, zS, zL, reduceCtorEq, f1, f2, f4, f6, fits, show decide ((40 : Int) < (gf.deep : Int)) = true from decide_eq_true (by omega)]
        exact outK_self ⟨_, rfl, fm0_v _ _ (.inl rfl) (.inl rfl), rfl⟩
    · rw [decide_eq_false hz]
      simp only [Bool.false_and, Bool.false_eq_true, if_false]
      simp -implicitDefEqProofs -dsimp only [go_sem, ↓reduceIte, zE, zB, zA, zM, zS, zL, reduceCtorEq, f1, f2, f4, f6, fits, show decide ((400 : Int) < (gf.size : Int)) = true from decide_eq_true (by omega)]
      exact outK_self ⟨_, rfl, fm0_v _ _ (.inl rfl) (.inl rfl), rfl⟩
theorem rPut_c (f : Fm) (x : IV) (hx : IsFm f x) (hs : f.size ≤ 500000) (nm : ByteArray) (t : Tm) (y : IV) (hy : IsTm t y) (ht : t.size ≤ 1000000) (st : ISt) :
    ICall prog gl 55 [x, .raw (.string nm), y] st (FE (PutsS f [(nm, t)]).1 (PutsS f [(nm, t)]).2 st) := by
  obtain ⟨v, n3, t3, x3, rfl⟩ := hy.agg
  have hones : IsOnes [(nm, t)] [.agg [.raw (.string nm), .raw (.bool v), .raw (.string n3), .sl t3 x3]] := ⟨_, [], rfl, ⟨v, n3, t3, x3, rfl, hy⟩, rfl⟩
  have hc := fun tg htg st => rPuts_c gl f x hx hs [(nm, t)] tg _ htg hones (by simp) (fun p hp => by rw [List.mem_singleton] at hp; subst hp; exact ht) st
  obtain ⟨o0, n0, ta, xa, tb, xb, rfl⟩ := hx.agg
  refine ICall.intro (c := cf prog gl [] []) func55 rfl (by show _ ≤ 16; simp) (by kernel_rfl) ?_
  simp -implicitDefEqProofs -dsimp only [go_sem, ↓reduceIte, zE, zB, zA, zM, zS, zL, reduceCtorEq, fits, inOrder_one]
  refine (hc _ (by simp only [go_sem]) _).mono ?_
  rintro _ _ ⟨z, rfl, hz, rfl⟩
  obtain ⟨o5, n5, t5, x5, t6, x6, rfl⟩ := hz.agg
  simp -implicitDefEqProofs -dsimp only [go_sem, ↓reduceIte, zE, zB, zA, zM, zS, zL, reduceCtorEq, fits]
  exact outK_self ⟨_, rfl, hz, rfl⟩
end Go.Proofs.Tryz
