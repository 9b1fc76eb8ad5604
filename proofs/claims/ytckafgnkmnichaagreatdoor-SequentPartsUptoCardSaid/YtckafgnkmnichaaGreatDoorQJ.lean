/- Walks: SequentParts.
   From a row's reading to ideal values, part 7: sequents and trees. -/
import Derived.Test.YtckafgnkmnichaaGreatDoorQI
import Derived.Test.YtckafgnkmnichaaGreatDoorKE
set_option linter.all false
open Nat renaming reduceEqDiff → zE, reduceBEq → zB, reduceAdd → zA, reduceMul → zM, reduceSub → zS, reduceLeDiff → zL
attribute [local go_sem] Go.Iv.cf Go.Iv.setAt List.all_cons List.all_nil Bool.and_self Bool.true_and Bool.and_true Bool.false_and Bool.and_false Bool.not_true Bool.not_false List.mem_nil_iff if_false if_true beq_self_eq_true Nat.zero_add Nat.add_zero List.getElem?_cons_zero List.getElem?_cons_succ Option.map_some List.mem_cons or_false false_or or_true true_or Nat.sub_zero forall_const Int.toNat_natCast List.length_cons List.length_nil List.map_cons List.map_nil List.take_succ_cons List.take_zero List.drop_zero List.drop_succ_cons List.cons_append List.nil_append List.append_nil and_true true_and and_self true_implies List.zip_cons_cons List.zip_nil_left
namespace Go.Proofs.Tryz
open Go Go.Iv
set_option maxRecDepth 4000
variable (gl : Nat → Option IV)

theorem heightT_take {l : List Tr} {k : Nat} {a : Tr} (h : l[k]? = some a) : heightTrs (l.take (k + 1)) = max (heightTrs (l.take k)) a.height := by
  rw [take_get h, heightTrs_append]; simp [heightTrs]
theorem cutsT_take {l : List Tr} {k : Nat} {a : Tr} (h : l[k]? = some a) : cutsTrs (l.take (k + 1)) = cutsTrs (l.take k) + a.cuts := by
  rw [take_get h, cutsTrs_append]; simp [cutsTrs]
theorem cutsT_le (l : List Tr) (k : Nat) : cutsTrs (l.take k) ≤ cutsTrs l := by
  conv => rhs; rw [← List.take_append_drop k l]
  rw [cutsTrs_append]; omega
theorem okEs_slc {tg : Tag} {es : Nat} (h : okEs tg es) (len hh l : Nat) : okEs (slcTag (reTag es tg) len hh l none) es := by
  have := reTag_es h
  unfold slcTag
  by_cases h1 : (reTag es tg).cap = .nil
  · rw [if_pos h1]; exact .inr this
  · rw [if_neg h1]
    by_cases h2 : l = 0 ∧ hh = len
    · simp only [if_pos h2]; exact .inr this
    · simp only [if_neg h2]; exact .inr this
theorem sliceI_one (n : Nat) : sliceI (some 1) none (n + 1) = some (1, n + 1) := by
  simp only [sliceI, Option.getD_none, Option.getD_some]
  rw [if_pos (by omega)]; rfl
theorem knownB_no {ca : Nat} (h : knownB ca = false) : ca < 1 ∨ 3 < ca := by
  unfold knownB at h
  rw [Bool.and_eq_false_iff, decide_eq_false_iff_not, decide_eq_false_iff_not] at h
  omega
theorem told_ex {ca : Nat} {sub : List Tr} {p : List Nat} {e : Nat} (h1 : e = 0 → ∀ a ∈ sub, (CheckS ca a).2 = 0)
    (h2 : e ≠ 0 → p ≠ [] → ∃ k a, sub[k]? = some a ∧ (p, e) = (k :: (CheckS ca a).1, (CheckS ca a).2) ∧ ∀ j < k, ∀ b, sub[j]? = some b → (CheckS ca b).2 = 0) :
    ∃ tk : Nat → Bool, (e = 0 → ∀ k, tk k = true) ∧ tk 0 = (decide (e = 0) || decide (p = [])) ∧ tk sub.length = true ∧ ∀ k a, sub[k]? = some a → (e = 0 → (CheckS ca a).2 = 0) ∧
      ((tk k = false ∧ (CheckS ca a).2 ≠ 0) → p = k :: (CheckS ca a).1 ∧ (CheckS ca a).2 = e ∧ tk (k + 1) = true) ∧ (¬ (tk k = false ∧ (CheckS ca a).2 ≠ 0) → tk (k + 1) = tk k) := by
  by_cases he : e = 0
  · exact ⟨fun _ => true, fun _ _ => rfl, by simp [he], rfl, fun k a ha => ⟨fun h => h1 h a (List.mem_of_getElem? ha), fun h => absurd h.1 (by simp), fun _ => rfl⟩⟩
  by_cases hp : p = []
  · exact ⟨fun _ => true, fun _ _ => rfl, by simp [hp], rfl, fun k a ha => ⟨fun h => h1 h a (List.mem_of_getElem? ha), fun h => absurd h.1 (by simp), fun _ => rfl⟩⟩
  obtain ⟨k0, a0, q1, q2, q3⟩ := h2 he hp
  have hk0 := (List.getElem?_eq_some_iff.1 q1).1
  obtain ⟨r1, r2⟩ := Prod.mk.inj q2
  refine ⟨fun k => decide (k0 < k), fun h => absurd h he, by simp [he, hp], by simpa using hk0, fun k a ha => ⟨fun h => absurd h he, fun h => ?_, fun h => ?_⟩⟩
  · have hk : ¬ k0 < k := by simpa using h.1
    rcases Nat.lt_or_ge k k0 with hlt | hge
    · exact absurd (q3 k hlt a ha) h.2
    · obtain rfl : k = k0 := by omega
      rw [q1] at ha
      cases ha
      exact ⟨r1, r2.symm, by simp⟩
  · rw [decide_eq_decide]
    constructor
    · intro hk
      rcases Nat.lt_or_ge k0 k with hlt | hge
      · exact hlt
      · obtain rfl : k = k0 := by omega
        rw [q1] at ha
        cases ha
        exact absurd ⟨by simp, by rw [← r2]; exact he⟩ h
    · intro hk; omega
set_option maxHeartbeats 2000000 in
theorem SequentParts_c (G : Gl gl) (T : Gt gl) (ca : Nat) (t : Tr) (x : IV) (hx : IsTr t x) (hw : wTr t ≤ 1099511627776) (st : ISt) :
    ICall prog gl 4 [.raw (.int .u8 ca), x] st (fun r st' => r = .raw (.bool true) ∧ st' = st) := by
  have hA := fun st => qawake_c gl G T st
  have hS := fun st => QSmall_c gl t x hx hw st
  have hx0 := hx
  obtain ⟨rule, s, m, u, n, sub⟩ := t
  obtain ⟨tl, xl, tr, xr, op, fn, ta, xa, tb, xb, v, un, tu, xu, ts, xs, rfl, hru, e1, i1, e2, i2, hy, hz, e3, i3⟩ := hx.mk
  refine ICall.intro (c := cf prog gl [] [(22, [0, 1, 2, 3, 4, 5, 8, 9, 10, 11, 12, 13, 16, 17, 18, 19, 20, 21, 6, 7, 14, 15, 22, 23, 24, 25, 26])]) func4 rfl (by show _ ≤ 148; simp) (by kernel_rfl) ?_
  simp -implicitDefEqProofs -dsimp only [go_sem, ↓reduceIte, zE, zB, zA, zM, zS, zL, reduceCtorEq, fits]
  refine (hA _).mono ?_
  rintro _ st ⟨rfl, rfl⟩
  simp -implicitDefEqProofs -dsimp only [go_sem, ↓reduceIte, zE, zB, zA, zM, zS, zL, reduceCtorEq, fits]
  refine (hS _).mono ?_
  rintro _ st ⟨rfl, rfl⟩
  by_cases hsm : (okT (.mk rule s m u n sub) && decide ((Tr.mk rule s m u n sub).steps ≤ 60)) = true
  case neg =>
    have hsm' : (okT (.mk rule s m u n sub) && decide ((Tr.mk rule s m u n sub).steps ≤ 60)) = false := by simpa using hsm
    simp -implicitDefEqProofs -dsimp only [go_sem, ↓reduceIte, zE, zB, zA, zM, zS, zL, reduceCtorEq, hsm', fits]
    exact outK_self ⟨rfl, rfl⟩
  simp -implicitDefEqProofs -dsimp only [go_sem, ↓reduceIte, zE, zB, zA, zM, zS, zL, reduceCtorEq, hsm, fits]
  rw [Bool.and_eq_true, decide_eq_true_eq] at hsm
  obtain ⟨hok, hst⟩ := hsm
  have hfit := okT_fit hok (by omega)
  have hC := fun st => Check_c gl G T ca _ _ hx0 hfit st
  have hSt := fun st => Steps_c gl _ _ hx0 (by omega) st
  have hHt := fun st => Height_c gl _ _ hx0 (by omega) st
  have hCt := fun st => Cuts_c gl _ _ hx0 (by omega) st
  have hsq := fun st => Valid_c gl G ca s _ ⟨tl, xl, tr, xr, rfl, e1, i1, e2, i2⟩ (okT_node hok).1 st
  refine (hC _).mono ?_
  rintro _ st ⟨⟨tg, rfl, htg⟩, rfl⟩
  have hok2 : okTs sub = true := by
    simp only [okT, Bool.and_eq_true] at hok
    exact hok.2
  have h1 := fun h => CheckS_ok (ca := ca) (rule := rule) (s := s) (f := m) (u := u) (n := n) (sub := sub) h
  have h2 := fun h => CheckS_bad (ca := ca) (rule := rule) (s := s) (f := m) (u := u) (n := n) (sub := sub) h
  have h3 := CheckS_arg ca (.mk rule s m u n sub)
  have h4 := CheckS_arg_place ca (.mk rule s m u n sub)
  generalize hq : CheckS ca (.mk rule s m u n sub) = q at h1 h2 h3 h4 ⊢
  obtain ⟨p, e⟩ := q
  simp only at h1 h2 h3 h4 ⊢
  by_cases he2 : e = 2
  · subst he2
    have hk := h3.1 rfl
    obtain rfl := (Prod.mk.inj (h4 hk)).1
    have hkn := knownB_no hk
    rw [show plI [] = [] from rfl]
    by_cases hc1 : ca < 1
    · simp -implicitDefEqProofs -dsimp only [go_sem, ↓reduceIte, zE, zB, zA, zM, zS, zL, reduceCtorEq, fits, show decide (((2 : Nat) : Int) = 2) = true from rfl, show decide (((0 : Nat) : Int) = 0) = true from rfl, show decide ((ca : Int) < 1) = true from decide_eq_true (by omega)]
      intros
      exact outK_self ⟨rfl, rfl⟩
    · simp -implicitDefEqProofs -dsimp only [go_sem, ↓reduceIte, zE, zB, zA, zM, zS, zL, reduceCtorEq, fits, show decide (((2 : Nat) : Int) = 2) = true from rfl, show decide (((0 : Nat) : Int) = 0) = true from rfl, show decide ((ca : Int) < 1) = false from decide_eq_false (by omega), show decide ((3 : Int) < (ca : Int)) = true from decide_eq_true (by omega)]
      intros
      exact outK_self ⟨rfl, rfl⟩
  have de2 : decide ((e : Int) = 2) = false := decide_eq_false (by omega)
  obtain ⟨tk, tkz, tk0, tkn, htk⟩ := told_ex (ca := ca) (sub := sub) (p := p) (e := e) (fun h a ha => (h1 h).2 a ha) (fun h h' => by
    obtain ⟨k, a, q1, q2, q3⟩ := h2 h h'
    exact ⟨k, a, q1, q2, q3⟩)
  have hpl : decide (((p.length : Nat) : Int) = 0) = decide (p = []) := by
    rw [decide_eq_decide]; cases p <;> simp; omega
  have hru' : decide (((rule : Nat) : Int) = 17) = decide (rule = 17) := by rw [decide_eq_decide]; omega
  have he0 : decide (((e : Nat) : Int) = 0) = decide (e = 0) := by rw [decide_eq_decide]; omega
  obtain ⟨c, hc⟩ : ∃ c, c = (if rule = 17 then 1 else 0) := ⟨_, rfl⟩
  have hc1 : c ≤ 1 := by rw [hc]; split <;> omega
  have hstep : 1 + stepsTrs sub ≤ 60 := by simp only [Tr.steps] at hst; omega
  have hhs : heightTrs sub ≤ 60 := by
    have := height_le (.mk rule s m u n sub)
    simp only [Tr.height, Tr.steps] at this; omega
  have hcs : cutsTrs sub ≤ 60 := by
    have := cuts_le (.mk rule s m u n sub)
    simp only [Tr.cuts, Tr.steps] at this; omega
  have eS : (Tr.mk rule s m u n sub).steps = 1 + stepsTrs sub := rfl
  have eH : (Tr.mk rule s m u n sub).height = 1 + heightTrs sub := rfl
  have wH : IntKind.i64.wrap (((heightTrs sub : Nat) : Int) + 1) = ((1 + heightTrs sub : Nat) : Int) := by rw [w64] <;> omega
  have dS : decide (((1 + stepsTrs sub : Nat) : Int) = ((1 + stepsTrs sub : Nat) : Int)) = true := decide_eq_true rfl
  have dH : decide (((1 + heightTrs sub : Nat) : Int) = ((1 + heightTrs sub : Nat) : Int)) = true := decide_eq_true rfl
  have dU : ∀ c : Nat, decide (((c + cutsTrs sub : Nat) : Int) = ((c + cutsTrs sub : Nat) : Int)) = true := fun c => decide_eq_true rfl
  have dU' : decide (((cutsTrs sub : Nat) : Int) = ((cutsTrs sub : Nat) : Int)) = true := decide_eq_true rfl
  have hcuts : (Tr.mk rule s m u n sub).cuts = c + cutsTrs sub := by simp only [Tr.cuts, hc]
  simp only [eS] at hSt
  simp only [eH] at hHt
  simp only [hcuts] at hCt
  cases hr17 : decide (rule = 17)
  · rw [hr17] at hru'
    obtain rfl : c = 0 := by rw [hc, if_neg (of_decide_eq_false hr17)]
    by_cases h0 : e = 0
    · rw [show decide (e = 0) = true from by simp [h0]] at he0 tk0
      simp -implicitDefEqProofs -dsimp only [go_sem, ↓reduceIte, zE, zB, zA, zM, zS, zL, reduceCtorEq, fits, hru', de2, he0, hpl, plI_len, decide_true, inOrder_one]
      refine LoopC.ctr sub.length (fun k fr st' ds => fr 0 = .iv (.raw (.int .u8 ca)) ∧ fr 3 = .box [.raw (.int .u8 rule), .sl tl xl, .sl tr xr, .raw (.int .u8 op), .raw (.string fn), .sl ta xa, .sl tb xb, .raw (.bool v), .raw (.string un), .sl tu xu, .raw (.string n), .sl ts xs] ∧ fr 5 = .iv (.sl tg (plI p)) ∧ fr 6 = .iv (.raw (.int .i64 e)) ∧
        fr 7 = .iv (.raw (.int .i64 ((1 + stepsTrs (sub.take k) : Nat) : Int))) ∧ fr 8 = .iv (.raw (.int .i64 ((heightTrs (sub.take k) : Nat) : Int))) ∧ fr 9 = .iv (.raw (.int .i64 ((0 + cutsTrs (sub.take k) : Nat) : Int))) ∧ fr 10 = .iv (.raw (.bool (tk k))) ∧ fr 11 = .iv (.raw (.int .i64 k)) ∧ st' = st ∧ ds = []) ?_ ?_ ?_
      · rw [tk0]
        simp -implicitDefEqProofs -dsimp only [go_sem, ↓reduceIte, zE, zB, zA, zM, zS, zL, reduceCtorEq]
        simp [stepsTrs, heightTrs, cutsTrs]
      · rintro k fr st1 _ hlt ⟨f0, f3, f5, f6, f7, f8, f9, f10, f11, rfl, rfl⟩
        obtain ⟨a, ha⟩ := get_of_lt hlt
        have ham := List.mem_of_getElem? ha
        obtain ⟨z, hkz, hzz⟩ := i3.get ha
        obtain ⟨g1, g2, g3⟩ := htk k a ha
        have hoka := okTs_mem hok2 ham
        have hsa := steps_le_of_mem ham
        have hCa := fun st => Check_c gl G T ca a z hzz (okT_fit hoka (by omega)) st
        have hSa := fun st => Steps_c gl a z hzz (by omega) st
        have hHa := fun st => Height_c gl a z hzz (by omega) st
        have hUa := fun st => Cuts_c gl a z hzz (by omega) st
        have t1 := stepsT_take ha
        have t2 := heightT_take ha
        have t3 := cutsT_take ha
        have t4 := stepsT_le sub (k + 1)
        have t5 := height_le a
        have t6 := cuts_le a
        have t7 := cutsT_le sub (k + 1)
        have w7 : IntKind.i64.wrap (((1 + stepsTrs (sub.take k) : Nat) : Int) + ((a.steps : Nat) : Int)) = ((1 + stepsTrs (sub.take (k + 1)) : Nat) : Int) := by rw [w64] <;> omega
        have w8 : max ((heightTrs (sub.take k) : Nat) : Int) ((a.height : Nat) : Int) = ((heightTrs (sub.take (k + 1)) : Nat) : Int) := by omega
        have w9z : IntKind.i64.wrap (((cutsTrs (sub.take k) : Nat) : Int) + ((a.cuts : Nat) : Int)) = ((cutsTrs (sub.take (k + 1)) : Nat) : Int) := by rw [w64] <;> omega
        have w9 : IntKind.i64.wrap (((0 + cutsTrs (sub.take k) : Nat) : Int) + ((a.cuts : Nat) : Int)) = ((0 + cutsTrs (sub.take (k + 1)) : Nat) : Int) := by rw [w64] <;> omega
        obtain ⟨rule', tl', xl', tr', xr', op', fn', ta', xa', tb', xb', v', un', tu', xu', n', ts', xs', rfl⟩ := trAgg hzz
        simp -implicitDefEqProofs -dsimp only [go_sem, ↓reduceIte, zE, zB, zA, zM, zS, zL, reduceCtorEq, f0, f3, f11, i3.len, lt_i hlt, reTag_es e3, Int.natCast_nonneg, hkz, fits]
        intro _
        refine (hCa _).mono ?_
        rintro _ st2 ⟨⟨tg2, rfl, htg2⟩, rfl⟩
        generalize CheckS ca a = q at g1 g2 g3 ⊢
        obtain ⟨p2, e2⟩ := q
        simp only at g1 g2 g3 ⊢
        have h20 := g1 h0
        subst h20
        have hk1 := tkz h0 k
        rw [hk1] at f10
        simp -implicitDefEqProofs -dsimp only [go_sem, ↓reduceIte, zE, zB, zA, zM, zS, zL, reduceCtorEq, f3, f5, f6, f7, f8, f9, f10, f11, fits, he0, show decide (((0 : Nat) : Int) = 0) = true from rfl, i3.len, reTag_es e3, Int.natCast_nonneg, hkz]
        intros
        refine (hSa _).mono ?_
        rintro _ st3 ⟨rfl, rfl⟩
        simp -implicitDefEqProofs -dsimp only [go_sem, ↓reduceIte, zE, zB, zA, zM, zS, zL, reduceCtorEq, f0, f3, f5, f6, f7, f8, f9, f10, f11, fits]
        refine (hHa _).mono ?_
        rintro _ st3 ⟨rfl, rfl⟩
        simp -implicitDefEqProofs -dsimp only [go_sem, ↓reduceIte, zE, zB, zA, zM, zS, zL, reduceCtorEq, f0, f3, f5, f6, f7, f8, f9, f10, f11, fits]
        refine (hUa _).mono ?_
        rintro _ st3 ⟨rfl, rfl⟩
        simp -implicitDefEqProofs -dsimp only [go_sem, ↓reduceIte, zE, zB, zA, zM, zS, zL, reduceCtorEq, f0, f3, f5, f6, f7, f8, f9, f10, f11, fits, w_succ hlt (show sub.length ≤ 281474976710656 by omega), w7, w8, w9, w9z]
        rw [tkz h0]
      · rintro fr st1 _ ⟨f0, f3, f5, f6, f7, f8, f9, f10, f11, rfl, rfl⟩
        rw [List.take_length] at f7 f8 f9
        rw [tkn] at f10
        simp -implicitDefEqProofs -dsimp only [go_sem, ↓reduceIte, zE, zB, zA, zM, zS, zL, reduceCtorEq, f0, f3, f5, f6, f7, f8, f9, f10, f11, i3.len, nlt_i (Nat.lt_irrefl _), fits]
        intros
        refine (hSt _).mono ?_
        rintro _ st ⟨rfl, rfl⟩
        simp -implicitDefEqProofs -dsimp only [go_sem, ↓reduceIte, zE, zB, zA, zM, zS, zL, reduceCtorEq, f0, f3, f5, f6, f7, f8, f9, f10, f11, fits, decide_true, wH, he0, Bool.or_true, Bool.true_or]
        refine (hHt _).mono ?_
        rintro _ st ⟨rfl, rfl⟩
        simp -implicitDefEqProofs -dsimp only [go_sem, ↓reduceIte, zE, zB, zA, zM, zS, zL, reduceCtorEq, f0, f3, f5, f6, f7, f8, f9, f10, f11, fits, decide_true, wH, he0, Bool.or_true, Bool.true_or]
        refine (hCt _).mono ?_
        rintro _ st ⟨rfl, rfl⟩
        simp -implicitDefEqProofs -dsimp only [go_sem, ↓reduceIte, zE, zB, zA, zM, zS, zL, reduceCtorEq, f0, f3, f5, f6, f7, f8, f9, f10, f11, fits, decide_true, wH, he0, Bool.or_true, Bool.true_or]
        refine (hsq _).mono ?_
        rintro _ st ⟨rfl, rfl⟩
        simp -implicitDefEqProofs -dsimp only [go_sem, ↓reduceIte, zE, zB, zA, zM, zS, zL, reduceCtorEq, f0, f3, f5, f6, f7, f8, f9, f10, f11, fits, decide_true, wH, he0, Bool.or_true, Bool.true_or, (h1 h0).1]
        exact outK_self ⟨rfl, rfl⟩
    · rw [show decide (e = 0) = false from by simp [h0]] at he0 tk0
      cases hpb : decide (p = [])
      · rw [hpb] at hpl tk0
        simp -implicitDefEqProofs -dsimp only [go_sem, ↓reduceIte, zE, zB, zA, zM, zS, zL, reduceCtorEq, fits, hru', de2, he0, hpl, plI_len, decide_true, inOrder_one]
        intros
        refine LoopC.ctr sub.length (fun k fr st' ds => fr 0 = .iv (.raw (.int .u8 ca)) ∧ fr 3 = .box [.raw (.int .u8 rule), .sl tl xl, .sl tr xr, .raw (.int .u8 op), .raw (.string fn), .sl ta xa, .sl tb xb, .raw (.bool v), .raw (.string un), .sl tu xu, .raw (.string n), .sl ts xs] ∧ fr 5 = .iv (.sl tg (plI p)) ∧ fr 6 = .iv (.raw (.int .i64 e)) ∧
          fr 7 = .iv (.raw (.int .i64 ((1 + stepsTrs (sub.take k) : Nat) : Int))) ∧ fr 8 = .iv (.raw (.int .i64 ((heightTrs (sub.take k) : Nat) : Int))) ∧ fr 9 = .iv (.raw (.int .i64 ((0 + cutsTrs (sub.take k) : Nat) : Int))) ∧ fr 10 = .iv (.raw (.bool (tk k))) ∧ fr 11 = .iv (.raw (.int .i64 k)) ∧ st' = st ∧ ds = []) ?_ ?_ ?_
        · rw [tk0]
          simp -implicitDefEqProofs -dsimp only [go_sem, ↓reduceIte, zE, zB, zA, zM, zS, zL, reduceCtorEq]
          simp [stepsTrs, heightTrs, cutsTrs]
        · rintro k fr st1 _ hlt ⟨f0, f3, f5, f6, f7, f8, f9, f10, f11, rfl, rfl⟩
          obtain ⟨a, ha⟩ := get_of_lt hlt
          have ham := List.mem_of_getElem? ha
          obtain ⟨z, hkz, hzz⟩ := i3.get ha
          obtain ⟨g1, g2, g3⟩ := htk k a ha
          have hoka := okTs_mem hok2 ham
          have hsa := steps_le_of_mem ham
          have hCa := fun st => Check_c gl G T ca a z hzz (okT_fit hoka (by omega)) st
          have hSa := fun st => Steps_c gl a z hzz (by omega) st
          have hHa := fun st => Height_c gl a z hzz (by omega) st
          have hUa := fun st => Cuts_c gl a z hzz (by omega) st
          have t1 := stepsT_take ha
          have t2 := heightT_take ha
          have t3 := cutsT_take ha
          have t4 := stepsT_le sub (k + 1)
          have t5 := height_le a
          have t6 := cuts_le a
          have t7 := cutsT_le sub (k + 1)
          have w7 : IntKind.i64.wrap (((1 + stepsTrs (sub.take k) : Nat) : Int) + ((a.steps : Nat) : Int)) = ((1 + stepsTrs (sub.take (k + 1)) : Nat) : Int) := by rw [w64] <;> omega
          have w8 : max ((heightTrs (sub.take k) : Nat) : Int) ((a.height : Nat) : Int) = ((heightTrs (sub.take (k + 1)) : Nat) : Int) := by omega
          have w9z : IntKind.i64.wrap (((cutsTrs (sub.take k) : Nat) : Int) + ((a.cuts : Nat) : Int)) = ((cutsTrs (sub.take (k + 1)) : Nat) : Int) := by rw [w64] <;> omega
          have w9 : IntKind.i64.wrap (((0 + cutsTrs (sub.take k) : Nat) : Int) + ((a.cuts : Nat) : Int)) = ((0 + cutsTrs (sub.take (k + 1)) : Nat) : Int) := by rw [w64] <;> omega
          obtain ⟨rule', tl', xl', tr', xr', op', fn', ta', xa', tb', xb', v', un', tu', xu', n', ts', xs', rfl⟩ := trAgg hzz
          simp -implicitDefEqProofs -dsimp only [go_sem, ↓reduceIte, zE, zB, zA, zM, zS, zL, reduceCtorEq, f0, f3, f11, i3.len, lt_i hlt, reTag_es e3, Int.natCast_nonneg, hkz, fits]
          intro _
          refine (hCa _).mono ?_
          rintro _ st2 ⟨⟨tg2, rfl, htg2⟩, rfl⟩
          generalize CheckS ca a = q at g1 g2 g3 ⊢
          obtain ⟨p2, e2⟩ := q
          simp only at g1 g2 g3 ⊢
          have de : decide (((e2 : Nat) : Int) = 0) = decide (e2 = 0) := by rw [decide_eq_decide]; omega
          by_cases hno : tk k = false ∧ e2 ≠ 0
          · obtain ⟨hp2, he2', hk1⟩ := g2 hno
            subst he2'
            rw [hno.1] at f10
            have hSI := fun len st => SameInts_c gl tg2 _ p2 p2 htg2 (okEs_slc htg len len 1) st
            have fpl : plI p = .raw (.int .i64 k) :: plI p2 := by rw [hp2]; rfl
            simp -implicitDefEqProofs -dsimp only [go_sem, ↓reduceIte, zE, zB, zA, zM, zS, zL, reduceCtorEq, f0, f3, f5, f6, f7, f8, f9, f10, f11, fits, he0, fpl, decide_true, i3.len, reTag_es e3, reTag_es htg, Int.natCast_nonneg, hkz, Int.le_refl, Int.toNat_zero, sliceI_one, Nat.add_sub_cancel, List.take_length]
            refine (hSI _ _).mono ?_
            rintro _ st2 ⟨rfl, rfl⟩
            simp -implicitDefEqProofs -dsimp only [go_sem, ↓reduceIte, zE, zB, zA, zM, zS, zL, reduceCtorEq, f0, f3, f5, f6, f7, f8, f9, f10, f11, fits, he0, fpl, decide_true, show eqB p2 p2 = true from eqB_true.2 rfl, i3.len, reTag_es e3, Int.natCast_nonneg, hkz]
            intros
            refine (hSa _).mono ?_
            rintro _ st3 ⟨rfl, rfl⟩
            simp -implicitDefEqProofs -dsimp only [go_sem, ↓reduceIte, zE, zB, zA, zM, zS, zL, reduceCtorEq, f0, f3, f5, f6, f7, f8, f9, f10, f11, fits]
            refine (hHa _).mono ?_
            rintro _ st3 ⟨rfl, rfl⟩
            simp -implicitDefEqProofs -dsimp only [go_sem, ↓reduceIte, zE, zB, zA, zM, zS, zL, reduceCtorEq, f0, f3, f5, f6, f7, f8, f9, f10, f11, fits]
            refine (hUa _).mono ?_
            rintro _ st3 ⟨rfl, rfl⟩
            simp -implicitDefEqProofs -dsimp only [go_sem, ↓reduceIte, zE, zB, zA, zM, zS, zL, reduceCtorEq, f0, f3, f5, f6, f7, f8, f9, f10, f11, fits, w_succ hlt (show sub.length ≤ 281474976710656 by omega), w7, w8, w9, w9z]
            exact ⟨by rw [fpl], by rw [hk1]⟩
          · have hk1 := g3 hno
            cases hkk : tk k
            · rw [hkk] at f10 hk1
              have h20 : e2 = 0 := Classical.byContradiction fun h => hno ⟨hkk, h⟩
              subst h20
              simp -implicitDefEqProofs -dsimp only [go_sem, ↓reduceIte, zE, zB, zA, zM, zS, zL, reduceCtorEq, f0, f3, f5, f6, f7, f8, f9, f10, f11, fits, he0, show decide (((0 : Nat) : Int) = 0) = true from rfl, decide_true, i3.len, reTag_es e3, Int.natCast_nonneg, hkz]
              intros
              refine (hSa _).mono ?_
              rintro _ st3 ⟨rfl, rfl⟩
              simp -implicitDefEqProofs -dsimp only [go_sem, ↓reduceIte, zE, zB, zA, zM, zS, zL, reduceCtorEq, f0, f3, f5, f6, f7, f8, f9, f10, f11, fits]
              refine (hHa _).mono ?_
              rintro _ st3 ⟨rfl, rfl⟩
              simp -implicitDefEqProofs -dsimp only [go_sem, ↓reduceIte, zE, zB, zA, zM, zS, zL, reduceCtorEq, f0, f3, f5, f6, f7, f8, f9, f10, f11, fits]
              refine (hUa _).mono ?_
              rintro _ st3 ⟨rfl, rfl⟩
              simp -implicitDefEqProofs -dsimp only [go_sem, ↓reduceIte, zE, zB, zA, zM, zS, zL, reduceCtorEq, f0, f3, f5, f6, f7, f8, f9, f10, f11, fits, w_succ hlt (show sub.length ≤ 281474976710656 by omega), w7, w8, w9, w9z]
              rw [hk1]
            · rw [hkk] at f10 hk1
              simp -implicitDefEqProofs -dsimp only [go_sem, ↓reduceIte, zE, zB, zA, zM, zS, zL, reduceCtorEq, f0, f3, f5, f6, f7, f8, f9, f10, f11, fits, he0, decide_true, i3.len, reTag_es e3, Int.natCast_nonneg, hkz]
              intros
              refine (hSa _).mono ?_
              rintro _ st3 ⟨rfl, rfl⟩
              simp -implicitDefEqProofs -dsimp only [go_sem, ↓reduceIte, zE, zB, zA, zM, zS, zL, reduceCtorEq, f0, f3, f5, f6, f7, f8, f9, f10, f11, fits]
              refine (hHa _).mono ?_
              rintro _ st3 ⟨rfl, rfl⟩
              simp -implicitDefEqProofs -dsimp only [go_sem, ↓reduceIte, zE, zB, zA, zM, zS, zL, reduceCtorEq, f0, f3, f5, f6, f7, f8, f9, f10, f11, fits]
              refine (hUa _).mono ?_
              rintro _ st3 ⟨rfl, rfl⟩
              simp -implicitDefEqProofs -dsimp only [go_sem, ↓reduceIte, zE, zB, zA, zM, zS, zL, reduceCtorEq, f0, f3, f5, f6, f7, f8, f9, f10, f11, fits, w_succ hlt (show sub.length ≤ 281474976710656 by omega), w7, w8, w9, w9z]
              rw [hk1]
        · rintro fr st1 _ ⟨f0, f3, f5, f6, f7, f8, f9, f10, f11, rfl, rfl⟩
          rw [List.take_length] at f7 f8 f9
          rw [tkn] at f10
          simp -implicitDefEqProofs -dsimp only [go_sem, ↓reduceIte, zE, zB, zA, zM, zS, zL, reduceCtorEq, f0, f3, f5, f6, f7, f8, f9, f10, f11, i3.len, nlt_i (Nat.lt_irrefl _), fits]
          intros
          refine (hSt _).mono ?_
          rintro _ st ⟨rfl, rfl⟩
          simp -implicitDefEqProofs -dsimp only [go_sem, ↓reduceIte, zE, zB, zA, zM, zS, zL, reduceCtorEq, f0, f3, f5, f6, f7, f8, f9, f10, f11, fits, decide_true, wH, he0, Bool.or_true, Bool.true_or]
          refine (hHt _).mono ?_
          rintro _ st ⟨rfl, rfl⟩
          simp -implicitDefEqProofs -dsimp only [go_sem, ↓reduceIte, zE, zB, zA, zM, zS, zL, reduceCtorEq, f0, f3, f5, f6, f7, f8, f9, f10, f11, fits, decide_true, wH, he0, Bool.or_true, Bool.true_or]
          refine (hCt _).mono ?_
          rintro _ st ⟨rfl, rfl⟩
          simp -implicitDefEqProofs -dsimp only [go_sem, ↓reduceIte, zE, zB, zA, zM, zS, zL, reduceCtorEq, f0, f3, f5, f6, f7, f8, f9, f10, f11, fits, decide_true, wH, he0, Bool.or_true, Bool.true_or]
          exact outK_self ⟨rfl, rfl⟩
      · rw [hpb] at hpl tk0
        simp -implicitDefEqProofs -dsimp only [go_sem, ↓reduceIte, zE, zB, zA, zM, zS, zL, reduceCtorEq, fits, hru', de2, he0, hpl, plI_len, decide_true, inOrder_one]
        intros
        refine LoopC.ctr sub.length (fun k fr st' ds => fr 0 = .iv (.raw (.int .u8 ca)) ∧ fr 3 = .box [.raw (.int .u8 rule), .sl tl xl, .sl tr xr, .raw (.int .u8 op), .raw (.string fn), .sl ta xa, .sl tb xb, .raw (.bool v), .raw (.string un), .sl tu xu, .raw (.string n), .sl ts xs] ∧ fr 5 = .iv (.sl tg (plI p)) ∧ fr 6 = .iv (.raw (.int .i64 e)) ∧
          fr 7 = .iv (.raw (.int .i64 ((1 + stepsTrs (sub.take k) : Nat) : Int))) ∧ fr 8 = .iv (.raw (.int .i64 ((heightTrs (sub.take k) : Nat) : Int))) ∧ fr 9 = .iv (.raw (.int .i64 ((0 + cutsTrs (sub.take k) : Nat) : Int))) ∧ fr 10 = .iv (.raw (.bool (tk k))) ∧ fr 11 = .iv (.raw (.int .i64 k)) ∧ st' = st ∧ ds = []) ?_ ?_ ?_
        · rw [tk0]
          simp -implicitDefEqProofs -dsimp only [go_sem, ↓reduceIte, zE, zB, zA, zM, zS, zL, reduceCtorEq]
          simp [stepsTrs, heightTrs, cutsTrs]
        · rintro k fr st1 _ hlt ⟨f0, f3, f5, f6, f7, f8, f9, f10, f11, rfl, rfl⟩
          obtain ⟨a, ha⟩ := get_of_lt hlt
          have ham := List.mem_of_getElem? ha
          obtain ⟨z, hkz, hzz⟩ := i3.get ha
          obtain ⟨g1, g2, g3⟩ := htk k a ha
          have hoka := okTs_mem hok2 ham
          have hsa := steps_le_of_mem ham
          have hCa := fun st => Check_c gl G T ca a z hzz (okT_fit hoka (by omega)) st
          have hSa := fun st => Steps_c gl a z hzz (by omega) st
          have hHa := fun st => Height_c gl a z hzz (by omega) st
          have hUa := fun st => Cuts_c gl a z hzz (by omega) st
          have t1 := stepsT_take ha
          have t2 := heightT_take ha
          have t3 := cutsT_take ha
          have t4 := stepsT_le sub (k + 1)
          have t5 := height_le a
          have t6 := cuts_le a
          have t7 := cutsT_le sub (k + 1)
          have w7 : IntKind.i64.wrap (((1 + stepsTrs (sub.take k) : Nat) : Int) + ((a.steps : Nat) : Int)) = ((1 + stepsTrs (sub.take (k + 1)) : Nat) : Int) := by rw [w64] <;> omega
          have w8 : max ((heightTrs (sub.take k) : Nat) : Int) ((a.height : Nat) : Int) = ((heightTrs (sub.take (k + 1)) : Nat) : Int) := by omega
          have w9z : IntKind.i64.wrap (((cutsTrs (sub.take k) : Nat) : Int) + ((a.cuts : Nat) : Int)) = ((cutsTrs (sub.take (k + 1)) : Nat) : Int) := by rw [w64] <;> omega
          have w9 : IntKind.i64.wrap (((0 + cutsTrs (sub.take k) : Nat) : Int) + ((a.cuts : Nat) : Int)) = ((0 + cutsTrs (sub.take (k + 1)) : Nat) : Int) := by rw [w64] <;> omega
          obtain ⟨rule', tl', xl', tr', xr', op', fn', ta', xa', tb', xb', v', un', tu', xu', n', ts', xs', rfl⟩ := trAgg hzz
          simp -implicitDefEqProofs -dsimp only [go_sem, ↓reduceIte, zE, zB, zA, zM, zS, zL, reduceCtorEq, f0, f3, f11, i3.len, lt_i hlt, reTag_es e3, Int.natCast_nonneg, hkz, fits]
          intro _
          refine (hCa _).mono ?_
          rintro _ st2 ⟨⟨tg2, rfl, htg2⟩, rfl⟩
          generalize CheckS ca a = q at g1 g2 g3 ⊢
          obtain ⟨p2, e2⟩ := q
          simp only at g1 g2 g3 ⊢
          have de : decide (((e2 : Nat) : Int) = 0) = decide (e2 = 0) := by rw [decide_eq_decide]; omega
          by_cases hno : tk k = false ∧ e2 ≠ 0
          · obtain ⟨hp2, he2', hk1⟩ := g2 hno
            subst he2'
            rw [hno.1] at f10
            have hSI := fun len st => SameInts_c gl tg2 _ p2 p2 htg2 (okEs_slc htg len len 1) st
            have fpl : plI p = .raw (.int .i64 k) :: plI p2 := by rw [hp2]; rfl
            simp -implicitDefEqProofs -dsimp only [go_sem, ↓reduceIte, zE, zB, zA, zM, zS, zL, reduceCtorEq, f0, f3, f5, f6, f7, f8, f9, f10, f11, fits, he0, fpl, decide_true, i3.len, reTag_es e3, reTag_es htg, Int.natCast_nonneg, hkz, Int.le_refl, Int.toNat_zero, sliceI_one, Nat.add_sub_cancel, List.take_length]
            refine (hSI _ _).mono ?_
            rintro _ st2 ⟨rfl, rfl⟩
            simp -implicitDefEqProofs -dsimp only [go_sem, ↓reduceIte, zE, zB, zA, zM, zS, zL, reduceCtorEq, f0, f3, f5, f6, f7, f8, f9, f10, f11, fits, he0, fpl, decide_true, show eqB p2 p2 = true from eqB_true.2 rfl, i3.len, reTag_es e3, Int.natCast_nonneg, hkz]
            intros
            refine (hSa _).mono ?_
            rintro _ st3 ⟨rfl, rfl⟩
            simp -implicitDefEqProofs -dsimp only [go_sem, ↓reduceIte, zE, zB, zA, zM, zS, zL, reduceCtorEq, f0, f3, f5, f6, f7, f8, f9, f10, f11, fits]
            refine (hHa _).mono ?_
            rintro _ st3 ⟨rfl, rfl⟩
            simp -implicitDefEqProofs -dsimp only [go_sem, ↓reduceIte, zE, zB, zA, zM, zS, zL, reduceCtorEq, f0, f3, f5, f6, f7, f8, f9, f10, f11, fits]
            refine (hUa _).mono ?_
            rintro _ st3 ⟨rfl, rfl⟩
            simp -implicitDefEqProofs -dsimp only [go_sem, ↓reduceIte, zE, zB, zA, zM, zS, zL, reduceCtorEq, f0, f3, f5, f6, f7, f8, f9, f10, f11, fits, w_succ hlt (show sub.length ≤ 281474976710656 by omega), w7, w8, w9, w9z]
            exact ⟨by rw [fpl], by rw [hk1]⟩
          · have hk1 := g3 hno
            cases hkk : tk k
            · rw [hkk] at f10 hk1
              have h20 : e2 = 0 := Classical.byContradiction fun h => hno ⟨hkk, h⟩
              subst h20
              simp -implicitDefEqProofs -dsimp only [go_sem, ↓reduceIte, zE, zB, zA, zM, zS, zL, reduceCtorEq, f0, f3, f5, f6, f7, f8, f9, f10, f11, fits, he0, show decide (((0 : Nat) : Int) = 0) = true from rfl, decide_true, i3.len, reTag_es e3, Int.natCast_nonneg, hkz]
              intros
              refine (hSa _).mono ?_
              rintro _ st3 ⟨rfl, rfl⟩
              simp -implicitDefEqProofs -dsimp only [go_sem, ↓reduceIte, zE, zB, zA, zM, zS, zL, reduceCtorEq, f0, f3, f5, f6, f7, f8, f9, f10, f11, fits]
              refine (hHa _).mono ?_
              rintro _ st3 ⟨rfl, rfl⟩
              simp -implicitDefEqProofs -dsimp only [go_sem, ↓reduceIte, zE, zB, zA, zM, zS, zL, reduceCtorEq, f0, f3, f5, f6, f7, f8, f9, f10, f11, fits]
              refine (hUa _).mono ?_
              rintro _ st3 ⟨rfl, rfl⟩
              simp -implicitDefEqProofs -dsimp only [go_sem, ↓reduceIte, zE, zB, zA, zM, zS, zL, reduceCtorEq, f0, f3, f5, f6, f7, f8, f9, f10, f11, fits, w_succ hlt (show sub.length ≤ 281474976710656 by omega), w7, w8, w9, w9z]
              rw [hk1]
            · rw [hkk] at f10 hk1
              simp -implicitDefEqProofs -dsimp only [go_sem, ↓reduceIte, zE, zB, zA, zM, zS, zL, reduceCtorEq, f0, f3, f5, f6, f7, f8, f9, f10, f11, fits, he0, decide_true, i3.len, reTag_es e3, Int.natCast_nonneg, hkz]
              intros
              refine (hSa _).mono ?_
              rintro _ st3 ⟨rfl, rfl⟩
              simp -implicitDefEqProofs -dsimp only [go_sem, ↓reduceIte, zE, zB, zA, zM, zS, zL, reduceCtorEq, f0, f3, f5, f6, f7, f8, f9, f10, f11, fits]
              refine (hHa _).mono ?_
              rintro _ st3 ⟨rfl, rfl⟩
              simp -implicitDefEqProofs -dsimp only [go_sem, ↓reduceIte, zE, zB, zA, zM, zS, zL, reduceCtorEq, f0, f3, f5, f6, f7, f8, f9, f10, f11, fits]
              refine (hUa _).mono ?_
              rintro _ st3 ⟨rfl, rfl⟩
              simp -implicitDefEqProofs -dsimp only [go_sem, ↓reduceIte, zE, zB, zA, zM, zS, zL, reduceCtorEq, f0, f3, f5, f6, f7, f8, f9, f10, f11, fits, w_succ hlt (show sub.length ≤ 281474976710656 by omega), w7, w8, w9, w9z]
              rw [hk1]
        · rintro fr st1 _ ⟨f0, f3, f5, f6, f7, f8, f9, f10, f11, rfl, rfl⟩
          rw [List.take_length] at f7 f8 f9
          rw [tkn] at f10
          simp -implicitDefEqProofs -dsimp only [go_sem, ↓reduceIte, zE, zB, zA, zM, zS, zL, reduceCtorEq, f0, f3, f5, f6, f7, f8, f9, f10, f11, i3.len, nlt_i (Nat.lt_irrefl _), fits]
          intros
          refine (hSt _).mono ?_
          rintro _ st ⟨rfl, rfl⟩
          simp -implicitDefEqProofs -dsimp only [go_sem, ↓reduceIte, zE, zB, zA, zM, zS, zL, reduceCtorEq, f0, f3, f5, f6, f7, f8, f9, f10, f11, fits, decide_true, wH, he0, Bool.or_true, Bool.true_or]
          refine (hHt _).mono ?_
          rintro _ st ⟨rfl, rfl⟩
          simp -implicitDefEqProofs -dsimp only [go_sem, ↓reduceIte, zE, zB, zA, zM, zS, zL, reduceCtorEq, f0, f3, f5, f6, f7, f8, f9, f10, f11, fits, decide_true, wH, he0, Bool.or_true, Bool.true_or]
          refine (hCt _).mono ?_
          rintro _ st ⟨rfl, rfl⟩
          simp -implicitDefEqProofs -dsimp only [go_sem, ↓reduceIte, zE, zB, zA, zM, zS, zL, reduceCtorEq, f0, f3, f5, f6, f7, f8, f9, f10, f11, fits, decide_true, wH, he0, Bool.or_true, Bool.true_or]
          exact outK_self ⟨rfl, rfl⟩
  · rw [hr17] at hru'
    obtain rfl : c = 1 := by rw [hc, if_pos (of_decide_eq_true hr17)]
    by_cases h0 : e = 0
    · rw [show decide (e = 0) = true from by simp [h0]] at he0 tk0
      simp -implicitDefEqProofs -dsimp only [go_sem, ↓reduceIte, zE, zB, zA, zM, zS, zL, reduceCtorEq, fits, hru', de2, he0, hpl, plI_len, decide_true, inOrder_one]
      refine LoopC.ctr sub.length (fun k fr st' ds => fr 0 = .iv (.raw (.int .u8 ca)) ∧ fr 3 = .box [.raw (.int .u8 rule), .sl tl xl, .sl tr xr, .raw (.int .u8 op), .raw (.string fn), .sl ta xa, .sl tb xb, .raw (.bool v), .raw (.string un), .sl tu xu, .raw (.string n), .sl ts xs] ∧ fr 5 = .iv (.sl tg (plI p)) ∧ fr 6 = .iv (.raw (.int .i64 e)) ∧
        fr 7 = .iv (.raw (.int .i64 ((1 + stepsTrs (sub.take k) : Nat) : Int))) ∧ fr 8 = .iv (.raw (.int .i64 ((heightTrs (sub.take k) : Nat) : Int))) ∧ fr 9 = .iv (.raw (.int .i64 ((1 + cutsTrs (sub.take k) : Nat) : Int))) ∧ fr 10 = .iv (.raw (.bool (tk k))) ∧ fr 11 = .iv (.raw (.int .i64 k)) ∧ st' = st ∧ ds = []) ?_ ?_ ?_
      · rw [tk0]
        simp -implicitDefEqProofs -dsimp only [go_sem, ↓reduceIte, zE, zB, zA, zM, zS, zL, reduceCtorEq]
        simp [stepsTrs, heightTrs, cutsTrs]
      · rintro k fr st1 _ hlt ⟨f0, f3, f5, f6, f7, f8, f9, f10, f11, rfl, rfl⟩
        obtain ⟨a, ha⟩ := get_of_lt hlt
        have ham := List.mem_of_getElem? ha
        obtain ⟨z, hkz, hzz⟩ := i3.get ha
        obtain ⟨g1, g2, g3⟩ := htk k a ha
        have hoka := okTs_mem hok2 ham
        have hsa := steps_le_of_mem ham
        have hCa := fun st => Check_c gl G T ca a z hzz (okT_fit hoka (by omega)) st
        have hSa := fun st => Steps_c gl a z hzz (by omega) st
        have hHa := fun st => Height_c gl a z hzz (by omega) st
        have hUa := fun st => Cuts_c gl a z hzz (by omega) st
        have t1 := stepsT_take ha
        have t2 := heightT_take ha
        have t3 := cutsT_take ha
        have t4 := stepsT_le sub (k + 1)
        have t5 := height_le a
        have t6 := cuts_le a
        have t7 := cutsT_le sub (k + 1)
        have w7 : IntKind.i64.wrap (((1 + stepsTrs (sub.take k) : Nat) : Int) + ((a.steps : Nat) : Int)) = ((1 + stepsTrs (sub.take (k + 1)) : Nat) : Int) := by rw [w64] <;> omega
        have w8 : max ((heightTrs (sub.take k) : Nat) : Int) ((a.height : Nat) : Int) = ((heightTrs (sub.take (k + 1)) : Nat) : Int) := by omega
        have w9z : IntKind.i64.wrap (((cutsTrs (sub.take k) : Nat) : Int) + ((a.cuts : Nat) : Int)) = ((cutsTrs (sub.take (k + 1)) : Nat) : Int) := by rw [w64] <;> omega
        have w9 : IntKind.i64.wrap (((1 + cutsTrs (sub.take k) : Nat) : Int) + ((a.cuts : Nat) : Int)) = ((1 + cutsTrs (sub.take (k + 1)) : Nat) : Int) := by rw [w64] <;> omega
        obtain ⟨rule', tl', xl', tr', xr', op', fn', ta', xa', tb', xb', v', un', tu', xu', n', ts', xs', rfl⟩ := trAgg hzz
        simp -implicitDefEqProofs -dsimp only [go_sem, ↓reduceIte, zE, zB, zA, zM, zS, zL, reduceCtorEq, f0, f3, f11, i3.len, lt_i hlt, reTag_es e3, Int.natCast_nonneg, hkz, fits]
        intro _
        refine (hCa _).mono ?_
        rintro _ st2 ⟨⟨tg2, rfl, htg2⟩, rfl⟩
        generalize CheckS ca a = q at g1 g2 g3 ⊢
        obtain ⟨p2, e2⟩ := q
        simp only at g1 g2 g3 ⊢
        have h20 := g1 h0
        subst h20
        have hk1 := tkz h0 k
        rw [hk1] at f10
        simp -implicitDefEqProofs -dsimp only [go_sem, ↓reduceIte, zE, zB, zA, zM, zS, zL, reduceCtorEq, f3, f5, f6, f7, f8, f9, f10, f11, fits, he0, show decide (((0 : Nat) : Int) = 0) = true from rfl, i3.len, reTag_es e3, Int.natCast_nonneg, hkz]
        intros
        refine (hSa _).mono ?_
        rintro _ st3 ⟨rfl, rfl⟩
        simp -implicitDefEqProofs -dsimp only [go_sem, ↓reduceIte, zE, zB, zA, zM, zS, zL, reduceCtorEq, f0, f3, f5, f6, f7, f8, f9, f10, f11, fits]
        refine (hHa _).mono ?_
        rintro _ st3 ⟨rfl, rfl⟩
        simp -implicitDefEqProofs -dsimp only [go_sem, ↓reduceIte, zE, zB, zA, zM, zS, zL, reduceCtorEq, f0, f3, f5, f6, f7, f8, f9, f10, f11, fits]
        refine (hUa _).mono ?_
        rintro _ st3 ⟨rfl, rfl⟩
        simp -implicitDefEqProofs -dsimp only [go_sem, ↓reduceIte, zE, zB, zA, zM, zS, zL, reduceCtorEq, f0, f3, f5, f6, f7, f8, f9, f10, f11, fits, w_succ hlt (show sub.length ≤ 281474976710656 by omega), w7, w8, w9, w9z]
        rw [tkz h0]
      · rintro fr st1 _ ⟨f0, f3, f5, f6, f7, f8, f9, f10, f11, rfl, rfl⟩
        rw [List.take_length] at f7 f8 f9
        rw [tkn] at f10
        simp -implicitDefEqProofs -dsimp only [go_sem, ↓reduceIte, zE, zB, zA, zM, zS, zL, reduceCtorEq, f0, f3, f5, f6, f7, f8, f9, f10, f11, i3.len, nlt_i (Nat.lt_irrefl _), fits]
        intros
        refine (hSt _).mono ?_
        rintro _ st ⟨rfl, rfl⟩
        simp -implicitDefEqProofs -dsimp only [go_sem, ↓reduceIte, zE, zB, zA, zM, zS, zL, reduceCtorEq, f0, f3, f5, f6, f7, f8, f9, f10, f11, fits, decide_true, wH, he0, Bool.or_true, Bool.true_or]
        refine (hHt _).mono ?_
        rintro _ st ⟨rfl, rfl⟩
        simp -implicitDefEqProofs -dsimp only [go_sem, ↓reduceIte, zE, zB, zA, zM, zS, zL, reduceCtorEq, f0, f3, f5, f6, f7, f8, f9, f10, f11, fits, decide_true, wH, he0, Bool.or_true, Bool.true_or]
        refine (hCt _).mono ?_
        rintro _ st ⟨rfl, rfl⟩
        simp -implicitDefEqProofs -dsimp only [go_sem, ↓reduceIte, zE, zB, zA, zM, zS, zL, reduceCtorEq, f0, f3, f5, f6, f7, f8, f9, f10, f11, fits, decide_true, wH, he0, Bool.or_true, Bool.true_or]
        refine (hsq _).mono ?_
        rintro _ st ⟨rfl, rfl⟩
        simp -implicitDefEqProofs -dsimp only [go_sem, ↓reduceIte, zE, zB, zA, zM, zS, zL, reduceCtorEq, f0, f3, f5, f6, f7, f8, f9, f10, f11, fits, decide_true, wH, he0, Bool.or_true, Bool.true_or, (h1 h0).1]
        exact outK_self ⟨rfl, rfl⟩
    · rw [show decide (e = 0) = false from by simp [h0]] at he0 tk0
      cases hpb : decide (p = [])
      · rw [hpb] at hpl tk0
        simp -implicitDefEqProofs -dsimp only [go_sem, ↓reduceIte, zE, zB, zA, zM, zS, zL, reduceCtorEq, fits, hru', de2, he0, hpl, plI_len, decide_true, inOrder_one]
        intros
        refine LoopC.ctr sub.length (fun k fr st' ds => fr 0 = .iv (.raw (.int .u8 ca)) ∧ fr 3 = .box [.raw (.int .u8 rule), .sl tl xl, .sl tr xr, .raw (.int .u8 op), .raw (.string fn), .sl ta xa, .sl tb xb, .raw (.bool v), .raw (.string un), .sl tu xu, .raw (.string n), .sl ts xs] ∧ fr 5 = .iv (.sl tg (plI p)) ∧ fr 6 = .iv (.raw (.int .i64 e)) ∧
          fr 7 = .iv (.raw (.int .i64 ((1 + stepsTrs (sub.take k) : Nat) : Int))) ∧ fr 8 = .iv (.raw (.int .i64 ((heightTrs (sub.take k) : Nat) : Int))) ∧ fr 9 = .iv (.raw (.int .i64 ((1 + cutsTrs (sub.take k) : Nat) : Int))) ∧ fr 10 = .iv (.raw (.bool (tk k))) ∧ fr 11 = .iv (.raw (.int .i64 k)) ∧ st' = st ∧ ds = []) ?_ ?_ ?_
        · rw [tk0]
          simp -implicitDefEqProofs -dsimp only [go_sem, ↓reduceIte, zE, zB, zA, zM, zS, zL, reduceCtorEq]
          simp [stepsTrs, heightTrs, cutsTrs]
        · rintro k fr st1 _ hlt ⟨f0, f3, f5, f6, f7, f8, f9, f10, f11, rfl, rfl⟩
          obtain ⟨a, ha⟩ := get_of_lt hlt
          have ham := List.mem_of_getElem? ha
          obtain ⟨z, hkz, hzz⟩ := i3.get ha
          obtain ⟨g1, g2, g3⟩ := htk k a ha
          have hoka := okTs_mem hok2 ham
          have hsa := steps_le_of_mem ham
          have hCa := fun st => Check_c gl G T ca a z hzz (okT_fit hoka (by omega)) st
          have hSa := fun st => Steps_c gl a z hzz (by omega) st
          have hHa := fun st => Height_c gl a z hzz (by omega) st
          have hUa := fun st => Cuts_c gl a z hzz (by omega) st
          have t1 := stepsT_take ha
          have t2 := heightT_take ha
          have t3 := cutsT_take ha
          have t4 := stepsT_le sub (k + 1)
          have t5 := height_le a
          have t6 := cuts_le a
          have t7 := cutsT_le sub (k + 1)
          have w7 : IntKind.i64.wrap (((1 + stepsTrs (sub.take k) : Nat) : Int) + ((a.steps : Nat) : Int)) = ((1 + stepsTrs (sub.take (k + 1)) : Nat) : Int) := by rw [w64] <;> omega
          have w8 : max ((heightTrs (sub.take k) : Nat) : Int) ((a.height : Nat) : Int) = ((heightTrs (sub.take (k + 1)) : Nat) : Int) := by omega
          have w9z : IntKind.i64.wrap (((cutsTrs (sub.take k) : Nat) : Int) + ((a.cuts : Nat) : Int)) = ((cutsTrs (sub.take (k + 1)) : Nat) : Int) := by rw [w64] <;> omega
          have w9 : IntKind.i64.wrap (((1 + cutsTrs (sub.take k) : Nat) : Int) + ((a.cuts : Nat) : Int)) = ((1 + cutsTrs (sub.take (k + 1)) : Nat) : Int) := by rw [w64] <;> omega
          obtain ⟨rule', tl', xl', tr', xr', op', fn', ta', xa', tb', xb', v', un', tu', xu', n', ts', xs', rfl⟩ := trAgg hzz
          simp -implicitDefEqProofs -dsimp only [go_sem, ↓reduceIte, zE, zB, zA, zM, zS, zL, reduceCtorEq, f0, f3, f11, i3.len, lt_i hlt, reTag_es e3, Int.natCast_nonneg, hkz, fits]
          intro _
          refine (hCa _).mono ?_
          rintro _ st2 ⟨⟨tg2, rfl, htg2⟩, rfl⟩
          generalize CheckS ca a = q at g1 g2 g3 ⊢
          obtain ⟨p2, e2⟩ := q
          simp only at g1 g2 g3 ⊢
          have de : decide (((e2 : Nat) : Int) = 0) = decide (e2 = 0) := by rw [decide_eq_decide]; omega
          by_cases hno : tk k = false ∧ e2 ≠ 0
          · obtain ⟨hp2, he2', hk1⟩ := g2 hno
            subst he2'
            rw [hno.1] at f10
            have hSI := fun len st => SameInts_c gl tg2 _ p2 p2 htg2 (okEs_slc htg len len 1) st
            have fpl : plI p = .raw (.int .i64 k) :: plI p2 := by rw [hp2]; rfl
            simp -implicitDefEqProofs -dsimp only [go_sem, ↓reduceIte, zE, zB, zA, zM, zS, zL, reduceCtorEq, f0, f3, f5, f6, f7, f8, f9, f10, f11, fits, he0, fpl, decide_true, i3.len, reTag_es e3, reTag_es htg, Int.natCast_nonneg, hkz, Int.le_refl, Int.toNat_zero, sliceI_one, Nat.add_sub_cancel, List.take_length]
            refine (hSI _ _).mono ?_
            rintro _ st2 ⟨rfl, rfl⟩
            simp -implicitDefEqProofs -dsimp only [go_sem, ↓reduceIte, zE, zB, zA, zM, zS, zL, reduceCtorEq, f0, f3, f5, f6, f7, f8, f9, f10, f11, fits, he0, fpl, decide_true, show eqB p2 p2 = true from eqB_true.2 rfl, i3.len, reTag_es e3, Int.natCast_nonneg, hkz]
            intros
            refine (hSa _).mono ?_
            rintro _ st3 ⟨rfl, rfl⟩
            simp -implicitDefEqProofs -dsimp only [go_sem, ↓reduceIte, zE, zB, zA, zM, zS, zL, reduceCtorEq, f0, f3, f5, f6, f7, f8, f9, f10, f11, fits]
            refine (hHa _).mono ?_
            rintro _ st3 ⟨rfl, rfl⟩
            simp -implicitDefEqProofs -dsimp only [go_sem, ↓reduceIte, zE, zB, zA, zM, zS, zL, reduceCtorEq, f0, f3, f5, f6, f7, f8, f9, f10, f11, fits]
            refine (hUa _).mono ?_
            rintro _ st3 ⟨rfl, rfl⟩
            simp -implicitDefEqProofs -dsimp only [go_sem, ↓reduceIte, zE, zB, zA, zM, zS, zL, reduceCtorEq, f0, f3, f5, f6, f7, f8, f9, f10, f11, fits, w_succ hlt (show sub.length ≤ 281474976710656 by omega), w7, w8, w9, w9z]
            exact ⟨by rw [fpl], by rw [hk1]⟩
          · have hk1 := g3 hno
            cases hkk : tk k
            · rw [hkk] at f10 hk1
              have h20 : e2 = 0 := Classical.byContradiction fun h => hno ⟨hkk, h⟩
              subst h20
              simp -implicitDefEqProofs -dsimp only [go_sem, ↓reduceIte, zE, zB, zA, zM, zS, zL, reduceCtorEq, f0, f3, f5, f6, f7, f8, f9, f10, f11, fits, he0, show decide (((0 : Nat) : Int) = 0) = true from rfl, decide_true, i3.len, reTag_es e3, Int.natCast_nonneg, hkz]
              intros
              refine (hSa _).mono ?_
              rintro _ st3 ⟨rfl, rfl⟩
              simp -implicitDefEqProofs -dsimp only [go_sem, ↓reduceIte, zE, zB, zA, zM, zS, zL, reduceCtorEq, f0, f3, f5, f6, f7, f8, f9, f10, f11, fits]
              refine (hHa _).mono ?_
              rintro _ st3 ⟨rfl, rfl⟩
              simp -implicitDefEqProofs -dsimp only [go_sem, ↓reduceIte, zE, zB, zA, zM, zS, zL, reduceCtorEq, f0, f3, f5, f6, f7, f8, f9, f10, f11, fits]
              refine (hUa _).mono ?_
              rintro _ st3 ⟨rfl, rfl⟩
              simp -implicitDefEqProofs -dsimp only [go_sem, ↓reduceIte, zE, zB, zA, zM, zS, zL, reduceCtorEq, f0, f3, f5, f6, f7, f8, f9, f10, f11, fits, w_succ hlt (show sub.length ≤ 281474976710656 by omega), w7, w8, w9, w9z]
              rw [hk1]
            · rw [hkk] at f10 hk1
              simp -implicitDefEqProofs -dsimp only [go_sem, ↓reduceIte, zE, zB, zA, zM, zS, zL, reduceCtorEq, f0, f3, f5, f6, f7, f8, f9, f10, f11, fits, he0, decide_true, i3.len, reTag_es e3, Int.natCast_nonneg, hkz]
              intros
              refine (hSa _).mono ?_
              rintro _ st3 ⟨rfl, rfl⟩
              simp -implicitDefEqProofs -dsimp only [go_sem, ↓reduceIte, zE, zB, zA, zM, zS, zL, reduceCtorEq, f0, f3, f5, f6, f7, f8, f9, f10, f11, fits]
              refine (hHa _).mono ?_
              rintro _ st3 ⟨rfl, rfl⟩
              simp -implicitDefEqProofs -dsimp only [go_sem, ↓reduceIte, zE, zB, zA, zM, zS, zL, reduceCtorEq, f0, f3, f5, f6, f7, f8, f9, f10, f11, fits]
              refine (hUa _).mono ?_
              rintro _ st3 ⟨rfl, rfl⟩
              simp -implicitDefEqProofs -dsimp only [go_sem, ↓reduceIte, zE, zB, zA, zM, zS, zL, reduceCtorEq, f0, f3, f5, f6, f7, f8, f9, f10, f11, fits, w_succ hlt (show sub.length ≤ 281474976710656 by omega), w7, w8, w9, w9z]
              rw [hk1]
        · rintro fr st1 _ ⟨f0, f3, f5, f6, f7, f8, f9, f10, f11, rfl, rfl⟩
          rw [List.take_length] at f7 f8 f9
          rw [tkn] at f10
          simp -implicitDefEqProofs -dsimp only [go_sem, ↓reduceIte, zE, zB, zA, zM, zS, zL, reduceCtorEq, f0, f3, f5, f6, f7, f8, f9, f10, f11, i3.len, nlt_i (Nat.lt_irrefl _), fits]
          intros
          refine (hSt _).mono ?_
          rintro _ st ⟨rfl, rfl⟩
          simp -implicitDefEqProofs -dsimp only [go_sem, ↓reduceIte, zE, zB, zA, zM, zS, zL, reduceCtorEq, f0, f3, f5, f6, f7, f8, f9, f10, f11, fits, decide_true, wH, he0, Bool.or_true, Bool.true_or]
          refine (hHt _).mono ?_
          rintro _ st ⟨rfl, rfl⟩
          simp -implicitDefEqProofs -dsimp only [go_sem, ↓reduceIte, zE, zB, zA, zM, zS, zL, reduceCtorEq, f0, f3, f5, f6, f7, f8, f9, f10, f11, fits, decide_true, wH, he0, Bool.or_true, Bool.true_or]
          refine (hCt _).mono ?_
          rintro _ st ⟨rfl, rfl⟩
          simp -implicitDefEqProofs -dsimp only [go_sem, ↓reduceIte, zE, zB, zA, zM, zS, zL, reduceCtorEq, f0, f3, f5, f6, f7, f8, f9, f10, f11, fits, decide_true, wH, he0, Bool.or_true, Bool.true_or]
          exact outK_self ⟨rfl, rfl⟩
      · rw [hpb] at hpl tk0
        simp -implicitDefEqProofs -dsimp only [go_sem, ↓reduceIte, zE, zB, zA, zM, zS, zL, reduceCtorEq, fits, hru', de2, he0, hpl, plI_len, decide_true, inOrder_one]
        intros
        refine LoopC.ctr sub.length (fun k fr st' ds => fr 0 = .iv (.raw (.int .u8 ca)) ∧ fr 3 = .box [.raw (.int .u8 rule), .sl tl xl, .sl tr xr, .raw (.int .u8 op), .raw (.string fn), .sl ta xa, .sl tb xb, .raw (.bool v), .raw (.string un), .sl tu xu, .raw (.string n), .sl ts xs] ∧ fr 5 = .iv (.sl tg (plI p)) ∧ fr 6 = .iv (.raw (.int .i64 e)) ∧
          fr 7 = .iv (.raw (.int .i64 ((1 + stepsTrs (sub.take k) : Nat) : Int))) ∧ fr 8 = .iv (.raw (.int .i64 ((heightTrs (sub.take k) : Nat) : Int))) ∧ fr 9 = .iv (.raw (.int .i64 ((1 + cutsTrs (sub.take k) : Nat) : Int))) ∧ fr 10 = .iv (.raw (.bool (tk k))) ∧ fr 11 = .iv (.raw (.int .i64 k)) ∧ st' = st ∧ ds = []) ?_ ?_ ?_
        · rw [tk0]
          simp -implicitDefEqProofs -dsimp only [go_sem, ↓reduceIte, zE, zB, zA, zM, zS, zL, reduceCtorEq]
          simp [stepsTrs, heightTrs, cutsTrs]
        · rintro k fr st1 _ hlt ⟨f0, f3, f5, f6, f7, f8, f9, f10, f11, rfl, rfl⟩
          obtain ⟨a, ha⟩ := get_of_lt hlt
          have ham := List.mem_of_getElem? ha
          obtain ⟨z, hkz, hzz⟩ := i3.get ha
          obtain ⟨g1, g2, g3⟩ := htk k a ha
          have hoka := okTs_mem hok2 ham
          have hsa := steps_le_of_mem ham
          have hCa := fun st => Check_c gl G T ca a z hzz (okT_fit hoka (by omega)) st
          have hSa := fun st => Steps_c gl a z hzz (by omega) st
          have hHa := fun st => Height_c gl a z hzz (by omega) st
          have hUa := fun st => Cuts_c gl a z hzz (by omega) st
          have t1 := stepsT_take ha
          have t2 := heightT_take ha
          have t3 := cutsT_take ha
          have t4 := stepsT_le sub (k + 1)
          have t5 := height_le a
          have t6 := cuts_le a
          have t7 := cutsT_le sub (k + 1)
          have w7 : IntKind.i64.wrap (((1 + stepsTrs (sub.take k) : Nat) : Int) + ((a.steps : Nat) : Int)) = ((1 + stepsTrs (sub.take (k + 1)) : Nat) : Int) := by rw [w64] <;> omega
          have w8 : max ((heightTrs (sub.take k) : Nat) : Int) ((a.height : Nat) : Int) = ((heightTrs (sub.take (k + 1)) : Nat) : Int) := by omega
          have w9z : IntKind.i64.wrap (((cutsTrs (sub.take k) : Nat) : Int) + ((a.cuts : Nat) : Int)) = ((cutsTrs (sub.take (k + 1)) : Nat) : Int) := by rw [w64] <;> omega
          have w9 : IntKind.i64.wrap (((1 + cutsTrs (sub.take k) : Nat) : Int) + ((a.cuts : Nat) : Int)) = ((1 + cutsTrs (sub.take (k + 1)) : Nat) : Int) := by rw [w64] <;> omega
          obtain ⟨rule', tl', xl', tr', xr', op', fn', ta', xa', tb', xb', v', un', tu', xu', n', ts', xs', rfl⟩ := trAgg hzz
          simp -implicitDefEqProofs -dsimp only [go_sem, ↓reduceIte, zE, zB, zA, zM, zS, zL, reduceCtorEq, f0, f3, f11, i3.len, lt_i hlt, reTag_es e3, Int.natCast_nonneg, hkz, fits]
          intro _
          refine (hCa _).mono ?_
          rintro _ st2 ⟨⟨tg2, rfl, htg2⟩, rfl⟩
          generalize CheckS ca a = q at g1 g2 g3 ⊢
          obtain ⟨p2, e2⟩ := q
          simp only at g1 g2 g3 ⊢
          have de : decide (((e2 : Nat) : Int) = 0) = decide (e2 = 0) := by rw [decide_eq_decide]; omega
          by_cases hno : tk k = false ∧ e2 ≠ 0
          · obtain ⟨hp2, he2', hk1⟩ := g2 hno
            subst he2'
            rw [hno.1] at f10
            have hSI := fun len st => SameInts_c gl tg2 _ p2 p2 htg2 (okEs_slc htg len len 1) st
            have fpl : plI p = .raw (.int .i64 k) :: plI p2 := by rw [hp2]; rfl
            simp -implicitDefEqProofs -dsimp only [go_sem, ↓reduceIte, zE, zB, zA, zM, zS, zL, reduceCtorEq, f0, f3, f5, f6, f7, f8, f9, f10, f11, fits, he0, fpl, decide_true, i3.len, reTag_es e3, reTag_es htg, Int.natCast_nonneg, hkz, Int.le_refl, Int.toNat_zero, sliceI_one, Nat.add_sub_cancel, List.take_length]
            refine (hSI _ _).mono ?_
            rintro _ st2 ⟨rfl, rfl⟩
            simp -implicitDefEqProofs -dsimp only [go_sem, ↓reduceIte, zE, zB, zA, zM, zS, zL, reduceCtorEq, f0, f3, f5, f6, f7, f8, f9, f10, f11, fits, he0, fpl, decide_true, show eqB p2 p2 = true from eqB_true.2 rfl, i3.len, reTag_es e3, Int.natCast_nonneg, hkz]
            intros
            refine (hSa _).mono ?_
            rintro _ st3 ⟨rfl, rfl⟩
            simp -implicitDefEqProofs -dsimp only [go_sem, ↓reduceIte, zE, zB, zA, zM, zS, zL, reduceCtorEq, f0, f3, f5, f6, f7, f8, f9, f10, f11, fits]
            refine (hHa _).mono ?_
            rintro _ st3 ⟨rfl, rfl⟩
            simp -implicitDefEqProofs -dsimp only [go_sem, ↓reduceIte, zE, zB, zA, zM, zS, zL, reduceCtorEq, f0, f3, f5, f6, f7, f8, f9, f10, f11, fits]
            refine (hUa _).mono ?_
            rintro _ st3 ⟨rfl, rfl⟩
            simp -implicitDefEqProofs -dsimp only [go_sem, ↓reduceIte, zE, zB, zA, zM, zS, zL, reduceCtorEq, f0, f3, f5, f6, f7, f8, f9, f10, f11, fits, w_succ hlt (show sub.length ≤ 281474976710656 by omega), w7, w8, w9, w9z]
            exact ⟨by rw [fpl], by rw [hk1]⟩
          · have hk1 := g3 hno
            cases hkk : tk k
            · rw [hkk] at f10 hk1
              have h20 : e2 = 0 := Classical.byContradiction fun h => hno ⟨hkk, h⟩
              subst h20
              simp -implicitDefEqProofs -dsimp only [go_sem, ↓reduceIte, zE, zB, zA, zM, zS, zL, reduceCtorEq, f0, f3, f5, f6, f7, f8, f9, f10, f11, fits, he0, show decide (((0 : Nat) : Int) = 0) = true from rfl, decide_true, i3.len, reTag_es e3, Int.natCast_nonneg, hkz]
              intros
              refine (hSa _).mono ?_
              rintro _ st3 ⟨rfl, rfl⟩
              simp -implicitDefEqProofs -dsimp only [go_sem, ↓reduceIte, zE, zB, zA, zM, zS, zL, reduceCtorEq, f0, f3, f5, f6, f7, f8, f9, f10, f11, fits]
              refine (hHa _).mono ?_
              rintro _ st3 ⟨rfl, rfl⟩
              simp -implicitDefEqProofs -dsimp only [go_sem, ↓reduceIte, zE, zB, zA, zM, zS, zL, reduceCtorEq, f0, f3, f5, f6, f7, f8, f9, f10, f11, fits]
              refine (hUa _).mono ?_
              rintro _ st3 ⟨rfl, rfl⟩
              simp -implicitDefEqProofs -dsimp only [go_sem, ↓reduceIte, zE, zB, zA, zM, zS, zL, reduceCtorEq, f0, f3, f5, f6, f7, f8, f9, f10, f11, fits, w_succ hlt (show sub.length ≤ 281474976710656 by omega), w7, w8, w9, w9z]
              rw [hk1]
            · rw [hkk] at f10 hk1
              simp -implicitDefEqProofs -dsimp only [go_sem, ↓reduceIte, zE, zB, zA, zM, zS, zL, reduceCtorEq, f0, f3, f5, f6, f7, f8, f9, f10, f11, fits, he0, decide_true, i3.len, reTag_es e3, Int.natCast_nonneg, hkz]
              intros
              refine (hSa _).mono ?_
              rintro _ st3 ⟨rfl, rfl⟩
              simp -implicitDefEqProofs -dsimp only [go_sem, ↓reduceIte, zE, zB, zA, zM, zS, zL, reduceCtorEq, f0, f3, f5, f6, f7, f8, f9, f10, f11, fits]
              refine (hHa _).mono ?_
              rintro _ st3 ⟨rfl, rfl⟩
              simp -implicitDefEqProofs -dsimp only [go_sem, ↓reduceIte, zE, zB, zA, zM, zS, zL, reduceCtorEq, f0, f3, f5, f6, f7, f8, f9, f10, f11, fits]
              refine (hUa _).mono ?_
              rintro _ st3 ⟨rfl, rfl⟩
              simp -implicitDefEqProofs -dsimp only [go_sem, ↓reduceIte, zE, zB, zA, zM, zS, zL, reduceCtorEq, f0, f3, f5, f6, f7, f8, f9, f10, f11, fits, w_succ hlt (show sub.length ≤ 281474976710656 by omega), w7, w8, w9, w9z]
              rw [hk1]
        · rintro fr st1 _ ⟨f0, f3, f5, f6, f7, f8, f9, f10, f11, rfl, rfl⟩
          rw [List.take_length] at f7 f8 f9
          rw [tkn] at f10
          simp -implicitDefEqProofs -dsimp only [go_sem, ↓reduceIte, zE, zB, zA, zM, zS, zL, reduceCtorEq, f0, f3, f5, f6, f7, f8, f9, f10, f11, i3.len, nlt_i (Nat.lt_irrefl _), fits]
          intros
          refine (hSt _).mono ?_
          rintro _ st ⟨rfl, rfl⟩
          simp -implicitDefEqProofs -dsimp only [go_sem, ↓reduceIte, zE, zB, zA, zM, zS, zL, reduceCtorEq, f0, f3, f5, f6, f7, f8, f9, f10, f11, fits, decide_true, wH, he0, Bool.or_true, Bool.true_or]
          refine (hHt _).mono ?_
          rintro _ st ⟨rfl, rfl⟩
          simp -implicitDefEqProofs -dsimp only [go_sem, ↓reduceIte, zE, zB, zA, zM, zS, zL, reduceCtorEq, f0, f3, f5, f6, f7, f8, f9, f10, f11, fits, decide_true, wH, he0, Bool.or_true, Bool.true_or]
          refine (hCt _).mono ?_
          rintro _ st ⟨rfl, rfl⟩
          simp -implicitDefEqProofs -dsimp only [go_sem, ↓reduceIte, zE, zB, zA, zM, zS, zL, reduceCtorEq, f0, f3, f5, f6, f7, f8, f9, f10, f11, fits, decide_true, wH, he0, Bool.or_true, Bool.true_or]
          exact outK_self ⟨rfl, rfl⟩
end Go.Proofs.Tryz

namespace Go.Proofs.Tryz
open Go Go.Iv Go.ChangeShapes
open Go.Proofs.YtckafgnkmnichaaGreatDoor.Rows (uptoBulk uptoBulkAll)
set_option maxRecDepth 4000

theorem uSeq : prog.underlying 24 = some (.struct #[⟨ "Left", 22, 0, false, "", "", 0⟩, ⟨ "Right", 22, 1, false, "", "", 24⟩]) := by kernel_rfl
theorem uTree : prog.underlying 32 = some (.struct #[⟨ "Rule", 5, 0, false, "", "", 0⟩, ⟨ "Seq", 24, 1, false, "", "", 8⟩, ⟨ "Main", 27, 3, false, "", "", 56⟩, ⟨ "Term", 29, 7, false, "", "", 128⟩, ⟨ "Name", 9, 10, false, "", "", 176⟩, ⟨ "Sub", 30, 11, false, "", "", 192⟩]) := by kernel_rfl
theorem uTrees : prog.underlying 30 = some (.slice 32) := by kernel_rfl
theorem nSeq : prog.cellsOf 24 = 2 := by kernel_rfl
theorem nTree : prog.cellsOf 32 = 12 := by kernel_rfl
theorem nTrees : prog.cellsOf 30 = 1 := by kernel_rfl

mutual
theorem wTm_bulk : ∀ t : Tm, wTm t ≤ 2 * bulkT t
  | .mk _ n us => by have := wTms_bulk us; simp only [wTm, bulkT]; omega
theorem wTms_bulk : ∀ l : List Tm, wTms l ≤ 2 * bulkTs l
  | [] => Nat.le_refl _
  | a :: l => by have := wTm_bulk a; have := wTms_bulk l; simp only [wTms, bulkTs]; omega
end
mutual
theorem wFm_bulk : ∀ f : Fm, wFm f ≤ 2 * bulkF f
  | .mk _ n us sub => by have := wTms_bulk us; have := wFms_bulk sub; simp only [wFm, bulkF]; omega
theorem wFms_bulk : ∀ l : List Fm, wFms l ≤ 2 * bulkFs l
  | [] => Nat.le_refl _
  | a :: l => by have := wFm_bulk a; have := wFms_bulk l; simp only [wFms, bulkFs]; omega
end

section
variable {H : Type} {enc : TypeId × Value → H} {w : World} {spare : Nat → Bool} {held : Bool}
def RQ (d : DataW H) (s : Sq) (x : IV) : Prop := IsSq s x ∧ wFms s.l + wFms s.r ≤ 2 * uptoBulk d
theorem seq_of (fuel : Nat) (cs : List Value) (y : DataW H × List MemPlace) (h : DataW.trod enc prog w 0 spare held fuel 24 cs = some y) (hb : uptoBulk y.1 ≤ 1048576) : ∃ s x, VL 0 (L0 w) w cs x.cells ∧ RQ y.1 s x := by
  obtain ⟨ys, n, rfl, rfl, hl, hlen, hf⟩ := DataW.trod_struct uSeq h
  match ys, hlen with
  | [y0, y1], _ =>
    rw [nSeq] at hl
    match cs, hl with
    | [c0, c1], _ =>
      have h0 := hf 0 _ rfl
      have h1 := hf 1 _ rfl
      simp only [nForms, List.drop_zero, List.drop_succ_cons, List.take_succ_cons, List.take_zero, List.getElem?_cons_zero, List.getElem?_cons_succ] at h0 h1
      simp only [List.map_cons, List.map_nil, uptoBulk, uptoBulkAll] at hb
      obtain ⟨v0, tg0, xs0, l0, e0, hv0, ht0, hl0, hb0⟩ := forms_of h0 (by omega) (fun m _ => form_of m)
      obtain ⟨v1, tg1, xs1, l1, e1, hv1, ht1, hl1, hb1⟩ := forms_of h1 (by omega) (fun m _ => form_of m)
      cases e0; cases e1
      refine ⟨⟨l0, l1⟩, .agg [.sl tg0 xs0, .sl tg1 xs1], VL.cons hv0 (VL.cons hv1 VL.nil), ⟨tg0, xs0, tg1, xs1, rfl, ht0, hl0, ht1, hl1⟩, ?_⟩
      have := wFms_bulk l0
      have := wFms_bulk l1
      simp only [List.map_cons, List.map_nil, uptoBulk, uptoBulkAll]
      omega
theorem isTrs_get : ∀ {us : List Tr} {xs : List IV}, us.length = xs.length → (∀ (i : Nat) (a : Tr) (x : IV), us[i]? = some a → xs[i]? = some x → IsTr a x) → IsTrs us xs
  | [], xs, h, _ => by simpa [IsTrs] using h.symm
  | a :: us, [], h, _ => by simp at h
  | a :: us, x :: xs, h, hh => ⟨x, xs, rfl, hh 0 a x rfl rfl, isTrs_get (by simpa using h) (fun i b y hb hy => hh (i + 1) b y (by simpa using hb) (by simpa using hy))⟩
theorem wTrs_sum : ∀ {us : List Tr} {ds : List (DataW H)}, us.length = ds.length → (∀ (i : Nat) (a : Tr) (d : DataW H), us[i]? = some a → ds[i]? = some d → wTr a + a.steps ≤ 2 * uptoBulk d) → wTrs us + stepsTrs us ≤ 2 * uptoBulkAll ds
  | [], ds, h, _ => by simp [wTrs, stepsTrs]
  | a :: us, [], h, _ => by simp at h
  | a :: us, x :: xs, h, hh => by
    have h1 := hh 0 a x rfl rfl
    have h2 := wTrs_sum (us := us) (ds := xs) (by simpa using h) (fun i b y hb hy => hh (i + 1) b y (by simpa using hb) (by simpa using hy))
    simp only [wTrs, stepsTrs, uptoBulkAll]; omega
def RR (d : DataW H) (t : Tr) (x : IV) : Prop := IsTr t x ∧ wTr t + t.steps ≤ 2 * uptoBulk d
theorem RR.cells {d : DataW H} {t : Tr} {x : IV} (h : RR d t x) : x.cells.length = 12 := by
  obtain ⟨_, _, _, _, _, _, _, _, _, _, _, _, _, _, _, _, _, _, rfl⟩ := trAgg h.1; rfl
theorem trees_of {fuel : Nat} {cs : List Value} {y : DataW H × List MemPlace} (h : DataW.trod enc prog w 0 spare held fuel 30 cs = some y) (hb : uptoBulk y.1 ≤ 1048576)
    (IH : ∀ (n : Nat), n < fuel → ∀ (cs : List Value) (y : DataW H × List MemPlace), DataW.trod enc prog w 0 spare held n 32 cs = some y → uptoBulk y.1 ≤ 1048576 → ∃ t x, VL 0 (L0 w) w cs x.cells ∧ RR y.1 t x) :
    ∃ v tg xs ts, cs = [v] ∧ V 0 (L0 w) w v (.sl tg xs) ∧ okEs tg 12 ∧ IsTrs ts xs ∧ wTrs ts + stepsTrs ts + 1 ≤ 2 * uptoBulk y.1 := by
  obtain ⟨v, tg, xs, ts, rfl, hv, htg, hl, hc⟩ := open_sl (H := H) (P := prog) (d := y.1) (p := y.2) RR uTrees nTree (by decide) h (fun elems sp e => by
      have := slice_le elems sp; have := length_le elems; rw [← e] at *; omega) (fun d t x h => h.cells) (fun n hn cs' z q ⟨elems, sp, he, hm⟩ hz => by
      have := slice_le elems sp
      have := part_le hm
      rw [he] at hb
      exact IH n (by omega) cs' (z, q) hz (show uptoBulk z ≤ 1048576 by omega))
  refine ⟨v, tg, xs, ts, rfl, hv, htg, ?_⟩
  rcases hc with ⟨hd, rfl⟩ | ⟨elems, sp, hd, hel, hr⟩
  · obtain rfl : ts = [] := List.length_eq_zero_iff.1 (by simpa using hl)
    exact ⟨rfl, by rw [hd]; simp [wTrs, stepsTrs, uptoBulk]⟩
  · have hi : ∀ (i : Nat) (a : Tr), ts[i]? = some a → ∃ x d, xs[i]? = some x ∧ elems[i]? = some d ∧ RR d a x := fun i a ha => by
      have hi := (List.getElem?_eq_some_iff.1 ha).1
      exact ⟨_, _, List.getElem?_eq_getElem (by omega), List.getElem?_eq_getElem (by omega), hr i _ _ _ (List.getElem?_eq_getElem (by omega)) ha (List.getElem?_eq_getElem (by omega))⟩
    refine ⟨isTrs_get hl (fun i a x ha hx => ?_), ?_⟩
    · obtain ⟨x', d, h1, h2, h3⟩ := hi i a ha
      rw [hx] at h1; cases h1
      exact h3.1
    · have := wTrs_sum (us := ts) (ds := elems) (by omega) (fun i a d ha hd' => by
        obtain ⟨x', d', h1, h2, h3⟩ := hi i a ha
        rw [hd'] at h2; cases h2
        exact h3.2)
      have := slice_le elems sp
      rw [hd]
      omega
theorem cs12 {cs : List Value} (h : cs.length = 12) : ∃ a b c d e f g h i j k l, cs = [a, b, c, d, e, f, g, h, i, j, k, l] := by
  match cs, h with
  | [a, b, c, d, e, f, g, h, i, j, k, l], _ => exact ⟨a, b, c, d, e, f, g, h, i, j, k, l, rfl⟩
theorem tree_of : ∀ (fuel : Nat) (cs : List Value) (y : DataW H × List MemPlace), DataW.trod enc prog w 0 spare held fuel 32 cs = some y → uptoBulk y.1 ≤ 1048576 → ∃ t x, VL 0 (L0 w) w cs x.cells ∧ RR y.1 t x := by
  intro fuel
  induction fuel using Nat.strongRecOn with
  | ind fuel IH =>
    intro cs y h hb
    obtain ⟨ys, n, rfl, rfl, hl, hlen, hf⟩ := DataW.trod_struct uTree h
    match ys, hlen with
    | [y0, y1, y2, y3, y4, y5], _ =>
      rw [nTree] at hl
      obtain ⟨c0, c1, c2, c3, c4, c5, c6, c7, c8, c9, c10, c11, rfl⟩ := cs12 hl
      have h0 := hf 0 _ rfl
      have h1 := hf 1 _ rfl
      have h2 := hf 2 _ rfl
      have h3 := hf 3 _ rfl
      have h4 := hf 4 _ rfl
      have h5 := hf 5 _ rfl
      simp only [nU8, nString, nSeq, nForm, nTerm, nTrees, List.drop_zero, List.drop_succ_cons, List.take_succ_cons, List.take_zero, List.getElem?_cons_zero, List.getElem?_cons_succ] at h0 h1 h2 h3 h4 h5
      simp only [List.map_cons, List.map_nil, uptoBulk, uptoBulkAll] at hb
      obtain ⟨op, e0, rfl, hop⟩ := DataW.trod_int uU8 h0
      obtain ⟨s, xs, hvs, hs1, hs2⟩ := seq_of n _ _ h1 (by omega)
      obtain ⟨f, xf, hvf, hf1, hf2⟩ := form_of n _ _ h2 (by omega)
      obtain ⟨t, xt, hvt, ht1, ht2⟩ := term_of n _ _ h3 (by omega)
      obtain ⟨nm, e4, hn, hn2⟩ := str_of h4 (by omega)
      obtain ⟨v, tg, xb, ts, e5, hv, htg, hts, hbk⟩ := trees_of h5 (by omega) (fun m hm => IH m (by omega))
      cases e0; cases e4; cases e5
      have hop : 0 ≤ op ∧ op < 256 := by
        simp only [Lit.wf, IntKind.min, IntKind.max, IntKind.signed, IntKind.bits, Bool.and_eq_true, decide_eq_true_eq] at hop
        exact ⟨of_decide_eq_true hop.1, by have := of_decide_eq_true hop.2; simp at this; omega⟩
      obtain ⟨k, rfl⟩ := Int.eq_ofNat_of_zero_le hop.1
      obtain ⟨tl, xl, tr, xr, rfl, k1, k2, k3, k4⟩ := hs1
      have hf0 := hf1
      have ht0 := ht1
      obtain ⟨o, fn, us, sub⟩ := f
      obtain ⟨ta, xa, tb, xb', rfl, _⟩ := hf1.mk
      obtain ⟨b, un, uu⟩ := t
      obtain ⟨tu, xu, rfl, _⟩ := ht1.mk
      refine ⟨.mk k s (.mk o fn us sub) (.mk b un uu) nm ts, .agg [.raw (.int .u8 k), .sl tl xl, .sl tr xr, .raw (.int .u8 o), .raw (.string fn), .sl ta xa, .sl tb xb', .raw (.bool b), .raw (.string un), .sl tu xu, .raw (.string nm), .sl tg xb],
        VL.cons (.raw _ trivial) (hvs.append (hvf.append (hvt.append (VL.cons hn (VL.cons hv VL.nil))))), ?_, ?_⟩
      · simp only [IsTr]
        exact ⟨tl, xl, tr, xr, o, fn, ta, xa, tb, xb', b, un, tu, xu, tg, xb, rfl, by omega, k1, k2, k3, k4, hf0, ht0, htg, hts⟩
      · have := wFm_bulk (.mk o fn us sub)
        have := wTm_bulk (.mk b un uu)
        simp only [List.map_cons, List.map_nil, uptoBulk, uptoBulkAll, wTr, Tr.steps]
        omega
end
end Go.Proofs.Tryz
