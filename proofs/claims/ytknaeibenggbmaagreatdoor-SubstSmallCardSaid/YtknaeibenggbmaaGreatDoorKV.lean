/- Walks: OverTerms, Over: what is owned is overwritten.
   Walks: Over; what reads through owned cells can be overwritten. -/
import Derived.Test.YtknaeibenggbmaaGreatDoorKQ
set_option linter.all false
open Nat renaming reduceEqDiff → zE, reduceBEq → zB, reduceAdd → zA, reduceMul → zM, reduceSub → zS, reduceLeDiff → zL
attribute [local go_sem] Go.Iv.cf Go.Iv.setAt List.all_cons List.all_nil Bool.and_self Bool.true_and Bool.and_true Bool.false_and Bool.and_false Bool.not_true Bool.not_false List.mem_nil_iff if_false if_true beq_self_eq_true Nat.zero_add Nat.add_zero List.getElem?_cons_zero List.getElem?_cons_succ Option.map_some List.mem_cons or_false false_or or_true true_or Nat.sub_zero forall_const Int.toNat_natCast List.length_cons List.length_nil List.map_cons List.map_nil List.take_succ_cons List.take_zero List.drop_zero List.drop_succ_cons List.cons_append List.nil_append List.append_nil and_true true_and and_self true_implies List.zip_cons_cons List.zip_nil_left
namespace Go.Proofs.Tryz
open Go Go.Iv
set_option maxRecDepth 4000
variable (gl : Nat → Option IV)

def W0 (x : IV) : Prop := (∃ t, x = .sl t []) ∨ x = .raw (.slice none 0 0)
def WT : Nat → ISt → IV → Prop
  | 0, _, x => W0 x
  | d + 1, st, x => W0 x ∨ ∃ g n c cs, x = .raw (.slice (some ⟨g, 0, none⟩) n c) ∧ n ≤ 140737488355328 ∧ st g = some (.box cs) ∧ 3 * n ≤ cs.length ∧
      (0 < n → ∃ b, cs[0]? = some (.raw (.bool b))) ∧ ∀ i, i < n → ∃ y, cs[3 * i + 2]? = some y ∧ y.one = true ∧ y.def_ ∧ WT d st y
def WF : Nat → ISt → IV → Prop
  | 0, _, x => W0 x
  | d + 1, st, x => W0 x ∨ ∃ g n c cs, x = .raw (.slice (some ⟨g, 0, none⟩) n c) ∧ n ≤ 140737488355328 ∧ st g = some (.box cs) ∧ 4 * n ≤ cs.length ∧
      (0 < n → ∃ o, cs[0]? = some (.raw (.int .u8 o))) ∧ ∀ i, i < n → ∃ y z, cs[4 * i + 2]? = some y ∧ y.one = true ∧ y.def_ ∧ WT d st y ∧ cs[4 * i + 3]? = some z ∧ z.one = true ∧ z.def_ ∧ WF d st z
structure Ov (st st' : ISt) : Prop where
  dom : ∀ b, (∀ cs, st b ≠ some (.box cs)) → st' b = st b
  wt : ∀ d x, WT d st x → WT d st' x
  wf : ∀ d x, WF d st x → WF d st' x
theorem Ov.refl (st : ISt) : Ov st st := ⟨fun _ _ => rfl, fun _ _ h => h, fun _ _ h => h⟩
theorem Ov.trans {a b c : ISt} (h : Ov a b) (k : Ov b c) : Ov a c :=
  ⟨fun g hg => by
    have h1 := h.dom g hg
    rw [k.dom g (fun cs => by rw [h1]; exact hg cs), h1], fun d x hx => k.wt d x (h.wt d x hx), fun d x hx => k.wf d x (h.wf d x hx)⟩
theorem setAt_get {cs l : List IV} {off k : Nat} (h : off + l.length ≤ cs.length) : (setAt cs off l)[k]? = if off ≤ k ∧ k < off + l.length then l[k - off]? else cs[k]? := by
  unfold setAt
  have ht : (cs.take off).length = off := by rw [List.length_take]; omega
  by_cases h1 : k < off
  · rw [if_neg (by omega), List.append_assoc, List.getElem?_append_left (by omega), List.getElem?_take, if_pos h1]
  · by_cases h2 : k < off + l.length
    · rw [if_pos ⟨by omega, h2⟩, List.append_assoc, List.getElem?_append_right (by omega), ht, List.getElem?_append_left (by omega)]
    · rw [if_neg (by omega), List.getElem?_append_right (by rw [List.length_append, ht]; omega), List.length_append, ht, List.getElem?_drop]
      congr 1; omega
theorem setAt_len {cs l : List IV} {off : Nat} (h : off + l.length ≤ cs.length) : (setAt cs off l).length = cs.length := by
  unfold setAt
  simp only [List.length_append, List.length_take, List.length_drop]
  omega
theorem WT.mono : ∀ {d : Nat} {st : ISt} {x : IV}, WT d st x → WT (d + 1) st x
  | 0, st, x, h => .inl h
  | d + 1, st, x, h => by
    rcases h with h | ⟨g, n, c, cs, h1, h2, h3, h4, h5, h6⟩
    · exact .inl h
    · exact .inr ⟨g, n, c, cs, h1, h2, h3, h4, h5, fun i hi => by
        obtain ⟨y, k1, k2, k3, k4⟩ := h6 i hi
        exact ⟨y, k1, k2, k3, WT.mono k4⟩⟩
theorem WT.le {d e : Nat} {st : ISt} {x : IV} (h : WT d st x) (hde : d ≤ e) : WT e st x := by
  induction hde with
  | refl => exact h
  | step _ ih => exact ih.mono
theorem WF.mono : ∀ {d : Nat} {st : ISt} {x : IV}, WF d st x → WF (d + 1) st x
  | 0, st, x, h => .inl h
  | d + 1, st, x, h => by
    rcases h with h | ⟨g, n, c, cs, h1, h2, h3, h4, h5, h6⟩
    · exact .inl h
    · exact .inr ⟨g, n, c, cs, h1, h2, h3, h4, h5, fun i hi => by
        obtain ⟨y, z, k1, k2, k3, k4, k5, k6, k7, k8⟩ := h6 i hi
        exact ⟨y, z, k1, k2, k3, WT.mono k4, k5, k6, k7, WF.mono k8⟩⟩
theorem WF.le {d e : Nat} {st : ISt} {x : IV} (h : WF d st x) (hde : d ≤ e) : WF e st x := by
  induction hde with
  | refl => exact h
  | step _ ih => exact ih.mono
theorem WT.zero {d : Nat} {st : ISt} {x : IV} (h : W0 x) : WT d st x := by cases d <;> first | exact h | exact .inl h
theorem WF.zero {d : Nat} {st : ISt} {x : IV} (h : W0 x) : WF d st x := by cases d <;> first | exact h | exact .inl h

def dash : ByteArray := ⟨#[45]⟩
def tmO : List IV := [.raw (.bool false), .raw (.string dash), .sl ⟨true, .nil, 0⟩ []]
def fmO : List IV := [.raw (.int .u8 99), .raw (.string ⟨#[]⟩), .sl ⟨true, .nil, 0⟩ [], .sl ⟨true, .nil, 0⟩ []]
theorem ov_term_t {st : ISt} {g i : Nat} {cs : List IV} (hg : st g = some (.box cs)) (hle : i * 3 + 3 ≤ cs.length) : ∀ (d : Nat) (x : IV), WT d st x → WT d (st.put g (some (.box (setAt cs (i * 3) tmO)))) x
  | 0, _, h => h
  | d + 1, x, h => by
    rcases h with h | ⟨g', n, c, cs', rfl, h2, h3, h4, h5, h6⟩
    · exact .inl h
    · have hl : i * 3 + tmO.length ≤ cs.length := hle
      by_cases hgg : g' = g
      · subst hgg
        rw [hg] at h3; cases h3
        refine .inr ⟨g', n, c, _, rfl, h2, ISt.put_same _ _ _, by rw [setAt_len hl]; exact h4, fun hn => ?_, fun j hj => ?_⟩
        · rw [setAt_get hl]
          split
          · rename_i hk
            obtain rfl : i = 0 := by omega
            exact ⟨false, rfl⟩
          · exact h5 hn
        · obtain ⟨y, k1, k2, k3, k4⟩ := h6 j hj
          rw [setAt_get hl]
          split
          · rename_i hk
            have hk2 : i * 3 ≤ 3 * j + 2 ∧ 3 * j + 2 < i * 3 + 3 := hk
            obtain rfl : i = j := by omega
            refine ⟨.sl ⟨true, .nil, 0⟩ [], ?_, rfl, (fun h => by cases h), WT.zero (.inl ⟨_, rfl⟩)⟩
            rw [show 3 * i + 2 - i * 3 = 2 by omega]; rfl
          · exact ⟨y, k1, k2, k3, ov_term_t hg hle d y k4⟩
      · exact .inr ⟨g', n, c, cs', rfl, h2, by rw [put_ne hgg]; exact h3, h4, h5, fun j hj => by
          obtain ⟨y, k1, k2, k3, k4⟩ := h6 j hj
          exact ⟨y, k1, k2, k3, ov_term_t hg hle d y k4⟩⟩
theorem ov_term_f {st : ISt} {g i : Nat} {cs : List IV} (hg : st g = some (.box cs)) (hle : i * 3 + 3 ≤ cs.length) (hb : ∃ b, cs[0]? = some (.raw (.bool b))) : ∀ (d : Nat) (x : IV), WF d st x → WF d (st.put g (some (.box (setAt cs (i * 3) tmO)))) x
  | 0, _, h => h
  | d + 1, x, h => by
    rcases h with h | ⟨g', n, c, cs', rfl, h2, h3, h4, h5, h6⟩
    · exact .inl h
    · have hl : i * 3 + tmO.length ≤ cs.length := hle
      by_cases hgg : g' = g
      · subst hgg
        rw [hg] at h3; cases h3
        have hn : n = 0 := by
          refine Classical.byContradiction fun hn => ?_
          obtain ⟨b, hb⟩ := hb
          obtain ⟨o, ho⟩ := h5 (by omega)
          rw [hb] at ho; cases ho
        subst hn
        exact .inr ⟨g', 0, c, _, rfl, h2, ISt.put_same _ _ _, by omega, fun hn => by omega, fun j hj => by omega⟩
      · exact .inr ⟨g', n, c, cs', rfl, h2, by rw [put_ne hgg]; exact h3, h4, h5, fun j hj => by
          obtain ⟨y, z, k1, k2, k3, k4, k5, k6, k7, k8⟩ := h6 j hj
          exact ⟨y, z, k1, k2, k3, ov_term_t hg hle d y k4, k5, k6, k7, ov_term_f hg hle hb d z k8⟩⟩
theorem ov_form_t {st : ISt} {g i : Nat} {cs : List IV} (hg : st g = some (.box cs)) (hle : i * 4 + 4 ≤ cs.length) (hb : ∃ b, cs[0]? = some (.raw (.int .u8 b))) : ∀ (d : Nat) (x : IV), WT d st x → WT d (st.put g (some (.box (setAt cs (i * 4) fmO)))) x
  | 0, _, h => h
  | d + 1, x, h => by
    rcases h with h | ⟨g', n, c, cs', rfl, h2, h3, h4, h5, h6⟩
    · exact .inl h
    · by_cases hgg : g' = g
      · subst hgg
        rw [hg] at h3; cases h3
        have hn : n = 0 := by
          refine Classical.byContradiction fun hn => ?_
          obtain ⟨b, hb⟩ := hb
          obtain ⟨o, ho⟩ := h5 (by omega)
          rw [hb] at ho; cases ho
        subst hn
        exact .inr ⟨g', 0, c, _, rfl, h2, ISt.put_same _ _ _, by omega, fun hn => by omega, fun j hj => by omega⟩
      · exact .inr ⟨g', n, c, cs', rfl, h2, by rw [put_ne hgg]; exact h3, h4, h5, fun j hj => by
          obtain ⟨y, k1, k2, k3, k4⟩ := h6 j hj
          exact ⟨y, k1, k2, k3, ov_form_t hg hle hb d y k4⟩⟩
theorem ov_form_f {st : ISt} {g i : Nat} {cs : List IV} (hg : st g = some (.box cs)) (hle : i * 4 + 4 ≤ cs.length) (hb : ∃ b, cs[0]? = some (.raw (.int .u8 b))) : ∀ (d : Nat) (x : IV), WF d st x → WF d (st.put g (some (.box (setAt cs (i * 4) fmO)))) x
  | 0, _, h => h
  | d + 1, x, h => by
    rcases h with h | ⟨g', n, c, cs', rfl, h2, h3, h4, h5, h6⟩
    · exact .inl h
    · have hl : i * 4 + fmO.length ≤ cs.length := hle
      by_cases hgg : g' = g
      · subst hgg
        rw [hg] at h3; cases h3
        refine .inr ⟨g', n, c, _, rfl, h2, ISt.put_same _ _ _, by rw [setAt_len hl]; exact h4, fun hn => ?_, fun j hj => ?_⟩
        · rw [setAt_get hl]
          split
          · rename_i hk
            obtain rfl : i = 0 := by omega
            exact ⟨99, rfl⟩
          · exact h5 hn
        · obtain ⟨y, z, k1, k2, k3, k4, k5, k6, k7, k8⟩ := h6 j hj
          rw [setAt_get hl, setAt_get hl]
          have hl4 : fmO.length = 4 := rfl
          by_cases hij : i = j
          · subst hij
            rw [if_pos ⟨by omega, by omega⟩, if_pos ⟨by omega, by omega⟩, show 4 * i + 2 - i * 4 = 2 by omega, show 4 * i + 3 - i * 4 = 3 by omega]
            exact ⟨.sl ⟨true, .nil, 0⟩ [], .sl ⟨true, .nil, 0⟩ [], rfl, rfl, (fun h => by cases h), WT.zero (.inl ⟨_, rfl⟩), rfl, rfl, (fun h => by cases h), WF.zero (.inl ⟨_, rfl⟩)⟩
          · rw [if_neg (by omega), if_neg (by omega)]
            exact ⟨y, z, k1, k2, k3, ov_form_t hg hle hb d y k4, k5, k6, k7, ov_form_f hg hle hb d z k8⟩
      · exact .inr ⟨g', n, c, cs', rfl, h2, by rw [put_ne hgg]; exact h3, h4, h5, fun j hj => by
          obtain ⟨y, z, k1, k2, k3, k4, k5, k6, k7, k8⟩ := h6 j hj
          exact ⟨y, z, k1, k2, k3, ov_form_t hg hle hb d y k4, k5, k6, k7, ov_form_f hg hle hb d z k8⟩⟩
theorem ov_term {st : ISt} {g i : Nat} {cs : List IV} (hg : st g = some (.box cs)) (hle : i * 3 + 3 ≤ cs.length) (hb : ∃ b, cs[0]? = some (.raw (.bool b))) : Ov st (st.put g (some (.box (setAt cs (i * 3) tmO)))) :=
  ⟨fun b h => by rw [put_ne (fun e => h cs (by rw [e]; exact hg))], ov_term_t hg hle, ov_term_f hg hle hb⟩
theorem ov_form {st : ISt} {g i : Nat} {cs : List IV} (hg : st g = some (.box cs)) (hle : i * 4 + 4 ≤ cs.length) (hb : ∃ b, cs[0]? = some (.raw (.int .u8 b))) : Ov st (st.put g (some (.box (setAt cs (i * 4) fmO)))) :=
  ⟨fun b h => by rw [put_ne (fun e => h cs (by rw [e]; exact hg))], ov_form_t hg hle hb, ov_form_f hg hle hb⟩
theorem W0.raw {g n c : Nat} (h : W0 (.raw (.slice (some ⟨g, 0, none⟩) n c))) : False := by
  rcases h with ⟨t, h⟩ | h <;> cases h
theorem WT.raw {d : Nat} {st : ISt} {g n c : Nat} (h : WT d st (.raw (.slice (some ⟨g, 0, none⟩) n c))) : ∃ e cs, d = e + 1 ∧ n ≤ 140737488355328 ∧ st g = some (.box cs) ∧ 3 * n ≤ cs.length ∧
      (0 < n → ∃ b, cs[0]? = some (.raw (.bool b))) ∧ ∀ i, i < n → ∃ y, cs[3 * i + 2]? = some y ∧ y.one = true ∧ y.def_ ∧ WT e st y := by
  cases d with
  | zero => exact (W0.raw h).elim
  | succ e =>
    rcases h with h | ⟨g', n', c', cs, he, h2, h3, h4, h5, h6⟩
    · exact (W0.raw h).elim
    · cases he
      exact ⟨e, cs, rfl, h2, h3, h4, h5, h6⟩
theorem WF.raw {d : Nat} {st : ISt} {g n c : Nat} (h : WF d st (.raw (.slice (some ⟨g, 0, none⟩) n c))) : ∃ e cs, d = e + 1 ∧ n ≤ 140737488355328 ∧ st g = some (.box cs) ∧ 4 * n ≤ cs.length ∧
      (0 < n → ∃ o, cs[0]? = some (.raw (.int .u8 o))) ∧ ∀ i, i < n → ∃ y z, cs[4 * i + 2]? = some y ∧ y.one = true ∧ y.def_ ∧ WT e st y ∧ cs[4 * i + 3]? = some z ∧ z.one = true ∧ z.def_ ∧ WF e st z := by
  cases d with
  | zero => exact (W0.raw h).elim
  | succ e =>
    rcases h with h | ⟨g', n', c', cs, he, h2, h3, h4, h5, h6⟩
    · exact (W0.raw h).elim
    · cases he
      exact ⟨e, cs, rfl, h2, h3, h4, h5, h6⟩
theorem OverTerms_0 (t : Tag) (st : ISt) : ICall prog gl 45 [.sl t []] st (fun _ st' => Ov st st') := by
  refine ICall.intro (c := cf prog gl [] []) func45 rfl (by show _ ≤ 19; simp) (by kernel_rfl) ?_
  simp -implicitDefEqProofs -dsimp only [go_sem, ↓reduceIte, zE, zB, zA, zM, zS, zL, reduceCtorEq, fits]
  refine LoopC.ctr 0 (fun k fr st' ds => fr 0 = .iv (.sl t []) ∧ fr 2 = .iv (.raw (.int .i64 0)) ∧ st' = st ∧ ds = []) ?_ ?_ ?_
  · simp -implicitDefEqProofs -dsimp only [go_sem, ↓reduceIte, zE, zB, zA, zM, zS, zL, reduceCtorEq]
  · intro k _ _ _ h; omega
  · rintro fr st _ ⟨f0, f2, rfl, rfl⟩
    simp -implicitDefEqProofs -dsimp only [go_sem, ↓reduceIte, zE, zB, zA, zM, zS, zL, reduceCtorEq, f0, f2, nlt_i (Nat.lt_irrefl 0), show decide ((0 : Int) < ((0 : Nat) : Int)) = false from rfl]
    intros
    exact outK_self (Ov.refl _)
theorem OverTerms_w0 {x : IV} (h : W0 x) (st : ISt) : ICall prog gl 45 [x] st (fun _ st' => Ov st st') := by
  rcases h with ⟨t, rfl⟩ | rfl
  · exact OverTerms_0 gl t st
  · exact ICall.nil1 (OverTerms_0 gl _ st)
theorem OverTerms_c : ∀ (d : Nat) (x : IV) (st : ISt), WT d st x → ICall prog gl 45 [x] st (fun _ st' => Ov st st')
  | 0, x, st, h => OverTerms_w0 gl h st
  | d + 1, x, st, h => by
    rcases h with h | ⟨g, n, c, cs, rfl, hn, hg, hlen, hb, hi⟩
    · exact OverTerms_w0 gl h st
    have hw : WT (d + 1) st (.raw (.slice (some ⟨g, 0, none⟩) n c)) := .inr ⟨g, n, c, cs, rfl, hn, hg, hlen, hb, hi⟩
    clear hg hlen hb hi
    refine ICall.intro (c := cf prog gl [] []) func45 rfl (by show _ ≤ 19; simp) (by kernel_rfl) ?_
    simp -implicitDefEqProofs -dsimp only [go_sem, ↓reduceIte, zE, zB, zA, zM, zS, zL, reduceCtorEq, fits]
    refine LoopC.ctr n (fun k fr st' ds => fr 0 = .iv (.raw (.slice (some ⟨g, 0, none⟩) n c)) ∧ fr 2 = .iv (.raw (.int .i64 k)) ∧ Ov st st' ∧ ds = []) ?_ ?_ ?_
    · simp -implicitDefEqProofs -dsimp only [go_sem, ↓reduceIte, zE, zB, zA, zM, zS, zL, reduceCtorEq]
      exact ⟨rfl, Ov.refl _⟩
    · rintro k fr st1 _ hlt ⟨f0, f2, hov, rfl⟩
      obtain ⟨e, cs1, he, _, hg1, hl1, hb1, hi1⟩ := (hov.wt _ _ hw).raw
      obtain rfl : d = e := by omega
      obtain ⟨y, hy, hy1, hy2, hyw⟩ := hi1 k hlt
      have hy' : cs1[k * 3 + 2]? = some y := by rw [Nat.mul_comm]; exact hy
      have hcall := OverTerms_c d y st1 hyw
      simp -implicitDefEqProofs -dsimp only [go_sem, ↓reduceIte, zE, zB, zA, zM, zS, zL, reduceCtorEq, f0, f2, lt_i hlt, Int.natCast_nonneg, hlt, hg1, hy', ivOf_def hy2, fits]
      refine hcall.mono ?_
      rintro _ st2 hov2
      obtain ⟨e, cs2, he, _, hg2, hl2, hb2, _⟩ := ((hov.trans hov2).wt _ _ hw).raw
      have hle : k * 3 + 3 ≤ cs2.length := by omega
      simp -implicitDefEqProofs -dsimp only [go_sem, ↓reduceIte, zE, zB, zA, zM, zS, zL, reduceCtorEq, f0, f2, lt_i hlt, Int.natCast_nonneg, hlt, hg2, fits, bsize_mk, hle, w_succ hlt (show n ≤ 281474976710656 by omega)]
      exact (hov.trans hov2).trans (ov_term hg2 hle (hb2 (by omega)))
    · rintro fr st1 _ ⟨f0, f2, hov, rfl⟩
      simp -implicitDefEqProofs -dsimp only [go_sem, ↓reduceIte, zE, zB, zA, zM, zS, zL, reduceCtorEq, f0, f2, nlt_i (Nat.lt_irrefl _), fits]
      exact outK_self hov
end Go.Proofs.Tryz

namespace Go.Proofs.Tryz
open Go Go.Iv
set_option maxRecDepth 4000
variable (gl : Nat → Option IV)

theorem Over_0 (t : Tag) (st : ISt) : ICall prog gl 54 [.sl t []] st (fun _ st' => Ov st st') := by
  refine ICall.intro (c := cf prog gl [] []) func54 rfl (by show _ ≤ 25; simp) (by kernel_rfl) ?_
  simp -implicitDefEqProofs -dsimp only [go_sem, ↓reduceIte, zE, zB, zA, zM, zS, zL, reduceCtorEq, fits]
  refine LoopC.ctr 0 (fun k fr st' ds => fr 0 = .iv (.sl t []) ∧ fr 2 = .iv (.raw (.int .i64 0)) ∧ st' = st ∧ ds = []) ?_ ?_ ?_
  · simp -implicitDefEqProofs -dsimp only [go_sem, ↓reduceIte, zE, zB, zA, zM, zS, zL, reduceCtorEq]
  · intro k _ _ _ h; omega
  · rintro fr st _ ⟨f0, f2, rfl, rfl⟩
    simp -implicitDefEqProofs -dsimp only [go_sem, ↓reduceIte, zE, zB, zA, zM, zS, zL, reduceCtorEq, f0, f2, nlt_i (Nat.lt_irrefl 0), show decide ((0 : Int) < ((0 : Nat) : Int)) = false from rfl]
    intros
    exact outK_self (Ov.refl _)
theorem Over_w0 {x : IV} (h : W0 x) (st : ISt) : ICall prog gl 54 [x] st (fun _ st' => Ov st st') := by
  rcases h with ⟨t, rfl⟩ | rfl
  · exact Over_0 gl t st
  · exact ICall.nil1 (Over_0 gl _ st)
theorem Over_c : ∀ (d : Nat) (x : IV) (st : ISt), WF d st x → ICall prog gl 54 [x] st (fun _ st' => Ov st st')
  | 0, x, st, h => Over_w0 gl h st
  | d + 1, x, st, h => by
    rcases h with h | ⟨g, n, c, cs, rfl, hn, hg, hlen, hb, hi⟩
    · exact Over_w0 gl h st
    have hw : WF (d + 1) st (.raw (.slice (some ⟨g, 0, none⟩) n c)) := .inr ⟨g, n, c, cs, rfl, hn, hg, hlen, hb, hi⟩
    clear hg hlen hb hi
    refine ICall.intro (c := cf prog gl [] []) func54 rfl (by show _ ≤ 25; simp) (by kernel_rfl) ?_
    simp -implicitDefEqProofs -dsimp only [go_sem, ↓reduceIte, zE, zB, zA, zM, zS, zL, reduceCtorEq, fits]
    refine LoopC.ctr n (fun k fr st' ds => fr 0 = .iv (.raw (.slice (some ⟨g, 0, none⟩) n c)) ∧ fr 2 = .iv (.raw (.int .i64 k)) ∧ Ov st st' ∧ ds = []) ?_ ?_ ?_
    · simp -implicitDefEqProofs -dsimp only [go_sem, ↓reduceIte, zE, zB, zA, zM, zS, zL, reduceCtorEq]
      exact ⟨rfl, Ov.refl _⟩
    · rintro k fr st1 _ hlt ⟨f0, f2, hov, rfl⟩
      obtain ⟨e, cs1, he, _, hg1, hl1, hb1, hi1⟩ := (hov.wf _ _ hw).raw
      obtain rfl : d = e := by omega
      obtain ⟨y, _, hy, hy1, hy2, hyw, _⟩ := hi1 k hlt
      have hy' : cs1[k * 4 + 2]? = some y := by rw [Nat.mul_comm]; exact hy
      have hcall := OverTerms_c gl d y st1 hyw
      simp -implicitDefEqProofs -dsimp only [go_sem, ↓reduceIte, zE, zB, zA, zM, zS, zL, reduceCtorEq, f0, f2, lt_i hlt, Int.natCast_nonneg, hlt, hg1, hy', ivOf_def hy2, fits]
      refine hcall.mono ?_
      rintro _ st2 hov2
      obtain ⟨e, cs2, he, _, hg2, hl2, hb2, hi2⟩ := ((hov.trans hov2).wf _ _ hw).raw
      obtain rfl : d = e := by omega
      obtain ⟨_, z, _, _, _, _, hz, hz1, hz2, hzw⟩ := hi2 k hlt
      have hz' : cs2[k * 4 + 3]? = some z := by rw [Nat.mul_comm]; exact hz
      have hcall2 := Over_c d z st2 hzw
      simp -implicitDefEqProofs -dsimp only [go_sem, ↓reduceIte, zE, zB, zA, zM, zS, zL, reduceCtorEq, f0, f2, lt_i hlt, Int.natCast_nonneg, hlt, hg2, hz', ivOf_def hz2, fits]
      refine hcall2.mono ?_
      rintro _ st3 hov3
      have h13 := (hov.trans hov2).trans hov3
      obtain ⟨e, cs3, he, _, hg3, hl3, hb3, _⟩ := (h13.wf _ _ hw).raw
      have hle : k * 4 + 4 ≤ cs3.length := by omega
      simp -implicitDefEqProofs -dsimp only [go_sem, ↓reduceIte, zE, zB, zA, zM, zS, zL, reduceCtorEq, f0, f2, lt_i hlt, Int.natCast_nonneg, hlt, hg3, fits, bsize_mk, hle, w_succ hlt (show n ≤ 281474976710656 by omega)]
      exact h13.trans (ov_form hg3 hle (hb3 (by omega)))
    · rintro fr st1 _ ⟨f0, f2, hov, rfl⟩
      simp -implicitDefEqProofs -dsimp only [go_sem, ↓reduceIte, zE, zB, zA, zM, zS, zL, reduceCtorEq, f0, f2, nlt_i (Nat.lt_irrefl _), fits]
      exact outK_self hov

/-! ### What reads through owned cells can be overwritten -/

theorem _root_.Go.Iv.OI.raw_eq {st : ISt} {y : IV} {v : Value} (h : OI st y (.raw v)) : y = .raw v := by cases h; rfl
theorem flat_get {s : Nat} {xs : List IV} (hs : ∀ x ∈ xs, x.cells.length = s) {i j : Nat} {x : IV} (hx : xs[i]? = some x) (hj : j < s) : (xs.flatMap IV.cells)[s * i + j]? = x.cells[j]? := by
  have h1 : (xs.flatMap IV.cells)[s * i + j]? = ((xs.flatMap IV.cells).drop (i * s))[j]? := by rw [List.getElem?_drop, Nat.mul_comm]
  rw [h1, ← flat_drop xs i hs]
  have hlt := (List.getElem?_eq_some_iff.1 hx).1
  rw [List.drop_eq_getElem_cons hlt, (List.getElem?_eq_some_iff.1 hx).2, List.flatMap_cons, List.getElem?_append_left]
  rw [hs x (List.mem_of_getElem? hx)]; exact hj
theorem bound_all {P : Nat → Nat → Prop} (hm : ∀ d i, P d i → P (d + 1) i) : ∀ n, (∀ i, i < n → ∃ d, P d i) → ∃ d, ∀ i, i < n → P d i
  | 0, _ => ⟨0, fun i hi => by omega⟩
  | n + 1, h => by
    obtain ⟨d, hd⟩ := bound_all hm n fun i hi => h i (by omega)
    obtain ⟨e, he⟩ := h n (by omega)
    have up : ∀ i k a, P a i → P (a + k) i := fun i k a ha => by
      induction k with
      | zero => exact ha
      | succ k ih => exact hm _ _ ih
    refine ⟨d + e, fun i hi => ?_⟩
    by_cases hin : i < n
    · exact up i e d (hd i hin)
    · obtain rfl : i = n := by omega
      rw [Nat.add_comm]; exact up i d e he
theorem okEs_app {t : Tag} {g s : Nat} (h : okEs t s) (hc : t.cap = .app g) : t.es = s := h.resolve_left (by rw [hc]; intro h; cases h)


theorem _root_.Go.Iv.IsTms.mem {us : List Tm} {xs : List IV} (h : IsTms us xs) {i : Nat} {x : IV} (hx : xs[i]? = some x) : ∃ a, us[i]? = some a ∧ IsTm a x := by
  have hi := (List.getElem?_eq_some_iff.1 hx).1
  rw [h.len] at hi
  obtain ⟨a, ha⟩ := get_of_lt hi
  obtain ⟨y, hy, hay⟩ := h.get ha
  rw [hx] at hy; cases hy
  exact ⟨a, ha, hay⟩
theorem _root_.Go.Iv.IsFms.mem {us : List Fm} {xs : List IV} (h : IsFms us xs) {i : Nat} {x : IV} (hx : xs[i]? = some x) : ∃ a, us[i]? = some a ∧ IsFm a x := by
  have hi := (List.getElem?_eq_some_iff.1 hx).1
  rw [h.len] at hi
  obtain ⟨a, ha⟩ := get_of_lt hi
  obtain ⟨y, hy, hay⟩ := h.get ha
  rw [hx] at hy; cases hy
  exact ⟨a, ha, hay⟩
theorem rawC_sl {st : ISt} {r : IV} {t : Tag} {xs : List IV} (h : rawC r) (ho : OI st r (.sl t xs)) : ∃ v, r = .raw v := by
  rcases h with h | rfl
  · exact h
  · cases ho
theorem wt_of {st : ISt} (hraw : rawSt st) : ∀ (k : Nat) (us : List Tm), SizeOf.sizeOf us < k → ∀ (y : IV) (t : Tag) (xs : List IV), (∃ v, y = .raw v) → OI st y (.sl t xs) → okEs t 3 → IsTms us xs → ∃ d, WT d st y
  | 0, _, h => by omega
  | k + 1, us, hk => by
    rintro y t xs ⟨v, rfl⟩ ho hes hxs
    cases ho with
    | nil _ h => exact ⟨0, .inr rfl⟩
    | sl g cap _ _ cs hcap hlen hcl hs hst hroom h =>
      have h3 := okEs_app hes hcap
      rw [h3] at hroom
      have hs3 : ∀ x ∈ xs, x.cells.length = 3 := fun x hx => by rw [hs x hx, h3]
      have hle : 3 * xs.length ≤ cs.length := by omega
      have part : ∀ i, i < xs.length → ∃ r0 r2 v n us' t' xs', cs[3 * i]? = some r0 ∧ cs[3 * i + 2]? = some r2 ∧ Tm.mk v n us' ∈ us ∧ r0 = .raw (.bool v) ∧ OI st r2 (.sl t' xs') ∧ okEs t' 3 ∧ IsTms us' xs' := fun i hi => by
        obtain ⟨x, hx⟩ := get_of_lt hi
        obtain ⟨⟨v, n, us'⟩, ha, hax⟩ := hxs.mem hx
        obtain ⟨t', xs', rfl, ht', hxs'⟩ := hax.mk
        obtain ⟨r0, hr0⟩ := get_of_lt (show 3 * i < cs.length by omega)
        obtain ⟨r2, hr2⟩ := get_of_lt (show 3 * i + 2 < cs.length by omega)
        have e0 := flat_get hs3 hx (show 0 < 3 by omega)
        have e2 := flat_get hs3 hx (show 2 < 3 by omega)
        exact ⟨r0, r2, v, n, us', t', xs', hr0, hr2, List.mem_of_getElem? ha, (h _ _ _ hr0 e0).raw_eq, h _ _ _ hr2 e2, ht', hxs'⟩
      have each : ∀ i, i < xs.length → ∃ d, ∃ y, cs[3 * i + 2]? = some y ∧ y.one = true ∧ y.def_ ∧ WT d st y := fun i hi => by
        obtain ⟨r0, r2, v, n, us', t', xs', _, k2, k3, _, k5, k6, k7⟩ := part i hi
        obtain ⟨w, hw⟩ := rawC_sl (hraw _ _ hst r2 (List.mem_of_getElem? k2)) k5
        obtain ⟨d, hd⟩ := wt_of hraw k us' (by have := List.sizeOf_lt_of_mem k3; simp at this; omega) _ _ _ ⟨w, hw⟩ k5 k6 k7
        subst hw
        refine ⟨d, _, k2, ?_, (fun h => by cases h), hd⟩
        cases k5 <;> rfl
      obtain ⟨d, hd⟩ := bound_all (P := fun d i => ∃ y, cs[3 * i + 2]? = some y ∧ y.one = true ∧ y.def_ ∧ WT d st y) (fun d i ⟨y, a, b, c, e⟩ => ⟨y, a, b, c, e.mono⟩) _ each
      refine ⟨d + 1, .inr ⟨g, xs.length, cap, cs, rfl, hlen, hst, hle, fun h0 => ?_, hd⟩⟩
      obtain ⟨r0, r2, v, n, us', t', xs', k1, _, _, k4, _⟩ := part 0 h0
      exact ⟨v, by rw [← k4]; exact k1⟩
theorem wf_of {st : ISt} (hraw : rawSt st) : ∀ (k : Nat) (us : List Fm), SizeOf.sizeOf us < k → ∀ (y : IV) (t : Tag) (xs : List IV), (∃ v, y = .raw v) → OI st y (.sl t xs) → okEs t 4 → IsFms us xs → ∃ d, WF d st y
  | 0, _, h => by omega
  | k + 1, us, hk => by
    rintro y t xs ⟨v, rfl⟩ ho hes hxs
    cases ho with
    | nil _ h => exact ⟨0, .inr rfl⟩
    | sl g cap _ _ cs hcap hlen hcl hs hst hroom h =>
      have h3 := okEs_app hes hcap
      rw [h3] at hroom
      have hs3 : ∀ x ∈ xs, x.cells.length = 4 := fun x hx => by rw [hs x hx, h3]
      have hle : 4 * xs.length ≤ cs.length := by omega
      have part : ∀ i, i < xs.length → ∃ r0 r2 r3 op n us' sub' t' xs' t'' xs'', cs[4 * i]? = some r0 ∧ cs[4 * i + 2]? = some r2 ∧ cs[4 * i + 3]? = some r3 ∧ Fm.mk op n us' sub' ∈ us ∧ r0 = .raw (.int .u8 op) ∧ OI st r2 (.sl t' xs') ∧ okEs t' 3 ∧ IsTms us' xs' ∧
          OI st r3 (.sl t'' xs'') ∧ okEs t'' 4 ∧ IsFms sub' xs'' := fun i hi => by
        obtain ⟨x, hx⟩ := get_of_lt hi
        obtain ⟨⟨op, n, us', sub'⟩, ha, hax⟩ := hxs.mem hx
        obtain ⟨t', xs', t'', xs'', rfl, _, ht', hxs', ht'', hxs''⟩ := hax.mk
        obtain ⟨r0, hr0⟩ := get_of_lt (show 4 * i < cs.length by omega)
        obtain ⟨r2, hr2⟩ := get_of_lt (show 4 * i + 2 < cs.length by omega)
        obtain ⟨r3, hr3⟩ := get_of_lt (show 4 * i + 3 < cs.length by omega)
        have e0 := flat_get hs3 hx (show 0 < 4 by omega)
        have e2 := flat_get hs3 hx (show 2 < 4 by omega)
        have e3 := flat_get hs3 hx (show 3 < 4 by omega)
        exact ⟨r0, r2, r3, op, n, us', sub', t', xs', t'', xs'', hr0, hr2, hr3, List.mem_of_getElem? ha, (h _ _ _ hr0 e0).raw_eq, h _ _ _ hr2 e2, ht', hxs', h _ _ _ hr3 e3, ht'', hxs''⟩
      have each : ∀ i, i < xs.length → ∃ d, ∃ y z, cs[4 * i + 2]? = some y ∧ y.one = true ∧ y.def_ ∧ WT d st y ∧ cs[4 * i + 3]? = some z ∧ z.one = true ∧ z.def_ ∧ WF d st z := fun i hi => by
        obtain ⟨r0, r2, r3, op, n, us', sub', t', xs', t'', xs'', _, k2, k3, k4, _, k5, k6, k7, k8, k9, k10⟩ := part i hi
        obtain ⟨w, hw⟩ := rawC_sl (hraw _ _ hst r2 (List.mem_of_getElem? k2)) k5
        obtain ⟨w', hw'⟩ := rawC_sl (hraw _ _ hst r3 (List.mem_of_getElem? k3)) k8
        obtain ⟨d, hd⟩ := wt_of hraw _ us' (Nat.lt_succ_self _) _ _ _ ⟨w, hw⟩ k5 k6 k7
        obtain ⟨e, he⟩ := wf_of hraw k sub' (by have := List.sizeOf_lt_of_mem k4; simp at this; omega) _ _ _ ⟨w', hw'⟩ k8 k9 k10
        subst hw hw'
        refine ⟨d + e, _, _, k2, ?_, (fun h => by cases h), hd.le (by omega), k3, ?_, (fun h => by cases h), he.le (by omega)⟩
        · cases k5 <;> rfl
        · cases k8 <;> rfl
      obtain ⟨d, hd⟩ := bound_all (P := fun d i => ∃ y z, cs[4 * i + 2]? = some y ∧ y.one = true ∧ y.def_ ∧ WT d st y ∧ cs[4 * i + 3]? = some z ∧ z.one = true ∧ z.def_ ∧ WF d st z)
        (fun d i ⟨y, z, a, b, c, e, a', b', c', e'⟩ => ⟨y, z, a, b, c, e.mono, a', b', c', e'.mono⟩) _ each
      refine ⟨d + 1, .inr ⟨g, xs.length, cap, cs, rfl, hlen, hst, hle, fun h0 => ?_, hd⟩⟩
      obtain ⟨r0, r2, r3, op, n, us', sub', t', xs', t'', xs'', k1, _, _, _, k4, _⟩ := part 0 h0
      exact ⟨_, by rw [← k4]; exact k1⟩
theorem own_form {st : ISt} (hraw : rawSt st) {f : Fm} {y x : IV} (hx : IsFm f x) (ho : OI st y x) (hy : rawY y) : ∃ op n a b d e, y = .agg [.raw (.int .u8 op), .raw (.string n), .raw a, .raw b] ∧ IV.one (.raw a) = true ∧ IV.one (.raw b) = true ∧ WT d st (.raw a) ∧ WF e st (.raw b) := by
  obtain ⟨op, n, us, sub⟩ := f
  obtain ⟨t, xs, t', ys, rfl, _, ht, hxs, ht', hys⟩ := hx.mk
  cases ho with
  | refl => simp only [rawY, rawYs] at hy; exact hy.2.2.1.elim
  | agg rs _ hl h =>
    simp only [rawY] at hy
    match rs, hl with
    | [r0, r1, r2, r3], _ =>
      have e0 := (h 0 _ _ rfl rfl).raw_eq
      have e1 := (h 1 _ _ rfl rfl).raw_eq
      have e2 := h 2 _ _ rfl rfl
      have e3 := h 3 _ _ rfl rfl
      subst e0 e1
      have y2 := rawYs_mem hy (show r2 ∈ [_, _, r2, r3] by simp)
      have y3 := rawYs_mem hy (show r3 ∈ [_, _, r2, r3] by simp)
      have q2 : ∃ v, r2 = .raw v := by cases e2 with | refl => exact y2.elim | nil => exact ⟨_, rfl⟩ | sl => exact ⟨_, rfl⟩
      have q3 : ∃ v, r3 = .raw v := by cases e3 with | refl => exact y3.elim | nil => exact ⟨_, rfl⟩ | sl => exact ⟨_, rfl⟩
      obtain ⟨d, hd⟩ := wt_of hraw _ us (Nat.lt_succ_self _) _ _ _ q2 e2 ht hxs
      obtain ⟨e, he⟩ := wf_of hraw _ sub (Nat.lt_succ_self _) _ _ _ q3 e3 ht' hys
      have o2 : r2.one = true := by cases e2 with | refl => exact y2.elim | nil => rfl | sl => rfl
      have o3 : r3.one = true := by cases e3 with | refl => exact y3.elim | nil => rfl | sl => rfl
      obtain ⟨a, rfl⟩ := q2
      obtain ⟨b, rfl⟩ := q3
      exact ⟨_, _, a, b, d, e, rfl, o2, o3, hd, he⟩
end Go.Proofs.Tryz
