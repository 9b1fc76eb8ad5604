/- Of small trees: what the check is shown for.
   What the check is shown for, node by node; how long a set is.
   The plain law of SequentWider: a formula more, and no formulas at all.
   The plain law of SequentWrong: one defect in the last step.
   Parts of formulas of a calculus are formulas of it (for SequentBacks).
   The rules' rows, one by one.
   The plain law of SequentPuts: a formula put for an atom everywhere. -/
import Derived.Test.YtckafgnkmnichaaGreatDoorQH
import Derived.Test.YtckafgnkmnichaaGreatDoorKG
set_option linter.all false
namespace Go.Proofs.Tryz
open Go Go.Iv

mutual
theorem size_wTm:∀ t:Tm,t.size ≤ wTm t
  | .mk _ n us => by have:=size_wTms us; simp only [wTm,Tm.size]; omega
theorem size_wTms:∀ l:List Tm,sizeTms l ≤ wTms l
  | [] => Nat.le_refl _
  | a :: l => by have:=size_wTm a; have:=size_wTms l; simp only [wTms,sizeTms]; omega
end
mutual
theorem size_wFm:∀ f:Fm,f.size ≤ wFm f
  | .mk _ n us sub => by have:=size_wTms us; have:=size_wFms sub; simp only [wFm,Fm.size]; omega
theorem size_wFms:∀ l:List Fm,sizeFms l ≤ wFms l
  | [] => Nat.le_refl _
  | a :: l => by have:=size_wFm a; have:=size_wFms l; simp only [wFms,sizeFms]; omega
end
theorem nodeB_true {s:Sq} {f:Fm} {u:Tm} {n:ByteArray} (h:nodeB s f u n = true):wFms s.l + wFms s.r ≤ 300 ∧ wFm f ≤ 300 ∧ wTm u ≤ 300 ∧ n.size ≤ 100:=by
  unfold nodeB at h
  simp only [Bool.and_eq_true,decide_eq_true_eq,Bool.not_eq_true',decide_eq_false_iff_not] at h
  omega
theorem fitSq_of {s:Sq} (h:wFms s.l + wFms s.r ≤ 300):fitSq s:=by
  have:=size_wFms s.l
  have:=size_wFms s.r
  exact ⟨fun f hf => by have:=sizeFmsMem hf; omega,fun f hf => by have:=sizeFmsMem hf; omega⟩
theorem okTs_mem:∀ {l:List Tr} {a:Tr},okTs l = true → a ∈ l → okT a = true
  | b :: l,a,h,ha => by
    simp only [okTs,Bool.and_eq_true] at h
    rcases List.mem_cons.1 ha with rfl | ha
    · exact h.1
    · exact okTs_mem h.2 ha
theorem okT_node:∀ {t:Tr},okT t = true → nodeOk t
  | .mk rule s m u n sub,h => by
    simp only [okT,Bool.and_eq_true] at h
    obtain ⟨h1,h2,h3,_⟩:=nodeB_true h.1
    have:=size_wFm m
    have:=size_wTm u
    refine ⟨fitSq_of h1,by omega,by omega,fun a ha => ?_⟩
    have:=okTs_mem h.2 ha
    obtain ⟨rule',s',m',u',n',sub'⟩:=a
    simp only [okT,Bool.and_eq_true] at this
    exact fitSq_of (nodeB_true this.1).1
end Go.Proofs.Tryz

namespace Go.Proofs.Tryz
open Go Go.Iv

mutual
def NA:Tr → Prop
  | .mk _ s m u _ sub => fitSq s ∧ m.size ≤ 1000000 ∧ u.size ≤ 1000000 ∧ NAs sub
def NAs:List Tr → Prop
  | [] => True
  | a :: l => NA a ∧ NAs l
end
theorem NA_sq:∀ {t:Tr},NA t → fitSq t.sq
  | .mk _ _ _ _ _ _,h => by simp only [NA] at h; exact h.1
theorem NAs_mem:∀ {l:List Tr} {a:Tr},NAs l → a ∈ l → NA a
  | b :: l,a,h,ha => by
    simp only [NAs] at h
    rcases List.mem_cons.1 ha with rfl | ha
    · exact h.1
    · exact NAs_mem h.2 ha
theorem NA_node:∀ {t:Tr},NA t → nodeOk t
  | .mk _ _ _ _ _ _,h => by
    simp only [NA] at h
    exact ⟨h.1,h.2.1,h.2.2.1,fun a ha => NA_sq (NAs_mem h.2.2.2 ha)⟩
mutual
theorem NA_walk:∀ (p:List Nat) (t:Tr),NA t → ∀ q ∈ t.walk p,NA q.2
  | p,.mk rule s m u n sub,h,q,hq => by
    simp only [Tr.walk,List.mem_cons] at hq
    rcases hq with rfl | hq
    · exact h
    · simp only [NA] at h
      exact NAs_walk p 0 sub h.2.2.2 q hq
theorem NAs_walk:∀ (p:List Nat) (i:Nat) (l:List Tr),NAs l → ∀ q ∈ walkTrs p i l,NA q.2
  | _,_,[],_,q,hq => by cases hq
  | p,i,a :: l,h,q,hq => by
    simp only [NAs] at h
    simp only [walkTrs,List.mem_append] at hq
    rcases hq with hq | hq
    · exact NA_walk _ a h.1 q hq
    · exact NAs_walk p (i + 1) l h.2 q hq
end
theorem NA_fit {t:Tr} (h:NA t) (hs:t.steps ≤ 1099511627776):fitTr t:=⟨fun q hq => NA_node (NA_walk [] t h q hq),Nat.le_trans t.height_le_steps hs⟩
mutual
theorem okT_NA:∀ {t:Tr},okT t = true → NA t
  | .mk _ s m u n sub,h => by
    have hn:=okT_node h
    simp only [okT,Bool.and_eq_true] at h
    exact ⟨hn.1,hn.2.1,hn.2.2.1,okTs_NAs h.2⟩
theorem okTs_NAs:∀ {l:List Tr},okTs l = true → NAs l
  | [],_ => trivial
  | a :: l,h => by
    simp only [okTs,Bool.and_eq_true] at h
    exact ⟨okT_NA h.1,okTs_NAs h.2⟩
end
end Go.Proofs.Tryz

namespace Go.Proofs.Tryz
open Go Go.Iv

theorem stepS_of {ca:Nat} {s:Sq} {rule:Nat} {main:Fm} {term:Tm} {name:ByteArray} {r:Rw} (h1:validB ca s = true) (h2:rowS ca rule = some r) (h3:(addsS ca rule r main term name).2 = 0)
    (h4:r.left = true → hasF s.l main = true) (h5:r.right = true → hasF s.r main = true) (h6:r.asks = 2 → freeIn s name = false):stepS ca s rule main term name = ((addsS ca rule r main term name).1,0):=by
  unfold stepS
  have e1:(r.left && !hasF s.l main) = false:=by
    cases hl:r.left
    · rfl
    · rw [h4 hl]; rfl
  have e2:(r.right && !hasF s.r main) = false:=by
    cases hl:r.right
    · rfl
    · rw [h5 hl]; rfl
  have e3:(decide (r.asks = 2) && freeIn s name) = false:=by
    by_cases hl:r.asks = 2
    · rw [h6 hl]; simp
    · simp [hl]
  simp only [h1,h2,h3,e1,e2,e3,Bool.not_true,Bool.false_eq_true,if_false,Bool.or_false,decide_eq_true_eq,ne_eq,not_true_eq_false]
  rw [if_neg (by decide)]
theorem stepS_zero {ca:Nat} {s:Sq} {rule:Nat} {main:Fm} {term:Tm} {name:ByteArray} (h:(stepS ca s rule main term name).2 = 0) :
    ∃ r,validB ca s = true ∧ rowS ca rule = some r ∧ (addsS ca rule r main term name).2 = 0 ∧ (r.left = true → hasF s.l main = true) ∧ (r.right = true → hasF s.r main = true) ∧ (r.asks = 2 → freeIn s name = false) ∧
      stepS ca s rule main term name = ((addsS ca rule r main term name).1,0):=by
  have hv:=stepS_valid h
  cases hr:rowS ca rule with
  | none => unfold stepS at h; rw [hv,hr] at h; simp at h
  | some r =>
    have key:(addsS ca rule r main term name).2 = 0 ∧ (r.left && !hasF s.l main) = false ∧ (r.right && !hasF s.r main) = false ∧ (decide (r.asks = 2) && freeIn s name) = false:=by
      unfold stepS at h
      rw [hv,hr] at h
      simp only [Bool.not_true,Bool.false_eq_true,if_false] at h
      split at h
      · simp at h
      · rename_i h1
        simp only [Bool.or_eq_true,not_or,Bool.not_eq_true] at h1
        split at h
        · rename_i h2; exact absurd h h2
        · rename_i h2
          split at h
          · simp at h
          · rename_i h3
            exact ⟨Decidable.not_not.1 h2,h1.1.2,h1.2,by simpa using h3⟩
    obtain ⟨k1,k2,k3,k4⟩:=key
    have q4:r.left = true → hasF s.l main = true:=fun hl => by rw [hl] at k2; simpa using k2
    have q5:r.right = true → hasF s.r main = true:=fun hl => by rw [hl] at k3; simpa using k3
    have q6:r.asks = 2 → freeIn s name = false:=fun hl => by rw [hl] at k4; simpa using k4
    exact ⟨r,hv,rfl,k1,q4,q5,q6,stepS_of hv hr k1 q4 q5 q6⟩
theorem CheckS_unfold {ca:Nat} {t:Tr} (hk:knownB ca = true) (hs:t.steps ≤ 300):CheckS ca t = firstBad (checkS ca) (t.walk []):=by
  unfold CheckS
  rw [hk]
  simp only [Bool.not_true,Bool.false_eq_true,if_false]
  rw [if_neg (by omega)]
theorem CheckS_zero {ca rule:Nat} {s:Sq} {f:Fm} {u:Tm} {n:ByteArray} {sub:List Tr} (h:(CheckS ca (.mk rule s f u n sub)).2 = 0) :
    knownB ca = true ∧ (Tr.mk rule s f u n sub).steps ≤ 300 ∧ checkS ca (.mk rule s f u n sub) = 0 ∧ (firstSub (checkS ca) 0 sub).2 = 0:=by
  cases hk:knownB ca
  · rw [CheckS_arg_place ca _ hk] at h; simp at h
  · by_cases hs:(Tr.mk rule s f u n sub).steps ≤ 300
    · rw [CheckS_unfold hk hs,firstBad_tree] at h
      by_cases hc:checkS ca (.mk rule s f u n sub) = 0
      · rw [if_pos hc] at h; exact ⟨rfl,hs,hc,h⟩
      · rw [if_neg hc] at h; exact absurd h hc
    · unfold CheckS at h
      rw [hk] at h
      simp only [Bool.not_true,Bool.false_eq_true,if_false] at h
      rw [if_pos (by omega)] at h
      simp at h
theorem CheckS_root {ca rule:Nat} {s:Sq} {f:Fm} {u:Tm} {n:ByteArray} {sub:List Tr} (hk:knownB ca = true) (hs:(Tr.mk rule s f u n sub).steps ≤ 300) {e:Nat} (he:(stepS ca s rule f u n).2 = e) (h0:e ≠ 0):CheckS ca (.mk rule s f u n sub) = ([],e):=by
  have hc:checkS ca (.mk rule s f u n sub) = e:=by simp only [checkS,he,if_pos h0]
  rw [CheckS_unfold hk hs,firstBad_tree,hc,if_neg h0]
def addSq (ca:Nat) (rt:Bool) (s:Sq) (f:Fm):Sq:=if rt && decide (ca ≠ 2) then ⟨s.l,s.r ++ [f]⟩ else ⟨s.l ++ [f],s.r⟩
theorem validB_known {ca:Nat} {s:Sq} (h:validB ca s = true):knownB ca = true:=by
  unfold validB at h
  simp only [Bool.and_eq_true] at h
  exact h.1.1.1.1.1
theorem validB_add {ca:Nat} {rt:Bool} {s:Sq} {f:Fm} (h:validB ca s = true) (h1:s.l.length < 64) (h2:s.r.length < 64):validB ca (addSq ca rt s f) = fmB ca f:=by
  unfold validB at h
  simp only [Bool.and_eq_true,decide_eq_true_eq] at h
  obtain ⟨⟨⟨⟨⟨q1,q2⟩,q3⟩,q4⟩,q5⟩,q6⟩:=h
  unfold addSq
  split
  · rename_i hc
    simp only [Bool.and_eq_true,decide_eq_true_eq] at hc
    unfold validB
    simp only [q1,q4,List.all_append,q5,List.all_cons,List.all_nil,List.length_append,List.length_cons,List.length_nil,decide_eq_true (show s.l.length ≤ 64 by omega),decide_eq_true (show s.r.length + (0 + 1) ≤ 64 by omega),decide_eq_true hc.2,Bool.true_and,Bool.and_true,Bool.true_or]
  · unfold validB
    simp only [q1,q4,List.all_append,q5,q6,List.all_cons,List.all_nil,List.length_append,List.length_cons,List.length_nil,decide_eq_true (show s.r.length ≤ 64 by omega),decide_eq_true (show s.l.length + (0 + 1) ≤ 64 by omega),Bool.true_and,Bool.and_true]
theorem addSq_sub (ca:Nat) (rt:Bool) (s:Sq) (f:Fm):(∀ x ∈ s.l,x ∈ (addSq ca rt s f).l) ∧ ∀ x ∈ s.r,x ∈ (addSq ca rt s f).r:=by
  unfold addSq
  split
  · exact ⟨fun _ h => h,fun _ h => List.mem_append_left _ h⟩
  · exact ⟨fun _ h => List.mem_append_left _ h,fun _ h => h⟩
theorem hasF_mono {l m:List Fm} (h:∀ x ∈ l,x ∈ m) {f:Fm} (k:hasF l f = true):hasF m f = true:=by
  obtain ⟨g,hg,he⟩:=hasF_true.1 k
  exact hasF_true.2 ⟨g,h g hg,he⟩
theorem freeIn_add (ca:Nat) (rt:Bool) (s:Sq) (f:Fm) (n:ByteArray):freeIn (addSq ca rt s f) n = (freeIn s n || memB (frF f) n):=by
  unfold addSq
  split
  · simp [freeIn,Bool.or_assoc]
  · simp only [freeIn,List.any_append,List.any_cons,List.any_nil,Bool.or_false]
    cases s.l.any (fun f => memB (frF f) n) <;> cases s.r.any (fun f => memB (frF f) n) <;> cases memB (frF f) n <;> rfl
theorem premsB_mono {s s':Sq} (h:(∀ x ∈ s.l,x ∈ s'.l) ∧ ∀ x ∈ s.r,x ∈ s'.r):∀ (l:List Sq) (ts:List Tr),premsB s l ts = true → premsB s' l ts = true
  | [],ts,_ => by cases ts <;> rfl
  | m :: l,[],_ => rfl
  | m :: l,t :: ts,k => by
    simp only [premsB,Bool.and_eq_true,withinB] at k ⊢
    refine ⟨⟨allF_true.2 fun f hf => hasF_mono (fun x hx => ?_) (allF_true.1 k.1.1 f hf),allF_true.2 fun f hf => hasF_mono (fun x hx => ?_) (allF_true.1 k.1.2 f hf)⟩,premsB_mono h l ts k.2⟩
    · simp only [Sq.plus,List.mem_append] at hx ⊢
      exact hx.imp (h.1 x) id
    · simp only [Sq.plus,List.mem_append] at hx ⊢
      exact hx.imp (h.2 x) id
section
variable {ca rule:Nat} {s:Sq} {f:Fm} {u:Tm} {n:ByteArray} {sub:List Tr} (h:(CheckS ca (.mk rule s f u n sub)).2 = 0) (h1:s.l.length < 64) (h2:s.r.length < 64)
include h h1 h2
theorem CheckS_wide_bad (rt:Bool) (g:Fm) (hg:fmB ca g = false):CheckS ca (.mk rule (addSq ca rt s g) f u n sub) = ([],190):=by
  obtain ⟨hk,hs,hc,_⟩:=CheckS_zero h
  refine CheckS_root (s:=addSq ca rt s g) hk hs (e:=190) ?_ (by decide)
  unfold stepS
  rw [validB_add (checkS_valid hc) h1 h2,hg]
  rfl
theorem CheckS_wide_free (rt:Bool) (g:Fm) (hg:fmB ca g = true) (hr:∀ r,rowS ca rule = some r → r.asks = 2) (hn:memB (frF g) n = true):CheckS ca (.mk rule (addSq ca rt s g) f u n sub) = ([],193):=by
  obtain ⟨hk,hs,hc,_⟩:=CheckS_zero h
  refine CheckS_root (s:=addSq ca rt s g) hk hs (e:=193) ?_ (by decide)
  have hz:(stepS ca s rule f u n).2 = 0:=by
    simp only [checkS] at hc
    split at hc
    · rename_i q; exact absurd hc q
    · rename_i q; exact Decidable.not_not.1 q
  obtain ⟨r,k1,k2,k3,k4,k5,k6,_⟩:=stepS_zero hz
  have hl:=addSq_sub ca rt s g
  have e1:(r.left && !hasF (addSq ca rt s g).l f) = false:=by
    cases q:r.left
    · rfl
    · rw [hasF_mono hl.1 (k4 q)]; rfl
  have e2:(r.right && !hasF (addSq ca rt s g).r f) = false:=by
    cases q:r.right
    · rfl
    · rw [hasF_mono hl.2 (k5 q)]; rfl
  unfold stepS
  rw [validB_add k1 h1 h2,hg,k2]
  simp only [k3,e1,e2,hr r k2,freeIn_add,hn,Bool.or_true,Bool.not_true,Bool.false_eq_true,if_false,Bool.or_false,decide_eq_true_eq,ne_eq,not_true_eq_false,decide_true,Bool.and_true,if_true]
  rw [if_neg (by decide)]
theorem CheckS_wide (rt:Bool) (g:Fm) (hg:fmB ca g = true) (hn:∀ r,rowS ca rule = some r → r.asks = 2 → memB (frF g) n = false):(CheckS ca (.mk rule (addSq ca rt s g) f u n sub)).2 = 0:=by
  obtain ⟨hk,hs,hc,hb⟩:=CheckS_zero h
  have hz:(stepS ca s rule f u n).2 = 0:=by
    have:=hc
    simp only [checkS] at this
    split at this
    · rename_i q; exact absurd this q
    · rename_i q; exact Decidable.not_not.1 q
  obtain ⟨r,k1,k2,k3,k4,k5,k6,k7⟩:=stepS_zero hz
  have hl:=addSq_sub ca rt s g
  have hst:=stepS_of (by rw [validB_add (rt:=rt) k1 h1 h2,hg]) k2 k3 (fun q => hasF_mono hl.1 (k4 q)) (fun q => hasF_mono hl.2 (k5 q)) (fun q => by rw [freeIn_add,k6 q,hn r k2 q]; rfl)
  have hc':checkS ca (.mk rule (addSq ca rt s g) f u n sub) = 0:=by
    simp only [checkS,k7] at hc
    simp only [checkS,hst]
    simp only [ne_eq,not_true_eq_false,if_false] at hc ⊢
    split at hc
    · simp at hc
    · rename_i q
      rw [if_neg q]
      split at hc
      · rename_i q2
        rw [if_pos (premsB_mono hl _ _ q2)]
      · simp at hc
  rw [CheckS_unfold (t:=.mk rule (addSq ca rt s g) f u n sub) hk hs,firstBad_tree,if_pos hc']
  exact hb
omit h1 h2 in
theorem CheckS_bare (hr:∀ r,rowS ca rule = some r → r.left = true ∨ r.right = true):CheckS ca (.mk rule ⟨[],[]⟩ f u n sub) = ([],192):=by
  obtain ⟨hk,hs,hc,_⟩:=CheckS_zero h
  refine CheckS_root (s:=⟨[],[]⟩) hk hs (e:=192) ?_ (by decide)
  have hz:(stepS ca s rule f u n).2 = 0:=by
    simp only [checkS] at hc
    split at hc
    · rename_i q; exact absurd hc q
    · rename_i q; exact Decidable.not_not.1 q
  obtain ⟨r,k1,k2,k3,_⟩:=stepS_zero hz
  have hv:validB ca ⟨[],[]⟩ = true:=by simp [validB,hk,firstsB]
  unfold stepS
  rw [hv,k2]
  have h0:hasF [] f = false:=rfl
  simp only [h0,k3,Bool.not_true,Bool.false_eq_true,if_false,Bool.not_false,Bool.and_true]
  rw [if_pos]
  rcases hr r k2 with q | q <;> simp [q]
end
end Go.Proofs.Tryz

namespace Go.Proofs.Tryz
open Go Go.Iv

theorem checkS_step {ca rule:Nat} {s:Sq} {f:Fm} {u:Tm} {n:ByteArray} {sub:List Tr} (hc:checkS ca (.mk rule s f u n sub) = 0) :
    (stepS ca s rule f u n).2 = 0 ∧ sub.length = (stepS ca s rule f u n).1.length ∧ premsB s (stepS ca s rule f u n).1 sub = true:=by
  simp only [checkS] at hc
  split at hc
  · rename_i q; exact absurd hc q
  · rename_i q
    split at hc
    · simp at hc
    · rename_i q2
      split at hc
      · rename_i q3; exact ⟨Decidable.not_not.1 q,Decidable.not_not.1 q2,q3⟩
      · simp at hc
theorem rowK_none {rule:Nat} (h:19 ≤ rule):rowK rule = none:=by
  unfold rowK
  repeat (rw [if_neg (by omega)])
theorem rowS_none {ca rule:Nat} (h:19 ≤ rule):rowS ca rule = none:=by
  unfold rowS
  rw [if_neg (by omega),if_neg (by omega),if_neg (by omega),if_neg (by omega),if_neg (by omega),rowK_none h]
section
variable {ca rule:Nat} {s:Sq} {f:Fm} {u:Tm} {n:ByteArray} {sub:List Tr} (h:(CheckS ca (.mk rule s f u n sub)).2 = 0)
include h
end
end Go.Proofs.Tryz

namespace Go.Proofs.Tryz
open Go Go.Iv

theorem sizeFms_mem:∀ {l:List Fm} {g:Fm},g ∈ l → g.size ≤ sizeFms l
  | a :: l,g,hg => by
    simp only [sizeFms]
    rcases List.mem_cons.1 hg with rfl | hg
    · omega
    · have:=sizeFms_mem hg; omega
theorem deepFms_mem:∀ {l:List Fm} {g:Fm},g ∈ l → g.deep ≤ deepFms l
  | a :: l,g,hg => by
    simp only [deepFms]
    rcases List.mem_cons.1 hg with rfl | hg
    · omega
    · have:=deepFms_mem hg; omega
theorem opsBs_mem {ca:Nat}:∀ {l:List Fm} {g:Fm},opsBs ca l = true → g ∈ l → opsB ca g = true
  | a :: l,g,h,hg => by
    simp only [opsBs,Bool.and_eq_true] at h
    rcases List.mem_cons.1 hg with rfl | hg
    · exact h.1
    · exact opsBs_mem h.2 hg
theorem fmB_true {ca:Nat} {f:Fm}:fmB ca f = true ↔ f.ok = true ∧ f.size ≤ 400 ∧ f.deep ≤ 40 ∧ opsB ca f = true:=by
  unfold fmB Fm.right
  simp only [Bool.and_eq_true,decide_eq_true_eq,and_assoc]
theorem fmB_part {ca op:Nat} {n:ByteArray} {us:List Tm} {sub:List Fm} (h:fmB ca (.mk op n us sub) = true) {g:Fm} (hg:g ∈ sub):fmB ca g = true:=by
  obtain ⟨h1,h2,h3,h4⟩:=fmB_true.1 h
  simp only [Fm.ok,Bool.and_eq_true] at h1
  simp only [Fm.size] at h2
  simp only [Fm.deep] at h3
  simp only [opsB,Bool.and_eq_true] at h4
  have:=sizeFms_mem hg
  have:=deepFms_mem hg
  exact fmB_true.2 ⟨okFms_mem h1.2 hg,by omega,by omega,opsBs_mem h4.2 hg⟩
theorem fmB_imp {ca:Nat} {n:ByteArray} {us:List Tm} {a b:Fm} (h:fmB ca (.mk 7 n us [a,b]) = true):fmB ca (impF a b) = true ∧ fmB ca (impF b a) = true:=by
  obtain ⟨h1,h2,h3,h4⟩:=fmB_true.1 h
  simp only [Fm.ok,okFms,Bool.and_eq_true] at h1
  simp only [Fm.size,sizeFms] at h2
  simp only [Fm.deep,deepFms] at h3
  simp only [opsB,opsBs,Bool.and_eq_true] at h4
  have key:∀ x y:Fm,x.ok = true → y.ok = true → opsB ca x = true → opsB ca y = true → x.size + y.size + 1 ≤ 400 → max x.deep y.deep + 1 ≤ 40 → fmB ca (impF x y) = true:=fun x y q1 q2 q3 q4 q5 q6 => by
    refine fmB_true.2 ⟨?_,?_,?_,?_⟩
    · simp [impF,Fm.ok,okFms,okTms,okRow,q1,q2,bE]
    · simp only [impF,Fm.size,sizeFms,sizeTms]; omega
    · simp only [impF,Fm.deep,deepFms,deepTms]; omega
    · simp only [impF,opsB,opsBs,q3,q4,List.isEmpty_nil,Bool.or_true,Bool.and_true,Bool.and_eq_true,decide_eq_true_eq]
      refine ⟨by omega,?_⟩
      split <;> omega
  exact ⟨key a b h1.2.1 h1.2.2.1 h4.2.1 h4.2.2.1 (by omega) (by omega),key b a h1.2.2.1 h1.2.1 h4.2.2.1 h4.2.1 (by omega) (by omega)⟩
mutual
theorem opsB_form:∀ (f:Fm) (ps:Sb),opsB 3 (formS ps f) = opsB 3 f
  | .mk op m us sub,ps => by
    simp only [formS,opsB,opsBs_form sub,decide_true,Bool.true_or]
theorem opsBs_form:∀ (l:List Fm) (ps:Sb),opsBs 3 (formSs ps l) = opsBs 3 l
  | [],_ => rfl
  | a :: l,ps => by simp only [formSs,opsBs,opsB_form a,opsBs_form l]
end
end Go.Proofs.Tryz

namespace Go.Proofs.Tryz
open Go Go.Iv

theorem peelS {α:Type} {c:Prop} [Decidable c] {a r:α} {x:Option α} (h:(if c then some a else x) = some r):(c ∧ r = a) ∨ (¬c ∧ x = some r):=by
  by_cases hc:c
  · rw [if_pos hc] at h; exact .inl ⟨hc,(Option.some.inj h).symm⟩
  · rw [if_neg hc] at h; exact .inr ⟨hc,h⟩
theorem peelI {α:Type} {c:Prop} [Decidable c] {a b r:α} (h:(if c then a else b) = r):(c ∧ a = r) ∨ (¬c ∧ b = r):=by
  by_cases hc:c
  · rw [if_pos hc] at h; exact .inl ⟨hc,h⟩
  · rw [if_neg hc] at h; exact .inr ⟨hc,h⟩
theorem peelM {α:Type} {c:Prop} [Decidable c] {q:α} {A B:List α} (h:q ∈ if c then A else B):(c ∧ q ∈ A) ∨ (¬c ∧ q ∈ B):=by
  by_cases hc:c
  · rw [if_pos hc] at h; exact .inl ⟨hc,h⟩
  · rw [if_neg hc] at h; exact .inr ⟨hc,h⟩
theorem row_cases {ca rule:Nat} {r:Rw} (h:rowS ca rule = some r):(rule = 1 ∧ r = ⟨true,true,0,0⟩) ∨ (rule = 2 ∧ r = ⟨true,false,2,0⟩) ∨ (rule = 3 ∧ r = ⟨true,false,3,0⟩) ∨ (rule = 4 ∧ r = ⟨false,true,3,0⟩) ∨ (rule = 5 ∧ r = ⟨true,false,4,0⟩) ∨ (rule = 6 ∧ r = ⟨false,true,4,0⟩) ∨
    (rule = 7 ∧ r = ⟨true,false,5,0⟩) ∨ (rule = 8 ∧ r = ⟨false,true,5,0⟩) ∨ (rule = 9 ∧ r = ⟨true,false,6,0⟩) ∨ (rule = 10 ∧ r = ⟨false,true,6,0⟩) ∨ (rule = 11 ∧ r = ⟨true,false,7,0⟩) ∨ (rule = 12 ∧ r = ⟨false,true,7,0⟩) ∨
    (rule = 13 ∧ r = ⟨true,false,8,1⟩) ∨ (rule = 14 ∧ r = ⟨false,true,8,2⟩) ∨ (rule = 15 ∧ r = ⟨true,false,9,2⟩) ∨ (rule = 16 ∧ r = ⟨false,true,9,1⟩) ∨ (rule = 17 ∧ r = ⟨false,false,0,0⟩) ∨ (rule = 18 ∧ r = ⟨false,true,5,0⟩):=by
  unfold rowS rowK at h
  rcases peelS h with ⟨⟨hc,hr⟩,hq⟩ | ⟨_,h⟩
  · subst hr; subst hq; simp
  rcases peelS h with ⟨⟨hc,hr⟩,hq⟩ | ⟨_,h⟩
  · subst hr; subst hq; simp
  rcases peelS h with ⟨⟨hc,hr⟩,hq⟩ | ⟨_,h⟩
  · subst hr; subst hq; simp
  rcases peelS h with ⟨⟨hc,hr⟩,hq⟩ | ⟨_,h⟩
  · subst hr; subst hq; simp
  rcases peelS h with ⟨⟨hc,hr⟩,hq⟩ | ⟨_,h⟩
  · subst hr; subst hq; simp
  rcases peelS h with ⟨hr,hq⟩ | ⟨_,h⟩
  · subst hr; subst hq; simp
  rcases peelS h with ⟨hr,hq⟩ | ⟨_,h⟩
  · subst hr; subst hq; simp
  rcases peelS h with ⟨hr,hq⟩ | ⟨_,h⟩
  · subst hr; subst hq; simp
  rcases peelS h with ⟨hr,hq⟩ | ⟨_,h⟩
  · subst hr; subst hq; simp
  rcases peelS h with ⟨hr,hq⟩ | ⟨_,h⟩
  · subst hr; subst hq; simp
  rcases peelS h with ⟨hr,hq⟩ | ⟨_,h⟩
  · subst hr; subst hq; simp
  rcases peelS h with ⟨hr,hq⟩ | ⟨_,h⟩
  · subst hr; subst hq; simp
  rcases peelS h with ⟨hr,hq⟩ | ⟨_,h⟩
  · subst hr; subst hq; simp
  rcases peelS h with ⟨hr,hq⟩ | ⟨_,h⟩
  · subst hr; subst hq; simp
  rcases peelS h with ⟨hr,hq⟩ | ⟨_,h⟩
  · subst hr; subst hq; simp
  rcases peelS h with ⟨hr,hq⟩ | ⟨_,h⟩
  · subst hr; subst hq; simp
  rcases peelS h with ⟨hr,hq⟩ | ⟨_,h⟩
  · subst hr; subst hq; simp
  rcases peelS h with ⟨hr,hq⟩ | ⟨_,h⟩
  · subst hr; subst hq; simp
  cases h
theorem row_ca {ca rule:Nat} {r:Rw} (h:rowS ca rule = some r):(rule = 18 → ca = 2) ∧ (13 ≤ rule → rule ≤ 16 → ca = 3):=by
  unfold rowS rowK at h
  rcases peelS h with ⟨⟨hc,hr⟩,hq⟩ | ⟨_,h⟩
  · omega
  rcases peelS h with ⟨⟨hc,hr⟩,hq⟩ | ⟨_,h⟩
  · omega
  rcases peelS h with ⟨⟨hc,hr⟩,hq⟩ | ⟨_,h⟩
  · omega
  rcases peelS h with ⟨⟨hc,hr⟩,hq⟩ | ⟨_,h⟩
  · omega
  rcases peelS h with ⟨⟨hc,hr⟩,hq⟩ | ⟨_,h⟩
  · omega
  rcases peelS h with ⟨hr,hq⟩ | ⟨_,h⟩
  · omega
  rcases peelS h with ⟨hr,hq⟩ | ⟨_,h⟩
  · omega
  rcases peelS h with ⟨hr,hq⟩ | ⟨_,h⟩
  · omega
  rcases peelS h with ⟨hr,hq⟩ | ⟨_,h⟩
  · omega
  rcases peelS h with ⟨hr,hq⟩ | ⟨_,h⟩
  · omega
  rcases peelS h with ⟨hr,hq⟩ | ⟨_,h⟩
  · omega
  rcases peelS h with ⟨hr,hq⟩ | ⟨_,h⟩
  · omega
  rcases peelS h with ⟨hr,hq⟩ | ⟨_,h⟩
  · omega
  rcases peelS h with ⟨hr,hq⟩ | ⟨_,h⟩
  · omega
  rcases peelS h with ⟨hr,hq⟩ | ⟨_,h⟩
  · omega
  rcases peelS h with ⟨hr,hq⟩ | ⟨_,h⟩
  · omega
  rcases peelS h with ⟨hr,hq⟩ | ⟨_,h⟩
  · omega
  rcases peelS h with ⟨hr,hq⟩ | ⟨_,h⟩
  · omega
  cases h
end Go.Proofs.Tryz

namespace Go.Proofs.Tryz
open Go Go.Iv

mutual
theorem dbF_inj {ca:Nat} (hc:ca ≠ 3) (e:List ByteArray):∀ f g:Fm,opsB ca f = true → opsB ca g = true → dbF e f = dbF e g → f = g
  | .mk o n us sub,.mk o' n' us' sub',hf,hg,h => by
    simp only [opsB,Bool.and_eq_true,decide_eq_true_eq,if_neg hc,decide_eq_false hc,Bool.false_or,List.isEmpty_iff] at hf hg
    obtain ⟨⟨⟨h1,h2⟩,rfl⟩,h4⟩:=hf
    obtain ⟨⟨⟨k1,k2⟩,rfl⟩,k4⟩:=hg
    have q:isQ o = false:=by
      have:∀ o,o ≤ 7 → isQ o = false:=by decide
      exact this o h2
    have q':isQ o' = false:=by
      have:∀ o,o ≤ 7 → isQ o = false:=by decide
      exact this o' k2
    simp only [dbF,q,q',Bool.false_eq_true,if_false,NlF.mk.injEq] at h
    obtain ⟨rfl,rfl,_,h⟩:=h
    rw [dbFs_inj hc e sub sub' h4 k4 h]
theorem dbFs_inj {ca:Nat} (hc:ca ≠ 3) (e:List ByteArray):∀ l m:List Fm,opsBs ca l = true → opsBs ca m = true → dbFs e l = dbFs e m → l = m
  | [],[],_,_,_ => rfl
  | [],b :: m,_,_,h => by simp [dbFs] at h
  | a :: l,[],_,_,h => by simp [dbFs] at h
  | a :: l,b :: m,hl,hm,h => by
    simp only [opsBs,Bool.and_eq_true] at hl hm
    simp only [dbFs,List.cons.injEq] at h
    rw [dbF_inj hc e a b hl.1 hm.1 h.1,dbFs_inj hc e l m hl.2 hm.2 h.2]
end
theorem eqF_plain {ca:Nat} (hc:ca ≠ 3) {a b:Fm} (ha:fmB ca a = true) (hb:fmB ca b = true):eqF a b = true ↔ a = b:=by
  have h1:=(fmB_true.1 ha).2.2.2
  have h2:=(fmB_true.1 hb).2.2.2
  constructor
  · intro h
    exact dbF_inj hc [] a b h1 h2 (eqF_true.1 h).2.2.2
  · rintro rfl
    refine eqF_refl ?_
    unfold fmB at ha
    simp only [Bool.and_eq_true] at ha
    exact ha.1

section
variable (nm:ByteArray) (g:Fm)
mutual
def repF:Fm → Fm
  | .mk o n us sub => if o = 1 ∧ n = nm ∧ us.length = 0 then g else .mk o n us (repFs sub)
def repFs:List Fm → List Fm
  | [] => []
  | a :: l => repF a :: repFs l
end
def repS (s:Sq):Sq:=⟨repFs nm g s.l,repFs nm g s.r⟩
mutual
def repT:Tr → Tr
  | .mk rule s f u n sub => .mk rule (repS nm g s) (repF nm g f) u n (repTs sub)
def repTs:List Tr → List Tr
  | [] => []
  | a :: l => repT a :: repTs l
end
end
mutual
def rightT:Tr → Bool
  | .mk _ s f _ _ sub => f.right && s.l.all Fm.right && s.r.all Fm.right && rightTs sub
def rightTs:List Tr → Bool
  | [] => true
  | a :: l => rightT a && rightTs l
end
section
variable {nm:ByteArray} {g:Fm} {ca:Nat}
theorem repFs_map:∀ l:List Fm,repFs nm g l = l.map (repF nm g)
  | [] => rfl
  | a :: l => by simp only [repFs,List.map_cons,repFs_map l]
theorem repFs_len (l:List Fm):(repFs nm g l).length = l.length:=by rw [repFs_map,List.length_map]
theorem repTs_len:∀ l:List Tr,(repTs nm g l).length = l.length
  | [] => rfl
  | a :: l => by simp only [repTs,List.length_cons,repTs_len l]
mutual
theorem opsB_rep (hg:opsB ca g = true):∀ f:Fm,opsB ca f = true → opsB ca (repF nm g f) = true
  | .mk o n us sub,h => by
    simp only [repF]
    split
    · exact hg
    · simp only [opsB,Bool.and_eq_true] at h ⊢
      exact ⟨h.1,opsBs_rep hg sub h.2⟩
theorem opsBs_rep (hg:opsB ca g = true):∀ l:List Fm,opsBs ca l = true → opsBs ca (repFs nm g l) = true
  | [],_ => rfl
  | a :: l,h => by
    simp only [opsBs,Bool.and_eq_true] at h
    simp only [repFs,opsBs,Bool.and_eq_true]
    exact ⟨opsB_rep hg a h.1,opsBs_rep hg l h.2⟩
end
theorem fmB_rep (hg:fmB ca g = true) {f:Fm} (hf:fmB ca f = true) (hr:(repF nm g f).right = true):fmB ca (repF nm g f) = true:=by
  unfold fmB at hf hg ⊢
  simp only [Bool.and_eq_true] at hf hg ⊢
  exact ⟨hr,opsB_rep hg.2 f hf.2⟩
theorem all_rep (hg:fmB ca g = true) {l:List Fm} (h:l.all (fmB ca) = true) (hr:(repFs nm g l).all Fm.right = true):(repFs nm g l).all (fmB ca) = true:=by
  rw [repFs_map,List.all_map] at hr ⊢
  rw [List.all_eq_true] at h hr ⊢
  exact fun f hf => fmB_rep hg (h f hf) (hr f hf)
theorem hasF_rep (hc:ca ≠ 3) (hg:fmB ca g = true) {l:List Fm} (hl:l.all (fmB ca) = true) (hr:(repFs nm g l).all Fm.right = true) {f:Fm} (hf:fmB ca f = true) (hfr:(repF nm g f).right = true) (h:hasF l f = true):hasF (repFs nm g l) (repF nm g f) = true:=by
  obtain ⟨k,hk,he⟩:=hasF_true.1 h
  have:=(eqF_plain hc hf (List.all_eq_true.1 hl k hk)).1 he
  subst this
  exact hasF_true.2 ⟨_,by rw [repFs_map]; exact List.mem_map.2 ⟨_,hk,rfl⟩,eqF_refl hfr⟩
theorem allF_rep (hc:ca ≠ 3) (hg:fmB ca g = true) {l m:List Fm} (hl:l.all (fmB ca) = true) (hlr:(repFs nm g l).all Fm.right = true) (hm:m.all (fmB ca) = true) (hmr:(repFs nm g m).all Fm.right = true) (h:allF l m = true):allF (repFs nm g l) (repFs nm g m) = true:=by
  rw [allF_true] at h ⊢
  intro f hf
  rw [repFs_map] at hf
  obtain ⟨k,hk,rfl⟩:=List.mem_map.1 hf
  exact hasF_rep hc hg hm hmr (List.all_eq_true.1 hl k hk) (List.all_eq_true.1 hlr _ (by rw [repFs_map]; exact List.mem_map.2 ⟨k,hk,rfl⟩)) (h k hk)
theorem validB_parts {s:Sq} (h:validB ca s = true):s.l.all (fmB ca) = true ∧ s.r.all (fmB ca) = true:=by
  unfold validB at h
  simp only [Bool.and_eq_true] at h
  exact ⟨h.1.1.2,h.1.2⟩
theorem validB_rep (hc:ca ≠ 3) (hg:fmB ca g = true) {s:Sq} (h:validB ca s = true) (hl:(repFs nm g s.l).all Fm.right = true) (hr:(repFs nm g s.r).all Fm.right = true):validB ca (repS nm g s) = true:=by
  have hp:=validB_parts h
  have h1:=all_rep (nm:=nm) hg hp.1 hl
  have h2:=all_rep (nm:=nm) hg hp.2 hr
  unfold validB at h
  unfold validB repS
  simp only [Bool.and_eq_true,decide_eq_true_eq,Bool.or_eq_true,repFs_len,h1,h2] at h ⊢
  refine ⟨⟨⟨h.1.1.1,trivial⟩,trivial⟩,?_⟩
  rcases h.2 with h | h
  · exact .inl h
  · right
    have hq:∀ f ∈ s.r,f.right = true:=fun f hf => by
      have:=List.all_eq_true.1 hp.2 f hf
      unfold fmB at this
      simp only [Bool.and_eq_true] at this
      exact this.1
    have hq':∀ f ∈ repFs nm g s.r,f.right = true:=fun f hf => List.all_eq_true.1 hr f hf
    rw [firstsB_true hq] at h
    rw [firstsB_true hq']
    intro a ha b hb
    rw [repFs_map] at ha hb
    obtain ⟨a',ha',rfl⟩:=List.mem_map.1 ha
    obtain ⟨b',hb',rfl⟩:=List.mem_map.1 hb
    have:=(eqF_plain hc (List.all_eq_true.1 hp.2 _ ha') (List.all_eq_true.1 hp.2 _ hb')).1 (h a' ha' b' hb')
    subst this
    exact eqF_refl (hq' _ (by rw [repFs_map]; exact ha))
theorem rowS_asks {ca:Nat} (hc:ca ≠ 3) {rule:Nat} {r:Rw} (h:rowS ca rule = some r):r.asks = 0:=by
  have hca:=row_ca h
  rcases row_cases h with ⟨rfl,rfl⟩ | ⟨rfl,rfl⟩ | ⟨rfl,rfl⟩ | ⟨rfl,rfl⟩ | ⟨rfl,rfl⟩ | ⟨rfl,rfl⟩ | ⟨rfl,rfl⟩ | ⟨rfl,rfl⟩ | ⟨rfl,rfl⟩ | ⟨rfl,rfl⟩ | ⟨rfl,rfl⟩ | ⟨rfl,rfl⟩ | ⟨rfl,rfl⟩ | ⟨rfl,rfl⟩ | ⟨rfl,rfl⟩ | ⟨rfl,rfl⟩ | ⟨rfl,rfl⟩ | ⟨rfl,rfl⟩
  all_goals first
    | rfl
    | exact absurd (hca.2 (by decide) (by decide)) hc
theorem rowS_op {ca rule:Nat} {r:Rw} (h:rowS ca rule = some r) (h0:r.op = 0):rule = 1 ∨ rule = 17:=by
  rcases row_cases h with ⟨rfl,rfl⟩ | ⟨rfl,rfl⟩ | ⟨rfl,rfl⟩ | ⟨rfl,rfl⟩ | ⟨rfl,rfl⟩ | ⟨rfl,rfl⟩ | ⟨rfl,rfl⟩ | ⟨rfl,rfl⟩ | ⟨rfl,rfl⟩ | ⟨rfl,rfl⟩ | ⟨rfl,rfl⟩ | ⟨rfl,rfl⟩ | ⟨rfl,rfl⟩ | ⟨rfl,rfl⟩ | ⟨rfl,rfl⟩ | ⟨rfl,rfl⟩ | ⟨rfl,rfl⟩ | ⟨rfl,rfl⟩
  all_goals first
    | exact .inl rfl
    | exact .inr rfl
    | (simp at h0; done)
theorem sub_rep {o:Nat} {n:ByteArray} {us:List Tm} {sub:List Fm} (h:o ≠ 1):repF nm g (.mk o n us sub) = .mk o n us (repFs nm g sub):=by
  simp only [repF]
  rw [if_neg (by rintro ⟨h',_⟩; exact h h')]
theorem imp_rep (a b:Fm):repF nm g (impF a b) = impF (repF nm g a) (repF nm g b):=by
  unfold impF
  rw [sub_rep (by decide)]
  simp only [repFs]
end
theorem row_op {ca rule:Nat} {r:Rw} (h:rowS ca rule = some r):(rule = 3 ∨ rule = 4 → r.op = 3 ∧ r.asks = 0) ∧ (rule = 5 ∨ rule = 6 → r.op = 4 ∧ r.asks = 0) ∧ (rule = 7 ∨ rule = 8 ∨ rule = 18 → r.op = 5 ∧ r.asks = 0) ∧ (rule = 9 ∨ rule = 10 → r.op = 6 ∧ r.asks = 0) ∧
    (rule = 11 ∨ rule = 12 → r.op = 7 ∧ r.asks = 0) ∧ (rule = 13 ∨ rule = 14 → r.op = 8 ∧ r.asks ≠ 0 ∧ ca = 3) ∧ (rule = 15 ∨ rule = 16 → r.op = 9 ∧ r.asks ≠ 0 ∧ ca = 3) ∧ (rule = 1 ∨ rule = 2 ∨ rule = 17 → r.asks = 0) ∧ (r.op = 0 → rule = 1 ∨ rule = 17):=by
  have hca:=row_ca h
  have hr:=row_cases h
  clear h
  rcases hr with ⟨rfl,rfl⟩ | ⟨rfl,rfl⟩ | ⟨rfl,rfl⟩ | ⟨rfl,rfl⟩ | ⟨rfl,rfl⟩ | ⟨rfl,rfl⟩ | ⟨rfl,rfl⟩ | ⟨rfl,rfl⟩ | ⟨rfl,rfl⟩ | ⟨rfl,rfl⟩ | ⟨rfl,rfl⟩ | ⟨rfl,rfl⟩ | ⟨rfl,rfl⟩ | ⟨rfl,rfl⟩ | ⟨rfl,rfl⟩ | ⟨rfl,rfl⟩ | ⟨rfl,rfl⟩ | ⟨rfl,rfl⟩
  all_goals simp at hca ⊢
  all_goals (try exact hca)
theorem addS_all {p:Fm → Bool} {ca rule:Nat} {main a b:Fm} (ha:3 ≤ rule → rule ≤ 16 → p a = true) (hb:5 ≤ rule → rule ≤ 12 ∨ rule = 18 → p b = true) (hi:rule = 11 → p (impF a b) = true ∧ p (impF b a) = true) (hm:rule = 17 → p main = true) :
    ∀ q ∈ addS ca rule main a b,q.l.all p = true ∧ q.r.all p = true:=by
  unfold addS
  intro q hq
  rcases peelM hq with ⟨hr,hq⟩ | ⟨_,hq⟩
  · (first
        | (obtain rfl:=List.mem_singleton.1 hq
           simp only [List.all_cons,List.all_nil,Bool.and_true,Bool.and_eq_true,and_self,and_true,true_and]
           first | exact ha (by omega) (by omega) | exact hb (by omega) (by omega) | exact ⟨ha (by omega) (by omega),hb (by omega) (by omega)⟩ | exact hi (by omega) | exact hm (by omega))
        | (simp only [List.mem_cons,List.not_mem_nil,or_false] at hq
           rcases hq with rfl | rfl <;>
           · simp only [List.all_cons,List.all_nil,Bool.and_true,Bool.and_eq_true,and_self,and_true,true_and]
             first | exact ha (by omega) (by omega) | exact hb (by omega) (by omega) | exact ⟨ha (by omega) (by omega),hb (by omega) (by omega)⟩ | exact ⟨hb (by omega) (by omega),ha (by omega) (by omega)⟩ | exact hm (by omega)))
  rcases peelM hq with ⟨hr,hq⟩ | ⟨_,hq⟩
  · (first
        | (obtain rfl:=List.mem_singleton.1 hq
           simp only [List.all_cons,List.all_nil,Bool.and_true,Bool.and_eq_true,and_self,and_true,true_and]
           first | exact ha (by omega) (by omega) | exact hb (by omega) (by omega) | exact ⟨ha (by omega) (by omega),hb (by omega) (by omega)⟩ | exact hi (by omega) | exact hm (by omega))
        | (simp only [List.mem_cons,List.not_mem_nil,or_false] at hq
           rcases hq with rfl | rfl <;>
           · simp only [List.all_cons,List.all_nil,Bool.and_true,Bool.and_eq_true,and_self,and_true,true_and]
             first | exact ha (by omega) (by omega) | exact hb (by omega) (by omega) | exact ⟨ha (by omega) (by omega),hb (by omega) (by omega)⟩ | exact ⟨hb (by omega) (by omega),ha (by omega) (by omega)⟩ | exact hm (by omega)))
  rcases peelM hq with ⟨hr,hq⟩ | ⟨_,hq⟩
  · (first
        | (obtain rfl:=List.mem_singleton.1 hq
           simp only [List.all_cons,List.all_nil,Bool.and_true,Bool.and_eq_true,and_self,and_true,true_and]
           first | exact ha (by omega) (by omega) | exact hb (by omega) (by omega) | exact ⟨ha (by omega) (by omega),hb (by omega) (by omega)⟩ | exact hi (by omega) | exact hm (by omega))
        | (simp only [List.mem_cons,List.not_mem_nil,or_false] at hq
           rcases hq with rfl | rfl <;>
           · simp only [List.all_cons,List.all_nil,Bool.and_true,Bool.and_eq_true,and_self,and_true,true_and]
             first | exact ha (by omega) (by omega) | exact hb (by omega) (by omega) | exact ⟨ha (by omega) (by omega),hb (by omega) (by omega)⟩ | exact ⟨hb (by omega) (by omega),ha (by omega) (by omega)⟩ | exact hm (by omega)))
  rcases peelM hq with ⟨hr,hq⟩ | ⟨_,hq⟩
  · (first
        | (obtain rfl:=List.mem_singleton.1 hq
           simp only [List.all_cons,List.all_nil,Bool.and_true,Bool.and_eq_true,and_self,and_true,true_and]
           first | exact ha (by omega) (by omega) | exact hb (by omega) (by omega) | exact ⟨ha (by omega) (by omega),hb (by omega) (by omega)⟩ | exact hi (by omega) | exact hm (by omega))
        | (simp only [List.mem_cons,List.not_mem_nil,or_false] at hq
           rcases hq with rfl | rfl <;>
           · simp only [List.all_cons,List.all_nil,Bool.and_true,Bool.and_eq_true,and_self,and_true,true_and]
             first | exact ha (by omega) (by omega) | exact hb (by omega) (by omega) | exact ⟨ha (by omega) (by omega),hb (by omega) (by omega)⟩ | exact ⟨hb (by omega) (by omega),ha (by omega) (by omega)⟩ | exact hm (by omega)))
  rcases peelM hq with ⟨hr,hq⟩ | ⟨_,hq⟩
  · (first
        | (obtain rfl:=List.mem_singleton.1 hq
           simp only [List.all_cons,List.all_nil,Bool.and_true,Bool.and_eq_true,and_self,and_true,true_and]
           first | exact ha (by omega) (by omega) | exact hb (by omega) (by omega) | exact ⟨ha (by omega) (by omega),hb (by omega) (by omega)⟩ | exact hi (by omega) | exact hm (by omega))
        | (simp only [List.mem_cons,List.not_mem_nil,or_false] at hq
           rcases hq with rfl | rfl <;>
           · simp only [List.all_cons,List.all_nil,Bool.and_true,Bool.and_eq_true,and_self,and_true,true_and]
             first | exact ha (by omega) (by omega) | exact hb (by omega) (by omega) | exact ⟨ha (by omega) (by omega),hb (by omega) (by omega)⟩ | exact ⟨hb (by omega) (by omega),ha (by omega) (by omega)⟩ | exact hm (by omega)))
  rcases peelM hq with ⟨hr,hq⟩ | ⟨_,hq⟩
  · rcases peelM hq with ⟨_,hq⟩ | ⟨_,hq⟩
    · (first
          | (obtain rfl:=List.mem_singleton.1 hq
             simp only [List.all_cons,List.all_nil,Bool.and_true,Bool.and_eq_true,and_self,and_true,true_and]
             first | exact ha (by omega) (by omega) | exact hb (by omega) (by omega) | exact ⟨ha (by omega) (by omega),hb (by omega) (by omega)⟩ | exact hi (by omega) | exact hm (by omega))
          | (simp only [List.mem_cons,List.not_mem_nil,or_false] at hq
             rcases hq with rfl | rfl <;>
             · simp only [List.all_cons,List.all_nil,Bool.and_true,Bool.and_eq_true,and_self,and_true,true_and]
               first | exact ha (by omega) (by omega) | exact hb (by omega) (by omega) | exact ⟨ha (by omega) (by omega),hb (by omega) (by omega)⟩ | exact ⟨hb (by omega) (by omega),ha (by omega) (by omega)⟩ | exact hm (by omega)))
    · (first
          | (obtain rfl:=List.mem_singleton.1 hq
             simp only [List.all_cons,List.all_nil,Bool.and_true,Bool.and_eq_true,and_self,and_true,true_and]
             first | exact ha (by omega) (by omega) | exact hb (by omega) (by omega) | exact ⟨ha (by omega) (by omega),hb (by omega) (by omega)⟩ | exact hi (by omega) | exact hm (by omega))
          | (simp only [List.mem_cons,List.not_mem_nil,or_false] at hq
             rcases hq with rfl | rfl <;>
             · simp only [List.all_cons,List.all_nil,Bool.and_true,Bool.and_eq_true,and_self,and_true,true_and]
               first | exact ha (by omega) (by omega) | exact hb (by omega) (by omega) | exact ⟨ha (by omega) (by omega),hb (by omega) (by omega)⟩ | exact ⟨hb (by omega) (by omega),ha (by omega) (by omega)⟩ | exact hm (by omega)))
  rcases peelM hq with ⟨hr,hq⟩ | ⟨_,hq⟩
  · (first
        | (obtain rfl:=List.mem_singleton.1 hq
           simp only [List.all_cons,List.all_nil,Bool.and_true,Bool.and_eq_true,and_self,and_true,true_and]
           first | exact ha (by omega) (by omega) | exact hb (by omega) (by omega) | exact ⟨ha (by omega) (by omega),hb (by omega) (by omega)⟩ | exact hi (by omega) | exact hm (by omega))
        | (simp only [List.mem_cons,List.not_mem_nil,or_false] at hq
           rcases hq with rfl | rfl <;>
           · simp only [List.all_cons,List.all_nil,Bool.and_true,Bool.and_eq_true,and_self,and_true,true_and]
             first | exact ha (by omega) (by omega) | exact hb (by omega) (by omega) | exact ⟨ha (by omega) (by omega),hb (by omega) (by omega)⟩ | exact ⟨hb (by omega) (by omega),ha (by omega) (by omega)⟩ | exact hm (by omega)))
  rcases peelM hq with ⟨hr,hq⟩ | ⟨_,hq⟩
  · (first
        | (obtain rfl:=List.mem_singleton.1 hq
           simp only [List.all_cons,List.all_nil,Bool.and_true,Bool.and_eq_true,and_self,and_true,true_and]
           first | exact ha (by omega) (by omega) | exact hb (by omega) (by omega) | exact ⟨ha (by omega) (by omega),hb (by omega) (by omega)⟩ | exact hi (by omega) | exact hm (by omega))
        | (simp only [List.mem_cons,List.not_mem_nil,or_false] at hq
           rcases hq with rfl | rfl <;>
           · simp only [List.all_cons,List.all_nil,Bool.and_true,Bool.and_eq_true,and_self,and_true,true_and]
             first | exact ha (by omega) (by omega) | exact hb (by omega) (by omega) | exact ⟨ha (by omega) (by omega),hb (by omega) (by omega)⟩ | exact ⟨hb (by omega) (by omega),ha (by omega) (by omega)⟩ | exact hm (by omega)))
  rcases peelM hq with ⟨hr,hq⟩ | ⟨_,hq⟩
  · (first
        | (obtain rfl:=List.mem_singleton.1 hq
           simp only [List.all_cons,List.all_nil,Bool.and_true,Bool.and_eq_true,and_self,and_true,true_and]
           first | exact ha (by omega) (by omega) | exact hb (by omega) (by omega) | exact ⟨ha (by omega) (by omega),hb (by omega) (by omega)⟩ | exact hi (by omega) | exact hm (by omega))
        | (simp only [List.mem_cons,List.not_mem_nil,or_false] at hq
           rcases hq with rfl | rfl <;>
           · simp only [List.all_cons,List.all_nil,Bool.and_true,Bool.and_eq_true,and_self,and_true,true_and]
             first | exact ha (by omega) (by omega) | exact hb (by omega) (by omega) | exact ⟨ha (by omega) (by omega),hb (by omega) (by omega)⟩ | exact ⟨hb (by omega) (by omega),ha (by omega) (by omega)⟩ | exact hm (by omega)))
  rcases peelM hq with ⟨hr,hq⟩ | ⟨_,hq⟩
  · (first
        | (obtain rfl:=List.mem_singleton.1 hq
           simp only [List.all_cons,List.all_nil,Bool.and_true,Bool.and_eq_true,and_self,and_true,true_and]
           first | exact ha (by omega) (by omega) | exact hb (by omega) (by omega) | exact ⟨ha (by omega) (by omega),hb (by omega) (by omega)⟩ | exact hi (by omega) | exact hm (by omega))
        | (simp only [List.mem_cons,List.not_mem_nil,or_false] at hq
           rcases hq with rfl | rfl <;>
           · simp only [List.all_cons,List.all_nil,Bool.and_true,Bool.and_eq_true,and_self,and_true,true_and]
             first | exact ha (by omega) (by omega) | exact hb (by omega) (by omega) | exact ⟨ha (by omega) (by omega),hb (by omega) (by omega)⟩ | exact ⟨hb (by omega) (by omega),ha (by omega) (by omega)⟩ | exact hm (by omega)))
  rcases peelM hq with ⟨hr,hq⟩ | ⟨_,hq⟩
  · (first
        | (obtain rfl:=List.mem_singleton.1 hq
           simp only [List.all_cons,List.all_nil,Bool.and_true,Bool.and_eq_true,and_self,and_true,true_and]
           first | exact ha (by omega) (by omega) | exact hb (by omega) (by omega) | exact ⟨ha (by omega) (by omega),hb (by omega) (by omega)⟩ | exact hi (by omega) | exact hm (by omega))
        | (simp only [List.mem_cons,List.not_mem_nil,or_false] at hq
           rcases hq with rfl | rfl <;>
           · simp only [List.all_cons,List.all_nil,Bool.and_true,Bool.and_eq_true,and_self,and_true,true_and]
             first | exact ha (by omega) (by omega) | exact hb (by omega) (by omega) | exact ⟨ha (by omega) (by omega),hb (by omega) (by omega)⟩ | exact ⟨hb (by omega) (by omega),ha (by omega) (by omega)⟩ | exact hm (by omega)))
  rcases peelM hq with ⟨hr,hq⟩ | ⟨_,hq⟩
  · (first
        | (obtain rfl:=List.mem_singleton.1 hq
           simp only [List.all_cons,List.all_nil,Bool.and_true,Bool.and_eq_true,and_self,and_true,true_and]
           first | exact ha (by omega) (by omega) | exact hb (by omega) (by omega) | exact ⟨ha (by omega) (by omega),hb (by omega) (by omega)⟩ | exact hi (by omega) | exact hm (by omega))
        | (simp only [List.mem_cons,List.not_mem_nil,or_false] at hq
           rcases hq with rfl | rfl <;>
           · simp only [List.all_cons,List.all_nil,Bool.and_true,Bool.and_eq_true,and_self,and_true,true_and]
             first | exact ha (by omega) (by omega) | exact hb (by omega) (by omega) | exact ⟨ha (by omega) (by omega),hb (by omega) (by omega)⟩ | exact ⟨hb (by omega) (by omega),ha (by omega) (by omega)⟩ | exact hm (by omega)))
  rcases peelM hq with ⟨hr,hq⟩ | ⟨_,hq⟩
  · (first
        | (obtain rfl:=List.mem_singleton.1 hq
           simp only [List.all_cons,List.all_nil,Bool.and_true,Bool.and_eq_true,and_self,and_true,true_and]
           first | exact ha (by omega) (by omega) | exact hb (by omega) (by omega) | exact ⟨ha (by omega) (by omega),hb (by omega) (by omega)⟩ | exact hi (by omega) | exact hm (by omega))
        | (simp only [List.mem_cons,List.not_mem_nil,or_false] at hq
           rcases hq with rfl | rfl <;>
           · simp only [List.all_cons,List.all_nil,Bool.and_true,Bool.and_eq_true,and_self,and_true,true_and]
             first | exact ha (by omega) (by omega) | exact hb (by omega) (by omega) | exact ⟨ha (by omega) (by omega),hb (by omega) (by omega)⟩ | exact ⟨hb (by omega) (by omega),ha (by omega) (by omega)⟩ | exact hm (by omega)))
  rcases peelM hq with ⟨hr,hq⟩ | ⟨_,hq⟩
  · (first
        | (obtain rfl:=List.mem_singleton.1 hq
           simp only [List.all_cons,List.all_nil,Bool.and_true,Bool.and_eq_true,and_self,and_true,true_and]
           first | exact ha (by omega) (by omega) | exact hb (by omega) (by omega) | exact ⟨ha (by omega) (by omega),hb (by omega) (by omega)⟩ | exact hi (by omega) | exact hm (by omega))
        | (simp only [List.mem_cons,List.not_mem_nil,or_false] at hq
           rcases hq with rfl | rfl <;>
           · simp only [List.all_cons,List.all_nil,Bool.and_true,Bool.and_eq_true,and_self,and_true,true_and]
             first | exact ha (by omega) (by omega) | exact hb (by omega) (by omega) | exact ⟨ha (by omega) (by omega),hb (by omega) (by omega)⟩ | exact ⟨hb (by omega) (by omega),ha (by omega) (by omega)⟩ | exact hm (by omega)))
  rcases peelM hq with ⟨hr,hq⟩ | ⟨_,hq⟩
  · (first
        | (obtain rfl:=List.mem_singleton.1 hq
           simp only [List.all_cons,List.all_nil,Bool.and_true,Bool.and_eq_true,and_self,and_true,true_and]
           first | exact ha (by omega) (by omega) | exact hb (by omega) (by omega) | exact ⟨ha (by omega) (by omega),hb (by omega) (by omega)⟩ | exact hi (by omega) | exact hm (by omega))
        | (simp only [List.mem_cons,List.not_mem_nil,or_false] at hq
           rcases hq with rfl | rfl <;>
           · simp only [List.all_cons,List.all_nil,Bool.and_true,Bool.and_eq_true,and_self,and_true,true_and]
             first | exact ha (by omega) (by omega) | exact hb (by omega) (by omega) | exact ⟨ha (by omega) (by omega),hb (by omega) (by omega)⟩ | exact ⟨hb (by omega) (by omega),ha (by omega) (by omega)⟩ | exact hm (by omega)))
  rcases peelM hq with ⟨hr,hq⟩ | ⟨_,hq⟩
  · (first
        | (obtain rfl:=List.mem_singleton.1 hq
           simp only [List.all_cons,List.all_nil,Bool.and_true,Bool.and_eq_true,and_self,and_true,true_and]
           first | exact ha (by omega) (by omega) | exact hb (by omega) (by omega) | exact ⟨ha (by omega) (by omega),hb (by omega) (by omega)⟩ | exact hi (by omega) | exact hm (by omega))
        | (simp only [List.mem_cons,List.not_mem_nil,or_false] at hq
           rcases hq with rfl | rfl <;>
           · simp only [List.all_cons,List.all_nil,Bool.and_true,Bool.and_eq_true,and_self,and_true,true_and]
             first | exact ha (by omega) (by omega) | exact hb (by omega) (by omega) | exact ⟨ha (by omega) (by omega),hb (by omega) (by omega)⟩ | exact ⟨hb (by omega) (by omega),ha (by omega) (by omega)⟩ | exact hm (by omega)))
  cases hq
theorem ok_subs {op:Nat} {n:ByteArray} {us:List Tm} {sub:List Fm} (h:(Fm.mk op n us sub).ok = true):(op = 3 ∨ op = 8 ∨ op = 9 → sub.length = 1) ∧ (op = 4 ∨ op = 5 ∨ op = 6 ∨ op = 7 → sub.length = 2):=by
  simp only [Fm.ok,Bool.and_eq_true] at h
  have h:=h.1.1
  constructor
  · rintro (rfl | rfl | rfl) <;> simp only [okRow,Bool.and_eq_true,decide_eq_true_eq] at h <;> exact h.2
  · rintro (rfl | rfl | rfl | rfl) <;> simp only [okRow,Bool.and_eq_true,decide_eq_true_eq] at h <;> exact h.2
theorem addsS_fm {ca rule:Nat} {r:Rw} {main:Fm} {term:Tm} {name:ByteArray} {ad:List Sq} (hr:rowS ca rule = some r) (ht:term.size ≤ 900000) (h:addsS ca rule r main term name = (ad,0)) :
    ∀ q ∈ ad,q.l.all (fmB ca) = true ∧ q.r.all (fmB ca) = true:=by
  obtain ⟨w1,w2,w3,w4,w5,w6,w7,w8,w9⟩:=row_op hr
  unfold addsS at h
  by_cases hc:(!fmB ca main || (decide (r.op ≠ 0) && decide (main.op ≠ r.op))) = true
  · rw [if_pos hc] at h
    cases (Prod.mk.inj h).2
  rw [if_neg hc] at h
  have hf:fmB ca main = true:=by
    cases hq:fmB ca main
    · simp [hq] at hc
    · rfl
  have hop:r.op ≠ 0 → main.op = r.op:=fun h0 => by
    rw [hf] at hc
    simpa [h0] using hc
  obtain ⟨op,n,us,sub⟩:=main
  simp only [Fm.op,Fm.subs,Fm.nm] at hop h
  have hlen:=ok_subs (fmB_true.1 hf).1
  have hg:∀ k,k < sub.length → fmB ca ((sub[k]?).getD fm0) = true:=fun k hk => by
    rw [List.getElem?_eq_getElem hk]
    exact fmB_part hf (List.getElem_mem hk)
  by_cases h0:r.asks = 0
  · simp only [if_pos h0] at h
    rw [← (Prod.mk.inj h).1]
    refine addS_all (fun h1 h2 => hg 0 ?_) (fun h1 h2 => hg 1 ?_) (fun h1 => ?_) (fun _ => hf)
    · omega
    · omega
    · have:=w5 (.inl h1)
      have h7:op = 7:=by omega
      subst h7
      obtain ⟨a,b,rfl⟩:∃ a b,sub = [a,b]:=by
        have:=hlen.2 (by omega)
        match sub,this with
        | [a,b],_ => exact ⟨a,b,rfl⟩
      exact fmB_imp hf
  · simp only [if_neg h0] at h
    have hru:13 ≤ rule ∧ rule ≤ 16:=by
      rcases row_cases hr with ⟨rfl,rfl⟩ | ⟨rfl,rfl⟩ | ⟨rfl,rfl⟩ | ⟨rfl,rfl⟩ | ⟨rfl,rfl⟩ | ⟨rfl,rfl⟩ | ⟨rfl,rfl⟩ | ⟨rfl,rfl⟩ | ⟨rfl,rfl⟩ | ⟨rfl,rfl⟩ | ⟨rfl,rfl⟩ | ⟨rfl,rfl⟩ | ⟨rfl,rfl⟩ | ⟨rfl,rfl⟩ | ⟨rfl,rfl⟩ | ⟨rfl,rfl⟩ | ⟨rfl,rfl⟩ | ⟨rfl,rfl⟩
      all_goals first
        | exact ⟨by decide,by decide⟩
        | exact absurd rfl h0
    have h3:ca = 3:=(row_ca hr).2 hru.1 hru.2
    have htt:∀ (t:Tm),t.size ≤ 900000 → (PutsS ((sub[0]?).getD fm0) [(n,t)]).2 = 0 → fmB ca (PutsS ((sub[0]?).getD fm0) [(n,t)]).1 = true:=fun t hts hp => by
      obtain ⟨_,_,he,hrr,_⟩:=puts_ok (by simp only [wS]; omega) hp
      unfold fmB
      rw [hrr,he,h3,Bool.true_and,opsB_form]
      have:=(fmB_true.1 (hg 0 (by omega))).2.2.2
      rwa [h3] at this
    generalize hte:(if r.asks = 2 then Tm.mk true name [] else term) = t at h
    have hts:t.size ≤ 900000:=by
      rw [← hte]
      split
      · simp [Tm.size,sizeTms]
      · exact ht
    by_cases h1:(!t.ok) = true
    · simp only [if_pos h1] at h
      cases (Prod.mk.inj h).2
    simp only [if_neg h1] at h
    rcases peelI h with ⟨_,h⟩ | ⟨h2,h⟩
    · cases (Prod.mk.inj h).2
    rw [← (Prod.mk.inj h).1]
    exact addS_all (fun _ _ => htt t hts (Decidable.not_not.1 h2)) (fun h1 h2 => by omega) (fun h1 => by omega) (fun h1 => by omega)
section
variable {nm:ByteArray} {g:Fm} {ca:Nat}
theorem rep_fm0:repF nm g fm0 = fm0:=by
  show repF nm g (.mk 0 _ _ _) = _
  rw [sub_rep (by decide)]; rfl
theorem get_rep' (l:List Fm) (k:Nat):((repFs nm g l)[k]?).getD fm0 = repF nm g ((l[k]?).getD fm0):=by
  rw [repFs_map,List.getElem?_map]
  cases l[k]? with
  | none => exact rep_fm0.symm
  | some a => rfl
theorem addS_rep (rule:Nat) (main a b:Fm):addS ca rule (repF nm g main) (repF nm g a) (repF nm g b) = (addS ca rule main a b).map (repS nm g):=by
  unfold addS
  simp only [apply_ite (List.map (repS nm g)),List.map_cons,List.map_nil,repS,repFs,imp_rep]
theorem addS_1 (ca rule:Nat) (main a b a' b':Fm) (h:rule = 1 ∨ rule = 17):addS ca rule main a b = addS ca rule main a' b':=by
  rcases h with rfl | rfl <;> rfl
theorem addsS_rep (hc:ca ≠ 3) {rule:Nat} {r:Rw} {main:Fm} {u:Tm} {n:ByteArray} {ad:List Sq} (hr:rowS ca rule = some r) (h:addsS ca rule r main u n = (ad,0)) (hf:fmB ca (repF nm g main) = true):addsS ca rule r (repF nm g main) u n = (ad.map (repS nm g),0):=by
  have h0:=rowS_asks hc hr
  unfold addsS at h ⊢
  by_cases hq:(!fmB ca main || (decide (r.op ≠ 0) && decide (main.op ≠ r.op))) = true
  · rw [if_pos hq] at h
    cases (Prod.mk.inj h).2
  rw [if_neg hq] at h
  simp only [if_pos h0] at h ⊢
  obtain ⟨o,m,us,sub⟩:=main
  have hf1:fmB ca (.mk o m us sub) = true:=by
    cases hq':fmB ca (.mk o m us sub)
    · rw [hq'] at hq; simp at hq
    · rfl
  by_cases hop:r.op = 0
  · rw [if_neg (by rw [hf,hop]; simp),← (Prod.mk.inj h).1,← addS_rep]
    rw [addS_1 _ _ _ _ _ _ _ (rowS_op hr hop)]
  · have ho:o = r.op:=by
      exact Classical.byContradiction fun h => hq (by simp [hop,Fm.op,h])
    have ho1:o ≠ 1:=by
      have hw:=row_op hr
      have hlt:rule < 19:=by
        rcases Nat.lt_or_ge rule 19 with h | h
        · exact h
        · rw [rowS_none h] at hr; cases hr
      have h2:rule = 2 → r.op = 2:=fun h2 => by
        subst h2
        unfold rowS at hr
        rw [if_neg (by omega),if_neg (by omega),if_neg (by omega),if_neg (by omega),if_neg (by omega)] at hr
        obtain rfl:=Option.some.inj hr
        rfl
      have h0':rule ≠ 0:=fun h0 => by
        subst h0
        unfold rowS at hr
        rw [if_neg (by omega),if_neg (by omega),if_neg (by omega),if_neg (by omega),if_neg (by omega)] at hr
        cases hr
      have h17:rule = 1 ∨ rule = 17 → r.op = 0:=fun h17 => by
        rcases h17 with rfl | rfl <;>
        · unfold rowS at hr
          rw [if_neg (by omega),if_neg (by omega),if_neg (by omega),if_neg (by omega),if_neg (by omega)] at hr
          obtain rfl:=Option.some.inj hr
          rfl
      omega
    have hrw:=sub_rep (nm:=nm) (g:=g) (n:=m) (us:=us) (sub:=sub) ho1
    rw [hrw] at hf
    rw [hrw,if_neg (by rw [hf]; simp [Fm.op,ho]),← (Prod.mk.inj h).1,← addS_rep,hrw]
    simp only [Fm.subs,get_rep']
theorem stepS_rep (hc:ca ≠ 3) (hg:fmB ca g = true) {rule:Nat} {s:Sq} {f:Fm} {u:Tm} {n:ByteArray} (h:(stepS ca s rule f u n).2 = 0) (hf:(repF nm g f).right = true) (hl:(repFs nm g s.l).all Fm.right = true) (hr:(repFs nm g s.r).all Fm.right = true) :
    stepS ca (repS nm g s) rule (repF nm g f) u n = ((stepS ca s rule f u n).1.map (repS nm g),0):=by
  obtain ⟨r,k1,k2,k3,k4,k5,k6,k7⟩:=stepS_zero h
  have hfm:fmB ca f = true:=by
    unfold addsS at k3
    by_cases hq:(!fmB ca f || (decide (r.op ≠ 0) && decide (f.op ≠ r.op))) = true
    · rw [if_pos hq] at k3; simp at k3
    · cases hq':fmB ca f
      · rw [hq'] at hq; simp at hq
      · rfl
  have hp:=validB_parts k1
  have ha:=addsS_rep (nm:=nm) (g:=g) hc k2 (Prod.ext rfl k3:addsS ca rule r f u n = ((addsS ca rule r f u n).1,0)) (fmB_rep hg hfm hf)
  have h2:r.asks ≠ 2:=by rw [rowS_asks hc k2]; decide
  have:=stepS_of (ca:=ca) (s:=repS nm g s) (rule:=rule) (main:=repF nm g f) (term:=u) (name:=n) (r:=r) (validB_rep hc hg k1 hl hr) k2 (by rw [ha]) (fun q => hasF_rep hc hg hp.1 hl hfm hf (k4 q)) (fun q => hasF_rep hc hg hp.2 hr hfm hf (k5 q)) (fun q => absurd q h2)
  rw [this,ha,k7]
theorem fmB_right {f:Fm} (h:fmB ca f = true):f.right = true:=by
  unfold fmB at h
  simp only [Bool.and_eq_true] at h
  exact h.1
theorem all_right {l:List Fm} (h:l.all (fmB ca) = true):l.all Fm.right = true:=List.all_eq_true.2 fun f hf => fmB_right (List.all_eq_true.1 h f hf)
theorem repFs_append (l m:List Fm):repFs nm g (l ++ m) = repFs nm g l ++ repFs nm g m:=by simp only [repFs_map,List.map_append]
theorem sq_rep:∀ t:Tr,(repT nm g t).sq = repS nm g t.sq
  | .mk _ _ _ _ _ _ => rfl
theorem premsB_rep (hc:ca ≠ 3) (hg:fmB ca g = true) {s:Sq} (hs:s.l.all (fmB ca) = true ∧ s.r.all (fmB ca) = true) (hsr:(repS nm g s).l.all Fm.right = true ∧ (repS nm g s).r.all Fm.right = true):∀ (ad:List Sq) (ts:List Tr),(∀ q ∈ ad,q.l.all (fmB ca) = true ∧ q.r.all (fmB ca) = true) →
    (∀ q ∈ ad,(repS nm g q).l.all Fm.right = true ∧ (repS nm g q).r.all Fm.right = true) → (∀ t ∈ ts,t.sq.l.all (fmB ca) = true ∧ t.sq.r.all (fmB ca) = true) → (∀ t ∈ ts,(repS nm g t.sq).l.all Fm.right = true ∧ (repS nm g t.sq).r.all Fm.right = true) →
    premsB s ad ts = true → premsB (repS nm g s) (ad.map (repS nm g)) (repTs nm g ts) = true
  | [],ts,_,_,_,_,_ => by cases ts <;> rfl
  | m :: l,[],_,_,_,_,_ => rfl
  | m :: l,t :: ts,h1,h2,h3,h4,h => by
    simp only [premsB,Bool.and_eq_true,withinB] at h
    simp only [List.map_cons,repTs,premsB,Bool.and_eq_true,withinB,sq_rep]
    have a1:=h1 m (by simp)
    have a2:=h2 m (by simp)
    have a3:=h3 t (by simp)
    have a4:=h4 t (by simp)
    refine ⟨⟨?_,?_⟩,premsB_rep hc hg hs hsr l ts (fun q hq => h1 q (by simp [hq])) (fun q hq => h2 q (by simp [hq])) (fun q hq => h3 q (by simp [hq])) (fun q hq => h4 q (by simp [hq])) h.2⟩
    · have:=allF_rep (nm:=nm) hc hg (l:=t.sq.l) (m:=s.l ++ m.l) a3.1 a4.1 (by rw [List.all_append,hs.1,a1.1]; rfl) (by
        rw [repFs_append,List.all_append]
        rw [show (repFs nm g s.l).all Fm.right = true from hsr.1,show (repFs nm g m.l).all Fm.right = true from a2.1]; rfl) h.1.1
      rw [repFs_append] at this
      exact this
    · have:=allF_rep (nm:=nm) hc hg (l:=t.sq.r) (m:=s.r ++ m.r) a3.2 a4.2 (by rw [List.all_append,hs.2,a1.2]; rfl) (by
        rw [repFs_append,List.all_append]
        rw [show (repFs nm g s.r).all Fm.right = true from hsr.2,show (repFs nm g m.r).all Fm.right = true from a2.2]; rfl) h.1.2
      rw [repFs_append] at this
      exact this
theorem rightTs_mem:∀ {l:List Tr} {a:Tr},rightTs l = true → a ∈ l → rightT a = true
  | b :: l,a,h,ha => by
    simp only [rightTs,Bool.and_eq_true] at h
    rcases List.mem_cons.1 ha with rfl | ha
    · exact h.1
    · exact rightTs_mem h.2 ha
theorem repTs_mem:∀ {l:List Tr} {a:Tr},a ∈ l → repT nm g a ∈ repTs nm g l
  | b :: l,a,ha => by
    simp only [repTs]
    rcases List.mem_cons.1 ha with rfl | ha
    · exact List.mem_cons_self ..
    · exact List.mem_cons_of_mem _ (repTs_mem ha)
mutual
theorem steps_rep:∀ t:Tr,(repT nm g t).steps = t.steps
  | .mk _ _ _ _ _ sub => by simp only [repT,Tr.steps,stepsTrs_rep sub]
theorem stepsTrs_rep:∀ l:List Tr,stepsTrs (repTs nm g l) = stepsTrs l
  | [] => rfl
  | a :: l => by simp only [repTs,stepsTrs,steps_rep a,stepsTrs_rep l]
end
theorem rightT_mk {rule:Nat} {s:Sq} {f:Fm} {u:Tm} {n:ByteArray} {sub:List Tr} (h:rightT (.mk rule s f u n sub) = true):f.right = true ∧ s.l.all Fm.right = true ∧ s.r.all Fm.right = true ∧ rightTs sub = true:=by
  simp only [rightT,Bool.and_eq_true] at h
  exact ⟨h.1.1.1,h.1.1.2,h.1.2,h.2⟩
mutual
noncomputable def okAll (ca:Nat):Tr → Bool
  | t@(.mk _ _ _ _ _ sub) => decide (checkS ca t = 0) && okAlls ca sub
noncomputable def okAlls (ca:Nat):List Tr → Bool
  | [] => true
  | a :: l => okAll ca a && okAlls ca l
end
mutual
theorem okAll_walk (ca:Nat):∀ (p:List Nat) (t:Tr),(firstBad (checkS ca) (t.walk p)).2 = 0 ↔ okAll ca t = true
  | p,.mk rule s f u n sub => by
    have ih:=okAlls_walk ca p 0 sub
    simp only [Tr.walk,firstBad,okAll,Bool.and_eq_true,decide_eq_true_eq]
    by_cases h:checkS ca (.mk rule s f u n sub) = 0
    · rw [if_pos h,ih]; simp [h]
    · rw [if_neg h]; simp [h]
theorem okAlls_walk (ca:Nat):∀ (p:List Nat) (i:Nat) (l:List Tr),(firstBad (checkS ca) (walkTrs p i l)).2 = 0 ↔ okAlls ca l = true
  | _,_,[] => by simp [walkTrs,firstBad,okAlls]
  | p,i,a :: l => by
    have i1:=okAll_walk ca (p ++ [i]) a
    have i2:=okAlls_walk ca p (i + 1) l
    simp only [walkTrs,firstBad_append,okAlls,Bool.and_eq_true]
    rw [← i1,← i2]
    by_cases h:(firstBad (checkS ca) (a.walk (p ++ [i]))).2 = 0
    · rw [if_pos h]; simp [h]
    · rw [if_neg h]; simp [h]
end
theorem CheckS_all {t:Tr}:(CheckS ca t).2 = 0 ↔ knownB ca = true ∧ t.steps ≤ 300 ∧ okAll ca t = true:=by
  unfold CheckS
  cases hk:knownB ca
  · simp
  · simp only [Bool.not_true,Bool.false_eq_true,if_false,true_and]
    split
    · simp; omega
    · rename_i h
      rw [okAll_walk]
      exact ⟨fun q => ⟨by omega,q⟩,fun q => q.2⟩
theorem okAlls_mem:∀ {l:List Tr} {a:Tr},okAlls ca l = true → a ∈ l → okAll ca a = true
  | b :: l,a,h,ha => by
    simp only [okAlls,Bool.and_eq_true] at h
    rcases List.mem_cons.1 ha with rfl | ha
    · exact h.1
    · exact okAlls_mem h.2 ha
theorem okAll_valid {t:Tr} (h:okAll ca t = true):validB ca t.sq = true:=by
  obtain ⟨rule,s,f,u,n,sub⟩:=t
  simp only [okAll,Bool.and_eq_true,decide_eq_true_eq] at h
  exact checkS_valid h.1
theorem checkS_rep (hc:ca ≠ 3) (hg:fmB ca g = true) {rule:Nat} {s:Sq} {f:Fm} {u:Tm} {n:ByteArray} {sub:List Tr} (hu:u.size ≤ 900000) (h:okAll ca (.mk rule s f u n sub) = true) (hr:rightT (repT nm g (.mk rule s f u n sub)) = true):checkS ca (repT nm g (.mk rule s f u n sub)) = 0:=by
  simp only [okAll,Bool.and_eq_true,decide_eq_true_eq] at h
  simp only [repT] at hr ⊢
  obtain ⟨r1,r2,r3,r4⟩:=rightT_mk hr
  obtain ⟨c1,c2,c3⟩:=checkS_step h.1
  have hst:=stepS_rep (nm:=nm) hc hg c1 r1 r2 r3
  obtain ⟨r,k1,k2,k3,k4,k5,k6,k7⟩:=stepS_zero c1
  have hv:=validB_parts k1
  have had:(addsS ca rule r f u n) = ((addsS ca rule r f u n).1,0):=Prod.ext rfl k3
  have hfm:fmB ca f = true:=by
    unfold addsS at k3
    by_cases hq:(!fmB ca f || (decide (r.op ≠ 0) && decide (f.op ≠ r.op))) = true
    · rw [if_pos hq] at k3; simp at k3
    · cases hq':fmB ca f
      · rw [hq'] at hq; simp at hq
      · rfl
  have ha1:=addsS_fm k2 hu had
  have ha2:=addsS_fm k2 hu (addsS_rep (nm:=nm) (g:=g) hc k2 had (fmB_rep hg hfm r1))
  have hst1:(stepS ca s rule f u n).1 = (addsS ca rule r f u n).1:=by rw [k7]
  rw [hst1] at hst c2 c3
  have hp:=premsB_rep (nm:=nm) hc hg hv ⟨r2,r3⟩ _ sub ha1 (fun q hq => by
    have:=ha2 _ (List.mem_map.2 ⟨q,hq,rfl⟩)
    exact ⟨all_right this.1,all_right this.2⟩) (fun t ht => validB_parts (okAll_valid (okAlls_mem h.2 ht))) (fun t ht => by
    have:=rightTs_mem r4 (repTs_mem (nm:=nm) (g:=g) ht)
    obtain ⟨rule',s',f',u',n',sub'⟩:=t
    simp only [repT] at this
    obtain ⟨_,q2,q3,_⟩:=rightT_mk this
    exact ⟨q2,q3⟩) c3
  simp only [checkS,hst,ne_eq,not_true_eq_false,if_false,repTs_len,List.length_map]
  rw [if_neg (by rw [c2]; exact fun h => h rfl),hp]
  rfl
mutual
def termsOk:Tr → Bool
  | .mk _ _ _ u _ sub => decide (u.size ≤ 900000) && termsOks sub
def termsOks:List Tr → Bool
  | [] => true
  | a :: l => termsOk a && termsOks l
end
mutual
theorem okAll_rep (hc:ca ≠ 3) (hg:fmB ca g = true):∀ t:Tr,termsOk t = true → okAll ca t = true → rightT (repT nm g t) = true → okAll ca (repT nm g t) = true
  | .mk rule s f u n sub,ht,h,hr => by
    simp only [termsOk,Bool.and_eq_true,decide_eq_true_eq] at ht
    have h1:=checkS_rep (nm:=nm) hc hg ht.1 h hr
    simp only [okAll,Bool.and_eq_true,decide_eq_true_eq] at h
    have hr':=hr
    simp only [repT] at hr'
    have h2:=okAlls_rep hc hg sub ht.2 h.2 (rightT_mk hr').2.2.2
    simp only [repT] at h1 ⊢
    simp only [okAll,Bool.and_eq_true,decide_eq_true_eq]
    exact ⟨h1,h2⟩
theorem okAlls_rep (hc:ca ≠ 3) (hg:fmB ca g = true):∀ l:List Tr,termsOks l = true → okAlls ca l = true → rightTs (repTs nm g l) = true → okAlls ca (repTs nm g l) = true
  | [],_,_,_ => rfl
  | a :: l,ht,h,hr => by
    simp only [termsOks,Bool.and_eq_true] at ht
    simp only [okAlls,Bool.and_eq_true] at h
    simp only [repTs,rightTs,Bool.and_eq_true] at hr
    simp only [repTs,okAlls,Bool.and_eq_true]
    exact ⟨okAll_rep hc hg a ht.1 h.1 hr.1,okAlls_rep hc hg l ht.2 h.2 hr.2⟩
end
theorem CheckS_rep (hc:ca ≠ 3) (hg:fmB ca g = true) {t:Tr} (ht:termsOk t = true) (h:(CheckS ca t).2 = 0) (hr:rightT (repT nm g t) = true):(CheckS ca (repT nm g t)).2 = 0:=by
  obtain ⟨h1,h2,h3⟩:=CheckS_all.1 h
  exact CheckS_all.2 ⟨h1,by rw [steps_rep]; exact h2,okAll_rep hc hg t ht h3 hr⟩
end
end Go.Proofs.Tryz
