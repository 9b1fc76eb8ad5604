/- Of small trees: what the check is shown for.
   What the check is shown for, node by node; how long a set is.
   The plain law of SequentWider: a formula more, and no formulas at all.
   The plain law of SequentWrong: one defect in the last step.
   Parts of formulas of a calculus are formulas of it (for SequentBacks).
   The rules' rows, one by one. -/
import Derived.Test.YtckafgnkmnichaaGreatDoorQH
import Derived.Test.YtckafgnkmnichaaGreatDoorKG
set_option linter.all false
namespace Go.Proofs.Tryz
open Go Go.Iv

mutual
theorem size_wTm:∀ t:Tm,t.size ≤ wTm t
  | .mk _ n us => by have:=size_wTms us; simp only [wTm,Tm.size]; omega
theorem size_wTms:∀ l:List Tm,sizeTms l ≤ wTms l
  | [] => Nat.le_refl _
  | a :: l => by have:=size_wTm a; have:=size_wTms l; simp only [wTms,sizeTms]; omega
end
mutual
theorem size_wFm:∀ f:Fm,f.size ≤ wFm f
  | .mk _ n us sub => by have:=size_wTms us; have:=size_wFms sub; simp only [wFm,Fm.size]; omega
theorem size_wFms:∀ l:List Fm,sizeFms l ≤ wFms l
  | [] => Nat.le_refl _
  | a :: l => by have:=size_wFm a; have:=size_wFms l; simp only [wFms,sizeFms]; omega
end
theorem nodeB_true {s:Sq} {f:Fm} {u:Tm} {n:ByteArray} (h:nodeB s f u n = true):wFms s.l + wFms s.r ≤ 300 ∧ wFm f ≤ 300 ∧ wTm u ≤ 300 ∧ n.size ≤ 100:=by
  unfold nodeB at h
  simp only [Bool.and_eq_true,decide_eq_true_eq,Bool.not_eq_true',decide_eq_false_iff_not] at h
  omega
theorem fitSq_of {s:Sq} (h:wFms s.l + wFms s.r ≤ 300):fitSq s:=by
  have:=size_wFms s.l
  have:=size_wFms s.r
  exact ⟨fun f hf => by have:=sizeFmsMem hf; omega,fun f hf => by have:=sizeFmsMem hf; omega⟩
theorem okTs_mem:∀ {l:List Tr} {a:Tr},okTs l = true → a ∈ l → okT a = true
  | b :: l,a,h,ha => by
    simp only [okTs,Bool.and_eq_true] at h
    rcases List.mem_cons.1 ha with rfl | ha
    · exact h.1
    · exact okTs_mem h.2 ha
theorem okT_node:∀ {t:Tr},okT t = true → nodeOk t
  | .mk rule s m u n sub,h => by
    simp only [okT,Bool.and_eq_true] at h
    obtain ⟨h1,h2,h3,_⟩:=nodeB_true h.1
    have:=size_wFm m
    have:=size_wTm u
    refine ⟨fitSq_of h1,by omega,by omega,fun a ha => ?_⟩
    have:=okTs_mem h.2 ha
    obtain ⟨rule',s',m',u',n',sub'⟩:=a
    simp only [okT,Bool.and_eq_true] at this
    exact fitSq_of (nodeB_true this.1).1
end Go.Proofs.Tryz

namespace Go.Proofs.Tryz
open Go Go.Iv

mutual
def NA:Tr → Prop
  | .mk _ s m u _ sub => fitSq s ∧ m.size ≤ 1000000 ∧ u.size ≤ 1000000 ∧ NAs sub
def NAs:List Tr → Prop
  | [] => True
  | a :: l => NA a ∧ NAs l
end
theorem NA_sq:∀ {t:Tr},NA t → fitSq t.sq
  | .mk _ _ _ _ _ _,h => by simp only [NA] at h; exact h.1
theorem NAs_mem:∀ {l:List Tr} {a:Tr},NAs l → a ∈ l → NA a
  | b :: l,a,h,ha => by
    simp only [NAs] at h
    rcases List.mem_cons.1 ha with rfl | ha
    · exact h.1
    · exact NAs_mem h.2 ha
theorem NA_node:∀ {t:Tr},NA t → nodeOk t
  | .mk _ _ _ _ _ _,h => by
    simp only [NA] at h
    exact ⟨h.1,h.2.1,h.2.2.1,fun a ha => NA_sq (NAs_mem h.2.2.2 ha)⟩
mutual
theorem NA_walk:∀ (p:List Nat) (t:Tr),NA t → ∀ q ∈ t.walk p,NA q.2
  | p,.mk rule s m u n sub,h,q,hq => by
    simp only [Tr.walk,List.mem_cons] at hq
    rcases hq with rfl | hq
    · exact h
    · simp only [NA] at h
      exact NAs_walk p 0 sub h.2.2.2 q hq
theorem NAs_walk:∀ (p:List Nat) (i:Nat) (l:List Tr),NAs l → ∀ q ∈ walkTrs p i l,NA q.2
  | _,_,[],_,q,hq => by cases hq
  | p,i,a :: l,h,q,hq => by
    simp only [NAs] at h
    simp only [walkTrs,List.mem_append] at hq
    rcases hq with hq | hq
    · exact NA_walk _ a h.1 q hq
    · exact NAs_walk p (i + 1) l h.2 q hq
end
theorem NA_fit {t:Tr} (h:NA t) (hs:t.steps ≤ 1099511627776):fitTr t:=⟨fun q hq => NA_node (NA_walk [] t h q hq),Nat.le_trans t.height_le_steps hs⟩
mutual
theorem okT_NA:∀ {t:Tr},okT t = true → NA t
  | .mk _ s m u n sub,h => by
    have hn:=okT_node h
    simp only [okT,Bool.and_eq_true] at h
    exact ⟨hn.1,hn.2.1,hn.2.2.1,okTs_NAs h.2⟩
theorem okTs_NAs:∀ {l:List Tr},okTs l = true → NAs l
  | [],_ => trivial
  | a :: l,h => by
    simp only [okTs,Bool.and_eq_true] at h
    exact ⟨okT_NA h.1,okTs_NAs h.2⟩
end
end Go.Proofs.Tryz

namespace Go.Proofs.Tryz
open Go Go.Iv

theorem stepS_of {ca:Nat} {s:Sq} {rule:Nat} {main:Fm} {term:Tm} {name:ByteArray} {r:Rw} (h1:validB ca s = true) (h2:rowS ca rule = some r) (h3:(addsS ca rule r main term name).2 = 0)
    (h4:r.left = true → hasF s.l main = true) (h5:r.right = true → hasF s.r main = true) (h6:r.asks = 2 → freeIn s name = false):stepS ca s rule main term name = ((addsS ca rule r main term name).1,0):=by
  unfold stepS
  have e1:(r.left && !hasF s.l main) = false:=by
    cases hl:r.left
    · rfl
    · rw [h4 hl]; rfl
  have e2:(r.right && !hasF s.r main) = false:=by
    cases hl:r.right
    · rfl
    · rw [h5 hl]; rfl
  have e3:(decide (r.asks = 2) && freeIn s name) = false:=by
    by_cases hl:r.asks = 2
    · rw [h6 hl]; simp
    · simp [hl]
  simp only [h1,h2,h3,e1,e2,e3,Bool.not_true,Bool.false_eq_true,if_false,Bool.or_false,decide_eq_true_eq,ne_eq,not_true_eq_false]
  rw [if_neg (by decide)]
theorem stepS_zero {ca:Nat} {s:Sq} {rule:Nat} {main:Fm} {term:Tm} {name:ByteArray} (h:(stepS ca s rule main term name).2 = 0) :
    ∃ r,validB ca s = true ∧ rowS ca rule = some r ∧ (addsS ca rule r main term name).2 = 0 ∧ (r.left = true → hasF s.l main = true) ∧ (r.right = true → hasF s.r main = true) ∧ (r.asks = 2 → freeIn s name = false) ∧
      stepS ca s rule main term name = ((addsS ca rule r main term name).1,0):=by
  have hv:=stepS_valid h
  cases hr:rowS ca rule with
  | none => unfold stepS at h; rw [hv,hr] at h; simp at h
  | some r =>
    have key:(addsS ca rule r main term name).2 = 0 ∧ (r.left && !hasF s.l main) = false ∧ (r.right && !hasF s.r main) = false ∧ (decide (r.asks = 2) && freeIn s name) = false:=by
      unfold stepS at h
      rw [hv,hr] at h
      simp only [Bool.not_true,Bool.false_eq_true,if_false] at h
      split at h
      · simp at h
      · rename_i h1
        simp only [Bool.or_eq_true,not_or,Bool.not_eq_true] at h1
        split at h
        · rename_i h2; exact absurd h h2
        · rename_i h2
          split at h
          · simp at h
          · rename_i h3
            exact ⟨Decidable.not_not.1 h2,h1.1.2,h1.2,by simpa using h3⟩
    obtain ⟨k1,k2,k3,k4⟩:=key
    have q4:r.left = true → hasF s.l main = true:=fun hl => by rw [hl] at k2; simpa using k2
    have q5:r.right = true → hasF s.r main = true:=fun hl => by rw [hl] at k3; simpa using k3
    have q6:r.asks = 2 → freeIn s name = false:=fun hl => by rw [hl] at k4; simpa using k4
    exact ⟨r,hv,rfl,k1,q4,q5,q6,stepS_of hv hr k1 q4 q5 q6⟩
theorem CheckS_unfold {ca:Nat} {t:Tr} (hk:knownB ca = true) (hs:t.steps ≤ 300):CheckS ca t = firstBad (checkS ca) (t.walk []):=by
  unfold CheckS
  rw [hk]
  simp only [Bool.not_true,Bool.false_eq_true,if_false]
  rw [if_neg (by omega)]
theorem CheckS_zero {ca rule:Nat} {s:Sq} {f:Fm} {u:Tm} {n:ByteArray} {sub:List Tr} (h:(CheckS ca (.mk rule s f u n sub)).2 = 0) :
    knownB ca = true ∧ (Tr.mk rule s f u n sub).steps ≤ 300 ∧ checkS ca (.mk rule s f u n sub) = 0 ∧ (firstSub (checkS ca) 0 sub).2 = 0:=by
  cases hk:knownB ca
  · rw [CheckS_arg_place ca _ hk] at h; simp at h
  · by_cases hs:(Tr.mk rule s f u n sub).steps ≤ 300
    · rw [CheckS_unfold hk hs,firstBad_tree] at h
      by_cases hc:checkS ca (.mk rule s f u n sub) = 0
      · rw [if_pos hc] at h; exact ⟨rfl,hs,hc,h⟩
      · rw [if_neg hc] at h; exact absurd h hc
    · unfold CheckS at h
      rw [hk] at h
      simp only [Bool.not_true,Bool.false_eq_true,if_false] at h
      rw [if_pos (by omega)] at h
      simp at h
theorem CheckS_root {ca rule:Nat} {s:Sq} {f:Fm} {u:Tm} {n:ByteArray} {sub:List Tr} (hk:knownB ca = true) (hs:(Tr.mk rule s f u n sub).steps ≤ 300) {e:Nat} (he:(stepS ca s rule f u n).2 = e) (h0:e ≠ 0):CheckS ca (.mk rule s f u n sub) = ([],e):=by
  have hc:checkS ca (.mk rule s f u n sub) = e:=by simp only [checkS,he,if_pos h0]
  rw [CheckS_unfold hk hs,firstBad_tree,hc,if_neg h0]
def addSq (ca:Nat) (rt:Bool) (s:Sq) (f:Fm):Sq:=if rt && decide (ca ≠ 2) then ⟨s.l,s.r ++ [f]⟩ else ⟨s.l ++ [f],s.r⟩
theorem validB_known {ca:Nat} {s:Sq} (h:validB ca s = true):knownB ca = true:=by
  unfold validB at h
  simp only [Bool.and_eq_true] at h
  exact h.1.1.1.1.1
theorem validB_add {ca:Nat} {rt:Bool} {s:Sq} {f:Fm} (h:validB ca s = true) (h1:s.l.length < 64) (h2:s.r.length < 64):validB ca (addSq ca rt s f) = fmB ca f:=by
  unfold validB at h
  simp only [Bool.and_eq_true,decide_eq_true_eq] at h
  obtain ⟨⟨⟨⟨⟨q1,q2⟩,q3⟩,q4⟩,q5⟩,q6⟩:=h
  unfold addSq
  split
  · rename_i hc
    simp only [Bool.and_eq_true,decide_eq_true_eq] at hc
    unfold validB
    simp only [q1,q4,List.all_append,q5,List.all_cons,List.all_nil,List.length_append,List.length_cons,List.length_nil,decide_eq_true (show s.l.length ≤ 64 by omega),decide_eq_true (show s.r.length + (0 + 1) ≤ 64 by omega),decide_eq_true hc.2,Bool.true_and,Bool.and_true,Bool.true_or]
  · unfold validB
    simp only [q1,q4,List.all_append,q5,q6,List.all_cons,List.all_nil,List.length_append,List.length_cons,List.length_nil,decide_eq_true (show s.r.length ≤ 64 by omega),decide_eq_true (show s.l.length + (0 + 1) ≤ 64 by omega),Bool.true_and,Bool.and_true]
theorem addSq_sub (ca:Nat) (rt:Bool) (s:Sq) (f:Fm):(∀ x ∈ s.l,x ∈ (addSq ca rt s f).l) ∧ ∀ x ∈ s.r,x ∈ (addSq ca rt s f).r:=by
  unfold addSq
  split
  · exact ⟨fun _ h => h,fun _ h => List.mem_append_left _ h⟩
  · exact ⟨fun _ h => List.mem_append_left _ h,fun _ h => h⟩
theorem hasF_mono {l m:List Fm} (h:∀ x ∈ l,x ∈ m) {f:Fm} (k:hasF l f = true):hasF m f = true:=by
  obtain ⟨g,hg,he⟩:=hasF_true.1 k
  exact hasF_true.2 ⟨g,h g hg,he⟩
theorem freeIn_add (ca:Nat) (rt:Bool) (s:Sq) (f:Fm) (n:ByteArray):freeIn (addSq ca rt s f) n = (freeIn s n || memB (frF f) n):=by
  unfold addSq
  split
  · simp [freeIn,Bool.or_assoc]
  · simp only [freeIn,List.any_append,List.any_cons,List.any_nil,Bool.or_false]
    cases s.l.any (fun f => memB (frF f) n) <;> cases s.r.any (fun f => memB (frF f) n) <;> cases memB (frF f) n <;> rfl
theorem premsB_mono {s s':Sq} (h:(∀ x ∈ s.l,x ∈ s'.l) ∧ ∀ x ∈ s.r,x ∈ s'.r):∀ (l:List Sq) (ts:List Tr),premsB s l ts = true → premsB s' l ts = true
  | [],ts,_ => by cases ts <;> rfl
  | m :: l,[],_ => rfl
  | m :: l,t :: ts,k => by
    simp only [premsB,Bool.and_eq_true,withinB] at k ⊢
    refine ⟨⟨allF_true.2 fun f hf => hasF_mono (fun x hx => ?_) (allF_true.1 k.1.1 f hf),allF_true.2 fun f hf => hasF_mono (fun x hx => ?_) (allF_true.1 k.1.2 f hf)⟩,premsB_mono h l ts k.2⟩
    · simp only [Sq.plus,List.mem_append] at hx ⊢
      exact hx.imp (h.1 x) id
    · simp only [Sq.plus,List.mem_append] at hx ⊢
      exact hx.imp (h.2 x) id
section
variable {ca rule:Nat} {s:Sq} {f:Fm} {u:Tm} {n:ByteArray} {sub:List Tr} (h:(CheckS ca (.mk rule s f u n sub)).2 = 0) (h1:s.l.length < 64) (h2:s.r.length < 64)
include h h1 h2
theorem CheckS_wide_bad (rt:Bool) (g:Fm) (hg:fmB ca g = false):CheckS ca (.mk rule (addSq ca rt s g) f u n sub) = ([],190):=by
  obtain ⟨hk,hs,hc,_⟩:=CheckS_zero h
  refine CheckS_root (s:=addSq ca rt s g) hk hs (e:=190) ?_ (by decide)
  unfold stepS
  rw [validB_add (checkS_valid hc) h1 h2,hg]
  rfl
theorem CheckS_wide_free (rt:Bool) (g:Fm) (hg:fmB ca g = true) (hr:∀ r,rowS ca rule = some r → r.asks = 2) (hn:memB (frF g) n = true):CheckS ca (.mk rule (addSq ca rt s g) f u n sub) = ([],193):=by
  obtain ⟨hk,hs,hc,_⟩:=CheckS_zero h
  refine CheckS_root (s:=addSq ca rt s g) hk hs (e:=193) ?_ (by decide)
  have hz:(stepS ca s rule f u n).2 = 0:=by
    simp only [checkS] at hc
    split at hc
    · rename_i q; exact absurd hc q
    · rename_i q; exact Decidable.not_not.1 q
  obtain ⟨r,k1,k2,k3,k4,k5,k6,_⟩:=stepS_zero hz
  have hl:=addSq_sub ca rt s g
  have e1:(r.left && !hasF (addSq ca rt s g).l f) = false:=by
    cases q:r.left
    · rfl
    · rw [hasF_mono hl.1 (k4 q)]; rfl
  have e2:(r.right && !hasF (addSq ca rt s g).r f) = false:=by
    cases q:r.right
    · rfl
    · rw [hasF_mono hl.2 (k5 q)]; rfl
  unfold stepS
  rw [validB_add k1 h1 h2,hg,k2]
  simp only [k3,e1,e2,hr r k2,freeIn_add,hn,Bool.or_true,Bool.not_true,Bool.false_eq_true,if_false,Bool.or_false,decide_eq_true_eq,ne_eq,not_true_eq_false,decide_true,Bool.and_true,if_true]
  rw [if_neg (by decide)]
theorem CheckS_wide (rt:Bool) (g:Fm) (hg:fmB ca g = true) (hn:∀ r,rowS ca rule = some r → r.asks = 2 → memB (frF g) n = false):(CheckS ca (.mk rule (addSq ca rt s g) f u n sub)).2 = 0:=by
  obtain ⟨hk,hs,hc,hb⟩:=CheckS_zero h
  have hz:(stepS ca s rule f u n).2 = 0:=by
    have:=hc
    simp only [checkS] at this
    split at this
    · rename_i q; exact absurd this q
    · rename_i q; exact Decidable.not_not.1 q
  obtain ⟨r,k1,k2,k3,k4,k5,k6,k7⟩:=stepS_zero hz
  have hl:=addSq_sub ca rt s g
  have hst:=stepS_of (by rw [validB_add (rt:=rt) k1 h1 h2,hg]) k2 k3 (fun q => hasF_mono hl.1 (k4 q)) (fun q => hasF_mono hl.2 (k5 q)) (fun q => by rw [freeIn_add,k6 q,hn r k2 q]; rfl)
  have hc':checkS ca (.mk rule (addSq ca rt s g) f u n sub) = 0:=by
    simp only [checkS,k7] at hc
    simp only [checkS,hst]
    simp only [ne_eq,not_true_eq_false,if_false] at hc ⊢
    split at hc
    · simp at hc
    · rename_i q
      rw [if_neg q]
      split at hc
      · rename_i q2
        rw [if_pos (premsB_mono hl _ _ q2)]
      · simp at hc
  rw [CheckS_unfold (t:=.mk rule (addSq ca rt s g) f u n sub) hk hs,firstBad_tree,if_pos hc']
  exact hb
omit h1 h2 in
theorem CheckS_bare (hr:∀ r,rowS ca rule = some r → r.left = true ∨ r.right = true):CheckS ca (.mk rule ⟨[],[]⟩ f u n sub) = ([],192):=by
  obtain ⟨hk,hs,hc,_⟩:=CheckS_zero h
  refine CheckS_root (s:=⟨[],[]⟩) hk hs (e:=192) ?_ (by decide)
  have hz:(stepS ca s rule f u n).2 = 0:=by
    simp only [checkS] at hc
    split at hc
    · rename_i q; exact absurd hc q
    · rename_i q; exact Decidable.not_not.1 q
  obtain ⟨r,k1,k2,k3,_⟩:=stepS_zero hz
  have hv:validB ca ⟨[],[]⟩ = true:=by simp [validB,hk,firstsB]
  unfold stepS
  rw [hv,k2]
  have h0:hasF [] f = false:=rfl
  simp only [h0,k3,Bool.not_true,Bool.false_eq_true,if_false,Bool.not_false,Bool.and_true]
  rw [if_pos]
  rcases hr r k2 with q | q <;> simp [q]
end
end Go.Proofs.Tryz

namespace Go.Proofs.Tryz
open Go Go.Iv

theorem checkS_step {ca rule:Nat} {s:Sq} {f:Fm} {u:Tm} {n:ByteArray} {sub:List Tr} (hc:checkS ca (.mk rule s f u n sub) = 0) :
    (stepS ca s rule f u n).2 = 0 ∧ sub.length = (stepS ca s rule f u n).1.length ∧ premsB s (stepS ca s rule f u n).1 sub = true:=by
  simp only [checkS] at hc
  split at hc
  · rename_i q; exact absurd hc q
  · rename_i q
    split at hc
    · simp at hc
    · rename_i q2
      split at hc
      · rename_i q3; exact ⟨Decidable.not_not.1 q,Decidable.not_not.1 q2,q3⟩
      · simp at hc
theorem rowK_none {rule:Nat} (h:19 ≤ rule):rowK rule = none:=by
  unfold rowK
  repeat (rw [if_neg (by omega)])
theorem rowS_none {ca rule:Nat} (h:19 ≤ rule):rowS ca rule = none:=by
  unfold rowS
  rw [if_neg (by omega),if_neg (by omega),if_neg (by omega),if_neg (by omega),if_neg (by omega),rowK_none h]
section
variable {ca rule:Nat} {s:Sq} {f:Fm} {u:Tm} {n:ByteArray} {sub:List Tr} (h:(CheckS ca (.mk rule s f u n sub)).2 = 0)
include h
end
end Go.Proofs.Tryz

namespace Go.Proofs.Tryz
open Go Go.Iv

theorem sizeFms_mem:∀ {l:List Fm} {g:Fm},g ∈ l → g.size ≤ sizeFms l
  | a :: l,g,hg => by
    simp only [sizeFms]
    rcases List.mem_cons.1 hg with rfl | hg
    · omega
    · have:=sizeFms_mem hg; omega
theorem deepFms_mem:∀ {l:List Fm} {g:Fm},g ∈ l → g.deep ≤ deepFms l
  | a :: l,g,hg => by
    simp only [deepFms]
    rcases List.mem_cons.1 hg with rfl | hg
    · omega
    · have:=deepFms_mem hg; omega
theorem opsBs_mem {ca:Nat}:∀ {l:List Fm} {g:Fm},opsBs ca l = true → g ∈ l → opsB ca g = true
  | a :: l,g,h,hg => by
    simp only [opsBs,Bool.and_eq_true] at h
    rcases List.mem_cons.1 hg with rfl | hg
    · exact h.1
    · exact opsBs_mem h.2 hg
theorem fmB_true {ca:Nat} {f:Fm}:fmB ca f = true ↔ f.ok = true ∧ f.size ≤ 400 ∧ f.deep ≤ 40 ∧ opsB ca f = true:=by
  unfold fmB Fm.right
  simp only [Bool.and_eq_true,decide_eq_true_eq,and_assoc]
theorem fmB_part {ca op:Nat} {n:ByteArray} {us:List Tm} {sub:List Fm} (h:fmB ca (.mk op n us sub) = true) {g:Fm} (hg:g ∈ sub):fmB ca g = true:=by
  obtain ⟨h1,h2,h3,h4⟩:=fmB_true.1 h
  simp only [Fm.ok,Bool.and_eq_true] at h1
  simp only [Fm.size] at h2
  simp only [Fm.deep] at h3
  simp only [opsB,Bool.and_eq_true] at h4
  have:=sizeFms_mem hg
  have:=deepFms_mem hg
  exact fmB_true.2 ⟨okFms_mem h1.2 hg,by omega,by omega,opsBs_mem h4.2 hg⟩
theorem fmB_imp {ca:Nat} {n:ByteArray} {us:List Tm} {a b:Fm} (h:fmB ca (.mk 7 n us [a,b]) = true):fmB ca (impF a b) = true ∧ fmB ca (impF b a) = true:=by
  obtain ⟨h1,h2,h3,h4⟩:=fmB_true.1 h
  simp only [Fm.ok,okFms,Bool.and_eq_true] at h1
  simp only [Fm.size,sizeFms] at h2
  simp only [Fm.deep,deepFms] at h3
  simp only [opsB,opsBs,Bool.and_eq_true] at h4
  have key:∀ x y:Fm,x.ok = true → y.ok = true → opsB ca x = true → opsB ca y = true → x.size + y.size + 1 ≤ 400 → max x.deep y.deep + 1 ≤ 40 → fmB ca (impF x y) = true:=fun x y q1 q2 q3 q4 q5 q6 => by
    refine fmB_true.2 ⟨?_,?_,?_,?_⟩
    · simp [impF,Fm.ok,okFms,okTms,okRow,q1,q2,bE]
    · simp only [impF,Fm.size,sizeFms,sizeTms]; omega
    · simp only [impF,Fm.deep,deepFms,deepTms]; omega
    · simp only [impF,opsB,opsBs,q3,q4,List.isEmpty_nil,Bool.or_true,Bool.and_true,Bool.and_eq_true,decide_eq_true_eq]
      refine ⟨by omega,?_⟩
      split <;> omega
  exact ⟨key a b h1.2.1 h1.2.2.1 h4.2.1 h4.2.2.1 (by omega) (by omega),key b a h1.2.2.1 h1.2.1 h4.2.2.1 h4.2.1 (by omega) (by omega)⟩
mutual
theorem opsB_form:∀ (f:Fm) (ps:Sb),opsB 3 (formS ps f) = opsB 3 f
  | .mk op m us sub,ps => by
    simp only [formS,opsB,opsBs_form sub,decide_true,Bool.true_or]
theorem opsBs_form:∀ (l:List Fm) (ps:Sb),opsBs 3 (formSs ps l) = opsBs 3 l
  | [],_ => rfl
  | a :: l,ps => by simp only [formSs,opsBs,opsB_form a,opsBs_form l]
end
end Go.Proofs.Tryz

namespace Go.Proofs.Tryz
open Go Go.Iv

theorem peelS {α:Type} {c:Prop} [Decidable c] {a r:α} {x:Option α} (h:(if c then some a else x) = some r):(c ∧ r = a) ∨ (¬c ∧ x = some r):=by
  by_cases hc:c
  · rw [if_pos hc] at h; exact .inl ⟨hc,(Option.some.inj h).symm⟩
  · rw [if_neg hc] at h; exact .inr ⟨hc,h⟩
theorem peelI {α:Type} {c:Prop} [Decidable c] {a b r:α} (h:(if c then a else b) = r):(c ∧ a = r) ∨ (¬c ∧ b = r):=by
  by_cases hc:c
  · rw [if_pos hc] at h; exact .inl ⟨hc,h⟩
  · rw [if_neg hc] at h; exact .inr ⟨hc,h⟩
theorem peelM {α:Type} {c:Prop} [Decidable c] {q:α} {A B:List α} (h:q ∈ if c then A else B):(c ∧ q ∈ A) ∨ (¬c ∧ q ∈ B):=by
  by_cases hc:c
  · rw [if_pos hc] at h; exact .inl ⟨hc,h⟩
  · rw [if_neg hc] at h; exact .inr ⟨hc,h⟩
theorem row_cases {ca rule:Nat} {r:Rw} (h:rowS ca rule = some r):(rule = 1 ∧ r = ⟨true,true,0,0⟩) ∨ (rule = 2 ∧ r = ⟨true,false,2,0⟩) ∨ (rule = 3 ∧ r = ⟨true,false,3,0⟩) ∨ (rule = 4 ∧ r = ⟨false,true,3,0⟩) ∨ (rule = 5 ∧ r = ⟨true,false,4,0⟩) ∨ (rule = 6 ∧ r = ⟨false,true,4,0⟩) ∨
    (rule = 7 ∧ r = ⟨true,false,5,0⟩) ∨ (rule = 8 ∧ r = ⟨false,true,5,0⟩) ∨ (rule = 9 ∧ r = ⟨true,false,6,0⟩) ∨ (rule = 10 ∧ r = ⟨false,true,6,0⟩) ∨ (rule = 11 ∧ r = ⟨true,false,7,0⟩) ∨ (rule = 12 ∧ r = ⟨false,true,7,0⟩) ∨
    (rule = 13 ∧ r = ⟨true,false,8,1⟩) ∨ (rule = 14 ∧ r = ⟨false,true,8,2⟩) ∨ (rule = 15 ∧ r = ⟨true,false,9,2⟩) ∨ (rule = 16 ∧ r = ⟨false,true,9,1⟩) ∨ (rule = 17 ∧ r = ⟨false,false,0,0⟩) ∨ (rule = 18 ∧ r = ⟨false,true,5,0⟩):=by
  unfold rowS rowK at h
  rcases peelS h with ⟨⟨hc,hr⟩,hq⟩ | ⟨_,h⟩
  · subst hr; subst hq; simp
  rcases peelS h with ⟨⟨hc,hr⟩,hq⟩ | ⟨_,h⟩
  · subst hr; subst hq; simp
  rcases peelS h with ⟨⟨hc,hr⟩,hq⟩ | ⟨_,h⟩
  · subst hr; subst hq; simp
  rcases peelS h with ⟨⟨hc,hr⟩,hq⟩ | ⟨_,h⟩
  · subst hr; subst hq; simp
  rcases peelS h with ⟨⟨hc,hr⟩,hq⟩ | ⟨_,h⟩
  · subst hr; subst hq; simp
  rcases peelS h with ⟨hr,hq⟩ | ⟨_,h⟩
  · subst hr; subst hq; simp
  rcases peelS h with ⟨hr,hq⟩ | ⟨_,h⟩
  · subst hr; subst hq; simp
  rcases peelS h with ⟨hr,hq⟩ | ⟨_,h⟩
  · subst hr; subst hq; simp
  rcases peelS h with ⟨hr,hq⟩ | ⟨_,h⟩
  · subst hr; subst hq; simp
  rcases peelS h with ⟨hr,hq⟩ | ⟨_,h⟩
  · subst hr; subst hq; simp
  rcases peelS h with ⟨hr,hq⟩ | ⟨_,h⟩
  · subst hr; subst hq; simp
  rcases peelS h with ⟨hr,hq⟩ | ⟨_,h⟩
  · subst hr; subst hq; simp
  rcases peelS h with ⟨hr,hq⟩ | ⟨_,h⟩
  · subst hr; subst hq; simp
  rcases peelS h with ⟨hr,hq⟩ | ⟨_,h⟩
  · subst hr; subst hq; simp
  rcases peelS h with ⟨hr,hq⟩ | ⟨_,h⟩
  · subst hr; subst hq; simp
  rcases peelS h with ⟨hr,hq⟩ | ⟨_,h⟩
  · subst hr; subst hq; simp
  rcases peelS h with ⟨hr,hq⟩ | ⟨_,h⟩
  · subst hr; subst hq; simp
  rcases peelS h with ⟨hr,hq⟩ | ⟨_,h⟩
  · subst hr; subst hq; simp
  cases h
theorem row_ca {ca rule:Nat} {r:Rw} (h:rowS ca rule = some r):(rule = 18 → ca = 2) ∧ (13 ≤ rule → rule ≤ 16 → ca = 3):=by
  unfold rowS rowK at h
  rcases peelS h with ⟨⟨hc,hr⟩,hq⟩ | ⟨_,h⟩
  · omega
  rcases peelS h with ⟨⟨hc,hr⟩,hq⟩ | ⟨_,h⟩
  · omega
  rcases peelS h with ⟨⟨hc,hr⟩,hq⟩ | ⟨_,h⟩
  · omega
  rcases peelS h with ⟨⟨hc,hr⟩,hq⟩ | ⟨_,h⟩
  · omega
  rcases peelS h with ⟨⟨hc,hr⟩,hq⟩ | ⟨_,h⟩
  · omega
  rcases peelS h with ⟨hr,hq⟩ | ⟨_,h⟩
  · omega
  rcases peelS h with ⟨hr,hq⟩ | ⟨_,h⟩
  · omega
  rcases peelS h with ⟨hr,hq⟩ | ⟨_,h⟩
  · omega
  rcases peelS h with ⟨hr,hq⟩ | ⟨_,h⟩
  · omega
  rcases peelS h with ⟨hr,hq⟩ | ⟨_,h⟩
  · omega
  rcases peelS h with ⟨hr,hq⟩ | ⟨_,h⟩
  · omega
  rcases peelS h with ⟨hr,hq⟩ | ⟨_,h⟩
  · omega
  rcases peelS h with ⟨hr,hq⟩ | ⟨_,h⟩
  · omega
  rcases peelS h with ⟨hr,hq⟩ | ⟨_,h⟩
  · omega
  rcases peelS h with ⟨hr,hq⟩ | ⟨_,h⟩
  · omega
  rcases peelS h with ⟨hr,hq⟩ | ⟨_,h⟩
  · omega
  rcases peelS h with ⟨hr,hq⟩ | ⟨_,h⟩
  · omega
  rcases peelS h with ⟨hr,hq⟩ | ⟨_,h⟩
  · omega
  cases h
end Go.Proofs.Tryz
