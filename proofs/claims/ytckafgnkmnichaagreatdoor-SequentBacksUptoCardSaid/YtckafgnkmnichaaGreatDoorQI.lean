/- The plain law of SequentWider: a formula more, and no formulas at all.
   The plain law of SequentWrong: one defect in the last step.
   Parts of formulas of a calculus are formulas of it (for SequentBacks).
   The rules' rows, one by one.
   The plain law of SequentPuts: a formula put for an atom everywhere.
   The plain law of SequentBacks: the premises that a step may have at most.
   Walks: SequentBacks. -/
import Derived.Test.YtckafgnkmnichaaGreatDoorQH
import Derived.Test.YtckafgnkmnichaaGreatDoorKG
import Derived.Test.YtckafgnkmnichaaGreatDoorQF
set_option linter.all false
namespace Go.Proofs.Tryz
open Go Go.Iv

theorem stepS_of {ca:Nat} {s:Sq} {rule:Nat} {main:Fm} {term:Tm} {name:ByteArray} {r:Rw} (h1:validB ca s = true) (h2:rowS ca rule = some r) (h3:(addsS ca rule r main term name).2 = 0)
    (h4:r.left = true → hasF s.l main = true) (h5:r.right = true → hasF s.r main = true) (h6:r.asks = 2 → freeIn s name = false):stepS ca s rule main term name = ((addsS ca rule r main term name).1,0):=by
  unfold stepS
  have e1:(r.left && !hasF s.l main) = false:=by
    cases hl:r.left
    · rfl
    · rw [h4 hl]; rfl
  have e2:(r.right && !hasF s.r main) = false:=by
    cases hl:r.right
    · rfl
    · rw [h5 hl]; rfl
  have e3:(decide (r.asks = 2) && freeIn s name) = false:=by
    by_cases hl:r.asks = 2
    · rw [h6 hl]; simp
    · simp [hl]
  simp only [h1,h2,h3,e1,e2,e3,Bool.not_true,Bool.false_eq_true,if_false,Bool.or_false,decide_eq_true_eq,ne_eq,not_true_eq_false]
  rw [if_neg (by decide)]
theorem stepS_zero {ca:Nat} {s:Sq} {rule:Nat} {main:Fm} {term:Tm} {name:ByteArray} (h:(stepS ca s rule main term name).2 = 0) :
    ∃ r,validB ca s = true ∧ rowS ca rule = some r ∧ (addsS ca rule r main term name).2 = 0 ∧ (r.left = true → hasF s.l main = true) ∧ (r.right = true → hasF s.r main = true) ∧ (r.asks = 2 → freeIn s name = false) ∧
      stepS ca s rule main term name = ((addsS ca rule r main term name).1,0):=by
  have hv:=stepS_valid h
  cases hr:rowS ca rule with
  | none => unfold stepS at h; rw [hv,hr] at h; simp at h
  | some r =>
    have key:(addsS ca rule r main term name).2 = 0 ∧ (r.left && !hasF s.l main) = false ∧ (r.right && !hasF s.r main) = false ∧ (decide (r.asks = 2) && freeIn s name) = false:=by
      unfold stepS at h
      rw [hv,hr] at h
      simp only [Bool.not_true,Bool.false_eq_true,if_false] at h
      split at h
      · simp at h
      · rename_i h1
        simp only [Bool.or_eq_true,not_or,Bool.not_eq_true] at h1
        split at h
        · rename_i h2; exact absurd h h2
        · rename_i h2
          split at h
          · simp at h
          · rename_i h3
            exact ⟨Decidable.not_not.1 h2,h1.1.2,h1.2,by simpa using h3⟩
    obtain ⟨k1,k2,k3,k4⟩:=key
    have q4:r.left = true → hasF s.l main = true:=fun hl => by rw [hl] at k2; simpa using k2
    have q5:r.right = true → hasF s.r main = true:=fun hl => by rw [hl] at k3; simpa using k3
    have q6:r.asks = 2 → freeIn s name = false:=fun hl => by rw [hl] at k4; simpa using k4
    exact ⟨r,hv,rfl,k1,q4,q5,q6,stepS_of hv hr k1 q4 q5 q6⟩
theorem CheckS_unfold {ca:Nat} {t:Tr} (hk:knownB ca = true) (hs:t.steps ≤ 300):CheckS ca t = firstBad (checkS ca) (t.walk []):=by
  unfold CheckS
  rw [hk]
  simp only [Bool.not_true,Bool.false_eq_true,if_false]
  rw [if_neg (by omega)]
theorem CheckS_zero {ca rule:Nat} {s:Sq} {f:Fm} {u:Tm} {n:ByteArray} {sub:List Tr} (h:(CheckS ca (.mk rule s f u n sub)).2 = 0) :
    knownB ca = true ∧ (Tr.mk rule s f u n sub).steps ≤ 300 ∧ checkS ca (.mk rule s f u n sub) = 0 ∧ (firstSub (checkS ca) 0 sub).2 = 0:=by
  cases hk:knownB ca
  · rw [CheckS_arg_place ca _ hk] at h; simp at h
  · by_cases hs:(Tr.mk rule s f u n sub).steps ≤ 300
    · rw [CheckS_unfold hk hs,firstBad_tree] at h
      by_cases hc:checkS ca (.mk rule s f u n sub) = 0
      · rw [if_pos hc] at h; exact ⟨rfl,hs,hc,h⟩
      · rw [if_neg hc] at h; exact absurd h hc
    · unfold CheckS at h
      rw [hk] at h
      simp only [Bool.not_true,Bool.false_eq_true,if_false] at h
      rw [if_pos (by omega)] at h
      simp at h
theorem CheckS_root {ca rule:Nat} {s:Sq} {f:Fm} {u:Tm} {n:ByteArray} {sub:List Tr} (hk:knownB ca = true) (hs:(Tr.mk rule s f u n sub).steps ≤ 300) {e:Nat} (he:(stepS ca s rule f u n).2 = e) (h0:e ≠ 0):CheckS ca (.mk rule s f u n sub) = ([],e):=by
  have hc:checkS ca (.mk rule s f u n sub) = e:=by simp only [checkS,he,if_pos h0]
  rw [CheckS_unfold hk hs,firstBad_tree,hc,if_neg h0]
theorem validB_known {ca:Nat} {s:Sq} (h:validB ca s = true):knownB ca = true:=by
  unfold validB at h
  simp only [Bool.and_eq_true] at h
  exact h.1.1.1.1.1
section
variable {ca rule:Nat} {s:Sq} {f:Fm} {u:Tm} {n:ByteArray} {sub:List Tr} (h:(CheckS ca (.mk rule s f u n sub)).2 = 0) (h1:s.l.length < 64) (h2:s.r.length < 64)
include h h1 h2
end
end Go.Proofs.Tryz

namespace Go.Proofs.Tryz
open Go Go.Iv

theorem checkS_step {ca rule:Nat} {s:Sq} {f:Fm} {u:Tm} {n:ByteArray} {sub:List Tr} (hc:checkS ca (.mk rule s f u n sub) = 0) :
    (stepS ca s rule f u n).2 = 0 ∧ sub.length = (stepS ca s rule f u n).1.length ∧ premsB s (stepS ca s rule f u n).1 sub = true:=by
  simp only [checkS] at hc
  split at hc
  · rename_i q; exact absurd hc q
  · rename_i q
    split at hc
    · simp at hc
    · rename_i q2
      split at hc
      · rename_i q3; exact ⟨Decidable.not_not.1 q,Decidable.not_not.1 q2,q3⟩
      · simp at hc
section
variable {ca rule:Nat} {s:Sq} {f:Fm} {u:Tm} {n:ByteArray} {sub:List Tr} (h:(CheckS ca (.mk rule s f u n sub)).2 = 0)
include h
end
end Go.Proofs.Tryz

namespace Go.Proofs.Tryz
open Go Go.Iv

theorem sizeFms_mem:∀ {l:List Fm} {g:Fm},g ∈ l → g.size ≤ sizeFms l
  | a :: l,g,hg => by
    simp only [sizeFms]
    rcases List.mem_cons.1 hg with rfl | hg
    · omega
    · have:=sizeFms_mem hg; omega
theorem deepFms_mem:∀ {l:List Fm} {g:Fm},g ∈ l → g.deep ≤ deepFms l
  | a :: l,g,hg => by
    simp only [deepFms]
    rcases List.mem_cons.1 hg with rfl | hg
    · omega
    · have:=deepFms_mem hg; omega
theorem opsBs_mem {ca:Nat}:∀ {l:List Fm} {g:Fm},opsBs ca l = true → g ∈ l → opsB ca g = true
  | a :: l,g,h,hg => by
    simp only [opsBs,Bool.and_eq_true] at h
    rcases List.mem_cons.1 hg with rfl | hg
    · exact h.1
    · exact opsBs_mem h.2 hg
theorem fmB_true {ca:Nat} {f:Fm}:fmB ca f = true ↔ f.ok = true ∧ f.size ≤ 400 ∧ f.deep ≤ 40 ∧ opsB ca f = true:=by
  unfold fmB Fm.right
  simp only [Bool.and_eq_true,decide_eq_true_eq,and_assoc]
theorem fmB_part {ca op:Nat} {n:ByteArray} {us:List Tm} {sub:List Fm} (h:fmB ca (.mk op n us sub) = true) {g:Fm} (hg:g ∈ sub):fmB ca g = true:=by
  obtain ⟨h1,h2,h3,h4⟩:=fmB_true.1 h
  simp only [Fm.ok,Bool.and_eq_true] at h1
  simp only [Fm.size] at h2
  simp only [Fm.deep] at h3
  simp only [opsB,Bool.and_eq_true] at h4
  have:=sizeFms_mem hg
  have:=deepFms_mem hg
  exact fmB_true.2 ⟨okFms_mem h1.2 hg,by omega,by omega,opsBs_mem h4.2 hg⟩
theorem fmB_imp {ca:Nat} {n:ByteArray} {us:List Tm} {a b:Fm} (h:fmB ca (.mk 7 n us [a,b]) = true):fmB ca (impF a b) = true ∧ fmB ca (impF b a) = true:=by
  obtain ⟨h1,h2,h3,h4⟩:=fmB_true.1 h
  simp only [Fm.ok,okFms,Bool.and_eq_true] at h1
  simp only [Fm.size,sizeFms] at h2
  simp only [Fm.deep,deepFms] at h3
  simp only [opsB,opsBs,Bool.and_eq_true] at h4
  have key:∀ x y:Fm,x.ok = true → y.ok = true → opsB ca x = true → opsB ca y = true → x.size + y.size + 1 ≤ 400 → max x.deep y.deep + 1 ≤ 40 → fmB ca (impF x y) = true:=fun x y q1 q2 q3 q4 q5 q6 => by
    refine fmB_true.2 ⟨?_,?_,?_,?_⟩
    · simp [impF,Fm.ok,okFms,okTms,okRow,q1,q2,bE]
    · simp only [impF,Fm.size,sizeFms,sizeTms]; omega
    · simp only [impF,Fm.deep,deepFms,deepTms]; omega
    · simp only [impF,opsB,opsBs,q3,q4,List.isEmpty_nil,Bool.or_true,Bool.and_true,Bool.and_eq_true,decide_eq_true_eq]
      refine ⟨by omega,?_⟩
      split <;> omega
  exact ⟨key a b h1.2.1 h1.2.2.1 h4.2.1 h4.2.2.1 (by omega) (by omega),key b a h1.2.2.1 h1.2.1 h4.2.2.1 h4.2.1 (by omega) (by omega)⟩
mutual
theorem opsB_form:∀ (f:Fm) (ps:Sb),opsB 3 (formS ps f) = opsB 3 f
  | .mk op m us sub,ps => by
    simp only [formS,opsB,opsBs_form sub,decide_true,Bool.true_or]
theorem opsBs_form:∀ (l:List Fm) (ps:Sb),opsBs 3 (formSs ps l) = opsBs 3 l
  | [],_ => rfl
  | a :: l,ps => by simp only [formSs,opsBs,opsB_form a,opsBs_form l]
end
end Go.Proofs.Tryz

namespace Go.Proofs.Tryz
open Go Go.Iv

theorem peelS {α:Type} {c:Prop} [Decidable c] {a r:α} {x:Option α} (h:(if c then some a else x) = some r):(c ∧ r = a) ∨ (¬c ∧ x = some r):=by
  by_cases hc:c
  · rw [if_pos hc] at h; exact .inl ⟨hc,(Option.some.inj h).symm⟩
  · rw [if_neg hc] at h; exact .inr ⟨hc,h⟩
theorem peelI {α:Type} {c:Prop} [Decidable c] {a b r:α} (h:(if c then a else b) = r):(c ∧ a = r) ∨ (¬c ∧ b = r):=by
  by_cases hc:c
  · rw [if_pos hc] at h; exact .inl ⟨hc,h⟩
  · rw [if_neg hc] at h; exact .inr ⟨hc,h⟩
theorem peelM {α:Type} {c:Prop} [Decidable c] {q:α} {A B:List α} (h:q ∈ if c then A else B):(c ∧ q ∈ A) ∨ (¬c ∧ q ∈ B):=by
  by_cases hc:c
  · rw [if_pos hc] at h; exact .inl ⟨hc,h⟩
  · rw [if_neg hc] at h; exact .inr ⟨hc,h⟩
theorem row_cases {ca rule:Nat} {r:Rw} (h:rowS ca rule = some r):(rule = 1 ∧ r = ⟨true,true,0,0⟩) ∨ (rule = 2 ∧ r = ⟨true,false,2,0⟩) ∨ (rule = 3 ∧ r = ⟨true,false,3,0⟩) ∨ (rule = 4 ∧ r = ⟨false,true,3,0⟩) ∨ (rule = 5 ∧ r = ⟨true,false,4,0⟩) ∨ (rule = 6 ∧ r = ⟨false,true,4,0⟩) ∨
    (rule = 7 ∧ r = ⟨true,false,5,0⟩) ∨ (rule = 8 ∧ r = ⟨false,true,5,0⟩) ∨ (rule = 9 ∧ r = ⟨true,false,6,0⟩) ∨ (rule = 10 ∧ r = ⟨false,true,6,0⟩) ∨ (rule = 11 ∧ r = ⟨true,false,7,0⟩) ∨ (rule = 12 ∧ r = ⟨false,true,7,0⟩) ∨
    (rule = 13 ∧ r = ⟨true,false,8,1⟩) ∨ (rule = 14 ∧ r = ⟨false,true,8,2⟩) ∨ (rule = 15 ∧ r = ⟨true,false,9,2⟩) ∨ (rule = 16 ∧ r = ⟨false,true,9,1⟩) ∨ (rule = 17 ∧ r = ⟨false,false,0,0⟩) ∨ (rule = 18 ∧ r = ⟨false,true,5,0⟩):=by
  unfold rowS rowK at h
  rcases peelS h with ⟨⟨hc,hr⟩,hq⟩ | ⟨_,h⟩
  · subst hr; subst hq; simp
  rcases peelS h with ⟨⟨hc,hr⟩,hq⟩ | ⟨_,h⟩
  · subst hr; subst hq; simp
  rcases peelS h with ⟨⟨hc,hr⟩,hq⟩ | ⟨_,h⟩
  · subst hr; subst hq; simp
  rcases peelS h with ⟨⟨hc,hr⟩,hq⟩ | ⟨_,h⟩
  · subst hr; subst hq; simp
  rcases peelS h with ⟨⟨hc,hr⟩,hq⟩ | ⟨_,h⟩
  · subst hr; subst hq; simp
  rcases peelS h with ⟨hr,hq⟩ | ⟨_,h⟩
  · subst hr; subst hq; simp
  rcases peelS h with ⟨hr,hq⟩ | ⟨_,h⟩
  · subst hr; subst hq; simp
  rcases peelS h with ⟨hr,hq⟩ | ⟨_,h⟩
  · subst hr; subst hq; simp
  rcases peelS h with ⟨hr,hq⟩ | ⟨_,h⟩
  · subst hr; subst hq; simp
  rcases peelS h with ⟨hr,hq⟩ | ⟨_,h⟩
  · subst hr; subst hq; simp
  rcases peelS h with ⟨hr,hq⟩ | ⟨_,h⟩
  · subst hr; subst hq; simp
  rcases peelS h with ⟨hr,hq⟩ | ⟨_,h⟩
  · subst hr; subst hq; simp
  rcases peelS h with ⟨hr,hq⟩ | ⟨_,h⟩
  · subst hr; subst hq; simp
  rcases peelS h with ⟨hr,hq⟩ | ⟨_,h⟩
  · subst hr; subst hq; simp
  rcases peelS h with ⟨hr,hq⟩ | ⟨_,h⟩
  · subst hr; subst hq; simp
  rcases peelS h with ⟨hr,hq⟩ | ⟨_,h⟩
  · subst hr; subst hq; simp
  rcases peelS h with ⟨hr,hq⟩ | ⟨_,h⟩
  · subst hr; subst hq; simp
  rcases peelS h with ⟨hr,hq⟩ | ⟨_,h⟩
  · subst hr; subst hq; simp
  cases h
theorem row_ca {ca rule:Nat} {r:Rw} (h:rowS ca rule = some r):(rule = 18 → ca = 2) ∧ (13 ≤ rule → rule ≤ 16 → ca = 3):=by
  unfold rowS rowK at h
  rcases peelS h with ⟨⟨hc,hr⟩,hq⟩ | ⟨_,h⟩
  · omega
  rcases peelS h with ⟨⟨hc,hr⟩,hq⟩ | ⟨_,h⟩
  · omega
  rcases peelS h with ⟨⟨hc,hr⟩,hq⟩ | ⟨_,h⟩
  · omega
  rcases peelS h with ⟨⟨hc,hr⟩,hq⟩ | ⟨_,h⟩
  · omega
  rcases peelS h with ⟨⟨hc,hr⟩,hq⟩ | ⟨_,h⟩
  · omega
  rcases peelS h with ⟨hr,hq⟩ | ⟨_,h⟩
  · omega
  rcases peelS h with ⟨hr,hq⟩ | ⟨_,h⟩
  · omega
  rcases peelS h with ⟨hr,hq⟩ | ⟨_,h⟩
  · omega
  rcases peelS h with ⟨hr,hq⟩ | ⟨_,h⟩
  · omega
  rcases peelS h with ⟨hr,hq⟩ | ⟨_,h⟩
  · omega
  rcases peelS h with ⟨hr,hq⟩ | ⟨_,h⟩
  · omega
  rcases peelS h with ⟨hr,hq⟩ | ⟨_,h⟩
  · omega
  rcases peelS h with ⟨hr,hq⟩ | ⟨_,h⟩
  · omega
  rcases peelS h with ⟨hr,hq⟩ | ⟨_,h⟩
  · omega
  rcases peelS h with ⟨hr,hq⟩ | ⟨_,h⟩
  · omega
  rcases peelS h with ⟨hr,hq⟩ | ⟨_,h⟩
  · omega
  rcases peelS h with ⟨hr,hq⟩ | ⟨_,h⟩
  · omega
  rcases peelS h with ⟨hr,hq⟩ | ⟨_,h⟩
  · omega
  cases h
end Go.Proofs.Tryz

namespace Go.Proofs.Tryz
open Go Go.Iv

section
variable (nm:ByteArray) (g:Fm)
end
section
variable {nm:ByteArray} {g:Fm} {ca:Nat}
theorem validB_parts {s:Sq} (h:validB ca s = true):s.l.all (fmB ca) = true ∧ s.r.all (fmB ca) = true:=by
  unfold validB at h
  simp only [Bool.and_eq_true] at h
  exact ⟨h.1.1.2,h.1.2⟩
end
theorem row_op {ca rule:Nat} {r:Rw} (h:rowS ca rule = some r):(rule = 3 ∨ rule = 4 → r.op = 3 ∧ r.asks = 0) ∧ (rule = 5 ∨ rule = 6 → r.op = 4 ∧ r.asks = 0) ∧ (rule = 7 ∨ rule = 8 ∨ rule = 18 → r.op = 5 ∧ r.asks = 0) ∧ (rule = 9 ∨ rule = 10 → r.op = 6 ∧ r.asks = 0) ∧
    (rule = 11 ∨ rule = 12 → r.op = 7 ∧ r.asks = 0) ∧ (rule = 13 ∨ rule = 14 → r.op = 8 ∧ r.asks ≠ 0 ∧ ca = 3) ∧ (rule = 15 ∨ rule = 16 → r.op = 9 ∧ r.asks ≠ 0 ∧ ca = 3) ∧ (rule = 1 ∨ rule = 2 ∨ rule = 17 → r.asks = 0) ∧ (r.op = 0 → rule = 1 ∨ rule = 17):=by
  have hca:=row_ca h
  have hr:=row_cases h
  clear h
  rcases hr with ⟨rfl,rfl⟩ | ⟨rfl,rfl⟩ | ⟨rfl,rfl⟩ | ⟨rfl,rfl⟩ | ⟨rfl,rfl⟩ | ⟨rfl,rfl⟩ | ⟨rfl,rfl⟩ | ⟨rfl,rfl⟩ | ⟨rfl,rfl⟩ | ⟨rfl,rfl⟩ | ⟨rfl,rfl⟩ | ⟨rfl,rfl⟩ | ⟨rfl,rfl⟩ | ⟨rfl,rfl⟩ | ⟨rfl,rfl⟩ | ⟨rfl,rfl⟩ | ⟨rfl,rfl⟩ | ⟨rfl,rfl⟩
  all_goals simp at hca ⊢
  all_goals (try exact hca)
theorem addS_all {p:Fm → Bool} {ca rule:Nat} {main a b:Fm} (ha:3 ≤ rule → rule ≤ 16 → p a = true) (hb:5 ≤ rule → rule ≤ 12 ∨ rule = 18 → p b = true) (hi:rule = 11 → p (impF a b) = true ∧ p (impF b a) = true) (hm:rule = 17 → p main = true) :
    ∀ q ∈ addS ca rule main a b,q.l.all p = true ∧ q.r.all p = true:=by
  unfold addS
  intro q hq
  rcases peelM hq with ⟨hr,hq⟩ | ⟨_,hq⟩
  · (first
        | (obtain rfl:=List.mem_singleton.1 hq
           simp only [List.all_cons,List.all_nil,Bool.and_true,Bool.and_eq_true,and_self,and_true,true_and]
           first | exact ha (by omega) (by omega) | exact hb (by omega) (by omega) | exact ⟨ha (by omega) (by omega),hb (by omega) (by omega)⟩ | exact hi (by omega) | exact hm (by omega))
        | (simp only [List.mem_cons,List.not_mem_nil,or_false] at hq
           rcases hq with rfl | rfl <;>
           · simp only [List.all_cons,List.all_nil,Bool.and_true,Bool.and_eq_true,and_self,and_true,true_and]
             first | exact ha (by omega) (by omega) | exact hb (by omega) (by omega) | exact ⟨ha (by omega) (by omega),hb (by omega) (by omega)⟩ | exact ⟨hb (by omega) (by omega),ha (by omega) (by omega)⟩ | exact hm (by omega)))
  rcases peelM hq with ⟨hr,hq⟩ | ⟨_,hq⟩
  · (first
        | (obtain rfl:=List.mem_singleton.1 hq
           simp only [List.all_cons,List.all_nil,Bool.and_true,Bool.and_eq_true,and_self,and_true,true_and]
           first | exact ha (by omega) (by omega) | exact hb (by omega) (by omega) | exact ⟨ha (by omega) (by omega),hb (by omega) (by omega)⟩ | exact hi (by omega) | exact hm (by omega))
        | (simp only [List.mem_cons,List.not_mem_nil,or_false] at hq
           rcases hq with rfl | rfl <;>
           · simp only [List.all_cons,List.all_nil,Bool.and_true,Bool.and_eq_true,and_self,and_true,true_and]
             first | exact ha (by omega) (by omega) | exact hb (by omega) (by omega) | exact ⟨ha (by omega) (by omega),hb (by omega) (by omega)⟩ | exact ⟨hb (by omega) (by omega),ha (by omega) (by omega)⟩ | exact hm (by omega)))
  rcases peelM hq with ⟨hr,hq⟩ | ⟨_,hq⟩
  · (first
        | (obtain rfl:=List.mem_singleton.1 hq
           simp only [List.all_cons,List.all_nil,Bool.and_true,Bool.and_eq_true,and_self,and_true,true_and]
           first | exact ha (by omega) (by omega) | exact hb (by omega) (by omega) | exact ⟨ha (by omega) (by omega),hb (by omega) (by omega)⟩ | exact hi (by omega) | exact hm (by omega))
        | (simp only [List.mem_cons,List.not_mem_nil,or_false] at hq
           rcases hq with rfl | rfl <;>
           · simp only [List.all_cons,List.all_nil,Bool.and_true,Bool.and_eq_true,and_self,and_true,true_and]
             first | exact ha (by omega) (by omega) | exact hb (by omega) (by omega) | exact ⟨ha (by omega) (by omega),hb (by omega) (by omega)⟩ | exact ⟨hb (by omega) (by omega),ha (by omega) (by omega)⟩ | exact hm (by omega)))
  rcases peelM hq with ⟨hr,hq⟩ | ⟨_,hq⟩
  · (first
        | (obtain rfl:=List.mem_singleton.1 hq
           simp only [List.all_cons,List.all_nil,Bool.and_true,Bool.and_eq_true,and_self,and_true,true_and]
           first | exact ha (by omega) (by omega) | exact hb (by omega) (by omega) | exact ⟨ha (by omega) (by omega),hb (by omega) (by omega)⟩ | exact hi (by omega) | exact hm (by omega))
        | (simp only [List.mem_cons,List.not_mem_nil,or_false] at hq
           rcases hq with rfl | rfl <;>
           · simp only [List.all_cons,List.all_nil,Bool.and_true,Bool.and_eq_true,and_self,and_true,true_and]
             first | exact ha (by omega) (by omega) | exact hb (by omega) (by omega) | exact ⟨ha (by omega) (by omega),hb (by omega) (by omega)⟩ | exact ⟨hb (by omega) (by omega),ha (by omega) (by omega)⟩ | exact hm (by omega)))
  rcases peelM hq with ⟨hr,hq⟩ | ⟨_,hq⟩
  · (first
        | (obtain rfl:=List.mem_singleton.1 hq
           simp only [List.all_cons,List.all_nil,Bool.and_true,Bool.and_eq_true,and_self,and_true,true_and]
           first | exact ha (by omega) (by omega) | exact hb (by omega) (by omega) | exact ⟨ha (by omega) (by omega),hb (by omega) (by omega)⟩ | exact hi (by omega) | exact hm (by omega))
        | (simp only [List.mem_cons,List.not_mem_nil,or_false] at hq
           rcases hq with rfl | rfl <;>
           · simp only [List.all_cons,List.all_nil,Bool.and_true,Bool.and_eq_true,and_self,and_true,true_and]
             first | exact ha (by omega) (by omega) | exact hb (by omega) (by omega) | exact ⟨ha (by omega) (by omega),hb (by omega) (by omega)⟩ | exact ⟨hb (by omega) (by omega),ha (by omega) (by omega)⟩ | exact hm (by omega)))
  rcases peelM hq with ⟨hr,hq⟩ | ⟨_,hq⟩
  · rcases peelM hq with ⟨_,hq⟩ | ⟨_,hq⟩
    · (first
          | (obtain rfl:=List.mem_singleton.1 hq
             simp only [List.all_cons,List.all_nil,Bool.and_true,Bool.and_eq_true,and_self,and_true,true_and]
             first | exact ha (by omega) (by omega) | exact hb (by omega) (by omega) | exact ⟨ha (by omega) (by omega),hb (by omega) (by omega)⟩ | exact hi (by omega) | exact hm (by omega))
          | (simp only [List.mem_cons,List.not_mem_nil,or_false] at hq
             rcases hq with rfl | rfl <;>
             · simp only [List.all_cons,List.all_nil,Bool.and_true,Bool.and_eq_true,and_self,and_true,true_and]
               first | exact ha (by omega) (by omega) | exact hb (by omega) (by omega) | exact ⟨ha (by omega) (by omega),hb (by omega) (by omega)⟩ | exact ⟨hb (by omega) (by omega),ha (by omega) (by omega)⟩ | exact hm (by omega)))
    · (first
          | (obtain rfl:=List.mem_singleton.1 hq
             simp only [List.all_cons,List.all_nil,Bool.and_true,Bool.and_eq_true,and_self,and_true,true_and]
             first | exact ha (by omega) (by omega) | exact hb (by omega) (by omega) | exact ⟨ha (by omega) (by omega),hb (by omega) (by omega)⟩ | exact hi (by omega) | exact hm (by omega))
          | (simp only [List.mem_cons,List.not_mem_nil,or_false] at hq
             rcases hq with rfl | rfl <;>
             · simp only [List.all_cons,List.all_nil,Bool.and_true,Bool.and_eq_true,and_self,and_true,true_and]
               first | exact ha (by omega) (by omega) | exact hb (by omega) (by omega) | exact ⟨ha (by omega) (by omega),hb (by omega) (by omega)⟩ | exact ⟨hb (by omega) (by omega),ha (by omega) (by omega)⟩ | exact hm (by omega)))
  rcases peelM hq with ⟨hr,hq⟩ | ⟨_,hq⟩
  · (first
        | (obtain rfl:=List.mem_singleton.1 hq
           simp only [List.all_cons,List.all_nil,Bool.and_true,Bool.and_eq_true,and_self,and_true,true_and]
           first | exact ha (by omega) (by omega) | exact hb (by omega) (by omega) | exact ⟨ha (by omega) (by omega),hb (by omega) (by omega)⟩ | exact hi (by omega) | exact hm (by omega))
        | (simp only [List.mem_cons,List.not_mem_nil,or_false] at hq
           rcases hq with rfl | rfl <;>
           · simp only [List.all_cons,List.all_nil,Bool.and_true,Bool.and_eq_true,and_self,and_true,true_and]
             first | exact ha (by omega) (by omega) | exact hb (by omega) (by omega) | exact ⟨ha (by omega) (by omega),hb (by omega) (by omega)⟩ | exact ⟨hb (by omega) (by omega),ha (by omega) (by omega)⟩ | exact hm (by omega)))
  rcases peelM hq with ⟨hr,hq⟩ | ⟨_,hq⟩
  · (first
        | (obtain rfl:=List.mem_singleton.1 hq
           simp only [List.all_cons,List.all_nil,Bool.and_true,Bool.and_eq_true,and_self,and_true,true_and]
           first | exact ha (by omega) (by omega) | exact hb (by omega) (by omega) | exact ⟨ha (by omega) (by omega),hb (by omega) (by omega)⟩ | exact hi (by omega) | exact hm (by omega))
        | (simp only [List.mem_cons,List.not_mem_nil,or_false] at hq
           rcases hq with rfl | rfl <;>
           · simp only [List.all_cons,List.all_nil,Bool.and_true,Bool.and_eq_true,and_self,and_true,true_and]
             first | exact ha (by omega) (by omega) | exact hb (by omega) (by omega) | exact ⟨ha (by omega) (by omega),hb (by omega) (by omega)⟩ | exact ⟨hb (by omega) (by omega),ha (by omega) (by omega)⟩ | exact hm (by omega)))
  rcases peelM hq with ⟨hr,hq⟩ | ⟨_,hq⟩
  · (first
        | (obtain rfl:=List.mem_singleton.1 hq
           simp only [List.all_cons,List.all_nil,Bool.and_true,Bool.and_eq_true,and_self,and_true,true_and]
           first | exact ha (by omega) (by omega) | exact hb (by omega) (by omega) | exact ⟨ha (by omega) (by omega),hb (by omega) (by omega)⟩ | exact hi (by omega) | exact hm (by omega))
        | (simp only [List.mem_cons,List.not_mem_nil,or_false] at hq
           rcases hq with rfl | rfl <;>
           · simp only [List.all_cons,List.all_nil,Bool.and_true,Bool.and_eq_true,and_self,and_true,true_and]
             first | exact ha (by omega) (by omega) | exact hb (by omega) (by omega) | exact ⟨ha (by omega) (by omega),hb (by omega) (by omega)⟩ | exact ⟨hb (by omega) (by omega),ha (by omega) (by omega)⟩ | exact hm (by omega)))
  rcases peelM hq with ⟨hr,hq⟩ | ⟨_,hq⟩
  · (first
        | (obtain rfl:=List.mem_singleton.1 hq
           simp only [List.all_cons,List.all_nil,Bool.and_true,Bool.and_eq_true,and_self,and_true,true_and]
           first | exact ha (by omega) (by omega) | exact hb (by omega) (by omega) | exact ⟨ha (by omega) (by omega),hb (by omega) (by omega)⟩ | exact hi (by omega) | exact hm (by omega))
        | (simp only [List.mem_cons,List.not_mem_nil,or_false] at hq
           rcases hq with rfl | rfl <;>
           · simp only [List.all_cons,List.all_nil,Bool.and_true,Bool.and_eq_true,and_self,and_true,true_and]
             first | exact ha (by omega) (by omega) | exact hb (by omega) (by omega) | exact ⟨ha (by omega) (by omega),hb (by omega) (by omega)⟩ | exact ⟨hb (by omega) (by omega),ha (by omega) (by omega)⟩ | exact hm (by omega)))
  rcases peelM hq with ⟨hr,hq⟩ | ⟨_,hq⟩
  · (first
        | (obtain rfl:=List.mem_singleton.1 hq
           simp only [List.all_cons,List.all_nil,Bool.and_true,Bool.and_eq_true,and_self,and_true,true_and]
           first | exact ha (by omega) (by omega) | exact hb (by omega) (by omega) | exact ⟨ha (by omega) (by omega),hb (by omega) (by omega)⟩ | exact hi (by omega) | exact hm (by omega))
        | (simp only [List.mem_cons,List.not_mem_nil,or_false] at hq
           rcases hq with rfl | rfl <;>
           · simp only [List.all_cons,List.all_nil,Bool.and_true,Bool.and_eq_true,and_self,and_true,true_and]
             first | exact ha (by omega) (by omega) | exact hb (by omega) (by omega) | exact ⟨ha (by omega) (by omega),hb (by omega) (by omega)⟩ | exact ⟨hb (by omega) (by omega),ha (by omega) (by omega)⟩ | exact hm (by omega)))
  rcases peelM hq with ⟨hr,hq⟩ | ⟨_,hq⟩
  · (first
        | (obtain rfl:=List.mem_singleton.1 hq
           simp only [List.all_cons,List.all_nil,Bool.and_true,Bool.and_eq_true,and_self,and_true,true_and]
           first | exact ha (by omega) (by omega) | exact hb (by omega) (by omega) | exact ⟨ha (by omega) (by omega),hb (by omega) (by omega)⟩ | exact hi (by omega) | exact hm (by omega))
        | (simp only [List.mem_cons,List.not_mem_nil,or_false] at hq
           rcases hq with rfl | rfl <;>
           · simp only [List.all_cons,List.all_nil,Bool.and_true,Bool.and_eq_true,and_self,and_true,true_and]
             first | exact ha (by omega) (by omega) | exact hb (by omega) (by omega) | exact ⟨ha (by omega) (by omega),hb (by omega) (by omega)⟩ | exact ⟨hb (by omega) (by omega),ha (by omega) (by omega)⟩ | exact hm (by omega)))
  rcases peelM hq with ⟨hr,hq⟩ | ⟨_,hq⟩
  · (first
        | (obtain rfl:=List.mem_singleton.1 hq
           simp only [List.all_cons,List.all_nil,Bool.and_true,Bool.and_eq_true,and_self,and_true,true_and]
           first | exact ha (by omega) (by omega) | exact hb (by omega) (by omega) | exact ⟨ha (by omega) (by omega),hb (by omega) (by omega)⟩ | exact hi (by omega) | exact hm (by omega))
        | (simp only [List.mem_cons,List.not_mem_nil,or_false] at hq
           rcases hq with rfl | rfl <;>
           · simp only [List.all_cons,List.all_nil,Bool.and_true,Bool.and_eq_true,and_self,and_true,true_and]
             first | exact ha (by omega) (by omega) | exact hb (by omega) (by omega) | exact ⟨ha (by omega) (by omega),hb (by omega) (by omega)⟩ | exact ⟨hb (by omega) (by omega),ha (by omega) (by omega)⟩ | exact hm (by omega)))
  rcases peelM hq with ⟨hr,hq⟩ | ⟨_,hq⟩
  · (first
        | (obtain rfl:=List.mem_singleton.1 hq
           simp only [List.all_cons,List.all_nil,Bool.and_true,Bool.and_eq_true,and_self,and_true,true_and]
           first | exact ha (by omega) (by omega) | exact hb (by omega) (by omega) | exact ⟨ha (by omega) (by omega),hb (by omega) (by omega)⟩ | exact hi (by omega) | exact hm (by omega))
        | (simp only [List.mem_cons,List.not_mem_nil,or_false] at hq
           rcases hq with rfl | rfl <;>
           · simp only [List.all_cons,List.all_nil,Bool.and_true,Bool.and_eq_true,and_self,and_true,true_and]
             first | exact ha (by omega) (by omega) | exact hb (by omega) (by omega) | exact ⟨ha (by omega) (by omega),hb (by omega) (by omega)⟩ | exact ⟨hb (by omega) (by omega),ha (by omega) (by omega)⟩ | exact hm (by omega)))
  rcases peelM hq with ⟨hr,hq⟩ | ⟨_,hq⟩
  · (first
        | (obtain rfl:=List.mem_singleton.1 hq
           simp only [List.all_cons,List.all_nil,Bool.and_true,Bool.and_eq_true,and_self,and_true,true_and]
           first | exact ha (by omega) (by omega) | exact hb (by omega) (by omega) | exact ⟨ha (by omega) (by omega),hb (by omega) (by omega)⟩ | exact hi (by omega) | exact hm (by omega))
        | (simp only [List.mem_cons,List.not_mem_nil,or_false] at hq
           rcases hq with rfl | rfl <;>
           · simp only [List.all_cons,List.all_nil,Bool.and_true,Bool.and_eq_true,and_self,and_true,true_and]
             first | exact ha (by omega) (by omega) | exact hb (by omega) (by omega) | exact ⟨ha (by omega) (by omega),hb (by omega) (by omega)⟩ | exact ⟨hb (by omega) (by omega),ha (by omega) (by omega)⟩ | exact hm (by omega)))
  rcases peelM hq with ⟨hr,hq⟩ | ⟨_,hq⟩
  · (first
        | (obtain rfl:=List.mem_singleton.1 hq
           simp only [List.all_cons,List.all_nil,Bool.and_true,Bool.and_eq_true,and_self,and_true,true_and]
           first | exact ha (by omega) (by omega) | exact hb (by omega) (by omega) | exact ⟨ha (by omega) (by omega),hb (by omega) (by omega)⟩ | exact hi (by omega) | exact hm (by omega))
        | (simp only [List.mem_cons,List.not_mem_nil,or_false] at hq
           rcases hq with rfl | rfl <;>
           · simp only [List.all_cons,List.all_nil,Bool.and_true,Bool.and_eq_true,and_self,and_true,true_and]
             first | exact ha (by omega) (by omega) | exact hb (by omega) (by omega) | exact ⟨ha (by omega) (by omega),hb (by omega) (by omega)⟩ | exact ⟨hb (by omega) (by omega),ha (by omega) (by omega)⟩ | exact hm (by omega)))
  cases hq
theorem ok_subs {op:Nat} {n:ByteArray} {us:List Tm} {sub:List Fm} (h:(Fm.mk op n us sub).ok = true):(op = 3 ∨ op = 8 ∨ op = 9 → sub.length = 1) ∧ (op = 4 ∨ op = 5 ∨ op = 6 ∨ op = 7 → sub.length = 2):=by
  simp only [Fm.ok,Bool.and_eq_true] at h
  have h:=h.1.1
  constructor
  · rintro (rfl | rfl | rfl) <;> simp only [okRow,Bool.and_eq_true,decide_eq_true_eq] at h <;> exact h.2
  · rintro (rfl | rfl | rfl | rfl) <;> simp only [okRow,Bool.and_eq_true,decide_eq_true_eq] at h <;> exact h.2
theorem addsS_fm {ca rule:Nat} {r:Rw} {main:Fm} {term:Tm} {name:ByteArray} {ad:List Sq} (hr:rowS ca rule = some r) (ht:term.size ≤ 900000) (h:addsS ca rule r main term name = (ad,0)) :
    ∀ q ∈ ad,q.l.all (fmB ca) = true ∧ q.r.all (fmB ca) = true:=by
  obtain ⟨w1,w2,w3,w4,w5,w6,w7,w8,w9⟩:=row_op hr
  unfold addsS at h
  by_cases hc:(!fmB ca main || (decide (r.op ≠ 0) && decide (main.op ≠ r.op))) = true
  · rw [if_pos hc] at h
    cases (Prod.mk.inj h).2
  rw [if_neg hc] at h
  have hf:fmB ca main = true:=by
    cases hq:fmB ca main
    · simp [hq] at hc
    · rfl
  have hop:r.op ≠ 0 → main.op = r.op:=fun h0 => by
    rw [hf] at hc
    simpa [h0] using hc
  obtain ⟨op,n,us,sub⟩:=main
  simp only [Fm.op,Fm.subs,Fm.nm] at hop h
  have hlen:=ok_subs (fmB_true.1 hf).1
  have hg:∀ k,k < sub.length → fmB ca ((sub[k]?).getD fm0) = true:=fun k hk => by
    rw [List.getElem?_eq_getElem hk]
    exact fmB_part hf (List.getElem_mem hk)
  by_cases h0:r.asks = 0
  · simp only [if_pos h0] at h
    rw [← (Prod.mk.inj h).1]
    refine addS_all (fun h1 h2 => hg 0 ?_) (fun h1 h2 => hg 1 ?_) (fun h1 => ?_) (fun _ => hf)
    · omega
    · omega
    · have:=w5 (.inl h1)
      have h7:op = 7:=by omega
      subst h7
      obtain ⟨a,b,rfl⟩:∃ a b,sub = [a,b]:=by
        have:=hlen.2 (by omega)
        match sub,this with
        | [a,b],_ => exact ⟨a,b,rfl⟩
      exact fmB_imp hf
  · simp only [if_neg h0] at h
    have hru:13 ≤ rule ∧ rule ≤ 16:=by
      rcases row_cases hr with ⟨rfl,rfl⟩ | ⟨rfl,rfl⟩ | ⟨rfl,rfl⟩ | ⟨rfl,rfl⟩ | ⟨rfl,rfl⟩ | ⟨rfl,rfl⟩ | ⟨rfl,rfl⟩ | ⟨rfl,rfl⟩ | ⟨rfl,rfl⟩ | ⟨rfl,rfl⟩ | ⟨rfl,rfl⟩ | ⟨rfl,rfl⟩ | ⟨rfl,rfl⟩ | ⟨rfl,rfl⟩ | ⟨rfl,rfl⟩ | ⟨rfl,rfl⟩ | ⟨rfl,rfl⟩ | ⟨rfl,rfl⟩
      all_goals first
        | exact ⟨by decide,by decide⟩
        | exact absurd rfl h0
    have h3:ca = 3:=(row_ca hr).2 hru.1 hru.2
    have htt:∀ (t:Tm),t.size ≤ 900000 → (PutsS ((sub[0]?).getD fm0) [(n,t)]).2 = 0 → fmB ca (PutsS ((sub[0]?).getD fm0) [(n,t)]).1 = true:=fun t hts hp => by
      obtain ⟨_,_,he,hrr,_⟩:=puts_ok (by simp only [wS]; omega) hp
      unfold fmB
      rw [hrr,he,h3,Bool.true_and,opsB_form]
      have:=(fmB_true.1 (hg 0 (by omega))).2.2.2
      rwa [h3] at this
    generalize hte:(if r.asks = 2 then Tm.mk true name [] else term) = t at h
    have hts:t.size ≤ 900000:=by
      rw [← hte]
      split
      · simp [Tm.size,sizeTms]
      · exact ht
    by_cases h1:(!t.ok) = true
    · simp only [if_pos h1] at h
      cases (Prod.mk.inj h).2
    simp only [if_neg h1] at h
    rcases peelI h with ⟨_,h⟩ | ⟨h2,h⟩
    · cases (Prod.mk.inj h).2
    rw [← (Prod.mk.inj h).1]
    exact addS_all (fun _ _ => htt t hts (Decidable.not_not.1 h2)) (fun h1 h2 => by omega) (fun h1 => by omega) (fun h1 => by omega)
section
variable {nm:ByteArray} {g:Fm} {ca:Nat}
theorem fmB_right {f:Fm} (h:fmB ca f = true):f.right = true:=by
  unfold fmB at h
  simp only [Bool.and_eq_true] at h
  exact h.1
theorem all_right {l:List Fm} (h:l.all (fmB ca) = true):l.all Fm.right = true:=List.all_eq_true.2 fun f hf => fmB_right (List.all_eq_true.1 h f hf)
end
theorem prems_get (s:Sq):∀ (ad:List Sq) (ts:List Tr),premsB s ad ts = true → ∀ (i:Nat) (m:Sq) (t:Tr),ad[i]? = some m → ts[i]? = some t → withinB t.sq (s.plus m) = true
  | [],_,_,i,m,t,h,_ => by simp at h
  | _ :: _,[],_,i,m,t,_,h => by simp at h
  | a :: ad,b :: ts,h,i,m,t,hm,ht => by
    simp only [premsB,Bool.and_eq_true] at h
    cases i with
    | zero =>
      simp only [List.getElem?_cons_zero,Option.some.injEq] at hm ht
      subst hm; subst ht
      exact h.1
    | succ i => exact prems_get s ad ts h.2 i m t (by simpa using hm) (by simpa using ht)
end Go.Proofs.Tryz

namespace Go.Proofs.Tryz
open Go Go.Iv

theorem rowS_zero (ca:Nat):rowS ca 0 = none:=by
  unfold rowS
  rw [if_neg (by omega),if_neg (by omega),if_neg (by omega),if_neg (by omega),if_neg (by omega)]
  rfl
theorem allF_right {l m:List Fm} (h:l.all Fm.right = true) (hm:∀ f ∈ l,f ∈ m):allF l m = true:=allF_true.2 fun f hf => hasF_true.2 ⟨f,hm f hf,eqF_refl (List.all_eq_true.1 h f hf)⟩
theorem addS_one (rule:Nat) (main a b:Fm):∀ q ∈ addS 2 rule main a b,q.r.length ≤ 1:=by
  unfold addS
  intro q hq
  rcases peelM hq with ⟨_,hq⟩ | ⟨_,hq⟩
  · first | (obtain rfl:=List.mem_singleton.1 hq; simp; done) | (simp only [List.mem_cons,List.not_mem_nil,or_false] at hq; rcases hq with rfl | rfl <;> simp)
  rcases peelM hq with ⟨_,hq⟩ | ⟨_,hq⟩
  · first | (obtain rfl:=List.mem_singleton.1 hq; simp; done) | (simp only [List.mem_cons,List.not_mem_nil,or_false] at hq; rcases hq with rfl | rfl <;> simp)
  rcases peelM hq with ⟨_,hq⟩ | ⟨_,hq⟩
  · first | (obtain rfl:=List.mem_singleton.1 hq; simp; done) | (simp only [List.mem_cons,List.not_mem_nil,or_false] at hq; rcases hq with rfl | rfl <;> simp)
  rcases peelM hq with ⟨_,hq⟩ | ⟨_,hq⟩
  · first | (obtain rfl:=List.mem_singleton.1 hq; simp; done) | (simp only [List.mem_cons,List.not_mem_nil,or_false] at hq; rcases hq with rfl | rfl <;> simp)
  rcases peelM hq with ⟨_,hq⟩ | ⟨_,hq⟩
  · first | (obtain rfl:=List.mem_singleton.1 hq; simp; done) | (simp only [List.mem_cons,List.not_mem_nil,or_false] at hq; rcases hq with rfl | rfl <;> simp)
  rcases peelM hq with ⟨_,hq⟩ | ⟨_,hq⟩
  · rcases peelM hq with ⟨_,hq⟩ | ⟨h,hq⟩
    · obtain rfl:=List.mem_singleton.1 hq; simp
    · exact absurd rfl h
  rcases peelM hq with ⟨_,hq⟩ | ⟨_,hq⟩
  · first | (obtain rfl:=List.mem_singleton.1 hq; simp; done) | (simp only [List.mem_cons,List.not_mem_nil,or_false] at hq; rcases hq with rfl | rfl <;> simp)
  rcases peelM hq with ⟨_,hq⟩ | ⟨_,hq⟩
  · first | (obtain rfl:=List.mem_singleton.1 hq; simp; done) | (simp only [List.mem_cons,List.not_mem_nil,or_false] at hq; rcases hq with rfl | rfl <;> simp)
  rcases peelM hq with ⟨_,hq⟩ | ⟨_,hq⟩
  · first | (obtain rfl:=List.mem_singleton.1 hq; simp; done) | (simp only [List.mem_cons,List.not_mem_nil,or_false] at hq; rcases hq with rfl | rfl <;> simp)
  rcases peelM hq with ⟨_,hq⟩ | ⟨_,hq⟩
  · first | (obtain rfl:=List.mem_singleton.1 hq; simp; done) | (simp only [List.mem_cons,List.not_mem_nil,or_false] at hq; rcases hq with rfl | rfl <;> simp)
  rcases peelM hq with ⟨_,hq⟩ | ⟨_,hq⟩
  · first | (obtain rfl:=List.mem_singleton.1 hq; simp; done) | (simp only [List.mem_cons,List.not_mem_nil,or_false] at hq; rcases hq with rfl | rfl <;> simp)
  rcases peelM hq with ⟨_,hq⟩ | ⟨_,hq⟩
  · first | (obtain rfl:=List.mem_singleton.1 hq; simp; done) | (simp only [List.mem_cons,List.not_mem_nil,or_false] at hq; rcases hq with rfl | rfl <;> simp)
  rcases peelM hq with ⟨_,hq⟩ | ⟨_,hq⟩
  · first | (obtain rfl:=List.mem_singleton.1 hq; simp; done) | (simp only [List.mem_cons,List.not_mem_nil,or_false] at hq; rcases hq with rfl | rfl <;> simp)
  rcases peelM hq with ⟨_,hq⟩ | ⟨_,hq⟩
  · first | (obtain rfl:=List.mem_singleton.1 hq; simp; done) | (simp only [List.mem_cons,List.not_mem_nil,or_false] at hq; rcases hq with rfl | rfl <;> simp)
  rcases peelM hq with ⟨_,hq⟩ | ⟨_,hq⟩
  · first | (obtain rfl:=List.mem_singleton.1 hq; simp; done) | (simp only [List.mem_cons,List.not_mem_nil,or_false] at hq; rcases hq with rfl | rfl <;> simp)
  rcases peelM hq with ⟨_,hq⟩ | ⟨_,hq⟩
  · first | (obtain rfl:=List.mem_singleton.1 hq; simp; done) | (simp only [List.mem_cons,List.not_mem_nil,or_false] at hq; rcases hq with rfl | rfl <;> simp)
  cases hq
theorem addsS_one {rule:Nat} {r:Rw} {main:Fm} {term:Tm} {name:ByteArray} {ad:List Sq} (h:addsS 2 rule r main term name = (ad,0)):∀ q ∈ ad,q.r.length ≤ 1:=by
  unfold addsS at h
  by_cases hc:(!fmB 2 main || (decide (r.op ≠ 0) && decide (main.op ≠ r.op))) = true
  · rw [if_pos hc] at h
    cases (Prod.mk.inj h).2
  rw [if_neg hc] at h
  by_cases h0:r.asks = 0
  · simp only [if_pos h0] at h
    rw [← (Prod.mk.inj h).1]
    exact addS_one _ _ _ _
  · simp only [if_neg h0] at h
    generalize (if r.asks = 2 then Tm.mk true name [] else term) = t at h
    by_cases h1:(!t.ok) = true
    · simp only [if_pos h1] at h
      cases (Prod.mk.inj h).2
    simp only [if_neg h1] at h
    by_cases h2:(PutsS ((main.subs[0]?).getD fm0) [(main.nm,t)]).2 ≠ 0
    · simp only [if_pos h2] at h
      cases (Prod.mk.inj h).2
    simp only [if_neg h2] at h
    rw [← (Prod.mk.inj h).1]
    exact addS_one _ _ _ _
theorem Back_no {ca rule:Nat} {s:Sq} {f:Fm} {u:Tm} {n:ByteArray} {sub:List Tr} (h:(BackS ca s rule f u n).2 ≠ 0) :
    (BackS ca s rule f u n).1 = [] ∧ (((CheckS ca (.mk rule s f u n sub)).2 ≠ 0 ∧ (CheckS ca (.mk rule s f u n sub)).1 = []) ∨ (BackS ca s rule f u n).2 = 5):=by
  unfold BackS at h ⊢
  cases hk:knownB ca
  · rw [CheckS_arg_place ca _ hk]; simp
  · simp only [hk,Bool.not_true,Bool.false_eq_true,if_false] at h ⊢
    by_cases h1:(stepS ca s rule f u n).2 ≠ 0
    · rw [if_pos h1]
      refine ⟨rfl,.inl ?_⟩
      by_cases hs:(Tr.mk rule s f u n sub).steps ≤ 300
      · rw [CheckS_root hk hs rfl h1]; exact ⟨h1,rfl⟩
      · unfold CheckS
        rw [hk]
        simp only [Bool.not_true,Bool.false_eq_true,if_false]
        rw [if_pos (by omega)]
        simp
    · rw [if_neg h1] at h ⊢
      split at h
      · exact absurd rfl h
      · rename_i h2
        rw [if_neg h2]
        exact ⟨rfl,.inr rfl⟩
theorem Back_yes {ca rule:Nat} {s:Sq} {f:Fm} {u:Tm} {n:ByteArray} (h:(BackS ca s rule f u n).2 = 0) :
    ∃ r ad,knownB ca = true ∧ validB ca s = true ∧ rowS ca rule = some r ∧ stepS ca s rule f u n = (ad,0) ∧ addsS ca rule r f u n = (ad,0) ∧ AddedS ca rule f u n = (ad,0) ∧ BackS ca s rule f u n = (ad.map (itemI ca s),0) ∧ ad.all (okI ca s) = true:=by
  unfold BackS at h
  cases hk:knownB ca
  · rw [hk] at h; simp at h
  · simp only [hk,Bool.not_true,Bool.false_eq_true,if_false] at h
    by_cases h1:(stepS ca s rule f u n).2 ≠ 0
    · rw [if_pos h1] at h; exact absurd h h1
    · rw [if_neg h1] at h
      obtain ⟨r,k1,k2,k3,k4,k5,k6,k7⟩:=stepS_zero (Decidable.not_not.1 h1)
      split at h
      · rename_i h2
        rw [k7] at h2
        refine ⟨r,(addsS ca rule r f u n).1,rfl,k1,k2,k7,Prod.ext rfl k3,?_,?_,h2⟩
        · unfold AddedS
          rw [hk,k2]
          exact Prod.ext rfl k3
        · unfold BackS
          rw [hk]
          simp only [Bool.not_true,Bool.false_eq_true,if_false]
          rw [if_neg h1,k7,if_pos h2]
      · simp at h
section
variable {ca rule:Nat} {s:Sq} {f:Fm} {u:Tm} {n:ByteArray} {r:Rw} {ad:List Sq}
theorem item_all {m:Sq} (hv:validB ca s = true) (hm:m.l.all (fmB ca) = true ∧ m.r.all (fmB ca) = true):(itemI ca s m).l.all (fmB ca) = true ∧ (itemI ca s m).r.all (fmB ca) = true:=by
  have hp:=validB_parts hv
  unfold itemI
  refine ⟨by rw [List.all_append,hp.1,hm.1]; rfl,?_⟩
  split
  · rw [List.all_append,hp.2,hm.2]; rfl
  · exact hm.2
theorem item_valid {m:Sq} (hv:validB ca s = true) (hm:m.l.all (fmB ca) = true ∧ m.r.all (fmB ca) = true) (h1:ca = 2 → m.r.length ≤ 1) (hok:okI ca s m = true):validB ca (itemI ca s m) = true:=by
  have hi:=item_all hv hm
  unfold okI at hok
  simp only [Bool.and_eq_true,decide_eq_true_eq] at hok
  have hk:=validB_known hv
  unfold validB at hv ⊢
  simp only [Bool.and_eq_true,decide_eq_true_eq,Bool.or_eq_true] at hv ⊢
  refine ⟨⟨⟨⟨⟨hk,hok.1⟩,hok.2⟩,hi.1⟩,hi.2⟩,?_⟩
  by_cases hc:ca = 2
  · right
    unfold itemI
    by_cases h0:m.r.length = 0
    · rw [if_pos (.inr h0),List.eq_nil_of_length_eq_zero h0,List.append_nil]
      exact hv.2.resolve_left fun h => h hc
    · rw [if_neg (by rintro (h | h); exact h hc; exact h0 h)]
      obtain ⟨a,ha⟩:∃ a,m.r = [a]:=by
        have:=h1 hc
        match hm':m.r,this,h0 with
        | [a],_,_ => exact ⟨a,rfl⟩
        | [],_,h0 => simp at h0
        | _ :: _ :: _,h,_ => simp at h
      have:=hm.2
      rw [ha,List.all_cons,List.all_nil,Bool.and_true] at this
      rw [ha]
      simp [firstsB,eqF_refl (fmB_right this)]
  · exact .inl hc
theorem item_plus {m:Sq}:(∀ f ∈ (itemI ca s m).l,f ∈ (s.plus m).l) ∧ ∀ f ∈ (itemI ca s m).r,f ∈ (s.plus m).r:=by
  unfold itemI Sq.plus
  refine ⟨fun f h => h,fun f h => ?_⟩
  simp only at h
  split at h
  · exact h
  · exact List.mem_append_right _ h
theorem within_right {a b:Sq} (h1:a.l.all Fm.right = true) (h2:a.r.all Fm.right = true) (h3:∀ f ∈ a.l,f ∈ b.l) (h4:∀ f ∈ a.r,f ∈ b.r):withinB a b = true:=by
  unfold withinB
  rw [allF_right h1 h3,allF_right h2 h4]; rfl
theorem item_laws {m:Sq} (hv:validB ca s = true) (hm:m.l.all (fmB ca) = true ∧ m.r.all (fmB ca) = true) :
    withinB m (itemI ca s m) = true ∧ withinB ⟨s.l,[]⟩ (itemI ca s m) = true ∧ (ca ≠ 2 → withinB s (itemI ca s m) = true):=by
  have hp:=validB_parts hv
  refine ⟨within_right (all_right hm.1) (all_right hm.2) (fun f h => ?_) (fun f h => ?_),within_right (all_right hp.1) rfl (fun f h => ?_) (fun f h => by cases h),fun hc => within_right (all_right hp.1) (all_right hp.2) (fun f h => ?_) (fun f h => ?_)⟩
  · exact List.mem_append_right _ h
  · unfold itemI
    simp only
    split
    · exact List.mem_append_right _ h
    · exact h
  · exact List.mem_append_left _ h
  · exact List.mem_append_left _ h
  · unfold itemI
    rw [if_pos (.inl hc)]
    exact List.mem_append_left _ h
theorem item_subs {m:Sq} {t:Tr} (h:withinB t.sq (s.plus m) = true):withinB ⟨t.sq.l,[]⟩ (itemI ca s m) = true ∧ (ca ≠ 2 → withinB t.sq (itemI ca s m) = true):=by
  unfold withinB at h ⊢
  simp only [Bool.and_eq_true] at h ⊢
  refine ⟨⟨h.1,rfl⟩,fun hc => ⟨h.1,?_⟩⟩
  unfold itemI
  rw [if_pos (.inl hc)]
  exact h.2
def bareT (q:Sq):Tr:=.mk 0 q fm0 (.mk false bE []) bE []
theorem wholeS (hk:knownB ca = true) (hv:validB ca s = true) (hst:stepS ca s rule f u n = (ad,0)) (had:∀ q ∈ ad,q.l.all (fmB ca) = true ∧ q.r.all (fmB ca) = true) (h1:ca = 2 → ∀ q ∈ ad,q.r.length ≤ 1) (hok:ad.all (okI ca s) = true) (hl:ad.length ≤ 2) :
    CheckS ca (.mk rule s f u n ((ad.map (itemI ca s)).map bareT)) = if ad.length = 0 then ([],0) else ([0],191):=by
  have hprem:∀ l:List Sq,(∀ q ∈ l,q.l.all (fmB ca) = true ∧ q.r.all (fmB ca) = true) → premsB s l ((l.map (itemI ca s)).map bareT) = true:=fun l => by
    induction l with
    | nil => intro _; rfl
    | cons m l ih =>
      intro h
      have hm:=item_all hv (h m (by simp))
      simp only [List.map_cons,premsB,bareT,Tr.sq,Bool.and_eq_true]
      exact ⟨within_right (all_right hm.1) (all_right hm.2) item_plus.1 item_plus.2,ih fun q hq => h q (by simp [hq])⟩
  have hc:checkS ca (.mk rule s f u n ((ad.map (itemI ca s)).map bareT)) = 0:=by
    simp only [checkS,hst,ne_eq,not_true_eq_false,if_false,List.length_map]
    rw [hprem ad had]
    simp
  have hsteps:∀ l:List Sq,stepsTrs (l.map bareT) = l.length:=fun l => by
    induction l with
    | nil => rfl
    | cons a l ih => simp only [List.map_cons,stepsTrs,ih,bareT,Tr.steps,List.length_cons]; omega
  rw [CheckS_unfold hk (by simp only [Tr.steps,hsteps,List.length_map]; omega),firstBad_tree,if_pos hc]
  cases ad with
  | nil => rfl
  | cons m l =>
    have hm:=had m (by simp)
    have hvm:validB ca (itemI ca s m) = true:=item_valid hv hm (fun hc => h1 hc m (by simp)) (by
      simp only [List.all_cons,Bool.and_eq_true] at hok; exact hok.1)
    have hb:firstBad (checkS ca) ((bareT (itemI ca s m)).walk []) = ([],191):=by
      have:checkS ca (bareT (itemI ca s m)) = 191:=by
        unfold bareT
        simp only [checkS]
        have:stepS ca (itemI ca s m) 0 fm0 (.mk false bE []) bE = ([],191):=by
          unfold stepS
          rw [hvm,rowS_zero]; rfl
        rw [this]
        simp
      unfold bareT at this ⊢
      simp only [Tr.walk,firstBad,this]
      simp
    simp only [List.map_cons,firstSub,hb,List.length_cons]
    simp
end
end Go.Proofs.Tryz

open Nat renaming reduceEqDiff → zE,reduceBEq → zB,reduceAdd → zA,reduceMul → zM,reduceSub → zS,reduceLeDiff → zL
attribute [local go_sem] Go.Iv.cf Go.Iv.setAt List.all_cons List.all_nil Bool.and_self Bool.true_and Bool.and_true Bool.false_and Bool.and_false Bool.not_true Bool.not_false List.mem_nil_iff if_false if_true beq_self_eq_true Nat.zero_add Nat.add_zero List.getElem?_cons_zero List.getElem?_cons_succ Option.map_some List.mem_cons or_false false_or or_true true_or Nat.sub_zero forall_const Int.toNat_natCast List.length_cons List.length_nil List.map_cons List.map_nil List.take_succ_cons List.take_zero List.drop_zero List.drop_succ_cons List.cons_append List.nil_append List.append_nil and_true true_and and_self true_implies List.zip_cons_cons List.zip_nil_left
namespace Go.Proofs.Tryz
open Go Go.Iv
set_option maxRecDepth 4000
variable (gl:Nat → Option IV)

theorem fit_fmB {ca:Nat} {l:List Fm} (h:l.all (fmB ca) = true):fitL l:=fun f hf => by
  have:=(fmB_true.1 (List.all_eq_true.1 h f hf)).2.1
  omega
theorem bareTs_NA {ca:Nat} {s:Sq}:∀ l:List Sq,(∀ m ∈ l,fitSq (itemI ca s m)) → NAs ((l.map (itemI ca s)).map bareT)
  | [],_ => trivial
  | m :: l,h => by
    simp only [List.map_cons,NAs,bareT,NA]
    exact ⟨⟨h m (by simp),by decide,by decide,trivial⟩,bareTs_NA l fun q hq => h q (by simp [hq])⟩
theorem bareTs_steps:∀ l:List Sq,stepsTrs (l.map bareT) = l.length
  | [] => rfl
  | a :: l => by simp only [List.map_cons,stepsTrs,bareTs_steps l,bareT,Tr.steps,List.length_cons]; omega
set_option maxHeartbeats 2000000 in
theorem SequentBacks_c (G:Gl gl) (T:Gt gl) (ca:Nat) (t:Tr) (x:IV) (hx:IsTr t x) (hw:wTr t ≤ 1099511627776) (st:ISt) :
    ICall prog gl 10 [.raw (.int .u8 ca),x] st (fun r st' => r = .raw (.bool true) ∧ st' = st):=by
  have hA:=fun st => qawake_c gl G T st
  have hS:=fun st => QSmall_c gl t x hx hw st
  have hx0:=hx
  obtain ⟨rule,s,m,u,n,sub⟩:=t
  obtain ⟨tl,xl,tr,xr,op,fn,ta,xa,tb,xb,v,un,tu,xu,ts,xs,rfl,hru,e1,i1,e2,i2,hy,hz,e3,i3⟩:=hx.mk
  refine ICall.intro (c:=cf prog gl [] [(17,[0,1,2,3,4,5,6,7,8,9,10,11,12,13,15,16,17,18,14,19,20,21,22,23,24,25,26,27,28,29,30,31,32,33,34,35,36,37,38,39,40,41,42,43,44]),(19,[0,1,2,3,4,5,6,7,8,9,11,12,13,14,10,15,16,17,18,19,20,21,22,23,24,25,26,27,28,29,30,31,32,33,34,35,36,37,38,39])]) func10 rfl (by show _ ≤ 212; simp) (by kernel_rfl) ?_
  simp -implicitDefEqProofs -dsimp only [go_sem,↓reduceIte,zE,zB,zA,zM,zS,zL,reduceCtorEq,fits]
  refine (hA _).mono ?_
  rintro _ st ⟨rfl,rfl⟩
  simp -implicitDefEqProofs -dsimp only [go_sem,↓reduceIte,zE,zB,zA,zM,zS,zL,reduceCtorEq,fits]
  refine (hS _).mono ?_
  rintro _ st ⟨rfl,rfl⟩
  by_cases hsm:(okT (.mk rule s m u n sub) && decide ((Tr.mk rule s m u n sub).steps ≤ 60)) = true
  case neg =>
    have hsm':(okT (.mk rule s m u n sub) && decide ((Tr.mk rule s m u n sub).steps ≤ 60)) = false:=by simpa using hsm
    simp -implicitDefEqProofs -dsimp only [go_sem,↓reduceIte,zE,zB,zA,zM,zS,zL,reduceCtorEq,hsm',fits]
    exact outK_self ⟨rfl,rfl⟩
  simp -implicitDefEqProofs -dsimp only [go_sem,↓reduceIte,zE,zB,zA,zM,zS,zL,reduceCtorEq,hsm,fits]
  rw [Bool.and_eq_true,decide_eq_true_eq] at hsm
  obtain ⟨hok,hst⟩:=hsm
  have hNA:=okT_NA hok
  have hNA':=hNA
  simp only [NA] at hNA'
  obtain ⟨hfs,hms,hus,hNs⟩:=hNA'
  have hu3:u.size ≤ 900000:=by
    simp only [okT,Bool.and_eq_true] at hok
    have:=(nodeB_true hok.1).2.2.1
    have:=size_wTm u
    omega
  have hsq0:IsSq s (.agg [.sl tl xl,.sl tr xr]):=⟨tl,xl,tr,xr,rfl,e1,i1,e2,i2⟩
  have hB:=fun st => Back_c gl G T ca s _ hsq0 hfs rule m _ hy hms u _ hz hus n st
  have hAd:=fun st => Added_c gl G T ca rule m _ hy hms u _ hz hus n st
  have hC:=fun st => Check_c gl G T ca _ _ hx0 (NA_fit hNA (by omega)) st
  refine (hB _).mono ?_
  rintro _ st ⟨tgl,zl,rfl,htgl,hzl,rfl⟩
  simp -implicitDefEqProofs -dsimp only [go_sem,↓reduceIte,zE,zB,zA,zM,zS,zL,reduceCtorEq,fits]
  refine (hAd _).mono ?_
  rintro _ st ⟨tga,za,rfl,htga,hza,rfl⟩
  simp -implicitDefEqProofs -dsimp only [go_sem,↓reduceIte,zE,zB,zA,zM,zS,zL,reduceCtorEq,fits]
  refine (hC _).mono ?_
  rintro _ st ⟨⟨tgp,rfl,htgp⟩,rfl⟩
  by_cases hb:(BackS ca s rule m u n).2 = 0
  case neg =>
    obtain ⟨hb1,hb2⟩:=Back_no (sub:=sub) hb
    have hb0:decide ((((BackS ca s rule m u n).2:Nat):Int) = 0) = false:=decide_eq_false (by omega)
    have hzl0:zl.length = 0:=by rw [hzl.len,hb1]; rfl
    by_cases hgz:(CheckS ca (.mk rule s m u n sub)).2 = 0
    · have h5:=hb2.resolve_left fun h => h.1 hgz
      have d1:decide ((((CheckS ca (.mk rule s m u n sub)).2:Nat):Int) = 0) = true:=decide_eq_true (by omega)
      have d2:decide ((((BackS ca s rule m u n).2:Nat):Int) = 5) = true:=decide_eq_true (by omega)
      simp -implicitDefEqProofs -dsimp only [go_sem,↓reduceIte,zE,zB,zA,zM,zS,zL,reduceCtorEq,fits,hb0,hzl0,d1,d2,decide_true,show decide (((0:Nat):Int) = 0) = true from rfl]
      intros
      exact outK_self ⟨rfl,rfl⟩
    · have d1:decide ((((CheckS ca (.mk rule s m u n sub)).2:Nat):Int) = 0) = false:=decide_eq_false (by omega)
      cases hpp:decide (((((CheckS ca (.mk rule s m u n sub)).1.length:Nat)):Int) = 0)
      · have h5:=hb2.resolve_left fun h => by rw [h.2] at hpp; simp at hpp
        have d2:decide ((((BackS ca s rule m u n).2:Nat):Int) = 5) = true:=decide_eq_true (by omega)
        simp -implicitDefEqProofs -dsimp only [go_sem,↓reduceIte,zE,zB,zA,zM,zS,zL,reduceCtorEq,fits,hb0,hzl0,d1,d2,plI_len,hpp,decide_true,show decide (((0:Nat):Int) = 0) = true from rfl]
        intros
        exact outK_self ⟨rfl,rfl⟩
      · simp -implicitDefEqProofs -dsimp only [go_sem,↓reduceIte,zE,zB,zA,zM,zS,zL,reduceCtorEq,fits,hb0,hzl0,d1,plI_len,hpp,decide_true,show decide (((0:Nat):Int) = 0) = true from rfl]
        intros
        exact outK_self ⟨rfl,rfl⟩
  obtain ⟨r,ad,hk,hv,hrow,hstep,hadds,hadded,hback,hokI⟩:=Back_yes hb
  rw [hback] at hzl
  rw [hadded] at hza
  rw [hback,hadded]
  simp only at hzl hza ⊢
  have had:=addsS_fm hrow hu3 hadds
  have h1:ca = 2 → ∀ q ∈ ad,q.r.length ≤ 1:=fun hc => by subst hc; exact addsS_one hadds
  have hl2:=addsS_len hadds
  have hfitI:∀ q ∈ ad,fitSq (itemI ca s q):=fun q hq => ⟨fit_fmB (item_all hv (had q hq)).1,fit_fmB (item_all hv (had q hq)).2⟩
  have hfitA:∀ q ∈ ad,fitSq q:=fun q hq => ⟨fit_fmB (had q hq).1,fit_fmB (had q hq).2⟩
  have hLn:zl.length = ad.length:=by rw [hzl.len,List.length_map]
  have hAn:za.length = ad.length:=hza.len
  have hwhole:=wholeS (f:=m) (u:=u) (n:=n) (rule:=rule) hk hv hstep had h1 hokI hl2
  have dlen:decide (((ad.length:Nat):Int) = ((ad.length:Nat):Int)) = true:=decide_eq_true rfl
  simp -implicitDefEqProofs -dsimp only [go_sem,↓reduceIte,zE,zB,zA,zM,zS,zL,reduceCtorEq,fits,hLn,hAn,decide_true,dlen,show decide (((0:Nat):Int) = 0) = true from rfl]
  intros
  refine (q_step gl _ _ _ _ _ _ _ _ _ _ _ _ _ _ _ _ _).mono ?_
  rintro _ st ⟨rfl,rfl⟩
  simp -implicitDefEqProofs -dsimp only [go_sem,↓reduceIte,zE,zB,zA,zM,zS,zL,reduceCtorEq,fits]
  refine LoopC.ctr ad.length (fun k fr st' ds => (∃ tg' ys,fr 11 = .box [.raw (.int .u8 rule),.sl tl xl,.sl tr xr,.raw (.int .u8 op),.raw (.string fn),.sl ta xa,.sl tb xb,.raw (.bool v),.raw (.string un),.sl tu xu,.raw (.string n),.sl tg' ys] ∧ IsTrs (((ad.take k).map (itemI ca s)).map bareT) ys ∧ own st' tg' k 12 st ∧ subSt st st') ∧
    fr 0 = .iv (.raw (.int .u8 ca)) ∧ fr 3 = .box [.raw (.int .u8 rule),.sl tl xl,.sl tr xr,.raw (.int .u8 op),.raw (.string fn),.sl ta xa,.sl tb xb,.raw (.bool v),.raw (.string un),.sl tu xu,.raw (.string n),.sl ts xs] ∧
    fr 5 = .iv (.sl tgl zl) ∧ fr 7 = .iv (.sl tga za) ∧ fr 10 = .iv (.raw (.int .i64 ((CheckS ca (.mk rule s m u n sub)).2))) ∧ fr 12 = .iv (.raw (.int .i64 k)) ∧ ds = []) ?_ ?_ ?_
  · simp -implicitDefEqProofs -dsimp only [go_sem,↓reduceIte,zE,zB,zA,zM,zS,zL,reduceCtorEq]
    exact ⟨⟨_,_,rfl,rfl,own.nil _ _ _ _ _,subSt.refl _⟩,rfl⟩
  · rintro k fr st1 _ hlt ⟨⟨tg',ys,f11,hys,hown,hsub⟩,f0,f3,f5,f7,f10,f12,rfl⟩
    obtain ⟨q,hq⟩:=get_of_lt hlt
    have hqm:=List.mem_of_getElem? hq
    obtain ⟨zq,hkz,hzq⟩:=hzl.get (k:=k) (a:=itemI ca s q) (by rw [List.getElem?_map,hq]; rfl)
    obtain ⟨aq,hka,haq⟩:=hza.get hq
    have hlen2:ys.length = k:=by rw [hys.len,List.length_map,List.length_map,List.length_take]; omega
    have hzq0:=hzq
    have haq0:=haq
    obtain ⟨tz1,xz1,tz2,xz2,rfl,ez1,iz1,ez2,iz2⟩:=hzq
    obtain ⟨ta1,xa1,ta2,xa2,rfl,ea1,ia1,ea2,ia2⟩:=haq
    obtain ⟨p1,p2,p3⟩:=item_laws (ca:=ca) hv (had q hqm)
    have p4:=item_valid hv (had q hqm) (fun hc => h1 hc q hqm) (List.all_eq_true.1 hokI q hqm)
    have hW1:=fun st => Within_c gl G _ _ _ _ haq0 hzq0 (hfitA q hqm) (hfitI q hqm) st
    have hW2:=fun st => Within_c gl G ⟨s.l,[]⟩ _ (.agg [.sl tl xl,.sl ⟨true,.nil,0⟩ []]) _ ⟨_,_,_,_,rfl,e1,i1,.inl rfl,rfl⟩ hzq0 ⟨hfs.1,fun f hf => (by cases hf)⟩ (hfitI q hqm) st
    have hW3:=fun st => Within_c gl G s _ _ _ hsq0 hzq0 hfs (hfitI q hqm) st
    have hV4:=fun st => Valid_c gl G ca _ _ hzq0 (hfitI q hqm) st
    rw [p1] at hW1
    rw [p2] at hW2
    rw [p4] at hV4
    have d3:decide (((ca:Nat):Int) = 2) = decide (ca = 2):=by rw [decide_eq_decide]; omega
    simp -implicitDefEqProofs -dsimp only [go_sem,↓reduceIte,zE,zB,zA,zM,zS,zL,reduceCtorEq,f0,f3,f5,f7,f10,f11,f12,hLn,lt_i hlt,reTag_es htgl,Int.natCast_nonneg,hkz,fits]
    intros
    refine (q_step gl _ _ _ _ _ _ _ _ _ _ _ _ _ _ _ _ _).mono ?_
    rintro _ _ ⟨rfl,rfl⟩
    simp -implicitDefEqProofs -dsimp only [go_sem,↓reduceIte,zE,zB,zA,zM,zS,zL,reduceCtorEq,f0,f3,f5,f7,f10,f11,f12,fits,inOrder_one]
    refine appV_ownD hown hlen2 hsub rfl (by simp [fits,IV.one]) (by simp only; omega) (by omega) fun tg2 st4 hown2 hsub4 _ hap2 => ?_
    simp -implicitDefEqProofs -dsimp only [go_sem,↓reduceIte,zE,zB,zA,zM,zS,zL,reduceCtorEq,f0,f3,f5,f7,f10,f11,f12,hLn,hAn,reTag_es htgl,reTag_es htga,Int.natCast_nonneg,hkz,hka,fits]
    intros
    refine (hW1 _).mono ?_
    rintro _ _ ⟨rfl,rfl⟩
    simp -implicitDefEqProofs -dsimp only [go_sem,↓reduceIte,zE,zB,zA,zM,zS,zL,reduceCtorEq,f0,f3,f5,f7,f10,f11,f12,hLn,hAn,reTag_es htgl,reTag_es htga,Int.natCast_nonneg,hkz,hka,fits]
    refine (q_sq gl _ _ _ _ _).mono ?_
    rintro _ _ ⟨rfl,rfl⟩
    simp -implicitDefEqProofs -dsimp only [go_sem,↓reduceIte,zE,zB,zA,zM,zS,zL,reduceCtorEq,f0,f3,f5,f7,f10,f11,f12,hLn,hAn,reTag_es htgl,reTag_es htga,Int.natCast_nonneg,hkz,hka,fits]
    refine (hW2 _).mono ?_
    rintro _ _ ⟨rfl,rfl⟩
    have hn:IsTrs (((ad.take (k + 1)).map (itemI ca s)).map bareT) (ys ++ [.agg [.raw (.int .u8 0),.sl tz1 xz1,.sl tz2 xz2,.raw (.int .u8 0),.raw (.string ⟨#[]⟩),.sl ⟨true,.nil,0⟩ [],.sl ⟨true,.nil,0⟩ [],.raw (.bool false),.raw (.string ⟨#[]⟩),.sl ⟨true,.nil,0⟩ [],.raw (.string ⟨#[]⟩),.sl ⟨true,.nil,0⟩ []]]):=by
      rw [take_get hq,List.map_append,List.map_append]
      refine hys.append ?_
      simp only [List.map_cons,List.map_nil,bareT,IsTrs,IsTr]
      exact ⟨_,_,rfl,⟨_,_,_,_,_,_,_,_,_,_,_,_,_,_,_,_,rfl,by omega,ez1,iz1,ez2,iz2,⟨_,_,_,_,rfl,by omega,.inl rfl,rfl,.inl rfl,rfl⟩,⟨_,_,rfl,.inl rfl,rfl⟩,.inl rfl,rfl⟩,rfl⟩
    by_cases hc2:ca = 2
    · have dc:decide (((ca:Nat):Int) = 2) = true:=decide_eq_true (by omega)
      simp -implicitDefEqProofs -dsimp only [go_sem,↓reduceIte,zE,zB,zA,zM,zS,zL,reduceCtorEq,f0,f3,f5,f7,f10,f11,f12,hLn,hAn,reTag_es htgl,reTag_es htga,reTag_es e3,Int.natCast_nonneg,hkz,hka,fits,dc]
      refine (hV4 _).mono ?_
      rintro _ _ ⟨rfl,rfl⟩
      by_cases hgz:(CheckS ca (.mk rule s m u n sub)).2 = 0
      · have dg:decide ((((CheckS ca (.mk rule s m u n sub)).2:Nat):Int) = 0) = true:=decide_eq_true (by omega)
        obtain ⟨_,_,hcz,_⟩:=CheckS_zero hgz
        obtain ⟨_,hsl,hpr⟩:=checkS_step hcz
        rw [hstep] at hsl hpr
        simp only at hsl hpr
        have hlts:k < sub.length:=by omega
        obtain ⟨b,hbk⟩:=get_of_lt hlts
        obtain ⟨zb,hkt,hzb⟩:=i3.get hbk
        have hsb:=item_subs (ca:=ca) (prems_get s ad sub hpr k q b hq hbk)
        have hbfit:=NA_sq (NAs_mem hNs (List.mem_of_getElem? hbk))
        obtain ⟨br,bs,bm,bu,bn,bsub⟩:=b
        obtain ⟨tl5,xl5,tr5,xr5,op5,fn5,ta5,xa5,tb5,xb5,v5,un5,tu5,xu5,ts5,xs5,rfl,_,e15,i15,e25,i25,_⟩:=hzb.mk
        simp only [Tr.sq] at hsb hbfit
        have hW5:=fun st => Within_c gl G ⟨bs.l,[]⟩ _ (.agg [.sl tl5 xl5,.sl ⟨true,.nil,0⟩ []]) _ ⟨_,_,_,_,rfl,e15,i15,.inl rfl,rfl⟩ hzq0 ⟨hbfit.1,fun f hf => (by cases hf)⟩ (hfitI q hqm) st
        have hW6:=fun st => Within_c gl G bs _ (.agg [.sl tl5 xl5,.sl tr5 xr5]) _ ⟨_,_,_,_,rfl,e15,i15,e25,i25⟩ hzq0 hbfit (hfitI q hqm) st
        rw [hsb.1] at hW5
        simp -implicitDefEqProofs -dsimp only [go_sem,↓reduceIte,zE,zB,zA,zM,zS,zL,reduceCtorEq,f0,f3,f5,f7,f10,f11,f12,hLn,hAn,reTag_es htgl,reTag_es htga,reTag_es e3,Int.natCast_nonneg,hkz,hka,fits,dc,dg,hkt]
        refine (q_sq gl _ _ _ _ _).mono ?_
        rintro _ _ ⟨rfl,rfl⟩
        simp -implicitDefEqProofs -dsimp only [go_sem,↓reduceIte,zE,zB,zA,zM,zS,zL,reduceCtorEq,f0,f3,f5,f7,f10,f11,f12,hLn,hAn,reTag_es htgl,reTag_es htga,reTag_es e3,Int.natCast_nonneg,hkz,hka,fits,dc,dg]
        refine (hW5 _).mono ?_
        rintro _ _ ⟨rfl,rfl⟩
        simp -implicitDefEqProofs -dsimp only [go_sem,↓reduceIte,zE,zB,zA,zM,zS,zL,reduceCtorEq,f0,f3,f5,f7,f10,f11,f12,hLn,hAn,reTag_es htgl,reTag_es htga,reTag_es e3,Int.natCast_nonneg,hkz,hka,fits,dc,dg,w_succ hlt (show ad.length ≤ 281474976710656 by omega)]
        exact ⟨tg2,_,rfl,hn,hown2,hsub4⟩
      · have dg:decide ((((CheckS ca (.mk rule s m u n sub)).2:Nat):Int) = 0) = false:=decide_eq_false (by omega)
        simp -implicitDefEqProofs -dsimp only [go_sem,↓reduceIte,zE,zB,zA,zM,zS,zL,reduceCtorEq,f0,f3,f5,f7,f10,f11,f12,hLn,hAn,reTag_es htgl,reTag_es htga,reTag_es e3,Int.natCast_nonneg,hkz,hka,fits,dc,dg,w_succ hlt (show ad.length ≤ 281474976710656 by omega)]
        exact ⟨tg2,_,rfl,hn,hown2,hsub4⟩
    · have dc:decide (((ca:Nat):Int) = 2) = false:=decide_eq_false (by omega)
      rw [p3 hc2] at hW3
      simp -implicitDefEqProofs -dsimp only [go_sem,↓reduceIte,zE,zB,zA,zM,zS,zL,reduceCtorEq,f0,f3,f5,f7,f10,f11,f12,hLn,hAn,reTag_es htgl,reTag_es htga,reTag_es e3,Int.natCast_nonneg,hkz,hka,fits,dc]
      refine (hW3 _).mono ?_
      rintro _ _ ⟨rfl,rfl⟩
      simp -implicitDefEqProofs -dsimp only [go_sem,↓reduceIte,zE,zB,zA,zM,zS,zL,reduceCtorEq,f0,f3,f5,f7,f10,f11,f12,hLn,hAn,reTag_es htgl,reTag_es htga,reTag_es e3,Int.natCast_nonneg,hkz,hka,fits,dc]
      refine (hV4 _).mono ?_
      rintro _ _ ⟨rfl,rfl⟩
      by_cases hgz:(CheckS ca (.mk rule s m u n sub)).2 = 0
      · have dg:decide ((((CheckS ca (.mk rule s m u n sub)).2:Nat):Int) = 0) = true:=decide_eq_true (by omega)
        obtain ⟨_,_,hcz,_⟩:=CheckS_zero hgz
        obtain ⟨_,hsl,hpr⟩:=checkS_step hcz
        rw [hstep] at hsl hpr
        simp only at hsl hpr
        have hlts:k < sub.length:=by omega
        obtain ⟨b,hbk⟩:=get_of_lt hlts
        obtain ⟨zb,hkt,hzb⟩:=i3.get hbk
        have hsb:=item_subs (ca:=ca) (prems_get s ad sub hpr k q b hq hbk)
        have hbfit:=NA_sq (NAs_mem hNs (List.mem_of_getElem? hbk))
        obtain ⟨br,bs,bm,bu,bn,bsub⟩:=b
        obtain ⟨tl5,xl5,tr5,xr5,op5,fn5,ta5,xa5,tb5,xb5,v5,un5,tu5,xu5,ts5,xs5,rfl,_,e15,i15,e25,i25,_⟩:=hzb.mk
        simp only [Tr.sq] at hsb hbfit
        have hW5:=fun st => Within_c gl G ⟨bs.l,[]⟩ _ (.agg [.sl tl5 xl5,.sl ⟨true,.nil,0⟩ []]) _ ⟨_,_,_,_,rfl,e15,i15,.inl rfl,rfl⟩ hzq0 ⟨hbfit.1,fun f hf => (by cases hf)⟩ (hfitI q hqm) st
        have hW6:=fun st => Within_c gl G bs _ (.agg [.sl tl5 xl5,.sl tr5 xr5]) _ ⟨_,_,_,_,rfl,e15,i15,e25,i25⟩ hzq0 hbfit (hfitI q hqm) st
        rw [hsb.1] at hW5
        rw [hsb.2 hc2] at hW6
        simp -implicitDefEqProofs -dsimp only [go_sem,↓reduceIte,zE,zB,zA,zM,zS,zL,reduceCtorEq,f0,f3,f5,f7,f10,f11,f12,hLn,hAn,reTag_es htgl,reTag_es htga,reTag_es e3,Int.natCast_nonneg,hkz,hka,fits,dc,dg,hkt]
        refine (q_sq gl _ _ _ _ _).mono ?_
        rintro _ _ ⟨rfl,rfl⟩
        simp -implicitDefEqProofs -dsimp only [go_sem,↓reduceIte,zE,zB,zA,zM,zS,zL,reduceCtorEq,f0,f3,f5,f7,f10,f11,f12,hLn,hAn,reTag_es htgl,reTag_es htga,reTag_es e3,Int.natCast_nonneg,hkz,hka,fits,dc,dg,hkt]
        refine (hW5 _).mono ?_
        rintro _ _ ⟨rfl,rfl⟩
        simp -implicitDefEqProofs -dsimp only [go_sem,↓reduceIte,zE,zB,zA,zM,zS,zL,reduceCtorEq,f0,f3,f5,f7,f10,f11,f12,hLn,hAn,reTag_es htgl,reTag_es htga,reTag_es e3,Int.natCast_nonneg,hkz,hka,fits,dc,dg,hkt]
        refine (hW6 _).mono ?_
        rintro _ _ ⟨rfl,rfl⟩
        simp -implicitDefEqProofs -dsimp only [go_sem,↓reduceIte,zE,zB,zA,zM,zS,zL,reduceCtorEq,f0,f3,f5,f7,f10,f11,f12,hLn,hAn,reTag_es htgl,reTag_es htga,reTag_es e3,Int.natCast_nonneg,hkz,hka,fits,dc,dg,w_succ hlt (show ad.length ≤ 281474976710656 by omega)]
        exact ⟨tg2,_,rfl,hn,hown2,hsub4⟩
      · have dg:decide ((((CheckS ca (.mk rule s m u n sub)).2:Nat):Int) = 0) = false:=decide_eq_false (by omega)
        simp -implicitDefEqProofs -dsimp only [go_sem,↓reduceIte,zE,zB,zA,zM,zS,zL,reduceCtorEq,f0,f3,f5,f7,f10,f11,f12,hLn,hAn,reTag_es htgl,reTag_es htga,reTag_es e3,Int.natCast_nonneg,hkz,hka,fits,dc,dg,w_succ hlt (show ad.length ≤ 281474976710656 by omega)]
        exact ⟨tg2,_,rfl,hn,hown2,hsub4⟩
  · rintro fr st1 _ ⟨⟨tg',ys,f11,hys,hown,hsub⟩,f0,f3,f5,f7,f10,f12,rfl⟩
    rw [List.take_length] at hys
    have hxw:IsTr (.mk rule s m u n ((ad.map (itemI ca s)).map bareT)) (.agg [.raw (.int .u8 rule),.sl tl xl,.sl tr xr,.raw (.int .u8 op),.raw (.string fn),.sl ta xa,.sl tb xb,.raw (.bool v),.raw (.string un),.sl tu xu,.raw (.string n),.sl tg' ys]):=by
      simp only [IsTr]
      exact ⟨_,_,_,_,_,_,_,_,_,_,_,_,_,_,_,_,rfl,hru,e1,i1,e2,i2,hy,hz,hown.es,hys⟩
    have hCw:=fun st => Check_c gl G T ca _ _ hxw (NA_fit ⟨hfs,hms,hus,bareTs_NA ad hfitI⟩ (by show 1 + stepsTrs _ ≤ _; rw [bareTs_steps,List.length_map]; omega)) st
    simp only [hwhole] at hCw
    simp -implicitDefEqProofs -dsimp only [go_sem,↓reduceIte,zE,zB,zA,zM,zS,zL,reduceCtorEq,f0,f3,f5,f7,f10,f11,f12,hLn,nlt_i (Nat.lt_irrefl _),fits]
    intros
    refine (hCw _).mono ?_
    rintro _ _ ⟨⟨tg9,rfl,htg9⟩,rfl⟩
    by_cases h0:ad.length = 0
    · have d0:decide (((ad.length:Nat):Int) = 0) = true:=decide_eq_true (by omega)
      simp -implicitDefEqProofs -dsimp only [go_sem,↓reduceIte,zE,zB,zA,zM,zS,zL,reduceCtorEq,f0,f3,f5,f7,f10,f11,f12,hLn,h0,d0,fits,if_pos,show plI [] = [] from rfl,show decide (((0:Nat):Int) = 0) = true from rfl]
      intros
      exact outK_sub hsub ⟨rfl,rfl⟩
    · have d0:decide (((ad.length:Nat):Int) = 0) = false:=decide_eq_false (by omega)
      have hSI:=fun st => SameInts_c gl tg9 ⟨true,.full,1⟩ [0] [0] htg9 (.inr rfl) st
      simp -implicitDefEqProofs -dsimp only [go_sem,↓reduceIte,zE,zB,zA,zM,zS,zL,reduceCtorEq,f0,f3,f5,f7,f10,f11,f12,hLn,h0,d0,fits,inOrder_one,if_neg,show plI [0] = [.raw (.int .i64 0)] from rfl,show decide (((191:Nat):Int) = 191) = true from rfl]
      intros
      refine (hSI _).mono ?_
      rintro _ _ ⟨rfl,rfl⟩
      simp -implicitDefEqProofs -dsimp only [go_sem,↓reduceIte,zE,zB,zA,zM,zS,zL,reduceCtorEq,fits,show eqB [0] [0] = true from eqB_true.2 rfl]
      exact outK_sub hsub ⟨rfl,rfl⟩
end Go.Proofs.Tryz
