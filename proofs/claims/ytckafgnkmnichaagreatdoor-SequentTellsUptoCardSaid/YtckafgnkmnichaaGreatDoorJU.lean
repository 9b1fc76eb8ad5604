/- Putting, renaming, normal forms: plain d -/
import Derived.Test.YtckafgnkmnichaaGreatDoorJT
import Derived.Lib.ItoaNum
set_option linter.all false
namespace Go.Proofs.Tryz
open Go Go.Iv
def yVg (k:Nat):ByteArray:=⟨(120 :: Lib.decDigits k).toArray⟩
def valD (l:List UInt8):Nat:=l.foldl (fun a d => a * 10 + (d.toNat - 48)) 0
theorem xJo (u:Nat):valD (Lib.decDigits u) = u:=by
 induction u using Nat.strongRecOn with
 | _ u ih =>
  rw [Lib.decDigits]
  by_cases h:u < 10
  ·rw [dif_pos h]
   simp only [valD,List.foldl_cons,List.foldl_nil,UInt8.toNat_ofNat']
   omega
  ·rw [dif_neg h]
   have:=ih (u / 10) (by omega)
   simp only [valD,List.foldl_append,List.foldl_cons,List.foldl_nil,UInt8.toNat_ofNat'] at this ⊢
   rw [this]
   omega
theorem xYz {a b:Nat} (h:yVg a = yVg b):a = b:=by
 have h1:(120 :: Lib.decDigits a) = (120 :: Lib.decDigits b):=by
  have:=congrArg (fun x:ByteArray => x.data.toList) h
  simpa [yVg] using this
 have h2:Lib.decDigits a = Lib.decDigits b:=by injection h1
 rw [← xJo a,h2,xJo b]
theorem xKj {α:Type} [DecidableEq α]:∀ (a b:List α),a.Nodup → (∀ x ∈ a,x ∈ b) → a.length ≤ b.length
 | [],b,_,_ => Nat.zero_le _
 | x :: a,b,hn,hs => by
  have hx:=hs x (List.mem_cons_self ..)
  have hn':=List.nodup_cons.1 hn
  have:=xKj a (b.erase x) hn'.2 (fun y hy => (List.mem_erase_of_ne (by rintro rfl; exact hn'.1 hy)).2 (hs y (List.mem_cons_of_mem _ hy)))
  rw [List.length_erase_of_mem hx] at this
  have hb:0 < b.length:=List.length_pos_of_mem hx
  simp only [List.length_cons]; omega
theorem wJt (l:List ByteArray):∃ k,1 ≤ k ∧ k ≤ l.length + 1 ∧ yVg k ∉ l:=by
 refine Classical.byContradiction fun hne => ?_
 have hall:∀ k,1 ≤ k → k ≤ l.length + 1 → yVg k ∈ l:=fun k h1 h2 => Classical.byContradiction fun h => hne ⟨k,h1,h2,h⟩
 have:=xKj ((List.range' 1 (l.length + 1)).map yVg) l (by
   unfold List.Nodup
   rw [List.pairwise_map]
   exact List.Pairwise.imp (fun h he => h (xYz he)) (List.nodup_range' (s:=1) (n:=l.length + 1))) (fun x hx => by
   obtain ⟨k,hk,rfl⟩:=List.mem_map.1 hx
   have:=List.mem_range'_1.1 hk
   exact hall k (by omega) (by omega))
 simp at this
 omega
noncomputable def yK5 (l:List ByteArray):Nat:=Iv.least (fun k => 1 ≤ k ∧ yVg k ∉ l)
theorem yWz (l:List ByteArray):1 ≤ yK5 l ∧ yK5 l ≤ l.length + 1 ∧ yVg (yK5 l) ∉ l ∧ ∀ j,1 ≤ j → j < yK5 l → yVg j ∈ l:=by
 obtain ⟨k,h1,h2,h3⟩:=wJt l
 have hs:=Iv.least_spec (p:=fun k => 1 ≤ k ∧ yVg k ∉ l) ⟨k,h1,h3⟩
 refine ⟨hs.1.1,Nat.le_trans (hs.2 k ⟨h1,h3⟩) h2,hs.1.2,fun j hj hlt => Classical.byContradiction fun hn => ?_⟩
 have:=hs.2 j ⟨hj,hn⟩
 unfold yK5 at hlt
 omega
theorem wQa {l:List ByteArray} {k:Nat} (h1:1 ≤ k) (h2:yVg k ∉ l) (h3:∀ j,1 ≤ j → j < k → yVg j ∈ l):yK5 l = k:=by
 obtain ⟨a1,a2,a3,a4⟩:=yWz l
 rcases Nat.lt_trichotomy (yK5 l) k with h | h | h
 ·exact absurd (h3 _ a1 h) a3
 ·exact h
 ·exact absurd (a4 k h1 h) h2
theorem zUx {l m:List ByteArray} (h:∀ x,x ∈ l ↔ x ∈ m):yK5 l = yK5 m:=by
 obtain ⟨a1,a2,a3,a4⟩:=yWz m
 exact wQa a1 (fun hx => a3 ((h _).1 hx)) (fun j hj hlt => (h _).2 (a4 j hj hlt))
noncomputable def yJl (l:List ByteArray):ByteArray:=yVg (yK5 l)
theorem zZo {l m:List ByteArray} (h:∀ x,x ∈ l ↔ x ∈ m):yJl l = yJl m:=by unfold yJl; rw [zUx h]
def memB (l:List ByteArray) (n:ByteArray):Bool:=l.any fun x => decide (x = n)
@[simp] theorem yX4 {l:List ByteArray} {n:ByteArray}:memB l n = true ↔ n ∈ l:=by
 simp [memB]
@[simp] theorem zQ4 {l:List ByteArray} {n:ByteArray}:memB l n = false ↔ n ∉ l:=by
 rw [← Bool.not_eq_true,yX4]
mutual
def frF:Fm → List ByteArray
 | .mk op m us sub => yQh us ++ (if isQ op then (frFs sub).filter (fun n => !decide (n = m)) else frFs sub)
def frFs:List Fm → List ByteArray
 | [] => []
 | a :: l => frF a ++ frFs l
end
theorem xYa (b:ByteArray → Nat) (m:ByteArray) (l:List ByteArray):yKv (incB b m) l = yKv b (l.filter (fun n => !decide (n = m))):=by
 unfold yKv
 rw [List.filter_filter]
 refine List.filter_congr fun n _ => ?_
 unfold incB
 by_cases h:n = m <;> simp [h]
mutual
theorem xQb:∀ (f:Fm) (b:ByteArray → Nat),zQf b f = yKv b (frF f)
 | .mk op m us sub,b => by
  simp only [zQf,frF,yXs]
  rw [zWb sub]
  split
  ·rw [xYa]
  ·rfl
theorem zWb:∀ (l:List Fm) (b:ByteArray → Nat),yX7 b l = yKv b (frFs l)
 | [],b => by simp [yX7,frFs,yKv]
 | a :: l,b => by simp only [yX7,frFs,yXs,xQb a b,zWb l b]
end
theorem zXf (f:Fm):xXt f = frF f:=by
 unfold xXt
 rw [xQb]
 unfold yKv
 rw [List.filter_eq_self]
 intro a _; rfl
abbrev Sb:=List (ByteArray × Tm)
def yZ9 (l:Sb) (n:ByteArray):Option Tm:=(l.find? fun p => decide (p.1 = n)).map (·.2)
def cntS (ps:Sb) (m:ByteArray) (fr:List ByteArray):Sb:=ps.filter fun p => memB fr p.1 && !decide (p.1 = m)
def zWi (ps:Sb) (m:ByteArray) (fr:List ByteArray):Bool:=(cntS ps m fr).any fun p => memB (yQn p.2) m
def yGs (ps:Sb) (m:ByteArray) (fr:List ByteArray):List ByteArray:=fr ++ (cntS ps m fr).flatMap fun p => yQn p.2
noncomputable def yJ4 (ps:Sb) (m:ByteArray) (fr:List ByteArray):ByteArray × Sb :=
 if zWi ps m fr then (yJl (yGs ps m fr),cntS ps m fr ++ [(m,.mk true (yJl (yGs ps m fr)) [])]) else (m,cntS ps m fr)
mutual
noncomputable def yJe:Sb → Fm → Fm
 | ps,.mk op m us sub => .mk op (if isQ op then (yJ4 ps m (frFs sub)).1 else m) (yZf (yZ9 ps) us) (yXj (if isQ op then (yJ4 ps m (frFs sub)).2 else ps) sub)
noncomputable def yXj:Sb → List Fm → List Fm
 | _,[] => []
 | ps,a :: l => yJe ps a :: yXj ps l
end
theorem yJi (ps:Sb):∀ l m:List Fm,yXj ps (l ++ m) = yXj ps l ++ yXj ps m
 | [],m => by simp [yXj]
 | a :: l,m => by simp only [List.cons_append,yXj,yJi ps l m]
theorem yJh (ps:Sb):∀ l:List Fm,(yXj ps l).length = l.length
 | [] => rfl
 | a :: l => by simp only [yXj,List.length_cons,yJh ps l]
inductive NlT where
 | bv (i:Nat)
 | fv (n:ByteArray)
 | ap (n:ByteArray) (l:List NlT)
inductive NlF where
 | mk (op:Nat) (n:ByteArray) (us:List NlT) (sub:List NlF)
def yYq:List ByteArray → ByteArray → Option Nat
 | [],_ => none
 | m :: e,n => if n = m then some e.length else yYq e n
def yKe (env:List ByteArray) (n:ByteArray):NlT:=match yYq env n with | some i => .bv i | none => .fv n
mutual
def db (env:List ByteArray):Tm → NlT
 | .mk true n _ => yKe env n
 | .mk false n l => .ap n (dbs env l)
def dbs (env:List ByteArray):List Tm → List NlT
 | [] => []
 | a :: l => db env a :: dbs env l
end
mutual
def dbF:List ByteArray → Fm → NlF
 | env,.mk op m us sub => .mk op (if isQ op then ⟨#[]⟩ else m) (dbs env us) (dbFs (if isQ op then m :: env else env) sub)
def dbFs:List ByteArray → List Fm → List NlF
 | _,[] => []
 | env,a :: l => dbF env a :: dbFs env l
end
theorem zX8:∀ {e:List ByteArray} {n:ByteArray} {i:Nat},yYq e n = some i → i < e.length
 | [],n,i,h => by cases h
 | m :: e,n,i,h => by
  simp only [yYq] at h
  split at h
  ·cases h; simp
  ·have:=zX8 h; simp only [List.length_cons]; omega
theorem zW2 {e:List ByteArray} {m n:ByteArray}:yKe (m :: e) n = if n = m then .bv e.length else yKe e n:=by
 unfold yKe
 simp only [yYq]
 by_cases h:n = m <;> simp [h]
theorem xKf {n:ByteArray} {l:List Tm} (h:(Tm.mk true n l).ok = true):l = []:=by
 simp only [Tm.ok,bAt,List.isEmpty_iff] at h; exact h.1
theorem xKg {n:ByteArray} {l:List Tm} (h:(Tm.mk false n l).ok = true):yJa l = true:=by
 simp only [Tm.ok,bAt] at h; exact h.2
theorem yVd {a:Tm} {l:List Tm} (h:yJa (a :: l) = true):a.ok = true ∧ yJa l = true:=by
 simpa only [yJa,bAt] using h
theorem yKj {a:Fm} {l:List Fm} (h:yKy (a :: l) = true):a.ok = true ∧ yKy l = true:=by
 simpa only [yKy,bAt] using h
theorem yWu {op:Nat} {m:ByteArray} {us:List Tm} {sub:List Fm} (h:(Fm.mk op m us sub).ok = true):yJa us = true ∧ yKy sub = true ∧ yZ6 op m us.length sub.length = true:=by
 simp only [Fm.ok,bAt] at h; exact ⟨h.1.2,h.2,h.1.1⟩
theorem wJ7 {op:Nat} {m:ByteArray} {us:List Tm} {sub:List Fm} (hq:isQ op = true) (h:(Fm.mk op m us sub).ok = true):us = [] ∧ yKk m = true ∧ ∃ g,sub = [g] ∧ g.ok = true:=by
 obtain ⟨h1,h2,h3⟩:=yWu h
 have ho:op = 8 ∨ op = 9:=by simpa [isQ] using hq
 have h4:(yKk m && decide (us.length = 0) && decide (sub.length = 1)) = true:=by rcases ho with rfl | rfl <;> exact h3
 simp only [bAt,dTe] at h4
 refine ⟨List.eq_nil_of_length_eq_zero h4.1.2,h4.1.1,?_⟩
 match sub,h4.2,h2 with
 | [g],_,h2 => exact ⟨g,rfl,(yKj h2).1⟩
theorem zZw {ps:Sb} {q:ByteArray × Tm → Bool} {n:ByteArray} (h:∀ u,q (n,u) = true):yZ9 (ps.filter q) n = yZ9 ps n:=by
 unfold yZ9
 rw [List.find?_filter]
 congr 2
 funext p
 by_cases hp:p.1 = n
 ·obtain ⟨a,u⟩:=p; simp only at hp; subst hp; simp [h u]
 ·simp [hp]
theorem zZx {ps:Sb} {q:ByteArray × Tm → Bool} {n:ByteArray} (h:∀ u,q (n,u) = false):yZ9 (ps.filter q) n = none:=by
 unfold yZ9
 rw [List.find?_filter,Option.map_eq_none_iff,List.find?_eq_none]
 intro p _
 by_cases hp:p.1 = n
 ·obtain ⟨a,u⟩:=p; simp only at hp; subst hp; simp [h u]
 ·simp [hp]
theorem yVx (ps qs:Sb) (n:ByteArray):yZ9 (ps ++ qs) n = (yZ9 ps n).or (yZ9 qs n):=by
 unfold yZ9
 rw [List.find?_append]
 cases ps.find? _ <;> rfl
theorem zUt {ps:Sb} {m n:ByteArray} {fr:List ByteArray} (hn:n ∈ fr) (hm:n ≠ m):yZ9 (cntS ps m fr) n = yZ9 ps n :=
 zZw fun u => by simp [hn,hm]
theorem yGv {ps:Sb} {m:ByteArray} {fr:List ByteArray}:yZ9 (cntS ps m fr) m = none :=
 zZx fun u => by simp
theorem zUs {ps:Sb} {n:ByteArray} {u:Tm} (h:yZ9 ps n = some u):(n,u) ∈ ps:=by
 unfold yZ9 at h
 rw [Option.map_eq_some_iff] at h
 obtain ⟨⟨a,v⟩,h1,h2⟩:=h
 have h3:=List.find?_some h1
 simp only [dTe] at h3
 simp only at h2
 subst h3 h2
 exact List.mem_of_find?_eq_some h1
end Go.Proofs.Tryz
namespace Go.Proofs.Tryz
open Go Go.Iv
theorem xWv {ps:Sb} {m:ByteArray} {fr:List ByteArray} {n:ByteArray} (hn:n ∈ fr) :
  yZ9 (yJ4 ps m fr).2 n = if n = m then (if zWi ps m fr then some (.mk true (yJ4 ps m fr).1 []) else none) else yZ9 ps n:=by
 unfold yJ4
 by_cases hnm:n = m
 ·subst hnm
  rw [if_pos rfl]
  split
  ·simp only [yVx,yGv]
   simp [yZ9]
  ·exact yGv
 ·rw [if_neg hnm]
  split
  ·simp only [yVx,zUt hn hnm]
   have:yZ9 [(m,Tm.mk true (yJl (yGs ps m fr)) [])] n = none:=by simp [yZ9,Ne.symm hnm]
   rw [this]; simp
  ·exact zUt hn hnm
section
variable (ps:List Pc)
def HSz (b:ByteArray → Nat) (F:ByteArray → Option Tm) (n:ByteArray):Prop :=
 (if b n = 0 then zZ3 ps n (1,1) else (1,1)) = (((F n).getD (.mk true n [])).size,((F n).getD (.mk true n [])).deep)
mutual
theorem wYa (b:ByteArray → Nat) (F:ByteArray → Option Tm):∀ t:Tm,t.ok = true → (∀ n ∈ yQn t,HSz ps b F n) → psz ps b t = ((yJo F t).size,(yJo F t).deep)
 | .mk true n l,h,hn => by
  obtain rfl:=xKf h
  have h1:=hn n (by simp [yQn])
  unfold HSz at h1
  simp only [psz,pszs,true_and,yJo]
  rw [h1]
  cases F n with
  | none => rfl
  | some u => rfl
 | .mk false n l,h,hn => by
  have:=zYf b F l (xKg h) (fun n hm => hn n (by simpa [yQn] using hm))
  simp only [psz,bFt,false_and,if_false,yJo,Tm.size,Tm.deep,this]
theorem zYf (b:ByteArray → Nat) (F:ByteArray → Option Tm):∀ l:List Tm,yJa l = true → (∀ n ∈ yQh l,HSz ps b F n) → pszs ps b l = (yQ7 (yZf F l),yQk (yZf F l))
 | [],_,_ => rfl
 | a :: l,h,hn => by
  simp only [pszs,yZf,yQ7,yQk,wYa b F a (yVd h).1 (fun n hm => hn n (by simp [yQh,hm])),zYf b F l (yVd h).2 (fun n hm => hn n (by simp [yQh,hm]))]
end
theorem wX5 {b:ByteArray → Nat} {qs:Sb} {m:ByteArray} {fr:List ByteArray} {n:ByteArray} (hn:n ∈ fr) (h:n ≠ m → HSz ps b (yZ9 qs) n):HSz ps (incB b m) (yZ9 (yJ4 qs m fr).2) n:=by
 unfold HSz at h ⊢
 rw [xWv hn]
 by_cases hnm:n = m
 ·subst hnm
  simp only [incB,if_true]
  rw [if_neg (by omega)]
  split <;> rfl
 ·simp only [incB,if_neg hnm]
  exact h hnm
mutual
theorem xV1:∀ (f:Fm) (qs:Sb) (b:ByteArray → Nat),f.ok = true → (∀ n ∈ frF f,HSz ps b (yZ9 qs) n) → fsz ps b f = ((yJe qs f).size,(yJe qs f).deep)
 | .mk op m us sub,qs,b,hok,h => by
  obtain ⟨h1,h2,_⟩:=yWu hok
  simp only [frF] at h
  simp only [fsz,yJe,Fm.size,Fm.deep,zYf ps b (yZ9 qs) us h1 (fun n hn => h n (by simp [hn]))]
  by_cases hq:isQ op = true
  ·simp only [hq,if_true] at h ⊢
   rw [zJx sub _ _ h2 (fun n hn => wX5 ps hn (fun hm => h n (by simp [hn,hm])))]
  ·simp only [hq,bFt,if_false] at h ⊢
   rw [zJx sub qs b h2 (fun n hn => h n (by simp [hn]))]
theorem zJx:∀ (l:List Fm) (qs:Sb) (b:ByteArray → Nat),yKy l = true → (∀ n ∈ frFs l,HSz ps b (yZ9 qs) n) → fszs ps b l = (yQ8 (yXj qs l),yQs (yXj qs l))
 | [],_,_,_,_ => rfl
 | a :: l,qs,b,hok,h => by
  simp only [frFs] at h
  simp only [fszs,yXj,yQ8,yQs,xV1 a qs b (yKj hok).1 (fun n hn => h n (by simp [hn])),zJx l qs b (yKj hok).2 (fun n hn => h n (by simp [hn]))]
end
end
def toS (ps:List Pc):Sb:=ps.map fun p => (p.nm,p.tm)
theorem wJ1 (ps:List Pc):putF ps = yZ9 (toS ps):=by
 funext n
 unfold putF yZ9 toS
 rw [List.find?_map]
 simp only [Option.map_map]
 rfl
theorem zW5:∀ (ps:List Pc) (z:Nat × Nat) (n:ByteArray),(ps.map Pc.nm).Nodup → zZ3 ps n z = match yZ9 (toS ps) n with | some u => (u.size,u.deep) | none => z
 | [],z,n,_ => rfl
 | p :: ps,z,n,h => by
  simp only [List.map_cons,List.nodup_cons] at h
  have ih:=zW5 ps (if p.nm = n then (p.tm.size,p.tm.deep) else z) n h.2
  have h0:zZ3 (p :: ps) n z = zZ3 ps n (if p.nm = n then (p.tm.size,p.tm.deep) else z):=rfl
  rw [h0,ih]
  have hc:yZ9 (toS (p :: ps)) n = if p.nm = n then some p.tm else yZ9 (toS ps) n:=by
   unfold yZ9 toS
   rw [List.map_cons,List.find?_cons]
   by_cases hp:p.nm = n <;> simp [hp]
  rw [hc]
  by_cases hp:p.nm = n
  ·rw [if_pos hp,if_pos hp]
   have:yZ9 (toS ps) n = none:=by
    cases hl:yZ9 (toS ps) n with
    | none => rfl
    | some u =>
     have:=zUs hl
     unfold toS at this
     obtain ⟨q,hq,he⟩:=List.mem_map.1 this
     cases he
     exact absurd (List.mem_map.2 ⟨q,hq,hp.symm⟩) h.1
   rw [this]
  ·rw [if_neg hp,if_neg hp]
theorem HSz0 {ps:List Pc} (h:(ps.map Pc.nm).Nodup) (n:ByteArray):HSz ps (fun _ => 0) (yZ9 (toS ps)) n:=by
 unfold HSz
 rw [if_pos rfl,zW5 ps _ n h]
 cases yZ9 (toS ps) n <;> rfl
theorem vZl {ps:List Pc} (h:(ps.map Pc.nm).Nodup) {f:Fm} (hf:f.ok = true):fsz ps (fun _ => 0) f = ((yJe (toS ps) f).size,(yJe (toS ps) f).deep) :=
 xV1 ps f (toS ps) _ hf (fun n _ => HSz0 h n)
theorem yWf:∀ (k u:Nat),u < 10 ^ (k + 1) → Lib.nDigits u ≤ k + 1
 | 0,u,h => by rw [Lib.nDigits_small (by simpa using h)]; omega
 | k + 1,u,h => by
  by_cases hu:u < 10
  ·rw [Lib.nDigits_small hu]; omega
  ·rw [Lib.nDigits_big hu]
   have:=yWf k (u / 10) (by rw [Nat.pow_succ] at h; omega)
   omega
mutual
theorem yKl:∀ t:Tm,(yQn t).length ≤ t.size
 | .mk true n l => by have:=yJb l; simp only [yQn,List.length_cons,Tm.size]; omega
 | .mk false n l => by have:=yJb l; simp only [yQn,Tm.size]; omega
theorem yJb:∀ l:List Tm,(yQh l).length ≤ yQ7 l
 | [] => Nat.le_refl _
 | a :: l => by have:=yKl a; have:=yJb l; simp only [yQh,lLa,yQ7]; omega
end
mutual
theorem zK0:∀ f:Fm,(frF f).length ≤ f.size
 | .mk op m us sub => by
  have h1:=yJb us
  have h2:=zYv sub
  simp only [frF,lLa,Fm.size]
  split
  ·have:=List.length_filter_le (fun n => !decide (n = m)) (frFs sub); omega
  ·omega
theorem zYv:∀ l:List Fm,(frFs l).length ≤ yQ8 l
 | [] => Nat.le_refl _
 | a :: l => by have:=zK0 a; have:=zYv l; simp only [frFs,lLa,yQ8]; omega
end
def wS:Sb → Nat
 | [] => 0
 | p :: l => p.2.size + wS l
theorem zGb:∀ l m:Sb,wS (l ++ m) = wS l + wS m
 | [],m => by simp [wS]
 | a :: l,m => by simp only [List.cons_append,wS,zGb l m]; omega
theorem yUp (q:ByteArray × Tm → Bool):∀ l:Sb,wS (l.filter q) ≤ wS l
 | [] => Nat.le_refl _
 | a :: l => by
  have:=yUp q l
  rw [List.filter_cons]
  split
  ·simp only [wS]; omega
  ·simp only [wS]; omega
theorem wQy:∀ l:Sb,(l.flatMap fun p => yQn p.2).length ≤ wS l
 | [] => Nat.le_refl _
 | a :: l => by
  have:=wQy l
  have:=yKl a.2
  simp only [List.flatMap_cons,lLa,wS]; omega
theorem wXf (ps:Sb) (m:ByteArray) (fr:List ByteArray):(yGs ps m fr).length ≤ fr.length + wS ps:=by
 have:=wQy (cntS ps m fr)
 have:=yUp (fun p => memB fr p.1 && !decide (p.1 = m)) ps
 unfold yGs cntS at *
 simp only [lLa]; omega
theorem wX9 (ps:Sb) (m:ByteArray) (fr:List ByteArray):wS (yJ4 ps m fr).2 ≤ wS ps + 1:=by
 have:=yUp (fun p => memB fr p.1 && !decide (p.1 = m)) ps
 unfold yJ4 cntS
 split
 ·simp only [zGb,wS,Tm.size,yQ7]; omega
 ·simp only; omega
end Go.Proofs.Tryz
namespace Go.Proofs.Tryz
open Go Go.Iv
noncomputable def yKg (f g:Fm):Bool:=f.right && g.right && eqB (dbF [] f) (dbF [] g)
theorem xKl {e:List ByteArray} {n:ByteArray} {l:Nat} (h:e.length ≤ l):yKe e n ≠ .bv l:=by
 unfold yKe
 split
 ·rename_i i hi
  have:=zX8 hi
  intro he; injection he; omega
 ·intro he; cases he
theorem xWw {ls rs:List ByteArray} {l r n n':ByteArray} (hlen:ls.length = rs.length):yKe (l :: ls) n = yKe (r :: rs) n' ↔ (if n = l ∨ n' = r then n = l ∧ n' = r else yKe ls n = yKe rs n'):=by
 rw [zW2,zW2]
 by_cases h1:n = l
 ·by_cases h2:n' = r
  ·simp [h1,h2,hlen]
  ·simp only [h1,h2,if_true,true_or,and_false,iff_false,if_false]
   exact fun h => xKl (Nat.le_of_eq hlen.symm) h.symm
 ·by_cases h2:n' = r
  ·simp only [h1,h2,if_true,or_true,false_and,iff_false,if_false]
   exact fun h => xKl (Nat.le_of_eq hlen) h
  ·simp [h1,h2]
theorem xKm {e:List ByteArray} {n m:ByteArray} {l:List NlT}:yKe e n ≠ .ap m l:=by
 unfold yKe; split <;> intro h <;> cases h
theorem xUw {n:ByteArray}:yKe [] n = .fv n:=rfl
abbrev Ar:=List (ByteArray × ByteArray)
def renF (ar:Ar) (n:ByteArray):Option Tm:=(ar.find? fun p => decide (p.1 = n)).map fun p => .mk true p.2 []
mutual
noncomputable def xX9 (free:List ByteArray):Ar → Fm → Fm
 | ar,.mk op m us sub => .mk op (if isQ op then yJl (free ++ ar.map (·.2)) else m) (yZf (renF ar) us) (yVn free (if isQ op then (m,yJl (free ++ ar.map (·.2))) :: ar else ar) sub)
noncomputable def yVn (free:List ByteArray):Ar → List Fm → List Fm
 | _,[] => []
 | ar,a :: l => xX9 free ar a :: yVn free ar l
end
theorem yV7 (free:List ByteArray) (ar:Ar):∀ l m:List Fm,yVn free ar (l ++ m) = yVn free ar l ++ yVn free ar m
 | [],m => by simp [yVn]
 | a :: l,m => by simp only [List.cons_append,yVn,yV7 free ar l m]
theorem yV6 (free:List ByteArray) (ar:Ar):∀ l:List Fm,(yVn free ar l).length = l.length
 | [] => rfl
 | a :: l => by simp only [yVn,List.length_cons,yV6 free ar l]
noncomputable def zJe (f:Fm):Fm:=xX9 (frF f) [] f
theorem wXs {ar:Ar} {n:ByteArray} {u:Tm} (h:renF ar n = some u):u.size = 1 ∧ u.deep = 1:=by
 unfold renF at h
 rw [Option.map_eq_some_iff] at h
 obtain ⟨p,_,rfl⟩:=h
 exact ⟨rfl,rfl⟩
theorem yJs {f:Fm} (h:f.right = true):f.ok = true ∧ f.size ≤ 400 ∧ f.deep ≤ 40:=by
 simp only [Fm.right,bAt,dTe] at h; exact ⟨h.1.1,h.1.2,h.2⟩
end Go.Proofs.Tryz
