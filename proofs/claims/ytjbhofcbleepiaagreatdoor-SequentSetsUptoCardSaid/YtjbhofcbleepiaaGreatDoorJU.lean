/- Putting, renaming, normal forms: plain d -/
import Derived.Test.YtjbhofcbleepiaaGreatDoorJT
import Derived.Lib.ItoaNum
set_option linter.all false
namespace Go.Proofs.Tryz
open Go Go.Iv
def yV3 (k:Nat):ByteArray:=⟨(120 :: Lib.decDigits k).toArray⟩
def valD (l:List UInt8):Nat:=l.foldl (fun a d => a * 10 + (d.toNat - 48)) 0
theorem xJt (u:Nat):valD (Lib.decDigits u) = u:=by
 induction u using Nat.strongRecOn with
 | _ u ih =>
  rw [Lib.decDigits]
  by_cases h:u < 10
  ·rw [dif_pos h]
   simp only [valD,List.foldl_cons,List.foldl_nil,UInt8.toNat_ofNat']
   omega
  ·rw [dif_neg h]
   have:=ih (u / 10) (by omega)
   simp only [valD,List.foldl_append,List.foldl_cons,List.foldl_nil,UInt8.toNat_ofNat'] at this ⊢
   rw [this]
   omega
theorem xYm {a b:Nat} (h:yV3 a = yV3 b):a = b:=by
 have h1:(120 :: Lib.decDigits a) = (120 :: Lib.decDigits b):=by
  have:=congrArg (fun x:ByteArray => x.data.toList) h
  simpa [yV3] using this
 have h2:Lib.decDigits a = Lib.decDigits b:=by injection h1
 rw [← xJt a,h2,xJt b]
theorem xKi {α:Type} [DecidableEq α]:∀ (a b:List α),a.Nodup → (∀ x ∈ a,x ∈ b) → a.length ≤ b.length
 | [],b,_,_ => Nat.zero_le _
 | x :: a,b,hn,hs => by
  have hx:=hs x (List.mem_cons_self ..)
  have hn':=List.nodup_cons.1 hn
  have:=xKi a (b.erase x) hn'.2 (fun y hy => (List.mem_erase_of_ne (by rintro rfl; exact hn'.1 hy)).2 (hs y (List.mem_cons_of_mem _ hy)))
  rw [List.length_erase_of_mem hx] at this
  have hb:0 < b.length:=List.length_pos_of_mem hx
  simp only [List.length_cons]; omega
theorem wJd (l:List ByteArray):∃ k,1 ≤ k ∧ k ≤ l.length + 1 ∧ yV3 k ∉ l:=by
 refine Classical.byContradiction fun hne => ?_
 have hall:∀ k,1 ≤ k → k ≤ l.length + 1 → yV3 k ∈ l:=fun k h1 h2 => Classical.byContradiction fun h => hne ⟨k,h1,h2,h⟩
 have:=xKi ((List.range' 1 (l.length + 1)).map yV3) l (by
   unfold List.Nodup
   rw [List.pairwise_map]
   exact List.Pairwise.imp (fun h he => h (xYm he)) (List.nodup_range' (s:=1) (n:=l.length + 1))) (fun x hx => by
   obtain ⟨k,hk,rfl⟩:=List.mem_map.1 hx
   have:=List.mem_range'_1.1 hk
   exact hall k (by omega) (by omega))
 simp at this
 omega
noncomputable def yJu (l:List ByteArray):Nat:=Iv.least (fun k => 1 ≤ k ∧ yV3 k ∉ l)
theorem yWq (l:List ByteArray):1 ≤ yJu l ∧ yJu l ≤ l.length + 1 ∧ yV3 (yJu l) ∉ l ∧ ∀ j,1 ≤ j → j < yJu l → yV3 j ∈ l:=by
 obtain ⟨k,h1,h2,h3⟩:=wJd l
 have hs:=Iv.least_spec (p:=fun k => 1 ≤ k ∧ yV3 k ∉ l) ⟨k,h1,h3⟩
 refine ⟨hs.1.1,Nat.le_trans (hs.2 k ⟨h1,h3⟩) h2,hs.1.2,fun j hj hlt => Classical.byContradiction fun hn => ?_⟩
 have:=hs.2 j ⟨hj,hn⟩
 unfold yJu at hlt
 omega
theorem xUv {l:List ByteArray} {k:Nat} (h1:1 ≤ k) (h2:yV3 k ∉ l) (h3:∀ j,1 ≤ j → j < k → yV3 j ∈ l):yJu l = k:=by
 obtain ⟨a1,a2,a3,a4⟩:=yWq l
 rcases Nat.lt_trichotomy (yJu l) k with h | h | h
 ·exact absurd (h3 _ a1 h) a3
 ·exact h
 ·exact absurd (a4 k h1 h) h2
theorem xQ7 {l m:List ByteArray} (h:∀ x,x ∈ l ↔ x ∈ m):yJu l = yJu m:=by
 obtain ⟨a1,a2,a3,a4⟩:=yWq m
 exact xUv a1 (fun hx => a3 ((h _).1 hx)) (fun j hj hlt => (h _).2 (a4 j hj hlt))
noncomputable def yJh (l:List ByteArray):ByteArray:=yV3 (yJu l)
theorem zZq {l m:List ByteArray} (h:∀ x,x ∈ l ↔ x ∈ m):yJh l = yJh m:=by unfold yJh; rw [xQ7 h]
def memB (l:List ByteArray) (n:ByteArray):Bool:=l.any fun x => decide (x = n)
@[simp] theorem yJd {l:List ByteArray} {n:ByteArray}:memB l n = true ↔ n ∈ l:=by
 simp [memB]
@[simp] theorem zXb {l:List ByteArray} {n:ByteArray}:memB l n = false ↔ n ∉ l:=by
 rw [← Bool.not_eq_true,yJd]
mutual
def frF:Fm → List ByteArray
 | .mk op m us sub => yQk us ++ (if isQ op then (frFs sub).filter (fun n => !decide (n = m)) else frFs sub)
def frFs:List Fm → List ByteArray
 | [] => []
 | a :: l => frF a ++ frFs l
end
theorem xWy (b:ByteArray → Nat) (m:ByteArray) (l:List ByteArray):yKg (incB b m) l = yKg b (l.filter (fun n => !decide (n = m))):=by
 unfold yKg
 rw [List.filter_filter]
 refine List.filter_congr fun n _ => ?_
 unfold incB
 by_cases h:n = m <;> simp [h]
mutual
theorem xQk:∀ (f:Fm) (b:ByteArray → Nat),zQa b f = yKg b (frF f)
 | .mk op m us sub,b => by
  simp only [zQa,frF,yXb]
  rw [zWb sub]
  split
  ·rw [xWy]
  ·rfl
theorem zWb:∀ (l:List Fm) (b:ByteArray → Nat),yZw b l = yKg b (frFs l)
 | [],b => by simp [yZw,frFs,yKg]
 | a :: l,b => by simp only [yZw,frFs,yXb,xQk a b,zWb l b]
end
theorem zXi (f:Fm):xXy f = frF f:=by
 unfold xXy
 rw [xQk]
 unfold yKg
 rw [List.filter_eq_self]
 intro a _; rfl
abbrev Sb:=List (ByteArray × Tm)
def yZc (l:Sb) (n:ByteArray):Option Tm:=(l.find? fun p => decide (p.1 = n)).map (·.2)
def cntS (ps:Sb) (m:ByteArray) (fr:List ByteArray):Sb:=ps.filter fun p => memB fr p.1 && !decide (p.1 = m)
def xQz (ps:Sb) (m:ByteArray) (fr:List ByteArray):Bool:=(cntS ps m fr).any fun p => memB (yZ2 p.2) m
def yUs (ps:Sb) (m:ByteArray) (fr:List ByteArray):List ByteArray:=fr ++ (cntS ps m fr).flatMap fun p => yZ2 p.2
noncomputable def yV4 (ps:Sb) (m:ByteArray) (fr:List ByteArray):ByteArray × Sb :=
 if xQz ps m fr then (yJh (yUs ps m fr),cntS ps m fr ++ [(m,.mk true (yJh (yUs ps m fr)) [])]) else (m,cntS ps m fr)
mutual
noncomputable def yGp:Sb → Fm → Fm
 | ps,.mk op m us sub => .mk op (if isQ op then (yV4 ps m (frFs sub)).1 else m) (yZm (yZc ps) us) (yKp (if isQ op then (yV4 ps m (frFs sub)).2 else ps) sub)
noncomputable def yKp:Sb → List Fm → List Fm
 | _,[] => []
 | ps,a :: l => yGp ps a :: yKp ps l
end
theorem yWu (ps:Sb):∀ l m:List Fm,yKp ps (l ++ m) = yKp ps l ++ yKp ps m
 | [],m => by simp [yKp]
 | a :: l,m => by simp only [List.cons_append,yKp,yWu ps l m]
theorem yJy (ps:Sb):∀ l:List Fm,(yKp ps l).length = l.length
 | [] => rfl
 | a :: l => by simp only [yKp,List.length_cons,yJy ps l]
inductive NlT where
 | bv (i:Nat)
 | fv (n:ByteArray)
 | ap (n:ByteArray) (l:List NlT)
inductive NlF where
 | mk (op:Nat) (n:ByteArray) (us:List NlT) (sub:List NlF)
def yYl:List ByteArray → ByteArray → Option Nat
 | [],_ => none
 | m :: e,n => if n = m then some e.length else yYl e n
def yK4 (env:List ByteArray) (n:ByteArray):NlT:=match yYl env n with | some i => .bv i | none => .fv n
mutual
def db (env:List ByteArray):Tm → NlT
 | .mk true n _ => yK4 env n
 | .mk false n l => .ap n (dbs env l)
def dbs (env:List ByteArray):List Tm → List NlT
 | [] => []
 | a :: l => db env a :: dbs env l
end
mutual
def dbF:List ByteArray → Fm → NlF
 | env,.mk op m us sub => .mk op (if isQ op then ⟨#[]⟩ else m) (dbs env us) (dbFs (if isQ op then m :: env else env) sub)
def dbFs:List ByteArray → List Fm → List NlF
 | _,[] => []
 | env,a :: l => dbF env a :: dbFs env l
end
theorem zXc:∀ {e:List ByteArray} {n:ByteArray} {i:Nat},yYl e n = some i → i < e.length
 | [],n,i,h => by cases h
 | m :: e,n,i,h => by
  simp only [yYl] at h
  split at h
  ·cases h; simp
  ·have:=zXc h; simp only [List.length_cons]; omega
theorem zW4 {e:List ByteArray} {m n:ByteArray}:yK4 (m :: e) n = if n = m then .bv e.length else yK4 e n:=by
 unfold yK4
 simp only [yYl]
 by_cases h:n = m <;> simp [h]
theorem xKd {n:ByteArray} {l:List Tm} (h:(Tm.mk true n l).ok = true):l = []:=by
 simp only [Tm.ok,bAt,List.isEmpty_iff] at h; exact h.1
theorem xKf {n:ByteArray} {l:List Tm} (h:(Tm.mk false n l).ok = true):yXu l = true:=by
 simp only [Tm.ok,bAt] at h; exact h.2
theorem yKz {a:Tm} {l:List Tm} (h:yXu (a :: l) = true):a.ok = true ∧ yXu l = true:=by
 simpa only [yXu,bAt] using h
theorem yV0 {a:Fm} {l:List Fm} (h:yKi (a :: l) = true):a.ok = true ∧ yKi l = true:=by
 simpa only [yKi,bAt] using h
theorem yYh {op:Nat} {m:ByteArray} {us:List Tm} {sub:List Fm} (h:(Fm.mk op m us sub).ok = true):yXu us = true ∧ yKi sub = true ∧ yZ4 op m us.length sub.length = true:=by
 simp only [Fm.ok,bAt] at h; exact ⟨h.1.2,h.2,h.1.1⟩
theorem zX4 {ps:Sb} {q:ByteArray × Tm → Bool} {n:ByteArray} (h:∀ u,q (n,u) = true):yZc (ps.filter q) n = yZc ps n:=by
 unfold yZc
 rw [List.find?_filter]
 congr 2
 funext p
 by_cases hp:p.1 = n
 ·obtain ⟨a,u⟩:=p; simp only at hp; subst hp; simp [h u]
 ·simp [hp]
theorem zX5 {ps:Sb} {q:ByteArray × Tm → Bool} {n:ByteArray} (h:∀ u,q (n,u) = false):yZc (ps.filter q) n = none:=by
 unfold yZc
 rw [List.find?_filter,Option.map_eq_none_iff,List.find?_eq_none]
 intro p _
 by_cases hp:p.1 = n
 ·obtain ⟨a,u⟩:=p; simp only at hp; subst hp; simp [h u]
 ·simp [hp]
theorem yVm (ps qs:Sb) (n:ByteArray):yZc (ps ++ qs) n = (yZc ps n).or (yZc qs n):=by
 unfold yZc
 rw [List.find?_append]
 cases ps.find? _ <;> rfl
theorem xQ3 {ps:Sb} {m n:ByteArray} {fr:List ByteArray} (hn:n ∈ fr) (hm:n ≠ m):yZc (cntS ps m fr) n = yZc ps n :=
 zX4 fun u => by simp [hn,hm]
theorem yGv {ps:Sb} {m:ByteArray} {fr:List ByteArray}:yZc (cntS ps m fr) m = none :=
 zX5 fun u => by simp
theorem xQ2 {ps:Sb} {n:ByteArray} {u:Tm} (h:yZc ps n = some u):(n,u) ∈ ps:=by
 unfold yZc at h
 rw [Option.map_eq_some_iff] at h
 obtain ⟨⟨a,v⟩,h1,h2⟩:=h
 have h3:=List.find?_some h1
 simp only [dTe] at h3
 simp only at h2
 subst h3 h2
 exact List.mem_of_find?_eq_some h1
end Go.Proofs.Tryz
namespace Go.Proofs.Tryz
open Go Go.Iv
theorem xWk {ps:Sb} {m:ByteArray} {fr:List ByteArray} {n:ByteArray} (hn:n ∈ fr) :
  yZc (yV4 ps m fr).2 n = if n = m then (if xQz ps m fr then some (.mk true (yV4 ps m fr).1 []) else none) else yZc ps n:=by
 unfold yV4
 by_cases hnm:n = m
 ·subst hnm
  rw [if_pos rfl]
  split
  ·simp only [yVm,yGv]
   simp [yZc]
  ·exact yGv
 ·rw [if_neg hnm]
  split
  ·simp only [yVm,xQ3 hn hnm]
   have:yZc [(m,Tm.mk true (yJh (yUs ps m fr)) [])] n = none:=by simp [yZc,Ne.symm hnm]
   rw [this]; simp
  ·exact xQ3 hn hnm
section
variable (ps:List Pc)
def HSz (b:ByteArray → Nat) (F:ByteArray → Option Tm) (n:ByteArray):Prop :=
 (if b n = 0 then zZ3 ps n (1,1) else (1,1)) = (((F n).getD (.mk true n [])).size,((F n).getD (.mk true n [])).deep)
mutual
theorem wY0 (b:ByteArray → Nat) (F:ByteArray → Option Tm):∀ t:Tm,t.ok = true → (∀ n ∈ yZ2 t,HSz ps b F n) → psz ps b t = ((yKk F t).size,(yKk F t).deep)
 | .mk true n l,h,hn => by
  obtain rfl:=xKd h
  have h1:=hn n (by simp [yZ2])
  unfold HSz at h1
  simp only [psz,pszs,true_and,yKk]
  rw [h1]
  cases F n with
  | none => rfl
  | some u => rfl
 | .mk false n l,h,hn => by
  have:=zYf b F l (xKf h) (fun n hm => hn n (by simpa [yZ2] using hm))
  simp only [psz,bFt,false_and,if_false,yKk,Tm.size,Tm.deep,this]
theorem zYf (b:ByteArray → Nat) (F:ByteArray → Option Tm):∀ l:List Tm,yXu l = true → (∀ n ∈ yQk l,HSz ps b F n) → pszs ps b l = (yQ8 (yZm F l),yQj (yZm F l))
 | [],_,_ => rfl
 | a :: l,h,hn => by
  simp only [pszs,yZm,yQ8,yQj,wY0 b F a (yKz h).1 (fun n hm => hn n (by simp [yQk,hm])),zYf b F l (yKz h).2 (fun n hm => hn n (by simp [yQk,hm]))]
end
theorem wZn {b:ByteArray → Nat} {qs:Sb} {m:ByteArray} {fr:List ByteArray} {n:ByteArray} (hn:n ∈ fr) (h:n ≠ m → HSz ps b (yZc qs) n):HSz ps (incB b m) (yZc (yV4 qs m fr).2) n:=by
 unfold HSz at h ⊢
 rw [xWk hn]
 by_cases hnm:n = m
 ·subst hnm
  simp only [incB,if_true]
  rw [if_neg (by omega)]
  split <;> rfl
 ·simp only [incB,if_neg hnm]
  exact h hnm
mutual
theorem xV2:∀ (f:Fm) (qs:Sb) (b:ByteArray → Nat),f.ok = true → (∀ n ∈ frF f,HSz ps b (yZc qs) n) → fsz ps b f = ((yGp qs f).size,(yGp qs f).deep)
 | .mk op m us sub,qs,b,hok,h => by
  obtain ⟨h1,h2,_⟩:=yYh hok
  simp only [frF] at h
  simp only [fsz,yGp,Fm.size,Fm.deep,zYf ps b (yZc qs) us h1 (fun n hn => h n (by simp [hn]))]
  by_cases hq:isQ op = true
  ·simp only [hq,if_true] at h ⊢
   rw [zJv sub _ _ h2 (fun n hn => wZn ps hn (fun hm => h n (by simp [hn,hm])))]
  ·simp only [hq,bFt,if_false] at h ⊢
   rw [zJv sub qs b h2 (fun n hn => h n (by simp [hn]))]
theorem zJv:∀ (l:List Fm) (qs:Sb) (b:ByteArray → Nat),yKi l = true → (∀ n ∈ frFs l,HSz ps b (yZc qs) n) → fszs ps b l = (yQ7 (yKp qs l),yQr (yKp qs l))
 | [],_,_,_,_ => rfl
 | a :: l,qs,b,hok,h => by
  simp only [frFs] at h
  simp only [fszs,yKp,yQ7,yQr,xV2 a qs b (yV0 hok).1 (fun n hn => h n (by simp [hn])),zJv l qs b (yV0 hok).2 (fun n hn => h n (by simp [hn]))]
end
end
def toS (ps:List Pc):Sb:=ps.map fun p => (p.nm,p.tm)
theorem wXn (ps:List Pc):putF ps = yZc (toS ps):=by
 funext n
 unfold putF yZc toS
 rw [List.find?_map]
 simp only [Option.map_map]
 rfl
theorem zW7:∀ (ps:List Pc) (z:Nat × Nat) (n:ByteArray),(ps.map Pc.nm).Nodup → zZ3 ps n z = match yZc (toS ps) n with | some u => (u.size,u.deep) | none => z
 | [],z,n,_ => rfl
 | p :: ps,z,n,h => by
  simp only [List.map_cons,List.nodup_cons] at h
  have ih:=zW7 ps (if p.nm = n then (p.tm.size,p.tm.deep) else z) n h.2
  have h0:zZ3 (p :: ps) n z = zZ3 ps n (if p.nm = n then (p.tm.size,p.tm.deep) else z):=rfl
  rw [h0,ih]
  have hc:yZc (toS (p :: ps)) n = if p.nm = n then some p.tm else yZc (toS ps) n:=by
   unfold yZc toS
   rw [List.map_cons,List.find?_cons]
   by_cases hp:p.nm = n <;> simp [hp]
  rw [hc]
  by_cases hp:p.nm = n
  ·rw [if_pos hp,if_pos hp]
   have:yZc (toS ps) n = none:=by
    cases hl:yZc (toS ps) n with
    | none => rfl
    | some u =>
     have:=xQ2 hl
     unfold toS at this
     obtain ⟨q,hq,he⟩:=List.mem_map.1 this
     cases he
     exact absurd (List.mem_map.2 ⟨q,hq,hp.symm⟩) h.1
   rw [this]
  ·rw [if_neg hp,if_neg hp]
theorem HSz0 {ps:List Pc} (h:(ps.map Pc.nm).Nodup) (n:ByteArray):HSz ps (fun _ => 0) (yZc (toS ps)) n:=by
 unfold HSz
 rw [if_pos rfl,zW7 ps _ n h]
 cases yZc (toS ps) n <;> rfl
theorem vZc {ps:List Pc} (h:(ps.map Pc.nm).Nodup) {f:Fm} (hf:f.ok = true):fsz ps (fun _ => 0) f = ((yGp (toS ps) f).size,(yGp (toS ps) f).deep) :=
 xV2 ps f (toS ps) _ hf (fun n _ => HSz0 h n)
theorem yW5:∀ (k u:Nat),u < 10 ^ (k + 1) → Lib.nDigits u ≤ k + 1
 | 0,u,h => by rw [Lib.nDigits_small (by simpa using h)]; omega
 | k + 1,u,h => by
  by_cases hu:u < 10
  ·rw [Lib.nDigits_small hu]; omega
  ·rw [Lib.nDigits_big hu]
   have:=yW5 k (u / 10) (by rw [Nat.pow_succ] at h; omega)
   omega
mutual
theorem yW4:∀ t:Tm,(yZ2 t).length ≤ t.size
 | .mk true n l => by have:=yXv l; simp only [yZ2,List.length_cons,Tm.size]; omega
 | .mk false n l => by have:=yXv l; simp only [yZ2,Tm.size]; omega
theorem yXv:∀ l:List Tm,(yQk l).length ≤ yQ8 l
 | [] => Nat.le_refl _
 | a :: l => by have:=yW4 a; have:=yXv l; simp only [yQk,lLa,yQ8]; omega
end
mutual
theorem zWc:∀ f:Fm,(frF f).length ≤ f.size
 | .mk op m us sub => by
  have h1:=yXv us
  have h2:=zYx sub
  simp only [frF,lLa,Fm.size]
  split
  ·have:=List.length_filter_le (fun n => !decide (n = m)) (frFs sub); omega
  ·omega
theorem zYx:∀ l:List Fm,(frFs l).length ≤ yQ7 l
 | [] => Nat.le_refl _
 | a :: l => by have:=zWc a; have:=zYx l; simp only [frFs,lLa,yQ7]; omega
end
def wS:Sb → Nat
 | [] => 0
 | p :: l => p.2.size + wS l
theorem zGl:∀ l m:Sb,wS (l ++ m) = wS l + wS m
 | [],m => by simp [wS]
 | a :: l,m => by simp only [List.cons_append,wS,zGl l m]; omega
theorem yUl (q:ByteArray × Tm → Bool):∀ l:Sb,wS (l.filter q) ≤ wS l
 | [] => Nat.le_refl _
 | a :: l => by
  have:=yUl q l
  rw [List.filter_cons]
  split
  ·simp only [wS]; omega
  ·simp only [wS]; omega
theorem wQl:∀ l:Sb,(l.flatMap fun p => yZ2 p.2).length ≤ wS l
 | [] => Nat.le_refl _
 | a :: l => by
  have:=wQl l
  have:=yW4 a.2
  simp only [List.flatMap_cons,lLa,wS]; omega
theorem wZv (ps:Sb) (m:ByteArray) (fr:List ByteArray):(yUs ps m fr).length ≤ fr.length + wS ps:=by
 have:=wQl (cntS ps m fr)
 have:=yUl (fun p => memB fr p.1 && !decide (p.1 = m)) ps
 unfold yUs cntS at *
 simp only [lLa]; omega
theorem wZs (ps:Sb) (m:ByteArray) (fr:List ByteArray):wS (yV4 ps m fr).2 ≤ wS ps + 1:=by
 have:=yUl (fun p => memB fr p.1 && !decide (p.1 = m)) ps
 unfold yV4 cntS
 split
 ·simp only [zGl,wS,Tm.size,yQ8]; omega
 ·simp only; omega
end Go.Proofs.Tryz
namespace Go.Proofs.Tryz
open Go Go.Iv
noncomputable def yK5 (f g:Fm):Bool:=f.right && g.right && eqB (dbF [] f) (dbF [] g)
theorem xKm {e:List ByteArray} {n:ByteArray} {l:Nat} (h:e.length ≤ l):yK4 e n ≠ .bv l:=by
 unfold yK4
 split
 ·rename_i i hi
  have:=zXc hi
  intro he; injection he; omega
 ·intro he; cases he
theorem xWl {ls rs:List ByteArray} {l r n n':ByteArray} (hlen:ls.length = rs.length):yK4 (l :: ls) n = yK4 (r :: rs) n' ↔ (if n = l ∨ n' = r then n = l ∧ n' = r else yK4 ls n = yK4 rs n'):=by
 rw [zW4,zW4]
 by_cases h1:n = l
 ·by_cases h2:n' = r
  ·simp [h1,h2,hlen]
  ·simp only [h1,h2,if_true,true_or,and_false,iff_false,if_false]
   exact fun h => xKm (Nat.le_of_eq hlen.symm) h.symm
 ·by_cases h2:n' = r
  ·simp only [h1,h2,if_true,or_true,false_and,iff_false,if_false]
   exact fun h => xKm (Nat.le_of_eq hlen) h
  ·simp [h1,h2]
theorem xKn {e:List ByteArray} {n m:ByteArray} {l:List NlT}:yK4 e n ≠ .ap m l:=by
 unfold yK4; split <;> intro h <;> cases h
theorem xUg {n:ByteArray}:yK4 [] n = .fv n:=rfl
abbrev Ar:=List (ByteArray × ByteArray)
def renF (ar:Ar) (n:ByteArray):Option Tm:=(ar.find? fun p => decide (p.1 = n)).map fun p => .mk true p.2 []
mutual
noncomputable def zX3 (free:List ByteArray):Ar → Fm → Fm
 | ar,.mk op m us sub => .mk op (if isQ op then yJh (free ++ ar.map (·.2)) else m) (yZm (renF ar) us) (yJs free (if isQ op then (m,yJh (free ++ ar.map (·.2))) :: ar else ar) sub)
noncomputable def yJs (free:List ByteArray):Ar → List Fm → List Fm
 | _,[] => []
 | ar,a :: l => zX3 free ar a :: yJs free ar l
end
theorem yJ4 (free:List ByteArray) (ar:Ar):∀ l m:List Fm,yJs free ar (l ++ m) = yJs free ar l ++ yJs free ar m
 | [],m => by simp [yJs]
 | a :: l,m => by simp only [List.cons_append,yJs,yJ4 free ar l m]
theorem yZo (free:List ByteArray) (ar:Ar):∀ l:List Fm,(yJs free ar l).length = l.length
 | [] => rfl
 | a :: l => by simp only [yJs,List.length_cons,yZo free ar l]
noncomputable def yXf (f:Fm):Fm:=zX3 (frF f) [] f
theorem wXc {ar:Ar} {n:ByteArray} {u:Tm} (h:renF ar n = some u):u.size = 1 ∧ u.deep = 1:=by
 unfold renF at h
 rw [Option.map_eq_some_iff] at h
 obtain ⟨p,_,rfl⟩:=h
 exact ⟨rfl,rfl⟩
theorem yJp {f:Fm} (h:f.right = true):f.ok = true ∧ f.size ≤ 400 ∧ f.deep ≤ 40:=by
 simp only [Fm.right,bAt,dTe] at h; exact ⟨h.1.1,h.1.2,h.2⟩
end Go.Proofs.Tryz
