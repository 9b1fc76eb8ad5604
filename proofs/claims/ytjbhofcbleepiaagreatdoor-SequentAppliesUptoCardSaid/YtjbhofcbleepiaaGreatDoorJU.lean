/- Putting, renaming, normal forms: plain d -/
import Derived.Test.YtjbhofcbleepiaaGreatDoorJT
import Derived.Lib.ItoaNum
set_option linter.all false
namespace Go.Proofs.Tryz
open Go Go.Iv
def yVe (k:Nat):ByteArray:=⟨(120::Lib.decDigits k).toArray⟩
def valD (l:List UInt8):Nat:=l.foldl (fun a d=>a*10+(d.toNat - 48)) 0
theorem xV3 (u:Nat):valD (Lib.decDigits u)=u:=by
 induction u using Nat.strongRecOn with
 | _ u ih =>
  rw[Lib.decDigits]
  by_cases h:u<10
  ·rw[dif_pos h]
   simp only[valD,List.foldl_cons,List.foldl_nil,UInt8.toNat_ofNat']
   omega
  ·rw[dif_neg h]
   have:=ih (u / 10) (by omega)
   simp only[valD,List.foldl_append,List.foldl_cons,List.foldl_nil,UInt8.toNat_ofNat'] at this ⊢
   rw[this]
   omega
theorem xUc {a b:Nat}(h:yVe a=yVe b):a=b:=by
 have h1:(120::Lib.decDigits a)=(120::Lib.decDigits b):=by
  have:=congrArg (fun x:ByteArray=>x.data.toList) h
  simpa[yVe] using this
 have h2:Lib.decDigits a=Lib.decDigits b:=by injection h1
 rw[← xV3 a,h2,xV3 b]
theorem xW0 {α:Type} [DecidableEq α]:∀ (a b:List α),a.Nodup→(∀ x∈a,x∈b)→a.length≤b.length
 | [],b,_,_=>Nat.zero_le _
 | x::a,b,hn,hs=>by
  have hx:=hs x (List.mem_cons_self ..)
  have hn':=List.nodup_cons.1 hn
  have:=xW0 a (b.erase x) hn'.2 (fun y hy=>(List.mem_erase_of_ne (by rintro rfl; exact hn'.1 hy)).2 (hs y (List.mem_cons_of_mem _ hy)))
  rw[List.length_erase_of_mem hx] at this
  have hb:0<b.length:=List.length_pos_of_mem hx
  simp only[List.length_cons]; omega
theorem wVb (l:List ByteArray):∃ k,1≤k∧k≤l.length+1∧yVe k ∉ l:=by
 refine Classical.byContradiction fun hne=>?_
 have hall:∀ k,1≤k→k≤l.length+1→yVe k∈l:=fun k h1 h2=>Classical.byContradiction fun h=>hne ⟨k,h1,h2,h⟩
 have:=xW0 ((List.range' 1 (l.length+1)).map yVe) l (by
   unfold List.Nodup
   rw[List.pairwise_map]
   exact List.Pairwise.imp (fun h he=>h (xUc he)) (List.nodup_range' (s:=1) (n:=l.length+1))) (fun x hx=>by
   obtain⟨k,hk,rfl⟩:=List.mem_map.1 hx
   have:=List.mem_range'_1.1 hk
   exact hall k (by omega) (by omega))
 simp at this
 omega
noncomputable def yK3 (l:List ByteArray):Nat:=Iv.least (fun k=>1≤k∧yVe k ∉ l)
theorem yY8 (l:List ByteArray):1≤yK3 l∧yK3 l≤l.length+1∧yVe (yK3 l) ∉ l∧∀ j,1≤j→j<yK3 l→yVe j∈l:=by
 obtain⟨k,h1,h2,h3⟩:=wVb l
 have hs:=Iv.least_spec (p:=fun k=>1≤k∧yVe k ∉ l) ⟨k,h1,h3⟩
 refine⟨hs.1.1,Nat.le_trans (hs.2 k ⟨h1,h3⟩) h2,hs.1.2,fun j hj hlt=>Classical.byContradiction fun hn=>?_⟩
 have:=hs.2 j ⟨hj,hn⟩
 unfold yK3 at hlt
 omega
theorem wZm {l:List ByteArray}{k:Nat}(h1:1≤k)(h2:yVe k ∉ l)(h3:∀ j,1≤j→j<k→yVe j∈l):yK3 l=k:=by
 obtain⟨a1,a2,a3,a4⟩:=yY8 l
 rcases Nat.lt_trichotomy (yK3 l) k with h | h | h
 ·exact absurd (h3 _ a1 h) a3
 ·exact h
 ·exact absurd (a4 k h1 h) h2
theorem xZf {l m:List ByteArray}(h:∀ x,x∈l↔x∈m):yK3 l=yK3 m:=by
 obtain⟨a1,a2,a3,a4⟩:=yY8 m
 exact wZm a1 (fun hx=>a3 ((h _).1 hx)) (fun j hj hlt=>(h _).2 (a4 j hj hlt))
noncomputable def yJj (l:List ByteArray):ByteArray:=yVe (yK3 l)
theorem zXf {l m:List ByteArray}(h:∀ x,x∈l↔x∈m):yJj l=yJj m:=by unfold yJj; rw[xZf h]
def memB (l:List ByteArray)(n:ByteArray):Bool:=l.any fun x=>decide (x=n)
@[simp] theorem yX2 {l:List ByteArray}{n:ByteArray}:memB l n=true↔n∈l:=by
 simp[memB]
@[simp] theorem zQo {l:List ByteArray}{n:ByteArray}:memB l n=false↔n ∉ l:=by
 rw[← Bool.not_eq_true,yX2]
mutual
def frF:Fm→List ByteArray
 | .mk op m us sub=>yQi us++(if isQ op then (frFs sub).filter (fun n=>!decide (n=m)) else frFs sub)
def frFs:List Fm→List ByteArray
 | []=>[]
 | a::l=>frF a++frFs l
end
theorem xGm (b:ByteArray→Nat)(m:ByteArray)(l:List ByteArray):yKt (incB b m) l=yKt b (l.filter (fun n=>!decide (n=m))):=by
 unfold yKt
 rw[List.filter_filter]
 refine List.filter_congr fun n _=>?_
 unfold incB
 by_cases h:n=m<;>simp[h]
mutual
theorem xZs:∀ (f:Fm)(b:ByteArray→Nat),zQz b f=yKt b (frF f)
 | .mk op m us sub,b=>by
  simp only[zQz,frF,yXq]
  rw[zYf sub]
  split
  ·rw[xGm]
  ·rfl
theorem zYf:∀ (l:List Fm)(b:ByteArray→Nat),yX7 b l=yKt b (frFs l)
 | [],b=>by simp[yX7,frFs,yKt]
 | a::l,b=>by simp only[yX7,frFs,yXq,xZs a b,zYf l b]
end
theorem zJc (f:Fm):xK8 f=frF f:=by
 unfold xK8
 rw[xZs]
 unfold yKt
 rw[List.filter_eq_self]
 intro a _; rfl
abbrev Sb:=List (ByteArray×Tm)
def yZa (l:Sb)(n:ByteArray):Option Tm:=(l.find? fun p=>decide (p.1=n)).map (·.2)
def cntS (ps:Sb)(m:ByteArray)(fr:List ByteArray):Sb:=ps.filter fun p=>memB fr p.1&&!decide (p.1=m)
def zYm (ps:Sb)(m:ByteArray)(fr:List ByteArray):Bool:=(cntS ps m fr).any fun p=>memB (yQo p.2) m
def yU9 (ps:Sb)(m:ByteArray)(fr:List ByteArray):List ByteArray:=fr++(cntS ps m fr).flatMap fun p=>yQo p.2
noncomputable def yJ1 (ps:Sb)(m:ByteArray)(fr:List ByteArray):ByteArray×Sb :=
 if zYm ps m fr then (yJj (yU9 ps m fr),cntS ps m fr++[(m,.mk true (yJj (yU9 ps m fr)) [])]) else (m,cntS ps m fr)
mutual
noncomputable def yJd:Sb→Fm→Fm
 | ps,.mk op m us sub=>.mk op (if isQ op then (yJ1 ps m (frFs sub)).1 else m) (yZe (yZa ps) us) (yXj (if isQ op then (yJ1 ps m (frFs sub)).2 else ps) sub)
noncomputable def yXj:Sb→List Fm→List Fm
 | _,[]=>[]
 | ps,a::l=>yJd ps a::yXj ps l
end
theorem yJh (ps:Sb):∀ l m:List Fm,yXj ps (l++m)=yXj ps l++yXj ps m
 | [],m=>by simp[yXj]
 | a::l,m=>by simp only[List.cons_append,yXj,yJh ps l m]
theorem yXb (ps:Sb):∀ l:List Fm,(yXj ps l).length=l.length
 | []=>rfl
 | a::l=>by simp only[yXj,List.length_cons,yXb ps l]
inductive NlT where
 | bv (i:Nat)
 | fv (n:ByteArray)
 | ap (n:ByteArray) (l:List NlT)
inductive NlF where
 | mk (op:Nat) (n:ByteArray) (us:List NlT) (sub:List NlF)
def yYz:List ByteArray→ByteArray→Option Nat
 | [],_=>none
 | m::e,n=>if n=m then some e.length else yYz e n
def yKa (env:List ByteArray)(n:ByteArray):NlT:=match yYz env n with | some i=>.bv i | none=>.fv n
mutual
def db (env:List ByteArray):Tm→NlT
 | .mk true n _=>yKa env n
 | .mk false n l=>.ap n (dbs env l)
def dbs (env:List ByteArray):List Tm→List NlT
 | []=>[]
 | a::l=>db env a::dbs env l
end
mutual
def dbF:List ByteArray→Fm→NlF
 | env,.mk op m us sub=>.mk op (if isQ op then ⟨#[]⟩ else m) (dbs env us) (dbFs (if isQ op then m::env else env) sub)
def dbFs:List ByteArray→List Fm→List NlF
 | _,[]=>[]
 | env,a::l=>dbF env a::dbFs env l
end
theorem zJ5:∀ {e:List ByteArray}{n:ByteArray}{i:Nat},yYz e n=some i→i<e.length
 | [],n,i,h=>by cases h
 | m::e,n,i,h=>by
  simp only[yYz] at h
  split at h
  ·cases h; simp
  ·have:=zJ5 h; simp only[List.length_cons]; omega
theorem zY5 {e:List ByteArray}{m n:ByteArray}:yKa (m::e) n=if n=m then .bv e.length else yKa e n:=by
 unfold yKa
 simp only[yYz]
 by_cases h:n=m<;>simp[h]
theorem xVv {n:ByteArray}{l:List Tm}(h:(Tm.mk true n l).ok=true):l=[]:=by
 simp only[Tm.ok,bAt,List.isEmpty_iff] at h; exact h.1
theorem xVx {n:ByteArray}{l:List Tm}(h:(Tm.mk false n l).ok=true):yJ8 l=true:=by
 simp only[Tm.ok,bAt] at h; exact h.2
theorem yVb {a:Tm}{l:List Tm}(h:yJ8 (a::l)=true):a.ok=true∧yJ8 l=true:=by
 simpa only[yJ8,bAt] using h
theorem yKe {a:Fm}{l:List Fm}(h:yKw (a::l)=true):a.ok=true∧yKw l=true:=by
 simpa only[yKw,bAt] using h
theorem yY1 {op:Nat}{m:ByteArray}{us:List Tm}{sub:List Fm}(h:(Fm.mk op m us sub).ok=true):yJ8 us=true∧yKw sub=true∧yZ6 op m us.length sub.length=true:=by
 simp only[Fm.ok,bAt] at h; exact⟨h.1.2,h.2,h.1.1⟩
theorem wKo {op:Nat}{m:ByteArray}{us:List Tm}{sub:List Fm}(hq:isQ op=true)(h:(Fm.mk op m us sub).ok=true):us=[]∧yKg m=true∧∃ g,sub=[g]∧g.ok=true:=by
 obtain⟨h1,h2,h3⟩:=yY1 h
 have ho:op=8∨op=9:=by simpa[isQ] using hq
 have h4:(yKg m&&decide (us.length=0)&&decide (sub.length=1))=true:=by rcases ho with rfl | rfl<;>exact h3
 simp only[bAt,dTe] at h4
 refine⟨List.eq_nil_of_length_eq_zero h4.1.2,h4.1.1,?_⟩
 match sub,h4.2,h2 with
 | [g],_,h2=>exact⟨g,rfl,(yKe h2).1⟩
theorem zXv {ps:Sb}{q:ByteArray×Tm→Bool}{n:ByteArray}(h:∀ u,q (n,u)=true):yZa (ps.filter q) n=yZa ps n:=by
 unfold yZa
 rw[List.find?_filter]
 congr 2
 funext p
 by_cases hp:p.1=n
 ·obtain⟨a,u⟩:=p; simp only at hp; subst hp; simp[h u]
 ·simp[hp]
theorem zXw {ps:Sb}{q:ByteArray×Tm→Bool}{n:ByteArray}(h:∀ u,q (n,u)=false):yZa (ps.filter q) n=none:=by
 unfold yZa
 rw[List.find?_filter,Option.map_eq_none_iff,List.find?_eq_none]
 intro p _
 by_cases hp:p.1=n
 ·obtain⟨a,u⟩:=p; simp only at hp; subst hp; simp[h u]
 ·simp[hp]
theorem yVy (ps qs:Sb)(n:ByteArray):yZa (ps++qs) n=(yZa ps n).or (yZa qs n):=by
 unfold yZa
 rw[List.find?_append]
 cases ps.find? _<;>rfl
theorem xZa {ps:Sb}{m n:ByteArray}{fr:List ByteArray}(hn:n∈fr)(hm:n≠m):yZa (cntS ps m fr) n=yZa ps n :=
 zXv fun u=>by simp[hn,hm]
theorem yUc {ps:Sb}{m:ByteArray}{fr:List ByteArray}:yZa (cntS ps m fr) m=none :=
 zXw fun u=>by simp
theorem xZ9 {ps:Sb}{n:ByteArray}{u:Tm}(h:yZa ps n=some u):(n,u)∈ps:=by
 unfold yZa at h
 rw[Option.map_eq_some_iff] at h
 obtain⟨⟨a,v⟩,h1,h2⟩:=h
 have h3:=List.find?_some h1
 simp only[dTe] at h3
 simp only at h2
 subst h3 h2
 exact List.mem_of_find?_eq_some h1
end Go.Proofs.Tryz
namespace Go.Proofs.Tryz
open Go Go.Iv
theorem xG7 {ps:Sb}{m:ByteArray}{fr:List ByteArray}{n:ByteArray}(hn:n∈fr) :
  yZa (yJ1 ps m fr).2 n=if n=m then (if zYm ps m fr then some (.mk true (yJ1 ps m fr).1 []) else none) else yZa ps n:=by
 unfold yJ1
 by_cases hnm:n=m
 ·subst hnm
  rw[if_pos rfl]
  split
  ·simp only[yVy,yUc]
   simp[yZa]
  ·exact yUc
 ·rw[if_neg hnm]
  split
  ·simp only[yVy,xZa hn hnm]
   have:yZa [(m,Tm.mk true (yJj (yU9 ps m fr)) [])] n=none:=by simp[yZa,Ne.symm hnm]
   rw[this]; simp
  ·exact xZa hn hnm
section
variable (ps:List Pc)
def HSz (b:ByteArray→Nat)(F:ByteArray→Option Tm)(n:ByteArray):Prop :=
 (if b n=0 then zZu ps n (1,1) else (1,1))=(((F n).getD (.mk true n [])).size,((F n).getD (.mk true n [])).deep)
mutual
theorem wU2 (b:ByteArray→Nat)(F:ByteArray→Option Tm):∀ t:Tm,t.ok=true→(∀ n∈yQo t,HSz ps b F n)→psz ps b t=((yJl F t).size,(yJl F t).deep)
 | .mk true n l,h,hn=>by
  obtain rfl:=xVv h
  have h1:=hn n (by simp[yQo])
  unfold HSz at h1
  simp only[psz,pszs,true_and,yJl]
  rw[h1]
  cases F n with
  | none=>rfl
  | some u=>rfl
 | .mk false n l,h,hn=>by
  have:=zGm b F l (xVx h) (fun n hm=>hn n (by simpa[yQo] using hm))
  simp only[psz,bFt,false_and,if_false,yJl,Tm.size,Tm.deep,this]
theorem zGm (b:ByteArray→Nat)(F:ByteArray→Option Tm):∀ l:List Tm,yJ8 l=true→(∀ n∈yQi l,HSz ps b F n)→pszs ps b l=(yQ8 (yZe F l),yQk (yZe F l))
 | [],_,_=>rfl
 | a::l,h,hn=>by
  simp only[pszs,yZe,yQ8,yQk,wU2 b F a (yVb h).1 (fun n hm=>hn n (by simp[yQi,hm])),zGm b F l (yVb h).2 (fun n hm=>hn n (by simp[yQi,hm]))]
end
theorem wJi {b:ByteArray→Nat}{qs:Sb}{m:ByteArray}{fr:List ByteArray}{n:ByteArray}(hn:n∈fr)(h:n≠m→HSz ps b (yZa qs) n):HSz ps (incB b m) (yZa (yJ1 qs m fr).2) n:=by
 unfold HSz at h ⊢
 rw[xG7 hn]
 by_cases hnm:n=m
 ·subst hnm
  simp only[incB,if_true]
  rw[if_neg (by omega)]
  split<;>rfl
 ·simp only[incB,if_neg hnm]
  exact h hnm
mutual
theorem xWl:∀ (f:Fm)(qs:Sb)(b:ByteArray→Nat),f.ok=true→(∀ n∈frF f,HSz ps b (yZa qs) n)→fsz ps b f=((yJd qs f).size,(yJd qs f).deep)
 | .mk op m us sub,qs,b,hok,h=>by
  obtain⟨h1,h2,_⟩:=yY1 hok
  simp only[frF] at h
  simp only[fsz,yJd,Fm.size,Fm.deep,zGm ps b (yZa qs) us h1 (fun n hn=>h n (by simp[hn]))]
  by_cases hq:isQ op=true
  ·simp only[hq,if_true] at h ⊢
   rw[zKt sub _ _ h2 (fun n hn=>wJi ps hn (fun hm=>h n (by simp[hn,hm])))]
  ·simp only[hq,bFt,if_false] at h ⊢
   rw[zKt sub qs b h2 (fun n hn=>h n (by simp[hn]))]
theorem zKt:∀ (l:List Fm)(qs:Sb)(b:ByteArray→Nat),yKw l=true→(∀ n∈frFs l,HSz ps b (yZa qs) n)→fszs ps b l=(yQ7 (yXj qs l),yQt (yXj qs l))
 | [],_,_,_,_=>rfl
 | a::l,qs,b,hok,h=>by
  simp only[frFs] at h
  simp only[fszs,yXj,yQ7,yQt,xWl a qs b (yKe hok).1 (fun n hn=>h n (by simp[hn])),zKt l qs b (yKe hok).2 (fun n hn=>h n (by simp[hn]))]
end
end
def toS (ps:List Pc):Sb:=ps.map fun p=>(p.nm,p.tm)
theorem wKg (ps:List Pc):putF ps=yZa (toS ps):=by
 funext n
 unfold putF yZa toS
 rw[List.find?_map]
 simp only[Option.map_map]
 rfl
theorem zYa:∀ (ps:List Pc)(z:Nat×Nat)(n:ByteArray),(ps.map Pc.nm).Nodup→zZu ps n z=match yZa (toS ps) n with | some u=>(u.size,u.deep) | none=>z
 | [],z,n,_=>rfl
 | p::ps,z,n,h=>by
  simp only[List.map_cons,List.nodup_cons] at h
  have ih:=zYa ps (if p.nm=n then (p.tm.size,p.tm.deep) else z) n h.2
  have h0:zZu (p::ps) n z=zZu ps n (if p.nm=n then (p.tm.size,p.tm.deep) else z):=rfl
  rw[h0,ih]
  have hc:yZa (toS (p::ps)) n=if p.nm=n then some p.tm else yZa (toS ps) n:=by
   unfold yZa toS
   rw[List.map_cons,List.find?_cons]
   by_cases hp:p.nm=n<;>simp[hp]
  rw[hc]
  by_cases hp:p.nm=n
  ·rw[if_pos hp,if_pos hp]
   have:yZa (toS ps) n=none:=by
    cases hl:yZa (toS ps) n with
    | none=>rfl
    | some u =>
     have:=xZ9 hl
     unfold toS at this
     obtain⟨q,hq,he⟩:=List.mem_map.1 this
     cases he
     exact absurd (List.mem_map.2 ⟨q,hq,hp.symm⟩) h.1
   rw[this]
  ·rw[if_neg hp,if_neg hp]
theorem HSz0 {ps:List Pc}(h:(ps.map Pc.nm).Nodup)(n:ByteArray):HSz ps (fun _=>0) (yZa (toS ps)) n:=by
 unfold HSz
 rw[if_pos rfl,zYa ps _ n h]
 cases yZa (toS ps) n<;>rfl
theorem vJn {ps:List Pc}(h:(ps.map Pc.nm).Nodup){f:Fm}(hf:f.ok=true):fsz ps (fun _=>0) f=((yJd (toS ps) f).size,(yJd (toS ps) f).deep) :=
 xWl ps f (toS ps) _ hf (fun n _=>HSz0 h n)
theorem yWi:∀ (k u:Nat),u<10 ^ (k+1)→Lib.nDigits u≤k+1
 | 0,u,h=>by rw[Lib.nDigits_small (by simpa using h)]; omega
 | k+1,u,h=>by
  by_cases hu:u<10
  ·rw[Lib.nDigits_small hu]; omega
  ·rw[Lib.nDigits_big hu]
   have:=yWi k (u / 10) (by rw[Nat.pow_succ] at h; omega)
   omega
mutual
theorem yKh:∀ t:Tm,(yQo t).length≤t.size
 | .mk true n l=>by have:=yJ9 l; simp only[yQo,List.length_cons,Tm.size]; omega
 | .mk false n l=>by have:=yJ9 l; simp only[yQo,Tm.size]; omega
theorem yJ9:∀ l:List Tm,(yQi l).length≤yQ8 l
 | []=>Nat.le_refl _
 | a::l=>by have:=yKh a; have:=yJ9 l; simp only[yQi,lLa,yQ8]; omega
end
mutual
theorem zKw:∀ f:Fm,(frF f).length≤f.size
 | .mk op m us sub=>by
  have h1:=yJ9 us
  have h2:=zU7 sub
  simp only[frF,lLa,Fm.size]
  split
  ·have:=List.length_filter_le (fun n=>!decide (n=m)) (frFs sub); omega
  ·omega
theorem zU7:∀ l:List Fm,(frFs l).length≤yQ7 l
 | []=>Nat.le_refl _
 | a::l=>by have:=zKw a; have:=zU7 l; simp only[frFs,lLa,yQ7]; omega
end
def wS:Sb→Nat
 | []=>0
 | p::l=>p.2.size+wS l
theorem zUu:∀ l m:Sb,wS (l++m)=wS l+wS m
 | [],m=>by simp[wS]
 | a::l,m=>by simp only[List.cons_append,wS,zUu l m]; omega
theorem zQ6 (q:ByteArray×Tm→Bool):∀ l:Sb,wS (l.filter q)≤wS l
 | []=>Nat.le_refl _
 | a::l=>by
  have:=zQ6 q l
  rw[List.filter_cons]
  split
  ·simp only[wS]; omega
  ·simp only[wS]; omega
theorem wXc:∀ l:Sb,(l.flatMap fun p=>yQo p.2).length≤wS l
 | []=>Nat.le_refl _
 | a::l=>by
  have:=wXc l
  have:=yKh a.2
  simp only[List.flatMap_cons,lLa,wS]; omega
theorem wJt (ps:Sb)(m:ByteArray)(fr:List ByteArray):(yU9 ps m fr).length≤fr.length+wS ps:=by
 have:=wXc (cntS ps m fr)
 have:=zQ6 (fun p=>memB fr p.1&&!decide (p.1=m)) ps
 unfold yU9 cntS at *
 simp only[lLa]; omega
theorem wJm (ps:Sb)(m:ByteArray)(fr:List ByteArray):wS (yJ1 ps m fr).2≤wS ps+1:=by
 have:=zQ6 (fun p=>memB fr p.1&&!decide (p.1=m)) ps
 unfold yJ1 cntS
 split
 ·simp only[zUu,wS,Tm.size,yQ8]; omega
 ·simp only; omega
end Go.Proofs.Tryz
namespace Go.Proofs.Tryz
open Go Go.Iv
noncomputable def yKc (f g:Fm):Bool:=f.right&&g.right&&eqB (dbF [] f) (dbF [] g)
theorem xW5 {e:List ByteArray}{n:ByteArray}{l:Nat}(h:e.length≤l):yKa e n≠.bv l:=by
 unfold yKa
 split
 ·rename_i i hi
  have:=zJ5 hi
  intro he; injection he; omega
 ·intro he; cases he
theorem xG8 {ls rs:List ByteArray}{l r n n':ByteArray}(hlen:ls.length=rs.length):yKa (l::ls) n=yKa (r::rs) n'↔(if n=l∨n'=r then n=l∧n'=r else yKa ls n=yKa rs n'):=by
 rw[zY5,zY5]
 by_cases h1:n=l
 ·by_cases h2:n'=r
  ·simp[h1,h2,hlen]
  ·simp only[h1,h2,if_true,true_or,and_false,iff_false,if_false]
   exact fun h=>xW5 (Nat.le_of_eq hlen.symm) h.symm
 ·by_cases h2:n'=r
  ·simp only[h1,h2,if_true,or_true,false_and,iff_false,if_false]
   exact fun h=>xW5 (Nat.le_of_eq hlen) h
  ·simp[h1,h2]
theorem xW6 {e:List ByteArray}{n m:ByteArray}{l:List NlT}:yKa e n≠.ap m l:=by
 unfold yKa; split<;>intro h<;>cases h
theorem wZ7 {n:ByteArray}:yKa [] n=.fv n:=rfl
abbrev Ar:=List (ByteArray×ByteArray)
def renF (ar:Ar)(n:ByteArray):Option Tm:=(ar.find? fun p=>decide (p.1=n)).map fun p=>.mk true p.2 []
mutual
noncomputable def xJo (free:List ByteArray):Ar→Fm→Fm
 | ar,.mk op m us sub=>.mk op (if isQ op then yJj (free++ar.map (·.2)) else m) (yZe (renF ar) us) (yVm free (if isQ op then (m,yJj (free++ar.map (·.2)))::ar else ar) sub)
noncomputable def yVm (free:List ByteArray):Ar→List Fm→List Fm
 | _,[]=>[]
 | ar,a::l=>xJo free ar a::yVm free ar l
end
theorem yV4 (free:List ByteArray)(ar:Ar):∀ l m:List Fm,yVm free ar (l++m)=yVm free ar l++yVm free ar m
 | [],m=>by simp[yVm]
 | a::l,m=>by simp only[List.cons_append,yVm,yV4 free ar l m]
theorem yXs (free:List ByteArray)(ar:Ar):∀ l:List Fm,(yVm free ar l).length=l.length
 | []=>rfl
 | a::l=>by simp only[yVm,List.length_cons,yXs free ar l]
noncomputable def zXu (f:Fm):Fm:=xJo (frF f) [] f
theorem wK7 {ar:Ar}{n:ByteArray}{u:Tm}(h:renF ar n=some u):u.size=1∧u.deep=1:=by
 unfold renF at h
 rw[Option.map_eq_some_iff] at h
 obtain⟨p,_,rfl⟩:=h
 exact⟨rfl,rfl⟩
theorem yJp {f:Fm}(h:f.right=true):f.ok=true∧f.size≤400∧f.deep≤40:=by
 simp only[Fm.right,bAt,dTe] at h; exact⟨h.1.1,h.1.2,h.2⟩
end Go.Proofs.Tryz
