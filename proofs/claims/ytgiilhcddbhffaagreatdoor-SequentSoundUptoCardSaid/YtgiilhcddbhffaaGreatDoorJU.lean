/- Putting, renaming, normal forms: plain d -/
import Derived.Test.YtgiilhcddbhffaaGreatDoorJT
import Derived.Lib.ItoaNum
set_option linter.all false
namespace Go.Proofs.Tryz
open Go Go.Iv
def yK0 (k:Nat):ByteArray:=⟨(120::Lib.decDigits k).toArray⟩
def valD (l:List UInt8):Nat:=l.foldl (fun a d=>a*10+(d.toNat - 48)) 0
theorem xJd (u:Nat):valD (Lib.decDigits u)=u:=by
 induction u using Nat.strongRecOn with
 | _ u ih =>
  rw[Lib.decDigits]
  by_cases h:u<10
  ·rw[dif_pos h]
   simp only[valD,List.foldl_cons,List.foldl_nil,UInt8.toNat_ofNat']
   omega
  ·rw[dif_neg h]
   have:=ih (u / 10) (by omega)
   simp only[valD,List.foldl_append,List.foldl_cons,List.foldl_nil,UInt8.toNat_ofNat'] at this ⊢
   rw[this]
   omega
theorem xYt {a b:Nat}(h:yK0 a=yK0 b):a=b:=by
 have h1:(120::Lib.decDigits a)=(120::Lib.decDigits b):=by
  have:=congrArg (fun x:ByteArray=>x.data.toList) h
  simpa[yK0] using this
 have h2:Lib.decDigits a=Lib.decDigits b:=by injection h1
 rw[← xJd a,h2,xJd b]
theorem xK7 {α:Type} [DecidableEq α]:∀ (a b:List α),a.Nodup→(∀ x∈a,x∈b)→a.length≤b.length
 | [],b,_,_=>Nat.zero_le _
 | x::a,b,hn,hs=>by
  have hx:=hs x (List.mem_cons_self ..)
  have hn':=List.nodup_cons.1 hn
  have:=xK7 a (b.erase x) hn'.2 (fun y hy=>(List.mem_erase_of_ne (by rintro rfl; exact hn'.1 hy)).2 (hs y (List.mem_cons_of_mem _ hy)))
  rw[List.length_erase_of_mem hx] at this
  have hb:0<b.length:=List.length_pos_of_mem hx
  simp only[List.length_cons]; omega
theorem wK6 (l:List ByteArray):∃ k,1≤k∧k≤l.length+1∧yK0 k ∉ l:=by
 refine Classical.byContradiction fun hne=>?_
 have hall:∀ k,1≤k→k≤l.length+1→yK0 k∈l:=fun k h1 h2=>Classical.byContradiction fun h=>hne ⟨k,h1,h2,h⟩
 have:=xK7 ((List.range' 1 (l.length+1)).map yK0) l (by
   unfold List.Nodup
   rw[List.pairwise_map]
   exact List.Pairwise.imp (fun h he=>h (xYt he)) (List.nodup_range' (s:=1) (n:=l.length+1))) (fun x hx=>by
   obtain⟨k,hk,rfl⟩:=List.mem_map.1 hx
   have:=List.mem_range'_1.1 hk
   exact hall k (by omega) (by omega))
 simp at this
 omega
noncomputable def yWo (l:List ByteArray):Nat:=Iv.least (fun k=>1≤k∧yK0 k ∉ l)
theorem yV7 (l:List ByteArray):1≤yWo l∧yWo l≤l.length+1∧yK0 (yWo l) ∉ l∧∀ j,1≤j→j<yWo l→yK0 j∈l:=by
 obtain⟨k,h1,h2,h3⟩:=wK6 l
 have hs:=Iv.least_spec (p:=fun k=>1≤k∧yK0 k ∉ l) ⟨k,h1,h3⟩
 refine⟨hs.1.1,Nat.le_trans (hs.2 k ⟨h1,h3⟩) h2,hs.1.2,fun j hj hlt=>Classical.byContradiction fun hn=>?_⟩
 have:=hs.2 j ⟨hj,hn⟩
 unfold yWo at hlt
 omega
theorem wQ7 {l:List ByteArray}{k:Nat}(h1:1≤k)(h2:yK0 k ∉ l)(h3:∀ j,1≤j→j<k→yK0 j∈l):yWo l=k:=by
 obtain⟨a1,a2,a3,a4⟩:=yV7 l
 rcases Nat.lt_trichotomy (yWo l) k with h | h | h
 ·exact absurd (h3 _ a1 h) a3
 ·exact h
 ·exact absurd (a4 k h1 h) h2
theorem zU8 {l m:List ByteArray}(h:∀ x,x∈l↔x∈m):yWo l=yWo m:=by
 obtain⟨a1,a2,a3,a4⟩:=yV7 m
 exact wQ7 a1 (fun hx=>a3 ((h _).1 hx)) (fun j hj hlt=>(h _).2 (a4 j hj hlt))
noncomputable def yJk (l:List ByteArray):ByteArray:=yK0 (yWo l)
theorem xWx (l:List ByteArray):yJk l ∉ l:=(yV7 l).2.2.1
theorem zU7 {l m:List ByteArray}(h:∀ x,x∈l↔x∈m):yJk l=yJk m:=by unfold yJk; rw[zU8 h]
def memB (l:List ByteArray)(n:ByteArray):Bool:=l.any fun x=>decide (x=n)
@[simp] theorem yZo {l:List ByteArray}{n:ByteArray}:memB l n=true↔n∈l:=by
 simp[memB]
@[simp] theorem zZk {l:List ByteArray}{n:ByteArray}:memB l n=false↔n ∉ l:=by
 rw[← Bool.not_eq_true,yZo]
mutual
def frF:Fm→List ByteArray
 | .mk op m us sub=>yQj us++(if isQ op then (frFs sub).filter (fun n=>!decide (n=m)) else frFs sub)
def frFs:List Fm→List ByteArray
 | []=>[]
 | a::l=>frF a++frFs l
end
theorem xY4 (b:ByteArray→Nat)(m:ByteArray)(l:List ByteArray):yKh (incB b m) l=yKh b (l.filter (fun n=>!decide (n=m))):=by
 unfold yKh
 rw[List.filter_filter]
 refine List.filter_congr fun n _=>?_
 unfold incB
 by_cases h:n=m<;>simp[h]
mutual
theorem zUm:∀ (f:Fm)(b:ByteArray→Nat),yUp b f=yKh b (frF f)
 | .mk op m us sub,b=>by
  simp only[yUp,frF,yXf]
  rw[zVr sub]
  split
  ·rw[xY4]
  ·rfl
theorem zVr:∀ (l:List Fm)(b:ByteArray→Nat),yZx b l=yKh b (frFs l)
 | [],b=>by simp[yZx,frFs,yKh]
 | a::l,b=>by simp only[yZx,frFs,yXf,zUm a b,zVr l b]
end
theorem zZt (f:Fm):xXc f=frF f:=by
 unfold xXc
 rw[zUm]
 unfold yKh
 rw[List.filter_eq_self]
 intro a _; rfl
abbrev Sb:=List (ByteArray×Tm)
def yZi (l:Sb)(n:ByteArray):Option Tm:=(l.find? fun p=>decide (p.1=n)).map (·.2)
def cntS (ps:Sb)(m:ByteArray)(fr:List ByteArray):Sb:=ps.filter fun p=>memB fr p.1&&!decide (p.1=m)
def zJu (ps:Sb)(m:ByteArray)(fr:List ByteArray):Bool:=(cntS ps m fr).any fun p=>memB (yQs p.2) m
def yVv (ps:Sb)(m:ByteArray)(fr:List ByteArray):List ByteArray:=fr++(cntS ps m fr).flatMap fun p=>yQs p.2
noncomputable def yJ4 (ps:Sb)(m:ByteArray)(fr:List ByteArray):ByteArray×Sb :=
 if zJu ps m fr then (yJk (yVv ps m fr),cntS ps m fr++[(m,.mk true (yJk (yVv ps m fr)) [])]) else (m,cntS ps m fr)
mutual
noncomputable def yXr:Sb→Fm→Fm
 | ps,.mk op m us sub=>.mk op (if isQ op then (yJ4 ps m (frFs sub)).1 else m) (yX4 (yZi ps) us) (yJ7 (if isQ op then (yJ4 ps m (frFs sub)).2 else ps) sub)
noncomputable def yJ7:Sb→List Fm→List Fm
 | _,[]=>[]
 | ps,a::l=>yXr ps a::yJ7 ps l
end
theorem yWj (ps:Sb):∀ l m:List Fm,yJ7 ps (l++m)=yJ7 ps l++yJ7 ps m
 | [],m=>by simp[yJ7]
 | a::l,m=>by simp only[List.cons_append,yJ7,yWj ps l m]
theorem yJ1 (ps:Sb):∀ l:List Fm,(yJ7 ps l).length=l.length
 | []=>rfl
 | a::l=>by simp only[yJ7,List.length_cons,yJ1 ps l]
inductive NlT where
 | bv (i:Nat)
 | fv (n:ByteArray)
 | ap (n:ByteArray) (l:List NlT)
inductive NlF where
 | mk (op:Nat) (n:ByteArray) (us:List NlT) (sub:List NlF)
def yGc:List ByteArray→ByteArray→Option Nat
 | [],_=>none
 | m::e,n=>if n=m then some e.length else yGc e n
def yJa (env:List ByteArray)(n:ByteArray):NlT:=match yGc env n with | some i=>.bv i | none=>.fv n
mutual
def db (env:List ByteArray):Tm→NlT
 | .mk true n _=>yJa env n
 | .mk false n l=>.ap n (dbs env l)
def dbs (env:List ByteArray):List Tm→List NlT
 | []=>[]
 | a::l=>db env a::dbs env l
end
mutual
def dbF:List ByteArray→Fm→NlF
 | env,.mk op m us sub=>.mk op (if isQ op then ⟨#[]⟩ else m) (dbs env us) (dbFs (if isQ op then m::env else env) sub)
def dbFs:List ByteArray→List Fm→List NlF
 | _,[]=>[]
 | env,a::l=>dbF env a::dbFs env l
end
mutual
def dsub (σ:ByteArray→NlT):NlT→NlT
 | .bv i=>.bv i
 | .fv n=>σ n
 | .ap n l=>.ap n (zKm σ l)
def zKm (σ:ByteArray→NlT):List NlT→List NlT
 | []=>[]
 | a::l=>dsub σ a::zKm σ l
end
mutual
def zJk (σ:ByteArray→NlT):NlF→NlF
 | .mk op n us sub=>.mk op n (zKm σ us) (yUt σ sub)
def yUt (σ:ByteArray→NlT):List NlF→List NlF
 | []=>[]
 | a::l=>zJk σ a::yUt σ l
end
mutual
def frT:NlT→List ByteArray
 | .bv _=>[]
 | .fv n=>[n]
 | .ap _ l=>frTs l
def frTs:List NlT→List ByteArray
 | []=>[]
 | a::l=>frT a++frTs l
end
mutual
def frD:NlF→List ByteArray
 | .mk _ _ us sub=>frTs us++frDs sub
def frDs:List NlF→List ByteArray
 | []=>[]
 | a::l=>frD a++frDs l
end
theorem xKd:∀ {e:List ByteArray}{n:ByteArray}{i:Nat},yGc e n=some i→i<e.length
 | [],n,i,h=>by cases h
 | m::e,n,i,h=>by
  simp only[yGc] at h
  split at h
  ·cases h; simp
  ·have:=xKd h; simp only[List.length_cons]; omega
theorem zQd:∀ {e:List ByteArray}{n:ByteArray},yGc e n=none↔n ∉ e
 | [],n=>by simp[yGc]
 | m::e,n=>by
  simp only[yGc,List.mem_cons,not_or]
  by_cases h:n=m
  ·simp[h]
  ·simp[h,zQd (e:=e)]
theorem yXz {e:List ByteArray}{m n:ByteArray}:yJa (m::e) n=if n=m then .bv e.length else yJa e n:=by
 unfold yJa
 simp only[yGc]
 by_cases h:n=m<;>simp[h]
theorem zXr {n:ByteArray}{l:List Tm}(h:(Tm.mk true n l).ok=true):l=[]:=by
 simp only[Tm.ok,bAt,List.isEmpty_iff] at h; exact h.1
theorem zXs {n:ByteArray}{l:List Tm}(h:(Tm.mk false n l).ok=true):yKr l=true:=by
 simp only[Tm.ok,bAt] at h; exact h.2
theorem yZy {a:Tm}{l:List Tm}(h:yKr (a::l)=true):a.ok=true∧yKr l=true:=by
 simpa only[yKr,bAt] using h
theorem yZz {a:Fm}{l:List Fm}(h:yJy (a::l)=true):a.ok=true∧yJy l=true:=by
 simpa only[yJy,bAt] using h
theorem yY5 {op:Nat}{m:ByteArray}{us:List Tm}{sub:List Fm}(h:(Fm.mk op m us sub).ok=true):yKr us=true∧yJy sub=true∧yJo op m us.length sub.length=true:=by
 simp only[Fm.ok,bAt] at h; exact⟨h.1.2,h.2,h.1.1⟩
mutual
theorem vXy (env:List ByteArray):∀ t:Tm,t.ok=true→frT (db env t)=(yQs t).filter (fun n=>!memB env n)
 | .mk true n l,h=>by
  obtain rfl:=zXr h
  simp only[db,yQs,yQj]
  unfold yJa
  cases hl:yGc env n with
  | none=>simp[frT,zQd.1 hl]
  | some i =>
   have:n∈env:=Classical.byContradiction fun hn=>by rw[zQd.2 hn] at hl; cases hl
   simp[frT,this]
 | .mk false n l,h=>by
  simp only[db,yQs,frT]
  exact zYg env l (zXs h)
theorem zYg (env:List ByteArray):∀ l:List Tm,yKr l=true→frTs (dbs env l)=(yQj l).filter (fun n=>!memB env n)
 | [],_=>rfl
 | a::l,h=>by
  simp only[dbs,frTs,yQj,List.filter_append,vXy env a (yZy h).1,zYg env l (yZy h).2]
end
mutual
theorem wQz:∀ (f:Fm)(env:List ByteArray),f.ok=true→frD (dbF env f)=(frF f).filter (fun n=>!memB env n)
 | .mk op m us sub,env,h=>by
  obtain⟨h1,h2,_⟩:=yY5 h
  simp only[dbF,frD,frF,List.filter_append,zYg env us h1,zUo sub _ h2]
  congr 1
  split
  ·rw[List.filter_filter]
   refine List.filter_congr fun n _=>?_
   by_cases hn:n=m
   ·simp[hn,memB]
   ·simp[hn,memB,Ne.symm hn]
  ·rfl
theorem zUo:∀ (l:List Fm)(env:List ByteArray),yJy l=true→frDs (dbFs env l)=(frFs l).filter (fun n=>!memB env n)
 | [],_,_=>rfl
 | a::l,env,h=>by
  simp only[dbFs,frDs,frFs,List.filter_append,wQz a env (yZz h).1,zUo l env (yZz h).2]
end
theorem zYi {f:Fm}(h:f.ok=true):frD (dbF [] f)=frF f:=by
 rw[wQz f [] h,List.filter_eq_self]; intro a _; simp
mutual
theorem zJn (env:List ByteArray)(m:ByteArray):∀ t:Tm,m ∉ yQs t→db (m::env) t=db env t
 | .mk true n l,h=>by
  simp only[yQs,List.mem_cons,not_or] at h
  simp only[db,yXz]
  rw[if_neg (fun he=>h.1 he.symm)]
 | .mk false n l,h=>by
  simp only[db,xVb env m l (by simpa[yQs] using h)]
theorem xVb (env:List ByteArray)(m:ByteArray):∀ l:List Tm,m ∉ yQj l→dbs (m::env) l=dbs env l
 | [],_=>rfl
 | a::l,h=>by
  simp only[yQj,List.mem_append,not_or] at h
  simp only[dbs,zJn env m a h.1,xVb env m l h.2]
end
mutual
theorem vK0 (env env':List ByteArray)(σ:ByteArray→NlT)(F:ByteArray→Option Tm):∀ t:Tm,t.ok=true→(∀ n∈yQs t,db env' ((F n).getD (.mk true n []))=dsub σ (yJa env n))→db env' (yKt F t)=dsub σ (db env t)
 | .mk true n l,h,hn=>by
  obtain rfl:=zXr h
  have h1:=hn n (by simp[yQs])
  simp only[yKt,db]
  rw[← h1]
  cases F n with
  | none=>rfl
  | some u=>rfl
 | .mk false n l,h,hn=>by
  simp only[yKt,db,dsub,xXi env env' σ F l (zXs h) (fun n hm=>hn n (by simpa[yQs] using hm))]
theorem xXi (env env':List ByteArray)(σ:ByteArray→NlT)(F:ByteArray→Option Tm):∀ l:List Tm,yKr l=true→(∀ n∈yQj l,db env' ((F n).getD (.mk true n []))=dsub σ (yJa env n))→dbs env' (yX4 F l)=zKm σ (dbs env l)
 | [],_,_=>rfl
 | a::l,h,hn=>by
  simp only[yX4,dbs,zKm,vK0 env env' σ F a (yZy h).1 (fun n hm=>hn n (by simp[yQj,hm])),xXi env env' σ F l (yZy h).2 (fun n hm=>hn n (by simp[yQj,hm]))]
end
theorem zZa {ps:Sb}{q:ByteArray×Tm→Bool}{n:ByteArray}(h:∀ u,q (n,u)=true):yZi (ps.filter q) n=yZi ps n:=by
 unfold yZi
 rw[List.find?_filter]
 congr 2
 funext p
 by_cases hp:p.1=n
 ·obtain⟨a,u⟩:=p; simp only at hp; subst hp; simp[h u]
 ·simp[hp]
theorem zZb {ps:Sb}{q:ByteArray×Tm→Bool}{n:ByteArray}(h:∀ u,q (n,u)=false):yZi (ps.filter q) n=none:=by
 unfold yZi
 rw[List.find?_filter,Option.map_eq_none_iff,List.find?_eq_none]
 intro p _
 by_cases hp:p.1=n
 ·obtain⟨a,u⟩:=p; simp only at hp; subst hp; simp[h u]
 ·simp[hp]
theorem yY9 (ps qs:Sb)(n:ByteArray):yZi (ps++qs) n=(yZi ps n).or (yZi qs n):=by
 unfold yZi
 rw[List.find?_append]
 cases ps.find? _<;>rfl
theorem yVz {ps:Sb}{m n:ByteArray}{fr:List ByteArray}(hn:n∈fr)(hm:n≠m):yZi (cntS ps m fr) n=yZi ps n :=
 zZa fun u=>by simp[hn,hm]
theorem yKa {ps:Sb}{m:ByteArray}{fr:List ByteArray}:yZi (cntS ps m fr) m=none :=
 zZb fun u=>by simp
theorem yY8 {ps:Sb}{n:ByteArray}{u:Tm}(h:yZi ps n=some u):(n,u)∈ps:=by
 unfold yZi at h
 rw[Option.map_eq_some_iff] at h
 obtain⟨⟨a,v⟩,h1,h2⟩:=h
 have h3:=List.find?_some h1
 simp only[dTe] at h3
 simp only at h2
 subst h3 h2
 exact List.mem_of_find?_eq_some h1
theorem wXw {ps:Sb}{m:ByteArray}{fr:List ByteArray}{env env':List ByteArray}{σ:ByteArray→NlT}(hl:env.length=env'.length)
  (h:∀ n∈fr,n≠m→db env' ((yZi ps n).getD (.mk true n []))=dsub σ (yJa env n)) {n:ByteArray} (hn:n∈fr) :
  db ((yJ4 ps m fr).1::env') ((yZi (yJ4 ps m fr).2 n).getD (.mk true n []))=dsub σ (yJa (m::env) n):=by
 unfold yJ4
 by_cases hc:zJu ps m fr=true
 ·rw[if_pos hc]
  have hf:=xWx (yVv ps m fr)
  simp only[yVv,List.mem_append,not_or] at hf
  have hff:=hf.1
  have hft:=hf.2
  generalize hm':yJk (yVv ps m fr)=m' at hf hff hft
  have hm2:yJk (fr++List.flatMap (fun p=>yQs p.2) (cntS ps m fr))=m':=hm'
  simp only[hm2] at hff hft
  simp only
  rw[yY9]
  by_cases hnm:n=m
  ·subst hnm
   rw[yKa,yXz,if_pos rfl]
   simp[yZi,db,yXz,dsub,hl]
  ·rw[yVz hn hnm,yXz,if_neg hnm,← h n hn hnm]
   cases hs:yZi ps n with
   | some u =>
    simp only[Option.some_or,Option.getD_some]
    refine zJn _ _ _ fun hmu=>hft (List.mem_flatMap.2 ⟨(n,u),?_,hmu⟩)
    exact yY8 (by rw[yVz hn hnm]; exact hs)
   | none =>
    have:yZi [(m,Tm.mk true m' [])] n=none:=by simp[yZi,Ne.symm hnm]
    rw[this]
    simp only[Option.none_or,Option.getD_none]
    refine zJn _ _ _ ?_
    simp only[yQs,yQj,List.mem_singleton]
    rintro rfl
    exact hff hn
 ·rw[if_neg hc]
  simp only
  by_cases hnm:n=m
  ·subst hnm
   rw[yKa,yXz,if_pos rfl]
   simp[db,yXz,dsub,hl]
  ·rw[yVz hn hnm,yXz,if_neg hnm,← h n hn hnm]
   cases hs:yZi ps n with
   | some u =>
    simp only[Option.getD_some]
    refine zJn _ _ _ fun hmu=>hc ?_
    unfold zJu
    rw[List.any_eq_true]
    exact⟨(n,u),yY8 (by rw[yVz hn hnm]; exact hs),by simpa using hmu⟩
   | none =>
    simp only[Option.getD_none]
    refine zJn _ _ _ ?_
    simp only[yQs,yQj,List.mem_singleton]
    exact fun he=>hnm he.symm
mutual
theorem xVc:∀ (f:Fm)(ps:Sb)(env env':List ByteArray)(σ:ByteArray→NlT),env.length=env'.length→f.ok=true→(∀ n∈frF f,db env' ((yZi ps n).getD (.mk true n []))=dsub σ (yJa env n)) →
  dbF env' (yXr ps f)=zJk σ (dbF env f)
 | .mk op m us sub,ps,env,env',σ,hl,hok,h=>by
  obtain⟨h1,h2,_⟩:=yY5 hok
  simp only[frF] at h
  simp only[yXr,dbF,zJk]
  rw[xXi env env' σ (yZi ps) us h1 (fun n hn=>h n (by simp[hn]))]
  by_cases hq:isQ op=true
  ·simp only[hq,if_true] at h ⊢
   rw[zJp sub _ (m::env) ((yJ4 ps m (frFs sub)).1::env') σ (by simp[hl]) h2 (fun n hn=>wXw hl (fun n' h' hm'=>h n' (by simp[h',hm'])) hn)]
  ·simp only[hq,bFt,if_false] at h ⊢
   rw[zJp sub ps env env' σ hl h2 (fun n hn=>h n (by simp[hn]))]
theorem zJp:∀ (l:List Fm)(ps:Sb)(env env':List ByteArray)(σ:ByteArray→NlT),env.length=env'.length→yJy l=true→(∀ n∈frFs l,db env' ((yZi ps n).getD (.mk true n []))=dsub σ (yJa env n)) →
  dbFs env' (yJ7 ps l)=yUt σ (dbFs env l)
 | [],_,_,_,_,_,_,_=>rfl
 | a::l,ps,env,env',σ,hl,hok,h=>by
  simp only[frFs] at h
  simp only[yJ7,dbFs,yUt,xVc a ps env env' σ hl (yZz hok).1 (fun n hn=>h n (by simp[hn])),zJp l ps env env' σ hl (yZz hok).2 (fun n hn=>h n (by simp[hn]))]
end
def sgm (ps:Sb)(n:ByteArray):NlT:=db [] ((yZi ps n).getD (.mk true n []))
theorem zUx (f:Fm)(ps:Sb)(h:f.ok=true):dbF [] (yXr ps f)=zJk (sgm ps) (dbF [] f):=xVc f ps [] [] (sgm ps) rfl h (fun n _=>rfl)
end Go.Proofs.Tryz
namespace Go.Proofs.Tryz
open Go Go.Iv
theorem xWm {ps:Sb}{m:ByteArray}{fr:List ByteArray}{n:ByteArray}(hn:n∈fr) :
  yZi (yJ4 ps m fr).2 n=if n=m then (if zJu ps m fr then some (.mk true (yJ4 ps m fr).1 []) else none) else yZi ps n:=by
 unfold yJ4
 by_cases hnm:n=m
 ·subst hnm
  rw[if_pos rfl]
  split
  ·simp only[yY9,yKa]
   simp[yZi]
  ·exact yKa
 ·rw[if_neg hnm]
  split
  ·simp only[yY9,yVz hn hnm]
   have:yZi [(m,Tm.mk true (yJk (yVv ps m fr)) [])] n=none:=by simp[yZi,Ne.symm hnm]
   rw[this]; simp
  ·exact yVz hn hnm
section
variable (ps:List Pc)
def HSz (b:ByteArray→Nat)(F:ByteArray→Option Tm)(n:ByteArray):Prop :=
 (if b n=0 then zQg ps n (1,1) else (1,1))=(((F n).getD (.mk true n [])).size,((F n).getD (.mk true n [])).deep)
mutual
theorem wYw (b:ByteArray→Nat)(F:ByteArray→Option Tm):∀ t:Tm,t.ok=true→(∀ n∈yQs t,HSz ps b F n)→psz ps b t=((yKt F t).size,(yKt F t).deep)
 | .mk true n l,h,hn=>by
  obtain rfl:=zXr h
  have h1:=hn n (by simp[yQs])
  unfold HSz at h1
  simp only[psz,pszs,true_and,yKt]
  rw[h1]
  cases F n with
  | none=>rfl
  | some u=>rfl
 | .mk false n l,h,hn=>by
  have:=zWx b F l (zXs h) (fun n hm=>hn n (by simpa[yQs] using hm))
  simp only[psz,bFt,false_and,if_false,yKt,Tm.size,Tm.deep,this]
theorem zWx (b:ByteArray→Nat)(F:ByteArray→Option Tm):∀ l:List Tm,yKr l=true→(∀ n∈yQj l,HSz ps b F n)→pszs ps b l=(yQe (yX4 F l),yQv (yX4 F l))
 | [],_,_=>rfl
 | a::l,h,hn=>by
  simp only[pszs,yX4,yQe,yQv,wYw b F a (yZy h).1 (fun n hm=>hn n (by simp[yQj,hm])),zWx b F l (yZy h).2 (fun n hm=>hn n (by simp[yQj,hm]))]
end
theorem wXk {b:ByteArray→Nat}{qs:Sb}{m:ByteArray}{fr:List ByteArray}{n:ByteArray}(hn:n∈fr)(h:n≠m→HSz ps b (yZi qs) n):HSz ps (incB b m) (yZi (yJ4 qs m fr).2) n:=by
 unfold HSz at h ⊢
 rw[xWm hn]
 by_cases hnm:n=m
 ·subst hnm
  simp only[incB,if_true]
  rw[if_neg (by omega)]
  split<;>rfl
 ·simp only[incB,if_neg hnm]
  exact h hnm
mutual
theorem xKw:∀ (f:Fm)(qs:Sb)(b:ByteArray→Nat),f.ok=true→(∀ n∈frF f,HSz ps b (yZi qs) n)→fsz ps b f=((yXr qs f).size,(yXr qs f).deep)
 | .mk op m us sub,qs,b,hok,h=>by
  obtain⟨h1,h2,_⟩:=yY5 hok
  simp only[frF] at h
  simp only[fsz,yXr,Fm.size,Fm.deep,zWx ps b (yZi qs) us h1 (fun n hn=>h n (by simp[hn]))]
  by_cases hq:isQ op=true
  ·simp only[hq,if_true] at h ⊢
   rw[zJb sub _ _ h2 (fun n hn=>wXk ps hn (fun hm=>h n (by simp[hn,hm])))]
  ·simp only[hq,bFt,if_false] at h ⊢
   rw[zJb sub qs b h2 (fun n hn=>h n (by simp[hn]))]
theorem zJb:∀ (l:List Fm)(qs:Sb)(b:ByteArray→Nat),yJy l=true→(∀ n∈frFs l,HSz ps b (yZi qs) n)→fszs ps b l=(yQ7 (yJ7 qs l),yZ1 (yJ7 qs l))
 | [],_,_,_,_=>rfl
 | a::l,qs,b,hok,h=>by
  simp only[frFs] at h
  simp only[fszs,yJ7,yQ7,yZ1,xKw a qs b (yZz hok).1 (fun n hn=>h n (by simp[hn])),zJb l qs b (yZz hok).2 (fun n hn=>h n (by simp[hn]))]
end
end
def toS (ps:List Pc):Sb:=ps.map fun p=>(p.nm,p.tm)
theorem wJl (ps:List Pc):putF ps=yZi (toS ps):=by
 funext n
 unfold putF yZi toS
 rw[List.find?_map]
 simp only[Option.map_map]
 rfl
theorem zVl:∀ (ps:List Pc)(z:Nat×Nat)(n:ByteArray),(ps.map Pc.nm).Nodup→zQg ps n z=match yZi (toS ps) n with | some u=>(u.size,u.deep) | none=>z
 | [],z,n,_=>rfl
 | p::ps,z,n,h=>by
  simp only[List.map_cons,List.nodup_cons] at h
  have ih:=zVl ps (if p.nm=n then (p.tm.size,p.tm.deep) else z) n h.2
  have h0:zQg (p::ps) n z=zQg ps n (if p.nm=n then (p.tm.size,p.tm.deep) else z):=rfl
  rw[h0,ih]
  have hc:yZi (toS (p::ps)) n=if p.nm=n then some p.tm else yZi (toS ps) n:=by
   unfold yZi toS
   rw[List.map_cons,List.find?_cons]
   by_cases hp:p.nm=n<;>simp[hp]
  rw[hc]
  by_cases hp:p.nm=n
  ·rw[if_pos hp,if_pos hp]
   have:yZi (toS ps) n=none:=by
    cases hl:yZi (toS ps) n with
    | none=>rfl
    | some u =>
     have:=yY8 hl
     unfold toS at this
     obtain⟨q,hq,he⟩:=List.mem_map.1 this
     cases he
     exact absurd (List.mem_map.2 ⟨q,hq,hp.symm⟩) h.1
   rw[this]
  ·rw[if_neg hp,if_neg hp]
theorem HSz0 {ps:List Pc}(h:(ps.map Pc.nm).Nodup)(n:ByteArray):HSz ps (fun _=>0) (yZi (toS ps)) n:=by
 unfold HSz
 rw[if_pos rfl,zVl ps _ n h]
 cases yZi (toS ps) n<;>rfl
theorem vXv {ps:List Pc}(h:(ps.map Pc.nm).Nodup){f:Fm}(hf:f.ok=true):fsz ps (fun _=>0) f=((yXr (toS ps) f).size,(yXr (toS ps) f).deep) :=
 xKw ps f (toS ps) _ hf (fun n _=>HSz0 h n)
theorem zJm (u:Nat):∀ c∈Lib.decDigits u,yWg c=true:=by
 induction u using Nat.strongRecOn with
 | _ u ih =>
  rw[Lib.decDigits]
  by_cases h:u<10
  ·rw[dif_pos h]
   intro c hc
   rw[List.mem_singleton] at hc
   subst hc
   simp only[yWg,inB,UInt8.toNat_ofNat',bAt,dTe]
   omega
  ·rw[dif_neg h]
   intro c hc
   rcases List.mem_append.1 hc with hc | hc
   ·exact ih _ (by omega) c hc
   ·rw[List.mem_singleton] at hc
    subst hc
    simp only[yWg,inB,UInt8.toNat_ofNat',bAt,dTe]
    omega
theorem yYx:∀ (k u:Nat),u<10 ^ (k+1)→Lib.nDigits u≤k+1
 | 0,u,h=>by rw[Lib.nDigits_small (by simpa using h)]; omega
 | k+1,u,h=>by
  by_cases hu:u<10
  ·rw[Lib.nDigits_small hu]; omega
  ·rw[Lib.nDigits_big hu]
   have:=yYx k (u / 10) (by rw[Nat.pow_succ] at h; omega)
   omega
theorem wXo {k:Nat}(h:k<1000000000000000):yWc (yK0 k)=true:=by
 have hl:(Lib.decDigits k).length<16:=by
  rw[Lib.decDigits_length]
  have:=yYx 14 k (by simpa using h)
  omega
 have hd:∀ (w:ByteArray),(∀ c l,w.data.toList=c::l→c≠120)→w.data.toList≠[]→decide (yK0 k=w)=false:=fun w hw hne=>by
  refine dEf fun he=>?_
  subst he
  exact hw 120 (Lib.decDigits k) (by simp[yK0]) rfl
 have hr:yK6 (yK0 k)=false:=by
  unfold yK6
  rw[hd wAll (by intro c l h; cases h; decide) (by decide),hd wXp (by intro c l h; cases h; decide) (by decide),hd xJ9 (by intro c l h; cases h; decide) (by decide),
   hd wXq (by intro c l h; cases h; decide) (by decide),hd zWa (by intro c l h; cases h; decide) (by decide),hd xJ3 (by intro c l h; cases h; decide) (by decide)]
  rfl
 unfold yWc yV5
 rw[show (yK0 k).data.toList=120::Lib.decDigits k by simp[yK0]]
 simp only[hr,bAt,dTe,List.all_eq_true]
 exact⟨⟨⟨hl,rfl⟩,by decide⟩,zJm k⟩
theorem zU6 {l:List ByteArray}(h:l.length<900000000000000):yWc (yJk l)=true:=wXo (by have:=(yV7 l).2.1; omega)
mutual
theorem wJs (F:ByteArray→Option Tm)(hF:∀ n u,F n=some u→u.ok=true):∀ t:Tm,t.ok=true→(yKt F t).ok=true
 | .mk true n l,h=>by
  obtain rfl:=zXr h
  simp only[yKt]
  cases hn:F n with
  | none=>exact h
  | some u=>exact hF n u hn
 | .mk false n l,h=>by
  have:=zJ0 F hF l (zXs h)
  simp only[yKt,Tm.ok,yZ6,this,Bool.and_true] at h ⊢
  simp only[bAt] at h ⊢
  exact h.1
theorem zJ0 (F:ByteArray→Option Tm)(hF:∀ n u,F n=some u→u.ok=true):∀ l:List Tm,yKr l=true→yKr (yX4 F l)=true
 | [],_=>rfl
 | a::l,h=>by
  simp only[yX4,yKr,wJs F hF a (yZy h).1,zJ0 F hF l (yZy h).2,Bool.and_self]
end
mutual
theorem zVh:∀ t:Tm,(yQs t).length≤t.size
 | .mk true n l=>by have:=yWe l; simp only[yQs,List.length_cons,Tm.size]; omega
 | .mk false n l=>by have:=yWe l; simp only[yQs,Tm.size]; omega
theorem yWe:∀ l:List Tm,(yQj l).length≤yQe l
 | []=>Nat.le_refl _
 | a::l=>by have:=zVh a; have:=yWe l; simp only[yQj,lLa,yQe]; omega
end
mutual
theorem zUn:∀ f:Fm,(frF f).length≤f.size
 | .mk op m us sub=>by
  have h1:=yWe us
  have h2:=zYh sub
  simp only[frF,lLa,Fm.size]
  split
  ·have:=List.length_filter_le (fun n=>!decide (n=m)) (frFs sub); omega
  ·omega
theorem zYh:∀ l:List Fm,(frFs l).length≤yQ7 l
 | []=>Nat.le_refl _
 | a::l=>by have:=zUn a; have:=zYh l; simp only[frFs,lLa,yQ7]; omega
end
def wS:Sb→Nat
 | []=>0
 | p::l=>p.2.size+wS l
theorem zG0:∀ l m:Sb,wS (l++m)=wS l+wS m
 | [],m=>by simp[wS]
 | a::l,m=>by simp only[List.cons_append,wS,zG0 l m]; omega
theorem yWt (q:ByteArray×Tm→Bool):∀ l:Sb,wS (l.filter q)≤wS l
 | []=>Nat.le_refl _
 | a::l=>by
  have:=yWt q l
  rw[List.filter_cons]
  split
  ·simp only[wS]; omega
  ·simp only[wS]; omega
theorem wZ9:∀ l:Sb,(l.flatMap fun p=>yQs p.2).length≤wS l
 | []=>Nat.le_refl _
 | a::l=>by
  have:=wZ9 l
  have:=zVh a.2
  simp only[List.flatMap_cons,lLa,wS]; omega
theorem zWe (ps:Sb)(m:ByteArray)(fr:List ByteArray):(yVv ps m fr).length≤fr.length+wS ps:=by
 have:=wZ9 (cntS ps m fr)
 have:=yWt (fun p=>memB fr p.1&&!decide (p.1=m)) ps
 unfold yVv cntS at *
 simp only[lLa]; omega
theorem xJ7 (ps:Sb)(m:ByteArray)(fr:List ByteArray):wS (yJ4 ps m fr).2≤wS ps+1:=by
 have:=yWt (fun p=>memB fr p.1&&!decide (p.1=m)) ps
 unfold yJ4 cntS
 split
 ·simp only[zG0,wS,Tm.size,yQe]; omega
 ·simp only; omega
def okS (ps:Sb):Prop:=∀ p∈ps,p.2.ok=true
theorem xUe {ps:Sb}{m:ByteArray}{fr:List ByteArray}(h:okS ps)(hb:fr.length+wS ps<900000000000000):okS (yJ4 ps m fr).2:=by
 have hc:okS (cntS ps m fr):=fun p hp=>h p ((List.mem_filter.1 hp).1)
 unfold yJ4
 split
 ·intro p hp
  rcases List.mem_append.1 hp with hp | hp
  ·exact hc p hp
  ·rw[List.mem_singleton] at hp
   subst hp
   have:=zU6 (l:=yVv ps m fr) (by have:=zWe ps m fr; omega)
   simp[Tm.ok,this]
 ·exact hc
mutual
theorem xKz:∀ (f:Fm)(ps:Sb),f.ok=true→okS ps→f.size+wS ps<900000000000000→(yXr ps f).ok=true
 | .mk op m us sub,ps,hok,hp,hb=>by
  obtain⟨h1,h2,h3⟩:=yY5 hok
  have hF:∀ n u,yZi ps n=some u→u.ok=true:=fun n u h=>hp _ (yY8 h)
  have hfl:=zYh sub
  simp only[Fm.size] at hb
  simp only[yXr,Fm.ok,yZ6,yJ1,zJ0 _ hF us h1,Bool.and_true]
  by_cases hq:isQ op=true
  ·simp only[hq,if_true]
   have hw:=xJ7 ps m (frFs sub)
   rw[zJe sub _ h2 (xUe hp (by omega)) (by omega),Bool.and_true]
   have ho:op=8∨op=9:=by simpa[isQ] using hq
   have hrow:∀ x,yJo op x us.length sub.length=(yWc x&&decide (us.length=0)&&decide (sub.length=1)):=fun x=>by rcases ho with rfl | rfl<;>rfl
   rw[hrow] at h3 ⊢
   simp only[bAt] at h3 ⊢
   refine⟨⟨?_,h3.1.2⟩,h3.2⟩
   unfold yJ4
   split
   ·exact zU6 (by have:=zWe ps m (frFs sub); omega)
   ·exact h3.1.1
  ·simp only[hq,bFt,if_false]
   rw[zJe sub ps h2 hp (by omega),Bool.and_true]
   exact h3
theorem zJe:∀ (l:List Fm)(ps:Sb),yJy l=true→okS ps→yQ7 l+wS ps<900000000000000→yJy (yJ7 ps l)=true
 | [],_,_,_,_=>rfl
 | a::l,ps,hok,hp,hb=>by
  simp only[yQ7] at hb
  simp only[yJ7,yJy,xKz a ps (yZz hok).1 hp (by omega),zJe l ps (yZz hok).2 hp (by omega),Bool.and_self]
end
end Go.Proofs.Tryz
namespace Go.Proofs.Tryz
open Go Go.Iv
noncomputable def zW4 (f g:Fm):Bool:=f.right&&g.right&&eqB (dbF [] f) (dbF [] g)
theorem xKb {e:List ByteArray}{n:ByteArray}{l:Nat}(h:e.length≤l):yJa e n≠.bv l:=by
 unfold yJa
 split
 ·rename_i i hi
  have:=xKd hi
  intro he; injection he; omega
 ·intro he; cases he
theorem xWn {ls rs:List ByteArray}{l r n n':ByteArray}(hlen:ls.length=rs.length):yJa (l::ls) n=yJa (r::rs) n'↔(if n=l∨n'=r then n=l∧n'=r else yJa ls n=yJa rs n'):=by
 rw[yXz,yXz]
 by_cases h1:n=l
 ·by_cases h2:n'=r
  ·simp[h1,h2,hlen]
  ·simp only[h1,h2,if_true,true_or,and_false,iff_false,if_false]
   exact fun h=>xKb (Nat.le_of_eq hlen.symm) h.symm
 ·by_cases h2:n'=r
  ·simp only[h1,h2,if_true,or_true,false_and,iff_false,if_false]
   exact fun h=>xKb (Nat.le_of_eq hlen) h
  ·simp[h1,h2]
theorem xKc {e:List ByteArray}{n m:ByteArray}{l:List NlT}:yJa e n≠.ap m l:=by
 unfold yJa; split<;>intro h<;>cases h
theorem xUt {n:ByteArray}:yJa [] n=.fv n:=rfl
abbrev Ar:=List (ByteArray×ByteArray)
def renF (ar:Ar)(n:ByteArray):Option Tm:=(ar.find? fun p=>decide (p.1=n)).map fun p=>.mk true p.2 []
mutual
noncomputable def xZo (free:List ByteArray):Ar→Fm→Fm
 | ar,.mk op m us sub=>.mk op (if isQ op then yJk (free++ar.map (·.2)) else m) (yX4 (renF ar) us) (yV4 free (if isQ op then (m,yJk (free++ar.map (·.2)))::ar else ar) sub)
noncomputable def yV4 (free:List ByteArray):Ar→List Fm→List Fm
 | _,[]=>[]
 | ar,a::l=>xZo free ar a::yV4 free ar l
end
theorem yKs (free:List ByteArray)(ar:Ar):∀ l m:List Fm,yV4 free ar (l++m)=yV4 free ar l++yV4 free ar m
 | [],m=>by simp[yV4]
 | a::l,m=>by simp only[List.cons_append,yV4,yKs free ar l m]
theorem yXg (free:List ByteArray)(ar:Ar):∀ l:List Fm,(yV4 free ar l).length=l.length
 | []=>rfl
 | a::l=>by simp only[yV4,List.length_cons,yXg free ar l]
noncomputable def zZ9 (f:Fm):Fm:=xZo (frF f) [] f
theorem wJh {ar:Ar}{n:ByteArray}{u:Tm}(h:renF ar n=some u):u.size=1∧u.deep=1:=by
 unfold renF at h
 rw[Option.map_eq_some_iff] at h
 obtain⟨p,_,rfl⟩:=h
 exact⟨rfl,rfl⟩
theorem yJn {f:Fm}(h:f.right=true):f.ok=true∧f.size≤400∧f.deep≤40:=by
 simp only[Fm.right,bAt,dTe] at h; exact⟨h.1.1,h.1.2,h.2⟩
theorem wJe {f:Fm}(h1:f.ok=true)(h2:f.size≤400)(h3:f.deep≤40):f.right=true:=by
 simp only[Fm.right,bAt,dTe]; exact⟨⟨h1,h2⟩,h3⟩
end Go.Proofs.Tryz
