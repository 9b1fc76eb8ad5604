/- Putting, renaming, normal forms: plain d -/
import Derived.Test.YtabhgbojkjcfjaaGreatDoorJT
import Derived.Lib.ItoaNum
set_option linter.all false
namespace Go.Proofs.Tryz
open Go Go.Iv
def yK1 (k:Nat):ByteArray:=⟨(120::Lib.decDigits k).toArray⟩
def valD (l:List UInt8):Nat:=l.foldl (λa d=>a*10+(d.toNat-48)) 0
theorem xJe (u:Nat):valD (Lib.decDigits u)=u:=by
 induction u using Nat.strongRecOn with
 | _ u ih =>
  rw[Lib.decDigits];by_cases h:u<10
  ·rw[dif_pos h];simp only[valD,List.foldl_cons,List.foldl_nil,UInt8.toNat_ofNat'];omega
  ·rw[dif_neg h];have:=ih (u / 10) (by omega);simp only[valD,List.foldl_append,List.foldl_cons,List.foldl_nil,UInt8.toNat_ofNat'] at this ⊢;rw[this];omega
theorem xYv {a b:Nat}(h:yK1 a=yK1 b):a=b:=by
 have h1:(120::Lib.decDigits a)=(120::Lib.decDigits b):=by
  have:=congrArg (λx:ByteArray=>x.data.toList) h;simpa[yK1] using this
 have h2:Lib.decDigits a=Lib.decDigits b:=by injection h1
 rw[<- xJe a,h2,xJe b]
theorem xK9 {α:Type} [DecidableEq α]:∀(a b:List α),a.Nodup->(∀x∈a,x∈b)->a.length<=b.length
 | [],b,_,_=>Nat.zero_le _
 | x::a,b,hn,hs=>by
  have hx:=hs x (List.mem_cons_self ..);have hn':=List.nodup_cons.1 hn;have:=xK9 a (b.erase x) hn'.2 (λy hy=>(List.mem_erase_of_ne (by rintro rfl;exact hn'.1 hy)).2 (hs y (List.mem_cons_of_mem _ hy)));rw[List.length_erase_of_mem hx] at this;have hb:0<b.length:=List.length_pos_of_mem hx;simp only[List.length_cons];omega
theorem wK9 (l:List ByteArray):∃k,1<=k/\k<=l.length+1/\yK1 k ∉ l:=by
 refine Classical.byContradiction λhne=>?_;have hall:∀k,1<=k->k<=l.length+1->yK1 k∈l:=λk h1 h2=>Classical.byContradiction λh=>hne ⟨k,h1,h2,h⟩;have:=xK9 ((List.range' 1 (l.length+1)).map yK1) l (by
   unfold List.Nodup;rw[List.pairwise_map];exact List.Pairwise.imp (λh he=>h (xYv he)) (List.nodup_range' (s:=1) (n:=l.length+1))) (λx hx=>by
   obtain⟨k,hk,rfl⟩:=List.mem_map.1 hx;have:=List.mem_range'_1.1 hk;exact hall k (by omega) (by omega))
 simp at this;omega
noncomputable def yWr (l:List ByteArray):Nat:=Iv.least (λk=>1<=k/\yK1 k ∉ l)
theorem yV9 (l:List ByteArray):1<=yWr l/\yWr l<=l.length+1/\yK1 (yWr l) ∉ l/\∀j,1<=j->j<yWr l->yK1 j∈l:=by
 obtain⟨k,h1,h2,h3⟩:=wK9 l;have hs:=Iv.least_spec (p:=λk=>1<=k/\yK1 k ∉ l) ⟨k,h1,h3⟩;refine⟨hs.1.1,Nat.le_trans (hs.2 k ⟨h1,h3⟩) h2,hs.1.2,λj hj hlt=>Classical.byContradiction λhn=>?_⟩;have:=hs.2 j ⟨hj,hn⟩;unfold yWr at hlt;omega
theorem wQa {l:List ByteArray}{k:Nat}(h1:1<=k)(h2:yK1 k ∉ l)(h3:∀j,1<=j->j<k->yK1 j∈l):yWr l=k:=by
 obtain⟨a1,a2,a3,a4⟩:=yV9 l;rcases Nat.lt_trichotomy (yWr l) k with h|h|h
 ·exact absurd (h3 _ a1 h) a3
 ·exact h
 ·exact absurd (a4 k h1 h) h2
theorem zU9 {l m:List ByteArray}(h:∀x,x∈l↔x∈m):yWr l=yWr m:=by
 obtain⟨a1,a2,a3,a4⟩:=yV9 m;exact wQa a1 (λhx=>a3 ((h _).1 hx)) (λj hj hlt=>(h _).2 (a4 j hj hlt))
noncomputable def yJk (l:List ByteArray):ByteArray:=yK1 (yWr l)
theorem xWy (l:List ByteArray):yJk l ∉ l:=(yV9 l).2.2.1
theorem zU8 {l m:List ByteArray}(h:∀x,x∈l↔x∈m):yJk l=yJk m:=by unfold yJk;rw[zU9 h]
def memB (l:List ByteArray)(n:ByteArray):Bool:=l.any λx=>decide (x=n)
@[simp] theorem yZo {l:List ByteArray}{n:ByteArray}:memB l n=true↔n∈l:=by
 simp[memB]
@[simp] theorem zZo {l:List ByteArray}{n:ByteArray}:memB l n=false↔n ∉ l:=by
 rw[<- Bool.not_eq_true,yZo]
mutual
def frF:Fm->List ByteArray
 | .mk op m us sub=>yQg us++(if isQ op then (frFs sub).filter (λn=>!decide (n=m)) else frFs sub)
def frFs:List Fm->List ByteArray
 | []=>[]
 | a::l=>frF a++frFs l
end
theorem xY6 (b:ByteArray->Nat)(m:ByteArray)(l:List ByteArray):yKi (incB b m) l=yKi b (l.filter (λn=>!decide (n=m))):=by
 unfold yKi;rw[List.filter_filter];refine List.filter_congr λn _=>?_;unfold incB;by_cases h:n=m<;>simp[h]
mutual
theorem zUn:∀(f:Fm)(b:ByteArray->Nat),yUs b f=yKi b (frF f)
 | .mk op m us sub,b=>by
  simp only[yUs,frF,yXf];rw[zVv sub];split
  ·rw[xY6]
  ·rfl
theorem zVv:∀(l:List Fm)(b:ByteArray->Nat),yZx b l=yKi b (frFs l)
 | [],b=>by simp[yZx,frFs,yKi]
 | a::l,b=>by simp only[yZx,frFs,yXf,zUn a b,zVv l b]
end
theorem zZx (f:Fm):xXd f=frF f:=by
 unfold xXd;rw[zUn];unfold yKi;rw[List.filter_eq_self];intro a _;rfl
abbrev Sb:=List (ByteArray×Tm)
def yZh (l:Sb)(n:ByteArray):Option Tm:=(l.find? λp=>decide (p.1=n)).map (·.2)
def cntS (ps:Sb)(m:ByteArray)(fr:List ByteArray):Sb:=ps.filter λp=>memB fr p.1&&!decide (p.1=m)
def zJx (ps:Sb)(m:ByteArray)(fr:List ByteArray):Bool:=(cntS ps m fr).any λp=>memB (yQr p.2) m
def yVy (ps:Sb)(m:ByteArray)(fr:List ByteArray):List ByteArray:=fr++(cntS ps m fr).flatMap λp=>yQr p.2
noncomputable def yJ4 (ps:Sb)(m:ByteArray)(fr:List ByteArray):ByteArray×Sb :=
 if zJx ps m fr then (yJk (yVy ps m fr),cntS ps m fr++[(m,.mk true (yJk (yVy ps m fr)) [])]) else (m,cntS ps m fr)
mutual
noncomputable def yXr:Sb->Fm->Fm
 | ps,.mk op m us sub=>.mk op (if isQ op then (yJ4 ps m (frFs sub)).1 else m) (yX4 (yZh ps) us) (yJ7 (if isQ op then (yJ4 ps m (frFs sub)).2 else ps) sub)
noncomputable def yJ7:Sb->List Fm->List Fm
 | _,[]=>[]
 | ps,a::l=>yXr ps a::yJ7 ps l
end
theorem yWm (ps:Sb):∀l m:List Fm,yJ7 ps (l++m)=yJ7 ps l++yJ7 ps m
 | [],m=>by simp[yJ7]
 | a::l,m=>by simp only[List.cons_append,yJ7,yWm ps l m]
theorem yJ1 (ps:Sb):∀l:List Fm,(yJ7 ps l).length=l.length
 | []=>rfl
 | a::l=>by simp only[yJ7,List.length_cons,yJ1 ps l]
inductive NlT where
 | bv (i:Nat)
 | fv (n:ByteArray)
 | ap (n:ByteArray) (l:List NlT)
inductive NlF where
 | mk (op:Nat) (n:ByteArray) (us:List NlT) (sub:List NlF)
def yGf:List ByteArray->ByteArray->Option Nat
 | [],_=>none
 | m::e,n=>if n=m then some e.length else yGf e n
def yJa (env:List ByteArray)(n:ByteArray):NlT:=match yGf env n with|some i=>.bv i|none=>.fv n
mutual
def db (env:List ByteArray):Tm->NlT
 | .mk true n _=>yJa env n
 | .mk false n l=>.ap n (dbs env l)
def dbs (env:List ByteArray):List Tm->List NlT
 | []=>[]
 | a::l=>db env a::dbs env l
end
mutual
def dbF:List ByteArray->Fm->NlF
 | env,.mk op m us sub=>.mk op (if isQ op then ⟨#[]⟩ else m) (dbs env us) (dbFs (if isQ op then m::env else env) sub)
def dbFs:List ByteArray->List Fm->List NlF
 | _,[]=>[]
 | env,a::l=>dbF env a::dbFs env l
end
mutual
def dsub (σ:ByteArray->NlT):NlT->NlT
 | .bv i=>.bv i
 | .fv n=>σ n
 | .ap n l=>.ap n (zKp σ l)
def zKp (σ:ByteArray->NlT):List NlT->List NlT
 | []=>[]
 | a::l=>dsub σ a::zKp σ l
end
mutual
def zJn (σ:ByteArray->NlT):NlF->NlF
 | .mk op n us sub=>.mk op n (zKp σ us) (yUw σ sub)
def yUw (σ:ByteArray->NlT):List NlF->List NlF
 | []=>[]
 | a::l=>zJn σ a::yUw σ l
end
mutual
def frT:NlT->List ByteArray
 | .bv _=>[]
 | .fv n=>[n]
 | .ap _ l=>frTs l
def frTs:List NlT->List ByteArray
 | []=>[]
 | a::l=>frT a++frTs l
end
mutual
def frD:NlF->List ByteArray
 | .mk _ _ us sub=>frTs us++frDs sub
def frDs:List NlF->List ByteArray
 | []=>[]
 | a::l=>frD a++frDs l
end
theorem xKf:∀ {e:List ByteArray}{n:ByteArray}{i:Nat},yGf e n=some i->i<e.length
 | [],n,i,h=>by cases h
 | m::e,n,i,h=>by
  simp only[yGf] at h;split at h
  ·cases h;simp
  ·have:=xKf h;simp only[List.length_cons];omega
theorem zQg:∀ {e:List ByteArray}{n:ByteArray},yGf e n=none↔n ∉ e
 | [],n=>by simp[yGf]
 | m::e,n=>by
  simp only[yGf,List.mem_cons,not_or];by_cases h:n=m
  ·simp[h]
  ·simp[h,zQg (e:=e)]
theorem yXz {e:List ByteArray}{m n:ByteArray}:yJa (m::e) n=if n=m then .bv e.length else yJa e n:=by
 unfold yJa;simp only[yGf];by_cases h:n=m<;>simp[h]
theorem zXu {n:ByteArray}{l:List Tm}(h:(Tm.mk true n l).ok=true):l=[]:=by
 simp only[Tm.ok,bAt,List.isEmpty_iff] at h;exact h.1
theorem zXv {n:ByteArray}{l:List Tm}(h:(Tm.mk false n l).ok=true):yKt l=true:=by
 simp only[Tm.ok,bAt] at h;exact h.2
theorem yZy {a:Tm}{l:List Tm}(h:yKt (a::l)=true):a.ok=true/\yKt l=true:=by
 simpa only[yKt,bAt] using h
theorem yZz {a:Fm}{l:List Fm}(h:yJz (a::l)=true):a.ok=true/\yJz l=true:=by
 simpa only[yJz,bAt] using h
theorem yY8 {op:Nat}{m:ByteArray}{us:List Tm}{sub:List Fm}(h:(Fm.mk op m us sub).ok=true):yKt us=true/\yJz sub=true/\yJp op m us.length sub.length=true:=by
 simp only[Fm.ok,bAt] at h;exact⟨h.1.2,h.2,h.1.1⟩
mutual
theorem vXy (env:List ByteArray):∀t:Tm,t.ok=true->frT (db env t)=(yQr t).filter (λn=>!memB env n)
 | .mk true n l,h=>by
  obtain rfl:=zXu h;simp only[db,yQr,yQg];unfold yJa;cases hl:yGf env n with
  | none=>simp[frT,zQg.1 hl]
  | some i =>
   have:n∈env:=Classical.byContradiction λhn=>by rw[zQg.2 hn] at hl;cases hl
   simp[frT,this]
 | .mk false n l,h=>by
  simp only[db,yQr,frT];exact zYj env l (zXv h)
theorem zYj (env:List ByteArray):∀l:List Tm,yKt l=true->frTs (dbs env l)=(yQg l).filter (λn=>!memB env n)
 | [],_=>rfl
 | a::l,h=>by
  simp only[dbs,frTs,yQg,List.filter_append,vXy env a (yZy h).1,zYj env l (yZy h).2]
end
mutual
theorem wZ2:∀(f:Fm)(env:List ByteArray),f.ok=true->frD (dbF env f)=(frF f).filter (λn=>!memB env n)
 | .mk op m us sub,env,h=>by
  obtain⟨h1,h2,_⟩:=yY8 h;simp only[dbF,frD,frF,List.filter_append,zYj env us h1,zUp sub _ h2];congr 1;split
  ·rw[List.filter_filter];refine List.filter_congr λn _=>?_;by_cases hn:n=m
   ·simp[hn,memB]
   ·simp[hn,memB,Ne.symm hn]
  ·rfl
theorem zUp:∀(l:List Fm)(env:List ByteArray),yJz l=true->frDs (dbFs env l)=(frFs l).filter (λn=>!memB env n)
 | [],_,_=>rfl
 | a::l,env,h=>by
  simp only[dbFs,frDs,frFs,List.filter_append,wZ2 a env (yZz h).1,zUp l env (yZz h).2]
end
theorem zYl {f:Fm}(h:f.ok=true):frD (dbF [] f)=frF f:=by
 rw[wZ2 f [] h,List.filter_eq_self];intro a _;simp
mutual
theorem zJq (env:List ByteArray)(m:ByteArray):∀t:Tm,m ∉ yQr t->db (m::env) t=db env t
 | .mk true n l,h=>by
  simp only[yQr,List.mem_cons,not_or] at h;simp only[db,yXz];rw[if_neg (λhe=>h.1 he.symm)]
 | .mk false n l,h=>by
  simp only[db,xVc env m l (by simpa[yQr] using h)]
theorem xVc (env:List ByteArray)(m:ByteArray):∀l:List Tm,m ∉ yQg l->dbs (m::env) l=dbs env l
 | [],_=>rfl
 | a::l,h=>by
  simp only[yQg,List.mem_append,not_or] at h;simp only[dbs,zJq env m a h.1,xVc env m l h.2]
end
mutual
theorem vK0 (env env':List ByteArray)(σ:ByteArray->NlT)(F:ByteArray->Option Tm):∀t:Tm,t.ok=true->(∀n∈yQr t,db env' ((F n).getD (.mk true n []))=dsub σ (yJa env n))->db env' (yKv F t)=dsub σ (db env t)
 | .mk true n l,h,hn=>by
  obtain rfl:=zXu h;have h1:=hn n (by simp[yQr]);simp only[yKv,db];rw[<- h1];cases F n with
  | none=>rfl
  | some u=>rfl
 | .mk false n l,h,hn=>by
  simp only[yKv,db,dsub,xXj env env' σ F l (zXv h) (λn hm=>hn n (by simpa[yQr] using hm))]
theorem xXj (env env':List ByteArray)(σ:ByteArray->NlT)(F:ByteArray->Option Tm):∀l:List Tm,yKt l=true->(∀n∈yQg l,db env' ((F n).getD (.mk true n []))=dsub σ (yJa env n))->dbs env' (yX4 F l)=zKp σ (dbs env l)
 | [],_,_=>rfl
 | a::l,h,hn=>by
  simp only[yX4,dbs,zKp,vK0 env env' σ F a (yZy h).1 (λn hm=>hn n (by simp[yQg,hm])),xXj env env' σ F l (yZy h).2 (λn hm=>hn n (by simp[yQg,hm]))]
end
theorem zZf {ps:Sb}{q:ByteArray×Tm->Bool}{n:ByteArray}(h:∀u,q (n,u)=true):yZh (ps.filter q) n=yZh ps n:=by
 unfold yZh;rw[List.find?_filter];congr 2;funext p;by_cases hp:p.1=n
 ·obtain⟨a,u⟩:=p;simp only at hp;subst hp;simp[h u]
 ·simp[hp]
theorem zZg {ps:Sb}{q:ByteArray×Tm->Bool}{n:ByteArray}(h:∀u,q (n,u)=false):yZh (ps.filter q) n=none:=by
 unfold yZh;rw[List.find?_filter,Option.map_eq_none_iff,List.find?_eq_none];intro p _;by_cases hp:p.1=n
 ·obtain⟨a,u⟩:=p;simp only at hp;subst hp;simp[h u]
 ·simp[hp]
theorem yYc (ps qs:Sb)(n:ByteArray):yZh (ps++qs) n=(yZh ps n).or (yZh qs n):=by
 unfold yZh;rw[List.find?_append];cases ps.find? _<;>rfl
theorem yW2 {ps:Sb}{m n:ByteArray}{fr:List ByteArray}(hn:n∈fr)(hm:n≠m):yZh (cntS ps m fr) n=yZh ps n :=
 zZf λu=>by simp[hn,hm]
theorem yKb {ps:Sb}{m:ByteArray}{fr:List ByteArray}:yZh (cntS ps m fr) m=none :=
 zZg λu=>by simp
theorem yYb {ps:Sb}{n:ByteArray}{u:Tm}(h:yZh ps n=some u):(n,u)∈ps:=by
 unfold yZh at h;rw[Option.map_eq_some_iff] at h;obtain⟨⟨a,v⟩,h1,h2⟩:=h;have h3:=List.find?_some h1;simp only[dTe] at h3;simp only at h2;subst h3 h2;exact List.mem_of_find?_eq_some h1
theorem wXz {ps:Sb}{m:ByteArray}{fr:List ByteArray}{env env':List ByteArray}{σ:ByteArray->NlT}(hl:env.length=env'.length)
  (h:∀n∈fr,n≠m->db env' ((yZh ps n).getD (.mk true n []))=dsub σ (yJa env n)) {n:ByteArray} (hn:n∈fr) :
  db ((yJ4 ps m fr).1::env') ((yZh (yJ4 ps m fr).2 n).getD (.mk true n []))=dsub σ (yJa (m::env) n):=by
 unfold yJ4;by_cases hc:zJx ps m fr=true
 ·rw[if_pos hc];have hf:=xWy (yVy ps m fr);simp only[yVy,List.mem_append,not_or] at hf;have hff:=hf.1;have hft:=hf.2;generalize hm':yJk (yVy ps m fr)=m' at hf hff hft;have hm2:yJk (fr++List.flatMap (λp=>yQr p.2) (cntS ps m fr))=m':=hm';simp only[hm2] at hff hft;simp only;rw[yYc];by_cases hnm:n=m
  ·subst hnm;rw[yKb,yXz,if_pos rfl];simp[yZh,db,yXz,dsub,hl]
  ·rw[yW2 hn hnm,yXz,if_neg hnm,<- h n hn hnm];cases hs:yZh ps n with
   | some u =>
    simp only[Option.some_or,Option.getD_some];refine zJq _ _ _ λhmu=>hft (List.mem_flatMap.2 ⟨(n,u),?_,hmu⟩);exact yYb (by rw[yW2 hn hnm];exact hs)
   | none =>
    have:yZh [(m,Tm.mk true m' [])] n=none:=by simp[yZh,Ne.symm hnm]
    rw[this];simp only[Option.none_or,Option.getD_none];refine zJq _ _ _ ?_;simp only[yQr,yQg,List.mem_singleton];rintro rfl;exact hff hn
 ·rw[if_neg hc];simp only;by_cases hnm:n=m
  ·subst hnm;rw[yKb,yXz,if_pos rfl];simp[db,yXz,dsub,hl]
  ·rw[yW2 hn hnm,yXz,if_neg hnm,<- h n hn hnm];cases hs:yZh ps n with
   | some u =>
    simp only[Option.getD_some];refine zJq _ _ _ λhmu=>hc ?_;unfold zJx;rw[List.any_eq_true];exact⟨(n,u),yYb (by rw[yW2 hn hnm];exact hs),by simpa using hmu⟩
   | none =>
    simp only[Option.getD_none];refine zJq _ _ _ ?_;simp only[yQr,yQg,List.mem_singleton];exact λhe=>hnm he.symm
mutual
theorem xVd:∀(f:Fm)(ps:Sb)(env env':List ByteArray)(σ:ByteArray->NlT),env.length=env'.length->f.ok=true->(∀n∈frF f,db env' ((yZh ps n).getD (.mk true n []))=dsub σ (yJa env n)) →
  dbF env' (yXr ps f)=zJn σ (dbF env f)
 | .mk op m us sub,ps,env,env',σ,hl,hok,h=>by
  obtain⟨h1,h2,_⟩:=yY8 hok;simp only[frF] at h;simp only[yXr,dbF,zJn];rw[xXj env env' σ (yZh ps) us h1 (λn hn=>h n (by simp[hn]))];by_cases hq:isQ op=true
  ·simp only[hq,if_true] at h ⊢;rw[zJs sub _ (m::env) ((yJ4 ps m (frFs sub)).1::env') σ (by simp[hl]) h2 (λn hn=>wXz hl (λn' h' hm'=>h n' (by simp[h',hm'])) hn)]
  ·simp only[hq,bFt,if_false] at h ⊢;rw[zJs sub ps env env' σ hl h2 (λn hn=>h n (by simp[hn]))]
theorem zJs:∀(l:List Fm)(ps:Sb)(env env':List ByteArray)(σ:ByteArray->NlT),env.length=env'.length->yJz l=true->(∀n∈frFs l,db env' ((yZh ps n).getD (.mk true n []))=dsub σ (yJa env n)) →
  dbFs env' (yJ7 ps l)=yUw σ (dbFs env l)
 | [],_,_,_,_,_,_,_=>rfl
 | a::l,ps,env,env',σ,hl,hok,h=>by
  simp only[frFs] at h;simp only[yJ7,dbFs,yUw,xVd a ps env env' σ hl (yZz hok).1 (λn hn=>h n (by simp[hn])),zJs l ps env env' σ hl (yZz hok).2 (λn hn=>h n (by simp[hn]))]
end
def sgm (ps:Sb)(n:ByteArray):NlT:=db [] ((yZh ps n).getD (.mk true n []))
theorem zUy (f:Fm)(ps:Sb)(h:f.ok=true):dbF [] (yXr ps f)=zJn (sgm ps) (dbF [] f):=xVd f ps [] [] (sgm ps) rfl h (λn _=>rfl)
end Go.Proofs.Tryz
namespace Go.Proofs.Tryz
open Go Go.Iv
theorem xWn {ps:Sb}{m:ByteArray}{fr:List ByteArray}{n:ByteArray}(hn:n∈fr) :
  yZh (yJ4 ps m fr).2 n=if n=m then (if zJx ps m fr then some (.mk true (yJ4 ps m fr).1 []) else none) else yZh ps n:=by
 unfold yJ4;by_cases hnm:n=m
 ·subst hnm;rw[if_pos rfl];split
  ·simp only[yYc,yKb];simp[yZh]
  ·exact yKb
 ·rw[if_neg hnm];split
  ·simp only[yYc,yW2 hn hnm];have:yZh [(m,Tm.mk true (yJk (yVy ps m fr)) [])] n=none:=by simp[yZh,Ne.symm hnm]
   rw[this];simp
  ·exact yW2 hn hnm
section
variable (ps:List Pc)
def HSz (b:ByteArray->Nat)(F:ByteArray->Option Tm)(n:ByteArray):Prop :=
 (if b n=0 then zQj ps n (1,1) else (1,1))=(((F n).getD (.mk true n [])).size,((F n).getD (.mk true n [])).deep)
mutual
theorem wYy (b:ByteArray->Nat)(F:ByteArray->Option Tm):∀t:Tm,t.ok=true->(∀n∈yQr t,HSz ps b F n)->psz ps b t=((yKv F t).size,(yKv F t).deep)
 | .mk true n l,h,hn=>by
  obtain rfl:=zXu h;have h1:=hn n (by simp[yQr]);unfold HSz at h1;simp only[psz,pszs,true_and,yKv];rw[h1];cases F n with
  | none=>rfl
  | some u=>rfl
 | .mk false n l,h,hn=>by
  have:=zY0 b F l (zXv h) (λn hm=>hn n (by simpa[yQr] using hm));simp only[psz,bFt,false_and,if_false,yKv,Tm.size,Tm.deep,this]
theorem zY0 (b:ByteArray->Nat)(F:ByteArray->Option Tm):∀l:List Tm,yKt l=true->(∀n∈yQg l,HSz ps b F n)->pszs ps b l=(yQd (yX4 F l),yQu (yX4 F l))
 | [],_,_=>rfl
 | a::l,h,hn=>by
  simp only[pszs,yX4,yQd,yQu,wYy b F a (yZy h).1 (λn hm=>hn n (by simp[yQg,hm])),zY0 b F l (yZy h).2 (λn hm=>hn n (by simp[yQg,hm]))]
end
theorem wXn {b:ByteArray->Nat}{qs:Sb}{m:ByteArray}{fr:List ByteArray}{n:ByteArray}(hn:n∈fr)(h:n≠m->HSz ps b (yZh qs) n):HSz ps (incB b m) (yZh (yJ4 qs m fr).2) n:=by
 unfold HSz at h ⊢;rw[xWn hn];by_cases hnm:n=m
 ·subst hnm;simp only[incB,if_true];rw[if_neg (by omega)];split<;>rfl
 ·simp only[incB,if_neg hnm];exact h hnm
mutual
theorem xKy:∀(f:Fm)(qs:Sb)(b:ByteArray->Nat),f.ok=true->(∀n∈frF f,HSz ps b (yZh qs) n)->fsz ps b f=((yXr qs f).size,(yXr qs f).deep)
 | .mk op m us sub,qs,b,hok,h=>by
  obtain⟨h1,h2,_⟩:=yY8 hok;simp only[frF] at h;simp only[fsz,yXr,Fm.size,Fm.deep,zY0 ps b (yZh qs) us h1 (λn hn=>h n (by simp[hn]))];by_cases hq:isQ op=true
  ·simp only[hq,if_true] at h ⊢;rw[zJe sub _ _ h2 (λn hn=>wXn ps hn (λhm=>h n (by simp[hn,hm])))]
  ·simp only[hq,bFt,if_false] at h ⊢;rw[zJe sub qs b h2 (λn hn=>h n (by simp[hn]))]
theorem zJe:∀(l:List Fm)(qs:Sb)(b:ByteArray->Nat),yJz l=true->(∀n∈frFs l,HSz ps b (yZh qs) n)->fszs ps b l=(yQ7 (yJ7 qs l),yZ0 (yJ7 qs l))
 | [],_,_,_,_=>rfl
 | a::l,qs,b,hok,h=>by
  simp only[frFs] at h;simp only[fszs,yJ7,yQ7,yZ0,xKy a qs b (yZz hok).1 (λn hn=>h n (by simp[hn])),zJe l qs b (yZz hok).2 (λn hn=>h n (by simp[hn]))]
end
end
def toS (ps:List Pc):Sb:=ps.map λp=>(p.nm,p.tm)
theorem wJp (ps:List Pc):putF ps=yZh (toS ps):=by
 funext n;unfold putF yZh toS;rw[List.find?_map];simp only[Option.map_map];rfl
theorem zVp:∀(ps:List Pc)(z:Nat×Nat)(n:ByteArray),(ps.map Pc.nm).Nodup->zQj ps n z=match yZh (toS ps) n with|some u=>(u.size,u.deep)|none=>z
 | [],z,n,_=>rfl
 | p::ps,z,n,h=>by
  simp only[List.map_cons,List.nodup_cons] at h;have ih:=zVp ps (if p.nm=n then (p.tm.size,p.tm.deep) else z) n h.2;have h0:zQj (p::ps) n z=zQj ps n (if p.nm=n then (p.tm.size,p.tm.deep) else z):=rfl;rw[h0,ih];have hc:yZh (toS (p::ps)) n=if p.nm=n then some p.tm else yZh (toS ps) n:=by
   unfold yZh toS;rw[List.map_cons,List.find?_cons];by_cases hp:p.nm=n<;>simp[hp]
  rw[hc];by_cases hp:p.nm=n
  ·rw[if_pos hp,if_pos hp];have:yZh (toS ps) n=none:=by
    cases hl:yZh (toS ps) n with
    | none=>rfl
    | some u =>
     have:=yYb hl;unfold toS at this;obtain⟨q,hq,he⟩:=List.mem_map.1 this;cases he;exact absurd (List.mem_map.2 ⟨q,hq,hp.symm⟩) h.1
   rw[this]
  ·rw[if_neg hp,if_neg hp]
theorem HSz0 {ps:List Pc}(h:(ps.map Pc.nm).Nodup)(n:ByteArray):HSz ps (λ_=>0) (yZh (toS ps)) n:=by
 unfold HSz;rw[if_pos rfl,zVp ps _ n h];cases yZh (toS ps) n<;>rfl
theorem vXv {ps:List Pc}(h:(ps.map Pc.nm).Nodup){f:Fm}(hf:f.ok=true):fsz ps (λ_=>0) f=((yXr (toS ps) f).size,(yXr (toS ps) f).deep) :=
 xKy ps f (toS ps) _ hf (λn _=>HSz0 h n)
theorem zJp (u:Nat):∀c∈Lib.decDigits u,yWj c=true:=by
 induction u using Nat.strongRecOn with
 | _ u ih =>
  rw[Lib.decDigits];by_cases h:u<10
  ·rw[dif_pos h];intro c hc;rw[List.mem_singleton] at hc;subst hc;simp only[yWj,inB,UInt8.toNat_ofNat',bAt,dTe];omega
  ·rw[dif_neg h];intro c hc;rcases List.mem_append.1 hc with hc|hc
   ·exact ih _ (by omega) c hc
   ·rw[List.mem_singleton] at hc;subst hc;simp only[yWj,inB,UInt8.toNat_ofNat',bAt,dTe];omega
theorem yG1:∀(k u:Nat),u<10 ^ (k+1)->Lib.nDigits u<=k+1
 | 0,u,h=>by rw[Lib.nDigits_small (by simpa using h)];omega
 | k+1,u,h=>by
  by_cases hu:u<10
  ·rw[Lib.nDigits_small hu];omega
  ·rw[Lib.nDigits_big hu];have:=yG1 k (u / 10) (by rw[Nat.pow_succ] at h;omega);omega
theorem wXr {k:Nat}(h:k<1000000000000000):yWf (yK1 k)=true:=by
 have hl:(Lib.decDigits k).length<16:=by
  rw[Lib.decDigits_length];have:=yG1 14 k (by simpa using h);omega
 have hd:∀(w:ByteArray),(∀c l,w.data.toList=c::l->c≠120)->w.data.toList≠[]->decide (yK1 k=w)=false:=λw hw hne=>by
  refine dEf λhe=>?_;subst he;exact hw 120 (Lib.decDigits k) (by simp[yK1]) rfl
 have hr:yK7 (yK1 k)=false:=by
  unfold yK7;rw[hd wAll (by intro c l h;cases h;decide) (by decide),hd wXs (by intro c l h;cases h;decide) (by decide),hd xJa (by intro c l h;cases h;decide) (by decide),
   hd wXt (by intro c l h;cases h;decide) (by decide),hd zWe (by intro c l h;cases h;decide) (by decide),hd xJ4 (by intro c l h;cases h;decide) (by decide)]
  rfl
 unfold yWf yV7;rw[show (yK1 k).data.toList=120::Lib.decDigits k by simp[yK1]];simp only[hr,bAt,dTe,List.all_eq_true];exact⟨⟨⟨hl,rfl⟩,by decide⟩,zJp k⟩
theorem zU7 {l:List ByteArray}(h:l.length<900000000000000):yWf (yJk l)=true:=wXr (by have:=(yV9 l).2.1;omega)
mutual
theorem wJw (F:ByteArray->Option Tm)(hF:∀n u,F n=some u->u.ok=true):∀t:Tm,t.ok=true->(yKv F t).ok=true
 | .mk true n l,h=>by
  obtain rfl:=zXu h;simp only[yKv];cases hn:F n with
  | none=>exact h
  | some u=>exact hF n u hn
 | .mk false n l,h=>by
  have:=zJ3 F hF l (zXv h);simp only[yKv,Tm.ok,yZ5,this,Bool.and_true] at h ⊢;simp only[bAt] at h ⊢;exact h.1
theorem zJ3 (F:ByteArray->Option Tm)(hF:∀n u,F n=some u->u.ok=true):∀l:List Tm,yKt l=true->yKt (yX4 F l)=true
 | [],_=>rfl
 | a::l,h=>by
  simp only[yX4,yKt,wJw F hF a (yZy h).1,zJ3 F hF l (yZy h).2,Bool.and_self]
end
mutual
theorem zVl:∀t:Tm,(yQr t).length<=t.size
 | .mk true n l=>by have:=yWh l;simp only[yQr,List.length_cons,Tm.size];omega
 | .mk false n l=>by have:=yWh l;simp only[yQr,Tm.size];omega
theorem yWh:∀l:List Tm,(yQg l).length<=yQd l
 | []=>Nat.le_refl _
 | a::l=>by have:=zVl a;have:=yWh l;simp only[yQg,lLa,yQd];omega
end
mutual
theorem zUo:∀f:Fm,(frF f).length<=f.size
 | .mk op m us sub=>by
  have h1:=yWh us;have h2:=zYk sub;simp only[frF,lLa,Fm.size];split
  ·have:=List.length_filter_le (λn=>!decide (n=m)) (frFs sub);omega
  ·omega
theorem zYk:∀l:List Fm,(frFs l).length<=yQ7 l
 | []=>Nat.le_refl _
 | a::l=>by have:=zUo a;have:=zYk l;simp only[frFs,lLa,yQ7];omega
end
def wS:Sb->Nat
 | []=>0
 | p::l=>p.2.size+wS l
theorem zG3:∀l m:Sb,wS (l++m)=wS l+wS m
 | [],m=>by simp[wS]
 | a::l,m=>by simp only[List.cons_append,wS,zG3 l m];omega
theorem yWw (q:ByteArray×Tm->Bool):∀l:Sb,wS (l.filter q)<=wS l
 | []=>Nat.le_refl _
 | a::l=>by
  have:=yWw q l;rw[List.filter_cons];split
  ·simp only[wS];omega
  ·simp only[wS];omega
theorem wZc:∀l:Sb,(l.flatMap λp=>yQr p.2).length<=wS l
 | []=>Nat.le_refl _
 | a::l=>by
  have:=wZc l;have:=zVl a.2;simp only[List.flatMap_cons,lLa,wS];omega
theorem zWi (ps:Sb)(m:ByteArray)(fr:List ByteArray):(yVy ps m fr).length<=fr.length+wS ps:=by
 have:=wZc (cntS ps m fr);have:=yWw (λp=>memB fr p.1&&!decide (p.1=m)) ps;unfold yVy cntS at *;simp only[lLa];omega
theorem xJ8 (ps:Sb)(m:ByteArray)(fr:List ByteArray):wS (yJ4 ps m fr).2<=wS ps+1:=by
 have:=yWw (λp=>memB fr p.1&&!decide (p.1=m)) ps;unfold yJ4 cntS;split
 ·simp only[zG3,wS,Tm.size,yQd];omega
 ·simp only;omega
def okS (ps:Sb):Prop:=∀p∈ps,p.2.ok=true
theorem xUh {ps:Sb}{m:ByteArray}{fr:List ByteArray}(h:okS ps)(hb:fr.length+wS ps<900000000000000):okS (yJ4 ps m fr).2:=by
 have hc:okS (cntS ps m fr):=λp hp=>h p ((List.mem_filter.1 hp).1);unfold yJ4;split
 ·intro p hp;rcases List.mem_append.1 hp with hp|hp
  ·exact hc p hp
  ·rw[List.mem_singleton] at hp;subst hp;have:=zU7 (l:=yVy ps m fr) (by have:=zWi ps m fr;omega);simp[Tm.ok,this]
 ·exact hc
mutual
theorem xV1:∀(f:Fm)(ps:Sb),f.ok=true->okS ps->f.size+wS ps<900000000000000->(yXr ps f).ok=true
 | .mk op m us sub,ps,hok,hp,hb=>by
  obtain⟨h1,h2,h3⟩:=yY8 hok;have hF:∀n u,yZh ps n=some u->u.ok=true:=λn u h=>hp _ (yYb h);have hfl:=zYk sub;simp only[Fm.size] at hb;simp only[yXr,Fm.ok,yZ5,yJ1,zJ3 _ hF us h1,Bool.and_true];by_cases hq:isQ op=true
  ·simp only[hq,if_true];have hw:=xJ8 ps m (frFs sub);rw[zJh sub _ h2 (xUh hp (by omega)) (by omega),Bool.and_true];have ho:op=8\/op=9:=by simpa[isQ] using hq
   have hrow:∀x,yJp op x us.length sub.length=(yWf x&&decide (us.length=0)&&decide (sub.length=1)):=λx=>by rcases ho with rfl|rfl<;>rfl
   rw[hrow] at h3 ⊢;simp only[bAt] at h3 ⊢;refine⟨⟨?_,h3.1.2⟩,h3.2⟩;unfold yJ4;split
   ·exact zU7 (by have:=zWi ps m (frFs sub);omega)
   ·exact h3.1.1
  ·simp only[hq,bFt,if_false];rw[zJh sub ps h2 hp (by omega),Bool.and_true];exact h3
theorem zJh:∀(l:List Fm)(ps:Sb),yJz l=true->okS ps->yQ7 l+wS ps<900000000000000->yJz (yJ7 ps l)=true
 | [],_,_,_,_=>rfl
 | a::l,ps,hok,hp,hb=>by
  simp only[yQ7] at hb;simp only[yJ7,yJz,xV1 a ps (yZz hok).1 hp (by omega),zJh l ps (yZz hok).2 hp (by omega),Bool.and_self]
end
end Go.Proofs.Tryz
namespace Go.Proofs.Tryz
open Go Go.Iv
noncomputable def zW8 (f g:Fm):Bool:=f.right&&g.right&&eqB (dbF [] f) (dbF [] g)
theorem xKd {e:List ByteArray}{n:ByteArray}{l:Nat}(h:e.length<=l):yJa e n≠.bv l:=by
 unfold yJa;split
 ·rename_i i hi;have:=xKf hi;intro he;injection he;omega
 ·intro he;cases he
theorem xWo {ls rs:List ByteArray}{l r n n':ByteArray}(hlen:ls.length=rs.length):yJa (l::ls) n=yJa (r::rs) n'↔(if n=l\/n'=r then n=l/\n'=r else yJa ls n=yJa rs n'):=by
 rw[yXz,yXz];by_cases h1:n=l
 ·by_cases h2:n'=r
  ·simp[h1,h2,hlen]
  ·simp only[h1,h2,if_true,true_or,and_false,iff_false,if_false];exact λh=>xKd (Nat.le_of_eq hlen.symm) h.symm
 ·by_cases h2:n'=r
  ·simp only[h1,h2,if_true,or_true,false_and,iff_false,if_false];exact λh=>xKd (Nat.le_of_eq hlen) h
  ·simp[h1,h2]
theorem xKe {e:List ByteArray}{n m:ByteArray}{l:List NlT}:yJa e n≠.ap m l:=by
 unfold yJa;split<;>intro h<;>cases h
theorem xUw {n:ByteArray}:yJa [] n=.fv n:=rfl
abbrev Ar:=List (ByteArray×ByteArray)
def renF (ar:Ar)(n:ByteArray):Option Tm:=(ar.find? λp=>decide (p.1=n)).map λp=>.mk true p.2 []
mutual
noncomputable def xZq (free:List ByteArray):Ar->Fm->Fm
 | ar,.mk op m us sub=>.mk op (if isQ op then yJk (free++ar.map (·.2)) else m) (yX4 (renF ar) us) (yV6 free (if isQ op then (m,yJk (free++ar.map (·.2)))::ar else ar) sub)
noncomputable def yV6 (free:List ByteArray):Ar->List Fm->List Fm
 | _,[]=>[]
 | ar,a::l=>xZq free ar a::yV6 free ar l
end
theorem yKu (free:List ByteArray)(ar:Ar):∀l m:List Fm,yV6 free ar (l++m)=yV6 free ar l++yV6 free ar m
 | [],m=>by simp[yV6]
 | a::l,m=>by simp only[List.cons_append,yV6,yKu free ar l m]
theorem yXg (free:List ByteArray)(ar:Ar):∀l:List Fm,(yV6 free ar l).length=l.length
 | []=>rfl
 | a::l=>by simp only[yV6,List.length_cons,yXg free ar l]
noncomputable def zZe (f:Fm):Fm:=xZq (frF f) [] f
theorem wJl {ar:Ar}{n:ByteArray}{u:Tm}(h:renF ar n=some u):u.size=1/\u.deep=1:=by
 unfold renF at h;rw[Option.map_eq_some_iff] at h;obtain⟨p,_,rfl⟩:=h;exact⟨rfl,rfl⟩
theorem yJo {f:Fm}(h:f.right=true):f.ok=true/\f.size<=400/\f.deep<=40:=by
 simp only[Fm.right,bAt,dTe] at h;exact⟨h.1.1,h.1.2,h.2⟩
theorem wJi {f:Fm}(h1:f.ok=true)(h2:f.size<=400)(h3:f.deep<=40):f.right=true:=by
 simp only[Fm.right,bAt,dTe];exact⟨⟨h1,h2⟩,h3⟩
