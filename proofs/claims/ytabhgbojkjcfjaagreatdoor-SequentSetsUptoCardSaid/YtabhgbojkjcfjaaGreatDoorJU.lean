/- Putting, renaming, normal forms: plain d -/
import Derived.Test.YtabhgbojkjcfjaaGreatDoorJT
import Derived.Lib.ItoaNum
set_option linter.all false
namespace Go.Proofs.Tryz
open Go Go.Iv
def yV9 (k:Nat):ByteArray:=⟨(120::Lib.decDigits k).toArray⟩
def valD (l:List UInt8):Nat:=l.foldl (λa d=>a*10+(d.toNat-48)) 0
theorem xKa (u:Nat):valD (Lib.decDigits u)=u:=by
 induction u using Nat.strongRecOn with
 | _ u ih =>
  rw[Lib.decDigits];by_cases h:u<10
  ·rw[dif_pos h];simp only[valD,List.foldl_cons,List.foldl_nil,UInt8.toNat_ofNat'];omega
  ·rw[dif_neg h];have:=ih (u / 10) (by omega);simp only[valD,List.foldl_append,List.foldl_cons,List.foldl_nil,UInt8.toNat_ofNat'] at this ⊢;rw[this];omega
theorem xGc {a b:Nat}(h:yV9 a=yV9 b):a=b:=by
 have h1:(120::Lib.decDigits a)=(120::Lib.decDigits b):=by
  have:=congrArg (λx:ByteArray=>x.data.toList) h;simpa[yV9] using this
 have h2:Lib.decDigits a=Lib.decDigits b:=by injection h1
 rw[<- xKa a,h2,xKa b]
theorem xV4 {α:Type} [DecidableEq α]:∀(a b:List α),a.Nodup->(∀x∈a,x∈b)->a.length<=b.length
 | [],b,_,_=>Nat.zero_le _
 | x::a,b,hn,hs=>by
  have hx:=hs x (List.mem_cons_self ..);have hn':=List.nodup_cons.1 hn;have:=xV4 a (b.erase x) hn'.2 (λy hy=>(List.mem_erase_of_ne (by rintro rfl;exact hn'.1 hy)).2 (hs y (List.mem_cons_of_mem _ hy)));rw[List.length_erase_of_mem hx] at this;have hb:0<b.length:=List.length_pos_of_mem hx;simp only[List.length_cons];omega
theorem wK7 (l:List ByteArray):∃k,1<=k/\k<=l.length+1/\yV9 k ∉ l:=by
 refine Classical.byContradiction λhne=>?_;have hall:∀k,1<=k->k<=l.length+1->yV9 k∈l:=λk h1 h2=>Classical.byContradiction λh=>hne ⟨k,h1,h2,h⟩;have:=xV4 ((List.range' 1 (l.length+1)).map yV9) l (by
   unfold List.Nodup;rw[List.pairwise_map];exact List.Pairwise.imp (λh he=>h (xGc he)) (List.nodup_range' (s:=1) (n:=l.length+1))) (λx hx=>by
   obtain⟨k,hk,rfl⟩:=List.mem_map.1 hx;have:=List.mem_range'_1.1 hk;exact hall k (by omega) (by omega))
 simp at this;omega
noncomputable def yJw (l:List ByteArray):Nat:=Iv.least (λk=>1<=k/\yV9 k ∉ l)
theorem yWx (l:List ByteArray):1<=yJw l/\yJw l<=l.length+1/\yV9 (yJw l) ∉ l/\∀j,1<=j->j<yJw l->yV9 j∈l:=by
 obtain⟨k,h1,h2,h3⟩:=wK7 l;have hs:=Iv.least_spec (p:=λk=>1<=k/\yV9 k ∉ l) ⟨k,h1,h3⟩;refine⟨hs.1.1,Nat.le_trans (hs.2 k ⟨h1,h3⟩) h2,hs.1.2,λj hj hlt=>Classical.byContradiction λhn=>?_⟩;have:=hs.2 j ⟨hj,hn⟩;unfold yJw at hlt;omega
theorem wQl {l:List ByteArray}{k:Nat}(h1:1<=k)(h2:yV9 k ∉ l)(h3:∀j,1<=j->j<k->yV9 j∈l):yJw l=k:=by
 obtain⟨a1,a2,a3,a4⟩:=yWx l;rcases Nat.lt_trichotomy (yJw l) k with h|h|h
 ·exact absurd (h3 _ a1 h) a3
 ·exact h
 ·exact absurd (a4 k h1 h) h2
theorem xQj {l m:List ByteArray}(h:∀x,x∈l↔x∈m):yJw l=yJw m:=by
 obtain⟨a1,a2,a3,a4⟩:=yWx m;exact wQl a1 (λhx=>a3 ((h _).1 hx)) (λj hj hlt=>(h _).2 (a4 j hj hlt))
noncomputable def yJl (l:List ByteArray):ByteArray:=yV9 (yJw l)
theorem zZw {l m:List ByteArray}(h:∀x,x∈l↔x∈m):yJl l=yJl m:=by unfold yJl;rw[xQj h]
def memB (l:List ByteArray)(n:ByteArray):Bool:=l.any λx=>decide (x=n)
@[simp] theorem yJh {l:List ByteArray}{n:ByteArray}:memB l n=true↔n∈l:=by
 simp[memB]
@[simp] theorem zXh {l:List ByteArray}{n:ByteArray}:memB l n=false↔n ∉ l:=by
 rw[<- Bool.not_eq_true,yJh]
mutual
def frF:Fm->List ByteArray
 | .mk op m us sub=>yQh us++(if isQ op then (frFs sub).filter (λn=>!decide (n=m)) else frFs sub)
def frFs:List Fm->List ByteArray
 | []=>[]
 | a::l=>frF a++frFs l
end
theorem xYo (b:ByteArray->Nat)(m:ByteArray)(l:List ByteArray):yKi (incB b m) l=yKi b (l.filter (λn=>!decide (n=m))):=by
 unfold yKi;rw[List.filter_filter];refine List.filter_congr λn _=>?_;unfold incB;by_cases h:n=m<;>simp[h]
mutual
theorem xQw:∀(f:Fm)(b:ByteArray->Nat),zQc b f=yKi b (frF f)
 | .mk op m us sub,b=>by
  simp only[zQc,frF,yXg];rw[zWl sub];split
  ·rw[xYo]
  ·rfl
theorem zWl:∀(l:List Fm)(b:ByteArray->Nat),yX1 b l=yKi b (frFs l)
 | [],b=>by simp[yX1,frFs,yKi]
 | a::l,b=>by simp only[yX1,frFs,yXg,xQw a b,zWl l b]
end
theorem zXq (f:Fm):xJe f=frF f:=by
 unfold xJe;rw[xQw];unfold yKi;rw[List.filter_eq_self];intro a _;rfl
abbrev Sb:=List (ByteArray×Tm)
def yZc (l:Sb)(n:ByteArray):Option Tm:=(l.find? λp=>decide (p.1=n)).map (·.2)
def cntS (ps:Sb)(m:ByteArray)(fr:List ByteArray):Sb:=ps.filter λp=>memB fr p.1&&!decide (p.1=m)
def xZc (ps:Sb)(m:ByteArray)(fr:List ByteArray):Bool:=(cntS ps m fr).any λp=>memB (yZ1 p.2) m
def yUv (ps:Sb)(m:ByteArray)(fr:List ByteArray):List ByteArray:=fr++(cntS ps m fr).flatMap λp=>yZ1 p.2
noncomputable def yVa (ps:Sb)(m:ByteArray)(fr:List ByteArray):ByteArray×Sb :=
 if xZc ps m fr then (yJl (yUv ps m fr),cntS ps m fr++[(m,.mk true (yJl (yUv ps m fr)) [])]) else (m,cntS ps m fr)
mutual
noncomputable def yGs:Sb->Fm->Fm
 | ps,.mk op m us sub=>.mk op (if isQ op then (yVa ps m (frFs sub)).1 else m) (yZq (yZc ps) us) (yKv (if isQ op then (yVa ps m (frFs sub)).2 else ps) sub)
noncomputable def yKv:Sb->List Fm->List Fm
 | _,[]=>[]
 | ps,a::l=>yGs ps a::yKv ps l
end
theorem yY1 (ps:Sb):∀l m:List Fm,yKv ps (l++m)=yKv ps l++yKv ps m
 | [],m=>by simp[yKv]
 | a::l,m=>by simp only[List.cons_append,yKv,yY1 ps l m]
theorem yJz (ps:Sb):∀l:List Fm,(yKv ps l).length=l.length
 | []=>rfl
 | a::l=>by simp only[yKv,List.length_cons,yJz ps l]
inductive NlT where
 | bv (i:Nat)
 | fv (n:ByteArray)
 | ap (n:ByteArray) (l:List NlT)
inductive NlF where
 | mk (op:Nat) (n:ByteArray) (us:List NlT) (sub:List NlF)
def yYr:List ByteArray->ByteArray->Option Nat
 | [],_=>none
 | m::e,n=>if n=m then some e.length else yYr e n
def yK5 (env:List ByteArray)(n:ByteArray):NlT:=match yYr env n with|some i=>.bv i|none=>.fv n
mutual
def db (env:List ByteArray):Tm->NlT
 | .mk true n _=>yK5 env n
 | .mk false n l=>.ap n (dbs env l)
def dbs (env:List ByteArray):List Tm->List NlT
 | []=>[]
 | a::l=>db env a::dbs env l
end
mutual
def dbF:List ByteArray->Fm->NlF
 | env,.mk op m us sub=>.mk op (if isQ op then ⟨#[]⟩ else m) (dbs env us) (dbFs (if isQ op then m::env else env) sub)
def dbFs:List ByteArray->List Fm->List NlF
 | _,[]=>[]
 | env,a::l=>dbF env a::dbFs env l
end
theorem zXj:∀ {e:List ByteArray}{n:ByteArray}{i:Nat},yYr e n=some i->i<e.length
 | [],n,i,h=>by cases h
 | m::e,n,i,h=>by
  simp only[yYr] at h;split at h
  ·cases h;simp
  ·have:=zXj h;simp only[List.length_cons];omega
theorem zWf {e:List ByteArray}{m n:ByteArray}:yK5 (m::e) n=if n=m then .bv e.length else yK5 e n:=by
 unfold yK5;simp only[yYr];by_cases h:n=m<;>simp[h]
theorem xKz {n:ByteArray}{l:List Tm}(h:(Tm.mk true n l).ok=true):l=[]:=by
 simp only[Tm.ok,bAt,List.isEmpty_iff] at h;exact h.1
theorem xV1 {n:ByteArray}{l:List Tm}(h:(Tm.mk false n l).ok=true):yXz l=true:=by
 simp only[Tm.ok,bAt] at h;exact h.2
theorem yV6 {a:Tm}{l:List Tm}(h:yXz (a::l)=true):a.ok=true/\yXz l=true:=by
 simpa only[yXz,bAt] using h
theorem yV7 {a:Fm}{l:List Fm}(h:yKn (a::l)=true):a.ok=true/\yKn l=true:=by
 simpa only[yKn,bAt] using h
theorem yYn {op:Nat}{m:ByteArray}{us:List Tm}{sub:List Fm}(h:(Fm.mk op m us sub).ok=true):yXz us=true/\yKn sub=true/\yZ3 op m us.length sub.length=true:=by
 simp only[Fm.ok,bAt] at h;exact⟨h.1.2,h.2,h.1.1⟩
theorem zXb {ps:Sb}{q:ByteArray×Tm->Bool}{n:ByteArray}(h:∀u,q (n,u)=true):yZc (ps.filter q) n=yZc ps n:=by
 unfold yZc;rw[List.find?_filter];congr 2;funext p;by_cases hp:p.1=n
 ·obtain⟨a,u⟩:=p;simp only at hp;subst hp;simp[h u]
 ·simp[hp]
theorem zXc {ps:Sb}{q:ByteArray×Tm->Bool}{n:ByteArray}(h:∀u,q (n,u)=false):yZc (ps.filter q) n=none:=by
 unfold yZc;rw[List.find?_filter,Option.map_eq_none_iff,List.find?_eq_none];intro p _;by_cases hp:p.1=n
 ·obtain⟨a,u⟩:=p;simp only at hp;subst hp;simp[h u]
 ·simp[hp]
theorem yVt (ps qs:Sb)(n:ByteArray):yZc (ps++qs) n=(yZc ps n).or (yZc qs n):=by
 unfold yZc;rw[List.find?_append];cases ps.find? _<;>rfl
theorem xQf {ps:Sb}{m n:ByteArray}{fr:List ByteArray}(hn:n∈fr)(hm:n≠m):yZc (cntS ps m fr) n=yZc ps n :=
 zXb λu=>by simp[hn,hm]
theorem yGy {ps:Sb}{m:ByteArray}{fr:List ByteArray}:yZc (cntS ps m fr) m=none :=
 zXc λu=>by simp
theorem xQe {ps:Sb}{n:ByteArray}{u:Tm}(h:yZc ps n=some u):(n,u)∈ps:=by
 unfold yZc at h;rw[Option.map_eq_some_iff] at h;obtain⟨⟨a,v⟩,h1,h2⟩:=h;have h3:=List.find?_some h1;simp only[dTe] at h3;simp only at h2;subst h3 h2;exact List.mem_of_find?_eq_some h1
end Go.Proofs.Tryz
namespace Go.Proofs.Tryz
open Go Go.Iv
theorem xY9 {ps:Sb}{m:ByteArray}{fr:List ByteArray}{n:ByteArray}(hn:n∈fr) :
  yZc (yVa ps m fr).2 n=if n=m then (if xZc ps m fr then some (.mk true (yVa ps m fr).1 []) else none) else yZc ps n:=by
 unfold yVa;by_cases hnm:n=m
 ·subst hnm;rw[if_pos rfl];split
  ·simp only[yVt,yGy];simp[yZc]
  ·exact yGy
 ·rw[if_neg hnm];split
  ·simp only[yVt,xQf hn hnm];have:yZc [(m,Tm.mk true (yJl (yUv ps m fr)) [])] n=none:=by simp[yZc,Ne.symm hnm]
   rw[this];simp
  ·exact xQf hn hnm
section
variable (ps:List Pc)
def HSz (b:ByteArray->Nat)(F:ByteArray->Option Tm)(n:ByteArray):Prop :=
 (if b n=0 then zZ7 ps n (1,1) else (1,1))=(((F n).getD (.mk true n [])).size,((F n).getD (.mk true n [])).deep)
mutual
theorem wYu (b:ByteArray->Nat)(F:ByteArray->Option Tm):∀t:Tm,t.ok=true->(∀n∈yZ1 t,HSz ps b F n)->psz ps b t=((yKp F t).size,(yKp F t).deep)
 | .mk true n l,h,hn=>by
  obtain rfl:=xKz h;have h1:=hn n (by simp[yZ1]);unfold HSz at h1;simp only[psz,pszs,true_and,yKp];rw[h1];cases F n with
  | none=>rfl
  | some u=>rfl
 | .mk false n l,h,hn=>by
  have:=zYp b F l (xV1 h) (λn hm=>hn n (by simpa[yZ1] using hm));simp only[psz,bFt,false_and,if_false,yKp,Tm.size,Tm.deep,this]
theorem zYp (b:ByteArray->Nat)(F:ByteArray->Option Tm):∀l:List Tm,yXz l=true->(∀n∈yQh l,HSz ps b F n)->pszs ps b l=(yQ8 (yZq F l),yQg (yZq F l))
 | [],_,_=>rfl
 | a::l,h,hn=>by
  simp only[pszs,yZq,yQ8,yQg,wYu b F a (yV6 h).1 (λn hm=>hn n (by simp[yQh,hm])),zYp b F l (yV6 h).2 (λn hm=>hn n (by simp[yQh,hm]))]
end
theorem wXf {b:ByteArray->Nat}{qs:Sb}{m:ByteArray}{fr:List ByteArray}{n:ByteArray}(hn:n∈fr)(h:n≠m->HSz ps b (yZc qs) n):HSz ps (incB b m) (yZc (yVa qs m fr).2) n:=by
 unfold HSz at h ⊢;rw[xY9 hn];by_cases hnm:n=m
 ·subst hnm;simp only[incB,if_true];rw[if_neg (by omega)];split<;>rfl
 ·simp only[incB,if_neg hnm];exact h hnm
mutual
theorem xVo:∀(f:Fm)(qs:Sb)(b:ByteArray->Nat),f.ok=true->(∀n∈frF f,HSz ps b (yZc qs) n)->fsz ps b f=((yGs qs f).size,(yGs qs f).deep)
 | .mk op m us sub,qs,b,hok,h=>by
  obtain⟨h1,h2,_⟩:=yYn hok;simp only[frF] at h;simp only[fsz,yGs,Fm.size,Fm.deep,zYp ps b (yZc qs) us h1 (λn hn=>h n (by simp[hn]))];by_cases hq:isQ op=true
  ·simp only[hq,if_true] at h ⊢;rw[zK6 sub _ _ h2 (λn hn=>wXf ps hn (λhm=>h n (by simp[hn,hm])))]
  ·simp only[hq,bFt,if_false] at h ⊢;rw[zK6 sub qs b h2 (λn hn=>h n (by simp[hn]))]
theorem zK6:∀(l:List Fm)(qs:Sb)(b:ByteArray->Nat),yKn l=true->(∀n∈frFs l,HSz ps b (yZc qs) n)->fszs ps b l=(yQ7 (yKv qs l),yQq (yKv qs l))
 | [],_,_,_,_=>rfl
 | a::l,qs,b,hok,h=>by
  simp only[frFs] at h;simp only[fszs,yKv,yQ7,yQq,xVo a qs b (yV7 hok).1 (λn hn=>h n (by simp[hn])),zK6 l qs b (yV7 hok).2 (λn hn=>h n (by simp[hn]))]
end
end
def toS (ps:List Pc):Sb:=ps.map λp=>(p.nm,p.tm)
theorem wJh (ps:List Pc):putF ps=yZc (toS ps):=by
 funext n;unfold putF yZc toS;rw[List.find?_map];simp only[Option.map_map];rfl
theorem zWh:∀(ps:List Pc)(z:Nat×Nat)(n:ByteArray),(ps.map Pc.nm).Nodup->zZ7 ps n z=match yZc (toS ps) n with|some u=>(u.size,u.deep)|none=>z
 | [],z,n,_=>rfl
 | p::ps,z,n,h=>by
  simp only[List.map_cons,List.nodup_cons] at h;have ih:=zWh ps (if p.nm=n then (p.tm.size,p.tm.deep) else z) n h.2;have h0:zZ7 (p::ps) n z=zZ7 ps n (if p.nm=n then (p.tm.size,p.tm.deep) else z):=rfl;rw[h0,ih];have hc:yZc (toS (p::ps)) n=if p.nm=n then some p.tm else yZc (toS ps) n:=by
   unfold yZc toS;rw[List.map_cons,List.find?_cons];by_cases hp:p.nm=n<;>simp[hp]
  rw[hc];by_cases hp:p.nm=n
  ·rw[if_pos hp,if_pos hp];have:yZc (toS ps) n=none:=by
    cases hl:yZc (toS ps) n with
    | none=>rfl
    | some u =>
     have:=xQe hl;unfold toS at this;obtain⟨q,hq,he⟩:=List.mem_map.1 this;cases he;exact absurd (List.mem_map.2 ⟨q,hq,hp.symm⟩) h.1
   rw[this]
  ·rw[if_neg hp,if_neg hp]
theorem HSz0 {ps:List Pc}(h:(ps.map Pc.nm).Nodup)(n:ByteArray):HSz ps (λ_=>0) (yZc (toS ps)) n:=by
 unfold HSz;rw[if_pos rfl,zWh ps _ n h];cases yZc (toS ps) n<;>rfl
theorem vXb {ps:List Pc}(h:(ps.map Pc.nm).Nodup){f:Fm}(hf:f.ok=true):fsz ps (λ_=>0) f=((yGs (toS ps) f).size,(yGs (toS ps) f).deep) :=
 xVo ps f (toS ps) _ hf (λn _=>HSz0 h n)
theorem yWe:∀(k u:Nat),u<10 ^ (k+1)->Lib.nDigits u<=k+1
 | 0,u,h=>by rw[Lib.nDigits_small (by simpa using h)];omega
 | k+1,u,h=>by
  by_cases hu:u<10
  ·rw[Lib.nDigits_small hu];omega
  ·rw[Lib.nDigits_big hu];have:=yWe k (u / 10) (by rw[Nat.pow_succ] at h;omega);omega
mutual
theorem yWd:∀t:Tm,(yZ1 t).length<=t.size
 | .mk true n l=>by have:=yJ0 l;simp only[yZ1,List.length_cons,Tm.size];omega
 | .mk false n l=>by have:=yJ0 l;simp only[yZ1,Tm.size];omega
theorem yJ0:∀l:List Tm,(yQh l).length<=yQ8 l
 | []=>Nat.le_refl _
 | a::l=>by have:=yWd a;have:=yJ0 l;simp only[yQh,lLa,yQ8];omega
end
mutual
theorem zWm:∀f:Fm,(frF f).length<=f.size
 | .mk op m us sub=>by
  have h1:=yJ0 us;have h2:=zG9 sub;simp only[frF,lLa,Fm.size];split
  ·have:=List.length_filter_le (λn=>!decide (n=m)) (frFs sub);omega
  ·omega
theorem zG9:∀l:List Fm,(frFs l).length<=yQ7 l
 | []=>Nat.le_refl _
 | a::l=>by have:=zWm a;have:=zG9 l;simp only[frFs,lLa,yQ7];omega
end
def wS:Sb->Nat
 | []=>0
 | p::l=>p.2.size+wS l
theorem zGy:∀l m:Sb,wS (l++m)=wS l+wS m
 | [],m=>by simp[wS]
 | a::l,m=>by simp only[List.cons_append,wS,zGy l m];omega
theorem yUo (q:ByteArray×Tm->Bool):∀l:Sb,wS (l.filter q)<=wS l
 | []=>Nat.le_refl _
 | a::l=>by
  have:=yUo q l;rw[List.filter_cons];split
  ·simp only[wS];omega
  ·simp only[wS];omega
theorem wZc:∀l:Sb,(l.flatMap λp=>yZ1 p.2).length<=wS l
 | []=>Nat.le_refl _
 | a::l=>by
  have:=wZc l;have:=yWd a.2;simp only[List.flatMap_cons,lLa,wS];omega
theorem wXn (ps:Sb)(m:ByteArray)(fr:List ByteArray):(yUv ps m fr).length<=fr.length+wS ps:=by
 have:=wZc (cntS ps m fr);have:=yUo (λp=>memB fr p.1&&!decide (p.1=m)) ps;unfold yUv cntS at *;simp only[lLa];omega
theorem wXk (ps:Sb)(m:ByteArray)(fr:List ByteArray):wS (yVa ps m fr).2<=wS ps+1:=by
 have:=yUo (λp=>memB fr p.1&&!decide (p.1=m)) ps;unfold yVa cntS;split
 ·simp only[zGy,wS,Tm.size,yQ8];omega
 ·simp only;omega
end Go.Proofs.Tryz
namespace Go.Proofs.Tryz
open Go Go.Iv
noncomputable def yK6 (f g:Fm):Bool:=f.right&&g.right&&eqB (dbF [] f) (dbF [] g)
theorem xV7 {e:List ByteArray}{n:ByteArray}{l:Nat}(h:e.length<=l):yK5 e n≠.bv l:=by
 unfold yK5;split
 ·rename_i i hi;have:=zXj hi;intro he;injection he;omega
 ·intro he;cases he
theorem xYa {ls rs:List ByteArray}{l r n n':ByteArray}(hlen:ls.length=rs.length):yK5 (l::ls) n=yK5 (r::rs) n'↔(if n=l\/n'=r then n=l/\n'=r else yK5 ls n=yK5 rs n'):=by
 rw[zWf,zWf];by_cases h1:n=l
 ·by_cases h2:n'=r
  ·simp[h1,h2,hlen]
  ·simp only[h1,h2,if_true,true_or,and_false,iff_false,if_false];exact λh=>xV7 (Nat.le_of_eq hlen.symm) h.symm
 ·by_cases h2:n'=r
  ·simp only[h1,h2,if_true,or_true,false_and,iff_false,if_false];exact λh=>xV7 (Nat.le_of_eq hlen) h
  ·simp[h1,h2]
theorem xV8 {e:List ByteArray}{n m:ByteArray}{l:List NlT}:yK5 e n≠.ap m l:=by
 unfold yK5;split<;>intro h<;>cases h
theorem wQ6 {n:ByteArray}:yK5 [] n=.fv n:=rfl
abbrev Ar:=List (ByteArray×ByteArray)
def renF (ar:Ar)(n:ByteArray):Option Tm:=(ar.find? λp=>decide (p.1=n)).map λp=>.mk true p.2 []
mutual
noncomputable def zXa (free:List ByteArray):Ar->Fm->Fm
 | ar,.mk op m us sub=>.mk op (if isQ op then yJl (free++ar.map (·.2)) else m) (yZq (renF ar) us) (yJu free (if isQ op then (m,yJl (free++ar.map (·.2)))::ar else ar) sub)
noncomputable def yJu (free:List ByteArray):Ar->List Fm->List Fm
 | _,[]=>[]
 | ar,a::l=>zXa free ar a::yJu free ar l
end
theorem yJ7 (free:List ByteArray)(ar:Ar):∀l m:List Fm,yJu free ar (l++m)=yJu free ar l++yJu free ar m
 | [],m=>by simp[yJu]
 | a::l,m=>by simp only[List.cons_append,yJu,yJ7 free ar l m]
theorem yZr (free:List ByteArray)(ar:Ar):∀l:List Fm,(yJu free ar l).length=l.length
 | []=>rfl
 | a::l=>by simp only[yJu,List.length_cons,yZr free ar l]
noncomputable def yXk (f:Fm):Fm:=zXa (frF f) [] f
theorem wJ6 {ar:Ar}{n:ByteArray}{u:Tm}(h:renF ar n=some u):u.size=1/\u.deep=1:=by
 unfold renF at h;rw[Option.map_eq_some_iff] at h;obtain⟨p,_,rfl⟩:=h;exact⟨rfl,rfl⟩
theorem yJr {f:Fm}(h:f.right=true):f.ok=true/\f.size<=400/\f.deep<=40:=by
 simp only[Fm.right,bAt,dTe] at h;exact⟨h.1.1,h.1.2,h.2⟩
