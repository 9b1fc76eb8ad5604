/- Putting, renaming, normal forms: plain d -/
import Derived.Test.YtabhgbojkjcfjaaGreatDoorJT
import Derived.Lib.ItoaNum
set_option linter.all false
namespace Go.Proofs.Tryz
open Go Go.Iv
def yVh (k:Nat):ByteArray:=⟨(120::Lib.decDigits k).toArray⟩
def valD (l:List UInt8):Nat:=l.foldl (λa d=>a*10+(d.toNat-48)) 0
theorem xVf (u:Nat):valD (Lib.decDigits u)=u:=by
 induction u using Nat.strongRecOn with
 | _ u ih =>
  rw[Lib.decDigits];by_cases h:u<10
  ·rw[dif_pos h];simp only[valD,List.foldl_cons,List.foldl_nil,UInt8.toNat_ofNat'];omega
  ·rw[dif_neg h];have:=ih (u / 10) (by omega);simp only[valD,List.foldl_append,List.foldl_cons,List.foldl_nil,UInt8.toNat_ofNat'] at this ⊢;rw[this];omega
theorem xUy {a b:Nat}(h:yVh a=yVh b):a=b:=by
 have h1:(120::Lib.decDigits a)=(120::Lib.decDigits b):=by
  have:=congrArg (λx:ByteArray=>x.data.toList) h;simpa[yVh] using this
 have h2:Lib.decDigits a=Lib.decDigits b:=by injection h1
 rw[<- xVf a,h2,xVf b]
theorem xWh {α:Type} [DecidableEq α]:∀(a b:List α),a.Nodup->(∀x∈a,x∈b)->a.length<=b.length
 | [],b,_,_=>Nat.zero_le _
 | x::a,b,hn,hs=>by
  have hx:=hs x (List.mem_cons_self ..);have hn':=List.nodup_cons.1 hn;have:=xWh a (b.erase x) hn'.2 (λy hy=>(List.mem_erase_of_ne (by rintro rfl;exact hn'.1 hy)).2 (hs y (List.mem_cons_of_mem _ hy)));rw[List.length_erase_of_mem hx] at this;have hb:0<b.length:=List.length_pos_of_mem hx;simp only[List.length_cons];omega
theorem wW2 (l:List ByteArray):∃k,1<=k/\k<=l.length+1/\yVh k ∉ l:=by
 refine Classical.byContradiction λhne=>?_;have hall:∀k,1<=k->k<=l.length+1->yVh k∈l:=λk h1 h2=>Classical.byContradiction λh=>hne ⟨k,h1,h2,h⟩;have:=xWh ((List.range' 1 (l.length+1)).map yVh) l (by
   unfold List.Nodup;rw[List.pairwise_map];exact List.Pairwise.imp (λh he=>h (xUy he)) (List.nodup_range' (s:=1) (n:=l.length+1))) (λx hx=>by
   obtain⟨k,hk,rfl⟩:=List.mem_map.1 hx;have:=List.mem_range'_1.1 hk;exact hall k (by omega) (by omega))
 simp at this;omega
noncomputable def yK1 (l:List ByteArray):Nat:=Iv.least (λk=>1<=k/\yVh k ∉ l)
theorem yYd (l:List ByteArray):1<=yK1 l/\yK1 l<=l.length+1/\yVh (yK1 l) ∉ l/\∀j,1<=j->j<yK1 l->yVh j∈l:=by
 obtain⟨k,h1,h2,h3⟩:=wW2 l;have hs:=Iv.least_spec (p:=λk=>1<=k/\yVh k ∉ l) ⟨k,h1,h3⟩;refine⟨hs.1.1,Nat.le_trans (hs.2 k ⟨h1,h3⟩) h2,hs.1.2,λj hj hlt=>Classical.byContradiction λhn=>?_⟩;have:=hs.2 j ⟨hj,hn⟩;unfold yK1 at hlt;omega
theorem wX9 {l:List ByteArray}{k:Nat}(h1:1<=k)(h2:yVh k ∉ l)(h3:∀j,1<=j->j<k->yVh j∈l):yK1 l=k:=by
 obtain⟨a1,a2,a3,a4⟩:=yYd l;rcases Nat.lt_trichotomy (yK1 l) k with h|h|h
 ·exact absurd (h3 _ a1 h) a3
 ·exact h
 ·exact absurd (a4 k h1 h) h2
theorem xZo {l m:List ByteArray}(h:∀x,x∈l↔x∈m):yK1 l=yK1 m:=by
 obtain⟨a1,a2,a3,a4⟩:=yYd m;exact wX9 a1 (λhx=>a3 ((h _).1 hx)) (λj hj hlt=>(h _).2 (a4 j hj hlt))
noncomputable def yJi (l:List ByteArray):ByteArray:=yVh (yK1 l)
theorem zXk {l m:List ByteArray}(h:∀x,x∈l↔x∈m):yJi l=yJi m:=by unfold yJi;rw[xZo h]
def memB (l:List ByteArray)(n:ByteArray):Bool:=l.any λx=>decide (x=n)
@[simp] theorem yX5 {l:List ByteArray}{n:ByteArray}:memB l n=true↔n∈l:=by
 simp[memB]
@[simp] theorem zQq {l:List ByteArray}{n:ByteArray}:memB l n=false↔n ∉ l:=by
 rw[<- Bool.not_eq_true,yX5]
mutual
def frF:Fm->List ByteArray
 | .mk op m us sub=>yQg us++(if isQ op then (frFs sub).filter (λn=>!decide (n=m)) else frFs sub)
def frFs:List Fm->List ByteArray
 | []=>[]
 | a::l=>frF a++frFs l
end
theorem xU7 (b:ByteArray->Nat)(m:ByteArray)(l:List ByteArray):yKu (incB b m) l=yKu b (l.filter (λn=>!decide (n=m))):=by
 unfold yKu;rw[List.filter_filter];refine List.filter_congr λn _=>?_;unfold incB;by_cases h:n=m<;>simp[h]
mutual
theorem xX1:∀(f:Fm)(b:ByteArray->Nat),zZ0 b f=yKu b (frF f)
 | .mk op m us sub,b=>by
  simp only[zZ0,frF,yXt];rw[zYm sub];split
  ·rw[xU7]
  ·rfl
theorem zYm:∀(l:List Fm)(b:ByteArray->Nat),yXb b l=yKu b (frFs l)
 | [],b=>by simp[yXb,frFs,yKu]
 | a::l,b=>by simp only[yXb,frFs,yXt,xX1 a b,zYm l b]
end
theorem zJj (f:Fm):xKk f=frF f:=by
 unfold xKk;rw[xX1];unfold yKu;rw[List.filter_eq_self];intro a _;rfl
abbrev Sb:=List (ByteArray×Tm)
def yZa (l:Sb)(n:ByteArray):Option Tm:=(l.find? λp=>decide (p.1=n)).map (·.2)
def cntS (ps:Sb)(m:ByteArray)(fr:List ByteArray):Sb:=ps.filter λp=>memB fr p.1&&!decide (p.1=m)
def zYt (ps:Sb)(m:ByteArray)(fr:List ByteArray):Bool:=(cntS ps m fr).any λp=>memB (yQl p.2) m
def yUb (ps:Sb)(m:ByteArray)(fr:List ByteArray):List ByteArray:=fr++(cntS ps m fr).flatMap λp=>yQl p.2
noncomputable def yJ2 (ps:Sb)(m:ByteArray)(fr:List ByteArray):ByteArray×Sb :=
 if zYt ps m fr then (yJi (yUb ps m fr),cntS ps m fr++[(m,.mk true (yJi (yUb ps m fr)) [])]) else (m,cntS ps m fr)
mutual
noncomputable def yJc:Sb->Fm->Fm
 | ps,.mk op m us sub=>.mk op (if isQ op then (yJ2 ps m (frFs sub)).1 else m) (yZe (yZa ps) us) (yXm (if isQ op then (yJ2 ps m (frFs sub)).2 else ps) sub)
noncomputable def yXm:Sb->List Fm->List Fm
 | _,[]=>[]
 | ps,a::l=>yJc ps a::yXm ps l
end
theorem yJg (ps:Sb):∀l m:List Fm,yXm ps (l++m)=yXm ps l++yXm ps m
 | [],m=>by simp[yXm]
 | a::l,m=>by simp only[List.cons_append,yXm,yJg ps l m]
theorem yXg (ps:Sb):∀l:List Fm,(yXm ps l).length=l.length
 | []=>rfl
 | a::l=>by simp only[yXm,List.length_cons,yXg ps l]
inductive NlT where
 | bv (i:Nat)
 | fv (n:ByteArray)
 | ap (n:ByteArray) (l:List NlT)
inductive NlF where
 | mk (op:Nat) (n:ByteArray) (us:List NlT) (sub:List NlF)
def yG4:List ByteArray->ByteArray->Option Nat
 | [],_=>none
 | m::e,n=>if n=m then some e.length else yG4 e n
def yK9 (env:List ByteArray)(n:ByteArray):NlT:=match yG4 env n with|some i=>.bv i|none=>.fv n
mutual
def db (env:List ByteArray):Tm->NlT
 | .mk true n _=>yK9 env n
 | .mk false n l=>.ap n (dbs env l)
def dbs (env:List ByteArray):List Tm->List NlT
 | []=>[]
 | a::l=>db env a::dbs env l
end
mutual
def dbF:List ByteArray->Fm->NlF
 | env,.mk op m us sub=>.mk op (if isQ op then ⟨#[]⟩ else m) (dbs env us) (dbFs (if isQ op then m::env else env) sub)
def dbFs:List ByteArray->List Fm->List NlF
 | _,[]=>[]
 | env,a::l=>dbF env a::dbFs env l
end
theorem zJb:∀ {e:List ByteArray}{n:ByteArray}{i:Nat},yG4 e n=some i->i<e.length
 | [],n,i,h=>by cases h
 | m::e,n,i,h=>by
  simp only[yG4] at h;split at h
  ·cases h;simp
  ·have:=zJb h;simp only[List.length_cons];omega
theorem zYd {e:List ByteArray}{m n:ByteArray}:yK9 (m::e) n=if n=m then .bv e.length else yK9 e n:=by
 unfold yK9;simp only[yG4];by_cases h:n=m<;>simp[h]
theorem xWc {n:ByteArray}{l:List Tm}(h:(Tm.mk true n l).ok=true):l=[]:=by
 simp only[Tm.ok,bAt,List.isEmpty_iff] at h;exact h.1
theorem xWe {n:ByteArray}{l:List Tm}(h:(Tm.mk false n l).ok=true):yJ8 l=true:=by
 simp only[Tm.ok,bAt] at h;exact h.2
theorem yVf {a:Tm}{l:List Tm}(h:yJ8 (a::l)=true):a.ok=true/\yJ8 l=true:=by
 simpa only[yJ8,bAt] using h
theorem yKe {a:Fm}{l:List Fm}(h:yKz (a::l)=true):a.ok=true/\yKz l=true:=by
 simpa only[yKz,bAt] using h
theorem yY7 {op:Nat}{m:ByteArray}{us:List Tm}{sub:List Fm}(h:(Fm.mk op m us sub).ok=true):yJ8 us=true/\yKz sub=true/\yZ4 op m us.length sub.length=true:=by
 simp only[Fm.ok,bAt] at h;exact⟨h.1.2,h.2,h.1.1⟩
theorem wVe {op:Nat}{m:ByteArray}{us:List Tm}{sub:List Fm}(hq:isQ op=true)(h:(Fm.mk op m us sub).ok=true):us=[]/\yKg m=true/\∃g,sub=[g]/\g.ok=true:=by
 obtain⟨h1,h2,h3⟩:=yY7 h;have ho:op=8\/op=9:=by simpa[isQ] using hq
 have h4:(yKg m&&decide (us.length=0)&&decide (sub.length=1))=true:=by rcases ho with rfl|rfl<;>exact h3
 simp only[bAt,dTe] at h4;refine⟨List.eq_nil_of_length_eq_zero h4.1.2,h4.1.1,?_⟩
 match sub,h4.2,h2 with
 | [g],_,h2=>exact⟨g,rfl,(yKe h2).1⟩
theorem zJ1 {ps:Sb}{q:ByteArray×Tm->Bool}{n:ByteArray}(h:∀u,q (n,u)=true):yZa (ps.filter q) n=yZa ps n:=by
 unfold yZa;rw[List.find?_filter];congr 2;funext p;by_cases hp:p.1=n
 ·obtain⟨a,u⟩:=p;simp only at hp;subst hp;simp[h u]
 ·simp[hp]
theorem zJ2 {ps:Sb}{q:ByteArray×Tm->Bool}{n:ByteArray}(h:∀u,q (n,u)=false):yZa (ps.filter q) n=none:=by
 unfold yZa;rw[List.find?_filter,Option.map_eq_none_iff,List.find?_eq_none];intro p _;by_cases hp:p.1=n
 ·obtain⟨a,u⟩:=p;simp only at hp;subst hp;simp[h u]
 ·simp[hp]
theorem yW3 (ps qs:Sb)(n:ByteArray):yZa (ps++qs) n=(yZa ps n).or (yZa qs n):=by
 unfold yZa;rw[List.find?_append];cases ps.find? _<;>rfl
theorem xZj {ps:Sb}{m n:ByteArray}{fr:List ByteArray}(hn:n∈fr)(hm:n≠m):yZa (cntS ps m fr) n=yZa ps n :=
 zJ1 λu=>by simp[hn,hm]
theorem yUe {ps:Sb}{m:ByteArray}{fr:List ByteArray}:yZa (cntS ps m fr) m=none :=
 zJ2 λu=>by simp
theorem xZi {ps:Sb}{n:ByteArray}{u:Tm}(h:yZa ps n=some u):(n,u)∈ps:=by
 unfold yZa at h;rw[Option.map_eq_some_iff] at h;obtain⟨⟨a,v⟩,h1,h2⟩:=h;have h3:=List.find?_some h1;simp only[dTe] at h3;simp only at h2;subst h3 h2;exact List.mem_of_find?_eq_some h1
end Go.Proofs.Tryz
namespace Go.Proofs.Tryz
open Go Go.Iv
theorem xGr {ps:Sb}{m:ByteArray}{fr:List ByteArray}{n:ByteArray}(hn:n∈fr) :
  yZa (yJ2 ps m fr).2 n=if n=m then (if zYt ps m fr then some (.mk true (yJ2 ps m fr).1 []) else none) else yZa ps n:=by
 unfold yJ2;by_cases hnm:n=m
 ·subst hnm;rw[if_pos rfl];split
  ·simp only[yW3,yUe];simp[yZa]
  ·exact yUe
 ·rw[if_neg hnm];split
  ·simp only[yW3,xZj hn hnm];have:yZa [(m,Tm.mk true (yJi (yUb ps m fr)) [])] n=none:=by simp[yZa,Ne.symm hnm]
   rw[this];simp
  ·exact xZj hn hnm
section
variable (ps:List Pc)
def HSz (b:ByteArray->Nat)(F:ByteArray->Option Tm)(n:ByteArray):Prop :=
 (if b n=0 then zZx ps n (1,1) else (1,1))=(((F n).getD (.mk true n [])).size,((F n).getD (.mk true n [])).deep)
mutual
theorem wUr (b:ByteArray->Nat)(F:ByteArray->Option Tm):∀t:Tm,t.ok=true->(∀n∈yQl t,HSz ps b F n)->psz ps b t=((yJk F t).size,(yJk F t).deep)
 | .mk true n l,h,hn=>by
  obtain rfl:=xWc h;have h1:=hn n (by simp[yQl]);unfold HSz at h1;simp only[psz,pszs,true_and,yJk];rw[h1];cases F n with
  | none=>rfl
  | some u=>rfl
 | .mk false n l,h,hn=>by
  have:=zGu b F l (xWe h) (λn hm=>hn n (by simpa[yQl] using hm));simp only[psz,bFt,false_and,if_false,yJk,Tm.size,Tm.deep,this]
theorem zGu (b:ByteArray->Nat)(F:ByteArray->Option Tm):∀l:List Tm,yJ8 l=true->(∀n∈yQg l,HSz ps b F n)->pszs ps b l=(yQ8 (yZe F l),yQi (yZe F l))
 | [],_,_=>rfl
 | a::l,h,hn=>by
  simp only[pszs,yZe,yQ8,yQi,wUr b F a (yVf h).1 (λn hm=>hn n (by simp[yQg,hm])),zGu b F l (yVf h).2 (λn hm=>hn n (by simp[yQg,hm]))]
end
theorem wK7 {b:ByteArray->Nat}{qs:Sb}{m:ByteArray}{fr:List ByteArray}{n:ByteArray}(hn:n∈fr)(h:n≠m->HSz ps b (yZa qs) n):HSz ps (incB b m) (yZa (yJ2 qs m fr).2) n:=by
 unfold HSz at h ⊢;rw[xGr hn];by_cases hnm:n=m
 ·subst hnm;simp only[incB,if_true];rw[if_neg (by omega)];split<;>rfl
 ·simp only[incB,if_neg hnm];exact h hnm
mutual
theorem xY2:∀(f:Fm)(qs:Sb)(b:ByteArray->Nat),f.ok=true->(∀n∈frF f,HSz ps b (yZa qs) n)->fsz ps b f=((yJc qs f).size,(yJc qs f).deep)
 | .mk op m us sub,qs,b,hok,h=>by
  obtain⟨h1,h2,_⟩:=yY7 hok;simp only[frF] at h;simp only[fsz,yJc,Fm.size,Fm.deep,zGu ps b (yZa qs) us h1 (λn hn=>h n (by simp[hn]))];by_cases hq:isQ op=true
  ·simp only[hq,if_true] at h ⊢;rw[zV1 sub _ _ h2 (λn hn=>wK7 ps hn (λhm=>h n (by simp[hn,hm])))]
  ·simp only[hq,bFt,if_false] at h ⊢;rw[zV1 sub qs b h2 (λn hn=>h n (by simp[hn]))]
theorem zV1:∀(l:List Fm)(qs:Sb)(b:ByteArray->Nat),yKz l=true->(∀n∈frFs l,HSz ps b (yZa qs) n)->fszs ps b l=(yQ7 (yXm qs l),yQr (yXm qs l))
 | [],_,_,_,_=>rfl
 | a::l,qs,b,hok,h=>by
  simp only[frFs] at h;simp only[fszs,yXm,yQ7,yQr,xY2 a qs b (yKe hok).1 (λn hn=>h n (by simp[hn])),zV1 l qs b (yKe hok).2 (λn hn=>h n (by simp[hn]))]
end
end
def toS (ps:List Pc):Sb:=ps.map λp=>(p.nm,p.tm)
theorem wV7 (ps:List Pc):putF ps=yZa (toS ps):=by
 funext n;unfold putF yZa toS;rw[List.find?_map];simp only[Option.map_map];rfl
theorem zYh:∀(ps:List Pc)(z:Nat×Nat)(n:ByteArray),(ps.map Pc.nm).Nodup->zZx ps n z=match yZa (toS ps) n with|some u=>(u.size,u.deep)|none=>z
 | [],z,n,_=>rfl
 | p::ps,z,n,h=>by
  simp only[List.map_cons,List.nodup_cons] at h;have ih:=zYh ps (if p.nm=n then (p.tm.size,p.tm.deep) else z) n h.2;have h0:zZx (p::ps) n z=zZx ps n (if p.nm=n then (p.tm.size,p.tm.deep) else z):=rfl;rw[h0,ih];have hc:yZa (toS (p::ps)) n=if p.nm=n then some p.tm else yZa (toS ps) n:=by
   unfold yZa toS;rw[List.map_cons,List.find?_cons];by_cases hp:p.nm=n<;>simp[hp]
  rw[hc];by_cases hp:p.nm=n
  ·rw[if_pos hp,if_pos hp];have:yZa (toS ps) n=none:=by
    cases hl:yZa (toS ps) n with
    | none=>rfl
    | some u =>
     have:=xZi hl;unfold toS at this;obtain⟨q,hq,he⟩:=List.mem_map.1 this;cases he;exact absurd (List.mem_map.2 ⟨q,hq,hp.symm⟩) h.1
   rw[this]
  ·rw[if_neg hp,if_neg hp]
theorem HSz0 {ps:List Pc}(h:(ps.map Pc.nm).Nodup)(n:ByteArray):HSz ps (λ_=>0) (yZa (toS ps)) n:=by
 unfold HSz;rw[if_pos rfl,zYh ps _ n h];cases yZa (toS ps) n<;>rfl
theorem vKe {ps:List Pc}(h:(ps.map Pc.nm).Nodup){f:Fm}(hf:f.ok=true):fsz ps (λ_=>0) f=((yJc (toS ps) f).size,(yJc (toS ps) f).deep) :=
 xY2 ps f (toS ps) _ hf (λn _=>HSz0 h n)
theorem yWp:∀(k u:Nat),u<10 ^ (k+1)->Lib.nDigits u<=k+1
 | 0,u,h=>by rw[Lib.nDigits_small (by simpa using h)];omega
 | k+1,u,h=>by
  by_cases hu:u<10
  ·rw[Lib.nDigits_small hu];omega
  ·rw[Lib.nDigits_big hu];have:=yWp k (u / 10) (by rw[Nat.pow_succ] at h;omega);omega
mutual
theorem yKh:∀t:Tm,(yQl t).length<=t.size
 | .mk true n l=>by have:=yJ9 l;simp only[yQl,List.length_cons,Tm.size];omega
 | .mk false n l=>by have:=yJ9 l;simp only[yQl,Tm.size];omega
theorem yJ9:∀l:List Tm,(yQg l).length<=yQ8 l
 | []=>Nat.le_refl _
 | a::l=>by have:=yKh a;have:=yJ9 l;simp only[yQg,lLa,yQ8];omega
end
mutual
theorem zV4:∀f:Fm,(frF f).length<=f.size
 | .mk op m us sub=>by
  have h1:=yJ9 us;have h2:=zUg sub;simp only[frF,lLa,Fm.size];split
  ·have:=List.length_filter_le (λn=>!decide (n=m)) (frFs sub);omega
  ·omega
theorem zUg:∀l:List Fm,(frFs l).length<=yQ7 l
 | []=>Nat.le_refl _
 | a::l=>by have:=zV4 a;have:=zUg l;simp only[frFs,lLa,yQ7];omega
end
def wS:Sb->Nat
 | []=>0
 | p::l=>p.2.size+wS l
theorem xQ4:∀l m:Sb,wS (l++m)=wS l+wS m
 | [],m=>by simp[wS]
 | a::l,m=>by simp only[List.cons_append,wS,xQ4 l m];omega
theorem zQ8 (q:ByteArray×Tm->Bool):∀l:Sb,wS (l.filter q)<=wS l
 | []=>Nat.le_refl _
 | a::l=>by
  have:=zQ8 q l;rw[List.filter_cons];split
  ·simp only[wS];omega
  ·simp only[wS];omega
theorem wJ0:∀l:Sb,(l.flatMap λp=>yQl p.2).length<=wS l
 | []=>Nat.le_refl _
 | a::l=>by
  have:=wJ0 l;have:=yKh a.2;simp only[List.flatMap_cons,lLa,wS];omega
theorem wKi (ps:Sb)(m:ByteArray)(fr:List ByteArray):(yUb ps m fr).length<=fr.length+wS ps:=by
 have:=wJ0 (cntS ps m fr);have:=zQ8 (λp=>memB fr p.1&&!decide (p.1=m)) ps;unfold yUb cntS at *;simp only[lLa];omega
theorem wKb (ps:Sb)(m:ByteArray)(fr:List ByteArray):wS (yJ2 ps m fr).2<=wS ps+1:=by
 have:=zQ8 (λp=>memB fr p.1&&!decide (p.1=m)) ps;unfold yJ2 cntS;split
 ·simp only[xQ4,wS,Tm.size,yQ8];omega
 ·simp only;omega
end Go.Proofs.Tryz
namespace Go.Proofs.Tryz
open Go Go.Iv
noncomputable def yKb (f g:Fm):Bool:=f.right&&g.right&&eqB (dbF [] f) (dbF [] g)
theorem xWl {e:List ByteArray}{n:ByteArray}{l:Nat}(h:e.length<=l):yK9 e n≠.bv l:=by
 unfold yK9;split
 ·rename_i i hi;have:=zJb hi;intro he;injection he;omega
 ·intro he;cases he
theorem xGs {ls rs:List ByteArray}{l r n n':ByteArray}(hlen:ls.length=rs.length):yK9 (l::ls) n=yK9 (r::rs) n'↔(if n=l\/n'=r then n=l/\n'=r else yK9 ls n=yK9 rs n'):=by
 rw[zYd,zYd];by_cases h1:n=l
 ·by_cases h2:n'=r
  ·simp[h1,h2,hlen]
  ·simp only[h1,h2,if_true,true_or,and_false,iff_false,if_false];exact λh=>xWl (Nat.le_of_eq hlen.symm) h.symm
 ·by_cases h2:n'=r
  ·simp only[h1,h2,if_true,or_true,false_and,iff_false,if_false];exact λh=>xWl (Nat.le_of_eq hlen) h
  ·simp[h1,h2]
theorem xWm {e:List ByteArray}{n m:ByteArray}{l:List NlT}:yK9 e n≠.ap m l:=by
 unfold yK9;split<;>intro h<;>cases h
theorem wZu {n:ByteArray}:yK9 [] n=.fv n:=rfl
abbrev Ar:=List (ByteArray×ByteArray)
def renF (ar:Ar)(n:ByteArray):Option Tm:=(ar.find? λp=>decide (p.1=n)).map λp=>.mk true p.2 []
mutual
noncomputable def xJz (free:List ByteArray):Ar->Fm->Fm
 | ar,.mk op m us sub=>.mk op (if isQ op then yJi (free++ar.map (·.2)) else m) (yZe (renF ar) us) (yVp free (if isQ op then (m,yJi (free++ar.map (·.2)))::ar else ar) sub)
noncomputable def yVp (free:List ByteArray):Ar->List Fm->List Fm
 | _,[]=>[]
 | ar,a::l=>xJz free ar a::yVp free ar l
end
theorem yV7 (free:List ByteArray)(ar:Ar):∀l m:List Fm,yVp free ar (l++m)=yVp free ar l++yVp free ar m
 | [],m=>by simp[yVp]
 | a::l,m=>by simp only[List.cons_append,yVp,yV7 free ar l m]
theorem yXv (free:List ByteArray)(ar:Ar):∀l:List Fm,(yVp free ar l).length=l.length
 | []=>rfl
 | a::l=>by simp only[yVp,List.length_cons,yXv free ar l]
noncomputable def zJ0 (f:Fm):Fm:=xJz (frF f) [] f
theorem wKy {ar:Ar}{n:ByteArray}{u:Tm}(h:renF ar n=some u):u.size=1/\u.deep=1:=by
 unfold renF at h;rw[Option.map_eq_some_iff] at h;obtain⟨p,_,rfl⟩:=h;exact⟨rfl,rfl⟩
theorem yJp {f:Fm}(h:f.right=true):f.ok=true/\f.size<=400/\f.deep<=40:=by
 simp only[Fm.right,bAt,dTe] at h;exact⟨h.1.1,h.1.2,h.2⟩
