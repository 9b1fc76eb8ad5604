/- Putting, renaming, normal forms: plain d -/
import Derived.Test.YtabhgbojkjcfjaaGreatDoorJT
import Derived.Lib.ItoaNum
set_option linter.all false
namespace Go.Proofs.Tryz
open Go Go.Iv
def yW3 (k:Nat):ByteArray:=⟨(120::Lib.decDigits k).toArray⟩
def valD (l:List UInt8):Nat:=l.foldl (λa d=>a*10+(d.toNat-48)) 0
theorem xWk (u:Nat):valD (Lib.decDigits u)=u:=by
 induction u using Nat.strongRecOn with
 | _ u A =>
  rw[Lib.decDigits];by_cases h:u<10
  ·rw[dif_pos h];simp only[valD,List.foldl_cons,List.foldl_nil,UInt8.toNat_ofNat'];omega
  ·rw[dif_neg h];have:=A (u / 10) (by omega);simp only[valD,List.foldl_append,List.foldl_cons,List.foldl_nil,UInt8.toNat_ofNat'] at this ⊢;rw[this];omega
theorem wZ8 {a b:Nat}(h:yW3 a=yW3 b):a=b:=by
 have h1:(120::Lib.decDigits a)=(120::Lib.decDigits b):=by
  have:=congrArg (λx:ByteArray=>x.data.toList) h;simpa[yW3] using this
 have h2:Lib.decDigits a=Lib.decDigits b:=by injection h1
 rw[<- xWk a,h2,xWk b]
theorem xYp {α:Type} [DecidableEq α]:∀(a b:List α),a.Nodup->(∀x∈a,x∈b)->a.length<=b.length
 | [],b,_,_=>Nat.zero_le _
 | x::a,b,G,F=>by
  have E:=F x (List.mem_cons_self ..);have A:=List.nodup_cons.1 G;have:=xYp a (b.erase x) A.2 (λy D=>(List.mem_erase_of_ne (by rintro rfl;exact A.1 D)).2 (F y (List.mem_cons_of_mem _ D)));rw[List.length_erase_of_mem E] at this;have J:0<b.length:=List.length_pos_of_mem E;simp only[List.length_cons];omega
theorem wYj (l:List ByteArray):∃k,1<=k/\k<=l.length+1/\yW3 k ∉ l:=by
 refine Classical.byContradiction λD=>?_;have A:∀k,1<=k->k<=l.length+1->yW3 k∈l:=λk h1 h2=>Classical.byContradiction λh=>D ⟨k,h1,h2,h⟩;have:=xYp ((List.range' 1 (l.length+1)).map yW3) l (by
   unfold List.Nodup;rw[List.pairwise_map];exact List.Pairwise.imp (λh G=>h (wZ8 G)) (List.nodup_range' (s:=1) (n:=l.length+1))) (λx E=>by
   obtain⟨k,F,rfl⟩:=List.mem_map.1 E;have:=List.mem_range'_1.1 F;exact A k (by omega) (by omega))
 simp at this;omega
noncomputable def yKq (l:List ByteArray):Nat:=Iv.least (λk=>1<=k/\yW3 k ∉ l)
theorem yYx (l:List ByteArray):1<=yKq l/\yKq l<=l.length+1/\yW3 (yKq l) ∉ l/\∀j,1<=j->j<yKq l->yW3 j∈l:=by
 obtain⟨k,h1,h2,E⟩:=wYj l;have A:=Iv.least_spec (p:=λk=>1<=k/\yW3 k ∉ l) ⟨k,h1,E⟩;refine⟨A.1.1,Nat.le_trans (A.2 k ⟨h1,E⟩) h2,A.1.2,λj G D=>Classical.byContradiction λF=>?_⟩;have:=A.2 j ⟨G,F⟩;unfold yKq at D;omega
theorem wJj {l:List ByteArray}{k:Nat}(h1:1<=k)(h2:yW3 k ∉ l)(A:∀j,1<=j->j<k->yW3 j∈l):yKq l=k:=by
 obtain⟨D,a2,a3,a4⟩:=yYx l;rcases Nat.lt_trichotomy (yKq l) k with h|h|h
 ·exact absurd (A _ D h) a3
 ·exact h
 ·exact absurd (a4 k h1 h) h2
theorem xJ3 {l m:List ByteArray}(h:∀x,x∈l↔x∈m):yKq l=yKq m:=by
 obtain⟨F,a2,a3,a4⟩:=yYx m;exact wJj F (λD=>a3 ((h _).1 D)) (λj E A=>(h _).2 (a4 j E A))
noncomputable def yJc (l:List ByteArray):ByteArray:=yW3 (yKq l)
theorem yGx {l m:List ByteArray}(h:∀x,x∈l↔x∈m):yJc l=yJc m:=by unfold yJc;rw[xJ3 h]
def memB (l:List ByteArray)(n:ByteArray):Bool:=l.any λx=>decide (x=n)
@[simp] theorem yXj {l:List ByteArray}{n:ByteArray}:memB l n=true↔n∈l:=by
 simp[memB]
@[simp] theorem zZc {l:List ByteArray}{n:ByteArray}:memB l n=false↔n ∉ l:=by
 rw[<- Bool.not_eq_true,yXj]
mutual
def frF:Fm->List ByteArray
 | .mk op m us sub=>yQk us++(if isQ op then (frFs sub).filter (λn=>!decide (n=m)) else frFs sub)
def frFs:List Fm->List ByteArray
 | []=>[]
 | a::l=>frF a++frFs l
end
theorem wQi (b:ByteArray->Nat)(m:ByteArray)(l:List ByteArray):yVi (incB b m) l=yVi b (l.filter (λn=>!decide (n=m))):=by
 unfold yVi;rw[List.filter_filter];refine List.filter_congr λn _=>?_;unfold incB;by_cases h:n=m<;>simp[h]
mutual
theorem xJg:∀(f:Fm)(b:ByteArray->Nat),zZk b f=yVi b (frF f)
 | .mk op m us sub,b=>by
  simp only[zZk,frF,yJ7];rw[zGp sub];split
  ·rw[wQi]
  ·rfl
theorem zGp:∀(l:List Fm)(b:ByteArray->Nat),yXo b l=yVi b (frFs l)
 | [],b=>by simp[yXo,frFs,yVi]
 | a::l,b=>by simp only[yXo,frFs,yJ7,xJg a b,zGp l b]
end
theorem zK8 (f:Fm):xVu f=frF f:=by
 unfold xVu;rw[xJg];unfold yVi;rw[List.filter_eq_self];intro a _;rfl
abbrev Sb:=List (ByteArray×Tm)
def yZa (l:Sb)(n:ByteArray):Option Tm:=(l.find? λp=>decide (p.1=n)).map (·.2)
def cntS (ps:Sb)(m:ByteArray)(fr:List ByteArray):Sb:=ps.filter λp=>memB fr p.1&&!decide (p.1=m)
def zGw (ps:Sb)(m:ByteArray)(fr:List ByteArray):Bool:=(cntS ps m fr).any λp=>memB (yQo p.2) m
def zQ0 (ps:Sb)(m:ByteArray)(fr:List ByteArray):List ByteArray:=fr++(cntS ps m fr).flatMap λp=>yQo p.2
noncomputable def yJk (ps:Sb)(m:ByteArray)(fr:List ByteArray):ByteArray×Sb :=
 if zGw ps m fr then (yJc (zQ0 ps m fr),cntS ps m fr++[(m,.mk true (yJc (zQ0 ps m fr)) [])]) else (m,cntS ps m fr)
mutual
noncomputable def yJn:Sb->Fm->Fm
 | ps,.mk op m us sub=>.mk op (if isQ op then (yJk ps m (frFs sub)).1 else m) (yZd (yZa ps) us) (yXu (if isQ op then (yJk ps m (frFs sub)).2 else ps) sub)
noncomputable def yXu:Sb->List Fm->List Fm
 | _,[]=>[]
 | ps,a::l=>yJn ps a::yXu ps l
end
theorem yK3 (ps:Sb):∀l m:List Fm,yXu ps (l++m)=yXu ps l++yXu ps m
 | [],m=>by simp[yXu]
 | a::l,m=>by simp only[List.cons_append,yXu,yK3 ps l m]
theorem yXt (ps:Sb):∀l:List Fm,(yXu ps l).length=l.length
 | []=>rfl
 | a::l=>by simp only[yXu,List.length_cons,yXt ps l]
inductive NlT where
 | bv (i:Nat)
 | fv (n:ByteArray)
 | ap (n:ByteArray) (l:List NlT)
inductive NlF where
 | mk (op:Nat) (n:ByteArray) (us:List NlT) (sub:List NlF)
def yGt:List ByteArray->ByteArray->Option Nat
 | [],_=>none
 | m::e,n=>if n=m then some e.length else yGt e n
def yKy (env:List ByteArray)(n:ByteArray):NlT:=match yGt env n with|some i=>.bv i|none=>.fv n
mutual
def db (env:List ByteArray):Tm->NlT
 | .mk true n _=>yKy env n
 | .mk false n l=>.ap n (dbs env l)
def dbs (env:List ByteArray):List Tm->List NlT
 | []=>[]
 | a::l=>db env a::dbs env l
end
mutual
def dbF:List ByteArray->Fm->NlF
 | env,.mk op m us sub=>.mk op (if isQ op then ⟨#[]⟩ else m) (dbs env us) (dbFs (if isQ op then m::env else env) sub)
def dbFs:List ByteArray->List Fm->List NlF
 | _,[]=>[]
 | env,a::l=>dbF env a::dbFs env l
end
theorem zK0:∀ {e:List ByteArray}{n:ByteArray}{i:Nat},yGt e n=some i->i<e.length
 | [],n,i,h=>by cases h
 | m::e,n,i,h=>by
  simp only[yGt] at h;split at h
  ·cases h;simp
  ·have:=zK0 h;simp only[List.length_cons];omega
theorem zGd {e:List ByteArray}{m n:ByteArray}:yKy (m::e) n=if n=m then .bv e.length else yKy e n:=by
 unfold yKy;simp only[yGt];by_cases h:n=m<;>simp[h]
theorem xYj {n:ByteArray}{l:List Tm}(h:(Tm.mk true n l).ok=true):l=[]:=by
 simp only[Tm.ok,bAt,List.isEmpty_iff] at h;exact h.1
theorem xYl {n:ByteArray}{l:List Tm}(h:(Tm.mk false n l).ok=true):yJt l=true:=by
 simp only[Tm.ok,bAt] at h;exact h.2
theorem yW1 {a:Tm}{l:List Tm}(h:yJt (a::l)=true):a.ok=true/\yJt l=true:=by
 simpa only[yJt,bAt] using h
theorem yV3 {a:Fm}{l:List Fm}(h:yVm (a::l)=true):a.ok=true/\yVm l=true:=by
 simpa only[yVm,bAt] using h
theorem yY1 {op:Nat}{m:ByteArray}{us:List Tm}{sub:List Fm}(h:(Fm.mk op m us sub).ok=true):yJt us=true/\yVm sub=true/\yZc op m us.length sub.length=true:=by
 simp only[Fm.ok,bAt] at h;exact⟨h.1.2,h.2,h.1.1⟩
theorem wWs {op:Nat}{m:ByteArray}{us:List Tm}{sub:List Fm}(D:isQ op=true)(h:(Fm.mk op m us sub).ok=true):us=[]/\yV4 m=true/\∃g,sub=[g]/\g.ok=true:=by
 obtain⟨h1,h2,F⟩:=yY1 h;have E:op=8\/op=9:=by simpa[isQ] using D
 have A:(yV4 m&&decide (us.length=0)&&decide (sub.length=1))=true:=by rcases E with rfl|rfl<;>exact F
 simp only[bAt,dTe] at A;refine⟨List.eq_nil_of_length_eq_zero A.1.2,A.1.1,?_⟩
 match sub,A.2,h2 with
 | [g],_,h2=>exact⟨g,rfl,(yV3 h2).1⟩
theorem zJs {ps:Sb}{q:ByteArray×Tm->Bool}{n:ByteArray}(h:∀u,q (n,u)=true):yZa (ps.filter q) n=yZa ps n:=by
 unfold yZa;rw[List.find?_filter];congr 2;funext p;by_cases hp:p.1=n
 ·obtain⟨a,u⟩:=p;simp only at hp;subst hp;simp[h u]
 ·simp[hp]
theorem zJt {ps:Sb}{q:ByteArray×Tm->Bool}{n:ByteArray}(h:∀u,q (n,u)=false):yZa (ps.filter q) n=none:=by
 unfold yZa;rw[List.find?_filter,Option.map_eq_none_iff,List.find?_eq_none];intro p _;by_cases hp:p.1=n
 ·obtain⟨a,u⟩:=p;simp only at hp;subst hp;simp[h u]
 ·simp[hp]
theorem yWq (ps A:Sb)(n:ByteArray):yZa (ps++A) n=(yZa ps n).or (yZa A n):=by
 unfold yZa;rw[List.find?_append];cases ps.find? _<;>rfl
theorem xXz {ps:Sb}{m n:ByteArray}{fr:List ByteArray}(A:n∈fr)(D:n≠m):yZa (cntS ps m fr) n=yZa ps n :=
 zJs λu=>by simp[A,D]
theorem zQ3 {ps:Sb}{m:ByteArray}{fr:List ByteArray}:yZa (cntS ps m fr) m=none :=
 zJt λu=>by simp
theorem xXy {ps:Sb}{n:ByteArray}{u:Tm}(h:yZa ps n=some u):(n,u)∈ps:=by
 unfold yZa at h;rw[Option.map_eq_some_iff] at h;obtain⟨⟨a,v⟩,h1,h2⟩:=h;have A:=List.find?_some h1;simp only[dTe] at A;simp only at h2;subst A h2;exact List.mem_of_find?_eq_some h1
end Go.Proofs.Tryz
namespace Go.Proofs.Tryz
open Go Go.Iv
theorem wQ4 {ps:Sb}{m:ByteArray}{fr:List ByteArray}{n:ByteArray}(D:n∈fr) :
  yZa (yJk ps m fr).2 n=if n=m then (if zGw ps m fr then some (.mk true (yJk ps m fr).1 []) else none) else yZa ps n:=by
 unfold yJk;by_cases A:n=m
 ·subst A;rw[if_pos rfl];split
  ·simp only[yWq,zQ3];simp[yZa]
  ·exact zQ3
 ·rw[if_neg A];split
  ·simp only[yWq,xXz D A];have:yZa [(m,Tm.mk true (yJc (zQ0 ps m fr)) [])] n=none:=by simp[yZa,Ne.symm A]
   rw[this];simp
  ·exact xXz D A
section
variable (ps:List Pc)
def HSz (b:ByteArray->Nat)(F:ByteArray->Option Tm)(n:ByteArray):Prop :=
 (if b n=0 then zXk ps n (1,1) else (1,1))=(((F n).getD (.mk true n [])).size,((F n).getD (.mk true n [])).deep)
mutual
theorem vZ9 (b:ByteArray->Nat)(F:ByteArray->Option Tm):∀t:Tm,t.ok=true->(∀n∈yQo t,HSz ps b F n)->psz ps b t=((yJi F t).size,(yJi F t).deep)
 | .mk true n l,h,A=>by
  obtain rfl:=xYj h;have h1:=A n (by simp[yQo]);unfold HSz at h1;simp only[psz,pszs,true_and,yJi];rw[h1];cases F n with
  | none=>rfl
  | some u=>rfl
 | .mk false n l,h,A=>by
  have:=xQ0 b F l (xYl h) (λn D=>A n (by simpa[yQo] using D));simp only[psz,bFt,false_and,if_false,yJi,Tm.size,Tm.deep,this]
theorem xQ0 (b:ByteArray->Nat)(F:ByteArray->Option Tm):∀l:List Tm,yJt l=true->(∀n∈yQk l,HSz ps b F n)->pszs ps b l=(yQa (yZd F l),yQl (yZd F l))
 | [],_,_=>rfl
 | a::l,h,D=>by
  simp only[pszs,yZd,yQa,yQl,vZ9 b F a (yW1 h).1 (λn A=>D n (by simp[yQk,A])),xQ0 b F l (yW1 h).2 (λn A=>D n (by simp[yQk,A]))]
end
theorem wVm {b:ByteArray->Nat}{D:Sb}{m:ByteArray}{fr:List ByteArray}{n:ByteArray}(E:n∈fr)(h:n≠m->HSz ps b (yZa D) n):HSz ps (incB b m) (yZa (yJk D m fr).2) n:=by
 unfold HSz at h ⊢;rw[wQ4 E];by_cases A:n=m
 ·subst A;simp only[incB,if_true];rw[if_neg (by omega)];split<;>rfl
 ·simp only[incB,if_neg A];exact h A
mutual
theorem xGa:∀(f:Fm)(A:Sb)(b:ByteArray->Nat),f.ok=true->(∀n∈frF f,HSz ps b (yZa A) n)->fsz ps b f=((yJn A f).size,(yJn A f).deep)
 | .mk op m us sub,A,b,E,h=>by
  obtain⟨h1,h2,_⟩:=yY1 E;simp only[frF] at h;simp only[fsz,yJn,Fm.size,Fm.deep,xQ0 ps b (yZa A) us h1 (λn D=>h n (by simp[D]))];by_cases F:isQ op=true
  ·simp only[F,if_true] at h ⊢;rw[zVv sub _ _ h2 (λn D=>wVm ps D (λG=>h n (by simp[D,G])))]
  ·simp only[F,bFt,if_false] at h ⊢;rw[zVv sub A b h2 (λn D=>h n (by simp[D]))]
theorem zVv:∀(l:List Fm)(A:Sb)(b:ByteArray->Nat),yVm l=true->(∀n∈frFs l,HSz ps b (yZa A) n)->fszs ps b l=(yQ9 (yXu A l),yQu (yXu A l))
 | [],_,_,_,_=>rfl
 | a::l,A,b,D,h=>by
  simp only[frFs] at h;simp only[fszs,yXu,yQ9,yQu,xGa a A b (yV3 D).1 (λn E=>h n (by simp[E])),zVv l A b (yV3 D).2 (λn E=>h n (by simp[E]))]
end
end
def toS (ps:List Pc):Sb:=ps.map λp=>(p.nm,p.tm)
theorem wWm (ps:List Pc):putF ps=yZa (toS ps):=by
 funext n;unfold putF yZa toS;rw[List.find?_map];simp only[Option.map_map];rfl
theorem zGh:∀(ps:List Pc)(z:Nat×Nat)(n:ByteArray),(ps.map Pc.nm).Nodup->zXk ps n z=match yZa (toS ps) n with|some u=>(u.size,u.deep)|none=>z
 | [],z,n,_=>rfl
 | p::ps,z,n,h=>by
  simp only[List.map_cons,List.nodup_cons] at h;have A:=zGh ps (if p.nm=n then (p.tm.size,p.tm.deep) else z) n h.2;have G:zXk (p::ps) n z=zXk ps n (if p.nm=n then (p.tm.size,p.tm.deep) else z):=rfl;rw[G,A];have hc:yZa (toS (p::ps)) n=if p.nm=n then some p.tm else yZa (toS ps) n:=by
   unfold yZa toS;rw[List.map_cons,List.find?_cons];by_cases hp:p.nm=n<;>simp[hp]
  rw[hc];by_cases hp:p.nm=n
  ·rw[if_pos hp,if_pos hp];have:yZa (toS ps) n=none:=by
    cases E:yZa (toS ps) n with
    | none=>rfl
    | some u =>
     have:=xXy E;unfold toS at this;obtain⟨q,D,F⟩:=List.mem_map.1 this;cases F;exact absurd (List.mem_map.2 ⟨q,D,hp.symm⟩) h.1
   rw[this]
  ·rw[if_neg hp,if_neg hp]
theorem HSz0 {ps:List Pc}(h:(ps.map Pc.nm).Nodup)(n:ByteArray):HSz ps (λ_=>0) (yZa (toS ps)) n:=by
 unfold HSz;rw[if_pos rfl,zGh ps _ n h];cases yZa (toS ps) n<;>rfl
theorem vVv {ps:List Pc}(h:(ps.map Pc.nm).Nodup){f:Fm}(A:f.ok=true):fsz ps (λ_=>0) f=((yJn (toS ps) f).size,(yJn (toS ps) f).deep) :=
 xGa ps f (toS ps) _ A (λn _=>HSz0 h n)
theorem yYc:∀(k u:Nat),u<10 ^ (k+1)->Lib.nDigits u<=k+1
 | 0,u,h=>by rw[Lib.nDigits_small (by simpa using h)];omega
 | k+1,u,h=>by
  by_cases A:u<10
  ·rw[Lib.nDigits_small A];omega
  ·rw[Lib.nDigits_big A];have:=yYc k (u / 10) (by rw[Nat.pow_succ] at h;omega);omega
mutual
theorem yV5:∀t:Tm,(yQo t).length<=t.size
 | .mk true n l=>by have:=yJu l;simp only[yQo,List.length_cons,Tm.size];omega
 | .mk false n l=>by have:=yJu l;simp only[yQo,Tm.size];omega
theorem yJu:∀l:List Tm,(yQk l).length<=yQa l
 | []=>Nat.le_refl _
 | a::l=>by have:=yV5 a;have:=yJu l;simp only[yQk,lLa,yQa];omega
end
mutual
theorem zJk:∀f:Fm,(frF f).length<=f.size
 | .mk op m us sub=>by
  have h1:=yJu us;have h2:=xQm sub;simp only[frF,lLa,Fm.size];split
  ·have:=List.length_filter_le (λn=>!decide (n=m)) (frFs sub);omega
  ·omega
theorem xQm:∀l:List Fm,(frFs l).length<=yQ9 l
 | []=>Nat.le_refl _
 | a::l=>by have:=zJk a;have:=xQm l;simp only[frFs,lLa,yQ9];omega
end
def wS:Sb->Nat
 | []=>0
 | p::l=>p.2.size+wS l
theorem xZ9:∀l m:Sb,wS (l++m)=wS l+wS m
 | [],m=>by simp[wS]
 | a::l,m=>by simp only[List.cons_append,wS,xZ9 l m];omega
theorem zQu (q:ByteArray×Tm->Bool):∀l:Sb,wS (l.filter q)<=wS l
 | []=>Nat.le_refl _
 | a::l=>by
  have:=zQu q l;rw[List.filter_cons];split
  ·simp only[wS];omega
  ·simp only[wS];omega
theorem wKb:∀l:Sb,(l.flatMap λp=>yQo p.2).length<=wS l
 | []=>Nat.le_refl _
 | a::l=>by
  have:=wKb l;have:=yV5 a.2;simp only[List.flatMap_cons,lLa,wS];omega
theorem wVv (ps:Sb)(m:ByteArray)(fr:List ByteArray):(zQ0 ps m fr).length<=fr.length+wS ps:=by
 have:=wKb (cntS ps m fr);have:=zQu (λp=>memB fr p.1&&!decide (p.1=m)) ps;unfold zQ0 cntS at *;simp only[lLa];omega
theorem wVq (ps:Sb)(m:ByteArray)(fr:List ByteArray):wS (yJk ps m fr).2<=wS ps+1:=by
 have:=zQu (λp=>memB fr p.1&&!decide (p.1=m)) ps;unfold yJk cntS;split
 ·simp only[xZ9,wS,Tm.size,yQa];omega
 ·simp only;omega
end Go.Proofs.Tryz
namespace Go.Proofs.Tryz
open Go Go.Iv
noncomputable def yKz (f g:Fm):Bool:=f.right&&g.right&&eqB (dbF [] f) (dbF [] g)
theorem xYs {e:List ByteArray}{n:ByteArray}{l:Nat}(h:e.length<=l):yKy e n≠.bv l:=by
 unfold yKy;split
 ·rename_i i D;have:=zK0 D;intro A;injection A;omega
 ·intro A;cases A
theorem wQ5 {ls rs:List ByteArray}{l r n D:ByteArray}(A:ls.length=rs.length):yKy (l::ls) n=yKy (r::rs) D↔(if n=l\/D=r then n=l/\D=r else yKy ls n=yKy rs D):=by
 rw[zGd,zGd];by_cases h1:n=l
 ·by_cases h2:D=r
  ·simp[h1,h2,A]
  ·simp only[h1,h2,if_true,true_or,and_false,iff_false,if_false];exact λh=>xYs (Nat.le_of_eq A.symm) h.symm
 ·by_cases h2:D=r
  ·simp only[h1,h2,if_true,or_true,false_and,iff_false,if_false];exact λh=>xYs (Nat.le_of_eq A) h
  ·simp[h1,h2]
theorem xYt {e:List ByteArray}{n m:ByteArray}{l:List NlT}:yKy e n≠.ap m l:=by
 unfold yKy;split<;>intro h<;>cases h
theorem wJ3 {n:ByteArray}:yKy [] n=.fv n:=rfl
abbrev Ar:=List (ByteArray×ByteArray)
def renF (ar:Ar)(n:ByteArray):Option Tm:=(ar.find? λp=>decide (p.1=n)).map λp=>.mk true p.2 []
mutual
noncomputable def zJr (A:List ByteArray):Ar->Fm->Fm
 | ar,.mk op m us sub=>.mk op (if isQ op then yJc (A++ar.map (·.2)) else m) (yZd (renF ar) us) (yKo A (if isQ op then (m,yJc (A++ar.map (·.2)))::ar else ar) sub)
noncomputable def yKo (A:List ByteArray):Ar->List Fm->List Fm
 | _,[]=>[]
 | ar,a::l=>zJr A ar a::yKo A ar l
end
theorem yK2 (A:List ByteArray)(ar:Ar):∀l m:List Fm,yKo A ar (l++m)=yKo A ar l++yKo A ar m
 | [],m=>by simp[yKo]
 | a::l,m=>by simp only[List.cons_append,yKo,yK2 A ar l m]
theorem yXc (A:List ByteArray)(ar:Ar):∀l:List Fm,(yKo A ar l).length=l.length
 | []=>rfl
 | a::l=>by simp only[yKo,List.length_cons,yXc A ar l]
noncomputable def yJb (f:Fm):Fm:=zJr (frF f) [] f
theorem wWe {ar:Ar}{n:ByteArray}{u:Tm}(h:renF ar n=some u):u.size=1/\u.deep=1:=by
 unfold renF at h;rw[Option.map_eq_some_iff] at h;obtain⟨p,_,rfl⟩:=h;exact⟨rfl,rfl⟩
theorem yK1 {f:Fm}(h:f.right=true):f.ok=true/\f.size<=400/\f.deep<=40:=by
 simp only[Fm.right,bAt,dTe] at h;exact⟨h.1.1,h.1.2,h.2⟩
