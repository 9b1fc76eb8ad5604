/- Putting, renaming, normal forms: plain d -/
import Derived.Test.YtddfdpbibloljaaGreatDoorJT
import Derived.Lib.ItoaNum
set_option linter.all false
namespace Go.Proofs.Tryz
open Go Go.Iv
def yY1 (k:Nat):ByteArray:=⟨(120::Lib.decDigits k).toArray⟩
def valD (l:List UInt8):Nat:=l.foldl (λa d=>a*10+(d.toNat-48)) 0
theorem xKx (u:Nat):valD (Lib.decDigits u)=u:=by
 induction u using Nat.strongRecOn with
 | _ u ih =>
  rw[Lib.decDigits];by_cases h:u<10
  ·rw[dif_pos h];simp only[valD,List.foldl_cons,List.foldl_nil,UInt8.toNat_ofNat'];omega
  ·rw[dif_neg h];have:=ih (u / 10) (by omega);simp only[valD,List.foldl_append,List.foldl_cons,List.foldl_nil,UInt8.toNat_ofNat'] at this ⊢;grind
theorem xUk {a b:Nat}(h:yY1 a=yY1 b):a=b:=by
 have h1:(120::Lib.decDigits a)=(120::Lib.decDigits b):=by
  have:=congrArg (λx:ByteArray=>x.data.toList) h;simpa[yY1] using this
 have h2:Lib.decDigits a=Lib.decDigits b:=by injection h1
 rw[<- xKx a,h2,xKx b]
theorem xVy {α:Type} [DecidableEq α]:∀(a b:List α),a.Nodup->(∀x∈a,x∈b)->a.length<=b.length
 | [],b,_,_=>Nat.zero_le _
 | x::a,b,hn,hs=>by
  have hx:=hs x (List.mem_cons_self ..);have hn':=List.nodup_cons.1 hn;have:=xVy a (b.erase x) hn'.2 (λy hy=>(List.mem_erase_of_ne (by rintro rfl;exact hn'.1 hy)).2 (hs y (List.mem_cons_of_mem _ hy)));grind
theorem wVx (l:List ByteArray):∃k,1<=k/\k<=l.length+1/\yY1 k ∉ l:=by
 refine Classical.byContradiction λhne=>?_;have hall:∀k,1<=k->k<=l.length+1->yY1 k∈l:=λk h1 h2=>Classical.byContradiction λh=>hne ⟨k,h1,h2,h⟩;have:=xVy ((List.range' 1 (l.length+1)).map yY1) l (by
   unfold List.Nodup;rw[List.pairwise_map];exact List.Pairwise.imp (λh he=>h (xUk he)) (List.nodup_range' (s:=1) (n:=l.length+1))) (λx hx=>by
   obtain⟨k,hk,rfl⟩:=List.mem_map.1 hx;have:=List.mem_range'_1.1 hk;exact hall k (by omega) (by omega))
 grind
noncomputable def zX7 (l:List ByteArray):Nat:=Iv.least (λk=>1<=k/\yY1 k ∉ l)
theorem xJr (l:List ByteArray):1<=zX7 l/\zX7 l<=l.length+1/\yY1 (zX7 l) ∉ l/\∀j,1<=j->j<zX7 l->yY1 j∈l:=by
 obtain⟨k,h1,h2,h3⟩:=wVx l;have hs:=Iv.least_spec (p:=λk=>1<=k/\yY1 k ∉ l) ⟨k,h1,h3⟩;refine⟨hs.1.1,Nat.le_trans (hs.2 k ⟨h1,h3⟩) h2,hs.1.2,λj hj hlt=>Classical.byContradiction λhn=>?_⟩;have:=hs.2 j ⟨hj,hn⟩;unfold zX7 at hlt;omega
noncomputable def zX6 (l:List ByteArray):ByteArray:=yY1 (zX7 l)
def memB (l:List ByteArray)(n:ByteArray):Bool:=l.any λx=>decide (x=n)
@[simp] theorem yJm {l:List ByteArray}{n:ByteArray}:memB l n=true↔n∈l:=by
 simp[memB]
@[simp] theorem zXp {l:List ByteArray}{n:ByteArray}:memB l n=false↔n ∉ l:=by
 rw[<- Bool.not_eq_true,yJm]
mutual
def frF:Fm->List ByteArray
 | .mk op m us sub=>yQr us++(if isQ op then (frFs sub).filter (λn=>!decide (n=m)) else frFs sub)
def frFs:List Fm->List ByteArray
 | []=>[]
 | a::l=>frF a++frFs l
end
theorem xGr (b:ByteArray->Nat)(m:ByteArray)(l:List ByteArray):yKw (incB b m) l=yKw b (l.filter (λn=>!decide (n=m))):=by
 unfold yKw;rw[List.filter_filter];refine List.filter_congr λn _=>?_;unfold incB;grind
mutual
theorem xZe:∀(f:Fm)(b:ByteArray->Nat),zQi b f=yKw b (frF f)
 | .mk op m us sub,b=>by
  simp only[zQi,frF,yXo];rw[zY2 sub];split
  ·rw[xGr]
  ·rfl
theorem zY2:∀(l:List Fm)(b:ByteArray->Nat),yX1 b l=yKw b (frFs l)
 | [],b=>by simp[yX1,frFs,yKw]
 | a::l,b=>by simp only[yX1,frFs,yXo,xZe a b,zY2 l b]
end
theorem zGv (f:Fm):xGs f=frF f:=by
 unfold xGs;rw[xZe];unfold yKw;rw[List.filter_eq_self];intro a _;rfl
abbrev Sb:=List (ByteArray×Tm)
def yXq (l:Sb)(n:ByteArray):Option Tm:=(l.find? λp=>decide (p.1=n)).map (·.2)
def cntS (ps:Sb)(m:ByteArray)(fr:List ByteArray):Sb:=ps.filter λp=>memB fr p.1&&!decide (p.1=m)
def xZt (ps:Sb)(m:ByteArray)(fr:List ByteArray):Bool:=(cntS ps m fr).any λp=>memB (yZ2 p.2) m
def zQ0 (ps:Sb)(m:ByteArray)(fr:List ByteArray):List ByteArray:=fr++(cntS ps m fr).flatMap λp=>yZ2 p.2
noncomputable def yVi (ps:Sb)(m:ByteArray)(fr:List ByteArray):ByteArray×Sb :=
 if xZt ps m fr then (zX6 (zQ0 ps m fr),cntS ps m fr++[(m,.mk true (zX6 (zQ0 ps m fr)) [])]) else (m,cntS ps m fr)
mutual
noncomputable def yU0:Sb->Fm->Fm
 | ps,.mk op m us sub=>.mk op (if isQ op then (yVi ps m (frFs sub)).1 else m) (yJg (yXq ps) us) (yV4 (if isQ op then (yVi ps m (frFs sub)).2 else ps) sub)
noncomputable def yV4:Sb->List Fm->List Fm
 | _,[]=>[]
 | ps,a::l=>yU0 ps a::yV4 ps l
end
theorem yYc (ps:Sb):∀l m:List Fm,yV4 ps (l++m)=yV4 ps l++yV4 ps m
 | [],m=>by simp[yV4]
 | a::l,m=>by simp only[List.cons_append,yV4,yYc ps l m]
theorem yK5 (ps:Sb):∀l:List Fm,(yV4 ps l).length=l.length
 | []=>rfl
 | a::l=>by simp only[yV4,List.length_cons,yK5 ps l]
inductive NlT where
 | bv (i:Nat)
 | fv (n:ByteArray)
 | ap (n:ByteArray) (l:List NlT)
inductive NlF where
 | mk (op:Nat) (n:ByteArray) (us:List NlT) (sub:List NlF)
def wZq:List ByteArray->ByteArray->Option Nat
 | [],_=>none
 | m::e,n=>if n=m then some e.length else wZq e n
def yVq (env:List ByteArray)(n:ByteArray):NlT:=match wZq env n with|some i=>.bv i|none=>.fv n
mutual
def db (env:List ByteArray):Tm->NlT
 | .mk true n _=>yVq env n
 | .mk false n l=>.ap n (dbs env l)
def dbs (env:List ByteArray):List Tm->List NlT
 | []=>[]
 | a::l=>db env a::dbs env l
end
mutual
def dbF:List ByteArray->Fm->NlF
 | env,.mk op m us sub=>.mk op (if isQ op then ⟨#[]⟩ else m) (dbs env us) (dbFs (if isQ op then m::env else env) sub)
def dbFs:List ByteArray->List Fm->List NlF
 | _,[]=>[]
 | env,a::l=>dbF env a::dbFs env l
end
theorem xW4:∀ {e:List ByteArray}{n:ByteArray}{i:Nat},wZq e n=some i->i<e.length
 | [],n,i,h=>by cases h
 | m::e,n,i,h=>by
  simp only[wZq] at h;split at h
  ·cases h;simp
  ·have:=xW4 h;simp only[List.length_cons];omega
theorem zWy {e:List ByteArray}{m n:ByteArray}:yVq (m::e) n=if n=m then .bv e.length else yVq e n:=by
 unfold yVq;simp only[wZq];grind
theorem xVs {n:ByteArray}{l:List Tm}(h:(Tm.mk true n l).ok=true):l=[]:=by
 simp only[Tm.ok,bAt,List.isEmpty_iff] at h;exact h.1
theorem xVt {n:ByteArray}{l:List Tm}(h:(Tm.mk false n l).ok=true):yG3 l=true:=by
 simp only[Tm.ok,bAt] at h;exact h.2
theorem yVe {a:Tm}{l:List Tm}(h:yG3 (a::l)=true):a.ok=true/\yG3 l=true:=by
 simpa only[yG3,bAt] using h
theorem yVf {a:Fm}{l:List Fm}(h:yGy (a::l)=true):a.ok=true/\yGy l=true:=by
 simpa only[yGy,bAt] using h
theorem zGh {op:Nat}{m:ByteArray}{us:List Tm}{sub:List Fm}(h:(Fm.mk op m us sub).ok=true):yG3 us=true/\yGy sub=true/\yKs op m us.length sub.length=true:=by
 simp only[Fm.ok,bAt] at h;exact⟨h.1.2,h.2,h.1.1⟩
theorem zXf {ps:Sb}{q:ByteArray×Tm->Bool}{n:ByteArray}(h:∀u,q (n,u)=true):yXq (ps.filter q) n=yXq ps n:=by
 unfold yXq;grind
theorem zXg {ps:Sb}{q:ByteArray×Tm->Bool}{n:ByteArray}(h:∀u,q (n,u)=false):yXq (ps.filter q) n=none:=by
 unfold yXq;grind
theorem zX4 (ps qs:Sb)(n:ByteArray):yXq (ps++qs) n=(yXq ps n).or (yXq qs n):=by
 unfold yXq;grind
theorem xZ2 {ps:Sb}{m n:ByteArray}{fr:List ByteArray}(hn:n∈fr)(hm:n≠m):yXq (cntS ps m fr) n=yXq ps n :=
 zXf λu=>by simp[hn,hm]
theorem yU6 {ps:Sb}{m:ByteArray}{fr:List ByteArray}:yXq (cntS ps m fr) m=none :=
 zXg λu=>by simp
theorem xZ1 {ps:Sb}{n:ByteArray}{u:Tm}(h:yXq ps n=some u):(n,u)∈ps:=by
 unfold yXq at h;rw[Option.map_eq_some_iff] at h;grind
end Go.Proofs.Tryz
namespace Go.Proofs.Tryz
open Go Go.Iv
theorem xG9 {ps:Sb}{m:ByteArray}{fr:List ByteArray}{n:ByteArray}(hn:n∈fr) :
  yXq (yVi ps m fr).2 n=if n=m then (if xZt ps m fr then some (.mk true (yVi ps m fr).1 []) else none) else yXq ps n:=by
 unfold yVi;by_cases hnm:n=m
 ·subst hnm;rw[if_pos rfl];split
  ·simp only[zX4,yU6];simp[yXq]
  ·exact yU6
 ·rw[if_neg hnm];split
  ·simp only[zX4,xZ2 hn hnm];have:yXq [(m,Tm.mk true (zX6 (zQ0 ps m fr)) [])] n=none:=by simp[yXq,Ne.symm hnm]
   rw[this];simp
  ·exact xZ2 hn hnm
section
variable (ps:List Pc)
def HSz (b:ByteArray->Nat)(F:ByteArray->Option Tm)(n:ByteArray):Prop :=
 (if b n=0 then zZd ps n (1,1) else (1,1))=(((F n).getD (.mk true n [])).size,((F n).getD (.mk true n [])).deep)
mutual
theorem wUi (b:ByteArray->Nat)(F:ByteArray->Option Tm):∀t:Tm,t.ok=true->(∀n∈yZ2 t,HSz ps b F n)->psz ps b t=((yGz F t).size,(yGz F t).deep)
 | .mk true n l,h,hn=>by
  obtain rfl:=xVs h;have h1:=hn n (by simp[yZ2]);unfold HSz at h1;simp only[psz,pszs,true_and,yGz];rw[h1];cases F n with
  | none=>rfl
  | some u=>rfl
 | .mk false n l,h,hn=>by
  have:=zGc b F l (xVt h) (λn hm=>hn n (by simpa[yZ2] using hm));simp only[psz,bFt,false_and,if_false,yGz,Tm.size,Tm.deep,this]
theorem zGc (b:ByteArray->Nat)(F:ByteArray->Option Tm):∀l:List Tm,yG3 l=true->(∀n∈yQr l,HSz ps b F n)->pszs ps b l=(yQh (yJg F l),yQv (yJg F l))
 | [],_,_=>rfl
 | a::l,h,hn=>by
  simp only[pszs,yJg,yQh,yQv,wUi b F a (yVe h).1 (λn hm=>hn n (by simp[yQr,hm])),zGc b F l (yVe h).2 (λn hm=>hn n (by simp[yQr,hm]))]
end
theorem wK6 {b:ByteArray->Nat}{qs:Sb}{m:ByteArray}{fr:List ByteArray}{n:ByteArray}(hn:n∈fr)(h:n≠m->HSz ps b (yXq qs) n):HSz ps (incB b m) (yXq (yVi qs m fr).2) n:=by
 unfold HSz at h ⊢;rw[xG9 hn];by_cases hnm:n=m
 ·subst hnm;simp only[incB,if_true];rw[if_neg (by omega)];split<;>rfl
 ·simp only[incB,if_neg hnm];exact h hnm
mutual
theorem xWn:∀(f:Fm)(qs:Sb)(b:ByteArray->Nat),f.ok=true->(∀n∈frF f,HSz ps b (yXq qs) n)->fsz ps b f=((yU0 qs f).size,(yU0 qs f).deep)
 | .mk op m us sub,qs,b,hok,h=>by
  obtain⟨h1,h2,_⟩:=zGh hok;simp only[frF] at h;simp only[fsz,yU0,Fm.size,Fm.deep,zGc ps b (yXq qs) us h1 (λn hn=>h n (by simp[hn]))];by_cases hq:isQ op=true
  ·simp only[hq,if_true] at h ⊢;rw[zKn sub _ _ h2 (λn hn=>wK6 ps hn (λhm=>h n (by simp[hn,hm])))]
  ·simp only[hq,bFt,if_false] at h ⊢;rw[zKn sub qs b h2 (λn hn=>h n (by simp[hn]))]
theorem zKn:∀(l:List Fm)(qs:Sb)(b:ByteArray->Nat),yGy l=true->(∀n∈frFs l,HSz ps b (yXq qs) n)->fszs ps b l=(yQ9 (yV4 qs l),yZ4 (yV4 qs l))
 | [],_,_,_,_=>rfl
 | a::l,qs,b,hok,h=>by
  simp only[frFs] at h;simp only[fszs,yV4,yQ9,yZ4,xWn a qs b (yVf hok).1 (λn hn=>h n (by simp[hn])),zKn l qs b (yVf hok).2 (λn hn=>h n (by simp[hn]))]
end
end
def toS (ps:List Pc):Sb:=ps.map λp=>(p.nm,p.tm)
theorem wVb (ps:List Pc):putF ps=yXq (toS ps):=by
 funext n;unfold putF yXq toS;rw[List.find?_map];simp only[Option.map_map];rfl
theorem zY0:∀(ps:List Pc)(z:Nat×Nat)(n:ByteArray),(ps.map Pc.nm).Nodup->zZd ps n z=match yXq (toS ps) n with|some u=>(u.size,u.deep)|none=>z
 | [],z,n,_=>rfl
 | p::ps,z,n,h=>by
  simp only[List.map_cons,List.nodup_cons] at h;have ih:=zY0 ps (if p.nm=n then (p.tm.size,p.tm.deep) else z) n h.2;have h0:zZd (p::ps) n z=zZd ps n (if p.nm=n then (p.tm.size,p.tm.deep) else z):=rfl;rw[h0,ih];have hc:yXq (toS (p::ps)) n=if p.nm=n then some p.tm else yXq (toS ps) n:=by
   unfold yXq toS;grind
  rw[hc];by_cases hp:p.nm=n
  ·rw[if_pos hp,if_pos hp];have:yXq (toS ps) n=none:=by
    cases hl:yXq (toS ps) n with
    | none=>rfl
    | some u =>
     have:=xZ1 hl;unfold toS at this;grind
   rw[this]
  ·grind
theorem HSz0 {ps:List Pc}(h:(ps.map Pc.nm).Nodup)(n:ByteArray):HSz ps (λ_=>0) (yXq (toS ps)) n:=by
 unfold HSz;rw[if_pos rfl,zY0 ps _ n h];cases yXq (toS ps) n<;>rfl
theorem vV2 {ps:List Pc}(h:(ps.map Pc.nm).Nodup){f:Fm}(hf:f.ok=true):fsz ps (λ_=>0) f=((yU0 (toS ps) f).size,(yU0 (toS ps) f).deep) :=
 xWn ps f (toS ps) _ hf (λn _=>HSz0 h n)
theorem zZ5:∀(k u:Nat),u<10 ^ (k+1)->Lib.nDigits u<=k+1
 | 0,u,h=>by rw[Lib.nDigits_small (by simpa using h)];omega
 | k+1,u,h=>by
  by_cases hu:u<10
  ·rw[Lib.nDigits_small hu];omega
  ·rw[Lib.nDigits_big hu];have:=zZ5 k (u / 10) (by rw[Nat.pow_succ] at h;omega);omega
mutual
theorem zWv:∀t:Tm,(yZ2 t).length<=t.size
 | .mk true n l=>by have:=yY9 l;simp only[yZ2,List.length_cons,Tm.size];omega
 | .mk false n l=>by have:=yY9 l;simp only[yZ2,Tm.size];omega
theorem yY9:∀l:List Tm,(yQr l).length<=yQh l
 | []=>Nat.le_refl _
 | a::l=>by have:=zWv a;have:=yY9 l;simp only[yQr,lLa,yQh];omega
end
mutual
theorem wXo:∀f:Fm,(frF f).length<=f.size
 | .mk op m us sub=>by
  have h1:=yY9 us;have h2:=xK3 sub;simp only[frF,lLa,Fm.size];grind
theorem xK3:∀l:List Fm,(frFs l).length<=yQ9 l
 | []=>Nat.le_refl _
 | a::l=>by have:=wXo a;have:=xK3 l;simp only[frFs,lLa,yQ9];omega
end
def wS:Sb->Nat
 | []=>0
 | p::l=>p.2.size+wS l
theorem zUo:∀l m:Sb,wS (l++m)=wS l+wS m
 | [],m=>by simp[wS]
 | a::l,m=>by simp only[List.cons_append,wS,zUo l m];omega
theorem yUt (q:ByteArray×Tm->Bool):∀l:Sb,wS (l.filter q)<=wS l
 | []=>Nat.le_refl _
 | a::l=>by
  have:=yUt q l;rw[List.filter_cons];split
  ·simp only[wS];omega
  ·simp only[wS];omega
theorem wXr:∀l:Sb,(l.flatMap λp=>yZ2 p.2).length<=wS l
 | []=>Nat.le_refl _
 | a::l=>by
  have:=wXr l;have:=zWv a.2;simp only[List.flatMap_cons,lLa,wS];omega
theorem wKm (ps:Sb)(m:ByteArray)(fr:List ByteArray):(zQ0 ps m fr).length<=fr.length+wS ps:=by
 have:=wXr (cntS ps m fr);have:=yUt (λp=>memB fr p.1&&!decide (p.1=m)) ps;unfold zQ0 cntS at *;grind
theorem wKe (ps:Sb)(m:ByteArray)(fr:List ByteArray):wS (yVi ps m fr).2<=wS ps+1:=by
 have:=yUt (λp=>memB fr p.1&&!decide (p.1=m)) ps;unfold yVi cntS;split
 ·simp only[zUo,wS,Tm.size,yQh];omega
 ·grind
end Go.Proofs.Tryz
namespace Go.Proofs.Tryz
open Go Go.Iv
noncomputable def zYf (f g:Fm):Bool:=f.right&&g.right&&eqB (dbF [] f) (dbF [] g)
theorem xW2 {e:List ByteArray}{n:ByteArray}{l:Nat}(h:e.length<=l):yVq e n≠.bv l:=by
 unfold yVq;split
 ·rename_i i hi;have:=xW4 hi;grind
 ·grind
theorem xGa {ls rs:List ByteArray}{l r n n':ByteArray}(hlen:ls.length=rs.length):yVq (l::ls) n=yVq (r::rs) n'↔(if n=l\/n'=r then n=l/\n'=r else yVq ls n=yVq rs n'):=by
 rw[zWy,zWy];by_cases h1:n=l
 ·by_cases h2:n'=r
  ·grind
  ·simp only[h1,h2,if_true,true_or,and_false,iff_false,if_false];exact λh=>xW2 (Nat.le_of_eq hlen.symm) h.symm
 ·by_cases h2:n'=r
  ·simp only[h1,h2,if_true,or_true,false_and,iff_false,if_false];exact λh=>xW2 (Nat.le_of_eq hlen) h
  ·simp[h1,h2]
theorem xW3 {e:List ByteArray}{n m:ByteArray}{l:List NlT}:yVq e n≠.ap m l:=by
 unfold yVq;split<;>intro h<;>cases h
theorem wZp {n:ByteArray}:yVq [] n=.fv n:=rfl
abbrev Ar:=List (ByteArray×ByteArray)
theorem yGq {f:Fm}(h:f.right=true):f.ok=true/\f.size<=400/\f.deep<=40:=by
 simp only[Fm.right,bAt,dTe] at h;exact⟨h.1.1,h.1.2,h.2⟩
