/- Putting, renaming, normal forms: plain d -/
import Derived.Test.YtddfdpbibloljaaGreatDoorJT
import Derived.Lib.ItoaNum
set_option linter.all false
namespace Go.Proofs.Tryz
open Go Go.Iv
def yWn (k:Nat):ByteArray:=⟨(120::Lib.decDigits k).toArray⟩
def valD (l:List UInt8):Nat:=l.foldl (λa d=>a*10+(d.toNat-48)) 0
theorem xKh (u:Nat):valD (Lib.decDigits u)=u:=by
 induction u using Nat.strongRecOn with
 | _ u ih =>
  rw[Lib.decDigits];by_cases h:u<10
  ·rw[dif_pos h];simp only[valD,List.foldl_cons,List.foldl_nil,UInt8.toNat_ofNat'];omega
  ·rw[dif_neg h];have:=ih (u / 10) (by omega);simp only[valD,List.foldl_append,List.foldl_cons,List.foldl_nil,UInt8.toNat_ofNat'] at this ⊢;grind
theorem xUd {a b:Nat}(h:yWn a=yWn b):a=b:=by
 have h1:(120::Lib.decDigits a)=(120::Lib.decDigits b):=by
  have:=congrArg (λx:ByteArray=>x.data.toList) h;simpa[yWn] using this
 have h2:Lib.decDigits a=Lib.decDigits b:=by injection h1
 rw[<- xKh a,h2,xKh b]
theorem xVn {α:Type} [DecidableEq α]:∀(a b:List α),a.Nodup->(∀x∈a,x∈b)->a.length<=b.length
 | [],b,_,_=>Nat.zero_le _
 | x::a,b,hn,hs=>by
  have hx:=hs x (List.mem_cons_self ..);have hn':=List.nodup_cons.1 hn;have:=xVn a (b.erase x) hn'.2 (λy hy=>(List.mem_erase_of_ne (by rintro rfl;exact hn'.1 hy)).2 (hs y (List.mem_cons_of_mem _ hy)));grind
theorem wVv (l:List ByteArray):∃k,1<=k/\k<=l.length+1/\yWn k ∉ l:=by
 refine Classical.byContradiction λhne=>?_;have hall:∀k,1<=k->k<=l.length+1->yWn k∈l:=λk h1 h2=>Classical.byContradiction λh=>hne ⟨k,h1,h2,h⟩;have:=xVn ((List.range' 1 (l.length+1)).map yWn) l (by
   unfold List.Nodup;rw[List.pairwise_map];exact List.Pairwise.imp (λh he=>h (xUd he)) (List.nodup_range' (s:=1) (n:=l.length+1))) (λx hx=>by
   obtain⟨k,hk,rfl⟩:=List.mem_map.1 hx;have:=List.mem_range'_1.1 hk;exact hall k (by omega) (by omega))
 grind
noncomputable def zX1 (l:List ByteArray):Nat:=Iv.least (λk=>1<=k/\yWn k ∉ l)
theorem xJa (l:List ByteArray):1<=zX1 l/\zX1 l<=l.length+1/\yWn (zX1 l) ∉ l/\∀j,1<=j->j<zX1 l->yWn j∈l:=by
 obtain⟨k,h1,h2,h3⟩:=wVv l;have hs:=Iv.least_spec (p:=λk=>1<=k/\yWn k ∉ l) ⟨k,h1,h3⟩;refine⟨hs.1.1,Nat.le_trans (hs.2 k ⟨h1,h3⟩) h2,hs.1.2,λj hj hlt=>Classical.byContradiction λhn=>?_⟩;have:=hs.2 j ⟨hj,hn⟩;unfold zX1 at hlt;omega
noncomputable def zX0 (l:List ByteArray):ByteArray:=yWn (zX1 l)
def memB (l:List ByteArray)(n:ByteArray):Bool:=l.any λx=>decide (x=n)
@[simp] theorem yJg {l:List ByteArray}{n:ByteArray}:memB l n=true↔n∈l:=by
 simp[memB]
@[simp] theorem zXk {l:List ByteArray}{n:ByteArray}:memB l n=false↔n ∉ l:=by
 rw[<- Bool.not_eq_true,yJg]
mutual
def frF:Fm->List ByteArray
 | .mk op m us sub=>yQp us++(if isQ op then (frFs sub).filter (λn=>!decide (n=m)) else frFs sub)
def frFs:List Fm->List ByteArray
 | []=>[]
 | a::l=>frF a++frFs l
end
theorem xGk (b:ByteArray->Nat)(m:ByteArray)(l:List ByteArray):yKm (incB b m) l=yKm b (l.filter (λn=>!decide (n=m))):=by
 unfold yKm;rw[List.filter_filter];refine List.filter_congr λn _=>?_;unfold incB;grind
mutual
theorem xZ0:∀(f:Fm)(b:ByteArray->Nat),zQa b f=yKm b (frF f)
 | .mk op m us sub,b=>by
  simp only[zQa,frF,yXh];rw[zWr sub];split
  ·rw[xGk]
  ·rfl
theorem zWr:∀(l:List Fm)(b:ByteArray->Nat),yZx b l=yKm b (frFs l)
 | [],b=>by simp[yZx,frFs,yKm]
 | a::l,b=>by simp only[yZx,frFs,yXh,xZ0 a b,zWr l b]
end
theorem zGh (f:Fm):xGl f=frF f:=by
 unfold xGl;rw[xZ0];unfold yKm;rw[List.filter_eq_self];intro a _;rfl
abbrev Sb:=List (ByteArray×Tm)
def yXj (l:Sb)(n:ByteArray):Option Tm:=(l.find? λp=>decide (p.1=n)).map (·.2)
def cntS (ps:Sb)(m:ByteArray)(fr:List ByteArray):Sb:=ps.filter λp=>memB fr p.1&&!decide (p.1=m)
def xZf (ps:Sb)(m:ByteArray)(fr:List ByteArray):Bool:=(cntS ps m fr).any λp=>memB (yZ2 p.2) m
def yUr (ps:Sb)(m:ByteArray)(fr:List ByteArray):List ByteArray:=fr++(cntS ps m fr).flatMap λp=>yZ2 p.2
noncomputable def yV6 (ps:Sb)(m:ByteArray)(fr:List ByteArray):ByteArray×Sb :=
 if xZf ps m fr then (zX0 (yUr ps m fr),cntS ps m fr++[(m,.mk true (zX0 (yUr ps m fr)) [])]) else (m,cntS ps m fr)
mutual
noncomputable def yGr:Sb->Fm->Fm
 | ps,.mk op m us sub=>.mk op (if isQ op then (yV6 ps m (frFs sub)).1 else m) (yJ6 (yXj ps) us) (yKu (if isQ op then (yV6 ps m (frFs sub)).2 else ps) sub)
noncomputable def yKu:Sb->List Fm->List Fm
 | _,[]=>[]
 | ps,a::l=>yGr ps a::yKu ps l
end
theorem yY1 (ps:Sb):∀l m:List Fm,yKu ps (l++m)=yKu ps l++yKu ps m
 | [],m=>by simp[yKu]
 | a::l,m=>by simp only[List.cons_append,yKu,yY1 ps l m]
theorem yJy (ps:Sb):∀l:List Fm,(yKu ps l).length=l.length
 | []=>rfl
 | a::l=>by simp only[yKu,List.length_cons,yJy ps l]
inductive NlT where
 | bv (i:Nat)
 | fv (n:ByteArray)
 | ap (n:ByteArray) (l:List NlT)
inductive NlF where
 | mk (op:Nat) (n:ByteArray) (us:List NlT) (sub:List NlF)
def wZr:List ByteArray->ByteArray->Option Nat
 | [],_=>none
 | m::e,n=>if n=m then some e.length else wZr e n
def yVg (env:List ByteArray)(n:ByteArray):NlT:=match wZr env n with|some i=>.bv i|none=>.fv n
mutual
def db (env:List ByteArray):Tm->NlT
 | .mk true n _=>yVg env n
 | .mk false n l=>.ap n (dbs env l)
def dbs (env:List ByteArray):List Tm->List NlT
 | []=>[]
 | a::l=>db env a::dbs env l
end
mutual
def dbF:List ByteArray->Fm->NlF
 | env,.mk op m us sub=>.mk op (if isQ op then ⟨#[]⟩ else m) (dbs env us) (dbFs (if isQ op then m::env else env) sub)
def dbFs:List ByteArray->List Fm->List NlF
 | _,[]=>[]
 | env,a::l=>dbF env a::dbFs env l
end
theorem xVt:∀ {e:List ByteArray}{n:ByteArray}{i:Nat},wZr e n=some i->i<e.length
 | [],n,i,h=>by cases h
 | m::e,n,i,h=>by
  simp only[wZr] at h;split at h
  ·cases h;simp
  ·have:=xVt h;simp only[List.length_cons];omega
theorem zWn {e:List ByteArray}{m n:ByteArray}:yVg (m::e) n=if n=m then .bv e.length else yVg e n:=by
 unfold yVg;simp only[wZr];grind
theorem xVg {n:ByteArray}{l:List Tm}(h:(Tm.mk true n l).ok=true):l=[]:=by
 simp only[Tm.ok,bAt,List.isEmpty_iff] at h;exact h.1
theorem xVh {n:ByteArray}{l:List Tm}(h:(Tm.mk false n l).ok=true):yYr l=true:=by
 simp only[Tm.ok,bAt] at h;exact h.2
theorem yV3 {a:Tm}{l:List Tm}(h:yYr (a::l)=true):a.ok=true/\yYr l=true:=by
 simpa only[yYr,bAt] using h
theorem yV4 {a:Fm}{l:List Fm}(h:yGp (a::l)=true):a.ok=true/\yGp l=true:=by
 simpa only[yGp,bAt] using h
theorem zG3 {op:Nat}{m:ByteArray}{us:List Tm}{sub:List Fm}(h:(Fm.mk op m us sub).ok=true):yYr us=true/\yGp sub=true/\yKh op m us.length sub.length=true:=by
 simp only[Fm.ok,bAt] at h;exact⟨h.1.2,h.2,h.1.1⟩
theorem zX9 {ps:Sb}{q:ByteArray×Tm->Bool}{n:ByteArray}(h:∀u,q (n,u)=true):yXj (ps.filter q) n=yXj ps n:=by
 unfold yXj;grind
theorem zXa {ps:Sb}{q:ByteArray×Tm->Bool}{n:ByteArray}(h:∀u,q (n,u)=false):yXj (ps.filter q) n=none:=by
 unfold yXj;grind
theorem zZy (ps qs:Sb)(n:ByteArray):yXj (ps++qs) n=(yXj ps n).or (yXj qs n):=by
 unfold yXj;grind
theorem xQp {ps:Sb}{m n:ByteArray}{fr:List ByteArray}(hn:n∈fr)(hm:n≠m):yXj (cntS ps m fr) n=yXj ps n :=
 zX9 λu=>by simp[hn,hm]
theorem yGy {ps:Sb}{m:ByteArray}{fr:List ByteArray}:yXj (cntS ps m fr) m=none :=
 zXa λu=>by simp
theorem xQo {ps:Sb}{n:ByteArray}{u:Tm}(h:yXj ps n=some u):(n,u)∈ps:=by
 unfold yXj at h;rw[Option.map_eq_some_iff] at h;grind
end Go.Proofs.Tryz
namespace Go.Proofs.Tryz
open Go Go.Iv
theorem xG3 {ps:Sb}{m:ByteArray}{fr:List ByteArray}{n:ByteArray}(hn:n∈fr) :
  yXj (yV6 ps m fr).2 n=if n=m then (if xZf ps m fr then some (.mk true (yV6 ps m fr).1 []) else none) else yXj ps n:=by
 unfold yV6;by_cases hnm:n=m
 ·subst hnm;rw[if_pos rfl];split
  ·simp only[zZy,yGy];simp[yXj]
  ·exact yGy
 ·rw[if_neg hnm];split
  ·simp only[zZy,xQp hn hnm];have:yXj [(m,Tm.mk true (zX0 (yUr ps m fr)) [])] n=none:=by simp[yXj,Ne.symm hnm]
   rw[this];simp
  ·exact xQp hn hnm
section
variable (ps:List Pc)
def HSz (b:ByteArray->Nat)(F:ByteArray->Option Tm)(n:ByteArray):Prop :=
 (if b n=0 then zZ7 ps n (1,1) else (1,1))=(((F n).getD (.mk true n [])).size,((F n).getD (.mk true n [])).deep)
mutual
theorem wUe (b:ByteArray->Nat)(F:ByteArray->Option Tm):∀t:Tm,t.ok=true->(∀n∈yZ2 t,HSz ps b F n)->psz ps b t=((yGq F t).size,(yGq F t).deep)
 | .mk true n l,h,hn=>by
  obtain rfl:=xVg h;have h1:=hn n (by simp[yZ2]);unfold HSz at h1;simp only[psz,pszs,true_and,yGq];rw[h1];cases F n with
  | none=>rfl
  | some u=>rfl
 | .mk false n l,h,hn=>by
  have:=zYz b F l (xVh h) (λn hm=>hn n (by simpa[yZ2] using hm));simp only[psz,bFt,false_and,if_false,yGq,Tm.size,Tm.deep,this]
theorem zYz (b:ByteArray->Nat)(F:ByteArray->Option Tm):∀l:List Tm,yYr l=true->(∀n∈yQp l,HSz ps b F n)->pszs ps b l=(yQh (yJ6 F l),yQt (yJ6 F l))
 | [],_,_=>rfl
 | a::l,h,hn=>by
  simp only[pszs,yJ6,yQh,yQt,wUe b F a (yV3 h).1 (λn hm=>hn n (by simp[yQp,hm])),zYz b F l (yV3 h).2 (λn hm=>hn n (by simp[yQp,hm]))]
end
theorem wK9 {b:ByteArray->Nat}{qs:Sb}{m:ByteArray}{fr:List ByteArray}{n:ByteArray}(hn:n∈fr)(h:n≠m->HSz ps b (yXj qs) n):HSz ps (incB b m) (yXj (yV6 qs m fr).2) n:=by
 unfold HSz at h ⊢;rw[xG3 hn];by_cases hnm:n=m
 ·subst hnm;simp only[incB,if_true];rw[if_neg (by omega)];split<;>rfl
 ·simp only[incB,if_neg hnm];exact h hnm
mutual
theorem xWe:∀(f:Fm)(qs:Sb)(b:ByteArray->Nat),f.ok=true->(∀n∈frF f,HSz ps b (yXj qs) n)->fsz ps b f=((yGr qs f).size,(yGr qs f).deep)
 | .mk op m us sub,qs,b,hok,h=>by
  obtain⟨h1,h2,_⟩:=zG3 hok;simp only[frF] at h;simp only[fsz,yGr,Fm.size,Fm.deep,zYz ps b (yXj qs) us h1 (λn hn=>h n (by simp[hn]))];by_cases hq:isQ op=true
  ·simp only[hq,if_true] at h ⊢;rw[zKg sub _ _ h2 (λn hn=>wK9 ps hn (λhm=>h n (by simp[hn,hm])))]
  ·simp only[hq,bFt,if_false] at h ⊢;rw[zKg sub qs b h2 (λn hn=>h n (by simp[hn]))]
theorem zKg:∀(l:List Fm)(qs:Sb)(b:ByteArray->Nat),yGp l=true->(∀n∈frFs l,HSz ps b (yXj qs) n)->fszs ps b l=(yQ9 (yKu qs l),yZ4 (yKu qs l))
 | [],_,_,_,_=>rfl
 | a::l,qs,b,hok,h=>by
  simp only[frFs] at h;simp only[fszs,yKu,yQ9,yZ4,xWe a qs b (yV4 hok).1 (λn hn=>h n (by simp[hn])),zKg l qs b (yV4 hok).2 (λn hn=>h n (by simp[hn]))]
end
end
def toS (ps:List Pc):Sb:=ps.map λp=>(p.nm,p.tm)
theorem wVc (ps:List Pc):putF ps=yXj (toS ps):=by
 funext n;unfold putF yXj toS;rw[List.find?_map];simp only[Option.map_map];rfl
theorem zWp:∀(ps:List Pc)(z:Nat×Nat)(n:ByteArray),(ps.map Pc.nm).Nodup->zZ7 ps n z=match yXj (toS ps) n with|some u=>(u.size,u.deep)|none=>z
 | [],z,n,_=>rfl
 | p::ps,z,n,h=>by
  simp only[List.map_cons,List.nodup_cons] at h;have ih:=zWp ps (if p.nm=n then (p.tm.size,p.tm.deep) else z) n h.2;have h0:zZ7 (p::ps) n z=zZ7 ps n (if p.nm=n then (p.tm.size,p.tm.deep) else z):=rfl;rw[h0,ih];have hc:yXj (toS (p::ps)) n=if p.nm=n then some p.tm else yXj (toS ps) n:=by
   unfold yXj toS;grind
  rw[hc];by_cases hp:p.nm=n
  ·rw[if_pos hp,if_pos hp];have:yXj (toS ps) n=none:=by
    cases hl:yXj (toS ps) n with
    | none=>rfl
    | some u =>
     have:=xQo hl;unfold toS at this;grind
   rw[this]
  ·grind
theorem HSz0 {ps:List Pc}(h:(ps.map Pc.nm).Nodup)(n:ByteArray):HSz ps (λ_=>0) (yXj (toS ps)) n:=by
 unfold HSz;rw[if_pos rfl,zWp ps _ n h];cases yXj (toS ps) n<;>rfl
theorem vKr {ps:List Pc}(h:(ps.map Pc.nm).Nodup){f:Fm}(hf:f.ok=true):fsz ps (λ_=>0) f=((yGr (toS ps) f).size,(yGr (toS ps) f).deep) :=
 xWe ps f (toS ps) _ hf (λn _=>HSz0 h n)
theorem zQz:∀(k u:Nat),u<10 ^ (k+1)->Lib.nDigits u<=k+1
 | 0,u,h=>by rw[Lib.nDigits_small (by simpa using h)];omega
 | k+1,u,h=>by
  by_cases hu:u<10
  ·rw[Lib.nDigits_small hu];omega
  ·rw[Lib.nDigits_big hu];have:=zQz k (u / 10) (by rw[Nat.pow_succ] at h;omega);omega
mutual
theorem zWk:∀t:Tm,(yZ2 t).length<=t.size
 | .mk true n l=>by have:=yWy l;simp only[yZ2,List.length_cons,Tm.size];omega
 | .mk false n l=>by have:=yWy l;simp only[yZ2,Tm.size];omega
theorem yWy:∀l:List Tm,(yQp l).length<=yQh l
 | []=>Nat.le_refl _
 | a::l=>by have:=zWk a;have:=yWy l;simp only[yQp,lLa,yQh];omega
end
mutual
theorem wXo:∀f:Fm,(frF f).length<=f.size
 | .mk op m us sub=>by
  have h1:=yWy us;have h2:=xJn sub;simp only[frF,lLa,Fm.size];grind
theorem xJn:∀l:List Fm,(frFs l).length<=yQ9 l
 | []=>Nat.le_refl _
 | a::l=>by have:=wXo a;have:=xJn l;simp only[frFs,lLa,yQ9];omega
end
def wS:Sb->Nat
 | []=>0
 | p::l=>p.2.size+wS l
theorem zUb:∀l m:Sb,wS (l++m)=wS l+wS m
 | [],m=>by simp[wS]
 | a::l,m=>by simp only[List.cons_append,wS,zUb l m];omega
theorem yUk (q:ByteArray×Tm->Bool):∀l:Sb,wS (l.filter q)<=wS l
 | []=>Nat.le_refl _
 | a::l=>by
  have:=yUk q l;rw[List.filter_cons];split
  ·simp only[wS];omega
  ·simp only[wS];omega
theorem wXr:∀l:Sb,(l.flatMap λp=>yZ2 p.2).length<=wS l
 | []=>Nat.le_refl _
 | a::l=>by
  have:=wXr l;have:=zWk a.2;simp only[List.flatMap_cons,lLa,wS];omega
theorem wKn (ps:Sb)(m:ByteArray)(fr:List ByteArray):(yUr ps m fr).length<=fr.length+wS ps:=by
 have:=wXr (cntS ps m fr);have:=yUk (λp=>memB fr p.1&&!decide (p.1=m)) ps;unfold yUr cntS at *;grind
theorem wKf (ps:Sb)(m:ByteArray)(fr:List ByteArray):wS (yV6 ps m fr).2<=wS ps+1:=by
 have:=yUk (λp=>memB fr p.1&&!decide (p.1=m)) ps;unfold yV6 cntS;split
 ·simp only[zUb,wS,Tm.size,yQh];omega
 ·grind
end Go.Proofs.Tryz
namespace Go.Proofs.Tryz
open Go Go.Iv
noncomputable def zY4 (f g:Fm):Bool:=f.right&&g.right&&eqB (dbF [] f) (dbF [] g)
theorem xVr {e:List ByteArray}{n:ByteArray}{l:Nat}(h:e.length<=l):yVg e n≠.bv l:=by
 unfold yVg;split
 ·rename_i i hi;have:=xVt hi;grind
 ·grind
theorem xG4 {ls rs:List ByteArray}{l r n n':ByteArray}(hlen:ls.length=rs.length):yVg (l::ls) n=yVg (r::rs) n'↔(if n=l\/n'=r then n=l/\n'=r else yVg ls n=yVg rs n'):=by
 rw[zWn,zWn];by_cases h1:n=l
 ·by_cases h2:n'=r
  ·grind
  ·simp only[h1,h2,if_true,true_or,and_false,iff_false,if_false];exact λh=>xVr (Nat.le_of_eq hlen.symm) h.symm
 ·by_cases h2:n'=r
  ·simp only[h1,h2,if_true,or_true,false_and,iff_false,if_false];exact λh=>xVr (Nat.le_of_eq hlen) h
  ·simp[h1,h2]
theorem xVs {e:List ByteArray}{n m:ByteArray}{l:List NlT}:yVg e n≠.ap m l:=by
 unfold yVg;split<;>intro h<;>cases h
theorem wZq {n:ByteArray}:yVg [] n=.fv n:=rfl
abbrev Ar:=List (ByteArray×ByteArray)
theorem yGf {f:Fm}(h:f.right=true):f.ok=true/\f.size<=400/\f.deep<=40:=by
 simp only[Fm.right,bAt,dTe] at h;exact⟨h.1.1,h.1.2,h.2⟩
