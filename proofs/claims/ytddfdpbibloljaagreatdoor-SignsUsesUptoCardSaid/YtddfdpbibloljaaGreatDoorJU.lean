/- Putting, renaming, normal forms: plain d -/
import Derived.Test.YtddfdpbibloljaaGreatDoorJT
import Derived.Lib.ItoaNum
set_option linter.all false
namespace Go.Proofs.Tryz
open Go Go.Iv
def yWu (k:Nat):ByteArray:=⟨(120::Lib.decDigits k).toArray⟩
def valD (l:List UInt8):Nat:=l.foldl (λa d=>a*10+(d.toNat-48)) 0
theorem xVd (u:Nat):valD (Lib.decDigits u)=u:=by
 induction u using Nat.strongRecOn with
 | _ u ih =>
  rw[Lib.decDigits];by_cases h:u<10
  ·rw[dif_pos h];simp only[valD,List.foldl_cons,List.foldl_nil,UInt8.toNat_ofNat'];omega
  ·rw[dif_neg h];have:=ih (u / 10) (by omega);simp only[valD,List.foldl_append,List.foldl_cons,List.foldl_nil,UInt8.toNat_ofNat'] at this ⊢;grind
theorem wQd {a b:Nat}(h:yWu a=yWu b):a=b:=by
 have h1:(120::Lib.decDigits a)=(120::Lib.decDigits b):=by
  have:=congrArg (λx:ByteArray=>x.data.toList) h;simpa[yWu] using this
 have h2:Lib.decDigits a=Lib.decDigits b:=by injection h1
 rw[<- xVd a,h2,xVd b]
theorem xWl {α:Type} [DecidableEq α]:∀(a b:List α),a.Nodup->(∀x∈a,x∈b)->a.length<=b.length
 | [],b,_,_=>Nat.zero_le _
 | x::a,b,hn,hs=>by
  have hx:=hs x (List.mem_cons_self ..);have hn':=List.nodup_cons.1 hn;have:=xWl a (b.erase x) hn'.2 (λy hy=>(List.mem_erase_of_ne (by rintro rfl;exact hn'.1 hy)).2 (hs y (List.mem_cons_of_mem _ hy)));grind
theorem wY1 (l:List ByteArray):∃k,1<=k/\k<=l.length+1/\yWu k ∉ l:=by
 refine Classical.byContradiction λhne=>?_;have hall:∀k,1<=k->k<=l.length+1->yWu k∈l:=λk h1 h2=>Classical.byContradiction λh=>hne ⟨k,h1,h2,h⟩;have:=xWl ((List.range' 1 (l.length+1)).map yWu) l (by
   unfold List.Nodup;rw[List.pairwise_map];exact List.Pairwise.imp (λh he=>h (wQd he)) (List.nodup_range' (s:=1) (n:=l.length+1))) (λx hx=>by
   obtain⟨k,hk,rfl⟩:=List.mem_map.1 hx;have:=List.mem_range'_1.1 hk;exact hall k (by omega) (by omega))
 grind
noncomputable def zXe (l:List ByteArray):Nat:=Iv.least (λk=>1<=k/\yWu k ∉ l)
theorem xK5 (l:List ByteArray):1<=zXe l/\zXe l<=l.length+1/\yWu (zXe l) ∉ l/\∀j,1<=j->j<zXe l->yWu j∈l:=by
 obtain⟨k,h1,h2,h3⟩:=wY1 l;have hs:=Iv.least_spec (p:=λk=>1<=k/\yWu k ∉ l) ⟨k,h1,h3⟩;refine⟨hs.1.1,Nat.le_trans (hs.2 k ⟨h1,h3⟩) h2,hs.1.2,λj hj hlt=>Classical.byContradiction λhn=>?_⟩;have:=hs.2 j ⟨hj,hn⟩;unfold zXe at hlt;omega
noncomputable def zXd (l:List ByteArray):ByteArray:=yWu (zXe l)
def memB (l:List ByteArray)(n:ByteArray):Bool:=l.any λx=>decide (x=n)
@[simp] theorem yJg {l:List ByteArray}{n:ByteArray}:memB l n=true↔n∈l:=by
 simp[memB]
@[simp] theorem zXz {l:List ByteArray}{n:ByteArray}:memB l n=false↔n ∉ l:=by
 rw[<- Bool.not_eq_true,yJg]
mutual
def frF:Fm->List ByteArray
 | .mk op m us sub=>yQr us++(if isQ op then (frFs sub).filter (λn=>!decide (n=m)) else frFs sub)
def frFs:List Fm->List ByteArray
 | []=>[]
 | a::l=>frF a++frFs l
end
theorem xUj (b:ByteArray->Nat)(m:ByteArray)(l:List ByteArray):yKo (incB b m) l=yKo b (l.filter (λn=>!decide (n=m))):=by
 unfold yKo;rw[List.filter_filter];refine List.filter_congr λn _=>?_;unfold incB;grind
mutual
theorem xZt:∀(f:Fm)(b:ByteArray->Nat),zQo b f=yKo b (frF f)
 | .mk op m us sub,b=>by
  simp only[zQo,frF,yXn];rw[zYk sub];split
  ·rw[xUj]
  ·rfl
theorem zYk:∀(l:List Fm)(b:ByteArray->Nat),yX4 b l=yKo b (frFs l)
 | [],b=>by simp[yX4,frFs,yKo]
 | a::l,b=>by simp only[yX4,frFs,yXn,xZt a b,zYk l b]
end
theorem zU8 (f:Fm):xUk f=frF f:=by
 unfold xUk;rw[xZt];unfold yKo;rw[List.filter_eq_self];intro a _;rfl
abbrev Sb:=List (ByteArray×Tm)
def yXq (l:Sb)(n:ByteArray):Option Tm:=(l.find? λp=>decide (p.1=n)).map (·.2)
def cntS (ps:Sb)(m:ByteArray)(fr:List ByteArray):Sb:=ps.filter λp=>memB fr p.1&&!decide (p.1=m)
def xX5 (ps:Sb)(m:ByteArray)(fr:List ByteArray):Bool:=(cntS ps m fr).any λp=>memB (yZ4 p.2) m
def zQ4 (ps:Sb)(m:ByteArray)(fr:List ByteArray):List ByteArray:=fr++(cntS ps m fr).flatMap λp=>yZ4 p.2
noncomputable def yV9 (ps:Sb)(m:ByteArray)(fr:List ByteArray):ByteArray×Sb :=
 if xX5 ps m fr then (zXd (zQ4 ps m fr),cntS ps m fr++[(m,.mk true (zXd (zQ4 ps m fr)) [])]) else (m,cntS ps m fr)
mutual
noncomputable def yU4:Sb->Fm->Fm
 | ps,.mk op m us sub=>.mk op (if isQ op then (yV9 ps m (frFs sub)).1 else m) (yJ8 (yXq ps) us) (yKx (if isQ op then (yV9 ps m (frFs sub)).2 else ps) sub)
noncomputable def yKx:Sb->List Fm->List Fm
 | _,[]=>[]
 | ps,a::l=>yU4 ps a::yKx ps l
end
theorem yYb (ps:Sb):∀l m:List Fm,yKx ps (l++m)=yKx ps l++yKx ps m
 | [],m=>by simp[yKx]
 | a::l,m=>by simp only[List.cons_append,yKx,yYb ps l m]
theorem yJy (ps:Sb):∀l:List Fm,(yKx ps l).length=l.length
 | []=>rfl
 | a::l=>by simp only[yKx,List.length_cons,yJy ps l]
inductive NlT where
 | bv (i:Nat)
 | fv (n:ByteArray)
 | ap (n:ByteArray) (l:List NlT)
inductive NlF where
 | mk (op:Nat) (n:ByteArray) (us:List NlT) (sub:List NlF)
def wXp:List ByteArray->ByteArray->Option Nat
 | [],_=>none
 | m::e,n=>if n=m then some e.length else wXp e n
def yVm (env:List ByteArray)(n:ByteArray):NlT:=match wXp env n with|some i=>.bv i|none=>.fv n
mutual
def db (env:List ByteArray):Tm->NlT
 | .mk true n _=>yVm env n
 | .mk false n l=>.ap n (dbs env l)
def dbs (env:List ByteArray):List Tm->List NlT
 | []=>[]
 | a::l=>db env a::dbs env l
end
mutual
def dbF:List ByteArray->Fm->NlF
 | env,.mk op m us sub=>.mk op (if isQ op then ⟨#[]⟩ else m) (dbs env us) (dbFs (if isQ op then m::env else env) sub)
def dbFs:List ByteArray->List Fm->List NlF
 | _,[]=>[]
 | env,a::l=>dbF env a::dbFs env l
end
theorem xWr:∀ {e:List ByteArray}{n:ByteArray}{i:Nat},wXp e n=some i->i<e.length
 | [],n,i,h=>by cases h
 | m::e,n,i,h=>by
  simp only[wXp] at h;split at h
  ·cases h;simp
  ·have:=xWr h;simp only[List.length_cons];omega
theorem zYf {e:List ByteArray}{m n:ByteArray}:yVm (m::e) n=if n=m then .bv e.length else yVm e n:=by
 unfold yVm;simp only[wXp];grind
theorem xWe {n:ByteArray}{l:List Tm}(h:(Tm.mk true n l).ok=true):l=[]:=by
 simp only[Tm.ok,bAt,List.isEmpty_iff] at h;exact h.1
theorem xWg {n:ByteArray}{l:List Tm}(h:(Tm.mk false n l).ok=true):yYy l=true:=by
 simp only[Tm.ok,bAt] at h;exact h.2
theorem yV6 {a:Tm}{l:List Tm}(h:yYy (a::l)=true):a.ok=true/\yYy l=true:=by
 simpa only[yYy,bAt] using h
theorem yV7 {a:Fm}{l:List Fm}(h:yU2 (a::l)=true):a.ok=true/\yU2 l=true:=by
 simpa only[yU2,bAt] using h
theorem zGt {op:Nat}{m:ByteArray}{us:List Tm}{sub:List Fm}(h:(Fm.mk op m us sub).ok=true):yYy us=true/\yU2 sub=true/\yKk op m us.length sub.length=true:=by
 simp only[Fm.ok,bAt] at h;exact⟨h.1.2,h.2,h.1.1⟩
theorem zXo {ps:Sb}{q:ByteArray×Tm->Bool}{n:ByteArray}(h:∀u,q (n,u)=true):yXq (ps.filter q) n=yXq ps n:=by
 unfold yXq;grind
theorem zXp {ps:Sb}{q:ByteArray×Tm->Bool}{n:ByteArray}(h:∀u,q (n,u)=false):yXq (ps.filter q) n=none:=by
 unfold yXq;grind
theorem zXb (ps qs:Sb)(n:ByteArray):yXq (ps++qs) n=(yXq ps n).or (yXq qs n):=by
 unfold yXq;grind
theorem xZg {ps:Sb}{m n:ByteArray}{fr:List ByteArray}(hn:n∈fr)(hm:n≠m):yXq (cntS ps m fr) n=yXq ps n :=
 zXo λu=>by simp[hn,hm]
theorem yUc {ps:Sb}{m:ByteArray}{fr:List ByteArray}:yXq (cntS ps m fr) m=none :=
 zXp λu=>by simp
theorem xZf {ps:Sb}{n:ByteArray}{u:Tm}(h:yXq ps n=some u):(n,u)∈ps:=by
 unfold yXq at h;rw[Option.map_eq_some_iff] at h;grind
end Go.Proofs.Tryz
namespace Go.Proofs.Tryz
open Go Go.Iv
theorem xU1 {ps:Sb}{m:ByteArray}{fr:List ByteArray}{n:ByteArray}(hn:n∈fr) :
  yXq (yV9 ps m fr).2 n=if n=m then (if xX5 ps m fr then some (.mk true (yV9 ps m fr).1 []) else none) else yXq ps n:=by
 unfold yV9;by_cases hnm:n=m
 ·subst hnm;rw[if_pos rfl];split
  ·simp only[zXb,yUc];simp[yXq]
  ·exact yUc
 ·rw[if_neg hnm];split
  ·simp only[zXb,xZg hn hnm];have:yXq [(m,Tm.mk true (zXd (zQ4 ps m fr)) [])] n=none:=by simp[yXq,Ne.symm hnm]
   rw[this];simp
  ·exact xZg hn hnm
section
variable (ps:List Pc)
def HSz (b:ByteArray->Nat)(F:ByteArray->Option Tm)(n:ByteArray):Prop :=
 (if b n=0 then zZk ps n (1,1) else (1,1))=(((F n).getD (.mk true n [])).size,((F n).getD (.mk true n [])).deep)
mutual
theorem vQk (b:ByteArray->Nat)(F:ByteArray->Option Tm):∀t:Tm,t.ok=true->(∀n∈yZ4 t,HSz ps b F n)->psz ps b t=((yU3 F t).size,(yU3 F t).deep)
 | .mk true n l,h,hn=>by
  obtain rfl:=xWe h;have h1:=hn n (by simp[yZ4]);unfold HSz at h1;simp only[psz,pszs,true_and,yU3];rw[h1];cases F n with
  | none=>rfl
  | some u=>rfl
 | .mk false n l,h,hn=>by
  have:=zGp b F l (xWg h) (λn hm=>hn n (by simpa[yZ4] using hm));simp only[psz,bFt,false_and,if_false,yU3,Tm.size,Tm.deep,this]
theorem zGp (b:ByteArray->Nat)(F:ByteArray->Option Tm):∀l:List Tm,yYy l=true->(∀n∈yQr l,HSz ps b F n)->pszs ps b l=(yQh (yJ8 F l),yQu (yJ8 F l))
 | [],_,_=>rfl
 | a::l,h,hn=>by
  simp only[pszs,yJ8,yQh,yQu,vQk b F a (yV6 h).1 (λn hm=>hn n (by simp[yQr,hm])),zGp b F l (yV6 h).2 (λn hm=>hn n (by simp[yQr,hm]))]
end
theorem wVc {b:ByteArray->Nat}{qs:Sb}{m:ByteArray}{fr:List ByteArray}{n:ByteArray}(hn:n∈fr)(h:n≠m->HSz ps b (yXq qs) n):HSz ps (incB b m) (yXq (yV9 qs m fr).2) n:=by
 unfold HSz at h ⊢;rw[xU1 hn];by_cases hnm:n=m
 ·subst hnm;simp only[incB,if_true];rw[if_neg (by omega)];split<;>rfl
 ·simp only[incB,if_neg hnm];exact h hnm
mutual
theorem xYe:∀(f:Fm)(qs:Sb)(b:ByteArray->Nat),f.ok=true->(∀n∈frF f,HSz ps b (yXq qs) n)->fsz ps b f=((yU4 qs f).size,(yU4 qs f).deep)
 | .mk op m us sub,qs,b,hok,h=>by
  obtain⟨h1,h2,_⟩:=zGt hok;simp only[frF] at h;simp only[fsz,yU4,Fm.size,Fm.deep,zGp ps b (yXq qs) us h1 (λn hn=>h n (by simp[hn]))];by_cases hq:isQ op=true
  ·simp only[hq,if_true] at h ⊢;rw[zKz sub _ _ h2 (λn hn=>wVc ps hn (λhm=>h n (by simp[hn,hm])))]
  ·simp only[hq,bFt,if_false] at h ⊢;rw[zKz sub qs b h2 (λn hn=>h n (by simp[hn]))]
theorem zKz:∀(l:List Fm)(qs:Sb)(b:ByteArray->Nat),yU2 l=true->(∀n∈frFs l,HSz ps b (yXq qs) n)->fszs ps b l=(yQ9 (yKx qs l),yZ7 (yKx qs l))
 | [],_,_,_,_=>rfl
 | a::l,qs,b,hok,h=>by
  simp only[frFs] at h;simp only[fszs,yKx,yQ9,yZ7,xYe a qs b (yV7 hok).1 (λn hn=>h n (by simp[hn])),zKz l qs b (yV7 hok).2 (λn hn=>h n (by simp[hn]))]
end
end
def toS (ps:List Pc):Sb:=ps.map λp=>(p.nm,p.tm)
theorem wWg (ps:List Pc):putF ps=yXq (toS ps):=by
 funext n;unfold putF yXq toS;rw[List.find?_map];simp only[Option.map_map];rfl
theorem zYi:∀(ps:List Pc)(z:Nat×Nat)(n:ByteArray),(ps.map Pc.nm).Nodup->zZk ps n z=match yXq (toS ps) n with|some u=>(u.size,u.deep)|none=>z
 | [],z,n,_=>rfl
 | p::ps,z,n,h=>by
  simp only[List.map_cons,List.nodup_cons] at h;have ih:=zYi ps (if p.nm=n then (p.tm.size,p.tm.deep) else z) n h.2;have h0:zZk (p::ps) n z=zZk ps n (if p.nm=n then (p.tm.size,p.tm.deep) else z):=rfl;rw[h0,ih];have hc:yXq (toS (p::ps)) n=if p.nm=n then some p.tm else yXq (toS ps) n:=by
   unfold yXq toS;grind
  rw[hc];by_cases hp:p.nm=n
  ·rw[if_pos hp,if_pos hp];have:yXq (toS ps) n=none:=by
    cases hl:yXq (toS ps) n with
    | none=>rfl
    | some u =>
     have:=xZf hl;unfold toS at this;grind
   rw[this]
  ·grind
theorem HSz0 {ps:List Pc}(h:(ps.map Pc.nm).Nodup)(n:ByteArray):HSz ps (λ_=>0) (yXq (toS ps)) n:=by
 unfold HSz;rw[if_pos rfl,zYi ps _ n h];cases yXq (toS ps) n<;>rfl
theorem vVw {ps:List Pc}(h:(ps.map Pc.nm).Nodup){f:Fm}(hf:f.ok=true):fsz ps (λ_=>0) f=((yU4 (toS ps) f).size,(yU4 (toS ps) f).deep) :=
 xYe ps f (toS ps) _ hf (λn _=>HSz0 h n)
theorem zZc:∀(k u:Nat),u<10 ^ (k+1)->Lib.nDigits u<=k+1
 | 0,u,h=>by rw[Lib.nDigits_small (by simpa using h)];omega
 | k+1,u,h=>by
  by_cases hu:u<10
  ·rw[Lib.nDigits_small hu];omega
  ·rw[Lib.nDigits_big hu];have:=zZc k (u / 10) (by rw[Nat.pow_succ] at h;omega);omega
mutual
theorem zYc:∀t:Tm,(yZ4 t).length<=t.size
 | .mk true n l=>by have:=yY7 l;simp only[yZ4,List.length_cons,Tm.size];omega
 | .mk false n l=>by have:=yY7 l;simp only[yZ4,Tm.size];omega
theorem yY7:∀l:List Tm,(yQr l).length<=yQh l
 | []=>Nat.le_refl _
 | a::l=>by have:=zYc a;have:=yY7 l;simp only[yQr,lLa,yQh];omega
end
mutual
theorem wJo:∀f:Fm,(frF f).length<=f.size
 | .mk op m us sub=>by
  have h1:=yY7 us;have h2:=xKh sub;simp only[frF,lLa,Fm.size];grind
theorem xKh:∀l:List Fm,(frFs l).length<=yQ9 l
 | []=>Nat.le_refl _
 | a::l=>by have:=wJo a;have:=xKh l;simp only[frFs,lLa,yQ9];omega
end
def wS:Sb->Nat
 | []=>0
 | p::l=>p.2.size+wS l
theorem zUz:∀l m:Sb,wS (l++m)=wS l+wS m
 | [],m=>by simp[wS]
 | a::l,m=>by simp only[List.cons_append,wS,zUz l m];omega
theorem yUx (q:ByteArray×Tm->Bool):∀l:Sb,wS (l.filter q)<=wS l
 | []=>Nat.le_refl _
 | a::l=>by
  have:=yUx q l;rw[List.filter_cons];split
  ·simp only[wS];omega
  ·simp only[wS];omega
theorem wJt:∀l:Sb,(l.flatMap λp=>yZ4 p.2).length<=wS l
 | []=>Nat.le_refl _
 | a::l=>by
  have:=wJt l;have:=zYc a.2;simp only[List.flatMap_cons,lLa,wS];omega
theorem wVr (ps:Sb)(m:ByteArray)(fr:List ByteArray):(zQ4 ps m fr).length<=fr.length+wS ps:=by
 have:=wJt (cntS ps m fr);have:=yUx (λp=>memB fr p.1&&!decide (p.1=m)) ps;unfold zQ4 cntS at *;grind
theorem wVj (ps:Sb)(m:ByteArray)(fr:List ByteArray):wS (yV9 ps m fr).2<=wS ps+1:=by
 have:=yUx (λp=>memB fr p.1&&!decide (p.1=m)) ps;unfold yV9 cntS;split
 ·simp only[zUz,wS,Tm.size,yQh];omega
 ·grind
end Go.Proofs.Tryz
namespace Go.Proofs.Tryz
open Go Go.Iv
noncomputable def zYx (f g:Fm):Bool:=f.right&&g.right&&eqB (dbF [] f) (dbF [] g)
theorem xWp {e:List ByteArray}{n:ByteArray}{l:Nat}(h:e.length<=l):yVm e n≠.bv l:=by
 unfold yVm;split
 ·rename_i i hi;have:=xWr hi;grind
 ·grind
theorem xU2 {ls rs:List ByteArray}{l r n n':ByteArray}(hlen:ls.length=rs.length):yVm (l::ls) n=yVm (r::rs) n'↔(if n=l\/n'=r then n=l/\n'=r else yVm ls n=yVm rs n'):=by
 rw[zYf,zYf];by_cases h1:n=l
 ·by_cases h2:n'=r
  ·grind
  ·simp only[h1,h2,if_true,true_or,and_false,iff_false,if_false];exact λh=>xWp (Nat.le_of_eq hlen.symm) h.symm
 ·by_cases h2:n'=r
  ·simp only[h1,h2,if_true,or_true,false_and,iff_false,if_false];exact λh=>xWp (Nat.le_of_eq hlen) h
  ·simp[h1,h2]
theorem xWq {e:List ByteArray}{n m:ByteArray}{l:List NlT}:yVm e n≠.ap m l:=by
 unfold yVm;split<;>intro h<;>cases h
theorem wXo {n:ByteArray}:yVm [] n=.fv n:=rfl
abbrev Ar:=List (ByteArray×ByteArray)
theorem yGq {f:Fm}(h:f.right=true):f.ok=true/\f.size<=400/\f.deep<=40:=by
 simp only[Fm.right,bAt,dTe] at h;exact⟨h.1.1,h.1.2,h.2⟩
