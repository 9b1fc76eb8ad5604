/- Putting, renaming, normal forms: plain d -/
import Derived.Test.YtddfdpbibloljaaGreatDoorJT
import Derived.Lib.ItoaNum
set_option linter.all false
namespace Go.Proofs.Tryz
open Go Go.Iv
def yWi (k:Nat):ByteArray:=⟨(120::Lib.decDigits k).toArray⟩
def valD (l:List UInt8):Nat:=l.foldl (λa d=>a*10+(d.toNat-48)) 0
theorem xK7 (u:Nat):valD (Lib.decDigits u)=u:=by
 induction u using Nat.strongRecOn with
 | _ u ih =>
  rw[Lib.decDigits];by_cases h:u<10
  ·rw[dif_pos h];simp only[valD,List.foldl_cons,List.foldl_nil,UInt8.toNat_ofNat'];omega
  ·rw[dif_neg h];have:=ih (u / 10) (by omega);simp only[valD,List.foldl_append,List.foldl_cons,List.foldl_nil,UInt8.toNat_ofNat'] at this ⊢;grind
theorem xGw {a b:Nat}(h:yWi a=yWi b):a=b:=by
 have h1:(120::Lib.decDigits a)=(120::Lib.decDigits b):=by
  have:=congrArg (λx:ByteArray=>x.data.toList) h;simpa[yWi] using this
 have h2:Lib.decDigits a=Lib.decDigits b:=by injection h1
 rw[<- xK7 a,h2,xK7 b]
theorem xV7 {α:Type} [DecidableEq α]:∀(a b:List α),a.Nodup->(∀x∈a,x∈b)->a.length<=b.length
 | [],b,_,_=>Nat.zero_le _
 | x::a,b,hn,hs=>by
  have hx:=hs x (List.mem_cons_self ..);have hn':=List.nodup_cons.1 hn;have:=xV7 a (b.erase x) hn'.2 (λy hy=>(List.mem_erase_of_ne (by rintro rfl;exact hn'.1 hy)).2 (hs y (List.mem_cons_of_mem _ hy)));grind
theorem wVk (l:List ByteArray):∃k,1<=k/\k<=l.length+1/\yWi k ∉ l:=by
 refine Classical.byContradiction λhne=>?_;have hall:∀k,1<=k->k<=l.length+1->yWi k∈l:=λk h1 h2=>Classical.byContradiction λh=>hne ⟨k,h1,h2,h⟩;have:=xV7 ((List.range' 1 (l.length+1)).map yWi) l (by
   unfold List.Nodup;rw[List.pairwise_map];exact List.Pairwise.imp (λh he=>h (xGw he)) (List.nodup_range' (s:=1) (n:=l.length+1))) (λx hx=>by
   obtain⟨k,hk,rfl⟩:=List.mem_map.1 hx;have:=List.mem_range'_1.1 hk;exact hall k (by omega) (by omega))
 grind
noncomputable def zZs (l:List ByteArray):Nat:=Iv.least (λk=>1<=k/\yWi k ∉ l)
theorem xJ2 (l:List ByteArray):1<=zZs l/\zZs l<=l.length+1/\yWi (zZs l) ∉ l/\∀j,1<=j->j<zZs l->yWi j∈l:=by
 obtain⟨k,h1,h2,h3⟩:=wVk l;have hs:=Iv.least_spec (p:=λk=>1<=k/\yWi k ∉ l) ⟨k,h1,h3⟩;refine⟨hs.1.1,Nat.le_trans (hs.2 k ⟨h1,h3⟩) h2,hs.1.2,λj hj hlt=>Classical.byContradiction λhn=>?_⟩;have:=hs.2 j ⟨hj,hn⟩;unfold zZs at hlt;omega
noncomputable def zZr (l:List ByteArray):ByteArray:=yWi (zZs l)
def memB (l:List ByteArray)(n:ByteArray):Bool:=l.any λx=>decide (x=n)
@[simp] theorem yJ5 {l:List ByteArray}{n:ByteArray}:memB l n=true↔n∈l:=by
 simp[memB]
@[simp] theorem zXb {l:List ByteArray}{n:ByteArray}:memB l n=false↔n ∉ l:=by
 rw[<- Bool.not_eq_true,yJ5]
mutual
def frF:Fm->List ByteArray
 | .mk op m us sub=>yQq us++(if isQ op then (frFs sub).filter (λn=>!decide (n=m)) else frFs sub)
def frFs:List Fm->List ByteArray
 | []=>[]
 | a::l=>frF a++frFs l
end
theorem xG1 (b:ByteArray->Nat)(m:ByteArray)(l:List ByteArray):yKc (incB b m) l=yKc b (l.filter (λn=>!decide (n=m))):=by
 unfold yKc;rw[List.filter_filter];refine List.filter_congr λn _=>?_;unfold incB;grind
mutual
theorem xQr:∀(f:Fm)(b:ByteArray->Nat),zQ4 b f=yKc b (frF f)
 | .mk op m us sub,b=>by
  simp only[zQ4,frF,yXc];rw[zWj sub];split
  ·rw[xG1]
  ·rfl
theorem zWj:∀(l:List Fm)(b:ByteArray->Nat),yZv b l=yKc b (frFs l)
 | [],b=>by simp[yZv,frFs,yKc]
 | a::l,b=>by simp only[yZv,frFs,yXc,xQr a b,zWj l b]
end
theorem zGc (f:Fm):xG2 f=frF f:=by
 unfold xG2;rw[xQr];unfold yKc;rw[List.filter_eq_self];intro a _;rfl
abbrev Sb:=List (ByteArray×Tm)
def yXd (l:Sb)(n:ByteArray):Option Tm:=(l.find? λp=>decide (p.1=n)).map (·.2)
def cntS (ps:Sb)(m:ByteArray)(fr:List ByteArray):Sb:=ps.filter λp=>memB fr p.1&&!decide (p.1=m)
def xZ6 (ps:Sb)(m:ByteArray)(fr:List ByteArray):Bool:=(cntS ps m fr).any λp=>memB (yZ1 p.2) m
def yUj (ps:Sb)(m:ByteArray)(fr:List ByteArray):List ByteArray:=fr++(cntS ps m fr).flatMap λp=>yZ1 p.2
noncomputable def yKz (ps:Sb)(m:ByteArray)(fr:List ByteArray):ByteArray×Sb :=
 if xZ6 ps m fr then (zZr (yUj ps m fr),cntS ps m fr++[(m,.mk true (zZr (yUj ps m fr)) [])]) else (m,cntS ps m fr)
mutual
noncomputable def yGk:Sb->Fm->Fm
 | ps,.mk op m us sub=>.mk op (if isQ op then (yKz ps m (frFs sub)).1 else m) (yXy (yXd ps) us) (yKl (if isQ op then (yKz ps m (frFs sub)).2 else ps) sub)
noncomputable def yKl:Sb->List Fm->List Fm
 | _,[]=>[]
 | ps,a::l=>yGk ps a::yKl ps l
end
theorem yWt (ps:Sb):∀l m:List Fm,yKl ps (l++m)=yKl ps l++yKl ps m
 | [],m=>by simp[yKl]
 | a::l,m=>by simp only[List.cons_append,yKl,yWt ps l m]
theorem yJo (ps:Sb):∀l:List Fm,(yKl ps l).length=l.length
 | []=>rfl
 | a::l=>by simp only[yKl,List.length_cons,yJo ps l]
inductive NlT where
 | bv (i:Nat)
 | fv (n:ByteArray)
 | ap (n:ByteArray) (l:List NlT)
inductive NlF where
 | mk (op:Nat) (n:ByteArray) (us:List NlT) (sub:List NlF)
def wZ6:List ByteArray->ByteArray->Option Nat
 | [],_=>none
 | m::e,n=>if n=m then some e.length else wZ6 e n
def yV7 (env:List ByteArray)(n:ByteArray):NlT:=match wZ6 env n with|some i=>.bv i|none=>.fv n
mutual
def db (env:List ByteArray):Tm->NlT
 | .mk true n _=>yV7 env n
 | .mk false n l=>.ap n (dbs env l)
def dbs (env:List ByteArray):List Tm->List NlT
 | []=>[]
 | a::l=>db env a::dbs env l
end
mutual
def dbF:List ByteArray->Fm->NlF
 | env,.mk op m us sub=>.mk op (if isQ op then ⟨#[]⟩ else m) (dbs env us) (dbFs (if isQ op then m::env else env) sub)
def dbFs:List ByteArray->List Fm->List NlF
 | _,[]=>[]
 | env,a::l=>dbF env a::dbFs env l
end
theorem xVd:∀ {e:List ByteArray}{n:ByteArray}{i:Nat},wZ6 e n=some i->i<e.length
 | [],n,i,h=>by cases h
 | m::e,n,i,h=>by
  simp only[wZ6] at h;split at h
  ·cases h;simp
  ·have:=xVd h;simp only[List.length_cons];omega
theorem zWf {e:List ByteArray}{m n:ByteArray}:yV7 (m::e) n=if n=m then .bv e.length else yV7 e n:=by
 unfold yV7;simp only[wZ6];grind
theorem xV1 {n:ByteArray}{l:List Tm}(h:(Tm.mk true n l).ok=true):l=[]:=by
 simp only[Tm.ok,bAt,List.isEmpty_iff] at h;exact h.1
theorem xV2 {n:ByteArray}{l:List Tm}(h:(Tm.mk false n l).ok=true):yYi l=true:=by
 simp only[Tm.ok,bAt] at h;exact h.2
theorem yKv {a:Tm}{l:List Tm}(h:yYi (a::l)=true):a.ok=true/\yYi l=true:=by
 simpa only[yYi,bAt] using h
theorem yKw {a:Fm}{l:List Fm}(h:yGi (a::l)=true):a.ok=true/\yGi l=true:=by
 simpa only[yGi,bAt] using h
theorem zYy {op:Nat}{m:ByteArray}{us:List Tm}{sub:List Fm}(h:(Fm.mk op m us sub).ok=true):yYi us=true/\yGi sub=true/\yKn op m us.length sub.length=true:=by
 simp only[Fm.ok,bAt] at h;exact⟨h.1.2,h.2,h.1.1⟩
theorem zX0 {ps:Sb}{q:ByteArray×Tm->Bool}{n:ByteArray}(h:∀u,q (n,u)=true):yXd (ps.filter q) n=yXd ps n:=by
 unfold yXd;grind
theorem zX1 {ps:Sb}{q:ByteArray×Tm->Bool}{n:ByteArray}(h:∀u,q (n,u)=false):yXd (ps.filter q) n=none:=by
 unfold yXd;grind
theorem zZp (ps qs:Sb)(n:ByteArray):yXd (ps++qs) n=(yXd ps n).or (yXd qs n):=by
 unfold yXd;grind
theorem xQe {ps:Sb}{m n:ByteArray}{fr:List ByteArray}(hn:n∈fr)(hm:n≠m):yXd (cntS ps m fr) n=yXd ps n :=
 zX0 λu=>by simp[hn,hm]
theorem yGs {ps:Sb}{m:ByteArray}{fr:List ByteArray}:yXd (cntS ps m fr) m=none :=
 zX1 λu=>by simp
theorem xQd {ps:Sb}{n:ByteArray}{u:Tm}(h:yXd ps n=some u):(n,u)∈ps:=by
 unfold yXd at h;rw[Option.map_eq_some_iff] at h;grind
end Go.Proofs.Tryz
namespace Go.Proofs.Tryz
open Go Go.Iv
theorem xYk {ps:Sb}{m:ByteArray}{fr:List ByteArray}{n:ByteArray}(hn:n∈fr) :
  yXd (yKz ps m fr).2 n=if n=m then (if xZ6 ps m fr then some (.mk true (yKz ps m fr).1 []) else none) else yXd ps n:=by
 unfold yKz;by_cases hnm:n=m
 ·subst hnm;rw[if_pos rfl];split
  ·simp only[zZp,yGs];simp[yXd]
  ·exact yGs
 ·rw[if_neg hnm];split
  ·simp only[zZp,xQe hn hnm];have:yXd [(m,Tm.mk true (zZr (yUj ps m fr)) [])] n=none:=by simp[yXd,Ne.symm hnm]
   rw[this];simp
  ·exact xQe hn hnm
section
variable (ps:List Pc)
def HSz (b:ByteArray->Nat)(F:ByteArray->Option Tm)(n:ByteArray):Prop :=
 (if b n=0 then zQx ps n (1,1) else (1,1))=(((F n).getD (.mk true n [])).size,((F n).getD (.mk true n [])).deep)
mutual
theorem wU0 (b:ByteArray->Nat)(F:ByteArray->Option Tm):∀t:Tm,t.ok=true->(∀n∈yZ1 t,HSz ps b F n)->psz ps b t=((yGj F t).size,(yGj F t).deep)
 | .mk true n l,h,hn=>by
  obtain rfl:=xV1 h;have h1:=hn n (by simp[yZ1]);unfold HSz at h1;simp only[psz,pszs,true_and,yGj];rw[h1];cases F n with
  | none=>rfl
  | some u=>rfl
 | .mk false n l,h,hn=>by
  have:=zYt b F l (xV2 h) (λn hm=>hn n (by simpa[yZ1] using hm));simp only[psz,bFt,false_and,if_false,yGj,Tm.size,Tm.deep,this]
theorem zYt (b:ByteArray->Nat)(F:ByteArray->Option Tm):∀l:List Tm,yYi l=true->(∀n∈yQq l,HSz ps b F n)->pszs ps b l=(yQh (yXy F l),yQu (yXy F l))
 | [],_,_=>rfl
 | a::l,h,hn=>by
  simp only[pszs,yXy,yQh,yQu,wU0 b F a (yKv h).1 (λn hm=>hn n (by simp[yQq,hm])),zYt b F l (yKv h).2 (λn hm=>hn n (by simp[yQq,hm]))]
end
theorem wJr {b:ByteArray->Nat}{qs:Sb}{m:ByteArray}{fr:List ByteArray}{n:ByteArray}(hn:n∈fr)(h:n≠m->HSz ps b (yXd qs) n):HSz ps (incB b m) (yXd (yKz qs m fr).2) n:=by
 unfold HSz at h ⊢;rw[xYk hn];by_cases hnm:n=m
 ·subst hnm;simp only[incB,if_true];rw[if_neg (by omega)];split<;>rfl
 ·simp only[incB,if_neg hnm];exact h hnm
mutual
theorem xVw:∀(f:Fm)(qs:Sb)(b:ByteArray->Nat),f.ok=true->(∀n∈frF f,HSz ps b (yXd qs) n)->fsz ps b f=((yGk qs f).size,(yGk qs f).deep)
 | .mk op m us sub,qs,b,hok,h=>by
  obtain⟨h1,h2,_⟩:=zYy hok;simp only[frF] at h;simp only[fsz,yGk,Fm.size,Fm.deep,zYt ps b (yXd qs) us h1 (λn hn=>h n (by simp[hn]))];by_cases hq:isQ op=true
  ·simp only[hq,if_true] at h ⊢;rw[zK8 sub _ _ h2 (λn hn=>wJr ps hn (λhm=>h n (by simp[hn,hm])))]
  ·simp only[hq,bFt,if_false] at h ⊢;rw[zK8 sub qs b h2 (λn hn=>h n (by simp[hn]))]
theorem zK8:∀(l:List Fm)(qs:Sb)(b:ByteArray->Nat),yGi l=true->(∀n∈frFs l,HSz ps b (yXd qs) n)->fszs ps b l=(yQa (yKl qs l),yZ3 (yKl qs l))
 | [],_,_,_,_=>rfl
 | a::l,qs,b,hok,h=>by
  simp only[frFs] at h;simp only[fszs,yKl,yQa,yZ3,xVw a qs b (yKw hok).1 (λn hn=>h n (by simp[hn])),zK8 l qs b (yKw hok).2 (λn hn=>h n (by simp[hn]))]
end
end
def toS (ps:List Pc):Sb:=ps.map λp=>(p.nm,p.tm)
theorem wKx (ps:List Pc):putF ps=yXd (toS ps):=by
 funext n;unfold putF yXd toS;rw[List.find?_map];simp only[Option.map_map];rfl
theorem zWh:∀(ps:List Pc)(z:Nat×Nat)(n:ByteArray),(ps.map Pc.nm).Nodup->zQx ps n z=match yXd (toS ps) n with|some u=>(u.size,u.deep)|none=>z
 | [],z,n,_=>rfl
 | p::ps,z,n,h=>by
  simp only[List.map_cons,List.nodup_cons] at h;have ih:=zWh ps (if p.nm=n then (p.tm.size,p.tm.deep) else z) n h.2;have h0:zQx (p::ps) n z=zQx ps n (if p.nm=n then (p.tm.size,p.tm.deep) else z):=rfl;rw[h0,ih];have hc:yXd (toS (p::ps)) n=if p.nm=n then some p.tm else yXd (toS ps) n:=by
   unfold yXd toS;grind
  rw[hc];by_cases hp:p.nm=n
  ·rw[if_pos hp,if_pos hp];have:yXd (toS ps) n=none:=by
    cases hl:yXd (toS ps) n with
    | none=>rfl
    | some u =>
     have:=xQd hl;unfold toS at this;grind
   rw[this]
  ·grind
theorem HSz0 {ps:List Pc}(h:(ps.map Pc.nm).Nodup)(n:ByteArray):HSz ps (λ_=>0) (yXd (toS ps)) n:=by
 unfold HSz;rw[if_pos rfl,zWh ps _ n h];cases yXd (toS ps) n<;>rfl
theorem vKh {ps:List Pc}(h:(ps.map Pc.nm).Nodup){f:Fm}(hf:f.ok=true):fsz ps (λ_=>0) f=((yGk (toS ps) f).size,(yGk (toS ps) f).deep) :=
 xVw ps f (toS ps) _ hf (λn _=>HSz0 h n)
theorem zQp:∀(k u:Nat),u<10 ^ (k+1)->Lib.nDigits u<=k+1
 | 0,u,h=>by rw[Lib.nDigits_small (by simpa using h)];omega
 | k+1,u,h=>by
  by_cases hu:u<10
  ·rw[Lib.nDigits_small hu];omega
  ·rw[Lib.nDigits_big hu];have:=zQp k (u / 10) (by rw[Nat.pow_succ] at h;omega);omega
mutual
theorem zWc:∀t:Tm,(yZ1 t).length<=t.size
 | .mk true n l=>by have:=yWq l;simp only[yZ1,List.length_cons,Tm.size];omega
 | .mk false n l=>by have:=yWq l;simp only[yZ1,Tm.size];omega
theorem yWq:∀l:List Tm,(yQq l).length<=yQh l
 | []=>Nat.le_refl _
 | a::l=>by have:=zWc a;have:=yWq l;simp only[yQq,lLa,yQh];omega
end
mutual
theorem wX4:∀f:Fm,(frF f).length<=f.size
 | .mk op m us sub=>by
  have h1:=yWq us;have h2:=xJe sub;simp only[frF,lLa,Fm.size];grind
theorem xJe:∀l:List Fm,(frFs l).length<=yQa l
 | []=>Nat.le_refl _
 | a::l=>by have:=wX4 a;have:=xJe l;simp only[frFs,lLa,yQa];omega
end
def wS:Sb->Nat
 | []=>0
 | p::l=>p.2.size+wS l
theorem zU2:∀l m:Sb,wS (l++m)=wS l+wS m
 | [],m=>by simp[wS]
 | a::l,m=>by simp only[List.cons_append,wS,zU2 l m];omega
theorem yUc (q:ByteArray×Tm->Bool):∀l:Sb,wS (l.filter q)<=wS l
 | []=>Nat.le_refl _
 | a::l=>by
  have:=yUc q l;rw[List.filter_cons];split
  ·simp only[wS];omega
  ·simp only[wS];omega
theorem wX7:∀l:Sb,(l.flatMap λp=>yZ1 p.2).length<=wS l
 | []=>Nat.le_refl _
 | a::l=>by
  have:=wX7 l;have:=zWc a.2;simp only[List.flatMap_cons,lLa,wS];omega
theorem wK9 (ps:Sb)(m:ByteArray)(fr:List ByteArray):(yUj ps m fr).length<=fr.length+wS ps:=by
 have:=wX7 (cntS ps m fr);have:=yUc (λp=>memB fr p.1&&!decide (p.1=m)) ps;unfold yUj cntS at *;grind
theorem wJz (ps:Sb)(m:ByteArray)(fr:List ByteArray):wS (yKz ps m fr).2<=wS ps+1:=by
 have:=yUc (λp=>memB fr p.1&&!decide (p.1=m)) ps;unfold yKz cntS;split
 ·simp only[zU2,wS,Tm.size,yQh];omega
 ·grind
end Go.Proofs.Tryz
namespace Go.Proofs.Tryz
open Go Go.Iv
noncomputable def zWx (f g:Fm):Bool:=f.right&&g.right&&eqB (dbF [] f) (dbF [] g)
theorem xVb {e:List ByteArray}{n:ByteArray}{l:Nat}(h:e.length<=l):yV7 e n≠.bv l:=by
 unfold yV7;split
 ·rename_i i hi;have:=xVd hi;grind
 ·grind
theorem xYl {ls rs:List ByteArray}{l r n n':ByteArray}(hlen:ls.length=rs.length):yV7 (l::ls) n=yV7 (r::rs) n'↔(if n=l\/n'=r then n=l/\n'=r else yV7 ls n=yV7 rs n'):=by
 rw[zWf,zWf];by_cases h1:n=l
 ·by_cases h2:n'=r
  ·grind
  ·simp only[h1,h2,if_true,true_or,and_false,iff_false,if_false];exact λh=>xVb (Nat.le_of_eq hlen.symm) h.symm
 ·by_cases h2:n'=r
  ·simp only[h1,h2,if_true,or_true,false_and,iff_false,if_false];exact λh=>xVb (Nat.le_of_eq hlen) h
  ·simp[h1,h2]
theorem xVc {e:List ByteArray}{n m:ByteArray}{l:List NlT}:yV7 e n≠.ap m l:=by
 unfold yV7;split<;>intro h<;>cases h
theorem wZ5 {n:ByteArray}:yV7 [] n=.fv n:=rfl
abbrev Ar:=List (ByteArray×ByteArray)
theorem yG8 {f:Fm}(h:f.right=true):f.ok=true/\f.size<=400/\f.deep<=40:=by
 simp only[Fm.right,bAt,dTe] at h;exact⟨h.1.1,h.1.2,h.2⟩
