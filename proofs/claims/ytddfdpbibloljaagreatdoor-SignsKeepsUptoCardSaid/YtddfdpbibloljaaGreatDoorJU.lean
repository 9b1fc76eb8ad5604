/- Putting, renaming, normal forms: plain d -/
import Derived.Test.YtddfdpbibloljaaGreatDoorJT
import Derived.Lib.ItoaNum
set_option linter.all false
namespace Go.Proofs.Tryz
open Go Go.Iv
def yWj (k:Nat):ByteArray:=⟨(120::Lib.decDigits k).toArray⟩
def valD (l:List UInt8):Nat:=l.foldl (λa d=>a*10+(d.toNat-48)) 0
theorem xK3 (u:Nat):valD (Lib.decDigits u)=u:=by
 induction u using Nat.strongRecOn with
 | _ u ih =>
  rw[Lib.decDigits];by_cases h:u<10
  ·rw[dif_pos h];simp only[valD,List.foldl_cons,List.foldl_nil,UInt8.toNat_ofNat'];omega
  ·rw[dif_neg h];have:=ih (u / 10) (by omega);simp only[valD,List.foldl_append,List.foldl_cons,List.foldl_nil,UInt8.toNat_ofNat'] at this ⊢;grind
theorem xGo {a b:Nat}(h:yWj a=yWj b):a=b:=by
 have h1:(120::Lib.decDigits a)=(120::Lib.decDigits b):=by
  have:=congrArg (λx:ByteArray=>x.data.toList) h;simpa[yWj] using this
 have h2:Lib.decDigits a=Lib.decDigits b:=by injection h1
 rw[<- xK3 a,h2,xK3 b]
theorem xV6 {α:Type} [DecidableEq α]:∀(a b:List α),a.Nodup->(∀x∈a,x∈b)->a.length<=b.length
 | [],b,_,_=>Nat.zero_le _
 | x::a,b,hn,hs=>by
  have hx:=hs x (List.mem_cons_self ..);have hn':=List.nodup_cons.1 hn;have:=xV6 a (b.erase x) hn'.2 (λy hy=>(List.mem_erase_of_ne (by rintro rfl;exact hn'.1 hy)).2 (hs y (List.mem_cons_of_mem _ hy)));grind
theorem wKu (l:List ByteArray):∃k,1<=k/\k<=l.length+1/\yWj k ∉ l:=by
 refine Classical.byContradiction λhne=>?_;have hall:∀k,1<=k->k<=l.length+1->yWj k∈l:=λk h1 h2=>Classical.byContradiction λh=>hne ⟨k,h1,h2,h⟩;have:=xV6 ((List.range' 1 (l.length+1)).map yWj) l (by
   unfold List.Nodup;rw[List.pairwise_map];exact List.Pairwise.imp (λh he=>h (xGo he)) (List.nodup_range' (s:=1) (n:=l.length+1))) (λx hx=>by
   obtain⟨k,hk,rfl⟩:=List.mem_map.1 hx;have:=List.mem_range'_1.1 hk;exact hall k (by omega) (by omega))
 grind
noncomputable def zZs (l:List ByteArray):Nat:=Iv.least (λk=>1<=k/\yWj k ∉ l)
theorem xXx (l:List ByteArray):1<=zZs l/\zZs l<=l.length+1/\yWj (zZs l) ∉ l/\∀j,1<=j->j<zZs l->yWj j∈l:=by
 obtain⟨k,h1,h2,h3⟩:=wKu l;have hs:=Iv.least_spec (p:=λk=>1<=k/\yWj k ∉ l) ⟨k,h1,h3⟩;refine⟨hs.1.1,Nat.le_trans (hs.2 k ⟨h1,h3⟩) h2,hs.1.2,λj hj hlt=>Classical.byContradiction λhn=>?_⟩;have:=hs.2 j ⟨hj,hn⟩;unfold zZs at hlt;omega
noncomputable def zZr (l:List ByteArray):ByteArray:=yWj (zZs l)
def memB (l:List ByteArray)(n:ByteArray):Bool:=l.any λx=>decide (x=n)
@[simp] theorem yJ4 {l:List ByteArray}{n:ByteArray}:memB l n=true↔n∈l:=by
 simp[memB]
@[simp] theorem zXa {l:List ByteArray}{n:ByteArray}:memB l n=false↔n ∉ l:=by
 rw[<- Bool.not_eq_true,yJ4]
mutual
def frF:Fm->List ByteArray
 | .mk op m us sub=>yQo us++(if isQ op then (frFs sub).filter (λn=>!decide (n=m)) else frFs sub)
def frFs:List Fm->List ByteArray
 | []=>[]
 | a::l=>frF a++frFs l
end
theorem xYu (b:ByteArray->Nat)(m:ByteArray)(l:List ByteArray):yK5 (incB b m) l=yK5 b (l.filter (λn=>!decide (n=m))):=by
 unfold yK5;rw[List.filter_filter];refine List.filter_congr λn _=>?_;unfold incB;grind
mutual
theorem xQi:∀(f:Fm)(b:ByteArray->Nat),zQ5 b f=yK5 b (frF f)
 | .mk op m us sub,b=>by
  simp only[zQ5,frF,yXe];rw[zWe sub];split
  ·rw[xYu]
  ·rfl
theorem zWe:∀(l:List Fm)(b:ByteArray->Nat),yZx b l=yK5 b (frFs l)
 | [],b=>by simp[yZx,frFs,yK5]
 | a::l,b=>by simp only[yZx,frFs,yXe,xQi a b,zWe l b]
end
theorem zG6 (f:Fm):xYv f=frF f:=by
 unfold xYv;rw[xQi];unfold yK5;rw[List.filter_eq_self];intro a _;rfl
abbrev Sb:=List (ByteArray×Tm)
def yXf (l:Sb)(n:ByteArray):Option Tm:=(l.find? λp=>decide (p.1=n)).map (·.2)
def cntS (ps:Sb)(m:ByteArray)(fr:List ByteArray):Sb:=ps.filter λp=>memB fr p.1&&!decide (p.1=m)
def xQx (ps:Sb)(m:ByteArray)(fr:List ByteArray):Bool:=(cntS ps m fr).any λp=>memB (yZ0 p.2) m
def yUl (ps:Sb)(m:ByteArray)(fr:List ByteArray):List ByteArray:=fr++(cntS ps m fr).flatMap λp=>yZ0 p.2
noncomputable def yKy (ps:Sb)(m:ByteArray)(fr:List ByteArray):ByteArray×Sb :=
 if xQx ps m fr then (zZr (yUl ps m fr),cntS ps m fr++[(m,.mk true (zZr (yUl ps m fr)) [])]) else (m,cntS ps m fr)
mutual
noncomputable def yGj:Sb->Fm->Fm
 | ps,.mk op m us sub=>.mk op (if isQ op then (yKy ps m (frFs sub)).1 else m) (yXz (yXf ps) us) (yKh (if isQ op then (yKy ps m (frFs sub)).2 else ps) sub)
noncomputable def yKh:Sb->List Fm->List Fm
 | _,[]=>[]
 | ps,a::l=>yGj ps a::yKh ps l
end
theorem yWv (ps:Sb):∀l m:List Fm,yKh ps (l++m)=yKh ps l++yKh ps m
 | [],m=>by simp[yKh]
 | a::l,m=>by simp only[List.cons_append,yKh,yWv ps l m]
theorem yJl (ps:Sb):∀l:List Fm,(yKh ps l).length=l.length
 | []=>rfl
 | a::l=>by simp only[yKh,List.length_cons,yJl ps l]
inductive NlT where
 | bv (i:Nat)
 | fv (n:ByteArray)
 | ap (n:ByteArray) (l:List NlT)
inductive NlF where
 | mk (op:Nat) (n:ByteArray) (us:List NlT) (sub:List NlF)
def wQo:List ByteArray->ByteArray->Option Nat
 | [],_=>none
 | m::e,n=>if n=m then some e.length else wQo e n
def yV7 (env:List ByteArray)(n:ByteArray):NlT:=match wQo env n with|some i=>.bv i|none=>.fv n
mutual
def db (env:List ByteArray):Tm->NlT
 | .mk true n _=>yV7 env n
 | .mk false n l=>.ap n (dbs env l)
def dbs (env:List ByteArray):List Tm->List NlT
 | []=>[]
 | a::l=>db env a::dbs env l
end
mutual
def dbF:List ByteArray->Fm->NlF
 | env,.mk op m us sub=>.mk op (if isQ op then ⟨#[]⟩ else m) (dbs env us) (dbFs (if isQ op then m::env else env) sub)
def dbFs:List ByteArray->List Fm->List NlF
 | _,[]=>[]
 | env,a::l=>dbF env a::dbFs env l
end
theorem xVc:∀ {e:List ByteArray}{n:ByteArray}{i:Nat},wQo e n=some i->i<e.length
 | [],n,i,h=>by cases h
 | m::e,n,i,h=>by
  simp only[wQo] at h;split at h
  ·cases h;simp
  ·have:=xVc h;simp only[List.length_cons];omega
theorem zW9 {e:List ByteArray}{m n:ByteArray}:yV7 (m::e) n=if n=m then .bv e.length else yV7 e n:=by
 unfold yV7;simp only[wQo];grind
theorem xV0 {n:ByteArray}{l:List Tm}(h:(Tm.mk true n l).ok=true):l=[]:=by
 simp only[Tm.ok,bAt,List.isEmpty_iff] at h;exact h.1
theorem xV1 {n:ByteArray}{l:List Tm}(h:(Tm.mk false n l).ok=true):yYk l=true:=by
 simp only[Tm.ok,bAt] at h;exact h.2
theorem yKs {a:Tm}{l:List Tm}(h:yYk (a::l)=true):a.ok=true/\yYk l=true:=by
 simpa only[yYk,bAt] using h
theorem yKt {a:Fm}{l:List Fm}(h:yGh (a::l)=true):a.ok=true/\yGh l=true:=by
 simpa only[yGh,bAt] using h
theorem zYr {op:Nat}{m:ByteArray}{us:List Tm}{sub:List Fm}(h:(Fm.mk op m us sub).ok=true):yYk us=true/\yGh sub=true/\yKl op m us.length sub.length=true:=by
 simp only[Fm.ok,bAt] at h;exact⟨h.1.2,h.2,h.1.1⟩
theorem zX0 {ps:Sb}{q:ByteArray×Tm->Bool}{n:ByteArray}(h:∀u,q (n,u)=true):yXf (ps.filter q) n=yXf ps n:=by
 unfold yXf;grind
theorem zX1 {ps:Sb}{q:ByteArray×Tm->Bool}{n:ByteArray}(h:∀u,q (n,u)=false):yXf (ps.filter q) n=none:=by
 unfold yXf;grind
theorem zZp (ps qs:Sb)(n:ByteArray):yXf (ps++qs) n=(yXf ps n).or (yXf qs n):=by
 unfold yXf;grind
theorem xQ6 {ps:Sb}{m n:ByteArray}{fr:List ByteArray}(hn:n∈fr)(hm:n≠m):yXf (cntS ps m fr) n=yXf ps n :=
 zX0 λu=>by simp[hn,hm]
theorem yGs {ps:Sb}{m:ByteArray}{fr:List ByteArray}:yXf (cntS ps m fr) m=none :=
 zX1 λu=>by simp
theorem xQ5 {ps:Sb}{n:ByteArray}{u:Tm}(h:yXf ps n=some u):(n,u)∈ps:=by
 unfold yXf at h;rw[Option.map_eq_some_iff] at h;grind
end Go.Proofs.Tryz
namespace Go.Proofs.Tryz
open Go Go.Iv
theorem xYd {ps:Sb}{m:ByteArray}{fr:List ByteArray}{n:ByteArray}(hn:n∈fr) :
  yXf (yKy ps m fr).2 n=if n=m then (if xQx ps m fr then some (.mk true (yKy ps m fr).1 []) else none) else yXf ps n:=by
 unfold yKy;by_cases hnm:n=m
 ·subst hnm;rw[if_pos rfl];split
  ·simp only[zZp,yGs];simp[yXf]
  ·exact yGs
 ·rw[if_neg hnm];split
  ·simp only[zZp,xQ6 hn hnm];have:yXf [(m,Tm.mk true (zZr (yUl ps m fr)) [])] n=none:=by simp[yXf,Ne.symm hnm]
   rw[this];simp
  ·exact xQ6 hn hnm
section
variable (ps:List Pc)
def HSz (b:ByteArray->Nat)(F:ByteArray->Option Tm)(n:ByteArray):Prop :=
 (if b n=0 then zQz ps n (1,1) else (1,1))=(((F n).getD (.mk true n [])).size,((F n).getD (.mk true n [])).deep)
mutual
theorem wGj (b:ByteArray->Nat)(F:ByteArray->Option Tm):∀t:Tm,t.ok=true->(∀n∈yZ0 t,HSz ps b F n)->psz ps b t=((yGi F t).size,(yGi F t).deep)
 | .mk true n l,h,hn=>by
  obtain rfl:=xV0 h;have h1:=hn n (by simp[yZ0]);unfold HSz at h1;simp only[psz,pszs,true_and,yGi];rw[h1];cases F n with
  | none=>rfl
  | some u=>rfl
 | .mk false n l,h,hn=>by
  have:=zYm b F l (xV1 h) (λn hm=>hn n (by simpa[yZ0] using hm));simp only[psz,bFt,false_and,if_false,yGi,Tm.size,Tm.deep,this]
theorem zYm (b:ByteArray->Nat)(F:ByteArray->Option Tm):∀l:List Tm,yYk l=true->(∀n∈yQo l,HSz ps b F n)->pszs ps b l=(yQh (yXz F l),yQs (yXz F l))
 | [],_,_=>rfl
 | a::l,h,hn=>by
  simp only[pszs,yXz,yQh,yQs,wGj b F a (yKs h).1 (λn hm=>hn n (by simp[yQo,hm])),zYm b F l (yKs h).2 (λn hm=>hn n (by simp[yQo,hm]))]
end
theorem wJ6 {b:ByteArray->Nat}{qs:Sb}{m:ByteArray}{fr:List ByteArray}{n:ByteArray}(hn:n∈fr)(h:n≠m->HSz ps b (yXf qs) n):HSz ps (incB b m) (yXf (yKy qs m fr).2) n:=by
 unfold HSz at h ⊢;rw[xYd hn];by_cases hnm:n=m
 ·subst hnm;simp only[incB,if_true];rw[if_neg (by omega)];split<;>rfl
 ·simp only[incB,if_neg hnm];exact h hnm
mutual
theorem xVv:∀(f:Fm)(qs:Sb)(b:ByteArray->Nat),f.ok=true->(∀n∈frF f,HSz ps b (yXf qs) n)->fsz ps b f=((yGj qs f).size,(yGj qs f).deep)
 | .mk op m us sub,qs,b,hok,h=>by
  obtain⟨h1,h2,_⟩:=zYr hok;simp only[frF] at h;simp only[fsz,yGj,Fm.size,Fm.deep,zYm ps b (yXf qs) us h1 (λn hn=>h n (by simp[hn]))];by_cases hq:isQ op=true
  ·simp only[hq,if_true] at h ⊢;rw[zK3 sub _ _ h2 (λn hn=>wJ6 ps hn (λhm=>h n (by simp[hn,hm])))]
  ·simp only[hq,bFt,if_false] at h ⊢;rw[zK3 sub qs b h2 (λn hn=>h n (by simp[hn]))]
theorem zK3:∀(l:List Fm)(qs:Sb)(b:ByteArray->Nat),yGh l=true->(∀n∈frFs l,HSz ps b (yXf qs) n)->fszs ps b l=(yQ9 (yKh qs l),yZ2 (yKh qs l))
 | [],_,_,_,_=>rfl
 | a::l,qs,b,hok,h=>by
  simp only[frFs] at h;simp only[fszs,yKh,yQ9,yZ2,xVv a qs b (yKt hok).1 (λn hn=>h n (by simp[hn])),zK3 l qs b (yKt hok).2 (λn hn=>h n (by simp[hn]))]
end
end
def toS (ps:List Pc):Sb:=ps.map λp=>(p.nm,p.tm)
theorem wK7 (ps:List Pc):putF ps=yXf (toS ps):=by
 funext n;unfold putF yXf toS;rw[List.find?_map];simp only[Option.map_map];rfl
theorem zWc:∀(ps:List Pc)(z:Nat×Nat)(n:ByteArray),(ps.map Pc.nm).Nodup->zQz ps n z=match yXf (toS ps) n with|some u=>(u.size,u.deep)|none=>z
 | [],z,n,_=>rfl
 | p::ps,z,n,h=>by
  simp only[List.map_cons,List.nodup_cons] at h;have ih:=zWc ps (if p.nm=n then (p.tm.size,p.tm.deep) else z) n h.2;have h0:zQz (p::ps) n z=zQz ps n (if p.nm=n then (p.tm.size,p.tm.deep) else z):=rfl;rw[h0,ih];have hc:yXf (toS (p::ps)) n=if p.nm=n then some p.tm else yXf (toS ps) n:=by
   unfold yXf toS;grind
  rw[hc];by_cases hp:p.nm=n
  ·rw[if_pos hp,if_pos hp];have:yXf (toS ps) n=none:=by
    cases hl:yXf (toS ps) n with
    | none=>rfl
    | some u =>
     have:=xQ5 hl;unfold toS at this;grind
   rw[this]
  ·grind
theorem HSz0 {ps:List Pc}(h:(ps.map Pc.nm).Nodup)(n:ByteArray):HSz ps (λ_=>0) (yXf (toS ps)) n:=by
 unfold HSz;rw[if_pos rfl,zWc ps _ n h];cases yXf (toS ps) n<;>rfl
theorem vK1 {ps:List Pc}(h:(ps.map Pc.nm).Nodup){f:Fm}(hf:f.ok=true):fsz ps (λ_=>0) f=((yGj (toS ps) f).size,(yGj (toS ps) f).deep) :=
 xVv ps f (toS ps) _ hf (λn _=>HSz0 h n)
theorem zQr:∀(k u:Nat),u<10 ^ (k+1)->Lib.nDigits u<=k+1
 | 0,u,h=>by rw[Lib.nDigits_small (by simpa using h)];omega
 | k+1,u,h=>by
  by_cases hu:u<10
  ·rw[Lib.nDigits_small hu];omega
  ·rw[Lib.nDigits_big hu];have:=zQr k (u / 10) (by rw[Nat.pow_succ] at h;omega);omega
mutual
theorem zW6:∀t:Tm,(yZ0 t).length<=t.size
 | .mk true n l=>by have:=yWr l;simp only[yZ0,List.length_cons,Tm.size];omega
 | .mk false n l=>by have:=yWr l;simp only[yZ0,Tm.size];omega
theorem yWr:∀l:List Tm,(yQo l).length<=yQh l
 | []=>Nat.le_refl _
 | a::l=>by have:=zW6 a;have:=yWr l;simp only[yQo,lLa,yQh];omega
end
mutual
theorem wZn:∀f:Fm,(frF f).length<=f.size
 | .mk op m us sub=>by
  have h1:=yWr us;have h2:=xJ9 sub;simp only[frF,lLa,Fm.size];grind
theorem xJ9:∀l:List Fm,(frFs l).length<=yQ9 l
 | []=>Nat.le_refl _
 | a::l=>by have:=wZn a;have:=xJ9 l;simp only[frFs,lLa,yQ9];omega
end
def wS:Sb->Nat
 | []=>0
 | p::l=>p.2.size+wS l
theorem zGy:∀l m:Sb,wS (l++m)=wS l+wS m
 | [],m=>by simp[wS]
 | a::l,m=>by simp only[List.cons_append,wS,zGy l m];omega
theorem yUe (q:ByteArray×Tm->Bool):∀l:Sb,wS (l.filter q)<=wS l
 | []=>Nat.le_refl _
 | a::l=>by
  have:=yUe q l;rw[List.filter_cons];split
  ·simp only[wS];omega
  ·simp only[wS];omega
theorem wZr:∀l:Sb,(l.flatMap λp=>yZ0 p.2).length<=wS l
 | []=>Nat.le_refl _
 | a::l=>by
  have:=wZr l;have:=zW6 a.2;simp only[List.flatMap_cons,lLa,wS];omega
theorem wJk (ps:Sb)(m:ByteArray)(fr:List ByteArray):(yUl ps m fr).length<=fr.length+wS ps:=by
 have:=wZr (cntS ps m fr);have:=yUe (λp=>memB fr p.1&&!decide (p.1=m)) ps;unfold yUl cntS at *;grind
theorem wJe (ps:Sb)(m:ByteArray)(fr:List ByteArray):wS (yKy ps m fr).2<=wS ps+1:=by
 have:=yUe (λp=>memB fr p.1&&!decide (p.1=m)) ps;unfold yKy cntS;split
 ·simp only[zGy,wS,Tm.size,yQh];omega
 ·grind
end Go.Proofs.Tryz
namespace Go.Proofs.Tryz
open Go Go.Iv
noncomputable def zWs (f g:Fm):Bool:=f.right&&g.right&&eqB (dbF [] f) (dbF [] g)
theorem xVa {e:List ByteArray}{n:ByteArray}{l:Nat}(h:e.length<=l):yV7 e n≠.bv l:=by
 unfold yV7;split
 ·rename_i i hi;have:=xVc hi;grind
 ·grind
theorem xYe {ls rs:List ByteArray}{l r n n':ByteArray}(hlen:ls.length=rs.length):yV7 (l::ls) n=yV7 (r::rs) n'↔(if n=l\/n'=r then n=l/\n'=r else yV7 ls n=yV7 rs n'):=by
 rw[zW9,zW9];by_cases h1:n=l
 ·by_cases h2:n'=r
  ·grind
  ·simp only[h1,h2,if_true,true_or,and_false,iff_false,if_false];exact λh=>xVa (Nat.le_of_eq hlen.symm) h.symm
 ·by_cases h2:n'=r
  ·simp only[h1,h2,if_true,or_true,false_and,iff_false,if_false];exact λh=>xVa (Nat.le_of_eq hlen) h
  ·simp[h1,h2]
theorem xVb {e:List ByteArray}{n m:ByteArray}{l:List NlT}:yV7 e n≠.ap m l:=by
 unfold yV7;split<;>intro h<;>cases h
theorem wQn {n:ByteArray}:yV7 [] n=.fv n:=rfl
abbrev Ar:=List (ByteArray×ByteArray)
theorem yG6 {f:Fm}(h:f.right=true):f.ok=true/\f.size<=400/\f.deep<=40:=by
 simp only[Fm.right,bAt,dTe] at h;exact⟨h.1.1,h.1.2,h.2⟩
