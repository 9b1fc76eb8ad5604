/- Putting, renaming, normal forms: plain d -/
import Derived.Test.YtddfdpbibloljaaGreatDoorJT
import Derived.Lib.ItoaNum
set_option linter.all false
namespace Go.Proofs.Tryz
open Go Go.Iv
def yWn (k:Nat):ByteArray:=⟨(120::Lib.decDigits k).toArray⟩
def valD (l:List UInt8):Nat:=l.foldl (λa d=>a*10+(d.toNat-48)) 0
theorem xKf (u:Nat):valD (Lib.decDigits u)=u:=by
 induction u using Nat.strongRecOn with
 | _ u ih =>
  rw[Lib.decDigits];by_cases h:u<10
  ·rw[dif_pos h];simp only[valD,List.foldl_cons,List.foldl_nil,UInt8.toNat_ofNat'];omega
  ·rw[dif_neg h];have:=ih (u / 10) (by omega);simp only[valD,List.foldl_append,List.foldl_cons,List.foldl_nil,UInt8.toNat_ofNat'] at this ⊢;grind
theorem xGy {a b:Nat}(h:yWn a=yWn b):a=b:=by
 have h1:(120::Lib.decDigits a)=(120::Lib.decDigits b):=by
  have:=congrArg (λx:ByteArray=>x.data.toList) h;simpa[yWn] using this
 have h2:Lib.decDigits a=Lib.decDigits b:=by injection h1
 rw[<- xKf a,h2,xKf b]
theorem xVh {α:Type} [DecidableEq α]:∀(a b:List α),a.Nodup->(∀x∈a,x∈b)->a.length<=b.length
 | [],b,_,_=>Nat.zero_le _
 | x::a,b,hn,hs=>by
  have hx:=hs x (List.mem_cons_self ..);have hn':=List.nodup_cons.1 hn;have:=xVh a (b.erase x) hn'.2 (λy hy=>(List.mem_erase_of_ne (by rintro rfl;exact hn'.1 hy)).2 (hs y (List.mem_cons_of_mem _ hy)));grind
theorem wV9 (l:List ByteArray):∃k,1<=k/\k<=l.length+1/\yWn k ∉ l:=by
 refine Classical.byContradiction λhne=>?_;have hall:∀k,1<=k->k<=l.length+1->yWn k∈l:=λk h1 h2=>Classical.byContradiction λh=>hne ⟨k,h1,h2,h⟩;have:=xVh ((List.range' 1 (l.length+1)).map yWn) l (by
   unfold List.Nodup;rw[List.pairwise_map];exact List.Pairwise.imp (λh he=>h (xGy he)) (List.nodup_range' (s:=1) (n:=l.length+1))) (λx hx=>by
   obtain⟨k,hk,rfl⟩:=List.mem_map.1 hx;have:=List.mem_range'_1.1 hk;exact hall k (by omega) (by omega))
 grind
noncomputable def zZv (l:List ByteArray):Nat:=Iv.least (λk=>1<=k/\yWn k ∉ l)
theorem xJ8 (l:List ByteArray):1<=zZv l/\zZv l<=l.length+1/\yWn (zZv l) ∉ l/\∀j,1<=j->j<zZv l->yWn j∈l:=by
 obtain⟨k,h1,h2,h3⟩:=wV9 l;have hs:=Iv.least_spec (p:=λk=>1<=k/\yWn k ∉ l) ⟨k,h1,h3⟩;refine⟨hs.1.1,Nat.le_trans (hs.2 k ⟨h1,h3⟩) h2,hs.1.2,λj hj hlt=>Classical.byContradiction λhn=>?_⟩;have:=hs.2 j ⟨hj,hn⟩;unfold zZv at hlt;omega
noncomputable def zZu (l:List ByteArray):ByteArray:=yWn (zZv l)
def memB (l:List ByteArray)(n:ByteArray):Bool:=l.any λx=>decide (x=n)
@[simp] theorem yJ8 {l:List ByteArray}{n:ByteArray}:memB l n=true↔n∈l:=by
 simp[memB]
@[simp] theorem zXg {l:List ByteArray}{n:ByteArray}:memB l n=false↔n ∉ l:=by
 rw[<- Bool.not_eq_true,yJ8]
mutual
def frF:Fm->List ByteArray
 | .mk op m us sub=>yQp us++(if isQ op then (frFs sub).filter (λn=>!decide (n=m)) else frFs sub)
def frFs:List Fm->List ByteArray
 | []=>[]
 | a::l=>frF a++frFs l
end
theorem xG6 (b:ByteArray->Nat)(m:ByteArray)(l:List ByteArray):yKi (incB b m) l=yKi b (l.filter (λn=>!decide (n=m))):=by
 unfold yKi;rw[List.filter_filter];refine List.filter_congr λn _=>?_;unfold incB;grind
mutual
theorem xQq:∀(f:Fm)(b:ByteArray->Nat),zQ8 b f=yKi b (frF f)
 | .mk op m us sub,b=>by
  simp only[zQ8,frF,yXf];rw[zWo sub];split
  ·rw[xG6]
  ·rfl
theorem zWo:∀(l:List Fm)(b:ByteArray->Nat),yZx b l=yKi b (frFs l)
 | [],b=>by simp[yZx,frFs,yKi]
 | a::l,b=>by simp only[yZx,frFs,yXf,xQq a b,zWo l b]
end
theorem zGd (f:Fm):xG7 f=frF f:=by
 unfold xG7;rw[xQq];unfold yKi;rw[List.filter_eq_self];intro a _;rfl
abbrev Sb:=List (ByteArray×Tm)
def yXg (l:Sb)(n:ByteArray):Option Tm:=(l.find? λp=>decide (p.1=n)).map (·.2)
def cntS (ps:Sb)(m:ByteArray)(fr:List ByteArray):Sb:=ps.filter λp=>memB fr p.1&&!decide (p.1=m)
def xZ6 (ps:Sb)(m:ByteArray)(fr:List ByteArray):Bool:=(cntS ps m fr).any λp=>memB (yZ1 p.2) m
def yUp (ps:Sb)(m:ByteArray)(fr:List ByteArray):List ByteArray:=fr++(cntS ps m fr).flatMap λp=>yZ1 p.2
noncomputable def yV3 (ps:Sb)(m:ByteArray)(fr:List ByteArray):ByteArray×Sb :=
 if xZ6 ps m fr then (zZu (yUp ps m fr),cntS ps m fr++[(m,.mk true (zZu (yUp ps m fr)) [])]) else (m,cntS ps m fr)
mutual
noncomputable def yGs:Sb->Fm->Fm
 | ps,.mk op m us sub=>.mk op (if isQ op then (yV3 ps m (frFs sub)).1 else m) (yJ0 (yXg ps) us) (yKq (if isQ op then (yV3 ps m (frFs sub)).2 else ps) sub)
noncomputable def yKq:Sb->List Fm->List Fm
 | _,[]=>[]
 | ps,a::l=>yGs ps a::yKq ps l
end
theorem yY1 (ps:Sb):∀l m:List Fm,yKq ps (l++m)=yKq ps l++yKq ps m
 | [],m=>by simp[yKq]
 | a::l,m=>by simp only[List.cons_append,yKq,yY1 ps l m]
theorem yJt (ps:Sb):∀l:List Fm,(yKq ps l).length=l.length
 | []=>rfl
 | a::l=>by simp only[yKq,List.length_cons,yJt ps l]
inductive NlT where
 | bv (i:Nat)
 | fv (n:ByteArray)
 | ap (n:ByteArray) (l:List NlT)
inductive NlF where
 | mk (op:Nat) (n:ByteArray) (us:List NlT) (sub:List NlF)
def wZ4:List ByteArray->ByteArray->Option Nat
 | [],_=>none
 | m::e,n=>if n=m then some e.length else wZ4 e n
def yVd (env:List ByteArray)(n:ByteArray):NlT:=match wZ4 env n with|some i=>.bv i|none=>.fv n
mutual
def db (env:List ByteArray):Tm->NlT
 | .mk true n _=>yVd env n
 | .mk false n l=>.ap n (dbs env l)
def dbs (env:List ByteArray):List Tm->List NlT
 | []=>[]
 | a::l=>db env a::dbs env l
end
mutual
def dbF:List ByteArray->Fm->NlF
 | env,.mk op m us sub=>.mk op (if isQ op then ⟨#[]⟩ else m) (dbs env us) (dbFs (if isQ op then m::env else env) sub)
def dbFs:List ByteArray->List Fm->List NlF
 | _,[]=>[]
 | env,a::l=>dbF env a::dbFs env l
end
theorem xVm:∀ {e:List ByteArray}{n:ByteArray}{i:Nat},wZ4 e n=some i->i<e.length
 | [],n,i,h=>by cases h
 | m::e,n,i,h=>by
  simp only[wZ4] at h;split at h
  ·cases h;simp
  ·have:=xVm h;simp only[List.length_cons];omega
theorem zWj {e:List ByteArray}{m n:ByteArray}:yVd (m::e) n=if n=m then .bv e.length else yVd e n:=by
 unfold yVd;simp only[wZ4];grind
theorem xVb {n:ByteArray}{l:List Tm}(h:(Tm.mk true n l).ok=true):l=[]:=by
 simp only[Tm.ok,bAt,List.isEmpty_iff] at h;exact h.1
theorem xVc {n:ByteArray}{l:List Tm}(h:(Tm.mk false n l).ok=true):yYt l=true:=by
 simp only[Tm.ok,bAt] at h;exact h.2
theorem yKy {a:Tm}{l:List Tm}(h:yYt (a::l)=true):a.ok=true/\yYt l=true:=by
 simpa only[yYt,bAt] using h
theorem yKz {a:Fm}{l:List Fm}(h:yGq (a::l)=true):a.ok=true/\yGq l=true:=by
 simpa only[yGq,bAt] using h
theorem zYz {op:Nat}{m:ByteArray}{us:List Tm}{sub:List Fm}(h:(Fm.mk op m us sub).ok=true):yYt us=true/\yGq sub=true/\yKe op m us.length sub.length=true:=by
 simp only[Fm.ok,bAt] at h;exact⟨h.1.2,h.2,h.1.1⟩
theorem zX3 {ps:Sb}{q:ByteArray×Tm->Bool}{n:ByteArray}(h:∀u,q (n,u)=true):yXg (ps.filter q) n=yXg ps n:=by
 unfold yXg;grind
theorem zX4 {ps:Sb}{q:ByteArray×Tm->Bool}{n:ByteArray}(h:∀u,q (n,u)=false):yXg (ps.filter q) n=none:=by
 unfold yXg;grind
theorem zZs (ps qs:Sb)(n:ByteArray):yXg (ps++qs) n=(yXg ps n).or (yXg qs n):=by
 unfold yXg;grind
theorem xQe {ps:Sb}{m n:ByteArray}{fr:List ByteArray}(hn:n∈fr)(hm:n≠m):yXg (cntS ps m fr) n=yXg ps n :=
 zX3 λu=>by simp[hn,hm]
theorem yGz {ps:Sb}{m:ByteArray}{fr:List ByteArray}:yXg (cntS ps m fr) m=none :=
 zX4 λu=>by simp
theorem xQd {ps:Sb}{n:ByteArray}{u:Tm}(h:yXg ps n=some u):(n,u)∈ps:=by
 unfold yXg at h;rw[Option.map_eq_some_iff] at h;grind
end Go.Proofs.Tryz
namespace Go.Proofs.Tryz
open Go Go.Iv
theorem xYp {ps:Sb}{m:ByteArray}{fr:List ByteArray}{n:ByteArray}(hn:n∈fr) :
  yXg (yV3 ps m fr).2 n=if n=m then (if xZ6 ps m fr then some (.mk true (yV3 ps m fr).1 []) else none) else yXg ps n:=by
 unfold yV3;by_cases hnm:n=m
 ·subst hnm;rw[if_pos rfl];split
  ·simp only[zZs,yGz];simp[yXg]
  ·exact yGz
 ·rw[if_neg hnm];split
  ·simp only[zZs,xQe hn hnm];have:yXg [(m,Tm.mk true (zZu (yUp ps m fr)) [])] n=none:=by simp[yXg,Ne.symm hnm]
   rw[this];simp
  ·exact xQe hn hnm
section
variable (ps:List Pc)
def HSz (b:ByteArray->Nat)(F:ByteArray->Option Tm)(n:ByteArray):Prop :=
 (if b n=0 then zZ2 ps n (1,1) else (1,1))=(((F n).getD (.mk true n [])).size,((F n).getD (.mk true n [])).deep)
mutual
theorem wGu (b:ByteArray->Nat)(F:ByteArray->Option Tm):∀t:Tm,t.ok=true->(∀n∈yZ1 t,HSz ps b F n)->psz ps b t=((yGr F t).size,(yGr F t).deep)
 | .mk true n l,h,hn=>by
  obtain rfl:=xVb h;have h1:=hn n (by simp[yZ1]);unfold HSz at h1;simp only[psz,pszs,true_and,yGr];rw[h1];cases F n with
  | none=>rfl
  | some u=>rfl
 | .mk false n l,h,hn=>by
  have:=zYu b F l (xVc h) (λn hm=>hn n (by simpa[yZ1] using hm));simp only[psz,bFt,false_and,if_false,yGr,Tm.size,Tm.deep,this]
theorem zYu (b:ByteArray->Nat)(F:ByteArray->Option Tm):∀l:List Tm,yYt l=true->(∀n∈yQp l,HSz ps b F n)->pszs ps b l=(yQh (yJ0 F l),yQu (yJ0 F l))
 | [],_,_=>rfl
 | a::l,h,hn=>by
  simp only[pszs,yJ0,yQh,yQu,wGu b F a (yKy h).1 (λn hm=>hn n (by simp[yQp,hm])),zYu b F l (yKy h).2 (λn hm=>hn n (by simp[yQp,hm]))]
end
theorem wJl {b:ByteArray->Nat}{qs:Sb}{m:ByteArray}{fr:List ByteArray}{n:ByteArray}(hn:n∈fr)(h:n≠m->HSz ps b (yXg qs) n):HSz ps (incB b m) (yXg (yV3 qs m fr).2) n:=by
 unfold HSz at h ⊢;rw[xYp hn];by_cases hnm:n=m
 ·subst hnm;simp only[incB,if_true];rw[if_neg (by omega)];split<;>rfl
 ·simp only[incB,if_neg hnm];exact h hnm
mutual
theorem xW5:∀(f:Fm)(qs:Sb)(b:ByteArray->Nat),f.ok=true->(∀n∈frF f,HSz ps b (yXg qs) n)->fsz ps b f=((yGs qs f).size,(yGs qs f).deep)
 | .mk op m us sub,qs,b,hok,h=>by
  obtain⟨h1,h2,_⟩:=zYz hok;simp only[frF] at h;simp only[fsz,yGs,Fm.size,Fm.deep,zYu ps b (yXg qs) us h1 (λn hn=>h n (by simp[hn]))];by_cases hq:isQ op=true
  ·simp only[hq,if_true] at h ⊢;rw[zKb sub _ _ h2 (λn hn=>wJl ps hn (λhm=>h n (by simp[hn,hm])))]
  ·simp only[hq,bFt,if_false] at h ⊢;rw[zKb sub qs b h2 (λn hn=>h n (by simp[hn]))]
theorem zKb:∀(l:List Fm)(qs:Sb)(b:ByteArray->Nat),yGq l=true->(∀n∈frFs l,HSz ps b (yXg qs) n)->fszs ps b l=(yQ9 (yKq qs l),yZ3 (yKq qs l))
 | [],_,_,_,_=>rfl
 | a::l,qs,b,hok,h=>by
  simp only[frFs] at h;simp only[fszs,yKq,yQ9,yZ3,xW5 a qs b (yKz hok).1 (λn hn=>h n (by simp[hn])),zKb l qs b (yKz hok).2 (λn hn=>h n (by simp[hn]))]
end
end
def toS (ps:List Pc):Sb:=ps.map λp=>(p.nm,p.tm)
theorem wKo (ps:List Pc):putF ps=yXg (toS ps):=by
 funext n;unfold putF yXg toS;rw[List.find?_map];simp only[Option.map_map];rfl
theorem zWm:∀(ps:List Pc)(z:Nat×Nat)(n:ByteArray),(ps.map Pc.nm).Nodup->zZ2 ps n z=match yXg (toS ps) n with|some u=>(u.size,u.deep)|none=>z
 | [],z,n,_=>rfl
 | p::ps,z,n,h=>by
  simp only[List.map_cons,List.nodup_cons] at h;have ih:=zWm ps (if p.nm=n then (p.tm.size,p.tm.deep) else z) n h.2;have h0:zZ2 (p::ps) n z=zZ2 ps n (if p.nm=n then (p.tm.size,p.tm.deep) else z):=rfl;rw[h0,ih];have hc:yXg (toS (p::ps)) n=if p.nm=n then some p.tm else yXg (toS ps) n:=by
   unfold yXg toS;grind
  rw[hc];by_cases hp:p.nm=n
  ·rw[if_pos hp,if_pos hp];have:yXg (toS ps) n=none:=by
    cases hl:yXg (toS ps) n with
    | none=>rfl
    | some u =>
     have:=xQd hl;unfold toS at this;grind
   rw[this]
  ·grind
theorem HSz0 {ps:List Pc}(h:(ps.map Pc.nm).Nodup)(n:ByteArray):HSz ps (λ_=>0) (yXg (toS ps)) n:=by
 unfold HSz;rw[if_pos rfl,zWm ps _ n h];cases yXg (toS ps) n<;>rfl
theorem vK3 {ps:List Pc}(h:(ps.map Pc.nm).Nodup){f:Fm}(hf:f.ok=true):fsz ps (λ_=>0) f=((yGs (toS ps) f).size,(yGs (toS ps) f).deep) :=
 xW5 ps f (toS ps) _ hf (λn _=>HSz0 h n)
theorem zQu:∀(k u:Nat),u<10 ^ (k+1)->Lib.nDigits u<=k+1
 | 0,u,h=>by rw[Lib.nDigits_small (by simpa using h)];omega
 | k+1,u,h=>by
  by_cases hu:u<10
  ·rw[Lib.nDigits_small hu];omega
  ·rw[Lib.nDigits_big hu];have:=zQu k (u / 10) (by rw[Nat.pow_succ] at h;omega);omega
mutual
theorem zWg:∀t:Tm,(yZ1 t).length<=t.size
 | .mk true n l=>by have:=yWx l;simp only[yZ1,List.length_cons,Tm.size];omega
 | .mk false n l=>by have:=yWx l;simp only[yZ1,Tm.size];omega
theorem yWx:∀l:List Tm,(yQp l).length<=yQh l
 | []=>Nat.le_refl _
 | a::l=>by have:=zWg a;have:=yWx l;simp only[yQp,lLa,yQh];omega
end
mutual
theorem wX2:∀f:Fm,(frF f).length<=f.size
 | .mk op m us sub=>by
  have h1:=yWx us;have h2:=xJk sub;simp only[frF,lLa,Fm.size];grind
theorem xJk:∀l:List Fm,(frFs l).length<=yQ9 l
 | []=>Nat.le_refl _
 | a::l=>by have:=wX2 a;have:=xJk l;simp only[frFs,lLa,yQ9];omega
end
def wS:Sb->Nat
 | []=>0
 | p::l=>p.2.size+wS l
theorem zU3:∀l m:Sb,wS (l++m)=wS l+wS m
 | [],m=>by simp[wS]
 | a::l,m=>by simp only[List.cons_append,wS,zU3 l m];omega
theorem yUi (q:ByteArray×Tm->Bool):∀l:Sb,wS (l.filter q)<=wS l
 | []=>Nat.le_refl _
 | a::l=>by
  have:=yUi q l;rw[List.filter_cons];split
  ·simp only[wS];omega
  ·simp only[wS];omega
theorem wX6:∀l:Sb,(l.flatMap λp=>yZ1 p.2).length<=wS l
 | []=>Nat.le_refl _
 | a::l=>by
  have:=wX6 l;have:=zWg a.2;simp only[List.flatMap_cons,lLa,wS];omega
theorem wK0 (ps:Sb)(m:ByteArray)(fr:List ByteArray):(yUp ps m fr).length<=fr.length+wS ps:=by
 have:=wX6 (cntS ps m fr);have:=yUi (λp=>memB fr p.1&&!decide (p.1=m)) ps;unfold yUp cntS at *;grind
theorem wJs (ps:Sb)(m:ByteArray)(fr:List ByteArray):wS (yV3 ps m fr).2<=wS ps+1:=by
 have:=yUi (λp=>memB fr p.1&&!decide (p.1=m)) ps;unfold yV3 cntS;split
 ·simp only[zU3,wS,Tm.size,yQh];omega
 ·grind
end Go.Proofs.Tryz
namespace Go.Proofs.Tryz
open Go Go.Iv
noncomputable def zY1 (f g:Fm):Bool:=f.right&&g.right&&eqB (dbF [] f) (dbF [] g)
theorem xVk {e:List ByteArray}{n:ByteArray}{l:Nat}(h:e.length<=l):yVd e n≠.bv l:=by
 unfold yVd;split
 ·rename_i i hi;have:=xVm hi;grind
 ·grind
theorem xYq {ls rs:List ByteArray}{l r n n':ByteArray}(hlen:ls.length=rs.length):yVd (l::ls) n=yVd (r::rs) n'↔(if n=l\/n'=r then n=l/\n'=r else yVd ls n=yVd rs n'):=by
 rw[zWj,zWj];by_cases h1:n=l
 ·by_cases h2:n'=r
  ·grind
  ·simp only[h1,h2,if_true,true_or,and_false,iff_false,if_false];exact λh=>xVk (Nat.le_of_eq hlen.symm) h.symm
 ·by_cases h2:n'=r
  ·simp only[h1,h2,if_true,or_true,false_and,iff_false,if_false];exact λh=>xVk (Nat.le_of_eq hlen) h
  ·simp[h1,h2]
theorem xVl {e:List ByteArray}{n m:ByteArray}{l:List NlT}:yVd e n≠.ap m l:=by
 unfold yVd;split<;>intro h<;>cases h
theorem wZ3 {n:ByteArray}:yVd [] n=.fv n:=rfl
abbrev Ar:=List (ByteArray×ByteArray)
theorem yGh {f:Fm}(h:f.right=true):f.ok=true/\f.size<=400/\f.deep<=40:=by
 simp only[Fm.right,bAt,dTe] at h;exact⟨h.1.1,h.1.2,h.2⟩
