/- Putting, renaming, normal forms: plain d -/
import Derived.Test.YtclkffdkahljeaaGreatDoorJT
import Derived.Lib.ItoaNum
set_option linter.all false
namespace Go.Proofs.Tryz
open Go Go.Iv
def yV9 (k:Nat):ByteArray:=⟨(120::Lib.decDigits k).toArray⟩
def valD (l:List UInt8):Nat:=l.foldl (λa d=>a*10+(d.toNat-48)) 0
theorem xZi (u:Nat):valD (Lib.decDigits u)=u:=by
 induction u using Nat.strongRecOn with
 | _ u ih =>
  rw[Lib.decDigits];by_cases h:u<10
  ·rw[dif_pos h];simp only[valD,List.foldl_cons,List.foldl_nil,UInt8.toNat_ofNat'];omega
  ·rw[dif_neg h];have:=ih (u / 10) (by omega);simp only[valD,List.foldl_append,List.foldl_cons,List.foldl_nil,UInt8.toNat_ofNat'] at this ⊢;grind
theorem xVs {a b:Nat}(h:yV9 a=yV9 b):a=b:=by
 have h1:(120::Lib.decDigits a)=(120::Lib.decDigits b):=by
  have:=congrArg (λx:ByteArray=>x.data.toList) h;simpa[yV9] using this
 have h2:Lib.decDigits a=Lib.decDigits b:=by injection h1
 rw[<- xZi a,h2,xZi b]
theorem zQs {α:Type} [DecidableEq α]:∀(a b:List α),a.Nodup->(∀x∈a,x∈b)->a.length<=b.length
 | [],b,_,_=>Nat.zero_le _
 | x::a,b,hn,hs=>by
  have hx:=hs x (List.mem_cons_self ..);have hn':=List.nodup_cons.1 hn;have:=zQs a (b.erase x) hn'.2 (λy hy=>(List.mem_erase_of_ne (by rintro rfl;exact hn'.1 hy)).2 (hs y (List.mem_cons_of_mem _ hy)));grind
theorem wZl (l:List ByteArray):∃k,1<=k/\k<=l.length+1/\yV9 k ∉ l:=by
 refine Classical.byContradiction λhne=>?_;have hall:∀k,1<=k->k<=l.length+1->yV9 k∈l:=λk h1 h2=>Classical.byContradiction λh=>hne ⟨k,h1,h2,h⟩;have:=zQs ((List.range' 1 (l.length+1)).map yV9) l (by
   unfold List.Nodup;rw[List.pairwise_map];exact List.Pairwise.imp (λh he=>h (xVs he)) (List.nodup_range' (s:=1) (n:=l.length+1))) (λx hx=>by
   obtain⟨k,hk,rfl⟩:=List.mem_map.1 hx;have:=List.mem_range'_1.1 hk;exact hall k (by omega) (by omega))
 grind
noncomputable def zQa (l:List ByteArray):Nat:=Iv.least (λk=>1<=k/\yV9 k ∉ l)
theorem xQa (l:List ByteArray):1<=zQa l/\zQa l<=l.length+1/\yV9 (zQa l) ∉ l/\∀j,1<=j->j<zQa l->yV9 j∈l:=by
 obtain⟨k,h1,h2,h3⟩:=wZl l;have hs:=Iv.least_spec (p:=λk=>1<=k/\yV9 k ∉ l) ⟨k,h1,h3⟩;refine⟨hs.1.1,Nat.le_trans (hs.2 k ⟨h1,h3⟩) h2,hs.1.2,λj hj hlt=>Classical.byContradiction λhn=>?_⟩;have:=hs.2 j ⟨hj,hn⟩;unfold zQa at hlt;omega
noncomputable def zQ9 (l:List ByteArray):ByteArray:=yV9 (zQa l)
def memB (l:List ByteArray)(n:ByteArray):Bool:=l.any λx=>decide (x=n)
@[simp] theorem xXe {l:List ByteArray}{n:ByteArray}:memB l n=true↔n∈l:=by
 simp[memB]
@[simp] theorem zVm {l:List ByteArray}{n:ByteArray}:memB l n=false↔n ∉ l:=by
 rw[<- Bool.not_eq_true,xXe]
mutual
def frF:Fm->List ByteArray
 | .mk op m us sub=>yQq us++(if isQ op then (frFs sub).filter (λn=>!decide (n=m)) else frFs sub)
def frFs:List Fm->List ByteArray
 | []=>[]
 | a::l=>frF a++frFs l
end
theorem xV4 (b:ByteArray->Nat)(m:ByteArray)(l:List ByteArray):yJi (incB b m) l=yJi b (l.filter (λn=>!decide (n=m))):=by
 unfold yJi;rw[List.filter_filter];refine List.filter_congr λn _=>?_;unfold incB;grind
mutual
theorem zYz:∀(f:Fm)(b:ByteArray->Nat),yGu b f=yJi b (frF f)
 | .mk op m us sub,b=>by
  simp only[yGu,frF,yX8];rw[zKc sub];split
  ·rw[xV4]
  ·rfl
theorem zKc:∀(l:List Fm)(b:ByteArray->Nat),yZt b l=yJi b (frFs l)
 | [],b=>by simp[yZt,frFs,yJi]
 | a::l,b=>by simp only[yZt,frFs,yX8,zYz a b,zKc l b]
end
theorem xJ8 (f:Fm):xGn f=frF f:=by
 unfold xGn;rw[zYz];unfold yJi;rw[List.filter_eq_self];intro a _;rfl
abbrev Sb:=List (ByteArray×Tm)
def yXa (l:Sb)(n:ByteArray):Option Tm:=(l.find? λp=>decide (p.1=n)).map (·.2)
def cntS (ps:Sb)(m:ByteArray)(fr:List ByteArray):Sb:=ps.filter λp=>memB fr p.1&&!decide (p.1=m)
def zGb (ps:Sb)(m:ByteArray)(fr:List ByteArray):Bool:=(cntS ps m fr).any λp=>memB (yZ1 p.2) m
def yGc (ps:Sb)(m:ByteArray)(fr:List ByteArray):List ByteArray:=fr++(cntS ps m fr).flatMap λp=>yZ1 p.2
noncomputable def yJv (ps:Sb)(m:ByteArray)(fr:List ByteArray):ByteArray×Sb :=
 if zGb ps m fr then (zQ9 (yGc ps m fr),cntS ps m fr++[(m,.mk true (zQ9 (yGc ps m fr)) [])]) else (m,cntS ps m fr)
mutual
noncomputable def yYh:Sb->Fm->Fm
 | ps,.mk op m us sub=>.mk op (if isQ op then (yJv ps m (frFs sub)).1 else m) (yXo (yXa ps) us) (yJo (if isQ op then (yJv ps m (frFs sub)).2 else ps) sub)
noncomputable def yJo:Sb->List Fm->List Fm
 | _,[]=>[]
 | ps,a::l=>yYh ps a::yJo ps l
end
theorem yVm (ps:Sb):∀l m:List Fm,yJo ps (l++m)=yJo ps l++yJo ps m
 | [],m=>by simp[yJo]
 | a::l,m=>by simp only[List.cons_append,yJo,yVm ps l m]
theorem yJ4 (ps:Sb):∀l:List Fm,(yJo ps l).length=l.length
 | []=>rfl
 | a::l=>by simp only[yJo,List.length_cons,yJ4 ps l]
inductive NlT where
 | bv (i:Nat)
 | fv (n:ByteArray)
 | ap (n:ByteArray) (l:List NlT)
inductive NlF where
 | mk (op:Nat) (n:ByteArray) (us:List NlT) (sub:List NlF)
def xYq:List ByteArray->ByteArray->Option Nat
 | [],_=>none
 | m::e,n=>if n=m then some e.length else xYq e n
def yK2 (env:List ByteArray)(n:ByteArray):NlT:=match xYq env n with|some i=>.bv i|none=>.fv n
mutual
def db (env:List ByteArray):Tm->NlT
 | .mk true n _=>yK2 env n
 | .mk false n l=>.ap n (dbs env l)
def dbs (env:List ByteArray):List Tm->List NlT
 | []=>[]
 | a::l=>db env a::dbs env l
end
mutual
def dbF:List ByteArray->Fm->NlF
 | env,.mk op m us sub=>.mk op (if isQ op then ⟨#[]⟩ else m) (dbs env us) (dbFs (if isQ op then m::env else env) sub)
def dbFs:List ByteArray->List Fm->List NlF
 | _,[]=>[]
 | env,a::l=>dbF env a::dbFs env l
end
theorem xXh:∀ {e:List ByteArray}{n:ByteArray}{i:Nat},xYq e n=some i->i<e.length
 | [],n,i,h=>by cases h
 | m::e,n,i,h=>by
  simp only[xYq] at h;split at h
  ·cases h;simp
  ·have:=xXh h;simp only[List.length_cons];omega
theorem zK5 {e:List ByteArray}{m n:ByteArray}:yK2 (m::e) n=if n=m then .bv e.length else yK2 e n:=by
 unfold yK2;simp only[xYq];grind
theorem xYa {n:ByteArray}{l:List Tm}(h:(Tm.mk true n l).ok=true):l=[]:=by
 simp only[Tm.ok,bAt,List.isEmpty_iff] at h;exact h.1
theorem xYb {n:ByteArray}{l:List Tm}(h:(Tm.mk false n l).ok=true):yYe l=true:=by
 simp only[Tm.ok,bAt] at h;exact h.2
theorem yWu {a:Tm}{l:List Tm}(h:yYe (a::l)=true):a.ok=true/\yYe l=true:=by
 simpa only[yYe,bAt] using h
theorem yWw {a:Fm}{l:List Fm}(h:yW5 (a::l)=true):a.ok=true/\yW5 l=true:=by
 simpa only[yW5,bAt] using h
theorem zUy {op:Nat}{m:ByteArray}{us:List Tm}{sub:List Fm}(h:(Fm.mk op m us sub).ok=true):yYe us=true/\yW5 sub=true/\yJa op m us.length sub.length=true:=by
 simp only[Fm.ok,bAt] at h;exact⟨h.1.2,h.2,h.1.1⟩
theorem zQj {ps:Sb}{q:ByteArray×Tm->Bool}{n:ByteArray}(h:∀u,q (n,u)=true):yXa (ps.filter q) n=yXa ps n:=by
 unfold yXa;grind
theorem zQk {ps:Sb}{q:ByteArray×Tm->Bool}{n:ByteArray}(h:∀u,q (n,u)=false):yXa (ps.filter q) n=none:=by
 unfold yXa;grind
theorem zQ7 (ps qs:Sb)(n:ByteArray):yXa (ps++qs) n=(yXa ps n).or (yXa qs n):=by
 unfold yXa;grind
theorem zYk {ps:Sb}{m n:ByteArray}{fr:List ByteArray}(hn:n∈fr)(hm:n≠m):yXa (cntS ps m fr) n=yXa ps n :=
 zQj λu=>by simp[hn,hm]
theorem yYn {ps:Sb}{m:ByteArray}{fr:List ByteArray}:yXa (cntS ps m fr) m=none :=
 zQk λu=>by simp
theorem zYj {ps:Sb}{n:ByteArray}{u:Tm}(h:yXa ps n=some u):(n,u)∈ps:=by
 unfold yXa at h;rw[Option.map_eq_some_iff] at h;grind
end Go.Proofs.Tryz
namespace Go.Proofs.Tryz
open Go Go.Iv
theorem xKn {ps:Sb}{m:ByteArray}{fr:List ByteArray}{n:ByteArray}(hn:n∈fr) :
  yXa (yJv ps m fr).2 n=if n=m then (if zGb ps m fr then some (.mk true (yJv ps m fr).1 []) else none) else yXa ps n:=by
 unfold yJv;by_cases hnm:n=m
 ·subst hnm;rw[if_pos rfl];split
  ·simp only[zQ7,yYn];simp[yXa]
  ·exact yYn
 ·rw[if_neg hnm];split
  ·simp only[zQ7,zYk hn hnm];have:yXa [(m,Tm.mk true (zQ9 (yGc ps m fr)) [])] n=none:=by simp[yXa,Ne.symm hnm]
   rw[this];simp
  ·exact zYk hn hnm
section
variable (ps:List Pc)
def HSz (b:ByteArray->Nat)(F:ByteArray->Option Tm)(n:ByteArray):Prop :=
 (if b n=0 then yUp ps n (1,1) else (1,1))=(((F n).getD (.mk true n [])).size,((F n).getD (.mk true n [])).deep)
mutual
theorem wKu (b:ByteArray->Nat)(F:ByteArray->Option Tm):∀t:Tm,t.ok=true->(∀n∈yZ1 t,HSz ps b F n)->psz ps b t=((yYf F t).size,(yYf F t).deep)
 | .mk true n l,h,hn=>by
  obtain rfl:=xYa h;have h1:=hn n (by simp[yZ1]);unfold HSz at h1;simp only[psz,pszs,true_and,yYf];rw[h1];cases F n with
  | none=>rfl
  | some u=>rfl
 | .mk false n l,h,hn=>by
  have:=zVg b F l (xYb h) (λn hm=>hn n (by simpa[yZ1] using hm));simp only[psz,bFt,false_and,if_false,yYf,Tm.size,Tm.deep,this]
theorem zVg (b:ByteArray->Nat)(F:ByteArray->Option Tm):∀l:List Tm,yYe l=true->(∀n∈yQq l,HSz ps b F n)->pszs ps b l=(yQe (yXo F l),yQs (yXo F l))
 | [],_,_=>rfl
 | a::l,h,hn=>by
  simp only[pszs,yXo,yQe,yQs,wKu b F a (yWu h).1 (λn hm=>hn n (by simp[yQq,hm])),zVg b F l (yWu h).2 (λn hm=>hn n (by simp[yQq,hm]))]
end
theorem wQ1 {b:ByteArray->Nat}{qs:Sb}{m:ByteArray}{fr:List ByteArray}{n:ByteArray}(hn:n∈fr)(h:n≠m->HSz ps b (yXa qs) n):HSz ps (incB b m) (yXa (yJv qs m fr).2) n:=by
 unfold HSz at h ⊢;rw[xKn hn];by_cases hnm:n=m
 ·subst hnm;simp only[incB,if_true];rw[if_neg (by omega)];split<;>rfl
 ·simp only[incB,if_neg hnm];exact h hnm
mutual
theorem xJ7:∀(f:Fm)(qs:Sb)(b:ByteArray->Nat),f.ok=true->(∀n∈frF f,HSz ps b (yXa qs) n)->fsz ps b f=((yYh qs f).size,(yYh qs f).deep)
 | .mk op m us sub,qs,b,hok,h=>by
  obtain⟨h1,h2,_⟩:=zUy hok;simp only[frF] at h;simp only[fsz,yYh,Fm.size,Fm.deep,zVg ps b (yXa qs) us h1 (λn hn=>h n (by simp[hn]))];by_cases hq:isQ op=true
  ·simp only[hq,if_true] at h ⊢;rw[zXa sub _ _ h2 (λn hn=>wQ1 ps hn (λhm=>h n (by simp[hn,hm])))]
  ·simp only[hq,bFt,if_false] at h ⊢;rw[zXa sub qs b h2 (λn hn=>h n (by simp[hn]))]
theorem zXa:∀(l:List Fm)(qs:Sb)(b:ByteArray->Nat),yW5 l=true->(∀n∈frFs l,HSz ps b (yXa qs) n)->fszs ps b l=(yQb (yJo qs l),yZ2 (yJo qs l))
 | [],_,_,_,_=>rfl
 | a::l,qs,b,hok,h=>by
  simp only[frFs] at h;simp only[fszs,yJo,yQb,yZ2,xJ7 a qs b (yWw hok).1 (λn hn=>h n (by simp[hn])),zXa l qs b (yWw hok).2 (λn hn=>h n (by simp[hn]))]
end
end
def toS (ps:List Pc):Sb:=ps.map λp=>(p.nm,p.tm)
theorem wQt (ps:List Pc):putF ps=yXa (toS ps):=by
 funext n;unfold putF yXa toS;rw[List.find?_map];simp only[Option.map_map];rfl
theorem zKa:∀(ps:List Pc)(z:Nat×Nat)(n:ByteArray),(ps.map Pc.nm).Nodup->yUp ps n z=match yXa (toS ps) n with|some u=>(u.size,u.deep)|none=>z
 | [],z,n,_=>rfl
 | p::ps,z,n,h=>by
  simp only[List.map_cons,List.nodup_cons] at h;have ih:=zKa ps (if p.nm=n then (p.tm.size,p.tm.deep) else z) n h.2;have h0:yUp (p::ps) n z=yUp ps n (if p.nm=n then (p.tm.size,p.tm.deep) else z):=rfl;rw[h0,ih];have hc:yXa (toS (p::ps)) n=if p.nm=n then some p.tm else yXa (toS ps) n:=by
   unfold yXa toS;grind
  rw[hc];by_cases hp:p.nm=n
  ·rw[if_pos hp,if_pos hp];have:yXa (toS ps) n=none:=by
    cases hl:yXa (toS ps) n with
    | none=>rfl
    | some u =>
     have:=zYj hl;unfold toS at this;grind
   rw[this]
  ·grind
theorem HSz0 {ps:List Pc}(h:(ps.map Pc.nm).Nodup)(n:ByteArray):HSz ps (λ_=>0) (yXa (toS ps)) n:=by
 unfold HSz;rw[if_pos rfl,zKa ps _ n h];cases yXa (toS ps) n<;>rfl
theorem wUn {ps:List Pc}(h:(ps.map Pc.nm).Nodup){f:Fm}(hf:f.ok=true):fsz ps (λ_=>0) f=((yYh (toS ps) f).size,(yYh (toS ps) f).deep) :=
 xJ7 ps f (toS ps) _ hf (λn _=>HSz0 h n)
theorem yUi:∀(k u:Nat),u<10 ^ (k+1)->Lib.nDigits u<=k+1
 | 0,u,h=>by rw[Lib.nDigits_small (by simpa using h)];omega
 | k+1,u,h=>by
  by_cases hu:u<10
  ·rw[Lib.nDigits_small hu];omega
  ·rw[Lib.nDigits_big hu];have:=yUi k (u / 10) (by rw[Nat.pow_succ] at h;omega);omega
mutual
theorem zK3:∀t:Tm,(yZ1 t).length<=t.size
 | .mk true n l=>by have:=yVi l;simp only[yZ1,List.length_cons,Tm.size];omega
 | .mk false n l=>by have:=yVi l;simp only[yZ1,Tm.size];omega
theorem yVi:∀l:List Tm,(yQq l).length<=yQe l
 | []=>Nat.le_refl _
 | a::l=>by have:=zK3 a;have:=yVi l;simp only[yQq,lLa,yQe];omega
end
mutual
theorem wJk:∀f:Fm,(frF f).length<=f.size
 | .mk op m us sub=>by
  have h1:=yVi us;have h2:=xQk sub;simp only[frF,lLa,Fm.size];grind
theorem xQk:∀l:List Fm,(frFs l).length<=yQb l
 | []=>Nat.le_refl _
 | a::l=>by have:=wJk a;have:=xQk l;simp only[frFs,lLa,yQb];omega
end
def wS:Sb->Nat
 | []=>0
 | p::l=>p.2.size+wS l
theorem zWp:∀l m:Sb,wS (l++m)=wS l+wS m
 | [],m=>by simp[wS]
 | a::l,m=>by simp only[List.cons_append,wS,zWp l m];omega
theorem yG5 (q:ByteArray×Tm->Bool):∀l:Sb,wS (l.filter q)<=wS l
 | []=>Nat.le_refl _
 | a::l=>by
  have:=yG5 q l;rw[List.filter_cons];split
  ·simp only[wS];omega
  ·simp only[wS];omega
theorem xGt:∀l:Sb,(l.flatMap λp=>yZ1 p.2).length<=wS l
 | []=>Nat.le_refl _
 | a::l=>by
  have:=xGt l;have:=zK3 a.2;simp only[List.flatMap_cons,lLa,wS];omega
theorem wQ8 (ps:Sb)(m:ByteArray)(fr:List ByteArray):(yGc ps m fr).length<=fr.length+wS ps:=by
 have:=xGt (cntS ps m fr);have:=yG5 (λp=>memB fr p.1&&!decide (p.1=m)) ps;unfold yGc cntS at *;grind
theorem wQ5 (ps:Sb)(m:ByteArray)(fr:List ByteArray):wS (yJv ps m fr).2<=wS ps+1:=by
 have:=yG5 (λp=>memB fr p.1&&!decide (p.1=m)) ps;unfold yJv cntS;split
 ·simp only[zWp,wS,Tm.size,yQe];omega
 ·grind
end Go.Proofs.Tryz
namespace Go.Proofs.Tryz
open Go Go.Iv
noncomputable def zKp (f g:Fm):Bool:=f.right&&g.right&&eqB (dbF [] f) (dbF [] g)
theorem xXf {e:List ByteArray}{n:ByteArray}{l:Nat}(h:e.length<=l):yK2 e n≠.bv l:=by
 unfold yK2;split
 ·rename_i i hi;have:=xXh hi;grind
 ·grind
theorem xKo {ls rs:List ByteArray}{l r n n':ByteArray}(hlen:ls.length=rs.length):yK2 (l::ls) n=yK2 (r::rs) n'↔(if n=l\/n'=r then n=l/\n'=r else yK2 ls n=yK2 rs n'):=by
 rw[zK5,zK5];by_cases h1:n=l
 ·by_cases h2:n'=r
  ·grind
  ·simp only[h1,h2,if_true,true_or,and_false,iff_false,if_false];exact λh=>xXf (Nat.le_of_eq hlen.symm) h.symm
 ·by_cases h2:n'=r
  ·simp only[h1,h2,if_true,or_true,false_and,iff_false,if_false];exact λh=>xXf (Nat.le_of_eq hlen) h
  ·simp[h1,h2]
theorem xXg {e:List ByteArray}{n m:ByteArray}{l:List NlT}:yK2 e n≠.ap m l:=by
 unfold yK2;split<;>intro h<;>cases h
theorem xYp {n:ByteArray}:yK2 [] n=.fv n:=rfl
abbrev Ar:=List (ByteArray×ByteArray)
theorem zQr {f:Fm}(h:f.right=true):f.ok=true/\f.size<=400/\f.deep<=40:=by
 simp only[Fm.right,bAt,dTe] at h;exact⟨h.1.1,h.1.2,h.2⟩
