/- Putting, renaming, normal forms: plain d -/
import Derived.Test.YtclkffdkahljeaaGreatDoorJT
import Derived.Lib.ItoaNum
set_option linter.all false
namespace Go.Proofs.Tryz
open Go Go.Iv
def yVp (k:Nat):ByteArray:=⟨(120::Lib.decDigits k).toArray⟩
def valD (l:List UInt8):Nat:=l.foldl (λa d=>a*10+(d.toNat-48)) 0
theorem xKk (u:Nat):valD (Lib.decDigits u)=u:=by
 induction u using Nat.strongRecOn with
 | _ u A =>
  rw[Lib.decDigits];by_cases h:u<10
  ·rw[dif_pos h];simp only[valD,List.foldl_cons,List.foldl_nil,UInt8.toNat_ofNat'];omega
  ·rw[dif_neg h];have:=A (u / 10) (by omega);simp only[valD,List.foldl_append,List.foldl_cons,List.foldl_nil,UInt8.toNat_ofNat'] at this ⊢;grind
theorem xUd {a b:Nat}(h:yVp a=yVp b):a=b:=by
 have h1:(120::Lib.decDigits a)=(120::Lib.decDigits b):=by
  have:=congrArg (λx:ByteArray=>x.data.toList) h;simpa[yVp] using this
 have h2:Lib.decDigits a=Lib.decDigits b:=by injection h1
 rw[<- xKk a,h2,xKk b]
theorem zXk {α:Type} [DecidableEq α]:∀(a b:List α),a.Nodup->(∀x∈a,x∈b)->a.length<=b.length
 | [],b,_,_=>Nat.zero_le _
 | x::a,b,E,hs=>by
  have hx:=hs x (List.mem_cons_self ..);have A:=List.nodup_cons.1 E;have:=zXk a (b.erase x) A.2 (λy D=>(List.mem_erase_of_ne (by rintro rfl;exact A.1 D)).2 (hs y (List.mem_cons_of_mem _ D)));grind
theorem wWe (l:List ByteArray):∃k,1<=k/\k<=l.length+1/\yVp k ∉ l:=by
 refine Classical.byContradiction λD=>?_;have A:∀k,1<=k->k<=l.length+1->yVp k∈l:=λk h1 h2=>Classical.byContradiction λh=>D ⟨k,h1,h2,h⟩;have:=zXk ((List.range' 1 (l.length+1)).map yVp) l (by
   unfold List.Nodup;rw[List.pairwise_map];exact List.Pairwise.imp (λh J=>h (xUd J)) (List.nodup_range' (s:=1) (n:=l.length+1))) (λx hx=>by
   obtain⟨k,E,rfl⟩:=List.mem_map.1 hx;have:=List.mem_range'_1.1 E;exact A k (by omega) (by omega))
 grind
noncomputable def yYp (l:List ByteArray):Nat:=Iv.least (λk=>1<=k/\yVp k ∉ l)
theorem yU6 (l:List ByteArray):1<=yYp l/\yYp l<=l.length+1/\yVp (yYp l) ∉ l/\∀j,1<=j->j<yYp l->yVp j∈l:=by
 obtain⟨k,h1,h2,D⟩:=wWe l;have hs:=Iv.least_spec (p:=λk=>1<=k/\yVp k ∉ l) ⟨k,h1,D⟩;refine⟨hs.1.1,Nat.le_trans (hs.2 k ⟨h1,D⟩) h2,hs.1.2,λj J A=>Classical.byContradiction λE=>?_⟩;have:=hs.2 j ⟨J,E⟩;unfold yYp at A;omega
theorem wX4 {l:List ByteArray}{k:Nat}(h1:1<=k)(h2:yVp k ∉ l)(A:∀j,1<=j->j<k->yVp j∈l):yYp l=k:=by
 obtain⟨D,a2,a3,a4⟩:=yU6 l;grind
theorem xQj {l m:List ByteArray}(h:∀x,x∈l↔x∈m):yYp l=yYp m:=by
 obtain⟨E,a2,a3,a4⟩:=yU6 m;exact wX4 E (λhx=>a3 ((h _).1 hx)) (λj D A=>(h _).2 (a4 j D A))
noncomputable def yKf (l:List ByteArray):ByteArray:=yVp (yYp l)
theorem xQi {l m:List ByteArray}(h:∀x,x∈l↔x∈m):yKf l=yKf m:=by unfold yKf;rw[xQj h]
def memB (l:List ByteArray)(n:ByteArray):Bool:=l.any λx=>decide (x=n)
@[simp] theorem yJ2 {l:List ByteArray}{n:ByteArray}:memB l n=true↔n∈l:=by
 simp[memB]
@[simp] theorem zXo {l:List ByteArray}{n:ByteArray}:memB l n=false↔n ∉ l:=by
 rw[<- Bool.not_eq_true,yJ2]
mutual
def frF:Fm->List ByteArray
 | .mk op m us sub=>yQp us++(if isQ op then (frFs sub).filter (λn=>!decide (n=m)) else frFs sub)
def frFs:List Fm->List ByteArray
 | []=>[]
 | a::l=>frF a++frFs l
end
theorem xGn (b:ByteArray->Nat)(m:ByteArray)(l:List ByteArray):yK6 (incB b m) l=yK6 b (l.filter (λn=>!decide (n=m))):=by
 unfold yK6;rw[List.filter_filter];refine List.filter_congr λn _=>?_;unfold incB;grind
mutual
theorem xQx:∀(f:Fm)(b:ByteArray->Nat),zQ8 b f=yK6 b (frF f)
 | .mk op m us sub,b=>by
  simp only[zQ8,frF,yXg];rw[zWm sub];split
  ·rw[xGn]
  ·rfl
theorem zWm:∀(l:List Fm)(b:ByteArray->Nat),yX1 b l=yK6 b (frFs l)
 | [],b=>by simp[yX1,frFs,yK6]
 | a::l,b=>by simp only[yX1,frFs,yXg,xQx a b,zWm l b]
end
theorem zXx (f:Fm):xJl f=frF f:=by
 unfold xJl;rw[xQx];unfold yK6;rw[List.filter_eq_self];intro a _;rfl
abbrev Sb:=List (ByteArray×Tm)
def yXj (l:Sb)(n:ByteArray):Option Tm:=(l.find? λp=>decide (p.1=n)).map (·.2)
def cntS (ps:Sb)(m:ByteArray)(fr:List ByteArray):Sb:=ps.filter λp=>memB fr p.1&&!decide (p.1=m)
def xZa (ps:Sb)(m:ByteArray)(fr:List ByteArray):Bool:=(cntS ps m fr).any λp=>memB (yZ0 p.2) m
def yUo (ps:Sb)(m:ByteArray)(fr:List ByteArray):List ByteArray:=fr++(cntS ps m fr).flatMap λp=>yZ0 p.2
noncomputable def yKr (ps:Sb)(m:ByteArray)(fr:List ByteArray):ByteArray×Sb :=
 if xZa ps m fr then (yKf (yUo ps m fr),cntS ps m fr++[(m,.mk true (yKf (yUo ps m fr)) [])]) else (m,cntS ps m fr)
mutual
noncomputable def yGq:Sb->Fm->Fm
 | ps,.mk op m us sub=>.mk op (if isQ op then (yKr ps m (frFs sub)).1 else m) (yX5 (yXj ps) us) (yKg (if isQ op then (yKr ps m (frFs sub)).2 else ps) sub)
noncomputable def yKg:Sb->List Fm->List Fm
 | _,[]=>[]
 | ps,a::l=>yGq ps a::yKg ps l
end
theorem yWv (ps:Sb):∀l m:List Fm,yKg ps (l++m)=yKg ps l++yKg ps m
 | [],m=>by simp[yKg]
 | a::l,m=>by simp only[List.cons_append,yKg,yWv ps l m]
theorem yJk (ps:Sb):∀l:List Fm,(yKg ps l).length=l.length
 | []=>rfl
 | a::l=>by simp only[yKg,List.length_cons,yJk ps l]
inductive NlT where
 | bv (i:Nat)
 | fv (n:ByteArray)
 | ap (n:ByteArray) (l:List NlT)
inductive NlF where
 | mk (op:Nat) (n:ByteArray) (us:List NlT) (sub:List NlF)
def wZp:List ByteArray->ByteArray->Option Nat
 | [],_=>none
 | m::e,n=>if n=m then some e.length else wZp e n
def yKy (env:List ByteArray)(n:ByteArray):NlT:=match wZp env n with|some i=>.bv i|none=>.fv n
mutual
def db (env:List ByteArray):Tm->NlT
 | .mk true n _=>yKy env n
 | .mk false n l=>.ap n (dbs env l)
def dbs (env:List ByteArray):List Tm->List NlT
 | []=>[]
 | a::l=>db env a::dbs env l
end
mutual
def dbF:List ByteArray->Fm->NlF
 | env,.mk op m us sub=>.mk op (if isQ op then ⟨#[]⟩ else m) (dbs env us) (dbFs (if isQ op then m::env else env) sub)
def dbFs:List ByteArray->List Fm->List NlF
 | _,[]=>[]
 | env,a::l=>dbF env a::dbFs env l
end
theorem xVk:∀ {e:List ByteArray}{n:ByteArray}{i:Nat},wZp e n=some i->i<e.length
 | [],n,i,h=>by cases h
 | m::e,n,i,h=>by
  simp only[wZp] at h;split at h
  ·cases h;simp
  ·have:=xVk h;simp only[List.length_cons];omega
theorem zWc {e:List ByteArray}{m n:ByteArray}:yKy (m::e) n=if n=m then .bv e.length else yKy e n:=by
 unfold yKy;simp only[wZp];grind
theorem xVd {n:ByteArray}{l:List Tm}(h:(Tm.mk true n l).ok=true):l=[]:=by
 simp only[Tm.ok,bAt,List.isEmpty_iff] at h;exact h.1
theorem xVe {n:ByteArray}{l:List Tm}(h:(Tm.mk false n l).ok=true):yYi l=true:=by
 simp only[Tm.ok,bAt] at h;exact h.2
theorem yKo {a:Tm}{l:List Tm}(h:yYi (a::l)=true):a.ok=true/\yYi l=true:=by
 simpa only[yYi,bAt] using h
theorem yKp {a:Fm}{l:List Fm}(h:yY5 (a::l)=true):a.ok=true/\yY5 l=true:=by
 simpa only[yY5,bAt] using h
theorem zJp {op:Nat}{m:ByteArray}{us:List Tm}{sub:List Fm}(h:(Fm.mk op m us sub).ok=true):yYi us=true/\yY5 sub=true/\yJu op m us.length sub.length=true:=by
 simp only[Fm.ok,bAt] at h;exact⟨h.1.2,h.2,h.1.1⟩
theorem zXc {ps:Sb}{q:ByteArray×Tm->Bool}{n:ByteArray}(h:∀u,q (n,u)=true):yXj (ps.filter q) n=yXj ps n:=by
 unfold yXj;grind
theorem zXd {ps:Sb}{q:ByteArray×Tm->Bool}{n:ByteArray}(h:∀u,q (n,u)=false):yXj (ps.filter q) n=none:=by
 unfold yXj;grind
theorem zX0 (ps A:Sb)(n:ByteArray):yXj (ps++A) n=(yXj ps n).or (yXj A n):=by
 unfold yXj;grind
theorem xQf {ps:Sb}{m n:ByteArray}{fr:List ByteArray}(A:n∈fr)(D:n≠m):yXj (cntS ps m fr) n=yXj ps n :=
 zXc λu=>by simp[A,D]
theorem yGv {ps:Sb}{m:ByteArray}{fr:List ByteArray}:yXj (cntS ps m fr) m=none :=
 zXd λu=>by simp
theorem xQe {ps:Sb}{n:ByteArray}{u:Tm}(h:yXj ps n=some u):(n,u)∈ps:=by
 unfold yXj at h;rw[Option.map_eq_some_iff] at h;grind
end Go.Proofs.Tryz
namespace Go.Proofs.Tryz
open Go Go.Iv
theorem xG6 {ps:Sb}{m:ByteArray}{fr:List ByteArray}{n:ByteArray}(D:n∈fr) :
  yXj (yKr ps m fr).2 n=if n=m then (if xZa ps m fr then some (.mk true (yKr ps m fr).1 []) else none) else yXj ps n:=by
 unfold yKr;by_cases A:n=m
 ·subst A;rw[if_pos rfl];split
  ·simp only[zX0,yGv];simp[yXj]
  ·exact yGv
 ·rw[if_neg A];split
  ·simp only[zX0,xQf D A];have:yXj [(m,Tm.mk true (yKf (yUo ps m fr)) [])] n=none:=by simp[yXj,Ne.symm A]
   rw[this];simp
  ·exact xQf D A
section
variable (ps:List Pc)
def HSz (b:ByteArray->Nat)(F:ByteArray->Option Tm)(n:ByteArray):Prop :=
 (if b n=0 then zZb ps n (1,1) else (1,1))=(((F n).getD (.mk true n [])).size,((F n).getD (.mk true n [])).deep)
mutual
theorem wUx (b:ByteArray->Nat)(F:ByteArray->Option Tm):∀t:Tm,t.ok=true->(∀n∈yZ0 t,HSz ps b F n)->psz ps b t=((yY7 F t).size,(yY7 F t).deep)
 | .mk true n l,h,A=>by
  obtain rfl:=xVd h;have h1:=A n (by simp[yZ0]);unfold HSz at h1;simp only[psz,pszs,true_and,yY7];rw[h1];cases F n with
  | none=>rfl
  | some u=>rfl
 | .mk false n l,h,A=>by
  have:=zYw b F l (xVe h) (λn D=>A n (by simpa[yZ0] using D));simp only[psz,bFt,false_and,if_false,yY7,Tm.size,Tm.deep,this]
theorem zYw (b:ByteArray->Nat)(F:ByteArray->Option Tm):∀l:List Tm,yYi l=true->(∀n∈yQp l,HSz ps b F n)->pszs ps b l=(yQh (yX5 F l),yQr (yX5 F l))
 | [],_,_=>rfl
 | a::l,h,D=>by
  simp only[pszs,yX5,yQh,yQr,wUx b F a (yKo h).1 (λn A=>D n (by simp[yQp,A])),zYw b F l (yKo h).2 (λn A=>D n (by simp[yQp,A]))]
end
theorem wKg {b:ByteArray->Nat}{D:Sb}{m:ByteArray}{fr:List ByteArray}{n:ByteArray}(E:n∈fr)(h:n≠m->HSz ps b (yXj D) n):HSz ps (incB b m) (yXj (yKr D m fr).2) n:=by
 unfold HSz at h ⊢;rw[xG6 E];by_cases A:n=m
 ·subst A;simp only[incB,if_true];rw[if_neg (by omega)];split<;>rfl
 ·simp only[incB,if_neg A];exact h A
mutual
theorem xW9:∀(f:Fm)(A:Sb)(b:ByteArray->Nat),f.ok=true->(∀n∈frF f,HSz ps b (yXj A) n)->fsz ps b f=((yGq A f).size,(yGq A f).deep)
 | .mk op m us sub,A,b,E,h=>by
  obtain⟨h1,h2,_⟩:=zJp E;simp only[frF] at h;simp only[fsz,yGq,Fm.size,Fm.deep,zYw ps b (yXj A) us h1 (λn D=>h n (by simp[D]))];by_cases J:isQ op=true
  ·simp only[J,if_true] at h ⊢;rw[zKb sub _ _ h2 (λn D=>wKg ps D (λO=>h n (by simp[D,O])))]
  ·simp only[J,bFt,if_false] at h ⊢;rw[zKb sub A b h2 (λn D=>h n (by simp[D]))]
theorem zKb:∀(l:List Fm)(A:Sb)(b:ByteArray->Nat),yY5 l=true->(∀n∈frFs l,HSz ps b (yXj A) n)->fszs ps b l=(yQe (yKg A l),yZ2 (yKg A l))
 | [],_,_,_,_=>rfl
 | a::l,A,b,D,h=>by
  simp only[frFs] at h;simp only[fszs,yKg,yQe,yZ2,xW9 a A b (yKp D).1 (λn E=>h n (by simp[E])),zKb l A b (yKp D).2 (λn E=>h n (by simp[E]))]
end
end
def toS (ps:List Pc):Sb:=ps.map λp=>(p.nm,p.tm)
theorem wVg (ps:List Pc):putF ps=yXj (toS ps):=by
 funext n;unfold putF yXj toS;rw[List.find?_map];simp only[Option.map_map];rfl
theorem zWg:∀(ps:List Pc)(z:Nat×Nat)(n:ByteArray),(ps.map Pc.nm).Nodup->zZb ps n z=match yXj (toS ps) n with|some u=>(u.size,u.deep)|none=>z
 | [],z,n,_=>rfl
 | p::ps,z,n,h=>by
  simp only[List.map_cons,List.nodup_cons] at h;have A:=zWg ps (if p.nm=n then (p.tm.size,p.tm.deep) else z) n h.2;have h0:zZb (p::ps) n z=zZb ps n (if p.nm=n then (p.tm.size,p.tm.deep) else z):=rfl;rw[h0,A];have hc:yXj (toS (p::ps)) n=if p.nm=n then some p.tm else yXj (toS ps) n:=by
   unfold yXj toS;grind
  rw[hc];by_cases hp:p.nm=n
  ·rw[if_pos hp,if_pos hp];have:yXj (toS ps) n=none:=by
    cases hl:yXj (toS ps) n with
    | none=>rfl
    | some u =>
     have:=xQe hl;unfold toS at this;grind
   rw[this]
  ·grind
theorem HSz0 {ps:List Pc}(h:(ps.map Pc.nm).Nodup)(n:ByteArray):HSz ps (λ_=>0) (yXj (toS ps)) n:=by
 unfold HSz;rw[if_pos rfl,zWg ps _ n h];cases yXj (toS ps) n<;>rfl
theorem vV8 {ps:List Pc}(h:(ps.map Pc.nm).Nodup){f:Fm}(A:f.ok=true):fsz ps (λ_=>0) f=((yGq (toS ps) f).size,(yGq (toS ps) f).deep) :=
 xW9 ps f (toS ps) _ A (λn _=>HSz0 h n)
theorem zZ4:∀(k u:Nat),u<10 ^ (k+1)->Lib.nDigits u<=k+1
 | 0,u,h=>by rw[Lib.nDigits_small (by simpa using h)];omega
 | k+1,u,h=>by
  by_cases A:u<10
  ·rw[Lib.nDigits_small A];omega
  ·rw[Lib.nDigits_big A];have:=zZ4 k (u / 10) (by rw[Nat.pow_succ] at h;omega);omega
mutual
theorem zWa:∀t:Tm,(yZ0 t).length<=t.size
 | .mk true n l=>by have:=yWq l;simp only[yZ0,List.length_cons,Tm.size];omega
 | .mk false n l=>by have:=yWq l;simp only[yZ0,Tm.size];omega
theorem yWq:∀l:List Tm,(yQp l).length<=yQh l
 | []=>Nat.le_refl _
 | a::l=>by have:=zWa a;have:=yWq l;simp only[yQp,lLa,yQh];omega
end
mutual
theorem xWb:∀f:Fm,(frF f).length<=f.size
 | .mk op m us sub=>by
  have h1:=yWq us;have h2:=xJn sub;simp only[frF,lLa,Fm.size];grind
theorem xJn:∀l:List Fm,(frFs l).length<=yQe l
 | []=>Nat.le_refl _
 | a::l=>by have:=xWb a;have:=xJn l;simp only[frFs,lLa,yQe];omega
end
def wS:Sb->Nat
 | []=>0
 | p::l=>p.2.size+wS l
theorem zUc:∀l m:Sb,wS (l++m)=wS l+wS m
 | [],m=>by simp[wS]
 | a::l,m=>by simp only[List.cons_append,wS,zUc l m];omega
theorem yUg (q:ByteArray×Tm->Bool):∀l:Sb,wS (l.filter q)<=wS l
 | []=>Nat.le_refl _
 | a::l=>by
  have:=yUg q l;rw[List.filter_cons];split
  ·simp only[wS];omega
  ·simp only[wS];omega
theorem wXy:∀l:Sb,(l.flatMap λp=>yZ0 p.2).length<=wS l
 | []=>Nat.le_refl _
 | a::l=>by
  have:=wXy l;have:=zWa a.2;simp only[List.flatMap_cons,lLa,wS];omega
theorem wKr (ps:Sb)(m:ByteArray)(fr:List ByteArray):(yUo ps m fr).length<=fr.length+wS ps:=by
 have:=wXy (cntS ps m fr);have:=yUg (λp=>memB fr p.1&&!decide (p.1=m)) ps;unfold yUo cntS at *;grind
theorem wKm (ps:Sb)(m:ByteArray)(fr:List ByteArray):wS (yKr ps m fr).2<=wS ps+1:=by
 have:=yUg (λp=>memB fr p.1&&!decide (p.1=m)) ps;unfold yKr cntS;split
 ·simp only[zUc,wS,Tm.size,yQh];omega
 ·grind
end Go.Proofs.Tryz
namespace Go.Proofs.Tryz
open Go Go.Iv
noncomputable def zQl (f g:Fm):Bool:=f.right&&g.right&&eqB (dbF [] f) (dbF [] g)
theorem xVi {e:List ByteArray}{n:ByteArray}{l:Nat}(h:e.length<=l):yKy e n≠.bv l:=by
 unfold yKy;split
 ·rename_i i A;have:=xVk A;grind
 ·grind
theorem xG7 {ls rs:List ByteArray}{l r n D:ByteArray}(A:ls.length=rs.length):yKy (l::ls) n=yKy (r::rs) D↔(if n=l\/D=r then n=l/\D=r else yKy ls n=yKy rs D):=by
 rw[zWc,zWc];by_cases h1:n=l
 ·by_cases h2:D=r
  ·grind
  ·simp only[h1,h2,if_true,true_or,and_false,iff_false,if_false];exact λh=>xVi (Nat.le_of_eq A.symm) h.symm
 ·by_cases h2:D=r
  ·simp only[h1,h2,if_true,or_true,false_and,iff_false,if_false];exact λh=>xVi (Nat.le_of_eq A) h
  ·simp[h1,h2]
theorem xVj {e:List ByteArray}{n m:ByteArray}{l:List NlT}:yKy e n≠.ap m l:=by
 unfold yKy;split<;>intro h<;>cases h
theorem wZo {n:ByteArray}:yKy [] n=.fv n:=rfl
abbrev Ar:=List (ByteArray×ByteArray)
def renF (ar:Ar)(n:ByteArray):Option Tm:=(ar.find? λp=>decide (p.1=n)).map λp=>.mk true p.2 []
mutual
noncomputable def zXb (A:List ByteArray):Ar->Fm->Fm
 | ar,.mk op m us sub=>.mk op (if isQ op then yKf (A++ar.map (·.2)) else m) (yX5 (renF ar) us) (yJf A (if isQ op then (m,yKf (A++ar.map (·.2)))::ar else ar) sub)
noncomputable def yJf (A:List ByteArray):Ar->List Fm->List Fm
 | _,[]=>[]
 | ar,a::l=>zXb A ar a::yJf A ar l
end
theorem yKj (A:List ByteArray)(ar:Ar):∀l m:List Fm,yJf A ar (l++m)=yJf A ar l++yJf A ar m
 | [],m=>by simp[yJf]
 | a::l,m=>by simp only[List.cons_append,yJf,yKj A ar l m]
theorem yXh (A:List ByteArray)(ar:Ar):∀l:List Fm,(yJf A ar l).length=l.length
 | []=>rfl
 | a::l=>by simp only[yJf,List.length_cons,yXh A ar l]
noncomputable def zJu (f:Fm):Fm:=zXb (frF f) [] f
theorem wVb {ar:Ar}{n:ByteArray}{u:Tm}(h:renF ar n=some u):u.size=1/\u.deep=1:=by
 unfold renF at h;rw[Option.map_eq_some_iff] at h;obtain⟨p,_,rfl⟩:=h;exact⟨rfl,rfl⟩
theorem yJe {f:Fm}(h:f.right=true):f.ok=true/\f.size<=400/\f.deep<=40:=by
 simp only[Fm.right,bAt,dTe] at h;exact⟨h.1.1,h.1.2,h.2⟩
