/- Putting, renaming, normal forms: plain d -/
import Derived.Test.YtclkffdkahljeaaGreatDoorJT
import Derived.Lib.ItoaNum
set_option linter.all false
namespace Go.Proofs.Tryz
open Go Go.Iv
def yVr (k:Nat):ByteArray:=⟨(120::Lib.decDigits k).toArray⟩
def valD (l:List UInt8):Nat:=l.foldl (λa d=>a*10+(d.toNat-48)) 0
theorem xKr (u:Nat):valD (Lib.decDigits u)=u:=by
 induction u using Nat.strongRecOn with
 | _ u A =>
  rw[Lib.decDigits];by_cases h:u<10
  ·rw[dif_pos h];simp only[valD,List.foldl_cons,List.foldl_nil,UInt8.toNat_ofNat'];omega
  ·rw[dif_neg h];have:=A (u / 10) (by omega);simp only[valD,List.foldl_append,List.foldl_cons,List.foldl_nil,UInt8.toNat_ofNat'] at this ⊢;grind
theorem xUm {a b:Nat}(h:yVr a=yVr b):a=b:=by
 have h1:(120::Lib.decDigits a)=(120::Lib.decDigits b):=by
  have:=congrArg (λx:ByteArray=>x.data.toList) h;simpa[yVr] using this
 have h2:Lib.decDigits a=Lib.decDigits b:=by injection h1
 rw[<- xKr a,h2,xKr b]
theorem zXq {α:Type} [DecidableEq α]:∀(a b:List α),a.Nodup->(∀x∈a,x∈b)->a.length<=b.length
 | [],b,_,_=>Nat.zero_le _
 | x::a,b,E,hs=>by
  have hx:=hs x (List.mem_cons_self ..);have A:=List.nodup_cons.1 E;have:=zXq a (b.erase x) A.2 (λy D=>(List.mem_erase_of_ne (by rintro rfl;exact A.1 D)).2 (hs y (List.mem_cons_of_mem _ D)));grind
theorem wWl (l:List ByteArray):∃k,1<=k/\k<=l.length+1/\yVr k ∉ l:=by
 refine Classical.byContradiction λD=>?_;have A:∀k,1<=k->k<=l.length+1->yVr k∈l:=λk h1 h2=>Classical.byContradiction λh=>D ⟨k,h1,h2,h⟩;have:=zXq ((List.range' 1 (l.length+1)).map yVr) l (by
   unfold List.Nodup;rw[List.pairwise_map];exact List.Pairwise.imp (λh J=>h (xUm J)) (List.nodup_range' (s:=1) (n:=l.length+1))) (λx hx=>by
   obtain⟨k,E,rfl⟩:=List.mem_map.1 hx;have:=List.mem_range'_1.1 E;exact A k (by omega) (by omega))
 grind
noncomputable def yYs (l:List ByteArray):Nat:=Iv.least (λk=>1<=k/\yVr k ∉ l)
theorem yUb (l:List ByteArray):1<=yYs l/\yYs l<=l.length+1/\yVr (yYs l) ∉ l/\∀j,1<=j->j<yYs l->yVr j∈l:=by
 obtain⟨k,h1,h2,D⟩:=wWl l;have hs:=Iv.least_spec (p:=λk=>1<=k/\yVr k ∉ l) ⟨k,h1,D⟩;refine⟨hs.1.1,Nat.le_trans (hs.2 k ⟨h1,D⟩) h2,hs.1.2,λj J A=>Classical.byContradiction λE=>?_⟩;have:=hs.2 j ⟨J,E⟩;unfold yYs at A;omega
theorem wXb {l:List ByteArray}{k:Nat}(h1:1<=k)(h2:yVr k ∉ l)(A:∀j,1<=j->j<k->yVr j∈l):yYs l=k:=by
 obtain⟨D,a2,a3,a4⟩:=yUb l;grind
theorem xQn {l m:List ByteArray}(h:∀x,x∈l↔x∈m):yYs l=yYs m:=by
 obtain⟨E,a2,a3,a4⟩:=yUb m;exact wXb E (λhx=>a3 ((h _).1 hx)) (λj D A=>(h _).2 (a4 j D A))
noncomputable def yKd (l:List ByteArray):ByteArray:=yVr (yYs l)
theorem xQm {l m:List ByteArray}(h:∀x,x∈l↔x∈m):yKd l=yKd m:=by unfold yKd;rw[xQn h]
def memB (l:List ByteArray)(n:ByteArray):Bool:=l.any λx=>decide (x=n)
@[simp] theorem yJ2 {l:List ByteArray}{n:ByteArray}:memB l n=true↔n∈l:=by
 simp[memB]
@[simp] theorem zXu {l:List ByteArray}{n:ByteArray}:memB l n=false↔n ∉ l:=by
 rw[<- Bool.not_eq_true,yJ2]
mutual
def frF:Fm->List ByteArray
 | .mk op m us sub=>yQp us++(if isQ op then (frFs sub).filter (λn=>!decide (n=m)) else frFs sub)
def frFs:List Fm->List ByteArray
 | []=>[]
 | a::l=>frF a++frFs l
end
theorem xGt (b:ByteArray->Nat)(m:ByteArray)(l:List ByteArray):yK6 (incB b m) l=yK6 b (l.filter (λn=>!decide (n=m))):=by
 unfold yK6;rw[List.filter_filter];refine List.filter_congr λn _=>?_;unfold incB;grind
mutual
theorem xZ2:∀(f:Fm)(b:ByteArray->Nat),zQe b f=yK6 b (frF f)
 | .mk op m us sub,b=>by
  simp only[zQe,frF,yXg];rw[zWr sub];split
  ·rw[xGt]
  ·rfl
theorem zWr:∀(l:List Fm)(b:ByteArray->Nat),yX0 b l=yK6 b (frFs l)
 | [],b=>by simp[yX0,frFs,yK6]
 | a::l,b=>by simp only[yX0,frFs,yXg,xZ2 a b,zWr l b]
end
theorem zJ3 (f:Fm):xJs f=frF f:=by
 unfold xJs;rw[xZ2];unfold yK6;rw[List.filter_eq_self];intro a _;rfl
abbrev Sb:=List (ByteArray×Tm)
def yXj (l:Sb)(n:ByteArray):Option Tm:=(l.find? λp=>decide (p.1=n)).map (·.2)
def cntS (ps:Sb)(m:ByteArray)(fr:List ByteArray):Sb:=ps.filter λp=>memB fr p.1&&!decide (p.1=m)
def xZf (ps:Sb)(m:ByteArray)(fr:List ByteArray):Bool:=(cntS ps m fr).any λp=>memB (yZ1 p.2) m
def yUu (ps:Sb)(m:ByteArray)(fr:List ByteArray):List ByteArray:=fr++(cntS ps m fr).flatMap λp=>yZ1 p.2
noncomputable def yKp (ps:Sb)(m:ByteArray)(fr:List ByteArray):ByteArray×Sb :=
 if xZf ps m fr then (yKd (yUu ps m fr),cntS ps m fr++[(m,.mk true (yKd (yUu ps m fr)) [])]) else (m,cntS ps m fr)
mutual
noncomputable def yGt:Sb->Fm->Fm
 | ps,.mk op m us sub=>.mk op (if isQ op then (yKp ps m (frFs sub)).1 else m) (yX3 (yXj ps) us) (yKe (if isQ op then (yKp ps m (frFs sub)).2 else ps) sub)
noncomputable def yKe:Sb->List Fm->List Fm
 | _,[]=>[]
 | ps,a::l=>yGt ps a::yKe ps l
end
theorem yWz (ps:Sb):∀l m:List Fm,yKe ps (l++m)=yKe ps l++yKe ps m
 | [],m=>by simp[yKe]
 | a::l,m=>by simp only[List.cons_append,yKe,yWz ps l m]
theorem yJi (ps:Sb):∀l:List Fm,(yKe ps l).length=l.length
 | []=>rfl
 | a::l=>by simp only[yKe,List.length_cons,yJi ps l]
inductive NlT where
 | bv (i:Nat)
 | fv (n:ByteArray)
 | ap (n:ByteArray) (l:List NlT)
inductive NlF where
 | mk (op:Nat) (n:ByteArray) (us:List NlT) (sub:List NlF)
def wZw:List ByteArray->ByteArray->Option Nat
 | [],_=>none
 | m::e,n=>if n=m then some e.length else wZw e n
def yKy (env:List ByteArray)(n:ByteArray):NlT:=match wZw env n with|some i=>.bv i|none=>.fv n
mutual
def db (env:List ByteArray):Tm->NlT
 | .mk true n _=>yKy env n
 | .mk false n l=>.ap n (dbs env l)
def dbs (env:List ByteArray):List Tm->List NlT
 | []=>[]
 | a::l=>db env a::dbs env l
end
mutual
def dbF:List ByteArray->Fm->NlF
 | env,.mk op m us sub=>.mk op (if isQ op then ⟨#[]⟩ else m) (dbs env us) (dbFs (if isQ op then m::env else env) sub)
def dbFs:List ByteArray->List Fm->List NlF
 | _,[]=>[]
 | env,a::l=>dbF env a::dbFs env l
end
theorem xVu:∀ {e:List ByteArray}{n:ByteArray}{i:Nat},wZw e n=some i->i<e.length
 | [],n,i,h=>by cases h
 | m::e,n,i,h=>by
  simp only[wZw] at h;split at h
  ·cases h;simp
  ·have:=xVu h;simp only[List.length_cons];omega
theorem zWi {e:List ByteArray}{m n:ByteArray}:yKy (m::e) n=if n=m then .bv e.length else yKy e n:=by
 unfold yKy;simp only[wZw];grind
theorem xVl {n:ByteArray}{l:List Tm}(h:(Tm.mk true n l).ok=true):l=[]:=by
 simp only[Tm.ok,bAt,List.isEmpty_iff] at h;exact h.1
theorem xVm {n:ByteArray}{l:List Tm}(h:(Tm.mk false n l).ok=true):yYm l=true:=by
 simp only[Tm.ok,bAt] at h;exact h.2
theorem yKn {a:Tm}{l:List Tm}(h:yYm (a::l)=true):a.ok=true/\yYm l=true:=by
 simpa only[yYm,bAt] using h
theorem yKo {a:Fm}{l:List Fm}(h:yY9 (a::l)=true):a.ok=true/\yY9 l=true:=by
 simpa only[yY9,bAt] using h
theorem zJt {op:Nat}{m:ByteArray}{us:List Tm}{sub:List Fm}(h:(Fm.mk op m us sub).ok=true):yYm us=true/\yY9 sub=true/\yJu op m us.length sub.length=true:=by
 simp only[Fm.ok,bAt] at h;exact⟨h.1.2,h.2,h.1.1⟩
theorem zXi {ps:Sb}{q:ByteArray×Tm->Bool}{n:ByteArray}(h:∀u,q (n,u)=true):yXj (ps.filter q) n=yXj ps n:=by
 unfold yXj;grind
theorem zXj {ps:Sb}{q:ByteArray×Tm->Bool}{n:ByteArray}(h:∀u,q (n,u)=false):yXj (ps.filter q) n=none:=by
 unfold yXj;grind
theorem zX8 (ps A:Sb)(n:ByteArray):yXj (ps++A) n=(yXj ps n).or (yXj A n):=by
 unfold yXj;grind
theorem xQi {ps:Sb}{m n:ByteArray}{fr:List ByteArray}(A:n∈fr)(D:n≠m):yXj (cntS ps m fr) n=yXj ps n :=
 zXi λu=>by simp[A,D]
theorem yGy {ps:Sb}{m:ByteArray}{fr:List ByteArray}:yXj (cntS ps m fr) m=none :=
 zXj λu=>by simp
theorem xQh {ps:Sb}{n:ByteArray}{u:Tm}(h:yXj ps n=some u):(n,u)∈ps:=by
 unfold yXj at h;rw[Option.map_eq_some_iff] at h;grind
end Go.Proofs.Tryz
namespace Go.Proofs.Tryz
open Go Go.Iv
theorem xGd {ps:Sb}{m:ByteArray}{fr:List ByteArray}{n:ByteArray}(D:n∈fr) :
  yXj (yKp ps m fr).2 n=if n=m then (if xZf ps m fr then some (.mk true (yKp ps m fr).1 []) else none) else yXj ps n:=by
 unfold yKp;by_cases A:n=m
 ·subst A;rw[if_pos rfl];split
  ·simp only[zX8,yGy];simp[yXj]
  ·exact yGy
 ·rw[if_neg A];split
  ·simp only[zX8,xQi D A];have:yXj [(m,Tm.mk true (yKd (yUu ps m fr)) [])] n=none:=by simp[yXj,Ne.symm A]
   rw[this];simp
  ·exact xQi D A
section
variable (ps:List Pc)
def HSz (b:ByteArray->Nat)(F:ByteArray->Option Tm)(n:ByteArray):Prop :=
 (if b n=0 then zZj ps n (1,1) else (1,1))=(((F n).getD (.mk true n [])).size,((F n).getD (.mk true n [])).deep)
mutual
theorem vQc (b:ByteArray->Nat)(F:ByteArray->Option Tm):∀t:Tm,t.ok=true->(∀n∈yZ1 t,HSz ps b F n)->psz ps b t=((yYb F t).size,(yYb F t).deep)
 | .mk true n l,h,A=>by
  obtain rfl:=xVl h;have h1:=A n (by simp[yZ1]);unfold HSz at h1;simp only[psz,pszs,true_and,yYb];rw[h1];cases F n with
  | none=>rfl
  | some u=>rfl
 | .mk false n l,h,A=>by
  have:=zG4 b F l (xVm h) (λn D=>A n (by simpa[yZ1] using D));simp only[psz,bFt,false_and,if_false,yYb,Tm.size,Tm.deep,this]
theorem zG4 (b:ByteArray->Nat)(F:ByteArray->Option Tm):∀l:List Tm,yYm l=true->(∀n∈yQp l,HSz ps b F n)->pszs ps b l=(yQh (yX3 F l),yQr (yX3 F l))
 | [],_,_=>rfl
 | a::l,h,D=>by
  simp only[pszs,yX3,yQh,yQr,vQc b F a (yKn h).1 (λn A=>D n (by simp[yQp,A])),zG4 b F l (yKn h).2 (λn A=>D n (by simp[yQp,A]))]
end
theorem wKm {b:ByteArray->Nat}{D:Sb}{m:ByteArray}{fr:List ByteArray}{n:ByteArray}(E:n∈fr)(h:n≠m->HSz ps b (yXj D) n):HSz ps (incB b m) (yXj (yKp D m fr).2) n:=by
 unfold HSz at h ⊢;rw[xGd E];by_cases A:n=m
 ·subst A;simp only[incB,if_true];rw[if_neg (by omega)];split<;>rfl
 ·simp only[incB,if_neg A];exact h A
mutual
theorem xWi:∀(f:Fm)(A:Sb)(b:ByteArray->Nat),f.ok=true->(∀n∈frF f,HSz ps b (yXj A) n)->fsz ps b f=((yGt A f).size,(yGt A f).deep)
 | .mk op m us sub,A,b,E,h=>by
  obtain⟨h1,h2,_⟩:=zJt E;simp only[frF] at h;simp only[fsz,yGt,Fm.size,Fm.deep,zG4 ps b (yXj A) us h1 (λn D=>h n (by simp[D]))];by_cases J:isQ op=true
  ·simp only[J,if_true] at h ⊢;rw[zKg sub _ _ h2 (λn D=>wKm ps D (λO=>h n (by simp[D,O])))]
  ·simp only[J,bFt,if_false] at h ⊢;rw[zKg sub A b h2 (λn D=>h n (by simp[D]))]
theorem zKg:∀(l:List Fm)(A:Sb)(b:ByteArray->Nat),yY9 l=true->(∀n∈frFs l,HSz ps b (yXj A) n)->fszs ps b l=(yQd (yKe A l),yZ4 (yKe A l))
 | [],_,_,_,_=>rfl
 | a::l,A,b,D,h=>by
  simp only[frFs] at h;simp only[fszs,yKe,yQd,yZ4,xWi a A b (yKo D).1 (λn E=>h n (by simp[E])),zKg l A b (yKo D).2 (λn E=>h n (by simp[E]))]
end
end
def toS (ps:List Pc):Sb:=ps.map λp=>(p.nm,p.tm)
theorem wVm (ps:List Pc):putF ps=yXj (toS ps):=by
 funext n;unfold putF yXj toS;rw[List.find?_map];simp only[Option.map_map];rfl
theorem zWm:∀(ps:List Pc)(z:Nat×Nat)(n:ByteArray),(ps.map Pc.nm).Nodup->zZj ps n z=match yXj (toS ps) n with|some u=>(u.size,u.deep)|none=>z
 | [],z,n,_=>rfl
 | p::ps,z,n,h=>by
  simp only[List.map_cons,List.nodup_cons] at h;have A:=zWm ps (if p.nm=n then (p.tm.size,p.tm.deep) else z) n h.2;have h0:zZj (p::ps) n z=zZj ps n (if p.nm=n then (p.tm.size,p.tm.deep) else z):=rfl;rw[h0,A];have hc:yXj (toS (p::ps)) n=if p.nm=n then some p.tm else yXj (toS ps) n:=by
   unfold yXj toS;grind
  rw[hc];by_cases hp:p.nm=n
  ·rw[if_pos hp,if_pos hp];have:yXj (toS ps) n=none:=by
    cases hl:yXj (toS ps) n with
    | none=>rfl
    | some u =>
     have:=xQh hl;unfold toS at this;grind
   rw[this]
  ·grind
theorem HSz0 {ps:List Pc}(h:(ps.map Pc.nm).Nodup)(n:ByteArray):HSz ps (λ_=>0) (yXj (toS ps)) n:=by
 unfold HSz;rw[if_pos rfl,zWm ps _ n h];cases yXj (toS ps) n<;>rfl
theorem vVg {ps:List Pc}(h:(ps.map Pc.nm).Nodup){f:Fm}(A:f.ok=true):fsz ps (λ_=>0) f=((yGt (toS ps) f).size,(yGt (toS ps) f).deep) :=
 xWi ps f (toS ps) _ A (λn _=>HSz0 h n)
theorem zZb:∀(k u:Nat),u<10 ^ (k+1)->Lib.nDigits u<=k+1
 | 0,u,h=>by rw[Lib.nDigits_small (by simpa using h)];omega
 | k+1,u,h=>by
  by_cases A:u<10
  ·rw[Lib.nDigits_small A];omega
  ·rw[Lib.nDigits_big A];have:=zZb k (u / 10) (by rw[Nat.pow_succ] at h;omega);omega
mutual
theorem zWg:∀t:Tm,(yZ1 t).length<=t.size
 | .mk true n l=>by have:=yWu l;simp only[yZ1,List.length_cons,Tm.size];omega
 | .mk false n l=>by have:=yWu l;simp only[yZ1,Tm.size];omega
theorem yWu:∀l:List Tm,(yQp l).length<=yQh l
 | []=>Nat.le_refl _
 | a::l=>by have:=zWg a;have:=yWu l;simp only[yQp,lLa,yQh];omega
end
mutual
theorem xWk:∀f:Fm,(frF f).length<=f.size
 | .mk op m us sub=>by
  have h1:=yWu us;have h2:=xJu sub;simp only[frF,lLa,Fm.size];grind
theorem xJu:∀l:List Fm,(frFs l).length<=yQd l
 | []=>Nat.le_refl _
 | a::l=>by have:=xWk a;have:=xJu l;simp only[frFs,lLa,yQd];omega
end
def wS:Sb->Nat
 | []=>0
 | p::l=>p.2.size+wS l
theorem zUd:∀l m:Sb,wS (l++m)=wS l+wS m
 | [],m=>by simp[wS]
 | a::l,m=>by simp only[List.cons_append,wS,zUd l m];omega
theorem yUm (q:ByteArray×Tm->Bool):∀l:Sb,wS (l.filter q)<=wS l
 | []=>Nat.le_refl _
 | a::l=>by
  have:=yUm q l;rw[List.filter_cons];split
  ·simp only[wS];omega
  ·simp only[wS];omega
theorem wJ6:∀l:Sb,(l.flatMap λp=>yZ1 p.2).length<=wS l
 | []=>Nat.le_refl _
 | a::l=>by
  have:=wJ6 l;have:=zWg a.2;simp only[List.flatMap_cons,lLa,wS];omega
theorem wKw (ps:Sb)(m:ByteArray)(fr:List ByteArray):(yUu ps m fr).length<=fr.length+wS ps:=by
 have:=wJ6 (cntS ps m fr);have:=yUm (λp=>memB fr p.1&&!decide (p.1=m)) ps;unfold yUu cntS at *;grind
theorem wKs (ps:Sb)(m:ByteArray)(fr:List ByteArray):wS (yKp ps m fr).2<=wS ps+1:=by
 have:=yUm (λp=>memB fr p.1&&!decide (p.1=m)) ps;unfold yKp cntS;split
 ·simp only[zUd,wS,Tm.size,yQh];omega
 ·grind
end Go.Proofs.Tryz
namespace Go.Proofs.Tryz
open Go Go.Iv
noncomputable def zQt (f g:Fm):Bool:=f.right&&g.right&&eqB (dbF [] f) (dbF [] g)
theorem xVs {e:List ByteArray}{n:ByteArray}{l:Nat}(h:e.length<=l):yKy e n≠.bv l:=by
 unfold yKy;split
 ·rename_i i A;have:=xVu A;grind
 ·grind
theorem xGe {ls rs:List ByteArray}{l r n D:ByteArray}(A:ls.length=rs.length):yKy (l::ls) n=yKy (r::rs) D↔(if n=l\/D=r then n=l/\D=r else yKy ls n=yKy rs D):=by
 rw[zWi,zWi];by_cases h1:n=l
 ·by_cases h2:D=r
  ·grind
  ·simp only[h1,h2,if_true,true_or,and_false,iff_false,if_false];exact λh=>xVs (Nat.le_of_eq A.symm) h.symm
 ·by_cases h2:D=r
  ·simp only[h1,h2,if_true,or_true,false_and,iff_false,if_false];exact λh=>xVs (Nat.le_of_eq A) h
  ·simp[h1,h2]
theorem xVt {e:List ByteArray}{n m:ByteArray}{l:List NlT}:yKy e n≠.ap m l:=by
 unfold yKy;split<;>intro h<;>cases h
theorem wZv {n:ByteArray}:yKy [] n=.fv n:=rfl
abbrev Ar:=List (ByteArray×ByteArray)
def renF (ar:Ar)(n:ByteArray):Option Tm:=(ar.find? λp=>decide (p.1=n)).map λp=>.mk true p.2 []
mutual
noncomputable def zXh (A:List ByteArray):Ar->Fm->Fm
 | ar,.mk op m us sub=>.mk op (if isQ op then yKd (A++ar.map (·.2)) else m) (yX3 (renF ar) us) (yJd A (if isQ op then (m,yKd (A++ar.map (·.2)))::ar else ar) sub)
noncomputable def yJd (A:List ByteArray):Ar->List Fm->List Fm
 | _,[]=>[]
 | ar,a::l=>zXh A ar a::yJd A ar l
end
theorem yKh (A:List ByteArray)(ar:Ar):∀l m:List Fm,yJd A ar (l++m)=yJd A ar l++yJd A ar m
 | [],m=>by simp[yJd]
 | a::l,m=>by simp only[List.cons_append,yJd,yKh A ar l m]
theorem yXh (A:List ByteArray)(ar:Ar):∀l:List Fm,(yJd A ar l).length=l.length
 | []=>rfl
 | a::l=>by simp only[yJd,List.length_cons,yXh A ar l]
noncomputable def zJx (f:Fm):Fm:=zXh (frF f) [] f
theorem wVh {ar:Ar}{n:ByteArray}{u:Tm}(h:renF ar n=some u):u.size=1/\u.deep=1:=by
 unfold renF at h;rw[Option.map_eq_some_iff] at h;obtain⟨p,_,rfl⟩:=h;exact⟨rfl,rfl⟩
theorem yK0 {f:Fm}(h:f.right=true):f.ok=true/\f.size<=400/\f.deep<=40:=by
 simp only[Fm.right,bAt,dTe] at h;exact⟨h.1.1,h.1.2,h.2⟩
