/- Putting, renaming, normal forms: plain d -/
import Derived.Test.YtofmbookakncjaaGreatDoorJT
import Derived.Lib.ItoaNum
set_option linter.all false
namespace Go.Proofs.Tryz
open Go Go.Iv
def yVq (k:Nat):ByteArray:=⟨(120::Lib.decDigits k).toArray⟩
def valD (l:List UInt8):Nat:=l.foldl (λa d=>a*10+(d.toNat-48)) 0
theorem xVj (u:Nat):valD (Lib.decDigits u)=u:=by
 induction u using Nat.strongRecOn with
 | _ u A =>
  rw[Lib.decDigits];by_cases h:u<10
  ·rw[dif_pos h];simp only[valD,List.foldl_cons,List.foldl_nil,UInt8.toNat_ofNat'];omega
  ·rw[dif_neg h];have:=A (u / 10) (by omega);simp only[valD,List.foldl_append,List.foldl_cons,List.foldl_nil,UInt8.toNat_ofNat'] at this ⊢;grind
theorem wQr {a b:Nat}(h:yVq a=yVq b):a=b:=by
 have h1:(120::Lib.decDigits a)=(120::Lib.decDigits b):=by
  have:=congrArg (λx:ByteArray=>x.data.toList) h;simpa[yVq] using this
 have h2:Lib.decDigits a=Lib.decDigits b:=by injection h1
 rw[<- xVj a,h2,xVj b]
theorem zGp {α:Type} [DecidableEq α]:∀(a b:List α),a.Nodup->(∀x∈a,x∈b)->a.length<=b.length
 | [],b,_,_=>Nat.zero_le _
 | x::a,b,E,hs=>by
  have G:=hs x (List.mem_cons_self ..);have A:=List.nodup_cons.1 E;have:=zGp a (b.erase x) A.2 (λy D=>(List.mem_erase_of_ne (by rintro rfl;exact A.1 D)).2 (hs y (List.mem_cons_of_mem _ D)));grind
theorem wYq (l:List ByteArray):∃k,1<=k/\k<=l.length+1/\yVq k ∉ l:=by
 refine Classical.byContradiction λD=>?_;have A:∀k,1<=k->k<=l.length+1->yVq k∈l:=λk h1 h2=>Classical.byContradiction λh=>D ⟨k,h1,h2,h⟩;have:=zGp ((List.range' 1 (l.length+1)).map yVq) l (by
   unfold List.Nodup;rw[List.pairwise_map];exact List.Pairwise.imp (λh J=>h (wQr J)) (List.nodup_range' (s:=1) (n:=l.length+1))) (λx E=>by
   obtain⟨k,G,rfl⟩:=List.mem_map.1 E;have:=List.mem_range'_1.1 G;exact A k (by omega) (by omega))
 grind
noncomputable def yYs (l:List ByteArray):Nat:=Iv.least (λk=>1<=k/\yVq k ∉ l)
theorem yUd (l:List ByteArray):1<=yYs l/\yYs l<=l.length+1/\yVq (yYs l) ∉ l/\∀j,1<=j->j<yYs l->yVq j∈l:=by
 obtain⟨k,h1,h2,D⟩:=wYq l;have hs:=Iv.least_spec (p:=λk=>1<=k/\yVq k ∉ l) ⟨k,h1,D⟩;refine⟨hs.1.1,Nat.le_trans (hs.2 k ⟨h1,D⟩) h2,hs.1.2,λj G A=>Classical.byContradiction λE=>?_⟩;have:=hs.2 j ⟨G,E⟩;unfold yYs at A;omega
theorem wJb {l:List ByteArray}{k:Nat}(h1:1<=k)(h2:yVq k ∉ l)(A:∀j,1<=j->j<k->yVq j∈l):yYs l=k:=by
 obtain⟨D,a2,a3,a4⟩:=yUd l;grind
theorem xZ2 {l m:List ByteArray}(h:∀x,x∈l↔x∈m):yYs l=yYs m:=by
 obtain⟨G,a2,a3,a4⟩:=yUd m;exact wJb G (λD=>a3 ((h _).1 D)) (λj E A=>(h _).2 (a4 j E A))
noncomputable def yJa (l:List ByteArray):ByteArray:=yVq (yYs l)
theorem xZ1 {l m:List ByteArray}(h:∀x,x∈l↔x∈m):yJa l=yJa m:=by unfold yJa;rw[xZ2 h]
def memB (l:List ByteArray)(n:ByteArray):Bool:=l.any λx=>decide (x=n)
@[simp] theorem yJ6 {l:List ByteArray}{n:ByteArray}:memB l n=true↔n∈l:=by
 simp[memB]
@[simp] theorem zXu {l:List ByteArray}{n:ByteArray}:memB l n=false↔n ∉ l:=by
 rw[<- Bool.not_eq_true,yJ6]
mutual
def frF:Fm->List ByteArray
 | .mk op m us sub=>yQs us++(if isQ op then (frFs sub).filter (λn=>!decide (n=m)) else frFs sub)
def frFs:List Fm->List ByteArray
 | []=>[]
 | a::l=>frF a++frFs l
end
theorem wQ0 (b:ByteArray->Nat)(m:ByteArray)(l:List ByteArray):yK2 (incB b m) l=yK2 b (l.filter (λn=>!decide (n=m))):=by
 unfold yK2;rw[List.filter_filter];refine List.filter_congr λn _=>?_;unfold incB;grind
mutual
theorem xZn:∀(f:Fm)(b:ByteArray->Nat),zQk b f=yK2 b (frF f)
 | .mk op m us sub,b=>by
  simp only[zQk,frF,yXh];rw[zY9 sub];split
  ·rw[wQ0]
  ·rfl
theorem zY9:∀(l:List Fm)(b:ByteArray->Nat),yZw b l=yK2 b (frFs l)
 | [],b=>by simp[yZw,frFs,yK2]
 | a::l,b=>by simp only[yZw,frFs,yXh,xZn a b,zY9 l b]
end
theorem zJ4 (f:Fm):xKe f=frF f:=by
 unfold xKe;rw[xZn];unfold yK2;rw[List.filter_eq_self];intro a _;rfl
abbrev Sb:=List (ByteArray×Tm)
def yXk (l:Sb)(n:ByteArray):Option Tm:=(l.find? λp=>decide (p.1=n)).map (·.2)
def cntS (ps:Sb)(m:ByteArray)(fr:List ByteArray):Sb:=ps.filter λp=>memB fr p.1&&!decide (p.1=m)
def xX0 (ps:Sb)(m:ByteArray)(fr:List ByteArray):Bool:=(cntS ps m fr).any λp=>memB (yZ2 p.2) m
def yUy (ps:Sb)(m:ByteArray)(fr:List ByteArray):List ByteArray:=fr++(cntS ps m fr).flatMap λp=>yZ2 p.2
noncomputable def yKn (ps:Sb)(m:ByteArray)(fr:List ByteArray):ByteArray×Sb :=
 if xX0 ps m fr then (yJa (yUy ps m fr),cntS ps m fr++[(m,.mk true (yJa (yUy ps m fr)) [])]) else (m,cntS ps m fr)
mutual
noncomputable def yGs:Sb->Fm->Fm
 | ps,.mk op m us sub=>.mk op (if isQ op then (yKn ps m (frFs sub)).1 else m) (yX3 (yXk ps) us) (yKa (if isQ op then (yKn ps m (frFs sub)).2 else ps) sub)
noncomputable def yKa:Sb->List Fm->List Fm
 | _,[]=>[]
 | ps,a::l=>yGs ps a::yKa ps l
end
theorem yWw (ps:Sb):∀l m:List Fm,yKa ps (l++m)=yKa ps l++yKa ps m
 | [],m=>by simp[yKa]
 | a::l,m=>by simp only[List.cons_append,yKa,yWw ps l m]
theorem yJi (ps:Sb):∀l:List Fm,(yKa ps l).length=l.length
 | []=>rfl
 | a::l=>by simp only[yKa,List.length_cons,yJi ps l]
inductive NlT where
 | bv (i:Nat)
 | fv (n:ByteArray)
 | ap (n:ByteArray) (l:List NlT)
inductive NlF where
 | mk (op:Nat) (n:ByteArray) (us:List NlT) (sub:List NlF)
def wXx:List ByteArray->ByteArray->Option Nat
 | [],_=>none
 | m::e,n=>if n=m then some e.length else wXx e n
def yKy (env:List ByteArray)(n:ByteArray):NlT:=match wXx env n with|some i=>.bv i|none=>.fv n
mutual
def db (env:List ByteArray):Tm->NlT
 | .mk true n _=>yKy env n
 | .mk false n l=>.ap n (dbs env l)
def dbs (env:List ByteArray):List Tm->List NlT
 | []=>[]
 | a::l=>db env a::dbs env l
end
mutual
def dbF:List ByteArray->Fm->NlF
 | env,.mk op m us sub=>.mk op (if isQ op then ⟨#[]⟩ else m) (dbs env us) (dbFs (if isQ op then m::env else env) sub)
def dbFs:List ByteArray->List Fm->List NlF
 | _,[]=>[]
 | env,a::l=>dbF env a::dbFs env l
end
theorem xWn:∀ {e:List ByteArray}{n:ByteArray}{i:Nat},wXx e n=some i->i<e.length
 | [],n,i,h=>by cases h
 | m::e,n,i,h=>by
  simp only[wXx] at h;split at h
  ·cases h;simp
  ·have:=xWn h;simp only[List.length_cons];omega
theorem zY1 {e:List ByteArray}{m n:ByteArray}:yKy (m::e) n=if n=m then .bv e.length else yKy e n:=by
 unfold yKy;simp only[wXx];grind
theorem xWc {n:ByteArray}{l:List Tm}(h:(Tm.mk true n l).ok=true):l=[]:=by
 simp only[Tm.ok,bAt,List.isEmpty_iff] at h;exact h.1
theorem xWd {n:ByteArray}{l:List Tm}(h:(Tm.mk false n l).ok=true):yYj l=true:=by
 simp only[Tm.ok,bAt] at h;exact h.2
theorem yKk {a:Tm}{l:List Tm}(h:yYj (a::l)=true):a.ok=true/\yYj l=true:=by
 simpa only[yYj,bAt] using h
theorem yKl {a:Fm}{l:List Fm}(h:yY4 (a::l)=true):a.ok=true/\yY4 l=true:=by
 simpa only[yY4,bAt] using h
theorem zK7 {op:Nat}{m:ByteArray}{us:List Tm}{sub:List Fm}(h:(Fm.mk op m us sub).ok=true):yYj us=true/\yY4 sub=true/\yJr op m us.length sub.length=true:=by
 simp only[Fm.ok,bAt] at h;exact⟨h.1.2,h.2,h.1.1⟩
theorem zXg {ps:Sb}{q:ByteArray×Tm->Bool}{n:ByteArray}(h:∀u,q (n,u)=true):yXk (ps.filter q) n=yXk ps n:=by
 unfold yXk;grind
theorem zXh {ps:Sb}{q:ByteArray×Tm->Bool}{n:ByteArray}(h:∀u,q (n,u)=false):yXk (ps.filter q) n=none:=by
 unfold yXk;grind
theorem zX4 (ps A:Sb)(n:ByteArray):yXk (ps++A) n=(yXk ps n).or (yXk A n):=by
 unfold yXk;grind
theorem xQx {ps:Sb}{m n:ByteArray}{fr:List ByteArray}(A:n∈fr)(D:n≠m):yXk (cntS ps m fr) n=yXk ps n :=
 zXg λu=>by simp[A,D]
theorem yGx {ps:Sb}{m:ByteArray}{fr:List ByteArray}:yXk (cntS ps m fr) m=none :=
 zXh λu=>by simp
theorem xQw {ps:Sb}{n:ByteArray}{u:Tm}(h:yXk ps n=some u):(n,u)∈ps:=by
 unfold yXk at h;rw[Option.map_eq_some_iff] at h;grind
theorem xUh {ps:Sb}{m:ByteArray}{fr:List ByteArray}{n:ByteArray}(D:n∈fr) :
  yXk (yKn ps m fr).2 n=if n=m then (if xX0 ps m fr then some (.mk true (yKn ps m fr).1 []) else none) else yXk ps n:=by
 unfold yKn;by_cases A:n=m
 ·subst A;rw[if_pos rfl];split
  ·simp only[zX4,yGx];simp[yXk]
  ·exact yGx
 ·rw[if_neg A];split
  ·simp only[zX4,xQx D A];have:yXk [(m,Tm.mk true (yJa (yUy ps m fr)) [])] n=none:=by simp[yXk,Ne.symm A]
   rw[this];simp
  ·exact xQx D A
section
variable (ps:List Pc)
def HSz (b:ByteArray->Nat)(F:ByteArray->Option Tm)(n:ByteArray):Prop :=
 (if b n=0 then zZh ps n (1,1) else (1,1))=(((F n).getD (.mk true n [])).size,((F n).getD (.mk true n [])).deep)
mutual
theorem vZ6 (b:ByteArray->Nat)(F:ByteArray->Option Tm):∀t:Tm,t.ok=true->(∀n∈yZ2 t,HSz ps b F n)->psz ps b t=((yY6 F t).size,(yY6 F t).deep)
 | .mk true n l,h,A=>by
  obtain rfl:=xWc h;have h1:=A n (by simp[yZ2]);unfold HSz at h1;simp only[psz,pszs,true_and,yY6];rw[h1];cases F n with
  | none=>rfl
  | some u=>rfl
 | .mk false n l,h,A=>by
  have:=zGi b F l (xWd h) (λn D=>A n (by simpa[yZ2] using D));simp only[psz,bFt,false_and,if_false,yY6,Tm.size,Tm.deep,this]
theorem zGi (b:ByteArray->Nat)(F:ByteArray->Option Tm):∀l:List Tm,yYj l=true->(∀n∈yQs l,HSz ps b F n)->pszs ps b l=(yQf (yX3 F l),yQv (yX3 F l))
 | [],_,_=>rfl
 | a::l,h,D=>by
  simp only[pszs,yX3,yQf,yQv,vZ6 b F a (yKk h).1 (λn A=>D n (by simp[yQs,A])),zGi b F l (yKk h).2 (λn A=>D n (by simp[yQs,A]))]
end
theorem wVs {b:ByteArray->Nat}{D:Sb}{m:ByteArray}{fr:List ByteArray}{n:ByteArray}(E:n∈fr)(h:n≠m->HSz ps b (yXk D) n):HSz ps (incB b m) (yXk (yKn D m fr).2) n:=by
 unfold HSz at h ⊢;rw[xUh E];by_cases A:n=m
 ·subst A;simp only[incB,if_true];rw[if_neg (by omega)];split<;>rfl
 ·simp only[incB,if_neg A];exact h A
mutual
theorem xYj:∀(f:Fm)(A:Sb)(b:ByteArray->Nat),f.ok=true->(∀n∈frF f,HSz ps b (yXk A) n)->fsz ps b f=((yGs A f).size,(yGs A f).deep)
 | .mk op m us sub,A,b,E,h=>by
  obtain⟨h1,h2,_⟩:=zK7 E;simp only[frF] at h;simp only[fsz,yGs,Fm.size,Fm.deep,zGi ps b (yXk A) us h1 (λn D=>h n (by simp[D]))];by_cases G:isQ op=true
  ·simp only[G,if_true] at h ⊢;rw[zKs sub _ _ h2 (λn D=>wVs ps D (λJ=>h n (by simp[D,J])))]
  ·simp only[G,bFt,if_false] at h ⊢;rw[zKs sub A b h2 (λn D=>h n (by simp[D]))]
theorem zKs:∀(l:List Fm)(A:Sb)(b:ByteArray->Nat),yY4 l=true->(∀n∈frFs l,HSz ps b (yXk A) n)->fszs ps b l=(yQb (yKa A l),yZ6 (yKa A l))
 | [],_,_,_,_=>rfl
 | a::l,A,b,D,h=>by
  simp only[frFs] at h;simp only[fszs,yKa,yQb,yZ6,xYj a A b (yKl D).1 (λn E=>h n (by simp[E])),zKs l A b (yKl D).2 (λn E=>h n (by simp[E]))]
end
end
def toS (ps:List Pc):Sb:=ps.map λp=>(p.nm,p.tm)
theorem wWy (ps:List Pc):putF ps=yXk (toS ps):=by
 funext n;unfold putF yXk toS;rw[List.find?_map];simp only[Option.map_map];rfl
theorem zY4:∀(ps:List Pc)(z:Nat×Nat)(n:ByteArray),(ps.map Pc.nm).Nodup->zZh ps n z=match yXk (toS ps) n with|some u=>(u.size,u.deep)|none=>z
 | [],z,n,_=>rfl
 | p::ps,z,n,h=>by
  simp only[List.map_cons,List.nodup_cons] at h;have A:=zY4 ps (if p.nm=n then (p.tm.size,p.tm.deep) else z) n h.2;have h0:zZh (p::ps) n z=zZh ps n (if p.nm=n then (p.tm.size,p.tm.deep) else z):=rfl;rw[h0,A];have hc:yXk (toS (p::ps)) n=if p.nm=n then some p.tm else yXk (toS ps) n:=by
   unfold yXk toS;grind
  rw[hc];by_cases hp:p.nm=n
  ·rw[if_pos hp,if_pos hp];have:yXk (toS ps) n=none:=by
    cases hl:yXk (toS ps) n with
    | none=>rfl
    | some u =>
     have:=xQw hl;unfold toS at this;grind
   rw[this]
  ·grind
theorem HSz0 {ps:List Pc}(h:(ps.map Pc.nm).Nodup)(n:ByteArray):HSz ps (λ_=>0) (yXk (toS ps)) n:=by
 unfold HSz;rw[if_pos rfl,zY4 ps _ n h];cases yXk (toS ps) n<;>rfl
theorem vWq {ps:List Pc}(h:(ps.map Pc.nm).Nodup){f:Fm}(A:f.ok=true):fsz ps (λ_=>0) f=((yGs (toS ps) f).size,(yGs (toS ps) f).deep) :=
 xYj ps f (toS ps) _ A (λn _=>HSz0 h n)
theorem zZa:∀(k u:Nat),u<10 ^ (k+1)->Lib.nDigits u<=k+1
 | 0,u,h=>by rw[Lib.nDigits_small (by simpa using h)];omega
 | k+1,u,h=>by
  by_cases A:u<10
  ·rw[Lib.nDigits_small A];omega
  ·rw[Lib.nDigits_big A];have:=zZa k (u / 10) (by rw[Nat.pow_succ] at h;omega);omega
mutual
theorem zWz:∀t:Tm,(yZ2 t).length<=t.size
 | .mk true n l=>by have:=yWs l;simp only[yZ2,List.length_cons,Tm.size];omega
 | .mk false n l=>by have:=yWs l;simp only[yZ2,Tm.size];omega
theorem yWs:∀l:List Tm,(yQs l).length<=yQf l
 | []=>Nat.le_refl _
 | a::l=>by have:=zWz a;have:=yWs l;simp only[yQs,lLa,yQf];omega
end
mutual
theorem xYl:∀f:Fm,(frF f).length<=f.size
 | .mk op m us sub=>by
  have h1:=yWs us;have h2:=xKg sub;simp only[frF,lLa,Fm.size];grind
theorem xKg:∀l:List Fm,(frFs l).length<=yQb l
 | []=>Nat.le_refl _
 | a::l=>by have:=xYl a;have:=xKg l;simp only[frFs,lLa,yQb];omega
end
def wS:Sb->Nat
 | []=>0
 | p::l=>p.2.size+wS l
theorem zUu:∀l m:Sb,wS (l++m)=wS l+wS m
 | [],m=>by simp[wS]
 | a::l,m=>by simp only[List.cons_append,wS,zUu l m];omega
theorem yUp (q:ByteArray×Tm->Bool):∀l:Sb,wS (l.filter q)<=wS l
 | []=>Nat.le_refl _
 | a::l=>by
  have:=yUp q l;rw[List.filter_cons];split
  ·simp only[wS];omega
  ·simp only[wS];omega
theorem wKb:∀l:Sb,(l.flatMap λp=>yZ2 p.2).length<=wS l
 | []=>Nat.le_refl _
 | a::l=>by
  have:=wKb l;have:=zWz a.2;simp only[List.flatMap_cons,lLa,wS];omega
theorem wW7 (ps:Sb)(m:ByteArray)(fr:List ByteArray):(yUy ps m fr).length<=fr.length+wS ps:=by
 have:=wKb (cntS ps m fr);have:=yUp (λp=>memB fr p.1&&!decide (p.1=m)) ps;unfold yUy cntS at *;grind
theorem wW2 (ps:Sb)(m:ByteArray)(fr:List ByteArray):wS (yKn ps m fr).2<=wS ps+1:=by
 have:=yUp (λp=>memB fr p.1&&!decide (p.1=m)) ps;unfold yKn cntS;split
 ·simp only[zUu,wS,Tm.size,yQf];omega
 ·grind
noncomputable def yU0 (f g:Fm):Bool:=f.right&&g.right&&eqB (dbF [] f) (dbF [] g)
theorem xWl {e:List ByteArray}{n:ByteArray}{l:Nat}(h:e.length<=l):yKy e n≠.bv l:=by
 unfold yKy;split
 ·rename_i i A;have:=xWn A;grind
 ·grind
theorem xUi {ls rs:List ByteArray}{l r n D:ByteArray}(A:ls.length=rs.length):yKy (l::ls) n=yKy (r::rs) D↔(if n=l\/D=r then n=l/\D=r else yKy ls n=yKy rs D):=by
 rw[zY1,zY1];by_cases h1:n=l
 ·by_cases h2:D=r
  ·grind
  ·simp only[h1,h2,if_true,true_or,and_false,iff_false,if_false];exact λh=>xWl (Nat.le_of_eq A.symm) h.symm
 ·by_cases h2:D=r
  ·simp only[h1,h2,if_true,or_true,false_and,iff_false,if_false];exact λh=>xWl (Nat.le_of_eq A) h
  ·simp[h1,h2]
theorem xWm {e:List ByteArray}{n m:ByteArray}{l:List NlT}:yKy e n≠.ap m l:=by
 unfold yKy;split<;>intro h<;>cases h
theorem wXw {n:ByteArray}:yKy [] n=.fv n:=rfl
abbrev Ar:=List (ByteArray×ByteArray)
def renF (ar:Ar)(n:ByteArray):Option Tm:=(ar.find? λp=>decide (p.1=n)).map λp=>.mk true p.2 []
mutual
noncomputable def zW1 (A:List ByteArray):Ar->Fm->Fm
 | ar,.mk op m us sub=>.mk op (if isQ op then yJa (A++ar.map (·.2)) else m) (yX3 (renF ar) us) (yKx A (if isQ op then (m,yJa (A++ar.map (·.2)))::ar else ar) sub)
noncomputable def yKx (A:List ByteArray):Ar->List Fm->List Fm
 | _,[]=>[]
 | ar,a::l=>zW1 A ar a::yKx A ar l
end
theorem zQa (A:List ByteArray)(ar:Ar):∀l m:List Fm,yKx A ar (l++m)=yKx A ar l++yKx A ar m
 | [],m=>by simp[yKx]
 | a::l,m=>by simp only[List.cons_append,yKx,zQa A ar l m]
theorem yWq (A:List ByteArray)(ar:Ar):∀l:List Fm,(yKx A ar l).length=l.length
 | []=>rfl
 | a::l=>by simp only[yKx,List.length_cons,yWq A ar l]
noncomputable def zKb (f:Fm):Fm:=zW1 (frF f) [] f
theorem wWu {ar:Ar}{n:ByteArray}{u:Tm}(h:renF ar n=some u):u.size=1/\u.deep=1:=by
 unfold renF at h;rw[Option.map_eq_some_iff] at h;obtain⟨p,_,rfl⟩:=h;exact⟨rfl,rfl⟩
theorem yJw {f:Fm}(h:f.right=true):f.ok=true/\f.size<=400/\f.deep<=40:=by
 simp only[Fm.right,bAt,dTe] at h;exact⟨h.1.1,h.1.2,h.2⟩
