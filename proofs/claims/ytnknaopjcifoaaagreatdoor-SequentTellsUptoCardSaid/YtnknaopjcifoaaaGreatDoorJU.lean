/- Putting, renaming, normal forms: plain d -/
import Derived.Test.YtnknaopjcifoaaaGreatDoorJT
import Derived.Lib.ItoaNum
set_option linter.all false
namespace Go.Proofs.Tryz
open Go Go.Iv
def yVk (k:Nat):ByteArray:=⟨(120::Lib.decDigits k).toArray⟩
def valD (l:List UInt8):Nat:=l.foldl (λa d=>a*10+(d.toNat-48)) 0
theorem xK6 (u:Nat):valD (Lib.decDigits u)=u:=by
 induction u using Nat.strongRecOn with
 | _ u ih =>
  rw[Lib.decDigits];by_cases h:u<10
  ·rw[dif_pos h];simp only[valD,List.foldl_cons,List.foldl_nil,UInt8.toNat_ofNat'];omega
  ·rw[dif_neg h];have:=ih (u / 10) (by omega);simp only[valD,List.foldl_append,List.foldl_cons,List.foldl_nil,UInt8.toNat_ofNat'] at this ⊢;grind
theorem xGr {a b:Nat}(h:yVk a=yVk b):a=b:=by
 have h1:(120::Lib.decDigits a)=(120::Lib.decDigits b):=by
  have:=congrArg (λx:ByteArray=>x.data.toList) h;simpa[yVk] using this
 have h2:Lib.decDigits a=Lib.decDigits b:=by injection h1
 rw[<- xK6 a,h2,xK6 b]
theorem xV6 {α:Type} [DecidableEq α]:∀(a b:List α),a.Nodup->(∀x∈a,x∈b)->a.length<=b.length
 | [],b,_,_=>Nat.zero_le _
 | x::a,b,hn,hs=>by
  have hx:=hs x (List.mem_cons_self ..);have hn':=List.nodup_cons.1 hn;have:=xV6 a (b.erase x) hn'.2 (λy hy=>(List.mem_erase_of_ne (by rintro rfl;exact hn'.1 hy)).2 (hs y (List.mem_cons_of_mem _ hy)));grind
theorem wKt (l:List ByteArray):∃k,1<=k/\k<=l.length+1/\yVk k ∉ l:=by
 refine Classical.byContradiction λhne=>?_;have hall:∀k,1<=k->k<=l.length+1->yVk k∈l:=λk h1 h2=>Classical.byContradiction λh=>hne ⟨k,h1,h2,h⟩;have:=xV6 ((List.range' 1 (l.length+1)).map yVk) l (by
   unfold List.Nodup;rw[List.pairwise_map];exact List.Pairwise.imp (λh he=>h (xGr he)) (List.nodup_range' (s:=1) (n:=l.length+1))) (λx hx=>by
   obtain⟨k,hk,rfl⟩:=List.mem_map.1 hx;have:=List.mem_range'_1.1 hk;exact hall k (by omega) (by omega))
 grind
noncomputable def yKe (l:List ByteArray):Nat:=Iv.least (λk=>1<=k/\yVk k ∉ l)
theorem yY7 (l:List ByteArray):1<=yKe l/\yKe l<=l.length+1/\yVk (yKe l) ∉ l/\∀j,1<=j->j<yKe l->yVk j∈l:=by
 obtain⟨k,h1,h2,h3⟩:=wKt l;have hs:=Iv.least_spec (p:=λk=>1<=k/\yVk k ∉ l) ⟨k,h1,h3⟩;refine⟨hs.1.1,Nat.le_trans (hs.2 k ⟨h1,h3⟩) h2,hs.1.2,λj hj hlt=>Classical.byContradiction λhn=>?_⟩;have:=hs.2 j ⟨hj,hn⟩;unfold yKe at hlt;omega
theorem wZ5 {l:List ByteArray}{k:Nat}(h1:1<=k)(h2:yVk k ∉ l)(h3:∀j,1<=j->j<k->yVk j∈l):yKe l=k:=by
 obtain⟨a1,a2,a3,a4⟩:=yY7 l;grind
theorem xQb {l m:List ByteArray}(h:∀x,x∈l↔x∈m):yKe l=yKe m:=by
 obtain⟨a1,a2,a3,a4⟩:=yY7 m;exact wZ5 a1 (λhx=>a3 ((h _).1 hx)) (λj hj hlt=>(h _).2 (a4 j hj hlt))
noncomputable def yJn (l:List ByteArray):ByteArray:=yVk (yKe l)
theorem zZv {l m:List ByteArray}(h:∀x,x∈l↔x∈m):yJn l=yJn m:=by unfold yJn;rw[xQb h]
def memB (l:List ByteArray)(n:ByteArray):Bool:=l.any λx=>decide (x=n)
@[simp] theorem yX8 {l:List ByteArray}{n:ByteArray}:memB l n=true↔n∈l:=by
 simp[memB]
@[simp] theorem zQ8 {l:List ByteArray}{n:ByteArray}:memB l n=false↔n ∉ l:=by
 rw[<- Bool.not_eq_true,yX8]
mutual
def frF:Fm->List ByteArray
 | .mk op m us sub=>yQg us++(if isQ op then (frFs sub).filter (λn=>!decide (n=m)) else frFs sub)
def frFs:List Fm->List ByteArray
 | []=>[]
 | a::l=>frF a++frFs l
end
theorem xG2 (b:ByteArray->Nat)(m:ByteArray)(l:List ByteArray):yKz (incB b m) l=yKz b (l.filter (λn=>!decide (n=m))):=by
 unfold yKz;rw[List.filter_filter];refine List.filter_congr λn _=>?_;unfold incB;grind
mutual
theorem xQp:∀(f:Fm)(b:ByteArray->Nat),zQi b f=yKz b (frF f)
 | .mk op m us sub,b=>by
  simp only[zQi,frF,yXw];rw[zWl sub];split
  ·rw[xG2]
  ·rfl
theorem zWl:∀(l:List Fm)(b:ByteArray->Nat),yXc b l=yKz b (frFs l)
 | [],b=>by simp[yXc,frFs,yKz]
 | a::l,b=>by simp only[yXc,frFs,yXw,xQp a b,zWl l b]
end
theorem zXo (f:Fm):xJa f=frF f:=by
 unfold xJa;rw[xQp];unfold yKz;rw[List.filter_eq_self];intro a _;rfl
abbrev Sb:=List (ByteArray×Tm)
def yZ9 (l:Sb)(n:ByteArray):Option Tm:=(l.find? λp=>decide (p.1=n)).map (·.2)
def cntS (ps:Sb)(m:ByteArray)(fr:List ByteArray):Sb:=ps.filter λp=>memB fr p.1&&!decide (p.1=m)
def zWs (ps:Sb)(m:ByteArray)(fr:List ByteArray):Bool:=(cntS ps m fr).any λp=>memB (yQk p.2) m
def yGv (ps:Sb)(m:ByteArray)(fr:List ByteArray):List ByteArray:=fr++(cntS ps m fr).flatMap λp=>yQk p.2
noncomputable def yJ7 (ps:Sb)(m:ByteArray)(fr:List ByteArray):ByteArray×Sb :=
 if zWs ps m fr then (yJn (yGv ps m fr),cntS ps m fr++[(m,.mk true (yJn (yGv ps m fr)) [])]) else (m,cntS ps m fr)
mutual
noncomputable def yJh:Sb->Fm->Fm
 | ps,.mk op m us sub=>.mk op (if isQ op then (yJ7 ps m (frFs sub)).1 else m) (yZg (yZ9 ps) us) (yXp (if isQ op then (yJ7 ps m (frFs sub)).2 else ps) sub)
noncomputable def yXp:Sb->List Fm->List Fm
 | _,[]=>[]
 | ps,a::l=>yJh ps a::yXp ps l
end
theorem yJk (ps:Sb):∀l m:List Fm,yXp ps (l++m)=yXp ps l++yXp ps m
 | [],m=>by simp[yXp]
 | a::l,m=>by simp only[List.cons_append,yXp,yJk ps l m]
theorem yXi (ps:Sb):∀l:List Fm,(yXp ps l).length=l.length
 | []=>rfl
 | a::l=>by simp only[yXp,List.length_cons,yXi ps l]
inductive NlT where
 | bv (i:Nat)
 | fv (n:ByteArray)
 | ap (n:ByteArray) (l:List NlT)
inductive NlF where
 | mk (op:Nat) (n:ByteArray) (us:List NlT) (sub:List NlF)
def yYv:List ByteArray->ByteArray->Option Nat
 | [],_=>none
 | m::e,n=>if n=m then some e.length else yYv e n
def yKd (env:List ByteArray)(n:ByteArray):NlT:=match yYv env n with|some i=>.bv i|none=>.fv n
mutual
def db (env:List ByteArray):Tm->NlT
 | .mk true n _=>yKd env n
 | .mk false n l=>.ap n (dbs env l)
def dbs (env:List ByteArray):List Tm->List NlT
 | []=>[]
 | a::l=>db env a::dbs env l
end
mutual
def dbF:List ByteArray->Fm->NlF
 | env,.mk op m us sub=>.mk op (if isQ op then ⟨#[]⟩ else m) (dbs env us) (dbFs (if isQ op then m::env else env) sub)
def dbFs:List ByteArray->List Fm->List NlF
 | _,[]=>[]
 | env,a::l=>dbF env a::dbFs env l
end
theorem zXg:∀ {e:List ByteArray}{n:ByteArray}{i:Nat},yYv e n=some i->i<e.length
 | [],n,i,h=>by cases h
 | m::e,n,i,h=>by
  simp only[yYv] at h;split at h
  ·cases h;simp
  ·have:=zXg h;simp only[List.length_cons];omega
theorem zWd {e:List ByteArray}{m n:ByteArray}:yKd (m::e) n=if n=m then .bv e.length else yKd e n:=by
 unfold yKd;simp only[yYv];grind
theorem xV2 {n:ByteArray}{l:List Tm}(h:(Tm.mk true n l).ok=true):l=[]:=by
 simp only[Tm.ok,bAt,List.isEmpty_iff] at h;exact h.1
theorem xV3 {n:ByteArray}{l:List Tm}(h:(Tm.mk false n l).ok=true):yJd l=true:=by
 simp only[Tm.ok,bAt] at h;exact h.2
theorem yVi {a:Tm}{l:List Tm}(h:yJd (a::l)=true):a.ok=true/\yJd l=true:=by
 simpa only[yJd,bAt] using h
theorem yKk {a:Fm}{l:List Fm}(h:yV3 (a::l)=true):a.ok=true/\yV3 l=true:=by
 simpa only[yV3,bAt] using h
theorem yY3 {op:Nat}{m:ByteArray}{us:List Tm}{sub:List Fm}(h:(Fm.mk op m us sub).ok=true):yJd us=true/\yV3 sub=true/\yZ6 op m us.length sub.length=true:=by
 simp only[Fm.ok,bAt] at h;exact⟨h.1.2,h.2,h.1.1⟩
theorem wK7 {op:Nat}{m:ByteArray}{us:List Tm}{sub:List Fm}(hq:isQ op=true)(h:(Fm.mk op m us sub).ok=true):us=[]/\yKl m=true/\∃g,sub=[g]/\g.ok=true:=by
 obtain⟨h1,h2,h3⟩:=yY3 h;have ho:op=8\/op=9:=by simpa[isQ] using hq
 have h4:(yKl m&&decide (us.length=0)&&decide (sub.length=1))=true:=by rcases ho with rfl|rfl<;>exact h3
 simp only[bAt,dTe] at h4;refine⟨List.eq_nil_of_length_eq_zero h4.1.2,h4.1.1,?_⟩
 match sub,h4.2,h2 with
 | [g],_,h2=>exact⟨g,rfl,(yKk h2).1⟩
theorem zX4 {ps:Sb}{q:ByteArray×Tm->Bool}{n:ByteArray}(h:∀u,q (n,u)=true):yZ9 (ps.filter q) n=yZ9 ps n:=by
 unfold yZ9;grind
theorem zX5 {ps:Sb}{q:ByteArray×Tm->Bool}{n:ByteArray}(h:∀u,q (n,u)=false):yZ9 (ps.filter q) n=none:=by
 unfold yZ9;grind
theorem yW4 (ps qs:Sb)(n:ByteArray):yZ9 (ps++qs) n=(yZ9 ps n).or (yZ9 qs n):=by
 unfold yZ9;grind
theorem xQ7 {ps:Sb}{m n:ByteArray}{fr:List ByteArray}(hn:n∈fr)(hm:n≠m):yZ9 (cntS ps m fr) n=yZ9 ps n :=
 zX4 λu=>by simp[hn,hm]
theorem yGy {ps:Sb}{m:ByteArray}{fr:List ByteArray}:yZ9 (cntS ps m fr) m=none :=
 zX5 λu=>by simp
theorem xQ6 {ps:Sb}{n:ByteArray}{u:Tm}(h:yZ9 ps n=some u):(n,u)∈ps:=by
 unfold yZ9 at h;rw[Option.map_eq_some_iff] at h;grind
end Go.Proofs.Tryz
namespace Go.Proofs.Tryz
open Go Go.Iv
theorem xYm {ps:Sb}{m:ByteArray}{fr:List ByteArray}{n:ByteArray}(hn:n∈fr) :
  yZ9 (yJ7 ps m fr).2 n=if n=m then (if zWs ps m fr then some (.mk true (yJ7 ps m fr).1 []) else none) else yZ9 ps n:=by
 unfold yJ7;by_cases hnm:n=m
 ·subst hnm;rw[if_pos rfl];split
  ·simp only[yW4,yGy];simp[yZ9]
  ·exact yGy
 ·rw[if_neg hnm];split
  ·simp only[yW4,xQ7 hn hnm];have:yZ9 [(m,Tm.mk true (yJn (yGv ps m fr)) [])] n=none:=by simp[yZ9,Ne.symm hnm]
   rw[this];simp
  ·exact xQ7 hn hnm
section
variable (ps:List Pc)
def HSz (b:ByteArray->Nat)(F:ByteArray->Option Tm)(n:ByteArray):Prop :=
 (if b n=0 then zZ8 ps n (1,1) else (1,1))=(((F n).getD (.mk true n [])).size,((F n).getD (.mk true n [])).deep)
mutual
theorem wGd (b:ByteArray->Nat)(F:ByteArray->Option Tm):∀t:Tm,t.ok=true->(∀n∈yQk t,HSz ps b F n)->psz ps b t=((yJq F t).size,(yJq F t).deep)
 | .mk true n l,h,hn=>by
  obtain rfl:=xV2 h;have h1:=hn n (by simp[yQk]);unfold HSz at h1;simp only[psz,pszs,true_and,yJq];rw[h1];cases F n with
  | none=>rfl
  | some u=>rfl
 | .mk false n l,h,hn=>by
  have:=zYq b F l (xV3 h) (λn hm=>hn n (by simpa[yQk] using hm));simp only[psz,bFt,false_and,if_false,yJq,Tm.size,Tm.deep,this]
theorem zYq (b:ByteArray->Nat)(F:ByteArray->Option Tm):∀l:List Tm,yJd l=true->(∀n∈yQg l,HSz ps b F n)->pszs ps b l=(yQ8 (yZg F l),yQi (yZg F l))
 | [],_,_=>rfl
 | a::l,h,hn=>by
  simp only[pszs,yZg,yQ8,yQi,wGd b F a (yVi h).1 (λn hm=>hn n (by simp[yQg,hm])),zYq b F l (yVi h).2 (λn hm=>hn n (by simp[yQg,hm]))]
end
theorem wJ3 {b:ByteArray->Nat}{qs:Sb}{m:ByteArray}{fr:List ByteArray}{n:ByteArray}(hn:n∈fr)(h:n≠m->HSz ps b (yZ9 qs) n):HSz ps (incB b m) (yZ9 (yJ7 qs m fr).2) n:=by
 unfold HSz at h ⊢;rw[xYm hn];by_cases hnm:n=m
 ·subst hnm;simp only[incB,if_true];rw[if_neg (by omega)];split<;>rfl
 ·simp only[incB,if_neg hnm];exact h hnm
mutual
theorem xVp:∀(f:Fm)(qs:Sb)(b:ByteArray->Nat),f.ok=true->(∀n∈frF f,HSz ps b (yZ9 qs) n)->fsz ps b f=((yJh qs f).size,(yJh qs f).deep)
 | .mk op m us sub,qs,b,hok,h=>by
  obtain⟨h1,h2,_⟩:=yY3 hok;simp only[frF] at h;simp only[fsz,yJh,Fm.size,Fm.deep,zYq ps b (yZ9 qs) us h1 (λn hn=>h n (by simp[hn]))];by_cases hq:isQ op=true
  ·simp only[hq,if_true] at h ⊢;rw[zK7 sub _ _ h2 (λn hn=>wJ3 ps hn (λhm=>h n (by simp[hn,hm])))]
  ·simp only[hq,bFt,if_false] at h ⊢;rw[zK7 sub qs b h2 (λn hn=>h n (by simp[hn]))]
theorem zK7:∀(l:List Fm)(qs:Sb)(b:ByteArray->Nat),yV3 l=true->(∀n∈frFs l,HSz ps b (yZ9 qs) n)->fszs ps b l=(yQ7 (yXp qs l),yQr (yXp qs l))
 | [],_,_,_,_=>rfl
 | a::l,qs,b,hok,h=>by
  simp only[frFs] at h;simp only[fszs,yXp,yQ7,yQr,xVp a qs b (yKk hok).1 (λn hn=>h n (by simp[hn])),zK7 l qs b (yKk hok).2 (λn hn=>h n (by simp[hn]))]
end
end
def toS (ps:List Pc):Sb:=ps.map λp=>(p.nm,p.tm)
theorem wK2 (ps:List Pc):putF ps=yZ9 (toS ps):=by
 funext n;unfold putF yZ9 toS;rw[List.find?_map];simp only[Option.map_map];rfl
theorem zWf:∀(ps:List Pc)(z:Nat×Nat)(n:ByteArray),(ps.map Pc.nm).Nodup->zZ8 ps n z=match yZ9 (toS ps) n with|some u=>(u.size,u.deep)|none=>z
 | [],z,n,_=>rfl
 | p::ps,z,n,h=>by
  simp only[List.map_cons,List.nodup_cons] at h;have ih:=zWf ps (if p.nm=n then (p.tm.size,p.tm.deep) else z) n h.2;have h0:zZ8 (p::ps) n z=zZ8 ps n (if p.nm=n then (p.tm.size,p.tm.deep) else z):=rfl;rw[h0,ih];have hc:yZ9 (toS (p::ps)) n=if p.nm=n then some p.tm else yZ9 (toS ps) n:=by
   unfold yZ9 toS;grind
  rw[hc];by_cases hp:p.nm=n
  ·rw[if_pos hp,if_pos hp];have:yZ9 (toS ps) n=none:=by
    cases hl:yZ9 (toS ps) n with
    | none=>rfl
    | some u =>
     have:=xQ6 hl;unfold toS at this;grind
   rw[this]
  ·grind
theorem HSz0 {ps:List Pc}(h:(ps.map Pc.nm).Nodup)(n:ByteArray):HSz ps (λ_=>0) (yZ9 (toS ps)) n:=by
 unfold HSz;rw[if_pos rfl,zWf ps _ n h];cases yZ9 (toS ps) n<;>rfl
theorem vXq {ps:List Pc}(h:(ps.map Pc.nm).Nodup){f:Fm}(hf:f.ok=true):fsz ps (λ_=>0) f=((yJh (toS ps) f).size,(yJh (toS ps) f).deep) :=
 xVp ps f (toS ps) _ hf (λn _=>HSz0 h n)
theorem yWp:∀(k u:Nat),u<10 ^ (k+1)->Lib.nDigits u<=k+1
 | 0,u,h=>by rw[Lib.nDigits_small (by simpa using h)];omega
 | k+1,u,h=>by
  by_cases hu:u<10
  ·rw[Lib.nDigits_small hu];omega
  ·rw[Lib.nDigits_big hu];have:=yWp k (u / 10) (by rw[Nat.pow_succ] at h;omega);omega
mutual
theorem yKm:∀t:Tm,(yQk t).length<=t.size
 | .mk true n l=>by have:=yJe l;simp only[yQk,List.length_cons,Tm.size];omega
 | .mk false n l=>by have:=yJe l;simp only[yQk,Tm.size];omega
theorem yJe:∀l:List Tm,(yQg l).length<=yQ8 l
 | []=>Nat.le_refl _
 | a::l=>by have:=yKm a;have:=yJe l;simp only[yQg,lLa,yQ8];omega
end
mutual
theorem zKa:∀f:Fm,(frF f).length<=f.size
 | .mk op m us sub=>by
  have h1:=yJe us;have h2:=zG8 sub;simp only[frF,lLa,Fm.size];grind
theorem zG8:∀l:List Fm,(frFs l).length<=yQ7 l
 | []=>Nat.le_refl _
 | a::l=>by have:=zKa a;have:=zG8 l;simp only[frFs,lLa,yQ7];omega
end
def wS:Sb->Nat
 | []=>0
 | p::l=>p.2.size+wS l
theorem zGq:∀l m:Sb,wS (l++m)=wS l+wS m
 | [],m=>by simp[wS]
 | a::l,m=>by simp only[List.cons_append,wS,zGq l m];omega
theorem yUs (q:ByteArray×Tm->Bool):∀l:Sb,wS (l.filter q)<=wS l
 | []=>Nat.le_refl _
 | a::l=>by
  have:=yUs q l;rw[List.filter_cons];split
  ·simp only[wS];omega
  ·simp only[wS];omega
theorem wZu:∀l:Sb,(l.flatMap λp=>yQk p.2).length<=wS l
 | []=>Nat.le_refl _
 | a::l=>by
  have:=wZu l;have:=yKm a.2;simp only[List.flatMap_cons,lLa,wS];omega
theorem wJd (ps:Sb)(m:ByteArray)(fr:List ByteArray):(yGv ps m fr).length<=fr.length+wS ps:=by
 have:=wZu (cntS ps m fr);have:=yUs (λp=>memB fr p.1&&!decide (p.1=m)) ps;unfold yGv cntS at *;grind
theorem wJ7 (ps:Sb)(m:ByteArray)(fr:List ByteArray):wS (yJ7 ps m fr).2<=wS ps+1:=by
 have:=yUs (λp=>memB fr p.1&&!decide (p.1=m)) ps;unfold yJ7 cntS;split
 ·simp only[zGq,wS,Tm.size,yQ8];omega
 ·grind
end Go.Proofs.Tryz
namespace Go.Proofs.Tryz
open Go Go.Iv
noncomputable def yKg (f g:Fm):Bool:=f.right&&g.right&&eqB (dbF [] f) (dbF [] g)
theorem xV7 {e:List ByteArray}{n:ByteArray}{l:Nat}(h:e.length<=l):yKd e n≠.bv l:=by
 unfold yKd;split
 ·rename_i i hi;have:=zXg hi;grind
 ·grind
theorem xYn {ls rs:List ByteArray}{l r n n':ByteArray}(hlen:ls.length=rs.length):yKd (l::ls) n=yKd (r::rs) n'↔(if n=l\/n'=r then n=l/\n'=r else yKd ls n=yKd rs n'):=by
 rw[zWd,zWd];by_cases h1:n=l
 ·by_cases h2:n'=r
  ·grind
  ·simp only[h1,h2,if_true,true_or,and_false,iff_false,if_false];exact λh=>xV7 (Nat.le_of_eq hlen.symm) h.symm
 ·by_cases h2:n'=r
  ·simp only[h1,h2,if_true,or_true,false_and,iff_false,if_false];exact λh=>xV7 (Nat.le_of_eq hlen) h
  ·simp[h1,h2]
theorem xV8 {e:List ByteArray}{n m:ByteArray}{l:List NlT}:yKd e n≠.ap m l:=by
 unfold yKd;split<;>intro h<;>cases h
theorem wQr {n:ByteArray}:yKd [] n=.fv n:=rfl
abbrev Ar:=List (ByteArray×ByteArray)
def renF (ar:Ar)(n:ByteArray):Option Tm:=(ar.find? λp=>decide (p.1=n)).map λp=>.mk true p.2 []
mutual
noncomputable def xXp (free:List ByteArray):Ar->Fm->Fm
 | ar,.mk op m us sub=>.mk op (if isQ op then yJn (free++ar.map (·.2)) else m) (yZg (renF ar) us) (yVr free (if isQ op then (m,yJn (free++ar.map (·.2)))::ar else ar) sub)
noncomputable def yVr (free:List ByteArray):Ar->List Fm->List Fm
 | _,[]=>[]
 | ar,a::l=>xXp free ar a::yVr free ar l
end
theorem yVb (free:List ByteArray)(ar:Ar):∀l m:List Fm,yVr free ar (l++m)=yVr free ar l++yVr free ar m
 | [],m=>by simp[yVr]
 | a::l,m=>by simp only[List.cons_append,yVr,yVb free ar l m]
theorem yXy (free:List ByteArray)(ar:Ar):∀l:List Fm,(yVr free ar l).length=l.length
 | []=>rfl
 | a::l=>by simp only[yVr,List.length_cons,yXy free ar l]
noncomputable def zX3 (f:Fm):Fm:=xXp (frF f) [] f
theorem wJt {ar:Ar}{n:ByteArray}{u:Tm}(h:renF ar n=some u):u.size=1/\u.deep=1:=by
 unfold renF at h;rw[Option.map_eq_some_iff] at h;obtain⟨p,_,rfl⟩:=h;exact⟨rfl,rfl⟩
theorem yJu {f:Fm}(h:f.right=true):f.ok=true/\f.size<=400/\f.deep<=40:=by
 simp only[Fm.right,bAt,dTe] at h;exact⟨h.1.1,h.1.2,h.2⟩
