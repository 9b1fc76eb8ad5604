/- Putting, renaming, normal forms: plain d -/
import Derived.Test.YtclkffdkahljeaaGreatDoorJT
import Derived.Lib.ItoaNum
set_option linter.all false
namespace Go.Proofs.Tryz
open Go Go.Iv
def yV3 (k:Nat):ByteArray:=⟨(120::Lib.decDigits k).toArray⟩
def valD (l:List UInt8):Nat:=l.foldl (λa d=>a*10+(d.toNat-48)) 0
theorem xQx (u:Nat):valD (Lib.decDigits u)=u:=by
 induction u using Nat.strongRecOn with
 | _ u ih =>
  rw[Lib.decDigits];by_cases h:u<10
  ·rw[dif_pos h];simp only[valD,List.foldl_cons,List.foldl_nil,UInt8.toNat_ofNat'];omega
  ·rw[dif_neg h];have:=ih (u / 10) (by omega);simp only[valD,List.foldl_append,List.foldl_cons,List.foldl_nil,UInt8.toNat_ofNat'] at this ⊢;grind
theorem xKx {a b:Nat}(h:yV3 a=yV3 b):a=b:=by
 have h1:(120::Lib.decDigits a)=(120::Lib.decDigits b):=by
  have:=congrArg (λx:ByteArray=>x.data.toList) h;simpa[yV3] using this
 have h2:Lib.decDigits a=Lib.decDigits b:=by injection h1
 rw[<- xQx a,h2,xQx b]
theorem zV7 {α:Type} [DecidableEq α]:∀(a b:List α),a.Nodup->(∀x∈a,x∈b)->a.length<=b.length
 | [],b,_,_=>Nat.zero_le _
 | x::a,b,hn,hs=>by
  have hx:=hs x (List.mem_cons_self ..);have hn':=List.nodup_cons.1 hn;have:=zV7 a (b.erase x) hn'.2 (λy hy=>(List.mem_erase_of_ne (by rintro rfl;exact hn'.1 hy)).2 (hs y (List.mem_cons_of_mem _ hy)));grind
theorem wQ8 (l:List ByteArray):∃k,1<=k/\k<=l.length+1/\yV3 k ∉ l:=by
 refine Classical.byContradiction λhne=>?_;have hall:∀k,1<=k->k<=l.length+1->yV3 k∈l:=λk h1 h2=>Classical.byContradiction λh=>hne ⟨k,h1,h2,h⟩;have:=zV7 ((List.range' 1 (l.length+1)).map yV3) l (by
   unfold List.Nodup;rw[List.pairwise_map];exact List.Pairwise.imp (λh he=>h (xKx he)) (List.nodup_range' (s:=1) (n:=l.length+1))) (λx hx=>by
   obtain⟨k,hk,rfl⟩:=List.mem_map.1 hx;have:=List.mem_range'_1.1 hk;exact hall k (by omega) (by omega))
 grind
noncomputable def yUz (l:List ByteArray):Nat:=Iv.least (λk=>1<=k/\yV3 k ∉ l)
theorem zUv (l:List ByteArray):1<=yUz l/\yUz l<=l.length+1/\yV3 (yUz l) ∉ l/\∀j,1<=j->j<yUz l->yV3 j∈l:=by
 obtain⟨k,h1,h2,h3⟩:=wQ8 l;have hs:=Iv.least_spec (p:=λk=>1<=k/\yV3 k ∉ l) ⟨k,h1,h3⟩;refine⟨hs.1.1,Nat.le_trans (hs.2 k ⟨h1,h3⟩) h2,hs.1.2,λj hj hlt=>Classical.byContradiction λhn=>?_⟩;have:=hs.2 j ⟨hj,hn⟩;unfold yUz at hlt;omega
noncomputable def yUy (l:List ByteArray):ByteArray:=yV3 (yUz l)
def memB (l:List ByteArray)(n:ByteArray):Bool:=l.any λx=>decide (x=n)
@[simp] theorem xZo {l:List ByteArray}{n:ByteArray}:memB l n=true↔n∈l:=by
 simp[memB]
@[simp] theorem zVd {l:List ByteArray}{n:ByteArray}:memB l n=false↔n ∉ l:=by
 rw[<- Bool.not_eq_true,xZo]
mutual
def frF:Fm->List ByteArray
 | .mk op m us sub=>yQp us++(if isQ op then (frFs sub).filter (λn=>!decide (n=m)) else frFs sub)
def frFs:List Fm->List ByteArray
 | []=>[]
 | a::l=>frF a++frFs l
end
theorem xK9 (b:ByteArray->Nat)(m:ByteArray)(l:List ByteArray):yJf (incB b m) l=yJf b (l.filter (λn=>!decide (n=m))):=by
 unfold yJf;rw[List.filter_filter];refine List.filter_congr λn _=>?_;unfold incB;grind
mutual
theorem zYq:∀(f:Fm)(b:ByteArray->Nat),yGj b f=yJf b (frF f)
 | .mk op m us sub,b=>by
  simp only[yGj,frF,yX7];rw[zJz sub];split
  ·rw[xK9]
  ·rfl
theorem zJz:∀(l:List Fm)(b:ByteArray->Nat),yZp b l=yJf b (frFs l)
 | [],b=>by simp[yZp,frFs,yJf]
 | a::l,b=>by simp only[yZp,frFs,yX7,zYq a b,zJz l b]
end
theorem xXi (f:Fm):xYh f=frF f:=by
 unfold xYh;rw[zYq];unfold yJf;rw[List.filter_eq_self];intro a _;rfl
abbrev Sb:=List (ByteArray×Tm)
def yXa (l:Sb)(n:ByteArray):Option Tm:=(l.find? λp=>decide (p.1=n)).map (·.2)
def cntS (ps:Sb)(m:ByteArray)(fr:List ByteArray):Sb:=ps.filter λp=>memB fr p.1&&!decide (p.1=m)
def zG2 (ps:Sb)(m:ByteArray)(fr:List ByteArray):Bool:=(cntS ps m fr).any λp=>memB (yZ1 p.2) m
def yYz (ps:Sb)(m:ByteArray)(fr:List ByteArray):List ByteArray:=fr++(cntS ps m fr).flatMap λp=>yZ1 p.2
noncomputable def yJr (ps:Sb)(m:ByteArray)(fr:List ByteArray):ByteArray×Sb :=
 if zG2 ps m fr then (yUy (yYz ps m fr),cntS ps m fr++[(m,.mk true (yUy (yYz ps m fr)) [])]) else (m,cntS ps m fr)
mutual
noncomputable def yY6:Sb->Fm->Fm
 | ps,.mk op m us sub=>.mk op (if isQ op then (yJr ps m (frFs sub)).1 else m) (yXk (yXa ps) us) (yJk (if isQ op then (yJr ps m (frFs sub)).2 else ps) sub)
noncomputable def yJk:Sb->List Fm->List Fm
 | _,[]=>[]
 | ps,a::l=>yY6 ps a::yJk ps l
end
theorem yVd (ps:Sb):∀l m:List Fm,yJk ps (l++m)=yJk ps l++yJk ps m
 | [],m=>by simp[yJk]
 | a::l,m=>by simp only[List.cons_append,yJk,yVd ps l m]
theorem yXy (ps:Sb):∀l:List Fm,(yJk ps l).length=l.length
 | []=>rfl
 | a::l=>by simp only[yJk,List.length_cons,yXy ps l]
inductive NlT where
 | bv (i:Nat)
 | fv (n:ByteArray)
 | ap (n:ByteArray) (l:List NlT)
inductive NlF where
 | mk (op:Nat) (n:ByteArray) (us:List NlT) (sub:List NlF)
def xWn:List ByteArray->ByteArray->Option Nat
 | [],_=>none
 | m::e,n=>if n=m then some e.length else xWn e n
def yJy (env:List ByteArray)(n:ByteArray):NlT:=match xWn env n with|some i=>.bv i|none=>.fv n
mutual
def db (env:List ByteArray):Tm->NlT
 | .mk true n _=>yJy env n
 | .mk false n l=>.ap n (dbs env l)
def dbs (env:List ByteArray):List Tm->List NlT
 | []=>[]
 | a::l=>db env a::dbs env l
end
mutual
def dbF:List ByteArray->Fm->NlF
 | env,.mk op m us sub=>.mk op (if isQ op then ⟨#[]⟩ else m) (dbs env us) (dbFs (if isQ op then m::env else env) sub)
def dbFs:List ByteArray->List Fm->List NlF
 | _,[]=>[]
 | env,a::l=>dbF env a::dbFs env l
end
theorem xZr:∀ {e:List ByteArray}{n:ByteArray}{i:Nat},xWn e n=some i->i<e.length
 | [],n,i,h=>by cases h
 | m::e,n,i,h=>by
  simp only[xWn] at h;split at h
  ·cases h;simp
  ·have:=xZr h;simp only[List.length_cons];omega
theorem zJt {e:List ByteArray}{m n:ByteArray}:yJy (m::e) n=if n=m then .bv e.length else yJy e n:=by
 unfold yJy;simp only[xWn];grind
theorem xW8 {n:ByteArray}{l:List Tm}(h:(Tm.mk true n l).ok=true):l=[]:=by
 simp only[Tm.ok,bAt,List.isEmpty_iff] at h;exact h.1
theorem xW9 {n:ByteArray}{l:List Tm}(h:(Tm.mk false n l).ok=true):yY4 l=true:=by
 simp only[Tm.ok,bAt] at h;exact h.2
theorem yWj {a:Tm}{l:List Tm}(h:yY4 (a::l)=true):a.ok=true/\yY4 l=true:=by
 simpa only[yY4,bAt] using h
theorem yWl {a:Fm}{l:List Fm}(h:yVx (a::l)=true):a.ok=true/\yVx l=true:=by
 simpa only[yVx,bAt] using h
theorem zUk {op:Nat}{m:ByteArray}{us:List Tm}{sub:List Fm}(h:(Fm.mk op m us sub).ok=true):yY4 us=true/\yVx sub=true/\yJ5 op m us.length sub.length=true:=by
 simp only[Fm.ok,bAt] at h;exact⟨h.1.2,h.2,h.1.1⟩
theorem zQ9 {ps:Sb}{q:ByteArray×Tm->Bool}{n:ByteArray}(h:∀u,q (n,u)=true):yXa (ps.filter q) n=yXa ps n:=by
 unfold yXa;grind
theorem zQa {ps:Sb}{q:ByteArray×Tm->Bool}{n:ByteArray}(h:∀u,q (n,u)=false):yXa (ps.filter q) n=none:=by
 unfold yXa;grind
theorem yUw (ps qs:Sb)(n:ByteArray):yXa (ps++qs) n=(yXa ps n).or (yXa qs n):=by
 unfold yXa;grind
theorem zYb {ps:Sb}{m n:ByteArray}{fr:List ByteArray}(hn:n∈fr)(hm:n≠m):yXa (cntS ps m fr) n=yXa ps n :=
 zQ9 λu=>by simp[hn,hm]
theorem yYb {ps:Sb}{m:ByteArray}{fr:List ByteArray}:yXa (cntS ps m fr) m=none :=
 zQa λu=>by simp
theorem zYa {ps:Sb}{n:ByteArray}{u:Tm}(h:yXa ps n=some u):(n,u)∈ps:=by
 unfold yXa at h;rw[Option.map_eq_some_iff] at h;grind
end Go.Proofs.Tryz
namespace Go.Proofs.Tryz
open Go Go.Iv
theorem xJu {ps:Sb}{m:ByteArray}{fr:List ByteArray}{n:ByteArray}(hn:n∈fr) :
  yXa (yJr ps m fr).2 n=if n=m then (if zG2 ps m fr then some (.mk true (yJr ps m fr).1 []) else none) else yXa ps n:=by
 unfold yJr;by_cases hnm:n=m
 ·subst hnm;rw[if_pos rfl];split
  ·simp only[yUw,yYb];simp[yXa]
  ·exact yYb
 ·rw[if_neg hnm];split
  ·simp only[yUw,zYb hn hnm];have:yXa [(m,Tm.mk true (yUy (yYz ps m fr)) [])] n=none:=by simp[yXa,Ne.symm hnm]
   rw[this];simp
  ·exact zYb hn hnm
section
variable (ps:List Pc)
def HSz (b:ByteArray->Nat)(F:ByteArray->Option Tm)(n:ByteArray):Prop :=
 (if b n=0 then yUf ps n (1,1) else (1,1))=(((F n).getD (.mk true n [])).size,((F n).getD (.mk true n [])).deep)
mutual
theorem wJ4 (b:ByteArray->Nat)(F:ByteArray->Option Tm):∀t:Tm,t.ok=true->(∀n∈yZ1 t,HSz ps b F n)->psz ps b t=((yY5 F t).size,(yY5 F t).deep)
 | .mk true n l,h,hn=>by
  obtain rfl:=xW8 h;have h1:=hn n (by simp[yZ1]);unfold HSz at h1;simp only[psz,pszs,true_and,yY5];rw[h1];cases F n with
  | none=>rfl
  | some u=>rfl
 | .mk false n l,h,hn=>by
  have:=zV3 b F l (xW9 h) (λn hm=>hn n (by simpa[yZ1] using hm));simp only[psz,bFt,false_and,if_false,yY5,Tm.size,Tm.deep,this]
theorem zV3 (b:ByteArray->Nat)(F:ByteArray->Option Tm):∀l:List Tm,yY4 l=true->(∀n∈yQp l,HSz ps b F n)->pszs ps b l=(yQf (yXk F l),yQs (yXk F l))
 | [],_,_=>rfl
 | a::l,h,hn=>by
  simp only[pszs,yXk,yQf,yQs,wJ4 b F a (yWj h).1 (λn hm=>hn n (by simp[yQp,hm])),zV3 b F l (yWj h).2 (λn hm=>hn n (by simp[yQp,hm]))]
end
theorem xGs {b:ByteArray->Nat}{qs:Sb}{m:ByteArray}{fr:List ByteArray}{n:ByteArray}(hn:n∈fr)(h:n≠m->HSz ps b (yXa qs) n):HSz ps (incB b m) (yXa (yJr qs m fr).2) n:=by
 unfold HSz at h ⊢;rw[xJu hn];by_cases hnm:n=m
 ·subst hnm;simp only[incB,if_true];rw[if_neg (by omega)];split<;>rfl
 ·simp only[incB,if_neg hnm];exact h hnm
mutual
theorem xXh:∀(f:Fm)(qs:Sb)(b:ByteArray->Nat),f.ok=true->(∀n∈frF f,HSz ps b (yXa qs) n)->fsz ps b f=((yY6 qs f).size,(yY6 qs f).deep)
 | .mk op m us sub,qs,b,hok,h=>by
  obtain⟨h1,h2,_⟩:=zUk hok;simp only[frF] at h;simp only[fsz,yY6,Fm.size,Fm.deep,zV3 ps b (yXa qs) us h1 (λn hn=>h n (by simp[hn]))];by_cases hq:isQ op=true
  ·simp only[hq,if_true] at h ⊢;rw[zZy sub _ _ h2 (λn hn=>xGs ps hn (λhm=>h n (by simp[hn,hm])))]
  ·simp only[hq,bFt,if_false] at h ⊢;rw[zZy sub qs b h2 (λn hn=>h n (by simp[hn]))]
theorem zZy:∀(l:List Fm)(qs:Sb)(b:ByteArray->Nat),yVx l=true->(∀n∈frFs l,HSz ps b (yXa qs) n)->fszs ps b l=(yQa (yJk qs l),yZ2 (yJk qs l))
 | [],_,_,_,_=>rfl
 | a::l,qs,b,hok,h=>by
  simp only[frFs] at h;simp only[fszs,yJk,yQa,yZ2,xXh a qs b (yWl hok).1 (λn hn=>h n (by simp[hn])),zZy l qs b (yWl hok).2 (λn hn=>h n (by simp[hn]))]
end
end
def toS (ps:List Pc):Sb:=ps.map λp=>(p.nm,p.tm)
theorem xUk (ps:List Pc):putF ps=yXa (toS ps):=by
 funext n;unfold putF yXa toS;rw[List.find?_map];simp only[Option.map_map];rfl
theorem zJx:∀(ps:List Pc)(z:Nat×Nat)(n:ByteArray),(ps.map Pc.nm).Nodup->yUf ps n z=match yXa (toS ps) n with|some u=>(u.size,u.deep)|none=>z
 | [],z,n,_=>rfl
 | p::ps,z,n,h=>by
  simp only[List.map_cons,List.nodup_cons] at h;have ih:=zJx ps (if p.nm=n then (p.tm.size,p.tm.deep) else z) n h.2;have h0:yUf (p::ps) n z=yUf ps n (if p.nm=n then (p.tm.size,p.tm.deep) else z):=rfl;rw[h0,ih];have hc:yXa (toS (p::ps)) n=if p.nm=n then some p.tm else yXa (toS ps) n:=by
   unfold yXa toS;grind
  rw[hc];by_cases hp:p.nm=n
  ·rw[if_pos hp,if_pos hp];have:yXa (toS ps) n=none:=by
    cases hl:yXa (toS ps) n with
    | none=>rfl
    | some u =>
     have:=zYa hl;unfold toS at this;grind
   rw[this]
  ·grind
theorem HSz0 {ps:List Pc}(h:(ps.map Pc.nm).Nodup)(n:ByteArray):HSz ps (λ_=>0) (yXa (toS ps)) n:=by
 unfold HSz;rw[if_pos rfl,zJx ps _ n h];cases yXa (toS ps) n<;>rfl
theorem wYz {ps:List Pc}(h:(ps.map Pc.nm).Nodup){f:Fm}(hf:f.ok=true):fsz ps (λ_=>0) f=((yY6 (toS ps) f).size,(yY6 (toS ps) f).deep) :=
 xXh ps f (toS ps) _ hf (λn _=>HSz0 h n)
theorem yU8:∀(k u:Nat),u<10 ^ (k+1)->Lib.nDigits u<=k+1
 | 0,u,h=>by rw[Lib.nDigits_small (by simpa using h)];omega
 | k+1,u,h=>by
  by_cases hu:u<10
  ·rw[Lib.nDigits_small hu];omega
  ·rw[Lib.nDigits_big hu];have:=yU8 k (u / 10) (by rw[Nat.pow_succ] at h;omega);omega
mutual
theorem zJr:∀t:Tm,(yZ1 t).length<=t.size
 | .mk true n l=>by have:=yVa l;simp only[yZ1,List.length_cons,Tm.size];omega
 | .mk false n l=>by have:=yVa l;simp only[yZ1,Tm.size];omega
theorem yVa:∀l:List Tm,(yQp l).length<=yQf l
 | []=>Nat.le_refl _
 | a::l=>by have:=zJr a;have:=yVa l;simp only[yQp,lLa,yQf];omega
end
mutual
theorem wZv:∀f:Fm,(frF f).length<=f.size
 | .mk op m us sub=>by
  have h1:=yVa us;have h2:=xQ5 sub;simp only[frF,lLa,Fm.size];grind
theorem xQ5:∀l:List Fm,(frFs l).length<=yQa l
 | []=>Nat.le_refl _
 | a::l=>by have:=wZv a;have:=xQ5 l;simp only[frFs,lLa,yQa];omega
end
def wS:Sb->Nat
 | []=>0
 | p::l=>p.2.size+wS l
theorem zWg:∀l m:Sb,wS (l++m)=wS l+wS m
 | [],m=>by simp[wS]
 | a::l,m=>by simp only[List.cons_append,wS,zWg l m];omega
theorem yYr (q:ByteArray×Tm->Bool):∀l:Sb,wS (l.filter q)<=wS l
 | []=>Nat.le_refl _
 | a::l=>by
  have:=yYr q l;rw[List.filter_cons];split
  ·simp only[wS];omega
  ·simp only[wS];omega
theorem xYn:∀l:Sb,(l.flatMap λp=>yZ1 p.2).length<=wS l
 | []=>Nat.le_refl _
 | a::l=>by
  have:=xYn l;have:=zJr a.2;simp only[List.flatMap_cons,lLa,wS];omega
theorem xU0 (ps:Sb)(m:ByteArray)(fr:List ByteArray):(yYz ps m fr).length<=fr.length+wS ps:=by
 have:=xYn (cntS ps m fr);have:=yYr (λp=>memB fr p.1&&!decide (p.1=m)) ps;unfold yYz cntS at *;grind
theorem xGw (ps:Sb)(m:ByteArray)(fr:List ByteArray):wS (yJr ps m fr).2<=wS ps+1:=by
 have:=yYr (λp=>memB fr p.1&&!decide (p.1=m)) ps;unfold yJr cntS;split
 ·simp only[zWg,wS,Tm.size,yQf];omega
 ·grind
end Go.Proofs.Tryz
namespace Go.Proofs.Tryz
open Go Go.Iv
noncomputable def zKc (f g:Fm):Bool:=f.right&&g.right&&eqB (dbF [] f) (dbF [] g)
theorem xZp {e:List ByteArray}{n:ByteArray}{l:Nat}(h:e.length<=l):yJy e n≠.bv l:=by
 unfold yJy;split
 ·rename_i i hi;have:=xZr hi;grind
 ·grind
theorem xJv {ls rs:List ByteArray}{l r n n':ByteArray}(hlen:ls.length=rs.length):yJy (l::ls) n=yJy (r::rs) n'↔(if n=l\/n'=r then n=l/\n'=r else yJy ls n=yJy rs n'):=by
 rw[zJt,zJt];by_cases h1:n=l
 ·by_cases h2:n'=r
  ·grind
  ·simp only[h1,h2,if_true,true_or,and_false,iff_false,if_false];exact λh=>xZp (Nat.le_of_eq hlen.symm) h.symm
 ·by_cases h2:n'=r
  ·simp only[h1,h2,if_true,or_true,false_and,iff_false,if_false];exact λh=>xZp (Nat.le_of_eq hlen) h
  ·simp[h1,h2]
theorem xZq {e:List ByteArray}{n m:ByteArray}{l:List NlT}:yJy e n≠.ap m l:=by
 unfold yJy;split<;>intro h<;>cases h
theorem xWm {n:ByteArray}:yJy [] n=.fv n:=rfl
abbrev Ar:=List (ByteArray×ByteArray)
theorem zQf {f:Fm}(h:f.right=true):f.ok=true/\f.size<=400/\f.deep<=40:=by
 simp only[Fm.right,bAt,dTe] at h;exact⟨h.1.1,h.1.2,h.2⟩
