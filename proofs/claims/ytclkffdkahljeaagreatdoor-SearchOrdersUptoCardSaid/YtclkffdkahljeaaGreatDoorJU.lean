/- Putting, renaming, normal forms: plain d -/
import Derived.Test.YtclkffdkahljeaaGreatDoorJT
import Derived.Lib.ItoaNum
set_option linter.all false
namespace Go.Proofs.Tryz
open Go Go.Iv
def yV7 (k:Nat):ByteArray:=⟨(120::Lib.decDigits k).toArray⟩
def valD (l:List UInt8):Nat:=l.foldl (λa d=>a*10+(d.toNat-48)) 0
theorem xZc (u:Nat):valD (Lib.decDigits u)=u:=by
 induction u using Nat.strongRecOn with
 | _ u ih =>
  rw[Lib.decDigits];by_cases h:u<10
  ·rw[dif_pos h];simp only[valD,List.foldl_cons,List.foldl_nil,UInt8.toNat_ofNat'];omega
  ·rw[dif_neg h];have:=ih (u / 10) (by omega);simp only[valD,List.foldl_append,List.foldl_cons,List.foldl_nil,UInt8.toNat_ofNat'] at this ⊢;grind
theorem xVi {a b:Nat}(h:yV7 a=yV7 b):a=b:=by
 have h1:(120::Lib.decDigits a)=(120::Lib.decDigits b):=by
  have:=congrArg (λx:ByteArray=>x.data.toList) h;simpa[yV7] using this
 have h2:Lib.decDigits a=Lib.decDigits b:=by injection h1
 rw[<- xZc a,h2,xZc b]
theorem zQt {α:Type} [DecidableEq α]:∀(a b:List α),a.Nodup->(∀x∈a,x∈b)->a.length<=b.length
 | [],b,_,_=>Nat.zero_le _
 | x::a,b,hn,hs=>by
  have hx:=hs x (List.mem_cons_self ..);have hn':=List.nodup_cons.1 hn;have:=zQt a (b.erase x) hn'.2 (λy hy=>(List.mem_erase_of_ne (by rintro rfl;exact hn'.1 hy)).2 (hs y (List.mem_cons_of_mem _ hy)));grind
theorem wZ7 (l:List ByteArray):∃k,1<=k/\k<=l.length+1/\yV7 k ∉ l:=by
 refine Classical.byContradiction λhne=>?_;have hall:∀k,1<=k->k<=l.length+1->yV7 k∈l:=λk h1 h2=>Classical.byContradiction λh=>hne ⟨k,h1,h2,h⟩;have:=zQt ((List.range' 1 (l.length+1)).map yV7) l (by
   unfold List.Nodup;rw[List.pairwise_map];exact List.Pairwise.imp (λh he=>h (xVi he)) (List.nodup_range' (s:=1) (n:=l.length+1))) (λx hx=>by
   obtain⟨k,hk,rfl⟩:=List.mem_map.1 hx;have:=List.mem_range'_1.1 hk;exact hall k (by omega) (by omega))
 grind
noncomputable def zQc (l:List ByteArray):Nat:=Iv.least (λk=>1<=k/\yV7 k ∉ l)
theorem xQ5 (l:List ByteArray):1<=zQc l/\zQc l<=l.length+1/\yV7 (zQc l) ∉ l/\∀j,1<=j->j<zQc l->yV7 j∈l:=by
 obtain⟨k,h1,h2,h3⟩:=wZ7 l;have hs:=Iv.least_spec (p:=λk=>1<=k/\yV7 k ∉ l) ⟨k,h1,h3⟩;refine⟨hs.1.1,Nat.le_trans (hs.2 k ⟨h1,h3⟩) h2,hs.1.2,λj hj hlt=>Classical.byContradiction λhn=>?_⟩;have:=hs.2 j ⟨hj,hn⟩;unfold zQc at hlt;omega
noncomputable def zQb (l:List ByteArray):ByteArray:=yV7 (zQc l)
def memB (l:List ByteArray)(n:ByteArray):Bool:=l.any λx=>decide (x=n)
@[simp] theorem xX6 {l:List ByteArray}{n:ByteArray}:memB l n=true↔n∈l:=by
 simp[memB]
@[simp] theorem zVl {l:List ByteArray}{n:ByteArray}:memB l n=false↔n ∉ l:=by
 rw[<- Bool.not_eq_true,xX6]
mutual
def frF:Fm->List ByteArray
 | .mk op m us sub=>yQr us++(if isQ op then (frFs sub).filter (λn=>!decide (n=m)) else frFs sub)
def frFs:List Fm->List ByteArray
 | []=>[]
 | a::l=>frF a++frFs l
end
theorem xKt (b:ByteArray->Nat)(m:ByteArray)(l:List ByteArray):yJh (incB b m) l=yJh b (l.filter (λn=>!decide (n=m))):=by
 unfold yJh;rw[List.filter_filter];refine List.filter_congr λn _=>?_;unfold incB;grind
mutual
theorem zYy:∀(f:Fm)(b:ByteArray->Nat),yGs b f=yJh b (frF f)
 | .mk op m us sub,b=>by
  simp only[yGs,frF,yX9];rw[zKc sub];split
  ·rw[xKt]
  ·rfl
theorem zKc:∀(l:List Fm)(b:ByteArray->Nat),yZv b l=yJh b (frFs l)
 | [],b=>by simp[yZv,frFs,yJh]
 | a::l,b=>by simp only[yZv,frFs,yX9,zYy a b,zKc l b]
end
theorem xXz (f:Fm):xGa f=frF f:=by
 unfold xGa;rw[zYy];unfold yJh;rw[List.filter_eq_self];intro a _;rfl
abbrev Sb:=List (ByteArray×Tm)
def yXa (l:Sb)(n:ByteArray):Option Tm:=(l.find? λp=>decide (p.1=n)).map (·.2)
def cntS (ps:Sb)(m:ByteArray)(fr:List ByteArray):Sb:=ps.filter λp=>memB fr p.1&&!decide (p.1=m)
def zGb (ps:Sb)(m:ByteArray)(fr:List ByteArray):Bool:=(cntS ps m fr).any λp=>memB (yZ0 p.2) m
def yG8 (ps:Sb)(m:ByteArray)(fr:List ByteArray):List ByteArray:=fr++(cntS ps m fr).flatMap λp=>yZ0 p.2
noncomputable def yJu (ps:Sb)(m:ByteArray)(fr:List ByteArray):ByteArray×Sb :=
 if zGb ps m fr then (zQb (yG8 ps m fr),cntS ps m fr++[(m,.mk true (zQb (yG8 ps m fr)) [])]) else (m,cntS ps m fr)
mutual
noncomputable def yYe:Sb->Fm->Fm
 | ps,.mk op m us sub=>.mk op (if isQ op then (yJu ps m (frFs sub)).1 else m) (yXn (yXa ps) us) (yJm (if isQ op then (yJu ps m (frFs sub)).2 else ps) sub)
noncomputable def yJm:Sb->List Fm->List Fm
 | _,[]=>[]
 | ps,a::l=>yYe ps a::yJm ps l
end
theorem yVj (ps:Sb):∀l m:List Fm,yJm ps (l++m)=yJm ps l++yJm ps m
 | [],m=>by simp[yJm]
 | a::l,m=>by simp only[List.cons_append,yJm,yVj ps l m]
theorem yJ2 (ps:Sb):∀l:List Fm,(yJm ps l).length=l.length
 | []=>rfl
 | a::l=>by simp only[yJm,List.length_cons,yJ2 ps l]
inductive NlT where
 | bv (i:Nat)
 | fv (n:ByteArray)
 | ap (n:ByteArray) (l:List NlT)
inductive NlF where
 | mk (op:Nat) (n:ByteArray) (us:List NlT) (sub:List NlF)
def xYe:List ByteArray->ByteArray->Option Nat
 | [],_=>none
 | m::e,n=>if n=m then some e.length else xYe e n
def yK1 (env:List ByteArray)(n:ByteArray):NlT:=match xYe env n with|some i=>.bv i|none=>.fv n
mutual
def db (env:List ByteArray):Tm->NlT
 | .mk true n _=>yK1 env n
 | .mk false n l=>.ap n (dbs env l)
def dbs (env:List ByteArray):List Tm->List NlT
 | []=>[]
 | a::l=>db env a::dbs env l
end
mutual
def dbF:List ByteArray->Fm->NlF
 | env,.mk op m us sub=>.mk op (if isQ op then ⟨#[]⟩ else m) (dbs env us) (dbFs (if isQ op then m::env else env) sub)
def dbFs:List ByteArray->List Fm->List NlF
 | _,[]=>[]
 | env,a::l=>dbF env a::dbFs env l
end
theorem xX9:∀ {e:List ByteArray}{n:ByteArray}{i:Nat},xYe e n=some i->i<e.length
 | [],n,i,h=>by cases h
 | m::e,n,i,h=>by
  simp only[xYe] at h;split at h
  ·cases h;simp
  ·have:=xX9 h;simp only[List.length_cons];omega
theorem zK4 {e:List ByteArray}{m n:ByteArray}:yK1 (m::e) n=if n=m then .bv e.length else yK1 e n:=by
 unfold yK1;simp only[xYe];grind
theorem xWy {n:ByteArray}{l:List Tm}(h:(Tm.mk true n l).ok=true):l=[]:=by
 simp only[Tm.ok,bAt,List.isEmpty_iff] at h;exact h.1
theorem xWz {n:ByteArray}{l:List Tm}(h:(Tm.mk false n l).ok=true):yYb l=true:=by
 simp only[Tm.ok,bAt] at h;exact h.2
theorem yWr {a:Tm}{l:List Tm}(h:yYb (a::l)=true):a.ok=true/\yYb l=true:=by
 simpa only[yYb,bAt] using h
theorem yWt {a:Fm}{l:List Fm}(h:yW2 (a::l)=true):a.ok=true/\yW2 l=true:=by
 simpa only[yW2,bAt] using h
theorem zUu {op:Nat}{m:ByteArray}{us:List Tm}{sub:List Fm}(h:(Fm.mk op m us sub).ok=true):yYb us=true/\yW2 sub=true/\yJ9 op m us.length sub.length=true:=by
 simp only[Fm.ok,bAt] at h;exact⟨h.1.2,h.2,h.1.1⟩
theorem zQl {ps:Sb}{q:ByteArray×Tm->Bool}{n:ByteArray}(h:∀u,q (n,u)=true):yXa (ps.filter q) n=yXa ps n:=by
 unfold yXa;grind
theorem zQm {ps:Sb}{q:ByteArray×Tm->Bool}{n:ByteArray}(h:∀u,q (n,u)=false):yXa (ps.filter q) n=none:=by
 unfold yXa;grind
theorem zQ9 (ps qs:Sb)(n:ByteArray):yXa (ps++qs) n=(yXa ps n).or (yXa qs n):=by
 unfold yXa;grind
theorem zYj {ps:Sb}{m n:ByteArray}{fr:List ByteArray}(hn:n∈fr)(hm:n≠m):yXa (cntS ps m fr) n=yXa ps n :=
 zQl λu=>by simp[hn,hm]
theorem yYk {ps:Sb}{m:ByteArray}{fr:List ByteArray}:yXa (cntS ps m fr) m=none :=
 zQm λu=>by simp
theorem zYi {ps:Sb}{n:ByteArray}{u:Tm}(h:yXa ps n=some u):(n,u)∈ps:=by
 unfold yXa at h;rw[Option.map_eq_some_iff] at h;grind
end Go.Proofs.Tryz
namespace Go.Proofs.Tryz
open Go Go.Iv
theorem xKd {ps:Sb}{m:ByteArray}{fr:List ByteArray}{n:ByteArray}(hn:n∈fr) :
  yXa (yJu ps m fr).2 n=if n=m then (if zGb ps m fr then some (.mk true (yJu ps m fr).1 []) else none) else yXa ps n:=by
 unfold yJu;by_cases hnm:n=m
 ·subst hnm;rw[if_pos rfl];split
  ·simp only[zQ9,yYk];simp[yXa]
  ·exact yYk
 ·rw[if_neg hnm];split
  ·simp only[zQ9,zYj hn hnm];have:yXa [(m,Tm.mk true (zQb (yG8 ps m fr)) [])] n=none:=by simp[yXa,Ne.symm hnm]
   rw[this];simp
  ·exact zYj hn hnm
section
variable (ps:List Pc)
def HSz (b:ByteArray->Nat)(F:ByteArray->Option Tm)(n:ByteArray):Prop :=
 (if b n=0 then yUr ps n (1,1) else (1,1))=(((F n).getD (.mk true n [])).size,((F n).getD (.mk true n [])).deep)
mutual
theorem wKd (b:ByteArray->Nat)(F:ByteArray->Option Tm):∀t:Tm,t.ok=true->(∀n∈yZ0 t,HSz ps b F n)->psz ps b t=((yYc F t).size,(yYc F t).deep)
 | .mk true n l,h,hn=>by
  obtain rfl:=xWy h;have h1:=hn n (by simp[yZ0]);unfold HSz at h1;simp only[psz,pszs,true_and,yYc];rw[h1];cases F n with
  | none=>rfl
  | some u=>rfl
 | .mk false n l,h,hn=>by
  have:=zVe b F l (xWz h) (λn hm=>hn n (by simpa[yZ0] using hm));simp only[psz,bFt,false_and,if_false,yYc,Tm.size,Tm.deep,this]
theorem zVe (b:ByteArray->Nat)(F:ByteArray->Option Tm):∀l:List Tm,yYb l=true->(∀n∈yQr l,HSz ps b F n)->pszs ps b l=(yQe (yXn F l),yQt (yXn F l))
 | [],_,_=>rfl
 | a::l,h,hn=>by
  simp only[pszs,yXn,yQe,yQt,wKd b F a (yWr h).1 (λn hm=>hn n (by simp[yQr,hm])),zVe b F l (yWr h).2 (λn hm=>hn n (by simp[yQr,hm]))]
end
theorem xUn {b:ByteArray->Nat}{qs:Sb}{m:ByteArray}{fr:List ByteArray}{n:ByteArray}(hn:n∈fr)(h:n≠m->HSz ps b (yXa qs) n):HSz ps (incB b m) (yXa (yJu qs m fr).2) n:=by
 unfold HSz at h ⊢;rw[xKd hn];by_cases hnm:n=m
 ·subst hnm;simp only[incB,if_true];rw[if_neg (by omega)];split<;>rfl
 ·simp only[incB,if_neg hnm];exact h hnm
mutual
theorem xXy:∀(f:Fm)(qs:Sb)(b:ByteArray->Nat),f.ok=true->(∀n∈frF f,HSz ps b (yXa qs) n)->fsz ps b f=((yYe qs f).size,(yYe qs f).deep)
 | .mk op m us sub,qs,b,hok,h=>by
  obtain⟨h1,h2,_⟩:=zUu hok;simp only[frF] at h;simp only[fsz,yYe,Fm.size,Fm.deep,zVe ps b (yXa qs) us h1 (λn hn=>h n (by simp[hn]))];by_cases hq:isQ op=true
  ·simp only[hq,if_true] at h ⊢;rw[zX8 sub _ _ h2 (λn hn=>xUn ps hn (λhm=>h n (by simp[hn,hm])))]
  ·simp only[hq,bFt,if_false] at h ⊢;rw[zX8 sub qs b h2 (λn hn=>h n (by simp[hn]))]
theorem zX8:∀(l:List Fm)(qs:Sb)(b:ByteArray->Nat),yW2 l=true->(∀n∈frFs l,HSz ps b (yXa qs) n)->fszs ps b l=(yQb (yJm qs l),yZ1 (yJm qs l))
 | [],_,_,_,_=>rfl
 | a::l,qs,b,hok,h=>by
  simp only[frFs] at h;simp only[fszs,yJm,yQb,yZ1,xXy a qs b (yWt hok).1 (λn hn=>h n (by simp[hn])),zX8 l qs b (yWt hok).2 (λn hn=>h n (by simp[hn]))]
end
end
def toS (ps:List Pc):Sb:=ps.map λp=>(p.nm,p.tm)
theorem wQf (ps:List Pc):putF ps=yXa (toS ps):=by
 funext n;unfold putF yXa toS;rw[List.find?_map];simp only[Option.map_map];rfl
theorem zK9:∀(ps:List Pc)(z:Nat×Nat)(n:ByteArray),(ps.map Pc.nm).Nodup->yUr ps n z=match yXa (toS ps) n with|some u=>(u.size,u.deep)|none=>z
 | [],z,n,_=>rfl
 | p::ps,z,n,h=>by
  simp only[List.map_cons,List.nodup_cons] at h;have ih:=zK9 ps (if p.nm=n then (p.tm.size,p.tm.deep) else z) n h.2;have h0:yUr (p::ps) n z=yUr ps n (if p.nm=n then (p.tm.size,p.tm.deep) else z):=rfl;rw[h0,ih];have hc:yXa (toS (p::ps)) n=if p.nm=n then some p.tm else yXa (toS ps) n:=by
   unfold yXa toS;grind
  rw[hc];by_cases hp:p.nm=n
  ·rw[if_pos hp,if_pos hp];have:yXa (toS ps) n=none:=by
    cases hl:yXa (toS ps) n with
    | none=>rfl
    | some u =>
     have:=zYi hl;unfold toS at this;grind
   rw[this]
  ·grind
theorem HSz0 {ps:List Pc}(h:(ps.map Pc.nm).Nodup)(n:ByteArray):HSz ps (λ_=>0) (yXa (toS ps)) n:=by
 unfold HSz;rw[if_pos rfl,zK9 ps _ n h];cases yXa (toS ps) n<;>rfl
theorem wU8 {ps:List Pc}(h:(ps.map Pc.nm).Nodup){f:Fm}(hf:f.ok=true):fsz ps (λ_=>0) f=((yYe (toS ps) f).size,(yYe (toS ps) f).deep) :=
 xXy ps f (toS ps) _ hf (λn _=>HSz0 h n)
theorem yUk:∀(k u:Nat),u<10 ^ (k+1)->Lib.nDigits u<=k+1
 | 0,u,h=>by rw[Lib.nDigits_small (by simpa using h)];omega
 | k+1,u,h=>by
  by_cases hu:u<10
  ·rw[Lib.nDigits_small hu];omega
  ·rw[Lib.nDigits_big hu];have:=yUk k (u / 10) (by rw[Nat.pow_succ] at h;omega);omega
mutual
theorem zK2:∀t:Tm,(yZ0 t).length<=t.size
 | .mk true n l=>by have:=yVf l;simp only[yZ0,List.length_cons,Tm.size];omega
 | .mk false n l=>by have:=yVf l;simp only[yZ0,Tm.size];omega
theorem yVf:∀l:List Tm,(yQr l).length<=yQe l
 | []=>Nat.le_refl _
 | a::l=>by have:=zK2 a;have:=yVf l;simp only[yQr,lLa,yQe];omega
end
mutual
theorem wJ3:∀f:Fm,(frF f).length<=f.size
 | .mk op m us sub=>by
  have h1:=yVf us;have h2:=xQf sub;simp only[frF,lLa,Fm.size];grind
theorem xQf:∀l:List Fm,(frFs l).length<=yQb l
 | []=>Nat.le_refl _
 | a::l=>by have:=wJ3 a;have:=xQf l;simp only[frFs,lLa,yQb];omega
end
def wS:Sb->Nat
 | []=>0
 | p::l=>p.2.size+wS l
theorem zWo:∀l m:Sb,wS (l++m)=wS l+wS m
 | [],m=>by simp[wS]
 | a::l,m=>by simp only[List.cons_append,wS,zWo l m];omega
theorem yG0 (q:ByteArray×Tm->Bool):∀l:Sb,wS (l.filter q)<=wS l
 | []=>Nat.le_refl _
 | a::l=>by
  have:=yG0 q l;rw[List.filter_cons];split
  ·simp only[wS];omega
  ·simp only[wS];omega
theorem xGf:∀l:Sb,(l.flatMap λp=>yZ0 p.2).length<=wS l
 | []=>Nat.le_refl _
 | a::l=>by
  have:=xGf l;have:=zK2 a.2;simp only[List.flatMap_cons,lLa,wS];omega
theorem xUu (ps:Sb)(m:ByteArray)(fr:List ByteArray):(yG8 ps m fr).length<=fr.length+wS ps:=by
 have:=xGf (cntS ps m fr);have:=yG0 (λp=>memB fr p.1&&!decide (p.1=m)) ps;unfold yG8 cntS at *;grind
theorem xUr (ps:Sb)(m:ByteArray)(fr:List ByteArray):wS (yJu ps m fr).2<=wS ps+1:=by
 have:=yG0 (λp=>memB fr p.1&&!decide (p.1=m)) ps;unfold yJu cntS;split
 ·simp only[zWo,wS,Tm.size,yQe];omega
 ·grind
end Go.Proofs.Tryz
namespace Go.Proofs.Tryz
open Go Go.Iv
noncomputable def zKp (f g:Fm):Bool:=f.right&&g.right&&eqB (dbF [] f) (dbF [] g)
theorem xX7 {e:List ByteArray}{n:ByteArray}{l:Nat}(h:e.length<=l):yK1 e n≠.bv l:=by
 unfold yK1;split
 ·rename_i i hi;have:=xX9 hi;grind
 ·grind
theorem xKe {ls rs:List ByteArray}{l r n n':ByteArray}(hlen:ls.length=rs.length):yK1 (l::ls) n=yK1 (r::rs) n'↔(if n=l\/n'=r then n=l/\n'=r else yK1 ls n=yK1 rs n'):=by
 rw[zK4,zK4];by_cases h1:n=l
 ·by_cases h2:n'=r
  ·grind
  ·simp only[h1,h2,if_true,true_or,and_false,iff_false,if_false];exact λh=>xX7 (Nat.le_of_eq hlen.symm) h.symm
 ·by_cases h2:n'=r
  ·simp only[h1,h2,if_true,or_true,false_and,iff_false,if_false];exact λh=>xX7 (Nat.le_of_eq hlen) h
  ·simp[h1,h2]
theorem xX8 {e:List ByteArray}{n m:ByteArray}{l:List NlT}:yK1 e n≠.ap m l:=by
 unfold yK1;split<;>intro h<;>cases h
theorem xYd {n:ByteArray}:yK1 [] n=.fv n:=rfl
abbrev Ar:=List (ByteArray×ByteArray)
theorem zQs {f:Fm}(h:f.right=true):f.ok=true/\f.size<=400/\f.deep<=40:=by
 simp only[Fm.right,bAt,dTe] at h;exact⟨h.1.1,h.1.2,h.2⟩
