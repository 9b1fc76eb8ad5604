/- Putting, renaming, normal forms: plain d -/
import Derived.Test.YtclkffdkahljeaaGreatDoorJT
import Derived.Lib.ItoaNum
set_option linter.all false
namespace Go.Proofs.Tryz
open Go Go.Iv
def yVc (k:Nat):ByteArray:=⟨(120::Lib.decDigits k).toArray⟩
def valD (l:List UInt8):Nat:=l.foldl (λa d=>a*10+(d.toNat-48)) 0
theorem xZn (u:Nat):valD (Lib.decDigits u)=u:=by
 induction u using Nat.strongRecOn with
 | _ u ih =>
  rw[Lib.decDigits];by_cases h:u<10
  ·rw[dif_pos h];simp only[valD,List.foldl_cons,List.foldl_nil,UInt8.toNat_ofNat'];omega
  ·rw[dif_neg h];have:=ih (u / 10) (by omega);simp only[valD,List.foldl_append,List.foldl_cons,List.foldl_nil,UInt8.toNat_ofNat'] at this ⊢;grind
theorem xVx {a b:Nat}(h:yVc a=yVc b):a=b:=by
 have h1:(120::Lib.decDigits a)=(120::Lib.decDigits b):=by
  have:=congrArg (λx:ByteArray=>x.data.toList) h;simpa[yVc] using this
 have h2:Lib.decDigits a=Lib.decDigits b:=by injection h1
 rw[<- xZn a,h2,xZn b]
theorem yGo {α:Type} [DecidableEq α]:∀(a b:List α),a.Nodup->(∀x∈a,x∈b)->a.length<=b.length
 | [],b,_,_=>Nat.zero_le _
 | x::a,b,hn,hs=>by
  have hx:=hs x (List.mem_cons_self ..);have hn':=List.nodup_cons.1 hn;have:=yGo a (b.erase x) hn'.2 (λy hy=>(List.mem_erase_of_ne (by rintro rfl;exact hn'.1 hy)).2 (hs y (List.mem_cons_of_mem _ hy)));grind
theorem wXe (l:List ByteArray):∃k,1<=k/\k<=l.length+1/\yVc k ∉ l:=by
 refine Classical.byContradiction λhne=>?_;have hall:∀k,1<=k->k<=l.length+1->yVc k∈l:=λk h1 h2=>Classical.byContradiction λh=>hne ⟨k,h1,h2,h⟩;have:=yGo ((List.range' 1 (l.length+1)).map yVc) l (by
   unfold List.Nodup;rw[List.pairwise_map];exact List.Pairwise.imp (λh he=>h (xVx he)) (List.nodup_range' (s:=1) (n:=l.length+1))) (λx hx=>by
   obtain⟨k,hk,rfl⟩:=List.mem_map.1 hx;have:=List.mem_range'_1.1 hk;exact hall k (by omega) (by omega))
 grind
noncomputable def zQg (l:List ByteArray):Nat:=Iv.least (λk=>1<=k/\yVc k ∉ l)
theorem xQj (l:List ByteArray):1<=zQg l/\zQg l<=l.length+1/\yVc (zQg l) ∉ l/\∀j,1<=j->j<zQg l->yVc j∈l:=by
 obtain⟨k,h1,h2,h3⟩:=wXe l;have hs:=Iv.least_spec (p:=λk=>1<=k/\yVc k ∉ l) ⟨k,h1,h3⟩;refine⟨hs.1.1,Nat.le_trans (hs.2 k ⟨h1,h3⟩) h2,hs.1.2,λj hj hlt=>Classical.byContradiction λhn=>?_⟩;have:=hs.2 j ⟨hj,hn⟩;unfold zQg at hlt;omega
noncomputable def zQf (l:List ByteArray):ByteArray:=yVc (zQg l)
def memB (l:List ByteArray)(n:ByteArray):Bool:=l.any λx=>decide (x=n)
@[simp] theorem xXf {l:List ByteArray}{n:ByteArray}:memB l n=true↔n∈l:=by
 simp[memB]
@[simp] theorem zVr {l:List ByteArray}{n:ByteArray}:memB l n=false↔n ∉ l:=by
 rw[<- Bool.not_eq_true,xXf]
mutual
def frF:Fm->List ByteArray
 | .mk op m us sub=>yQq us++(if isQ op then (frFs sub).filter (λn=>!decide (n=m)) else frFs sub)
def frFs:List Fm->List ByteArray
 | []=>[]
 | a::l=>frF a++frFs l
end
theorem xV7 (b:ByteArray->Nat)(m:ByteArray)(l:List ByteArray):yJk (incB b m) l=yJk b (l.filter (λn=>!decide (n=m))):=by
 unfold yJk;rw[List.filter_filter];refine List.filter_congr λn _=>?_;unfold incB;grind
mutual
theorem zGa:∀(f:Fm)(b:ByteArray->Nat),yGx b f=yJk b (frF f)
 | .mk op m us sub,b=>by
  simp only[yGx,frF,yX9];rw[zKi sub];split
  ·rw[xV7]
  ·rfl
theorem zKi:∀(l:List Fm)(b:ByteArray->Nat),yZu b l=yJk b (frFs l)
 | [],b=>by simp[yZu,frFs,yJk]
 | a::l,b=>by simp only[yZu,frFs,yX9,zGa a b,zKi l b]
end
theorem xJ7 (f:Fm):xU6 f=frF f:=by
 unfold xU6;rw[zGa];unfold yJk;rw[List.filter_eq_self];intro a _;rfl
abbrev Sb:=List (ByteArray×Tm)
def yXb (l:Sb)(n:ByteArray):Option Tm:=(l.find? λp=>decide (p.1=n)).map (·.2)
def cntS (ps:Sb)(m:ByteArray)(fr:List ByteArray):Sb:=ps.filter λp=>memB fr p.1&&!decide (p.1=m)
def zGn (ps:Sb)(m:ByteArray)(fr:List ByteArray):Bool:=(cntS ps m fr).any λp=>memB (yZ2 p.2) m
def yGd (ps:Sb)(m:ByteArray)(fr:List ByteArray):List ByteArray:=fr++(cntS ps m fr).flatMap λp=>yZ2 p.2
noncomputable def yJx (ps:Sb)(m:ByteArray)(fr:List ByteArray):ByteArray×Sb :=
 if zGn ps m fr then (zQf (yGd ps m fr),cntS ps m fr++[(m,.mk true (zQf (yGd ps m fr)) [])]) else (m,cntS ps m fr)
mutual
noncomputable def yYi:Sb->Fm->Fm
 | ps,.mk op m us sub=>.mk op (if isQ op then (yJx ps m (frFs sub)).1 else m) (yXo (yXb ps) us) (yJr (if isQ op then (yJx ps m (frFs sub)).2 else ps) sub)
noncomputable def yJr:Sb->List Fm->List Fm
 | _,[]=>[]
 | ps,a::l=>yYi ps a::yJr ps l
end
theorem yVm (ps:Sb):∀l m:List Fm,yJr ps (l++m)=yJr ps l++yJr ps m
 | [],m=>by simp[yJr]
 | a::l,m=>by simp only[List.cons_append,yJr,yVm ps l m]
theorem yJ3 (ps:Sb):∀l:List Fm,(yJr ps l).length=l.length
 | []=>rfl
 | a::l=>by simp only[yJr,List.length_cons,yJ3 ps l]
inductive NlT where
 | bv (i:Nat)
 | fv (n:ByteArray)
 | ap (n:ByteArray) (l:List NlT)
inductive NlF where
 | mk (op:Nat) (n:ByteArray) (us:List NlT) (sub:List NlF)
def xG2:List ByteArray->ByteArray->Option Nat
 | [],_=>none
 | m::e,n=>if n=m then some e.length else xG2 e n
def yK4 (env:List ByteArray)(n:ByteArray):NlT:=match xG2 env n with|some i=>.bv i|none=>.fv n
mutual
def db (env:List ByteArray):Tm->NlT
 | .mk true n _=>yK4 env n
 | .mk false n l=>.ap n (dbs env l)
def dbs (env:List ByteArray):List Tm->List NlT
 | []=>[]
 | a::l=>db env a::dbs env l
end
mutual
def dbF:List ByteArray->Fm->NlF
 | env,.mk op m us sub=>.mk op (if isQ op then ⟨#[]⟩ else m) (dbs env us) (dbFs (if isQ op then m::env else env) sub)
def dbFs:List ByteArray->List Fm->List NlF
 | _,[]=>[]
 | env,a::l=>dbF env a::dbFs env l
end
theorem xXi:∀ {e:List ByteArray}{n:ByteArray}{i:Nat},xG2 e n=some i->i<e.length
 | [],n,i,h=>by cases h
 | m::e,n,i,h=>by
  simp only[xG2] at h;split at h
  ·cases h;simp
  ·have:=xXi h;simp only[List.length_cons];omega
theorem zKb {e:List ByteArray}{m n:ByteArray}:yK4 (m::e) n=if n=m then .bv e.length else yK4 e n:=by
 unfold yK4;simp only[xG2];grind
theorem xYg {n:ByteArray}{l:List Tm}(h:(Tm.mk true n l).ok=true):l=[]:=by
 simp only[Tm.ok,bAt,List.isEmpty_iff] at h;exact h.1
theorem xYh {n:ByteArray}{l:List Tm}(h:(Tm.mk false n l).ok=true):yYf l=true:=by
 simp only[Tm.ok,bAt] at h;exact h.2
theorem yWu {a:Tm}{l:List Tm}(h:yYf (a::l)=true):a.ok=true/\yYf l=true:=by
 simpa only[yYf,bAt] using h
theorem yWw {a:Fm}{l:List Fm}(h:yW6 (a::l)=true):a.ok=true/\yW6 l=true:=by
 simpa only[yW6,bAt] using h
theorem xQ8 {op:Nat}{m:ByteArray}{us:List Tm}{sub:List Fm}(h:(Fm.mk op m us sub).ok=true):yYf us=true/\yW6 sub=true/\yJb op m us.length sub.length=true:=by
 simp only[Fm.ok,bAt] at h;exact⟨h.1.2,h.2,h.1.1⟩
theorem zQp {ps:Sb}{q:ByteArray×Tm->Bool}{n:ByteArray}(h:∀u,q (n,u)=true):yXb (ps.filter q) n=yXb ps n:=by
 unfold yXb;grind
theorem zQq {ps:Sb}{q:ByteArray×Tm->Bool}{n:ByteArray}(h:∀u,q (n,u)=false):yXb (ps.filter q) n=none:=by
 unfold yXb;grind
theorem zQd (ps qs:Sb)(n:ByteArray):yXb (ps++qs) n=(yXb ps n).or (yXb qs n):=by
 unfold yXb;grind
theorem zYt {ps:Sb}{m n:ByteArray}{fr:List ByteArray}(hn:n∈fr)(hm:n≠m):yXb (cntS ps m fr) n=yXb ps n :=
 zQp λu=>by simp[hn,hm]
theorem yYo {ps:Sb}{m:ByteArray}{fr:List ByteArray}:yXb (cntS ps m fr) m=none :=
 zQq λu=>by simp
theorem zYs {ps:Sb}{n:ByteArray}{u:Tm}(h:yXb ps n=some u):(n,u)∈ps:=by
 unfold yXb at h;rw[Option.map_eq_some_iff] at h;grind
end Go.Proofs.Tryz
namespace Go.Proofs.Tryz
open Go Go.Iv
theorem xKp {ps:Sb}{m:ByteArray}{fr:List ByteArray}{n:ByteArray}(hn:n∈fr) :
  yXb (yJx ps m fr).2 n=if n=m then (if zGn ps m fr then some (.mk true (yJx ps m fr).1 []) else none) else yXb ps n:=by
 unfold yJx;by_cases hnm:n=m
 ·subst hnm;rw[if_pos rfl];split
  ·simp only[zQd,yYo];simp[yXb]
  ·exact yYo
 ·rw[if_neg hnm];split
  ·simp only[zQd,zYt hn hnm];have:yXb [(m,Tm.mk true (zQf (yGd ps m fr)) [])] n=none:=by simp[yXb,Ne.symm hnm]
   rw[this];simp
  ·exact zYt hn hnm
section
variable (ps:List Pc)
def HSz (b:ByteArray->Nat)(F:ByteArray->Option Tm)(n:ByteArray):Prop :=
 (if b n=0 then yUv ps n (1,1) else (1,1))=(((F n).getD (.mk true n [])).size,((F n).getD (.mk true n [])).deep)
mutual
theorem wVp (b:ByteArray->Nat)(F:ByteArray->Option Tm):∀t:Tm,t.ok=true->(∀n∈yZ2 t,HSz ps b F n)->psz ps b t=((yYg F t).size,(yYg F t).deep)
 | .mk true n l,h,hn=>by
  obtain rfl:=xYg h;have h1:=hn n (by simp[yZ2]);unfold HSz at h1;simp only[psz,pszs,true_and,yYg];rw[h1];cases F n with
  | none=>rfl
  | some u=>rfl
 | .mk false n l,h,hn=>by
  have:=zVl b F l (xYh h) (λn hm=>hn n (by simpa[yZ2] using hm));simp only[psz,bFt,false_and,if_false,yYg,Tm.size,Tm.deep,this]
theorem zVl (b:ByteArray->Nat)(F:ByteArray->Option Tm):∀l:List Tm,yYf l=true->(∀n∈yQq l,HSz ps b F n)->pszs ps b l=(yQg (yXo F l),yQt (yXo F l))
 | [],_,_=>rfl
 | a::l,h,hn=>by
  simp only[pszs,yXo,yQg,yQt,wVp b F a (yWu h).1 (λn hm=>hn n (by simp[yQq,hm])),zVl b F l (yWu h).2 (λn hm=>hn n (by simp[yQq,hm]))]
end
theorem wQn {b:ByteArray->Nat}{qs:Sb}{m:ByteArray}{fr:List ByteArray}{n:ByteArray}(hn:n∈fr)(h:n≠m->HSz ps b (yXb qs) n):HSz ps (incB b m) (yXb (yJx qs m fr).2) n:=by
 unfold HSz at h ⊢;rw[xKp hn];by_cases hnm:n=m
 ·subst hnm;simp only[incB,if_true];rw[if_neg (by omega)];split<;>rfl
 ·simp only[incB,if_neg hnm];exact h hnm
mutual
theorem xJ6:∀(f:Fm)(qs:Sb)(b:ByteArray->Nat),f.ok=true->(∀n∈frF f,HSz ps b (yXb qs) n)->fsz ps b f=((yYi qs f).size,(yYi qs f).deep)
 | .mk op m us sub,qs,b,hok,h=>by
  obtain⟨h1,h2,_⟩:=xQ8 hok;simp only[frF] at h;simp only[fsz,yYi,Fm.size,Fm.deep,zVl ps b (yXb qs) us h1 (λn hn=>h n (by simp[hn]))];by_cases hq:isQ op=true
  ·simp only[hq,if_true] at h ⊢;rw[zXd sub _ _ h2 (λn hn=>wQn ps hn (λhm=>h n (by simp[hn,hm])))]
  ·simp only[hq,bFt,if_false] at h ⊢;rw[zXd sub qs b h2 (λn hn=>h n (by simp[hn]))]
theorem zXd:∀(l:List Fm)(qs:Sb)(b:ByteArray->Nat),yW6 l=true->(∀n∈frFs l,HSz ps b (yXb qs) n)->fszs ps b l=(yQb (yJr qs l),yZ3 (yJr qs l))
 | [],_,_,_,_=>rfl
 | a::l,qs,b,hok,h=>by
  simp only[frFs] at h;simp only[fszs,yJr,yQb,yZ3,xJ6 a qs b (yWw hok).1 (λn hn=>h n (by simp[hn])),zXd l qs b (yWw hok).2 (λn hn=>h n (by simp[hn]))]
end
end
def toS (ps:List Pc):Sb:=ps.map λp=>(p.nm,p.tm)
theorem wZj (ps:List Pc):putF ps=yXb (toS ps):=by
 funext n;unfold putF yXb toS;rw[List.find?_map];simp only[Option.map_map];rfl
theorem zKg:∀(ps:List Pc)(z:Nat×Nat)(n:ByteArray),(ps.map Pc.nm).Nodup->yUv ps n z=match yXb (toS ps) n with|some u=>(u.size,u.deep)|none=>z
 | [],z,n,_=>rfl
 | p::ps,z,n,h=>by
  simp only[List.map_cons,List.nodup_cons] at h;have ih:=zKg ps (if p.nm=n then (p.tm.size,p.tm.deep) else z) n h.2;have h0:yUv (p::ps) n z=yUv ps n (if p.nm=n then (p.tm.size,p.tm.deep) else z):=rfl;rw[h0,ih];have hc:yXb (toS (p::ps)) n=if p.nm=n then some p.tm else yXb (toS ps) n:=by
   unfold yXb toS;grind
  rw[hc];by_cases hp:p.nm=n
  ·rw[if_pos hp,if_pos hp];have:yXb (toS ps) n=none:=by
    cases hl:yXb (toS ps) n with
    | none=>rfl
    | some u =>
     have:=zYs hl;unfold toS at this;grind
   rw[this]
  ·grind
theorem HSz0 {ps:List Pc}(h:(ps.map Pc.nm).Nodup)(n:ByteArray):HSz ps (λ_=>0) (yXb (toS ps)) n:=by
 unfold HSz;rw[if_pos rfl,zKg ps _ n h];cases yXb (toS ps) n<;>rfl
theorem vQp {ps:List Pc}(h:(ps.map Pc.nm).Nodup){f:Fm}(hf:f.ok=true):fsz ps (λ_=>0) f=((yYi (toS ps) f).size,(yYi (toS ps) f).deep) :=
 xJ6 ps f (toS ps) _ hf (λn _=>HSz0 h n)
theorem yUn:∀(k u:Nat),u<10 ^ (k+1)->Lib.nDigits u<=k+1
 | 0,u,h=>by rw[Lib.nDigits_small (by simpa using h)];omega
 | k+1,u,h=>by
  by_cases hu:u<10
  ·rw[Lib.nDigits_small hu];omega
  ·rw[Lib.nDigits_big hu];have:=yUn k (u / 10) (by rw[Nat.pow_succ] at h;omega);omega
mutual
theorem zK9:∀t:Tm,(yZ2 t).length<=t.size
 | .mk true n l=>by have:=yVi l;simp only[yZ2,List.length_cons,Tm.size];omega
 | .mk false n l=>by have:=yVi l;simp only[yZ2,Tm.size];omega
theorem yVi:∀l:List Tm,(yQq l).length<=yQg l
 | []=>Nat.le_refl _
 | a::l=>by have:=zK9 a;have:=yVi l;simp only[yQq,lLa,yQg];omega
end
mutual
theorem wKb:∀f:Fm,(frF f).length<=f.size
 | .mk op m us sub=>by
  have h1:=yVi us;have h2:=xQs sub;simp only[frF,lLa,Fm.size];grind
theorem xQs:∀l:List Fm,(frFs l).length<=yQb l
 | []=>Nat.le_refl _
 | a::l=>by have:=wKb a;have:=xQs l;simp only[frFs,lLa,yQb];omega
end
def wS:Sb->Nat
 | []=>0
 | p::l=>p.2.size+wS l
theorem zWw:∀l m:Sb,wS (l++m)=wS l+wS m
 | [],m=>by simp[wS]
 | a::l,m=>by simp only[List.cons_append,wS,zWw l m];omega
theorem yG4 (q:ByteArray×Tm->Bool):∀l:Sb,wS (l.filter q)<=wS l
 | []=>Nat.le_refl _
 | a::l=>by
  have:=yG4 q l;rw[List.filter_cons];split
  ·simp only[wS];omega
  ·simp only[wS];omega
theorem xUc:∀l:Sb,(l.flatMap λp=>yZ2 p.2).length<=wS l
 | []=>Nat.le_refl _
 | a::l=>by
  have:=xUc l;have:=zK9 a.2;simp only[List.flatMap_cons,lLa,wS];omega
theorem wQw (ps:Sb)(m:ByteArray)(fr:List ByteArray):(yGd ps m fr).length<=fr.length+wS ps:=by
 have:=xUc (cntS ps m fr);have:=yG4 (λp=>memB fr p.1&&!decide (p.1=m)) ps;unfold yGd cntS at *;grind
theorem wQr (ps:Sb)(m:ByteArray)(fr:List ByteArray):wS (yJx ps m fr).2<=wS ps+1:=by
 have:=yG4 (λp=>memB fr p.1&&!decide (p.1=m)) ps;unfold yJx cntS;split
 ·simp only[zWw,wS,Tm.size,yQg];omega
 ·grind
end Go.Proofs.Tryz
namespace Go.Proofs.Tryz
open Go Go.Iv
noncomputable def zJ1 (f g:Fm):Bool:=f.right&&g.right&&eqB (dbF [] f) (dbF [] g)
theorem xXg {e:List ByteArray}{n:ByteArray}{l:Nat}(h:e.length<=l):yK4 e n≠.bv l:=by
 unfold yK4;split
 ·rename_i i hi;have:=xXi hi;grind
 ·grind
theorem xKq {ls rs:List ByteArray}{l r n n':ByteArray}(hlen:ls.length=rs.length):yK4 (l::ls) n=yK4 (r::rs) n'↔(if n=l\/n'=r then n=l/\n'=r else yK4 ls n=yK4 rs n'):=by
 rw[zKb,zKb];by_cases h1:n=l
 ·by_cases h2:n'=r
  ·grind
  ·simp only[h1,h2,if_true,true_or,and_false,iff_false,if_false];exact λh=>xXg (Nat.le_of_eq hlen.symm) h.symm
 ·by_cases h2:n'=r
  ·simp only[h1,h2,if_true,or_true,false_and,iff_false,if_false];exact λh=>xXg (Nat.le_of_eq hlen) h
  ·simp[h1,h2]
theorem xXh {e:List ByteArray}{n m:ByteArray}{l:List NlT}:yK4 e n≠.ap m l:=by
 unfold yK4;split<;>intro h<;>cases h
theorem xG1 {n:ByteArray}:yK4 [] n=.fv n:=rfl
abbrev Ar:=List (ByteArray×ByteArray)
theorem zQw {f:Fm}(h:f.right=true):f.ok=true/\f.size<=400/\f.deep<=40:=by
 simp only[Fm.right,bAt,dTe] at h;exact⟨h.1.1,h.1.2,h.2⟩
