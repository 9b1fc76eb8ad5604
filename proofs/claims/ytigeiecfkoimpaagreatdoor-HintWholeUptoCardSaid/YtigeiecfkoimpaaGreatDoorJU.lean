/- Putting, renaming, normal forms: plain d -/
import Derived.Test.YtigeiecfkoimpaaGreatDoorJT
import Derived.Lib.ItoaNum
set_option linter.all false
namespace Go.Proofs.Tryz
open Go Go.Iv
def iB (k:Nat):ByteArray:=⟨(120::Lib.decDigits k).toArray⟩
def valD (l:List UInt8):Nat:=l.foldl (λa d=>a*10+(d.toNat-48)) 0
def C1 (u:Nat):valD (Lib.decDigits u)=u:=by
 induction u using Nat.strongRecOn with
 | _ u D =>
  rw[Lib.decDigits];by_cases h:u<10
  ·rw[dif_pos h];simp only[valD,jH,List.foldl_nil,ji];omega
  ·rw[dif_neg h];have:=D (u / 10) (by omega);simp only[valD,List.foldl_append,jH,List.foldl_nil,ji] at this ⊢;grind
def K0 {a b:Nat}(h:iB a=iB b):a=b:=by
 have h1:(120::Lib.decDigits a)=(120::Lib.decDigits b):=by
  have:=dZ (λx:ByteArray=>x.data.toList) h;simpa[iB] using this
 have h2:Lib.decDigits a=Lib.decDigits b:=by injection h1
 rw[<- C1 a,h2,C1 b]
def xK {α:Type} [DecidableEq α]:∀(a b:List α),a.Nodup->(∀x∈a,x∈b)->a.length<=b.length
 | [],b,_,_=>ed _
 | x::a,b,G,hs=>by
  have J:=hs x (List.mem_cons_self ..);have D:=gN.1 G;have:=xK a (b.erase x) D.2 (λy E=>(List.mem_erase_of_ne (by rintro rfl;exact D.1 E)).2 (hs y (List.mem_cons_of_mem _ E)));grind
def K1 (l:List ByteArray):∃k,1<=k/\k<=l.length+1/\iB k ∉ l:=by
 refine gM λE=>?_;have D:∀k,1<=k->k<=l.length+1->iB k∈l:=λk h1 h2=>gM λh=>E ⟨k,h1,h2,h⟩;have:=xK ((List.range' 1 (l.length+1)).map iB) l (by
   unfold List.Nodup;rw[kD];exact List.Pairwise.imp (λh O=>h (K0 O)) (List.nodup_range' (s:=1) (n:=l.length+1))) (λx G=>by
   obtain⟨k,J,rfl⟩:=dH.1 G;have:=List.mem_range'_1.1 J;exact D k (by omega) (by omega))
 grind
noncomputable def lU (l:List ByteArray):Nat:=Iv.least (λk=>1<=k/\iB k ∉ l)
def xL (l:List ByteArray):1<=lU l/\lU l<=l.length+1/\iB (lU l) ∉ l/\∀j,1<=j->j<lU l->iB j∈l:=by
 obtain⟨k,h1,h2,E⟩:=K1 l;have hs:=Iv.least_spec (p:=λk=>1<=k/\iB k ∉ l) ⟨k,h1,E⟩;refine⟨hs.1.1,dN (hs.2 k ⟨h1,E⟩) h2,hs.1.2,λj J D=>gM λG=>?_⟩;have:=hs.2 j ⟨J,G⟩;unfold lU at D;omega
def K2 {l:List ByteArray}{k:Nat}(h1:1<=k)(h2:iB k ∉ l)(D:∀j,1<=j->j<k->iB j∈l):lU l=k:=by
 obtain⟨E,a2,a3,a4⟩:=xL l;grind
def K3 {l m:List ByteArray}(h:∀x,x∈l↔x∈m):lU l=lU m:=by
 obtain⟨J,a2,a3,a4⟩:=xL m;exact K2 J (λE=>a3 ((h _).1 E)) (λj G D=>(h _).2 (a4 j G D))
noncomputable def iH (l:List ByteArray):ByteArray:=iB (lU l)
def K4 {l m:List ByteArray}(h:∀x,x∈l↔x∈m):iH l=iH m:=by unfold iH;rw[K3 h]
def memB (l:List ByteArray)(n:ByteArray):Bool:=l.any λx=>decide (x=n)
@[simp] def yJb {l:List ByteArray}{n:ByteArray}:memB l n=true↔n∈l:=by
 simp[memB]
@[simp] def zJi {l:List ByteArray}{n:ByteArray}:memB l n=false↔n ∉ l:=by
 rw[<- Bool.not_eq_true,yJb]
mutual
def frF:Fm->List ByteArray
 | .mk op m us sub=>fI us++(if isQ op then (frFs sub).filter (λn=>!decide (n=m)) else frFs sub)
def frFs:List Fm->List ByteArray
 | []=>[]
 | a::l=>frF a++frFs l
end
def K5 (b:ByteArray->Nat)(m:ByteArray)(l:List ByteArray):gG (incB b m) l=gG b (l.filter (λn=>!decide (n=m))):=by
 unfold gG;rw[List.filter_filter];refine List.filter_congr λn _=>?_;unfold incB;grind
mutual
def C2:∀(f:Fm)(b:ByteArray->Nat),mR b f=gG b (frF f)
 | .mk op m us sub,b=>by
  simp only[mR,frF,nP];rw[C3 sub];split
  ·rw[K5]
  ·rfl
def C3:∀(l:List Fm)(b:ByteArray->Nat),iu b l=gG b (frFs l)
 | [],b=>by simp[iu,frFs,gG]
 | a::l,b=>by simp only[iu,frFs,nP,C2 a b,C3 l b]
end
def ux (f:Fm):oI f=frF f:=by
 unfold oI;rw[C2];unfold gG;rw[List.filter_eq_self];intro a _;rfl
abbrev Sb:=List (ByteArray×Tm)
def fL (l:Sb)(n:ByteArray):Option Tm:=(l.find? λp=>decide (p.1=n)).map (·.2)
def cntS (ps:Sb)(m:ByteArray)(fr:List ByteArray):Sb:=ps.filter λp=>memB fr p.1&&!decide (p.1=m)
def rL (ps:Sb)(m:ByteArray)(fr:List ByteArray):Bool:=(cntS ps m fr).any λp=>memB (fP p.2) m
def mU (ps:Sb)(m:ByteArray)(fr:List ByteArray):List ByteArray:=fr++(cntS ps m fr).flatMap λp=>fP p.2
noncomputable def jR (ps:Sb)(m:ByteArray)(fr:List ByteArray):ByteArray×Sb :=
 if rL ps m fr then (iH (mU ps m fr),cntS ps m fr++[(m,.mk true (iH (mU ps m fr)) [])]) else (m,cntS ps m fr)
mutual
noncomputable def jz:Sb->Fm->Fm
 | ps,.mk op m us sub=>.mk op (if isQ op then (jR ps m (frFs sub)).1 else m) (gr (fL ps) us) (jA (if isQ op then (jR ps m (frFs sub)).2 else ps) sub)
noncomputable def jA:Sb->List Fm->List Fm
 | _,[]=>[]
 | ps,a::l=>jz ps a::jA ps l
end
def xM (ps:Sb):∀l m:List Fm,jA ps (l++m)=jA ps l++jA ps m
 | [],m=>by simp[jA]
 | a::l,m=>by simp only[eu,jA,xM ps l m]
def rM (ps:Sb):∀l:List Fm,(jA ps l).length=l.length
 | []=>rfl
 | a::l=>by simp only[jA,dX,rM ps l]
inductive NlT where
 | bv (i:Nat)
 | fv (n:ByteArray)
 | ap (n:ByteArray) (l:List NlT)
inductive NlF where
 | mk (op:Nat) (n:ByteArray) (us:List NlT) (sub:List NlF)
def rN:List ByteArray->ByteArray->Option Nat
 | [],_=>none
 | m::e,n=>if n=m then some e.length else rN e n
def ig (env:List ByteArray)(n:ByteArray):NlT:=match rN env n with|some i=>.bv i|none=>.fv n
mutual
def db (env:List ByteArray):Tm->NlT
 | .mk true n _=>ig env n
 | .mk false n l=>.ap n (dbs env l)
def dbs (env:List ByteArray):List Tm->List NlT
 | []=>[]
 | a::l=>db env a::dbs env l
end
mutual
def dbF:List ByteArray->Fm->NlF
 | env,.mk op m us sub=>.mk op (if isQ op then ⟨#[]⟩ else m) (dbs env us) (dbFs (if isQ op then m::env else env) sub)
def dbFs:List ByteArray->List Fm->List NlF
 | _,[]=>[]
 | env,a::l=>dbF env a::dbFs env l
end
def C4:∀ {e:List ByteArray}{n:ByteArray}{i:Nat},rN e n=some i->i<e.length
 | [],n,i,h=>by cases h
 | m::e,n,i,h=>by
  simp only[rN] at h;split at h
  ·cases h;simp
  ·have:=C4 h;simp only[dX];omega
def C5 {e:List ByteArray}{m n:ByteArray}:ig (m::e) n=if n=m then .bv e.length else ig e n:=by
 unfold ig;simp only[rN];grind
def uy {n:ByteArray}{l:List Tm}(h:(Tm.mk true n l).ok=true):l=[]:=by
 simp only[Tm.ok,bAt,List.isEmpty_iff] at h;exact h.1
def uz {n:ByteArray}{l:List Tm}(h:(Tm.mk false n l).ok=true):jq l=true:=by
 simp only[Tm.ok,bAt] at h;exact h.2
def pU {a:Tm}{l:List Tm}(h:jq (a::l)=true):a.ok=true/\jq l=true:=by
 simpa only[jq,bAt] using h
def pV {a:Fm}{l:List Fm}(h:iU (a::l)=true):a.ok=true/\iU l=true:=by
 simpa only[iU,bAt] using h
def rO {op:Nat}{m:ByteArray}{us:List Tm}{sub:List Fm}(h:(Fm.mk op m us sub).ok=true):jq us=true/\iU sub=true/\gB op m us.length sub.length=true:=by
 simp only[Fm.ok,bAt] at h;exact⟨h.1.2,h.2,h.1.1⟩
def K6 {ps:Sb}{q:ByteArray×Tm->Bool}{n:ByteArray}(h:∀u,q (n,u)=true):fL (ps.filter q) n=fL ps n:=by
 unfold fL;grind
def K7 {ps:Sb}{q:ByteArray×Tm->Bool}{n:ByteArray}(h:∀u,q (n,u)=false):fL (ps.filter q) n=none:=by
 unfold fL;grind
def C6 (ps D:Sb)(n:ByteArray):fL (ps++D) n=(fL ps n).or (fL D n):=by
 unfold fL;grind
def C7 {ps:Sb}{m n:ByteArray}{fr:List ByteArray}(D:n∈fr)(E:n≠m):fL (cntS ps m fr) n=fL ps n :=
 K6 λu=>by simp[D,E]
def C8 {ps:Sb}{m:ByteArray}{fr:List ByteArray}:fL (cntS ps m fr) m=none :=
 K7 λu=>by simp
def C9 {ps:Sb}{n:ByteArray}{u:Tm}(h:fL ps n=some u):(n,u)∈ps:=by
 unfold fL at h;rw[fp] at h;grind
def K8 {ps:Sb}{m:ByteArray}{fr:List ByteArray}{n:ByteArray}(E:n∈fr) :
  fL (jR ps m fr).2 n=if n=m then (if rL ps m fr then some (.mk true (jR ps m fr).1 []) else none) else fL ps n:=by
 unfold jR;by_cases D:n=m
 ·subst D;rw[cX rfl];split
  ·simp only[C6,C8];simp[fL]
  ·exact C8
 ·rw[a_ D];split
  ·simp only[C6,C7 E D];have:fL [(m,Tm.mk true (iH (mU ps m fr)) [])] n=none:=by simp[fL,Ne.symm D]
   rw[this];simp
  ·exact C7 E D
section
variable (ps:List Pc)
def HSz (b:ByteArray->Nat)(F:ByteArray->Option Tm)(n:ByteArray):Prop :=
 (if b n=0 then kU ps n (1,1) else (1,1))=(((F n).getD (.mk true n [])).size,((F n).getD (.mk true n [])).deep)
mutual
def K9 (b:ByteArray->Nat)(F:ByteArray->Option Tm):∀t:Tm,t.ok=true->(∀n∈fP t,HSz ps b F n)->psz ps b t=((iV F t).size,(iV F t).deep)
 | .mk true n l,h,D=>by
  obtain rfl:=uy h;have h1:=D n (by simp[fP]);unfold HSz at h1;simp only[psz,pszs,true_and,iV];rw[h1];cases F n with
  | none=>rfl
  | some u=>rfl
 | .mk false n l,h,D=>by
  have:=xN b F l (uz h) (λn E=>D n (by simpa[fP] using E));simp only[psz,bFt,false_and,dE,iV,Tm.size,Tm.deep,this]
def xN (b:ByteArray->Nat)(F:ByteArray->Option Tm):∀l:List Tm,jq l=true->(∀n∈fI l,HSz ps b F n)->pszs ps b l=(el (gr F l),fB (gr F l))
 | [],_,_=>rfl
 | a::l,h,E=>by
  simp only[pszs,gr,el,fB,K9 b F a (pU h).1 (λn D=>E n (by simp[fI,D])),xN b F l (pU h).2 (λn D=>E n (by simp[fI,D]))]
end
def K_ {b:ByteArray->Nat}{E:Sb}{m:ByteArray}{fr:List ByteArray}{n:ByteArray}(G:n∈fr)(h:n≠m->HSz ps b (fL E) n):HSz ps (incB b m) (fL (jR E m fr).2) n:=by
 unfold HSz at h ⊢;rw[K8 G];by_cases D:n=m
 ·subst D;simp only[incB,dJ];rw[a_ (by omega)];split<;>rfl
 ·simp only[incB,a_ D];exact h D
mutual
def C_:∀(f:Fm)(D:Sb)(b:ByteArray->Nat),f.ok=true->(∀n∈frF f,HSz ps b (fL D) n)->fsz ps b f=((jz D f).size,(jz D f).deep)
 | .mk op m us sub,D,b,G,h=>by
  obtain⟨h1,h2,_⟩:=rO G;simp only[frF] at h;simp only[fsz,jz,Fm.size,Fm.deep,xN ps b (fL D) us h1 (λn E=>h n (by simp[E]))];by_cases J:isQ op=true
  ·simp only[J,dJ] at h ⊢;rw[xO sub _ _ h2 (λn E=>K_ ps E (λO=>h n (by simp[E,O])))]
  ·simp only[J,bFt,dE] at h ⊢;rw[xO sub D b h2 (λn E=>h n (by simp[E]))]
def xO:∀(l:List Fm)(D:Sb)(b:ByteArray->Nat),iU l=true->(∀n∈frFs l,HSz ps b (fL D) n)->fszs ps b l=(dV (jA D l),fX (jA D l))
 | [],_,_,_,_=>rfl
 | a::l,D,b,E,h=>by
  simp only[frFs] at h;simp only[fszs,jA,dV,fX,C_ a D b (pV E).1 (λn G=>h n (by simp[G])),xO l D b (pV E).2 (λn G=>h n (by simp[G]))]
end
end
def toS (ps:List Pc):Sb:=ps.map λp=>(p.nm,p.tm)
def La (ps:List Pc):putF ps=fL (toS ps):=by
 funext n;unfold putF fL toS;rw[List.find?_map];simp only[Option.map_map];rfl
def Da:∀(ps:List Pc)(z:Nat×Nat)(n:ByteArray),(ps.map Pc.nm).Nodup->kU ps n z=match fL (toS ps) n with|some u=>(u.size,u.deep)|none=>z
 | [],z,n,_=>rfl
 | p::ps,z,n,h=>by
  simp only[ec,gN] at h;have D:=Da ps (if p.nm=n then (p.tm.size,p.tm.deep) else z) n h.2;have h0:kU (p::ps) n z=kU ps n (if p.nm=n then (p.tm.size,p.tm.deep) else z):=rfl;rw[h0,D];have hc:fL (toS (p::ps)) n=if p.nm=n then some p.tm else fL (toS ps) n:=by
   unfold fL toS;grind
  rw[hc];by_cases hp:p.nm=n
  ·rw[cX hp,cX hp];have:fL (toS ps) n=none:=by
    cases hl:fL (toS ps) n with
    | none=>rfl
    | some u =>
     have:=C9 hl;unfold toS at this;grind
   rw[this]
  ·grind
def HSz0 {ps:List Pc}(h:(ps.map Pc.nm).Nodup)(n:ByteArray):HSz ps (λ_=>0) (fL (toS ps)) n:=by
 unfold HSz;rw[cX rfl,Da ps _ n h];cases fL (toS ps) n<;>rfl
def Lb {ps:List Pc}(h:(ps.map Pc.nm).Nodup){f:Fm}(D:f.ok=true):fsz ps (λ_=>0) f=((jz (toS ps) f).size,(jz (toS ps) f).deep) :=
 C_ ps f (toS ps) _ D (λn _=>HSz0 h n)
def xP:∀(k u:Nat),u<10 ^ (k+1)->Lib.nDigits u<=k+1
 | 0,u,h=>by rw[Lib.nDigits_small (by simpa using h)];omega
 | k+1,u,h=>by
  by_cases D:u<10
  ·rw[Lib.nDigits_small D];omega
  ·rw[Lib.nDigits_big D];have:=xP k (u / 10) (by rw[Nat.pow_succ] at h;omega);omega
mutual
def Db:∀t:Tm,(fP t).length<=t.size
 | .mk true n l=>by have:=uA l;simp only[fP,dX,Tm.size];omega
 | .mk false n l=>by have:=uA l;simp only[fP,Tm.size];omega
def uA:∀l:List Tm,(fI l).length<=el l
 | []=>dG _
 | a::l=>by have:=Db a;have:=uA l;simp only[fI,lLa,el];omega
end
mutual
def uB:∀f:Fm,(frF f).length<=f.size
 | .mk op m us sub=>by
  have h1:=uA us;have h2:=xQ sub;simp only[frF,lLa,Fm.size];grind
def xQ:∀l:List Fm,(frFs l).length<=dV l
 | []=>dG _
 | a::l=>by have:=uB a;have:=xQ l;simp only[frFs,lLa,dV];omega
end
def wS:Sb->Nat
 | []=>0
 | p::l=>p.2.size+wS l
def Dc:∀l m:Sb,wS (l++m)=wS l+wS m
 | [],m=>by simp[wS]
 | a::l,m=>by simp only[eu,wS,Dc l m];omega
def uC (q:ByteArray×Tm->Bool):∀l:Sb,wS (l.filter q)<=wS l
 | []=>dG _
 | a::l=>by
  have:=uC q l;rw[kn];split
  ·simp only[wS];omega
  ·simp only[wS];omega
def Dd:∀l:Sb,(l.flatMap λp=>fP p.2).length<=wS l
 | []=>dG _
 | a::l=>by
  have:=Dd l;have:=Db a.2;simp only[eo,lLa,wS];omega
def Lc (ps:Sb)(m:ByteArray)(fr:List ByteArray):(mU ps m fr).length<=fr.length+wS ps:=by
 have:=Dd (cntS ps m fr);have:=uC (λp=>memB fr p.1&&!decide (p.1=m)) ps;unfold mU cntS at *;grind
def Ld (ps:Sb)(m:ByteArray)(fr:List ByteArray):wS (jR ps m fr).2<=wS ps+1:=by
 have:=uC (λp=>memB fr p.1&&!decide (p.1=m)) ps;unfold jR cntS;split
 ·simp only[Dc,wS,Tm.size,el];omega
 ·grind
noncomputable def mn (f g:Fm):Bool:=f.right&&g.right&&eqB (dbF [] f) (dbF [] g)
def De {e:List ByteArray}{n:ByteArray}{l:Nat}(h:e.length<=l):ig e n≠.bv l:=by
 unfold ig;split
 ·rename_i i D;have:=C4 D;grind
 ·grind
def Le {ls rs:List ByteArray}{l r n E:ByteArray}(D:ls.length=rs.length):ig (l::ls) n=ig (r::rs) E↔(if n=l\/E=r then n=l/\E=r else ig ls n=ig rs E):=by
 rw[C5,C5];by_cases h1:n=l
 ·by_cases h2:E=r
  ·grind
  ·simp only[h1,h2,dJ,true_or,and_false,iff_false,dE];exact λh=>De (Nat.le_of_eq D.symm) h.symm
 ·by_cases h2:E=r
  ·simp only[h1,h2,dJ,or_true,false_and,iff_false,dE];exact λh=>De (Nat.le_of_eq D) h
  ·simp[h1,h2]
def Df {e:List ByteArray}{n m:ByteArray}{l:List NlT}:ig e n≠.ap m l:=by
 unfold ig;split<;>intro h<;>cases h
def Lf {n:ByteArray}:ig [] n=.fv n:=rfl
abbrev Ar:=List (ByteArray×ByteArray)
def renF (ar:Ar)(n:ByteArray):Option Tm:=(ar.find? λp=>decide (p.1=n)).map λp=>.mk true p.2 []
mutual
noncomputable def mo (D:List ByteArray):Ar->Fm->Fm
 | ar,.mk op m us sub=>.mk op (if isQ op then iH (D++ar.map (·.2)) else m) (gr (renF ar) us) (jS D (if isQ op then (m,iH (D++ar.map (·.2)))::ar else ar) sub)
noncomputable def jS (D:List ByteArray):Ar->List Fm->List Fm
 | _,[]=>[]
 | ar,a::l=>mo D ar a::jS D ar l
end
def Dg (D:List ByteArray)(ar:Ar):∀l m:List Fm,jS D ar (l++m)=jS D ar l++jS D ar m
 | [],m=>by simp[jS]
 | a::l,m=>by simp only[eu,jS,Dg D ar l m]
def xR (D:List ByteArray)(ar:Ar):∀l:List Fm,(jS D ar l).length=l.length
 | []=>rfl
 | a::l=>by simp only[jS,dX,xR D ar l]
noncomputable def lV (f:Fm):Fm:=mo (frF f) [] f
def Lg {ar:Ar}{n:ByteArray}{u:Tm}(h:renF ar n=some u):u.size=1/\u.deep=1:=by
 unfold renF at h;rw[fp] at h;obtain⟨p,_,rfl⟩:=h;exact⟨rfl,rfl⟩
def mV {f:Fm}(h:f.right=true):f.ok=true/\f.size<=400/\f.deep<=40:=by
 simp only[Fm.right,bAt,dTe] at h;exact⟨h.1.1,h.1.2,h.2⟩
