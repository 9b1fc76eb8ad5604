/- Putting, renaming, normal forms: plain d -/
import Derived.Test.YtakbihknkdpmgaaGreatDoorJT
import Derived.Lib.ItoaNum
set_option linter.all false
namespace Go.Proofs.Tryz
open Go Go.Iv
def ig (k:Nat):ByteArray:=⟨(120::Lib.decDigits k).toArray⟩
def valD (l:List UInt8):Nat:=l.foldl (λa d=>a*10+(d.toNat-48)) 0
def CM (u:Nat):valD (Lib.decDigits u)=u:=by
 induction u using Nat.strongRecOn with
 | _ u A =>
  rw[Lib.decDigits];by_cases h:u<10
  ·rw[dif_pos h];simp only[valD,jB,List.foldl_nil,i_];omega
  ·rw[dif_neg h];have:=A (u / 10) (by omega);simp only[valD,List.foldl_append,jB,List.foldl_nil,i_] at this ⊢;grind
def KQ {a b:Nat}(h:ig a=ig b):a=b:=by
 have h1:(120::Lib.decDigits a)=(120::Lib.decDigits b):=by
  have:=dX (λx:ByteArray=>x.data.toList) h;simpa[ig] using this
 have h2:Lib.decDigits a=Lib.decDigits b:=by injection h1
 rw[<- CM a,h2,CM b]
def xq {α:Type} [DecidableEq α]:∀(a b:List α),a.Nodup->(∀x∈a,x∈b)->a.length<=b.length
 | [],b,_,_=>fq _
 | x::a,b,E,hs=>by
  have G:=hs x (List.mem_cons_self ..);have A:=hY.1 E;have:=xq a (b.erase x) A.2 (λy D=>(List.mem_erase_of_ne (by rintro rfl;exact A.1 D)).2 (hs y (List.mem_cons_of_mem _ D)));grind
def KR (l:List ByteArray):∃k,1<=k/\k<=l.length+1/\ig k ∉ l:=by
 refine jv λD=>?_;have A:∀k,1<=k->k<=l.length+1->ig k∈l:=λk h1 h2=>jv λh=>D ⟨k,h1,h2,h⟩;have:=xq ((List.range' 1 (l.length+1)).map ig) l (by
   unfold List.Nodup;rw[km];exact List.Pairwise.imp (λh J=>h (KQ J)) (List.nodup_range' (s:=1) (n:=l.length+1))) (λx E=>by
   obtain⟨k,G,rfl⟩:=dH.1 E;have:=List.mem_range'_1.1 G;exact A k (by omega) (by omega))
 grind
noncomputable def lL (l:List ByteArray):Nat:=Iv.least (λk=>1<=k/\ig k ∉ l)
def xx (l:List ByteArray):1<=lL l/\lL l<=l.length+1/\ig (lL l) ∉ l/\∀j,1<=j->j<lL l->ig j∈l:=by
 obtain⟨k,h1,h2,D⟩:=KR l;have hs:=Iv.least_spec (p:=λk=>1<=k/\ig k ∉ l) ⟨k,h1,D⟩;refine⟨hs.1.1,dT (hs.2 k ⟨h1,D⟩) h2,hs.1.2,λj G A=>jv λE=>?_⟩;have:=hs.2 j ⟨G,E⟩;unfold lL at A;omega
def KS {l:List ByteArray}{k:Nat}(h1:1<=k)(h2:ig k ∉ l)(A:∀j,1<=j->j<k->ig j∈l):lL l=k:=by
 obtain⟨D,a2,a3,a4⟩:=xx l;grind
def KT {l m:List ByteArray}(h:∀x,x∈l↔x∈m):lL l=lL m:=by
 obtain⟨G,a2,a3,a4⟩:=xx m;exact KS G (λD=>a3 ((h _).1 D)) (λj E A=>(h _).2 (a4 j E A))
noncomputable def iA (l:List ByteArray):ByteArray:=ig (lL l)
def KU {l m:List ByteArray}(h:∀x,x∈l↔x∈m):iA l=iA m:=by unfold iA;rw[KT h]
def memB (l:List ByteArray)(n:ByteArray):Bool:=l.any λx=>decide (x=n)
@[simp] def yJj {l:List ByteArray}{n:ByteArray}:memB l n=true↔n∈l:=by
 simp[memB]
@[simp] def zJn {l:List ByteArray}{n:ByteArray}:memB l n=false↔n ∉ l:=by
 rw[<- Bool.not_eq_true,yJj]
mutual
def frF:Fm->List ByteArray
 | .mk op m us sub=>fC us++(if isQ op then (frFs sub).filter (λn=>!decide (n=m)) else frFs sub)
def frFs:List Fm->List ByteArray
 | []=>[]
 | a::l=>frF a++frFs l
end
def KV (b:ByteArray->Nat)(m:ByteArray)(l:List ByteArray):gB (incB b m) l=gB b (l.filter (λn=>!decide (n=m))):=by
 unfold gB;rw[List.filter_filter];refine List.filter_congr λn _=>?_;unfold incB;grind
mutual
def CO:∀(f:Fm)(b:ByteArray->Nat),mM b f=gB b (frF f)
 | .mk op m us sub,b=>by
  simp only[mM,frF,nK];rw[CQ sub];split
  ·rw[KV]
  ·rfl
def CQ:∀(l:List Fm)(b:ByteArray->Nat),gY b l=gB b (frFs l)
 | [],b=>by simp[gY,frFs,gB]
 | a::l,b=>by simp only[gY,frFs,nK,CO a b,CQ l b]
end
def uh (f:Fm):oC f=frF f:=by
 unfold oC;rw[CO];unfold gB;rw[List.filter_eq_self];intro a _;rfl
abbrev Sb:=List (ByteArray×Tm)
def fG (l:Sb)(n:ByteArray):Option Tm:=(l.find? λp=>decide (p.1=n)).map (·.2)
def cntS (ps:Sb)(m:ByteArray)(fr:List ByteArray):Sb:=ps.filter λp=>memB fr p.1&&!decide (p.1=m)
def rD (ps:Sb)(m:ByteArray)(fr:List ByteArray):Bool:=(cntS ps m fr).any λp=>memB (fK p.2) m
def mP (ps:Sb)(m:ByteArray)(fr:List ByteArray):List ByteArray:=fr++(cntS ps m fr).flatMap λp=>fK p.2
noncomputable def jL (ps:Sb)(m:ByteArray)(fr:List ByteArray):ByteArray×Sb :=
 if rD ps m fr then (iA (mP ps m fr),cntS ps m fr++[(m,.mk true (iA (mP ps m fr)) [])]) else (m,cntS ps m fr)
mutual
noncomputable def js:Sb->Fm->Fm
 | ps,.mk op m us sub=>.mk op (if isQ op then (jL ps m (frFs sub)).1 else m) (gk (fG ps) us) (jt (if isQ op then (jL ps m (frFs sub)).2 else ps) sub)
noncomputable def jt:Sb->List Fm->List Fm
 | _,[]=>[]
 | ps,a::l=>js ps a::jt ps l
end
def xy (ps:Sb):∀l m:List Fm,jt ps (l++m)=jt ps l++jt ps m
 | [],m=>by simp[jt]
 | a::l,m=>by simp only[ed,jt,xy ps l m]
def rE (ps:Sb):∀l:List Fm,(jt ps l).length=l.length
 | []=>rfl
 | a::l=>by simp only[jt,dV,rE ps l]
inductive NlT where
 | bv (i:Nat)
 | fv (n:ByteArray)
 | ap (n:ByteArray) (l:List NlT)
inductive NlF where
 | mk (op:Nat) (n:ByteArray) (us:List NlT) (sub:List NlF)
def rF:List ByteArray->ByteArray->Option Nat
 | [],_=>none
 | m::e,n=>if n=m then some e.length else rF e n
def gP (env:List ByteArray)(n:ByteArray):NlT:=match rF env n with|some i=>.bv i|none=>.fv n
mutual
def db (env:List ByteArray):Tm->NlT
 | .mk true n _=>gP env n
 | .mk false n l=>.ap n (dbs env l)
def dbs (env:List ByteArray):List Tm->List NlT
 | []=>[]
 | a::l=>db env a::dbs env l
end
mutual
def dbF:List ByteArray->Fm->NlF
 | env,.mk op m us sub=>.mk op (if isQ op then ⟨#[]⟩ else m) (dbs env us) (dbFs (if isQ op then m::env else env) sub)
def dbFs:List ByteArray->List Fm->List NlF
 | _,[]=>[]
 | env,a::l=>dbF env a::dbFs env l
end
def CR:∀ {e:List ByteArray}{n:ByteArray}{i:Nat},rF e n=some i->i<e.length
 | [],n,i,h=>by cases h
 | m::e,n,i,h=>by
  simp only[rF] at h;split at h
  ·cases h;simp
  ·have:=CR h;simp only[dV];omega
def CS {e:List ByteArray}{m n:ByteArray}:gP (m::e) n=if n=m then .bv e.length else gP e n:=by
 unfold gP;simp only[rF];grind
def ui {n:ByteArray}{l:List Tm}(h:(Tm.mk true n l).ok=true):l=[]:=by
 simp only[Tm.ok,bAt,List.isEmpty_iff] at h;exact h.1
def uj {n:ByteArray}{l:List Tm}(h:(Tm.mk false n l).ok=true):jf l=true:=by
 simp only[Tm.ok,bAt] at h;exact h.2
def pN {a:Tm}{l:List Tm}(h:jf (a::l)=true):a.ok=true/\jf l=true:=by
 simpa only[jf,bAt] using h
def pO {a:Fm}{l:List Fm}(h:gj (a::l)=true):a.ok=true/\gj l=true:=by
 simpa only[gj,bAt] using h
def rG {op:Nat}{m:ByteArray}{us:List Tm}{sub:List Fm}(h:(Fm.mk op m us sub).ok=true):jf us=true/\gj sub=true/\fV op m us.length sub.length=true:=by
 simp only[Fm.ok,bAt] at h;exact⟨h.1.2,h.2,h.1.1⟩
def KW {ps:Sb}{q:ByteArray×Tm->Bool}{n:ByteArray}(h:∀u,q (n,u)=true):fG (ps.filter q) n=fG ps n:=by
 unfold fG;grind
def KX {ps:Sb}{q:ByteArray×Tm->Bool}{n:ByteArray}(h:∀u,q (n,u)=false):fG (ps.filter q) n=none:=by
 unfold fG;grind
def CT (ps A:Sb)(n:ByteArray):fG (ps++A) n=(fG ps n).or (fG A n):=by
 unfold fG;grind
def CU {ps:Sb}{m n:ByteArray}{fr:List ByteArray}(A:n∈fr)(D:n≠m):fG (cntS ps m fr) n=fG ps n :=
 KW λu=>by simp[A,D]
def CV {ps:Sb}{m:ByteArray}{fr:List ByteArray}:fG (cntS ps m fr) m=none :=
 KX λu=>by simp
def CW {ps:Sb}{n:ByteArray}{u:Tm}(h:fG ps n=some u):(n,u)∈ps:=by
 unfold fG at h;rw[fb] at h;grind
def KY {ps:Sb}{m:ByteArray}{fr:List ByteArray}{n:ByteArray}(D:n∈fr) :
  fG (jL ps m fr).2 n=if n=m then (if rD ps m fr then some (.mk true (jL ps m fr).1 []) else none) else fG ps n:=by
 unfold jL;by_cases A:n=m
 ·subst A;rw[cV rfl];split
  ·simp only[CT,CV];simp[fG]
  ·exact CV
 ·rw[a_ A];split
  ·simp only[CT,CU D A];have:fG [(m,Tm.mk true (iA (mP ps m fr)) [])] n=none:=by simp[fG,Ne.symm A]
   rw[this];simp
  ·exact CU D A
section
variable (ps:List Pc)
def HSz (b:ByteArray->Nat)(F:ByteArray->Option Tm)(n:ByteArray):Prop :=
 (if b n=0 then kJ ps n (1,1) else (1,1))=(((F n).getD (.mk true n [])).size,((F n).getD (.mk true n [])).deep)
mutual
def KZ (b:ByteArray->Nat)(F:ByteArray->Option Tm):∀t:Tm,t.ok=true->(∀n∈fK t,HSz ps b F n)->psz ps b t=((iO F t).size,(iO F t).deep)
 | .mk true n l,h,A=>by
  obtain rfl:=ui h;have h1:=A n (by simp[fK]);unfold HSz at h1;simp only[psz,pszs,true_and,iO];rw[h1];cases F n with
  | none=>rfl
  | some u=>rfl
 | .mk false n l,h,A=>by
  have:=xA b F l (uj h) (λn D=>A n (by simpa[fK] using D));simp only[psz,bFt,false_and,dI,iO,Tm.size,Tm.deep,this]
def xA (b:ByteArray->Nat)(F:ByteArray->Option Tm):∀l:List Tm,jf l=true->(∀n∈fC l,HSz ps b F n)->pszs ps b l=(dP (gk F l),eu (gk F l))
 | [],_,_=>rfl
 | a::l,h,D=>by
  simp only[pszs,gk,dP,eu,KZ b F a (pN h).1 (λn A=>D n (by simp[fC,A])),xA b F l (pN h).2 (λn A=>D n (by simp[fC,A]))]
end
def K0 {b:ByteArray->Nat}{D:Sb}{m:ByteArray}{fr:List ByteArray}{n:ByteArray}(E:n∈fr)(h:n≠m->HSz ps b (fG D) n):HSz ps (incB b m) (fG (jL D m fr).2) n:=by
 unfold HSz at h ⊢;rw[KY E];by_cases A:n=m
 ·subst A;simp only[incB,dD];rw[a_ (by omega)];split<;>rfl
 ·simp only[incB,a_ A];exact h A
mutual
def CX:∀(f:Fm)(A:Sb)(b:ByteArray->Nat),f.ok=true->(∀n∈frF f,HSz ps b (fG A) n)->fsz ps b f=((js A f).size,(js A f).deep)
 | .mk op m us sub,A,b,E,h=>by
  obtain⟨h1,h2,_⟩:=rG E;simp only[frF] at h;simp only[fsz,js,Fm.size,Fm.deep,xA ps b (fG A) us h1 (λn D=>h n (by simp[D]))];by_cases G:isQ op=true
  ·simp only[G,dD] at h ⊢;rw[xB sub _ _ h2 (λn D=>K0 ps D (λJ=>h n (by simp[D,J])))]
  ·simp only[G,bFt,dI] at h ⊢;rw[xB sub A b h2 (λn D=>h n (by simp[D]))]
def xB:∀(l:List Fm)(A:Sb)(b:ByteArray->Nat),gj l=true->(∀n∈frFs l,HSz ps b (fG A) n)->fszs ps b l=(dL (jt A l),eU (jt A l))
 | [],_,_,_,_=>rfl
 | a::l,A,b,D,h=>by
  simp only[frFs] at h;simp only[fszs,jt,dL,eU,CX a A b (pO D).1 (λn E=>h n (by simp[E])),xB l A b (pO D).2 (λn E=>h n (by simp[E]))]
end
end
def toS (ps:List Pc):Sb:=ps.map λp=>(p.nm,p.tm)
def K1 (ps:List Pc):putF ps=fG (toS ps):=by
 funext n;unfold putF fG toS;rw[List.find?_map];simp only[Option.map_map];rfl
def CY:∀(ps:List Pc)(z:Nat×Nat)(n:ByteArray),(ps.map Pc.nm).Nodup->kJ ps n z=match fG (toS ps) n with|some u=>(u.size,u.deep)|none=>z
 | [],z,n,_=>rfl
 | p::ps,z,n,h=>by
  simp only[ec,hY] at h;have A:=CY ps (if p.nm=n then (p.tm.size,p.tm.deep) else z) n h.2;have h0:kJ (p::ps) n z=kJ ps n (if p.nm=n then (p.tm.size,p.tm.deep) else z):=rfl;rw[h0,A];have hc:fG (toS (p::ps)) n=if p.nm=n then some p.tm else fG (toS ps) n:=by
   unfold fG toS;grind
  rw[hc];by_cases hp:p.nm=n
  ·rw[cV hp,cV hp];have:fG (toS ps) n=none:=by
    cases hl:fG (toS ps) n with
    | none=>rfl
    | some u =>
     have:=CW hl;unfold toS at this;grind
   rw[this]
  ·grind
def HSz0 {ps:List Pc}(h:(ps.map Pc.nm).Nodup)(n:ByteArray):HSz ps (λ_=>0) (fG (toS ps)) n:=by
 unfold HSz;rw[cV rfl,CY ps _ n h];cases fG (toS ps) n<;>rfl
def K2 {ps:List Pc}(h:(ps.map Pc.nm).Nodup){f:Fm}(A:f.ok=true):fsz ps (λ_=>0) f=((js (toS ps) f).size,(js (toS ps) f).deep) :=
 CX ps f (toS ps) _ A (λn _=>HSz0 h n)
def xC:∀(k u:Nat),u<10 ^ (k+1)->Lib.nDigits u<=k+1
 | 0,u,h=>by rw[Lib.nDigits_small (by simpa using h)];omega
 | k+1,u,h=>by
  by_cases A:u<10
  ·rw[Lib.nDigits_small A];omega
  ·rw[Lib.nDigits_big A];have:=xC k (u / 10) (by rw[Nat.pow_succ] at h;omega);omega
mutual
def CZ:∀t:Tm,(fK t).length<=t.size
 | .mk true n l=>by have:=uk l;simp only[fK,dV,Tm.size];omega
 | .mk false n l=>by have:=uk l;simp only[fK,Tm.size];omega
def uk:∀l:List Tm,(fC l).length<=dP l
 | []=>dJ _
 | a::l=>by have:=CZ a;have:=uk l;simp only[fC,lLa,dP];omega
end
mutual
def um:∀f:Fm,(frF f).length<=f.size
 | .mk op m us sub=>by
  have h1:=uk us;have h2:=xD sub;simp only[frF,lLa,Fm.size];grind
def xD:∀l:List Fm,(frFs l).length<=dL l
 | []=>dJ _
 | a::l=>by have:=um a;have:=xD l;simp only[frFs,lLa,dL];omega
end
def wS:Sb->Nat
 | []=>0
 | p::l=>p.2.size+wS l
def C0:∀l m:Sb,wS (l++m)=wS l+wS m
 | [],m=>by simp[wS]
 | a::l,m=>by simp only[ed,wS,C0 l m];omega
def uo (q:ByteArray×Tm->Bool):∀l:Sb,wS (l.filter q)<=wS l
 | []=>dJ _
 | a::l=>by
  have:=uo q l;rw[kg];split
  ·simp only[wS];omega
  ·simp only[wS];omega
def C1:∀l:Sb,(l.flatMap λp=>fK p.2).length<=wS l
 | []=>dJ _
 | a::l=>by
  have:=C1 l;have:=CZ a.2;simp only[eC,lLa,wS];omega
def K3 (ps:Sb)(m:ByteArray)(fr:List ByteArray):(mP ps m fr).length<=fr.length+wS ps:=by
 have:=C1 (cntS ps m fr);have:=uo (λp=>memB fr p.1&&!decide (p.1=m)) ps;unfold mP cntS at *;grind
def K4 (ps:Sb)(m:ByteArray)(fr:List ByteArray):wS (jL ps m fr).2<=wS ps+1:=by
 have:=uo (λp=>memB fr p.1&&!decide (p.1=m)) ps;unfold jL cntS;split
 ·simp only[C0,wS,Tm.size,dP];omega
 ·grind
noncomputable def iB (f g:Fm):Bool:=f.right&&g.right&&eqB (dbF [] f) (dbF [] g)
def C2 {e:List ByteArray}{n:ByteArray}{l:Nat}(h:e.length<=l):gP e n≠.bv l:=by
 unfold gP;split
 ·rename_i i A;have:=CR A;grind
 ·grind
def K5 {ls rs:List ByteArray}{l r n D:ByteArray}(A:ls.length=rs.length):gP (l::ls) n=gP (r::rs) D↔(if n=l\/D=r then n=l/\D=r else gP ls n=gP rs D):=by
 rw[CS,CS];by_cases h1:n=l
 ·by_cases h2:D=r
  ·grind
  ·simp only[h1,h2,dD,true_or,and_false,iff_false,dI];exact λh=>C2 (Nat.le_of_eq A.symm) h.symm
 ·by_cases h2:D=r
  ·simp only[h1,h2,dD,or_true,false_and,iff_false,dI];exact λh=>C2 (Nat.le_of_eq A) h
  ·simp[h1,h2]
def C3 {e:List ByteArray}{n m:ByteArray}{l:List NlT}:gP e n≠.ap m l:=by
 unfold gP;split<;>intro h<;>cases h
def K6 {n:ByteArray}:gP [] n=.fv n:=rfl
abbrev Ar:=List (ByteArray×ByteArray)
def renF (ar:Ar)(n:ByteArray):Option Tm:=(ar.find? λp=>decide (p.1=n)).map λp=>.mk true p.2 []
mutual
noncomputable def mh (A:List ByteArray):Ar->Fm->Fm
 | ar,.mk op m us sub=>.mk op (if isQ op then iA (A++ar.map (·.2)) else m) (gk (renF ar) us) (jM A (if isQ op then (m,iA (A++ar.map (·.2)))::ar else ar) sub)
noncomputable def jM (A:List ByteArray):Ar->List Fm->List Fm
 | _,[]=>[]
 | ar,a::l=>mh A ar a::jM A ar l
end
def C4 (A:List ByteArray)(ar:Ar):∀l m:List Fm,jM A ar (l++m)=jM A ar l++jM A ar m
 | [],m=>by simp[jM]
 | a::l,m=>by simp only[ed,jM,C4 A ar l m]
def xE (A:List ByteArray)(ar:Ar):∀l:List Fm,(jM A ar l).length=l.length
 | []=>rfl
 | a::l=>by simp only[jM,dV,xE A ar l]
noncomputable def lM (f:Fm):Fm:=mh (frF f) [] f
def K7 {ar:Ar}{n:ByteArray}{u:Tm}(h:renF ar n=some u):u.size=1/\u.deep=1:=by
 unfold renF at h;rw[fb] at h;obtain⟨p,_,rfl⟩:=h;exact⟨rfl,rfl⟩
def mQ {f:Fm}(h:f.right=true):f.ok=true/\f.size<=400/\f.deep<=40:=by
 simp only[Fm.right,bAt,dTe] at h;exact⟨h.1.1,h.1.2,h.2⟩
