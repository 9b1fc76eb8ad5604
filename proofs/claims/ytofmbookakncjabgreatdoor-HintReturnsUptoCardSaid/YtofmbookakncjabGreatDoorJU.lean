/- Putting, renaming, normal forms: plain d -/
import Derived.Test.YtofmbookakncjabGreatDoorJT
import Derived.Lib.ItoaNum
set_option linter.all false
namespace Go.Proofs.Tryz
open Go Go.Iv
def jt (k:Nat):ByteArray:=⟨(120::Lib.decDigits k).toArray⟩
def valD (l:List UInt8):Nat:=l.foldl (λa d=>a*10+(d.toNat-48)) 0
def EM (u:Nat):valD (Lib.decDigits u)=u:=by
 induction u using Nat.strongRecOn with
 | _ u A =>
  rw[Lib.decDigits];by_cases h:u<10
  ·rw[dif_pos h];simp only[valD,kA,List.foldl_nil,j5];omega
  ·rw[dif_neg h];have:=A (u / 10) (by omega);simp only[valD,List.foldl_append,kA,List.foldl_nil,j5] at this ⊢;grind
def Mp {a b:Nat}(h:jt a=jt b):a=b:=by
 have h1:(120::Lib.decDigits a)=(120::Lib.decDigits b):=by
  have:=eZ (λx:ByteArray=>x.data.toList) h;simpa[jt] using this
 have h2:Lib.decDigits a=Lib.decDigits b:=by injection h1
 rw[<- EM a,h2,EM b]
def Aa {α:Type} [DecidableEq α]:∀(a b:List α),a.Nodup->(∀x∈a,x∈b)->a.length<=b.length
 | [],b,_,_=>fe _
 | x::a,b,E,hs=>by
  have G:=hs x (List.mem_cons_self ..);have A:=jo.1 E;have:=Aa a (b.erase x) A.2 (λy D=>(List.mem_erase_of_ne (by rintro rfl;exact A.1 D)).2 (hs y (List.mem_cons_of_mem _ D)));grind
def Mq (l:List ByteArray):∃k,1<=k/\k<=l.length+1/\jt k ∉ l:=by
 refine jW λD=>?_;have A:∀k,1<=k->k<=l.length+1->jt k∈l:=λk h1 h2=>jW λh=>D ⟨k,h1,h2,h⟩;have:=Aa ((List.range' 1 (l.length+1)).map jt) l (by
   unfold List.Nodup;rw[lp];exact List.Pairwise.imp (λh J=>h (Mp J)) (List.nodup_range' (s:=1) (n:=l.length+1))) (λx E=>by
   obtain⟨k,G,rfl⟩:=eh.1 E;have:=List.mem_range'_1.1 G;exact A k (by omega) (by omega))
 grind
noncomputable def mO (l:List ByteArray):Nat:=Iv.least (λk=>1<=k/\jt k ∉ l)
def Ab (l:List ByteArray):1<=mO l/\mO l<=l.length+1/\jt (mO l) ∉ l/\∀j,1<=j->j<mO l->jt j∈l:=by
 obtain⟨k,h1,h2,D⟩:=Mq l;have hs:=Iv.least_spec (p:=λk=>1<=k/\jt k ∉ l) ⟨k,h1,D⟩;refine⟨hs.1.1,eM (hs.2 k ⟨h1,D⟩) h2,hs.1.2,λj G A=>jW λE=>?_⟩;have:=hs.2 j ⟨G,E⟩;unfold mO at A;omega
def Mr {l:List ByteArray}{k:Nat}(h1:1<=k)(h2:jt k ∉ l)(A:∀j,1<=j->j<k->jt j∈l):mO l=k:=by
 obtain⟨D,a2,a3,a4⟩:=Ab l;grind
def Mt {l m:List ByteArray}(h:∀x,x∈l↔x∈m):mO l=mO m:=by
 obtain⟨G,a2,a3,a4⟩:=Ab m;exact Mr G (λD=>a3 ((h _).1 D)) (λj E A=>(h _).2 (a4 j E A))
noncomputable def jA (l:List ByteArray):ByteArray:=jt (mO l)
def Mu {l m:List ByteArray}(h:∀x,x∈l↔x∈m):jA l=jA m:=by unfold jA;rw[Mt h]
def memB (l:List ByteArray)(n:ByteArray):Bool:=l.any λx=>decide (x=n)
@[simp] def yJ4 {l:List ByteArray}{n:ByteArray}:memB l n=true↔n∈l:=by
 simp[memB]
@[simp] def zJd {l:List ByteArray}{n:ByteArray}:memB l n=false↔n ∉ l:=by
 rw[<- Bool.not_eq_true,yJ4]
mutual
def frF:Fm->List ByteArray
 | .mk op m us sub=>gG us++(if isQ op then (frFs sub).filter (λn=>!decide (n=m)) else frFs sub)
def frFs:List Fm->List ByteArray
 | []=>[]
 | a::l=>frF a++frFs l
end
def Mw (b:ByteArray->Nat)(m:ByteArray)(l:List ByteArray):iL (incB b m) l=iL b (l.filter (λn=>!decide (n=m))):=by
 unfold iL;rw[List.filter_filter];refine List.filter_congr λn _=>?_;unfold incB;grind
mutual
def EN:∀(f:Fm)(b:ByteArray->Nat),oi b f=iL b (frF f)
 | .mk op m us sub,b=>by
  simp only[oi,frF,pc];rw[EO sub];split
  ·rw[Mw]
  ·rfl
def EO:∀(l:List Fm)(b:ByteArray->Nat),jl b l=iL b (frFs l)
 | [],b=>by simp[jl,frFs,iL]
 | a::l,b=>by simp only[jl,frFs,pc,EN a b,EO l b]
end
def wg (f:Fm):pZ f=frF f:=by
 unfold pZ;rw[EN];unfold iL;rw[List.filter_eq_self];intro a _;rfl
abbrev Sb:=List (ByteArray×Tm)
def gL (l:Sb)(n:ByteArray):Option Tm:=(l.find? λp=>decide (p.1=n)).map (·.2)
def cntS (ps:Sb)(m:ByteArray)(fr:List ByteArray):Sb:=ps.filter λp=>memB fr p.1&&!decide (p.1=m)
def um (ps:Sb)(m:ByteArray)(fr:List ByteArray):Bool:=(cntS ps m fr).any λp=>memB (gQ p.2) m
def oq (ps:Sb)(m:ByteArray)(fr:List ByteArray):List ByteArray:=fr++(cntS ps m fr).flatMap λp=>gQ p.2
noncomputable def kK (ps:Sb)(m:ByteArray)(fr:List ByteArray):ByteArray×Sb :=
 if um ps m fr then (jA (oq ps m fr),cntS ps m fr++[(m,.mk true (jA (oq ps m fr)) [])]) else (m,cntS ps m fr)
mutual
noncomputable def kj:Sb->Fm->Fm
 | ps,.mk op m us sub=>.mk op (if isQ op then (kK ps m (frFs sub)).1 else m) (iz (gL ps) us) (kl (if isQ op then (kK ps m (frFs sub)).2 else ps) sub)
noncomputable def kl:Sb->List Fm->List Fm
 | _,[]=>[]
 | ps,a::l=>kj ps a::kl ps l
end
def Ac (ps:Sb):∀l m:List Fm,kl ps (l++m)=kl ps l++kl ps m
 | [],m=>by simp[kl]
 | a::l,m=>by simp only[fq,kl,Ac ps l m]
def uo (ps:Sb):∀l:List Fm,(kl ps l).length=l.length
 | []=>rfl
 | a::l=>by simp only[kl,fa,uo ps l]
inductive NlT where
 | bv (i:Nat)
 | fv (n:ByteArray)
 | ap (n:ByteArray) (l:List NlT)
inductive NlF where
 | mk (op:Nat) (n:ByteArray) (us:List NlT) (sub:List NlF)
def uq:List ByteArray->ByteArray->Option Nat
 | [],_=>none
 | m::e,n=>if n=m then some e.length else uq e n
def jd (env:List ByteArray)(n:ByteArray):NlT:=match uq env n with|some i=>.bv i|none=>.fv n
mutual
def db (env:List ByteArray):Tm->NlT
 | .mk true n _=>jd env n
 | .mk false n l=>.ap n (dbs env l)
def dbs (env:List ByteArray):List Tm->List NlT
 | []=>[]
 | a::l=>db env a::dbs env l
end
mutual
def dbF:List ByteArray->Fm->NlF
 | env,.mk op m us sub=>.mk op (if isQ op then ⟨#[]⟩ else m) (dbs env us) (dbFs (if isQ op then m::env else env) sub)
def dbFs:List ByteArray->List Fm->List NlF
 | _,[]=>[]
 | env,a::l=>dbF env a::dbFs env l
end
def EP:∀ {e:List ByteArray}{n:ByteArray}{i:Nat},uq e n=some i->i<e.length
 | [],n,i,h=>by cases h
 | m::e,n,i,h=>by
  simp only[uq] at h;split at h
  ·cases h;simp
  ·have:=EP h;simp only[fa];omega
def ER {e:List ByteArray}{m n:ByteArray}:jd (m::e) n=if n=m then .bv e.length else jd e n:=by
 unfold jd;simp only[uq];grind
def wh {n:ByteArray}{l:List Tm}(h:(Tm.mk true n l).ok=true):l=[]:=by
 simp only[Tm.ok,bAt,List.isEmpty_iff] at h;exact h.1
def wi {n:ByteArray}{l:List Tm}(h:(Tm.mk false n l).ok=true):ka l=true:=by
 simp only[Tm.ok,bAt] at h;exact h.2
def ri {a:Tm}{l:List Tm}(h:ka (a::l)=true):a.ok=true/\ka l=true:=by
 simpa only[ka,bAt] using h
def rj {a:Fm}{l:List Fm}(h:jR (a::l)=true):a.ok=true/\jR l=true:=by
 simpa only[jR,bAt] using h
def ur {op:Nat}{m:ByteArray}{us:List Tm}{sub:List Fm}(h:(Fm.mk op m us sub).ok=true):ka us=true/\jR sub=true/\iE op m us.length sub.length=true:=by
 simp only[Fm.ok,bAt] at h;exact⟨h.1.2,h.2,h.1.1⟩
def Mx {ps:Sb}{q:ByteArray×Tm->Bool}{n:ByteArray}(h:∀u,q (n,u)=true):gL (ps.filter q) n=gL ps n:=by
 unfold gL;grind
def My {ps:Sb}{q:ByteArray×Tm->Bool}{n:ByteArray}(h:∀u,q (n,u)=false):gL (ps.filter q) n=none:=by
 unfold gL;grind
def ET (ps A:Sb)(n:ByteArray):gL (ps++A) n=(gL ps n).or (gL A n):=by
 unfold gL;grind
def EU {ps:Sb}{m n:ByteArray}{fr:List ByteArray}(A:n∈fr)(D:n≠m):gL (cntS ps m fr) n=gL ps n :=
 Mx λu=>by simp[A,D]
def EV {ps:Sb}{m:ByteArray}{fr:List ByteArray}:gL (cntS ps m fr) m=none :=
 My λu=>by simp
def EW {ps:Sb}{n:ByteArray}{u:Tm}(h:gL ps n=some u):(n,u)∈ps:=by
 unfold gL at h;rw[ga] at h;grind
def Mz {ps:Sb}{m:ByteArray}{fr:List ByteArray}{n:ByteArray}(D:n∈fr) :
  gL (kK ps m fr).2 n=if n=m then (if um ps m fr then some (.mk true (kK ps m fr).1 []) else none) else gL ps n:=by
 unfold kK;by_cases A:n=m
 ·subst A;rw[c_ rfl];split
  ·simp only[ET,EV];simp[gL]
  ·exact EV
 ·rw[a_ A];split
  ·simp only[ET,EU D A];have:gL [(m,Tm.mk true (jA (oq ps m fr)) [])] n=none:=by simp[gL,Ne.symm A]
   rw[this];simp
  ·exact EU D A
section
variable (ps:List Pc)
def HSz (b:ByteArray->Nat)(F:ByteArray->Option Tm)(n:ByteArray):Prop :=
 (if b n=0 then lL ps n (1,1) else (1,1))=(((F n).getD (.mk true n [])).size,((F n).getD (.mk true n [])).deep)
mutual
def MA (b:ByteArray->Nat)(F:ByteArray->Option Tm):∀t:Tm,t.ok=true->(∀n∈gQ t,HSz ps b F n)->psz ps b t=((jS F t).size,(jS F t).deep)
 | .mk true n l,h,A=>by
  obtain rfl:=wh h;have h1:=A n (by simp[gQ]);unfold HSz at h1;simp only[psz,pszs,true_and,jS];rw[h1];cases F n with
  | none=>rfl
  | some u=>rfl
 | .mk false n l,h,A=>by
  have:=Ae b F l (wi h) (λn D=>A n (by simpa[gQ] using D));simp only[psz,bFt,false_and,et,jS,Tm.size,Tm.deep,this]
def Ae (b:ByteArray->Nat)(F:ByteArray->Option Tm):∀l:List Tm,ka l=true->(∀n∈gG l,HSz ps b F n)->pszs ps b l=(fp (iz F l),gA (iz F l))
 | [],_,_=>rfl
 | a::l,h,D=>by
  simp only[pszs,iz,fp,gA,MA b F a (ri h).1 (λn A=>D n (by simp[gG,A])),Ae b F l (ri h).2 (λn A=>D n (by simp[gG,A]))]
end
def MB {b:ByteArray->Nat}{D:Sb}{m:ByteArray}{fr:List ByteArray}{n:ByteArray}(E:n∈fr)(h:n≠m->HSz ps b (gL D) n):HSz ps (incB b m) (gL (kK D m fr).2) n:=by
 unfold HSz at h ⊢;rw[Mz E];by_cases A:n=m
 ·subst A;simp only[incB,el];rw[a_ (by omega)];split<;>rfl
 ·simp only[incB,a_ A];exact h A
mutual
def EX:∀(f:Fm)(A:Sb)(b:ByteArray->Nat),f.ok=true->(∀n∈frF f,HSz ps b (gL A) n)->fsz ps b f=((kj A f).size,(kj A f).deep)
 | .mk op m us sub,A,b,E,h=>by
  obtain⟨h1,h2,_⟩:=ur E;simp only[frF] at h;simp only[fsz,kj,Fm.size,Fm.deep,Ae ps b (gL A) us h1 (λn D=>h n (by simp[D]))];by_cases G:isQ op=true
  ·simp only[G,el] at h ⊢;rw[Af sub _ _ h2 (λn D=>MB ps D (λJ=>h n (by simp[D,J])))]
  ·simp only[G,bFt,et] at h ⊢;rw[Af sub A b h2 (λn D=>h n (by simp[D]))]
def Af:∀(l:List Fm)(A:Sb)(b:ByteArray->Nat),jR l=true->(∀n∈frFs l,HSz ps b (gL A) n)->fszs ps b l=(eS (kl A l),gZ (kl A l))
 | [],_,_,_,_=>rfl
 | a::l,A,b,D,h=>by
  simp only[frFs] at h;simp only[fszs,kl,eS,gZ,EX a A b (rj D).1 (λn E=>h n (by simp[E])),Af l A b (rj D).2 (λn E=>h n (by simp[E]))]
end
end
def toS (ps:List Pc):Sb:=ps.map λp=>(p.nm,p.tm)
def MC (ps:List Pc):putF ps=gL (toS ps):=by
 funext n;unfold putF gL toS;rw[List.find?_map];simp only[Option.map_map];rfl
def EY:∀(ps:List Pc)(z:Nat×Nat)(n:ByteArray),(ps.map Pc.nm).Nodup->lL ps n z=match gL (toS ps) n with|some u=>(u.size,u.deep)|none=>z
 | [],z,n,_=>rfl
 | p::ps,z,n,h=>by
  simp only[ff,jo] at h;have A:=EY ps (if p.nm=n then (p.tm.size,p.tm.deep) else z) n h.2;have h0:lL (p::ps) n z=lL ps n (if p.nm=n then (p.tm.size,p.tm.deep) else z):=rfl;rw[h0,A];have hc:gL (toS (p::ps)) n=if p.nm=n then some p.tm else gL (toS ps) n:=by
   unfold gL toS;grind
  rw[hc];by_cases hp:p.nm=n
  ·rw[c_ hp,c_ hp];have:gL (toS ps) n=none:=by
    cases hl:gL (toS ps) n with
    | none=>rfl
    | some u =>
     have:=EW hl;unfold toS at this;grind
   rw[this]
  ·grind
def HSz0 {ps:List Pc}(h:(ps.map Pc.nm).Nodup)(n:ByteArray):HSz ps (λ_=>0) (gL (toS ps)) n:=by
 unfold HSz;rw[c_ rfl,EY ps _ n h];cases gL (toS ps) n<;>rfl
def MD {ps:List Pc}(h:(ps.map Pc.nm).Nodup){f:Fm}(A:f.ok=true):fsz ps (λ_=>0) f=((kj (toS ps) f).size,(kj (toS ps) f).deep) :=
 EX ps f (toS ps) _ A (λn _=>HSz0 h n)
def Ag:∀(k u:Nat),u<10 ^ (k+1)->Lib.nDigits u<=k+1
 | 0,u,h=>by rw[Lib.nDigits_small (by simpa using h)];omega
 | k+1,u,h=>by
  by_cases A:u<10
  ·rw[Lib.nDigits_small A];omega
  ·rw[Lib.nDigits_big A];have:=Ag k (u / 10) (by rw[Nat.pow_succ] at h;omega);omega
mutual
def EZ:∀t:Tm,(gQ t).length<=t.size
 | .mk true n l=>by have:=wj l;simp only[gQ,fa,Tm.size];omega
 | .mk false n l=>by have:=wj l;simp only[gQ,Tm.size];omega
def wj:∀l:List Tm,(gG l).length<=fp l
 | []=>eu _
 | a::l=>by have:=EZ a;have:=wj l;simp only[gG,lLa,fp];omega
end
mutual
def wk:∀f:Fm,(frF f).length<=f.size
 | .mk op m us sub=>by
  have h1:=wj us;have h2:=Ah sub;simp only[frF,lLa,Fm.size];grind
def Ah:∀l:List Fm,(frFs l).length<=eS l
 | []=>eu _
 | a::l=>by have:=wk a;have:=Ah l;simp only[frFs,lLa,eS];omega
end
def wS:Sb->Nat
 | []=>0
 | p::l=>p.2.size+wS l
def E0:∀l m:Sb,wS (l++m)=wS l+wS m
 | [],m=>by simp[wS]
 | a::l,m=>by simp only[fq,wS,E0 l m];omega
def wm (q:ByteArray×Tm->Bool):∀l:Sb,wS (l.filter q)<=wS l
 | []=>eu _
 | a::l=>by
  have:=wm q l;rw[kv];split
  ·simp only[wS];omega
  ·simp only[wS];omega
def E1:∀l:Sb,(l.flatMap λp=>gQ p.2).length<=wS l
 | []=>eu _
 | a::l=>by
  have:=E1 l;have:=EZ a.2;simp only[fE,lLa,wS];omega
def ME (ps:Sb)(m:ByteArray)(fr:List ByteArray):(oq ps m fr).length<=fr.length+wS ps:=by
 have:=E1 (cntS ps m fr);have:=wm (λp=>memB fr p.1&&!decide (p.1=m)) ps;unfold oq cntS at *;grind
def MF (ps:Sb)(m:ByteArray)(fr:List ByteArray):wS (kK ps m fr).2<=wS ps+1:=by
 have:=wm (λp=>memB fr p.1&&!decide (p.1=m)) ps;unfold kK cntS;split
 ·simp only[E0,wS,Tm.size,fp];omega
 ·grind
noncomputable def p8 (f g:Fm):Bool:=f.right&&g.right&&eqB (dbF [] f) (dbF [] g)
def E2 {e:List ByteArray}{n:ByteArray}{l:Nat}(h:e.length<=l):jd e n≠.bv l:=by
 unfold jd;split
 ·rename_i i A;have:=EP A;grind
 ·grind
def MG {ls rs:List ByteArray}{l r n D:ByteArray}(A:ls.length=rs.length):jd (l::ls) n=jd (r::rs) D↔(if n=l\/D=r then n=l/\D=r else jd ls n=jd rs D):=by
 rw[ER,ER];by_cases h1:n=l
 ·by_cases h2:D=r
  ·grind
  ·simp only[h1,h2,el,true_or,and_false,iff_false,et];exact λh=>E2 (Nat.le_of_eq A.symm) h.symm
 ·by_cases h2:D=r
  ·simp only[h1,h2,el,or_true,false_and,iff_false,et];exact λh=>E2 (Nat.le_of_eq A) h
  ·simp[h1,h2]
def E3 {e:List ByteArray}{n m:ByteArray}{l:List NlT}:jd e n≠.ap m l:=by
 unfold jd;split<;>intro h<;>cases h
def MH {n:ByteArray}:jd [] n=.fv n:=rfl
abbrev Ar:=List (ByteArray×ByteArray)
def renF (ar:Ar)(n:ByteArray):Option Tm:=(ar.find? λp=>decide (p.1=n)).map λp=>.mk true p.2 []
mutual
noncomputable def nt (A:List ByteArray):Ar->Fm->Fm
 | ar,.mk op m us sub=>.mk op (if isQ op then jA (A++ar.map (·.2)) else m) (iz (renF ar) us) (kL A (if isQ op then (m,jA (A++ar.map (·.2)))::ar else ar) sub)
noncomputable def kL (A:List ByteArray):Ar->List Fm->List Fm
 | _,[]=>[]
 | ar,a::l=>nt A ar a::kL A ar l
end
def E4 (A:List ByteArray)(ar:Ar):∀l m:List Fm,kL A ar (l++m)=kL A ar l++kL A ar m
 | [],m=>by simp[kL]
 | a::l,m=>by simp only[fq,kL,E4 A ar l m]
def Ai (A:List ByteArray)(ar:Ar):∀l:List Fm,(kL A ar l).length=l.length
 | []=>rfl
 | a::l=>by simp only[kL,fa,Ai A ar l]
noncomputable def mP (f:Fm):Fm:=nt (frF f) [] f
def MI {ar:Ar}{n:ByteArray}{u:Tm}(h:renF ar n=some u):u.size=1/\u.deep=1:=by
 unfold renF at h;rw[ga] at h;obtain⟨p,_,rfl⟩:=h;exact⟨rfl,rfl⟩
def p9 {f:Fm}(h:f.right=true):f.ok=true/\f.size<=400/\f.deep<=40:=by
 simp only[Fm.right,bAt,dTe] at h;exact⟨h.1.1,h.1.2,h.2⟩
