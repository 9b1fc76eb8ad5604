/- Putting, renaming, normal forms: plain d -/
import Derived.Test.YtopmhkmegkpkdaaGreatDoorJT
import Derived.Lib.ItoaNum
set_option linter.all false
namespace Go.Proofs.Tryz
open Go Go.Iv
def i6 (k:Nat):ByteArray:=⟨(120::Lib.decDigits k).toArray⟩
def valD (l:List UInt8):Nat:=l.foldl (λa d=>a*10+(d.toNat-48)) 0
def Cj (u:Nat):valD (Lib.decDigits u)=u:=by
 induction u using Nat.strongRecOn with
 | _ u A =>
  rw[Lib.decDigits];by_cases h:u<10
  ·rw[dif_pos h];simp only[valD,jS,List.foldl_nil,UInt8.toNat_ofNat'];omega
  ·rw[dif_neg h];have:=A (u / 10) (by omega);simp only[valD,List.foldl_append,jS,List.foldl_nil,UInt8.toNat_ofNat'] at this ⊢;grind
def Ku {a b:Nat}(h:i6 a=i6 b):a=b:=by
 have h1:(120::Lib.decDigits a)=(120::Lib.decDigits b):=by
  have:=et (λx:ByteArray=>x.data.toList) h;simpa[i6] using this
 have h2:Lib.decDigits a=Lib.decDigits b:=by injection h1
 rw[<- Cj a,h2,Cj b]
def Ck {α:Type} [DecidableEq α]:∀(a b:List α),a.Nodup->(∀x∈a,x∈b)->a.length<=b.length
 | [],b,_,_=>fQ _
 | x::a,b,O,E=>by
  have hx:=E x (List.mem_cons_self ..);have A:=List.nodup_cons.1 O;have:=Ck a (b.erase x) A.2 (λy D=>(List.mem_erase_of_ne (by rintro rfl;exact A.1 D)).2 (E y (List.mem_cons_of_mem _ D)));grind
def Kv (l:List ByteArray):∃k,1<=k/\k<=l.length+1/\i6 k ∉ l:=by
 refine fL λD=>?_;have A:∀k,1<=k->k<=l.length+1->i6 k∈l:=λk h1 h2=>fL λh=>D ⟨k,h1,h2,h⟩;have:=Ck ((List.range' 1 (l.length+1)).map i6) l (by
   unfold List.Nodup;rw[List.pairwise_map];exact List.Pairwise.imp (λh O=>h (Ku O)) (List.nodup_range' (s:=1) (n:=l.length+1))) (λx hx=>by
   obtain⟨k,E,rfl⟩:=eP.1 hx;have:=List.mem_range'_1.1 E;exact A k (by omega) (by omega))
 grind
noncomputable def nU (l:List ByteArray):Nat:=Iv.least (λk=>1<=k/\i6 k ∉ l)
def Kw (l:List ByteArray):1<=nU l/\nU l<=l.length+1/\i6 (nU l) ∉ l/\∀j,1<=j->j<nU l->i6 j∈l:=by
 obtain⟨k,h1,h2,E⟩:=Kv l;have A:=Iv.least_spec (p:=λk=>1<=k/\i6 k ∉ l) ⟨k,h1,E⟩;refine⟨A.1.1,eh (A.2 k ⟨h1,E⟩) h2,A.1.2,λj U D=>fL λO=>?_⟩;have:=A.2 j ⟨U,O⟩;unfold nU at D;omega
noncomputable def nV (l:List ByteArray):ByteArray:=i6 (nU l)
def memB (l:List ByteArray)(n:ByteArray):Bool:=l.any λx=>decide (x=n)
@[simp] def yJg {l:List ByteArray}{n:ByteArray}:memB l n=true↔n∈l:=by
 simp[memB]
@[simp] def zKb {l:List ByteArray}{n:ByteArray}:memB l n=false↔n ∉ l:=by
 rw[<- Bool.not_eq_true,yJg]
mutual
def frF:Fm->List ByteArray
 | .mk op m us sub=>fw us++(if isQ op then (frFs sub).filter (λn=>!decide (n=m)) else frFs sub)
def frFs:List Fm->List ByteArray
 | []=>[]
 | a::l=>frF a++frFs l
end
def Kx (b:ByteArray->Nat)(m:ByteArray)(l:List ByteArray):gF (incB b m) l=gF b (l.filter (λn=>!decide (n=m))):=by
 unfold gF;rw[List.filter_filter];refine List.filter_congr λn _=>?_;unfold incB;grind
mutual
def Cm:∀(f:Fm)(b:ByteArray->Nat),mY b f=gF b (frF f)
 | .mk op m us sub,b=>by
  simp only[mY,frF,nR];rw[Cn sub];split
  ·rw[Kx]
  ·rfl
def Cn:∀(l:List Fm)(b:ByteArray->Nat),hU b l=gF b (frFs l)
 | [],b=>by simp[hU,frFs,gF]
 | a::l,b=>by simp only[hU,frFs,nR,Cm a b,Cn l b]
end
def wB (f:Fm):pY f=frF f:=by
 unfold pY;rw[Cm];unfold gF;rw[List.filter_eq_self];intro a _;rfl
abbrev Sb:=List (ByteArray×Tm)
def fE (l:Sb)(n:ByteArray):Option Tm:=(l.find? λp=>decide (p.1=n)).map (·.2)
def cntS (ps:Sb)(m:ByteArray)(fr:List ByteArray):Sb:=ps.filter λp=>memB fr p.1&&!decide (p.1=m)
def rE (ps:Sb)(m:ByteArray)(fr:List ByteArray):Bool:=(cntS ps m fr).any λp=>memB (fK p.2) m
def m_ (ps:Sb)(m:ByteArray)(fr:List ByteArray):List ByteArray:=fr++(cntS ps m fr).flatMap λp=>fK p.2
noncomputable def j5 (ps:Sb)(m:ByteArray)(fr:List ByteArray):ByteArray×Sb :=
 if rE ps m fr then (nV (m_ ps m fr),cntS ps m fr++[(m,.mk true (nV (m_ ps m fr)) [])]) else (m,cntS ps m fr)
mutual
noncomputable def jM:Sb->Fm->Fm
 | ps,.mk op m us sub=>.mk op (if isQ op then (j5 ps m (frFs sub)).1 else m) (hZ (fE ps) us) (jN (if isQ op then (j5 ps m (frFs sub)).2 else ps) sub)
noncomputable def jN:Sb->List Fm->List Fm
 | _,[]=>[]
 | ps,a::l=>jM ps a::jN ps l
end
def wC (ps:Sb):∀l m:List Fm,jN ps (l++m)=jN ps l++jN ps m
 | [],m=>by simp[jN]
 | a::l,m=>by simp only[dX,jN,wC ps l m]
def rF (ps:Sb):∀l:List Fm,(jN ps l).length=l.length
 | []=>rfl
 | a::l=>by simp only[jN,eG,rF ps l]
inductive NlT where
 | bv (i:Nat)
 | fv (n:ByteArray)
 | ap (n:ByteArray) (l:List NlT)
inductive NlF where
 | mk (op:Nat) (n:ByteArray) (us:List NlT) (sub:List NlF)
def rG:List ByteArray->ByteArray->Option Nat
 | [],_=>none
 | m::e,n=>if n=m then some e.length else rG e n
def gT (env:List ByteArray)(n:ByteArray):NlT:=match rG env n with|some i=>.bv i|none=>.fv n
mutual
def db (env:List ByteArray):Tm->NlT
 | .mk true n _=>gT env n
 | .mk false n l=>.ap n (dbs env l)
def dbs (env:List ByteArray):List Tm->List NlT
 | []=>[]
 | a::l=>db env a::dbs env l
end
mutual
def dbF:List ByteArray->Fm->NlF
 | env,.mk op m us sub=>.mk op (if isQ op then ⟨#[]⟩ else m) (dbs env us) (dbFs (if isQ op then m::env else env) sub)
def dbFs:List ByteArray->List Fm->List NlF
 | _,[]=>[]
 | env,a::l=>dbF env a::dbFs env l
end
def Co:∀ {e:List ByteArray}{n:ByteArray}{i:Nat},rG e n=some i->i<e.length
 | [],n,i,h=>by cases h
 | m::e,n,i,h=>by
  simp only[rG] at h;split at h
  ·cases h;simp
  ·have:=Co h;simp only[eG];omega
def Cq {e:List ByteArray}{m n:ByteArray}:gT (m::e) n=if n=m then .bv e.length else gT e n:=by
 unfold gT;simp only[rG];grind
def th {n:ByteArray}{l:List Tm}(h:(Tm.mk true n l).ok=true):l=[]:=by
 simp only[Tm.ok,bAt,List.isEmpty_iff] at h;exact h.1
def ti {n:ByteArray}{l:List Tm}(h:(Tm.mk false n l).ok=true):fT l=true:=by
 simp only[Tm.ok,bAt] at h;exact h.2
def p8 {a:Tm}{l:List Tm}(h:fT (a::l)=true):a.ok=true/\fT l=true:=by
 simpa only[fT,bAt] using h
def p9 {a:Fm}{l:List Fm}(h:gC (a::l)=true):a.ok=true/\gC l=true:=by
 simpa only[gC,bAt] using h
def tj {op:Nat}{m:ByteArray}{us:List Tm}{sub:List Fm}(h:(Fm.mk op m us sub).ok=true):fT us=true/\gC sub=true/\el op m us.length sub.length=true:=by
 simp only[Fm.ok,bAt] at h;exact⟨h.1.2,h.2,h.1.1⟩
def Ky {ps:Sb}{q:ByteArray×Tm->Bool}{n:ByteArray}(h:∀u,q (n,u)=true):fE (ps.filter q) n=fE ps n:=by
 unfold fE;grind
def Kz {ps:Sb}{q:ByteArray×Tm->Bool}{n:ByteArray}(h:∀u,q (n,u)=false):fE (ps.filter q) n=none:=by
 unfold fE;grind
def Cr (ps qs:Sb)(n:ByteArray):fE (ps++qs) n=(fE ps n).or (fE qs n):=by
 unfold fE;grind
def Cs {ps:Sb}{m n:ByteArray}{fr:List ByteArray}(A:n∈fr)(D:n≠m):fE (cntS ps m fr) n=fE ps n :=
 Ky λu=>by simp[A,D]
def Ct {ps:Sb}{m:ByteArray}{fr:List ByteArray}:fE (cntS ps m fr) m=none :=
 Kz λu=>by simp
def Cu {ps:Sb}{n:ByteArray}{u:Tm}(h:fE ps n=some u):(n,u)∈ps:=by
 unfold fE at h;rw[gI] at h;grind
def KA {ps:Sb}{m:ByteArray}{fr:List ByteArray}{n:ByteArray}(D:n∈fr) :
  fE (j5 ps m fr).2 n=if n=m then (if rE ps m fr then some (.mk true (j5 ps m fr).1 []) else none) else fE ps n:=by
 unfold j5;by_cases A:n=m
 ·subst A;rw[b_ rfl];split
  ·simp only[Cr,Ct];simp[fE]
  ·exact Ct
 ·rw[a_ A];split
  ·simp only[Cr,Cs D A];have:fE [(m,Tm.mk true (nV (m_ ps m fr)) [])] n=none:=by simp[fE,Ne.symm A]
   rw[this];simp
  ·exact Cs D A
section
variable (ps:List Pc)
def HSz (b:ByteArray->Nat)(F:ByteArray->Option Tm)(n:ByteArray):Prop :=
 (if b n=0 then kU ps n (1,1) else (1,1))=(((F n).getD (.mk true n [])).size,((F n).getD (.mk true n [])).deep)
mutual
def KB (b:ByteArray->Nat)(F:ByteArray->Option Tm):∀t:Tm,t.ok=true->(∀n∈fK t,HSz ps b F n)->psz ps b t=((jL F t).size,(jL F t).deep)
 | .mk true n l,h,A=>by
  obtain rfl:=th h;have h1:=A n (by simp[fK]);unfold HSz at h1;simp only[psz,pszs,true_and,jL];rw[h1];cases F n with
  | none=>rfl
  | some u=>rfl
 | .mk false n l,h,A=>by
  have:=wD b F l (ti h) (λn D=>A n (by simpa[fK] using D));simp only[psz,bFt,false_and,dJ,jL,Tm.size,Tm.deep,this]
def wD (b:ByteArray->Nat)(F:ByteArray->Option Tm):∀l:List Tm,fT l=true->(∀n∈fw l,HSz ps b F n)->pszs ps b l=(dN (hZ F l),eE (hZ F l))
 | [],_,_=>rfl
 | a::l,h,D=>by
  simp only[pszs,hZ,dN,eE,KB b F a (p8 h).1 (λn A=>D n (by simp[fw,A])),wD b F l (p8 h).2 (λn A=>D n (by simp[fw,A]))]
end
def KC {b:ByteArray->Nat}{qs:Sb}{m:ByteArray}{fr:List ByteArray}{n:ByteArray}(D:n∈fr)(h:n≠m->HSz ps b (fE qs) n):HSz ps (incB b m) (fE (j5 qs m fr).2) n:=by
 unfold HSz at h ⊢;rw[KA D];by_cases A:n=m
 ·subst A;simp only[incB,dB];rw[a_ (by omega)];split<;>rfl
 ·simp only[incB,a_ A];exact h A
mutual
def Cv:∀(f:Fm)(qs:Sb)(b:ByteArray->Nat),f.ok=true->(∀n∈frF f,HSz ps b (fE qs) n)->fsz ps b f=((jM qs f).size,(jM qs f).deep)
 | .mk op m us sub,qs,b,D,h=>by
  obtain⟨h1,h2,_⟩:=tj D;simp only[frF] at h;simp only[fsz,jM,Fm.size,Fm.deep,wD ps b (fE qs) us h1 (λn A=>h n (by simp[A]))];by_cases E:isQ op=true
  ·simp only[E,dB] at h ⊢;rw[wE sub _ _ h2 (λn A=>KC ps A (λO=>h n (by simp[A,O])))]
  ·simp only[E,bFt,dJ] at h ⊢;rw[wE sub qs b h2 (λn A=>h n (by simp[A]))]
def wE:∀(l:List Fm)(qs:Sb)(b:ByteArray->Nat),gC l=true->(∀n∈frFs l,HSz ps b (fE qs) n)->fszs ps b l=(dt (jN qs l),eU (jN qs l))
 | [],_,_,_,_=>rfl
 | a::l,qs,b,A,h=>by
  simp only[frFs] at h;simp only[fszs,jN,dt,eU,Cv a qs b (p9 A).1 (λn D=>h n (by simp[D])),wE l qs b (p9 A).2 (λn D=>h n (by simp[D]))]
end
end
def toS (ps:List Pc):Sb:=ps.map λp=>(p.nm,p.tm)
def KD (ps:List Pc):putF ps=fE (toS ps):=by
 funext n;unfold putF fE toS;rw[List.find?_map];simp only[Option.map_map];rfl
def Cw:∀(ps:List Pc)(z:Nat×Nat)(n:ByteArray),(ps.map Pc.nm).Nodup->kU ps n z=match fE (toS ps) n with|some u=>(u.size,u.deep)|none=>z
 | [],z,n,_=>rfl
 | p::ps,z,n,h=>by
  simp only[eo,List.nodup_cons] at h;have A:=Cw ps (if p.nm=n then (p.tm.size,p.tm.deep) else z) n h.2;have E:kU (p::ps) n z=kU ps n (if p.nm=n then (p.tm.size,p.tm.deep) else z):=rfl;rw[E,A];have hc:fE (toS (p::ps)) n=if p.nm=n then some p.tm else fE (toS ps) n:=by
   unfold fE toS;grind
  rw[hc];by_cases hp:p.nm=n
  ·rw[b_ hp,b_ hp];have:fE (toS ps) n=none:=by
    cases D:fE (toS ps) n with
    | none=>rfl
    | some u =>
     have:=Cu D;unfold toS at this;grind
   rw[this]
  ·grind
def HSz0 {ps:List Pc}(h:(ps.map Pc.nm).Nodup)(n:ByteArray):HSz ps (λ_=>0) (fE (toS ps)) n:=by
 unfold HSz;rw[b_ rfl,Cw ps _ n h];cases fE (toS ps) n<;>rfl
def KE {ps:List Pc}(h:(ps.map Pc.nm).Nodup){f:Fm}(A:f.ok=true):fsz ps (λ_=>0) f=((jM (toS ps) f).size,(jM (toS ps) f).deep) :=
 Cv ps f (toS ps) _ A (λn _=>HSz0 h n)
def wF:∀(k u:Nat),u<10 ^ (k+1)->Lib.nDigits u<=k+1
 | 0,u,h=>by rw[Lib.nDigits_small (by simpa using h)];omega
 | k+1,u,h=>by
  by_cases A:u<10
  ·rw[Lib.nDigits_small A];omega
  ·rw[Lib.nDigits_big A];have:=wF k (u / 10) (by rw[Nat.pow_succ] at h;omega);omega
mutual
def Cy:∀t:Tm,(fK t).length<=t.size
 | .mk true n l=>by have:=tv l;simp only[fK,eG,Tm.size];omega
 | .mk false n l=>by have:=tv l;simp only[fK,Tm.size];omega
def tv:∀l:List Tm,(fw l).length<=dN l
 | []=>dz _
 | a::l=>by have:=Cy a;have:=tv l;simp only[fw,lLa,dN];omega
end
mutual
def wG:∀f:Fm,(frF f).length<=f.size
 | .mk op m us sub=>by
  have h1:=tv us;have h2:=wH sub;simp only[frF,lLa,Fm.size];grind
def wH:∀l:List Fm,(frFs l).length<=dt l
 | []=>dz _
 | a::l=>by have:=wG a;have:=wH l;simp only[frFs,lLa,dt];omega
end
def wS:Sb->Nat
 | []=>0
 | p::l=>p.2.size+wS l
def Cz:∀l m:Sb,wS (l++m)=wS l+wS m
 | [],m=>by simp[wS]
 | a::l,m=>by simp only[dX,wS,Cz l m];omega
def tA (q:ByteArray×Tm->Bool):∀l:Sb,wS (l.filter q)<=wS l
 | []=>dz _
 | a::l=>by
  have:=tA q l;rw[List.filter_cons];split
  ·simp only[wS];omega
  ·simp only[wS];omega
def CA:∀l:Sb,(l.flatMap λp=>fK p.2).length<=wS l
 | []=>dz _
 | a::l=>by
  have:=CA l;have:=Cy a.2;simp only[ff,lLa,wS];omega
def KF (ps:Sb)(m:ByteArray)(fr:List ByteArray):(m_ ps m fr).length<=fr.length+wS ps:=by
 have:=CA (cntS ps m fr);have:=tA (λp=>memB fr p.1&&!decide (p.1=m)) ps;unfold m_ cntS at *;grind
def KG (ps:Sb)(m:ByteArray)(fr:List ByteArray):wS (j5 ps m fr).2<=wS ps+1:=by
 have:=tA (λp=>memB fr p.1&&!decide (p.1=m)) ps;unfold j5 cntS;split
 ·simp only[Cz,wS,Tm.size,dN];omega
 ·grind
noncomputable def p_ (f g:Fm):Bool:=f.right&&g.right&&eqB (dbF [] f) (dbF [] g)
def CB {e:List ByteArray}{n:ByteArray}{l:Nat}(h:e.length<=l):gT e n≠.bv l:=by
 unfold gT;split
 ·rename_i i A;have:=Co A;grind
 ·grind
def KH {ls rs:List ByteArray}{l r n D:ByteArray}(A:ls.length=rs.length):gT (l::ls) n=gT (r::rs) D↔(if n=l\/D=r then n=l/\D=r else gT ls n=gT rs D):=by
 rw[Cq,Cq];by_cases h1:n=l
 ·by_cases h2:D=r
  ·grind
  ·simp only[h1,h2,dB,true_or,and_false,iff_false,dJ];exact λh=>CB (Nat.le_of_eq A.symm) h.symm
 ·by_cases h2:D=r
  ·simp only[h1,h2,dB,or_true,false_and,iff_false,dJ];exact λh=>CB (Nat.le_of_eq A) h
  ·simp[h1,h2]
def CC {e:List ByteArray}{n m:ByteArray}{l:List NlT}:gT e n≠.ap m l:=by
 unfold gT;split<;>intro h<;>cases h
def KI {n:ByteArray}:gT [] n=.fv n:=rfl
abbrev Ar:=List (ByteArray×ByteArray)
def oT {f:Fm}(h:f.right=true):f.ok=true/\f.size<=400/\f.deep<=40:=by
 simp only[Fm.right,bAt,dTe] at h;exact⟨h.1.1,h.1.2,h.2⟩
