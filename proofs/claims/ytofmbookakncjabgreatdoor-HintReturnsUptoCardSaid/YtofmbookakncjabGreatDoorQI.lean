/- Walks: the law HintReturns. -/
import Derived.Test.YtofmbookakncjabGreatDoorQH
import Derived.Test.YtofmbookakncjabGreatDoorKE
import Derived.Deep.DeepHandedRow
set_option linter.all false
open Nat renaming reduceEqDiff → zE,reduceBEq → zB,reduceAdd → zA,reduceLeDiff → zL
namespace Go.Proofs.Tryz
open Go Go.Iv
set_option maxRecDepth 8000
variable (gl:Nat->Option IV)
def Jw {ca:Nat}(s:Sq)(h:(leF ca s).2≠0):(leF ca s).1=0:=by
 have h:errN ca s≠0:=h;show (if errN ca s=0 then _ else 0)=0;rw[a_ h]
def RY {ca:Nat}(hc:ca=1\/ca=2){s:Sq}(hv:fT ca s=true):errN ca s=0\/errN ca s=4\/errN ca s=5:=by
 unfold errN;rw[c_ hc,c_ hv];have D:∀(l:List (Option Mv)) (ls:List Ln),(expF l ls).2=0\/(expF l ls).2=4\/(expF l ls).2=5:=λl=>by
  induction l with
  | nil=>exact λ_=>.inl rfl
  | cons a l A =>
   intro ls;cases a with
   | none=>exact .inr (.inr rfl)
   | some v =>
    rw[expF];split
    ·exact .inr (.inl rfl)
    ·exact A _
 have key:∀(q n:Nat) (ls:List Ln),runF (spW s) (calJ ca) q n ls=0\/runF (spW s) (calJ ca) q n ls=4\/runF (spW s) (calJ ca) q n ls=5:=λq=>by
  induction q with
  | zero=>exact λ_ _=>.inl rfl
  | succ q A =>
   intro n ls;rw[runF];split
   ·exact .inl rfl
   ·split
    ·exact A _ _
    ·split
     ·exact A _ _
     ·exact D _ _
 exact key _ _ _
def Cy (G:Gl gl)(T:Gt gl)(ca:Nat)(U:Tr)(A:pv U):LsOk gl (leF ca) ca U:=λz E y st J=>by
 obtain⟨p,hp⟩:=IN E;have D:=A.1 _ hp;have D:ig z.sq:=by
  obtain⟨r,s,m,u,n,sub⟩:=z;exact D.1
 exact (Qw gl G T ca z.sq y J D st).mono λr st' ⟨⟨a,_⟩,b⟩=>⟨a,b⟩
def Cz (L:Sq->Nat×Nat)(ca:Nat)(t:Tr):(gP L ca t).1.length<=t.steps/\((gP L ca t).2=0->okP t (gP L ca t).1):=by
 by_cases h:(hCk ca t).2=0
 ·rcases yd (L:=L) h with⟨p,k,h1,h2,A,_,_⟩|⟨h1,_⟩|⟨h1,_⟩|⟨z,_,h1,h2⟩
  ·rw[h1];have hl:=(Cb (x_ p t [] A)).1;have:=qd [] t _ (x_ p t [] A);have E:=t.height_le_steps;simp only[fb,f_] at this;exact⟨by simp only[eO];omega,λ_=>pE (l:=p.drop k) (by rw[fh];exact A)⟩
  ·rw[h1];exact⟨fe _,λh=>by cases h⟩
  ·rw[h1];exact⟨fe _,λh=>by cases h⟩
  ·rw[h1];exact⟨fe _,λh=>absurd h h2⟩
 ·have:gP L ca t=([],(hCk ca t).2):=by unfold gP;rw[c_ h]
  rw[this];exact⟨fe _,λD=>absurd D h⟩
def Jx (G:Gl gl)(T:Gt gl)(E:∀g x,gl g=some x->age x=x)(ca:Nat)(U:Tr)(x:IV)(hx:IsTr U x)(ho:okT U=true)(hs:U.steps<=60)(st:ISt) :
  ICall prog gl 11 [.raw (.int .u8 (ca:Int)),x] st (λr st'=>(((gP (leF ca) ca U).2≠0/\r=.tup [.agg z12,((gP (leF ca) ca U).2:Int)]) \/
   ((gP (leF ca) ca U).2=0/\∃z,IsTr (iF U (gP (leF ca) ca U).1) z/\r=.tup [z,(0:Int)]))/\st'=st):=by
 have A:=qv ho (by omega);have J:=Cz (leF ca) ca U;refine IS gl ca U _ x hx (gP (leF ca) ca U).1 (by omega) _ (λst=>(Cg gl G T E (leF ca) ca U x hx A (by omega) (Cy gl G T ca U A) st).mono λr st' ⟨⟨O,a,b⟩,c⟩=>⟨?_,c⟩) 1000 (λD=>Jq _ _ U (J.2 D) ho (by omega) (by omega)) st;by_cases D:(gP (leF ca) ca U).2=0
 ·exact .inr ⟨D,O,a,by rw[b,D];rfl⟩
 ·exact .inl ⟨D,O,_,a,b⟩
def RZ {L:Sq->Nat×Nat}{t:Tr}{p:List Nat}{k:Nat}(hp:okP t p)(D:jN (atT t p)=true)(E:(L (atT t p).sq).1=0):1<=gR L (atT t (p.take k)):=by
 have hs:okP t (p.take k++p.drop k):=by rw[fh];exact hp
 obtain⟨h1,h2⟩:=su hs;rw[fh] at h2;have A:=qt h1;rw[<- h2] at A;have:lstB L (atT t p)=true:=by unfold lstB;rw[D,dEt E];rfl
 unfold gR;exact List.length_pos_of_mem (j3.2 ⟨A,this⟩)
def Jy {ca:Nat}(hc:ca=1\/ca=2){U:Tr}(E:okT U=true)(hs:U.steps<=60)(D:(hCk ca U).2=0)(A:(gP (leF ca) ca U).2=0) :
  okT (iF U (gP (leF ca) ca U).1)=true/\(iF U (gP (leF ca) ca U).1).steps<=60/\(hCk ca (iF U (gP (leF ca) ca U).1)).2=0/\gR (leF ca) (iF U (gP (leF ca) ca U).1)<gR (leF ca) U:=by
 have hp:=(Cz (leF ca) ca U).2 A;refine⟨Jm _ _ hp E,eM (Cs _ _ hp) hs,RP hc (by omega) hp D,?_⟩;have hl:=Jk (leF ca) _ _ hp;rcases yd (L:=leF ca) D with⟨p,k,h1,h2,O,J,_,G,h7,_⟩|⟨h1,_⟩|⟨h1,_⟩|⟨z,_,h1,h2⟩
 ·rw[h1] at hl ⊢;have:=RZ (L:=leF ca) (k:=k) O J (by rw[G]);rw[a_ (by simp only;omega)] at hl;simp only at hl ⊢;omega
 ·rw[h1] at A;cases A
 ·rw[h1] at A;cases A
 ·rw[h1] at A;exact absurd A h2
def Jz {ca:Nat}(hc:ca=1\/ca=2){U:Tr}(hs:U.steps<=60)(A:(hCk ca U).2=0)(D:(gP (leF ca) ca U).2≠0) :
  (gP (leF ca) ca U=([],271)/\iV (leF ca) U (gz U)=([],271))\/gP (leF ca) ca U=([],4)\/gP (leF ca) ca U=([],5)\/(gP (leF ca) ca U=([],272)/\leF ca U.sq=(0,0)):=by
 rcases yd (L:=leF ca) A with⟨p,k,h1,_⟩|h1|h1|⟨z,E,h1,h2⟩
 ·rw[h1] at D;exact absurd rfl D
 ·exact .inl h1
 ·exact .inr (.inr (.inr h1))
 ·have hv:=Jn ((Ct (by omega) hc).1 A z E);have h2:errN ca z.sq≠0:=h2;have h1:gP (leF ca) ca U=([],errN ca z.sq):=h1;rcases RY hc hv with h|h|h
  ·exact absurd h h2
  ·exact .inr (.inl (by rw[h1,h]))
  ·exact .inr (.inr (.inl (by rw[h1,h])))
def pH {t:Tr}{a o v:IV}{G E D U a2 a3 a4:IV}{tl tr:Tag}{xl A:List IV}(h:IsTr t (.agg [a,.sl tl xl,.sl tr A,o,G,U,a2,v,E,a3,D,a4])):IsSq t.sq (.agg [.sl tl xl,.sl tr A]):=by
 obtain⟨r,s,m,u,n,sub⟩:=t;obtain⟨_,_,_,_,_,_,_,_,_,_,_,_,_,_,_,_,J,_,O,c1,b2,c2,_⟩:=h.mk;cases J;exact⟨_,_,_,_,rfl,O,c1,b2,c2⟩
def CA {V:Tr}{pl:List Nat}{j i:Nat}(h:okP V pl)(G:pl[j]?=some i):∃r s m u n sub a,atT V (pl.take j)=.mk r s m u n sub/\sub[i]?=some a/\atT V (pl.take (j+1))=a:=by
 have E:=(lGs G).1;have A:okP V (pl.take j++i::pl.drop (j+1)):=by
  have:=fh j pl;rw[gB E,(lGs G).2] at this;rw[this];exact h
 obtain⟨h1,_⟩:=su A;have D:atT V (pl.take (j+1))=atT (atT V (pl.take j)) [i]:=by
  rw[en G];exact (su (p:=pl.take j) (l:=[i]) (t:=V) (pE (by rw[fD];exact A))).2
 generalize atT V (pl.take j)=z at h1 D;obtain⟨r,s,m,u,n,sub⟩:=z;obtain⟨a,J,_⟩:=h1;exact⟨r,s,m,u,n,sub,a,rfl,J,by rw[D];simp only[atT,J]⟩
def XyJ (P D G iI sx pX U pY:IV)(cx ex cy J b3 E:List IV)(v5 O:IV)(A:ISt)(l:Array Bool):Kt:=λad fr st ds=>(∀s,s≠127->s≠135->ad s=none)/\st=A/\ds=[]/\fr 3=.box b3/\fr 5=v5/\fr 8=O/\fr 10=P/\fr 12=.box E/\fr 18=D /\
 (l.getD 0 false=true->ad 127=some (16,11))/\(l.getD 1 false=true->fr 128=(sx))/\(l.getD 2 false=true->fr 129=(P))/\(l.getD 3 false=true->fr 130=(D))/\(l.getD 4 false=true->fr 131=(G))/\(l.getD 5 false=true->fr 132=(iI))/\(l.getD 6 false=true->fr 133=(pX))/\(l.getD 7 false=true->fr 134=.iv (.agg ex))/\(l.getD 8 false=true->ad 135=some (17,11))/\(l.getD 9 false=true->fr 136=(U))/\(l.getD 10 false=true->fr 137=(P))/\(l.getD 11 false=true->fr 138=(D))/\(l.getD 12 false=true->fr 139=(G))/\(l.getD 13 false=true->fr 140=(iI))/\(l.getD 14 false=true->fr 141=(pY))/\(l.getD 15 false=true->fr 142=.iv (.agg J)) /\
 (l.getD 16 false=true->l.getD 1 false=true)/\(l.getD 17 false=true->l.getD 9 false=true)/\fr 16=.box (if l.getD 16 false=true then ex else cx)/\fr 17=.box (if l.getD 17 false=true then J else cy)
set_option maxHeartbeats 4000000 in
def NL (G:Gl gl)(T:Gt gl)(aQ:∀g x,gl g=some x->age x=x)(b:Bool)(t:Tr)(x:IV)(hx:IsTr t x)(hw:wTr t<=1099511627776)(st:ISt) :
  ICall prog gl 3 [b,x] st (λr st'=>r=true/\st'=st):=by
 have dQ:=λst=>RJ gl G T aQ st;have dJ:=λst=>Ru gl t x hx hw st;have bZ:=λst=>RK gl b st;have aU:(if b=true then 2 else 1:Nat)=1\/(if b=true then 2 else 1:Nat)=2:=by cases b<;>simp
 generalize (if b=true then 2 else 1:Nat)=ca at bZ aU;have bF:=λhs st=>RM gl aQ t x hx hw hs st;have hCk:=λaj hs st=>Ca gl G T ca t x hx aj hs st;have bG:=λhL hs st=>Ju gl (leF ca) ca t x hx hL hs st;have bH:=λaj hs hL st=>Cg gl G T aQ (leF ca) ca t x hx aj hs hL st;have bD:=λho hs st=>Jx gl G T aQ ca t x hx ho hs st;have bt:=λhL hs st=>RX gl (leF ca) ca t x hx hL hs st;have aX:=hx;obtain⟨rule,tl,xl,tr,xr,op,fn,ta,xa,tb,xb,v,un,tu,xu,n,ts,xs,rfl⟩:=fY hx;refine ICall.intro (c:=cf prog gl [] [(25,[])]) func3 rfl (by show _<=269;simp) (by kernel_rfl) ?_;simp only[go_sem,zA];refine (dQ _).q ?_;simp only[go_sem,zA,reduceCtorEq];refine (bZ _).q ?_;simp only[go_sem,zE,zA,zL];refine (dJ _).q ?_;cases hs:(okT t&&decide (t.steps<=60))
 ·simp only[go_sem,zE];exact dw ⟨rfl,rfl⟩
 simp only[bAt,dTe] at hs;obtain⟨bn,hst⟩:=hs;have aj:=qv bn (by omega);have hL:=Cy gl G T ca t aj;have bF:=bF (by omega);have hCk:=hCk aj (by omega);have bG:=bG hL (by omega);have bH:=bH aj (by omega) hL;have bD:=bD bn hst;have bt:=bt hL (by omega);simp only[go_sem,zE,zA,zL];refine (bF _).mono ?_;rintro _ st ⟨⟨bm,rfl⟩,rfl⟩;cases bm
 ·simp only[go_sem,zE];exact dw ⟨rfl,rfl⟩
 simp only[go_sem,zE,zA,zL];refine (hCk _).mono ?_;rintro _ st ⟨⟨eV,rfl,_⟩,rfl⟩;by_cases br:(Tryz.hCk ca t).2=0
 case neg =>
  have d0:decide (((Tryz.hCk ca t).2:Int)=0)=false:=dEf (by omega);simp only[go_sem,zE,d0];exact dw ⟨rfl,rfl⟩
 have d0:decide (((Tryz.hCk ca t).2:Int)=0)=true:=dEt (by omega);simp only[go_sem,zE,zA,zL,d0];refine (bG _).mono ?_;rintro _ st ⟨⟨bo,dE,rfl⟩,rfl⟩;simp only[go_sem,zE,zA,zL];refine (bH _).mono ?_;rintro _ st ⟨⟨bd,aN,rfl⟩,rfl⟩;simp only[go_sem,zE,zA,zL];refine (bD _).mono ?_;rintro r st ⟨hr,rfl⟩;cases bo
 ·rcases hr with⟨_,rfl⟩|⟨_,z,hz,rfl⟩
  ·simp only[go_sem,zE,zA,zL,z12];exact dw ⟨rfl,rfl⟩
  ·obtain⟨r1,a1,b1,a2,b2,o1,n1,a3,b3,a4,b4,v1,n2,a5,b5,n3,a6,b6,rfl⟩:=fY hz;simp only[go_sem,zE,zA,zL];exact dw ⟨rfl,rfl⟩
 have aS:=dE.1 rfl;have aG:=Q4 (L:=leF ca) Jw aS;by_cases al:(gP (leF ca) ca t).2=0
 case neg =>
  have dq:=Jz aU hst br al;rcases hr with⟨_,rfl⟩|⟨h,_⟩
  case inr=>exact absurd h al
  rcases aG with⟨aZ,aI⟩|⟨p,aZ,aI⟩
  ·have hn:=zKx.1 aZ;have hb:gP (leF ca) ca t=([],271):=by
    unfold gP;rw[a_ (by omega),aI,c_ (by simp)]
   rw[hb,hn];simp only[go_sem,zE,zA,zL,z12,d_,show decide (((0:Nat):Int)=0)=true from rfl,show decide (((271:Nat):Int)=271)=true from rfl,show decide ((0:Int)<((0:Nat):Int))=false from rfl,show decide (((271:Nat):Int)=0)=false from rfl,show decide (((271:Nat):Int)=272)=false from rfl];exact dw ⟨rfl,rfl⟩
  ·have hn:gR (leF ca) t≠0:=λh=>by rw[zKx.2 h] at aZ;cases aZ
   have dn:decide ((gR (leF ca) t:Int)=0)=false:=dEf (by omega);have aV:decide ((0:Int)<(gR (leF ca) t:Int))=true:=dEt (by omega);rcases dq with⟨_,h⟩|h|h|⟨h,bk⟩
   ·rw[aI] at h;cases h
   ·rw[h];simp only[go_sem,zE,zA,zL,z12,d_,dn,aV,show decide (((4:Nat):Int)=271)=false from rfl,show decide (((4:Nat):Int)=0)=false from rfl,show decide (((4:Nat):Int)=272)=false from rfl,show decide (((4:Nat):Int)=4)=true from rfl];exact dw ⟨rfl,rfl⟩
   ·rw[h];simp only[go_sem,zE,zA,zL,z12,d_,dn,aV,show decide (((5:Nat):Int)=271)=false from rfl,show decide (((5:Nat):Int)=0)=false from rfl,show decide (((5:Nat):Int)=272)=false from rfl,show decide (((5:Nat):Int)=4)=false from rfl,show decide (((5:Nat):Int)=5)=true from rfl];exact dw ⟨rfl,rfl⟩
   ·have bY:=λst=>hL t (yb t) _ st (pH aX);rw[bk] at bY;rw[h];simp only[go_sem,zE,zA,zL,z12,d_,dn,aV,show decide (((272:Nat):Int)=271)=false from rfl,show decide (((272:Nat):Int)=0)=false from rfl,show decide (((272:Nat):Int)=272)=true from rfl];refine (bY _).q ?_;simp only[go_sem,zE,zL,show decide (((0:Nat):Int)=0)=true from rfl,show (plI []).length=0 from rfl];exact dw ⟨rfl,rfl⟩
 have a7:=Jy aU bn hst br al;have bs:=Cz (leF ca) ca t;rcases hr with⟨h,_⟩|⟨_,z,hz,rfl⟩
 case inl=>exact absurd al h
 obtain⟨p,k,dF,dy,aO,ft,aI,fx,dN,dO⟩:∃p k,gP (leF ca) ca t=(p.take k,0)/\k<p.length/\okP t p/\jN (atT t p)=true/\iV (leF ca) t (gz t)=(p,0)/\leF ca (atT t p).sq=(0,0)/\0<(leF ca (atT t (p.take k)).sq).1/\∀j,k<j->j<=p.length->leF ca (atT t (p.take j)).sq=(0,0):=by
  rcases yd (L:=leF ca) br with h|⟨h,_⟩|⟨h,_⟩|⟨z,_,h,h2⟩
  ·exact h
  ·rw[h] at al;cases al
  ·rw[h] at al;cases al
  ·rw[h] at al;exact absurd al h2
 have aF:wayF (leF ca) t=some p:=by
  rcases aG with⟨_,h⟩|⟨q,h1,h2⟩
  ·rw[aI] at h;cases h
  ·rw[aI] at h2;cases h2;exact h1
 have hn:gR (leF ca) t≠0:=λh=>by rw[zKx.2 h] at aF;cases aF
 have dn:decide ((gR (leF ca) t:Int)=0)=false:=dEf (by omega);have aV:decide ((0:Int)<(gR (leF ca) t:Int))=true:=dEt (by omega);have az:okP t (p.take k):=pE (l:=p.drop k) (by rw[fh];exact aO);rw[dF] at hz a7 bs ⊢;simp only at hz a7 bs;generalize bl:p.take k=pl at hz a7 bs dN az ⊢;obtain⟨bC,bQ,bT,dH⟩:=a7;have bB:=yk pl t;obtain⟨bR,bU⟩:=Jf pl t az;have bS:lP (leF ca) (iF t pl):=Cr (P:=λz=>lstB (leF ca) z=true->(leF ca z.sq).2=0) (λr s m u n sub eg h k=>by rw[Jj (leF ca) h];exact k) pl t az aS (λh=>by
  unfold lstB at h;rw[show (goalT (atT t pl).sq).sq=(atT t pl).sq from rfl] at h ⊢;simp only[bAt,dTe] at h;omega)
 generalize iF t pl=U at hz bC bQ bT dH bB bR bU bS;have aH:=hz;obtain⟨r1,a1,b1,a2,b2,o1,n1,a3,b3,a4,b4,v1,n2,a5,b5,n3,a6,b6,rfl⟩:=fY hz;simp only[go_sem,zE,zA,zL,dn,aV,show decide (((0:Nat):Int)=271)=false from rfl,show decide (((0:Nat):Int)=0)=true from rfl];refine dC pl.length (λj fr st' ds=>(∃cx cy,fr 16=.box cx/\fr 17=.box cy/\IsTr (atT t (pl.take j)) (.agg cx)/\IsTr (atT U (pl.take j)) (.agg cy))/\st'=st /\
  fr 3=.box [.raw (.int .u8 rule),.sl tl xl,.sl tr xr,.raw (.int .u8 op),fn,.sl ta xa,.sl tb xb,v,un,.sl tu xu,.raw (.string n),.sl ts xs]/\fr 5=.iv (.raw (.int .u8 (ca:Int)))/\fr 8=(gR (leF ca) t:Int)/\fr 10=.iv (.sl bd (plI pl)) /\
  fr 12=.box [.raw (.int .u8 r1),.sl a1 b1,.sl a2 b2,.raw (.int .u8 o1),n1,.sl a3 b3,.sl a4 b4,v1,n2,.sl a5 b5,n3,.sl a6 b6]/\fr 18=(j:Int)/\ds=[]) ?_ ?_ ?_
 ·simp only[go_sem,zE];exact⟨⟨_,_,rfl,rfl,by rw[show atT t []=t by cases t;rfl];exact aX,by rw[show atT U []=U by cases U;rfl];exact aH⟩,rfl⟩
 ·rintro j fr ai _ bp ⟨⟨cx,cy,f16,f17,aE,aD⟩,rfl,f3,f5,f8,f10,f12,f18,rfl⟩;obtain⟨i,hi⟩:=ed bp;have a8:=xp hi;obtain⟨r5,s5,m5,u5,n5,bK,x5,e5,g5,h5⟩:=CA az hi;obtain⟨r6,s6,m6,u6,n6,ef,x6,e6,g6,h6⟩:=CA bR hi;rw[e5] at aE;rw[e6] at aD;obtain⟨tA,xA,tB,xB,oA,nA,tC,xC,tD,xD,vA,nB,tE,xE,cW,cO,J,_,_,_,_,_,_,_,bI,bf⟩:=aE.mk;injection J with J;subst J;obtain⟨tF,xF,tG,xG,oF,nF,tH,xH,tI,xI,vF,nG,tJ,xJ,cV,cN,J,_,_,_,_,_,_,_,dR,dl⟩:=aD.mk;injection J with J;subst J;obtain⟨z5,bj,ay⟩:=bf.get g5;obtain⟨z6,dm,bc⟩:=dl.get g6;have bh:=ay;have bg:=bc;obtain⟨rK,tK,xK,tL,xL,oK,nK,tM,xM,tN,xN,vK,nL,tO,xO,nM,tP,xP,rfl⟩:=fY ay;obtain⟨rQ,tQ,xQ,tR,xR,oQ,nQ,tS,xS,tU,xU,vQ,nR,tV,xV,nS,tW,xW,rfl⟩:=fY bc;simp only[go_sem,zE,f10,f18,iX,lt_i bp];intro _;refine vI (XyJ (.sl bd (plI pl)) (j:Int) (.cptr (i:Int)) (i:Int) (.sl cW cO) (.cptr (.agg [.raw (.int .u8 (rK:Int)),.sl tK xK,.sl tL xL,.raw (.int .u8 oK),nK,.sl tM xM,.sl tN xN,vK,nL,.sl tO xO,nM,.sl tP xP])) (.sl cV cN) (.cptr (.agg [.raw (.int .u8 (rQ:Int)),.sl tQ xQ,.sl tR xR,.raw (.int .u8 oQ),nQ,.sl tS xS,.sl tU xU,vQ,nR,.sl tV xV,nS,.sl tW xW])) _ [.raw (.int .u8 (rK:Int)),.sl tK xK,.sl tL xL,.raw (.int .u8 oK),nK,.sl tM xM,.sl tN xN,vK,nL,.sl tO xO,nM,.sl tP xP] _ [.raw (.int .u8 (rQ:Int)),.sl tQ xQ,.sl tR xR,.raw (.int .u8 oQ),nQ,.sl tS xS,.sl tU xU,vQ,nR,.sl tV xV,nS,.sl tW xW] _ _ _ _ ai) ?_ ?_ _ _ _ _ _ _ rfl ⟨λ_ _ _=>rfl,rfl,rfl,f3,f5,f8,f10,f12,f18,nofun,nofun,nofun,nofun,nofun,nofun,nofun,nofun,nofun,nofun,nofun,nofun,nofun,nofun,nofun,nofun,nofun,nofun,f16,f17⟩
  ·intro D ad fr ai ds hz hJ i5 dz;replace hz:D.size=18:=hz;obtain⟨b0,o,ho,E⟩:=ix.1 dz;have fu:i5<18:=(jw.1 ho).1;have aJ:D.getD i5 false=false:=by
    rw[lR,mZ (by omega)] at b0 ⊢;exact b0
   have e':∀j,(D.setIfInBounds i5 true).getD j false=if i5=j then true else D.getD j false:=λj=>B1 (by omega)
   obtain⟨A,rfl,rfl,f3,f5,f8,f10,f12,f18,g0,g1,g2,g3,g4,g5,g6,g7,g8,g9,af,ae,ac,ab,aa,O,ah,ag,f16,f17⟩:=hJ;have fG:=A 10 (by decide) (by decide);have cc:=A 16 (by decide) (by decide);have cb:=A 17 (by decide) (by decide);have fF:=A 18 (by decide) (by decide);have eG:=A 128 (by decide) (by decide);have eF:=A 129 (by decide) (by decide);have eE:=A 130 (by decide) (by decide);have ch:=A 131 (by decide) (by decide);have eD:=A 132 (by decide) (by decide);have cg:=A 133 (by decide) (by decide);have eC:=A 134 (by decide) (by decide);have eB:=A 136 (by decide) (by decide);have eA:=A 137 (by decide) (by decide);have ez:=A 138 (by decide) (by decide);have ce:=A 139 (by decide) (by decide);have ey:=A 140 (by decide) (by decide);have cd:=A 141 (by decide) (by decide);have ew:=A 142 (by decide) (by decide);rcases (show i5=0\/i5=1\/i5=2\/i5=3\/i5=4\/i5=5\/i5=6\/i5=7\/i5=8\/i5=9\/i5=10\/i5=11\/i5=12\/i5=13\/i5=14\/i5=15\/i5=16\/i5=17 by omega) with rfl|rfl|rfl|rfl|rfl|rfl|rfl|rfl|rfl|rfl|rfl|rfl|rfl|rfl|rfl|rfl|rfl|rfl
   all_goals obtain rfl:_=o:=fA ho
   ·obtain⟨fC,b8,fk⟩:∃c:List IV,fr 16=.box c/\c.length=12:=⟨_,f16,by split<;>rfl⟩
    simp only[go_sem,zE,gX,cc,b8];simp only[XyJ,e',iteT,iteF,reduceCtorEq,e_];exact⟨(λs h1 h2=>by rw[Ad.put_apply,A s h1 h2];split<;>first|rfl|(rename_i hs;first|exact absurd hs h1|exact absurd hs h2)),trivial,trivial,f3,f5,f8,f10,f12,f18,(by rw[Ad.put_apply];rfl),g1,g2,g3,g4,g5,g6,g7,(λh=>by rw[Ad.put_apply,g8 h];rfl),g9,af,ae,ac,ab,aa,O,ah,ag,f16,f17⟩
   ·have q0:=g0 (E ⟨0,.data⟩ (by simp) rfl);have dk:D.getD 16 false=false:=by cases h:D.getD 16 false with|false=>rfl|true=>rw[ah h] at aJ;cases aJ
    have aB:=f16;rw[a_ (by rw[dk];simp)] at aB;simp only[go_sem,gX,aB,q0];simp only[XyJ,e',zE,iteT,iteF,reduceCtorEq,e_];exact⟨(λs h1 h2=>by rw[Ad.put_apply,A s h1 h2];split<;>rfl),trivial,trivial,f3,f5,f8,f10,f12,f18,(λh=>by rw[Ad.put_apply,g0 h];rfl),rfl,g2,g3,g4,g5,g6,g7,(λh=>by rw[Ad.put_apply,g8 h];rfl),g9,af,ae,ac,ab,aa,O,(λ_=>trivial),ag,f16,f17⟩
   ·simp only[go_sem,gX,f10];simp only[XyJ,e',zE,iteT,iteF,reduceCtorEq,e_];exact⟨(λs h1 h2=>by rw[Ad.put_apply,A s h1 h2];split<;>rfl),trivial,trivial,f3,f5,f8,f10,f12,f18,(λh=>by rw[Ad.put_apply,g0 h];rfl),g1,rfl,g3,g4,g5,g6,g7,(λh=>by rw[Ad.put_apply,g8 h];rfl),g9,af,ae,ac,ab,aa,O,ah,ag,f16,f17⟩
   ·simp only[go_sem,gX,f18];simp only[XyJ,e',zE,iteT,iteF,reduceCtorEq,e_];exact⟨(λs h1 h2=>by rw[Ad.put_apply,A s h1 h2];split<;>rfl),trivial,trivial,f3,f5,f8,f10,f12,f18,(λh=>by rw[Ad.put_apply,g0 h];rfl),g1,g2,rfl,g4,g5,g6,g7,(λh=>by rw[Ad.put_apply,g8 h];rfl),g9,af,ae,ac,ab,aa,O,ah,ag,f16,f17⟩
   ·have q2:=g2 (E ⟨2,.data⟩ (by simp) rfl);have q3:=g3 (E ⟨3,.data⟩ (by simp) rfl);simp only[go_sem,gX,q2,q3,ec aN,iNn,a8];simp only[XyJ,e',zE,iteT,iteF,reduceCtorEq,e_];exact⟨(λs h1 h2=>by rw[Ad.put_apply,A s h1 h2];split<;>rfl),trivial,trivial,f3,f5,f8,f10,f12,f18,(λh=>by rw[Ad.put_apply,g0 h];rfl),g1,g2,g3,rfl,g5,g6,g7,(λh=>by rw[Ad.put_apply,g8 h];rfl),g9,af,ae,ac,ab,aa,O,ah,ag,f16,f17⟩
   ·have q4:=g4 (E ⟨4,.data⟩ (by simp) rfl);simp only[go_sem,gX,ch,q4,fits];simp only[XyJ,e',zE,iteT,iteF,reduceCtorEq,e_];exact⟨(λs h1 h2=>by rw[Ad.put_apply,A s h1 h2];split<;>rfl),trivial,trivial,f3,f5,f8,f10,f12,f18,(λh=>by rw[Ad.put_apply,g0 h];rfl),g1,g2,g3,g4,rfl,g6,g7,(λh=>by rw[Ad.put_apply,g8 h];rfl),g9,af,ae,ac,ab,aa,O,ah,ag,f16,f17⟩
   ·have q1:=g1 (E ⟨1,.data⟩ (by simp) rfl);have q5:=g5 (E ⟨5,.data⟩ (by simp) rfl);simp only[go_sem,gX,q1,q5,ec bI,iNn,bj];simp only[XyJ,e',zE,iteT,iteF,reduceCtorEq,e_];exact⟨(λs h1 h2=>by rw[Ad.put_apply,A s h1 h2];split<;>rfl),trivial,trivial,f3,f5,f8,f10,f12,f18,(λh=>by rw[Ad.put_apply,g0 h];rfl),g1,g2,g3,g4,g5,rfl,g7,(λh=>by rw[Ad.put_apply,g8 h];rfl),g9,af,ae,ac,ab,aa,O,ah,ag,f16,f17⟩
   ·have q6:=g6 (E ⟨6,.data⟩ (by simp) rfl);simp only[go_sem,zA,gX,cg,q6,fits];simp only[XyJ,e',zE,iteT,iteF,reduceCtorEq,e_];exact⟨(λs h1 h2=>by rw[Ad.put_apply,A s h1 h2];split<;>rfl),trivial,trivial,f3,f5,f8,f10,f12,f18,(λh=>by rw[Ad.put_apply,g0 h];rfl),g1,g2,g3,g4,g5,g6,rfl,(λh=>by rw[Ad.put_apply,g8 h];rfl),g9,af,ae,ac,ab,aa,O,ah,ag,f16,f17⟩
   ·obtain⟨fB,b7,fj⟩:∃c:List IV,fr 17=.box c/\c.length=12:=⟨_,f17,by split<;>rfl⟩
    simp only[go_sem,zE,gX,cb,b7];simp only[XyJ,e',zE,iteT,iteF,reduceCtorEq,e_];exact⟨(λs h1 h2=>by rw[Ad.put_apply,A s h1 h2];split<;>first|rfl|(rename_i hs;first|exact absurd hs h1|exact absurd hs h2)),trivial,trivial,f3,f5,f8,f10,f12,f18,(λh=>by rw[Ad.put_apply,g0 h];rfl),g1,g2,g3,g4,g5,g6,g7,(by rw[Ad.put_apply];rfl),g9,af,ae,ac,ab,aa,O,ah,ag,f16,f17⟩
   ·have q8:=g8 (E ⟨8,.data⟩ (by simp) rfl);have dj:D.getD 17 false=false:=by cases h:D.getD 17 false with|false=>rfl|true=>rw[ag h] at aJ;cases aJ
    have aA:=f17;rw[a_ (by rw[dj];simp)] at aA;simp only[go_sem,gX,aA,q8];simp only[XyJ,e',zE,iteT,iteF,reduceCtorEq,e_];exact⟨(λs h1 h2=>by rw[Ad.put_apply,A s h1 h2];split<;>rfl),trivial,trivial,f3,f5,f8,f10,f12,f18,(λh=>by rw[Ad.put_apply,g0 h];rfl),g1,g2,g3,g4,g5,g6,g7,(λh=>by rw[Ad.put_apply,g8 h];rfl),rfl,af,ae,ac,ab,aa,O,ah,(λ_=>trivial),f16,f17⟩
   ·simp only[go_sem,gX,f10];simp only[XyJ,e',zE,iteT,iteF,reduceCtorEq,e_];exact⟨(λs h1 h2=>by rw[Ad.put_apply,A s h1 h2];split<;>rfl),trivial,trivial,f3,f5,f8,f10,f12,f18,(λh=>by rw[Ad.put_apply,g0 h];rfl),g1,g2,g3,g4,g5,g6,g7,(λh=>by rw[Ad.put_apply,g8 h];rfl),g9,rfl,ae,ac,ab,aa,O,ah,ag,f16,f17⟩
   ·simp only[go_sem,gX,f18];simp only[XyJ,e',zE,iteT,iteF,reduceCtorEq,e_];exact⟨(λs h1 h2=>by rw[Ad.put_apply,A s h1 h2];split<;>rfl),trivial,trivial,f3,f5,f8,f10,f12,f18,(λh=>by rw[Ad.put_apply,g0 h];rfl),g1,g2,g3,g4,g5,g6,g7,(λh=>by rw[Ad.put_apply,g8 h];rfl),g9,af,rfl,ac,ab,aa,O,ah,ag,f16,f17⟩
   ·have dc:=af (E ⟨10,.data⟩ (by simp) rfl);have da:=ae (E ⟨11,.data⟩ (by simp) rfl);simp only[go_sem,gX,dc,da,ec aN,iNn,a8];simp only[XyJ,e',zE,iteT,iteF,reduceCtorEq,e_];exact⟨(λs h1 h2=>by rw[Ad.put_apply,A s h1 h2];split<;>rfl),trivial,trivial,f3,f5,f8,f10,f12,f18,(λh=>by rw[Ad.put_apply,g0 h];rfl),g1,g2,g3,g4,g5,g6,g7,(λh=>by rw[Ad.put_apply,g8 h];rfl),g9,af,ae,rfl,ab,aa,O,ah,ag,f16,f17⟩
   ·have c9:=ac (E ⟨12,.data⟩ (by simp) rfl);simp only[go_sem,gX,ce,c9,fits];simp only[XyJ,e',zE,iteT,iteF,reduceCtorEq,e_];exact⟨(λs h1 h2=>by rw[Ad.put_apply,A s h1 h2];split<;>rfl),trivial,trivial,f3,f5,f8,f10,f12,f18,(λh=>by rw[Ad.put_apply,g0 h];rfl),g1,g2,g3,g4,g5,g6,g7,(λh=>by rw[Ad.put_apply,g8 h];rfl),g9,af,ae,ac,rfl,aa,O,ah,ag,f16,f17⟩
   ·have q9:=g9 (E ⟨9,.data⟩ (by simp) rfl);have c8:=ab (E ⟨13,.data⟩ (by simp) rfl);simp only[go_sem,gX,q9,c8,ec dR,iNn,dm];simp only[XyJ,e',zE,iteT,iteF,reduceCtorEq,e_];exact⟨(λs h1 h2=>by rw[Ad.put_apply,A s h1 h2];split<;>rfl),trivial,trivial,f3,f5,f8,f10,f12,f18,(λh=>by rw[Ad.put_apply,g0 h];rfl),g1,g2,g3,g4,g5,g6,g7,(λh=>by rw[Ad.put_apply,g8 h];rfl),g9,af,ae,ac,ab,rfl,O,ah,ag,f16,f17⟩
   ·have c7:=aa (E ⟨14,.data⟩ (by simp) rfl);simp only[go_sem,zA,gX,cd,c7,fits];simp only[XyJ,e',zE,iteT,iteF,reduceCtorEq,e_];exact⟨(λs h1 h2=>by rw[Ad.put_apply,A s h1 h2];split<;>rfl),trivial,trivial,f3,f5,f8,f10,f12,f18,(λh=>by rw[Ad.put_apply,g0 h];rfl),g1,g2,g3,g4,g5,g6,g7,(λh=>by rw[Ad.put_apply,g8 h];rfl),g9,af,ae,ac,ab,aa,rfl,ah,ag,f16,f17⟩
   ·have q7:=g7 (E ⟨7,.data⟩ (by simp) rfl);have aB:=f16;rw[a_ (by rw[aJ];simp)] at aB;have w1:D.getD 1 false=true:=E ⟨1,.phase⟩ (by simp) rfl;simp only[go_sem,zA,zL,gX,cc,aB,q7];simp only[XyJ,e',zE,iteT,iteF,reduceCtorEq,e_];exact⟨A,trivial,trivial,f3,f5,f8,f10,f12,f18,g0,g1,g2,g3,g4,g5,g6,g7,g8,g9,af,ae,ac,ab,aa,O,(w1:D.getD 1 false=true),ag,rfl,f17⟩
   ·have c0:=O (E ⟨15,.data⟩ (by simp) rfl);have aA:=f17;rw[a_ (by rw[aJ];simp)] at aA;have w9:D.getD 9 false=true:=E ⟨9,.phase⟩ (by simp) rfl;simp only[go_sem,zA,zL,gX,cb,aA,c0];simp only[XyJ,e',zE,iteT,iteF,reduceCtorEq,e_];exact⟨A,trivial,trivial,f3,f5,f8,f10,f12,f18,g0,g1,g2,g3,g4,g5,g6,g7,g8,g9,af,ae,ac,ab,aa,O,ah,(w9:D.getD 9 false=true),f16,rfl⟩
  ·intro D ad fr ai ds hz hr hJ;have hl:=B2 (by decide) hz hr;obtain⟨A,rfl,rfl,f3,f5,f8,f10,f12,f18,_,_,_,_,_,_,_,_,_,_,_,_,_,_,_,_,_,_,f16,f17⟩:=hJ;rw[c_ (hl 16 (by decide))] at f16;rw[c_ (hl 17 (by decide))] at f17;simp only[go_sem,zE,f3,f5,f8,f10,f12,f16,f17,f18,ek bp (by omega)];exact⟨_,_,rfl,rfl,by rw[h5];exact bh,by rw[h6];exact bg⟩
 ·rintro fr ai _ ⟨⟨cx,cy,f16,f17,aE,aD⟩,rfl,f3,f5,f8,f10,f12,f18,rfl⟩;rw[lTl] at aE aD;rw[bU] at aD;have aT:=aE;have bP:=aD;have dv:pl.length=k:=by rw[<- bl,eO];omega
  obtain⟨i,hi⟩:=ed dy;have a8:=xp hi;obtain⟨r5,s5,m5,u5,n5,bK,x5,e5,g5,h5⟩:=CA aO hi;rw[bl] at e5;rw[e5] at aE;obtain⟨tK,xK,tL,xL,oK,nK,tM,xM,tN,xN,vK,nL,tO,xO,tP,xP,J,_,_,_,_,_,_,_,bI,bf⟩:=aE.mk;injection J with J;subst J;obtain⟨z5,bj,ay⟩:=bf.get g5;have bi:=ay;have bb:=λy hy st=>hL x5 (by rw[<- h5];exact qt (pE (l:=p.drop (k+1)) (by rw[fh];exact aO))) y st hy;have dp:leF ca x5.sq=(0,0):=by rw[<- h5];exact dO (k+1) (by omega) (by omega)
  rw[dp] at bb;obtain⟨rZ,tZ,xZ,tY,xY,oZ,nZ,tX,xX,tT,xT,vZ,nY,t7,x7,nX,t8,x8,rfl⟩:=fY ay;have bb:=λst=>bb _ (pH bi) st;have du:ic none (some (pl.length:Int)) p.length=some (0,pl.length):=by
   simp only[ic,gh,fz];rw[c_ ⟨by omega,by omega,by omega⟩];simp
  have dt:List.take pl.length (plI p)=plI pl:=by
   rw[<- bl];unfold plI;rw[eO,ly (by omega),<- List.map_take]
  obtain⟨rQ,tQ,xQ,tR,xR,oQ,nQ,tS,xS,tU,xU,vQ,nR,tV,xV,nS,tW,xW,J⟩:=fY aD;injection J with J;subst J;have dL:=λst=>hL (atT t pl) (qt az) _ st (pH aT);have bM:=pH aT;have dB:=qv bC (by omega);have bX:=λst=>Ju gl (leF ca) ca U _ aH (Cy gl G T ca U dB) (by omega) st;have bV:=λst=>AM gl U.sq t.sq _ _ (pH aH) (pH aX) st;rw[yZ2.2 bB] at bV;have dA:=λst=>u7 gl tK xK tL xL st;have bM:=pH aT;have dK:=λst=>Jd gl (goalT (atT t pl).sq) _ _ bP (yi bM) (by simp only[Tr.steps,gk];omega) st;have fs:(leF ca (atT t pl).sq).2=0:=by
   by_cases h:(leF ca (atT t pl).sq).2=0
   ·exact h
   ·have:=Jw _ h;omega
  have dT:decide (((leF ca (atT t pl).sq).1:Int)=0)=false:=dEf (by omega);have dS:decide (((leF ca (atT t pl).sq).2:Int)=0)=true:=dEt (by omega);simp only[go_sem,zE,zA,zL,f16,f5,f10,f18,iX,eI (nLi _)];intro _;refine (dL _).q ?_;simp only[go_sem,zE,zA,zL,f5,f12];refine (bX _).mono ?_;rintro _ ai ⟨⟨bu,dD,rfl⟩,rfl⟩;obtain rfl:=dD.2 bS;have dV:decide ((gR (leF ca) t:Int)<=(gR (leF ca) U:Int))=false:=dEf (by omega);simp only[go_sem,zE,zA,zL,f16,f17,dT,dS];refine (dA _).q ?_;simp only[go_sem,zE,zA,gI];refine (dK _).q ?_;simp only[go_sem,zE,zA,zL,f3,f8,f12,dV];refine (bV _).q ?_;simp only[go_sem,zE,zA,zL,f3,f5];refine (bt _).mono ?_;rintro _ ai ⟨⟨h,_⟩|⟨p',bL,ep,eU,aM,rfl⟩,rfl⟩
  ·rw[aF] at h;cases h
  rw[aF] at bL;cases bL;have bW:=λst=>NW gl _ bd pl pl (B_ aM p.length pl.length 0) aN st;rw[yZ2.2 rfl] at bW;have dU:decide ((p.length:Int)<=(pl.length:Int))=false:=dEf (by omega);simp only[go_sem,zE,zA,f10,iX,dU,du,dt,ec aM];intro _ _ _;refine (bW _).q ?_;have bO:(plI p)[pl.length]?=some (.raw (.int .i64 (i:Int))):=by rw[dv];exact a8
  simp only[go_sem,zE,zB,zA,zL,f16,f5,f10,fits,iX,ec aM,ec bI,iNn,bO,bj];refine (bb _).q ?_;have eo:gR (leF ca) t<=t.steps:=Jr _ _;simp only[go_sem,zE,show decide (((0:Nat):Int)=0)=true from rfl];refine dC 60 (λq fr st' ds=>(∃V cv,fr 12=.box cv/\IsTr V (.agg cv)/\okT V=true/\V.steps<=60/\(Tryz.hCk ca V).2=0/\V.sq=t.sq/\gR (leF ca) V+q+1<=60)/\st'=ai /\
   fr 3=.box [.raw (.int .u8 rule),.sl tl xl,.sl tr xr,.raw (.int .u8 op),fn,.sl ta xa,.sl tb xb,v,un,.sl tu xu,.raw (.string n),.sl ts xs]/\fr 5=.iv (.raw (.int .u8 (ca:Int)))/\fr 27=(q:Int)/\ds=[]) ?_ ?_ ?_
  ·simp only[go_sem,zE,zL];exact⟨⟨U,_,f12,aH,bC,bQ,bT,bB,by omega⟩,f3,f5,rfl⟩
  ·rintro q fr be _ dx ⟨⟨V,cv,f12,bq,bx,ba,bA,bw,dG⟩,rfl,f3,f5,f27,rfl⟩;have dI:=λst=>Jx gl G T aQ ca V _ bq bx ba st;obtain⟨rQ,tQ,xQ,tR,xR,oQ,nQ,tS,xS,tU,xU,vQ,nR,tV,xV,nS,tW,xW,J⟩:=fY bq;injection J with J;subst J;simp only[go_sem,zE,zA,zL,f5,f12,f27,show decide ((q:Int)<60)=true from dEt (by omega)];refine (dI _).mono ?_;rintro r be ⟨⟨he,rfl⟩|⟨he,z,hz,rfl⟩,rfl⟩
   ·have de:decide (((gP (leF ca) ca V).2:Int)=0)=false:=dEf (by omega);simp only[go_sem,zE,zA,zL,f3,f5,f12,z12,de];have dM:=λst=>hL t (yb t) _ st (pH aX);refine (dM _).q ?_;by_cases g2:(leF ca t.sq).2=0
    case neg =>
     have aL:decide (((leF ca t.sq).2:Int)=0)=false:=dEf (by omega);simp only[go_sem,zE,aL];exact dw ⟨rfl,rfl⟩
    have aL:decide (((leF ca t.sq).2:Int)=0)=true:=dEt (by omega);by_cases g1:(leF ca t.sq).1=0
    case pos =>
     have aW:decide (((leF ca t.sq).1:Int)=0)=true:=dEt (by omega);simp only[go_sem,zE,aL,aW];exact dw ⟨rfl,rfl⟩
    have aW:decide (((leF ca t.sq).1:Int)=0)=false:=dEf (by omega);rcases Jz aU ba bA he with⟨h,_⟩|h|h|⟨_,h⟩
    ·rw[h];simp only[go_sem,zE,aL,aW,show decide (((271:Nat):Int)=271)=true from rfl];exact dw ⟨rfl,rfl⟩
    ·rw[h];simp only[go_sem,zE,aL,aW,show decide (((4:Nat):Int)=271)=false from rfl,show decide (((4:Nat):Int)=4)=true from rfl];exact dw ⟨rfl,rfl⟩
    ·rw[h];simp only[go_sem,zE,aL,aW,show decide (((5:Nat):Int)=271)=false from rfl,show decide (((5:Nat):Int)=4)=false from rfl,show decide (((5:Nat):Int)=5)=true from rfl];exact dw ⟨rfl,rfl⟩
    ·rw[bw] at h;rw[h] at g1;exact absurd rfl g1
   ·obtain⟨k1,k2,k3,k4⟩:=Jy aU bx ba bA he;have aH:=hz;obtain⟨r7,t9,x9,tA,xA,oA,nA,tB,xB,tC,xC,vA,nB,tD,xD,nC,tE,xE,rfl⟩:=fY hz;simp only[go_sem,zE,zA,zL,f3,f5,f12,f27,d_,ek dx (by omega)];exact⟨_,_,rfl,aH,k1,k2,k3,by rw[yk];exact bw,by omega⟩
  ·rintro fr be _ ⟨⟨V,cv,f12,bq,bx,ba,bA,bw,dG⟩,rfl,f3,f5,f27,rfl⟩;omega
end Go.Proofs.Tryz
namespace Go.Proofs.Tryz
open Go Go.Iv Go.ChangeShapes
open Go.Proofs.YtofmbookakncjabGreatDoor.Rows (uptoBulk uptoBulkAll)
set_option maxRecDepth 4000
def uSeq:prog.underlying 24=some (.struct #[⟨ "Left",22,0,false, "", "",0⟩,⟨ "Right",22,1,false, "", "",24⟩]):=by kernel_rfl
def JA:prog.underlying 32=some (.struct #[⟨ "Rule",5,0,false, "", "",0⟩,⟨ "Seq",24,1,false, "", "",8⟩,⟨ "Main",27,3,false, "", "",56⟩,⟨ "Term",29,7,false, "", "",128⟩,⟨ "Name",9,10,false, "", "",176⟩,⟨ "Sub",30,11,false, "", "",192⟩]):=by kernel_rfl
def R0:prog.underlying 30=some (.slice 32):=by kernel_rfl
def nSeq:prog.cellsOf 24=2:=by kernel_rfl
def JB:prog.cellsOf 32=12:=by kernel_rfl
mutual
def JC:∀t:Tm,wTm t<=2*rf t
 | .mk _ n us=>by have:=CB us;simp only[wTm,rf];omega
def CB:∀l:List Tm,wTms l<=2*ns l
 | []=>eu _
 | a::l=>by have:=JC a;have:=CB l;simp only[wTms,ns];omega
end
mutual
def JD:∀f:Fm,wFm f<=2*rh f
 | .mk _ n us sub=>by have:=CB us;have:=yn sub;simp only[wFm,rh];omega
def yn:∀l:List Fm,wFms l<=2*oo l
 | []=>eu _
 | a::l=>by have:=JD a;have:=yn l;simp only[wFms,oo];omega
end
section
variable {H:Type}{enc:TypeId×Value->H}{w:World}{spare:Nat->Bool}{held:Bool}
def RQ (d:DataW H)(s:Sq)(x:IV):Prop:=IsSq s x/\wFms s.l+wFms s.r<=2*uptoBulk d
def R1 (O:Nat)(cs:List Value)(y:DataW H×List MemPlace)(h:DataW.trod enc prog w 0 spare held O 24 cs=some y)(hb:uptoBulk y.1<=1048576):∃s x,VL 0 (L0 w) w cs x.cells/\RQ y.1 s x:=by
 obtain⟨ys,n,rfl,rfl,hl,J,hf⟩:=DataW.trod_struct uSeq h
 match ys,J with
 | [y0,y1],_ =>
  rw[nSeq] at hl
  match cs,hl with
  | [c0,c1],_ =>
   have h0:=hf 0 _ rfl;have h1:=hf 1 _ rfl;simp only[lh,i_] at h0 h1;simp only[ff,gE,uptoBulk,uptoBulkAll] at hb;obtain⟨v0,G,D,l0,e0,aa,ac,af,ak⟩:=AF h0 (by omega) (λm _=>AG m);obtain⟨v1,E,A,l1,e1,U,ab,ae,aj⟩:=AF h1 (by omega) (λm _=>AG m);cases e0;cases e1;refine⟨⟨l0,l1⟩,.agg [.sl G D,.sl E A],VL.cons aa (VL.cons U VL.nil),⟨G,D,E,A,rfl,ac,af,ab,ae⟩,?_⟩;have:=yn l0;have:=yn l1;simp only[ff,gE,uptoBulk,uptoBulkAll];omega
def JE:∀ {us:List Tr}{A:List IV},us.length=A.length->(∀(i:Nat)(a:Tr)(x:IV),us[i]?=some a->A[i]?=some x->IsTr a x)->IsTrs us A
 | [],A,h,_=>by simpa[IsTrs] using h.symm
 | a::us,[],h,_=>by simp at h
 | a::us,x::A,h,D=>⟨x,A,rfl,D 0 a x rfl rfl,JE (by simpa using h) (λi b y G E=>D (i+1) b y (by simpa using G) (by simpa using E))⟩
def JG:∀ {us:List Tr}{ds:List (DataW H)},us.length=ds.length->(∀(i:Nat)(a:Tr)(d:DataW H),us[i]?=some a->ds[i]?=some d->wTr a+a.steps<=2*uptoBulk d)->wTrs us+gk us<=2*uptoBulkAll ds
 | [],ds,h,_=>by simp[wTrs,gk]
 | a::us,[],h,_=>by simp at h
 | a::us,x::D,h,A=>by
  have h1:=A 0 a x rfl rfl;have h2:=JG (us:=us) (ds:=D) (by simpa using h) (λi b y G E=>A (i+1) b y (by simpa using G) (by simpa using E));simp only[wTrs,gk,uptoBulkAll];omega
def RR (d:DataW H)(t:Tr)(x:IV):Prop:=IsTr t x/\wTr t+t.steps<=2*uptoBulk d
def RR.cells {d:DataW H}{t:Tr}{x:IV}(h:RR d t x):x.cells.length=12:=by
 obtain⟨_,_,_,_,_,_,_,_,_,_,_,_,_,_,_,_,_,_,rfl⟩:=fY h.1;rfl
def R2 {D:Nat}{cs:List Value}{y:DataW H×List MemPlace}(h:DataW.trod enc prog w 0 spare held D 30 cs=some y)(hb:uptoBulk y.1<=1048576)
  (IH:∀(n:Nat),n<D->∀(cs:List Value) (y:DataW H×List MemPlace),DataW.trod enc prog w 0 spare held n 32 cs=some y->uptoBulk y.1<=1048576->∃t x,VL 0 (L0 w) w cs x.cells/\RR y.1 t x) :
  ∃v J G ts,cs=[v]/\V 0 (L0 w) w v (.sl J G)/\okEs J 12/\IsTrs ts G/\wTrs ts+gk ts+1<=2*uptoBulk y.1:=by
 obtain⟨v,J,G,ts,rfl,hv,O,hl,hc⟩:=AB (H:=H) (P:=prog) (d:=y.1) (p:=y.2) RR R0 JB (by decide) h (λA sp e=>by
   have:=ov A sp;have:=wx A;rw[<- e] at *;omega) (λd t x h=>h.cells) (λn hn cs' z q ⟨A,sp,he,hm⟩ hz=>by
   have:=ov A sp;have:=wv hm;rw[he] at hb;exact IH n (by omega) cs' (z,q) hz (show uptoBulk z<=1048576 by omega))
 refine⟨v,J,G,ts,rfl,hv,O,?_⟩;rcases hc with⟨hd,rfl⟩|⟨A,sp,hd,ai,hr⟩
 ·obtain rfl:ts=[]:=mn.1 (by simpa using hl);exact⟨rfl,by rw[hd];simp[wTrs,gk,uptoBulk]⟩
 ·have U:∀(i:Nat) (a:Tr),ts[i]?=some a->∃x d,G[i]?=some x/\A[i]?=some d/\RR d a x:=λi a E=>by
   have U:=(lGs E).1;exact⟨_,_,eN (by omega),eN (by omega),hr i _ _ _ (eN (by omega)) E (eN (by omega))⟩
  refine⟨JE hl (λi a x E hx=>?_),?_⟩
  ·obtain⟨x',d,h1,h2,h3⟩:=U i a E;rw[hx] at h1;cases h1;exact h3.1
  ·have:=JG (us:=ts) (ds:=A) (by omega) (λi a d E aa=>by
    obtain⟨x',d',h1,h2,h3⟩:=U i a E;rw[aa] at h2;cases h2;exact h3.2)
   have:=ov A sp;grind
def cs12 {cs:List Value}(h:cs.length=12):∃a b c d e f g h i j k l,cs=[a,b,c,d,e,f,g,h,i,j,k,l]:=by
 match cs,h with
 | [a,b,c,d,e,f,g,h,i,j,k,l],_=>exact⟨a,b,c,d,e,f,g,h,i,j,k,l,rfl⟩
def NH:∀(A:Nat)(cs:List Value)(y:DataW H×List MemPlace),DataW.trod enc prog w 0 spare held A 32 cs=some y->uptoBulk y.1<=1048576->∃t x,VL 0 (L0 w) w cs x.cells/\RR y.1 t x:=by
 intro A
 induction A using Nat.strongRecOn with
 | ind A IH =>
  intro cs y h hb;obtain⟨ys,n,rfl,rfl,hl,J,E⟩:=DataW.trod_struct JA h
  match ys,J with
  | [y0,y1,y2,y3,y4,y5],_ =>
   rw[JB] at hl;obtain⟨c0,c1,c2,c3,c4,c5,c6,c7,c8,c9,aJ,aI,rfl⟩:=cs12 hl;have h0:=E 0 _ rfl;have h1:=E 1 _ rfl;have h2:=E 2 _ rfl;have h3:=E 3 _ rfl;have h4:=E 4 _ rfl;have h5:=E 5 _ rfl;simp only[lh,i_] at h0 h1 h2 h3 h4 h5;simp only[ff,gE,uptoBulk,uptoBulkAll] at hb;obtain⟨op,e0,rfl,D⟩:=DataW.trod_int AD h0;obtain⟨s,xs,ac,af,ay⟩:=R1 n _ _ h1 (by omega);obtain⟨f,xf,ae,O,aB⟩:=AG n _ _ h2 (by omega);obtain⟨t,xt,ab,G,aw⟩:=FI n _ _ h3 (by omega);obtain⟨nm,e4,hn,az⟩:=AE h4 (by omega);obtain⟨v,tg,xb,ts,e5,hv,av,hts,aD⟩:=R2 h5 (by omega) (λm hm=>IH m (by omega));cases e0;cases e4;cases e5;have D:0<=op/\op<256:=by
    simp only[Lit.wf,IntKind.min,IntKind.max,IntKind.signed,IntKind.bits,bAt] at D;grind
   obtain⟨k,rfl⟩:=Int.eq_ofNat_of_zero_le D.1;obtain⟨tl,xl,tr,xr,rfl,k1,k2,k3,k4⟩:=af;have aC:=O;have ax:=G;obtain⟨o,fn,us,sub⟩:=f;obtain⟨ta,xa,tb,U,rfl,_⟩:=O.mk;obtain⟨b,un,uu⟩:=t;obtain⟨tu,xu,rfl,_⟩:=G.mk;refine⟨.mk k s (.mk o fn us sub) (.mk b un uu) nm ts,.agg [.raw (.int .u8 k),.sl tl xl,.sl tr xr,.raw (.int .u8 o),fn,.sl ta xa,.sl tb U,b,un,.sl tu xu,nm,.sl tg xb],
    VL.cons (.raw _ trivial) (ac.append (ae.append (ab.append (VL.cons hn (VL.cons hv VL.nil))))),?_,?_⟩
   ·simp only[IsTr];grind
   ·have:=JD (.mk o fn us sub);have:=JC (.mk b un uu);simp only[ff,gE,uptoBulk,uptoBulkAll,wTr,Tr.steps];omega
end
end Go.Proofs.Tryz
namespace Go.Proofs.Tryz
open Go Go.Iv Go.ChangeShapes Go.RowKit
open Go.Proofs.YtofmbookakncjabGreatDoor
set_option maxRecDepth 8000
def uRow:prog.underlying 256=some (.struct #[⟨ "right",4,0,false, "", "lyceum/syntax",0⟩,⟨ "schema",4,1,false, "", "lyceum/syntax",1⟩,⟨ "name",5,2,false, "", "lyceum/syntax",2⟩,⟨ "args",3,3,false, "", "lyceum/syntax",8⟩,⟨ "subs",3,4,false, "", "lyceum/syntax",16⟩]):=by kernel_rfl
def R3:prog.underlying 257=some (.array 17 256):=by kernel_rfl
def uInt:prog.underlying 3=some (.int .i64):=by kernel_rfl
def nRow:prog.cellsOf 256=5:=by kernel_rfl
def R4:prog.cellsOf 257=85:=by kernel_rfl
def gRows:prog.globalNamed "lyceum/syntax.rows" = some 0:=by kernel_rfl
def gRowsT:(prog.globals[0]?).map (·.type)=some 257:=by kernel_rfl
def gPow:prog.globalNamed "internal/strconv.uint64pow10" = some 2:=by kernel_rfl
def gPowT:(prog.globals[2]?).map (·.type)=some 345:=by kernel_rfl
def uPow:prog.underlying 345=some (.array 20 275):=by kernel_rfl
def uU64:prog.underlying 275=some (.int .u64):=by kernel_rfl
def nPow:prog.cellsOf 345=20:=by kernel_rfl
def nU64:prog.cellsOf 275=1:=by kernel_rfl
section
variable {H:Type}{enc:TypeId×Value->H}{w:World}{spare:Nat->Bool}{held:Bool}
def rowD (op:Nat):DataW H:=.agg [.lit (.bool (iS op)),.lit (.bool (zY op)),.lit (.int .u8 (jz op)),.lit (.int .i64 (jr op)),.lit (.int .i64 (js op))]
def rowV (op:Nat):List Value:=[.bool (iS op),.bool (zY op),.int .u8 (jz op),.int .i64 (jr op),.int .i64 (js op)]
def R5 {G:Nat}{cs:List Value}{op:Nat}{p:List MemPlace}(h:DataW.trod enc prog w 0 spare held G 256 cs=some (rowD op,p)):cs=rowV op:=by
 obtain⟨ys,n,rfl,U,hl,A,D⟩:=DataW.trod_struct uRow h
 match ys,A with
 | [y0,y1,y2,y3,y4],_ =>
  rw[nRow] at hl
  match cs,hl with
  | [c0,c1,c2,c3,c4],_ =>
   have h0:=D 0 _ rfl;have h1:=D 1 _ rfl;have h2:=D 2 _ rfl;have O:=D 3 _ rfl;have J:=D 4 _ rfl;simp only[lh,i_] at h0 h1 h2 O J;obtain⟨b0,e0,rfl⟩:=DataW.trod_bool rv h0;obtain⟨b1,e1,rfl⟩:=DataW.trod_bool rv h1;obtain⟨b2,e2,rfl,_⟩:=DataW.trod_int AD h2;obtain⟨b3,e3,rfl,_⟩:=DataW.trod_int uInt O;obtain⟨b4,e4,rfl,_⟩:=DataW.trod_int uInt J;cases e0;cases e1;cases e2;cases e3;cases e4;have E:=eZ Prod.fst U;simp only[rowD,ff,gE,DataW.agg.injEq,List.cons.injEq,DataW.lit.injEq,Lit.bool.injEq,Lit.int.injEq,true_and,and_true] at E;obtain⟨rfl,rfl,rfl,rfl,rfl⟩:=E;rfl
def R6:(Rows.laid_lyceum_syntax_rows:DataW H)=.agg ((List.range 17).map rowD):=by rfl
def R7 {G:Nat}{cs:List Value}{p:List MemPlace}(h:DataW.trod enc prog w 0 spare held G 257 cs=some (Rows.laid_lyceum_syntax_rows,p)) :
  cs.length=85/\∀op,op<17->(cs.drop (op*5)).take 5=rowV op:=by
 obtain⟨ys,n,rfl,he,hl,J,U⟩:=DataW.trod_array R3 h;rw[R4] at hl;refine⟨hl,λop E=>?_⟩;have h1:=U op E;rw[nRow] at h1;have A:=eZ Prod.fst he;rw[R6] at A;simp only[DataW.agg.injEq] at A;have h2:(ys.map (·.1))[op]?=some (rowD op):=by
  rw[<- A,fH,List.getElem?_range E];rfl
 rw[fH] at h2;obtain⟨y,O,D⟩:=ga.1 h2;rw[O] at h1;obtain⟨y1,y2⟩:=y;simp only at D;subst D;exact R5 h1
end
def gl0:Nat->Option IV
 | 0=>some (.agg rowsL)
 | 2=>some (.agg pow10L)
 | _=>none
def G0:Gl gl0:=⟨rfl⟩
def T0:Gt gl0:=⟨rfl⟩
def X0 (w:World):WS:={ w:=w,L:=L0 w,st:=λ_=>none,d:=0 }
def R8 {cs:List Value}(hl:cs.length=85)(h:∀op,op<17->(cs.drop (op*5)).take 5=rowV op)(i:Nat)(r:Value)(c:IV)(E:cs[i]?=some r)(hc:rowsL[i]?=some c):c=.raw r/\nH r:=by
 have G:i<85:=by have:=(lGs E).1;omega
 have A:i / 5<17:=by omega
 have e:i=i / 5*5+i%5:=by omega
 have D:i%5<5:=Nat.mod_lt _ (by decide);have h1:(rowV (i / 5))[i%5]?=some r:=by
  rw[<- h _ A,iq,c_ D,mi,<- e];exact E
 have h2:(rowI (i / 5))[i%5]?=some c:=by
  rw[<- (Ek _ A).2,iq,c_ D,mi,<- e];exact hc
 generalize i%5=k at h1 h2 D
 match k,D with
 | 0,_=>cases h1;cases h2;exact⟨rfl,trivial⟩
 | 1,_=>cases h1;cases h2;exact⟨rfl,trivial⟩
 | 2,_=>cases h1;cases h2;exact⟨rfl,trivial⟩
 | 3,_=>cases h1;cases h2;exact⟨rfl,trivial⟩
 | 4,_=>cases h1;cases h2;exact⟨rfl,trivial⟩
def NK {W:World}(hL:laidMetH prog Rows.hintReturnsUptoRow.laid W):Go.Iv.Good ⟨prog,gl0,0⟩ (X0 W):=by
 obtain⟨ps,A,_⟩:=(show laidMet prog _ W from hL)
 obtain⟨_,_,_,_,_,_,_,_,_,_,A,_⟩:=A;obtain⟨_,_,_,_,_,_,_,_,_,_,A,_⟩:=A;obtain⟨g1,t1,J,f1,p1,q1,aq,an,al,av,A,_⟩:=A;obtain⟨g2,t2,ag,f2,p2,q2,ao,am,ak,au,_,_⟩:=A;obtain rfl:=fA (gPow.symm.trans aq);obtain rfl:=fA (gPowT.symm.trans an);obtain rfl:=fA (gRows.symm.trans ao);obtain rfl:=fA (gRowsT.symm.trans am);have ac:=Lib.cells_of_tab (zs:=Lib.pow10Tab) uPow uU64 nU64 nPow av;have G:=R7 au;have hb:∀(n:String) (g:Nat) (cs:Array Value),prog.globalNamed n=some g->W.var? prog n=some cs->∃T f,W.heap[g]?=some (.cells cs T f):=by
  intro n g cs hn hv;unfold World.var? at hv;rw[hn,Option.bind_some] at hv;split at hv
  ·rename_i c t f hh;cases hv;exact⟨_,_,hh⟩
  ·cases hv
 obtain⟨T1,af,ab⟩:=hb _ _ _ gPow al;obtain⟨T2,ae,aa⟩:=hb _ _ _ gRows ak;have row:∀(g:Nat) (cs:Array Value) (T:TypeId) (f:Nat×Nat) (xs:List IV),W.heap[g]?=some (.cells cs T f)->cs.size=xs.length->(∀(i:Nat) (r:Value) (c:IV),cs.toList[i]?=some r->xs[i]?=some c->c=.raw r/\nH r) →
   V 0 (L0 W) W (.pointer (some ⟨g,0,none⟩)) (.cptr (.agg xs)):=by
  intro g cs T f xs hh hl h;refine .cptr _ _ cs.toList rfl (by simpa[IV.cells] using hl) ?_ (λi r E=>?_) (λi r c E hc=>?_)
  ·show 0+cs.toList.length<=L0 W g;simp[L0,hh]
  ·show W.cell? ⟨g,0+i,none⟩=some r;simp only[World.cell?,hh,eT];simpa using E
  ·obtain⟨rfl,hk⟩:=h i r c E hc;exact .raw _ hk
 have hp:∀(i:Nat) (r:Value) (c:IV),J.toList[i]?=some r->pow10L[i]?=some c->c=.raw r/\nH r:=by
  intro i r c E hc;rw[ac,fH] at E;unfold pow10L at hc;rw[fH] at hc;obtain⟨z,hz,rfl⟩:=ga.1 E;rw[hz] at hc;cases hc;exact⟨rfl,trivial⟩
 have U:J.size=pow10L.length:=by
  rw[<- kN,ac];simp[pow10L]
 have O:ag.size=rowsL.length:=by
  rw[<- kN,G.1];rfl
 refine⟨λb o h=>(by cases h),λg x D=>?_,fe _,λb hb=>?_,λg x D=>?_,λ_=>fe _⟩
 ·match g,D with
  | 0,D=>cases D;exact row 0 ag T2 ae _ aa O (λi r c E hc=>R8 G.1 G.2 i r c E hc)
  | 2,D=>cases D;exact row 2 J T1 af _ ab U hp
 ·show L0 W b=0;unfold L0;rw[Array.getElem?_eq_none (show W.heap.size<=b from hb)]
 ·match g,D with
  | 0,D=>cases D;exact⟨T2,ae == (0,0),by show shq W 0=_;simp[shq,aa,O,IV.cells]⟩
  | 2,D=>cases D;exact⟨T1,af == (0,0),by show shq W 2=_;simp[shq,ab,U,IV.cells]⟩
def R9 {W:World}{X':WS}(h:Ext (X0 W) X'):Below W.heap.size W X'.w :=
 ⟨h.os,h.tape,h.output,h.size,λk A=>(h.keep k A rfl).1⟩
def R_:laidOutB prog=true:=by kernel_rfl
def JH {H:Type}{enc:TypeId×Value->H}{W W':World}(E:Below W.heap.size W W')(sp:Nat->Bool):∀ {ts:List TypeId} {vs:List Value} {ds:List (DataW H)} {ps:List MemPlace},
  (∀t∈ts,prog.readableRec t=true/\t<prog.types.size)->DataW.TrodAll enc prog W 0 (λ_=>true) true ts vs ds ps->(∀p∈ps,p.block<W.heap.size)->(∀p∈ps,sp p.block=true) →
  DataW.TrodAll enc prog W' 0 sp true ts vs ds ps
 | [],vs,ds,ps,_,h,_,_=>by
  obtain⟨rfl,rfl,rfl⟩:=trodAll_nil h;rfl
 | t::ts,vs,ds,ps,ht,h,D,A=>by
  obtain⟨v,G,d,J,a,b,rfl,rfl,rfl,h1,h2⟩:=trodAll_cons h;refine⟨a,b,WideElems.Trod_stays R_ (ht t (by simp)).1 (ht t (by simp)).2 h1 (λp hp=>E.same (D p (by simp[hp]))) (λp hp=>A p (by simp[hp])),?_,rfl⟩;exact JH E sp (λt h=>ht t (by simp[h])) h2 (λp hp=>D p (by simp[hp])) (λp hp=>A p (by simp[hp]))
def NJ {H:Type}{enc:TypeId×Value->H}{f:Func}{s:ChangeSpec}{af:FuncId}{W:World}{args:Array Value}{ds gs:List (DataW H)}{G:List MemPlace}{ab:List IV}
  (A:s.vars=[]) (hW:DataW.Whole enc prog f.params.toList s.vars false W args.toList ds gs G) (aa:s.fn H (ds++gs)={ results:=[.lit (.bool true)],args:=ds })
  (J:f.resultTypes=#[4]) (O:∀t∈f.params.toList,prog.readableRec t=true/\t<prog.types.size) (hg:Go.Iv.Good ⟨prog,gl0,0⟩ (X0 W)) (hv:VL 0 (L0 W) W args.toList ab)
  (hc:ICall prog gl0 af ab (λ_=>none) (λr st'=>r=true/\st'=λ_=>none)) :
  Calls prog af args W λe W'=>∃v,e=.returned v/\s.post enc prog f false true false false W args v W':=by
 refine (hc 0 (X0 W) args.toList hg rfl hv).mono ?_;rintro e W' ⟨v,rfl,X',x,rfl,ao,he,E,rfl,_⟩;obtain rfl:=ev E;have hb:=R9 he;refine⟨_,rfl,?_⟩;have ae:=hW;obtain⟨p,q,hA,hV,rfl,hz,_⟩:=hW;rw[A] at hV;have ai:gs=[]/\q=[]:=by
  cases gs with
  | nil=>exact⟨rfl,hV⟩
  | cons _ _=>exact absurd hV (by simp[DataW.TrodVars])
 obtain⟨rfl,rfl⟩:=ai;have U:∀x∈p,x.block<W.heap.size:=λx E=>by simpa using ae.lt x (by simpa using E)
 have D:∀sp:Nat->Bool,(∀x∈p,sp x.block=true)->DataW.TrodAll enc prog X'.w 0 sp true f.params.toList args.toList (s.fn H (ds++[])).args p:=λsp ah=>by
  rw[aa];exact JH hb sp O hA U ah
 have hr:∀(b:Nat) (sp:Nat->Bool) (hd:Bool),DataW.TrodAll enc prog X'.w b sp hd f.resultTypes.toList ((Value.bool true).resultList f.resultTypes.size) (s.fn H (ds++[])).results []:=λ_ _ _=>by
  rw[aa,J];exact trodAll_cons_mk (shut_bool rv _) trodAll_mk0
 have ac:∀sp:Nat->Bool,DataW.TrodVars enc prog X'.w sp s.vars (s.fn H (ds++[])).vars []:=λ_=>by
  rw[A,aa];rfl
 have ag:∀x∈p,(λb=>decide (b<W.heap.size)) x.block=true:=λx E=>by simpa using U x E
 refine⟨ds,[],p++[],[],p,[],ae,hr _ _ _,D _ ag,ac _,World.keptBut_mono (λx E=>⟨E,Or.inr (by simpa using E)⟩) (hb.frame (·∈p++[])),λ_=>⟨ok_one J rfl (okWide_bool_mk rv _),_,_,([]++p)++[],
  ⟨[]++p,[],trodAll_append (D _ (λ_ _=>rfl)) (hr _ _ _),ac _,rfl,?_,λh=>by cases h⟩,λx E _=>by simpa using E⟩⟩
 intro b off hp;rw[hb.frozen (p:=⟨b,off,none⟩) (U (.cell b off) (by simpa using hp))];exact hz b off (by simpa using hp)
def NI {W:World}{base:Nat}{v:Value}{t:Tr}{x:IV}(h:Value.okWide prog W .any base 32 v)(A:VL 0 (L0 W) W v.cells.toList x.cells)(D:IsTr t x):V 0 (L0 W) W v x:=by
 obtain⟨cs,rfl,_⟩:=WideShapes.okWide_struct JA h;obtain⟨_,_,_,_,_,_,_,_,_,_,_,_,_,_,_,_,_,_,rfl⟩:=fY D;cases cs;exact A.agg
def NG {W:World}{base:Nat}{v:Value}(h:Value.okWide prog W .any base 4 v):∃b:Bool,v=.bool b/\V 0 (L0 W) W (.bool b) b:=by
 simp only[Value.okWide,rv,Cell.okWide] at h;cases v<;>simp_all [Cell.ok];exact .raw _ trivial
def tab32:List Int:=[0,1,28,2,29,14,24,3,30,22,20,15,25,17,4,8,31,27,13,23,21,19,16,7,26,12,18,6,11,5,10,9]
def tab64:List Int:=[0,1,56,2,57,49,28,3,61,58,42,50,38,29,17,4,62,47,59,36,45,43,51,22,53,39,33,30,24,18,12,5,63,55,48,27,60,41,37,16,46,35,44,21,52,32,23,11,54,26,40,15,34,20,31,10,25,14,19,9,13,8,7,6]
def lay (cs:List Value):Obj->Obj
 | .cells _ t frozen=>.cells cs.toArray t frozen
 | o=>o
noncomputable def AH (os:Os):World :=
 { World.holding prog os ⟨#[],#[],[]⟩ with heap:=((((World.holding prog os ⟨#[],#[],[]⟩).heap.modify 0 (lay ((List.range 17).flatMap rowV))).modify 2 (lay (Lib.pow10Tab.map λz=>.int .u64 z))).modify 3 (lay (tab32.map λz=>.int .u8 z))).modify 4 (lay (tab64.map λz=>.int .u8 z)) }
def NQ (os:Os)(args:Array Value):laidMet prog Rows.hintReturnsUptoRow.laid ((AH os).forCall (λ_ _=>0) ⟨#[],args,[]⟩).memory :=
 laidMet_of_run' 8 (by kernel_rfl) (by kernel_rfl)
end Go.Proofs.Tryz
namespace Go.Proofs.Tryz
open Go Go.Iv
set_option maxRecDepth 4000
def CC:∀l:List IV,(∀x∈l,∃v,x=.raw v)->ages l=l
 | [],_=>rfl
 | x::l,h=>by
  obtain⟨v,rfl⟩:=h x (by simp);simp only[ages,age,CC l λy A=>h y (by simp[A])]
def NN:∀g x,gl0 g=some x->age x=x:=by
 intro g x D
 match g,D with
 | 0,D =>
  cases D;simp only[age];rw[CC _ λy A=>?_];obtain⟨op,_,A⟩:=gJ.1 A;unfold rowI at A;simp only[eK,h_,gq] at A;rcases A with rfl|rfl|rfl|rfl|rfl<;>exact⟨_,rfl⟩
 | 2,D =>
  cases D;simp only[age];rw[CC _ λy A=>?_];obtain⟨z,_,rfl⟩:=eh.1 A;exact⟨_,rfl⟩
