/- Walks: what is told about the first goal -/
import Derived.Test.YtigeiecfkoimpaaGreatDoorQG
set_option linter.all false
open Nat renaming reduceEqDiff → zE,reduceBEq → zB,reduceAdd → zA,reduceMul → zM,reduceLeDiff → zL
namespace Go.Proofs.Tryz
open Go Go.Iv
set_option maxRecDepth 4000
variable (gl:Nat->Option IV)
abbrev advZ:List IV:=[nlS,.raw (.int .i64 0),.raw (.bool false),.raw (.int .u8 0),.raw (.string ⟨#[]⟩),nlS,nlS,.raw (.int .u8 0),nlS]
def onR (r:Nat):Bool:=decide (r=4\/r=6\/r=8\/r=18\/r=10\/r=12)
def P0 (r:Nat)(st:ISt):ICall prog gl 73 [.raw (.int .u8 (r:Int))] st (λx st'=>x=(onR r:Bool)/\st'=st):=by
 refine iI func73 ?_;by_cases O:r=4
 ·simp only[go_sem,reduceCtorEq,show decide ((r:Int)=4)=true from dEt (by omega)];exact c_ ⟨by simp[onR,O],rfl⟩
 have d4:decide ((r:Int)=4)=false:=dEf (by omega);by_cases J:r=6
 ·simp only[go_sem,zE,reduceCtorEq,d4,show decide ((r:Int)=6)=true from dEt (by omega)];exact c_ ⟨by simp[onR,J],rfl⟩
 have d6:decide ((r:Int)=6)=false:=dEf (by omega);by_cases G:r=8
 ·simp only[go_sem,zE,reduceCtorEq,d4,d6,show decide ((r:Int)=8)=true from dEt (by omega)];exact c_ ⟨by simp[onR,G],rfl⟩
 have d8:decide ((r:Int)=8)=false:=dEf (by omega);by_cases g18:r=18
 ·simp only[go_sem,zE,reduceCtorEq,d4,d6,d8,show decide ((r:Int)=18)=true from dEt (by omega)];exact c_ ⟨by simp[onR,g18],rfl⟩
 have d18:decide ((r:Int)=18)=false:=dEf (by omega);by_cases E:r=10
 ·simp only[go_sem,zE,reduceCtorEq,d4,d6,d8,d18,show decide ((r:Int)=10)=true from dEt (by omega)];exact c_ ⟨by simp[onR,E],rfl⟩
 have d10:decide ((r:Int)=10)=false:=dEf (by omega);by_cases D:r=12
 ·simp only[go_sem,zE,reduceCtorEq,d4,d6,d8,d18,d10,show decide ((r:Int)=12)=true from dEt (by omega)];exact c_ ⟨by simp[onR,D],rfl⟩
 have d12:decide ((r:Int)=12)=false:=dEf (by omega);simp only[go_sem,zE,reduceCtorEq,d4,d6,d8,d18,d10,d12];exact c_ ⟨by simp[onR,O,J,G,g18,E,D],rfl⟩
def D1J (E:Tag)(pl:List IV)(h:Int)(b:Nat)(c0 c1:IV)(z:List IV)(S:ISt)(D:Array Bool):Kt:=λad fr st ds=>(∀s,ad s=none)/\ds=[]/\fr 0=(pt b)/\fr 1=.iv (.cptr (.sl E pl))/\fr 2=.iv (.cptr h) /\
 (D.getD 0 false=true->fr 4=(pt b))/\(D.getD 1 false=true->fr 5=(pt b))/\(D.getD 2 false=true->fr 6=.iv (.sl E pl))/\(D.getD 3 false=true->fr 7=h)/\(D.getD 4 false=true->fr 8=(pt b))/\(D.getD 5 false=true->fr 9=(pt b)) /\
 (D.getD 7 false=true->fr 10=(pt b))/\(D.getD 8 false=true->fr 11=.iv (.raw (.pointer (some ⟨b,1,none⟩))))/\st=S.put b (some (.box ((if D.getD 6 false=true then .sl E pl else c0)::(if D.getD 9 false=true then h else c1)::z)))
section
variable (c0 c1 c2 c3 c4 c5 c6 c7 c8:IV)(b:Nat)(st:ISt)(hst:st b=some (.box [c0,c1,c2,c3,c4,c5,c6,c7,c8]))
include hst
def P1 (tg:Tag)(pl:List IV)(h:Int):ICall prog gl 71 [pt b,.cptr (.sl tg pl),.cptr h] st (λ_ st'=>st'=st.put b (some (.box [.sl tg pl,h,c2,c3,c4,c5,c6,c7,c8]))):=by
 refine ICall.intro (c:=cf prog gl [2] [(0,[])]) func71 rfl (by show _<=12;simp) (by kernel_rfl) ?_;have hS:st=st.put b (some (.box (c0::c1::[c2,c3,c4,c5,c6,c7,c8]))):=by
  funext c;by_cases hc:c=b
  ·rw[hc,b_];exact hst
  ·rw[dz hc]
 simp only[go_sem];refine wZ (D1J tg pl h b c0 c1 [c2,c3,c4,c5,c6,c7,c8] st) ?_ ?_ _ _ _ _ _ _ rfl ?_
 ·intro G ad fr ai ds ag hJ i hi;replace ag:G.size=10:=ag;obtain⟨aA,o,ho,E⟩:=mem_ready.1 hi;have ay:i<10:=(iN.1 ho).1;have e':∀j,(G.setIfInBounds i true).getD j false=if i=j then true else G.getD j false:=λj=>GS (by omega)
  obtain⟨D,rfl,f0,f1,f2,g0,g1,g2,g3,g4,g5,O,J,rfl⟩:=hJ;rcases (show i=0\/i=1\/i=2\/i=3\/i=4\/i=5\/i=6\/i=7\/i=8\/i=9 by omega) with rfl|rfl|rfl|rfl|rfl|rfl|rfl|rfl|rfl|rfl
  all_goals obtain rfl:_=o:=eC ho
  ·simp only[go_sem,jC,f0,pt];simp only[D1J,e',iteT,iteF,reduceCtorEq,fA];exact⟨kX D _,trivial,f0,f1,f2,rfl,g1,g2,g3,g4,g5,O,J,trivial⟩
  ·simp only[go_sem,jC,f0,pt];simp only[D1J,e',zE,iteT,iteF,reduceCtorEq,fA];exact⟨kX D _,trivial,f0,f1,f2,g0,rfl,g2,g3,g4,g5,O,J,trivial⟩
  ·simp only[go_sem,jC,D,f1,fits];simp only[D1J,e',zE,iteT,iteF,reduceCtorEq,fA];exact⟨kX D _,trivial,f0,f1,f2,g0,g1,rfl,g3,g4,g5,O,J,trivial⟩
  ·simp only[go_sem,jC,D,f2,fits];simp only[D1J,e',zE,iteT,iteF,reduceCtorEq,fA];exact⟨kX D _,trivial,f0,f1,f2,g0,g1,g2,rfl,g4,g5,O,J,trivial⟩
  ·have q0:=g0 (E ⟨0,.data⟩ (by simp) rfl);simp only[go_sem,jC,D,q0,pt];simp only[D1J,e',zE,iteT,iteF,reduceCtorEq,fA];exact⟨kX D _,trivial,f0,f1,f2,g0,g1,g2,g3,rfl,g5,O,J,trivial⟩
  ·have q4:=g4 (E ⟨4,.data⟩ (by simp) rfl);simp only[go_sem,jC,D,q4,pt];simp only[D1J,e',zE,iteT,iteF,reduceCtorEq,fA];exact⟨kX D _,trivial,f0,f1,f2,g0,g1,g2,g3,g4,rfl,O,J,trivial⟩
  ·have q5:=g5 (E ⟨5,.data⟩ (by simp) rfl);have q2:=g2 (E ⟨2,.data⟩ (by simp) rfl);simp only[go_sem,zA,zL,jC,D,q5,q2,pt,b_,eN];simp only[D1J,e',zE,iteT,iteF,reduceCtorEq];exact⟨D,trivial,f0,f1,f2,g0,g1,g2,g3,g4,g5,O,J,trivial⟩
  ·have q1:=g1 (E ⟨1,.data⟩ (by simp) rfl);simp only[go_sem,jC,D,q1,pt];simp only[D1J,e',zE,iteT,iteF,reduceCtorEq,fA];exact⟨kX D _,trivial,f0,f1,f2,g0,g1,g2,g3,g4,g5,rfl,J,trivial⟩
  ·have q7:=O (E ⟨7,.data⟩ (by simp) rfl);simp only[go_sem,jC,D,q7,pt];simp only[D1J,e',zE,iteT,iteF,reduceCtorEq,fA];exact⟨kX D _,trivial,f0,f1,f2,g0,g1,g2,g3,g4,g5,O,rfl,trivial⟩
  ·have q8:=J (E ⟨8,.data⟩ (by simp) rfl);have q3:=g3 (E ⟨3,.data⟩ (by simp) rfl);simp only[go_sem,zA,zL,jC,D,q8,q3,b_,eN];simp only[D1J,e',zE,iteT,iteF,reduceCtorEq];exact⟨D,trivial,f0,f1,f2,g0,g1,g2,g3,g4,g5,O,J,trivial⟩
 ·intro G ad fr ai ds ag hr hJ;have hl:=GU (by decide) ag hr;obtain⟨_,rfl,_,_,_,_,_,_,_,_,_,_,_,rfl⟩:=hJ;rw[hl 6 (by decide),hl 9 (by decide)];simp only[go_sem];exact c_ rfl
 ·exact⟨λ_=>rfl,rfl,rfl,rfl,rfl,nofun,nofun,nofun,nofun,nofun,nofun,nofun,nofun,hS⟩
def P2 (r:Nat)(o:Int)(n:ByteArray)(t1:Tag)(E:List IV)(t2:Tag)(D:List IV)(t3:Tag)(G:List IV):ICall prog gl 72 [pt b,.cptr (.agg [.raw (.int .u8 (r:Int)),.raw (.int .u8 o),n,.sl t1 E,.sl t2 D,.sl t3 G])] st (λ_ st'=>st'=st.put b (some (.box [c0,c1,(onR r:Bool),.raw (.int .u8 o),n,.sl t1 E,.sl t2 D,c7,c8]))):=by
 have J:=λst=>P0 gl r st;refine iI func72 ?_;simp only[go_sem,zE,zB,zA,zL,reduceCtorEq,fits,pt];refine (J _).q ?_;simp only[go_sem,zE,zA,zL,hst,b_,eN];exact c_ rfl
def P3 (r:Nat)(o n a D ps:IV):ICall prog gl 74 [pt b,.cptr (.agg [.raw (.int .u8 (r:Int)),o,n,a,D,ps])] st (λ_ st'=>st'=st.put b (some (.box [c0,c1,c2,c3,c4,c5,c6,.raw (.int .u8 (r:Int)),c8]))):=by
 refine iI func74 ?_;simp only[go_sem,zE,zA,zL,fits,pt,hst];exact c_ rfl
def P4 (r o n a E:IV)(t3:Tag)(D:List IV):ICall prog gl 75 [pt b,.cptr (.agg [r,o,n,a,E,.sl t3 D])] st (λ_ st'=>st'=st.put b (some (.box [c0,c1,c2,c3,c4,c5,c6,c7,.sl t3 D]))):=by
 refine iI func75 ?_;simp only[go_sem,zE,zA,zL,fits,pt,hst];exact c_ rfl
end
def degI (pl h m:IV):IV:=.agg [.fn (.func 71) [] [.cptr pl,.cptr h],.fn (.func 72) [] [.cptr m],.fn (.func 74) [] [.cptr m],.fn (.func 75) [] [.cptr m]]
def P5 (D:Tag)(pl:List IV)(h:Int)(m:Nat×Fm×List Sn)(z:IV)(E:gV m z)(st:ISt):ICall prog gl 41 [.sl D pl,h,z] st (λr st'=>r=degI (.sl D pl) h z/\st'=st):=by
 obtain⟨o,n,t1,x1,t2,x2,t3,x3,rfl,_⟩:=E;refine ICall.intro (c:=cf prog gl [] [] [3,4,5]) func41 rfl (by show _<=12;simp) (by kernel_rfl) ?_;have O:∀i,fldI prog 88 i=none:=λi=>by
  cases h:fldI prog 88 i with
  | none=>rfl
  | some f =>
   obtain⟨fs,_,h1,_⟩:=tA (fo:=f.1) (ag:=f.2.1) (n:=f.2.2) h;have h2:(match prog.underlying 88 with|some (.struct _)=>true|_=>false)=false:=by kernel_rfl
   rw[h1] at h2;cases h2
 have ha:arrI prog 88=some (4,false,1):=by kernel_rfl
 have G:∀b:Option (Nat×Bool×Nat),orO none b=b:=λ_=>rfl;have J:gP prog 88=true:=by kernel_rfl
 simp only[go_sem,zE,zA,zM,zL,fits,O,ha,G,J,eJ];exact c_ ⟨rfl,rfl⟩
def Hh:∀(l:List (List Nat×Tr))(ca:Nat),(fz (badN ca) l).2<=270
 | [],_=>ed _
 | (p,t)::l,ca=>by
  rw[fz];split
  ·exact Hh l ca
  ·show badN ca t<=270;unfold badN;split<;>omega
def P6 (ca:Nat)(t:Tr):(hCk ca t).2<=270:=by
 unfold hCk;split
 ·split
  ·decide
  ·exact Hh _ _
 ·decide
def advK (pl:IV)(h:Int)(r:Nat)(o:Int)(n:ByteArray)(s1 D E:IV):Nat->List IV
 | 0=>advZ
 | 1=>pl::h::advZ.drop 2
 | 2=>[pl,h,(onR r:Bool),.raw (.int .u8 o),n,s1,D,.raw (.int .u8 0),nlS]
 | 3=>[pl,h,(onR r:Bool),.raw (.int .u8 o),n,s1,D,.raw (.int .u8 (r:Int)),nlS]
 | _=>[pl,h,(onR r:Bool),.raw (.int .u8 o),n,s1,D,.raw (.int .u8 (r:Int)),E]
def Ax (ca:Nat)(t:Tr)(h e:Nat)(m:Nat×Fm×List Sn)(F:Prop)(l:Nat)(r:IV):Prop :=
 ((hCk ca t).2≠0/\r=.tup [.agg advZ,((hCk ca t).2:Int)])\/((hCk ca t).2=0/\eY t=[]/\r=.tup [.agg advZ,(271:Int)]) \/
  ((hCk ca t).2=0/\∃p ps D,eY t=p::ps/\okEs D 1/\((e≠0/\r=.tup [.agg advZ,(e:Int)])\/(e=0/\F/\((h=0/\r=.tup [.agg (.sl D (plI p)::advZ.tail),(272:Int)])\/(0<h/\∃o n t1 J t2 G t3 E,gV m (.agg [.raw (.int .u8 (m.1:Int)),.raw (.int .u8 o),.raw (.string n),.sl t1 J,.sl t2 G,.sl t3 E]) /\
   r=.tup [.agg (advK (.sl D (plI p)) h m.1 o n (.sl t1 J) (.sl t2 G) (.sl t3 E) l),(0:Int)])))))
def Hi (ca:Nat)(t:Tr)(x:IV)(hx:IsTr t x)(h e:Nat)(he:e<272)(m:Nat×Fm×List Sn)(F:Prop)(G:Int)(l:Nat)(ao:¬ G<1)(an:¬ 4<G)(ay:G=l)(hF:∀st,ICall prog gl 40 [.raw (.int .u8 (ca:Int)),x] st (λr st'=>Al ca t h e m F r/\st'=st))(st:ISt) :
  ICall prog gl 14 [.raw (.int .u8 (ca:Int)),x,G] st (λr st'=>Ax ca t h e m F l r/\st'=st):=by
 obtain⟨rule,tl,xl,tr,xr,op,fn,ta,xa,tb,xb,v,un,tu,xu,n',ts,xs,rfl⟩:=ft hx;refine ICall.intro (c:=cf prog gl [12] []) func14 rfl (by show _<=54;simp) (by kernel_rfl) ?_;have d1:decide (G<1)=false:=dEf ao;have d2:decide (4<G)=false:=dEf an;simp only[go_sem,zE,zA,zL,reduceCtorEq,d1,d2];refine (hF _).mono ?_;rintro r st ⟨⟨h0,rfl⟩|⟨h0,E,rfl⟩|⟨h0,p,ps,J,E,O,⟨am,rfl⟩|⟨ae,hFF,⟨hh,rfl⟩|⟨hh,z,hz,rfl⟩⟩⟩,rfl⟩
 ·have d0:decide (((hCk ca t).2:Int)=272)=false:=dEf (by have:=P6 ca t;omega);have d3:decide (((hCk ca t).2:Int)=0)=false:=dEf (by omega);simp only[go_sem,zE,zA,zL,d0,d3];exact c_ ⟨.inl ⟨h0,rfl⟩,rfl⟩
 ·simp only[go_sem,zE,zA,zL,show decide ((271:Int)=272)=false from rfl,show decide ((271:Int)=0)=false from rfl];exact c_ ⟨.inr (.inl ⟨h0,E,rfl⟩),rfl⟩
 ·have d0:decide ((e:Int)=272)=false:=dEf (by omega);have d3:decide ((e:Int)=0)=false:=dEf (by omega);simp only[go_sem,zE,zA,zL,d0,d3];exact c_ ⟨.inr (.inr ⟨h0,p,ps,J,E,O,.inl ⟨am,rfl⟩⟩),rfl⟩
 ·simp only[go_sem,zE,zA,zL,fits,dC];exact c_ ⟨.inr (.inr ⟨h0,p,ps,J,E,O,.inr ⟨ae,hFF,.inl ⟨hh,rfl⟩⟩⟩),rfl⟩
 ·have ak:=hz;have au:=λst=>P5 gl J (plI p) (h:Int) m z hz st;obtain⟨o,nm,q1,z1,q2,z2,q3,z3,rfl,_⟩:=hz;simp only[go_sem,zE,zA,zL,show decide ((0:Int)=272)=false from rfl,dC];refine λb=>d_ λhb=>?_;refine (au _).mono ?_;rintro _ av ⟨rfl,ab⟩;subst ab;have ha:arrI prog 88=some (4,false,1):=by kernel_rfl
  have D:lenI prog 88=some (.arr 4):=by kernel_rfl
  simp only[go_sem];refine dt 4 (λk fr st' ds=>(∃j:Nat,j=min k l/\st'=st.put b (some (.box (advK (.sl J (plI p)) h m.1 o nm (.sl q1 z1) (.sl q2 z2) (.sl q3 z3) j))))/\fr 2=G/\fr 12=(pt b)/\fr 6=.box advZ/\fr 42=(degI (.sl J (plI p)) (h:Int) (.agg [.raw (.int .u8 (m.1:Int)),.raw (.int .u8 o),nm,.sl q1 z1,.sl q2 z2,.sl q3 z3]))/\fr 43=(k:Int)/\ds=[]) ?_ ?_ ?_
  ·simp only[go_sem,zE];exact⟨⟨0,by omega,rfl⟩,rfl,rfl⟩
  ·rintro k fr ag _ az ⟨⟨j,hj,rfl⟩,f2,f12,f6,f42,f43,rfl⟩;unfold degI at f42;by_cases ac:(k:Int)<G
   ·have dk:decide ((k:Int)<G)=true:=dEt ac;obtain rfl:j=k:=by omega
    rcases (show j=0\/j=1\/j=2\/j=3 by omega) with rfl|rfl|rfl|rfl
    ·simp only[go_sem,zE,zM,f2,f12,f42,f43,ha,D,pt,dk,show decide (((0:Nat):Int)<4)=true from rfl,show (0<=((0:Nat):Int)/\((0:Nat):Int)<((4:Nat):Int))=True from eT (by omega),show Int.toNat ((0:Nat):Int)=0 from rfl];refine (P1 gl _ _ _ _ _ _ _ _ _ b _ (b_ ..) _ _ _).mono ?_;rintro _ _ rfl;rw[eN];simp only[go_sem,zE,f2,f12,f6,f42,f43];exact⟨⟨1,by omega,rfl⟩,rfl,rfl,rfl⟩
    ·simp only[go_sem,zE,zA,zM,f2,f12,f42,f43,ha,D,pt,dk,show decide (((1:Nat):Int)<4)=true from rfl,show (0<=((1:Nat):Int)/\((1:Nat):Int)<((4:Nat):Int))=True from eT (by omega),show Int.toNat ((1:Nat):Int)=1 from rfl];refine (P2 gl _ _ _ _ _ _ _ _ _ b _ (b_ ..) _ _ _ _ _ _ _ _ _).mono ?_;rintro _ _ rfl;rw[eN];simp only[go_sem,zE,f2,f12,f6,f42,f43];exact⟨⟨2,by omega,rfl⟩,rfl,rfl,rfl⟩
    ·simp only[go_sem,zE,zA,zM,f2,f12,f42,f43,ha,D,pt,dk,show decide (((2:Nat):Int)<4)=true from rfl,show (0<=((2:Nat):Int)/\((2:Nat):Int)<((4:Nat):Int))=True from eT (by omega),show Int.toNat ((2:Nat):Int)=2 from rfl];refine (P3 gl _ _ _ _ _ _ _ _ _ b _ (b_ ..) _ _ _ _ _ _).mono ?_;rintro _ _ rfl;rw[eN];simp only[go_sem,zE,f2,f12,f6,f42,f43];exact⟨⟨3,by omega,rfl⟩,rfl,rfl,rfl⟩
    ·simp only[go_sem,zE,zA,zM,f2,f12,f42,f43,ha,D,pt,dk,show decide (((3:Nat):Int)<4)=true from rfl,show (0<=((3:Nat):Int)/\((3:Nat):Int)<((4:Nat):Int))=True from eT (by omega),show Int.toNat ((3:Nat):Int)=3 from rfl];refine (P4 gl _ _ _ _ _ _ _ _ _ b _ (b_ ..) _ _ _ _ _ _ _).mono ?_;rintro _ _ rfl;rw[eN];simp only[go_sem,zE,f2,f12,f6,f42,f43];exact⟨⟨4,by omega,rfl⟩,rfl,rfl,rfl⟩
   ·have dk:decide ((k:Int)<G)=false:=dEf ac;rcases (show k=1\/k=2\/k=3 by omega) with rfl|rfl|rfl
    ·simp only[go_sem,zE,zA,zM,f2,f12,f42,f43,ha,D,pt,dk,show decide (((1:Nat):Int)<4)=true from rfl,show (0<=((1:Nat):Int)/\((1:Nat):Int)<((4:Nat):Int))=True from eT (by omega),show Int.toNat ((1:Nat):Int)=1 from rfl];exact⟨⟨j,by omega,rfl⟩,f6,rfl,rfl⟩
    ·simp only[go_sem,zE,zA,zM,f2,f12,f42,f43,ha,D,pt,dk,show decide (((2:Nat):Int)<4)=true from rfl,show (0<=((2:Nat):Int)/\((2:Nat):Int)<((4:Nat):Int))=True from eT (by omega),show Int.toNat ((2:Nat):Int)=2 from rfl];exact⟨⟨j,by omega,rfl⟩,f6,rfl,rfl⟩
    ·simp only[go_sem,zE,zA,zM,f2,f12,f42,f43,ha,D,pt,dk,show decide (((3:Nat):Int)<4)=true from rfl,show (0<=((3:Nat):Int)/\((3:Nat):Int)<((4:Nat):Int))=True from eT (by omega),show Int.toNat ((3:Nat):Int)=3 from rfl];exact⟨⟨j,by omega,rfl⟩,f6,rfl,rfl⟩
  ·rintro fr ag _ ⟨⟨j,hj,rfl⟩,f2,f12,f6,f42,f43,rfl⟩;obtain rfl:j=l:=by omega
   have hr:=show Ax ca t h e m F j (.tup [.agg (advK (.sl J (plI p)) h m.1 o nm (.sl q1 z1) (.sl q2 z2) (.sl q3 z3) j),(0:Int)]) from .inr (.inr ⟨h0,p,ps,J,E,O,.inr ⟨ae,hFF,.inr ⟨hh,_,_,_,_,_,_,_,_,ak,rfl⟩⟩⟩);rcases (show j=1\/j=2\/j=3\/j=4 by omega) with rfl|rfl|rfl|rfl <;>
   ·simp only[go_sem,zE,zA,zL,f12,f6,f43,pt,advK,b_,show decide (((4:Nat):Int)<4)=false from rfl];exact eI (st':=st) (fb hb) ⟨hr,rfl⟩
def P7 (ca:Nat)(t:Tr)(h:Nat)(m:Nat×Fm×List Sn)(D:Int)(r:IV):Prop :=
 ((D<1\/4<D)/\r=.tup [.agg advZ,(2:Int)])\/(¬ (D<1\/4<D)/\(((hCk ca t).2≠0/\r=.tup [.agg advZ,((hCk ca t).2:Int)])\/((hCk ca t).2=0/\eY t=[]/\r=.tup [.agg advZ,(271:Int)]) \/
  ((hCk ca t).2=0/\∃p ps E,eY t=p::ps/\okEs E 1/\((h=0/\r=.tup [.agg (.sl E (plI p)::advZ.tail),(272:Int)])\/(0<h/\∃o n t1 O t2 J t3 G,gV m (.agg [.raw (.int .u8 (m.1:Int)),.raw (.int .u8 o),.raw (.string n),.sl t1 O,.sl t2 J,.sl t3 G]) /\
   r=.tup [.agg [.sl E (plI p),(h:Int),(onR m.1:Bool),.raw (.int .u8 o),.raw (.string n),.sl t1 O,.sl t2 J,.raw (.int .u8 (m.1:Int)),.sl t3 G],(0:Int)])))))
def Hj (ca:Nat)(t:Tr)(x:IV)(hx:IsTr t x)(h:Nat)(m:Nat×Fm×List Sn)(D:Int)(J:(hCk ca t).2=0->0<h->eY t≠[]->¬ (D<1\/4<D)->D=4)(hF:¬ (D<1\/4<D)->∀st,ICall prog gl 40 [.raw (.int .u8 (ca:Int)),x] st (λr st'=>sL ca t h m r/\st'=st))(st:ISt) :
  ICall prog gl 14 [.raw (.int .u8 (ca:Int)),x,D] st (λr st'=>P7 ca t h m D r/\st'=st):=by
 by_cases h1:D<1\/4<D
 ·obtain⟨rule,tl,xl,tr,xr,op,fn,ta,xa,tb,xb,v,un,tu,xu,n',ts,xs,rfl⟩:=ft hx;refine ICall.intro (c:=cf prog gl [12] []) func14 rfl (by show _<=54;simp) (by kernel_rfl) ?_;by_cases h2:D<1
  ·have d1:decide (D<1)=true:=dEt h2;simp only[go_sem,zE,zA,zL,d1];exact c_ ⟨.inl ⟨h1,rfl⟩,rfl⟩
  ·have d1:decide (D<1)=false:=dEf h2;have d2:decide (4<D)=true:=dEt (by omega);simp only[go_sem,zE,zA,zL,d1,d2];exact c_ ⟨.inl ⟨h1,rfl⟩,rfl⟩
 refine (Hi gl ca t x hx h 0 (by decide) m True D D.toNat (by omega) (by omega) (by omega) (λst=>(hF h1 st).mono λr st' ⟨a,b⟩=>⟨?_,b⟩) st).mono λr st' ⟨a,b⟩=>⟨.inr ⟨h1,?_⟩,b⟩
 ·rcases a with a|a|⟨h0,p,ps,G,h1,h2,E⟩
  ·exact .inl a
  ·exact .inr (.inl a)
  ·exact .inr (.inr ⟨h0,p,ps,G,h1,h2,.inr ⟨rfl,trivial,E⟩⟩)
 ·rcases a with a|a|⟨h0,p,ps,G,E,h2,⟨O,_⟩|⟨_,_,O|⟨h5,o,n,t1,x1,t2,x2,t3,x3,h6,rfl⟩⟩⟩
  ·exact .inl a
  ·exact .inr (.inl a)
  ·exact absurd rfl O
  ·exact .inr (.inr ⟨h0,p,ps,G,E,h2,.inl O⟩)
  ·refine .inr (.inr ⟨h0,p,ps,G,E,h2,.inr ⟨h5,o,n,t1,x1,t2,x2,t3,x3,h6,?_⟩⟩);rw[J h0 h5 (by rw[E];simp) h1];rfl
end Go.Proofs.Tryz
namespace Go.Proofs.Tryz
open Go Go.Iv
def Hk {ca:Nat}{s:Sq}{rule:Nat}{D:Fm}{term:Tm}{name:ByteArray}{r:Rw}{ad:List Sq}(h1:en ca s=true)(h2:rowS ca rule=some r)(h3:fQ ca rule r D term name=(ad,0))
  (h4:r.left=true->hasF s.l D=true) (O:r.right=true->hasF s.r D=true) (J:r.asks=0):fU ca s rule D term name=(ad,0):=by
 unfold fU;rw[h1,h2];simp only[ly,bFt,dE,h3];obtain⟨G,E,op,asks⟩:=r;simp only at h4 O J ⊢;have e1:(G&&!hasF s.l D)=false:=by
  cases G
  ·rfl
  ·rw[h4 rfl];rfl
 have e2:(E&&!hasF s.r D)=false:=by
  cases E
  ·rfl
  ·rw[O rfl];rfl
 subst J;rw[e1,e2];rfl
def Hl {f:Fm}(D:f.right=true):eqF f f=true:=by unfold eqF mn;rw[D,dEt rfl];simp[eqB]
def mz {ca:Nat}{f:Fm}(h:fmB ca f=true):f.right=true:=by unfold fmB at h;exact (bAt _ _▸h).1
def qM {l:List Fm}{f:Fm}(h:f∈l)(D:f.right=true):hasF l f=true:=gk.2 ⟨f,h,Hl D⟩
def Hm {l m:List Fm}(h:∀f∈l,f∈m)(E:∀f∈l,f.right=true):allF l m=true:=eF.2 λf D=>qM (h f D) (E f D)
def P8 {ca:Nat}(hc:ca=1\/ca=2){f:Fm}(D:PF f){r:Bool}{t:Nat×List Sn}(ht:t∈addF (calJ ca) f r):∃R,rowS ca t.1=some R/\(R.left=true->r=false)/\(R.right=true->r=true)/\R.asks=0/\t.1<256/\t.1≠17:=by
 cases D with
 | atom n=>simp[addF] at ht
 | fls=>simp[addF] at ht
 | neg E =>
  rcases hc with rfl|rfl<;>cases r<;>simp[addF] at ht<;>subst ht<;>exact⟨_,rfl,by simp,by simp,rfl,by simp,by simp⟩
 | @bin o a b J G _ _ =>
  obtain rfl|rfl|rfl|rfl:o=4\/o=5\/o=6\/o=7:=by omega
  all_goals rcases hc with rfl|rfl<;>cases r<;>simp[addF,calJ] at ht
  all_goals first
   | (subst ht;exact⟨_,rfl,by simp,by simp,rfl,by simp,by simp⟩)
   | (rcases ht with rfl|rfl<;>exact⟨_,rfl,by simp,by simp,rfl,by simp,by simp⟩)
def P9 {ca:Nat}{rule:Nat}{f:Fm}{R:Rw}{ad:List Sq}(D:gR ca=true)(E:rowS ca rule=some R)(h:nY ca rule f tmZ noN=(ad,0)):fQ ca rule R f tmZ noN=(ad,0):=by
 unfold nY at h;rw[D,E] at h;exact h
def Hn {s:Sq}:∀ {ad:List Sq} {sub:List Tr},(∀(i:Nat) (m:Sq) (t:Tr),ad[i]?=some m->sub[i]?=some t->m_ t.sq (s.plus m)=true)->gT s ad sub=true
 | [],_,_=>by simp[gT]
 | m::ad,[],_=>by simp[gT]
 | m::ad,t::sub,h=>by
  simp only[gT,bAt];exact⟨h 0 m t rfl rfl,Hn λi m t h1 h2=>h (i+1) m t h1 h2⟩
def P_ {ca:Nat}(hc:ca=1\/ca=2){s:Sn}(hv:en ca (sqOf s)=true)(h1:∀f∈s.1,fmB ca f=true)(h2:∀f∈s.2,fmB ca f=true){m:Nat×Fm×List Sn}(hm:m∈mvF (calJ ca) s){sub:List Tr}(J:sub.map Tr.sq=m.2.2.map sqOf) :
  fF ca (.mk m.1 (sqOf s) m.2.1 tmZ noN sub)=0/\m.1<256/\m.1≠17/\fmB ca m.2.1=true:=by
 have aa:ca≠3:=by omega
 have hk:gR ca=true:=by unfold gR;rcases hc with rfl|rfl<;>rfl
 have key:∀(r:Bool) (f:Fm),f∈(if r=true then s.2 else s.1)->m∈jB (calJ ca) s r f->fF ca (.mk m.1 (sqOf s) m.2.1 tmZ noN sub)=0/\m.1<256/\m.1≠17/\fmB ca m.2.1=true:=λr f G af=>by
  obtain⟨t,ht,rfl⟩:=dH.1 af;have D:fmB ca f=true:=by cases r<;>simp at G<;>first|exact h1 f G|exact h2 f G
  obtain⟨R,hR,hl,hr,ha,ag,ah⟩:=P8 hc (lr aa D) ht;have ab:=FJ hc D ht;have hst:fU ca (sqOf s) t.1 f tmZ noN=(t.2.map sqOf,0):=Hk hv hR (P9 hk hR ab)
   (λh=>qM (show f∈s.1 by rw[hl h] at G;simpa using G) (mz D)) (λh=>qM (show f∈s.2 by rw[hr h] at G;simpa using G) (mz D)) ha
  refine⟨?_,ag,ah,D⟩;have O:sub.length=(t.2.map sqOf).length:=by
   have:=dZ List.length J;simpa using this
  simp only[fF];rw[hst];simp only[ne_eq,nTf,dE,O];rw[cX];refine Hn λi q tr hq ac=>?_;rw[eB] at hq;obtain⟨p,hp,rfl⟩:=fp.1 hq;have hs:(sub.map Tr.sq)[i]?=some tr.sq:=by rw[eB,ac];rfl
  rw[J,eB,eB,hp] at hs;have ae:tr.sq=sqOf (np (calJ ca) s p):=by simpa using hs.symm
  rw[ae];obtain⟨a1,a2⟩:=FK aa D ht p (lMg hp);have w1:∀g∈(np (calJ ca) s p).1,g∈s.1++p.1:=λg E=>yXq.1 E;have w2:∀g∈(np (calJ ca) s p).2,g∈s.2++p.2:=λg E=>by
   have E:=yXq.1 E;unfold rgt at E;split at E
   ·exact fV _ E
   ·exact E
  unfold m_;rw[bAt];exact⟨Hm w1 λg E=>mz ((dQ.1 (w1 g E)).elim (h1 g) (a1 g)),Hm w2 λg E=>mz ((dQ.1 (w2 g E)).elim (h2 g) (a2 g))⟩
 rcases dQ.1 hm with hm|hm
 ·obtain⟨f,G,hm⟩:=fh.1 hm;exact key false f G hm
 ·obtain⟨f,G,hm⟩:=fh.1 hm;exact key true f G hm
def Qa {ca:Nat}(hc:ca=1\/ca=2){s:Sn}(hv:en ca (sqOf s)=true)(h1:∀f∈s.1,fmB ca f=true){r:Nat}{f:Fm}(ha:(r=1/\f∈s.1/\f∈s.2)\/(r=2/\f=.mk 2 noN [] []/\∃g∈s.1,jU g=true)) :
  fF ca (.mk r (sqOf s) f tmZ noN [])=0/\(r=1\/r=2)/\fmB ca f=true:=by
 have ac:ca≠3:=by omega
 have E:∀R,rowS ca r=some R->R.asks=0->fQ ca r R f tmZ noN=([],0)->(R.left=true->hasF s.1 f=true)->(R.right=true->hasF s.2 f=true)->fF ca (.mk r (sqOf s) f tmZ noN [])=0:=λR hR h0 hA hl G=>by
  have hst:fU ca (sqOf s) r f tmZ noN=([],0):=Hk hv hR hA hl G h0;simp only[fF];rw[hst];rfl
 rcases ha with⟨rfl,hl,G⟩|⟨rfl,rfl,g,hg,O⟩
 ·have D:=h1 f hl;refine⟨E ⟨true,true,0,0⟩ (by rcases hc with rfl|rfl<;>rfl) rfl ?_ (λ_=>qM hl (mz D)) (λ_=>qM G (mz D)),.inl rfl,D⟩;unfold fQ;rw[D];simp[addS]
 ·have J:=lr ac (h1 g hg);have aa:g=.mk 2 noN [] []:=by
   cases J<;>simp[jU] at O
   ·rfl
   ·omega
  subst aa;have D:=h1 _ hg;refine⟨E ⟨true,false,2,0⟩ (by rcases hc with rfl|rfl<;>rfl) rfl ?_ (λ_=>qM hg (mz D)) (λh=>by cases h),.inr rfl,D⟩;unfold fQ;rw[D];simp[addS,Fm.op]
def Ho {ca:Nat}(hc:ca=1\/ca=2){s:Sn}(hv:en ca (sqOf s)=true)(h1:∀f∈s.1,fmB ca f=true){r:Nat}{f:Fm}(D:axF s=some (r,f)) :
  fF ca (.mk r (sqOf s) f tmZ noN [])=0/\(r=1\/r=2)/\fmB ca f=true:=Qa hc hv h1 (Ps D)
end Go.Proofs.Tryz
namespace Go.Proofs.Tryz
open Go Go.Iv
set_option maxRecDepth 4000
variable (gl:Nat->Option IV)
section
variable {ca m:Nat}{W:List Fm}{tw:Tag}{xw:List IV}{lines:List Ln}{links:List (List Lk)}{hs:List Nat}{tl tk:Tag}{xl xk:List IV}{mN rb gH:Nat}
end
section
variable {ca m:Nat}{W:List Fm}{tw:Tag}{xw:List IV}{lines:List Ln}{links:List (List Lk)}{hs:List Nat}{tl tk:Tag}{xl xk:List IV}{mN rb gH:Nat}
abbrev u0:IV:=.raw (.int .u8 0)
end
noncomputable def tS (j:Bool)(s:Sn):Nat:=(tF j (hF j s) s).steps
section
variable {ca m:Nat}{W:List Fm}{tw:Tag}{xw:List IV}{lines:List Ln}{links:List (List Lk)}{hs:List Nat}{tl tk:Tag}{xl xk:List IV}{mN rb gH:Nat}
end
end Go.Proofs.Tryz
namespace Go.Proofs.Tryz
open Go Go.Iv
end Go.Proofs.Tryz
namespace Go.Proofs.Tryz
open Go Go.Iv
set_option maxRecDepth 4000
variable (gl:Nat->Option IV)
mutual
def wTr:Tr->Nat
 | .mk _ s f u n sub=>wFms s.l+wFms s.r+wFm f+wTm u+n.size+wTrs sub
def wTrs:List Tr->Nat
 | []=>0
 | a::l=>wTr a+wTrs l
end
def oj (s:Sq)(f:Fm)(u:Tm)(n:ByteArray):Bool:=decide (wFms s.l+wFms s.r<=300)&&!decide (300<wFm f)&&!decide (300<wTm u)&&!decide (100<n.size)
mutual
def okT:Tr->Bool
 | .mk _ s f u n sub=>oj s f u n&&okTs sub
def okTs:List Tr->Bool
 | []=>true
 | a::l=>okT a&&okTs l
end
def Ay:∀l m:List Tr,okTs (l++m)=(okTs l&&okTs m)
 | [],m=>by simp[okTs]
 | a::l,m=>by simp only[eu,okTs,Ay l m,pd]
def Qb {l:List Tr}{k:Nat}{a:Tr}(h:l[k]?=some a):okTs (l.take (k+1))=(okTs (l.take k)&&okT a):=by
 rw[dM h,Ay];simp[okTs]
def Qc (l:List Tr)(k:Nat)(h:okTs l=true):okTs (l.take k)=true:=by
 rw[<- eA k l,Ay,bAt] at h;exact h.1
def Qd {l:List Tr}{k:Nat}{a:Tr}(h:l[k]?=some a):eE (l.take (k+1))=eE (l.take k)+a.steps:=by
 rw[dM h,ym];simp[eE]
def Qe (l:List Tr)(k:Nat):eE (l.take k)<=eE l:=by
 conv=>rhs;rw[<- eA k l]
 rw[ym];omega
def Az:∀ {l:List Tr}{t:Tr},t∈l->wTr t<=wTrs l
 | a::l,t,h=>by
  simp only[wTrs];rcases dF.1 h with rfl|h
  ·omega
  ·have:=Az h;omega
def Sum.gt {w:Nat}{r:IV}(h:Sum w 300 r):∃n:Nat,r=n/\decide ((300:Int)<(n:Int))=decide (300<w):=by
 obtain⟨n,rfl,h1,h2⟩:=h;refine⟨n,rfl,?_⟩;rw[fH];constructor
 ·intro h;omega
 ·intro h;rcases Int.lt_or_le 300 (n:Int) with D|D
  ·exact D
  ·have:=h2 D;omega
def Hp (t:Tr)(left:Int)(r:Int):Prop:=-1<=r/\r<=left/\(0<=r↔okT t=true/\(t.steps:Int)<=left)/\(0<=r->r=left-t.steps)
def sC (t:Tr):Prop:=∀(x:IV) (_:IsTr t x) (left:Int) (_:0<=left/\left<=1000) (_:wTr t<=1099511627776) (st:ISt),
 ICall prog gl 28 [x,left] st (λr st'=>(∃n:Int,r=n/\Hp t left n)/\st'=st)
def Qf (rule:Nat)(s:Sq)(f:Fm)(u:Tm)(n:ByteArray)(sub:List Tr)(IH:∀a∈sub,sC gl a):sC gl (.mk rule s f u n sub):=by
 intro x hx left hl hw st;obtain⟨tl,xl,tr,xr,op,fn,ta,xa,tb,xb,v,un,tu,xu,ts,xs,rfl,ba,e1,i1,e2,i2,hy,hz,e3,i3⟩:=hx.mk;simp only[wTr] at hw;have am:=λst=>E7 gl s _ ⟨tl,xl,tr,xr,rfl,e1,i1,e2,i2⟩ ⟨by omega,by omega⟩ st;have av:=λst=>zh gl [f] ⟨true,.full,4⟩ _ (.inr rfl) ⟨_,_,rfl,hy,rfl⟩ 300 ⟨by omega,by omega⟩ (by simp only[wFms];omega) st;have htm:=λst=>E5 gl [u] ⟨true,.full,3⟩ _ (.inr rfl) ⟨_,_,rfl,hz,rfl⟩ 300 ⟨by omega,by omega⟩ (by simp only[wTms];omega) st;have E:oj s f u n=false->Hp (.mk rule s f u n sub) left (-1):=λh=>by
  refine⟨by omega,by omega,⟨λh=>by omega,λh'=>?_⟩,λh=>by omega⟩;simp only[okT,h,oq,bFt,false_and] at h'
 refine iI func28 ?_;simp only[go_sem,zE,zA,zL];refine (am _).q ?_;unfold oj at E;cases q1:decide (wFms s.l+wFms s.r<=300)
 ·simp only[go_sem,zE];exact c_ ⟨⟨-1,rfl,E (by rw[q1];rfl)⟩,rfl⟩
 simp only[go_sem,zE,zA,zM,zL,fits,eh];refine (av _).mono ?_;rintro _ st ⟨hS,rfl⟩;obtain⟨m,rfl,hd⟩:=hS.gt;rw[show wFms [f]=wFm f from by simp[wFms]] at hd;cases q2:decide (300<wFm f)
 case true =>
  rw[q2] at hd;simp only[go_sem,zE,hd];exact c_ ⟨⟨-1,rfl,E (by rw[q1,q2];rfl)⟩,rfl⟩
 rw[q2] at hd;simp only[go_sem,zE,zA,zM,zL,fits,hd,eh];refine (htm _).mono ?_;rintro _ st ⟨aA,rfl⟩;obtain⟨m2,rfl,J⟩:=aA.gt;rw[show wTms [u]=wTm u from by simp[wTms]] at J;cases q3:decide (300<wTm u)
 case true =>
  rw[q3] at J;simp only[go_sem,zE,J];exact c_ ⟨⟨-1,rfl,E (by rw[q1,q2,q3];rfl)⟩,rfl⟩
 rw[q3] at J;have ac:decide ((100:Int)<((n.size:Nat):Int))=decide (100<n.size):=by rw[fH];omega
 cases q4:decide (100<n.size)
 case true =>
  rw[q4] at ac;simp only[go_sem,zE,J,ac];intro _;exact c_ ⟨⟨-1,rfl,E (by rw[q1,q2,q3,q4];rfl)⟩,rfl⟩
 rw[q4] at ac;have O:oj s f u n=true:=by unfold oj;rw[q1,q2,q3,q4];rfl
 have wl:IntKind.i64.wrap (left-1)=left-1:=w64 (by omega) (by omega);simp only[go_sem,zE,J,ac,wl];intro _;refine dt sub.length (λk fr st' ds=>(∃l:Int,fr 1=l /\ -1<=l/\l<=left-1/\(0<=l↔okTs (sub.take k)=true/\((eE (sub.take k):Nat):Int)+1<=left)/\(0<=l->l=left-1-(eE (sub.take k):Nat))) /\
  fr 2=.box [.raw (.int .u8 rule),.sl tl xl,.sl tr xr,.raw (.int .u8 op),fn,.sl ta xa,.sl tb xb,v,un,.sl tu xu,n,.sl ts xs]/\fr 5=.iv (.raw (.int .i64 k))/\st'=st/\ds=[]) ?_ ?_ ?_
 ·simp only[go_sem,zE];exact⟨⟨left-1,rfl,by omega,by omega,⟨λh=>⟨rfl,by simp only[eE];omega⟩,λh=>by have:=h.2;simp only[eE] at this;omega⟩,λ_=>by simp only[eE];omega⟩,rfl⟩
 ·rintro k fr aq _ aa ⟨⟨l,f1,ae,ay,G,ab⟩,f2,f5,rfl,rfl⟩;obtain⟨a,ha⟩:=dD aa;obtain⟨z,az,aj⟩:=i3.get ha;have al:=Qb ha;have hst:=Qd ha;by_cases D:(0:Int)<=l
  ·have af:=λst=>IH a (lMg ha) z aj l ⟨D,by omega⟩ (by have:=Az (lMg ha);omega) st;obtain⟨au,aU,aG,aT,aF,aZ,be,aX,aJ,aV,aH,v',aM,aO,aC,n',aS,aE,rfl⟩:=ft aj;simp only[go_sem,zE,zB,zA,f1,f2,f5,i3.len,lt_i aa,dEt D,dB e3,iNn,az,fits];intro _;refine (af _).mono ?_;rintro _ aY ⟨⟨r,rfl,ax,bb,ak,aw⟩,rfl⟩;simp only[go_sem,zE,f2,f5,dL aa (by omega)];have g3:=G.1 D;have g4:=ab D;refine⟨r,rfl,ax,by omega,?_,λh=>by have:=aw h;rw[hst];omega⟩;rw[al,hst,g3.1,iZ];constructor
   ·intro h;have:=ak.1 h;exact⟨this.1,by omega⟩
   ·intro h;exact ak.2 ⟨h.1,by have:=h.2;omega⟩
  ·simp only[go_sem,zE,f1,f2,f5,i3.len,lt_i aa,dEf D];intro _;refine c_ ⟨⟨l,rfl,ae,by omega,⟨λh=>absurd h D,λh=>?_⟩,λh=>absurd h D⟩,rfl⟩;have h1:=h.1;have h2:=h.2;simp only[okT,O,iZ] at h1;simp only[Tr.steps] at h2;have h3:=Qe sub k;exact absurd (G.2 ⟨Qc sub k h1,by omega⟩) D
 ·rintro fr aq _ ⟨⟨l,f1,ae,ay,G,ab⟩,f2,f5,rfl,rfl⟩;rw[lTl] at G ab;simp only[go_sem,zE,f1,f2,f5,i3.len,dS (nLi _)];intro _;refine c_ ⟨⟨l,rfl,ae,by omega,?_,λh=>by have:=ab h;simp only[Tr.steps];omega⟩,rfl⟩;simp only[okT,O,iZ,Tr.steps];constructor
  ·intro h;have:=G.1 h;exact⟨this.1,by omega⟩
  ·intro h;exact G.2 ⟨h.1,by have:=h.2;omega⟩
def Hq:∀(k:Nat)(t:Tr),SizeOf.sizeOf t<k->sC gl t
 | 0,t,h=>by omega
 | k+1,.mk r sq f u n sub,h=>Qf gl r sq f u n sub (λa D=>Hq k a (by
   have:=lSm D;simp at h;omega))
def Qg (t:Tr):sC gl t:=Hq gl _ t (eS _)
def Qh (t:Tr)(x:IV)(E:IsTr t x)(hw:wTr t<=1099511627776)(st:ISt):ICall prog gl 6 [x] st (λr st'=>r=(okT t&&decide (t.steps<=60):Bool)/\st'=st):=by
 have hs:=λst=>Qg gl t x E 60 ⟨by omega,by omega⟩ hw st;obtain⟨D,ai,aa,ah,O,al,ao,ak,ac,aj,ab,v',ae,af,G,n',ag,J,rfl⟩:=ft E;refine iI func6 ?_;simp only[go_sem,zE,zA,zL];refine (hs _).mono ?_;rintro _ st ⟨⟨r,rfl,h1,h2,h3,h4⟩,rfl⟩;have hd:decide ((0:Int)<=r)=(okT t&&decide (t.steps<=60)):=by
  rw[ma,dTe,h3,bAt,dTe];constructor<;>intro h<;>exact⟨h.1,by have:=h.2;omega⟩
 simp only[go_sem,hd];exact c_ ⟨rfl,rfl⟩
end Go.Proofs.Tryz
namespace Go.Proofs.Tryz
open Go Go.Iv
mutual
def Hr:∀t:Tm,t.size<=wTm t
 | .mk _ n us=>by have:=AA us;simp only[wTm,Tm.size];omega
def AA:∀l:List Tm,el l<=wTms l
 | []=>dG _
 | a::l=>by have:=Hr a;have:=AA l;simp only[wTms,el];omega
end
mutual
def Hs:∀f:Fm,f.size<=wFm f
 | .mk _ n us sub=>by have:=AA us;have:=vH sub;simp only[wFm,Fm.size];omega
def vH:∀l:List Fm,dV l<=wFms l
 | []=>dG _
 | a::l=>by have:=Hs a;have:=vH l;simp only[wFms,dV];omega
end
def Ht {s:Sq}{f:Fm}{u:Tm}{n:ByteArray}(h:oj s f u n=true):wFms s.l+wFms s.r<=300/\wFm f<=300/\wTm u<=300/\n.size<=100:=by
 unfold oj at h;grind
def Hu {s:Sq}(h:wFms s.l+wFms s.r<=300):fY s:=by
 have:=vH s.l;have:=vH s.r;exact⟨λf D=>by have:=rY D;omega,λf D=>by have:=rY D;omega⟩
def Hv:∀ {l:List Tr}{a:Tr},okTs l=true->a∈l->okT a=true
 | b::l,a,h,D=>by
  simp only[okTs,bAt] at h;rcases dF.1 D with rfl|D
  ·exact h.1
  ·exact Hv h.2 D
def Qi:∀ {t:Tr},okT t=true->qi t
 | .mk rule s m u n sub,h=>by
  simp only[okT,bAt] at h;obtain⟨h1,h2,h3,_⟩:=Ht h.1;have:=Hs m;have:=Hr u;refine⟨Hu h1,by omega,by omega,λa G=>?_⟩;have:=Hv h.2 G;obtain⟨D,s',m',J,O,E⟩:=a;simp only[okT,bAt] at this;exact Hu (Ht this.1).1
mutual
def Hw:∀(p:List Nat)(t:Tr),okT t=true->∀q∈t.walk p,okT q.2=true
 | p,.mk rule s m u n sub,h,q,D=>by
  simp only[Tr.walk,dF] at D;rcases D with rfl|D
  ·exact h
  ·simp only[okT,bAt] at h;exact Hx p 0 sub h.2 q D
def Hx:∀(p:List Nat)(i:Nat)(l:List Tr),okTs l=true->∀q∈eO p i l,okT q.2=true
 | _,_,[],_,q,D=>by cases D
 | p,i,a::l,h,q,D=>by
  simp only[okTs,bAt] at h;simp only[eO,dQ] at D;rcases D with D|D
  ·exact Hw _ a h.1 q D
  ·exact Hx p (i+1) l h.2 q D
end
def oZ {t:Tr}(h:okT t=true)(hs:t.steps<=1099511627776):lZ t:=⟨λq D=>Qi (Hw [] t h q D),dN t.height_le_steps hs⟩
def vI {o:Nat}(h:o<=7):isQ o=false:=by
 rcases (show o=0\/o=1\/o=2\/o=3\/o=4\/o=5\/o=6\/o=7 by omega) with rfl|rfl|rfl|rfl|rfl|rfl|rfl|rfl<;>rfl
def Qj {f:Fm}(h:PF f)(fr:List ByteArray)(ar:Ar):mo fr ar f=f:=by
 induction h with
 | atom n=>simp[mo,jS,gr,vI (o:=1) (by omega)]
 | fls=>simp[mo,jS,gr,vI (o:=2) (by omega)]
 | neg h G=>simp[mo,jS,gr,vI (o:=3) (by omega),G]
 | bin O J _ _ E D=>simp[mo,jS,gr,vI J,E,D]
def Hy {ca:Nat}(hc:ca=1\/ca=2){s:Sq}(hv:en ca s=true):SetS s=(sqOf (nf (s.l,s.r)),0):=by
 have E:=qJ hv;have key:∀l:List Fm,(∀f∈l,fmB ca f=true)->iC l=(setF l,0):=λl hl=>by
  unfold iC;rw[cX (eF.2 λf D=>mz (hl f D))];have:l.map lV=l:=by
   conv=>rhs;rw[<- List.map_id l]
   exact kB λf D=>Qj (lr (by omega) (hl f D)) _ _
  rw[this]
 unfold SetS;rw[key s.l λf D=>E f (gg _ D),key s.r λf D=>E f (fV _ D)];rfl
def AB {ca:Nat}{s:Sq}(hv:en ca s=true):fY s:=by
 have D:=qJ hv;exact⟨λf E=>by have:=mV (mz (D f (gg _ E)));omega,λf E=>by have:=mV (mz (D f (fV _ E)));omega⟩
section
variable {ca:Nat}(hc:ca=1\/ca=2){s0:Sq}(hv:en ca s0=true){K:List Sn}(hK:ReachOk (calJ ca) (nf (s0.l,s0.r)) K)
include hc hv hK
end
set_option maxRecDepth 100000
def AD {e:Tr->Nat}:∀ {l:List (List Nat×Tr)},(∀q∈l,e q.2=0)->fz e l=([],0)
 | [],_=>rfl
 | q::l,h=>by
  obtain⟨p,t⟩:=q;rw[fz,cX (h _ (.head _))];exact AD λq D=>h q (.tail _ D)
def Hz {e:Tr->Nat}:∀ {l:List (List Nat×Tr)},(fz e l).2=0\/∃q∈l,(fz e l).1=q.1
 | []=>.inl rfl
 | (p,t)::l=>by
  rw[fz];by_cases h:e t=0
  ·rw[cX h];rcases Hz (e:=e) (l:=l) with h|⟨q,D,h⟩
   ·exact .inl h
   ·exact .inr ⟨q,.tail _ D,h⟩
  ·rw[a_ h];exact .inr ⟨(p,t),.head _,rfl⟩
mutual
def Qk:∀(p:List Nat)(t:Tr)(q:List Nat×Tr),q∈t.walk p->p.length<=q.1.length
 | p,.mk _ _ _ _ _ sub,q,h=>by
  simp only[Tr.walk,dF] at h;rcases h with rfl|h
  ·exact dG _
  ·exact Nat.le_of_lt (AE p 0 sub q h)
def AE:∀(p:List Nat)(i:Nat)(l:List Tr)(q:List Nat×Tr),q∈eO p i l->p.length<q.1.length
 | _,_,[],q,h=>by simp[eO] at h
 | p,i,a::l,q,h=>by
  simp only[eO,dQ] at h;rcases h with h|h
  ·have:=Qk (p++[i]) a q h;rw[lLa,List.length_singleton] at this;omega
  ·exact AE p (i+1) l q h
end
def sR {ca:Nat}(E:gR ca=true){t:Tr}(G:jV t=false)(hs:(shal t).steps<=300)(h:fF ca (shal t)=0):gx ca t=true:=by
 unfold gx;rw[G];have e:gj ca (shal t)=fz (fF ca) ((shal t).walk []):=by
  unfold gj;rw[E];simp only[ly,bFt,dE];rw[a_ (by omega)]
 rw[e];obtain⟨r,s,m,u,n,sub⟩:=t;simp only[shal] at h ⊢;simp only[Tr.walk,fz,h,dJ];simp only[bFt,dE,gL,dTe];rcases Hz (e:=fF ca) (l:=eO [] 0 (sub.map λp=>goalT p.sq)) with h1|⟨q,D,h1⟩
 ·exact .inl h1
 ·right;rw[h1];exact Nat.lt_of_le_of_lt (ed _) (AE _ _ _ _ D)
def o9 {ca:Nat}{s:Sq}(h:en ca s=true):gx ca (goalT s)=true:=by
 have:jV (goalT s)=true:=by
  rw[jV,(kc fm0 fm0).2 rfl];rfl
 unfold gx;rw[this];exact h
def o_ {ca:Nat}(hc:ca=1\/ca=2){t:Tr}(hs:t.steps<=300)(h:∀q∈t.walk [],gx ca q.2=true):hCk ca t=([],0):=by
 unfold hCk;rw[cX hc,a_ (by omega)];exact AD λq D=>by unfold badN;rw[cX (h q D)]
abbrev qqF:Fm:=fbi 6 faQ faQ
abbrev mnF:Fm:=fbi 5 faP qqF
abbrev sM:Sq:=⟨[],[mnF]⟩
abbrev sQ:Sq:=⟨[],[qqF]⟩
abbrev sA:Sq:=⟨[faQ],[faQ]⟩
abbrev sP:Sq:=⟨[],[faP]⟩
abbrev sO:Sq:=⟨[],[orP]⟩
abbrev mv1:Nat×Fm×List Sn:=(18,mnF,[([],[qqF])])
abbrev mv2:Nat×Fm×List Sn:=(10,qqF,[([faQ],[faQ])])
abbrev mv3:Nat×Fm×List Sn:=(1,faQ,[])
abbrev mv4:Nat×Fm×List Sn:=(8,orP,[([],[faP,fno faP,orP])])
abbrev sk1:Tr:=.mk 18 sM mnF tmZ noN [goalT sQ]
abbrev sk2:Tr:=.mk 18 sM mnF tmZ noN [.mk 10 sQ qqF tmZ noN [goalT sA]]
abbrev sk3:Tr:=.mk 18 sM mnF tmZ noN [.mk 10 sQ qqF tmZ noN [.mk 1 sA faQ tmZ noN []]]
abbrev skW:Tr:=.mk 8 sM mnF tmZ noN [goalT sP]
def hvM:en 2 sM=true:=sB (by kernel_rfl)
def hvQ:en 2 sQ=true:=sB (by kernel_rfl)
def hvA:en 2 sA=true:=sB (by kernel_rfl)
def hvP:en 2 sP=true:=sB (by kernel_rfl)
def hvE:en 1 ⟨[],[faP,fno faP,orP]⟩=true:=by kernel_rfl
def nfM:nf ([],[mnF])=([],[mnF]):=by rw[nf_C];kernel_rfl
def nfQ:nf ([],[qqF])=([],[qqF]):=by rw[nf_C];kernel_rfl
def nfO:nf ([],[orP])=([],[orP]):=by rw[nf_C];kernel_rfl
def nfA:nf ([faQ],[faQ])=([faQ],[faQ]):=by rw[nf_C];kernel_rfl
def mvM:mvF true ([],[mnF])=[(8,mnF,[([],[faP])]),mv1]:=by rw[z7];kernel_rfl
def mvQ:mvF true ([],[qqF])=[mv2]:=by rw[z7];kernel_rfl
def mvO:mvF false ([],[orP])=[mv4]:=by rw[z7];kernel_rfl
def nclM:¬ ClF ([]:List Fm) [mnF]:=λh=>by
 have:=(oU ([],[mnF])).2 h;exact absurd this (by rw[show clC ([],[mnF])=false by kernel_rfl];decide)
def nclQ:¬ ClF ([]:List Fm) [qqF]:=λh=>by
 have:=(oU ([],[qqF])).2 h;exact absurd this (by rw[show clC ([],[qqF])=false by kernel_rfl];decide)
def nclO:¬ ClF ([]:List Fm) [orP]:=λh=>by
 have:=(oU ([],[orP])).2 h;exact absurd this (by rw[show clC ([],[orP])=false by kernel_rfl];decide)
def clA:ClF [faQ] [faQ]:=.inl ⟨faQ,.head _,.head _⟩
def sd1K:List Sn:=[([],[faP])]
def sd1c:Cert true sd1K [false] [[]] [0]:=l_ (by kernel_rfl) (by kernel_rfl) (by kernel_rfl) (by kernel_rfl) (by kernel_rfl) (by kernel_rfl) (by decide)
def sd1:hF true ([],[faP])=0/\ReachOk true (nf ([],[faP])) sd1K:=oV sd1c (by kernel_rfl)
def sd2K:List Sn:=[([],[(fbi 5 faP (fbi 6 faQ faQ))]),([],[faP]),([],[(fbi 6 faQ faQ)]),([faQ],[faQ])]
def sd2c:Cert true sd2K [false,false,false,true] [[[1],[2]],[],[[3]],[]] [3,0,2,1]:=l_ (by kernel_rfl) (by kernel_rfl) (by kernel_rfl) (by kernel_rfl) (by kernel_rfl) (by kernel_rfl) (by decide)
def sd2:hF true ([],[(fbi 5 faP (fbi 6 faQ faQ))])=3/\ReachOk true (nf ([],[(fbi 5 faP (fbi 6 faQ faQ))])) sd2K:=oV sd2c (by kernel_rfl)
def sd3K:List Sn:=[([],[(fbi 6 faQ faQ)]),([faQ],[faQ])]
def sd3c:Cert true sd3K [false,true] [[[1]],[]] [2,1]:=l_ (by kernel_rfl) (by kernel_rfl) (by kernel_rfl) (by kernel_rfl) (by kernel_rfl) (by kernel_rfl) (by decide)
def sd3:hF true ([],[(fbi 6 faQ faQ)])=2/\ReachOk true (nf ([],[(fbi 6 faQ faQ)])) sd3K:=oV sd3c (by kernel_rfl)
def sd4K:List Sn:=[([faQ],[faQ])]
def sd4c:Cert true sd4K [true] [[]] [1]:=l_ (by kernel_rfl) (by kernel_rfl) (by kernel_rfl) (by kernel_rfl) (by kernel_rfl) (by kernel_rfl) (by decide)
def sd4:hF true ([faQ],[faQ])=1/\ReachOk true (nf ([faQ],[faQ])) sd4K:=oV sd4c (by kernel_rfl)
def sd5K:List Sn:=[([],[faP,(fno faP),(fbi 5 faP (fno faP))]),([faP],[faP,(fno faP),(fbi 5 faP (fno faP))])]
def sd5c:Cert false sd5K [false,true] [[[1],[0]],[]] [2,1]:=l_ (by kernel_rfl) (by kernel_rfl) (by kernel_rfl) (by kernel_rfl) (by kernel_rfl) (by kernel_rfl) (by decide)
def sd5:hF false ([],[faP,(fno faP),(fbi 5 faP (fno faP))])=2/\ReachOk false (nf ([],[faP,(fno faP),(fbi 5 faP (fno faP))])) sd5K:=oV sd5c (by kernel_rfl)
def sS {s:Sn}(hv:en 2 (sqOf s)=true)(h1:s.1=[])(h2:∀f∈s.2,fmB 2 f=true){m:Nat×Fm×List Sn}(E:m∈mvF true s){sub:List Tr}(D:sub.map Tr.sq=m.2.2.map sqOf):fF 2 (.mk m.1 (sqOf s) m.2.1 tmZ noN sub)=0 :=
 (P_ (.inr rfl) hv (by rw[h1];nofun) h2 E D).1
def fmM:∀f∈[mnF],fmB 2 f=true:=λf D=>by rw[dR.1 D];kernel_rfl
def fmQ:∀f∈[qqF],fmB 2 f=true:=λf D=>by rw[dR.1 D];kernel_rfl
def rW:gx 2 skW=true:=sR rfl rfl (by decide) (sS (s:=([],[mnF])) hvM rfl fmM (m:=(8,mnF,[([],[faP])])) (by rw[mvM];exact .head _) rfl)
def r1 (a:Tr)(h:a.sq=sQ):gx 2 (.mk 18 sM mnF tmZ noN [a])=true:=sR rfl rfl (by show 2<=300;decide) (sS (s:=([],[mnF])) hvM rfl fmM (m:=mv1) (by rw[mvM];exact .tail _ (.head _)) (by simp only[ec,fG,h];rfl))
def r2 (a:Tr)(h:a.sq=sA):gx 2 (.mk 10 sQ qqF tmZ noN [a])=true:=sR rfl rfl (by show 2<=300;decide) (sS (s:=([],[qqF])) hvQ rfl fmQ (m:=mv2) (by rw[mvQ];exact .head _) (by simp only[ec,fG,h];rfl))
def r3:gx 2 (.mk 1 sA faQ tmZ noN [])=true:=sR rfl rfl (by decide) (Ho (.inr rfl) (s:=([faQ],[faQ])) hvA (λf D=>by rw[dR.1 D];kernel_rfl) (by simp[axF])).1
def ckO1:hCk 1 (goalT sO)=([],0):=o_ (.inl rfl) (by decide) λq D=>by
 simp only[Tr.walk,eO,dR] at D;subst D;exact o9 awv2
def ckO2:hCk 2 (goalT sO)=([],0):=o_ (.inr rfl) (by decide) λq D=>by
 simp only[Tr.walk,eO,dR] at D;subst D;exact o9 awv3
def ckM:hCk 2 (goalT sM)=([],0):=o_ (.inr rfl) (by decide) λq D=>by
 simp only[Tr.walk,eO,dR] at D;subst D;exact o9 hvM
def ckW:hCk 2 skW=([],0):=o_ (.inr rfl) (by decide) λq D=>by
 simp only[Tr.walk,eO,ek,fa,dF,fJ,eU] at D;rcases D with rfl|rfl
 ·exact rW
 ·exact o9 hvP
def ck1:hCk 2 sk1=([],0):=o_ (.inr rfl) (by decide) λq D=>by
 simp only[Tr.walk,eO,ek,fa,dF,fJ,eU] at D;rcases D with rfl|rfl
 ·exact r1 _ rfl
 ·exact o9 hvQ
def ck2:hCk 2 sk2=([],0):=o_ (.inr rfl) (by decide) λq D=>by
 simp only[Tr.walk,eO,ek,fa,dF,fJ,eU] at D;rcases D with rfl|rfl|rfl
 ·exact r1 _ rfl
 ·exact r2 _ rfl
 ·exact o9 hvA
def ck3:hCk 2 sk3=([],0):=o_ (.inr rfl) (by decide) λq D=>by
 simp only[Tr.walk,eO,ek,fa,dF,fJ,eU] at D;rcases D with rfl|rfl|rfl
 ·exact r1 _ rfl
 ·exact r2 _ rfl
 ·exact r3
end Go.Proofs.Tryz
namespace Go.Proofs.Tryz
open Go Go.Iv
set_option maxRecDepth 8000
variable (gl:Nat->Option IV)
def k_p (n:ByteArray)(st:ISt):ICall prog gl 17 [n] st (λr st'=>r=.agg [.raw (.int .u8 1),n,nlS,nlS]/\st'=st):=by
 refine iI func17 ?_;simp only[go_sem,zE,zA,zL,reduceCtorEq,fits];exact c_ ⟨rfl,rfl⟩
def k_of (op:Int)(t:Tag)(xs:List IV)(st:ISt):ICall prog gl 18 [.raw (.int .u8 op),.sl t xs] st (λr st'=>r=.agg [.raw (.int .u8 op),.raw (.string ⟨#[]⟩),nlS,.sl t xs]/\st'=st):=by
 refine iI func18 ?_;simp only[go_sem,zE,zA,zL,reduceCtorEq,fits];exact c_ ⟨rfl,rfl⟩
def k_fs (t:Tag)(xs:List IV)(st:ISt):ICall prog gl 20 [.sl t xs] st (λr st'=>r=.sl t xs/\st'=st):=by
 refine iI func20 ?_;simp only[go_sem,reduceCtorEq];exact c_ ⟨rfl,rfl⟩
def k_sq (t:Tag)(xs:List IV)(D:Tag)(ys:List IV)(st:ISt):ICall prog gl 19 [.sl t xs,.sl D ys] st (λr st'=>r=.agg [.sl t xs,.sl D ys]/\st'=st):=by
 refine iI func19 ?_;simp only[go_sem,zE,zA,zL,reduceCtorEq,fits];exact c_ ⟨rfl,rfl⟩
def gI (t:Tag)(xs:List IV)(D:Tag)(ys:List IV):IV:=.agg [.raw (.int .u8 0),.sl t xs,.sl D ys,.raw (.int .u8 0),.raw (.string ⟨#[]⟩),nlS,nlS,false,.raw (.string ⟨#[]⟩),nlS,.raw (.string ⟨#[]⟩),nlS]
def qN (t:Tag)(xs:List IV)(D:Tag)(ys:List IV)(st:ISt):ICall prog gl 8 [.agg [.sl t xs,.sl D ys]] st (λr st'=>r=gI t xs D ys/\st'=st):=by
 refine iI func8 ?_;simp only[go_sem,zE,zA,zL,fits];exact c_ ⟨rfl,rfl⟩
def vJ (r o:Int)(n:ByteArray)(t1:Tag)(E:List IV)(t2:Tag)(D:List IV)(t:Tag)(xs:List IV)(G:Tag)(ys:List IV)(ts:Tag)(zs:List IV)(st:ISt) :
  ICall prog gl 23 [.raw (.int .u8 r),.agg [.raw (.int .u8 o),n,.sl t1 E,.sl t2 D],.agg [.sl t xs,.sl G ys],.sl ts zs] st
   (λy st'=>y=.agg [.raw (.int .u8 r),.sl t xs,.sl G ys,.raw (.int .u8 o),n,.sl t1 E,.sl t2 D,false,.raw (.string ⟨#[]⟩),nlS,.raw (.string ⟨#[]⟩),.sl ts zs]/\st'=st):=by
 refine iI func23 ?_;simp only[go_sem,zE,zA,zL,reduceCtorEq,fits];exact c_ ⟨rfl,rfl⟩
def sT {s:Sq}{t:Tag}{xs:List IV}{D:Tag}{ys:List IV}(h:IsSq s (.agg [.sl t xs,.sl D ys])):IsTr (goalT s) (gI t xs D ys):=by
 obtain⟨t1,x1,t2,O,E,J,i1,G,i2⟩:=h;cases E;exact⟨_,_,_,_,_,_,_,_,_,_,_,_,_,_,_,_,rfl,by decide,J,i1,G,i2,qc,oX,.inl rfl,rfl⟩
def sU (G:Gl gl)(T:Gt gl)(ab:∀g x,gl g=some x->age x=x){ca:Nat}(hc:ca=1\/ca=2){t:Tr}{x:IV}(hx:IsTr t x)(aa:okT t=true)(hs:t.steps<=300){p:List Nat}(O:eY t=[p]){s:Sq}(E:(atT t p).sq=s)(hv:en ca s=true){h:Nat}{K:List Sn}(hK:hF (calJ ca) (s.l,s.r)=h/\ReachOk (calJ ca) (nf (s.l,s.r)) K)(ac:fY s)(m:Nat×Fm×List Sn)
  (hB:0<h->∀y st,IsSq s y->ICall prog gl 70 [.raw (.int .u8 (ca:Int)),y,(h:Int)] st (λr st'=>(∃z,gV m z/\r=.tup [z,(0:Int)])/\st'=st)) (st:ISt) :
  ICall prog gl 40 [.raw (.int .u8 (ca:Int)),x] st (λr st'=>sL ca t h m r/\st'=st):=by
 refine Hb gl G T ab ca t x hx (oZ aa (by omega)) (by omega) h m (λq qs _ J y st D=>?_) (λq qs hh _ J y st D=>?_) st
 ·rw[O] at J;cases J;rw[E] at D;exact oW gl G T ca s hc hv hK y D ac st
 ·rw[O] at J;cases J;rw[E] at D;exact hB hh y st D
def Ql (G:Gl gl)(T:Gt gl)(y:IV)(st:ISt)(D:IsSq sM y):ICall prog gl 70 [.raw (.int .u8 ((2:Nat):Int)),y,((3:Nat):Int)] st (λr st'=>(∃z,gV mv1 z/\r=.tup [z,(0:Int)])/\st'=st):=by
 refine sK gl G T 2 sM (.inr rfl) hvM 3 mv1 y D (jv (by decide)) (λh=>(nclM h).elim) (λ_=>⟨sd2.2.top (by rw[nfM];exact nclM),?_,?_,?_⟩) st
 ·rw[show nf (sM.l,sM.r)=([],[mnF]) from nfM,show mvF (calJ 2) ([],[mnF])=_ from mvM];have J:lowB (calJ 2) 3 [(([]:List Fm),[faP])]=false:=by unfold lowB;simp only[jE,List.all_nil];rw[show Tryz.hF (calJ 2) ([],[faP])=0 from sd1.1];rfl
  have E:lowB (calJ 2) 3 [(([]:List Fm),[qqF])]=true:=by unfold lowB;simp only[jE,List.all_nil];rw[show Tryz.hF (calJ 2) ([],[qqF])=2 from sd3.1];rfl
  rw[ko,J,ko,E]
 ·rw[show nf (sM.l,sM.r)=([],[mnF]) from nfM,show mvF (calJ 2) ([],[mnF])=_ from mvM];decide
 ·rw[show nf (sM.l,sM.r)=([],[mnF]) from nfM,show mvF (calJ 2) ([],[mnF])=_ from mvM];intro v hv;simp only[dF,fJ,eU] at hv;rcases hv with rfl|rfl
  ·refine⟨by show 1<=1000000;decide,λp hp y st D=>?_⟩;rw[dR.1 hp] at D ⊢;rw[show Tryz.hF (calJ 2) ([],[faP])=0 from sd1.1];exact oW gl G T 2 sP (.inr rfl) hvP sd1 y D (jv (by decide)) st
  ·refine⟨by show 1<=1000000;decide,λp hp y st D=>?_⟩;rw[dR.1 hp] at D ⊢;rw[show Tryz.hF (calJ 2) ([],[qqF])=2 from sd3.1];exact oW gl G T 2 sQ (.inr rfl) hvQ sd3 y D (jv (by decide)) st
def Qm (G:Gl gl)(T:Gt gl)(y:IV)(st:ISt)(D:IsSq sQ y):ICall prog gl 70 [.raw (.int .u8 ((2:Nat):Int)),y,((2:Nat):Int)] st (λr st'=>(∃z,gV mv2 z/\r=.tup [z,(0:Int)])/\st'=st):=by
 refine sK gl G T 2 sQ (.inr rfl) hvQ 2 mv2 y D (jv (by decide)) (λh=>(nclQ h).elim) (λ_=>⟨sd3.2.top (by rw[nfQ];exact nclQ),?_,?_,?_⟩) st
 ·rw[show nf (sQ.l,sQ.r)=([],[qqF]) from nfQ,show mvF (calJ 2) ([],[qqF])=_ from mvQ];have E:lowB (calJ 2) 2 [([faQ],[faQ])]=true:=by unfold lowB;simp only[jE,List.all_nil];rw[show Tryz.hF (calJ 2) ([faQ],[faQ])=1 from sd4.1];rfl
  rw[ko,E]
 ·rw[show nf (sQ.l,sQ.r)=([],[qqF]) from nfQ,show mvF (calJ 2) ([],[qqF])=_ from mvQ];decide
 ·rw[show nf (sQ.l,sQ.r)=([],[qqF]) from nfQ,show mvF (calJ 2) ([],[qqF])=_ from mvQ];intro v hv;rw[dR.1 hv];refine⟨by show 1<=1000000;decide,λp hp y st D=>?_⟩;rw[dR.1 hp] at D ⊢;rw[show Tryz.hF (calJ 2) ([faQ],[faQ])=1 from sd4.1];exact oW gl G T 2 sA (.inr rfl) hvA sd4 y D (jv (by decide)) st
def Qn (G:Gl gl)(T:Gt gl)(y:IV)(st:ISt)(D:IsSq sO y):ICall prog gl 70 [.raw (.int .u8 ((1:Nat):Int)),y,((3:Nat):Int)] st (λr st'=>(∃z,gV mv4 z/\r=.tup [z,(0:Int)])/\st'=st):=by
 refine sK gl G T 1 sO (.inl rfl) awv2 3 mv4 y D (jv (by decide)) (λh=>(nclO h).elim) (λ_=>⟨aw2.2.top (by rw[nfO];exact nclO),?_,?_,?_⟩) st
 ·rw[show nf (sO.l,sO.r)=([],[orP]) from nfO,show mvF (calJ 1) ([],[orP])=_ from mvO];have E:lowB (calJ 1) 3 [([],[faP,fno faP,orP])]=true:=by unfold lowB;simp only[jE,List.all_nil];rw[show Tryz.hF (calJ 1) ([],[faP,fno faP,orP])=2 from sd5.1];rfl
  rw[ko,E]
 ·rw[show nf (sO.l,sO.r)=([],[orP]) from nfO,show mvF (calJ 1) ([],[orP])=_ from mvO];decide
 ·rw[show nf (sO.l,sO.r)=([],[orP]) from nfO,show mvF (calJ 1) ([],[orP])=_ from mvO];intro v hv;rw[dR.1 hv];refine⟨by show 1<=1000000;decide,λp hp y st D=>?_⟩;rw[dR.1 hp] at D ⊢;rw[show Tryz.hF (calJ 1) ([],[faP,fno faP,orP])=2 from sd5.1];exact oW gl G T 1 ⟨[],[faP,fno faP,orP]⟩ (.inl rfl) hvE sd5 y D (jv (by decide)) st
def Qo (G:Gl gl)(T:Gt gl)(y:IV)(st:ISt)(D:IsSq sA y):ICall prog gl 70 [.raw (.int .u8 ((2:Nat):Int)),y,((1:Nat):Int)] st (λr st'=>(∃z,gV mv3 z/\r=.tup [z,(0:Int)])/\st'=st):=by
 have hS:SetS sA=(sA,0):=by rw[Hy (.inr rfl) hvA,show nf (sA.l,sA.r)=([faQ],[faQ]) from nfA];rfl
 have E:sA.l.find? (hasF sA.r)=some faQ:=by
  have:hasF [faQ] faQ=true:=by simp only[hasF,List.any_cons,Hl (show faQ.right=true by kernel_rfl),Bool.true_or]
  simp only[ko,this]
 have hM:clM sA=mv3:=by simp only[clM,E]
 exact sK gl G T 2 sA (.inr rfl) hvA 1 mv3 y D (jv (by decide)) (λ_ st=>hM▸G_ gl G T sA sA y D (jv (by decide)) (by decide) hS (jv (by decide)) (by decide) st) (λh=>(h clA).elim) st
set_option maxRecDepth 4000
def vK (t:Tr):Prop:=∀(x y:IV) (_:IsTr t x) (_:IsTr t y) (_:t.steps<=1099511627776) (st:ISt),ICall prog gl 26 [x,y] st (λr st'=>r=true/\st'=st)
def Qp (rule:Nat)(s:Sq)(f:Fm)(u:Tm)(n:ByteArray)(sub:List Tr)(IH:∀a∈sub,vK gl a):vK gl (.mk rule s f u n sub):=by
 intro x y hx hy hst st;obtain⟨tl,xl,tr,xr,op,fn,ta,xa,tb,xb,v,un,tu,xu,ts,xs,rfl,bm,e1,i1,e2,i2,aO,hz,e3,i3⟩:=hx.mk;obtain⟨ab,aa,tr2,O,aJ,aX,aG,au,aE,ao,v2,aw,ay,ai,aA,ak,rfl,a8,a6,aM,a1,aL,af,aN,aZ,ac⟩:=hy.mk;simp only[Tr.steps] at hst;have aU:=vD sub;have h1:=λst=>DV gl s s (.agg [.sl tl xl,.sl tr xr]) (.agg [.sl ab aa,.sl tr2 O]) ⟨_,_,_,_,rfl,e1,i1,e2,i2⟩ ⟨_,_,_,_,rfl,a6,aM,a1,aL⟩ st;have h2:=λst=>yo gl f f _ _ aO af st;have h3:=λst=>Mu gl u u _ _ hz aN st;have aT:eqB s s=true:=yZ1.2 rfl;have aS:eqB f f=true:=yZ1.2 rfl;have aQ:eqB u u=true:=yZ1.2 rfl;refine iI func26 ?_;simp only[go_sem,zE,zA,zL,dC];refine (h1 _).q ?_;simp only[go_sem,zE,zA,zL,aT];refine (h2 _).q ?_;simp only[go_sem,zE,zA,zL,aS];refine (h3 _).q ?_;simp only[go_sem,zE,zA,aQ,dC,i3.len,ac.len];intros;refine dt sub.length (λk fr st' ds=>fr 2=.box [.raw (.int .u8 rule),.sl tl xl,.sl tr xr,.raw (.int .u8 op),fn,.sl ta xa,.sl tb xb,v,un,.sl tu xu,n,.sl ts xs] /\
  fr 3=.box [.raw (.int .u8 rule),.sl ab aa,.sl tr2 O,.raw (.int .u8 aJ),aX,.sl aG au,.sl aE ao,v2,aw,.sl ay ai,n,.sl aA ak]/\fr 5=.iv (.raw (.int .i64 k))/\st'=st/\ds=[]) ?_ ?_ ?_
 ·simp only[go_sem,zE];rfl
 ·rintro k fr aI _ G ⟨f2,f3,f5,rfl,rfl⟩;obtain⟨a,ha⟩:=dD G;have ah:=lMg ha;obtain⟨z,aV,ae⟩:=i3.get ha;obtain⟨z2,ag,D⟩:=ac.get ha;have J:=λst=>IH a ah z z2 ae D (by have:=GO ah;omega) st;obtain⟨E,aD,an,aC,am,aK,aY,aH,av,aF,aq,v',ax,az,aj,n',aB,al,rfl⟩:=ft ae;obtain⟨E,aD,an,aC,am,aK,aY,aH,av,aF,aq,v',ax,az,aj,n',aB,al,rfl⟩:=ft D;simp only[go_sem,zE,zB,zA,f2,f3,f5,i3.len,lt_i G,dB e3,dB aZ,iNn,aV,ag,fits];intros;refine (J _).q ?_;simp only[go_sem,zE,f2,f3,f5,dL G (by omega)]
 ·rintro fr aI _ ⟨f2,f3,f5,rfl,rfl⟩;simp only[go_sem,zE,f2,f5,i3.len,dS (nLi _)];intros;exact c_ ⟨rfl,rfl⟩
def HA:∀(k:Nat)(t:Tr),SizeOf.sizeOf t<k->vK gl t
 | 0,t,h=>by omega
 | k+1,.mk r sq f u n sub,h=>Qp gl r sq f u n sub (λa D=>HA k a (by
   have:=lSm D;simp at h;omega))
def Qq (t:Tr):vK gl t:=HA gl _ t (eS _)
set_option maxRecDepth 8000
def Qr {r:Nat}(J:r<256){s:Sq}{m:Fm}{sub:List Tr}{t G t1 t2 ts:Tag}{xs ys E D zs:List IV}{o:Int}{n:ByteArray}(h1:IsSq s (.agg [.sl t xs,.sl G ys]))(h2:IsFm m (.agg [.raw (.int .u8 o),n,.sl t1 E,.sl t2 D]))(h3:okEs ts 12)(h4:IsTrs sub zs) :
  IsTr (.mk r s m tmZ noN sub) (.agg [.raw (.int .u8 (r:Int)),.sl t xs,.sl G ys,.raw (.int .u8 o),n,.sl t1 E,.sl t2 D,false,.raw (.string ⟨#[]⟩),nlS,.raw (.string ⟨#[]⟩),.sl ts zs]):=by
 obtain⟨a1,b1,a2,b2,O,e1,i1,e2,i2⟩:=h1;cases O;exact⟨_,_,_,_,_,_,_,_,_,_,_,_,_,_,_,_,rfl,J,e1,i1,e2,i2,h2,oX,h3,h4⟩
def AF {t D:Tr}{x:IV}(O:IsTr t x)(hs:t.steps<=200){h:Nat}{m:Nat×Fm×List Sn}(hr:m.1<256)(hm:m.2.2.length<=100)(E:hCk 2 t=([],0)){p:List Nat}(J:eY t=[p])(hh:0<h)
  (hF:∀st,ICall prog gl 40 [.raw (.int .u8 ((2:Nat):Int)),x] st (λr st'=>sL 2 t h m r/\st'=st)) (n:Nat) (hv:visF (folF m) n t true p=some D) (st:ISt) :
  ICall prog gl 27 [.raw (.int .u8 ((2:Nat):Int)),x] st (λr st'=>(∃z,IsTr D z/\r=.tup [z,(0:Int)])/\st'=st):=by
 refine (Hg gl 2 t D x O (by omega) h m hr hF n (λq qs _ G=>by rw[J] at G;cases G;exact⟨by omega,hv⟩) st).mono ?_;rintro r st' ⟨⟨h0,_⟩|⟨_,h0,_⟩|⟨_,h0⟩|⟨_,_,h0⟩,h1⟩
 ·rw[E] at h0;exact absurd rfl h0
 ·rw[J] at h0;cases h0
 ·omega
 ·exact⟨h0,h1⟩
def skK:Nat->Tr
 | 0=>goalT sM
 | 1=>sk1
 | 2=>sk2
 | _=>sk3
def Qs (G:Gl gl)(T:Gt gl)(D:∀g x,gl g=some x->age x=x)(k:Nat)(O:k<3)(x:IV)(E:IsTr (skK k) x)(st:ISt) :
  ICall prog gl 27 [.raw (.int .u8 ((2:Nat):Int)),x] st (λr st'=>(∃z,IsTr (skK (k+1)) z/\r=.tup [z,(0:Int)])/\st'=st):=by
 rcases (show k=0\/k=1\/k=2 by omega) with rfl|rfl|rfl
 ·exact AF gl E (by decide) (m:=mv1) (by decide) (by decide) ckM (p:=[]) rfl (by decide) (λst=>sU gl G T D (.inr rfl) E (by decide) (by decide) (p:=[]) rfl rfl hvM sd2 (jv (by decide)) mv1 (λ_ y st J=>Ql gl G T y st J) st) 3 (by kernel_rfl) st
 ·exact AF gl E (by decide) (m:=mv2) (by decide) (by decide) ck1 (p:=[0]) rfl (by decide) (λst=>sU gl G T D (.inr rfl) E (by decide) (by decide) (p:=[0]) rfl rfl hvQ sd3 (jv (by decide)) mv2 (λ_ y st J=>Qm gl G T y st J) st) 4 (by kernel_rfl) st
 ·exact AF gl E (by decide) (m:=mv3) (by decide) (by decide) ck2 (p:=[0,0]) rfl (by decide) (λst=>sU gl G T D (.inr rfl) E (by decide) (by decide) (p:=[0,0]) rfl rfl hvA sd4 (jv (by decide)) mv3 (λ_ y st J=>Qo gl G T y st J) st) 5 (by kernel_rfl) st
def Qt (G:Gl gl)(T:Gt gl)(E:∀g x,gl g=some x->age x=x)(x:IV)(J:IsTr sk3 x)(st:ISt) :
  ICall prog gl 27 [.raw (.int .u8 ((2:Nat):Int)),x] st (λr st'=>r=.tup [.agg z12,(271:Int)]/\st'=st):=by
 have D:eY sk3=[]:=rfl;refine (Hg gl 2 sk3 sk3 x J (by decide) 1 mv3 (by decide) (λst=>Hb gl G T E 2 sk3 x J (oZ (by decide) (by decide)) (by decide) 1 mv3 (λp ps _ h=>by rw[D] at h;cases h) (λp ps _ _ h=>by rw[D] at h;cases h) st) 0 (λq qs _ O=>by rw[D] at O;cases O) st).mono ?_;rintro r st' ⟨⟨h0,_⟩|⟨_,_,h0⟩|⟨_,h0⟩|⟨_,h0,_⟩,h1⟩
 ·rw[ck3] at h0;exact absurd rfl h0
 ·exact⟨h0,h1⟩
 ·omega
 ·exact absurd D h0
def ckS3:gj 2 sk3=([],0):=by
 have c1:fF 2 sk3=0:=sS (s:=([],[mnF])) hvM rfl fmM (m:=mv1) (by rw[mvM];exact .tail _ (.head _)) rfl;have c2:fF 2 (.mk 10 sQ qqF tmZ noN [.mk 1 sA faQ tmZ noN []])=0:=sS (s:=([],[qqF])) hvQ rfl fmQ (m:=mv2) (by rw[mvQ];exact .head _) rfl;have c3:fF 2 (.mk 1 sA faQ tmZ noN [])=0:=(Ho (.inr rfl) (s:=([faQ],[faQ])) hvA (λf E=>by rw[dR.1 E];kernel_rfl) (by simp[axF])).1;have e:gj 2 sk3=fz (fF 2) (sk3.walk []):=by
  unfold gj;rw[show gR 2=true from rfl];simp only[ly,bFt,dE];rw[a_ (by decide)]
 rw[e];refine AD λq D=>?_;simp only[Tr.walk,eO,ek,fa,dF,fJ,eU] at D;rcases D with rfl|rfl|rfl
 ·exact c1
 ·exact c2
 ·exact c3
def lW (s:Sq):Nat×Nat:=if wFms s.r=wFms [faP] then (0,0) else (3,0)
def Qu (G:Gl gl)(T:Gt gl)(J:∀g x,gl g=some x->age x=x)(st:ISt):ICall prog gl 4 [] st (λr st'=>r=true/\st'=st):=by
 have hO:=sT (sD sO (by decide));have aC:=λst=>Hj gl 1 (goalT sO) _ hO 3 mv4 4 (λ_ _ _ _=>rfl) (λ_ st=>sU gl G T J (.inl rfl) hO (by decide) (by decide) (p:=[]) rfl rfl awv2 aw2 (jv (by decide)) mv4 (λ_ y st hy=>Qn gl G T y st hy) st) st;have aB:=λst=>Hj gl 2 (goalT sO) _ hO 0 mv4 4 (λ_ h _ _=>absurd h (by decide)) (λ_ st=>sU gl G T J (.inr rfl) hO (by decide) (by decide) (p:=[]) rfl rfl awv3 aw3 (jv (by decide)) mv4 (λh=>absurd h (by decide)) st) st;have al:IsTr skW _:=Qr (r:=8) (ts:=⟨true,.full,12⟩) (by decide) (sD sM (by decide)) (ye mnF (by decide)) (.inr rfl) ⟨_,[],rfl,sT (sD sP (by decide)),rfl⟩;have aw:sN lW 2 skW=([],0):=by unfold sN;rw[ckW];kernel_rfl
 have af:=λst=>PY gl G T J lW 2 skW _ al (oZ (by decide) (by decide)) (by decide) (λz hz y st hy=>by
  have hz:z=skW\/z=goalT sP:=by
   rw[show ga skW=[skW,goalT sP] from rfl] at hz;simpa using hz
  rcases hz with rfl|rfl
  ·rw[show lW skW.sq=(3,0) by kernel_rfl];exact oW gl G T 2 sM (.inr rfl) hvM sd2 y hy (jv (by decide)) st
  ·rw[show lW (goalT sP).sq=(0,0) by kernel_rfl];exact oW gl G T 2 sP (.inr rfl) hvP sd1 y hy (jv (by decide)) st) st
 rw[aw] at af;have ax:=λst=>PZ gl 2 skW (goalT sM) _ al [] (by decide) 0 (λst=>(af st).mono λr st' ⟨a,b⟩=>⟨.inr ⟨rfl,a⟩,b⟩) 3 (λ_=>by kernel_rfl) st;refine ICall.intro (c:=cf prog gl [] [(9,[0,1,2,3,7,4,5,6,8]),(10,[0,1,2,5,6,12,3,4,7,8,9,10,11,13])]) func4 rfl (by show _<=179;simp) (by kernel_rfl) ?_;simp only[go_sem,zA,zL,pK]
 repeat ((first|refine (k_p gl _ _).mono ?_|refine (k_of gl _ _ _ _).mono ?_|refine (k_fs gl _ _ _).mono ?_|refine (k_sq gl _ _ _ _ _).mono ?_|refine (qN gl _ _ _ _ _).mono ?_|refine (vJ gl _ _ _ _ _ _ _ _ _ _ _ _ _ _).mono ?_);rintro _ st ⟨rfl,rfl⟩;simp only[go_sem,zE,zA,zM,zL,fits,eh,kV,pK,gI])
 refine (aC _).mono ?_;rintro r st ⟨hr,rfl⟩;obtain⟨E,aa,o,n,t1,x1,t2,x2,t3,x3,hm,rfl⟩:∃E,okEs E 1/\∃o n t1 x1 t2 x2 t3 x3,gV mv4 (.agg [.raw (.int .u8 ((8:Nat):Int)),.raw (.int .u8 o),.raw (.string n),.sl t1 x1,.sl t2 x2,.sl t3 x3]) /\
   r=.tup [.agg [.sl E [],((3:Nat):Int),true,.raw (.int .u8 o),.raw (.string n),.sl t1 x1,.sl t2 x2,.raw (.int .u8 ((8:Nat):Int)),.sl t3 x3],(0:Int)]:=by
  rcases hr with⟨h,_⟩|⟨_,⟨h,_⟩|⟨_,h,_⟩|⟨_,p,ps,E,ae,aa,⟨h,_⟩|⟨_,o,n,t1,x1,t2,x2,t3,x3,hm,rfl⟩⟩⟩
  ·omega
  ·rw[ckO1] at h;exact absurd rfl h
  ·cases h
  ·cases h
  ·cases ae;exact⟨E,aa,o,n,t1,x1,t2,x2,t3,x3,hm,rfl⟩
 simp only[go_sem,zE,zA,zL];refine (aB _).mono ?_;rintro r st ⟨hr,rfl⟩;obtain⟨aU,aK,rfl⟩:∃E,okEs E 1/\r=.tup [.agg (.sl E []::advZ.tail),(272:Int)]:=by
  rcases hr with⟨h,_⟩|⟨_,⟨h,_⟩|⟨_,h,_⟩|⟨_,p,ps,E,ae,aa,⟨_,rfl⟩|⟨h,_⟩⟩⟩
  ·omega
  ·rw[ckO2] at h;exact absurd rfl h
  ·cases h
  ·cases ae;exact⟨E,aa,rfl⟩
  ·omega
 obtain⟨o',n',q1,z1,q2,z2,q3,z3,he,hf,e3,h3⟩:=hm;cases he;have hp1:IsSqs [⟨[],[faP,fno faP,orP]⟩] [sI ⟨[],[faP,fno faP,orP]⟩]:=⟨_,_,rfl,sD _ (by decide),rfl⟩
 have aA:=λst=>yo gl orP orP _ _ hf (ye orP (by decide)) st;have az:=λst=>Pd gl _ _ t3 ⟨true,.full,2⟩ x3 [sI ⟨[],[faP,fno faP,orP]⟩] e3 (by simp[okEs]) (GM h3) hp1 st;simp only[go_sem,zE,zA,zL,show advZ.tail=[.raw (.int .i64 0),.raw (.bool false),.raw (.int .u8 0),.raw (.string ⟨#[]⟩),nlS,nlS,.raw (.int .u8 0),nlS] from rfl,dC,show decide (((3:Nat):Int)=3)=true from rfl,show decide (((8:Nat):Int)=8)=true from rfl,show decide (((0:Nat):Int)=0)=true from rfl];refine (aA _).q ?_;have hq:eqB orP orP=true:=yZ1.2 rfl;simp only[go_sem,zE,zA,zM,zL,fits,hq,Pe]
 repeat ((first|refine (k_p gl _ _).mono ?_|refine (k_of gl _ _ _ _).mono ?_|refine (k_fs gl _ _ _).mono ?_|refine (k_sq gl _ _ _ _ _).mono ?_|refine (qN gl _ _ _ _ _).mono ?_|refine (vJ gl _ _ _ _ _ _ _ _ _ _ _ _ _ _).mono ?_);rintro _ st ⟨rfl,rfl⟩;simp only[go_sem,zE,zA,zM,zL,fits,eh])
 refine (az _).q ?_;have aq:eqB ([⟨[],[faP,fno faP,orP]⟩]:List Sq) [⟨[],[faP,fno faP,orP]⟩]=true:=yZ1.2 rfl;simp only[go_sem,zE,zA,zM,zL,fits,aq,kV]
 repeat ((first|refine (k_p gl _ _).mono ?_|refine (k_of gl _ _ _ _).mono ?_|refine (k_fs gl _ _ _).mono ?_|refine (k_sq gl _ _ _ _ _).mono ?_|refine (qN gl _ _ _ _ _).mono ?_|refine (vJ gl _ _ _ _ _ _ _ _ _ _ _ _ _ _).mono ?_);rintro _ st ⟨rfl,rfl⟩;simp only[go_sem,zE,zA,zM,zL,fits,eh,kV,gI])
 refine (af _).mono ?_;rintro r st ⟨hr,rfl⟩;obtain⟨aT,aJ,rfl⟩:∃E,okEs E 1/\r=.tup [.sl E [],(0:Int)]:=hr;simp only[go_sem,zE,zA,zL];refine (ax _).mono ?_;rintro r st ⟨hr,rfl⟩;obtain⟨u,hu,rfl⟩:∃z,IsTr (goalT sM) z/\r=.tup [z,(0:Int)]:=by
  rcases hr with⟨h,_⟩|⟨_,h⟩
  ·exact absurd rfl h
  ·exact h
 have aj:=hu;obtain⟨r1,a1,b1,a2,b2,o1,n1,a3,b3,a4,b4,v1,n2,a5,b5,n3,a6,b6,rfl⟩:=ft hu;have ay:=λst=>Qq gl (goalT sM) _ _ aj (sT (sD sM (by decide))) (by decide) st;simp only[go_sem,zE,zA,zM,zL,fits,dC,show decide (((0:Nat):Int)=0)=true from rfl,eh]
 repeat ((first|refine (k_p gl _ _).mono ?_|refine (k_of gl _ _ _ _).mono ?_|refine (k_fs gl _ _ _).mono ?_|refine (k_sq gl _ _ _ _ _).mono ?_|refine (qN gl _ _ _ _ _).mono ?_|refine (vJ gl _ _ _ _ _ _ _ _ _ _ _ _ _ _).mono ?_);rintro _ st ⟨rfl,rfl⟩;simp only[go_sem,zE,zA,gI])
 refine (ay _).q ?_;simp only[go_sem,zE];refine dt 3 (λk fr st' ds=>(∃c,fr 14=.box c/\IsTr (skK k) (.agg c))/\st'=st/\fr 16=(k:Int)/\ds=[]) ?_ ?_ ?_
 ·simp only[go_sem,zE];exact⟨⟨_,rfl,aj⟩,rfl⟩
 ·rintro k fr O _ ak ⟨⟨c,f14,hc⟩,rfl,f16,rfl⟩;have av:=λst=>Qs gl G T J k ak _ hc st;obtain⟨r1,a1,b1,a2,b2,o1,n1,a3,b3,a4,b4,v1,n2,a5,b5,n3,a6,b6,D⟩:=ft hc;injection D with D;subst D;simp only[go_sem,zE,zA,zL,f14,f16,show decide ((k:Int)<3)=true from dEt (by omega)];refine (av _).mono ?_;rintro _ O ⟨⟨z,hz,rfl⟩,rfl⟩;have ao:=hz;obtain⟨r2,c1,e1,c2,e2,o2,m1,c3,a7,c4,e4,v2,m2,c5,e5,m3,c6,e6,rfl⟩:=ft hz;simp only[go_sem,zE,zA,zL,f14,f16,dC,dL ak (by omega)];exact⟨_,rfl,ao⟩
 ·rintro fr O _ ⟨⟨c,f14,hc⟩,rfl,f16,rfl⟩;have hC:=λst=>yW gl G T 2 sk3 _ hc (oZ (by decide) (by decide)) st;have aD:=λst=>Qt gl G T J _ hc st;obtain⟨a1,b1,a2,b2,o1,n1,a3,b3,a4,b4,v1,n2,a5,b5,a6,b6,D,_⟩:=IsTr.mk hc;injection D with D;subst D;rw[ckS3] at hC;simp only[go_sem,zE,zA,zL,f14,f16,show decide (((3:Nat):Int)<3)=false from rfl];refine (hC _).mono ?_;rintro _ O ⟨⟨E,rfl,_⟩,rfl⟩;simp only[go_sem,zE,zA,zL,f14];refine (aD _).q ?_;simp only[go_sem,zE,zA,zL,f14,dC,show decide (((0:Nat):Int)=0)=true from rfl,show decide (((18:Nat):Int)=18)=true from rfl];exact c_ ⟨rfl,rfl⟩
set_option maxRecDepth 4000
def Qv (b:Bool)(st:ISt):ICall prog gl 5 [b] st (λr st'=>r=.raw (.int .u8 ((if b=true then 2 else 1:Nat):Int))/\st'=st):=by
 refine iI func5 ?_;cases b
 ·simp only[go_sem,reduceCtorEq];exact c_ ⟨rfl,rfl⟩
 ·simp only[go_sem,reduceCtorEq];exact c_ ⟨rfl,rfl⟩
def Qw {j:Bool}{f:Fm}{r:Bool}{t:Nat×List Sn}(h:t∈addF j f r):3<=t.1/\onR t.1=r/\t.2.length<=2:=by
 cases j<;>unfold addF at h<;>split at h<;>simp at h
 all_goals first
  | (subst h;exact⟨by simp,rfl,by simp⟩)
  | (rcases h with rfl|rfl<;>exact⟨by simp,rfl,by simp⟩)
def HB (j:Bool)(f:Fm)(r:Bool):(addF j f r).length<=2:=by
 cases j<;>unfold addF<;>split<;>simp
def AG {α β:Type}{g:α->List β}(D:∀a,(g a).length<=2):∀l:List α,(l.flatMap g).length<=2*l.length
 | []=>ed _
 | a::l=>by have:=D a;have:=AG D l;rw[eo,lLa,dX];omega
def Qx {j:Bool}{s:Sn}{m:Nat×Fm×List Sn}(h:m∈mvF j s):3<=m.1/\m.2.2.length<=2/\m.2.1∈(if onR m.1=true then s.2 else s.1):=by
 have key:∀r f,f∈(if r=true then s.2 else s.1)->m∈jB j s r f->3<=m.1/\m.2.2.length<=2/\m.2.1∈(if onR m.1=true then s.2 else s.1):=λr f D E=>by
  obtain⟨t,ht,rfl⟩:=dH.1 E;obtain⟨a,b,c⟩:=Qw ht;exact⟨a,by simpa using c,by rw[show onR (t.1,f,t.2.map (np j s)).1=r from b];exact D⟩
 rcases dQ.1 h with h|h
 ·obtain⟨f,D,h⟩:=fh.1 h;exact key false f D h
 ·obtain⟨f,D,h⟩:=fh.1 h;exact key true f D h
open Classical in
noncomputable def bsM (ca:Nat)(s:Sq):Nat×Fm×List Sn :=
 if ClF s.l s.r then clM (sqOf (nf (s.l,s.r))) else ((mvF (calJ ca) (nf (s.l,s.r))).find? (λv=>lowB (calJ ca) (Tryz.hF (calJ ca) (s.l,s.r)) v.2.2)).getD (0,fm0,[])
def Qy {ca:Nat}{s:Sq}(D:¬ ClF s.l s.r)(h:0<Tryz.hF (calJ ca) (s.l,s.r)):(mvF (calJ ca) (nf (s.l,s.r))).find? (λv=>lowB (calJ ca) (Tryz.hF (calJ ca) (s.l,s.r)) v.2.2)=some (bsM ca s):=by
 unfold bsM;rw[a_ D];cases hf:(mvF (calJ ca) (nf (s.l,s.r))).find? (λv=>lowB (calJ ca) (Tryz.hF (calJ ca) (s.l,s.r)) v.2.2) with
 | some m=>rfl
 | none =>
  have J:=jc.1 hf;obtain⟨k,hk⟩:∃k,Tryz.hF (calJ ca) (s.l,s.r)=k+1:=⟨_,(Nat.sub_add_cancel h).symm⟩
  have hp:=wVu.2 (zn h);rw[hk] at hp;rcases yGs.1 hp with hc|⟨m,O,E⟩
  ·exact (D ((vB (s.l,s.r)).1 hc)).elim
  ·refine (J m O ?_).elim;unfold lowB;refine eF.2 λp G=>?_;have:=nr (E p G);rw[bAt];exact⟨dEt this.2.2,dEt (by omega)⟩
def HC:∀l:List Sn,eE (l.map λp=>goalT ⟨p.1,p.2⟩)=l.length
 | []=>rfl
 | a::l=>by rw[ec,eE,HC l,dX];simp only[Tr.steps,eE];omega
def vL {ca:Nat}{s:Sq}(hv:en ca s=true):s.l.length<=64/\s.r.length<=64:=by
 unfold en at hv;simp only[bAt,dTe] at hv;exact⟨hv.1.1.1.1.2,hv.1.1.1.2⟩
def Qz (G:Gl gl)(T:Gt gl)(ca:Nat)(hc:ca=1\/ca=2)(s:Sq)(hv:en ca s=true){K:List Sn}(hK:ReachOk (calJ ca) (nf (s.l,s.r)) K)(h:0<Tryz.hF (calJ ca) (s.l,s.r))(x:IV)(hx:IsSq s x)(st:ISt) :
  ICall prog gl 70 [.raw (.int .u8 (ca:Int)),x,(Tryz.hF (calJ ca) (s.l,s.r):Int)] st (λr st'=>(∃z,gV (bsM ca s) z/\r=.tup [z,(0:Int)])/\st'=st):=by
 have J:=AB hv;obtain⟨l1,l2⟩:=vL hv;have E:=GR hc hv hK .refl;refine sK gl G T ca s hc hv _ (bsM ca s) x hx J (λD st=>?_) (λD=>⟨?_,Qy D h,?_,λv O=>⟨?_,λp hp y st hy=>?_⟩⟩) st
 ·have hm:bsM ca s=clM (sqOf (nf (s.l,s.r))):=by unfold bsM;rw[cX D]
  rw[hm];exact G_ gl G T s _ x hx J ⟨l1,l2⟩ (Hy hc hv) (AB E.1) (vL E.1).1 st
 ·exact hK.short _ ((hK.mem _).2 .refl) λh=>D ((vB (s.l,s.r)).1 h)
 ·have h1:=(vL E.1).1;have h2:=(vL E.1).2;have h3:=AG (g:=jB (calJ ca) (nf (s.l,s.r)) false) (λf=>by unfold jB;rw[dP];exact HB ..) (nf (s.l,s.r)).1;have h4:=AG (g:=jB (calJ ca) (nf (s.l,s.r)) true) (λf=>by unfold jB;rw[dP];exact HB ..) (nf (s.l,s.r)).2;have h1:(nf (s.l,s.r)).1.length<=64:=h1;have h2:(nf (s.l,s.r)).2.length<=64:=h2;unfold mvF;rw[lLa];omega
 ·have:=(Qx O).2.1;omega
 ·have hr:Rch (calJ ca) (nf (s.l,s.r)) p:=.step .refl (λh=>D ((vB (s.l,s.r)).1 h)) O hp;obtain⟨v1,v2,_⟩:=GR hc hv hK hr;refine (Gz gl G T ca ⟨p.1,p.2⟩ y hy (AB v1) st).mono ?_;rintro r st' ⟨rfl,⟨e,hb,_⟩|⟨_,_,_,rfl⟩⟩
  ·rcases hb.1 with⟨h,_⟩|⟨_,h,_⟩|⟨_,_,h⟩
   ·exact (h hc).elim
   ·rw[show en ca ⟨p.1,p.2⟩=true from v1] at h;cases h
   ·rw[show nf (p.1,p.2)=p from v2] at h;exact (hK.no hr h).elim
  ·exact⟨rfl,rfl⟩
def AH (W:List Fm)(j:Bool):∀(q n:Nat) (ls:List Ln),runF W j q n ls<=5
 | 0,_,_=>ed _
 | q+1,n,ls=>by
  have E:∀(l:List (Option Mv)) (ls:List Ln),(expF l ls).2<=5:=λl=>by
   induction l with
   | nil=>exact λ_=>ed _
   | cons a l D =>
    intro ls;cases a with
    | none=>exact dG _
    | some v =>
     rw[expF];split
     ·show 4<=5;decide
     ·exact D _
  rw[runF];split
  ·exact ed _
  ·split
   ·exact AH W j q _ _
   ·split
    ·exact AH W j q _ _
    ·exact E _ _
def QA (ca:Nat)(s:Sq):errN ca s<=190:=by
 unfold errN;split
 ·split
  ·have:=AH (spW s) (calJ ca) 20001 0 [lp (spW s) (s.l,s.r)];omega
  ·decide
 ·decide
def sG (t:Tr):Sq:=(atT t ((eY t).headD [])).sq
def FkP (ca:Nat)(s:Sq):Prop:=(ca=1\/ca=2)/\en ca s=true/\∃K:List Sn,ReachOk (calJ ca) (nf (s.l,s.r)) K
def QB {ca:Nat}{s:Sq}(h:0<(leF ca s).1):(leF ca s).1=Tryz.hF (calJ ca) (s.l,s.r):=by
 unfold leF at h ⊢;simp only at h ⊢;split
 ·rfl
 ·rename_i D;rw[a_ D] at h;omega
def vM {t:Tr}{p:List Nat}(h:lZ t)(hp:okP t p):fY (atT t p).sq:=by
 have:=h.1 _ (vG p t [] hp);generalize atT t p=z at this;obtain⟨r,s,f,u,n,sub⟩:=z;exact this.1
def QC (G:Gl gl)(T:Gt gl)(ab:∀g x,gl g=some x->age x=x)(ca:Nat)(t:Tr)(x:IV)(hx:IsTr t x)(D:lZ t)(hs:t.steps<=1000000)(st:ISt) :
  ICall prog gl 40 [.raw (.int .u8 (ca:Int)),x] st (λr st'=>Al ca t (leF ca (sG t)).1 (leF ca (sG t)).2 (bsM ca (sG t)) (FkP ca (sG t)) r/\st'=st):=by
 refine Ha gl G T ab ca t x hx D hs _ _ _ _ (λp ps _ O y st J=>?_) (λhF p ps hh _ O y st J=>?_) st
 ·have E:sG t=(atT t p).sq:=by unfold sG;rw[O];rfl
  rw[E];exact GA gl G T ca _ y J (vM D (Am O).1) st
 ·have E:sG t=(atT t p).sq:=by unfold sG;rw[O];rfl
  rw[<- E] at J;obtain⟨hc,hv,K,hK⟩:=hF;have he:=QB hh;rw[he] at hh ⊢;exact Qz gl G T ca hc _ hv hK hh y J st
def QD (G:Gl gl)(T:Gt gl)(E:∀g x,gl g=some x->age x=x)(ca:Nat)(t:Tr)(x:IV)(J:IsTr t x)(D:lZ t)(hs:t.steps<=1000000)(l:Nat)(h1:1<=l)(O:l<=4)(st:ISt) :
  ICall prog gl 14 [.raw (.int .u8 (ca:Int)),x,(l:Int)] st (λr st'=>Ax ca t (leF ca (sG t)).1 (leF ca (sG t)).2 (bsM ca (sG t)) (FkP ca (sG t)) l r/\st'=st) :=
 Hi gl ca t x J _ _ (Nat.lt_of_le_of_lt (QA ca (sG t)) (by decide)) _ _ (l:Int) l (by omega) (by omega) rfl (λst=>QC gl G T E ca t x J D hs st) st
noncomputable def iD (ca:Nat)(t:Tr):Nat×Nat:=match eY t with
 | []=>(0,0)
 | p::_=>if (leF ca (atT t p).sq).2≠0 then (0,(leF ca (atT t p).sq).2) else if (leF ca (atT t p).sq).1=0 then (0,272) else ((leF ca (atT t p).sq).1,0)
def QE {ca:Nat}{s:Sq}(h:(leF ca s).2=0->∃K:List Sn,ReachOk (calJ ca) (nf (s.l,s.r)) K):(leF ca s).1<=20000:=by
 by_cases h0:(leF ca s).2=0
 ·obtain⟨K,hK⟩:=h h0;have h0:errN ca s=0:=h0;have h1:=hK.height .refl;have h2:=hK.len;rw[zo] at h1;show (if errN ca s=0 then _ else 0)<=20000;rw[cX h0];omega
 ·have h0:errN ca s≠0:=h0;show (if errN ca s=0 then _ else 0)<=20000;rw[a_ h0];omega
def HD (G:Gl gl)(T:Gt gl)(aq:∀g x,gl g=some x->age x=x)(ca:Nat)(t:Tr)(x:IV)(hx:IsTr t x)(O:lZ t)(hs:t.steps<=1000000)(a7:(hCk ca t).2=0)(hl:(eY t).length<=1)(st:ISt) :
  ICall prog gl 13 [.raw (.int .u8 (ca:Int)),x] st (λr st'=>r=.tup [((iD ca t).1:Int),((iD ca t).2:Int)]/\st'=st):=by
 have hC:=λst=>qL gl G T ca t x hx O hs st;have hG:=λst=>sJ gl aq t x hx hs st;have hA:=λp hp tg aa hl st=>at_c gl t x hx p hp tg aa hl st;obtain⟨rule,tl,xl,tr,xr,op,fn,ta,xa,tb,xb,v,un,tu,xu,n,ts,xs,rfl⟩:=ft hx;refine iI func13 ?_;simp only[go_sem,zE,zA,zL,reduceCtorEq];refine (hC _).mono ?_;rintro _ st ⟨⟨aU,rfl,_⟩,rfl⟩;have d0:decide (((hCk ca t).2:Int)=0)=true:=dEt (by omega);simp only[go_sem,zE,zA,zL,d0];refine (hG _).mono ?_;rintro _ st ⟨⟨tg,ys,rfl,aa,hys⟩,rfl⟩;have ak:=hys.1;simp only[go_sem,ak];intro _;refine dt (eY t).length (λk fr st' ds=>((k=0/\fr 8=(0:Int))\/(k=1/\fr 8=((iD ca t).1:Int)/\(iD ca t).2=0))/\st'=st/\fr 0=.iv (.raw (.int .u8 (ca:Int)))/\fr 3=.box [.raw (.int .u8 rule),.sl tl xl,.sl tr xr,.raw (.int .u8 op),fn,.sl ta xa,.sl tb xb,v,un,.sl tu xu,n,.sl ts xs]/\fr 23=.iv (.sl tg ys)/\fr 24=((eY t).length:Int)/\fr 25=(k:Int)/\ds=[]) ?_ ?_ ?_
 ·simp only[go_sem,zE,reduceCtorEq];exact rfl
 ·rintro k fr J _ an ⟨hk,rfl,f0,f3,f23,f24,f25,rfl⟩;obtain rfl:k=0:=by omega
  have f8:fr 8=(0:Int):=by
   rcases hk with⟨_,h⟩|⟨h,_⟩
   ·exact h
   ·omega
  obtain⟨p,hp⟩:=dD an;obtain⟨y,hy,t',rfl,al⟩:=hys.2 0 p hp;obtain⟨ac,_,am⟩:=As (lMg hp);have E:iD ca t=if (leF ca (atT t p).sq).2≠0 then (0,(leF ca (atT t p).sq).2) else if (leF ca (atT t p).sq).1=0 then (0,272) else ((leF ca (atT t p).sq).1,0):=by
   unfold iD;cases hg:eY t with
   | nil=>rw[hg] at hp;cases hp
   | cons a l=>rw[hg] at hp;cases hp;rfl
  have ha:=hA p ac t' al (dN am hs) J;have ae:=vM O ac;have dl:decide (((0:Nat):Int)<((eY t).length:Int))=true:=dEt (by omega);simp only[go_sem,zE,zA,zL,reduceCtorEq,f0,f3,f23,f24,f25,fits,dl,dB aa,iNn,hy];refine ha.mono ?_;rintro r J ⟨hr,rfl⟩;generalize atT t p=z at hr E ae;obtain⟨ah,D,f',u',n',ax⟩:=z;obtain⟨aT,aF,aS,aD,aZ,bd,aX,aI,aV,aG,v',aL,aN,aA,aQ,aC,rfl,_,aw,aj,av,ai,_⟩:=hr.mk;have au:=λst=>GA gl G T ca D _ ⟨_,_,_,_,rfl,aw,aj,av,ai⟩ ae st;replace E:iD ca t=if (leF ca D).2≠0 then (0,(leF ca D).2) else if (leF ca D).1=0 then (0,272) else ((leF ca D).1,0):=E
  simp only[go_sem,zE,zA,zL];refine (au _).mono ?_;rintro _ J ⟨⟨rfl,hF⟩,rfl⟩;have a6:=QE (ca:=ca) (s:=D) λh=>(hF h).2.2;by_cases h1:(leF ca D).2=0
  ·have d1:decide (((leF ca D).2:Int)=0)=true:=dEt (by omega);by_cases h2:(leF ca D).1=0
   ·have d2:decide (((leF ca D).1:Int)=0)=true:=dEt (by omega);have E:iD ca t=(0,272):=by rw[E,a_ (by simpa using h1),cX h2]
    simp only[go_sem,zE,d1,d2];exact c_ ⟨by rw[E];rfl,rfl⟩
   ·have d2:decide (((leF ca D).1:Int)=0)=false:=dEf (by omega);have E:iD ca t=((leF ca D).1,0):=by rw[E,a_ (by simpa using h1),a_ h2]
    have wl:IntKind.i64.wrap (0+((leF ca D).1:Int))=((leF ca D).1:Int):=by rw[Int.zero_add];exact w64 (by omega) (by omega)
    simp only[go_sem,zE,reduceCtorEq,f0,f3,f8,f23,f24,f25,d1,d2,wl];rw[E];exact⟨.inr ⟨rfl,rfl⟩,rfl⟩
  ·have d1:decide (((leF ca D).2:Int)=0)=false:=dEf (by omega);have E:iD ca t=(0,(leF ca D).2):=by rw[E];exact cX h1
   simp only[go_sem,zE,d1];exact c_ ⟨by rw[E];rfl,rfl⟩
 ·rintro fr J _ ⟨hk,rfl,f0,f3,f23,f24,f25,rfl⟩;have ab:fr 8=((iD ca t).1:Int)/\(iD ca t).2=0:=by
   rcases hk with⟨h,h8⟩|⟨_,h⟩
   ·have:iD ca t=(0,0):=by unfold iD;rw[ev h]
    rw[this];exact⟨h8,rfl⟩
   ·exact h
  obtain⟨f8,h2⟩:=ab;simp only[go_sem,zE,f8,f24,f25,dS (nLi _)];exact c_ ⟨by rw[h2];rfl,rfl⟩
end Go.Proofs.Tryz
namespace Go.Proofs.Tryz
open Go Go.Iv
set_option maxRecDepth 4000
noncomputable def gK:Tr->List Nat->Tr
 | t,[]=>goalT t.sq
 | .mk r s m u n sub,i::p=>match sub[i]? with
  | some a=>.mk r s m u n (sub.set i (gK a p))
  | none=>.mk r s m u n sub
def qP {r:Nat}{s:Sq}{m:Fm}{u:Tm}{n:ByteArray}{sub:List Tr}{i:Nat}{p:List Nat}{a:Tr}(h:sub[i]?=some a):gK (.mk r s m u n sub) (i::p)=.mk r s m u n (sub.set i (gK a p)):=by
 simp only[gK,h]
def pc (t:Tr):gK t []=goalT t.sq:=by cases t;rfl
def HE:∀(p:List Nat)(t:Tr),(gK t p).sq=t.sq
 | [],t=>by rw[pc];rfl
 | i::p,.mk r s m u n sub=>by
  simp only[gK];split<;>rfl
def AI:∀(p:List Nat)(t:Tr),okP t p->okP (gK t p) p/\atT (gK t p) p=goalT (atT t p).sq
 | [],t,_=>⟨trivial,by rw[pc];cases t;rfl⟩
 | i::p,.mk r s m u n sub,⟨a,h1,h2⟩=>by
  rw[qP h1];have hl:=(lGs h1).1;have hs:(sub.set i (gK a p))[i]?=some (gK a p):=by rw[List.getElem?_set_self hl]
  obtain⟨E,D⟩:=AI p a h2;exact⟨⟨_,hs,E⟩,by simp only[atT,hs,h1];exact D⟩
def AJ:∀(l:List Tr)(i:Nat)(a b:Tr),l[i]?=some a->b.sq=a.sq->(l.set i b).map Tr.sq=l.map Tr.sq
 | c::l,0,a,b,h,hs=>by
  obtain rfl:c=a:=by simpa using h
  simp only[jh,ec,hs]
 | c::l,i+1,a,b,h,hs=>by
  simp only[kE,ec];rw[AJ l i a b (by simpa using h) hs]
def HF {P:Tr->Prop}:∀(l:List Tr) (i:Nat) (b:Tr),(∀z∈l.flatMap ga,P z)->(∀z∈ga b,P z)->∀z∈(l.set i b).flatMap ga,P z
 | [],_,_,_,_=>nofun
 | c::l,0,b,h,E=>λz D=>by
  rw[jh,eo] at D;rcases dQ.1 D with D|D
  ·exact E z D
  ·exact h z (by rw[eo];exact fV _ D)
 | c::l,i+1,b,h,E=>λz D=>by
  rw[kE,eo] at D;rcases dQ.1 D with D|D
  ·exact h z (by rw[eo];exact gg _ D)
  ·exact HF l i b (λz D=>h z (by rw[eo];exact fV _ D)) E z D
def QF {l:List Tr}{a:Tr}(h:a∈l){z:Tr}(D:z∈ga a):z∈l.flatMap ga:=fh.2 ⟨a,h,D⟩
def HG {P:Tr->Prop}(h1:∀r s m u n sub E,E.map Tr.sq=sub.map Tr.sq->P (.mk r s m u n sub)->P (.mk r s m u n E)):∀(p:List Nat) (t:Tr),okP t p->(∀z∈ga t,P z)->P (goalT (atT t p).sq)->∀z∈ga (gK t p),P z
 | [],t,_,_,G=>λz D=>by
  rw[pc,oY] at D;simp only[List.flatMap_nil,dR] at D;rw[D]
  rwa [show atT t []=t by cases t;rfl] at G
 | i::p,.mk r s m u n sub,⟨a,h2,h3⟩,h,G=>λz D=>by
  have J:=lMg h2;rw[oY] at h;have G:P (goalT (atT a p).sq):=by simpa only[atT,h2] using G
  have O:=HG h1 p a h3 (λz D=>h z (.tail _ (QF J D))) G;rw[qP h2,oY] at D;rcases dF.1 D with rfl|D
  ·exact h1 _ _ _ _ _ sub _ (AJ sub i a _ h2 (HE p a)) (h _ (.head _))
  ·exact HF sub i _ (λz D=>h z (.tail _ D)) O z D
def HH:∀(l:List Tr)(i:Nat)(a b:Tr),l[i]?=some a->eE (l.set i b)+a.steps=eE l+b.steps
 | c::l,0,a,b,h=>by
  obtain rfl:c=a:=by simpa using h
  simp only[jh,eE];omega
 | c::l,i+1,a,b,h=>by
  have:=HH l i a b (by simpa using h);simp only[kE,eE];omega
def HI (t:Tr):1<=t.steps:=by cases t;simp only[Tr.steps];omega
def AL:∀(p:List Nat)(t:Tr),okP t p->(gK t p).steps<=t.steps
 | [],t,_=>by rw[pc];have:=HI t;simp only[Tr.steps,eE];omega
 | i::p,.mk r s m u n sub,⟨a,h1,h2⟩=>by
  have:=AL p a h2;have:=HH sub i a (gK a p) h1;rw[qP h1];simp only[Tr.steps];omega
def HJ (L:Sq->Nat×Nat):∀(l:List Tr) (i:Nat) (a b:Tr),l[i]?=some a->oi L (l.set i b)+kj L a=oi L l+kj L b
 | c::l,0,a,b,h=>by
  obtain rfl:c=a:=by simpa using h
  simp only[jh,Hd];omega
 | c::l,i+1,a,b,h=>by
  have:=HJ L l i a b (by simpa using h);simp only[kE,Hd];omega
def QG (L:Sq->Nat×Nat){r:Nat}{s:Sq}{m:Fm}{u:Tm}{n:ByteArray}{sub D:List Tr}(h:D.map Tr.sq=sub.map Tr.sq):lstB L (.mk r s m u n D)=lstB L (.mk r s m u n sub):=by
 have hl:=dZ List.length h;rw[dP,dP] at hl;have:D.isEmpty=sub.isEmpty:=by cases sub<;>cases D<;>simp at hl<;>rfl
 unfold lstB;simp only[ki,this];rfl
def HK (L:Sq->Nat×Nat):∀(p:List Nat) (t:Tr),okP t p->kj L (gK t p)+kj L (atT t p)=kj L t+(if (L (atT t p).sq).1=0 then 1 else 0)
 | [],t,_=>by
  rw[pc,show atT t []=t by cases t;rfl,Aq];have:oi L []=0:=rfl;rw[this];by_cases h:(L t.sq).1=0
  ·rw[cX (by unfold lstB;simp only[ki];rw[show (goalT t.sq).sq=t.sq from rfl,dEt h];rfl),cX h];omega
  ·rw[a_ (by unfold lstB;rw[show (goalT t.sq).sq=t.sq from rfl,dEf h];simp),a_ h];omega
 | i::p,.mk r s m u n sub,⟨a,h1,h2⟩=>by
  have D:=HK L p a h2;have hs:=HJ L sub i a (gK a p) h1;rw[qP h1,show atT (.mk r s m u n sub) (i::p)=atT a p by simp only[atT,h1],Aq,Aq,QG L (AJ sub i a _ h1 (HE p a))];omega
def HL:∀(l:List Tr)(i:Nat)(b:Tr),okTs l=true->okT b=true->okTs (l.set i b)=true
 | [],_,_,_,_=>rfl
 | c::l,0,b,h,D=>by
  simp only[okTs,bAt] at h;simp only[jh,okTs,h.2,D,Bool.and_self]
 | c::l,i+1,b,h,D=>by
  simp only[okTs,bAt] at h;simp only[kE,okTs,h.1,HL l i b h.2 D,Bool.and_self]
def HM:∀ {l:List Tr}{i:Nat}{a:Tr},okTs l=true->l[i]?=some a->okT a=true
 | c::l,0,a,h,D=>by
  simp only[okTs,bAt] at h;obtain rfl:c=a:=by simpa using D
  exact h.1
 | c::l,i+1,a,h,D=>by
  simp only[okTs,bAt] at h;exact HM h.2 (by simpa using D)
def AM:∀(p:List Nat)(t:Tr),okP t p->okT t=true->okT (gK t p)=true
 | [],.mk r s m u n sub,_,h=>by
  rw[pc];simp only[okT,bAt,oj] at h ⊢;exact⟨⟨⟨⟨h.1.1.1.1,by decide⟩,by decide⟩,by decide⟩,rfl⟩
 | i::p,.mk r s m u n sub,⟨a,h1,h2⟩,h=>by
  rw[qP h1];simp only[okT,bAt] at h ⊢;exact⟨h.1,HL sub i _ h.2 (AM p a h2 (HM h.2 h1))⟩
def QH {ca:Nat}{r:Nat}{s:Sq}{m:Fm}{u:Tm}{n:ByteArray}{sub D:List Tr}(h:D.map Tr.sq=sub.map Tr.sq):gx ca (.mk r s m u n D)=gx ca (.mk r s m u n sub):=by
 have hl:=dZ List.length h;rw[dP,dP] at hl;have G:D.isEmpty=sub.isEmpty:=by cases sub<;>cases D<;>simp at hl<;>rfl
 have hs:shal (.mk r s m u n D)=shal (.mk r s m u n sub):=by
  simp only[shal];rw[show (D.map λp=>goalT p.sq)=(D.map Tr.sq).map goalT by rw[gZ];rfl,h,gZ];rfl
 have E:jV (.mk r s m u n D)=jV (.mk r s m u n sub):=by simp only[jV,G]
 unfold gx;rw[E,hs];rfl
def HN {ca:Nat}{t:Tr}(h:gx ca t=true):en ca t.sq=true:=by
 unfold gx at h;split at h
 ·exact h
 ·have hc:fF ca (shal t)=0:=by
   unfold gj at h;by_cases D:gR ca=true
   ·rw[D] at h;simp only[ly,bFt,dE] at h;by_cases hs:300<(shal t).steps
    ·rw[cX hs] at h;simp at h
    ·rw[a_ hs] at h;obtain⟨r,s,m,u,n,sub⟩:=t;by_cases h0:fF ca (shal (.mk r s m u n sub))=0
     ·exact h0
     ·simp only[shal,Tr.walk] at h h0;rw[fz,a_ h0] at h;simp[h0] at h
   ·simp only[Bool.not_eq_true] at D;rw[D] at h;simp at h
  obtain⟨r,s,m,u,n,sub⟩:=t;simp only[shal,fF] at hc;by_cases hv:en ca s=true
  ·exact hv
  ·have:(fU ca s r m tmZ noN).2=190:=by unfold fU;simp only[Bool.not_eq_true] at hv;rw[hv];rfl
   rw[cX (by rw[this];decide),this] at hc;cases hc
def sV {ca:Nat}{t:Tr}(hs:t.steps<=300)(hc:ca=1\/ca=2):(hCk ca t).2=0↔∀z∈ga t,gx ca z=true:=by
 unfold hCk;rw[cX hc,a_ (by omega)];have key:∀w:List (List Nat×Tr),(fz (badN ca) w).2=0↔∀q∈w,gx ca q.2=true:=λw=>by
  induction w with
  | nil=>exact⟨λ_=>nofun,λ_=>rfl⟩
  | cons q w J =>
   obtain⟨p,z⟩:=q;rw[fz];by_cases D:gx ca z=true
   ·rw[cX (by unfold badN;rw[cX D]),J];exact⟨λh q E=>(dF.1 E).elim (λe=>by rw[e];exact D) (h q),λh q E=>h q (.tail _ E)⟩
   ·have G:badN ca z=270:=by unfold badN;rw[a_ D]
    rw[a_ (by rw[G];decide)];exact⟨λh=>(by rw[G] at h;cases h),λh=>(D (h (p,z) (.head _))).elim⟩
 rw[key];exact⟨λh z D=>by
  obtain⟨p,hp⟩:=Ao D;exact h _ hp,λh q E=>h q.2 (dH.2 ⟨q,E,rfl⟩)⟩
def QI {ca:Nat}(hc:ca=1\/ca=2){t:Tr}(hs:t.steps<=300){p:List Nat}(hp:okP t p)(h:(hCk ca t).2=0):(hCk ca (gK t p)).2=0:=by
 have h:=(sV hs hc).1 h;exact (sV (dN (AL p t hp) hs) hc).2 (HG (P:=λz=>gx ca z=true) (λr s m u n sub D E k=>by rw[QH E];exact k) p t hp h (o9 (HN (h _ (An hp)))))
def QJ (l:List Tr):l.length<=eE l:=by
 induction l with
 | nil=>exact ed _
 | cons a l D=>have:=HI a;simp only[dX,eE];omega
mutual
def IsTr.aged:∀ {t:Tr}{x:IV},IsTr t x->IsTr t (age x)
 | .mk rule s f u n sub,x,h=>by
  simp only[IsTr] at h;obtain⟨tl,xl,tr,xr,op,fn,ta,xa,tb,xb,v,un,tu,xu,ts,xs,rfl,J,e1,i1,e2,i2,O,G,e3,i3⟩:=h;have E:=O.aged;have D:=G.aged;simp only[age,ages] at E D ⊢;simp only[IsTr];exact⟨_,_,_,_,_,_,_,_,_,_,_,_,_,_,_,_,rfl,J,pL e1,IsFms.aged i1,pL e2,IsFms.aged i2,E,D,pL e3,IsTrs.aged i3⟩
def IsTrs.aged:∀ {l:List Tr}{xs:List IV},IsTrs l xs->IsTrs l (ages xs)
 | [],xs,h=>by simp only[IsTrs] at h;subst h;rfl
 | a::l,xs,h=>by
  simp only[IsTrs] at h;obtain⟨y,ys,rfl,D,h⟩:=h;simp only[ages,IsTrs];exact⟨_,_,rfl,IsTr.aged D,IsTrs.aged h⟩
end
end Go.Proofs.Tryz
namespace Go.Proofs.Tryz
open Go Go.Iv
set_option maxRecDepth 4000
variable (gl:Nat->Option IV)
def QK {xs cs:List IV}{e i:Nat}{z:IV}(G:∀x∈xs,x.cells.length=e)(hz:z.cells.length=e)(hi:i<xs.length)(h:cs.take (xs.length*e)=xs.flatMap IV.cells) :
  (fu cs (i*e) z.cells).take (xs.length*e)=(xs.set i z).flatMap IV.cells:=by
 have J:∀l:List IV,(∀x∈l,x.cells.length=e)->(l.flatMap IV.cells).length=l.length*e:=λl=>by
  induction l with
  | nil=>exact λ_=>by simp
  | cons a l ih=>intro hl;rw[eo,lLa,hl a (.head _),ih λx G=>hl x (.tail _ G),dX,hY];omega
 have E:xs=xs.take i++xs[i]::xs.drop (i+1):=by rw[<- fC hi,eA]
 have hA:=J (xs.take i) λx h=>G x (kC h);have hB:=J (xs.drop (i+1)) λx h=>G x (List.mem_of_mem_drop h);have hX:=G xs[i] (jI hi);rw[dU,Nat.min_eq_left (by omega)] at hA;rw[gz] at hB;have D:xs.set i z=xs.take i++z::xs.drop (i+1):=List.set_eq_take_append_cons_drop▸(cX hi);generalize xs.drop (i+1)=B at E hB D;generalize xs.take i=A at E hA D;generalize xs[i]=x at E hX;have O:cs=xs.flatMap IV.cells++cs.drop (xs.length*e):=by rw[<- h,eA]
 generalize cs.drop (xs.length*e)=rest at O;rw[E] at O;simp only[ix,eo,et] at O;have hn:xs.length*e=i*e+e+(xs.length-(i+1))*e:=by
  have:xs.length=i+1+(xs.length-(i+1)):=by omega
  conv=>lhs;rw[this]
  rw[ff,ff,g_]
 have e2:fu cs (i*e) z.cells=(A.flatMap IV.cells++z.cells++B.flatMap IV.cells)++rest:=by
  unfold fu;rw[O,hz,jM hA,<- et (A.flatMap IV.cells) x.cells,List.drop_left' (by rw[lLa,hA,hX])];simp only[et]
 rw[e2,jM (by rw[lLa,lLa,hA,hz,hB];omega),D];simp only[ix,eo,et]
def oo:∀ {l:List Tr}{xs:List IV}{i:Nat}{a:Tr}{x:IV},IsTrs l xs->IsTr a x->IsTrs (l.set i a) (xs.set i x)
 | [],xs,i,a,x,h,_=>by
  have h:xs=[]:=h;subst h;rfl
 | c::l,xs,0,a,x,h,D=>by
  obtain⟨y,ys,rfl,h1,h2⟩:=h;exact⟨x,ys,rfl,D,h2⟩
 | c::l,xs,i+1,a,x,h,D=>by
  obtain⟨y,ys,rfl,h1,h2⟩:=h;exact⟨y,ys.set i x,rfl,h1,oo h2 D⟩
mutual
def HO:∀ {t E:Tr}{x:IV},IsTr t x->IsTr E x->t.steps=E.steps
 | .mk _ _ _ _ _ sub,.mk _ _ _ _ _ G,x,h,O=>by
  obtain⟨_,_,_,_,_,_,_,_,_,_,_,_,_,_,_,_,rfl,_,_,_,_,_,_,_,_,i3⟩:=h.mk;obtain⟨_,_,_,_,_,_,_,_,_,_,_,_,_,_,_,_,J,_,_,_,_,_,_,_,_,D⟩:=O.mk;cases J;rw[Tr.steps,Tr.steps,HP i3 D]
def HP:∀ {l E:List Tr}{xs:List IV},IsTrs l xs->IsTrs E xs->eE l=eE E
 | [],[],_,_,_=>rfl
 | [],_::_,xs,h,D=>by
  obtain⟨_,_,rfl,_,_⟩:=D;cases (show _::_=[] from h)
 | _::_,[],xs,h,D=>by
  obtain⟨_,_,rfl,_,_⟩:=h;cases (show _::_=[] from D)
 | a::l,b::E,xs,h,D=>by
  obtain⟨_,_,rfl,h1,h2⟩:=h;obtain⟨_,_,O,J,G⟩:=D;cases O;rw[eE,eE,HO h1 J,HP h2 G]
end
def stH (us:List IV)(n:Nat):Prop:=∃(y:IV) (t:Tr),us=[y]/\IsTr t y/\t.steps<=1000000/\n=t.steps
open Classical in
noncomputable def stPF:FuncId->List IV->Option IV:=λg us=>if h:g=29/\∃n,stH us n then some (.raw (.int .i64 ((Classical.choose h.2:Nat):Int))) else none
def HQ {t:Tr}{x:IV}(D:IsTr t x)(hs:t.steps<=1000000):stPF 29 [x]=some (.raw (.int .i64 (t.steps:Int))):=by
 have h:29=29/\∃n,stH [x] n:=⟨rfl,_,x,t,rfl,D,hs,rfl⟩
 unfold stPF;rw[dif_pos h];have hc:=Classical.choose_spec h.2;generalize Classical.choose h.2=m at hc ⊢;obtain⟨y,J,G,E,_,rfl⟩:=hc;cases G;rw[HO D E]
def QL:∀g us v,stPF g us=some v->entI prog g=true/\∀st,ICall prog gl g us st (λr st'=>r=v/\st'=st):=by
 intro g us v hv;unfold stPF at hv;split at hv
 ·rename_i hc;have hd:=Classical.choose_spec hc.2;generalize Classical.choose hc.2=m at hd hv;obtain⟨rfl,_⟩:=hc;cases hv;obtain⟨y,E,rfl,D,hs,rfl⟩:=hd;exact⟨by simp only[go_sem],λst=>Ac gl _ _ D (by omega) st⟩
 ·cases hv
def prC (t:Tr):Prop:=∀(x:IV) (_:IsTr t x) (_:t.steps<=1000000) (D k:Nat) (_:k<=1000000) (st:ISt) (_:st D=some (.box [(k:Int)])),
 ICall prog gl 15 [x,.raw (.pointer (some ⟨D,0,none⟩))] st (λr st'=>∃p,okP t p/\(∃z y,r=.tup [z,y]/\IsTr (gK t p) z/\IsSq (atT t p).sq y)/\∃E:Int,st'=st.put D (some (.box [E])))
def vN:∀ {l:List Tr}{xs:List IV},IsTrs l xs->∀x∈xs,x.cells.length=12/\fits true 12 x=true
 | [],xs,h,x,D=>by simp only[IsTrs] at h;subst h;cases D
 | a::l,xs,h,x,D=>by
  simp only[IsTrs] at h;obtain⟨y,ys,rfl,hy,h⟩:=h;rcases dF.1 D with rfl|D
  ·obtain⟨E,ai,aa,ah,O,al,an,ak,ac,aj,ab,v',ae,af,G,n',ag,J,rfl⟩:=ft hy;exact⟨rfl,rfl⟩
  ·exact vN h x D
def QM {l:List Tr}{xs:List IV}(h:IsTrs l xs):(xs.flatMap IV.cells).length=xs.length*12:=by
 have:=λx D=>(vN h x D).1;clear h
 induction xs with
 | nil=>rfl
 | cons a xs E=>rw[eo,lLa,this a (.head _),E λx D=>this x (.tail _ D),dX];omega
def HR:∀l:List Tr,l.length<=eE l
 | []=>ed _
 | .mk r s f u n sub::l=>by have:=HR l;simp only[dX,eE,Tr.steps];omega
def HS:∀l m:List Tr,eE (l++m)=eE l+eE m
 | [],m=>by rw[fa,eE,dY]
 | a::l,m=>by rw[eu,eE,eE,HS l m];omega
def HT (st:ISt){b g:Nat}(h:b≠g){x y z:Option IObj}:((st.put b x).put g z).put b y=(st.put b y).put g z:=by
 funext c;simp only[ISt.put_apply];by_cases h1:c=b
 ·rw[cX h1,a_ (by omega),cX h1]
 ·rw[a_ h1,a_ h1,a_ h1]
def QN {S:ISt}{g:Nat}{cs:List IV}(h0:S g=none):LendOk (S.put g (some (.box cs))) (ISt.put (λ_=>none) g (some (.box cs))) S:=by
 refine⟨λb o D=>?_,λb o D=>?_,λb cs' D=>?_⟩
 ·rw[ISt.put_apply] at D ⊢;split at D
  ·rename_i h;rw[cX h];exact D
  ·cases D
 ·have E:b≠g:=λh=>by rw[h,h0] at D;cases D
  rw[dz E];exact D
 ·rw[ISt.put_apply] at D;split at D
  ·rename_i h;rw[h];exact h0
  ·cases D
def QO {st:ISt}{b:Nat}(x:Option IObj)(h:st b=none):(st.put b x).put b none=st:=by
 funext c;simp only[ISt.put_apply];split
 ·rename_i e;rw[e,h]
 ·rfl
def QP (rule:Nat)(s:Sq)(f:Fm)(u:Tm)(n:ByteArray)(sub:List Tr)(IH:∀a∈sub,prC gl a):prC gl (.mk rule s f u n sub):=by
 intro x hx hs G k hk st bf;have hS:=QL gl;have bc:=hx;obtain⟨tl,xl,tr,xr,op,fn,ta,xa,tb,xb,v,un,tu,xu,ts,xs,rfl,bd,e1,i1,e2,i2,hy,hz,e3,i3⟩:=hx.mk;refine lS ?_;refine ICall.intro (c:=cfp prog gl [14,34,37,1000029] [(3,[0,1,3,4,2,5,6])] _ hS) func15 rfl (by show _<=83;simp) (by kernel_rfl) ?_;have hP:=HQ bc hs;have ac:0<(Tr.mk rule s f u n sub).steps:=by simp only[Tr.steps];omega
 have bn:1+eE sub=(Tr.mk rule s f u n sub).steps:=by simp only[Tr.steps]
 generalize (Tr.mk rule s f u n sub).steps=N at hP ac hs bn;have hm:(k:Int).tmod (N:Int)=((k%N:Nat):Int):=by rw[Int.tmod_eq_emod_of_nonneg (by omega)];rfl
 have bo:((N:Int)=0)=False:=by simp only[eq_iff_iff,iff_false];omega
 have bg:=Nat.mod_lt k ac;generalize k%N=j at hm bg;have be:=λst=>qN gl tl xl tr xr st;simp only[go_sem,zE,zA,zL,bf,hP,hm,bo];by_cases bX:j=0
 ·have d0:decide ((j:Int)=0)=true:=dEt (by omega);simp only[go_sem,zE,zA,zL,d0];refine (be _).q ?_;unfold gI;simp only[go_sem,zE,zA,zL];refine c_ ⟨_,λ_=>none,_,LendOk.mk (λb o h=>by cases h) (subSt.refl _) (λb cs h=>by cases h),.refl _,?_⟩;exact⟨[],trivial,⟨_,_,rfl,IsTr.aged (sT ⟨_,_,_,_,rfl,e1,i1,e2,i2⟩),Av ⟨_,_,_,_,rfl,e1,i1,e2,i2⟩⟩,(j:Int),rfl⟩
 have d0:decide ((j:Int)=0)=false:=dEf (by omega);have wj:IntKind.i64.wrap ((j:Int)-1)=((j-1:Nat):Int):=by rw[IntWalk.i64_in _ (by omega)];omega
 have bb:xs.length=sub.length:=i3.len;have aj:(xs.flatMap IV.cells).length=xs.length*12:=QM i3;have bT:sub.length<N:=by
  have:=HR sub;omega
 simp only[go_sem,zE,zA,zM,zL,d0,wj,show la 0 []=true from rfl];rw[eN];intro b;refine d_ λhb=>?_;refine kN _ _ _ (cs:=[]) (b_ ..) (eF.2 λx hx=>(vN i3 x hx).2) (by simp only;omega) ⟨dG _,by simp⟩ aj λg cap cs hg aS bk aL=>?_;simp only[dY,Nat.zero_mul,fa,List.take_nil] at aS aL bk ⊢;replace hg:(st.put G (some (.box [((j-1:Nat):Int)]))) g=none:=by
  rcases hg with rfl|hg
  ·exact hb
  ·by_cases aQ:g=b
   ·rw[aQ];exact hb
   ·rwa [dz aQ] at hg
 rw[QO _ hb];have O:G≠g:=λh=>by rw[<- h,b_] at hg;cases hg
 simp only[go_sem,zE,zA,zL,IV.one];refine dt sub.length (λi fr st' ds=>(∃m:Nat,m+eE (sub.take i)=j-1/\st'=(st.put G (some (.box [(m:Int)]))).put g (some (.box cs)))/\fr 1=.iv (.raw (.pointer (some ⟨G,0,none⟩))) /\
  fr 2=.box [.raw (.int .u8 rule),.sl tl xl,.sl tr xr,.raw (.int .u8 op),fn,.sl ta xa,.sl tb xb,v,un,.sl tu xu,n,.sl ts xs]/\fr 4=.box [.raw (.int .u8 0),nlS,nlS,.raw (.int .u8 0),.raw (.string ⟨#[]⟩),nlS,nlS,false,.raw (.string ⟨#[]⟩),nlS,.raw (.string ⟨#[]⟩),nlS]/\fr 5=.box [nlS,nlS] /\
  fr 6=.box [.raw (.int .u8 rule),.sl tl xl,.sl tr xr,.raw (.int .u8 op),fn,.sl ta xa,.sl tb xb,v,un,.sl tu xu,n,.raw (.slice (some ⟨g,0,none⟩) sub.length cap)]/\fr 7=.iv (.raw (.int .i64 i))/\ds=[]) ?_ ?_ ?_
 ·simp only[go_sem,zE,i3.len];exact⟨⟨j-1,by simp[eE],rfl⟩,rfl⟩
 ·rintro i fr aG _ J ⟨⟨m,aN,rfl⟩,f1,f2,f4,f5,f6,f7,rfl⟩;obtain⟨a,ha⟩:=dD J;obtain⟨z,aO,ag⟩:=i3.get ha;have aT:=lMg ha;have bU:=Aa aT;have bm:=HQ ag (by omega);have ak:=λst h=>IH a aT _ ag (by omega) G m (by omega) st h;have E:((st.put G (some (.box [(m:Int)]))).put g (some (.box cs))) G=some (.box [(m:Int)]):=by rw[dz O,b_]
  obtain⟨a7,bM,bD,bL,bC,bQ,bZ,bO,bG,bN,bF,v',bI,bJ,bA,n',bK,bB,rfl⟩:=ft ag;simp only[go_sem,zE,zB,zA,f2,f7,i3.len,lt_i J,dB e3,iNn,aO,fits];intro _;simp only[go_sem,zE,bm];by_cases bY:a.steps<=m
  ·have al:decide ((a.steps:Int)<=(m:Int))=true:=dEt (by omega);have ws:IntKind.i64.wrap ((m:Int)-(a.steps:Int))=((m-a.steps:Nat):Int):=by rw[IntWalk.i64_in _ (by omega)];omega
   simp only[go_sem,zE,zL,f1,f2,f4,f5,f6,f7,E,al,ws,dL J (by omega)];exact⟨m-a.steps,by rw[dM ha,HS,eE,eE];omega,HT _ O⟩
  have al:decide ((a.steps:Int)<=(m:Int))=false:=dEf (by omega);simp only[go_sem,zE,zB,zA,f1,f2,f7,dB e3,iNn,aO,fits,E,al];refine (ak _ E).mono ?_;rintro _ bP ⟨p,hp,⟨z',y',rfl,ah,aK⟩,k',rfl⟩;rw[HT _ O];have ba:=ft ah;have bh:((st.put G (some (.box [k']))).put g (some (.box cs))) g=some (.box cs):=b_ ..;obtain⟨q1,p1,q2,p2,rfl,hq⟩:∃q1 p1 q2 p2,y'=.agg [.sl q1 p1,.sl q2 p2]/\IsSq (atT a p).sq (.agg [.sl q1 p1,.sl q2 p2]):=by
   obtain⟨q1,p1,q2,p2,rfl,hh⟩:=id aK;exact⟨q1,p1,q2,p2,rfl,aK⟩
  obtain⟨D,aD,ax,tr2,av,aH,aV,aF,az,aE,ay,v2,aA,aB,aq,n2,aC,au,rfl⟩:=ba;simp only[go_sem,zE,zA,zL,f4,f5,f6,f7,iNn,bh];have aU:∀x∈xs,x.cells.length=12:=λx hx=>(vN i3 x hx).1;have ai:i*12+12<=cs.length:=by omega
  rw[cX J,cX ai,eN];refine fO rfl ?_;generalize aJ:IV.agg [.raw (.int .u8 D),.sl aD ax,.sl tr2 av,.raw (.int .u8 aH),.raw (.string aV),.sl aF az,.sl aE ay,.raw (.bool v2),.raw (.string aA),.sl aB aq,.raw (.string n2),.sl aC au]=z2 at ah;have aI:z2.cells.length=12:=by rw[<- aJ];rfl
  have ab:=QK (xs:=xs) (cs:=cs) (i:=i) aU aI (by omega) aL;have af:fu cs (i*12) z2.cells=cs.take (i*12)++[.raw (.int .u8 D),.sl aD ax,.sl tr2 av,.raw (.int .u8 aH),.raw (.string aV),.sl aF az,.sl aE ay,.raw (.bool v2),.raw (.string aA),.sl aB aq,.raw (.string n2),.sl aC au]++cs.drop (i*12+12):=by rw[<- aJ];rfl
  have aM:(fu cs (i*12) z2.cells).length=cs.length:=by
   rw[af,lLa,lLa,dU,gz];simp only[dX,ee];omega
  rw[<- af];generalize fu cs (i*12) z2.cells=cs' at ab aM;have bi:(st.put G (some (.box [k']))) g=none:=by rw[dz O.symm] at hg ⊢;exact hg
  have bj:(xs.set i z2).length=sub.length:=by rw[kA,bb]
  have hO:=OI.sl (st:=ISt.put (λ_=>none) g (some (.box cs'))) g cap ⟨true,.app g,12⟩ (xs.set i z2) cs' rfl (by omega) (by omega) (λx hx=>by
   rcases List.mem_or_eq_of_mem_set hx with h|rfl
   ·exact aU x h
   ·exact aI) (b_ ..) (by show cap*12<=_;omega) (λq r c hr hc=>by
   rw[<- ab,gd] at hc;split at hc
   ·rw[hr] at hc;cases hc;exact .refl _
   ·cases hc)
  rw[bj] at hO;refine c_ ⟨.tup [.agg [.raw (.int .u8 rule),.sl tl xl,.sl tr xr,.raw (.int .u8 op),fn,.sl ta xa,.sl tb xb,v,un,.sl tu xu,n,.sl ⟨true,.app g,12⟩ (xs.set i z2)],.agg [.sl q1 p1,.sl q2 p2]],_,_,QN bi,.tup _ _ rfl λq r c h1 h2=>?_,?_⟩
  ·match q,h1,h2 with
   | 0,h1,h2 =>
    cases h1;cases h2;refine .agg _ _ rfl λq r c h1 h2=>?_
    match q,h1,h2 with
    | 0,h1,h2|1,h1,h2|2,h1,h2|3,h1,h2|4,h1,h2|5,h1,h2|6,h1,h2|7,h1,h2|8,h1,h2|9,h1,h2|10,h1,h2=>cases h1;cases h2;exact .refl _
    | 11,h1,h2=>cases h1;cases h2;exact hO
   | 1,h1,h2=>cases h1;cases h2;exact .refl _
  ·refine⟨i::p,⟨a,ha,hp⟩,⟨_,_,rfl,IsTr.aged ?_,?_⟩,k',rfl⟩
   ·rw[qP ha];exact⟨tl,xl,tr,xr,op,fn,ta,xa,tb,xb,v,un,tu,xu,_,_,rfl,bd,e1,i1,e2,i2,hy,hz,.inr rfl,oo i3 ah⟩
   ·have:atT (.mk rule s f u n sub) (i::p)=atT a p:=by simp only[atT,ha]
    rw[this];exact Av hq
 ·rintro fr aG _ ⟨⟨m,aN,rfl⟩,_⟩;rw[lTl] at aN;omega
mutual
def HU:∀t:Tr,prC gl t
 | .mk rule s f u n sub=>QP gl rule s f u n sub (HV sub)
def HV:∀l:List Tr,∀a∈l,prC gl a
 | [],_,h=>by cases h
 | a::l,b,h=>by
  rcases dF.1 h with h|h
  ·exact h▸HU a
  ·exact HV l b h
end
def pr_c (t:Tr)(x:IV)(J:IsTr t x)(hs:t.steps<=1000000)(D k:Nat)(O:k<=1000000)(st:ISt)(E:st D=some (.box [(k:Int)])) :
  ICall prog gl 15 [x,.raw (.pointer (some ⟨D,0,none⟩))] st (λr st'=>∃p,okP t p/\(∃z y,r=.tup [z,y]/\IsTr (gK t p) z/\IsSq (atT t p).sq y)/\∃G:Int,st'=st.put D (some (.box [G]))):=HU gl t x J hs D k O st E
