/- Walks: checkers of names. -/
import Derived.Test.YtopmhkmegkpkdaaGreatDoorKF
set_option linter.all false
open Nat renaming reduceEqDiff → zE,reduceAdd → zA,reduceLeDiff → zL
namespace Go.Proofs.Tryz
open Go Go.Iv
set_option maxRecDepth 4000
variable (gl:Nat->Option IV)
def JG (s:ByteArray)(st:ISt):ICall prog gl 273 [s] st (λx st'=>x=(mo s:Bool)/\st'=st):=by
 refine iI func273 ?_;simp only[go_sem,zA,zL,reduceCtorEq];refine j4 (λh=>?_) (λh=>?_)
 ·simp only[go_sem,h];exact cO ⟨by rw[show s=wAll from eI h];rfl,rfl⟩
 have h1:s≠wAll:=ft h;simp only[go_sem,zE,zA,zL,h];refine j4 (λh=>?_) (λh=>?_)
 ·simp only[go_sem,h];exact cO ⟨by rw[show s=oN from eI h];rfl,rfl⟩
 have h2:s≠oN:=ft h;simp only[go_sem,zE,zA,zL,h];refine j4 (λh=>?_) (λh=>?_)
 ·simp only[go_sem,h];exact cO ⟨by rw[show s=oO from eI h];rfl,rfl⟩
 have O:s≠oO:=ft h;simp only[go_sem,zE,zA,zL,h];refine j4 (λh=>?_) (λh=>?_)
 ·simp only[go_sem,h];exact cO ⟨by rw[show s=oP from eI h];rfl,rfl⟩
 have E:s≠oP:=ft h;simp only[go_sem,zE,zA,zL,h];refine j4 (λh=>?_) (λh=>?_)
 ·simp only[go_sem,h];exact cO ⟨by rw[show s=oQ from eI h];rfl,rfl⟩
 have D:s≠oQ:=ft h;simp only[go_sem,zE,zA,zL,h];refine j4 (λh=>?_) (λh=>?_)
 ·simp only[go_sem,h];exact cO ⟨by rw[show s=pW from eI h];rfl,rfl⟩
 have A:s≠pW:=ft h;simp only[go_sem,h];exact cO ⟨by rw[show mo s=false by unfold mo;rw[dEf h1,dEf h2,dEf O,dEf E,dEf D,dEf A];rfl],rfl⟩
def wi (s:ByteArray):s.size=s.data.toList.length:=Array.length_toList.symm
def wj {s:ByteArray}{k:Nat}{c:UInt8}(h:s.data.toList[k]?=some c):nF s (k:Int)=some c:=by
 unfold nF;rw[b_ (by omega)];have A:k<s.size:=by rw[wi];exact (lGs h).1
 rw[jl];rw[getElem?_pos s k A];have h2:=(lGs h).2;rw[<- h2];rfl
def sX {s:ByteArray}{c:UInt8}{cs:List UInt8}(h:s.data.toList=c::cs):nF s 0=some c:=wj (k:=0) (by rw[h];rfl)
def wk (p q:FuncId)(P Q:UInt8->Bool)(ep:entI prog p=true)(eq:entI prog q=true)
  (hp:∀c st,ICall prog gl p [.raw (.int .u8 (UInt8.toNat c))] st (λx st'=>x=(P c:Bool)/\st'=st))
  (hq:∀c st,ICall prog gl q [.raw (.int .u8 (UInt8.toNat c))] st (λx st'=>x=(Q c:Bool)/\st'=st)) (s:ByteArray) (st:ISt) :
  ICall prog gl 272 [s,.cptr (.fn (.func p) [] []),.cptr (.fn (.func q) [] [])] st (λx st'=>x=(jy P Q s:Bool)/\st'=st):=by
 refine iI func272 ?_;have A:=wi s;cases E:s.data.toList with
 | nil =>
  rw[E] at A;have h1:decide (((s.size:Nat):Int)<1)=true:=by rw[A];rfl
  simp only[go_sem,zE,reduceCtorEq,h1];exact cO ⟨by simp[jy,E],rfl⟩
 | cons c cs =>
  rw[E] at A;have h1:decide (((s.size:Nat):Int)<1)=false:=by rw[A];simp;omega
  by_cases U:cs.length<16
  ·have h2:decide ((16:Int)<((s.size:Nat):Int))=false:=by rw[A];simp;omega
   simp only[go_sem,zE,zA,reduceCtorEq,h1,h2];refine (JG gl s _).q ?_;cases h3:mo s
   ·simp only[go_sem,zE,reduceCtorEq,sX E,fits,ep];refine (hp c _).q ?_;cases h4:P c
    ·simp only[go_sem,zE];exact cO ⟨by simp[jy,E,h4],rfl⟩
    ·simp only[go_sem,zE];refine cV cs.length (λk fr st' ds=>(cs.take k).all Q=true/\fr 0=s/\fr 2=.iv (.cptr (.fn (.func q) [] []))/\fr 5=((k+1:Nat):Int)/\st'=st/\ds=[]) ?_ ?_ ?_
     ·simp only[go_sem,zE,reduceCtorEq];rfl
     ·rintro k fr st' ds ae ⟨W,h0,O,h5,rfl,rfl⟩;obtain⟨x,hx⟩:=dd ae;have D:decide (((k+1:Nat):Int)<((s.size:Nat):Int))=true:=by rw[A];simp;omega
      have ac:nF s ((k+1:Nat):Int)=some x:=wj (by rw[E];simpa using hx);have hw:IntKind.i64.wrap (((k+1:Nat):Int)+1)=((k+1+1:Nat):Int):=by rw[w64]<;>omega
      simp only[go_sem,zE,reduceCtorEq,h0,O,h5,D,ac,fits,eq];intro _;refine (hq x _).q ?_;cases h6:Q x
      ·simp only[go_sem];exact cO ⟨by
        have:cs.all Q=false:=by rw[lA];exact⟨x,lMg hx,by simp[h6]⟩
        simp[jy,E,this],rfl⟩
      ·simp only[go_sem,zE,reduceCtorEq,h0,O,h5,hw];rw[dK hx,List.all_append,W];simp[h6]
     ·rintro fr st' ds ⟨W,h0,O,h5,rfl,rfl⟩;have D:decide (((cs.length+1:Nat):Int)<((s.size:Nat):Int))=false:=by rw[A];simp
      simp only[go_sem,zE,reduceCtorEq,h0,h5,D];intro _;rw[lTl] at W;exact cO ⟨by simp[jy,E,h3,h4,U,W],rfl⟩
   ·simp only[go_sem,zE];exact cO ⟨by simp[jy,E,h3],rfl⟩
  ·have h2:decide ((16:Int)<((s.size:Nat):Int))=true:=by rw[A];simp;omega
   simp only[go_sem,zE,reduceCtorEq,h1,h2];exact cO ⟨by simp[jy,E,U],rfl⟩
def wm (p q:FuncId)(st:ISt):ICall prog gl 247 [.fn (.func p) [] [],.fn (.func q) [] []] st
  (λx st'=>x=.fn (.func 272) [] [.cptr (.fn (.func p) [] []),.cptr (.fn (.func q) [] [])]/\st'=st):=by
 refine ICall.intro (c:=cf prog gl [] [] [2,3]) func247 rfl (by show _<=6;simp) (by kernel_rfl) ?_;simp only[go_sem,zE];exact cO ⟨rfl,rfl⟩
def sY (s:ByteArray)(st:ISt):ICall prog gl 207 [s] st (λx st'=>x=(iD s:Bool)/\st'=st):=by
 refine iI func207 ?_;simp only[go_sem,zA];refine (wm gl _ _ _).q ?_;simp only[go_sem,zE,reduceCtorEq];refine (wk gl _ _ (inB 117 122) lp (by simp only[go_sem]) (by simp only[go_sem]) (JH gl) (BM gl) s _).q ?_;simp only[go_sem];exact cO ⟨rfl,rfl⟩
def JI (s:ByteArray)(st:ISt):ICall prog gl 253 [s] st (λx st'=>x=(mq s:Bool)/\st'=st):=by
 refine iI func253 ?_;simp only[go_sem,zA];refine (wm gl _ _ _).q ?_;simp only[go_sem,zE,reduceCtorEq];refine (wk gl _ _ (inB 97 116) ml (by simp only[go_sem]) (by simp only[go_sem]) (JJ gl) (BN gl) s _).q ?_;simp only[go_sem];exact cO ⟨rfl,rfl⟩
def JK (s:ByteArray)(st:ISt):ICall prog gl 206 [s] st (λx st'=>x=(oR s:Bool)/\st'=st):=by
 refine iI func206 ?_;simp only[go_sem,zA];refine (wm gl _ _ _).q ?_;simp only[go_sem,zE,reduceCtorEq];refine (wk gl _ _ lY ml (by simp only[go_sem]) (by simp only[go_sem]) (BO gl) (BN gl) s _).q ?_;simp only[go_sem];exact cO ⟨rfl,rfl⟩
def jz (k:Nat)(s:ByteArray):Bool:=match k with|1=>oR s|2=>iD s|_=>decide (s=⟨#[]⟩)
def JL (k:Nat)(A:k<=2)(s:ByteArray)(st:ISt):ICall prog gl 176 [.raw (.int .u8 k),s] st (λx st'=>x=(jz k s:Bool)/\st'=st):=by
 refine iI func176 ?_
 match k,A with
 | 0,_ =>
  simp only[go_sem,zE,zL,reduceCtorEq,show decide (((0:Nat):Int)=1)=false from rfl,show decide (((0:Nat):Int)=2)=false from rfl,show decide (((0:Nat):Int)=3)=false from rfl];exact cO ⟨rfl,rfl⟩
 | 1,_ =>
  simp only[go_sem,zE,zA,reduceCtorEq,show decide (((1:Nat):Int)=1)=true from rfl];refine (JK gl s _).q ?_;simp only[go_sem];exact cO ⟨rfl,rfl⟩
 | 2,_ =>
  simp only[go_sem,zE,zA,reduceCtorEq,show decide (((2:Nat):Int)=1)=false from rfl,show decide (((2:Nat):Int)=2)=true from rfl];refine (sY gl s _).q ?_;simp only[go_sem];exact cO ⟨rfl,rfl⟩
def jBox (l d:Int):Option IObj:=some (.box [false,l,d])
def BP (b:Nat)(st:ISt)(l d A:Int)(O:st b=jBox l d)(U:0<=l)(h1:l<=9223372036854775807) :
  ICall prog gl 175 [.raw (.pointer (some ⟨b,0,none⟩)),A] st (λx st'=>x=(decide (1<=l)&&decide (A<=d):Bool)/\st'=st.put b (jBox (l-1) d)):=by
 refine iI func175 ?_;have E:IntKind.i64.wrap (l-1)=l-1:=w64 (by omega) (by omega);simp only[go_sem,zE,zA,zL,reduceCtorEq,O,jBox,E];refine pT (λh=>?_) (λh=>?_)
 ·have D:1<=l:=by simp at h;omega
  simp only[go_sem,zE,zA,reduceCtorEq];exact cO ⟨by simp[D],rfl⟩
 ·have D:¬ 1<=l:=by simp at h;omega
  simp only[go_sem,zE,zA];exact cO ⟨by simp[D],rfl⟩
def rv (b:Nat)(st:ISt)(l d:Int)(r:Bool)(D:Nat)(x:IV)(st':ISt):Prop:=x=r/\∃A,st'=st.put b (jBox A d)/\(r=true->A=l-D)
def tmR (t:Tm)(l d A:Int):Bool:=decide ((t.size:Int)<=l)&&decide (A+t.deep<=d+1)&&t.ok
def tmsR (t:List Tm)(l d A:Int):Bool:=decide ((dN t:Int)<=l)&&decide (eE t=0\/A+eE t<=d+1)&&fT t
def sZ (a:Tm)(m:List Tm)(l d A:Int):tmsR (a::m) l d A=(tmR a l d A&&tmsR m (l-a.size) d A):=by
 rw[mf];have h1:=a.deep_pos;simp only[tmsR,tmR,bAt,dTe];simp only[dN,eE,fT,bAt];constructor
 ·rintro⟨⟨h2,U⟩,D,E⟩;refine⟨⟨⟨by omega,by omega⟩,D⟩,⟨by omega,by omega⟩,E⟩
 ·rintro⟨⟨⟨h2,U⟩,D⟩,⟨E,W⟩,O⟩;exact⟨⟨by omega,by omega⟩,D,O⟩
def BQ (a m:List Tm)(l d A:Int):tmsR (a++m) l d A=(tmsR a l d A&&tmsR m (l-dN a) d A):=by
 induction a generalizing l with
 | nil =>
  simp only[gz,dN,Int.natCast_zero,Int.sub_zero];rw[mf];simp only[tmsR,bAt,dTe];simp only[dN,eE,fT];constructor
  ·rintro⟨⟨h1,h2⟩,D⟩;exact⟨⟨⟨by omega,by simp⟩,trivial⟩,⟨h1,h2⟩,D⟩
  ·rintro⟨_,⟨h1,h2⟩,D⟩;exact⟨⟨h1,h2⟩,D⟩
 | cons x a E =>
  rw[dX,sZ,E,sZ,me];congr 3;simp only[dN];omega
def ry (n:ByteArray)(m:List Tm)(l d A:Int):tmR (.mk false n m) l d A=(((decide (1<=l)&&decide (A<=d))&&decide (m.length<=4)&&mq n)&&tmsR m (l-1) d (A+1)):=by
 rw[mf];simp only[tmsR,tmR,bAt,dTe];simp only[Tm.size,Tm.deep,Tm.ok,bAt,dTe];constructor
 ·rintro⟨⟨h2,U⟩,⟨D,O⟩,E⟩;refine⟨⟨⟨⟨by omega,by omega⟩,D⟩,O⟩,⟨by omega,by omega⟩,E⟩
 ·rintro⟨⟨⟨⟨h1,h2⟩,U⟩,D⟩,⟨O,E⟩,W⟩;exact⟨⟨by omega,by omega⟩,⟨U,D⟩,W⟩
def s4 (n:ByteArray)(m:List Tm)(l d A:Int):tmR (.mk true n m) l d A=(((decide (1<=l)&&decide (A<=d))&&decide (m.length=0))&&iD n):=by
 rw[mf];cases m with
 | nil =>
  simp only[tmR,bAt,dTe];simp only[Tm.size,Tm.deep,Tm.ok,dN,eE,List.isEmpty,bAt,fN];constructor
  ·rintro⟨⟨h1,h2⟩,_,D⟩;exact⟨⟨⟨by omega,by omega⟩,trivial⟩,D⟩
  ·rintro⟨⟨⟨h1,h2⟩,_⟩,D⟩;exact⟨⟨by omega,by omega⟩,by trivial,D⟩
 | cons a m=>simp[tmR,Tm.ok]
def JM {v:Bool}{n:ByteArray}{us:List Tm}{l:List Tm}(h:Tm.mk v n us∈l):SizeOf.sizeOf us<SizeOf.sizeOf l:=by
 have:=lSm h;simp at this;omega
mutual
def BR (v:Bool)(n:ByteArray)(us:List Tm)(x:IV)(hx:IsTm (.mk v n us) x)(b:Nat)(st:ISt)(l d A:Int)(hb:st b=jBox l d)(h0:0<=l)(h1:l<=9223372036854775807)(h2:0<=A)(h3:A+(Tm.mk v n us).size<=4611686018427387904) :
  ICall prog gl 210 [.raw (.pointer (some ⟨b,0,none⟩)),x,A] st (rv b st l d (tmR (.mk v n us) l d A) (Tm.mk v n us).size):=by
 obtain⟨tg,xs,rfl,aa,E⟩:=hx.mk;refine iI func210 ?_;simp only[go_sem,zE,zA,reduceCtorEq];refine (BP gl b _ l d A hb h0 h1).q ?_;cases W:(decide (1<=l)&&decide (A<=d))
 ·simp only[go_sem];refine cO ⟨?_,_,rfl,?_⟩<;>cases v<;>simp[ry,s4,W]
 ·have ai:1<=l/\A<=d:=by simpa using W
  cases v
  ·simp only[Tm.size] at h3;have hw:IntKind.i64.wrap (A+1)=A+1:=w64 (by omega) (by omega);by_cases O:us.length<=4
   ·have D:decide ((us.length:Int)<=4)=true:=by simp;omega
    simp only[go_sem,zE,zA,E.len,D];intro _;refine (JI gl n _).q ?_;cases U:mq n
    ·simp only[go_sem,zE];refine cO ⟨?_,_,rfl,?_⟩<;>simp[ry,U]
    ·simp only[go_sem,zE,zA,reduceCtorEq,hw];refine (BS us tg xs aa E b _ (l-1) d (A+1) (cT _ _ _) (by omega) (by omega) (by omega) (by omega)).mono ?_;rintro _ _ ⟨rfl,l',rfl,ac⟩;simp only[go_sem,zE];refine cO ⟨by simp[ry,W,U,O],l',eZ _ _ _ _,?_⟩;intro hr;rw[ry] at hr;simp only[bAt] at hr;have:=ac hr.2;simp only[Tm.size];omega
   ·have D:decide ((us.length:Int)<=4)=false:=by simp;omega
    simp only[go_sem,zE,E.len,D];intro _;refine cO ⟨?_,_,rfl,?_⟩<;>simp[ry,O]
  ·by_cases O:us.length=0
   ·have D:decide ((us.length:Int)=0)=true:=dEt (by omega);simp only[go_sem,zE,zA,E.len,D];intro _;refine (sY gl n _).q ?_;cases U:iD n
    ·simp only[go_sem,zE,reduceCtorEq,cT,jBox];refine cO ⟨?_,_,rfl,?_⟩<;>simp[s4,U]
    ·simp only[go_sem,zE];refine cO ⟨?_,_,rfl,?_⟩
     ·simp[s4,U,W,O]
     ·intro _;have:us=[]:=eN O;subst this;simp[Tm.size,dN]
   ·have D:decide ((us.length:Int)=0)=false:=dEf (by omega);simp only[go_sem,zE,E.len,D];intro _;refine cO ⟨?_,_,rfl,?_⟩<;>simp[s4,O]
termination_by 2*SizeOf.sizeOf us+1
decreasing_by all_goals omega
def BS (us:List Tm)(tg:Tag)(xs:List IV)(ac:okEs tg 3)(O:IsTms us xs)(b:Nat)(st:ISt)(l d A:Int)(hb:st b=jBox l d)(h0:0<=l)(h1:l<=9223372036854775807)(h2:0<=A)
  (h3:A+dN us<=4611686018427387904) :
  ICall prog gl 178 [.raw (.pointer (some ⟨b,0,none⟩)),.sl tg xs,.raw (.int .i64 A)] st (rv b st l d (tmsR us l d A) (dN us)):=by
 refine iI func178 ?_;simp only[go_sem,zE,O.len];intro ah;refine cV us.length (λk fr st' ds=>tmsR (us.take k) l d A=true/\fr 0=.iv (.raw (.pointer (some ⟨b,0,none⟩)))/\fr 2=.iv (.raw (.int .i64 A))/\fr 9=.iv (.sl tg xs) /\
  fr 10=.iv (.raw (.int .i64 us.length))/\fr 11=.iv (.raw (.int .i64 k))/\st'=st.put b (jBox (l-dN (us.take k)) d)/\ds=[]) ?_ ?_ ?_
 ·have:l-(dN ([]:List Tm):Int)=l:=by simp[dN]
  simp only[go_sem,zE,reduceCtorEq,this,lj hb];simp[tmsR,dN,eE,fT,h0]
 ·rintro k fr _ ds D ⟨E,f0,f2,f9,f10,f11,rfl,rfl⟩;obtain⟨a,U⟩:=dd D;obtain⟨x,ag,hx⟩:=O.get U;obtain⟨hs1,hs2⟩:=mr U;obtain⟨v,n,m⟩:=a;obtain⟨tx,cx,rfl,_⟩:=hx.mk;have aj:(dN (us.take k):Int)<=l:=by
   simp only[tmsR,bAt,dTe] at E;exact E.1.1
  simp only[go_sem,zE,zA,zL,reduceCtorEq,f0,f2,f9,f10,f11,lt_i D,dc ac,iNn,ag];refine (BR v n m _ hx b _ (l-dN (us.take k)) d A (cT _ _ _) (by omega) (by omega) h2 (by omega)).mono ?_;rintro _ _ ⟨rfl,l',rfl,af⟩;cases W:tmR (.mk v n m) (l-dN (us.take k)) d A
  ·simp only[go_sem];refine cO ⟨?_,l',eZ _ _ _ _,?_⟩
   all_goals
    have hf:tmsR us l d A=false:=by
     rw[<- eF k us,fM D];rw[BQ,(lGs U).2,sZ,W];simp
    simp[hf]
  ·have ae:=af W;subst ae;simp only[go_sem,zE,reduceCtorEq,f0,f2,f9,f10,f11,df D (by omega),eZ];refine⟨?_,?_⟩
   ·rw[dK U,BQ,E,sZ,W];simp only[tmR,bAt,dTe] at W;simp[tmsR,dN,eE,fT];omega
   ·rw[hs1];congr 2;omega
 ·rintro fr _ ds ⟨E,f0,f2,f9,f10,f11,rfl,rfl⟩;simp only[go_sem,f10,f11,dD (nLi _)];rw[lTl] at E;refine cO ⟨by rw[E],_,rfl,?_⟩;rw[lTl];intro _;rfl
termination_by 2*SizeOf.sizeOf us
decreasing_by have:=JM (lMg U);omega
end
