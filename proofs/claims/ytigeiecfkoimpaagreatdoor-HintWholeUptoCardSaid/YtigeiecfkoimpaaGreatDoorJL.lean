/- Walks: checkers of names. -/
import Derived.Test.YtigeiecfkoimpaaGreatDoorKF
set_option linter.all false
open Nat renaming reduceEqDiff → zE,reduceAdd → zA,reduceLeDiff → zL
namespace Go.Proofs.Tryz
open Go Go.Iv
set_option maxRecDepth 4000
variable (gl:Nat->Option IV)
def Kb (s:ByteArray)(st:ISt):ICall prog gl 207 [s] st (λx st'=>x=(rE s:Bool)/\st'=st):=by
 refine iI func207 ?_;simp only[go_sem,zA,zL,reduceCtorEq];refine kR (λh=>?_) (λh=>?_)
 ·simp only[go_sem,h];exact c_ ⟨by rw[show s=wAll from fe h];rfl,rfl⟩
 have h1:s≠wAll:=gE h;simp only[go_sem,zE,zA,zL,h];refine kR (λh=>?_) (λh=>?_)
 ·simp only[go_sem,h];exact c_ ⟨by rw[show s=xm from fe h];rfl,rfl⟩
 have h2:s≠xm:=gE h;simp only[go_sem,zE,zA,zL,h];refine kR (λh=>?_) (λh=>?_)
 ·simp only[go_sem,h];exact c_ ⟨by rw[show s=xn from fe h];rfl,rfl⟩
 have J:s≠xn:=gE h;simp only[go_sem,zE,zA,zL,h];refine kR (λh=>?_) (λh=>?_)
 ·simp only[go_sem,h];exact c_ ⟨by rw[show s=xo from fe h];rfl,rfl⟩
 have G:s≠xo:=gE h;simp only[go_sem,zE,zA,zL,h];refine kR (λh=>?_) (λh=>?_)
 ·simp only[go_sem,h];exact c_ ⟨by rw[show s=xp from fe h];rfl,rfl⟩
 have E:s≠xp:=gE h;simp only[go_sem,zE,zA,zL,h];refine kR (λh=>?_) (λh=>?_)
 ·simp only[go_sem,h];exact c_ ⟨by rw[show s=xq from fe h];rfl,rfl⟩
 have D:s≠xq:=gE h;simp only[go_sem,h];exact c_ ⟨by rw[show rE s=false by unfold rE;rw[dEf h1,dEf h2,dEf J,dEf G,dEf E,dEf D];rfl],rfl⟩
def Cq (s:ByteArray):s.size=s.data.toList.length:=Array.length_toList.symm
def Cr {s:ByteArray}{k:Nat}{c:UInt8}(h:s.data.toList[k]?=some c):oB s (k:Int)=some c:=by
 unfold oB;rw[cX (by omega)];have D:k<s.size:=by rw[Cq];exact (lGs h).1
 rw[i_];rw[getElem?_pos s k D];have h2:=(lGs h).2;rw[<- h2];rfl
def Kd {s:ByteArray}{c:UInt8}{cs:List UInt8}(h:s.data.toList=c::cs):oB s 0=some c:=Cr (k:=0) (by rw[h];rfl)
def xD (p q:FuncId)(P Q:UInt8->Bool)(ep:entI prog p=true)(eq:entI prog q=true)
  (hp:∀c st,ICall prog gl p [.raw (.int .u8 (UInt8.toNat c))] st (λx st'=>x=(P c:Bool)/\st'=st))
  (hq:∀c st,ICall prog gl q [.raw (.int .u8 (UInt8.toNat c))] st (λx st'=>x=(Q c:Bool)/\st'=st)) (s:ByteArray) (st:ISt) :
  ICall prog gl 206 [s,.cptr (.fn (.func p) [] []),.cptr (.fn (.func q) [] [])] st (λx st'=>x=(lg P Q s:Bool)/\st'=st):=by
 refine iI func206 ?_;have D:=Cq s;cases hl:s.data.toList with
 | nil =>
  rw[hl] at D;have h1:decide (((s.size:Nat):Int)<1)=true:=by rw[D];rfl
  simp only[go_sem,zE,reduceCtorEq,h1];exact c_ ⟨by simp[lg,hl],rfl⟩
 | cons c cs =>
  rw[hl] at D;have h1:decide (((s.size:Nat):Int)<1)=false:=by rw[D];simp;omega
  by_cases J:cs.length<16
  ·have h2:decide ((16:Int)<((s.size:Nat):Int))=false:=by rw[D];simp;omega
   simp only[go_sem,zE,zA,reduceCtorEq,h1,h2];refine (Kb gl s _).q ?_;cases h3:rE s
   ·simp only[go_sem,zE,reduceCtorEq,Kd hl,fits,ep];refine (hp c _).q ?_;cases h4:P c
    ·simp only[go_sem,zE];exact c_ ⟨by simp[lg,hl,h4],rfl⟩
    ·simp only[go_sem,zE];refine dt cs.length (λk fr st' ds=>(cs.take k).all Q=true/\fr 0=s/\fr 2=.iv (.cptr (.fn (.func q) [] []))/\fr 5=((k+1:Nat):Int)/\st'=st/\ds=[]) ?_ ?_ ?_
     ·simp only[go_sem,zE,reduceCtorEq];rfl
     ·rintro k fr st' ds ae ⟨O,h0,G,h5,rfl,rfl⟩;obtain⟨x,hx⟩:=dD ae;have E:decide (((k+1:Nat):Int)<((s.size:Nat):Int))=true:=by rw[D];simp;omega
      have ab:oB s ((k+1:Nat):Int)=some x:=Cr (by rw[hl];simpa using hx);have hw:IntKind.i64.wrap (((k+1:Nat):Int)+1)=((k+1+1:Nat):Int):=by rw[w64]<;>omega
      simp only[go_sem,zE,reduceCtorEq,h0,G,h5,E,ab,fits,eq];intro _;refine (hq x _).q ?_;cases h6:Q x
      ·simp only[go_sem];exact c_ ⟨by
        have:cs.all Q=false:=by rw[List.all_eq_false];exact⟨x,lMg hx,by simp[h6]⟩
        simp[lg,hl,this],rfl⟩
      ·simp only[go_sem,zE,reduceCtorEq,h0,G,h5,hw];rw[dM hx,kl,O];simp[h6]
     ·rintro fr st' ds ⟨O,h0,G,h5,rfl,rfl⟩;have E:decide (((cs.length+1:Nat):Int)<((s.size:Nat):Int))=false:=by rw[D];simp
      simp only[go_sem,zE,reduceCtorEq,h0,h5,E];intro _;rw[lTl] at O;exact c_ ⟨by simp[lg,hl,h3,h4,J,O],rfl⟩
   ·simp only[go_sem,zE];exact c_ ⟨by simp[lg,hl,h3],rfl⟩
  ·have h2:decide ((16:Int)<((s.size:Nat):Int))=true:=by rw[D];simp;omega
   simp only[go_sem,zE,reduceCtorEq,h1,h2];exact c_ ⟨by simp[lg,hl,J],rfl⟩
def xE (p q:FuncId)(st:ISt):ICall prog gl 181 [.fn (.func p) [] [],.fn (.func q) [] []] st
  (λx st'=>x=.fn (.func 206) [] [.cptr (.fn (.func p) [] []),.cptr (.fn (.func q) [] [])]/\st'=st):=by
 refine ICall.intro (c:=cf prog gl [] [] [2,3]) func181 rfl (by show _<=6;simp) (by kernel_rfl) ?_;simp only[go_sem,zE];exact c_ ⟨rfl,rfl⟩
def ue (s:ByteArray)(st:ISt):ICall prog gl 138 [s] st (λx st'=>x=(jQ s:Bool)/\st'=st):=by
 refine iI func138 ?_;simp only[go_sem,zA];refine (xE gl _ _ _).q ?_;simp only[go_sem,zE,reduceCtorEq];refine (xD gl _ _ (inB 117 122) pM (by simp only[go_sem]) (by simp only[go_sem]) (Ke gl) (Cs gl) s _).q ?_;simp only[go_sem];exact c_ ⟨rfl,rfl⟩
def Kf (s:ByteArray)(st:ISt):ICall prog gl 187 [s] st (λx st'=>x=(ud s:Bool)/\st'=st):=by
 refine iI func187 ?_;simp only[go_sem,zA];refine (xE gl _ _ _).q ?_;simp only[go_sem,zE,reduceCtorEq];refine (xD gl _ _ (inB 97 116) nO (by simp only[go_sem]) (by simp only[go_sem]) (Kg gl) (Ct gl) s _).q ?_;simp only[go_sem];exact c_ ⟨rfl,rfl⟩
def Kh (s:ByteArray)(st:ISt):ICall prog gl 137 [s] st (λx st'=>x=(xx s:Bool)/\st'=st):=by
 refine iI func137 ?_;simp only[go_sem,zA];refine (xE gl _ _ _).q ?_;simp only[go_sem,zE,reduceCtorEq];refine (xD gl _ _ oG nO (by simp only[go_sem]) (by simp only[go_sem]) (Cu gl) (Ct gl) s _).q ?_;simp only[go_sem];exact c_ ⟨rfl,rfl⟩
def jr (k:Nat)(s:ByteArray):Bool:=match k with|1=>xx s|2=>jQ s|_=>decide (s=⟨#[]⟩)
def Ki (k:Nat)(D:k<=2)(s:ByteArray)(st:ISt):ICall prog gl 106 [.raw (.int .u8 k),s] st (λx st'=>x=(jr k s:Bool)/\st'=st):=by
 refine iI func106 ?_
 match k,D with
 | 0,_ =>
  simp only[go_sem,zE,zL,reduceCtorEq,show decide (((0:Nat):Int)=1)=false from rfl,show decide (((0:Nat):Int)=2)=false from rfl,show decide (((0:Nat):Int)=3)=false from rfl];exact c_ ⟨rfl,rfl⟩
 | 1,_ =>
  simp only[go_sem,zE,zA,reduceCtorEq,show decide (((1:Nat):Int)=1)=true from rfl];refine (Kh gl s _).q ?_;simp only[go_sem];exact c_ ⟨rfl,rfl⟩
 | 2,_ =>
  simp only[go_sem,zE,zA,reduceCtorEq,show decide (((2:Nat):Int)=1)=false from rfl,show decide (((2:Nat):Int)=2)=true from rfl];refine (ue gl s _).q ?_;simp only[go_sem];exact c_ ⟨rfl,rfl⟩
def jBox (l d:Int):Option IObj:=some (.box [false,l,d])
def Cv (b:Nat)(st:ISt)(l d D:Int)(J:st b=jBox l d)(h0:0<=l)(h1:l<=9223372036854775807) :
  ICall prog gl 105 [.raw (.pointer (some ⟨b,0,none⟩)),D] st (λx st'=>x=(decide (1<=l)&&decide (D<=d):Bool)/\st'=st.put b (jBox (l-1) d)):=by
 refine iI func105 ?_;have G:IntKind.i64.wrap (l-1)=l-1:=w64 (by omega) (by omega);simp only[go_sem,zE,zA,zL,reduceCtorEq,J,jBox,G];refine pJ (λh=>?_) (λh=>?_)
 ·have E:1<=l:=by simp at h;omega
  simp only[go_sem,zE,zA,reduceCtorEq];exact c_ ⟨by simp[E],rfl⟩
 ·have E:¬ 1<=l:=by simp at h;omega
  simp only[go_sem,zE,zA];exact c_ ⟨by simp[E],rfl⟩
def rF (b:Nat)(st:ISt)(l d:Int)(r:Bool)(E:Nat)(x:IV)(st':ISt):Prop:=x=r/\∃D,st'=st.put b (jBox D d)/\(r=true->D=l-E)
def tmR (t:Tm)(l d D:Int):Bool:=decide ((t.size:Int)<=l)&&decide (D+t.deep<=d+1)&&t.ok
def tmsR (t:List Tm)(l d D:Int):Bool:=decide ((el t:Int)<=l)&&decide (fB t=0\/D+fB t<=d+1)&&jq t
def uf (a:Tm)(m:List Tm)(l d D:Int):tmsR (a::m) l d D=(tmR a l d D&&tmsR m (l-a.size) d D):=by
 rw[ma];have h1:=a.deep_pos;simp only[tmsR,tmR,bAt,dTe];simp only[el,fB,jq,bAt];constructor
 ·rintro⟨⟨h2,O⟩,E,G⟩;refine⟨⟨⟨by omega,by omega⟩,E⟩,⟨by omega,by omega⟩,G⟩
 ·rintro⟨⟨⟨h2,O⟩,E⟩,⟨G,h6⟩,J⟩;exact⟨⟨by omega,by omega⟩,E,J⟩
def Cw (a m:List Tm)(l d D:Int):tmsR (a++m) l d D=(tmsR a l d D&&tmsR m (l-el a) d D):=by
 induction a generalizing l with
 | nil =>
  simp only[fa,el,Int.natCast_zero,Int.sub_zero];rw[ma];simp only[tmsR,bAt,dTe];simp only[el,fB,jq];constructor
  ·rintro⟨⟨h1,h2⟩,E⟩;exact⟨⟨⟨by omega,by simp⟩,trivial⟩,⟨h1,h2⟩,E⟩
  ·rintro⟨_,⟨h1,h2⟩,E⟩;exact⟨⟨h1,h2⟩,E⟩
 | cons x a G =>
  rw[eu,uf,G,uf,pd];congr 3;simp only[el];omega
def rG (n:ByteArray)(m:List Tm)(l d D:Int):tmR (.mk false n m) l d D=(((decide (1<=l)&&decide (D<=d))&&decide (m.length<=4)&&ud n)&&tmsR m (l-1) d (D+1)):=by
 rw[ma];simp only[tmsR,tmR,bAt,dTe];simp only[Tm.size,Tm.deep,Tm.ok,bAt,dTe];constructor
 ·rintro⟨⟨h2,O⟩,⟨E,J⟩,G⟩;refine⟨⟨⟨⟨by omega,by omega⟩,E⟩,J⟩,⟨by omega,by omega⟩,G⟩
 ·rintro⟨⟨⟨⟨h1,h2⟩,O⟩,E⟩,⟨J,G⟩,h7⟩;exact⟨⟨by omega,by omega⟩,⟨O,E⟩,h7⟩
def uh (n:ByteArray)(m:List Tm)(l d D:Int):tmR (.mk true n m) l d D=(((decide (1<=l)&&decide (D<=d))&&decide (m.length=0))&&jQ n):=by
 rw[ma];cases m with
 | nil =>
  simp only[tmR,bAt,dTe];simp only[Tm.size,Tm.deep,Tm.ok,el,fB,List.isEmpty,bAt,ee];constructor
  ·rintro⟨⟨h1,h2⟩,_,E⟩;exact⟨⟨⟨by omega,by omega⟩,trivial⟩,E⟩
  ·rintro⟨⟨⟨h1,h2⟩,_⟩,E⟩;exact⟨⟨by omega,by omega⟩,by trivial,E⟩
 | cons a m=>simp[tmR,Tm.ok]
def Kj {v:Bool}{n:ByteArray}{us:List Tm}{l:List Tm}(h:Tm.mk v n us∈l):SizeOf.sizeOf us<SizeOf.sizeOf l:=by
 have:=lSm h;simp at this;omega
mutual
def Cy (v:Bool)(n:ByteArray)(us:List Tm)(x:IV)(hx:IsTm (.mk v n us) x)(b:Nat)(st:ISt)(l d D:Int)(hb:st b=jBox l d)(h0:0<=l)(h1:l<=9223372036854775807)(h2:0<=D)(h3:D+(Tm.mk v n us).size<=4611686018427387904) :
  ICall prog gl 141 [.raw (.pointer (some ⟨b,0,none⟩)),x,D] st (rF b st l d (tmR (.mk v n us) l d D) (Tm.mk v n us).size):=by
 obtain⟨tg,xs,rfl,ab,G⟩:=hx.mk;refine iI func141 ?_;simp only[go_sem,zE,zA,reduceCtorEq];refine (Cv gl b _ l d D hb h0 h1).q ?_;cases hn:(decide (1<=l)&&decide (D<=d))
 ·simp only[go_sem];refine c_ ⟨?_,_,rfl,?_⟩<;>cases v<;>simp[rG,uh,hn]
 ·have aj:1<=l/\D<=d:=by simpa using hn
  cases v
  ·simp only[Tm.size] at h3;have hw:IntKind.i64.wrap (D+1)=D+1:=w64 (by omega) (by omega);by_cases J:us.length<=4
   ·have E:decide ((us.length:Int)<=4)=true:=by simp;omega
    simp only[go_sem,zE,zA,G.len,E];intro _;refine (Kf gl n _).q ?_;cases O:ud n
    ·simp only[go_sem,zE];refine c_ ⟨?_,_,rfl,?_⟩<;>simp[rG,O]
    ·simp only[go_sem,zE,zA,reduceCtorEq,hw];refine (Cz us tg xs ab G b _ (l-1) d (D+1) (b_ _ _ _) (by omega) (by omega) (by omega) (by omega)).mono ?_;rintro _ _ ⟨rfl,l',rfl,ae⟩;simp only[go_sem,zE];refine c_ ⟨by simp[rG,hn,O,J],l',eN _ _ _ _,?_⟩;intro hr;rw[rG] at hr;simp only[bAt] at hr;have:=ae hr.2;simp only[Tm.size];omega
   ·have E:decide ((us.length:Int)<=4)=false:=by simp;omega
    simp only[go_sem,zE,G.len,E];intro _;refine c_ ⟨?_,_,rfl,?_⟩<;>simp[rG,J]
  ·by_cases J:us.length=0
   ·have E:decide ((us.length:Int)=0)=true:=dEt (by omega);simp only[go_sem,zE,zA,G.len,E];intro _;refine (ue gl n _).q ?_;cases O:jQ n
    ·simp only[go_sem,zE,reduceCtorEq,b_,jBox];refine c_ ⟨?_,_,rfl,?_⟩<;>simp[uh,O]
    ·simp only[go_sem,zE];refine c_ ⟨?_,_,rfl,?_⟩
     ·simp[uh,O,hn,J]
     ·intro _;have:us=[]:=ev J;subst this;simp[Tm.size,el]
   ·have E:decide ((us.length:Int)=0)=false:=dEf (by omega);simp only[go_sem,zE,G.len,E];intro _;refine c_ ⟨?_,_,rfl,?_⟩<;>simp[uh,J]
termination_by 2*SizeOf.sizeOf us+1
decreasing_by all_goals omega
def Cz (us:List Tm)(tg:Tag)(xs:List IV)(ac:okEs tg 3)(J:IsTms us xs)(b:Nat)(st:ISt)(l d D:Int)(hb:st b=jBox l d)(h0:0<=l)(h1:l<=9223372036854775807)(h2:0<=D)
  (h3:D+el us<=4611686018427387904) :
  ICall prog gl 108 [.raw (.pointer (some ⟨b,0,none⟩)),.sl tg xs,.raw (.int .i64 D)] st (rF b st l d (tmsR us l d D) (el us)):=by
 refine iI func108 ?_;simp only[go_sem,zE,J.len];intro aj;refine dt us.length (λk fr st' ds=>tmsR (us.take k) l d D=true/\fr 0=.iv (.raw (.pointer (some ⟨b,0,none⟩)))/\fr 2=.iv (.raw (.int .i64 D))/\fr 9=.iv (.sl tg xs) /\
  fr 10=.iv (.raw (.int .i64 us.length))/\fr 11=.iv (.raw (.int .i64 k))/\st'=st.put b (jBox (l-el (us.take k)) d)/\ds=[]) ?_ ?_ ?_
 ·have:l-(el ([]:List Tm):Int)=l:=by simp[el]
  simp only[go_sem,zE,reduceCtorEq,this,jy hb];simp[tmsR,el,fB,jq,h0]
 ·rintro k fr _ ds E ⟨G,f0,f2,f9,f10,f11,rfl,rfl⟩;obtain⟨a,O⟩:=dD E;obtain⟨x,ah,hx⟩:=J.get O;obtain⟨ae,al⟩:=mP O;obtain⟨v,n,m⟩:=a;obtain⟨tx,cx,rfl,_⟩:=hx.mk;have am:(el (us.take k):Int)<=l:=by
   simp only[tmsR,bAt,dTe] at G;exact G.1.1
  simp only[go_sem,zE,zA,zL,reduceCtorEq,f0,f2,f9,f10,f11,lt_i E,dB ac,iNn,ah];refine (Cy v n m _ hx b _ (l-el (us.take k)) d D (b_ _ _ _) (by omega) (by omega) h2 (by omega)).mono ?_;rintro _ _ ⟨rfl,l',rfl,ag⟩;cases hr:tmR (.mk v n m) (l-el (us.take k)) d D
  ·simp only[go_sem];refine c_ ⟨?_,l',eN _ _ _ _,?_⟩
   all_goals
    have hf:tmsR us l d D=false:=by
     rw[<- eA k us,fC E];rw[Cw,(lGs O).2,uf,hr];simp
    simp[hf]
  ·have af:=ag hr;subst af;simp only[go_sem,zE,reduceCtorEq,f0,f2,f9,f10,f11,dL E (by omega),eN];refine⟨?_,?_⟩
   ·rw[dM O,Cw,G,uf,hr];simp only[tmR,bAt,dTe] at hr;simp[tmsR,el,fB,jq];omega
   ·rw[ae];congr 2;omega
 ·rintro fr _ ds ⟨G,f0,f2,f9,f10,f11,rfl,rfl⟩;simp only[go_sem,f10,f11,dS (nLi _)];rw[lTl] at G;refine c_ ⟨by rw[G],_,rfl,?_⟩;rw[lTl];intro _;rfl
termination_by 2*SizeOf.sizeOf us
decreasing_by have:=Kj (lMg O);omega
end
