/- Walks: checkers of names. -/
import Derived.Test.YtakbihknkdpmgaaGreatDoorKF
set_option linter.all false
open Nat renaming reduceEqDiff → zE,reduceAdd → zA,reduceLeDiff → zL
namespace Go.Proofs.Tryz
open Go Go.Iv
set_option maxRecDepth 4000
variable (gl:Nat->Option IV)
def J3 (s:ByteArray)(st:ISt):ICall prog gl 302 [s] st (λx st'=>x=(nJ s:Bool)/\st'=st):=by
 refine iI func302 ?_;simp only[go_sem,zA,zL,reduceCtorEq];refine jZ (λh=>?_) (λh=>?_)
 ·simp only[go_sem,h];exact c_ ⟨by rw[show s=wAll from fc h];rfl,rfl⟩
 have h1:s≠wAll:=fX h;simp only[go_sem,zE,zA,zL,h];refine jZ (λh=>?_) (λh=>?_)
 ·simp only[go_sem,h];exact c_ ⟨by rw[show s=rj from fc h];rfl,rfl⟩
 have h2:s≠rj:=fX h;simp only[go_sem,zE,zA,zL,h];refine jZ (λh=>?_) (λh=>?_)
 ·simp only[go_sem,h];exact c_ ⟨by rw[show s=rk from fc h];rfl,rfl⟩
 have G:s≠rk:=fX h;simp only[go_sem,zE,zA,zL,h];refine jZ (λh=>?_) (λh=>?_)
 ·simp only[go_sem,h];exact c_ ⟨by rw[show s=rm from fc h];rfl,rfl⟩
 have E:s≠rm:=fX h;simp only[go_sem,zE,zA,zL,h];refine jZ (λh=>?_) (λh=>?_)
 ·simp only[go_sem,h];exact c_ ⟨by rw[show s=rn from fc h];rfl,rfl⟩
 have D:s≠rn:=fX h;simp only[go_sem,zE,zA,zL,h];refine jZ (λh=>?_) (λh=>?_)
 ·simp only[go_sem,h];exact c_ ⟨by rw[show s=rp from fc h];rfl,rfl⟩
 have A:s≠rp:=fX h;simp only[go_sem,h];exact c_ ⟨by rw[show nJ s=false by unfold nJ;rw[dEf h1,dEf h2,dEf G,dEf E,dEf D,dEf A];rfl],rfl⟩
def xe (s:ByteArray):s.size=s.data.toList.length:=Array.length_toList.symm
def xg {s:ByteArray}{k:Nat}{c:UInt8}(h:s.data.toList[k]?=some c):nt s (k:Int)=some c:=by
 unfold nt;rw[cV (by omega)];have A:k<s.size:=by rw[xe];exact (lGs h).1
 rw[kd];rw[getElem?_pos s k A];have h2:=(lGs h).2;rw[<- h2];rfl
def tQ {s:ByteArray}{c:UInt8}{cs:List UInt8}(h:s.data.toList=c::cs):nt s 0=some c:=xg (k:=0) (by rw[h];rfl)
def xh (p q:FuncId)(P Q:UInt8->Bool)(ep:entI prog p=true)(eq:entI prog q=true)
  (hp:∀c st,ICall prog gl p [.raw (.int .u8 (UInt8.toNat c))] st (λx st'=>x=(P c:Bool)/\st'=st))
  (hq:∀c st,ICall prog gl q [.raw (.int .u8 (UInt8.toNat c))] st (λx st'=>x=(Q c:Bool)/\st'=st)) (s:ByteArray) (st:ISt) :
  ICall prog gl 301 [s,.cptr (.fn (.func p) [] []),.cptr (.fn (.func q) [] [])] st (λx st'=>x=(jq P Q s:Bool)/\st'=st):=by
 refine iI func301 ?_;have A:=xe s;cases hl:s.data.toList with
 | nil =>
  rw[hl] at A;have h1:decide (((s.size:Nat):Int)<1)=true:=by rw[A];rfl
  simp only[go_sem,zE,reduceCtorEq,h1];exact c_ ⟨by simp[jq,hl],rfl⟩
 | cons c cs =>
  rw[hl] at A;have h1:decide (((s.size:Nat):Int)<1)=false:=by rw[A];simp;omega
  by_cases G:cs.length<16
  ·have h2:decide ((16:Int)<((s.size:Nat):Int))=false:=by rw[A];simp;omega
   simp only[go_sem,zE,zA,reduceCtorEq,h1,h2];refine (J3 gl s _).q ?_;cases h3:nJ s
   ·simp only[go_sem,zE,reduceCtorEq,tQ hl,fits,ep];refine (hp c _).q ?_;cases h4:P c
    ·simp only[go_sem,zE];exact c_ ⟨by simp[jq,hl,h4],rfl⟩
    ·simp only[go_sem,zE];refine dj cs.length (λk fr st' ds=>(cs.take k).all Q=true/\fr 0=s/\fr 2=.iv (.cptr (.fn (.func q) [] []))/\fr 5=((k+1:Nat):Int)/\st'=st/\ds=[]) ?_ ?_ ?_
     ·simp only[go_sem,zE,reduceCtorEq];rfl
     ·rintro k fr st' ds ab ⟨J,h0,E,O,rfl,rfl⟩;obtain⟨x,hx⟩:=dB ab;have D:decide (((k+1:Nat):Int)<((s.size:Nat):Int))=true:=by rw[A];simp;omega
      have U:nt s ((k+1:Nat):Int)=some x:=xg (by rw[hl];simpa using hx);have hw:IntKind.i64.wrap (((k+1:Nat):Int)+1)=((k+1+1:Nat):Int):=by rw[w64]<;>omega
      simp only[go_sem,zE,reduceCtorEq,h0,E,O,D,U,fits,eq];intro _;refine (hq x _).q ?_;cases h6:Q x
      ·simp only[go_sem];exact c_ ⟨by
        have:cs.all Q=false:=by rw[List.all_eq_false];exact⟨x,lMg hx,by simp[h6]⟩
        simp[jq,hl,this],rfl⟩
      ·simp only[go_sem,zE,reduceCtorEq,h0,E,O,hw];rw[dE hx,List.all_append,J];simp[h6]
     ·rintro fr st' ds ⟨J,h0,E,O,rfl,rfl⟩;have D:decide (((cs.length+1:Nat):Int)<((s.size:Nat):Int))=false:=by rw[A];simp
      simp only[go_sem,zE,reduceCtorEq,h0,O,D];intro _;rw[lTl] at J;exact c_ ⟨by simp[jq,hl,h3,h4,G,J],rfl⟩
   ·simp only[go_sem,zE];exact c_ ⟨by simp[jq,hl,h3],rfl⟩
  ·have h2:decide ((16:Int)<((s.size:Nat):Int))=true:=by rw[A];simp;omega
   simp only[go_sem,zE,reduceCtorEq,h1,h2];exact c_ ⟨by simp[jq,hl,G],rfl⟩
def xi (p q:FuncId)(st:ISt):ICall prog gl 265 [.fn (.func p) [] [],.fn (.func q) [] []] st
  (λx st'=>x=.fn (.func 301) [] [.cptr (.fn (.func p) [] []),.cptr (.fn (.func q) [] [])]/\st'=st):=by
 refine ICall.intro (c:=cf prog gl [] [] [2,3]) func265 rfl (by show _<=6;simp) (by kernel_rfl) ?_;simp only[go_sem,zE];exact c_ ⟨rfl,rfl⟩
def tT (s:ByteArray)(st:ISt):ICall prog gl 220 [s] st (λx st'=>x=(iy s:Bool)/\st'=st):=by
 refine iI func220 ?_;simp only[go_sem,zA];refine (xi gl _ _ _).q ?_;simp only[go_sem,zE,reduceCtorEq];refine (xh gl _ _ (inB 117 122) kW (by simp only[go_sem]) (by simp only[go_sem]) (J4 gl) (Cc gl) s _).q ?_;simp only[go_sem];exact c_ ⟨rfl,rfl⟩
def J5 (s:ByteArray)(st:ISt):ICall prog gl 222 [s] st (λx st'=>x=(tP s:Bool)/\st'=st):=by
 refine iI func222 ?_;simp only[go_sem,zA];refine (xi gl _ _ _).q ?_;simp only[go_sem,zE,reduceCtorEq];refine (xh gl _ _ (inB 97 116) ma (by simp only[go_sem]) (by simp only[go_sem]) (J6 gl) (Cd gl) s _).q ?_;simp only[go_sem];exact c_ ⟨rfl,rfl⟩
def J7 (s:ByteArray)(st:ISt):ICall prog gl 232 [s] st (λx st'=>x=(oA s:Bool)/\st'=st):=by
 refine iI func232 ?_;simp only[go_sem,zA];refine (xi gl _ _ _).q ?_;simp only[go_sem,zE,reduceCtorEq];refine (xh gl _ _ lJ ma (by simp only[go_sem]) (by simp only[go_sem]) (Ce gl) (Cd gl) s _).q ?_;simp only[go_sem];exact c_ ⟨rfl,rfl⟩
def jg (k:Nat)(s:ByteArray):Bool:=match k with|1=>oA s|2=>iy s|_=>decide (s=⟨#[]⟩)
def J8 (k:Nat)(A:k<=2)(s:ByteArray)(st:ISt):ICall prog gl 195 [.raw (.int .u8 k),s] st (λx st'=>x=(jg k s:Bool)/\st'=st):=by
 refine iI func195 ?_
 match k,A with
 | 0,_ =>
  simp only[go_sem,zE,zL,reduceCtorEq,show decide (((0:Nat):Int)=1)=false from rfl,show decide (((0:Nat):Int)=2)=false from rfl,show decide (((0:Nat):Int)=3)=false from rfl];exact c_ ⟨rfl,rfl⟩
 | 1,_ =>
  simp only[go_sem,zE,zA,reduceCtorEq,show decide (((1:Nat):Int)=1)=true from rfl];refine (J7 gl s _).q ?_;simp only[go_sem];exact c_ ⟨rfl,rfl⟩
 | 2,_ =>
  simp only[go_sem,zE,zA,reduceCtorEq,show decide (((2:Nat):Int)=1)=false from rfl,show decide (((2:Nat):Int)=2)=true from rfl];refine (tT gl s _).q ?_;simp only[go_sem];exact c_ ⟨rfl,rfl⟩
def jBox (l d:Int):Option IObj:=some (.box [false,l,d])
def Cg (b:Nat)(st:ISt)(l d A:Int)(G:st b=jBox l d)(h0:0<=l)(h1:l<=9223372036854775807) :
  ICall prog gl 194 [.raw (.pointer (some ⟨b,0,none⟩)),A] st (λx st'=>x=(decide (1<=l)&&decide (A<=d):Bool)/\st'=st.put b (jBox (l-1) d)):=by
 refine iI func194 ?_;have E:IntKind.i64.wrap (l-1)=l-1:=w64 (by omega) (by omega);simp only[go_sem,zE,zA,zL,reduceCtorEq,G,jBox,E];refine pE (λh=>?_) (λh=>?_)
 ·have D:1<=l:=by simp at h;omega
  simp only[go_sem,zE,zA,reduceCtorEq];exact c_ ⟨by simp[D],rfl⟩
 ·have D:¬ 1<=l:=by simp at h;omega
  simp only[go_sem,zE,zA];exact c_ ⟨by simp[D],rfl⟩
def rq (b:Nat)(st:ISt)(l d:Int)(r:Bool)(D:Nat)(x:IV)(st':ISt):Prop:=x=r/\∃A,st'=st.put b (jBox A d)/\(r=true->A=l-D)
def tmR (t:Tm)(l d A:Int):Bool:=decide ((t.size:Int)<=l)&&decide (A+t.deep<=d+1)&&t.ok
def tmsR (t:List Tm)(l d A:Int):Bool:=decide ((dP t:Int)<=l)&&decide (eu t=0\/A+eu t<=d+1)&&jf t
def tU (a:Tm)(m:List Tm)(l d A:Int):tmsR (a::m) l d A=(tmR a l d A&&tmsR m (l-a.size) d A):=by
 rw[kN];have h1:=a.deep_pos;simp only[tmsR,tmR,bAt,dTe];simp only[dP,eu,jf,bAt];constructor
 ·rintro⟨⟨h2,J⟩,D,E⟩;refine⟨⟨⟨by omega,by omega⟩,D⟩,⟨by omega,by omega⟩,E⟩
 ·rintro⟨⟨⟨h2,J⟩,D⟩,⟨E,O⟩,G⟩;exact⟨⟨by omega,by omega⟩,D,G⟩
def Ch (a m:List Tm)(l d A:Int):tmsR (a++m) l d A=(tmsR a l d A&&tmsR m (l-dP a) d A):=by
 induction a generalizing l with
 | nil =>
  simp only[eY,dP,Int.natCast_zero,Int.sub_zero];rw[kN];simp only[tmsR,bAt,dTe];simp only[dP,eu,jf];constructor
  ·rintro⟨⟨h1,h2⟩,D⟩;exact⟨⟨⟨by omega,by simp⟩,trivial⟩,⟨h1,h2⟩,D⟩
  ·rintro⟨_,⟨h1,h2⟩,D⟩;exact⟨⟨h1,h2⟩,D⟩
 | cons x a E =>
  rw[ed,tU,E,tU,Bool.and_assoc];congr 3;simp only[dP];omega
def ru (n:ByteArray)(m:List Tm)(l d A:Int):tmR (.mk false n m) l d A=(((decide (1<=l)&&decide (A<=d))&&decide (m.length<=4)&&tP n)&&tmsR m (l-1) d (A+1)):=by
 rw[kN];simp only[tmsR,tmR,bAt,dTe];simp only[Tm.size,Tm.deep,Tm.ok,bAt,dTe];constructor
 ·rintro⟨⟨h2,J⟩,⟨D,G⟩,E⟩;refine⟨⟨⟨⟨by omega,by omega⟩,D⟩,G⟩,⟨by omega,by omega⟩,E⟩
 ·rintro⟨⟨⟨⟨h1,h2⟩,J⟩,D⟩,⟨G,E⟩,O⟩;exact⟨⟨by omega,by omega⟩,⟨J,D⟩,O⟩
def tV (n:ByteArray)(m:List Tm)(l d A:Int):tmR (.mk true n m) l d A=(((decide (1<=l)&&decide (A<=d))&&decide (m.length=0))&&iy n):=by
 rw[kN];cases m with
 | nil =>
  simp only[tmR,bAt,dTe];simp only[Tm.size,Tm.deep,Tm.ok,dP,eu,List.isEmpty,bAt,dU];constructor
  ·rintro⟨⟨h1,h2⟩,_,D⟩;exact⟨⟨⟨by omega,by omega⟩,trivial⟩,D⟩
  ·rintro⟨⟨⟨h1,h2⟩,_⟩,D⟩;exact⟨⟨by omega,by omega⟩,by trivial,D⟩
 | cons a m=>simp[tmR,Tm.ok]
def J9 {v:Bool}{n:ByteArray}{us:List Tm}{l:List Tm}(h:Tm.mk v n us∈l):SizeOf.sizeOf us<SizeOf.sizeOf l:=by
 have:=lSm h;simp at this;omega
mutual
def Ci (v:Bool)(n:ByteArray)(us:List Tm)(x:IV)(hx:IsTm (.mk v n us) x)(b:Nat)(st:ISt)(l d A:Int)(hb:st b=jBox l d)(h0:0<=l)(h1:l<=9223372036854775807)(h2:0<=A)(h3:A+(Tm.mk v n us).size<=4611686018427387904) :
  ICall prog gl 183 [.raw (.pointer (some ⟨b,0,none⟩)),x,A] st (rq b st l d (tmR (.mk v n us) l d A) (Tm.mk v n us).size):=by
 obtain⟨tg,xs,rfl,U,E⟩:=hx.mk;refine iI func183 ?_;simp only[go_sem,zE,zA,reduceCtorEq];refine (Cg gl b _ l d A hb h0 h1).q ?_;cases O:(decide (1<=l)&&decide (A<=d))
 ·simp only[go_sem];refine c_ ⟨?_,_,rfl,?_⟩<;>cases v<;>simp[ru,tV,O]
 ·have ai:1<=l/\A<=d:=by simpa using O
  cases v
  ·simp only[Tm.size] at h3;have hw:IntKind.i64.wrap (A+1)=A+1:=w64 (by omega) (by omega);by_cases G:us.length<=4
   ·have D:decide ((us.length:Int)<=4)=true:=by simp;omega
    simp only[go_sem,zE,zA,E.len,D];intro _;refine (J5 gl n _).q ?_;cases J:tP n
    ·simp only[go_sem,zE];refine c_ ⟨?_,_,rfl,?_⟩<;>simp[ru,J]
    ·simp only[go_sem,zE,zA,reduceCtorEq,hw];refine (Cj us tg xs U E b _ (l-1) d (A+1) (b_ _ _ _) (by omega) (by omega) (by omega) (by omega)).mono ?_;rintro _ _ ⟨rfl,l',rfl,ab⟩;simp only[go_sem,zE];refine c_ ⟨by simp[ru,O,J,G],l',eN _ _ _ _,?_⟩;intro hr;rw[ru] at hr;simp only[bAt] at hr;have:=ab hr.2;simp only[Tm.size];omega
   ·have D:decide ((us.length:Int)<=4)=false:=by simp;omega
    simp only[go_sem,zE,E.len,D];intro _;refine c_ ⟨?_,_,rfl,?_⟩<;>simp[ru,G]
  ·by_cases G:us.length=0
   ·have D:decide ((us.length:Int)=0)=true:=dEt (by omega);simp only[go_sem,zE,zA,E.len,D];intro _;refine (tT gl n _).q ?_;cases J:iy n
    ·simp only[go_sem,zE,reduceCtorEq,b_,jBox];refine c_ ⟨?_,_,rfl,?_⟩<;>simp[tV,J]
    ·simp only[go_sem,zE];refine c_ ⟨?_,_,rfl,?_⟩
     ·simp[tV,J,O,G]
     ·intro _;have:us=[]:=eG G;subst this;simp[Tm.size,dP]
   ·have D:decide ((us.length:Int)=0)=false:=dEf (by omega);simp only[go_sem,zE,E.len,D];intro _;refine c_ ⟨?_,_,rfl,?_⟩<;>simp[tV,G]
termination_by 2*SizeOf.sizeOf us+1
decreasing_by all_goals omega
def Cj (us:List Tm)(tg:Tag)(U:List IV)(ab:okEs tg 3)(G:IsTms us U)(b:Nat)(st:ISt)(l d A:Int)(hb:st b=jBox l d)(h0:0<=l)(h1:l<=9223372036854775807)(h2:0<=A)
  (h3:A+dP us<=4611686018427387904) :
  ICall prog gl 197 [.raw (.pointer (some ⟨b,0,none⟩)),.sl tg U,.raw (.int .i64 A)] st (rq b st l d (tmsR us l d A) (dP us)):=by
 refine iI func197 ?_;simp only[go_sem,zE,G.len];intro ai;refine dj us.length (λk fr st' ds=>tmsR (us.take k) l d A=true/\fr 0=.iv (.raw (.pointer (some ⟨b,0,none⟩)))/\fr 2=.iv (.raw (.int .i64 A))/\fr 9=.iv (.sl tg U) /\
  fr 10=.iv (.raw (.int .i64 us.length))/\fr 11=.iv (.raw (.int .i64 k))/\st'=st.put b (jBox (l-dP (us.take k)) d)/\ds=[]) ?_ ?_ ?_
 ·have:l-(dP ([]:List Tm):Int)=l:=by simp[dP]
  simp only[go_sem,zE,reduceCtorEq,this,jo hb];simp[tmsR,dP,eu,jf,h0]
 ·rintro k fr _ ds D ⟨E,f0,f2,f9,f10,f11,rfl,rfl⟩;obtain⟨a,J⟩:=dB D;obtain⟨x,ag,hx⟩:=G.get J;obtain⟨ac,ak⟩:=mc J;obtain⟨v,n,m⟩:=a;obtain⟨tx,cx,rfl,_⟩:=hx.mk;have al:(dP (us.take k):Int)<=l:=by
   simp only[tmsR,bAt,dTe] at E;exact E.1.1
  simp only[go_sem,zE,zA,zL,reduceCtorEq,f0,f2,f9,f10,f11,lt_i D,dz ab,iNn,ag];refine (Ci v n m _ hx b _ (l-dP (us.take k)) d A (b_ _ _ _) (by omega) (by omega) h2 (by omega)).mono ?_;rintro _ _ ⟨rfl,l',rfl,af⟩;cases O:tmR (.mk v n m) (l-dP (us.take k)) d A
  ·simp only[go_sem];refine c_ ⟨?_,l',eN _ _ _ _,?_⟩
   all_goals
    have hf:tmsR us l d A=false:=by
     rw[<- el k us,fa D];rw[Ch,(lGs J).2,tU,O];simp
    simp[hf]
  ·have ae:=af O;subst ae;simp only[go_sem,zE,reduceCtorEq,f0,f2,f9,f10,f11,dC D (by omega),eN];refine⟨?_,?_⟩
   ·rw[dE J,Ch,E,tU,O];simp only[tmR,bAt,dTe] at O;simp[tmsR,dP,eu,jf];omega
   ·rw[ac];congr 2;omega
 ·rintro fr _ ds ⟨E,f0,f2,f9,f10,f11,rfl,rfl⟩;simp only[go_sem,f10,f11,dF (nLi _)];rw[lTl] at E;refine c_ ⟨by rw[E],_,rfl,?_⟩;rw[lTl];intro _;rfl
termination_by 2*SizeOf.sizeOf us
decreasing_by have:=J9 (lMg J);omega
end
