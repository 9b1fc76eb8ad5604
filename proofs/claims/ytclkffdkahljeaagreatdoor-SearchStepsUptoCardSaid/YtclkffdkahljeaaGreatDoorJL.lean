/- Walks: checkers of names. -/
import Derived.Test.YtclkffdkahljeaaGreatDoorKF
set_option linter.all false
open Nat renaming reduceEqDiff → zE,reduceAdd → zA,reduceLeDiff → zL
namespace Go.Proofs.Tryz
open Go Go.Iv
set_option maxRecDepth 4000
variable (gl:Nat->Option IV)
theorem xYu (s:ByteArray)(st:ISt):ICall prog gl 259 [.raw (.string s)] st (λx st'=>x=.raw (.bool (yW7 s))/\st'=st):=by
 refine iI func259 ?_;simp only[go_sem,zA,zL,reduceCtorEq];refine yZn (λh=>?_) (λh=>?_)
 ·simp only[go_sem,h];exact yQ0 ⟨by rw[show s=wAll from of_decide_eq_true h];rfl,rfl⟩
 have h1:s≠wAll:=of_decide_eq_false h;simp only[go_sem,zE,zA,zL,h];refine yZn (λh=>?_) (λh=>?_)
 ·simp only[go_sem,h];exact yQ0 ⟨by rw[show s=wU0 from of_decide_eq_true h];rfl,rfl⟩
 have h2:s≠wU0:=of_decide_eq_false h;simp only[go_sem,zE,zA,zL,h];refine yZn (λh=>?_) (λh=>?_)
 ·simp only[go_sem,h];exact yQ0 ⟨by rw[show s=xUm from of_decide_eq_true h];rfl,rfl⟩
 have J:s≠xUm:=of_decide_eq_false h;simp only[go_sem,zE,zA,zL,h];refine yZn (λh=>?_) (λh=>?_)
 ·simp only[go_sem,h];exact yQ0 ⟨by rw[show s=wU1 from of_decide_eq_true h];rfl,rfl⟩
 have E:s≠wU1:=of_decide_eq_false h;simp only[go_sem,zE,zA,zL,h];refine yZn (λh=>?_) (λh=>?_)
 ·simp only[go_sem,h];exact yQ0 ⟨by rw[show s=xZw from of_decide_eq_true h];rfl,rfl⟩
 have D:s≠xZw:=of_decide_eq_false h;simp only[go_sem,zE,zA,zL,h];refine yZn (λh=>?_) (λh=>?_)
 ·simp only[go_sem,h];exact yQ0 ⟨by rw[show s=xUh from of_decide_eq_true h];rfl,rfl⟩
 have A:s≠xUh:=of_decide_eq_false h;simp only[go_sem,h];exact yQ0 ⟨by rw[show yW7 s=false by unfold yW7;rw[dEf h1,dEf h2,dEf J,dEf E,dEf D,dEf A];rfl],rfl⟩
theorem zUv (s:ByteArray):s.size=s.data.toList.length:=Array.length_toList.symm
theorem xKr {s:ByteArray}{k:Nat}{c:UInt8}(h:s.data.toList[k]?=some c):xX7 s (k:Int)=some c:=by
 unfold xX7;rw[if_pos (by omega)];have A:k<s.size:=by rw[zUv];exact (lGs h).1
 rw[Int.toNat_natCast];rw[getElem?_pos s k A];have h2:=(lGs h).2;rw[<- h2];rfl
theorem xYf {s:ByteArray}{c:UInt8}{cs:List UInt8}(h:s.data.toList=c::cs):xX7 s 0=some c:=xKr (k:=0) (by rw[h];rfl)
theorem zZk (p q:FuncId)(P Q:UInt8->Bool)(ep:entI prog p=true)(eq:entI prog q=true)
  (hp:∀c st,ICall prog gl p [.raw (.int .u8 (UInt8.toNat c))] st (λx st'=>x=.raw (.bool (P c))/\st'=st))
  (hq:∀c st,ICall prog gl q [.raw (.int .u8 (UInt8.toNat c))] st (λx st'=>x=.raw (.bool (Q c))/\st'=st)) (s:ByteArray) (st:ISt) :
  ICall prog gl 258 [.raw (.string s),.cptr (.fn (.func p) [] []),.cptr (.fn (.func q) [] [])] st (λx st'=>x=.raw (.bool (yY2 P Q s))/\st'=st):=by
 refine iI func258 ?_;have A:=zUv s;cases hl:s.data.toList with
 | nil =>
  rw[hl] at A;have h1:decide (((s.size:Nat):Int)<1)=true:=by rw[A];rfl
  simp only[go_sem,zE,reduceCtorEq,h1];exact yQ0 ⟨by simp[yY2,hl],rfl⟩
 | cons c cs =>
  rw[hl] at A;have h1:decide (((s.size:Nat):Int)<1)=false:=by rw[A];simp;omega
  by_cases J:cs.length<16
  ·have h2:decide ((16:Int)<((s.size:Nat):Int))=false:=by rw[A];simp;omega
   simp only[go_sem,zE,zA,reduceCtorEq,h1,h2];refine (xYu gl s _).mono ?_;rintro _ st ⟨rfl,rfl⟩;cases h3:yW7 s
   ·simp only[go_sem,zE,reduceCtorEq,xYf hl,fits,ep];refine (hp c _).mono ?_;rintro _ st ⟨rfl,rfl⟩;cases h4:P c
    ·simp only[go_sem,zE];exact yQ0 ⟨by simp[yY2,hl,h4],rfl⟩
    ·simp only[go_sem,zE];refine LoopC.ctr cs.length (λk fr st' ds=>(cs.take k).all Q=true/\fr 0=.iv (.raw (.string s))/\fr 2=.iv (.cptr (.fn (.func q) [] []))/\fr 5=.iv (.raw (.int .i64 ((k+1:Nat):Int)))/\st'=st/\ds=[]) ?_ ?_ ?_
     ·simp only[go_sem,zE,reduceCtorEq];rfl
     ·rintro k fr st' ds ab ⟨O,h0,E,U,rfl,rfl⟩;obtain⟨x,hx⟩:=yQ1 ab;have D:decide (((k+1:Nat):Int)<((s.size:Nat):Int))=true:=by rw[A];simp;omega
      have aa:xX7 s ((k+1:Nat):Int)=some x:=xKr (by rw[hl];simpa using hx);have hw:IntKind.i64.wrap (((k+1:Nat):Int)+1)=((k+1+1:Nat):Int):=by rw[w64]<;>omega
      simp only[go_sem,zE,reduceCtorEq,h0,E,U,D,aa,fits,eq];intro _;refine (hq x _).mono ?_;rintro _ st ⟨rfl,rfl⟩;cases h6:Q x
      ·simp only[go_sem];exact yQ0 ⟨by
        have:cs.all Q=false:=by rw[List.all_eq_false];exact⟨x,lMg hx,by simp[h6]⟩
        simp[yY2,hl,this],rfl⟩
      ·simp only[go_sem,zE,reduceCtorEq,h0,E,U,hw];rw[yQ7 hx,List.all_append,O];simp[h6]
     ·rintro fr st' ds ⟨O,h0,E,U,rfl,rfl⟩;have D:decide (((cs.length+1:Nat):Int)<((s.size:Nat):Int))=false:=by rw[A];simp
      simp only[go_sem,zE,reduceCtorEq,h0,U,D];intro _;rw[lTl] at O;exact yQ0 ⟨by simp[yY2,hl,h3,h4,J,O],rfl⟩
   ·simp only[go_sem,zE];exact yQ0 ⟨by simp[yY2,hl,h3],rfl⟩
  ·have h2:decide ((16:Int)<((s.size:Nat):Int))=true:=by rw[A];simp;omega
   simp only[go_sem,zE,reduceCtorEq,h1,h2];exact yQ0 ⟨by simp[yY2,hl,J],rfl⟩
theorem zKq (p q:FuncId)(st:ISt):ICall prog gl 233 [.fn (.func p) [] [],.fn (.func q) [] []] st
  (λx st'=>x=.fn (.func 258) [] [.cptr (.fn (.func p) [] []),.cptr (.fn (.func q) [] [])]/\st'=st):=by
 refine ICall.intro (c:=cf prog gl [] [] [2,3]) func233 rfl (by show _<=6;simp) (by kernel_rfl) ?_;simp only[go_sem,zE];exact yQ0 ⟨rfl,rfl⟩
theorem yGo (s:ByteArray)(st:ISt):ICall prog gl 193 [.raw (.string s)] st (λx st'=>x=.raw (.bool (yU3 s))/\st'=st):=by
 refine iI func193 ?_;simp only[go_sem,zA];refine (zKq gl _ _ _).mono ?_;rintro _ st ⟨rfl,rfl⟩;simp only[go_sem,zE,reduceCtorEq];refine (zZk gl _ _ (inB 117 122) zZd (by simp only[go_sem]) (by simp only[go_sem]) (vJd gl) (wJ8 gl) s _).mono ?_;rintro _ st ⟨rfl,rfl⟩;simp only[go_sem];exact yQ0 ⟨rfl,rfl⟩
theorem xU7 (s:ByteArray)(st:ISt):ICall prog gl 239 [.raw (.string s)] st (λx st'=>x=.raw (.bool (wVs s))/\st'=st):=by
 refine iI func239 ?_;simp only[go_sem,zA];refine (zKq gl _ _ _).mono ?_;rintro _ st ⟨rfl,rfl⟩;simp only[go_sem,zE,reduceCtorEq];refine (zZk gl _ _ (inB 97 116) yYr (by simp only[go_sem]) (by simp only[go_sem]) (vV7 gl) (wJr gl) s _).mono ?_;rintro _ st ⟨rfl,rfl⟩;simp only[go_sem];exact yQ0 ⟨rfl,rfl⟩
theorem xKb (s:ByteArray)(st:ISt):ICall prog gl 192 [.raw (.string s)] st (λx st'=>x=.raw (.bool (wZ9 s))/\st'=st):=by
 refine iI func192 ?_;simp only[go_sem,zA];refine (zKq gl _ _ _).mono ?_;rintro _ st ⟨rfl,rfl⟩;simp only[go_sem,zE,reduceCtorEq];refine (zZk gl _ _ yV0 yYr (by simp only[go_sem]) (by simp only[go_sem]) (xZc gl) (wJr gl) s _).mono ?_;rintro _ st ⟨rfl,rfl⟩;simp only[go_sem];exact yQ0 ⟨rfl,rfl⟩
def yK5 (k:Nat)(s:ByteArray):Bool:=match k with|1=>wZ9 s|2=>yU3 s|_=>decide (s=⟨#[]⟩)
theorem vQ9 (k:Nat)(A:k<=2)(s:ByteArray)(st:ISt):ICall prog gl 144 [.raw (.int .u8 k),.raw (.string s)] st (λx st'=>x=.raw (.bool (yK5 k s))/\st'=st):=by
 refine iI func144 ?_
 match k,A with
 | 0,_ =>
  simp only[go_sem,zE,zL,reduceCtorEq,show decide (((0:Nat):Int)=1)=false from rfl,show decide (((0:Nat):Int)=2)=false from rfl,show decide (((0:Nat):Int)=3)=false from rfl];exact yQ0 ⟨rfl,rfl⟩
 | 1,_ =>
  simp only[go_sem,zE,zA,reduceCtorEq,show decide (((1:Nat):Int)=1)=true from rfl];refine (xKb gl s _).mono ?_;rintro _ st ⟨rfl,rfl⟩;simp only[go_sem];exact yQ0 ⟨rfl,rfl⟩
 | 2,_ =>
  simp only[go_sem,zE,zA,reduceCtorEq,show decide (((2:Nat):Int)=1)=false from rfl,show decide (((2:Nat):Int)=2)=true from rfl];refine (yGo gl s _).mono ?_;rintro _ st ⟨rfl,rfl⟩;simp only[go_sem];exact yQ0 ⟨rfl,rfl⟩
def jBox (l d:Int):Option IObj:=some (.box [.raw (.bool false),.raw (.int .i64 l),.raw (.int .i64 d)])
theorem wYw (b:Nat)(st:ISt)(l d A:Int)(J:st b=jBox l d)(h0:0<=l)(h1:l<=9223372036854775807) :
  ICall prog gl 143 [.raw (.pointer (some ⟨b,0,none⟩)),.raw (.int .i64 A)] st (λx st'=>x=.raw (.bool (decide (1<=l)&&decide (A<=d)))/\st'=st.put b (jBox (l-1) d)):=by
 refine iI func143 ?_;have E:IntKind.i64.wrap (l-1)=l-1:=w64 (by omega) (by omega);simp only[go_sem,zE,zA,zL,reduceCtorEq,J,jBox,E];refine yJ9 (λh=>?_) (λh=>?_)
 ·have D:1<=l:=by simp at h;omega
  simp only[go_sem,zE,zA,reduceCtorEq];exact yQ0 ⟨by simp[D],rfl⟩
 ·have D:¬ 1<=l:=by simp at h;omega
  simp only[go_sem,zE,zA];exact yQ0 ⟨by simp[D],rfl⟩
def wXa (b:Nat)(st:ISt)(l d:Int)(r:Bool)(D:Nat)(x:IV)(st':ISt):Prop:=x=.raw (.bool r)/\∃A,st'=st.put b (jBox A d)/\(r=true->A=l-D)
def tmR (t:Tm)(l d A:Int):Bool:=decide ((t.size:Int)<=l)&&decide (A+t.deep<=d+1)&&t.ok
def tmsR (t:List Tm)(l d A:Int):Bool:=decide ((yQh t:Int)<=l)&&decide (yQr t=0\/A+yQr t<=d+1)&&yYi t
theorem yUm (a:Tm)(m:List Tm)(l d A:Int):tmsR (a::m) l d A=(tmR a l d A&&tmsR m (l-a.size) d A):=by
 rw[Bool.eq_iff_iff];have h1:=a.deep_pos;simp only[tmsR,tmR,bAt,dTe];simp only[yQh,yQr,yYi,bAt];constructor
 ·rintro⟨⟨h2,O⟩,D,E⟩;refine⟨⟨⟨by omega,by omega⟩,D⟩,⟨by omega,by omega⟩,E⟩
 ·rintro⟨⟨⟨h2,O⟩,D⟩,⟨E,U⟩,J⟩;exact⟨⟨by omega,by omega⟩,D,J⟩
theorem zJ5 (a m:List Tm)(l d A:Int):tmsR (a++m) l d A=(tmsR a l d A&&tmsR m (l-yQh a) d A):=by
 induction a generalizing l with
 | nil =>
  simp only[List.nil_append,yQh,Int.natCast_zero,Int.sub_zero];rw[Bool.eq_iff_iff];simp only[tmsR,bAt,dTe];simp only[yQh,yQr,yYi];constructor
  ·rintro⟨⟨h1,h2⟩,D⟩;exact⟨⟨⟨by omega,by simp⟩,trivial⟩,⟨h1,h2⟩,D⟩
  ·rintro⟨_,⟨h1,h2⟩,D⟩;exact⟨⟨h1,h2⟩,D⟩
 | cons x a E =>
  rw[List.cons_append,yUm,E,yUm,Bool.and_assoc];congr 3;simp only[yQh];omega
theorem zJ6 (n:ByteArray)(m:List Tm)(l d A:Int):tmR (.mk false n m) l d A=(((decide (1<=l)&&decide (A<=d))&&decide (m.length<=4)&&wVs n)&&tmsR m (l-1) d (A+1)):=by
 rw[Bool.eq_iff_iff];simp only[tmsR,tmR,bAt,dTe];simp only[Tm.size,Tm.deep,Tm.ok,bAt,dTe];constructor
 ·rintro⟨⟨h2,O⟩,⟨D,J⟩,E⟩;refine⟨⟨⟨⟨by omega,by omega⟩,D⟩,J⟩,⟨by omega,by omega⟩,E⟩
 ·rintro⟨⟨⟨⟨h1,h2⟩,O⟩,D⟩,⟨J,E⟩,U⟩;exact⟨⟨by omega,by omega⟩,⟨O,D⟩,U⟩
theorem zYe (n:ByteArray)(m:List Tm)(l d A:Int):tmR (.mk true n m) l d A=(((decide (1<=l)&&decide (A<=d))&&decide (m.length=0))&&yU3 n):=by
 rw[Bool.eq_iff_iff];cases m with
 | nil =>
  simp only[tmR,bAt,dTe];simp only[Tm.size,Tm.deep,Tm.ok,yQh,yQr,List.isEmpty,bAt,List.length_nil];constructor
  ·rintro⟨⟨h1,h2⟩,_,D⟩;exact⟨⟨⟨by omega,by omega⟩,trivial⟩,D⟩
  ·rintro⟨⟨⟨h1,h2⟩,_⟩,D⟩;exact⟨⟨by omega,by omega⟩,by trivial,D⟩
 | cons a m=>simp[tmR,Tm.ok]
theorem wQe {v:Bool}{n:ByteArray}{us:List Tm}{l:List Tm}(h:Tm.mk v n us∈l):SizeOf.sizeOf us<SizeOf.sizeOf l:=by
 have:=lSm h;simp at this;omega
mutual
theorem wX8 (v:Bool)(n:ByteArray)(us:List Tm)(x:IV)(hx:IsTm (.mk v n us) x)(b:Nat)(st:ISt)(l d A:Int)(hb:st b=jBox l d)(h0:0<=l)(h1:l<=9223372036854775807)(h2:0<=A)(h3:A+(Tm.mk v n us).size<=4611686018427387904) :
  ICall prog gl 196 [.raw (.pointer (some ⟨b,0,none⟩)),x,.raw (.int .i64 A)] st (wXa b st l d (tmR (.mk v n us) l d A) (Tm.mk v n us).size):=by
 obtain⟨tg,xs,rfl,aa,E⟩:=hx.mk;refine iI func196 ?_;simp only[go_sem,zE,zA,reduceCtorEq];refine (wYw gl b _ l d A hb h0 h1).mono ?_;rintro _ _ ⟨rfl,rfl⟩;cases U:(decide (1<=l)&&decide (A<=d))
 ·simp only[go_sem];refine yQ0 ⟨?_,_,rfl,?_⟩<;>cases v<;>simp[zJ6,zYe,U]
 ·have ai:1<=l/\A<=d:=by simpa using U
  cases v
  ·simp only[Tm.size] at h3;have hw:IntKind.i64.wrap (A+1)=A+1:=w64 (by omega) (by omega);by_cases J:us.length<=4
   ·have D:decide ((us.length:Int)<=4)=true:=by simp;omega
    simp only[go_sem,zE,zA,E.len,D];intro _;refine (xU7 gl n _).mono ?_;rintro _ _ ⟨rfl,rfl⟩;cases O:wVs n
    ·simp only[go_sem,zE];refine yQ0 ⟨?_,_,rfl,?_⟩<;>simp[zJ6,O]
    ·simp only[go_sem,zE,zA,reduceCtorEq,hw];refine (xVv us tg xs aa E b _ (l-1) d (A+1) (ISt.put_same _ _ _) (by omega) (by omega) (by omega) (by omega)).mono ?_;rintro _ _ ⟨rfl,l',rfl,ac⟩;simp only[go_sem,zE];refine yQ0 ⟨by simp[zJ6,U,O,J],l',yQ9 _ _ _ _,?_⟩;intro hr;rw[zJ6] at hr;simp only[bAt] at hr;have:=ac hr.2;simp only[Tm.size];omega
   ·have D:decide ((us.length:Int)<=4)=false:=by simp;omega
    simp only[go_sem,zE,E.len,D];intro _;refine yQ0 ⟨?_,_,rfl,?_⟩<;>simp[zJ6,J]
  ·by_cases J:us.length=0
   ·have D:decide ((us.length:Int)=0)=true:=dEt (by omega);simp only[go_sem,zE,zA,E.len,D];intro _;refine (yGo gl n _).mono ?_;rintro _ _ ⟨rfl,rfl⟩;cases O:yU3 n
    ·simp only[go_sem,zE,reduceCtorEq,ISt.put_same,jBox];refine yQ0 ⟨?_,_,rfl,?_⟩<;>simp[zYe,O]
    ·simp only[go_sem,zE];refine yQ0 ⟨?_,_,rfl,?_⟩
     ·simp[zYe,O,U,J]
     ·intro _;have:us=[]:=List.eq_nil_of_length_eq_zero J;subst this;simp[Tm.size,yQh]
   ·have D:decide ((us.length:Int)=0)=false:=dEf (by omega);simp only[go_sem,zE,E.len,D];intro _;refine yQ0 ⟨?_,_,rfl,?_⟩<;>simp[zYe,J]
termination_by 2*SizeOf.sizeOf us+1
decreasing_by all_goals omega
theorem xVv (us:List Tm)(tg:Tag)(xs:List IV)(ac:okEs tg 3)(J:IsTms us xs)(b:Nat)(st:ISt)(l d A:Int)(hb:st b=jBox l d)(h0:0<=l)(h1:l<=9223372036854775807)(h2:0<=A)
  (h3:A+yQh us<=4611686018427387904) :
  ICall prog gl 146 [.raw (.pointer (some ⟨b,0,none⟩)),.sl tg xs,.raw (.int .i64 A)] st (wXa b st l d (tmsR us l d A) (yQh us)):=by
 refine iI func146 ?_;simp only[go_sem,zE,J.len];intro ai;refine LoopC.ctr us.length (λk fr st' ds=>tmsR (us.take k) l d A=true/\fr 0=.iv (.raw (.pointer (some ⟨b,0,none⟩)))/\fr 2=.iv (.raw (.int .i64 A))/\fr 9=.iv (.sl tg xs) /\
  fr 10=.iv (.raw (.int .i64 us.length))/\fr 11=.iv (.raw (.int .i64 k))/\st'=st.put b (jBox (l-yQh (us.take k)) d)/\ds=[]) ?_ ?_ ?_
 ·have:l-(yQh ([]:List Tm):Int)=l:=by simp[yQh]
  simp only[go_sem,zE,reduceCtorEq,this,yZm hb];simp[tmsR,yQh,yQr,yYi,h0]
 ·rintro k fr _ ds D ⟨E,f0,f2,f9,f10,f11,rfl,rfl⟩;obtain⟨a,O⟩:=yQ1 D;obtain⟨x,ah,hx⟩:=J.get O;obtain⟨ae,ak⟩:=yXf O;obtain⟨v,n,m⟩:=a;obtain⟨tx,cx,rfl,_⟩:=hx.mk;have al:(yQh (us.take k):Int)<=l:=by
   simp only[tmsR,bAt,dTe] at E;exact E.1.1
  simp only[go_sem,zE,zA,zL,reduceCtorEq,f0,f2,f9,f10,f11,lt_i D,yQ3 ac,iNn,ah];refine (wX8 v n m _ hx b _ (l-yQh (us.take k)) d A (ISt.put_same _ _ _) (by omega) (by omega) h2 (by omega)).mono ?_;rintro _ _ ⟨rfl,l',rfl,ag⟩;cases U:tmR (.mk v n m) (l-yQh (us.take k)) d A
  ·simp only[go_sem];refine yQ0 ⟨?_,l',yQ9 _ _ _ _,?_⟩
   all_goals
    have hf:tmsR us l d A=false:=by
     rw[<- List.take_append_drop k us,List.drop_eq_getElem_cons D];rw[zJ5,(lGs O).2,yUm,U];simp
    simp[hf]
  ·have af:=ag U;subst af;simp only[go_sem,zE,reduceCtorEq,f0,f2,f9,f10,f11,yQc D (by omega),yQ9];refine⟨?_,?_⟩
   ·rw[yQ7 O,zJ5,E,yUm,U];simp only[tmR,bAt,dTe] at U;simp[tmsR,yQh,yQr,yYi];omega
   ·rw[ae];congr 2;omega
 ·rintro fr _ ds ⟨E,f0,f2,f9,f10,f11,rfl,rfl⟩;simp only[go_sem,f10,f11,yQi (nLi _)];rw[lTl] at E;refine yQ0 ⟨by rw[E],_,rfl,?_⟩;rw[lTl];intro _;rfl
termination_by 2*SizeOf.sizeOf us
decreasing_by have:=wQe (lMg O);omega
end
