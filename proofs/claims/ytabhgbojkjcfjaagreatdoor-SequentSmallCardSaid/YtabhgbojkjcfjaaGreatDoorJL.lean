/- Walks: checkers of names. -/
import Derived.Test.YtabhgbojkjcfjaaGreatDoorKF
set_option linter.all false
open Nat renaming reduceEqDiff → zE,reduceAdd → zA,reduceLeDiff → zL
namespace Go.Proofs.Tryz
open Go Go.Iv
set_option maxRecDepth 4000
variable (gl:Nat->Option IV)
theorem xUs (s:ByteArray)(st:ISt):ICall prog gl 315 [.raw (.string s)] st (λx st'=>x=.raw (.bool (yJe s))/\st'=st):=by
 refine iI func315 ?_;simp only[go_sem,zA,zL,reduceCtorEq];refine yZb (λh=>?_) (λh=>?_)
 ·simp only[go_sem,h];exact yQ0 ⟨by rw[show s=wAll from of_decide_eq_true h];rfl,rfl⟩
 have h1:s≠wAll:=of_decide_eq_false h;simp only[go_sem,zE,zA,zL,h];refine yZb (λh=>?_) (λh=>?_)
 ·simp only[go_sem,h];exact yQ0 ⟨by rw[show s=xKa from of_decide_eq_true h];rfl,rfl⟩
 have h2:s≠xKa:=of_decide_eq_false h;simp only[go_sem,zE,zA,zL,h];refine yZb (λh=>?_) (λh=>?_)
 ·simp only[go_sem,h];exact yQ0 ⟨by rw[show s=zKh from of_decide_eq_true h];rfl,rfl⟩
 have F:s≠zKh:=of_decide_eq_false h;simp only[go_sem,zE,zA,zL,h];refine yZb (λh=>?_) (λh=>?_)
 ·simp only[go_sem,h];exact yQ0 ⟨by rw[show s=xKb from of_decide_eq_true h];rfl,rfl⟩
 have E:s≠xKb:=of_decide_eq_false h;simp only[go_sem,zE,zA,zL,h];refine yZb (λh=>?_) (λh=>?_)
 ·simp only[go_sem,h];exact yQ0 ⟨by rw[show s=zQb from of_decide_eq_true h];rfl,rfl⟩
 have D:s≠zQb:=of_decide_eq_false h;simp only[go_sem,zE,zA,zL,h];refine yZb (λh=>?_) (λh=>?_)
 ·simp only[go_sem,h];exact yQ0 ⟨by rw[show s=zYk from of_decide_eq_true h];rfl,rfl⟩
 have A:s≠zYk:=of_decide_eq_false h;simp only[go_sem,h];exact yQ0 ⟨by rw[show yJe s=false by unfold yJe;rw[dEf h1,dEf h2,dEf F,dEf E,dEf D,dEf A];rfl],rfl⟩
theorem zKw (s:ByteArray):s.size=s.data.toList.length:=Array.length_toList.symm
theorem zUg {s:ByteArray}{k:Nat}{c:UInt8}(h:s.data.toList[k]?=some c):xZn s (k:Int)=some c:=by
 unfold xZn;rw[if_pos (by omega)];have A:k<s.size:=by rw[zKw];exact (lGs h).1
 rw[Int.toNat_natCast];rw[getElem?_pos s k A];have h2:=(lGs h).2;rw[<- h2];rfl
theorem yUd {s:ByteArray}{c:UInt8}{cs:List UInt8}(h:s.data.toList=c::cs):xZn s 0=some c:=zUg (k:=0) (by rw[h];rfl)
theorem zXt (p q:FuncId)(P Q:UInt8->Bool)(ep:entI prog p=true)(eq:entI prog q=true)
  (hp:∀c st,ICall prog gl p [.raw (.int .u8 (UInt8.toNat c))] st (λx st'=>x=.raw (.bool (P c))/\st'=st))
  (hq:∀c st,ICall prog gl q [.raw (.int .u8 (UInt8.toNat c))] st (λx st'=>x=.raw (.bool (Q c))/\st'=st)) (s:ByteArray) (st:ISt) :
  ICall prog gl 314 [.raw (.string s),.cptr (.fn (.func p) [] []),.cptr (.fn (.func q) [] [])] st (λx st'=>x=.raw (.bool (yVg P Q s))/\st'=st):=by
 refine iI func314 ?_;have A:=zKw s;cases E:s.data.toList with
 | nil =>
  rw[E] at A;have h1:decide (((s.size:Nat):Int)<1)=true:=by rw[A];rfl
  simp only[go_sem,zE,reduceCtorEq,h1];exact yQ0 ⟨by simp[yVg,E],rfl⟩
 | cons c cs =>
  rw[E] at A;have h1:decide (((s.size:Nat):Int)<1)=false:=by rw[A];simp;omega
  by_cases G:cs.length<16
  ·have h2:decide ((16:Int)<((s.size:Nat):Int))=false:=by rw[A];simp;omega
   simp only[go_sem,zE,zA,reduceCtorEq,h1,h2];refine (xUs gl s _).mono ?_;rintro _ st ⟨rfl,rfl⟩;cases h3:yJe s
   ·simp only[go_sem,zE,reduceCtorEq,yUd E,fits,ep];refine (hp c _).mono ?_;rintro _ st ⟨rfl,rfl⟩;cases h4:P c
    ·simp only[go_sem,zE];exact yQ0 ⟨by simp[yVg,E,h4],rfl⟩
    ·simp only[go_sem,zE];refine LoopC.ctr cs.length (λk fr st' ds=>(cs.take k).all Q=true/\fr 0=.iv (.raw (.string s))/\fr 2=.iv (.cptr (.fn (.func q) [] []))/\fr 5=.iv (.raw (.int .i64 ((k+1:Nat):Int)))/\st'=st/\ds=[]) ?_ ?_ ?_
     ·simp only[go_sem,zE,reduceCtorEq];rfl
     ·rintro k fr st' ds ab ⟨J,U,F,O,rfl,rfl⟩;obtain⟨x,hx⟩:=yQ3 ab;have D:decide (((k+1:Nat):Int)<((s.size:Nat):Int))=true:=by rw[A];simp;omega
      have W:xZn s ((k+1:Nat):Int)=some x:=zUg (by rw[E];simpa using hx);have hw:IntKind.i64.wrap (((k+1:Nat):Int)+1)=((k+1+1:Nat):Int):=by rw[w64]<;>omega
      simp only[go_sem,zE,reduceCtorEq,U,F,O,D,W,fits,eq];intro _;refine (hq x _).mono ?_;rintro _ st ⟨rfl,rfl⟩;cases h6:Q x
      ·simp only[go_sem];exact yQ0 ⟨by
        have:cs.all Q=false:=by rw[List.all_eq_false];exact⟨x,lMg hx,by simp[h6]⟩
        simp[yVg,E,this],rfl⟩
      ·simp only[go_sem,zE,reduceCtorEq,U,F,O,hw];rw[yQ4 hx,List.all_append,J];simp[h6]
     ·rintro fr st' ds ⟨J,U,F,O,rfl,rfl⟩;have D:decide (((cs.length+1:Nat):Int)<((s.size:Nat):Int))=false:=by rw[A];simp
      simp only[go_sem,zE,reduceCtorEq,U,O,D];intro _;rw[lTl] at J;exact yQ0 ⟨by simp[yVg,E,h3,h4,G,J],rfl⟩
   ·simp only[go_sem,zE];exact yQ0 ⟨by simp[yVg,E,h3],rfl⟩
  ·have h2:decide ((16:Int)<((s.size:Nat):Int))=true:=by rw[A];simp;omega
   simp only[go_sem,zE,reduceCtorEq,h1,h2];exact yQ0 ⟨by simp[yVg,E,G],rfl⟩
theorem zWd (p q:FuncId)(st:ISt):ICall prog gl 286 [.fn (.func p) [] [],.fn (.func q) [] []] st
  (λx st'=>x=.fn (.func 314) [] [.cptr (.fn (.func p) [] []),.cptr (.fn (.func q) [] [])]/\st'=st):=by
 refine ICall.intro (c:=cf prog gl [] [] [2,3]) func286 rfl (by show _<=6;simp) (by kernel_rfl) ?_;simp only[go_sem,zE];exact yQ0 ⟨rfl,rfl⟩
theorem yUw (s:ByteArray)(st:ISt):ICall prog gl 258 [.raw (.string s)] st (λx st'=>x=.raw (.bool (yV4 s))/\st'=st):=by
 refine iI func258 ?_;simp only[go_sem,zA];refine (zWd gl _ _ _).mono ?_;rintro _ st ⟨rfl,rfl⟩;simp only[go_sem,zE,reduceCtorEq];refine (zXt gl _ _ (inB 117 122) yVo (by simp only[go_sem]) (by simp only[go_sem]) (vK9 gl) (wKm gl) s _).mono ?_;rintro _ st ⟨rfl,rfl⟩;simp only[go_sem];exact yQ0 ⟨rfl,rfl⟩
theorem wZ4 (s:ByteArray)(st:ISt):ICall prog gl 260 [.raw (.string s)] st (λx st'=>x=.raw (.bool (zY9 s))/\st'=st):=by
 refine iI func260 ?_;simp only[go_sem,zA];refine (zWd gl _ _ _).mono ?_;rintro _ st ⟨rfl,rfl⟩;simp only[go_sem,zE,reduceCtorEq];refine (zXt gl _ _ (inB 97 116) yY4 (by simp only[go_sem]) (by simp only[go_sem]) (vVu gl) (wKz gl) s _).mono ?_;rintro _ st ⟨rfl,rfl⟩;simp only[go_sem];exact yQ0 ⟨rfl,rfl⟩
theorem xWg (s:ByteArray)(st:ISt):ICall prog gl 284 [.raw (.string s)] st (λx st'=>x=.raw (.bool (zV8 s))/\st'=st):=by
 refine iI func284 ?_;simp only[go_sem,zA];refine (zWd gl _ _ _).mono ?_;rintro _ st ⟨rfl,rfl⟩;simp only[go_sem,zE,reduceCtorEq];refine (zXt gl _ _ yJw yY4 (by simp only[go_sem]) (by simp only[go_sem]) (xJz gl) (wKz gl) s _).mono ?_;rintro _ st ⟨rfl,rfl⟩;simp only[go_sem];exact yQ0 ⟨rfl,rfl⟩
def yVf (k:Nat)(s:ByteArray):Bool:=match k with|1=>zV8 s|2=>yV4 s|_=>decide (s=⟨#[]⟩)
theorem vZh (k:Nat)(A:k<=2)(s:ByteArray)(st:ISt):ICall prog gl 252 [.raw (.int .u8 k),.raw (.string s)] st (λx st'=>x=.raw (.bool (yVf k s))/\st'=st):=by
 refine iI func252 ?_
 match k,A with
 | 0,_ =>
  simp only[go_sem,zE,zL,reduceCtorEq,show decide (((0:Nat):Int)=1)=false from rfl,show decide (((0:Nat):Int)=2)=false from rfl,show decide (((0:Nat):Int)=3)=false from rfl];exact yQ0 ⟨rfl,rfl⟩
 | 1,_ =>
  simp only[go_sem,zE,zA,reduceCtorEq,show decide (((1:Nat):Int)=1)=true from rfl];refine (xWg gl s _).mono ?_;rintro _ st ⟨rfl,rfl⟩;simp only[go_sem];exact yQ0 ⟨rfl,rfl⟩
 | 2,_ =>
  simp only[go_sem,zE,zA,reduceCtorEq,show decide (((2:Nat):Int)=1)=false from rfl,show decide (((2:Nat):Int)=2)=true from rfl];refine (yUw gl s _).mono ?_;rintro _ st ⟨rfl,rfl⟩;simp only[go_sem];exact yQ0 ⟨rfl,rfl⟩
def jBox (l d:Int):Option IObj:=some (.box [.raw (.bool false),.raw (.int .i64 l),.raw (.int .i64 d)])
theorem wU7 (b:Nat)(st:ISt)(l d A:Int)(F:st b=jBox l d)(G:0<=l)(h1:l<=9223372036854775807) :
  ICall prog gl 251 [.raw (.pointer (some ⟨b,0,none⟩)),.raw (.int .i64 A)] st (λx st'=>x=.raw (.bool (decide (1<=l)&&decide (A<=d)))/\st'=st.put b (jBox (l-1) d)):=by
 refine iI func251 ?_;have E:IntKind.i64.wrap (l-1)=l-1:=w64 (by omega) (by omega);simp only[go_sem,zE,zA,zL,reduceCtorEq,F,jBox,E];refine yKi (λh=>?_) (λh=>?_)
 ·have D:1<=l:=by simp at h;omega
  simp only[go_sem,zE,zA,reduceCtorEq];exact yQ0 ⟨by simp[D],rfl⟩
 ·have D:¬ 1<=l:=by simp at h;omega
  simp only[go_sem,zE,zA];exact yQ0 ⟨by simp[D],rfl⟩
def wJo (b:Nat)(st:ISt)(l d:Int)(r:Bool)(D:Nat)(x:IV)(st':ISt):Prop:=x=.raw (.bool r)/\∃A,st'=st.put b (jBox A d)/\(r=true->A=l-D)
def tmR (t:Tm)(l d A:Int):Bool:=decide ((t.size:Int)<=l)&&decide (A+t.deep<=d+1)&&t.ok
def tmsR (t:List Tm)(l d A:Int):Bool:=decide ((yQa t:Int)<=l)&&decide (yQl t=0\/A+yQl t<=d+1)&&yJt t
theorem zQy (a:Tm)(m:List Tm)(l d A:Int):tmsR (a::m) l d A=(tmR a l d A&&tmsR m (l-a.size) d A):=by
 rw[Bool.eq_iff_iff];have h1:=a.deep_pos;simp only[tmsR,tmR,bAt,dTe];simp only[yQa,yQl,yJt,bAt];constructor
 ·rintro⟨⟨h2,G⟩,D,E⟩;refine⟨⟨⟨by omega,by omega⟩,D⟩,⟨by omega,by omega⟩,E⟩
 ·rintro⟨⟨⟨h2,G⟩,D⟩,⟨E,J⟩,F⟩;exact⟨⟨by omega,by omega⟩,D,F⟩
theorem zKl (a m:List Tm)(l d A:Int):tmsR (a++m) l d A=(tmsR a l d A&&tmsR m (l-yQa a) d A):=by
 induction a generalizing l with
 | nil =>
  simp only[List.nil_append,yQa,Int.natCast_zero,Int.sub_zero];rw[Bool.eq_iff_iff];simp only[tmsR,bAt,dTe];simp only[yQa,yQl,yJt];constructor
  ·rintro⟨⟨h1,h2⟩,D⟩;exact⟨⟨⟨by omega,by simp⟩,trivial⟩,⟨h1,h2⟩,D⟩
  ·rintro⟨_,⟨h1,h2⟩,D⟩;exact⟨⟨h1,h2⟩,D⟩
 | cons x a E =>
  rw[List.cons_append,zQy,E,zQy,Bool.and_assoc];congr 3;simp only[yQa];omega
theorem zKm (n:ByteArray)(m:List Tm)(l d A:Int):tmR (.mk false n m) l d A=(((decide (1<=l)&&decide (A<=d))&&decide (m.length<=4)&&zY9 n)&&tmsR m (l-1) d (A+1)):=by
 rw[Bool.eq_iff_iff];simp only[tmsR,tmR,bAt,dTe];simp only[Tm.size,Tm.deep,Tm.ok,bAt,dTe];constructor
 ·rintro⟨⟨h2,G⟩,⟨D,F⟩,E⟩;refine⟨⟨⟨⟨by omega,by omega⟩,D⟩,F⟩,⟨by omega,by omega⟩,E⟩
 ·rintro⟨⟨⟨⟨h1,h2⟩,G⟩,D⟩,⟨F,E⟩,J⟩;exact⟨⟨by omega,by omega⟩,⟨G,D⟩,J⟩
theorem zUd (n:ByteArray)(m:List Tm)(l d A:Int):tmR (.mk true n m) l d A=(((decide (1<=l)&&decide (A<=d))&&decide (m.length=0))&&yV4 n):=by
 rw[Bool.eq_iff_iff];cases m with
 | nil =>
  simp only[tmR,bAt,dTe];simp only[Tm.size,Tm.deep,Tm.ok,yQa,yQl,List.isEmpty,bAt,List.length_nil];constructor
  ·rintro⟨⟨h1,h2⟩,_,D⟩;exact⟨⟨⟨by omega,by omega⟩,trivial⟩,D⟩
  ·rintro⟨⟨⟨h1,h2⟩,_⟩,D⟩;exact⟨⟨by omega,by omega⟩,by trivial,D⟩
 | cons a m=>simp[tmR,Tm.ok]
theorem wZy {v:Bool}{n:ByteArray}{us:List Tm}{l:List Tm}(h:Tm.mk v n us∈l):SizeOf.sizeOf us<SizeOf.sizeOf l:=by
 have:=lSm h;simp at this;omega
mutual
theorem wJm (v:Bool)(n:ByteArray)(us:List Tm)(x:IV)(hx:IsTm (.mk v n us) x)(b:Nat)(st:ISt)(l d A:Int)(hb:st b=jBox l d)(h0:0<=l)(h1:l<=9223372036854775807)(h2:0<=A)(h3:A+(Tm.mk v n us).size<=4611686018427387904) :
  ICall prog gl 211 [.raw (.pointer (some ⟨b,0,none⟩)),x,.raw (.int .i64 A)] st (wJo b st l d (tmR (.mk v n us) l d A) (Tm.mk v n us).size):=by
 obtain⟨tg,xs,rfl,O,E⟩:=hx.mk;refine iI func211 ?_;simp only[go_sem,zE,zA,reduceCtorEq];refine (wU7 gl b _ l d A hb h0 h1).mono ?_;rintro _ _ ⟨rfl,rfl⟩;cases J:(decide (1<=l)&&decide (A<=d))
 ·simp only[go_sem];refine yQ0 ⟨?_,_,rfl,?_⟩<;>cases v<;>simp[zKm,zUd,J]
 ·have ag:1<=l/\A<=d:=by simpa using J
  cases v
  ·simp only[Tm.size] at h3;have hw:IntKind.i64.wrap (A+1)=A+1:=w64 (by omega) (by omega);by_cases F:us.length<=4
   ·have D:decide ((us.length:Int)<=4)=true:=by simp;omega
    simp only[go_sem,zE,zA,E.len,D];intro _;refine (wZ4 gl n _).mono ?_;rintro _ _ ⟨rfl,rfl⟩;cases G:zY9 n
    ·simp only[go_sem,zE];refine yQ0 ⟨?_,_,rfl,?_⟩<;>simp[zKm,G]
    ·simp only[go_sem,zE,zA,reduceCtorEq,hw];refine (xG0 us tg xs O E b _ (l-1) d (A+1) (ISt.put_same _ _ _) (by omega) (by omega) (by omega) (by omega)).mono ?_;rintro _ _ ⟨rfl,l',rfl,W⟩;simp only[go_sem,zE];refine yQ0 ⟨by simp[zKm,J,G,F],l',yQg _ _ _ _,?_⟩;intro U;rw[zKm] at U;simp only[bAt] at U;have:=W U.2;simp only[Tm.size];omega
   ·have D:decide ((us.length:Int)<=4)=false:=by simp;omega
    simp only[go_sem,zE,E.len,D];intro _;refine yQ0 ⟨?_,_,rfl,?_⟩<;>simp[zKm,F]
  ·by_cases F:us.length=0
   ·have D:decide ((us.length:Int)=0)=true:=dEt (by omega);simp only[go_sem,zE,zA,E.len,D];intro _;refine (yUw gl n _).mono ?_;rintro _ _ ⟨rfl,rfl⟩;cases G:yV4 n
    ·simp only[go_sem,zE,reduceCtorEq,ISt.put_same,jBox];refine yQ0 ⟨?_,_,rfl,?_⟩<;>simp[zUd,G]
    ·simp only[go_sem,zE];refine yQ0 ⟨?_,_,rfl,?_⟩
     ·simp[zUd,G,J,F]
     ·intro _;have:us=[]:=List.eq_nil_of_length_eq_zero F;subst this;simp[Tm.size,yQa]
   ·have D:decide ((us.length:Int)=0)=false:=dEf (by omega);simp only[go_sem,zE,E.len,D];intro _;refine yQ0 ⟨?_,_,rfl,?_⟩<;>simp[zUd,F]
termination_by 2*SizeOf.sizeOf us+1
decreasing_by all_goals omega
theorem xG0 (us:List Tm)(U:Tag)(O:List IV)(W:okEs U 3)(F:IsTms us O)(b:Nat)(st:ISt)(l d A:Int)(hb:st b=jBox l d)(h0:0<=l)(h1:l<=9223372036854775807)(h2:0<=A)
  (h3:A+yQa us<=4611686018427387904) :
  ICall prog gl 254 [.raw (.pointer (some ⟨b,0,none⟩)),.sl U O,.raw (.int .i64 A)] st (wJo b st l d (tmsR us l d A) (yQa us)):=by
 refine iI func254 ?_;simp only[go_sem,zE,F.len];intro ag;refine LoopC.ctr us.length (λk fr st' ds=>tmsR (us.take k) l d A=true/\fr 0=.iv (.raw (.pointer (some ⟨b,0,none⟩)))/\fr 2=.iv (.raw (.int .i64 A))/\fr 9=.iv (.sl U O) /\
  fr 10=.iv (.raw (.int .i64 us.length))/\fr 11=.iv (.raw (.int .i64 k))/\st'=st.put b (jBox (l-yQa (us.take k)) d)/\ds=[]) ?_ ?_ ?_
 ·have:l-(yQa ([]:List Tm):Int)=l:=by simp[yQa]
  simp only[go_sem,zE,reduceCtorEq,this,yJ8 hb];simp[tmsR,yQa,yQl,yJt,h0]
 ·rintro k fr _ ds D ⟨E,f0,f2,f9,f10,f11,rfl,rfl⟩;obtain⟨a,G⟩:=yQ3 D;obtain⟨x,ae,hx⟩:=F.get G;obtain⟨aa,ai⟩:=yZg G;obtain⟨v,n,m⟩:=a;obtain⟨tx,cx,rfl,_⟩:=hx.mk;have aj:(yQa (us.take k):Int)<=l:=by
   simp only[tmsR,bAt,dTe] at E;exact E.1.1
  simp only[go_sem,zE,zA,zL,reduceCtorEq,f0,f2,f9,f10,f11,lt_i D,yQ2 W,iNn,ae];refine (wJm v n m _ hx b _ (l-yQa (us.take k)) d A (ISt.put_same _ _ _) (by omega) (by omega) h2 (by omega)).mono ?_;rintro _ _ ⟨rfl,l',rfl,ac⟩;cases J:tmR (.mk v n m) (l-yQa (us.take k)) d A
  ·simp only[go_sem];refine yQ0 ⟨?_,l',yQg _ _ _ _,?_⟩
   all_goals
    have hf:tmsR us l d A=false:=by
     rw[<- List.take_append_drop k us,List.drop_eq_getElem_cons D];rw[zKl,(lGs G).2,zQy,J];simp
    simp[hf]
  ·have ab:=ac J;subst ab;simp only[go_sem,zE,reduceCtorEq,f0,f2,f9,f10,f11,yQb D (by omega),yQg];refine⟨?_,?_⟩
   ·rw[yQ4 G,zKl,E,zQy,J];simp only[tmR,bAt,dTe] at J;simp[tmsR,yQa,yQl,yJt];omega
   ·rw[aa];congr 2;omega
 ·rintro fr _ ds ⟨E,f0,f2,f9,f10,f11,rfl,rfl⟩;simp only[go_sem,f10,f11,yQj (nLi _)];rw[lTl] at E;refine yQ0 ⟨by rw[E],_,rfl,?_⟩;rw[lTl];intro _;rfl
termination_by 2*SizeOf.sizeOf us
decreasing_by have:=wZy (lMg G);omega
end
