/- Walks: checkers of names. -/
import Derived.Test.YtofmbookakncjaaGreatDoorKF
set_option linter.all false
open Nat renaming reduceEqDiff → zE,reduceAdd → zA,reduceLeDiff → zL
namespace Go.Proofs.Tryz
open Go Go.Iv
set_option maxRecDepth 4000
variable (gl:Nat->Option IV)
theorem xU6 (s:ByteArray)(st:ISt):ICall prog gl 254 [.raw (.string s)] st (λx st'=>x=.raw (.bool (yWa s))/\st'=st):=by
 refine iI func254 ?_;simp only[go_sem,zA,zL,reduceCtorEq];refine yZj (λh=>?_) (λh=>?_)
 ·simp only[go_sem,h];exact yQ0 ⟨by rw[show s=wAll from of_decide_eq_true h];rfl,rfl⟩
 have h1:s≠wAll:=of_decide_eq_false h;simp only[go_sem,zE,zA,zL,h];refine yZj (λh=>?_) (λh=>?_)
 ·simp only[go_sem,h];exact yQ0 ⟨by rw[show s=vQa from of_decide_eq_true h];rfl,rfl⟩
 have h2:s≠vQa:=of_decide_eq_false h;simp only[go_sem,zE,zA,zL,h];refine yZj (λh=>?_) (λh=>?_)
 ·simp only[go_sem,h];exact yQ0 ⟨by rw[show s=wZ0 from of_decide_eq_true h];rfl,rfl⟩
 have G:s≠wZ0:=of_decide_eq_false h;simp only[go_sem,zE,zA,zL,h];refine yZj (λh=>?_) (λh=>?_)
 ·simp only[go_sem,h];exact yQ0 ⟨by rw[show s=vQb from of_decide_eq_true h];rfl,rfl⟩
 have E:s≠vQb:=of_decide_eq_false h;simp only[go_sem,zE,zA,zL,h];refine yZj (λh=>?_) (λh=>?_)
 ·simp only[go_sem,h];exact yQ0 ⟨by rw[show s=xXl from of_decide_eq_true h];rfl,rfl⟩
 have D:s≠xXl:=of_decide_eq_false h;simp only[go_sem,zE,zA,zL,h];refine yZj (λh=>?_) (λh=>?_)
 ·simp only[go_sem,h];exact yQ0 ⟨by rw[show s=wQv from of_decide_eq_true h];rfl,rfl⟩
 have A:s≠wQv:=of_decide_eq_false h;simp only[go_sem,h];exact yQ0 ⟨by rw[show yWa s=false by unfold yWa;rw[dEf h1,dEf h2,dEf G,dEf E,dEf D,dEf A];rfl],rfl⟩
theorem xQd (s:ByteArray):s.size=s.data.toList.length:=Array.length_toList.symm
theorem xVp {s:ByteArray}{k:Nat}{c:UInt8}(h:s.data.toList[k]?=some c):xXv s (k:Int)=some c:=by
 unfold xXv;rw[if_pos (by omega)];have A:k<s.size:=by rw[xQd];exact (lGs h).1
 rw[Int.toNat_natCast];rw[getElem?_pos s k A];have h2:=(lGs h).2;rw[<- h2];rfl
theorem xGr {s:ByteArray}{c:UInt8}{cs:List UInt8}(h:s.data.toList=c::cs):xXv s 0=some c:=xVp (k:=0) (by rw[h];rfl)
theorem zZr (p q:FuncId)(P Q:UInt8->Bool)(ep:entI prog p=true)(eq:entI prog q=true)
  (hp:∀c st,ICall prog gl p [.raw (.int .u8 (UInt8.toNat c))] st (λx st'=>x=.raw (.bool (P c))/\st'=st))
  (hq:∀c st,ICall prog gl q [.raw (.int .u8 (UInt8.toNat c))] st (λx st'=>x=.raw (.bool (Q c))/\st'=st)) (s:ByteArray) (st:ISt) :
  ICall prog gl 253 [.raw (.string s),.cptr (.fn (.func p) [] []),.cptr (.fn (.func q) [] [])] st (λx st'=>x=.raw (.bool (yY1 P Q s))/\st'=st):=by
 refine iI func253 ?_;have A:=xQd s;cases hl:s.data.toList with
 | nil =>
  rw[hl] at A;have h1:decide (((s.size:Nat):Int)<1)=true:=by rw[A];rfl
  simp only[go_sem,zE,reduceCtorEq,h1];exact yQ0 ⟨by simp[yY1,hl],rfl⟩
 | cons c cs =>
  rw[hl] at A;have h1:decide (((s.size:Nat):Int)<1)=false:=by rw[A];simp;omega
  by_cases G:cs.length<16
  ·have h2:decide ((16:Int)<((s.size:Nat):Int))=false:=by rw[A];simp;omega
   simp only[go_sem,zE,zA,reduceCtorEq,h1,h2];refine (xU6 gl s _).mono ?_;rintro _ st ⟨rfl,rfl⟩;cases h3:yWa s
   ·simp only[go_sem,zE,reduceCtorEq,xGr hl,fits,ep];refine (hp c _).mono ?_;rintro _ st ⟨rfl,rfl⟩;cases h4:P c
    ·simp only[go_sem,zE];exact yQ0 ⟨by simp[yY1,hl,h4],rfl⟩
    ·simp only[go_sem,zE];refine LoopC.ctr cs.length (λk fr st' ds=>(cs.take k).all Q=true/\fr 0=.iv (.raw (.string s))/\fr 2=.iv (.cptr (.fn (.func q) [] []))/\fr 5=.iv (.raw (.int .i64 ((k+1:Nat):Int)))/\st'=st/\ds=[]) ?_ ?_ ?_
     ·simp only[go_sem,zE,reduceCtorEq];rfl
     ·rintro k fr st' ds ab ⟨J,h0,E,O,rfl,rfl⟩;obtain⟨x,hx⟩:=yQ1 ab;have D:decide (((k+1:Nat):Int)<((s.size:Nat):Int))=true:=by rw[A];simp;omega
      have U:xXv s ((k+1:Nat):Int)=some x:=xVp (by rw[hl];simpa using hx);have hw:IntKind.i64.wrap (((k+1:Nat):Int)+1)=((k+1+1:Nat):Int):=by rw[w64]<;>omega
      simp only[go_sem,zE,reduceCtorEq,h0,E,O,D,U,fits,eq];intro _;refine (hq x _).mono ?_;rintro _ st ⟨rfl,rfl⟩;cases h6:Q x
      ·simp only[go_sem];exact yQ0 ⟨by
        have:cs.all Q=false:=by rw[List.all_eq_false];exact⟨x,lMg hx,by simp[h6]⟩
        simp[yY1,hl,this],rfl⟩
      ·simp only[go_sem,zE,reduceCtorEq,h0,E,O,hw];rw[yQ6 hx,List.all_append,J];simp[h6]
     ·rintro fr st' ds ⟨J,h0,E,O,rfl,rfl⟩;have D:decide (((cs.length+1:Nat):Int)<((s.size:Nat):Int))=false:=by rw[A];simp
      simp only[go_sem,zE,reduceCtorEq,h0,O,D];intro _;rw[lTl] at J;exact yQ0 ⟨by simp[yY1,hl,h3,h4,G,J],rfl⟩
   ·simp only[go_sem,zE];exact yQ0 ⟨by simp[yY1,hl,h3],rfl⟩
  ·have h2:decide ((16:Int)<((s.size:Nat):Int))=true:=by rw[A];simp;omega
   simp only[go_sem,zE,reduceCtorEq,h1,h2];exact yQ0 ⟨by simp[yY1,hl,G],rfl⟩
theorem zVe (p q:FuncId)(st:ISt):ICall prog gl 229 [.fn (.func p) [] [],.fn (.func q) [] []] st
  (λx st'=>x=.fn (.func 253) [] [.cptr (.fn (.func p) [] []),.cptr (.fn (.func q) [] [])]/\st'=st):=by
 refine ICall.intro (c:=cf prog gl [] [] [2,3]) func229 rfl (by show _<=6;simp) (by kernel_rfl) ?_;simp only[go_sem,zE];exact yQ0 ⟨rfl,rfl⟩
theorem yGr (s:ByteArray)(st:ISt):ICall prog gl 207 [.raw (.string s)] st (λx st'=>x=.raw (.bool (yU9 s))/\st'=st):=by
 refine iI func207 ?_;simp only[go_sem,zA];refine (zVe gl _ _ _).mono ?_;rintro _ st ⟨rfl,rfl⟩;simp only[go_sem,zE,reduceCtorEq];refine (zZr gl _ _ (inB 117 122) zZk (by simp only[go_sem]) (by simp only[go_sem]) (vKp gl) (wKp gl) s _).mono ?_;rintro _ st ⟨rfl,rfl⟩;simp only[go_sem];exact yQ0 ⟨rfl,rfl⟩
theorem wQl (s:ByteArray)(st:ISt):ICall prog gl 210 [.raw (.string s)] st (λx st'=>x=.raw (.bool (wY6 s))/\st'=st):=by
 refine iI func210 ?_;simp only[go_sem,zA];refine (zVe gl _ _ _).mono ?_;rintro _ st ⟨rfl,rfl⟩;simp only[go_sem,zE,reduceCtorEq];refine (zZr gl _ _ (inB 97 116) yYv (by simp only[go_sem]) (by simp only[go_sem]) (vWp gl) (wV7 gl) s _).mono ?_;rintro _ st ⟨rfl,rfl⟩;simp only[go_sem];exact yQ0 ⟨rfl,rfl⟩
theorem xV7 (s:ByteArray)(st:ISt):ICall prog gl 206 [.raw (.string s)] st (λx st'=>x=.raw (.bool (wXj s))/\st'=st):=by
 refine iI func206 ?_;simp only[go_sem,zA];refine (zVe gl _ _ _).mono ?_;rintro _ st ⟨rfl,rfl⟩;simp only[go_sem,zE,reduceCtorEq];refine (zZr gl _ _ yV0 yYv (by simp only[go_sem]) (by simp only[go_sem]) (xX2 gl) (wV7 gl) s _).mono ?_;rintro _ st ⟨rfl,rfl⟩;simp only[go_sem];exact yQ0 ⟨rfl,rfl⟩
def yK1 (k:Nat)(s:ByteArray):Bool:=match k with|1=>wXj s|2=>yU9 s|_=>decide (s=⟨#[]⟩)
theorem vZh (k:Nat)(A:k<=2)(s:ByteArray)(st:ISt):ICall prog gl 161 [.raw (.int .u8 k),.raw (.string s)] st (λx st'=>x=.raw (.bool (yK1 k s))/\st'=st):=by
 refine iI func161 ?_
 match k,A with
 | 0,_ =>
  simp only[go_sem,zE,zL,reduceCtorEq,show decide (((0:Nat):Int)=1)=false from rfl,show decide (((0:Nat):Int)=2)=false from rfl,show decide (((0:Nat):Int)=3)=false from rfl];exact yQ0 ⟨rfl,rfl⟩
 | 1,_ =>
  simp only[go_sem,zE,zA,reduceCtorEq,show decide (((1:Nat):Int)=1)=true from rfl];refine (xV7 gl s _).mono ?_;rintro _ st ⟨rfl,rfl⟩;simp only[go_sem];exact yQ0 ⟨rfl,rfl⟩
 | 2,_ =>
  simp only[go_sem,zE,zA,reduceCtorEq,show decide (((2:Nat):Int)=1)=false from rfl,show decide (((2:Nat):Int)=2)=true from rfl];refine (yGr gl s _).mono ?_;rintro _ st ⟨rfl,rfl⟩;simp only[go_sem];exact yQ0 ⟨rfl,rfl⟩
def jBox (l d:Int):Option IObj:=some (.box [.raw (.bool false),.raw (.int .i64 l),.raw (.int .i64 d)])
theorem wU7 (b:Nat)(st:ISt)(l d A:Int)(G:st b=jBox l d)(h0:0<=l)(h1:l<=9223372036854775807) :
  ICall prog gl 160 [.raw (.pointer (some ⟨b,0,none⟩)),.raw (.int .i64 A)] st (λx st'=>x=.raw (.bool (decide (1<=l)&&decide (A<=d)))/\st'=st.put b (jBox (l-1) d)):=by
 refine iI func160 ?_;have E:IntKind.i64.wrap (l-1)=l-1:=w64 (by omega) (by omega);simp only[go_sem,zE,zA,zL,reduceCtorEq,G,jBox,E];refine yJb (λh=>?_) (λh=>?_)
 ·have D:1<=l:=by simp at h;omega
  simp only[go_sem,zE,zA,reduceCtorEq];exact yQ0 ⟨by simp[D],rfl⟩
 ·have D:¬ 1<=l:=by simp at h;omega
  simp only[go_sem,zE,zA];exact yQ0 ⟨by simp[D],rfl⟩
def wJg (b:Nat)(st:ISt)(l d:Int)(r:Bool)(D:Nat)(x:IV)(st':ISt):Prop:=x=.raw (.bool r)/\∃A,st'=st.put b (jBox A d)/\(r=true->A=l-D)
def tmR (t:Tm)(l d A:Int):Bool:=decide ((t.size:Int)<=l)&&decide (A+t.deep<=d+1)&&t.ok
def tmsR (t:List Tm)(l d A:Int):Bool:=decide ((yQf t:Int)<=l)&&decide (yQv t=0\/A+yQv t<=d+1)&&yYj t
theorem yUw (a:Tm)(m:List Tm)(l d A:Int):tmsR (a::m) l d A=(tmR a l d A&&tmsR m (l-a.size) d A):=by
 rw[Bool.eq_iff_iff];have h1:=a.deep_pos;simp only[tmsR,tmR,bAt,dTe];simp only[yQf,yQv,yYj,bAt];constructor
 ·rintro⟨⟨h2,J⟩,D,E⟩;refine⟨⟨⟨by omega,by omega⟩,D⟩,⟨by omega,by omega⟩,E⟩
 ·rintro⟨⟨⟨h2,J⟩,D⟩,⟨E,O⟩,G⟩;exact⟨⟨by omega,by omega⟩,D,G⟩
theorem zJi (a m:List Tm)(l d A:Int):tmsR (a++m) l d A=(tmsR a l d A&&tmsR m (l-yQf a) d A):=by
 induction a generalizing l with
 | nil =>
  simp only[List.nil_append,yQf,Int.natCast_zero,Int.sub_zero];rw[Bool.eq_iff_iff];simp only[tmsR,bAt,dTe];simp only[yQf,yQv,yYj];constructor
  ·rintro⟨⟨h1,h2⟩,D⟩;exact⟨⟨⟨by omega,by simp⟩,trivial⟩,⟨h1,h2⟩,D⟩
  ·rintro⟨_,⟨h1,h2⟩,D⟩;exact⟨⟨h1,h2⟩,D⟩
 | cons x a E =>
  rw[List.cons_append,yUw,E,yUw,Bool.and_assoc];congr 3;simp only[yQf];omega
theorem zJj (n:ByteArray)(m:List Tm)(l d A:Int):tmR (.mk false n m) l d A=(((decide (1<=l)&&decide (A<=d))&&decide (m.length<=4)&&wY6 n)&&tmsR m (l-1) d (A+1)):=by
 rw[Bool.eq_iff_iff];simp only[tmsR,tmR,bAt,dTe];simp only[Tm.size,Tm.deep,Tm.ok,bAt,dTe];constructor
 ·rintro⟨⟨h2,J⟩,⟨D,G⟩,E⟩;refine⟨⟨⟨⟨by omega,by omega⟩,D⟩,G⟩,⟨by omega,by omega⟩,E⟩
 ·rintro⟨⟨⟨⟨h1,h2⟩,J⟩,D⟩,⟨G,E⟩,O⟩;exact⟨⟨by omega,by omega⟩,⟨J,D⟩,O⟩
theorem zYz (n:ByteArray)(m:List Tm)(l d A:Int):tmR (.mk true n m) l d A=(((decide (1<=l)&&decide (A<=d))&&decide (m.length=0))&&yU9 n):=by
 rw[Bool.eq_iff_iff];cases m with
 | nil =>
  simp only[tmR,bAt,dTe];simp only[Tm.size,Tm.deep,Tm.ok,yQf,yQv,List.isEmpty,bAt,List.length_nil];constructor
  ·rintro⟨⟨h1,h2⟩,_,D⟩;exact⟨⟨⟨by omega,by omega⟩,trivial⟩,D⟩
  ·rintro⟨⟨⟨h1,h2⟩,_⟩,D⟩;exact⟨⟨by omega,by omega⟩,by trivial,D⟩
 | cons a m=>simp[tmR,Tm.ok]
theorem wZq {v:Bool}{n:ByteArray}{us:List Tm}{l:List Tm}(h:Tm.mk v n us∈l):SizeOf.sizeOf us<SizeOf.sizeOf l:=by
 have:=lSm h;simp at this;omega
mutual
theorem wJf (v:Bool)(n:ByteArray)(us:List Tm)(x:IV)(hx:IsTm (.mk v n us) x)(b:Nat)(st:ISt)(l d A:Int)(hb:st b=jBox l d)(h0:0<=l)(h1:l<=9223372036854775807)(h2:0<=A)(h3:A+(Tm.mk v n us).size<=4611686018427387904) :
  ICall prog gl 179 [.raw (.pointer (some ⟨b,0,none⟩)),x,.raw (.int .i64 A)] st (wJg b st l d (tmR (.mk v n us) l d A) (Tm.mk v n us).size):=by
 obtain⟨tg,xs,rfl,U,E⟩:=hx.mk;refine iI func179 ?_;simp only[go_sem,zE,zA,reduceCtorEq];refine (wU7 gl b _ l d A hb h0 h1).mono ?_;rintro _ _ ⟨rfl,rfl⟩;cases O:(decide (1<=l)&&decide (A<=d))
 ·simp only[go_sem];refine yQ0 ⟨?_,_,rfl,?_⟩<;>cases v<;>simp[zJj,zYz,O]
 ·have ai:1<=l/\A<=d:=by simpa using O
  cases v
  ·simp only[Tm.size] at h3;have hw:IntKind.i64.wrap (A+1)=A+1:=w64 (by omega) (by omega);by_cases G:us.length<=4
   ·have D:decide ((us.length:Int)<=4)=true:=by simp;omega
    simp only[go_sem,zE,zA,E.len,D];intro _;refine (wQl gl n _).mono ?_;rintro _ _ ⟨rfl,rfl⟩;cases J:wY6 n
    ·simp only[go_sem,zE];refine yQ0 ⟨?_,_,rfl,?_⟩<;>simp[zJj,J]
    ·simp only[go_sem,zE,zA,reduceCtorEq,hw];refine (xY1 us tg xs U E b _ (l-1) d (A+1) (ISt.put_same _ _ _) (by omega) (by omega) (by omega) (by omega)).mono ?_;rintro _ _ ⟨rfl,l',rfl,ab⟩;simp only[go_sem,zE];refine yQ0 ⟨by simp[zJj,O,J,G],l',yQ9 _ _ _ _,?_⟩;intro hr;rw[zJj] at hr;simp only[bAt] at hr;have:=ab hr.2;simp only[Tm.size];omega
   ·have D:decide ((us.length:Int)<=4)=false:=by simp;omega
    simp only[go_sem,zE,E.len,D];intro _;refine yQ0 ⟨?_,_,rfl,?_⟩<;>simp[zJj,G]
  ·by_cases G:us.length=0
   ·have D:decide ((us.length:Int)=0)=true:=dEt (by omega);simp only[go_sem,zE,zA,E.len,D];intro _;refine (yGr gl n _).mono ?_;rintro _ _ ⟨rfl,rfl⟩;cases J:yU9 n
    ·simp only[go_sem,zE,reduceCtorEq,ISt.put_same,jBox];refine yQ0 ⟨?_,_,rfl,?_⟩<;>simp[zYz,J]
    ·simp only[go_sem,zE];refine yQ0 ⟨?_,_,rfl,?_⟩
     ·simp[zYz,J,O,G]
     ·intro _;have:us=[]:=List.eq_nil_of_length_eq_zero G;subst this;simp[Tm.size,yQf]
   ·have D:decide ((us.length:Int)=0)=false:=dEf (by omega);simp only[go_sem,zE,E.len,D];intro _;refine yQ0 ⟨?_,_,rfl,?_⟩<;>simp[zYz,G]
termination_by 2*SizeOf.sizeOf us+1
decreasing_by all_goals omega
theorem xY1 (us:List Tm)(tg:Tag)(U:List IV)(ab:okEs tg 3)(G:IsTms us U)(b:Nat)(st:ISt)(l d A:Int)(hb:st b=jBox l d)(h0:0<=l)(h1:l<=9223372036854775807)(h2:0<=A)
  (h3:A+yQf us<=4611686018427387904) :
  ICall prog gl 163 [.raw (.pointer (some ⟨b,0,none⟩)),.sl tg U,.raw (.int .i64 A)] st (wJg b st l d (tmsR us l d A) (yQf us)):=by
 refine iI func163 ?_;simp only[go_sem,zE,G.len];intro ai;refine LoopC.ctr us.length (λk fr st' ds=>tmsR (us.take k) l d A=true/\fr 0=.iv (.raw (.pointer (some ⟨b,0,none⟩)))/\fr 2=.iv (.raw (.int .i64 A))/\fr 9=.iv (.sl tg U) /\
  fr 10=.iv (.raw (.int .i64 us.length))/\fr 11=.iv (.raw (.int .i64 k))/\st'=st.put b (jBox (l-yQf (us.take k)) d)/\ds=[]) ?_ ?_ ?_
 ·have:l-(yQf ([]:List Tm):Int)=l:=by simp[yQf]
  simp only[go_sem,zE,reduceCtorEq,this,yXc hb];simp[tmsR,yQf,yQv,yYj,h0]
 ·rintro k fr _ ds D ⟨E,f0,f2,f9,f10,f11,rfl,rfl⟩;obtain⟨a,J⟩:=yQ1 D;obtain⟨x,ag,hx⟩:=G.get J;obtain⟨ac,ak⟩:=yZz J;obtain⟨v,n,m⟩:=a;obtain⟨tx,cx,rfl,_⟩:=hx.mk;have al:(yQf (us.take k):Int)<=l:=by
   simp only[tmsR,bAt,dTe] at E;exact E.1.1
  simp only[go_sem,zE,zA,zL,reduceCtorEq,f0,f2,f9,f10,f11,lt_i D,yQ3 ab,iNn,ag];refine (wJf v n m _ hx b _ (l-yQf (us.take k)) d A (ISt.put_same _ _ _) (by omega) (by omega) h2 (by omega)).mono ?_;rintro _ _ ⟨rfl,l',rfl,af⟩;cases O:tmR (.mk v n m) (l-yQf (us.take k)) d A
  ·simp only[go_sem];refine yQ0 ⟨?_,l',yQ9 _ _ _ _,?_⟩
   all_goals
    have hf:tmsR us l d A=false:=by
     rw[<- List.take_append_drop k us,List.drop_eq_getElem_cons D];rw[zJi,(lGs J).2,yUw,O];simp
    simp[hf]
  ·have ae:=af O;subst ae;simp only[go_sem,zE,reduceCtorEq,f0,f2,f9,f10,f11,yQc D (by omega),yQ9];refine⟨?_,?_⟩
   ·rw[yQ6 J,zJi,E,yUw,O];simp only[tmR,bAt,dTe] at O;simp[tmsR,yQf,yQv,yYj];omega
   ·rw[ac];congr 2;omega
 ·rintro fr _ ds ⟨E,f0,f2,f9,f10,f11,rfl,rfl⟩;simp only[go_sem,f10,f11,yQl (nLi _)];rw[lTl] at E;refine yQ0 ⟨by rw[E],_,rfl,?_⟩;rw[lTl];intro _;rfl
termination_by 2*SizeOf.sizeOf us
decreasing_by have:=wZq (lMg J);omega
end
