/- Walks of the second program: names, righ -/
import Derived.Test.YtabhgbojkjcfjaaGreatDoorJL
set_option linter.all false
open Nat renaming reduceEqDiff → zE,reduceBEq → zB,reduceAdd → zA,reduceLeDiff → zL
namespace Go.Proofs.Tryz
open Go Go.Iv
set_option maxRecDepth 4000
variable (gl:Nat->Option IV)
theorem in_n (c:UInt8)(A E:Nat)(a b:Int)(G:a=A)(F:b=E)(st:ISt):ICall prog gl 114 [.raw (.int .u8 c.toNat),.raw (.int .u8 a),.raw (.int .u8 b)] st (λx st'=>x=.raw (.bool (inB A E c))/\st'=st):=by
 subst G F;have D:∀x y:Int,binI prog 5 .leq (.int .u8 x) (.int .u8 y)=some (.bool (decide (x<=y))):=λx y=>by simp only[go_sem]
 refine iI func114 ?_;by_cases h1:A<=c.toNat
 ·simp only[go_sem,zE,reduceCtorEq,show decide ((A:Int)<=(c.toNat:Int))=true from dEt (by omega)];exact yQ0 ⟨by congr 3;simp[inB,h1],rfl⟩
 ·simp only[go_sem,zE,reduceCtorEq,show decide ((A:Int)<=(c.toNat:Int))=false from dEf (by omega)];exact yQ0 ⟨by simp[inB,h1],rfl⟩
def yWx (d:Bool)(c:UInt8):Bool:=yVo c || (!d&&(yJw c || yG0 c))
def yJl (d:Bool)(s:ByteArray):Bool :=
 match s.data.toList with
 | []=>false
 | _::cs=>decide (cs.length<16)&&cs.all (yWx d)
theorem zVc (s:ByteArray)(d:Bool)(st:ISt):ICall prog gl 113 [.raw (.string s),.raw (.bool d)] st (λx st'=>x=.raw (.bool (yJl d s))/\st'=st):=by
 refine iI func113 ?_;have A:=zKw s;cases G:s.data.toList with
 | nil =>
  rw[G] at A;simp only[go_sem];refine LoopC.ctr 0 (λk fr st' ds=>fr 0=.iv (.raw (.string s))/\fr 5=.iv (.raw (.int .i64 1))/\st'=st/\ds=[]) ?_ ?_ ?_
  ·simp only[go_sem,reduceCtorEq]
  ·intro k _ _ _ h;omega
  ·rintro fr _ _ ⟨f0,f5,rfl,rfl⟩;simp only[go_sem,zE,reduceCtorEq,f0,f5,show decide ((1:Int)<((s.size:Nat):Int))=false from dEf (by rw[A];simp),show decide ((0:Int)<((s.size:Nat):Int))=false from dEf (by rw[A];simp)];intros;exact yQ0 ⟨by simp[yJl,G],rfl⟩
 | cons c cs =>
  rw[G,List.length_cons] at A;simp only[go_sem];refine LoopC.ctr cs.length (λk fr st' ds=>(cs.take k).all (yWx d)=true/\fr 0=.iv (.raw (.string s))/\fr 1=.iv (.raw (.bool d))/\fr 5=.iv (.raw (.int .i64 ((k+1:Nat):Int)))/\st'=st/\ds=[]) ?_ ?_ ?_
  ·simp only[go_sem,zE,reduceCtorEq];rfl
  ·rintro k fr st _ aa ⟨O,f0,f1,f5,rfl,rfl⟩;obtain⟨x,U⟩:=yQ3 aa;have J:decide (((k+1:Nat):Int)<((s.size:Nat):Int))=true:=by rw[A];simp;omega
   have F:xZn s ((k+1:Nat):Int)=some x:=zUg (by rw[G];simpa using U);have E:yWx d x=false->yJl d s=false:=λh=>by
    have:cs.all (yWx d)=false:=by rw[List.all_eq_false];exact⟨x,lMg U,by simp[h]⟩
    simp[yJl,G,this]
   have D:yWx d x=true->(cs.take (k+1)).all (yWx d)=true:=λh=>by
    rw[yQ4 U,List.all_append,O];simp[h]
   simp only[go_sem,zE,zA,reduceCtorEq,f0,f5,J,F];intro ab;have W:IntKind.i64.wrap (((k+1:Nat):Int)+1)=((k+1+1:Nat):Int):=by rw[w64]<;>omega
   refine (in_n gl x 48 57 _ _ rfl rfl _).mono ?_;rintro _ st ⟨rfl,rfl⟩;cases h1:inB 48 57 x
   case true =>
    simp only[go_sem,zE,reduceCtorEq,f0,f1,f5,W];exact D (by simp[yWx,yVo,h1])
   cases d
   case true =>
    simp only[go_sem,zE,f1];exact yQ0 ⟨by rw[E (by simp[yWx,yVo,h1])],rfl⟩
   simp only[go_sem,zE,zA,reduceCtorEq,f0,f1,f5,F];refine (in_n gl x 65 90 _ _ rfl rfl _).mono ?_;rintro _ st ⟨rfl,rfl⟩;cases h2:inB 65 90 x
   case true =>
    simp only[go_sem,zE,reduceCtorEq,f0,f1,f5,W];exact D (by simp[yWx,yJw,h2])
   simp only[go_sem,zE,zA,reduceCtorEq,f0,f5,F];refine (in_n gl x 97 122 _ _ rfl rfl _).mono ?_;rintro _ st ⟨rfl,rfl⟩;cases h3:inB 97 122 x
   case true =>
    simp only[go_sem,zE,reduceCtorEq,f0,f1,f5,W];exact D (by simp[yWx,yG0,h3])
   simp only[go_sem,zE];exact yQ0 ⟨by rw[E (by simp[yWx,yVo,yJw,yG0,h1,h2,h3])],rfl⟩
  ·rintro fr st _ ⟨O,f0,f1,f5,rfl,rfl⟩;rw[lTl] at O;simp only[go_sem,zE,reduceCtorEq,f0,f5,show decide (((cs.length+1:Nat):Int)<((s.size:Nat):Int))=false from dEf (by rw[A];simp),show decide ((0:Int)<((s.size:Nat):Int))=true from dEt (by rw[A];omega)];intros;refine yQ0 ⟨?_,rfl⟩;congr 3;simp only[yJl,G,O,Bool.and_true];rw[A];simp;omega
theorem wXu {p q:UInt8->Bool}{s:ByteArray}{c:UInt8}{cs:List UInt8}(hl:s.data.toList=c::cs)(h:p c=true)(U:cs.all q=true)
  (O:∀w∈[wAll,xKa,zKh,xKb,zQb,zYk],(match w.data.toList with|[]=>true|c::cs=>p c&&cs.all q)=false):yJe s=false:=by
 have key:∀w∈[wAll,xKa,zKh,xKb,zQb,zYk],s≠w:=λw W he=>by
  have:=O w W;rw[<- he,hl] at this;simp[h,U] at this
 simp only[List.mem_cons,List.not_mem_nil,or_false,forall_eq_or_imp,forall_eq] at key;obtain⟨J,G,F,E,D,A⟩:=key;unfold yJe;rw[dEf J,dEf G,dEf F,dEf E,dEf D,dEf A];rfl
theorem zX6:yWx true=yVo:=by funext c;simp[yWx]
theorem yW6:yWx false=yY4:=by
 funext c;simp only[yWx,yY4,Bool.not_false,Bool.true_and];cases yVo c<;>cases yJw c<;>cases yG0 c<;>rfl
theorem zQm {d:Bool}{s:ByteArray}(h:yJl d s=true):∃c cs,s.data.toList=c::cs/\cs.length<16/\cs.all (yWx d)=true:=by
 unfold yJl at h;split at h
 ·cases h
 ·rename_i c cs A;simp only[bAt,dTe] at h;exact⟨c,cs,A,h.1,h.2⟩
theorem yWa {p:UInt8->Bool}{d:Bool}{s:ByteArray}{c:UInt8}{cs:List UInt8}(D:s.data.toList=c::cs)(A:p c=true->cs.all (yWx d)=true->yJe s=false):yVg p (yWx d) s=(yJl d s&&p c):=by
 simp only[yVg,yJl,D];cases h1:p c
 ·simp
 ·cases h2:cs.all (yWx d)
  ·simp
  ·simp[A h1 h2]
theorem xQ9 {p:UInt8->Bool}{d:Bool}{s:ByteArray}(h:yJl d s=false):yVg p (yWx d) s=false:=by
 unfold yJl at h;unfold yVg;split
 ·rfl
 ·rename_i c cs A;rw[A] at h;simp only at h;cases h1:decide (cs.length<16)<;>cases h2:cs.all (yWx d)<;>simp_all
theorem yKd (s:ByteArray)(st:ISt):ICall prog gl 67 [.raw (.string s)] st (λx st'=>x=.raw (.bool (yV4 s))/\st'=st):=by
 refine iI func67 ?_;simp only[go_sem,zA,reduceCtorEq];refine (zVc gl s true _).mono ?_;rintro _ st ⟨rfl,rfl⟩;cases h:yJl true s
 ·simp only[go_sem,zE];exact yQ0 ⟨by rw[yV4,<- zX6,xQ9 h],rfl⟩
 ·obtain⟨c,cs,A,D,E⟩:=zQm h;simp only[go_sem,zE,zA,reduceCtorEq,yUd A];refine (in_n gl c 117 122 _ _ rfl rfl _).mono ?_;rintro _ st ⟨rfl,rfl⟩;simp only[go_sem,zE];refine yQ0 ⟨?_,rfl⟩;rw[yV4,<- zX6,yWa A (λh1 h2=>wXu A h1 (by rw[zX6] at h2;exact h2) (by decide)),h,Bool.true_and]
theorem xXa (s:ByteArray)(st:ISt):ICall prog gl 264 [.raw (.string s)] st (λx st'=>x=.raw (.bool (zV8 s))/\st'=st):=by
 refine iI func264 ?_;simp only[go_sem,zA,reduceCtorEq];refine (zVc gl s false _).mono ?_;rintro _ st ⟨rfl,rfl⟩;cases h:yJl false s
 ·simp only[go_sem,zE];exact yQ0 ⟨by rw[zV8,<- yW6,xQ9 h],rfl⟩
 ·obtain⟨c,cs,A,D,E⟩:=zQm h;simp only[go_sem,zE,zA,reduceCtorEq,yUd A];refine (in_n gl c 65 90 _ _ rfl rfl _).mono ?_;rintro _ st ⟨rfl,rfl⟩;simp only[go_sem,zE];refine yQ0 ⟨?_,rfl⟩;rw[zV8,<- yW6,yWa A (λh1 h2=>wXu A h1 (by rw[yW6] at h2;exact h2) (by decide)),h,Bool.true_and];rfl
theorem yYb {s:ByteArray}(h:yJe s=true):zY9 s=false:=by
 unfold zY9 yVg;split
 ·rfl
 ·simp[h]
theorem xV3 (s:ByteArray)(st:ISt):ICall prog gl 162 [.raw (.string s)] st (λx st'=>x=.raw (.bool (zY9 s))/\st'=st):=by
 refine iI func162 ?_;simp only[go_sem,zA,zL,reduceCtorEq];refine yZb (λh=>?_) (λh=>?_)
 ·simp only[go_sem,h];exact yQ0 ⟨by rw[yYb (by rw[show s=wAll from of_decide_eq_true h];rfl)],rfl⟩
 have h1:s≠wAll:=of_decide_eq_false h;simp only[go_sem,zE,zA,zL,h];refine yZb (λh=>?_) (λh=>?_)
 ·simp only[go_sem,h];exact yQ0 ⟨by rw[yYb (by rw[show s=xKa from of_decide_eq_true h];rfl)],rfl⟩
 have h2:s≠xKa:=of_decide_eq_false h;simp only[go_sem,zE,zA,zL,h];refine yZb (λh=>?_) (λh=>?_)
 ·simp only[go_sem,h];exact yQ0 ⟨by rw[yYb (by rw[show s=zKh from of_decide_eq_true h];rfl)],rfl⟩
 have U:s≠zKh:=of_decide_eq_false h;simp only[go_sem,zE,zA,zL,h];refine yZb (λh=>?_) (λh=>?_)
 ·simp only[go_sem,h];exact yQ0 ⟨by rw[yYb (by rw[show s=xKb from of_decide_eq_true h];rfl)],rfl⟩
 have O:s≠xKb:=of_decide_eq_false h;simp only[go_sem,zE,zA,zL,h];refine yZb (λh=>?_) (λh=>?_)
 ·simp only[go_sem,h];exact yQ0 ⟨by rw[yYb (by rw[show s=zQb from of_decide_eq_true h];rfl)],rfl⟩
 have J:s≠zQb:=of_decide_eq_false h;simp only[go_sem,zA,reduceCtorEq,h];refine (zVc gl s false _).mono ?_;rintro _ st ⟨rfl,rfl⟩;cases h:yJl false s
 ·simp only[go_sem,zE];exact yQ0 ⟨by rw[zY9,<- yW6,xQ9 h],rfl⟩
 ·obtain⟨c,cs,A,W,hq⟩:=zQm h;simp only[go_sem,zE,zA,reduceCtorEq,yUd A];refine (in_n gl c 97 116 _ _ rfl rfl _).mono ?_;rintro _ st ⟨rfl,rfl⟩;simp only[go_sem,zE];refine yQ0 ⟨?_,rfl⟩;rw[zY9,<- yW6,yWa A (λD _=>?_),h,Bool.true_and];have G:s≠zYk:=λE=>by
   rw[E] at A;have F:(117:UInt8)=c:=(List.cons.inj A).1;rw[<- F] at D;exact absurd D (by decide)
  unfold yJe;rw[dEf h1,dEf h2,dEf U,dEf O,dEf J,dEf G];rfl
def RTm (t:Tm):Prop:=∀(x:IV) (_:IsTm t x) (_:t.size<=1099511627776) (st:ISt),ICall prog gl 115 [x,.raw (.bool false)] st (λr st'=>r=.raw (.bool t.ok)/\st'=st)
theorem yVe:∀(l m:List Tm),yJt (l++m)=(yJt l&&yJt m)
 | [],m=>by simp[yJt]
 | a::l,m=>by simp only[List.cons_append,yJt,yVe l m,Bool.and_assoc]
theorem xXn {l:List Tm}{a:Tm}(h:a∈l)(D:a.ok=false):yJt l=false:=by
 induction l with
 | nil=>cases h
 | cons b l A =>
  simp only[yJt];rcases List.mem_cons.1 h with rfl|h
  ·simp[D]
  ·simp[A h]
theorem yZu:∀l:List Tm,l.length<=yQa l
 | []=>Nat.le_refl _
 | a::l=>by have:=yZu l;have:=a.size_pos;simp only[List.length_cons,yQa];omega
theorem yWm {l:List Tm}{a:Tm}(h:a∈l):a.size<=yQa l:=by
 induction l with
 | nil=>cases h
 | cons b l A =>
  simp only[yQa];rcases List.mem_cons.1 h with rfl|h
  ·omega
  ·have:=A h;omega
theorem xUn (v:Bool)(n:ByteArray)(us:List Tm)(IH:∀a∈us,RTm gl a):RTm gl (.mk v n us):=by
 intro x hx U st;obtain⟨tg,xs,rfl,O,A⟩:=hx.mk;simp only[Tm.size] at U;have ac:=yZu us;refine iI func115 ?_;cases v
 ·simp only[go_sem,zE];refine LoopC.ctr us.length (λk fr st' ds=>yJt (us.take k)=true/\fr 1=.iv (.raw (.bool false))/\fr 2=.box [.raw (.bool false),.raw (.string n),.sl tg xs]/\fr 5=.iv (.raw (.int .i64 k))/\st'=st/\ds=[]) ?_ ?_ ?_
  ·simp only[go_sem,zE];exact⟨rfl,rfl⟩
  ·rintro k fr st _ F ⟨E,f1,f2,f5,rfl,rfl⟩;obtain⟨a,ha⟩:=yQ3 F;obtain⟨y,W,hy⟩:=A.get ha;have D:=lMg ha;have G:=IH a D y hy (by have:=yWm D;omega) st;obtain⟨v3,n3,m3⟩:=a;obtain⟨t3,x3,rfl,_⟩:=hy.mk;simp only[go_sem,zE,zB,zA,f1,f2,f5,A.len,lt_i F,yQ2 O,iNn,W,fits];intros;refine G.mono ?_;rintro _ st ⟨rfl,rfl⟩;cases hb:(Tm.mk v3 n3 m3).ok
   ·simp only[go_sem];exact yQ0 ⟨by rw[show (Tm.mk false n us).ok=false by simp[Tm.ok,xXn D hb]],rfl⟩
   ·simp only[go_sem,zE,f1,f2,f5,yQb F (show us.length<=281474976710656 by omega)];rw[yQ4 ha,yVe,E];simp[yJt,hb]
  ·rintro fr st _ ⟨E,f1,f2,f5,rfl,rfl⟩;rw[lTl] at E;simp only[go_sem,zE,zA,f2,f5,A.len,yQj (nLi _)];intros;refine (xV3 gl n _).mono ?_;rintro _ st ⟨rfl,rfl⟩;cases J:zY9 n
   ·simp only[go_sem,zE];exact yQ0 ⟨by simp[Tm.ok,J],rfl⟩
   ·simp only[go_sem,zE,f2,A.len];intros;refine yQ0 ⟨?_,rfl⟩;simp only[Tm.ok,J,E,Bool.and_true];congr 3;simp;omega
 ·simp only[go_sem,zE,A.len];intros;by_cases h0:us.length=0
  ·obtain rfl:=List.eq_nil_of_length_eq_zero h0;simp only[go_sem,zE,zA,show decide (((0:Nat):Int)=0)=true from rfl];refine (yKd gl n _).mono ?_;rintro _ st ⟨rfl,rfl⟩;cases J:yV4 n
   ·simp only[go_sem,zE];exact yQ0 ⟨by simp[Tm.ok,J],rfl⟩
   ·simp only[go_sem,zE];exact yQ0 ⟨by simp[Tm.ok,J],rfl⟩
  ·simp only[go_sem,zE,show decide ((us.length:Int)=0)=false from dEf (by omega)];exact yQ0 ⟨by cases us with|nil=>exact absurd rfl h0|cons=>simp[Tm.ok],rfl⟩
theorem xX0:∀(k:Nat)(t:Tm),SizeOf.sizeOf t<k->RTm gl t
 | 0,f,h=>by omega
 | k+1,.mk v n us,h=>xUn gl v n us (λa A=>xX0 k a (by
   have:=lSm A;simp at h;omega))
theorem wX7 (t:Tm):RTm gl t:=xX0 gl _ t (Nat.lt_succ_self _)
theorem zV2 (t:Tm)(x:IV)(A:IsTm t x)(D:t.size<=1099511627776)(st:ISt):ICall prog gl 68 [x] st (λr st'=>r=.raw (.bool t.ok)/\st'=st):=by
 have hc:=λst=>wX7 gl t x A D st;obtain⟨v,n,us⟩:=t;obtain⟨F,E,rfl,_⟩:=A.mk;refine iI func68 ?_;simp only[go_sem,zE,zA,zL];refine (hc _).mono ?_;rintro _ st ⟨rfl,rfl⟩;simp only[go_sem];exact yQ0 ⟨rfl,rfl⟩
theorem di0 (a:Nat):decide ((a:Int)=0)=decide (a=0):=by by_cases h:a=0<;>simp[h]<;>omega
theorem di1 (a:Nat):decide ((a:Int)=1)=decide (a=1):=by by_cases h:a=1<;>simp[h]<;>omega
theorem di2 (a:Nat):decide ((a:Int)=2)=decide (a=2):=by by_cases h:a=2<;>simp[h]<;>omega
theorem dle4 (a:Nat):decide ((a:Int)<=4)=decide (a<=4):=by by_cases h:a<=4<;>simp[h]<;>omega
theorem wWv {op:Nat}{n:ByteArray}{A ls:Nat}(h:op=0\/16<op):yZc op n A ls=false:=by
 unfold yZc;split<;>first|rfl|omega
theorem uZ6 (op:Nat)(n:ByteArray)(us:List Tm)(sub:List Fm)(x:IV)(E:IsFm (.mk op n us sub) x)(st:ISt) :
  ICall prog gl 214 [x,.raw (.bool false)] st (λr st'=>r=.raw (.bool (yZc op n us.length sub.length))/\st'=st):=by
 obtain⟨W,O,U,J,rfl,ho,G,D,F,A⟩:=E.mk;refine iI func214 ?_;simp only[go_sem,zE,D.len,A.len];intros;rcases (show op=1\/op=2\/op=3\/op=4\/op=5\/op=6\/op=7\/op=8\/op=9\/op=10\/op=11\/op=12\/op=13\/op=14\/op=15\/op=16\/(op=0\/16<op) by omega) with h|h|h|h|h|h|h|h|h|h|h|h|h|h|h|h|h
 ·simp only[go_sem,zE,zA,show decide ((op:Int)=1)=true from dEt (by omega),D.len,A.len];refine (xXa gl n _).mono ?_;rintro _ st ⟨rfl,rfl⟩;cases h1:zV8 n
  ·simp only[go_sem,zE];exact yQ0 ⟨by subst h;simp[yZc,h1],rfl⟩
  ·cases h2:decide (us.length<=4)
   ·simp only[go_sem,zE,dle4,h2];exact yQ0 ⟨by subst h;simp only[yZc,h1,h2,Bool.and_false,Bool.false_and],rfl⟩
   ·simp only[go_sem,zE,dle4,h2,di0];exact yQ0 ⟨by subst h;simp only[yZc,h1,h2,Bool.true_and,Bool.and_true],rfl⟩
 ·cases h1:decide (n=⟨#[]⟩)
  ·simp only[go_sem,zE,zA,zL,show decide ((op:Int)=1)=false from dEf (by omega),show decide ((op:Int)=2)=true from dEt (by omega),D.len,A.len,h1];exact yQ0 ⟨by subst h;simp[yZc,h1],rfl⟩
  ·cases h2:decide (us.length=0)
   ·simp only[go_sem,zE,zA,zL,show decide ((op:Int)=1)=false from dEf (by omega),show decide ((op:Int)=2)=true from dEt (by omega),D.len,A.len,h1,di0,h2];exact yQ0 ⟨by subst h;simp only[yZc,h1,h2,Bool.and_false,Bool.false_and],rfl⟩
   ·simp only[go_sem,zE,zA,zL,show decide ((op:Int)=1)=false from dEf (by omega),show decide ((op:Int)=2)=true from dEt (by omega),D.len,A.len,h1,di0,h2,di0];exact yQ0 ⟨by subst h;simp only[yZc,h1,h2,Bool.true_and,Bool.and_true],rfl⟩
 ·cases h1:decide (n=⟨#[]⟩)
  ·simp only[go_sem,zE,zA,zL,show decide ((op:Int)=1)=false from dEf (by omega),show decide ((op:Int)=2)=false from dEf (by omega),show decide ((op:Int)=3)=true from dEt (by omega),D.len,A.len,h1];exact yQ0 ⟨by subst h;simp[yZc,h1],rfl⟩
  ·cases h2:decide (us.length=0)
   ·simp only[go_sem,zE,zA,zL,show decide ((op:Int)=1)=false from dEf (by omega),show decide ((op:Int)=2)=false from dEf (by omega),show decide ((op:Int)=3)=true from dEt (by omega),D.len,A.len,h1,di0,h2];exact yQ0 ⟨by subst h;simp only[yZc,h1,h2,Bool.and_false,Bool.false_and],rfl⟩
   ·simp only[go_sem,zE,zA,zL,show decide ((op:Int)=1)=false from dEf (by omega),show decide ((op:Int)=2)=false from dEf (by omega),show decide ((op:Int)=3)=true from dEt (by omega),D.len,A.len,h1,di0,h2,di1];exact yQ0 ⟨by subst h;simp only[yZc,h1,h2,Bool.true_and,Bool.and_true],rfl⟩
 ·cases h1:decide (n=⟨#[]⟩)
  ·simp only[go_sem,zE,zA,zL,show decide ((op:Int)=1)=false from dEf (by omega),show decide ((op:Int)=2)=false from dEf (by omega),show decide ((op:Int)=3)=false from dEf (by omega),show decide ((op:Int)=10)=false from dEf (by omega),show decide ((op:Int)=11)=false from dEf (by omega),show decide ((op:Int)=12)=false from dEf (by omega),show decide ((op:Int)=13)=false from dEf (by omega),show decide ((op:Int)=4)=true from dEt (by omega),D.len,A.len,h1];exact yQ0 ⟨by subst h;simp[yZc,h1],rfl⟩
  ·cases h2:decide (us.length=0)
   ·simp only[go_sem,zE,zA,zL,show decide ((op:Int)=1)=false from dEf (by omega),show decide ((op:Int)=2)=false from dEf (by omega),show decide ((op:Int)=3)=false from dEf (by omega),show decide ((op:Int)=10)=false from dEf (by omega),show decide ((op:Int)=11)=false from dEf (by omega),show decide ((op:Int)=12)=false from dEf (by omega),show decide ((op:Int)=13)=false from dEf (by omega),show decide ((op:Int)=4)=true from dEt (by omega),D.len,A.len,h1,di0,h2];exact yQ0 ⟨by subst h;simp only[yZc,h1,h2,Bool.and_false,Bool.false_and],rfl⟩
   ·simp only[go_sem,zE,zA,zL,show decide ((op:Int)=1)=false from dEf (by omega),show decide ((op:Int)=2)=false from dEf (by omega),show decide ((op:Int)=3)=false from dEf (by omega),show decide ((op:Int)=10)=false from dEf (by omega),show decide ((op:Int)=11)=false from dEf (by omega),show decide ((op:Int)=12)=false from dEf (by omega),show decide ((op:Int)=13)=false from dEf (by omega),show decide ((op:Int)=4)=true from dEt (by omega),D.len,A.len,h1,di0,h2,di2];exact yQ0 ⟨by subst h;simp only[yZc,h1,h2,Bool.true_and,Bool.and_true],rfl⟩
 ·cases h1:decide (n=⟨#[]⟩)
  ·simp only[go_sem,zE,zA,zL,show decide ((op:Int)=1)=false from dEf (by omega),show decide ((op:Int)=2)=false from dEf (by omega),show decide ((op:Int)=3)=false from dEf (by omega),show decide ((op:Int)=10)=false from dEf (by omega),show decide ((op:Int)=11)=false from dEf (by omega),show decide ((op:Int)=12)=false from dEf (by omega),show decide ((op:Int)=13)=false from dEf (by omega),show decide ((op:Int)=4)=false from dEf (by omega),show decide ((op:Int)=5)=true from dEt (by omega),D.len,A.len,h1];exact yQ0 ⟨by subst h;simp[yZc,h1],rfl⟩
  ·cases h2:decide (us.length=0)
   ·simp only[go_sem,zE,zA,zL,show decide ((op:Int)=1)=false from dEf (by omega),show decide ((op:Int)=2)=false from dEf (by omega),show decide ((op:Int)=3)=false from dEf (by omega),show decide ((op:Int)=10)=false from dEf (by omega),show decide ((op:Int)=11)=false from dEf (by omega),show decide ((op:Int)=12)=false from dEf (by omega),show decide ((op:Int)=13)=false from dEf (by omega),show decide ((op:Int)=4)=false from dEf (by omega),show decide ((op:Int)=5)=true from dEt (by omega),D.len,A.len,h1,di0,h2];exact yQ0 ⟨by subst h;simp only[yZc,h1,h2,Bool.and_false,Bool.false_and],rfl⟩
   ·simp only[go_sem,zE,zA,zL,show decide ((op:Int)=1)=false from dEf (by omega),show decide ((op:Int)=2)=false from dEf (by omega),show decide ((op:Int)=3)=false from dEf (by omega),show decide ((op:Int)=10)=false from dEf (by omega),show decide ((op:Int)=11)=false from dEf (by omega),show decide ((op:Int)=12)=false from dEf (by omega),show decide ((op:Int)=13)=false from dEf (by omega),show decide ((op:Int)=4)=false from dEf (by omega),show decide ((op:Int)=5)=true from dEt (by omega),D.len,A.len,h1,di0,h2,di2];exact yQ0 ⟨by subst h;simp only[yZc,h1,h2,Bool.true_and,Bool.and_true],rfl⟩
 ·cases h1:decide (n=⟨#[]⟩)
  ·simp only[go_sem,zE,zA,zL,show decide ((op:Int)=1)=false from dEf (by omega),show decide ((op:Int)=2)=false from dEf (by omega),show decide ((op:Int)=3)=false from dEf (by omega),show decide ((op:Int)=10)=false from dEf (by omega),show decide ((op:Int)=11)=false from dEf (by omega),show decide ((op:Int)=12)=false from dEf (by omega),show decide ((op:Int)=13)=false from dEf (by omega),show decide ((op:Int)=4)=false from dEf (by omega),show decide ((op:Int)=5)=false from dEf (by omega),show decide ((op:Int)=6)=true from dEt (by omega),D.len,A.len,h1];exact yQ0 ⟨by subst h;simp[yZc,h1],rfl⟩
  ·cases h2:decide (us.length=0)
   ·simp only[go_sem,zE,zA,zL,show decide ((op:Int)=1)=false from dEf (by omega),show decide ((op:Int)=2)=false from dEf (by omega),show decide ((op:Int)=3)=false from dEf (by omega),show decide ((op:Int)=10)=false from dEf (by omega),show decide ((op:Int)=11)=false from dEf (by omega),show decide ((op:Int)=12)=false from dEf (by omega),show decide ((op:Int)=13)=false from dEf (by omega),show decide ((op:Int)=4)=false from dEf (by omega),show decide ((op:Int)=5)=false from dEf (by omega),show decide ((op:Int)=6)=true from dEt (by omega),D.len,A.len,h1,di0,h2];exact yQ0 ⟨by subst h;simp only[yZc,h1,h2,Bool.and_false,Bool.false_and],rfl⟩
   ·simp only[go_sem,zE,zA,zL,show decide ((op:Int)=1)=false from dEf (by omega),show decide ((op:Int)=2)=false from dEf (by omega),show decide ((op:Int)=3)=false from dEf (by omega),show decide ((op:Int)=10)=false from dEf (by omega),show decide ((op:Int)=11)=false from dEf (by omega),show decide ((op:Int)=12)=false from dEf (by omega),show decide ((op:Int)=13)=false from dEf (by omega),show decide ((op:Int)=4)=false from dEf (by omega),show decide ((op:Int)=5)=false from dEf (by omega),show decide ((op:Int)=6)=true from dEt (by omega),D.len,A.len,h1,di0,h2,di2];exact yQ0 ⟨by subst h;simp only[yZc,h1,h2,Bool.true_and,Bool.and_true],rfl⟩
 ·cases h1:decide (n=⟨#[]⟩)
  ·simp only[go_sem,zE,zA,zL,show decide ((op:Int)=1)=false from dEf (by omega),show decide ((op:Int)=2)=false from dEf (by omega),show decide ((op:Int)=3)=false from dEf (by omega),show decide ((op:Int)=10)=false from dEf (by omega),show decide ((op:Int)=11)=false from dEf (by omega),show decide ((op:Int)=12)=false from dEf (by omega),show decide ((op:Int)=13)=false from dEf (by omega),show decide ((op:Int)=4)=false from dEf (by omega),show decide ((op:Int)=5)=false from dEf (by omega),show decide ((op:Int)=6)=false from dEf (by omega),show decide ((op:Int)=7)=true from dEt (by omega),D.len,A.len,h1];exact yQ0 ⟨by subst h;simp[yZc,h1],rfl⟩
  ·cases h2:decide (us.length=0)
   ·simp only[go_sem,zE,zA,zL,show decide ((op:Int)=1)=false from dEf (by omega),show decide ((op:Int)=2)=false from dEf (by omega),show decide ((op:Int)=3)=false from dEf (by omega),show decide ((op:Int)=10)=false from dEf (by omega),show decide ((op:Int)=11)=false from dEf (by omega),show decide ((op:Int)=12)=false from dEf (by omega),show decide ((op:Int)=13)=false from dEf (by omega),show decide ((op:Int)=4)=false from dEf (by omega),show decide ((op:Int)=5)=false from dEf (by omega),show decide ((op:Int)=6)=false from dEf (by omega),show decide ((op:Int)=7)=true from dEt (by omega),D.len,A.len,h1,di0,h2];exact yQ0 ⟨by subst h;simp only[yZc,h1,h2,Bool.and_false,Bool.false_and],rfl⟩
   ·simp only[go_sem,zE,zA,zL,show decide ((op:Int)=1)=false from dEf (by omega),show decide ((op:Int)=2)=false from dEf (by omega),show decide ((op:Int)=3)=false from dEf (by omega),show decide ((op:Int)=10)=false from dEf (by omega),show decide ((op:Int)=11)=false from dEf (by omega),show decide ((op:Int)=12)=false from dEf (by omega),show decide ((op:Int)=13)=false from dEf (by omega),show decide ((op:Int)=4)=false from dEf (by omega),show decide ((op:Int)=5)=false from dEf (by omega),show decide ((op:Int)=6)=false from dEf (by omega),show decide ((op:Int)=7)=true from dEt (by omega),D.len,A.len,h1,di0,h2,di2];exact yQ0 ⟨by subst h;simp only[yZc,h1,h2,Bool.true_and,Bool.and_true],rfl⟩
 ·simp only[go_sem,zE,zA,show decide ((op:Int)=1)=false from dEf (by omega),show decide ((op:Int)=2)=false from dEf (by omega),show decide ((op:Int)=3)=false from dEf (by omega),show decide ((op:Int)=10)=false from dEf (by omega),show decide ((op:Int)=11)=false from dEf (by omega),show decide ((op:Int)=12)=false from dEf (by omega),show decide ((op:Int)=13)=false from dEf (by omega),show decide ((op:Int)=4)=false from dEf (by omega),show decide ((op:Int)=5)=false from dEf (by omega),show decide ((op:Int)=6)=false from dEf (by omega),show decide ((op:Int)=7)=false from dEf (by omega),show decide ((op:Int)=14)=false from dEf (by omega),show decide ((op:Int)=8)=true from dEt (by omega),D.len,A.len];refine (yKd gl n _).mono ?_;rintro _ st ⟨rfl,rfl⟩;cases h1:yV4 n
  ·simp only[go_sem,zE];exact yQ0 ⟨by subst h;simp[yZc,h1],rfl⟩
  ·cases h2:decide (us.length=0)
   ·simp only[go_sem,zE,di0,h2];exact yQ0 ⟨by subst h;simp only[yZc,h1,h2,Bool.and_false,Bool.false_and],rfl⟩
   ·simp only[go_sem,zE,di0,h2,di1];exact yQ0 ⟨by subst h;simp only[yZc,h1,h2,Bool.true_and,Bool.and_true],rfl⟩
 ·simp only[go_sem,zE,zA,show decide ((op:Int)=1)=false from dEf (by omega),show decide ((op:Int)=2)=false from dEf (by omega),show decide ((op:Int)=3)=false from dEf (by omega),show decide ((op:Int)=10)=false from dEf (by omega),show decide ((op:Int)=11)=false from dEf (by omega),show decide ((op:Int)=12)=false from dEf (by omega),show decide ((op:Int)=13)=false from dEf (by omega),show decide ((op:Int)=4)=false from dEf (by omega),show decide ((op:Int)=5)=false from dEf (by omega),show decide ((op:Int)=6)=false from dEf (by omega),show decide ((op:Int)=7)=false from dEf (by omega),show decide ((op:Int)=14)=false from dEf (by omega),show decide ((op:Int)=8)=false from dEf (by omega),show decide ((op:Int)=9)=true from dEt (by omega),D.len,A.len];refine (yKd gl n _).mono ?_;rintro _ st ⟨rfl,rfl⟩;cases h1:yV4 n
  ·simp only[go_sem,zE];exact yQ0 ⟨by subst h;simp[yZc,h1],rfl⟩
  ·cases h2:decide (us.length=0)
   ·simp only[go_sem,zE,di0,h2];exact yQ0 ⟨by subst h;simp only[yZc,h1,h2,Bool.and_false,Bool.false_and],rfl⟩
   ·simp only[go_sem,zE,di0,h2,di1];exact yQ0 ⟨by subst h;simp only[yZc,h1,h2,Bool.true_and,Bool.and_true],rfl⟩
 ·cases h1:decide (n=⟨#[]⟩)
  ·simp only[go_sem,zE,zA,zL,show decide ((op:Int)=1)=false from dEf (by omega),show decide ((op:Int)=2)=false from dEf (by omega),show decide ((op:Int)=3)=false from dEf (by omega),show decide ((op:Int)=10)=true from dEt (by omega),D.len,A.len,h1];exact yQ0 ⟨by subst h;simp[yZc,h1],rfl⟩
  ·cases h2:decide (us.length=0)
   ·simp only[go_sem,zE,zA,zL,show decide ((op:Int)=1)=false from dEf (by omega),show decide ((op:Int)=2)=false from dEf (by omega),show decide ((op:Int)=3)=false from dEf (by omega),show decide ((op:Int)=10)=true from dEt (by omega),D.len,A.len,h1,di0,h2];exact yQ0 ⟨by subst h;simp only[yZc,h1,h2,Bool.and_false,Bool.false_and],rfl⟩
   ·simp only[go_sem,zE,zA,zL,show decide ((op:Int)=1)=false from dEf (by omega),show decide ((op:Int)=2)=false from dEf (by omega),show decide ((op:Int)=3)=false from dEf (by omega),show decide ((op:Int)=10)=true from dEt (by omega),D.len,A.len,h1,di0,h2,di1];exact yQ0 ⟨by subst h;simp only[yZc,h1,h2,Bool.true_and,Bool.and_true],rfl⟩
 ·cases h1:decide (n=⟨#[]⟩)
  ·simp only[go_sem,zE,zA,zL,show decide ((op:Int)=1)=false from dEf (by omega),show decide ((op:Int)=2)=false from dEf (by omega),show decide ((op:Int)=3)=false from dEf (by omega),show decide ((op:Int)=10)=false from dEf (by omega),show decide ((op:Int)=11)=true from dEt (by omega),D.len,A.len,h1];exact yQ0 ⟨by subst h;simp[yZc,h1],rfl⟩
  ·cases h2:decide (us.length=0)
   ·simp only[go_sem,zE,zA,zL,show decide ((op:Int)=1)=false from dEf (by omega),show decide ((op:Int)=2)=false from dEf (by omega),show decide ((op:Int)=3)=false from dEf (by omega),show decide ((op:Int)=10)=false from dEf (by omega),show decide ((op:Int)=11)=true from dEt (by omega),D.len,A.len,h1,di0,h2];exact yQ0 ⟨by subst h;simp only[yZc,h1,h2,Bool.and_false,Bool.false_and],rfl⟩
   ·simp only[go_sem,zE,zA,zL,show decide ((op:Int)=1)=false from dEf (by omega),show decide ((op:Int)=2)=false from dEf (by omega),show decide ((op:Int)=3)=false from dEf (by omega),show decide ((op:Int)=10)=false from dEf (by omega),show decide ((op:Int)=11)=true from dEt (by omega),D.len,A.len,h1,di0,h2,di1];exact yQ0 ⟨by subst h;simp only[yZc,h1,h2,Bool.true_and,Bool.and_true],rfl⟩
 ·cases h1:decide (n=⟨#[]⟩)
  ·simp only[go_sem,zE,zA,zL,show decide ((op:Int)=1)=false from dEf (by omega),show decide ((op:Int)=2)=false from dEf (by omega),show decide ((op:Int)=3)=false from dEf (by omega),show decide ((op:Int)=10)=false from dEf (by omega),show decide ((op:Int)=11)=false from dEf (by omega),show decide ((op:Int)=12)=true from dEt (by omega),D.len,A.len,h1];exact yQ0 ⟨by subst h;simp[yZc,h1],rfl⟩
  ·cases h2:decide (us.length=0)
   ·simp only[go_sem,zE,zA,zL,show decide ((op:Int)=1)=false from dEf (by omega),show decide ((op:Int)=2)=false from dEf (by omega),show decide ((op:Int)=3)=false from dEf (by omega),show decide ((op:Int)=10)=false from dEf (by omega),show decide ((op:Int)=11)=false from dEf (by omega),show decide ((op:Int)=12)=true from dEt (by omega),D.len,A.len,h1,di0,h2];exact yQ0 ⟨by subst h;simp only[yZc,h1,h2,Bool.and_false,Bool.false_and],rfl⟩
   ·simp only[go_sem,zE,zA,zL,show decide ((op:Int)=1)=false from dEf (by omega),show decide ((op:Int)=2)=false from dEf (by omega),show decide ((op:Int)=3)=false from dEf (by omega),show decide ((op:Int)=10)=false from dEf (by omega),show decide ((op:Int)=11)=false from dEf (by omega),show decide ((op:Int)=12)=true from dEt (by omega),D.len,A.len,h1,di0,h2,di1];exact yQ0 ⟨by subst h;simp only[yZc,h1,h2,Bool.true_and,Bool.and_true],rfl⟩
 ·cases h1:decide (n=⟨#[]⟩)
  ·simp only[go_sem,zE,zA,zL,show decide ((op:Int)=1)=false from dEf (by omega),show decide ((op:Int)=2)=false from dEf (by omega),show decide ((op:Int)=3)=false from dEf (by omega),show decide ((op:Int)=10)=false from dEf (by omega),show decide ((op:Int)=11)=false from dEf (by omega),show decide ((op:Int)=12)=false from dEf (by omega),show decide ((op:Int)=13)=true from dEt (by omega),D.len,A.len,h1];exact yQ0 ⟨by subst h;simp[yZc,h1],rfl⟩
  ·cases h2:decide (us.length=0)
   ·simp only[go_sem,zE,zA,zL,show decide ((op:Int)=1)=false from dEf (by omega),show decide ((op:Int)=2)=false from dEf (by omega),show decide ((op:Int)=3)=false from dEf (by omega),show decide ((op:Int)=10)=false from dEf (by omega),show decide ((op:Int)=11)=false from dEf (by omega),show decide ((op:Int)=12)=false from dEf (by omega),show decide ((op:Int)=13)=true from dEt (by omega),D.len,A.len,h1,di0,h2];exact yQ0 ⟨by subst h;simp only[yZc,h1,h2,Bool.and_false,Bool.false_and],rfl⟩
   ·simp only[go_sem,zE,zA,zL,show decide ((op:Int)=1)=false from dEf (by omega),show decide ((op:Int)=2)=false from dEf (by omega),show decide ((op:Int)=3)=false from dEf (by omega),show decide ((op:Int)=10)=false from dEf (by omega),show decide ((op:Int)=11)=false from dEf (by omega),show decide ((op:Int)=12)=false from dEf (by omega),show decide ((op:Int)=13)=true from dEt (by omega),D.len,A.len,h1,di0,h2,di1];exact yQ0 ⟨by subst h;simp only[yZc,h1,h2,Bool.true_and,Bool.and_true],rfl⟩
 ·cases h1:decide (n=⟨#[]⟩)
  ·simp only[go_sem,zE,zA,zL,show decide ((op:Int)=1)=false from dEf (by omega),show decide ((op:Int)=2)=false from dEf (by omega),show decide ((op:Int)=3)=false from dEf (by omega),show decide ((op:Int)=10)=false from dEf (by omega),show decide ((op:Int)=11)=false from dEf (by omega),show decide ((op:Int)=12)=false from dEf (by omega),show decide ((op:Int)=13)=false from dEf (by omega),show decide ((op:Int)=4)=false from dEf (by omega),show decide ((op:Int)=5)=false from dEf (by omega),show decide ((op:Int)=6)=false from dEf (by omega),show decide ((op:Int)=7)=false from dEf (by omega),show decide ((op:Int)=14)=true from dEt (by omega),D.len,A.len,h1];exact yQ0 ⟨by subst h;simp[yZc,h1],rfl⟩
  ·cases h2:decide (us.length=0)
   ·simp only[go_sem,zE,zA,zL,show decide ((op:Int)=1)=false from dEf (by omega),show decide ((op:Int)=2)=false from dEf (by omega),show decide ((op:Int)=3)=false from dEf (by omega),show decide ((op:Int)=10)=false from dEf (by omega),show decide ((op:Int)=11)=false from dEf (by omega),show decide ((op:Int)=12)=false from dEf (by omega),show decide ((op:Int)=13)=false from dEf (by omega),show decide ((op:Int)=4)=false from dEf (by omega),show decide ((op:Int)=5)=false from dEf (by omega),show decide ((op:Int)=6)=false from dEf (by omega),show decide ((op:Int)=7)=false from dEf (by omega),show decide ((op:Int)=14)=true from dEt (by omega),D.len,A.len,h1,di0,h2];exact yQ0 ⟨by subst h;simp only[yZc,h1,h2,Bool.and_false,Bool.false_and],rfl⟩
   ·simp only[go_sem,zE,zA,zL,show decide ((op:Int)=1)=false from dEf (by omega),show decide ((op:Int)=2)=false from dEf (by omega),show decide ((op:Int)=3)=false from dEf (by omega),show decide ((op:Int)=10)=false from dEf (by omega),show decide ((op:Int)=11)=false from dEf (by omega),show decide ((op:Int)=12)=false from dEf (by omega),show decide ((op:Int)=13)=false from dEf (by omega),show decide ((op:Int)=4)=false from dEf (by omega),show decide ((op:Int)=5)=false from dEf (by omega),show decide ((op:Int)=6)=false from dEf (by omega),show decide ((op:Int)=7)=false from dEf (by omega),show decide ((op:Int)=14)=true from dEt (by omega),D.len,A.len,h1,di0,h2,di2];exact yQ0 ⟨by subst h;simp only[yZc,h1,h2,Bool.true_and,Bool.and_true],rfl⟩
 ·simp only[go_sem,zE,show decide ((op:Int)=1)=false from dEf (by omega),show decide ((op:Int)=2)=false from dEf (by omega),show decide ((op:Int)=3)=false from dEf (by omega),show decide ((op:Int)=10)=false from dEf (by omega),show decide ((op:Int)=11)=false from dEf (by omega),show decide ((op:Int)=12)=false from dEf (by omega),show decide ((op:Int)=13)=false from dEf (by omega),show decide ((op:Int)=4)=false from dEf (by omega),show decide ((op:Int)=5)=false from dEf (by omega),show decide ((op:Int)=6)=false from dEf (by omega),show decide ((op:Int)=7)=false from dEf (by omega),show decide ((op:Int)=14)=false from dEf (by omega),show decide ((op:Int)=8)=false from dEf (by omega),show decide ((op:Int)=9)=false from dEf (by omega),show decide ((op:Int)=15)=true from dEt (by omega),D.len,A.len];exact yQ0 ⟨by rw[h];rfl,rfl⟩
 ·simp only[go_sem,zE,show decide ((op:Int)=1)=false from dEf (by omega),show decide ((op:Int)=2)=false from dEf (by omega),show decide ((op:Int)=3)=false from dEf (by omega),show decide ((op:Int)=10)=false from dEf (by omega),show decide ((op:Int)=11)=false from dEf (by omega),show decide ((op:Int)=12)=false from dEf (by omega),show decide ((op:Int)=13)=false from dEf (by omega),show decide ((op:Int)=4)=false from dEf (by omega),show decide ((op:Int)=5)=false from dEf (by omega),show decide ((op:Int)=6)=false from dEf (by omega),show decide ((op:Int)=7)=false from dEf (by omega),show decide ((op:Int)=14)=false from dEf (by omega),show decide ((op:Int)=8)=false from dEf (by omega),show decide ((op:Int)=9)=false from dEf (by omega),show decide ((op:Int)=15)=false from dEf (by omega),show decide ((op:Int)=16)=true from dEt (by omega),D.len,A.len];exact yQ0 ⟨by rw[h];rfl,rfl⟩
 ·simp only[go_sem,zE,show decide ((op:Int)=1)=false from dEf (by omega),show decide ((op:Int)=2)=false from dEf (by omega),show decide ((op:Int)=3)=false from dEf (by omega),show decide ((op:Int)=10)=false from dEf (by omega),show decide ((op:Int)=11)=false from dEf (by omega),show decide ((op:Int)=12)=false from dEf (by omega),show decide ((op:Int)=13)=false from dEf (by omega),show decide ((op:Int)=4)=false from dEf (by omega),show decide ((op:Int)=5)=false from dEf (by omega),show decide ((op:Int)=6)=false from dEf (by omega),show decide ((op:Int)=7)=false from dEf (by omega),show decide ((op:Int)=14)=false from dEf (by omega),show decide ((op:Int)=8)=false from dEf (by omega),show decide ((op:Int)=9)=false from dEf (by omega),show decide ((op:Int)=15)=false from dEf (by omega),show decide ((op:Int)=16)=false from dEf (by omega),D.len,A.len];exact yQ0 ⟨by rw[wWv h],rfl⟩
def RSz (us:List Tm):Prop:=∀(D:Tag) (A:List IV) (_:okEs D 3) (_:IsTms us A) (_:yQa us<=1099511627776) (st:ISt),
 ICall prog gl 215 [.sl D A] st (λr st'=>r=.raw (.int .i64 (yQa us))/\st'=st)
theorem zQd:∀(l m:List Tm),yQa (l++m)=yQa l+yQa m
 | [],m=>by simp[yQa]
 | a::l,m=>by simp only[List.cons_append,yQa,zQd l m];omega
theorem zW4:∀(l m:List Tm),yQl (l++m)=max (yQl l) (yQl m)
 | [],m=>by simp[yQl]
 | a::l,m=>by simp only[List.cons_append,yQl,zW4 l m];omega
theorem zQe:∀(l m:List Fm),yQ9 (l++m)=yQ9 l+yQ9 m
 | [],m=>by simp[yQ9]
 | a::l,m=>by simp only[List.cons_append,yQ9,zQe l m];omega
theorem zW5:∀(l m:List Fm),yQu (l++m)=max (yQu l) (yQu m)
 | [],m=>by simp[yQu]
 | a::l,m=>by simp only[List.cons_append,yQu,zW5 l m];omega
theorem xXq:∀(l m:List Fm),yVm (l++m)=(yVm l&&yVm m)
 | [],m=>by simp[yVm]
 | a::l,m=>by simp only[List.cons_append,yVm,xXq l m,Bool.and_assoc]
theorem zZ0 {us:List Tm}{k:Nat}{a:Tm}(h:us[k]?=some a):yQa (us.take (k+1))=yQa (us.take k)+a.size/\yQa (us.take k)+a.size<=yQa us:=by
 have h1:yQa (us.take (k+1))=yQa (us.take k)+a.size:=by rw[yQ4 h,zQd];simp[yQa]
 refine⟨h1,?_⟩;have h2:yQa us=yQa (us.take (k+1))+yQa (us.drop (k+1)):=by rw[<- zQd,List.take_append_drop]
 omega
theorem yX2 {us:List Fm}{k:Nat}{a:Fm}(h:us[k]?=some a):yQ9 (us.take (k+1))=yQ9 (us.take k)+a.size/\yQ9 (us.take k)+a.size<=yQ9 us:=by
 have h1:yQ9 (us.take (k+1))=yQ9 (us.take k)+a.size:=by rw[yQ4 h,zQe];simp[yQ9]
 refine⟨h1,?_⟩;have h2:yQ9 us=yQ9 (us.take (k+1))+yQ9 (us.drop (k+1)):=by rw[<- zQe,List.take_append_drop]
 omega
theorem yV6:∀l:List Fm,l.length<=yQ9 l
 | []=>Nat.le_refl _
 | a::l=>by have:=yV6 l;have:=a.size_pos;simp only[List.length_cons,yQ9];omega
mutual
theorem xJp:∀t:Tm,t.deep<=t.size
 | .mk _ _ l=>by have:=yJg l;simp only[Tm.deep,Tm.size];omega
theorem yJg:∀l:List Tm,yQl l<=yQa l
 | []=>Nat.le_refl _
 | a::l=>by have:=xJp a;have:=yJg l;simp only[yQl,yQa];omega
end
mutual
theorem xQu:∀t:Fm,t.deep<=t.size
 | .mk _ _ l s=>by have:=yJg l;have:=yWd s;simp only[Fm.deep,Fm.size];omega
theorem yWd:∀l:List Fm,yQu l<=yQ9 l
 | []=>Nat.le_refl _
 | a::l=>by have:=xQu a;have:=yWd l;simp only[yQu,yQ9];omega
end
theorem uQs {a b:Nat}(h:a+b<=281474976710656):IntKind.i64.wrap ((a:Int)+(b:Int))=((a+b:Nat):Int):=by rw[w64]<;>omega
theorem vK1 {a b:Nat}(h:a+1+b<=281474976710656):IntKind.i64.wrap (IntKind.i64.wrap ((a:Int)+1)+(b:Int))=((a+(b+1):Nat):Int):=by rw[w64,w64]<;>(try rw[w64])<;>omega
theorem xUo (us:List Tm)(IH:∀v n l,Tm.mk v n l∈us->RSz gl l):RSz gl us:=by
 intro tg xs G A af st;have W:=yZu us;refine iI func215 ?_;simp only[go_sem];refine LoopC.ctr us.length (λk fr st' ds=>fr 0=.iv (.sl tg xs)/\fr 3=.iv (.raw (.int .i64 (yQa (us.take k))))/\fr 4=.iv (.raw (.int .i64 k))/\st'=st/\ds=[]) ?_ ?_ ?_
 ·simp only[go_sem,zE,reduceCtorEq]
  first|rfl|exact⟨rfl,rfl⟩
 ·rintro k fr st _ D ⟨f0,f3,f4,rfl,rfl⟩;obtain⟨⟨v,n,m⟩,U⟩:=yQ3 D;obtain⟨y,O,hy⟩:=A.get U;have E:=lMg U;obtain⟨h1,h2⟩:=zZ0 U;obtain⟨t3,x3,rfl,J,F⟩:=hy.mk;simp only[Tm.size] at h1 h2;simp only[go_sem,zE,zA,reduceCtorEq,f0,f3,f4,A.len,lt_i D,yQ2 G,iNn,O,fits];intros;refine (IH v n m E t3 x3 J F (by omega) _).mono ?_;rintro _ st ⟨rfl,rfl⟩;simp only[go_sem,zE,reduceCtorEq,f0,f4,yQb D (show us.length<=281474976710656 by omega),vK1 (show yQa (us.take k)+1+yQa m<=281474976710656 by omega),h1]
 ·rintro fr st _ ⟨f0,f3,f4,rfl,rfl⟩;rw[lTl] at f3;simp only[go_sem,zE,reduceCtorEq,f0,f3,f4,A.len,yQj (nLi _)];intros;exact yQ0 ⟨rfl,rfl⟩
theorem xX1:∀(k:Nat)(us:List Tm),SizeOf.sizeOf us<k->RSz gl us
 | 0,f,h=>by omega
 | k+1,us,h=>xUo gl us (λv n l A=>xX1 k l (by
   have:=lSm A;simp at this;omega))
theorem vQy (us:List Tm):RSz gl us:=xX1 gl _ us (Nat.lt_succ_self _)
def RDp (us:List Tm):Prop:=∀(D:Tag) (A:List IV) (_:okEs D 3) (_:IsTms us A) (_:yQa us<=1099511627776) (st:ISt),
 ICall prog gl 216 [.sl D A] st (λr st'=>r=.raw (.int .i64 (yQl us))/\st'=st)
theorem xUt (us:List Tm)(IH:∀v n l,Tm.mk v n l∈us->RDp gl l):RDp gl us:=by
 intro tg xs J D ah st;have aa:=yZu us;refine iI func216 ?_;simp only[go_sem];refine LoopC.ctr us.length (λk fr st' ds=>fr 0=.iv (.sl tg xs)/\fr 3=.iv (.raw (.int .i64 (yQl (us.take k))))/\fr 4=.iv (.raw (.int .i64 k))/\st'=st/\ds=[]) ?_ ?_ ?_
 ·simp only[go_sem,zE,reduceCtorEq]
  first|rfl|exact⟨rfl,rfl⟩
 ·rintro k fr st _ A ⟨f0,f3,f4,rfl,rfl⟩;obtain⟨⟨v,n,m⟩,F⟩:=yQ3 A;obtain⟨y,U,hy⟩:=D.get F;have E:=lMg F;have h1:yQl (us.take (k+1))=max (yQl (us.take k)) (yQl m+1):=by rw[yQ4 F,zW4];simp[yQl,Tm.deep]
  have h2:=(zZ0 F).2;have h3:=yJg m;have h4:=yJg (us.take k);obtain⟨t3,x3,rfl,O,G⟩:=hy.mk;simp only[Tm.size] at h2;simp only[go_sem,zE,zA,reduceCtorEq,f0,f4,D.len,lt_i A,yQ2 J,iNn,U,fits];intros;refine (IH v n m E t3 x3 O G (by omega) _).mono ?_;rintro _ st ⟨rfl,rfl⟩;have W:IntKind.i64.wrap ((yQl m:Int)+1)=((yQl m+1:Nat):Int):=by rw[w64]<;>omega
  by_cases hg:yQl (us.take k)<yQl m+1
  ·simp only[go_sem,zE,reduceCtorEq,f0,f3,f4,W,lt_i hg,yQb A (show us.length<=281474976710656 by omega)];rw[h1,Nat.max_eq_right (by omega)]
  ·simp only[go_sem,zE,reduceCtorEq,f0,f3,f4,W,yQj hg,yQb A (show us.length<=281474976710656 by omega)];rw[h1,Nat.max_eq_left (by omega)]
 ·rintro fr st _ ⟨f0,f3,f4,rfl,rfl⟩;rw[lTl] at f3;simp only[go_sem,zE,reduceCtorEq,f0,f3,f4,D.len,yQj (nLi _)];intros;exact yQ0 ⟨rfl,rfl⟩
theorem xX7:∀(k:Nat)(us:List Tm),SizeOf.sizeOf us<k->RDp gl us
 | 0,f,h=>by omega
 | k+1,us,h=>xUt gl us (λv n l A=>xX7 k l (by
   have:=lSm A;simp at this;omega))
theorem vZ4 (us:List Tm):RDp gl us:=xX7 gl _ us (Nat.lt_succ_self _)
def RNd (f:Fm):Prop:=∀(x:IV) (_:IsFm f x) (_:f.size<=1099511627776) (st:ISt),ICall prog gl 159 [x] st (λr st'=>r=.raw (.int .i64 f.size)/\st'=st)
theorem xKz (op:Nat)(n:ByteArray)(us:List Tm)(sub:List Fm)(IH:∀a∈sub,RNd gl a):RNd gl (.mk op n us sub):=by
 intro x hx ab st;obtain⟨ta,xa,tb,xb,rfl,ho,aa,O,W,A⟩:=hx.mk;simp only[Fm.size] at ab;have ao:=yZu us;have an:=yV6 sub;refine iI func159 ?_;simp only[go_sem,zE,zA];refine (vQy gl us ta xa aa O (by omega) _).mono ?_;rintro _ st ⟨rfl,rfl⟩;have U:IntKind.i64.wrap (1+(yQa us:Int))=((yQa us+1:Nat):Int):=by rw[w64]<;>omega
 simp only[go_sem,U];refine LoopC.ctr sub.length (λk fr st' ds=>fr 1=.box [.raw (.int .u8 op),.raw (.string n),.sl ta xa,.sl tb xb]/\fr 3=.iv (.raw (.int .i64 ((yQa us+1+yQ9 (sub.take k):Nat):Int)))/\fr 4=.iv (.raw (.int .i64 k))/\st'=st/\ds=[]) ?_ ?_ ?_
 ·simp only[go_sem,zE]
  first|rfl|exact⟨rfl,rfl⟩
 ·rintro k fr st _ D ⟨f1,f3,f4,rfl,rfl⟩;obtain⟨a,ha⟩:=yQ3 D;obtain⟨y,ac,hy⟩:=A.get ha;have G:=lMg ha;obtain⟨h1,h2⟩:=yX2 ha;have E:=IH a G y hy (by omega);obtain⟨o5,n5,J,F⟩:=a;obtain⟨t3,x3,t4,x4,rfl,_⟩:=hy.mk;simp only[go_sem,zE,zB,zA,f1,f3,f4,A.len,lt_i D,yQ2 W,iNn,ac,fits];intros;refine (E _).mono ?_;rintro _ st ⟨rfl,rfl⟩;simp only[go_sem,zE,f1,f4,yQb D (show sub.length<=281474976710656 by omega),uQs (show (yQa us+1+yQ9 (sub.take k))+(Fm.mk o5 n5 J F).size<=281474976710656 by omega),h1];rw[Nat.add_assoc (yQa us+1)]
 ·rintro fr st _ ⟨f1,f3,f4,rfl,rfl⟩;rw[lTl] at f3;simp only[go_sem,zE,f1,f3,f4,A.len,yQj (nLi _)];intros;exact yQ0 ⟨by rw[show (Fm.mk op n us sub).size=yQa us+1+yQ9 sub by simp only[Fm.size];omega],rfl⟩
theorem zYx:∀(k:Nat)(t:Fm),SizeOf.sizeOf t<k->RNd gl t
 | 0,f,h=>by omega
 | k+1,.mk o n us sub,h=>xKz gl o n us sub (λa A=>zYx k a (by
   have:=lSm A;simp at h;omega))
theorem xY5 (t:Fm):RNd gl t:=zYx gl _ t (Nat.lt_succ_self _)
def RDd (f:Fm):Prop:=∀(x:IV) (_:IsFm f x) (_:f.size<=1099511627776) (st:ISt),ICall prog gl 160 [x] st (λr st'=>r=.raw (.int .i64 f.deep)/\st'=st)
theorem xV0 (op:Nat)(n:ByteArray)(us:List Tm)(sub:List Fm)(IH:∀a∈sub,RDd gl a):RDd gl (.mk op n us sub):=by
 intro x hx ae st;obtain⟨ta,xa,tb,xb,rfl,ho,ac,aa,ab,F⟩:=hx.mk;simp only[Fm.size] at ae;have aq:=yZu us;have ao:=yV6 sub;have av:=yJg us;have au:=yWd sub;refine iI func160 ?_;simp only[go_sem,zE,zA];refine (vZ4 gl us ta xa ac aa (by omega) _).mono ?_;rintro _ st ⟨rfl,rfl⟩;simp only[go_sem];refine LoopC.ctr sub.length (λk fr st' ds=>fr 1=.box [.raw (.int .u8 op),.raw (.string n),.sl ta xa,.sl tb xb]/\fr 3=.iv (.raw (.int .i64 ((max (yQl us) (yQu (sub.take k)):Nat):Int)))/\fr 4=.iv (.raw (.int .i64 k))/\st'=st/\ds=[]) ?_ ?_ ?_
 ·simp only[go_sem,zE];rw[show max (yQl us) (yQu [])=yQl us by simp[yQu]];exact⟨rfl,rfl⟩
 ·rintro k fr st _ E ⟨f1,f3,f4,rfl,rfl⟩;obtain⟨a,W⟩:=yQ3 E;obtain⟨y,af,hy⟩:=F.get W;have J:=lMg W;have h2:=(yX2 W).2;have G:=IH a J y hy (by omega);have h1:yQu (sub.take (k+1))=max (yQu (sub.take k)) a.deep:=by rw[yQ4 W,zW5];simp[yQu]
  obtain⟨O,U,D,A⟩:=a;obtain⟨t3,x3,t4,x4,rfl,_⟩:=hy.mk;simp only[go_sem,zE,zB,zA,f1,f4,F.len,lt_i E,yQ2 ab,iNn,af,fits];intros;refine (G _).mono ?_;rintro _ st ⟨rfl,rfl⟩;by_cases hg:max (yQl us) (yQu (sub.take k))<(Fm.mk O U D A).deep
  ·simp only[go_sem,zE,f1,f3,f4,lt_i hg,yQb E (show sub.length<=281474976710656 by omega)];rw[h1,show max (yQl us) (max (yQu (sub.take k)) (Fm.mk O U D A).deep)=(Fm.mk O U D A).deep by omega]
  ·simp only[go_sem,zE,f1,f3,f4,yQj hg,yQb E (show sub.length<=281474976710656 by omega)];rw[h1,show max (yQl us) (max (yQu (sub.take k)) (Fm.mk O U D A).deep)=max (yQl us) (yQu (sub.take k)) by omega]
 ·rintro fr st _ ⟨f1,f3,f4,rfl,rfl⟩;rw[lTl] at f3;have hw:IntKind.i64.wrap (((max (yQl us) (yQu sub):Nat):Int)+1)=((max (yQl us) (yQu sub)+1:Nat):Int):=by rw[w64]<;>omega
  simp only[go_sem,zE,f1,f3,f4,F.len,yQj (nLi _),hw];intros;exact yQ0 ⟨by simp only[Fm.deep],rfl⟩
theorem zYy:∀(k:Nat)(t:Fm),SizeOf.sizeOf t<k->RDd gl t
 | 0,f,h=>by omega
 | k+1,.mk o n us sub,h=>xV0 gl o n us sub (λa A=>zYy k a (by
   have:=lSm A;simp at h;omega))
theorem xY7 (t:Fm):RDd gl t:=zYy gl _ t (Nat.lt_succ_self _)
theorem wXt {l:List Fm}{a:Fm}(h:a∈l)(D:a.ok=false):yVm l=false:=by
 induction l with
 | nil=>cases h
 | cons b l A =>
  simp only[yVm];rcases List.mem_cons.1 h with rfl|h
  ·simp[D]
  ·simp[A h]
def RRw (f:Fm):Prop:=∀(x:IV) (_:IsFm f x) (_:f.size<=1099511627776) (st:ISt),ICall prog gl 158 [x,.raw (.bool false)] st (λr st'=>r=.raw (.bool f.ok)/\st'=st)
theorem xUq (op:Nat)(n:ByteArray)(us:List Tm)(sub:List Fm)(IH:∀a∈sub,RRw gl a):RRw gl (.mk op n us sub):=by
 intro x hx ai st;have ac:=λst=>uZ6 gl op n us sub x hx st;obtain⟨ta,xa,tb,xb,rfl,ho,ah,U,ag,O⟩:=hx.mk;simp only[Fm.size] at ai;have az:=yZu us;have ay:=yV6 sub;refine iI func158 ?_;simp only[go_sem,zE,zA,zL];refine (ac _).mono ?_;rintro _ st ⟨rfl,rfl⟩;cases hr:yZc op n us.length sub.length
 ·simp only[go_sem];exact yQ0 ⟨by simp[Fm.ok,hr],rfl⟩
 simp only[go_sem];refine LoopC.ctr us.length (λk fr st' ds=>yJt (us.take k)=true/\fr 1=.iv (.raw (.bool false))/\fr 2=.box [.raw (.int .u8 op),.raw (.string n),.sl ta xa,.sl tb xb]/\fr 5=.iv (.raw (.int .i64 k))/\st'=st/\ds=[]) ?_ ?_ ?_
 ·simp only[go_sem,zE];exact⟨rfl,rfl⟩
 ·rintro k fr st _ D ⟨G,f1,f2,f5,rfl,rfl⟩;obtain⟨a,J⟩:=yQ3 D;obtain⟨y,W,hy⟩:=U.get J;have A:=lMg J;have E:=wX7 gl a y hy (by have:=yWm A;omega) st;obtain⟨v3,n3,m3⟩:=a;obtain⟨t3,x3,rfl,_⟩:=hy.mk;simp only[go_sem,zE,zB,zA,f1,f2,f5,U.len,lt_i D,yQ2 ah,iNn,W,fits];intros;refine E.mono ?_;rintro _ st ⟨rfl,rfl⟩;cases hb:(Tm.mk v3 n3 m3).ok
  ·simp only[go_sem];exact yQ0 ⟨by simp[Fm.ok,xXn A hb],rfl⟩
  ·simp only[go_sem,zE,f1,f2,f5,yQb D (show us.length<=281474976710656 by omega)];rw[yQ4 J,yVe,G];simp[yJt,hb]
 ·rintro fr st _ ⟨G,f1,f2,f5,rfl,rfl⟩;rw[lTl] at G;simp only[go_sem,zE,f2,f5,U.len,yQj (nLi _)];intros;refine LoopC.ctr sub.length (λk fr st' ds=>yVm (sub.take k)=true/\fr 1=.iv (.raw (.bool false))/\fr 2=.box [.raw (.int .u8 op),.raw (.string n),.sl ta xa,.sl tb xb]/\fr 6=.iv (.raw (.int .i64 k))/\st'=st/\ds=[]) ?_ ?_ ?_
  ·simp only[go_sem,zE,f1,f2];exact⟨rfl,rfl⟩
  ·rintro k fr st _ D ⟨F,f1,f2,f6,rfl,rfl⟩;obtain⟨a,J⟩:=yQ3 D;obtain⟨y,W,hy⟩:=O.get J;have A:=lMg J;have h2:=(yX2 J).2;have E:=IH a A y hy (by omega);obtain⟨o5,n5,af,aa⟩:=a;obtain⟨t3,x3,t4,x4,rfl,_⟩:=hy.mk;simp only[go_sem,zE,zB,zA,f1,f2,f6,O.len,lt_i D,yQ2 ag,iNn,W,fits];intros;refine (E _).mono ?_;rintro _ st ⟨rfl,rfl⟩;cases hb:(Fm.mk o5 n5 af aa).ok
   ·simp only[go_sem];exact yQ0 ⟨by rw[show (Fm.mk op n us sub).ok=false by simp only[Fm.ok,wXt A hb,Bool.and_false]],rfl⟩
   ·simp only[go_sem,zE,f1,f2,f6,yQb D (show sub.length<=281474976710656 by omega)];rw[yQ4 J,xXq,F];simp only[yVm,hb,Bool.and_self]
  ·rintro fr st _ ⟨F,f1,f2,f6,rfl,rfl⟩;rw[lTl] at F;simp only[go_sem,zE,f2,f6,O.len,yQj (nLi _)];intros;exact yQ0 ⟨by simp only[Fm.ok,hr,G,F,Bool.and_self],rfl⟩
theorem xX3:∀(k:Nat)(t:Fm),SizeOf.sizeOf t<k->RRw gl t
 | 0,f,h=>by omega
 | k+1,.mk o n us sub,h=>xUq gl o n us sub (λa A=>xX3 k a (by
   have:=lSm A;simp at h;omega))
theorem vZ5 (t:Fm):RRw gl t:=xX3 gl _ t (Nat.lt_succ_self _)
theorem zZ6 (f:Fm)(x:IV)(D:IsFm f x)(E:f.size<=1099511627776)(st:ISt):ICall prog gl 111 [x] st (λr st'=>r=.raw (.bool f.right)/\st'=st):=by
 have h1:=λst=>vZ5 gl f x D E st;have h2:=λst=>xY5 gl f x D E st;have J:=λst=>xY7 gl f x D E st;have A:f.right=(f.ok&&decide (f.size<=400)&&decide (f.deep<=40)):=rfl;obtain⟨op,n,us,sub⟩:=f;obtain⟨ta,U,W,O,rfl,_⟩:=D.mk;generalize Fm.mk op n us sub=f at *;refine iI func111 ?_;simp only[go_sem,zE,zA,zL];refine (h1 _).mono ?_;rintro _ st ⟨rfl,rfl⟩;cases G:f.ok
 ·simp only[go_sem,zE];exact yQ0 ⟨by simp[A,G],rfl⟩
 simp only[go_sem,zE,zA,zL];refine (h2 _).mono ?_;rintro _ st ⟨rfl,rfl⟩;by_cases F:f.size<=400
 ·simp only[go_sem,zE,zA,zL,show decide ((f.size:Int)<=400)=true from dEt (by omega)];refine (J _).mono ?_;rintro _ st ⟨rfl,rfl⟩;simp only[go_sem,zE];refine yQ0 ⟨?_,rfl⟩;rw[A,G,dEt F];congr 3;simp;omega
 ·simp only[go_sem,zE,show decide ((f.size:Int)<=400)=false from dEf (by omega)];exact yQ0 ⟨by simp[A,F],rfl⟩
