/- Walks of the second program: names, righ -/
import Derived.Test.YtabhgbojkjcfjaaGreatDoorJL
set_option linter.all false
open Nat renaming reduceEqDiff → zE,reduceBEq → zB,reduceAdd → zA,reduceLeDiff → zL
namespace Go.Proofs.Tryz
open Go Go.Iv
set_option maxRecDepth 4000
variable (gl:Nat->Option IV)
theorem in_n (c:UInt8)(lo hi:Nat)(a b:Int)(ha:a=lo)(hb:b=hi)(st:ISt):ICall prog gl 114 [.raw (.int .u8 c.toNat),.raw (.int .u8 a),.raw (.int .u8 b)] st (λx st'=>x=.raw (.bool (inB lo hi c))/\st'=st):=by
 subst ha hb;have hleq:∀x y:Int,binI prog 5 .leq (.int .u8 x) (.int .u8 y)=some (.bool (decide (x<=y))):=λx y=>by simp only[go_sem]
 refine iI func114 ?_;by_cases h1:lo<=c.toNat
 ·simp only[go_sem,zE,reduceCtorEq,show decide ((lo:Int)<=(c.toNat:Int))=true from dEt (by omega)];exact yQ0 ⟨by congr 3;simp[inB,h1],rfl⟩
 ·simp only[go_sem,zE,reduceCtorEq,show decide ((lo:Int)<=(c.toNat:Int))=false from dEf (by omega)];exact yQ0 ⟨by simp[inB,h1],rfl⟩
def yVy (d:Bool)(c:UInt8):Bool:=yKr c || (!d&&(yJ2 c || yWy c))
def yXs (d:Bool)(s:ByteArray):Bool :=
 match s.data.toList with
 | []=>false
 | _::cs=>decide (cs.length<16)&&cs.all (yVy d)
theorem zJq (s:ByteArray)(d:Bool)(st:ISt):ICall prog gl 113 [.raw (.string s),.raw (.bool d)] st (λx st'=>x=.raw (.bool (yXs d s))/\st'=st):=by
 refine iI func113 ?_;have hsz:=zJd s;cases hl:s.data.toList with
 | nil =>
  rw[hl] at hsz;simp only[go_sem];refine LoopC.ctr 0 (λk fr st' ds=>fr 0=.iv (.raw (.string s))/\fr 5=.iv (.raw (.int .i64 1))/\st'=st/\ds=[]) ?_ ?_ ?_
  ·simp only[go_sem,reduceCtorEq]
  ·intro k _ _ _ h;omega
  ·rintro fr _ _ ⟨f0,f5,rfl,rfl⟩;simp only[go_sem,zE,reduceCtorEq,f0,f5,show decide ((1:Int)<((s.size:Nat):Int))=false from dEf (by rw[hsz];simp),show decide ((0:Int)<((s.size:Nat):Int))=false from dEf (by rw[hsz];simp)];intros;exact yQ0 ⟨by simp[yXs,hl],rfl⟩
 | cons c cs =>
  rw[hl,List.length_cons] at hsz;simp only[go_sem];refine LoopC.ctr cs.length (λk fr st' ds=>(cs.take k).all (yVy d)=true/\fr 0=.iv (.raw (.string s))/\fr 1=.iv (.raw (.bool d))/\fr 5=.iv (.raw (.int .i64 ((k+1:Nat):Int)))/\st'=st/\ds=[]) ?_ ?_ ?_
  ·simp only[go_sem,zE,reduceCtorEq];rfl
  ·rintro k fr st _ hlt ⟨hn,f0,f1,f5,rfl,rfl⟩;obtain⟨x,hx⟩:=yQ2 hlt;have hlt':decide (((k+1:Nat):Int)<((s.size:Nat):Int))=true:=by rw[hsz];simp;omega
   have hx':zUa s ((k+1:Nat):Int)=some x:=zY7 (by rw[hl];simpa using hx);have hbad:yVy d x=false->yXs d s=false:=λh=>by
    have:cs.all (yVy d)=false:=by rw[List.all_eq_false];exact⟨x,lMg hx,by simp[h]⟩
    simp[yXs,hl,this]
   have hgood:yVy d x=true->(cs.take (k+1)).all (yVy d)=true:=λh=>by
    rw[yQ5 hx,List.all_append,hn];simp[h]
   simp only[go_sem,zE,zA,reduceCtorEq,f0,f5,hlt',hx'];intro hlen;have hw:IntKind.i64.wrap (((k+1:Nat):Int)+1)=((k+1+1:Nat):Int):=by rw[w64]<;>omega
   refine (in_n gl x 48 57 _ _ rfl rfl _).mono ?_;rintro _ st ⟨rfl,rfl⟩;cases h1:inB 48 57 x
   case true =>
    simp only[go_sem,zE,reduceCtorEq,f0,f1,f5,hw];exact hgood (by simp[yVy,yKr,h1])
   cases d
   case true =>
    simp only[go_sem,zE,f1];exact yQ0 ⟨by rw[hbad (by simp[yVy,yKr,h1])],rfl⟩
   simp only[go_sem,zE,zA,reduceCtorEq,f0,f1,f5,hx'];refine (in_n gl x 65 90 _ _ rfl rfl _).mono ?_;rintro _ st ⟨rfl,rfl⟩;cases h2:inB 65 90 x
   case true =>
    simp only[go_sem,zE,reduceCtorEq,f0,f1,f5,hw];exact hgood (by simp[yVy,yJ2,h2])
   simp only[go_sem,zE,zA,reduceCtorEq,f0,f5,hx'];refine (in_n gl x 97 122 _ _ rfl rfl _).mono ?_;rintro _ st ⟨rfl,rfl⟩;cases h3:inB 97 122 x
   case true =>
    simp only[go_sem,zE,reduceCtorEq,f0,f1,f5,hw];exact hgood (by simp[yVy,yWy,h3])
   simp only[go_sem,zE];exact yQ0 ⟨by rw[hbad (by simp[yVy,yKr,yJ2,yWy,h1,h2,h3])],rfl⟩
  ·rintro fr st _ ⟨hn,f0,f1,f5,rfl,rfl⟩;rw[lTl] at hn;simp only[go_sem,zE,reduceCtorEq,f0,f5,show decide (((cs.length+1:Nat):Int)<((s.size:Nat):Int))=false from dEf (by rw[hsz];simp),show decide ((0:Int)<((s.size:Nat):Int))=true from dEt (by rw[hsz];omega)];intros;refine yQ0 ⟨?_,rfl⟩;congr 3;simp only[yXs,hl,hn,Bool.and_true];rw[hsz];simp;omega
theorem xUy {p q:UInt8->Bool}{s:ByteArray}{c:UInt8}{cs:List UInt8}(hl:s.data.toList=c::cs)(h:p c=true)(hq:cs.all q=true)
  (hw:∀w∈[wAll,xZq,zXy,xZr,yU5,zVn],(match w.data.toList with|[]=>true|c::cs=>p c&&cs.all q)=false):yXn s=false:=by
 have key:∀w∈[wAll,xZq,zXy,xZr,yU5,zVn],s≠w:=λw hm he=>by
  have:=hw w hm;rw[<- he,hl] at this;simp[h,hq] at this
 simp only[List.mem_cons,List.not_mem_nil,or_false,forall_eq_or_imp,forall_eq] at key;obtain⟨k1,k2,k3,k4,k5,k6⟩:=key;unfold yXn;rw[dEf k1,dEf k2,dEf k3,dEf k4,dEf k5,dEf k6];rfl
theorem zQs:yVy true=yKr:=by funext c;simp[yVy]
theorem yVb:yVy false=yW4:=by
 funext c;simp only[yVy,yW4,Bool.not_false,Bool.true_and];cases yKr c<;>cases yJ2 c<;>cases yWy c<;>rfl
theorem yUg {d:Bool}{s:ByteArray}(h:yXs d s=true):∃c cs,s.data.toList=c::cs/\cs.length<16/\cs.all (yVy d)=true:=by
 unfold yXs at h;split at h
 ·cases h
 ·rename_i c cs hl;simp only[bAt,dTe] at h;exact⟨c,cs,hl,h.1,h.2⟩
theorem yVh {p:UInt8->Bool}{d:Bool}{s:ByteArray}{c:UInt8}{cs:List UInt8}(hl:s.data.toList=c::cs)(hr:p c=true->cs.all (yVy d)=true->yXn s=false):yKh p (yVy d) s=(yXs d s&&p c):=by
 simp only[yKh,yXs,hl];cases h1:p c
 ·simp
 ·cases h2:cs.all (yVy d)
  ·simp
  ·simp[hr h1 h2]
theorem zYx {p:UInt8->Bool}{d:Bool}{s:ByteArray}(h:yXs d s=false):yKh p (yVy d) s=false:=by
 unfold yXs at h;unfold yKh;split
 ·rfl
 ·rename_i c cs hl;rw[hl] at h;simp only at h;cases h1:decide (cs.length<16)<;>cases h2:cs.all (yVy d)<;>simp_all
theorem yUb (s:ByteArray)(st:ISt):ICall prog gl 67 [.raw (.string s)] st (λx st'=>x=.raw (.bool (yW2 s))/\st'=st):=by
 refine iI func67 ?_;simp only[go_sem,zA,reduceCtorEq];refine (zJq gl s true _).mono ?_;rintro _ st ⟨rfl,rfl⟩;cases h:yXs true s
 ·simp only[go_sem,zE];exact yQ0 ⟨by rw[yW2,<- zQs,zYx h],rfl⟩
 ·obtain⟨c,cs,hl,h16,hq⟩:=yUg h;simp only[go_sem,zE,zA,reduceCtorEq,yG9 hl];refine (in_n gl c 117 122 _ _ rfl rfl _).mono ?_;rintro _ st ⟨rfl,rfl⟩;simp only[go_sem,zE];refine yQ0 ⟨?_,rfl⟩;rw[yW2,<- zQs,yVh hl (λh1 h2=>xUy hl h1 (by rw[zQs] at h2;exact h2) (by decide)),h,Bool.true_and]
theorem zUw (s:ByteArray)(st:ISt):ICall prog gl 264 [.raw (.string s)] st (λx st'=>x=.raw (.bool (zJm s))/\st'=st):=by
 refine iI func264 ?_;simp only[go_sem,zA,reduceCtorEq];refine (zJq gl s false _).mono ?_;rintro _ st ⟨rfl,rfl⟩;cases h:yXs false s
 ·simp only[go_sem,zE];exact yQ0 ⟨by rw[zJm,<- yVb,zYx h],rfl⟩
 ·obtain⟨c,cs,hl,h16,hq⟩:=yUg h;simp only[go_sem,zE,zA,reduceCtorEq,yG9 hl];refine (in_n gl c 65 90 _ _ rfl rfl _).mono ?_;rintro _ st ⟨rfl,rfl⟩;simp only[go_sem,zE];refine yQ0 ⟨?_,rfl⟩;rw[zJm,<- yVb,yVh hl (λh1 h2=>xUy hl h1 (by rw[yVb] at h2;exact h2) (by decide)),h,Bool.true_and];rfl
theorem yWc {s:ByteArray}(h:yXn s=true):zVe s=false:=by
 unfold zVe yKh;split
 ·rfl
 ·simp[h]
theorem xXh (s:ByteArray)(st:ISt):ICall prog gl 162 [.raw (.string s)] st (λx st'=>x=.raw (.bool (zVe s))/\st'=st):=by
 refine iI func162 ?_;simp only[go_sem,zA,zL,reduceCtorEq];refine yZ5 (λh=>?_) (λh=>?_)
 ·simp only[go_sem,h];exact yQ0 ⟨by rw[yWc (by rw[show s=wAll from of_decide_eq_true h];rfl)],rfl⟩
 have h1:s≠wAll:=of_decide_eq_false h;simp only[go_sem,zE,zA,zL,h];refine yZ5 (λh=>?_) (λh=>?_)
 ·simp only[go_sem,h];exact yQ0 ⟨by rw[yWc (by rw[show s=xZq from of_decide_eq_true h];rfl)],rfl⟩
 have h2:s≠xZq:=of_decide_eq_false h;simp only[go_sem,zE,zA,zL,h];refine yZ5 (λh=>?_) (λh=>?_)
 ·simp only[go_sem,h];exact yQ0 ⟨by rw[yWc (by rw[show s=zXy from of_decide_eq_true h];rfl)],rfl⟩
 have h3:s≠zXy:=of_decide_eq_false h;simp only[go_sem,zE,zA,zL,h];refine yZ5 (λh=>?_) (λh=>?_)
 ·simp only[go_sem,h];exact yQ0 ⟨by rw[yWc (by rw[show s=xZr from of_decide_eq_true h];rfl)],rfl⟩
 have h4:s≠xZr:=of_decide_eq_false h;simp only[go_sem,zE,zA,zL,h];refine yZ5 (λh=>?_) (λh=>?_)
 ·simp only[go_sem,h];exact yQ0 ⟨by rw[yWc (by rw[show s=yU5 from of_decide_eq_true h];rfl)],rfl⟩
 have h5:s≠yU5:=of_decide_eq_false h;simp only[go_sem,zA,reduceCtorEq,h];refine (zJq gl s false _).mono ?_;rintro _ st ⟨rfl,rfl⟩;cases h:yXs false s
 ·simp only[go_sem,zE];exact yQ0 ⟨by rw[zVe,<- yVb,zYx h],rfl⟩
 ·obtain⟨c,cs,hl,h16,hq⟩:=yUg h;simp only[go_sem,zE,zA,reduceCtorEq,yG9 hl];refine (in_n gl c 97 116 _ _ rfl rfl _).mono ?_;rintro _ st ⟨rfl,rfl⟩;simp only[go_sem,zE];refine yQ0 ⟨?_,rfl⟩;rw[zVe,<- yVb,yVh hl (λk1 _=>?_),h,Bool.true_and];have h6:s≠zVn:=λhe=>by
   rw[he] at hl;have h7:(117:UInt8)=c:=(List.cons.inj hl).1;rw[<- h7] at k1;exact absurd k1 (by decide)
  unfold yXn;rw[dEf h1,dEf h2,dEf h3,dEf h4,dEf h5,dEf h6];rfl
def RTm (t:Tm):Prop:=∀(x:IV) (_:IsTm t x) (_:t.size<=1099511627776) (st:ISt),ICall prog gl 115 [x,.raw (.bool false)] st (λr st'=>r=.raw (.bool t.ok)/\st'=st)
theorem yKf:∀(l m:List Tm),yXz (l++m)=(yXz l&&yXz m)
 | [],m=>by simp[yXz]
 | a::l,m=>by simp only[List.cons_append,yXz,yKf l m,Bool.and_assoc]
theorem xQ5 {l:List Tm}{a:Tm}(h:a∈l)(ha:a.ok=false):yXz l=false:=by
 induction l with
 | nil=>cases h
 | cons b l ih =>
  simp only[yXz];rcases List.mem_cons.1 h with rfl|h
  ·simp[ha]
  ·simp[ih h]
theorem yZl:∀l:List Tm,l.length<=yQ8 l
 | []=>Nat.le_refl _
 | a::l=>by have:=yZl l;have:=a.size_pos;simp only[List.length_cons,yQ8];omega
theorem yWq {l:List Tm}{a:Tm}(h:a∈l):a.size<=yQ8 l:=by
 induction l with
 | nil=>cases h
 | cons b l ih =>
  simp only[yQ8];rcases List.mem_cons.1 h with rfl|h
  ·omega
  ·have:=ih h;omega
theorem xWs (v:Bool)(n:ByteArray)(us:List Tm)(IH:∀a∈us,RTm gl a):RTm gl (.mk v n us):=by
 intro x hx hsz st;obtain⟨tg,xs,rfl,htg,hxs⟩:=hx.mk;simp only[Tm.size] at hsz;have hlsz:=yZl us;refine iI func115 ?_;cases v
 ·simp only[go_sem,zE];refine LoopC.ctr us.length (λk fr st' ds=>yXz (us.take k)=true/\fr 1=.iv (.raw (.bool false))/\fr 2=.box [.raw (.bool false),.raw (.string n),.sl tg xs]/\fr 5=.iv (.raw (.int .i64 k))/\st'=st/\ds=[]) ?_ ?_ ?_
  ·simp only[go_sem,zE];exact⟨rfl,rfl⟩
  ·rintro k fr st _ hlt ⟨hok,f1,f2,f5,rfl,rfl⟩;obtain⟨a,ha⟩:=yQ2 hlt;obtain⟨y,hky,hy⟩:=hxs.get ha;have hmem:=lMg ha;have hcall:=IH a hmem y hy (by have:=yWq hmem;omega) st;obtain⟨v3,n3,m3⟩:=a;obtain⟨t3,x3,rfl,_⟩:=hy.mk;simp only[go_sem,zE,zB,zA,f1,f2,f5,hxs.len,lt_i hlt,yQ1 htg,iNn,hky,fits];intros;refine hcall.mono ?_;rintro _ st ⟨rfl,rfl⟩;cases hb:(Tm.mk v3 n3 m3).ok
   ·simp only[go_sem];exact yQ0 ⟨by rw[show (Tm.mk false n us).ok=false by simp[Tm.ok,xQ5 hmem hb]],rfl⟩
   ·simp only[go_sem,zE,f1,f2,f5,yQa hlt (show us.length<=281474976710656 by omega)];rw[yQ5 ha,yKf,hok];simp[yXz,hb]
  ·rintro fr st _ ⟨hok,f1,f2,f5,rfl,rfl⟩;rw[lTl] at hok;simp only[go_sem,zE,zA,f2,f5,hxs.len,yQk (nLi _)];intros;refine (xXh gl n _).mono ?_;rintro _ st ⟨rfl,rfl⟩;cases hn:zVe n
   ·simp only[go_sem,zE];exact yQ0 ⟨by simp[Tm.ok,hn],rfl⟩
   ·simp only[go_sem,zE,f2,hxs.len];intros;refine yQ0 ⟨?_,rfl⟩;simp only[Tm.ok,hn,hok,Bool.and_true];congr 3;simp;omega
 ·simp only[go_sem,zE,hxs.len];intros;by_cases h0:us.length=0
  ·obtain rfl:=List.eq_nil_of_length_eq_zero h0;simp only[go_sem,zE,zA,show decide (((0:Nat):Int)=0)=true from rfl];refine (yUb gl n _).mono ?_;rintro _ st ⟨rfl,rfl⟩;cases hn:yW2 n
   ·simp only[go_sem,zE];exact yQ0 ⟨by simp[Tm.ok,hn],rfl⟩
   ·simp only[go_sem,zE];exact yQ0 ⟨by simp[Tm.ok,hn],rfl⟩
  ·simp only[go_sem,zE,show decide ((us.length:Int)=0)=false from dEf (by omega)];exact yQ0 ⟨by cases us with|nil=>exact absurd rfl h0|cons=>simp[Tm.ok],rfl⟩
theorem zUn:∀(k:Nat)(t:Tm),SizeOf.sizeOf t<k->RTm gl t
 | 0,f,h=>by omega
 | k+1,.mk v n us,h=>xWs gl v n us (λa ha=>zUn k a (by
   have:=lSm ha;simp at h;omega))
theorem wYk (t:Tm):RTm gl t:=zUn gl _ t (Nat.lt_succ_self _)
theorem di0 (a:Nat):decide ((a:Int)=0)=decide (a=0):=by by_cases h:a=0<;>simp[h]<;>omega
theorem di1 (a:Nat):decide ((a:Int)=1)=decide (a=1):=by by_cases h:a=1<;>simp[h]<;>omega
theorem di2 (a:Nat):decide ((a:Int)=2)=decide (a=2):=by by_cases h:a=2<;>simp[h]<;>omega
theorem dle4 (a:Nat):decide ((a:Int)<=4)=decide (a<=4):=by by_cases h:a<=4<;>simp[h]<;>omega
theorem wJm {op:Nat}{n:ByteArray}{la ls:Nat}(h:op=0\/16<op):yZ3 op n la ls=false:=by
 unfold yZ3;split<;>first|rfl|omega
theorem vYj (op:Nat)(n:ByteArray)(us:List Tm)(sub:List Fm)(x:IV)(hx:IsFm (.mk op n us sub) x)(st:ISt) :
  ICall prog gl 214 [x,.raw (.bool false)] st (λr st'=>r=.raw (.bool (yZ3 op n us.length sub.length))/\st'=st):=by
 obtain⟨ta,xa,tb,xb,rfl,ho,hta,hxa,htb,hxb⟩:=hx.mk;refine iI func214 ?_;simp only[go_sem,zE,hxa.len,hxb.len];intros;rcases (show op=1\/op=2\/op=3\/op=4\/op=5\/op=6\/op=7\/op=8\/op=9\/op=10\/op=11\/op=12\/op=13\/op=14\/op=15\/op=16\/(op=0\/16<op) by omega) with h|h|h|h|h|h|h|h|h|h|h|h|h|h|h|h|h
 ·simp only[go_sem,zE,zA,show decide ((op:Int)=1)=true from dEt (by omega),hxa.len,hxb.len];refine (zUw gl n _).mono ?_;rintro _ st ⟨rfl,rfl⟩;cases h1:zJm n
  ·simp only[go_sem,zE];exact yQ0 ⟨by subst h;simp[yZ3,h1],rfl⟩
  ·cases h2:decide (us.length<=4)
   ·simp only[go_sem,zE,dle4,h2];exact yQ0 ⟨by subst h;simp only[yZ3,h1,h2,Bool.and_false,Bool.false_and],rfl⟩
   ·simp only[go_sem,zE,dle4,h2,di0];exact yQ0 ⟨by subst h;simp only[yZ3,h1,h2,Bool.true_and,Bool.and_true],rfl⟩
 ·cases h1:decide (n=⟨#[]⟩)
  ·simp only[go_sem,zE,zA,zL,show decide ((op:Int)=1)=false from dEf (by omega),show decide ((op:Int)=2)=true from dEt (by omega),hxa.len,hxb.len,h1];exact yQ0 ⟨by subst h;simp[yZ3,h1],rfl⟩
  ·cases h2:decide (us.length=0)
   ·simp only[go_sem,zE,zA,zL,show decide ((op:Int)=1)=false from dEf (by omega),show decide ((op:Int)=2)=true from dEt (by omega),hxa.len,hxb.len,h1,di0,h2];exact yQ0 ⟨by subst h;simp only[yZ3,h1,h2,Bool.and_false,Bool.false_and],rfl⟩
   ·simp only[go_sem,zE,zA,zL,show decide ((op:Int)=1)=false from dEf (by omega),show decide ((op:Int)=2)=true from dEt (by omega),hxa.len,hxb.len,h1,di0,h2,di0];exact yQ0 ⟨by subst h;simp only[yZ3,h1,h2,Bool.true_and,Bool.and_true],rfl⟩
 ·cases h1:decide (n=⟨#[]⟩)
  ·simp only[go_sem,zE,zA,zL,show decide ((op:Int)=1)=false from dEf (by omega),show decide ((op:Int)=2)=false from dEf (by omega),show decide ((op:Int)=3)=true from dEt (by omega),hxa.len,hxb.len,h1];exact yQ0 ⟨by subst h;simp[yZ3,h1],rfl⟩
  ·cases h2:decide (us.length=0)
   ·simp only[go_sem,zE,zA,zL,show decide ((op:Int)=1)=false from dEf (by omega),show decide ((op:Int)=2)=false from dEf (by omega),show decide ((op:Int)=3)=true from dEt (by omega),hxa.len,hxb.len,h1,di0,h2];exact yQ0 ⟨by subst h;simp only[yZ3,h1,h2,Bool.and_false,Bool.false_and],rfl⟩
   ·simp only[go_sem,zE,zA,zL,show decide ((op:Int)=1)=false from dEf (by omega),show decide ((op:Int)=2)=false from dEf (by omega),show decide ((op:Int)=3)=true from dEt (by omega),hxa.len,hxb.len,h1,di0,h2,di1];exact yQ0 ⟨by subst h;simp only[yZ3,h1,h2,Bool.true_and,Bool.and_true],rfl⟩
 ·cases h1:decide (n=⟨#[]⟩)
  ·simp only[go_sem,zE,zA,zL,show decide ((op:Int)=1)=false from dEf (by omega),show decide ((op:Int)=2)=false from dEf (by omega),show decide ((op:Int)=3)=false from dEf (by omega),show decide ((op:Int)=10)=false from dEf (by omega),show decide ((op:Int)=11)=false from dEf (by omega),show decide ((op:Int)=12)=false from dEf (by omega),show decide ((op:Int)=13)=false from dEf (by omega),show decide ((op:Int)=4)=true from dEt (by omega),hxa.len,hxb.len,h1];exact yQ0 ⟨by subst h;simp[yZ3,h1],rfl⟩
  ·cases h2:decide (us.length=0)
   ·simp only[go_sem,zE,zA,zL,show decide ((op:Int)=1)=false from dEf (by omega),show decide ((op:Int)=2)=false from dEf (by omega),show decide ((op:Int)=3)=false from dEf (by omega),show decide ((op:Int)=10)=false from dEf (by omega),show decide ((op:Int)=11)=false from dEf (by omega),show decide ((op:Int)=12)=false from dEf (by omega),show decide ((op:Int)=13)=false from dEf (by omega),show decide ((op:Int)=4)=true from dEt (by omega),hxa.len,hxb.len,h1,di0,h2];exact yQ0 ⟨by subst h;simp only[yZ3,h1,h2,Bool.and_false,Bool.false_and],rfl⟩
   ·simp only[go_sem,zE,zA,zL,show decide ((op:Int)=1)=false from dEf (by omega),show decide ((op:Int)=2)=false from dEf (by omega),show decide ((op:Int)=3)=false from dEf (by omega),show decide ((op:Int)=10)=false from dEf (by omega),show decide ((op:Int)=11)=false from dEf (by omega),show decide ((op:Int)=12)=false from dEf (by omega),show decide ((op:Int)=13)=false from dEf (by omega),show decide ((op:Int)=4)=true from dEt (by omega),hxa.len,hxb.len,h1,di0,h2,di2];exact yQ0 ⟨by subst h;simp only[yZ3,h1,h2,Bool.true_and,Bool.and_true],rfl⟩
 ·cases h1:decide (n=⟨#[]⟩)
  ·simp only[go_sem,zE,zA,zL,show decide ((op:Int)=1)=false from dEf (by omega),show decide ((op:Int)=2)=false from dEf (by omega),show decide ((op:Int)=3)=false from dEf (by omega),show decide ((op:Int)=10)=false from dEf (by omega),show decide ((op:Int)=11)=false from dEf (by omega),show decide ((op:Int)=12)=false from dEf (by omega),show decide ((op:Int)=13)=false from dEf (by omega),show decide ((op:Int)=4)=false from dEf (by omega),show decide ((op:Int)=5)=true from dEt (by omega),hxa.len,hxb.len,h1];exact yQ0 ⟨by subst h;simp[yZ3,h1],rfl⟩
  ·cases h2:decide (us.length=0)
   ·simp only[go_sem,zE,zA,zL,show decide ((op:Int)=1)=false from dEf (by omega),show decide ((op:Int)=2)=false from dEf (by omega),show decide ((op:Int)=3)=false from dEf (by omega),show decide ((op:Int)=10)=false from dEf (by omega),show decide ((op:Int)=11)=false from dEf (by omega),show decide ((op:Int)=12)=false from dEf (by omega),show decide ((op:Int)=13)=false from dEf (by omega),show decide ((op:Int)=4)=false from dEf (by omega),show decide ((op:Int)=5)=true from dEt (by omega),hxa.len,hxb.len,h1,di0,h2];exact yQ0 ⟨by subst h;simp only[yZ3,h1,h2,Bool.and_false,Bool.false_and],rfl⟩
   ·simp only[go_sem,zE,zA,zL,show decide ((op:Int)=1)=false from dEf (by omega),show decide ((op:Int)=2)=false from dEf (by omega),show decide ((op:Int)=3)=false from dEf (by omega),show decide ((op:Int)=10)=false from dEf (by omega),show decide ((op:Int)=11)=false from dEf (by omega),show decide ((op:Int)=12)=false from dEf (by omega),show decide ((op:Int)=13)=false from dEf (by omega),show decide ((op:Int)=4)=false from dEf (by omega),show decide ((op:Int)=5)=true from dEt (by omega),hxa.len,hxb.len,h1,di0,h2,di2];exact yQ0 ⟨by subst h;simp only[yZ3,h1,h2,Bool.true_and,Bool.and_true],rfl⟩
 ·cases h1:decide (n=⟨#[]⟩)
  ·simp only[go_sem,zE,zA,zL,show decide ((op:Int)=1)=false from dEf (by omega),show decide ((op:Int)=2)=false from dEf (by omega),show decide ((op:Int)=3)=false from dEf (by omega),show decide ((op:Int)=10)=false from dEf (by omega),show decide ((op:Int)=11)=false from dEf (by omega),show decide ((op:Int)=12)=false from dEf (by omega),show decide ((op:Int)=13)=false from dEf (by omega),show decide ((op:Int)=4)=false from dEf (by omega),show decide ((op:Int)=5)=false from dEf (by omega),show decide ((op:Int)=6)=true from dEt (by omega),hxa.len,hxb.len,h1];exact yQ0 ⟨by subst h;simp[yZ3,h1],rfl⟩
  ·cases h2:decide (us.length=0)
   ·simp only[go_sem,zE,zA,zL,show decide ((op:Int)=1)=false from dEf (by omega),show decide ((op:Int)=2)=false from dEf (by omega),show decide ((op:Int)=3)=false from dEf (by omega),show decide ((op:Int)=10)=false from dEf (by omega),show decide ((op:Int)=11)=false from dEf (by omega),show decide ((op:Int)=12)=false from dEf (by omega),show decide ((op:Int)=13)=false from dEf (by omega),show decide ((op:Int)=4)=false from dEf (by omega),show decide ((op:Int)=5)=false from dEf (by omega),show decide ((op:Int)=6)=true from dEt (by omega),hxa.len,hxb.len,h1,di0,h2];exact yQ0 ⟨by subst h;simp only[yZ3,h1,h2,Bool.and_false,Bool.false_and],rfl⟩
   ·simp only[go_sem,zE,zA,zL,show decide ((op:Int)=1)=false from dEf (by omega),show decide ((op:Int)=2)=false from dEf (by omega),show decide ((op:Int)=3)=false from dEf (by omega),show decide ((op:Int)=10)=false from dEf (by omega),show decide ((op:Int)=11)=false from dEf (by omega),show decide ((op:Int)=12)=false from dEf (by omega),show decide ((op:Int)=13)=false from dEf (by omega),show decide ((op:Int)=4)=false from dEf (by omega),show decide ((op:Int)=5)=false from dEf (by omega),show decide ((op:Int)=6)=true from dEt (by omega),hxa.len,hxb.len,h1,di0,h2,di2];exact yQ0 ⟨by subst h;simp only[yZ3,h1,h2,Bool.true_and,Bool.and_true],rfl⟩
 ·cases h1:decide (n=⟨#[]⟩)
  ·simp only[go_sem,zE,zA,zL,show decide ((op:Int)=1)=false from dEf (by omega),show decide ((op:Int)=2)=false from dEf (by omega),show decide ((op:Int)=3)=false from dEf (by omega),show decide ((op:Int)=10)=false from dEf (by omega),show decide ((op:Int)=11)=false from dEf (by omega),show decide ((op:Int)=12)=false from dEf (by omega),show decide ((op:Int)=13)=false from dEf (by omega),show decide ((op:Int)=4)=false from dEf (by omega),show decide ((op:Int)=5)=false from dEf (by omega),show decide ((op:Int)=6)=false from dEf (by omega),show decide ((op:Int)=7)=true from dEt (by omega),hxa.len,hxb.len,h1];exact yQ0 ⟨by subst h;simp[yZ3,h1],rfl⟩
  ·cases h2:decide (us.length=0)
   ·simp only[go_sem,zE,zA,zL,show decide ((op:Int)=1)=false from dEf (by omega),show decide ((op:Int)=2)=false from dEf (by omega),show decide ((op:Int)=3)=false from dEf (by omega),show decide ((op:Int)=10)=false from dEf (by omega),show decide ((op:Int)=11)=false from dEf (by omega),show decide ((op:Int)=12)=false from dEf (by omega),show decide ((op:Int)=13)=false from dEf (by omega),show decide ((op:Int)=4)=false from dEf (by omega),show decide ((op:Int)=5)=false from dEf (by omega),show decide ((op:Int)=6)=false from dEf (by omega),show decide ((op:Int)=7)=true from dEt (by omega),hxa.len,hxb.len,h1,di0,h2];exact yQ0 ⟨by subst h;simp only[yZ3,h1,h2,Bool.and_false,Bool.false_and],rfl⟩
   ·simp only[go_sem,zE,zA,zL,show decide ((op:Int)=1)=false from dEf (by omega),show decide ((op:Int)=2)=false from dEf (by omega),show decide ((op:Int)=3)=false from dEf (by omega),show decide ((op:Int)=10)=false from dEf (by omega),show decide ((op:Int)=11)=false from dEf (by omega),show decide ((op:Int)=12)=false from dEf (by omega),show decide ((op:Int)=13)=false from dEf (by omega),show decide ((op:Int)=4)=false from dEf (by omega),show decide ((op:Int)=5)=false from dEf (by omega),show decide ((op:Int)=6)=false from dEf (by omega),show decide ((op:Int)=7)=true from dEt (by omega),hxa.len,hxb.len,h1,di0,h2,di2];exact yQ0 ⟨by subst h;simp only[yZ3,h1,h2,Bool.true_and,Bool.and_true],rfl⟩
 ·simp only[go_sem,zE,zA,show decide ((op:Int)=1)=false from dEf (by omega),show decide ((op:Int)=2)=false from dEf (by omega),show decide ((op:Int)=3)=false from dEf (by omega),show decide ((op:Int)=10)=false from dEf (by omega),show decide ((op:Int)=11)=false from dEf (by omega),show decide ((op:Int)=12)=false from dEf (by omega),show decide ((op:Int)=13)=false from dEf (by omega),show decide ((op:Int)=4)=false from dEf (by omega),show decide ((op:Int)=5)=false from dEf (by omega),show decide ((op:Int)=6)=false from dEf (by omega),show decide ((op:Int)=7)=false from dEf (by omega),show decide ((op:Int)=14)=false from dEf (by omega),show decide ((op:Int)=8)=true from dEt (by omega),hxa.len,hxb.len];refine (yUb gl n _).mono ?_;rintro _ st ⟨rfl,rfl⟩;cases h1:yW2 n
  ·simp only[go_sem,zE];exact yQ0 ⟨by subst h;simp[yZ3,h1],rfl⟩
  ·cases h2:decide (us.length=0)
   ·simp only[go_sem,zE,di0,h2];exact yQ0 ⟨by subst h;simp only[yZ3,h1,h2,Bool.and_false,Bool.false_and],rfl⟩
   ·simp only[go_sem,zE,di0,h2,di1];exact yQ0 ⟨by subst h;simp only[yZ3,h1,h2,Bool.true_and,Bool.and_true],rfl⟩
 ·simp only[go_sem,zE,zA,show decide ((op:Int)=1)=false from dEf (by omega),show decide ((op:Int)=2)=false from dEf (by omega),show decide ((op:Int)=3)=false from dEf (by omega),show decide ((op:Int)=10)=false from dEf (by omega),show decide ((op:Int)=11)=false from dEf (by omega),show decide ((op:Int)=12)=false from dEf (by omega),show decide ((op:Int)=13)=false from dEf (by omega),show decide ((op:Int)=4)=false from dEf (by omega),show decide ((op:Int)=5)=false from dEf (by omega),show decide ((op:Int)=6)=false from dEf (by omega),show decide ((op:Int)=7)=false from dEf (by omega),show decide ((op:Int)=14)=false from dEf (by omega),show decide ((op:Int)=8)=false from dEf (by omega),show decide ((op:Int)=9)=true from dEt (by omega),hxa.len,hxb.len];refine (yUb gl n _).mono ?_;rintro _ st ⟨rfl,rfl⟩;cases h1:yW2 n
  ·simp only[go_sem,zE];exact yQ0 ⟨by subst h;simp[yZ3,h1],rfl⟩
  ·cases h2:decide (us.length=0)
   ·simp only[go_sem,zE,di0,h2];exact yQ0 ⟨by subst h;simp only[yZ3,h1,h2,Bool.and_false,Bool.false_and],rfl⟩
   ·simp only[go_sem,zE,di0,h2,di1];exact yQ0 ⟨by subst h;simp only[yZ3,h1,h2,Bool.true_and,Bool.and_true],rfl⟩
 ·cases h1:decide (n=⟨#[]⟩)
  ·simp only[go_sem,zE,zA,zL,show decide ((op:Int)=1)=false from dEf (by omega),show decide ((op:Int)=2)=false from dEf (by omega),show decide ((op:Int)=3)=false from dEf (by omega),show decide ((op:Int)=10)=true from dEt (by omega),hxa.len,hxb.len,h1];exact yQ0 ⟨by subst h;simp[yZ3,h1],rfl⟩
  ·cases h2:decide (us.length=0)
   ·simp only[go_sem,zE,zA,zL,show decide ((op:Int)=1)=false from dEf (by omega),show decide ((op:Int)=2)=false from dEf (by omega),show decide ((op:Int)=3)=false from dEf (by omega),show decide ((op:Int)=10)=true from dEt (by omega),hxa.len,hxb.len,h1,di0,h2];exact yQ0 ⟨by subst h;simp only[yZ3,h1,h2,Bool.and_false,Bool.false_and],rfl⟩
   ·simp only[go_sem,zE,zA,zL,show decide ((op:Int)=1)=false from dEf (by omega),show decide ((op:Int)=2)=false from dEf (by omega),show decide ((op:Int)=3)=false from dEf (by omega),show decide ((op:Int)=10)=true from dEt (by omega),hxa.len,hxb.len,h1,di0,h2,di1];exact yQ0 ⟨by subst h;simp only[yZ3,h1,h2,Bool.true_and,Bool.and_true],rfl⟩
 ·cases h1:decide (n=⟨#[]⟩)
  ·simp only[go_sem,zE,zA,zL,show decide ((op:Int)=1)=false from dEf (by omega),show decide ((op:Int)=2)=false from dEf (by omega),show decide ((op:Int)=3)=false from dEf (by omega),show decide ((op:Int)=10)=false from dEf (by omega),show decide ((op:Int)=11)=true from dEt (by omega),hxa.len,hxb.len,h1];exact yQ0 ⟨by subst h;simp[yZ3,h1],rfl⟩
  ·cases h2:decide (us.length=0)
   ·simp only[go_sem,zE,zA,zL,show decide ((op:Int)=1)=false from dEf (by omega),show decide ((op:Int)=2)=false from dEf (by omega),show decide ((op:Int)=3)=false from dEf (by omega),show decide ((op:Int)=10)=false from dEf (by omega),show decide ((op:Int)=11)=true from dEt (by omega),hxa.len,hxb.len,h1,di0,h2];exact yQ0 ⟨by subst h;simp only[yZ3,h1,h2,Bool.and_false,Bool.false_and],rfl⟩
   ·simp only[go_sem,zE,zA,zL,show decide ((op:Int)=1)=false from dEf (by omega),show decide ((op:Int)=2)=false from dEf (by omega),show decide ((op:Int)=3)=false from dEf (by omega),show decide ((op:Int)=10)=false from dEf (by omega),show decide ((op:Int)=11)=true from dEt (by omega),hxa.len,hxb.len,h1,di0,h2,di1];exact yQ0 ⟨by subst h;simp only[yZ3,h1,h2,Bool.true_and,Bool.and_true],rfl⟩
 ·cases h1:decide (n=⟨#[]⟩)
  ·simp only[go_sem,zE,zA,zL,show decide ((op:Int)=1)=false from dEf (by omega),show decide ((op:Int)=2)=false from dEf (by omega),show decide ((op:Int)=3)=false from dEf (by omega),show decide ((op:Int)=10)=false from dEf (by omega),show decide ((op:Int)=11)=false from dEf (by omega),show decide ((op:Int)=12)=true from dEt (by omega),hxa.len,hxb.len,h1];exact yQ0 ⟨by subst h;simp[yZ3,h1],rfl⟩
  ·cases h2:decide (us.length=0)
   ·simp only[go_sem,zE,zA,zL,show decide ((op:Int)=1)=false from dEf (by omega),show decide ((op:Int)=2)=false from dEf (by omega),show decide ((op:Int)=3)=false from dEf (by omega),show decide ((op:Int)=10)=false from dEf (by omega),show decide ((op:Int)=11)=false from dEf (by omega),show decide ((op:Int)=12)=true from dEt (by omega),hxa.len,hxb.len,h1,di0,h2];exact yQ0 ⟨by subst h;simp only[yZ3,h1,h2,Bool.and_false,Bool.false_and],rfl⟩
   ·simp only[go_sem,zE,zA,zL,show decide ((op:Int)=1)=false from dEf (by omega),show decide ((op:Int)=2)=false from dEf (by omega),show decide ((op:Int)=3)=false from dEf (by omega),show decide ((op:Int)=10)=false from dEf (by omega),show decide ((op:Int)=11)=false from dEf (by omega),show decide ((op:Int)=12)=true from dEt (by omega),hxa.len,hxb.len,h1,di0,h2,di1];exact yQ0 ⟨by subst h;simp only[yZ3,h1,h2,Bool.true_and,Bool.and_true],rfl⟩
 ·cases h1:decide (n=⟨#[]⟩)
  ·simp only[go_sem,zE,zA,zL,show decide ((op:Int)=1)=false from dEf (by omega),show decide ((op:Int)=2)=false from dEf (by omega),show decide ((op:Int)=3)=false from dEf (by omega),show decide ((op:Int)=10)=false from dEf (by omega),show decide ((op:Int)=11)=false from dEf (by omega),show decide ((op:Int)=12)=false from dEf (by omega),show decide ((op:Int)=13)=true from dEt (by omega),hxa.len,hxb.len,h1];exact yQ0 ⟨by subst h;simp[yZ3,h1],rfl⟩
  ·cases h2:decide (us.length=0)
   ·simp only[go_sem,zE,zA,zL,show decide ((op:Int)=1)=false from dEf (by omega),show decide ((op:Int)=2)=false from dEf (by omega),show decide ((op:Int)=3)=false from dEf (by omega),show decide ((op:Int)=10)=false from dEf (by omega),show decide ((op:Int)=11)=false from dEf (by omega),show decide ((op:Int)=12)=false from dEf (by omega),show decide ((op:Int)=13)=true from dEt (by omega),hxa.len,hxb.len,h1,di0,h2];exact yQ0 ⟨by subst h;simp only[yZ3,h1,h2,Bool.and_false,Bool.false_and],rfl⟩
   ·simp only[go_sem,zE,zA,zL,show decide ((op:Int)=1)=false from dEf (by omega),show decide ((op:Int)=2)=false from dEf (by omega),show decide ((op:Int)=3)=false from dEf (by omega),show decide ((op:Int)=10)=false from dEf (by omega),show decide ((op:Int)=11)=false from dEf (by omega),show decide ((op:Int)=12)=false from dEf (by omega),show decide ((op:Int)=13)=true from dEt (by omega),hxa.len,hxb.len,h1,di0,h2,di1];exact yQ0 ⟨by subst h;simp only[yZ3,h1,h2,Bool.true_and,Bool.and_true],rfl⟩
 ·cases h1:decide (n=⟨#[]⟩)
  ·simp only[go_sem,zE,zA,zL,show decide ((op:Int)=1)=false from dEf (by omega),show decide ((op:Int)=2)=false from dEf (by omega),show decide ((op:Int)=3)=false from dEf (by omega),show decide ((op:Int)=10)=false from dEf (by omega),show decide ((op:Int)=11)=false from dEf (by omega),show decide ((op:Int)=12)=false from dEf (by omega),show decide ((op:Int)=13)=false from dEf (by omega),show decide ((op:Int)=4)=false from dEf (by omega),show decide ((op:Int)=5)=false from dEf (by omega),show decide ((op:Int)=6)=false from dEf (by omega),show decide ((op:Int)=7)=false from dEf (by omega),show decide ((op:Int)=14)=true from dEt (by omega),hxa.len,hxb.len,h1];exact yQ0 ⟨by subst h;simp[yZ3,h1],rfl⟩
  ·cases h2:decide (us.length=0)
   ·simp only[go_sem,zE,zA,zL,show decide ((op:Int)=1)=false from dEf (by omega),show decide ((op:Int)=2)=false from dEf (by omega),show decide ((op:Int)=3)=false from dEf (by omega),show decide ((op:Int)=10)=false from dEf (by omega),show decide ((op:Int)=11)=false from dEf (by omega),show decide ((op:Int)=12)=false from dEf (by omega),show decide ((op:Int)=13)=false from dEf (by omega),show decide ((op:Int)=4)=false from dEf (by omega),show decide ((op:Int)=5)=false from dEf (by omega),show decide ((op:Int)=6)=false from dEf (by omega),show decide ((op:Int)=7)=false from dEf (by omega),show decide ((op:Int)=14)=true from dEt (by omega),hxa.len,hxb.len,h1,di0,h2];exact yQ0 ⟨by subst h;simp only[yZ3,h1,h2,Bool.and_false,Bool.false_and],rfl⟩
   ·simp only[go_sem,zE,zA,zL,show decide ((op:Int)=1)=false from dEf (by omega),show decide ((op:Int)=2)=false from dEf (by omega),show decide ((op:Int)=3)=false from dEf (by omega),show decide ((op:Int)=10)=false from dEf (by omega),show decide ((op:Int)=11)=false from dEf (by omega),show decide ((op:Int)=12)=false from dEf (by omega),show decide ((op:Int)=13)=false from dEf (by omega),show decide ((op:Int)=4)=false from dEf (by omega),show decide ((op:Int)=5)=false from dEf (by omega),show decide ((op:Int)=6)=false from dEf (by omega),show decide ((op:Int)=7)=false from dEf (by omega),show decide ((op:Int)=14)=true from dEt (by omega),hxa.len,hxb.len,h1,di0,h2,di2];exact yQ0 ⟨by subst h;simp only[yZ3,h1,h2,Bool.true_and,Bool.and_true],rfl⟩
 ·simp only[go_sem,zE,show decide ((op:Int)=1)=false from dEf (by omega),show decide ((op:Int)=2)=false from dEf (by omega),show decide ((op:Int)=3)=false from dEf (by omega),show decide ((op:Int)=10)=false from dEf (by omega),show decide ((op:Int)=11)=false from dEf (by omega),show decide ((op:Int)=12)=false from dEf (by omega),show decide ((op:Int)=13)=false from dEf (by omega),show decide ((op:Int)=4)=false from dEf (by omega),show decide ((op:Int)=5)=false from dEf (by omega),show decide ((op:Int)=6)=false from dEf (by omega),show decide ((op:Int)=7)=false from dEf (by omega),show decide ((op:Int)=14)=false from dEf (by omega),show decide ((op:Int)=8)=false from dEf (by omega),show decide ((op:Int)=9)=false from dEf (by omega),show decide ((op:Int)=15)=true from dEt (by omega),hxa.len,hxb.len];exact yQ0 ⟨by rw[h];rfl,rfl⟩
 ·simp only[go_sem,zE,show decide ((op:Int)=1)=false from dEf (by omega),show decide ((op:Int)=2)=false from dEf (by omega),show decide ((op:Int)=3)=false from dEf (by omega),show decide ((op:Int)=10)=false from dEf (by omega),show decide ((op:Int)=11)=false from dEf (by omega),show decide ((op:Int)=12)=false from dEf (by omega),show decide ((op:Int)=13)=false from dEf (by omega),show decide ((op:Int)=4)=false from dEf (by omega),show decide ((op:Int)=5)=false from dEf (by omega),show decide ((op:Int)=6)=false from dEf (by omega),show decide ((op:Int)=7)=false from dEf (by omega),show decide ((op:Int)=14)=false from dEf (by omega),show decide ((op:Int)=8)=false from dEf (by omega),show decide ((op:Int)=9)=false from dEf (by omega),show decide ((op:Int)=15)=false from dEf (by omega),show decide ((op:Int)=16)=true from dEt (by omega),hxa.len,hxb.len];exact yQ0 ⟨by rw[h];rfl,rfl⟩
 ·simp only[go_sem,zE,show decide ((op:Int)=1)=false from dEf (by omega),show decide ((op:Int)=2)=false from dEf (by omega),show decide ((op:Int)=3)=false from dEf (by omega),show decide ((op:Int)=10)=false from dEf (by omega),show decide ((op:Int)=11)=false from dEf (by omega),show decide ((op:Int)=12)=false from dEf (by omega),show decide ((op:Int)=13)=false from dEf (by omega),show decide ((op:Int)=4)=false from dEf (by omega),show decide ((op:Int)=5)=false from dEf (by omega),show decide ((op:Int)=6)=false from dEf (by omega),show decide ((op:Int)=7)=false from dEf (by omega),show decide ((op:Int)=14)=false from dEf (by omega),show decide ((op:Int)=8)=false from dEf (by omega),show decide ((op:Int)=9)=false from dEf (by omega),show decide ((op:Int)=15)=false from dEf (by omega),show decide ((op:Int)=16)=false from dEf (by omega),hxa.len,hxb.len];exact yQ0 ⟨by rw[wJm h],rfl⟩
def RSz (us:List Tm):Prop:=∀(tg:Tag) (xs:List IV) (_:okEs tg 3) (_:IsTms us xs) (_:yQ8 us<=1099511627776) (st:ISt),
 ICall prog gl 215 [.sl tg xs] st (λr st'=>r=.raw (.int .i64 (yQ8 us))/\st'=st)
theorem yU7:∀(l m:List Tm),yQ8 (l++m)=yQ8 l+yQ8 m
 | [],m=>by simp[yQ8]
 | a::l,m=>by simp only[List.cons_append,yQ8,yU7 l m];omega
theorem zKf:∀(l m:List Tm),yQg (l++m)=max (yQg l) (yQg m)
 | [],m=>by simp[yQg]
 | a::l,m=>by simp only[List.cons_append,yQg,zKf l m];omega
theorem yU8:∀(l m:List Fm),yQ7 (l++m)=yQ7 l+yQ7 m
 | [],m=>by simp[yQ7]
 | a::l,m=>by simp only[List.cons_append,yQ7,yU8 l m];omega
theorem zKg:∀(l m:List Fm),yQq (l++m)=max (yQq l) (yQq m)
 | [],m=>by simp[yQq]
 | a::l,m=>by simp only[List.cons_append,yQq,zKg l m];omega
theorem xQ7:∀(l m:List Fm),yKn (l++m)=(yKn l&&yKn m)
 | [],m=>by simp[yKn]
 | a::l,m=>by simp only[List.cons_append,yKn,xQ7 l m,Bool.and_assoc]
theorem yUw {us:List Tm}{k:Nat}{a:Tm}(h:us[k]?=some a):yQ8 (us.take (k+1))=yQ8 (us.take k)+a.size/\yQ8 (us.take k)+a.size<=yQ8 us:=by
 have h1:yQ8 (us.take (k+1))=yQ8 (us.take k)+a.size:=by rw[yQ5 h,yU7];simp[yQ8]
 refine⟨h1,?_⟩;have h2:yQ8 us=yQ8 (us.take (k+1))+yQ8 (us.drop (k+1)):=by rw[<- yU7,List.take_append_drop]
 omega
theorem yXh {us:List Fm}{k:Nat}{a:Fm}(h:us[k]?=some a):yQ7 (us.take (k+1))=yQ7 (us.take k)+a.size/\yQ7 (us.take k)+a.size<=yQ7 us:=by
 have h1:yQ7 (us.take (k+1))=yQ7 (us.take k)+a.size:=by rw[yQ5 h,yU8];simp[yQ7]
 refine⟨h1,?_⟩;have h2:yQ7 us=yQ7 (us.take (k+1))+yQ7 (us.drop (k+1)):=by rw[<- yU8,List.take_append_drop]
 omega
theorem yV8:∀l:List Fm,l.length<=yQ7 l
 | []=>Nat.le_refl _
 | a::l=>by have:=yV8 l;have:=a.size_pos;simp only[List.length_cons,yQ7];omega
mutual
theorem xZ2:∀t:Tm,t.deep<=t.size
 | .mk _ _ l=>by have:=yXp l;simp only[Tm.deep,Tm.size];omega
theorem yXp:∀l:List Tm,yQg l<=yQ8 l
 | []=>Nat.le_refl _
 | a::l=>by have:=xZ2 a;have:=yXp l;simp only[yQg,yQ8];omega
end
mutual
theorem zGh:∀t:Fm,t.deep<=t.size
 | .mk _ _ l s=>by have:=yXp l;have:=yVk s;simp only[Fm.deep,Fm.size];omega
theorem yVk:∀l:List Fm,yQq l<=yQ7 l
 | []=>Nat.le_refl _
 | a::l=>by have:=zGh a;have:=yVk l;simp only[yQq,yQ7];omega
end
theorem vY4 {a b:Nat}(h:a+b<=281474976710656):IntKind.i64.wrap ((a:Int)+(b:Int))=((a+b:Nat):Int):=by rw[w64]<;>omega
theorem vQh {a b:Nat}(h:a+1+b<=281474976710656):IntKind.i64.wrap (IntKind.i64.wrap ((a:Int)+1)+(b:Int))=((a+(b+1):Nat):Int):=by rw[w64,w64]<;>(try rw[w64])<;>omega
theorem xWt (us:List Tm)(IH:∀v n l,Tm.mk v n l∈us->RSz gl l):RSz gl us:=by
 intro tg xs htg hxs hsz st;have hlsz:=yZl us;refine iI func215 ?_;simp only[go_sem];refine LoopC.ctr us.length (λk fr st' ds=>fr 0=.iv (.sl tg xs)/\fr 3=.iv (.raw (.int .i64 (yQ8 (us.take k))))/\fr 4=.iv (.raw (.int .i64 k))/\st'=st/\ds=[]) ?_ ?_ ?_
 ·simp only[go_sem,zE,reduceCtorEq]
  first|rfl|exact⟨rfl,rfl⟩
 ·rintro k fr st _ hlt ⟨f0,f3,f4,rfl,rfl⟩;obtain⟨⟨v,n,m⟩,ha⟩:=yQ2 hlt;obtain⟨y,hky,hy⟩:=hxs.get ha;have hmem:=lMg ha;obtain⟨h1,h2⟩:=yUw ha;obtain⟨t3,x3,rfl,ht3,hx3⟩:=hy.mk;simp only[Tm.size] at h1 h2;simp only[go_sem,zE,zA,reduceCtorEq,f0,f3,f4,hxs.len,lt_i hlt,yQ1 htg,iNn,hky,fits];intros;refine (IH v n m hmem t3 x3 ht3 hx3 (by omega) _).mono ?_;rintro _ st ⟨rfl,rfl⟩;simp only[go_sem,zE,reduceCtorEq,f0,f4,yQa hlt (show us.length<=281474976710656 by omega),vQh (show yQ8 (us.take k)+1+yQ8 m<=281474976710656 by omega),h1]
 ·rintro fr st _ ⟨f0,f3,f4,rfl,rfl⟩;rw[lTl] at f3;simp only[go_sem,zE,reduceCtorEq,f0,f3,f4,hxs.len,yQk (nLi _)];intros;exact yQ0 ⟨rfl,rfl⟩
theorem zUo:∀(k:Nat)(us:List Tm),SizeOf.sizeOf us<k->RSz gl us
 | 0,f,h=>by omega
 | k+1,us,h=>xWt gl us (λv n l hm=>zUo k l (by
   have:=lSm hm;simp at this;omega))
theorem wYl (us:List Tm):RSz gl us:=zUo gl _ us (Nat.lt_succ_self _)
def RDp (us:List Tm):Prop:=∀(tg:Tag) (xs:List IV) (_:okEs tg 3) (_:IsTms us xs) (_:yQ8 us<=1099511627776) (st:ISt),
 ICall prog gl 216 [.sl tg xs] st (λr st'=>r=.raw (.int .i64 (yQg us))/\st'=st)
theorem xWy (us:List Tm)(IH:∀v n l,Tm.mk v n l∈us->RDp gl l):RDp gl us:=by
 intro tg xs htg hxs hsz st;have hlsz:=yZl us;refine iI func216 ?_;simp only[go_sem];refine LoopC.ctr us.length (λk fr st' ds=>fr 0=.iv (.sl tg xs)/\fr 3=.iv (.raw (.int .i64 (yQg (us.take k))))/\fr 4=.iv (.raw (.int .i64 k))/\st'=st/\ds=[]) ?_ ?_ ?_
 ·simp only[go_sem,zE,reduceCtorEq]
  first|rfl|exact⟨rfl,rfl⟩
 ·rintro k fr st _ hlt ⟨f0,f3,f4,rfl,rfl⟩;obtain⟨⟨v,n,m⟩,ha⟩:=yQ2 hlt;obtain⟨y,hky,hy⟩:=hxs.get ha;have hmem:=lMg ha;have h1:yQg (us.take (k+1))=max (yQg (us.take k)) (yQg m+1):=by rw[yQ5 ha,zKf];simp[yQg,Tm.deep]
  have h2:=(yUw ha).2;have h3:=yXp m;have h4:=yXp (us.take k);obtain⟨t3,x3,rfl,ht3,hx3⟩:=hy.mk;simp only[Tm.size] at h2;simp only[go_sem,zE,zA,reduceCtorEq,f0,f4,hxs.len,lt_i hlt,yQ1 htg,iNn,hky,fits];intros;refine (IH v n m hmem t3 x3 ht3 hx3 (by omega) _).mono ?_;rintro _ st ⟨rfl,rfl⟩;have hw:IntKind.i64.wrap ((yQg m:Int)+1)=((yQg m+1:Nat):Int):=by rw[w64]<;>omega
  by_cases hg:yQg (us.take k)<yQg m+1
  ·simp only[go_sem,zE,reduceCtorEq,f0,f3,f4,hw,lt_i hg,yQa hlt (show us.length<=281474976710656 by omega)];rw[h1,Nat.max_eq_right (by omega)]
  ·simp only[go_sem,zE,reduceCtorEq,f0,f3,f4,hw,yQk hg,yQa hlt (show us.length<=281474976710656 by omega)];rw[h1,Nat.max_eq_left (by omega)]
 ·rintro fr st _ ⟨f0,f3,f4,rfl,rfl⟩;rw[lTl] at f3;simp only[go_sem,zE,reduceCtorEq,f0,f3,f4,hxs.len,yQk (nLi _)];intros;exact yQ0 ⟨rfl,rfl⟩
theorem zUt:∀(k:Nat)(us:List Tm),SizeOf.sizeOf us<k->RDp gl us
 | 0,f,h=>by omega
 | k+1,us,h=>xWy gl us (λv n l hm=>zUt k l (by
   have:=lSm hm;simp at this;omega))
theorem wYq (us:List Tm):RDp gl us:=zUt gl _ us (Nat.lt_succ_self _)
def RNd (f:Fm):Prop:=∀(x:IV) (_:IsFm f x) (_:f.size<=1099511627776) (st:ISt),ICall prog gl 159 [x] st (λr st'=>r=.raw (.int .i64 f.size)/\st'=st)
theorem xXe (op:Nat)(n:ByteArray)(us:List Tm)(sub:List Fm)(IH:∀a∈sub,RNd gl a):RNd gl (.mk op n us sub):=by
 intro x hx hsz st;obtain⟨ta,xa,tb,xb,rfl,ho,hta,hxa,htb,hxb⟩:=hx.mk;simp only[Fm.size] at hsz;have hl1:=yZl us;have hl2:=yV8 sub;refine iI func159 ?_;simp only[go_sem,zE,zA];refine (wYl gl us ta xa hta hxa (by omega) _).mono ?_;rintro _ st ⟨rfl,rfl⟩;have hw1:IntKind.i64.wrap (1+(yQ8 us:Int))=((yQ8 us+1:Nat):Int):=by rw[w64]<;>omega
 simp only[go_sem,hw1];refine LoopC.ctr sub.length (λk fr st' ds=>fr 1=.box [.raw (.int .u8 op),.raw (.string n),.sl ta xa,.sl tb xb]/\fr 3=.iv (.raw (.int .i64 ((yQ8 us+1+yQ7 (sub.take k):Nat):Int)))/\fr 4=.iv (.raw (.int .i64 k))/\st'=st/\ds=[]) ?_ ?_ ?_
 ·simp only[go_sem,zE]
  first|rfl|exact⟨rfl,rfl⟩
 ·rintro k fr st _ hlt ⟨f1,f3,f4,rfl,rfl⟩;obtain⟨a,ha⟩:=yQ2 hlt;obtain⟨y,hky,hy⟩:=hxb.get ha;have hmem:=lMg ha;obtain⟨h1,h2⟩:=yXh ha;have hcall:=IH a hmem y hy (by omega);obtain⟨o5,n5,us5,sub5⟩:=a;obtain⟨t3,x3,t4,x4,rfl,_⟩:=hy.mk;simp only[go_sem,zE,zB,zA,f1,f3,f4,hxb.len,lt_i hlt,yQ1 htb,iNn,hky,fits];intros;refine (hcall _).mono ?_;rintro _ st ⟨rfl,rfl⟩;simp only[go_sem,zE,f1,f4,yQa hlt (show sub.length<=281474976710656 by omega),vY4 (show (yQ8 us+1+yQ7 (sub.take k))+(Fm.mk o5 n5 us5 sub5).size<=281474976710656 by omega),h1];rw[Nat.add_assoc (yQ8 us+1)]
 ·rintro fr st _ ⟨f1,f3,f4,rfl,rfl⟩;rw[lTl] at f3;simp only[go_sem,zE,f1,f3,f4,hxb.len,yQk (nLi _)];intros;exact yQ0 ⟨by rw[show (Fm.mk op n us sub).size=yQ8 us+1+yQ7 sub by simp only[Fm.size];omega],rfl⟩
theorem zW2:∀(k:Nat)(t:Fm),SizeOf.sizeOf t<k->RNd gl t
 | 0,f,h=>by omega
 | k+1,.mk o n us sub,h=>xXe gl o n us sub (λa ha=>zW2 k a (by
   have:=lSm ha;simp at h;omega))
theorem wJc (t:Fm):RNd gl t:=zW2 gl _ t (Nat.lt_succ_self _)
def RDd (f:Fm):Prop:=∀(x:IV) (_:IsFm f x) (_:f.size<=1099511627776) (st:ISt),ICall prog gl 160 [x] st (λr st'=>r=.raw (.int .i64 f.deep)/\st'=st)
theorem xXf (op:Nat)(n:ByteArray)(us:List Tm)(sub:List Fm)(IH:∀a∈sub,RDd gl a):RDd gl (.mk op n us sub):=by
 intro x hx hsz st;obtain⟨ta,xa,tb,xb,rfl,ho,hta,hxa,htb,hxb⟩:=hx.mk;simp only[Fm.size] at hsz;have hl1:=yZl us;have hl2:=yV8 sub;have hd1:=yXp us;have hd2:=yVk sub;refine iI func160 ?_;simp only[go_sem,zE,zA];refine (wYq gl us ta xa hta hxa (by omega) _).mono ?_;rintro _ st ⟨rfl,rfl⟩;simp only[go_sem];refine LoopC.ctr sub.length (λk fr st' ds=>fr 1=.box [.raw (.int .u8 op),.raw (.string n),.sl ta xa,.sl tb xb]/\fr 3=.iv (.raw (.int .i64 ((max (yQg us) (yQq (sub.take k)):Nat):Int)))/\fr 4=.iv (.raw (.int .i64 k))/\st'=st/\ds=[]) ?_ ?_ ?_
 ·simp only[go_sem,zE];rw[show max (yQg us) (yQq [])=yQg us by simp[yQq]];exact⟨rfl,rfl⟩
 ·rintro k fr st _ hlt ⟨f1,f3,f4,rfl,rfl⟩;obtain⟨a,ha⟩:=yQ2 hlt;obtain⟨y,hky,hy⟩:=hxb.get ha;have hmem:=lMg ha;have h2:=(yXh ha).2;have hcall:=IH a hmem y hy (by omega);have h1:yQq (sub.take (k+1))=max (yQq (sub.take k)) a.deep:=by rw[yQ5 ha,zKg];simp[yQq]
  obtain⟨o5,n5,us5,sub5⟩:=a;obtain⟨t3,x3,t4,x4,rfl,_⟩:=hy.mk;simp only[go_sem,zE,zB,zA,f1,f4,hxb.len,lt_i hlt,yQ1 htb,iNn,hky,fits];intros;refine (hcall _).mono ?_;rintro _ st ⟨rfl,rfl⟩;by_cases hg:max (yQg us) (yQq (sub.take k))<(Fm.mk o5 n5 us5 sub5).deep
  ·simp only[go_sem,zE,f1,f3,f4,lt_i hg,yQa hlt (show sub.length<=281474976710656 by omega)];rw[h1,show max (yQg us) (max (yQq (sub.take k)) (Fm.mk o5 n5 us5 sub5).deep)=(Fm.mk o5 n5 us5 sub5).deep by omega]
  ·simp only[go_sem,zE,f1,f3,f4,yQk hg,yQa hlt (show sub.length<=281474976710656 by omega)];rw[h1,show max (yQg us) (max (yQq (sub.take k)) (Fm.mk o5 n5 us5 sub5).deep)=max (yQg us) (yQq (sub.take k)) by omega]
 ·rintro fr st _ ⟨f1,f3,f4,rfl,rfl⟩;rw[lTl] at f3;have hw:IntKind.i64.wrap (((max (yQg us) (yQq sub):Nat):Int)+1)=((max (yQg us) (yQq sub)+1:Nat):Int):=by rw[w64]<;>omega
  simp only[go_sem,zE,f1,f3,f4,hxb.len,yQk (nLi _),hw];intros;exact yQ0 ⟨by simp only[Fm.deep],rfl⟩
theorem zW3:∀(k:Nat)(t:Fm),SizeOf.sizeOf t<k->RDd gl t
 | 0,f,h=>by omega
 | k+1,.mk o n us sub,h=>xXf gl o n us sub (λa ha=>zW3 k a (by
   have:=lSm ha;simp at h;omega))
theorem wJe (t:Fm):RDd gl t:=zW3 gl _ t (Nat.lt_succ_self _)
theorem xUx {l:List Fm}{a:Fm}(h:a∈l)(ha:a.ok=false):yKn l=false:=by
 induction l with
 | nil=>cases h
 | cons b l ih =>
  simp only[yKn];rcases List.mem_cons.1 h with rfl|h
  ·simp[ha]
  ·simp[ih h]
def RRw (f:Fm):Prop:=∀(x:IV) (_:IsFm f x) (_:f.size<=1099511627776) (st:ISt),ICall prog gl 158 [x,.raw (.bool false)] st (λr st'=>r=.raw (.bool f.ok)/\st'=st)
theorem xWv (op:Nat)(n:ByteArray)(us:List Tm)(sub:List Fm)(IH:∀a∈sub,RRw gl a):RRw gl (.mk op n us sub):=by
 intro x hx hsz st;have hrow:=λst=>vYj gl op n us sub x hx st;obtain⟨ta,xa,tb,xb,rfl,ho,hta,hxa,htb,hxb⟩:=hx.mk;simp only[Fm.size] at hsz;have hl1:=yZl us;have hl2:=yV8 sub;refine iI func158 ?_;simp only[go_sem,zE,zA,zL];refine (hrow _).mono ?_;rintro _ st ⟨rfl,rfl⟩;cases hr:yZ3 op n us.length sub.length
 ·simp only[go_sem];exact yQ0 ⟨by simp[Fm.ok,hr],rfl⟩
 simp only[go_sem];refine LoopC.ctr us.length (λk fr st' ds=>yXz (us.take k)=true/\fr 1=.iv (.raw (.bool false))/\fr 2=.box [.raw (.int .u8 op),.raw (.string n),.sl ta xa,.sl tb xb]/\fr 5=.iv (.raw (.int .i64 k))/\st'=st/\ds=[]) ?_ ?_ ?_
 ·simp only[go_sem,zE];exact⟨rfl,rfl⟩
 ·rintro k fr st _ hlt ⟨hok,f1,f2,f5,rfl,rfl⟩;obtain⟨a,ha⟩:=yQ2 hlt;obtain⟨y,hky,hy⟩:=hxa.get ha;have hmem:=lMg ha;have hcall:=wYk gl a y hy (by have:=yWq hmem;omega) st;obtain⟨v3,n3,m3⟩:=a;obtain⟨t3,x3,rfl,_⟩:=hy.mk;simp only[go_sem,zE,zB,zA,f1,f2,f5,hxa.len,lt_i hlt,yQ1 hta,iNn,hky,fits];intros;refine hcall.mono ?_;rintro _ st ⟨rfl,rfl⟩;cases hb:(Tm.mk v3 n3 m3).ok
  ·simp only[go_sem];exact yQ0 ⟨by simp[Fm.ok,xQ5 hmem hb],rfl⟩
  ·simp only[go_sem,zE,f1,f2,f5,yQa hlt (show us.length<=281474976710656 by omega)];rw[yQ5 ha,yKf,hok];simp[yXz,hb]
 ·rintro fr st _ ⟨hok,f1,f2,f5,rfl,rfl⟩;rw[lTl] at hok;simp only[go_sem,zE,f2,f5,hxa.len,yQk (nLi _)];intros;refine LoopC.ctr sub.length (λk fr st' ds=>yKn (sub.take k)=true/\fr 1=.iv (.raw (.bool false))/\fr 2=.box [.raw (.int .u8 op),.raw (.string n),.sl ta xa,.sl tb xb]/\fr 6=.iv (.raw (.int .i64 k))/\st'=st/\ds=[]) ?_ ?_ ?_
  ·simp only[go_sem,zE,f1,f2];exact⟨rfl,rfl⟩
  ·rintro k fr st _ hlt ⟨hok2,f1,f2,f6,rfl,rfl⟩;obtain⟨a,ha⟩:=yQ2 hlt;obtain⟨y,hky,hy⟩:=hxb.get ha;have hmem:=lMg ha;have h2:=(yXh ha).2;have hcall:=IH a hmem y hy (by omega);obtain⟨o5,n5,us5,sub5⟩:=a;obtain⟨t3,x3,t4,x4,rfl,_⟩:=hy.mk;simp only[go_sem,zE,zB,zA,f1,f2,f6,hxb.len,lt_i hlt,yQ1 htb,iNn,hky,fits];intros;refine (hcall _).mono ?_;rintro _ st ⟨rfl,rfl⟩;cases hb:(Fm.mk o5 n5 us5 sub5).ok
   ·simp only[go_sem];exact yQ0 ⟨by rw[show (Fm.mk op n us sub).ok=false by simp only[Fm.ok,xUx hmem hb,Bool.and_false]],rfl⟩
   ·simp only[go_sem,zE,f1,f2,f6,yQa hlt (show sub.length<=281474976710656 by omega)];rw[yQ5 ha,xQ7,hok2];simp only[yKn,hb,Bool.and_self]
  ·rintro fr st _ ⟨hok2,f1,f2,f6,rfl,rfl⟩;rw[lTl] at hok2;simp only[go_sem,zE,f2,f6,hxb.len,yQk (nLi _)];intros;exact yQ0 ⟨by simp only[Fm.ok,hr,hok,hok2,Bool.and_self],rfl⟩
theorem zUq:∀(k:Nat)(t:Fm),SizeOf.sizeOf t<k->RRw gl t
 | 0,f,h=>by omega
 | k+1,.mk o n us sub,h=>xWv gl o n us sub (λa ha=>zUq k a (by
   have:=lSm ha;simp at h;omega))
theorem wYr (t:Fm):RRw gl t:=zUq gl _ t (Nat.lt_succ_self _)
theorem zXf (f:Fm)(x:IV)(hx:IsFm f x)(hs:f.size<=1099511627776)(st:ISt):ICall prog gl 111 [x] st (λr st'=>r=.raw (.bool f.right)/\st'=st):=by
 have h1:=λst=>wYr gl f x hx hs st;have h2:=λst=>wJc gl f x hx hs st;have h3:=λst=>wJe gl f x hx hs st;have hri:f.right=(f.ok&&decide (f.size<=400)&&decide (f.deep<=40)):=rfl;obtain⟨op,n,us,sub⟩:=f;obtain⟨ta,xa,tb,xb,rfl,_⟩:=hx.mk;generalize Fm.mk op n us sub=f at *;refine iI func111 ?_;simp only[go_sem,zE,zA,zL];refine (h1 _).mono ?_;rintro _ st ⟨rfl,rfl⟩;cases hk:f.ok
 ·simp only[go_sem,zE];exact yQ0 ⟨by simp[hri,hk],rfl⟩
 simp only[go_sem,zE,zA,zL];refine (h2 _).mono ?_;rintro _ st ⟨rfl,rfl⟩;by_cases hz:f.size<=400
 ·simp only[go_sem,zE,zA,zL,show decide ((f.size:Int)<=400)=true from dEt (by omega)];refine (h3 _).mono ?_;rintro _ st ⟨rfl,rfl⟩;simp only[go_sem,zE];refine yQ0 ⟨?_,rfl⟩;rw[hri,hk,dEt hz];congr 3;simp;omega
 ·simp only[go_sem,zE,show decide ((f.size:Int)<=400)=false from dEf (by omega)];exact yQ0 ⟨by simp[hri,hz],rfl⟩
