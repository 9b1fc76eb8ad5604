/- Walks of the second program: names, righ -/
import Derived.Test.YtnknaopjcifoaaaGreatDoorJL
set_option linter.all false
open Nat renaming reduceEqDiff → zE,reduceBEq → zB,reduceAdd → zA,reduceLeDiff → zL
namespace Go.Proofs.Tryz
open Go Go.Iv
set_option maxRecDepth 4000
variable (gl:Nat->Option IV)
theorem in_n (c:UInt8)(lo hi:Nat)(a b:Int)(ha:a=lo)(hb:b=hi)(st:ISt):ICall prog gl 190 [.raw (.int .u8 c.toNat),.raw (.int .u8 a),.raw (.int .u8 b)] st (λx st'=>x=.raw (.bool (inB lo hi c))/\st'=st):=by
 subst ha hb;have hleq:∀x y:Int,binI prog 5 .leq (.int .u8 x) (.int .u8 y)=some (.bool (decide (x<=y))):=λx y=>by simp only[go_sem]
 refine iI func190 ?_;by_cases h1:lo<=c.toNat
 ·simp only[go_sem,zE,reduceCtorEq,show decide ((lo:Int)<=(c.toNat:Int))=true from dEt (by omega)];exact yQ0 ⟨by congr 3;simp[inB,h1],rfl⟩
 ·simp only[go_sem,zE,reduceCtorEq,show decide ((lo:Int)<=(c.toNat:Int))=false from dEf (by omega)];exact yQ0 ⟨by simp[inB,h1],rfl⟩
def yWa (d:Bool)(c:UInt8):Bool:=yV5 c || (!d&&(yJg c || yY8 c))
def yJ8 (d:Bool)(s:ByteArray):Bool :=
 match s.data.toList with
 | []=>false
 | _::cs=>decide (cs.length<16)&&cs.all (yWa d)
theorem zJr (s:ByteArray)(d:Bool)(st:ISt):ICall prog gl 189 [.raw (.string s),.raw (.bool d)] st (λx st'=>x=.raw (.bool (yJ8 d s))/\st'=st):=by
 refine iI func189 ?_;have hsz:=zJa s;cases hl:s.data.toList with
 | nil =>
  rw[hl] at hsz;simp only[go_sem];refine LoopC.ctr 0 (λk fr st' ds=>fr 0=.iv (.raw (.string s))/\fr 5=.iv (.raw (.int .i64 1))/\st'=st/\ds=[]) ?_ ?_ ?_
  ·simp only[go_sem,reduceCtorEq]
  ·intro k _ _ _ h;omega
  ·rintro fr _ _ ⟨f0,f5,rfl,rfl⟩;simp only[go_sem,zE,reduceCtorEq,f0,f5,show decide ((1:Int)<((s.size:Nat):Int))=false from dEf (by rw[hsz];simp),show decide ((0:Int)<((s.size:Nat):Int))=false from dEf (by rw[hsz];simp)];intros;exact yQ0 ⟨by simp[yJ8,hl],rfl⟩
 | cons c cs =>
  rw[hl,List.length_cons] at hsz;simp only[go_sem];refine LoopC.ctr cs.length (λk fr st' ds=>(cs.take k).all (yWa d)=true/\fr 0=.iv (.raw (.string s))/\fr 1=.iv (.raw (.bool d))/\fr 5=.iv (.raw (.int .i64 ((k+1:Nat):Int)))/\st'=st/\ds=[]) ?_ ?_ ?_
  ·simp only[go_sem,zE,reduceCtorEq];rfl
  ·rintro k fr st _ hlt ⟨hn,f0,f1,f5,rfl,rfl⟩;obtain⟨x,hx⟩:=yQ3 hlt;have hlt':decide (((k+1:Nat):Int)<((s.size:Nat):Int))=true:=by rw[hsz];simp;omega
   have hx':zU2 s ((k+1:Nat):Int)=some x:=zY9 (by rw[hl];simpa using hx);have hbad:yWa d x=false->yJ8 d s=false:=λh=>by
    have:cs.all (yWa d)=false:=by rw[List.all_eq_false];exact⟨x,lMg hx,by simp[h]⟩
    simp[yJ8,hl,this]
   have hgood:yWa d x=true->(cs.take (k+1)).all (yWa d)=true:=λh=>by
    rw[yQ5 hx,List.all_append,hn];simp[h]
   simp only[go_sem,zE,zA,reduceCtorEq,f0,f5,hlt',hx'];intro hlen;have hw:IntKind.i64.wrap (((k+1:Nat):Int)+1)=((k+1+1:Nat):Int):=by rw[w64]<;>omega
   refine (in_n gl x 48 57 _ _ rfl rfl _).mono ?_;rintro _ st ⟨rfl,rfl⟩;cases h1:inB 48 57 x
   case true =>
    simp only[go_sem,zE,reduceCtorEq,f0,f1,f5,hw];exact hgood (by simp[yWa,yV5,h1])
   cases d
   case true =>
    simp only[go_sem,zE,f1];exact yQ0 ⟨by rw[hbad (by simp[yWa,yV5,h1])],rfl⟩
   simp only[go_sem,zE,zA,reduceCtorEq,f0,f1,f5,hx'];refine (in_n gl x 65 90 _ _ rfl rfl _).mono ?_;rintro _ st ⟨rfl,rfl⟩;cases h2:inB 65 90 x
   case true =>
    simp only[go_sem,zE,reduceCtorEq,f0,f1,f5,hw];exact hgood (by simp[yWa,yJg,h2])
   simp only[go_sem,zE,zA,reduceCtorEq,f0,f5,hx'];refine (in_n gl x 97 122 _ _ rfl rfl _).mono ?_;rintro _ st ⟨rfl,rfl⟩;cases h3:inB 97 122 x
   case true =>
    simp only[go_sem,zE,reduceCtorEq,f0,f1,f5,hw];exact hgood (by simp[yWa,yY8,h3])
   simp only[go_sem,zE];exact yQ0 ⟨by rw[hbad (by simp[yWa,yV5,yJg,yY8,h1,h2,h3])],rfl⟩
  ·rintro fr st _ ⟨hn,f0,f1,f5,rfl,rfl⟩;rw[lTl] at hn;simp only[go_sem,zE,reduceCtorEq,f0,f5,show decide (((cs.length+1:Nat):Int)<((s.size:Nat):Int))=false from dEf (by rw[hsz];simp),show decide ((0:Int)<((s.size:Nat):Int))=true from dEt (by rw[hsz];omega)];intros;refine yQ0 ⟨?_,rfl⟩;congr 3;simp only[yJ8,hl,hn,Bool.and_true];rw[hsz];simp;omega
theorem wQi {p q:UInt8->Bool}{s:ByteArray}{c:UInt8}{cs:List UInt8}(hl:s.data.toList=c::cs)(h:p c=true)(hq:cs.all q=true)
  (hw:∀w∈[wAll,xZl,zXv,xZm,yU7,zVo],(match w.data.toList with|[]=>true|c::cs=>p c&&cs.all q)=false):yJ3 s=false:=by
 have key:∀w∈[wAll,xZl,zXv,xZm,yU7,zVo],s≠w:=λw hm he=>by
  have:=hw w hm;rw[<- he,hl] at this;simp[h,hq] at this
 simp only[List.mem_cons,List.not_mem_nil,or_false,forall_eq_or_imp,forall_eq] at key;obtain⟨k1,k2,k3,k4,k5,k6⟩:=key;unfold yJ3;rw[dEf k1,dEf k2,dEf k3,dEf k4,dEf k5,dEf k6];rfl
theorem zQx:yWa true=yV5:=by funext c;simp[yWa]
theorem yVl:yWa false=yWg:=by
 funext c;simp only[yWa,yWg,Bool.not_false,Bool.true_and];cases yV5 c<;>cases yJg c<;>cases yY8 c<;>rfl
theorem yUi {d:Bool}{s:ByteArray}(h:yJ8 d s=true):∃c cs,s.data.toList=c::cs/\cs.length<16/\cs.all (yWa d)=true:=by
 unfold yJ8 at h;split at h
 ·cases h
 ·rename_i c cs hl;simp only[bAt,dTe] at h;exact⟨c,cs,hl,h.1,h.2⟩
theorem yVs {p:UInt8->Bool}{d:Bool}{s:ByteArray}{c:UInt8}{cs:List UInt8}(hl:s.data.toList=c::cs)(hr:p c=true->cs.all (yWa d)=true->yJ3 s=false):yKx p (yWa d) s=(yJ8 d s&&p c):=by
 simp only[yKx,yJ8,hl];cases h1:p c
 ·simp
 ·cases h2:cs.all (yWa d)
  ·simp
  ·simp[hr h1 h2]
theorem zYz {p:UInt8->Bool}{d:Bool}{s:ByteArray}(h:yJ8 d s=false):yKx p (yWa d) s=false:=by
 unfold yJ8 at h;unfold yKx;split
 ·rfl
 ·rename_i c cs hl;rw[hl] at h;simp only at h;cases h1:decide (cs.length<16)<;>cases h2:cs.all (yWa d)<;>simp_all
theorem yJw (s:ByteArray)(st:ISt):ICall prog gl 155 [.raw (.string s)] st (λx st'=>x=.raw (.bool (yKl s))/\st'=st):=by
 refine iI func155 ?_;simp only[go_sem,zA,reduceCtorEq];refine (zJr gl s true _).mono ?_;rintro _ st ⟨rfl,rfl⟩;cases h:yJ8 true s
 ·simp only[go_sem,zE];exact yQ0 ⟨by rw[yKl,<- zQx,zYz h],rfl⟩
 ·obtain⟨c,cs,hl,h16,hq⟩:=yUi h;simp only[go_sem,zE,zA,reduceCtorEq,yGb hl];refine (in_n gl c 117 122 _ _ rfl rfl _).mono ?_;rintro _ st ⟨rfl,rfl⟩;simp only[go_sem,zE];refine yQ0 ⟨?_,rfl⟩;rw[yKl,<- zQx,yVs hl (λh1 h2=>wQi hl h1 (by rw[zQx] at h2;exact h2) (by decide)),h,Bool.true_and]
theorem zUm (s:ByteArray)(st:ISt):ICall prog gl 260 [.raw (.string s)] st (λx st'=>x=.raw (.bool (zJn s))/\st'=st):=by
 refine iI func260 ?_;simp only[go_sem,zA,reduceCtorEq];refine (zJr gl s false _).mono ?_;rintro _ st ⟨rfl,rfl⟩;cases h:yJ8 false s
 ·simp only[go_sem,zE];exact yQ0 ⟨by rw[zJn,<- yVl,zYz h],rfl⟩
 ·obtain⟨c,cs,hl,h16,hq⟩:=yUi h;simp only[go_sem,zE,zA,reduceCtorEq,yGb hl];refine (in_n gl c 65 90 _ _ rfl rfl _).mono ?_;rintro _ st ⟨rfl,rfl⟩;simp only[go_sem,zE];refine yQ0 ⟨?_,rfl⟩;rw[zJn,<- yVl,yVs hl (λh1 h2=>wQi hl h1 (by rw[yVl] at h2;exact h2) (by decide)),h,Bool.true_and];rfl
theorem yWo {s:ByteArray}(h:yJ3 s=true):zVf s=false:=by
 unfold zVf yKx;split
 ·rfl
 ·simp[h]
theorem xXd (s:ByteArray)(st:ISt):ICall prog gl 223 [.raw (.string s)] st (λx st'=>x=.raw (.bool (zVf s))/\st'=st):=by
 refine iI func223 ?_;simp only[go_sem,zA,zL,reduceCtorEq];refine yZ7 (λh=>?_) (λh=>?_)
 ·simp only[go_sem,h];exact yQ0 ⟨by rw[yWo (by rw[show s=wAll from of_decide_eq_true h];rfl)],rfl⟩
 have h1:s≠wAll:=of_decide_eq_false h;simp only[go_sem,zE,zA,zL,h];refine yZ7 (λh=>?_) (λh=>?_)
 ·simp only[go_sem,h];exact yQ0 ⟨by rw[yWo (by rw[show s=xZl from of_decide_eq_true h];rfl)],rfl⟩
 have h2:s≠xZl:=of_decide_eq_false h;simp only[go_sem,zE,zA,zL,h];refine yZ7 (λh=>?_) (λh=>?_)
 ·simp only[go_sem,h];exact yQ0 ⟨by rw[yWo (by rw[show s=zXv from of_decide_eq_true h];rfl)],rfl⟩
 have h3:s≠zXv:=of_decide_eq_false h;simp only[go_sem,zE,zA,zL,h];refine yZ7 (λh=>?_) (λh=>?_)
 ·simp only[go_sem,h];exact yQ0 ⟨by rw[yWo (by rw[show s=xZm from of_decide_eq_true h];rfl)],rfl⟩
 have h4:s≠xZm:=of_decide_eq_false h;simp only[go_sem,zE,zA,zL,h];refine yZ7 (λh=>?_) (λh=>?_)
 ·simp only[go_sem,h];exact yQ0 ⟨by rw[yWo (by rw[show s=yU7 from of_decide_eq_true h];rfl)],rfl⟩
 have h5:s≠yU7:=of_decide_eq_false h;simp only[go_sem,zA,reduceCtorEq,h];refine (zJr gl s false _).mono ?_;rintro _ st ⟨rfl,rfl⟩;cases h:yJ8 false s
 ·simp only[go_sem,zE];exact yQ0 ⟨by rw[zVf,<- yVl,zYz h],rfl⟩
 ·obtain⟨c,cs,hl,h16,hq⟩:=yUi h;simp only[go_sem,zE,zA,reduceCtorEq,yGb hl];refine (in_n gl c 97 116 _ _ rfl rfl _).mono ?_;rintro _ st ⟨rfl,rfl⟩;simp only[go_sem,zE];refine yQ0 ⟨?_,rfl⟩;rw[zVf,<- yVl,yVs hl (λk1 _=>?_),h,Bool.true_and];have h6:s≠zVo:=λhe=>by
   rw[he] at hl;have h7:(117:UInt8)=c:=(List.cons.inj hl).1;rw[<- h7] at k1;exact absurd k1 (by decide)
  unfold yJ3;rw[dEf h1,dEf h2,dEf h3,dEf h4,dEf h5,dEf h6];rfl
def RTm (t:Tm):Prop:=∀(x:IV) (_:IsTm t x) (_:t.size<=1099511627776) (st:ISt),ICall prog gl 191 [x,.raw (.bool false)] st (λr st'=>r=.raw (.bool t.ok)/\st'=st)
theorem yKv:∀(l m:List Tm),yJd (l++m)=(yJd l&&yJd m)
 | [],m=>by simp[yJd]
 | a::l,m=>by simp only[List.cons_append,yJd,yKv l m,Bool.and_assoc]
theorem zUx {l:List Tm}{a:Tm}(h:a∈l)(ha:a.ok=false):yJd l=false:=by
 induction l with
 | nil=>cases h
 | cons b l ih =>
  simp only[yJd];rcases List.mem_cons.1 h with rfl|h
  ·simp[ha]
  ·simp[ih h]
theorem yZx:∀l:List Tm,l.length<=yQ8 l
 | []=>Nat.le_refl _
 | a::l=>by have:=yZx l;have:=a.size_pos;simp only[List.length_cons,yQ8];omega
theorem yY0 {l:List Tm}{a:Tm}(h:a∈l):a.size<=yQ8 l:=by
 induction l with
 | nil=>cases h
 | cons b l ih =>
  simp only[yQ8];rcases List.mem_cons.1 h with rfl|h
  ·omega
  ·have:=ih h;omega
theorem xY4 (v:Bool)(n:ByteArray)(us:List Tm)(IH:∀a∈us,RTm gl a):RTm gl (.mk v n us):=by
 intro x hx hsz st;obtain⟨tg,xs,rfl,htg,hxs⟩:=hx.mk;simp only[Tm.size] at hsz;have hlsz:=yZx us;refine iI func191 ?_;cases v
 ·simp only[go_sem,zE];refine LoopC.ctr us.length (λk fr st' ds=>yJd (us.take k)=true/\fr 1=.iv (.raw (.bool false))/\fr 2=.box [.raw (.bool false),.raw (.string n),.sl tg xs]/\fr 5=.iv (.raw (.int .i64 k))/\st'=st/\ds=[]) ?_ ?_ ?_
  ·simp only[go_sem,zE];exact⟨rfl,rfl⟩
  ·rintro k fr st _ hlt ⟨hok,f1,f2,f5,rfl,rfl⟩;obtain⟨a,ha⟩:=yQ3 hlt;obtain⟨y,hky,hy⟩:=hxs.get ha;have hmem:=lMg ha;have hcall:=IH a hmem y hy (by have:=yY0 hmem;omega) st;obtain⟨v3,n3,m3⟩:=a;obtain⟨t3,x3,rfl,_⟩:=hy.mk;simp only[go_sem,zE,zB,zA,f1,f2,f5,hxs.len,lt_i hlt,yQ1 htg,iNn,hky,fits];intros;refine hcall.mono ?_;rintro _ st ⟨rfl,rfl⟩;cases hb:(Tm.mk v3 n3 m3).ok
   ·simp only[go_sem];exact yQ0 ⟨by rw[show (Tm.mk false n us).ok=false by simp[Tm.ok,zUx hmem hb]],rfl⟩
   ·simp only[go_sem,zE,f1,f2,f5,yQ9 hlt (show us.length<=281474976710656 by omega)];rw[yQ5 ha,yKv,hok];simp[yJd,hb]
  ·rintro fr st _ ⟨hok,f1,f2,f5,rfl,rfl⟩;rw[lTl] at hok;simp only[go_sem,zE,zA,f2,f5,hxs.len,yQj (nLi _)];intros;refine (xXd gl n _).mono ?_;rintro _ st ⟨rfl,rfl⟩;cases hn:zVf n
   ·simp only[go_sem,zE];exact yQ0 ⟨by simp[Tm.ok,hn],rfl⟩
   ·simp only[go_sem,zE,f2,hxs.len];intros;refine yQ0 ⟨?_,rfl⟩;simp only[Tm.ok,hn,hok,Bool.and_true];congr 3;simp;omega
 ·simp only[go_sem,zE,hxs.len];intros;by_cases h0:us.length=0
  ·obtain rfl:=List.eq_nil_of_length_eq_zero h0;simp only[go_sem,zE,zA,show decide (((0:Nat):Int)=0)=true from rfl];refine (yJw gl n _).mono ?_;rintro _ st ⟨rfl,rfl⟩;cases hn:yKl n
   ·simp only[go_sem,zE];exact yQ0 ⟨by simp[Tm.ok,hn],rfl⟩
   ·simp only[go_sem,zE];exact yQ0 ⟨by simp[Tm.ok,hn],rfl⟩
  ·simp only[go_sem,zE,show decide ((us.length:Int)=0)=false from dEf (by omega)];exact yQ0 ⟨by cases us with|nil=>exact absurd rfl h0|cons=>simp[Tm.ok],rfl⟩
theorem zUf:∀(k:Nat)(t:Tm),SizeOf.sizeOf t<k->RTm gl t
 | 0,f,h=>by omega
 | k+1,.mk v n us,h=>xY4 gl v n us (λa ha=>zUf k a (by
   have:=lSm ha;simp at h;omega))
theorem xUt (t:Tm):RTm gl t:=zUf gl _ t (Nat.lt_succ_self _)
theorem zJh (t:Tm)(x:IV)(hx:IsTm t x)(hs:t.size<=1099511627776)(st:ISt):ICall prog gl 156 [x] st (λr st'=>r=.raw (.bool t.ok)/\st'=st):=by
 have hc:=λst=>xUt gl t x hx hs st;obtain⟨v,n,us⟩:=t;obtain⟨tg,xs,rfl,_⟩:=hx.mk;refine iI func156 ?_;simp only[go_sem,zE,zA,zL];refine (hc _).mono ?_;rintro _ st ⟨rfl,rfl⟩;simp only[go_sem];exact yQ0 ⟨rfl,rfl⟩
theorem di0 (a:Nat):decide ((a:Int)=0)=decide (a=0):=by by_cases h:a=0<;>simp[h]<;>omega
theorem di1 (a:Nat):decide ((a:Int)=1)=decide (a=1):=by by_cases h:a=1<;>simp[h]<;>omega
theorem di2 (a:Nat):decide ((a:Int)=2)=decide (a=2):=by by_cases h:a=2<;>simp[h]<;>omega
theorem dle4 (a:Nat):decide ((a:Int)<=4)=decide (a<=4):=by by_cases h:a<=4<;>simp[h]<;>omega
theorem wKa {op:Nat}{n:ByteArray}{la ls:Nat}(h:op=0\/16<op):yZ6 op n la ls=false:=by
 unfold yZ6;split<;>first|rfl|omega
theorem vYw (op:Nat)(n:ByteArray)(us:List Tm)(sub:List Fm)(x:IV)(hx:IsFm (.mk op n us sub) x)(st:ISt) :
  ICall prog gl 243 [x,.raw (.bool false)] st (λr st'=>r=.raw (.bool (yZ6 op n us.length sub.length))/\st'=st):=by
 obtain⟨ta,xa,tb,xb,rfl,ho,hta,hxa,htb,hxb⟩:=hx.mk;refine iI func243 ?_;simp only[go_sem,zE,hxa.len,hxb.len];intros;rcases (show op=1\/op=2\/op=3\/op=4\/op=5\/op=6\/op=7\/op=8\/op=9\/op=10\/op=11\/op=12\/op=13\/op=14\/op=15\/op=16\/(op=0\/16<op) by omega) with h|h|h|h|h|h|h|h|h|h|h|h|h|h|h|h|h
 ·simp only[go_sem,zE,zA,show decide ((op:Int)=1)=true from dEt (by omega),hxa.len,hxb.len];refine (zUm gl n _).mono ?_;rintro _ st ⟨rfl,rfl⟩;cases h1:zJn n
  ·simp only[go_sem,zE];exact yQ0 ⟨by subst h;simp[yZ6,h1],rfl⟩
  ·cases h2:decide (us.length<=4)
   ·simp only[go_sem,zE,dle4,h2];exact yQ0 ⟨by subst h;simp only[yZ6,h1,h2,Bool.and_false,Bool.false_and],rfl⟩
   ·simp only[go_sem,zE,dle4,h2,di0];exact yQ0 ⟨by subst h;simp only[yZ6,h1,h2,Bool.true_and,Bool.and_true],rfl⟩
 ·cases h1:decide (n=⟨#[]⟩)
  ·simp only[go_sem,zE,zA,zL,show decide ((op:Int)=1)=false from dEf (by omega),show decide ((op:Int)=2)=true from dEt (by omega),hxa.len,hxb.len,h1];exact yQ0 ⟨by subst h;simp[yZ6,h1],rfl⟩
  ·cases h2:decide (us.length=0)
   ·simp only[go_sem,zE,zA,zL,show decide ((op:Int)=1)=false from dEf (by omega),show decide ((op:Int)=2)=true from dEt (by omega),hxa.len,hxb.len,h1,di0,h2];exact yQ0 ⟨by subst h;simp only[yZ6,h1,h2,Bool.and_false,Bool.false_and],rfl⟩
   ·simp only[go_sem,zE,zA,zL,show decide ((op:Int)=1)=false from dEf (by omega),show decide ((op:Int)=2)=true from dEt (by omega),hxa.len,hxb.len,h1,di0,h2,di0];exact yQ0 ⟨by subst h;simp only[yZ6,h1,h2,Bool.true_and,Bool.and_true],rfl⟩
 ·cases h1:decide (n=⟨#[]⟩)
  ·simp only[go_sem,zE,zA,zL,show decide ((op:Int)=1)=false from dEf (by omega),show decide ((op:Int)=2)=false from dEf (by omega),show decide ((op:Int)=3)=true from dEt (by omega),hxa.len,hxb.len,h1];exact yQ0 ⟨by subst h;simp[yZ6,h1],rfl⟩
  ·cases h2:decide (us.length=0)
   ·simp only[go_sem,zE,zA,zL,show decide ((op:Int)=1)=false from dEf (by omega),show decide ((op:Int)=2)=false from dEf (by omega),show decide ((op:Int)=3)=true from dEt (by omega),hxa.len,hxb.len,h1,di0,h2];exact yQ0 ⟨by subst h;simp only[yZ6,h1,h2,Bool.and_false,Bool.false_and],rfl⟩
   ·simp only[go_sem,zE,zA,zL,show decide ((op:Int)=1)=false from dEf (by omega),show decide ((op:Int)=2)=false from dEf (by omega),show decide ((op:Int)=3)=true from dEt (by omega),hxa.len,hxb.len,h1,di0,h2,di1];exact yQ0 ⟨by subst h;simp only[yZ6,h1,h2,Bool.true_and,Bool.and_true],rfl⟩
 ·cases h1:decide (n=⟨#[]⟩)
  ·simp only[go_sem,zE,zA,zL,show decide ((op:Int)=1)=false from dEf (by omega),show decide ((op:Int)=2)=false from dEf (by omega),show decide ((op:Int)=3)=false from dEf (by omega),show decide ((op:Int)=10)=false from dEf (by omega),show decide ((op:Int)=11)=false from dEf (by omega),show decide ((op:Int)=12)=false from dEf (by omega),show decide ((op:Int)=13)=false from dEf (by omega),show decide ((op:Int)=4)=true from dEt (by omega),hxa.len,hxb.len,h1];exact yQ0 ⟨by subst h;simp[yZ6,h1],rfl⟩
  ·cases h2:decide (us.length=0)
   ·simp only[go_sem,zE,zA,zL,show decide ((op:Int)=1)=false from dEf (by omega),show decide ((op:Int)=2)=false from dEf (by omega),show decide ((op:Int)=3)=false from dEf (by omega),show decide ((op:Int)=10)=false from dEf (by omega),show decide ((op:Int)=11)=false from dEf (by omega),show decide ((op:Int)=12)=false from dEf (by omega),show decide ((op:Int)=13)=false from dEf (by omega),show decide ((op:Int)=4)=true from dEt (by omega),hxa.len,hxb.len,h1,di0,h2];exact yQ0 ⟨by subst h;simp only[yZ6,h1,h2,Bool.and_false,Bool.false_and],rfl⟩
   ·simp only[go_sem,zE,zA,zL,show decide ((op:Int)=1)=false from dEf (by omega),show decide ((op:Int)=2)=false from dEf (by omega),show decide ((op:Int)=3)=false from dEf (by omega),show decide ((op:Int)=10)=false from dEf (by omega),show decide ((op:Int)=11)=false from dEf (by omega),show decide ((op:Int)=12)=false from dEf (by omega),show decide ((op:Int)=13)=false from dEf (by omega),show decide ((op:Int)=4)=true from dEt (by omega),hxa.len,hxb.len,h1,di0,h2,di2];exact yQ0 ⟨by subst h;simp only[yZ6,h1,h2,Bool.true_and,Bool.and_true],rfl⟩
 ·cases h1:decide (n=⟨#[]⟩)
  ·simp only[go_sem,zE,zA,zL,show decide ((op:Int)=1)=false from dEf (by omega),show decide ((op:Int)=2)=false from dEf (by omega),show decide ((op:Int)=3)=false from dEf (by omega),show decide ((op:Int)=10)=false from dEf (by omega),show decide ((op:Int)=11)=false from dEf (by omega),show decide ((op:Int)=12)=false from dEf (by omega),show decide ((op:Int)=13)=false from dEf (by omega),show decide ((op:Int)=4)=false from dEf (by omega),show decide ((op:Int)=5)=true from dEt (by omega),hxa.len,hxb.len,h1];exact yQ0 ⟨by subst h;simp[yZ6,h1],rfl⟩
  ·cases h2:decide (us.length=0)
   ·simp only[go_sem,zE,zA,zL,show decide ((op:Int)=1)=false from dEf (by omega),show decide ((op:Int)=2)=false from dEf (by omega),show decide ((op:Int)=3)=false from dEf (by omega),show decide ((op:Int)=10)=false from dEf (by omega),show decide ((op:Int)=11)=false from dEf (by omega),show decide ((op:Int)=12)=false from dEf (by omega),show decide ((op:Int)=13)=false from dEf (by omega),show decide ((op:Int)=4)=false from dEf (by omega),show decide ((op:Int)=5)=true from dEt (by omega),hxa.len,hxb.len,h1,di0,h2];exact yQ0 ⟨by subst h;simp only[yZ6,h1,h2,Bool.and_false,Bool.false_and],rfl⟩
   ·simp only[go_sem,zE,zA,zL,show decide ((op:Int)=1)=false from dEf (by omega),show decide ((op:Int)=2)=false from dEf (by omega),show decide ((op:Int)=3)=false from dEf (by omega),show decide ((op:Int)=10)=false from dEf (by omega),show decide ((op:Int)=11)=false from dEf (by omega),show decide ((op:Int)=12)=false from dEf (by omega),show decide ((op:Int)=13)=false from dEf (by omega),show decide ((op:Int)=4)=false from dEf (by omega),show decide ((op:Int)=5)=true from dEt (by omega),hxa.len,hxb.len,h1,di0,h2,di2];exact yQ0 ⟨by subst h;simp only[yZ6,h1,h2,Bool.true_and,Bool.and_true],rfl⟩
 ·cases h1:decide (n=⟨#[]⟩)
  ·simp only[go_sem,zE,zA,zL,show decide ((op:Int)=1)=false from dEf (by omega),show decide ((op:Int)=2)=false from dEf (by omega),show decide ((op:Int)=3)=false from dEf (by omega),show decide ((op:Int)=10)=false from dEf (by omega),show decide ((op:Int)=11)=false from dEf (by omega),show decide ((op:Int)=12)=false from dEf (by omega),show decide ((op:Int)=13)=false from dEf (by omega),show decide ((op:Int)=4)=false from dEf (by omega),show decide ((op:Int)=5)=false from dEf (by omega),show decide ((op:Int)=6)=true from dEt (by omega),hxa.len,hxb.len,h1];exact yQ0 ⟨by subst h;simp[yZ6,h1],rfl⟩
  ·cases h2:decide (us.length=0)
   ·simp only[go_sem,zE,zA,zL,show decide ((op:Int)=1)=false from dEf (by omega),show decide ((op:Int)=2)=false from dEf (by omega),show decide ((op:Int)=3)=false from dEf (by omega),show decide ((op:Int)=10)=false from dEf (by omega),show decide ((op:Int)=11)=false from dEf (by omega),show decide ((op:Int)=12)=false from dEf (by omega),show decide ((op:Int)=13)=false from dEf (by omega),show decide ((op:Int)=4)=false from dEf (by omega),show decide ((op:Int)=5)=false from dEf (by omega),show decide ((op:Int)=6)=true from dEt (by omega),hxa.len,hxb.len,h1,di0,h2];exact yQ0 ⟨by subst h;simp only[yZ6,h1,h2,Bool.and_false,Bool.false_and],rfl⟩
   ·simp only[go_sem,zE,zA,zL,show decide ((op:Int)=1)=false from dEf (by omega),show decide ((op:Int)=2)=false from dEf (by omega),show decide ((op:Int)=3)=false from dEf (by omega),show decide ((op:Int)=10)=false from dEf (by omega),show decide ((op:Int)=11)=false from dEf (by omega),show decide ((op:Int)=12)=false from dEf (by omega),show decide ((op:Int)=13)=false from dEf (by omega),show decide ((op:Int)=4)=false from dEf (by omega),show decide ((op:Int)=5)=false from dEf (by omega),show decide ((op:Int)=6)=true from dEt (by omega),hxa.len,hxb.len,h1,di0,h2,di2];exact yQ0 ⟨by subst h;simp only[yZ6,h1,h2,Bool.true_and,Bool.and_true],rfl⟩
 ·cases h1:decide (n=⟨#[]⟩)
  ·simp only[go_sem,zE,zA,zL,show decide ((op:Int)=1)=false from dEf (by omega),show decide ((op:Int)=2)=false from dEf (by omega),show decide ((op:Int)=3)=false from dEf (by omega),show decide ((op:Int)=10)=false from dEf (by omega),show decide ((op:Int)=11)=false from dEf (by omega),show decide ((op:Int)=12)=false from dEf (by omega),show decide ((op:Int)=13)=false from dEf (by omega),show decide ((op:Int)=4)=false from dEf (by omega),show decide ((op:Int)=5)=false from dEf (by omega),show decide ((op:Int)=6)=false from dEf (by omega),show decide ((op:Int)=7)=true from dEt (by omega),hxa.len,hxb.len,h1];exact yQ0 ⟨by subst h;simp[yZ6,h1],rfl⟩
  ·cases h2:decide (us.length=0)
   ·simp only[go_sem,zE,zA,zL,show decide ((op:Int)=1)=false from dEf (by omega),show decide ((op:Int)=2)=false from dEf (by omega),show decide ((op:Int)=3)=false from dEf (by omega),show decide ((op:Int)=10)=false from dEf (by omega),show decide ((op:Int)=11)=false from dEf (by omega),show decide ((op:Int)=12)=false from dEf (by omega),show decide ((op:Int)=13)=false from dEf (by omega),show decide ((op:Int)=4)=false from dEf (by omega),show decide ((op:Int)=5)=false from dEf (by omega),show decide ((op:Int)=6)=false from dEf (by omega),show decide ((op:Int)=7)=true from dEt (by omega),hxa.len,hxb.len,h1,di0,h2];exact yQ0 ⟨by subst h;simp only[yZ6,h1,h2,Bool.and_false,Bool.false_and],rfl⟩
   ·simp only[go_sem,zE,zA,zL,show decide ((op:Int)=1)=false from dEf (by omega),show decide ((op:Int)=2)=false from dEf (by omega),show decide ((op:Int)=3)=false from dEf (by omega),show decide ((op:Int)=10)=false from dEf (by omega),show decide ((op:Int)=11)=false from dEf (by omega),show decide ((op:Int)=12)=false from dEf (by omega),show decide ((op:Int)=13)=false from dEf (by omega),show decide ((op:Int)=4)=false from dEf (by omega),show decide ((op:Int)=5)=false from dEf (by omega),show decide ((op:Int)=6)=false from dEf (by omega),show decide ((op:Int)=7)=true from dEt (by omega),hxa.len,hxb.len,h1,di0,h2,di2];exact yQ0 ⟨by subst h;simp only[yZ6,h1,h2,Bool.true_and,Bool.and_true],rfl⟩
 ·simp only[go_sem,zE,zA,show decide ((op:Int)=1)=false from dEf (by omega),show decide ((op:Int)=2)=false from dEf (by omega),show decide ((op:Int)=3)=false from dEf (by omega),show decide ((op:Int)=10)=false from dEf (by omega),show decide ((op:Int)=11)=false from dEf (by omega),show decide ((op:Int)=12)=false from dEf (by omega),show decide ((op:Int)=13)=false from dEf (by omega),show decide ((op:Int)=4)=false from dEf (by omega),show decide ((op:Int)=5)=false from dEf (by omega),show decide ((op:Int)=6)=false from dEf (by omega),show decide ((op:Int)=7)=false from dEf (by omega),show decide ((op:Int)=14)=false from dEf (by omega),show decide ((op:Int)=8)=true from dEt (by omega),hxa.len,hxb.len];refine (yJw gl n _).mono ?_;rintro _ st ⟨rfl,rfl⟩;cases h1:yKl n
  ·simp only[go_sem,zE];exact yQ0 ⟨by subst h;simp[yZ6,h1],rfl⟩
  ·cases h2:decide (us.length=0)
   ·simp only[go_sem,zE,di0,h2];exact yQ0 ⟨by subst h;simp only[yZ6,h1,h2,Bool.and_false,Bool.false_and],rfl⟩
   ·simp only[go_sem,zE,di0,h2,di1];exact yQ0 ⟨by subst h;simp only[yZ6,h1,h2,Bool.true_and,Bool.and_true],rfl⟩
 ·simp only[go_sem,zE,zA,show decide ((op:Int)=1)=false from dEf (by omega),show decide ((op:Int)=2)=false from dEf (by omega),show decide ((op:Int)=3)=false from dEf (by omega),show decide ((op:Int)=10)=false from dEf (by omega),show decide ((op:Int)=11)=false from dEf (by omega),show decide ((op:Int)=12)=false from dEf (by omega),show decide ((op:Int)=13)=false from dEf (by omega),show decide ((op:Int)=4)=false from dEf (by omega),show decide ((op:Int)=5)=false from dEf (by omega),show decide ((op:Int)=6)=false from dEf (by omega),show decide ((op:Int)=7)=false from dEf (by omega),show decide ((op:Int)=14)=false from dEf (by omega),show decide ((op:Int)=8)=false from dEf (by omega),show decide ((op:Int)=9)=true from dEt (by omega),hxa.len,hxb.len];refine (yJw gl n _).mono ?_;rintro _ st ⟨rfl,rfl⟩;cases h1:yKl n
  ·simp only[go_sem,zE];exact yQ0 ⟨by subst h;simp[yZ6,h1],rfl⟩
  ·cases h2:decide (us.length=0)
   ·simp only[go_sem,zE,di0,h2];exact yQ0 ⟨by subst h;simp only[yZ6,h1,h2,Bool.and_false,Bool.false_and],rfl⟩
   ·simp only[go_sem,zE,di0,h2,di1];exact yQ0 ⟨by subst h;simp only[yZ6,h1,h2,Bool.true_and,Bool.and_true],rfl⟩
 ·cases h1:decide (n=⟨#[]⟩)
  ·simp only[go_sem,zE,zA,zL,show decide ((op:Int)=1)=false from dEf (by omega),show decide ((op:Int)=2)=false from dEf (by omega),show decide ((op:Int)=3)=false from dEf (by omega),show decide ((op:Int)=10)=true from dEt (by omega),hxa.len,hxb.len,h1];exact yQ0 ⟨by subst h;simp[yZ6,h1],rfl⟩
  ·cases h2:decide (us.length=0)
   ·simp only[go_sem,zE,zA,zL,show decide ((op:Int)=1)=false from dEf (by omega),show decide ((op:Int)=2)=false from dEf (by omega),show decide ((op:Int)=3)=false from dEf (by omega),show decide ((op:Int)=10)=true from dEt (by omega),hxa.len,hxb.len,h1,di0,h2];exact yQ0 ⟨by subst h;simp only[yZ6,h1,h2,Bool.and_false,Bool.false_and],rfl⟩
   ·simp only[go_sem,zE,zA,zL,show decide ((op:Int)=1)=false from dEf (by omega),show decide ((op:Int)=2)=false from dEf (by omega),show decide ((op:Int)=3)=false from dEf (by omega),show decide ((op:Int)=10)=true from dEt (by omega),hxa.len,hxb.len,h1,di0,h2,di1];exact yQ0 ⟨by subst h;simp only[yZ6,h1,h2,Bool.true_and,Bool.and_true],rfl⟩
 ·cases h1:decide (n=⟨#[]⟩)
  ·simp only[go_sem,zE,zA,zL,show decide ((op:Int)=1)=false from dEf (by omega),show decide ((op:Int)=2)=false from dEf (by omega),show decide ((op:Int)=3)=false from dEf (by omega),show decide ((op:Int)=10)=false from dEf (by omega),show decide ((op:Int)=11)=true from dEt (by omega),hxa.len,hxb.len,h1];exact yQ0 ⟨by subst h;simp[yZ6,h1],rfl⟩
  ·cases h2:decide (us.length=0)
   ·simp only[go_sem,zE,zA,zL,show decide ((op:Int)=1)=false from dEf (by omega),show decide ((op:Int)=2)=false from dEf (by omega),show decide ((op:Int)=3)=false from dEf (by omega),show decide ((op:Int)=10)=false from dEf (by omega),show decide ((op:Int)=11)=true from dEt (by omega),hxa.len,hxb.len,h1,di0,h2];exact yQ0 ⟨by subst h;simp only[yZ6,h1,h2,Bool.and_false,Bool.false_and],rfl⟩
   ·simp only[go_sem,zE,zA,zL,show decide ((op:Int)=1)=false from dEf (by omega),show decide ((op:Int)=2)=false from dEf (by omega),show decide ((op:Int)=3)=false from dEf (by omega),show decide ((op:Int)=10)=false from dEf (by omega),show decide ((op:Int)=11)=true from dEt (by omega),hxa.len,hxb.len,h1,di0,h2,di1];exact yQ0 ⟨by subst h;simp only[yZ6,h1,h2,Bool.true_and,Bool.and_true],rfl⟩
 ·cases h1:decide (n=⟨#[]⟩)
  ·simp only[go_sem,zE,zA,zL,show decide ((op:Int)=1)=false from dEf (by omega),show decide ((op:Int)=2)=false from dEf (by omega),show decide ((op:Int)=3)=false from dEf (by omega),show decide ((op:Int)=10)=false from dEf (by omega),show decide ((op:Int)=11)=false from dEf (by omega),show decide ((op:Int)=12)=true from dEt (by omega),hxa.len,hxb.len,h1];exact yQ0 ⟨by subst h;simp[yZ6,h1],rfl⟩
  ·cases h2:decide (us.length=0)
   ·simp only[go_sem,zE,zA,zL,show decide ((op:Int)=1)=false from dEf (by omega),show decide ((op:Int)=2)=false from dEf (by omega),show decide ((op:Int)=3)=false from dEf (by omega),show decide ((op:Int)=10)=false from dEf (by omega),show decide ((op:Int)=11)=false from dEf (by omega),show decide ((op:Int)=12)=true from dEt (by omega),hxa.len,hxb.len,h1,di0,h2];exact yQ0 ⟨by subst h;simp only[yZ6,h1,h2,Bool.and_false,Bool.false_and],rfl⟩
   ·simp only[go_sem,zE,zA,zL,show decide ((op:Int)=1)=false from dEf (by omega),show decide ((op:Int)=2)=false from dEf (by omega),show decide ((op:Int)=3)=false from dEf (by omega),show decide ((op:Int)=10)=false from dEf (by omega),show decide ((op:Int)=11)=false from dEf (by omega),show decide ((op:Int)=12)=true from dEt (by omega),hxa.len,hxb.len,h1,di0,h2,di1];exact yQ0 ⟨by subst h;simp only[yZ6,h1,h2,Bool.true_and,Bool.and_true],rfl⟩
 ·cases h1:decide (n=⟨#[]⟩)
  ·simp only[go_sem,zE,zA,zL,show decide ((op:Int)=1)=false from dEf (by omega),show decide ((op:Int)=2)=false from dEf (by omega),show decide ((op:Int)=3)=false from dEf (by omega),show decide ((op:Int)=10)=false from dEf (by omega),show decide ((op:Int)=11)=false from dEf (by omega),show decide ((op:Int)=12)=false from dEf (by omega),show decide ((op:Int)=13)=true from dEt (by omega),hxa.len,hxb.len,h1];exact yQ0 ⟨by subst h;simp[yZ6,h1],rfl⟩
  ·cases h2:decide (us.length=0)
   ·simp only[go_sem,zE,zA,zL,show decide ((op:Int)=1)=false from dEf (by omega),show decide ((op:Int)=2)=false from dEf (by omega),show decide ((op:Int)=3)=false from dEf (by omega),show decide ((op:Int)=10)=false from dEf (by omega),show decide ((op:Int)=11)=false from dEf (by omega),show decide ((op:Int)=12)=false from dEf (by omega),show decide ((op:Int)=13)=true from dEt (by omega),hxa.len,hxb.len,h1,di0,h2];exact yQ0 ⟨by subst h;simp only[yZ6,h1,h2,Bool.and_false,Bool.false_and],rfl⟩
   ·simp only[go_sem,zE,zA,zL,show decide ((op:Int)=1)=false from dEf (by omega),show decide ((op:Int)=2)=false from dEf (by omega),show decide ((op:Int)=3)=false from dEf (by omega),show decide ((op:Int)=10)=false from dEf (by omega),show decide ((op:Int)=11)=false from dEf (by omega),show decide ((op:Int)=12)=false from dEf (by omega),show decide ((op:Int)=13)=true from dEt (by omega),hxa.len,hxb.len,h1,di0,h2,di1];exact yQ0 ⟨by subst h;simp only[yZ6,h1,h2,Bool.true_and,Bool.and_true],rfl⟩
 ·cases h1:decide (n=⟨#[]⟩)
  ·simp only[go_sem,zE,zA,zL,show decide ((op:Int)=1)=false from dEf (by omega),show decide ((op:Int)=2)=false from dEf (by omega),show decide ((op:Int)=3)=false from dEf (by omega),show decide ((op:Int)=10)=false from dEf (by omega),show decide ((op:Int)=11)=false from dEf (by omega),show decide ((op:Int)=12)=false from dEf (by omega),show decide ((op:Int)=13)=false from dEf (by omega),show decide ((op:Int)=4)=false from dEf (by omega),show decide ((op:Int)=5)=false from dEf (by omega),show decide ((op:Int)=6)=false from dEf (by omega),show decide ((op:Int)=7)=false from dEf (by omega),show decide ((op:Int)=14)=true from dEt (by omega),hxa.len,hxb.len,h1];exact yQ0 ⟨by subst h;simp[yZ6,h1],rfl⟩
  ·cases h2:decide (us.length=0)
   ·simp only[go_sem,zE,zA,zL,show decide ((op:Int)=1)=false from dEf (by omega),show decide ((op:Int)=2)=false from dEf (by omega),show decide ((op:Int)=3)=false from dEf (by omega),show decide ((op:Int)=10)=false from dEf (by omega),show decide ((op:Int)=11)=false from dEf (by omega),show decide ((op:Int)=12)=false from dEf (by omega),show decide ((op:Int)=13)=false from dEf (by omega),show decide ((op:Int)=4)=false from dEf (by omega),show decide ((op:Int)=5)=false from dEf (by omega),show decide ((op:Int)=6)=false from dEf (by omega),show decide ((op:Int)=7)=false from dEf (by omega),show decide ((op:Int)=14)=true from dEt (by omega),hxa.len,hxb.len,h1,di0,h2];exact yQ0 ⟨by subst h;simp only[yZ6,h1,h2,Bool.and_false,Bool.false_and],rfl⟩
   ·simp only[go_sem,zE,zA,zL,show decide ((op:Int)=1)=false from dEf (by omega),show decide ((op:Int)=2)=false from dEf (by omega),show decide ((op:Int)=3)=false from dEf (by omega),show decide ((op:Int)=10)=false from dEf (by omega),show decide ((op:Int)=11)=false from dEf (by omega),show decide ((op:Int)=12)=false from dEf (by omega),show decide ((op:Int)=13)=false from dEf (by omega),show decide ((op:Int)=4)=false from dEf (by omega),show decide ((op:Int)=5)=false from dEf (by omega),show decide ((op:Int)=6)=false from dEf (by omega),show decide ((op:Int)=7)=false from dEf (by omega),show decide ((op:Int)=14)=true from dEt (by omega),hxa.len,hxb.len,h1,di0,h2,di2];exact yQ0 ⟨by subst h;simp only[yZ6,h1,h2,Bool.true_and,Bool.and_true],rfl⟩
 ·simp only[go_sem,zE,show decide ((op:Int)=1)=false from dEf (by omega),show decide ((op:Int)=2)=false from dEf (by omega),show decide ((op:Int)=3)=false from dEf (by omega),show decide ((op:Int)=10)=false from dEf (by omega),show decide ((op:Int)=11)=false from dEf (by omega),show decide ((op:Int)=12)=false from dEf (by omega),show decide ((op:Int)=13)=false from dEf (by omega),show decide ((op:Int)=4)=false from dEf (by omega),show decide ((op:Int)=5)=false from dEf (by omega),show decide ((op:Int)=6)=false from dEf (by omega),show decide ((op:Int)=7)=false from dEf (by omega),show decide ((op:Int)=14)=false from dEf (by omega),show decide ((op:Int)=8)=false from dEf (by omega),show decide ((op:Int)=9)=false from dEf (by omega),show decide ((op:Int)=15)=true from dEt (by omega),hxa.len,hxb.len];exact yQ0 ⟨by rw[h];rfl,rfl⟩
 ·simp only[go_sem,zE,show decide ((op:Int)=1)=false from dEf (by omega),show decide ((op:Int)=2)=false from dEf (by omega),show decide ((op:Int)=3)=false from dEf (by omega),show decide ((op:Int)=10)=false from dEf (by omega),show decide ((op:Int)=11)=false from dEf (by omega),show decide ((op:Int)=12)=false from dEf (by omega),show decide ((op:Int)=13)=false from dEf (by omega),show decide ((op:Int)=4)=false from dEf (by omega),show decide ((op:Int)=5)=false from dEf (by omega),show decide ((op:Int)=6)=false from dEf (by omega),show decide ((op:Int)=7)=false from dEf (by omega),show decide ((op:Int)=14)=false from dEf (by omega),show decide ((op:Int)=8)=false from dEf (by omega),show decide ((op:Int)=9)=false from dEf (by omega),show decide ((op:Int)=15)=false from dEf (by omega),show decide ((op:Int)=16)=true from dEt (by omega),hxa.len,hxb.len];exact yQ0 ⟨by rw[h];rfl,rfl⟩
 ·simp only[go_sem,zE,show decide ((op:Int)=1)=false from dEf (by omega),show decide ((op:Int)=2)=false from dEf (by omega),show decide ((op:Int)=3)=false from dEf (by omega),show decide ((op:Int)=10)=false from dEf (by omega),show decide ((op:Int)=11)=false from dEf (by omega),show decide ((op:Int)=12)=false from dEf (by omega),show decide ((op:Int)=13)=false from dEf (by omega),show decide ((op:Int)=4)=false from dEf (by omega),show decide ((op:Int)=5)=false from dEf (by omega),show decide ((op:Int)=6)=false from dEf (by omega),show decide ((op:Int)=7)=false from dEf (by omega),show decide ((op:Int)=14)=false from dEf (by omega),show decide ((op:Int)=8)=false from dEf (by omega),show decide ((op:Int)=9)=false from dEf (by omega),show decide ((op:Int)=15)=false from dEf (by omega),show decide ((op:Int)=16)=false from dEf (by omega),hxa.len,hxb.len];exact yQ0 ⟨by rw[wKa h],rfl⟩
def RSz (us:List Tm):Prop:=∀(tg:Tag) (xs:List IV) (_:okEs tg 3) (_:IsTms us xs) (_:yQ8 us<=1099511627776) (st:ISt),
 ICall prog gl 244 [.sl tg xs] st (λr st'=>r=.raw (.int .i64 (yQ8 us))/\st'=st)
theorem yUa:∀(l m:List Tm),yQ8 (l++m)=yQ8 l+yQ8 m
 | [],m=>by simp[yQ8]
 | a::l,m=>by simp only[List.cons_append,yQ8,yUa l m];omega
theorem zKg:∀(l m:List Tm),yQi (l++m)=max (yQi l) (yQi m)
 | [],m=>by simp[yQi]
 | a::l,m=>by simp only[List.cons_append,yQi,zKg l m];omega
theorem yUb:∀(l m:List Fm),yQ7 (l++m)=yQ7 l+yQ7 m
 | [],m=>by simp[yQ7]
 | a::l,m=>by simp only[List.cons_append,yQ7,yUb l m];omega
theorem zKh:∀(l m:List Fm),yQr (l++m)=max (yQr l) (yQr m)
 | [],m=>by simp[yQr]
 | a::l,m=>by simp only[List.cons_append,yQr,zKh l m];omega
theorem zUz:∀(l m:List Fm),yV3 (l++m)=(yV3 l&&yV3 m)
 | [],m=>by simp[yV3]
 | a::l,m=>by simp only[List.cons_append,yV3,zUz l m,Bool.and_assoc]
theorem zQ0 {us:List Tm}{k:Nat}{a:Tm}(h:us[k]?=some a):yQ8 (us.take (k+1))=yQ8 (us.take k)+a.size/\yQ8 (us.take k)+a.size<=yQ8 us:=by
 have h1:yQ8 (us.take (k+1))=yQ8 (us.take k)+a.size:=by rw[yQ5 h,yUa];simp[yQ8]
 refine⟨h1,?_⟩;have h2:yQ8 us=yQ8 (us.take (k+1))+yQ8 (us.drop (k+1)):=by rw[<- yUa,List.take_append_drop]
 omega
theorem yXe {us:List Fm}{k:Nat}{a:Fm}(h:us[k]?=some a):yQ7 (us.take (k+1))=yQ7 (us.take k)+a.size/\yQ7 (us.take k)+a.size<=yQ7 us:=by
 have h1:yQ7 (us.take (k+1))=yQ7 (us.take k)+a.size:=by rw[yQ5 h,yUb];simp[yQ7]
 refine⟨h1,?_⟩;have h2:yQ7 us=yQ7 (us.take (k+1))+yQ7 (us.drop (k+1)):=by rw[<- yUb,List.take_append_drop]
 omega
theorem yVj:∀l:List Fm,l.length<=yQ7 l
 | []=>Nat.le_refl _
 | a::l=>by have:=yVj l;have:=a.size_pos;simp only[List.length_cons,yQ7];omega
mutual
theorem xZ0:∀t:Tm,t.deep<=t.size
 | .mk _ _ l=>by have:=yJ5 l;simp only[Tm.deep,Tm.size];omega
theorem yJ5:∀l:List Tm,yQi l<=yQ8 l
 | []=>Nat.le_refl _
 | a::l=>by have:=xZ0 a;have:=yJ5 l;simp only[yQi,yQ8];omega
end
mutual
theorem zGg:∀t:Fm,t.deep<=t.size
 | .mk _ _ l s=>by have:=yJ5 l;have:=yVu s;simp only[Fm.deep,Fm.size];omega
theorem yVu:∀l:List Fm,yQr l<=yQ7 l
 | []=>Nat.le_refl _
 | a::l=>by have:=zGg a;have:=yVu l;simp only[yQr,yQ7];omega
end
theorem vYh {a b:Nat}(h:a+b<=281474976710656):IntKind.i64.wrap ((a:Int)+(b:Int))=((a+b:Nat):Int):=by rw[w64]<;>omega
theorem vZ0 {a b:Nat}(h:a+1+b<=281474976710656):IntKind.i64.wrap (IntKind.i64.wrap ((a:Int)+1)+(b:Int))=((a+(b+1):Nat):Int):=by rw[w64,w64]<;>(try rw[w64])<;>omega
theorem xY5 (us:List Tm)(IH:∀v n l,Tm.mk v n l∈us->RSz gl l):RSz gl us:=by
 intro tg xs htg hxs hsz st;have hlsz:=yZx us;refine iI func244 ?_;simp only[go_sem];refine LoopC.ctr us.length (λk fr st' ds=>fr 0=.iv (.sl tg xs)/\fr 3=.iv (.raw (.int .i64 (yQ8 (us.take k))))/\fr 4=.iv (.raw (.int .i64 k))/\st'=st/\ds=[]) ?_ ?_ ?_
 ·simp only[go_sem,zE,reduceCtorEq]
  first|rfl|exact⟨rfl,rfl⟩
 ·rintro k fr st _ hlt ⟨f0,f3,f4,rfl,rfl⟩;obtain⟨⟨v,n,m⟩,ha⟩:=yQ3 hlt;obtain⟨y,hky,hy⟩:=hxs.get ha;have hmem:=lMg ha;obtain⟨h1,h2⟩:=zQ0 ha;obtain⟨t3,x3,rfl,ht3,hx3⟩:=hy.mk;simp only[Tm.size] at h1 h2;simp only[go_sem,zE,zA,reduceCtorEq,f0,f3,f4,hxs.len,lt_i hlt,yQ1 htg,iNn,hky,fits];intros;refine (IH v n m hmem t3 x3 ht3 hx3 (by omega) _).mono ?_;rintro _ st ⟨rfl,rfl⟩;simp only[go_sem,zE,reduceCtorEq,f0,f4,yQ9 hlt (show us.length<=281474976710656 by omega),vZ0 (show yQ8 (us.take k)+1+yQ8 m<=281474976710656 by omega),h1]
 ·rintro fr st _ ⟨f0,f3,f4,rfl,rfl⟩;rw[lTl] at f3;simp only[go_sem,zE,reduceCtorEq,f0,f3,f4,hxs.len,yQj (nLi _)];intros;exact yQ0 ⟨rfl,rfl⟩
theorem zUg:∀(k:Nat)(us:List Tm),SizeOf.sizeOf us<k->RSz gl us
 | 0,f,h=>by omega
 | k+1,us,h=>xY5 gl us (λv n l hm=>zUg k l (by
   have:=lSm hm;simp at this;omega))
theorem wG4 (us:List Tm):RSz gl us:=zUg gl _ us (Nat.lt_succ_self _)
def RDp (us:List Tm):Prop:=∀(tg:Tag) (xs:List IV) (_:okEs tg 3) (_:IsTms us xs) (_:yQ8 us<=1099511627776) (st:ISt),
 ICall prog gl 245 [.sl tg xs] st (λr st'=>r=.raw (.int .i64 (yQi us))/\st'=st)
theorem xYa (us:List Tm)(IH:∀v n l,Tm.mk v n l∈us->RDp gl l):RDp gl us:=by
 intro tg xs htg hxs hsz st;have hlsz:=yZx us;refine iI func245 ?_;simp only[go_sem];refine LoopC.ctr us.length (λk fr st' ds=>fr 0=.iv (.sl tg xs)/\fr 3=.iv (.raw (.int .i64 (yQi (us.take k))))/\fr 4=.iv (.raw (.int .i64 k))/\st'=st/\ds=[]) ?_ ?_ ?_
 ·simp only[go_sem,zE,reduceCtorEq]
  first|rfl|exact⟨rfl,rfl⟩
 ·rintro k fr st _ hlt ⟨f0,f3,f4,rfl,rfl⟩;obtain⟨⟨v,n,m⟩,ha⟩:=yQ3 hlt;obtain⟨y,hky,hy⟩:=hxs.get ha;have hmem:=lMg ha;have h1:yQi (us.take (k+1))=max (yQi (us.take k)) (yQi m+1):=by rw[yQ5 ha,zKg];simp[yQi,Tm.deep]
  have h2:=(zQ0 ha).2;have h3:=yJ5 m;have h4:=yJ5 (us.take k);obtain⟨t3,x3,rfl,ht3,hx3⟩:=hy.mk;simp only[Tm.size] at h2;simp only[go_sem,zE,zA,reduceCtorEq,f0,f4,hxs.len,lt_i hlt,yQ1 htg,iNn,hky,fits];intros;refine (IH v n m hmem t3 x3 ht3 hx3 (by omega) _).mono ?_;rintro _ st ⟨rfl,rfl⟩;have hw:IntKind.i64.wrap ((yQi m:Int)+1)=((yQi m+1:Nat):Int):=by rw[w64]<;>omega
  by_cases hg:yQi (us.take k)<yQi m+1
  ·simp only[go_sem,zE,reduceCtorEq,f0,f3,f4,hw,lt_i hg,yQ9 hlt (show us.length<=281474976710656 by omega)];rw[h1,Nat.max_eq_right (by omega)]
  ·simp only[go_sem,zE,reduceCtorEq,f0,f3,f4,hw,yQj hg,yQ9 hlt (show us.length<=281474976710656 by omega)];rw[h1,Nat.max_eq_left (by omega)]
 ·rintro fr st _ ⟨f0,f3,f4,rfl,rfl⟩;rw[lTl] at f3;simp only[go_sem,zE,reduceCtorEq,f0,f3,f4,hxs.len,yQj (nLi _)];intros;exact yQ0 ⟨rfl,rfl⟩
theorem zUl:∀(k:Nat)(us:List Tm),SizeOf.sizeOf us<k->RDp gl us
 | 0,f,h=>by omega
 | k+1,us,h=>xYa gl us (λv n l hm=>zUl k l (by
   have:=lSm hm;simp at this;omega))
theorem wG9 (us:List Tm):RDp gl us:=zUl gl _ us (Nat.lt_succ_self _)
def RNd (f:Fm):Prop:=∀(x:IV) (_:IsFm f x) (_:f.size<=1099511627776) (st:ISt),ICall prog gl 219 [x] st (λr st'=>r=.raw (.int .i64 f.size)/\st'=st)
theorem xXa (op:Nat)(n:ByteArray)(us:List Tm)(sub:List Fm)(IH:∀a∈sub,RNd gl a):RNd gl (.mk op n us sub):=by
 intro x hx hsz st;obtain⟨ta,xa,tb,xb,rfl,ho,hta,hxa,htb,hxb⟩:=hx.mk;simp only[Fm.size] at hsz;have hl1:=yZx us;have hl2:=yVj sub;refine iI func219 ?_;simp only[go_sem,zE,zA];refine (wG4 gl us ta xa hta hxa (by omega) _).mono ?_;rintro _ st ⟨rfl,rfl⟩;have hw1:IntKind.i64.wrap (1+(yQ8 us:Int))=((yQ8 us+1:Nat):Int):=by rw[w64]<;>omega
 simp only[go_sem,hw1];refine LoopC.ctr sub.length (λk fr st' ds=>fr 1=.box [.raw (.int .u8 op),.raw (.string n),.sl ta xa,.sl tb xb]/\fr 3=.iv (.raw (.int .i64 ((yQ8 us+1+yQ7 (sub.take k):Nat):Int)))/\fr 4=.iv (.raw (.int .i64 k))/\st'=st/\ds=[]) ?_ ?_ ?_
 ·simp only[go_sem,zE]
  first|rfl|exact⟨rfl,rfl⟩
 ·rintro k fr st _ hlt ⟨f1,f3,f4,rfl,rfl⟩;obtain⟨a,ha⟩:=yQ3 hlt;obtain⟨y,hky,hy⟩:=hxb.get ha;have hmem:=lMg ha;obtain⟨h1,h2⟩:=yXe ha;have hcall:=IH a hmem y hy (by omega);obtain⟨o5,n5,us5,sub5⟩:=a;obtain⟨t3,x3,t4,x4,rfl,_⟩:=hy.mk;simp only[go_sem,zE,zB,zA,f1,f3,f4,hxb.len,lt_i hlt,yQ1 htb,iNn,hky,fits];intros;refine (hcall _).mono ?_;rintro _ st ⟨rfl,rfl⟩;simp only[go_sem,zE,f1,f4,yQ9 hlt (show sub.length<=281474976710656 by omega),vYh (show (yQ8 us+1+yQ7 (sub.take k))+(Fm.mk o5 n5 us5 sub5).size<=281474976710656 by omega),h1];rw[Nat.add_assoc (yQ8 us+1)]
 ·rintro fr st _ ⟨f1,f3,f4,rfl,rfl⟩;rw[lTl] at f3;simp only[go_sem,zE,f1,f3,f4,hxb.len,yQj (nLi _)];intros;exact yQ0 ⟨by rw[show (Fm.mk op n us sub).size=yQ8 us+1+yQ7 sub by simp only[Fm.size];omega],rfl⟩
theorem zVz:∀(k:Nat)(t:Fm),SizeOf.sizeOf t<k->RNd gl t
 | 0,f,h=>by omega
 | k+1,.mk o n us sub,h=>xXa gl o n us sub (λa ha=>zVz k a (by
   have:=lSm ha;simp at h;omega))
theorem xKq (t:Fm):RNd gl t:=zVz gl _ t (Nat.lt_succ_self _)
def RDd (f:Fm):Prop:=∀(x:IV) (_:IsFm f x) (_:f.size<=1099511627776) (st:ISt),ICall prog gl 220 [x] st (λr st'=>r=.raw (.int .i64 f.deep)/\st'=st)
theorem xXb (op:Nat)(n:ByteArray)(us:List Tm)(sub:List Fm)(IH:∀a∈sub,RDd gl a):RDd gl (.mk op n us sub):=by
 intro x hx hsz st;obtain⟨ta,xa,tb,xb,rfl,ho,hta,hxa,htb,hxb⟩:=hx.mk;simp only[Fm.size] at hsz;have hl1:=yZx us;have hl2:=yVj sub;have hd1:=yJ5 us;have hd2:=yVu sub;refine iI func220 ?_;simp only[go_sem,zE,zA];refine (wG9 gl us ta xa hta hxa (by omega) _).mono ?_;rintro _ st ⟨rfl,rfl⟩;simp only[go_sem];refine LoopC.ctr sub.length (λk fr st' ds=>fr 1=.box [.raw (.int .u8 op),.raw (.string n),.sl ta xa,.sl tb xb]/\fr 3=.iv (.raw (.int .i64 ((max (yQi us) (yQr (sub.take k)):Nat):Int)))/\fr 4=.iv (.raw (.int .i64 k))/\st'=st/\ds=[]) ?_ ?_ ?_
 ·simp only[go_sem,zE];rw[show max (yQi us) (yQr [])=yQi us by simp[yQr]];exact⟨rfl,rfl⟩
 ·rintro k fr st _ hlt ⟨f1,f3,f4,rfl,rfl⟩;obtain⟨a,ha⟩:=yQ3 hlt;obtain⟨y,hky,hy⟩:=hxb.get ha;have hmem:=lMg ha;have h2:=(yXe ha).2;have hcall:=IH a hmem y hy (by omega);have h1:yQr (sub.take (k+1))=max (yQr (sub.take k)) a.deep:=by rw[yQ5 ha,zKh];simp[yQr]
  obtain⟨o5,n5,us5,sub5⟩:=a;obtain⟨t3,x3,t4,x4,rfl,_⟩:=hy.mk;simp only[go_sem,zE,zB,zA,f1,f4,hxb.len,lt_i hlt,yQ1 htb,iNn,hky,fits];intros;refine (hcall _).mono ?_;rintro _ st ⟨rfl,rfl⟩;by_cases hg:max (yQi us) (yQr (sub.take k))<(Fm.mk o5 n5 us5 sub5).deep
  ·simp only[go_sem,zE,f1,f3,f4,lt_i hg,yQ9 hlt (show sub.length<=281474976710656 by omega)];rw[h1,show max (yQi us) (max (yQr (sub.take k)) (Fm.mk o5 n5 us5 sub5).deep)=(Fm.mk o5 n5 us5 sub5).deep by omega]
  ·simp only[go_sem,zE,f1,f3,f4,yQj hg,yQ9 hlt (show sub.length<=281474976710656 by omega)];rw[h1,show max (yQi us) (max (yQr (sub.take k)) (Fm.mk o5 n5 us5 sub5).deep)=max (yQi us) (yQr (sub.take k)) by omega]
 ·rintro fr st _ ⟨f1,f3,f4,rfl,rfl⟩;rw[lTl] at f3;have hw:IntKind.i64.wrap (((max (yQi us) (yQr sub):Nat):Int)+1)=((max (yQi us) (yQr sub)+1:Nat):Int):=by rw[w64]<;>omega
  simp only[go_sem,zE,f1,f3,f4,hxb.len,yQj (nLi _),hw];intros;exact yQ0 ⟨by simp only[Fm.deep],rfl⟩
theorem zW0:∀(k:Nat)(t:Fm),SizeOf.sizeOf t<k->RDd gl t
 | 0,f,h=>by omega
 | k+1,.mk o n us sub,h=>xXb gl o n us sub (λa ha=>zW0 k a (by
   have:=lSm ha;simp at h;omega))
theorem xKs (t:Fm):RDd gl t:=zW0 gl _ t (Nat.lt_succ_self _)
theorem wQh {l:List Fm}{a:Fm}(h:a∈l)(ha:a.ok=false):yV3 l=false:=by
 induction l with
 | nil=>cases h
 | cons b l ih =>
  simp only[yV3];rcases List.mem_cons.1 h with rfl|h
  ·simp[ha]
  ·simp[ih h]
def RRw (f:Fm):Prop:=∀(x:IV) (_:IsFm f x) (_:f.size<=1099511627776) (st:ISt),ICall prog gl 218 [x,.raw (.bool false)] st (λr st'=>r=.raw (.bool f.ok)/\st'=st)
theorem xY7 (op:Nat)(n:ByteArray)(us:List Tm)(sub:List Fm)(IH:∀a∈sub,RRw gl a):RRw gl (.mk op n us sub):=by
 intro x hx hsz st;have hrow:=λst=>vYw gl op n us sub x hx st;obtain⟨ta,xa,tb,xb,rfl,ho,hta,hxa,htb,hxb⟩:=hx.mk;simp only[Fm.size] at hsz;have hl1:=yZx us;have hl2:=yVj sub;refine iI func218 ?_;simp only[go_sem,zE,zA,zL];refine (hrow _).mono ?_;rintro _ st ⟨rfl,rfl⟩;cases hr:yZ6 op n us.length sub.length
 ·simp only[go_sem];exact yQ0 ⟨by simp[Fm.ok,hr],rfl⟩
 simp only[go_sem];refine LoopC.ctr us.length (λk fr st' ds=>yJd (us.take k)=true/\fr 1=.iv (.raw (.bool false))/\fr 2=.box [.raw (.int .u8 op),.raw (.string n),.sl ta xa,.sl tb xb]/\fr 5=.iv (.raw (.int .i64 k))/\st'=st/\ds=[]) ?_ ?_ ?_
 ·simp only[go_sem,zE];exact⟨rfl,rfl⟩
 ·rintro k fr st _ hlt ⟨hok,f1,f2,f5,rfl,rfl⟩;obtain⟨a,ha⟩:=yQ3 hlt;obtain⟨y,hky,hy⟩:=hxa.get ha;have hmem:=lMg ha;have hcall:=xUt gl a y hy (by have:=yY0 hmem;omega) st;obtain⟨v3,n3,m3⟩:=a;obtain⟨t3,x3,rfl,_⟩:=hy.mk;simp only[go_sem,zE,zB,zA,f1,f2,f5,hxa.len,lt_i hlt,yQ1 hta,iNn,hky,fits];intros;refine hcall.mono ?_;rintro _ st ⟨rfl,rfl⟩;cases hb:(Tm.mk v3 n3 m3).ok
  ·simp only[go_sem];exact yQ0 ⟨by simp[Fm.ok,zUx hmem hb],rfl⟩
  ·simp only[go_sem,zE,f1,f2,f5,yQ9 hlt (show us.length<=281474976710656 by omega)];rw[yQ5 ha,yKv,hok];simp[yJd,hb]
 ·rintro fr st _ ⟨hok,f1,f2,f5,rfl,rfl⟩;rw[lTl] at hok;simp only[go_sem,zE,f2,f5,hxa.len,yQj (nLi _)];intros;refine LoopC.ctr sub.length (λk fr st' ds=>yV3 (sub.take k)=true/\fr 1=.iv (.raw (.bool false))/\fr 2=.box [.raw (.int .u8 op),.raw (.string n),.sl ta xa,.sl tb xb]/\fr 6=.iv (.raw (.int .i64 k))/\st'=st/\ds=[]) ?_ ?_ ?_
  ·simp only[go_sem,zE,f1,f2];exact⟨rfl,rfl⟩
  ·rintro k fr st _ hlt ⟨hok2,f1,f2,f6,rfl,rfl⟩;obtain⟨a,ha⟩:=yQ3 hlt;obtain⟨y,hky,hy⟩:=hxb.get ha;have hmem:=lMg ha;have h2:=(yXe ha).2;have hcall:=IH a hmem y hy (by omega);obtain⟨o5,n5,us5,sub5⟩:=a;obtain⟨t3,x3,t4,x4,rfl,_⟩:=hy.mk;simp only[go_sem,zE,zB,zA,f1,f2,f6,hxb.len,lt_i hlt,yQ1 htb,iNn,hky,fits];intros;refine (hcall _).mono ?_;rintro _ st ⟨rfl,rfl⟩;cases hb:(Fm.mk o5 n5 us5 sub5).ok
   ·simp only[go_sem];exact yQ0 ⟨by rw[show (Fm.mk op n us sub).ok=false by simp only[Fm.ok,wQh hmem hb,Bool.and_false]],rfl⟩
   ·simp only[go_sem,zE,f1,f2,f6,yQ9 hlt (show sub.length<=281474976710656 by omega)];rw[yQ5 ha,zUz,hok2];simp only[yV3,hb,Bool.and_self]
  ·rintro fr st _ ⟨hok2,f1,f2,f6,rfl,rfl⟩;rw[lTl] at hok2;simp only[go_sem,zE,f2,f6,hxb.len,yQj (nLi _)];intros;exact yQ0 ⟨by simp only[Fm.ok,hr,hok,hok2,Bool.and_self],rfl⟩
theorem zUi:∀(k:Nat)(t:Fm),SizeOf.sizeOf t<k->RRw gl t
 | 0,f,h=>by omega
 | k+1,.mk o n us sub,h=>xY7 gl o n us sub (λa ha=>zUi k a (by
   have:=lSm ha;simp at h;omega))
theorem wGa (t:Fm):RRw gl t:=zUi gl _ t (Nat.lt_succ_self _)
theorem zXc (f:Fm)(x:IV)(hx:IsFm f x)(hs:f.size<=1099511627776)(st:ISt):ICall prog gl 186 [x] st (λr st'=>r=.raw (.bool f.right)/\st'=st):=by
 have h1:=λst=>wGa gl f x hx hs st;have h2:=λst=>xKq gl f x hx hs st;have h3:=λst=>xKs gl f x hx hs st;have hri:f.right=(f.ok&&decide (f.size<=400)&&decide (f.deep<=40)):=rfl;obtain⟨op,n,us,sub⟩:=f;obtain⟨ta,xa,tb,xb,rfl,_⟩:=hx.mk;generalize Fm.mk op n us sub=f at *;refine iI func186 ?_;simp only[go_sem,zE,zA,zL];refine (h1 _).mono ?_;rintro _ st ⟨rfl,rfl⟩;cases hk:f.ok
 ·simp only[go_sem,zE];exact yQ0 ⟨by simp[hri,hk],rfl⟩
 simp only[go_sem,zE,zA,zL];refine (h2 _).mono ?_;rintro _ st ⟨rfl,rfl⟩;by_cases hz:f.size<=400
 ·simp only[go_sem,zE,zA,zL,show decide ((f.size:Int)<=400)=true from dEt (by omega)];refine (h3 _).mono ?_;rintro _ st ⟨rfl,rfl⟩;simp only[go_sem,zE];refine yQ0 ⟨?_,rfl⟩;rw[hri,hk,dEt hz];congr 3;simp;omega
 ·simp only[go_sem,zE,show decide ((f.size:Int)<=400)=false from dEf (by omega)];exact yQ0 ⟨by simp[hri,hz],rfl⟩
