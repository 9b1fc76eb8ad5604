/-  -/
import Derived.Test.YtebjhmlmdjnkgaaGreatDoorJV
set_option linter.all false
open Nat renaming reduceEqDiff → zE,reduceBEq → zB,reduceAdd → zA,reduceMul → zM,reduceSub → zS,reduceLeDiff → zL
namespace Go.Proofs.Tryz
open Go Go.Iv
set_option maxRecDepth 4000
variable (gl:Nat->Option IV)
theorem in_n (c:UInt8)(lo hi:Nat)(a b:Int)(ha:a=lo)(hb:b=hi)(st:ISt):ICall prog gl 241 [.raw (.int .u8 c.toNat),.raw (.int .u8 a),.raw (.int .u8 b)] st (λx st'=>x=.raw (.bool (inB lo hi c))/\st'=st):=by
 subst ha hb;have hleq:∀x y:Int,binI prog 5 .leq (.int .u8 x) (.int .u8 y)=some (.bool (decide (x<=y))):=λx y=>by simp only[go_sem]
 refine iI func241 ?_;by_cases h1:lo<=c.toNat
 ·simp only[go_sem,zE,reduceCtorEq,show decide ((lo:Int)<=(c.toNat:Int))=true from dEt (by omega)];exact yQ0 ⟨by congr 3;simp[inB,h1],rfl⟩
 ·simp only[go_sem,zE,reduceCtorEq,show decide ((lo:Int)<=(c.toNat:Int))=false from dEf (by omega)];exact yQ0 ⟨by simp[inB,h1],rfl⟩
def yWa (d:Bool)(c:UInt8):Bool:=yVs c || (!d&&(yJ2 c || yWo c))
def yJg (d:Bool)(s:ByteArray):Bool :=
 match s.data.toList with
 | []=>false
 | _::cs=>decide (cs.length<16)&&cs.all (yWa d)
theorem wQ5 (s:ByteArray)(d:Bool)(st:ISt):ICall prog gl 240 [.raw (.string s),.raw (.bool d)] st (λx st'=>x=.raw (.bool (yJg d s))/\st'=st):=by
 refine iI func240 ?_;have hsz:=zXu s;cases hl:s.data.toList with
 | nil =>
  rw[hl] at hsz;simp only[go_sem];refine LoopC.ctr 0 (λk fr st' ds=>fr 0=.iv (.raw (.string s))/\fr 5=.iv (.raw (.int .i64 1))/\st'=st/\ds=[]) ?_ ?_ ?_
  ·simp only[go_sem,reduceCtorEq]
  ·intro k _ _ _ h;omega
  ·rintro fr _ _ ⟨f0,f5,rfl,rfl⟩;simp only[go_sem,zE,reduceCtorEq,f0,f5,show decide ((1:Int)<((s.size:Nat):Int))=false from dEf (by rw[hsz];simp),show decide ((0:Int)<((s.size:Nat):Int))=false from dEf (by rw[hsz];simp)];intros;exact yQ0 ⟨by simp[yJg,hl],rfl⟩
 | cons c cs =>
  rw[hl,List.length_cons] at hsz;simp only[go_sem];refine LoopC.ctr cs.length (λk fr st' ds=>(cs.take k).all (yWa d)=true/\fr 0=.iv (.raw (.string s))/\fr 1=.iv (.raw (.bool d))/\fr 5=.iv (.raw (.int .i64 ((k+1:Nat):Int)))/\st'=st/\ds=[]) ?_ ?_ ?_
  ·simp only[go_sem,zE,reduceCtorEq];rfl
  ·rintro k fr st _ hlt ⟨hn,f0,f1,f5,rfl,rfl⟩;obtain⟨x,hx⟩:=yQ3 hlt;have hlt':decide (((k+1:Nat):Int)<((s.size:Nat):Int))=true:=by rw[hsz];simp;omega
   have hx':zGi s ((k+1:Nat):Int)=some x:=zWb (by rw[hl];simpa using hx);have hbad:yWa d x=false->yJg d s=false:=λh=>by
    have:cs.all (yWa d)=false:=by rw[List.all_eq_false];exact⟨x,lMg hx,by simp[h]⟩
    simp[yJg,hl,this]
   have hgood:yWa d x=true->(cs.take (k+1)).all (yWa d)=true:=λh=>by
    rw[yQ8 hx,List.all_append,hn];simp[h]
   simp only[go_sem,zE,zA,reduceCtorEq,f0,f5,hlt',hx'];intro hlen;have hw:IntKind.i64.wrap (((k+1:Nat):Int)+1)=((k+1+1:Nat):Int):=by rw[w64]<;>omega
   refine (in_n gl x 48 57 _ _ rfl rfl _).mono ?_;rintro _ st ⟨rfl,rfl⟩;cases h1:inB 48 57 x
   case true =>
    simp only[go_sem,zE,reduceCtorEq,f0,f1,f5,hw];exact hgood (by simp[yWa,yVs,h1])
   cases d
   case true =>
    simp only[go_sem,zE,f1];exact yQ0 ⟨by rw[hbad (by simp[yWa,yVs,h1])],rfl⟩
   simp only[go_sem,zE,zA,reduceCtorEq,f0,f1,f5,hx'];refine (in_n gl x 65 90 _ _ rfl rfl _).mono ?_;rintro _ st ⟨rfl,rfl⟩;cases h2:inB 65 90 x
   case true =>
    simp only[go_sem,zE,reduceCtorEq,f0,f1,f5,hw];exact hgood (by simp[yWa,yJ2,h2])
   simp only[go_sem,zE,zA,reduceCtorEq,f0,f5,hx'];refine (in_n gl x 97 122 _ _ rfl rfl _).mono ?_;rintro _ st ⟨rfl,rfl⟩;cases h3:inB 97 122 x
   case true =>
    simp only[go_sem,zE,reduceCtorEq,f0,f1,f5,hw];exact hgood (by simp[yWa,yWo,h3])
   simp only[go_sem,zE];exact yQ0 ⟨by rw[hbad (by simp[yWa,yVs,yJ2,yWo,h1,h2,h3])],rfl⟩
  ·rintro fr st _ ⟨hn,f0,f1,f5,rfl,rfl⟩;rw[lTl] at hn;simp only[go_sem,zE,reduceCtorEq,f0,f5,show decide (((cs.length+1:Nat):Int)<((s.size:Nat):Int))=false from dEf (by rw[hsz];simp),show decide ((0:Int)<((s.size:Nat):Int))=true from dEt (by rw[hsz];omega)];intros;refine yQ0 ⟨?_,rfl⟩;congr 3;simp only[yJg,hl,hn,Bool.and_true];rw[hsz];simp;omega
theorem wU5 {p q:UInt8->Bool}{s:ByteArray}{c:UInt8}{cs:List UInt8}(hl:s.data.toList=c::cs)(h:p c=true)(hq:cs.all q=true)
  (hw:∀w∈[wAll,xYj,zG8,xYk,zXh,zG7],(match w.data.toList with|[]=>true|c::cs=>p c&&cs.all q)=false):yJk s=false:=by
 have key:∀w∈[wAll,xYj,zG8,xYk,zXh,zG7],s≠w:=λw hm he=>by
  have:=hw w hm;rw[<- he,hl] at this;simp[h,hq] at this
 simp only[List.mem_cons,List.not_mem_nil,or_false,forall_eq_or_imp,forall_eq] at key;obtain⟨k1,k2,k3,k4,k5,k6⟩:=key;unfold yJk;rw[dEf k1,dEf k2,dEf k3,dEf k4,dEf k5,dEf k6];rfl
theorem yGq:yWa false=yWq:=by
 funext c;simp only[yWa,yWq,Bool.not_false,Bool.true_and];cases yVs c<;>cases yJ2 c<;>cases yWo c<;>rfl
theorem xZv {d:Bool}{s:ByteArray}(h:yJg d s=true):∃c cs,s.data.toList=c::cs/\cs.length<16/\cs.all (yWa d)=true:=by
 unfold yJg at h;split at h
 ·cases h
 ·rename_i c cs hl;simp only[bAt,dTe] at h;exact⟨c,cs,hl,h.1,h.2⟩
theorem zJc {p:UInt8->Bool}{d:Bool}{s:ByteArray}{c:UInt8}{cs:List UInt8}(hl:s.data.toList=c::cs)(hr:p c=true->cs.all (yWa d)=true->yJk s=false):yVi p (yWa d) s=(yJg d s&&p c):=by
 simp only[yVi,yJg,hl];cases h1:p c
 ·simp
 ·cases h2:cs.all (yWa d)
  ·simp
  ·simp[hr h1 h2]
theorem wJp {p:UInt8->Bool}{d:Bool}{s:ByteArray}(h:yJg d s=false):yVi p (yWa d) s=false:=by
 unfold yJg at h;unfold yVi;split
 ·rfl
 ·rename_i c cs hl;rw[hl] at h;simp only at h;cases h1:decide (cs.length<16)<;>cases h2:cs.all (yWa d)<;>simp_all
theorem zU4 (s:ByteArray)(st:ISt):ICall prog gl 306 [.raw (.string s)] st (λx st'=>x=.raw (.bool (zJ7 s))/\st'=st):=by
 refine iI func306 ?_;simp only[go_sem,zE,zB,zA,zM,zS,zL,reduceCtorEq];refine (wQ5 gl s false _).mono ?_;rintro _ st ⟨rfl,rfl⟩;cases h:yJg false s
 ·simp only[go_sem,zE,zB,zA,zM,zS,zL,reduceCtorEq];exact yQ0 ⟨by rw[zJ7,<- yGq,wJp h],rfl⟩
 ·obtain⟨c,cs,hl,h16,hq⟩:=xZv h;simp only[go_sem,zE,zB,zA,zM,zS,zL,reduceCtorEq,zKx hl];refine (in_n gl c 65 90 _ _ rfl rfl _).mono ?_;rintro _ st ⟨rfl,rfl⟩;simp only[go_sem,zE,zB,zA,zM,zS,zL,reduceCtorEq];refine yQ0 ⟨?_,rfl⟩;rw[zJ7,<- yGq,zJc hl (λh1 h2=>wU5 hl h1 (by rw[yGq] at h2;exact h2) (by decide)),h,Bool.true_and];rfl
theorem di0 (a:Nat):decide ((a:Int)=0)=decide (a=0):=by by_cases h:a=0<;>simp[h]<;>omega
theorem di1 (a:Nat):decide ((a:Int)=1)=decide (a=1):=by by_cases h:a=1<;>simp[h]<;>omega
theorem di2 (a:Nat):decide ((a:Int)=2)=decide (a=2):=by by_cases h:a=2<;>simp[h]<;>omega
theorem uZd (op:Nat)(n:ByteArray)(us:List Tm)(sub:List Fm)(x:IV)(hx:IsFm (.mk op n us sub) x)(st:ISt) :
  ICall prog gl 269 [x,.raw (.bool false)] st (λr st'=>r=.raw (.bool (yUc op n us.length sub.length))/\st'=st):=by
 obtain⟨ta,xa,tb,xb,rfl,ho,hta,hxa,htb,hxb⟩:=hx.mk;obtain⟨rfl,rfl⟩:=hxa.z;refine iI func269 ?_;simp only[go_sem,zE,zB,zA,zM,zS,zL,reduceCtorEq,fits,List.length_nil,hxb.len];intros;rcases (show op=1\/op=0\/op=2\/op=3\/op=4\/op=5\/op=6\/op=7 by omega) with rfl|h
 ·simp only[go_sem,zE,zB,zA,zM,zS,zL,reduceCtorEq,Int.cast_ofNat_Int,decide_true,fits,List.length_nil,hxb.len];refine (zU4 gl n _).mono ?_;rintro _ st ⟨rfl,rfl⟩;cases h1:zJ7 n
  all_goals
   simp only[go_sem,zE,zB,zA,zM,zS,zL,reduceCtorEq,fits,List.length_nil,hxb.len,show decide (((0:Nat):Int)<=4)=true from rfl,show decide ((0:Int)<=4)=true from rfl,di0];exact yQ0 ⟨by simp only[yUc,h1,Nat.zero_le,decide_true,Bool.and_false,Bool.false_and,Bool.true_and,Bool.and_true],rfl⟩
 ·rcases h with rfl|rfl|rfl|rfl|rfl|rfl|rfl
  all_goals
   cases h1:decide (n=⟨#[]⟩)
   all_goals
    simp only[go_sem,zE,zB,zA,zM,zS,zL,reduceCtorEq,Int.cast_ofNat_Int,Int.reduceEq,decide_true,decide_false,List.size_toArray,fits,List.length_nil,hxb.len,h1,di0,di1,di2];exact yQ0 ⟨by simp only[yUc,h1,decide_true,Bool.and_false,Bool.false_and,Bool.true_and,Bool.and_true],rfl⟩
theorem wGj (tg:Tag)(st:ISt):ICall prog gl 270 [.sl tg []] st (λr st'=>r=.raw (.int .i64 (0:Nat))/\st'=st):=by
 refine iI func270 ?_;simp only[go_sem,zE,zB,zA,zM,zS,zL,reduceCtorEq];refine LoopC.ctr 0 (λk fr st' ds=>fr 0=.iv (.sl tg [])/\fr 3=.iv (.raw (.int .i64 (0:Nat)))/\fr 4=.iv (.raw (.int .i64 k))/\st'=st/\ds=[]) ?_ ?_ ?_
 ·simp only[go_sem,zE,zB,zA,zM,zS,zL,reduceCtorEq]
  first|rfl|exact⟨rfl,rfl⟩
 ·rintro k fr st _ hlt;omega
 ·rintro fr st _ ⟨f0,f3,f4,rfl,rfl⟩;simp only[go_sem,zE,zB,zA,zM,zS,zL,reduceCtorEq,f0,f3,f4,List.length_nil,yQk (nLi _),fits];intros;exact yQ0 ⟨rfl,rfl⟩
theorem wGr (tg:Tag)(st:ISt):ICall prog gl 271 [.sl tg []] st (λr st'=>r=.raw (.int .i64 (0:Nat))/\st'=st):=by
 refine iI func271 ?_;simp only[go_sem,zE,zB,zA,zM,zS,zL,reduceCtorEq];refine LoopC.ctr 0 (λk fr st' ds=>fr 0=.iv (.sl tg [])/\fr 3=.iv (.raw (.int .i64 (0:Nat)))/\fr 4=.iv (.raw (.int .i64 k))/\st'=st/\ds=[]) ?_ ?_ ?_
 ·simp only[go_sem,zE,zB,zA,zM,zS,zL,reduceCtorEq]
  first|rfl|exact⟨rfl,rfl⟩
 ·rintro k fr st _ hlt;omega
 ·rintro fr st _ ⟨f0,f3,f4,rfl,rfl⟩;simp only[go_sem,zE,zB,zA,zM,zS,zL,reduceCtorEq,f0,f3,f4,List.length_nil,yQk (nLi _),fits];intros;exact yQ0 ⟨rfl,rfl⟩
theorem uQw {a b:Nat}(h:a+b<=281474976710656):IntKind.i64.wrap ((a:Int)+(b:Int))=((a+b:Nat):Int):=by rw[w64]<;>omega
def RNd (f:Fm):Prop:=∀(x:IV) (_:IsFm f x) (_:f.size<=1099511627776) (st:ISt),ICall prog gl 236 [x] st (λr st'=>r=.raw (.int .i64 f.size)/\st'=st)
theorem xZe (op:Nat)(n:ByteArray)(us:List Tm)(sub:List Fm)(IH:∀a∈sub,RNd gl a):RNd gl (.mk op n us sub):=by
 intro x hx hsz st;obtain⟨ta,xa,tb,xb,rfl,ho,hta,hxa,htb,hxb⟩:=hx.mk;obtain⟨rfl,rfl⟩:=hxa.z;simp only[Fm.size,yQy] at hsz;have hl2:=yQj sub;refine iI func236 ?_;simp only[go_sem,zE,zB,zA,zM,zS,zL,reduceCtorEq,fits];refine (wGj gl ta _).mono ?_;rintro _ st ⟨rfl,rfl⟩;have hw1:IntKind.i64.wrap (1+((0:Nat):Int))=((1:Nat):Int):=by rw[w64]<;>omega
 simp only[go_sem,zE,zB,zA,zM,zS,zL,reduceCtorEq,fits,hw1];refine LoopC.ctr sub.length (λk fr st' ds=>fr 1=.box [.raw (.int .u8 op),.raw (.string n),.sl ta [],.sl tb xb]/\fr 3=.iv (.raw (.int .i64 ((1+yQ7 (sub.take k):Nat):Int)))/\fr 4=.iv (.raw (.int .i64 k))/\st'=st/\ds=[]) ?_ ?_ ?_
 ·simp only[go_sem,zE,zB,zA,zM,zS,zL,reduceCtorEq]
  first|rfl|exact⟨rfl,rfl⟩
 ·rintro k fr st _ hlt ⟨f1,f3,f4,rfl,rfl⟩;obtain⟨a,ha⟩:=yQ3 hlt;obtain⟨y,hky,hy⟩:=hxb.get ha;have hmem:=lMg ha;obtain⟨h1,h2⟩:=yZ5 ha;have hcall:=IH a hmem y hy (by omega);obtain⟨o5,n5,us5,sub5⟩:=a;obtain⟨t3,x3,t4,x4,rfl,_⟩:=hy.mk;simp only[go_sem,zE,zB,zA,zM,zS,zL,reduceCtorEq,f1,f3,f4,hxb.len,lt_i hlt,yQ2 htb,iNn,hky,fits];intros;refine (hcall _).mono ?_;rintro _ st ⟨rfl,rfl⟩;simp only[go_sem,zE,zB,zA,zM,zS,zL,reduceCtorEq,f1,f3,f4,yQa hlt (show sub.length<=281474976710656 by omega),uQw (show (1+yQ7 (sub.take k))+(Fm.mk o5 n5 us5 sub5).size<=281474976710656 by omega),h1];rw[Nat.add_assoc 1]
 ·rintro fr st _ ⟨f1,f3,f4,rfl,rfl⟩;rw[lTl] at f3;simp only[go_sem,zE,zB,zA,zM,zS,zL,reduceCtorEq,f1,f3,f4,hxb.len,yQk (nLi _),fits];intros;exact yQ0 ⟨by rw[show (Fm.mk op n [] sub).size=1+yQ7 sub by simp only[Fm.size,yQy];omega],rfl⟩
theorem zV7:∀(k:Nat)(t:Fm),SizeOf.sizeOf t<k->RNd gl t
 | 0,f,h=>by omega
 | k+1,.mk o n us sub,h=>xZe gl o n us sub (λa ha=>zV7 k a (by
   have:=lSm ha;simp at h;omega))
theorem wJf (t:Fm):RNd gl t:=zV7 gl _ t (Nat.lt_succ_self _)
def RDd (f:Fm):Prop:=∀(x:IV) (_:IsFm f x) (_:f.size<=1099511627776) (st:ISt),ICall prog gl 237 [x] st (λr st'=>r=.raw (.int .i64 f.deep)/\st'=st)
theorem xZf (op:Nat)(n:ByteArray)(us:List Tm)(sub:List Fm)(IH:∀a∈sub,RDd gl a):RDd gl (.mk op n us sub):=by
 intro x hx hsz st;obtain⟨ta,xa,tb,xb,rfl,ho,hta,hxa,htb,hxb⟩:=hx.mk;obtain⟨rfl,rfl⟩:=hxa.z;simp only[Fm.size,yQy] at hsz;have hl2:=yQj sub;have hd2:=zQj sub;refine iI func237 ?_;simp only[go_sem,zE,zB,zA,zM,zS,zL,reduceCtorEq,fits];refine (wGr gl ta _).mono ?_;rintro _ st ⟨rfl,rfl⟩;simp only[go_sem,zE,zB,zA,zM,zS,zL,reduceCtorEq,fits];refine LoopC.ctr sub.length (λk fr st' ds=>fr 1=.box [.raw (.int .u8 op),.raw (.string n),.sl ta [],.sl tb xb]/\fr 3=.iv (.raw (.int .i64 (((yZe (sub.take k)):Nat):Int)))/\fr 4=.iv (.raw (.int .i64 k))/\st'=st/\ds=[]) ?_ ?_ ?_
 ·simp only[go_sem,zE,zB,zA,zM,zS,zL,reduceCtorEq];exact⟨rfl,rfl⟩
 ·rintro k fr st _ hlt ⟨f1,f3,f4,rfl,rfl⟩;obtain⟨a,ha⟩:=yQ3 hlt;obtain⟨y,hky,hy⟩:=hxb.get ha;have hmem:=lMg ha;have h2:=(yZ5 ha).2;have hcall:=IH a hmem y hy (by omega);have h1:yZe (sub.take (k+1))=max (yZe (sub.take k)) a.deep:=by rw[yQ8 ha,yGj];simp[yZe]
  obtain⟨o5,n5,us5,sub5⟩:=a;obtain⟨t3,x3,t4,x4,rfl,_⟩:=hy.mk;simp only[go_sem,zE,zB,zA,zM,zS,zL,reduceCtorEq,f1,f3,f4,hxb.len,lt_i hlt,yQ2 htb,iNn,hky,fits];intros;refine (hcall _).mono ?_;rintro _ st ⟨rfl,rfl⟩;by_cases hg:(yZe (sub.take k))<(Fm.mk o5 n5 us5 sub5).deep
  ·simp only[go_sem,zE,zB,zA,zM,zS,zL,reduceCtorEq,f1,f3,f4,lt_i hg,yQa hlt (show sub.length<=281474976710656 by omega)];rw[h1,show max (yZe (sub.take k)) (Fm.mk o5 n5 us5 sub5).deep=(Fm.mk o5 n5 us5 sub5).deep by omega]
  ·simp only[go_sem,zE,zB,zA,zM,zS,zL,reduceCtorEq,f1,f3,f4,yQk hg,yQa hlt (show sub.length<=281474976710656 by omega)];rw[h1,show max (yZe (sub.take k)) (Fm.mk o5 n5 us5 sub5).deep=(yZe (sub.take k)) by omega]
 ·rintro fr st _ ⟨f1,f3,f4,rfl,rfl⟩;rw[lTl] at f3;have hw:IntKind.i64.wrap ((((yZe sub):Nat):Int)+1)=(((yZe sub)+1:Nat):Int):=by rw[w64]<;>omega
  simp only[go_sem,zE,zB,zA,zM,zS,zL,reduceCtorEq,f1,f3,f4,hxb.len,yQk (nLi _),fits,hw];intros;exact yQ0 ⟨by simp only[Fm.deep,yWu,Nat.zero_max],rfl⟩
theorem zV8:∀(k:Nat)(t:Fm),SizeOf.sizeOf t<k->RDd gl t
 | 0,f,h=>by omega
 | k+1,.mk o n us sub,h=>xZf gl o n us sub (λa ha=>zV8 k a (by
   have:=lSm ha;simp at h;omega))
theorem wJg (t:Fm):RDd gl t:=zV8 gl _ t (Nat.lt_succ_self _)
theorem xUc {l:List Fm}{a:Fm}(h:a∈l)(ha:a.ok=false):yKc l=false:=by
 induction l with
 | nil=>cases h
 | cons b l ih =>
  simp only[yKc];rcases List.mem_cons.1 h with rfl|h
  ·simp[ha]
  ·simp[ih h]
def RRw (f:Fm):Prop:=∀(x:IV) (_:IsFm f x) (_:f.size<=1099511627776) (st:ISt),ICall prog gl 235 [x,.raw (.bool false)] st (λr st'=>r=.raw (.bool f.ok)/\st'=st)
theorem xW7 (op:Nat)(n:ByteArray)(us:List Tm)(sub:List Fm)(IH:∀a∈sub,RRw gl a):RRw gl (.mk op n us sub):=by
 intro x hx hsz st;have hrow:=λst=>uZd gl op n us sub x hx st;obtain⟨ta,xa,tb,xb,rfl,ho,hta,hxa,htb,hxb⟩:=hx.mk;obtain⟨rfl,rfl⟩:=hxa.z;simp only[Fm.size,yQy] at hsz;have hl2:=yQj sub;refine iI func235 ?_;simp only[go_sem,zE,zB,zA,zM,zS,zL,reduceCtorEq,fits];refine (hrow _).mono ?_;rintro _ st ⟨rfl,rfl⟩;cases hr:yUc op n ([]:List Tm).length sub.length
 ·simp only[go_sem,zE,zB,zA,zM,zS,zL,reduceCtorEq];exact yQ0 ⟨by simp only[Fm.ok,hr,Bool.false_and],rfl⟩
 simp only[go_sem,zE,zB,zA,zM,zS,zL,reduceCtorEq,fits];refine LoopC.ctr 0 (λk fr st' ds=>fr 1=.iv (.raw (.bool false))/\fr 2=.box [.raw (.int .u8 op),.raw (.string n),.sl ta [],.sl tb xb]/\fr 5=.iv (.raw (.int .i64 k))/\st'=st/\ds=[]) ?_ ?_ ?_
 ·simp only[go_sem,zE,zB,zA,zM,zS,zL,reduceCtorEq]
  first|rfl|exact⟨rfl,rfl⟩
 ·rintro k fr _ ds hlt;omega
 ·rintro fr st _ ⟨f1,f2,f5,rfl,rfl⟩;simp only[go_sem,zE,zB,zA,zM,zS,zL,reduceCtorEq,f1,f2,f5,List.length_nil,yQk (nLi _),fits];intros;refine LoopC.ctr sub.length (λk fr st' ds=>yKc (sub.take k)=true/\fr 1=.iv (.raw (.bool false))/\fr 2=.box [.raw (.int .u8 op),.raw (.string n),.sl ta [],.sl tb xb]/\fr 6=.iv (.raw (.int .i64 k))/\st'=st/\ds=[]) ?_ ?_ ?_
  ·simp only[go_sem,zE,zB,zA,zM,zS,zL,reduceCtorEq,f1,f2];exact⟨rfl,rfl⟩
  ·rintro k fr st _ hlt ⟨hok2,f1,f2,f6,rfl,rfl⟩;obtain⟨a,ha⟩:=yQ3 hlt;obtain⟨y,hky,hy⟩:=hxb.get ha;have hmem:=lMg ha;have h2:=(yZ5 ha).2;have hcall:=IH a hmem y hy (by omega);obtain⟨o5,n5,us5,sub5⟩:=a;obtain⟨t3,x3,t4,x4,rfl,_⟩:=hy.mk;simp only[go_sem,zE,zB,zA,zM,zS,zL,reduceCtorEq,f1,f2,f6,hxb.len,lt_i hlt,yQ2 htb,iNn,hky,fits];intros;refine (hcall _).mono ?_;rintro _ st ⟨rfl,rfl⟩;cases hb:(Fm.mk o5 n5 us5 sub5).ok
   ·simp only[go_sem,zE,zB,zA,zM,zS,zL,reduceCtorEq];exact yQ0 ⟨by rw[show (Fm.mk op n [] sub).ok=false by simp only[Fm.ok,xUc hmem hb,Bool.and_false]],rfl⟩
   ·simp only[go_sem,zE,zB,zA,zM,zS,zL,reduceCtorEq,f1,f2,f6,yQa hlt (show sub.length<=281474976710656 by omega)];rw[yQ8 ha,zZ2,hok2];simp only[yKc,hb,Bool.and_self]
  ·rintro fr st _ ⟨hok2,f1,f2,f6,rfl,rfl⟩;rw[lTl] at hok2;simp only[go_sem,zE,zB,zA,zM,zS,zL,reduceCtorEq,f1,f2,f6,hxb.len,yQk (nLi _),fits];intros;exact yQ0 ⟨by simp only[Fm.ok,hr,xZn,hok2,Bool.and_self],rfl⟩
theorem zU0:∀(k:Nat)(t:Fm),SizeOf.sizeOf t<k->RRw gl t
 | 0,f,h=>by omega
 | k+1,.mk o n us sub,h=>xW7 gl o n us sub (λa ha=>zU0 k a (by
   have:=lSm ha;simp at h;omega))
theorem wGv (t:Fm):RRw gl t:=zU0 gl _ t (Nat.lt_succ_self _)
theorem zZr (f:Fm)(x:IV)(hx:IsFm f x)(hs:f.size<=1099511627776)(st:ISt):ICall prog gl 186 [x] st (λr st'=>r=.raw (.bool f.right)/\st'=st):=by
 have h1:=λst=>wGv gl f x hx hs st;have h2:=λst=>wJf gl f x hx hs st;have h3:=λst=>wJg gl f x hx hs st;have hri:f.right=(f.ok&&decide (f.size<=400)&&decide (f.deep<=40)):=rfl;obtain⟨op,n,ta,xa,tb,xb,rfl⟩:=hx.agg;refine iI func186 ?_;simp only[go_sem,zE,zB,zA,zM,zS,zL,reduceCtorEq,fits];refine (h1 _).mono ?_;rintro _ st ⟨rfl,rfl⟩;cases hk:f.ok
 ·simp only[go_sem,zE,zB,zA,zM,zS,zL,reduceCtorEq];exact yQ0 ⟨by simp[hri,hk],rfl⟩
 simp only[go_sem,zE,zB,zA,zM,zS,zL,reduceCtorEq,fits];refine (h2 _).mono ?_;rintro _ st ⟨rfl,rfl⟩;by_cases hz:f.size<=400
 ·simp only[go_sem,zE,zB,zA,zM,zS,zL,reduceCtorEq,fits,show decide ((f.size:Int)<=400)=true from dEt (by omega)];refine (h3 _).mono ?_;rintro _ st ⟨rfl,rfl⟩;simp only[go_sem,zE,zB,zA,zM,zS,zL,reduceCtorEq,fits];refine yQ0 ⟨?_,rfl⟩;rw[hri,hk,dEt hz];congr 3;simp;omega
 ·simp only[go_sem,zE,zB,zA,zM,zS,zL,reduceCtorEq,fits,show decide ((f.size:Int)<=400)=false from dEf (by omega)];exact yQ0 ⟨by simp[hri,hz],rfl⟩
