/- Walks: checkers of names. -/
import Derived.Test.YtdbmgeebmfpmpaaGreatDoorKF
set_option linter.all false
open Nat renaming reduceEqDiff → zE,reduceAdd → zA,reduceLeDiff → zL
namespace Go.Proofs.Tryz
open Go Go.Iv
set_option maxRecDepth 4000
variable (gl:Nat->Option IV)
theorem xG5 (s:ByteArray)(st:ISt):ICall prog gl 247 [.raw (.string s)] st (λx st'=>x=.raw (.bool (yW2 s))/\st'=st):=by
 refine iI func247 ?_;simp only[go_sem,zA,zL,reduceCtorEq];refine yZo (λh=>?_) (λh=>?_)
 ·simp only[go_sem,h];exact yQ0 ⟨by rw[show s=wAll from of_decide_eq_true h];rfl,rfl⟩
 have h1:s≠wAll:=of_decide_eq_false h;simp only[go_sem,zE,zA,zL,h];refine yZo (λh=>?_) (λh=>?_)
 ·simp only[go_sem,h];exact yQ0 ⟨by rw[show s=wGp from of_decide_eq_true h];rfl,rfl⟩
 have h2:s≠wGp:=of_decide_eq_false h;simp only[go_sem,zE,zA,zL,h];refine yZo (λh=>?_) (λh=>?_)
 ·simp only[go_sem,h];exact yQ0 ⟨by rw[show s=xUv from of_decide_eq_true h];rfl,rfl⟩
 have h3:s≠xUv:=of_decide_eq_false h;simp only[go_sem,zE,zA,zL,h];refine yZo (λh=>?_) (λh=>?_)
 ·simp only[go_sem,h];exact yQ0 ⟨by rw[show s=wGq from of_decide_eq_true h];rfl,rfl⟩
 have h4:s≠wGq:=of_decide_eq_false h;simp only[go_sem,zE,zA,zL,h];refine yZo (λh=>?_) (λh=>?_)
 ·simp only[go_sem,h];exact yQ0 ⟨by rw[show s=xZq from of_decide_eq_true h];rfl,rfl⟩
 have h5:s≠xZq:=of_decide_eq_false h;simp only[go_sem,zE,zA,zL,h];refine yZo (λh=>?_) (λh=>?_)
 ·simp only[go_sem,h];exact yQ0 ⟨by rw[show s=xUq from of_decide_eq_true h];rfl,rfl⟩
 have h6:s≠xUq:=of_decide_eq_false h;simp only[go_sem,h];exact yQ0 ⟨by rw[show yW2 s=false by unfold yW2;rw[dEf h1,dEf h2,dEf h3,dEf h4,dEf h5,dEf h6];rfl],rfl⟩
theorem zUq (s:ByteArray):s.size=s.data.toList.length:=Array.length_toList.symm
theorem xKv {s:ByteArray}{k:Nat}{c:UInt8}(h:s.data.toList[k]?=some c):xZz s (k:Int)=some c:=by
 unfold xZz;rw[if_pos (by omega)];have hk:k<s.size:=by rw[zUq];exact (lGs h).1
 rw[Int.toNat_natCast];rw[getElem?_pos s k hk];have h2:=(lGs h).2;rw[<- h2];rfl
theorem xYo {s:ByteArray}{c:UInt8}{cs:List UInt8}(h:s.data.toList=c::cs):xZz s 0=some c:=xKv (k:=0) (by rw[h];rfl)
theorem zZd (p q:FuncId)(P Q:UInt8->Bool)(ep:entI prog p=true)(eq:entI prog q=true)
  (hp:∀c st,ICall prog gl p [.raw (.int .u8 (UInt8.toNat c))] st (λx st'=>x=.raw (.bool (P c))/\st'=st))
  (hq:∀c st,ICall prog gl q [.raw (.int .u8 (UInt8.toNat c))] st (λx st'=>x=.raw (.bool (Q c))/\st'=st)) (s:ByteArray) (st:ISt) :
  ICall prog gl 246 [.raw (.string s),.cptr (.fn (.func p) [] []),.cptr (.fn (.func q) [] [])] st (λx st'=>x=.raw (.bool (yWx P Q s))/\st'=st):=by
 refine iI func246 ?_;have hsz:=zUq s;cases hl:s.data.toList with
 | nil =>
  rw[hl] at hsz;have h1:decide (((s.size:Nat):Int)<1)=true:=by rw[hsz];rfl
  simp only[go_sem,zE,reduceCtorEq,h1];exact yQ0 ⟨by simp[yWx,hl],rfl⟩
 | cons c cs =>
  rw[hl] at hsz;have h1:decide (((s.size:Nat):Int)<1)=false:=by rw[hsz];simp;omega
  by_cases h16:cs.length<16
  ·have h2:decide ((16:Int)<((s.size:Nat):Int))=false:=by rw[hsz];simp;omega
   simp only[go_sem,zE,zA,reduceCtorEq,h1,h2];refine (xG5 gl s _).mono ?_;rintro _ st ⟨rfl,rfl⟩;cases h3:yW2 s
   ·simp only[go_sem,zE,reduceCtorEq,xYo hl,fits,ep];refine (hp c _).mono ?_;rintro _ st ⟨rfl,rfl⟩;cases h4:P c
    ·simp only[go_sem,zE];exact yQ0 ⟨by simp[yWx,hl,h4],rfl⟩
    ·simp only[go_sem,zE];refine LoopC.ctr cs.length (λk fr st' ds=>(cs.take k).all Q=true/\fr 0=.iv (.raw (.string s))/\fr 2=.iv (.cptr (.fn (.func q) [] []))/\fr 5=.iv (.raw (.int .i64 ((k+1:Nat):Int)))/\st'=st/\ds=[]) ?_ ?_ ?_
     ·simp only[go_sem,zE,reduceCtorEq];rfl
     ·rintro k fr st' ds hlt ⟨hn,h0,h2',h5,rfl,rfl⟩;obtain⟨x,hx⟩:=yQ1 hlt;have hlt':decide (((k+1:Nat):Int)<((s.size:Nat):Int))=true:=by rw[hsz];simp;omega
      have hx':xZz s ((k+1:Nat):Int)=some x:=xKv (by rw[hl];simpa using hx);have hw:IntKind.i64.wrap (((k+1:Nat):Int)+1)=((k+1+1:Nat):Int):=by rw[w64]<;>omega
      simp only[go_sem,zE,reduceCtorEq,h0,h2',h5,hlt',hx',fits,eq];intro _;refine (hq x _).mono ?_;rintro _ st ⟨rfl,rfl⟩;cases h6:Q x
      ·simp only[go_sem];exact yQ0 ⟨by
        have:cs.all Q=false:=by rw[List.all_eq_false];exact⟨x,lMg hx,by simp[h6]⟩
        simp[yWx,hl,this],rfl⟩
      ·simp only[go_sem,zE,reduceCtorEq,h0,h2',h5,hw];rw[yQ8 hx,List.all_append,hn];simp[h6]
     ·rintro fr st' ds ⟨hn,h0,h2',h5,rfl,rfl⟩;have hlt':decide (((cs.length+1:Nat):Int)<((s.size:Nat):Int))=false:=by rw[hsz];simp
      simp only[go_sem,zE,reduceCtorEq,h0,h5,hlt'];intro _;rw[lTl] at hn;exact yQ0 ⟨by simp[yWx,hl,h3,h4,h16,hn],rfl⟩
   ·simp only[go_sem,zE];exact yQ0 ⟨by simp[yWx,hl,h3],rfl⟩
  ·have h2:decide ((16:Int)<((s.size:Nat):Int))=true:=by rw[hsz];simp;omega
   simp only[go_sem,zE,reduceCtorEq,h1,h2];exact yQ0 ⟨by simp[yWx,hl,h16],rfl⟩
theorem zKu (p q:FuncId)(st:ISt):ICall prog gl 215 [.fn (.func p) [] [],.fn (.func q) [] []] st
  (λx st'=>x=.fn (.func 246) [] [.cptr (.fn (.func p) [] []),.cptr (.fn (.func q) [] [])]/\st'=st):=by
 refine ICall.intro (c:=cf prog gl [] [] [2,3]) func215 rfl (by show _<=6;simp) (by kernel_rfl) ?_;simp only[go_sem,zE];exact yQ0 ⟨rfl,rfl⟩
theorem yGm (s:ByteArray)(st:ISt):ICall prog gl 181 [.raw (.string s)] st (λx st'=>x=.raw (.bool (yU1 s))/\st'=st):=by
 refine iI func181 ?_;simp only[go_sem,zA];refine (zKu gl _ _ _).mono ?_;rintro _ st ⟨rfl,rfl⟩;simp only[go_sem,zE,reduceCtorEq];refine (zZd gl _ _ (inB 117 122) zZ7 (by simp only[go_sem]) (by simp only[go_sem]) (vJ2 gl) (wJf gl) s _).mono ?_;rintro _ st ⟨rfl,rfl⟩;simp only[go_sem];exact yQ0 ⟨rfl,rfl⟩
theorem xUi (s:ByteArray)(st:ISt):ICall prog gl 183 [.raw (.string s)] st (λx st'=>x=.raw (.bool (wVs s))/\st'=st):=by
 refine iI func183 ?_;simp only[go_sem,zA];refine (zKu gl _ _ _).mono ?_;rintro _ st ⟨rfl,rfl⟩;simp only[go_sem,zE,reduceCtorEq];refine (zZd gl _ _ (inB 97 116) yYp (by simp only[go_sem]) (by simp only[go_sem]) (vKu gl) (wJv gl) s _).mono ?_;rintro _ st ⟨rfl,rfl⟩;simp only[go_sem];exact yQ0 ⟨rfl,rfl⟩
theorem xKc (s:ByteArray)(st:ISt):ICall prog gl 193 [.raw (.string s)] st (λx st'=>x=.raw (.bool (wZg s))/\st'=st):=by
 refine iI func193 ?_;simp only[go_sem,zA];refine (zKu gl _ _ _).mono ?_;rintro _ st ⟨rfl,rfl⟩;simp only[go_sem,zE,reduceCtorEq];refine (zZd gl _ _ yKu yYp (by simp only[go_sem]) (by simp only[go_sem]) (xZ9 gl) (wJv gl) s _).mono ?_;rintro _ st ⟨rfl,rfl⟩;simp only[go_sem];exact yQ0 ⟨rfl,rfl⟩
def yJz (k:Nat)(s:ByteArray):Bool:=match k with|1=>wZg s|2=>yU1 s|_=>decide (s=⟨#[]⟩)
theorem wUw (k:Nat)(hk:k<=2)(s:ByteArray)(st:ISt):ICall prog gl 167 [.raw (.int .u8 k),.raw (.string s)] st (λx st'=>x=.raw (.bool (yJz k s))/\st'=st):=by
 refine iI func167 ?_
 match k,hk with
 | 0,_ =>
  simp only[go_sem,zE,zL,reduceCtorEq,show decide (((0:Nat):Int)=1)=false from rfl,show decide (((0:Nat):Int)=2)=false from rfl,show decide (((0:Nat):Int)=3)=false from rfl];exact yQ0 ⟨rfl,rfl⟩
 | 1,_ =>
  simp only[go_sem,zE,zA,reduceCtorEq,show decide (((1:Nat):Int)=1)=true from rfl];refine (xKc gl s _).mono ?_;rintro _ st ⟨rfl,rfl⟩;simp only[go_sem];exact yQ0 ⟨rfl,rfl⟩
 | 2,_ =>
  simp only[go_sem,zE,zA,reduceCtorEq,show decide (((2:Nat):Int)=1)=false from rfl,show decide (((2:Nat):Int)=2)=true from rfl];refine (yGm gl s _).mono ?_;rintro _ st ⟨rfl,rfl⟩;simp only[go_sem];exact yQ0 ⟨rfl,rfl⟩
def jBox (l d:Int):Option IObj:=some (.box [.raw (.bool false),.raw (.int .i64 l),.raw (.int .i64 d)])
theorem wYp (b:Nat)(st:ISt)(l d dep:Int)(hb:st b=jBox l d)(h0:0<=l)(h1:l<=9223372036854775807) :
  ICall prog gl 166 [.raw (.pointer (some ⟨b,0,none⟩)),.raw (.int .i64 dep)] st (λx st'=>x=.raw (.bool (decide (1<=l)&&decide (dep<=d)))/\st'=st.put b (jBox (l-1) d)):=by
 refine iI func166 ?_;have hw:IntKind.i64.wrap (l-1)=l-1:=w64 (by omega) (by omega);simp only[go_sem,zE,zA,zL,reduceCtorEq,hb,jBox,hw];refine yJ6 (λh=>?_) (λh=>?_)
 ·have h':1<=l:=by simp at h;omega
  simp only[go_sem,zE,zA,reduceCtorEq];exact yQ0 ⟨by simp[h'],rfl⟩
 ·have h':¬ 1<=l:=by simp at h;omega
  simp only[go_sem,zE,zA];exact yQ0 ⟨by simp[h'],rfl⟩
def wXc (b:Nat)(st:ISt)(l d:Int)(r:Bool)(sz:Nat)(x:IV)(st':ISt):Prop:=x=.raw (.bool r)/\∃l',st'=st.put b (jBox l' d)/\(r=true->l'=l-sz)
def tmR (t:Tm)(l d dep:Int):Bool:=decide ((t.size:Int)<=l)&&decide (dep+t.deep<=d+1)&&t.ok
def tmsR (t:List Tm)(l d dep:Int):Bool:=decide ((yQf t:Int)<=l)&&decide (yQu t=0\/dep+yQu t<=d+1)&&yYe t
theorem yUo (a:Tm)(m:List Tm)(l d dep:Int):tmsR (a::m) l d dep=(tmR a l d dep&&tmsR m (l-a.size) d dep):=by
 rw[Bool.eq_iff_iff];have h1:=a.deep_pos;simp only[tmsR,tmR,bAt,dTe];simp only[yQf,yQu,yYe,bAt];constructor
 ·rintro⟨⟨h2,h3⟩,h4,h5⟩;refine⟨⟨⟨by omega,by omega⟩,h4⟩,⟨by omega,by omega⟩,h5⟩
 ·rintro⟨⟨⟨h2,h3⟩,h4⟩,⟨h5,h6⟩,h7⟩;exact⟨⟨by omega,by omega⟩,h4,h7⟩
theorem zJ2 (a m:List Tm)(l d dep:Int):tmsR (a++m) l d dep=(tmsR a l d dep&&tmsR m (l-yQf a) d dep):=by
 induction a generalizing l with
 | nil =>
  simp only[List.nil_append,yQf,Int.natCast_zero,Int.sub_zero];rw[Bool.eq_iff_iff];simp only[tmsR,bAt,dTe];simp only[yQf,yQu,yYe];constructor
  ·rintro⟨⟨h1,h2⟩,h3⟩;exact⟨⟨⟨by omega,by simp⟩,trivial⟩,⟨h1,h2⟩,h3⟩
  ·rintro⟨_,⟨h1,h2⟩,h3⟩;exact⟨⟨h1,h2⟩,h3⟩
 | cons x a ih =>
  rw[List.cons_append,yUo,ih,yUo,Bool.and_assoc];congr 3;simp only[yQf];omega
theorem zJ3 (n:ByteArray)(m:List Tm)(l d dep:Int):tmR (.mk false n m) l d dep=(((decide (1<=l)&&decide (dep<=d))&&decide (m.length<=4)&&wVs n)&&tmsR m (l-1) d (dep+1)):=by
 rw[Bool.eq_iff_iff];simp only[tmsR,tmR,bAt,dTe];simp only[Tm.size,Tm.deep,Tm.ok,bAt,dTe];constructor
 ·rintro⟨⟨h2,h3⟩,⟨h4,h5⟩,h6⟩;refine⟨⟨⟨⟨by omega,by omega⟩,h4⟩,h5⟩,⟨by omega,by omega⟩,h6⟩
 ·rintro⟨⟨⟨⟨h1,h2⟩,h3⟩,h4⟩,⟨h5,h6⟩,h7⟩;exact⟨⟨by omega,by omega⟩,⟨h3,h4⟩,h7⟩
theorem zYa (n:ByteArray)(m:List Tm)(l d dep:Int):tmR (.mk true n m) l d dep=(((decide (1<=l)&&decide (dep<=d))&&decide (m.length=0))&&yU1 n):=by
 rw[Bool.eq_iff_iff];cases m with
 | nil =>
  simp only[tmR,bAt,dTe];simp only[Tm.size,Tm.deep,Tm.ok,yQf,yQu,List.isEmpty,bAt,List.length_nil];constructor
  ·rintro⟨⟨h1,h2⟩,_,h4⟩;exact⟨⟨⟨by omega,by omega⟩,trivial⟩,h4⟩
  ·rintro⟨⟨⟨h1,h2⟩,_⟩,h4⟩;exact⟨⟨by omega,by omega⟩,by trivial,h4⟩
 | cons a m=>simp[tmR,Tm.ok]
theorem wQn {v:Bool}{n:ByteArray}{us:List Tm}{l:List Tm}(h:Tm.mk v n us∈l):SizeOf.sizeOf us<SizeOf.sizeOf l:=by
 have:=lSm h;simp at this;omega
mutual
theorem wXb (v:Bool)(n:ByteArray)(us:List Tm)(x:IV)(hx:IsTm (.mk v n us) x)(b:Nat)(st:ISt)(l d dep:Int)(hb:st b=jBox l d)(h0:0<=l)(h1:l<=9223372036854775807)(h2:0<=dep)(h3:dep+(Tm.mk v n us).size<=4611686018427387904) :
  ICall prog gl 155 [.raw (.pointer (some ⟨b,0,none⟩)),x,.raw (.int .i64 dep)] st (wXc b st l d (tmR (.mk v n us) l d dep) (Tm.mk v n us).size):=by
 obtain⟨tg,xs,rfl,htg,hxs⟩:=hx.mk;refine iI func155 ?_;simp only[go_sem,zE,zA,reduceCtorEq];refine (wYp gl b _ l d dep hb h0 h1).mono ?_;rintro _ _ ⟨rfl,rfl⟩;cases hn:(decide (1<=l)&&decide (dep<=d))
 ·simp only[go_sem];refine yQ0 ⟨?_,_,rfl,?_⟩<;>cases v<;>simp[zJ3,zYa,hn]
 ·have hn':1<=l/\dep<=d:=by simpa using hn
  cases v
  ·simp only[Tm.size] at h3;have hw:IntKind.i64.wrap (dep+1)=dep+1:=w64 (by omega) (by omega);by_cases h4:us.length<=4
   ·have h4':decide ((us.length:Int)<=4)=true:=by simp;omega
    simp only[go_sem,zE,zA,hxs.len,h4'];intro _;refine (xUi gl n _).mono ?_;rintro _ _ ⟨rfl,rfl⟩;cases hf:wVs n
    ·simp only[go_sem,zE];refine yQ0 ⟨?_,_,rfl,?_⟩<;>simp[zJ3,hf]
    ·simp only[go_sem,zE,zA,reduceCtorEq,hw];refine (xW4 us tg xs htg hxs b _ (l-1) d (dep+1) (ISt.put_same _ _ _) (by omega) (by omega) (by omega) (by omega)).mono ?_;rintro _ _ ⟨rfl,l',rfl,hl'⟩;simp only[go_sem,zE];refine yQ0 ⟨by simp[zJ3,hn,hf,h4],l',yQ6 _ _ _ _,?_⟩;intro hr;rw[zJ3] at hr;simp only[bAt] at hr;have:=hl' hr.2;simp only[Tm.size];omega
   ·have h4':decide ((us.length:Int)<=4)=false:=by simp;omega
    simp only[go_sem,zE,hxs.len,h4'];intro _;refine yQ0 ⟨?_,_,rfl,?_⟩<;>simp[zJ3,h4]
  ·by_cases h4:us.length=0
   ·have h4':decide ((us.length:Int)=0)=true:=dEt (by omega);simp only[go_sem,zE,zA,hxs.len,h4'];intro _;refine (yGm gl n _).mono ?_;rintro _ _ ⟨rfl,rfl⟩;cases hf:yU1 n
    ·simp only[go_sem,zE,reduceCtorEq,ISt.put_same,jBox];refine yQ0 ⟨?_,_,rfl,?_⟩<;>simp[zYa,hf]
    ·simp only[go_sem,zE];refine yQ0 ⟨?_,_,rfl,?_⟩
     ·simp[zYa,hf,hn,h4]
     ·intro _;have:us=[]:=List.eq_nil_of_length_eq_zero h4;subst this;simp[Tm.size,yQf]
   ·have h4':decide ((us.length:Int)=0)=false:=dEf (by omega);simp only[go_sem,zE,hxs.len,h4'];intro _;refine yQ0 ⟨?_,_,rfl,?_⟩<;>simp[zYa,h4]
termination_by 2*SizeOf.sizeOf us+1
decreasing_by all_goals omega
theorem xW4 (us:List Tm)(tg:Tag)(xs:List IV)(htg:okEs tg 3)(hxs:IsTms us xs)(b:Nat)(st:ISt)(l d dep:Int)(hb:st b=jBox l d)(h0:0<=l)(h1:l<=9223372036854775807)(h2:0<=dep)
  (h3:dep+yQf us<=4611686018427387904) :
  ICall prog gl 169 [.raw (.pointer (some ⟨b,0,none⟩)),.sl tg xs,.raw (.int .i64 dep)] st (wXc b st l d (tmsR us l d dep) (yQf us)):=by
 refine iI func169 ?_;simp only[go_sem,zE,hxs.len];intro hlen;refine LoopC.ctr us.length (λk fr st' ds=>tmsR (us.take k) l d dep=true/\fr 0=.iv (.raw (.pointer (some ⟨b,0,none⟩)))/\fr 2=.iv (.raw (.int .i64 dep))/\fr 9=.iv (.sl tg xs) /\
  fr 10=.iv (.raw (.int .i64 us.length))/\fr 11=.iv (.raw (.int .i64 k))/\st'=st.put b (jBox (l-yQf (us.take k)) d)/\ds=[]) ?_ ?_ ?_
 ·have:l-(yQf ([]:List Tm):Int)=l:=by simp[yQf]
  simp only[go_sem,zE,reduceCtorEq,this,yX7 hb];simp[tmsR,yQf,yQu,yYe,h0]
 ·rintro k fr _ ds hlt ⟨hn,f0,f2,f9,f10,f11,rfl,rfl⟩;obtain⟨a,ha⟩:=yQ1 hlt;obtain⟨x,hkx,hx⟩:=hxs.get ha;obtain⟨hs1,hs2⟩:=yXd ha;obtain⟨v,n,m⟩:=a;obtain⟨tx,cx,rfl,_⟩:=hx.mk;have hle:(yQf (us.take k):Int)<=l:=by
   simp only[tmsR,bAt,dTe] at hn;exact hn.1.1
  simp only[go_sem,zE,zA,zL,reduceCtorEq,f0,f2,f9,f10,f11,lt_i hlt,yQ4 htg,iNn,hkx];refine (wXb v n m _ hx b _ (l-yQf (us.take k)) d dep (ISt.put_same _ _ _) (by omega) (by omega) h2 (by omega)).mono ?_;rintro _ _ ⟨rfl,l',rfl,hl'⟩;cases hr:tmR (.mk v n m) (l-yQf (us.take k)) d dep
  ·simp only[go_sem];refine yQ0 ⟨?_,l',yQ6 _ _ _ _,?_⟩
   all_goals
    have hf:tmsR us l d dep=false:=by
     rw[<- List.take_append_drop k us,List.drop_eq_getElem_cons hlt];rw[zJ2,(lGs ha).2,yUo,hr];simp
    simp[hf]
  ·have hl2:=hl' hr;subst hl2;simp only[go_sem,zE,reduceCtorEq,f0,f2,f9,f10,f11,yQd hlt (by omega),yQ6];refine⟨?_,?_⟩
   ·rw[yQ8 ha,zJ2,hn,yUo,hr];simp only[tmR,bAt,dTe] at hr;simp[tmsR,yQf,yQu,yYe];omega
   ·rw[hs1];congr 2;omega
 ·rintro fr _ ds ⟨hn,f0,f2,f9,f10,f11,rfl,rfl⟩;simp only[go_sem,f10,f11,yQl (nLi _)];rw[lTl] at hn;refine yQ0 ⟨by rw[hn],_,rfl,?_⟩;rw[lTl];intro _;rfl
termination_by 2*SizeOf.sizeOf us
decreasing_by have:=wQn (lMg ha);omega
end
