/- Walks: the rows of a calculus; what a ru -/
import Derived.Test.YtabhgbojkjcfjaaGreatDoorQA
import Derived.Test.YtabhgbojkjcfjaaGreatDoorKD
set_option linter.all false
open Nat renaming reduceEqDiff → zE,reduceBEq → zB,reduceAdd → zA,reduceMul → zM,reduceLeDiff → zL
namespace Go.Proofs.Tryz
open Go Go.Iv
set_option maxRecDepth 4000
variable (gl:Nat->Option IV)
theorem yUp (a b:Int)(v:IV):∀es:List (Value×IV),yVj (.int .u8 a) (updI (.int .u8 b) v es)=if a=b then some v else yVj (.int .u8 a) es
 | []=>by
  simp only[updI,yVj,yYg];by_cases h:a=b<;>simp[h]
 | (x,u)::es=>by
  simp only[updI];by_cases A:yYg (.int .u8 b) x=true
  ·rw[if_pos A];have D:∀c,yYg (.int .u8 c) x=decide (c=b):=λc=>by
    cases x<;>simp[yYg] at A ⊢;rw[A]
   have e:yYg (.int .u8 a) (.int .u8 b)=decide (a=b):=rfl;simp only[yVj,e,D];by_cases h:a=b<;>simp[h]
  ·rw[if_neg A];simp only[yVj];rw[yUp a b v es];by_cases h:a=b
   ·subst h;simp[A]
   ·simp[h]
def zYg (ca rule:Nat):Nat :=
 if ca=2/\rule=18 then 151 else if ca=2/\rule=8 then 149
 else if rule=13\/rule=15 then 152 else if rule=14\/rule=16 then 154
 else if rule=1 then 197 else if rule=2 then 198 else if rule=3 then 199 else if rule=4 then 200
 else if rule=5 then 201 else if rule=6 then 202 else if rule=7 then 203 else if rule=8 then 204
 else if rule=9 then 205 else if rule=10 then 206 else if rule=11 then 207 else if rule=12 then 209
 else 210
def rwI (ca rule:Nat)(r:Rw):IV:=.agg [.raw (.bool r.left),.raw (.bool r.right),.raw (.int .u8 r.op),.raw (.int .u8 r.asks),.fn (.func (zYg ca rule)) [] []]
def rwL (a b:Bool)(op asks id:Nat):IV:=.agg [.raw (.bool a),.raw (.bool b),.raw (.int .u8 op),.raw (.int .u8 asks),.fn (.func id) [] []]
def zG1:List (Value×IV) :=
 updI (.int .u8 17) (rwL false false 0 0 210) <| updI (.int .u8 12) (rwL false true 7 0 209) <| updI (.int .u8 11) (rwL true false 7 0 207) <|
 updI (.int .u8 10) (rwL false true 6 0 206) <| updI (.int .u8 9) (rwL true false 6 0 205) <| updI (.int .u8 8) (rwL false true 5 0 204) <|
 updI (.int .u8 7) (rwL true false 5 0 203) <| updI (.int .u8 6) (rwL false true 4 0 202) <| updI (.int .u8 5) (rwL true false 4 0 201) <|
 updI (.int .u8 4) (rwL false true 3 0 200) <| updI (.int .u8 3) (rwL true false 3 0 199) <| updI (.int .u8 2) (rwL true false 2 0 198) <|
 updI (.int .u8 1) (rwL true true 0 0 197) []
def zZ5 (ca:Nat):List (Value×IV) :=
 if ca=2 then updI (.int .u8 18) (rwL false true 5 0 151) <| updI (.int .u8 8) (rwL false true 5 0 149) zG1
 else if ca=3 then updI (.int .u8 16) (rwL false true 9 1 154) <| updI (.int .u8 15) (rwL true false 9 2 152) <| updI (.int .u8 14) (rwL false true 8 2 154) <|
  updI (.int .u8 13) (rwL true false 8 1 152) zG1
 else zG1
theorem vZa (st:ISt):ICall prog gl 148 [] st (λr st'=>∃b,st b=none/\r=.raw (.map (some b))/\st'=st.put b (some (.map (.int .u8) zG1))):=by
 refine iI func148 ?_;simp only[go_sem,zE,zA,zL,fits];refine λb=>yQd λA=>?_;simp only[go_sem,yQg];exact yQ0 ⟨b,A,rfl,rfl⟩
theorem wX5 (ca:Nat)(st:ISt):ICall prog gl 106 [.raw (.int .u8 ca)] st (λr st'=>∃b,st b=none/\r=.raw (.map (some b))/\st'=st.put b (some (.map (.int .u8) (zZ5 ca)))):=by
 refine iI func106 ?_;simp only[go_sem,zA];refine (vZa gl _).mono ?_;rintro _ _ ⟨b,D,rfl,rfl⟩;by_cases h2:ca=2
 ·have A:decide ((ca:Int)=2)=true:=dEt (by omega);simp only[go_sem,zE,zA,zL,reduceCtorEq,A,fits,ISt.put_same,yQg];exact yQ0 ⟨b,D,rfl,by rw[zZ5,if_pos h2];rfl⟩
 ·have A:decide ((ca:Int)=2)=false:=dEf (by omega);by_cases F:ca=3
  ·have E:decide ((ca:Int)=3)=true:=dEt (by omega);simp only[go_sem,zE,zA,zL,reduceCtorEq,A,E,fits,ISt.put_same,yQg];exact yQ0 ⟨b,D,rfl,by rw[zZ5,if_neg h2,if_pos F];rfl⟩
  ·have E:decide ((ca:Int)=3)=false:=dEf (by omega);simp only[go_sem,zE,reduceCtorEq,A,E];exact yQ0 ⟨b,D,rfl,by rw[zZ5,if_neg h2,if_neg F]⟩
theorem xV6 (rule:Nat):yVj (.int .u8 rule) zG1=(rowK rule).map λr=>.agg [.raw (.bool r.left),.raw (.bool r.right),.raw (.int .u8 r.op),.raw (.int .u8 r.asks),.fn (.func (zYg 1 rule)) [] []]:=by
 unfold zG1;simp only[yUp];by_cases h:rule<=18
 ·rcases (show rule=0\/rule=1\/rule=2\/rule=3\/rule=4\/rule=5\/rule=6\/rule=7\/rule=8\/rule=9\/rule=10\/rule=11\/rule=12\/rule=13\/rule=14\/rule=15\/rule=16\/rule=17\/rule=18 by omega) with
   rfl|rfl|rfl|rfl|rfl|rfl|rfl|rfl|rfl|rfl|rfl|rfl|rfl|rfl|rfl|rfl|rfl|rfl|rfl<;>rfl
 ·have A:rowK rule=none:=by unfold rowK;repeat (rw[if_neg (by omega)])
  rw[A]
  repeat (rw[if_neg (by omega)])
  rfl
theorem yYp (ca rule:Nat):yVj (.int .u8 rule) (zZ5 ca)=(rowS ca rule).map (rwI ca rule):=by
 have hp:=xV6 rule;by_cases h:rule<=18
 ·have D:rule=0\/rule=1\/rule=2\/rule=3\/rule=4\/rule=5\/rule=6\/rule=7\/rule=8\/rule=9\/rule=10\/rule=11\/rule=12\/rule=13\/rule=14\/rule=15\/rule=16\/rule=17\/rule=18:=by omega
  by_cases h2:ca=2
  ·subst h2;simp only[zZ5,if_true,yUp,hp];rcases D with rfl|rfl|rfl|rfl|rfl|rfl|rfl|rfl|rfl|rfl|rfl|rfl|rfl|rfl|rfl|rfl|rfl|rfl|rfl<;>rfl
  ·by_cases E:ca=3
   ·subst E;simp only[zZ5,if_true,if_neg h2,yUp,hp];rcases D with rfl|rfl|rfl|rfl|rfl|rfl|rfl|rfl|rfl|rfl|rfl|rfl|rfl|rfl|rfl|rfl|rfl|rfl|rfl<;>rfl
   ·have A:rowS ca rule=rowK rule:=by
     unfold rowS;rw[if_neg (by omega),if_neg (by omega),if_neg (by omega),if_neg (by omega),if_neg (by omega)]
    have J:∀r,rowK rule=some r->zYg 1 rule=zYg ca rule:=λ_ _=>by
     unfold zYg;rw[if_neg (by omega),if_neg (by omega)]
     conv=>rhs;rw[if_neg (by omega),if_neg (by omega)]
    simp only[zZ5,if_neg h2,if_neg E,hp,A];cases F:rowK rule with
    | none=>rfl
    | some r=>simp only[Option.map_some,rwI,J r F]
 ·have G:rowS ca rule=none:=by
   unfold rowS;rw[if_neg (by omega),if_neg (by omega),if_neg (by omega),if_neg (by omega),if_neg (by omega)];unfold rowK;repeat (rw[if_neg (by omega)])
  have A:rowK rule=none:=by unfold rowK;repeat (rw[if_neg (by omega)])
  rw[A] at hp;rw[G];unfold zZ5;split
  ·simp only[yUp,hp];repeat (rw[if_neg (by omega)])
   rfl
  ·split
   ·simp only[yUp,hp];repeat (rw[if_neg (by omega)])
    rfl
   ·rw[hp];rfl
theorem wGc {ca rule:Nat}{r:Rw}(h:rowS ca rule=some r):yGe gl (zYg ca rule) (addS ca rule)/\entI prog (zYg ca rule)=true:=by
 have O:rule<=18:=by
  refine Classical.byContradiction λhc=>?_;have E:rowS ca rule=none:=by
   unfold rowS;rw[if_neg (by omega),if_neg (by omega),if_neg (by omega),if_neg (by omega),if_neg (by omega)];unfold rowK;repeat (rw[if_neg (by omega)])
  rw[E] at h;cases h
 have A:rule=0\/rule=1\/rule=2\/rule=3\/rule=4\/rule=5\/rule=6\/rule=7\/rule=8\/rule=9\/rule=10\/rule=11\/rule=12\/rule=13\/rule=14\/rule=15\/rule=16\/rule=17\/rule=18:=by omega
 by_cases h2:ca=2
 ·subst h2;rcases A with rfl|rfl|rfl|rfl|rfl|rfl|rfl|rfl|rfl|rfl|rfl|rfl|rfl|rfl|rfl|rfl|rfl|rfl|rfl
  all_goals first|(cases h;done)|exact⟨wVf gl,by kernel_rfl⟩|exact⟨wVe gl,by kernel_rfl⟩|exact⟨wVd gl,by kernel_rfl⟩|exact⟨wVc gl,by kernel_rfl⟩|exact⟨wVb gl,by kernel_rfl⟩|exact⟨wVa gl,by kernel_rfl⟩|exact⟨wV9 gl,by kernel_rfl⟩|exact⟨wV8 gl,by kernel_rfl⟩|exact⟨xWa gl,by kernel_rfl⟩|exact⟨wV7 gl,by kernel_rfl⟩|exact⟨xWf gl,by kernel_rfl⟩|exact⟨xWe gl,by kernel_rfl⟩|exact⟨xWd gl,by kernel_rfl⟩|exact⟨xWc gl,by kernel_rfl⟩|exact⟨xWb gl,by kernel_rfl⟩|exact⟨wV6 gl,by kernel_rfl⟩|exact⟨wV5 gl,by kernel_rfl⟩
 ·by_cases J:ca=3
  ·subst J;rcases A with rfl|rfl|rfl|rfl|rfl|rfl|rfl|rfl|rfl|rfl|rfl|rfl|rfl|rfl|rfl|rfl|rfl|rfl|rfl
   all_goals first|(cases h;done)|exact⟨wVf gl,by kernel_rfl⟩|exact⟨wVe gl,by kernel_rfl⟩|exact⟨wVd gl,by kernel_rfl⟩|exact⟨wVc gl,by kernel_rfl⟩|exact⟨wVb gl,by kernel_rfl⟩|exact⟨wVa gl,by kernel_rfl⟩|exact⟨wV9 gl,by kernel_rfl⟩|exact⟨wV8 gl,by kernel_rfl⟩|exact⟨xWa gl,by kernel_rfl⟩|exact⟨wV7 gl,by kernel_rfl⟩|exact⟨xWf gl,by kernel_rfl⟩|exact⟨xWe gl,by kernel_rfl⟩|exact⟨xWd gl,by kernel_rfl⟩|exact⟨xWc gl,by kernel_rfl⟩|exact⟨xWb gl,by kernel_rfl⟩|exact⟨wV6 gl,by kernel_rfl⟩|exact⟨wV5 gl,by kernel_rfl⟩
  ·have F:rowS ca rule=rowS 1 rule:=by
    unfold rowS;rw[if_neg (by omega),if_neg (by omega),if_neg (by omega),if_neg (by omega),if_neg (by omega)]
    conv=>rhs;rw[if_neg (by omega),if_neg (by omega),if_neg (by omega),if_neg (by omega),if_neg (by omega)]
   have G:zYg ca rule=zYg 1 rule:=by
    unfold zYg;rw[if_neg (by omega),if_neg (by omega)]
    conv=>rhs;rw[if_neg (by omega),if_neg (by omega)]
   have D:addS ca rule=addS 1 rule:=by
    funext m a b;unfold addS;rw[if_neg h2,if_neg (show ¬ (1:Nat)=2 by decide)]
   rw[F] at h;rw[G,D];rcases A with rfl|rfl|rfl|rfl|rfl|rfl|rfl|rfl|rfl|rfl|rfl|rfl|rfl|rfl|rfl|rfl|rfl|rfl|rfl
   all_goals first|(cases h;done)|exact⟨wVf gl,by kernel_rfl⟩|exact⟨wVe gl,by kernel_rfl⟩|exact⟨wVd gl,by kernel_rfl⟩|exact⟨wVc gl,by kernel_rfl⟩|exact⟨wVb gl,by kernel_rfl⟩|exact⟨wVa gl,by kernel_rfl⟩|exact⟨wV9 gl,by kernel_rfl⟩|exact⟨wV8 gl,by kernel_rfl⟩|exact⟨xWa gl,by kernel_rfl⟩|exact⟨wV7 gl,by kernel_rfl⟩|exact⟨xWf gl,by kernel_rfl⟩|exact⟨xWe gl,by kernel_rfl⟩|exact⟨xWd gl,by kernel_rfl⟩|exact⟨xWc gl,by kernel_rfl⟩|exact⟨xWb gl,by kernel_rfl⟩|exact⟨wV6 gl,by kernel_rfl⟩|exact⟨wV5 gl,by kernel_rfl⟩
noncomputable def rB (ca:Nat)(a0 f:Fm):Bool:=fmB ca f&&(decide (ca≠2) || eqF f a0)
theorem wU3 (ca:Nat)(a0:Fm):∀l:List Fm,l.all (rB ca a0)=(l.all (fmB ca)&&(decide (ca≠2) || l.all λf=>eqF f a0))
 | []=>by simp
 | f::l=>by
  simp only[List.all_cons,wU3 ca a0 l,rB];cases fmB ca f<;>cases l.all (fmB ca)<;>cases decide (ca≠2)<;>simp
theorem wZd (ca:Nat)(s:Sq):yXl ca s=(yX7 ca&&decide (s.l.length<=64)&&decide (s.r.length<=64)&&s.l.all (fmB ca)&&s.r.all (rB ca (s.r.headD fm0))):=by
 rw[wU3];unfold yXl zXo;cases s.r with
 | nil=>simp
 | cons a l=>simp only[List.headD_cons,Bool.and_assoc]
theorem wVh (G:Gl gl)(ca:Nat)(s:Sq)(x:IV)(hx:IsSq s x)(hs:yKm s)(st:ISt):ICall prog gl 48 [.raw (.int .u8 ca),x] st (λr st'=>r=.raw (.bool (yXl ca s))/\st'=st):=by
 obtain⟨l,r⟩:=s;obtain⟨t1,x1,t2,x2,rfl,e1,i1,e2,i2⟩:=hx;obtain⟨hl,E⟩:=hs;simp only at i1 i2 hl E;rw[wZd];simp only;refine iI func48 ?_;simp only[go_sem,zA,reduceCtorEq];refine (xQh gl ca _).mono ?_;rintro _ st ⟨rfl,rfl⟩;cases hk:yX7 ca
 ·simp only[go_sem,zE];exact yQ0 ⟨by simp,rfl⟩
 by_cases h1:l.length<=64
 case neg =>
  have e:decide ((64:Int)<(l.length:Int))=true:=dEt (by omega);simp only[go_sem,zE,i1.len,e];intro _;exact yQ0 ⟨by simp[h1],rfl⟩
 by_cases h2:r.length<=64
 case neg =>
  have e:decide ((64:Int)<(l.length:Int))=false:=dEf (by omega);have e':decide ((64:Int)<(r.length:Int))=true:=dEt (by omega);simp only[go_sem,zE,i1.len,i2.len,e,e'];intro _ _;exact yQ0 ⟨by simp[h2],rfl⟩
 have e:decide ((64:Int)<(l.length:Int))=false:=dEf (by omega);have e':decide ((64:Int)<(r.length:Int))=false:=dEf (by omega);simp only[go_sem,zE,i1.len,i2.len,e,e'];intros;refine LoopC.ctr l.length (λk fr st' ds=>(l.take k).all (fmB ca)=true/\fr 0=.iv (.raw (.int .u8 ca))/\fr 3=.box [.sl t1 x1,.sl t2 x2]/\fr 25=.iv (.sl t1 x1)/\fr 26=.iv (.raw (.int .i64 l.length))/\fr 27=.iv (.raw (.int .i64 k))/\st'=st/\ds=[]) ?_ ?_ ?_
 ·simp only[go_sem,zE,reduceCtorEq]
  first|rfl|exact⟨rfl,rfl⟩
 ·rintro k fr U _ A ⟨hn,f0,f3,f25,f26,f27,rfl,rfl⟩;obtain⟨a,F⟩:=yQ3 A;obtain⟨y,W,hy⟩:=i1.get F;have D:=zVy gl G ca a y hy (hl a (lMg F)) U;obtain⟨o5,n5,t5,x5,t6,x6,rfl⟩:=hy.agg;simp only[go_sem,zE,zB,zA,zL,reduceCtorEq,f0,f25,f26,f27,lt_i A,yQ2 e1,iNn,W,fits];refine D.mono ?_;rintro _ _ ⟨rfl,rfl⟩;cases E:fmB ca a
  ·simp only[go_sem];refine yQ0 ⟨?_,rfl⟩;have:l.all (fmB ca)=false:=List.all_eq_false.2 ⟨a,lMg F,by simp[E]⟩;simp[this]
  ·simp only[go_sem,zE,reduceCtorEq,f0,f3,f25,f26,f27,yQb A (show l.length<=281474976710656 by omega)];rw[yQ4 F,List.all_append,hn];simp[E]
 ·rintro fr U _ ⟨hn,f0,f3,f25,f26,f27,rfl,rfl⟩;rw[lTl] at hn;simp only[go_sem,zE,f3,f26,f27,i2.len,yQj (nLi _)];intro _;refine LoopC.ctr r.length (λk fr st' ds=>(r.take k).all (rB ca (r.headD fm0))=true/\fr 0=.iv (.raw (.int .u8 ca))/\fr 3=.box [.sl t1 x1,.sl t2 x2]/\fr 37=.iv (.sl t2 x2)/\fr 38=.iv (.raw (.int .i64 r.length))/\fr 39=.iv (.raw (.int .i64 k))/\st'=U/\ds=[]) ?_ ?_ ?_
  ·simp only[go_sem,zE,reduceCtorEq,f0,f3]
   first|rfl|exact⟨rfl,rfl⟩
  ·rintro k fr ab _ A ⟨hm,f0,f3,f37,f38,f39,rfl,rfl⟩;obtain⟨a,F⟩:=yQ3 A;obtain⟨y,W,hy⟩:=i2.get F;obtain⟨a0,J⟩:=yQ3 (show 0<r.length by omega);obtain⟨y0,af,ac⟩:=i2.get J;have al:r.headD fm0=a0:=by cases r with|nil=>cases J|cons b r=>simpa using J
   have D:=zVy gl G ca a y hy (E a (lMg F)) ab;have ak:=λst=>wKj gl G a a0 y y0 hy ac (E a (lMg F)) (E a0 (lMg J)) st;rw[al] at hm ⊢;have O:rB ca a0 a=false->r.all (rB ca a0)=false:=λhb=>List.all_eq_false.2 ⟨a,lMg F,by simp[hb]⟩;have ag:rB ca a0 a=true->(r.take (k+1)).all (rB ca a0)=true:=λhb=>by
    rw[yQ4 F,List.all_append,hm];simp[hb]
   obtain⟨o5,n5,t5,x5,t6,x6,rfl⟩:=hy.agg;obtain⟨o7,n7,t7,x7,t8,x8,rfl⟩:=ac.agg;simp only[go_sem,zE,zB,zA,zL,reduceCtorEq,f0,f37,f38,f39,lt_i A,yQ2 e2,iNn,W,fits];refine D.mono ?_;rintro _ _ ⟨rfl,rfl⟩;cases E:fmB ca a
   ·simp only[go_sem,zE];exact yQ0 ⟨by rw[O (by simp[rB,E])];simp,rfl⟩
   by_cases hj:ca=2
   ·have ej:decide ((ca:Int)=2)=true:=dEt (by omega);simp only[go_sem,zE,zB,zA,zL,reduceCtorEq,ej,f0,f3,yQ2 e2,af,fits,Int.le_refl,Int.toNat_zero];refine (ak _).mono ?_;rintro _ _ ⟨rfl,rfl⟩;cases hq:eqF a a0
    ·simp only[go_sem,zE];exact yQ0 ⟨by rw[O (by simp[rB,hj,hq])];simp,rfl⟩
    ·simp only[go_sem,zE,reduceCtorEq,f0,f3,f37,f38,f39,yQb A (show r.length<=281474976710656 by omega)];exact ag (by simp[rB,E,hq])
   ·have ej:decide ((ca:Int)=2)=false:=dEf (by omega);simp only[go_sem,zE,reduceCtorEq,ej,f0,f3,f37,f38,f39,yQb A (show r.length<=281474976710656 by omega)];exact ag (by simp[rB,E,hj])
  ·rintro fr ab _ ⟨hm,f0,f3,f37,f38,f39,rfl,rfl⟩;rw[lTl] at hm;simp only[go_sem,f38,f39,yQj (nLi _)];exact yQ0 ⟨by rw[hn,hm];simp[h1,h2],rfl⟩
theorem wZ6 (G:Tag)(E:okEs G 1)(l:List ByteArray)(s:ByteArray)(st:ISt):ICall prog gl 175 [.sl G (strI l),.raw (.string s)] st (λr st'=>r=.raw (.bool (memB l s))/\st'=st):=by
 have F:ICall prog gl 233 [.sl G (strI l),.raw (.string s)] st (λr st'=>(∃n:Int,r=.raw (.int .i64 n)/\decide (0<=n)=memB l s)/\st'=st):=by
  refine iI func233 ?_;simp only[go_sem,reduceCtorEq,yQn];intro _;refine LoopC.ctr l.length (λk fr st' ds=>memB (l.take k) s=false/\fr 0=.iv (.sl G (strI l))/\fr 1=.iv (.raw (.string s))/\fr 7=.iv (.raw (.int .i64 l.length))/\fr 8=.iv (.raw (.int .i64 k))/\st'=st/\ds=[]) ?_ ?_ ?_
  ·simp only[go_sem,zE,reduceCtorEq];exact⟨rfl,rfl⟩
  ·rintro k fr O _ A ⟨D,f0,f1,f7,f8,rfl,rfl⟩;obtain⟨a,J⟩:=yQ3 A;by_cases U:s=a
   ·subst U;simp only[go_sem,zE,reduceCtorEq,f0,f1,f7,f8,lt_i A,yQ2 E,iNn,yK0 J,fits,decide_true];refine yQ0 ⟨⟨_,rfl,?_⟩,rfl⟩;rw[dEt (iNn k)];exact (yXj.2 (lMg J)).symm
   ·simp only[go_sem,zE,reduceCtorEq,f0,f1,f7,f8,lt_i A,yQ2 E,iNn,yK0 J,fits,dEf U,yQb A (show l.length<=281474976710656 by omega)];rw[zZc] at D ⊢;rw[yQ4 J,List.mem_append,List.mem_singleton];rintro (h|h)
    ·exact D h
    ·exact U h
  ·rintro fr O _ ⟨D,f0,f1,f7,f8,rfl,rfl⟩;rw[lTl] at D;simp only[go_sem,f7,f8,yQj (nLi _)];exact yQ0 ⟨⟨_,rfl,by rw[D];rfl⟩,rfl⟩
 refine iI func175 ?_;simp only[go_sem,zE,zA,reduceCtorEq];refine F.mono ?_;rintro _ _ ⟨⟨n,rfl,D⟩,rfl⟩;simp only[go_sem,D];exact yQ0 ⟨rfl,rfl⟩
theorem wK4 (T:Gt gl)(f:Fm)(y:IV)(D:IsFm f y)(hs:f.size<=1000000)(J:f.right=true)(s:ByteArray)(st:ISt) :
  ICall prog gl 174 [y,.cptr (.raw (.string s))] st (λr st'=>r=.raw (.bool (memB (frF f) s))/\st'=st):=by
 have h1:=λst=>vYi gl T f y D (by omega) (λq F=>by have:=vZf (wUn f (yK1 J).1 q F);omega) st;obtain⟨W,n5,t5,U,t6,O,rfl⟩:=D.agg;refine ICall.intro (c:=cf prog gl [] [(1,[0,2,1,3,4])]) func174 rfl (by show _<=8;simp) (by kernel_rfl) ?_;simp only[go_sem,zE,zA,zL,fits];refine (h1 _).mono ?_;rintro _ _ ⟨E,l,rfl,A,G,rfl⟩;simp only[go_sem,zE,zA];refine (wZ6 gl E A l s _).mono ?_;rintro _ _ ⟨rfl,rfl⟩;simp only[go_sem];refine yQ0 ⟨?_,rfl⟩;have:memB l s=memB (frF f) s:=by
  rw[Bool.eq_iff_iff,yXj,yXj];exact G.2 s
 rw[this]
theorem vVx (T:Gt gl)(s:Sq)(x:IV)(U:IsSq s x)(E:yKm s)(F:(∀f∈s.l,f.right=true)/\∀f∈s.r,f.right=true)(n:ByteArray)(st:ISt) :
  ICall prog gl 131 [x,.raw (.string n)] st (λr st'=>r=.raw (.bool (yKj s n))/\st'=st):=by
 obtain⟨t1,O,t2,J,rfl,e1,i1,W,i2⟩:=U;have h1:=λst=>yY8 gl 174 [.cptr (.raw (.string n))] (by simp only[go_sem]) s.l (λf=>memB (frF f) n) (λa A y D st=>wK4 gl T a y D (E.1 a A) (F.1 a A) n st) t1 O e1 i1 st;have h2:=λst=>yY8 gl 174 [.cptr (.raw (.string n))] (by simp only[go_sem]) s.r (λf=>memB (frF f) n) (λa A y D st=>wK4 gl T a y D (E.2 a A) (F.2 a A) n st) t2 J W i2 st;refine ICall.intro (c:=cf prog gl [] [] [3]) func131 rfl (by show _<=17;simp) (by kernel_rfl) ?_;simp only[go_sem,zE,zA];refine (h1 _).mono ?_;rintro _ _ ⟨rfl,rfl⟩;cases G:s.l.any λf=>memB (frF f) n
 ·simp only[go_sem,zE,zA];refine (h2 _).mono ?_;rintro _ _ ⟨rfl,rfl⟩;simp only[go_sem,zE];exact yQ0 ⟨by simp[yKj,G],rfl⟩
 ·simp only[go_sem,zE];exact yQ0 ⟨by simp[yKj,G],rfl⟩
theorem yXe (f:Fm)(l:Sb):(yZf f l).1.size<=400:=by
 unfold yZf;split
 ·split
  ·rename_i h;simp only[bAt,dTe] at h;exact h.1
  ·show fm0.size<=400;decide
 ·show fm0.size<=400;decide
theorem uWd:IsFm fm0 (.agg [.raw (.int .u8 0),.raw (.string ⟨#[]⟩),.sl ⟨true,.nil,0⟩ [],.sl ⟨true,.nil,0⟩ []]):=xJj _ _ (.inl rfl) (.inl rfl)
theorem xWo {sub:List Fm}{A:List IV}(h:IsFms sub A)(k:Nat):∃y,IsFm ((sub[k]?).getD fm0) y/\(sub.length<=k->y=.agg [.raw (.int .u8 0),.raw (.string ⟨#[]⟩),.sl ⟨true,.nil,0⟩ [],.sl ⟨true,.nil,0⟩ []])/\(k<sub.length->A[k]?=some y):=by
 by_cases D:k<sub.length
 ·obtain⟨a,E⟩:=yQ3 D;obtain⟨y,F,G⟩:=h.get E;exact⟨y,by rw[E];exact G,λhc=>by omega,λ_=>F⟩
 ·exact⟨_,by rw[List.getElem?_eq_none (by omega)];exact uWd,λ_=>rfl,λhc=>absurd hc D⟩
def AdR (st:ISt)(q:List Sq×Nat)(r:IV)(st':ISt):Prop:=∃D A,r=.tup [.sl D A,.raw (.int .i64 q.2)]/\okEs D 2/\IsSqs q.1 A/\st'=st
def AdRD (st:ISt)(q:List Sq×Nat)(r:IV)(st':ISt):Prop:=∃A D,r=.tup [.sl A D,.raw (.int .i64 q.2)]/\okEs A 2/\appT q.1.length A/\IsSqsD q.1 D/\st'=st
theorem AdRD.w {st:ISt}{q:List Sq×Nat}(r:IV)(st':ISt):AdRD st q r st'->AdR st q r st':=λ⟨D,A,h1,h2,_,F,E⟩=>⟨D,A,h1,h2,F.w,E⟩
theorem yQx {o:Nat}{n:ByteArray}{us:List Tm}{sub:List Fm}(h:(Fm.mk o n us sub).size<=1000000)(k:Nat):((sub[k]?).getD fm0).size<=1000000:=by
 cases A:sub[k]? with
 | none=>show fm0.size<=1000000;decide
 | some a =>
  have:=(yQq A).2;simp only[Fm.size] at h;show a.size<=1000000;omega
theorem yQt {ca rule:Nat}{r:Rw}{main:Fm}{term:Tm}{name:ByteArray}(h:fmB ca main=true)(A:r.op=0\/main.op=r.op):yZl ca rule r main term name =
  if r.asks=0 then (addS ca rule main ((main.subs[0]?).getD fm0) ((main.subs[1]?).getD fm0),0)
  else if !(if r.asks=2 then Tm.mk true name [] else term).ok then ([],193)
  else if (yZf ((main.subs[0]?).getD fm0) [(main.nm,if r.asks=2 then Tm.mk true name [] else term)]).2≠0 then ([],193)
  else (addS ca rule main (yZf ((main.subs[0]?).getD fm0) [(main.nm,if r.asks=2 then Tm.mk true name [] else term)]).1 ((main.subs[1]?).getD fm0),0):=by
 have e:(!fmB ca main || (decide (r.op≠0)&&decide (main.op≠r.op)))=false:=by
  rw[h];rcases A with A|A<;>simp[A]
 simp only[yZl,e,bFt,if_false]
set_option maxHeartbeats 2000000 in
theorem wUv (G:Gl gl)(T:Gt gl)(ca rule:Nat)(r:Rw)(hr:rowS ca rule=some r)(main:Fm)(y:IV)(hy:IsFm main y)(hm:main.size<=1000000)(term:Tm)(z:IV)(hz:IsTm term z)(ht:term.size<=1000000)(name:ByteArray)(st:ISt) :
  ICall prog gl 107 [rwI ca rule r,.raw (.int .u8 ca),y,z,.raw (.string name)] st (AdRD st (yZl ca rule r main term name)):=by
 obtain⟨ae,ac⟩:=wGc gl hr;have hf:=λst=>zVy gl G ca main y hy hm st;obtain⟨rl,rr,op,asks⟩:=r;obtain⟨o,n,us,sub⟩:=main;have am:=hy;obtain⟨t1,x1,t2,x2,rfl,ho,e1,i1,e2,i2⟩:=hy.mk;obtain⟨v,un,tz,xz,rfl⟩:∃v un tz xz,z=.agg [.raw (.bool v),.raw (.string un),.sl tz xz]:=by
  obtain⟨v,un,us⟩:=term;obtain⟨tz,xz,rfl,_⟩:=hz.mk;exact⟨_,_,_,_,rfl⟩
 obtain⟨z1,al,aJ,aI⟩:=xWo i2 0;obtain⟨z2,ak,aF,aH⟩:=xWo i2 1;have hE:fmB ca (.mk o n us sub)=false->yZl ca rule ⟨rl,rr,op,asks⟩ (.mk o n us sub) term name=([],192):=λh=>by simp only[yZl,h];rfl
 refine iI func107 ?_;simp only[go_sem,zE,zA,zL,rwI];refine (hf _).mono ?_;rintro _ _ ⟨rfl,rfl⟩;cases F:fmB ca (.mk o n us sub)
 ·simp only[go_sem,zE];exact yQ0 (by rw[hE F];exact⟨_,_,rfl,.inl rfl,.inl rfl,rfl,rfl⟩)
 by_cases D:op=0\/o=op
 case neg =>
  have A:yZl ca rule ⟨rl,rr,op,asks⟩ (.mk o n us sub) term name=([],192):=by
   have e:(!fmB ca (.mk o n us sub) || (decide (op≠0)&&decide ((Fm.mk o n us sub).op≠op)))=true:=by
    simp only[Fm.op,F];simp only[not_or] at D;simp[D]
   simp only[yZl,e,if_true]
  simp only[not_or] at D;have d1:decide ((op:Int)=0)=false:=dEf (by omega);have d2:decide ((o:Int)=(op:Int))=false:=dEf (by omega);simp only[go_sem,zE,zA,d1,d2];exact yQ0 (by rw[A];exact⟨_,_,rfl,.inl rfl,.inl rfl,rfl,rfl⟩)
 obtain⟨aE,ab⟩:∃b,decide ((op:Int)=0)=b:=⟨_,rfl⟩
 have aG:aE=false->decide ((o:Int)=(op:Int))=true:=λh=>by
  subst ab;have:=of_decide_eq_false h;exact dEt (by omega)
 have aK:=D;replace D:(⟨rl,rr,op,asks⟩:Rw).op=0\/(Fm.mk o n us sub).op=(⟨rl,rr,op,asks⟩:Rw).op:=aK;by_cases aQ:0<sub.length
 ·have l0:decide ((0:Int)<(sub.length:Int))=true:=dEt (by omega);have g0:=aI aQ;obtain⟨o3,n3,t3,x3,t4,x4,rfl⟩:=al.agg;by_cases aP:1<sub.length
  ·have l1:decide ((1:Int)<(sub.length:Int))=true:=dEt (by omega);have g1:=aH aP;obtain⟨o5,n5,t5,x5,t6,x6,rfl⟩:=ak.agg;cases aE
   ·have an:=aG rfl;by_cases E:asks=0
    ·have d0:decide ((asks:Int)=0)=true:=dEt (by omega);have A:=yQt (rule:=rule) (r:=⟨rl,rr,op,asks⟩) (term:=term) (name:=name) F D;simp only[if_pos E,Fm.subs] at A;simp only[go_sem,zE,zB,zA,zL,ab,an,l0,l1,i2.len,g0,g1,yQ2 e2,Int.le_refl,Int.toNat_zero,(show (0:Int)<=1 by decide),(show Int.toNat 1=1 from rfl),d0,fits,ac];intros;refine (ae _ _ _ _ _ _ am al ak hm (yQx hm 0) (yQx hm 1) _).mono ?_;rintro _ _ ⟨tg,xs,rfl,J,aa,W,rfl⟩;simp only[go_sem,zE];exact yQ0 (by rw[A];exact⟨_,_,rfl,J,aa,W,rfl⟩)
    ·have d0:decide ((asks:Int)=0)=false:=dEf (by omega);by_cases O:asks=2
     ·have d2:decide ((asks:Int)=2)=true:=dEt (by omega);simp only[go_sem,zE,zB,zA,zL,ab,an,l0,l1,i2.len,g0,g1,yQ2 e2,Int.le_refl,Int.toNat_zero,(show (0:Int)<=1 by decide),(show Int.toNat 1=1 from rfl),d0,d2,fits];intros;refine (yYl gl (Tm.mk true name []) _ (show IsTm (Tm.mk true name []) _ from⟨_,_,rfl,.inl rfl,rfl⟩) (by show 1<=_;decide) _).mono ?_;rintro _ _ ⟨rfl,rfl⟩;cases hk:Tm.ok (Tm.mk true name [])
      ·simp only[go_sem,zE];have A:=yQt (rule:=rule) (r:=⟨rl,rr,op,asks⟩) (term:=term) (name:=name) F D;simp only[if_neg E,if_pos O,hk,Bool.not_false,if_true] at A;exact yQ0 (by rw[A];exact⟨_,_,rfl,.inl rfl,.inl rfl,rfl,rfl⟩)
      simp only[go_sem,zE,zA,zL];refine (zJv gl G T _ _ al (yQx hm 0) n (Tm.mk true name []) _ (show IsTm (Tm.mk true name []) _ from⟨_,_,rfl,.inl rfl,rfl⟩) (by show 1<=_;decide) _).mono ?_;rintro _ _ ⟨y3,rfl,U,rfl⟩;have ag:=U;obtain⟨o8,n8,t8,x8,t9,x9,rfl⟩:=U.agg;by_cases J:(yZf ((sub[0]?).getD fm0) [(n,(Tm.mk true name []))]).2=0
      ·have A:=yQt (rule:=rule) (r:=⟨rl,rr,op,asks⟩) (term:=term) (name:=name) F D;simp only[if_neg E,if_pos O,hk,Bool.not_true,bFt,if_false,Fm.subs,Fm.nm,J,ne_eq,nTf] at A;simp only[go_sem,zE,zA,zL,J,ac,show decide (((0:Nat):Int)=0)=true from rfl];refine (ae _ _ _ _ _ _ am ag ak hm (Nat.le_trans (yXe _ _) (by decide)) (yQx hm 1) _).mono ?_;rintro _ _ ⟨tg,xs,rfl,J,aa,W,rfl⟩;simp only[go_sem,zE];exact yQ0 (by rw[A];exact⟨_,_,rfl,J,aa,W,rfl⟩)
      ·have A:=yQt (rule:=rule) (r:=⟨rl,rr,op,asks⟩) (term:=term) (name:=name) F D;simp only[if_neg E,if_pos O,hk,Bool.not_true,bFt,if_false,Fm.subs,Fm.nm,ne_eq,J,nFt,if_true] at A;have hd:decide (((yZf ((sub[0]?).getD fm0) [(n,(Tm.mk true name []))]).2:Int)=0)=false:=dEf (by omega);simp only[go_sem,zE,zA,zL,hd];exact yQ0 (by rw[A];exact⟨_,_,rfl,.inl rfl,.inl rfl,rfl,rfl⟩)
     ·have d2:decide ((asks:Int)=2)=false:=dEf (by omega);simp only[go_sem,zE,zB,zA,zL,ab,an,l0,l1,i2.len,g0,g1,yQ2 e2,Int.le_refl,Int.toNat_zero,(show (0:Int)<=1 by decide),(show Int.toNat 1=1 from rfl),d0,d2,fits];intros;refine (yYl gl term _ hz ht _).mono ?_;rintro _ _ ⟨rfl,rfl⟩;cases hk:Tm.ok term
      ·simp only[go_sem,zE];have A:=yQt (rule:=rule) (r:=⟨rl,rr,op,asks⟩) (term:=term) (name:=name) F D;simp only[if_neg E,if_neg O,hk,Bool.not_false,if_true] at A;exact yQ0 (by rw[A];exact⟨_,_,rfl,.inl rfl,.inl rfl,rfl,rfl⟩)
      simp only[go_sem,zE,zA,zL];refine (zJv gl G T _ _ al (yQx hm 0) n term _ hz ht _).mono ?_;rintro _ _ ⟨y3,rfl,U,rfl⟩;have ag:=U;obtain⟨o8,n8,t8,x8,t9,x9,rfl⟩:=U.agg;by_cases J:(yZf ((sub[0]?).getD fm0) [(n,term)]).2=0
      ·have A:=yQt (rule:=rule) (r:=⟨rl,rr,op,asks⟩) (term:=term) (name:=name) F D;simp only[if_neg E,if_neg O,hk,Bool.not_true,bFt,if_false,Fm.subs,Fm.nm,J,ne_eq,nTf] at A;simp only[go_sem,zE,zA,zL,J,ac,show decide (((0:Nat):Int)=0)=true from rfl];refine (ae _ _ _ _ _ _ am ag ak hm (Nat.le_trans (yXe _ _) (by decide)) (yQx hm 1) _).mono ?_;rintro _ _ ⟨tg,xs,rfl,J,aa,W,rfl⟩;simp only[go_sem,zE];exact yQ0 (by rw[A];exact⟨_,_,rfl,J,aa,W,rfl⟩)
      ·have A:=yQt (rule:=rule) (r:=⟨rl,rr,op,asks⟩) (term:=term) (name:=name) F D;simp only[if_neg E,if_neg O,hk,Bool.not_true,bFt,if_false,Fm.subs,Fm.nm,ne_eq,J,nFt,if_true] at A;have hd:decide (((yZf ((sub[0]?).getD fm0) [(n,term)]).2:Int)=0)=false:=dEf (by omega);simp only[go_sem,zE,zA,zL,hd];exact yQ0 (by rw[A];exact⟨_,_,rfl,.inl rfl,.inl rfl,rfl,rfl⟩)
   ·by_cases E:asks=0
    ·have d0:decide ((asks:Int)=0)=true:=dEt (by omega);have A:=yQt (rule:=rule) (r:=⟨rl,rr,op,asks⟩) (term:=term) (name:=name) F D;simp only[if_pos E,Fm.subs] at A;simp only[go_sem,zE,zB,zA,zL,ab,l0,l1,i2.len,g0,g1,yQ2 e2,Int.le_refl,Int.toNat_zero,(show (0:Int)<=1 by decide),(show Int.toNat 1=1 from rfl),d0,fits,ac];intros;refine (ae _ _ _ _ _ _ am al ak hm (yQx hm 0) (yQx hm 1) _).mono ?_;rintro _ _ ⟨tg,xs,rfl,J,aa,W,rfl⟩;simp only[go_sem,zE];exact yQ0 (by rw[A];exact⟨_,_,rfl,J,aa,W,rfl⟩)
    ·have d0:decide ((asks:Int)=0)=false:=dEf (by omega);by_cases O:asks=2
     ·have d2:decide ((asks:Int)=2)=true:=dEt (by omega);simp only[go_sem,zE,zB,zA,zL,ab,l0,l1,i2.len,g0,g1,yQ2 e2,Int.le_refl,Int.toNat_zero,(show (0:Int)<=1 by decide),(show Int.toNat 1=1 from rfl),d0,d2,fits];intros;refine (yYl gl (Tm.mk true name []) _ (show IsTm (Tm.mk true name []) _ from⟨_,_,rfl,.inl rfl,rfl⟩) (by show 1<=_;decide) _).mono ?_;rintro _ _ ⟨rfl,rfl⟩;cases hk:Tm.ok (Tm.mk true name [])
      ·simp only[go_sem,zE];have A:=yQt (rule:=rule) (r:=⟨rl,rr,op,asks⟩) (term:=term) (name:=name) F D;simp only[if_neg E,if_pos O,hk,Bool.not_false,if_true] at A;exact yQ0 (by rw[A];exact⟨_,_,rfl,.inl rfl,.inl rfl,rfl,rfl⟩)
      simp only[go_sem,zE,zA,zL];refine (zJv gl G T _ _ al (yQx hm 0) n (Tm.mk true name []) _ (show IsTm (Tm.mk true name []) _ from⟨_,_,rfl,.inl rfl,rfl⟩) (by show 1<=_;decide) _).mono ?_;rintro _ _ ⟨y3,rfl,U,rfl⟩;have ag:=U;obtain⟨o8,n8,t8,x8,t9,x9,rfl⟩:=U.agg;by_cases J:(yZf ((sub[0]?).getD fm0) [(n,(Tm.mk true name []))]).2=0
      ·have A:=yQt (rule:=rule) (r:=⟨rl,rr,op,asks⟩) (term:=term) (name:=name) F D;simp only[if_neg E,if_pos O,hk,Bool.not_true,bFt,if_false,Fm.subs,Fm.nm,J,ne_eq,nTf] at A;simp only[go_sem,zE,zA,zL,J,ac,show decide (((0:Nat):Int)=0)=true from rfl];refine (ae _ _ _ _ _ _ am ag ak hm (Nat.le_trans (yXe _ _) (by decide)) (yQx hm 1) _).mono ?_;rintro _ _ ⟨tg,xs,rfl,J,aa,W,rfl⟩;simp only[go_sem,zE];exact yQ0 (by rw[A];exact⟨_,_,rfl,J,aa,W,rfl⟩)
      ·have A:=yQt (rule:=rule) (r:=⟨rl,rr,op,asks⟩) (term:=term) (name:=name) F D;simp only[if_neg E,if_pos O,hk,Bool.not_true,bFt,if_false,Fm.subs,Fm.nm,ne_eq,J,nFt,if_true] at A;have hd:decide (((yZf ((sub[0]?).getD fm0) [(n,(Tm.mk true name []))]).2:Int)=0)=false:=dEf (by omega);simp only[go_sem,zE,zA,zL,hd];exact yQ0 (by rw[A];exact⟨_,_,rfl,.inl rfl,.inl rfl,rfl,rfl⟩)
     ·have d2:decide ((asks:Int)=2)=false:=dEf (by omega);simp only[go_sem,zE,zB,zA,zL,ab,l0,l1,i2.len,g0,g1,yQ2 e2,Int.le_refl,Int.toNat_zero,(show (0:Int)<=1 by decide),(show Int.toNat 1=1 from rfl),d0,d2,fits];intros;refine (yYl gl term _ hz ht _).mono ?_;rintro _ _ ⟨rfl,rfl⟩;cases hk:Tm.ok term
      ·simp only[go_sem,zE];have A:=yQt (rule:=rule) (r:=⟨rl,rr,op,asks⟩) (term:=term) (name:=name) F D;simp only[if_neg E,if_neg O,hk,Bool.not_false,if_true] at A;exact yQ0 (by rw[A];exact⟨_,_,rfl,.inl rfl,.inl rfl,rfl,rfl⟩)
      simp only[go_sem,zE,zA,zL];refine (zJv gl G T _ _ al (yQx hm 0) n term _ hz ht _).mono ?_;rintro _ _ ⟨y3,rfl,U,rfl⟩;have ag:=U;obtain⟨o8,n8,t8,x8,t9,x9,rfl⟩:=U.agg;by_cases J:(yZf ((sub[0]?).getD fm0) [(n,term)]).2=0
      ·have A:=yQt (rule:=rule) (r:=⟨rl,rr,op,asks⟩) (term:=term) (name:=name) F D;simp only[if_neg E,if_neg O,hk,Bool.not_true,bFt,if_false,Fm.subs,Fm.nm,J,ne_eq,nTf] at A;simp only[go_sem,zE,zA,zL,J,ac,show decide (((0:Nat):Int)=0)=true from rfl];refine (ae _ _ _ _ _ _ am ag ak hm (Nat.le_trans (yXe _ _) (by decide)) (yQx hm 1) _).mono ?_;rintro _ _ ⟨tg,xs,rfl,J,aa,W,rfl⟩;simp only[go_sem,zE];exact yQ0 (by rw[A];exact⟨_,_,rfl,J,aa,W,rfl⟩)
      ·have A:=yQt (rule:=rule) (r:=⟨rl,rr,op,asks⟩) (term:=term) (name:=name) F D;simp only[if_neg E,if_neg O,hk,Bool.not_true,bFt,if_false,Fm.subs,Fm.nm,ne_eq,J,nFt,if_true] at A;have hd:decide (((yZf ((sub[0]?).getD fm0) [(n,term)]).2:Int)=0)=false:=dEf (by omega);simp only[go_sem,zE,zA,zL,hd];exact yQ0 (by rw[A];exact⟨_,_,rfl,.inl rfl,.inl rfl,rfl,rfl⟩)
  ·have l1:decide ((1:Int)<(sub.length:Int))=false:=dEf (by omega);obtain rfl:=aF (by omega);cases aE
   ·have an:=aG rfl;by_cases E:asks=0
    ·have d0:decide ((asks:Int)=0)=true:=dEt (by omega);have A:=yQt (rule:=rule) (r:=⟨rl,rr,op,asks⟩) (term:=term) (name:=name) F D;simp only[if_pos E,Fm.subs] at A;simp only[go_sem,zE,zB,zA,zL,ab,an,l0,l1,i2.len,g0,yQ2 e2,Int.le_refl,Int.toNat_zero,d0,fits,ac];intros;refine (ae _ _ _ _ _ _ am al ak hm (yQx hm 0) (yQx hm 1) _).mono ?_;rintro _ _ ⟨tg,xs,rfl,J,aa,W,rfl⟩;simp only[go_sem,zE];exact yQ0 (by rw[A];exact⟨_,_,rfl,J,aa,W,rfl⟩)
    ·have d0:decide ((asks:Int)=0)=false:=dEf (by omega);by_cases O:asks=2
     ·have d2:decide ((asks:Int)=2)=true:=dEt (by omega);simp only[go_sem,zE,zB,zA,zL,ab,an,l0,l1,i2.len,g0,yQ2 e2,Int.le_refl,Int.toNat_zero,d0,d2,fits];intros;refine (yYl gl (Tm.mk true name []) _ (show IsTm (Tm.mk true name []) _ from⟨_,_,rfl,.inl rfl,rfl⟩) (by show 1<=_;decide) _).mono ?_;rintro _ _ ⟨rfl,rfl⟩;cases hk:Tm.ok (Tm.mk true name [])
      ·simp only[go_sem,zE];have A:=yQt (rule:=rule) (r:=⟨rl,rr,op,asks⟩) (term:=term) (name:=name) F D;simp only[if_neg E,if_pos O,hk,Bool.not_false,if_true] at A;exact yQ0 (by rw[A];exact⟨_,_,rfl,.inl rfl,.inl rfl,rfl,rfl⟩)
      simp only[go_sem,zE,zA,zL];refine (zJv gl G T _ _ al (yQx hm 0) n (Tm.mk true name []) _ (show IsTm (Tm.mk true name []) _ from⟨_,_,rfl,.inl rfl,rfl⟩) (by show 1<=_;decide) _).mono ?_;rintro _ _ ⟨y3,rfl,U,rfl⟩;have ag:=U;obtain⟨o8,n8,t8,x8,t9,x9,rfl⟩:=U.agg;by_cases J:(yZf ((sub[0]?).getD fm0) [(n,(Tm.mk true name []))]).2=0
      ·have A:=yQt (rule:=rule) (r:=⟨rl,rr,op,asks⟩) (term:=term) (name:=name) F D;simp only[if_neg E,if_pos O,hk,Bool.not_true,bFt,if_false,Fm.subs,Fm.nm,J,ne_eq,nTf] at A;simp only[go_sem,zE,zA,zL,J,ac,show decide (((0:Nat):Int)=0)=true from rfl];refine (ae _ _ _ _ _ _ am ag ak hm (Nat.le_trans (yXe _ _) (by decide)) (yQx hm 1) _).mono ?_;rintro _ _ ⟨tg,xs,rfl,J,aa,W,rfl⟩;simp only[go_sem,zE];exact yQ0 (by rw[A];exact⟨_,_,rfl,J,aa,W,rfl⟩)
      ·have A:=yQt (rule:=rule) (r:=⟨rl,rr,op,asks⟩) (term:=term) (name:=name) F D;simp only[if_neg E,if_pos O,hk,Bool.not_true,bFt,if_false,Fm.subs,Fm.nm,ne_eq,J,nFt,if_true] at A;have hd:decide (((yZf ((sub[0]?).getD fm0) [(n,(Tm.mk true name []))]).2:Int)=0)=false:=dEf (by omega);simp only[go_sem,zE,zA,zL,hd];exact yQ0 (by rw[A];exact⟨_,_,rfl,.inl rfl,.inl rfl,rfl,rfl⟩)
     ·have d2:decide ((asks:Int)=2)=false:=dEf (by omega);simp only[go_sem,zE,zB,zA,zL,ab,an,l0,l1,i2.len,g0,yQ2 e2,Int.le_refl,Int.toNat_zero,d0,d2,fits];intros;refine (yYl gl term _ hz ht _).mono ?_;rintro _ _ ⟨rfl,rfl⟩;cases hk:Tm.ok term
      ·simp only[go_sem,zE];have A:=yQt (rule:=rule) (r:=⟨rl,rr,op,asks⟩) (term:=term) (name:=name) F D;simp only[if_neg E,if_neg O,hk,Bool.not_false,if_true] at A;exact yQ0 (by rw[A];exact⟨_,_,rfl,.inl rfl,.inl rfl,rfl,rfl⟩)
      simp only[go_sem,zE,zA,zL];refine (zJv gl G T _ _ al (yQx hm 0) n term _ hz ht _).mono ?_;rintro _ _ ⟨y3,rfl,U,rfl⟩;have ag:=U;obtain⟨o8,n8,t8,x8,t9,x9,rfl⟩:=U.agg;by_cases J:(yZf ((sub[0]?).getD fm0) [(n,term)]).2=0
      ·have A:=yQt (rule:=rule) (r:=⟨rl,rr,op,asks⟩) (term:=term) (name:=name) F D;simp only[if_neg E,if_neg O,hk,Bool.not_true,bFt,if_false,Fm.subs,Fm.nm,J,ne_eq,nTf] at A;simp only[go_sem,zE,zA,zL,J,ac,show decide (((0:Nat):Int)=0)=true from rfl];refine (ae _ _ _ _ _ _ am ag ak hm (Nat.le_trans (yXe _ _) (by decide)) (yQx hm 1) _).mono ?_;rintro _ _ ⟨tg,xs,rfl,J,aa,W,rfl⟩;simp only[go_sem,zE];exact yQ0 (by rw[A];exact⟨_,_,rfl,J,aa,W,rfl⟩)
      ·have A:=yQt (rule:=rule) (r:=⟨rl,rr,op,asks⟩) (term:=term) (name:=name) F D;simp only[if_neg E,if_neg O,hk,Bool.not_true,bFt,if_false,Fm.subs,Fm.nm,ne_eq,J,nFt,if_true] at A;have hd:decide (((yZf ((sub[0]?).getD fm0) [(n,term)]).2:Int)=0)=false:=dEf (by omega);simp only[go_sem,zE,zA,zL,hd];exact yQ0 (by rw[A];exact⟨_,_,rfl,.inl rfl,.inl rfl,rfl,rfl⟩)
   ·by_cases E:asks=0
    ·have d0:decide ((asks:Int)=0)=true:=dEt (by omega);have A:=yQt (rule:=rule) (r:=⟨rl,rr,op,asks⟩) (term:=term) (name:=name) F D;simp only[if_pos E,Fm.subs] at A;simp only[go_sem,zE,zB,zA,zL,ab,l0,l1,i2.len,g0,yQ2 e2,Int.le_refl,Int.toNat_zero,d0,fits,ac];intros;refine (ae _ _ _ _ _ _ am al ak hm (yQx hm 0) (yQx hm 1) _).mono ?_;rintro _ _ ⟨tg,xs,rfl,J,aa,W,rfl⟩;simp only[go_sem,zE];exact yQ0 (by rw[A];exact⟨_,_,rfl,J,aa,W,rfl⟩)
    ·have d0:decide ((asks:Int)=0)=false:=dEf (by omega);by_cases O:asks=2
     ·have d2:decide ((asks:Int)=2)=true:=dEt (by omega);simp only[go_sem,zE,zB,zA,zL,ab,l0,l1,i2.len,g0,yQ2 e2,Int.le_refl,Int.toNat_zero,d0,d2,fits];intros;refine (yYl gl (Tm.mk true name []) _ (show IsTm (Tm.mk true name []) _ from⟨_,_,rfl,.inl rfl,rfl⟩) (by show 1<=_;decide) _).mono ?_;rintro _ _ ⟨rfl,rfl⟩;cases hk:Tm.ok (Tm.mk true name [])
      ·simp only[go_sem,zE];have A:=yQt (rule:=rule) (r:=⟨rl,rr,op,asks⟩) (term:=term) (name:=name) F D;simp only[if_neg E,if_pos O,hk,Bool.not_false,if_true] at A;exact yQ0 (by rw[A];exact⟨_,_,rfl,.inl rfl,.inl rfl,rfl,rfl⟩)
      simp only[go_sem,zE,zA,zL];refine (zJv gl G T _ _ al (yQx hm 0) n (Tm.mk true name []) _ (show IsTm (Tm.mk true name []) _ from⟨_,_,rfl,.inl rfl,rfl⟩) (by show 1<=_;decide) _).mono ?_;rintro _ _ ⟨y3,rfl,U,rfl⟩;have ag:=U;obtain⟨o8,n8,t8,x8,t9,x9,rfl⟩:=U.agg;by_cases J:(yZf ((sub[0]?).getD fm0) [(n,(Tm.mk true name []))]).2=0
      ·have A:=yQt (rule:=rule) (r:=⟨rl,rr,op,asks⟩) (term:=term) (name:=name) F D;simp only[if_neg E,if_pos O,hk,Bool.not_true,bFt,if_false,Fm.subs,Fm.nm,J,ne_eq,nTf] at A;simp only[go_sem,zE,zA,zL,J,ac,show decide (((0:Nat):Int)=0)=true from rfl];refine (ae _ _ _ _ _ _ am ag ak hm (Nat.le_trans (yXe _ _) (by decide)) (yQx hm 1) _).mono ?_;rintro _ _ ⟨tg,xs,rfl,J,aa,W,rfl⟩;simp only[go_sem,zE];exact yQ0 (by rw[A];exact⟨_,_,rfl,J,aa,W,rfl⟩)
      ·have A:=yQt (rule:=rule) (r:=⟨rl,rr,op,asks⟩) (term:=term) (name:=name) F D;simp only[if_neg E,if_pos O,hk,Bool.not_true,bFt,if_false,Fm.subs,Fm.nm,ne_eq,J,nFt,if_true] at A;have hd:decide (((yZf ((sub[0]?).getD fm0) [(n,(Tm.mk true name []))]).2:Int)=0)=false:=dEf (by omega);simp only[go_sem,zE,zA,zL,hd];exact yQ0 (by rw[A];exact⟨_,_,rfl,.inl rfl,.inl rfl,rfl,rfl⟩)
     ·have d2:decide ((asks:Int)=2)=false:=dEf (by omega);simp only[go_sem,zE,zB,zA,zL,ab,l0,l1,i2.len,g0,yQ2 e2,Int.le_refl,Int.toNat_zero,d0,d2,fits];intros;refine (yYl gl term _ hz ht _).mono ?_;rintro _ _ ⟨rfl,rfl⟩;cases hk:Tm.ok term
      ·simp only[go_sem,zE];have A:=yQt (rule:=rule) (r:=⟨rl,rr,op,asks⟩) (term:=term) (name:=name) F D;simp only[if_neg E,if_neg O,hk,Bool.not_false,if_true] at A;exact yQ0 (by rw[A];exact⟨_,_,rfl,.inl rfl,.inl rfl,rfl,rfl⟩)
      simp only[go_sem,zE,zA,zL];refine (zJv gl G T _ _ al (yQx hm 0) n term _ hz ht _).mono ?_;rintro _ _ ⟨y3,rfl,U,rfl⟩;have ag:=U;obtain⟨o8,n8,t8,x8,t9,x9,rfl⟩:=U.agg;by_cases J:(yZf ((sub[0]?).getD fm0) [(n,term)]).2=0
      ·have A:=yQt (rule:=rule) (r:=⟨rl,rr,op,asks⟩) (term:=term) (name:=name) F D;simp only[if_neg E,if_neg O,hk,Bool.not_true,bFt,if_false,Fm.subs,Fm.nm,J,ne_eq,nTf] at A;simp only[go_sem,zE,zA,zL,J,ac,show decide (((0:Nat):Int)=0)=true from rfl];refine (ae _ _ _ _ _ _ am ag ak hm (Nat.le_trans (yXe _ _) (by decide)) (yQx hm 1) _).mono ?_;rintro _ _ ⟨tg,xs,rfl,J,aa,W,rfl⟩;simp only[go_sem,zE];exact yQ0 (by rw[A];exact⟨_,_,rfl,J,aa,W,rfl⟩)
      ·have A:=yQt (rule:=rule) (r:=⟨rl,rr,op,asks⟩) (term:=term) (name:=name) F D;simp only[if_neg E,if_neg O,hk,Bool.not_true,bFt,if_false,Fm.subs,Fm.nm,ne_eq,J,nFt,if_true] at A;have hd:decide (((yZf ((sub[0]?).getD fm0) [(n,term)]).2:Int)=0)=false:=dEf (by omega);simp only[go_sem,zE,zA,zL,hd];exact yQ0 (by rw[A];exact⟨_,_,rfl,.inl rfl,.inl rfl,rfl,rfl⟩)
 ·have l0:decide ((0:Int)<(sub.length:Int))=false:=dEf (by omega);have l1:decide ((1:Int)<(sub.length:Int))=false:=dEf (by omega);obtain rfl:=aJ (by omega);obtain rfl:=aF (by omega);cases aE
  ·have an:=aG rfl;by_cases E:asks=0
   ·have d0:decide ((asks:Int)=0)=true:=dEt (by omega);have A:=yQt (rule:=rule) (r:=⟨rl,rr,op,asks⟩) (term:=term) (name:=name) F D;simp only[if_pos E,Fm.subs] at A;simp only[go_sem,zE,zA,zL,ab,an,l0,l1,i2.len,d0,ac];intros;refine (ae _ _ _ _ _ _ am al ak hm (yQx hm 0) (yQx hm 1) _).mono ?_;rintro _ _ ⟨tg,xs,rfl,J,aa,W,rfl⟩;simp only[go_sem,zE];exact yQ0 (by rw[A];exact⟨_,_,rfl,J,aa,W,rfl⟩)
   ·have d0:decide ((asks:Int)=0)=false:=dEf (by omega);by_cases O:asks=2
    ·have d2:decide ((asks:Int)=2)=true:=dEt (by omega);simp only[go_sem,zE,zA,zL,ab,an,l0,l1,i2.len,d0,d2,fits];intros;refine (yYl gl (Tm.mk true name []) _ (show IsTm (Tm.mk true name []) _ from⟨_,_,rfl,.inl rfl,rfl⟩) (by show 1<=_;decide) _).mono ?_;rintro _ _ ⟨rfl,rfl⟩;cases hk:Tm.ok (Tm.mk true name [])
     ·simp only[go_sem,zE];have A:=yQt (rule:=rule) (r:=⟨rl,rr,op,asks⟩) (term:=term) (name:=name) F D;simp only[if_neg E,if_pos O,hk,Bool.not_false,if_true] at A;exact yQ0 (by rw[A];exact⟨_,_,rfl,.inl rfl,.inl rfl,rfl,rfl⟩)
     simp only[go_sem,zE,zA,zL];refine (zJv gl G T _ _ al (yQx hm 0) n (Tm.mk true name []) _ (show IsTm (Tm.mk true name []) _ from⟨_,_,rfl,.inl rfl,rfl⟩) (by show 1<=_;decide) _).mono ?_;rintro _ _ ⟨y3,rfl,U,rfl⟩;have ag:=U;obtain⟨o8,n8,t8,x8,t9,x9,rfl⟩:=U.agg;by_cases J:(yZf ((sub[0]?).getD fm0) [(n,(Tm.mk true name []))]).2=0
     ·have A:=yQt (rule:=rule) (r:=⟨rl,rr,op,asks⟩) (term:=term) (name:=name) F D;simp only[if_neg E,if_pos O,hk,Bool.not_true,bFt,if_false,Fm.subs,Fm.nm,J,ne_eq,nTf] at A;simp only[go_sem,zE,zA,zL,J,ac,show decide (((0:Nat):Int)=0)=true from rfl];refine (ae _ _ _ _ _ _ am ag ak hm (Nat.le_trans (yXe _ _) (by decide)) (yQx hm 1) _).mono ?_;rintro _ _ ⟨tg,xs,rfl,J,aa,W,rfl⟩;simp only[go_sem,zE];exact yQ0 (by rw[A];exact⟨_,_,rfl,J,aa,W,rfl⟩)
     ·have A:=yQt (rule:=rule) (r:=⟨rl,rr,op,asks⟩) (term:=term) (name:=name) F D;simp only[if_neg E,if_pos O,hk,Bool.not_true,bFt,if_false,Fm.subs,Fm.nm,ne_eq,J,nFt,if_true] at A;have hd:decide (((yZf ((sub[0]?).getD fm0) [(n,(Tm.mk true name []))]).2:Int)=0)=false:=dEf (by omega);simp only[go_sem,zE,zA,zL,hd];exact yQ0 (by rw[A];exact⟨_,_,rfl,.inl rfl,.inl rfl,rfl,rfl⟩)
    ·have d2:decide ((asks:Int)=2)=false:=dEf (by omega);simp only[go_sem,zE,zA,zL,ab,an,l0,l1,i2.len,d0,d2];intros;refine (yYl gl term _ hz ht _).mono ?_;rintro _ _ ⟨rfl,rfl⟩;cases hk:Tm.ok term
     ·simp only[go_sem,zE];have A:=yQt (rule:=rule) (r:=⟨rl,rr,op,asks⟩) (term:=term) (name:=name) F D;simp only[if_neg E,if_neg O,hk,Bool.not_false,if_true] at A;exact yQ0 (by rw[A];exact⟨_,_,rfl,.inl rfl,.inl rfl,rfl,rfl⟩)
     simp only[go_sem,zE,zA,zL];refine (zJv gl G T _ _ al (yQx hm 0) n term _ hz ht _).mono ?_;rintro _ _ ⟨y3,rfl,U,rfl⟩;have ag:=U;obtain⟨o8,n8,t8,x8,t9,x9,rfl⟩:=U.agg;by_cases J:(yZf ((sub[0]?).getD fm0) [(n,term)]).2=0
     ·have A:=yQt (rule:=rule) (r:=⟨rl,rr,op,asks⟩) (term:=term) (name:=name) F D;simp only[if_neg E,if_neg O,hk,Bool.not_true,bFt,if_false,Fm.subs,Fm.nm,J,ne_eq,nTf] at A;simp only[go_sem,zE,zA,zL,J,ac,show decide (((0:Nat):Int)=0)=true from rfl];refine (ae _ _ _ _ _ _ am ag ak hm (Nat.le_trans (yXe _ _) (by decide)) (yQx hm 1) _).mono ?_;rintro _ _ ⟨tg,xs,rfl,J,aa,W,rfl⟩;simp only[go_sem,zE];exact yQ0 (by rw[A];exact⟨_,_,rfl,J,aa,W,rfl⟩)
     ·have A:=yQt (rule:=rule) (r:=⟨rl,rr,op,asks⟩) (term:=term) (name:=name) F D;simp only[if_neg E,if_neg O,hk,Bool.not_true,bFt,if_false,Fm.subs,Fm.nm,ne_eq,J,nFt,if_true] at A;have hd:decide (((yZf ((sub[0]?).getD fm0) [(n,term)]).2:Int)=0)=false:=dEf (by omega);simp only[go_sem,zE,zA,zL,hd];exact yQ0 (by rw[A];exact⟨_,_,rfl,.inl rfl,.inl rfl,rfl,rfl⟩)
  ·by_cases E:asks=0
   ·have d0:decide ((asks:Int)=0)=true:=dEt (by omega);have A:=yQt (rule:=rule) (r:=⟨rl,rr,op,asks⟩) (term:=term) (name:=name) F D;simp only[if_pos E,Fm.subs] at A;simp only[go_sem,zE,zA,zL,ab,l0,l1,i2.len,d0,ac];intros;refine (ae _ _ _ _ _ _ am al ak hm (yQx hm 0) (yQx hm 1) _).mono ?_;rintro _ _ ⟨tg,xs,rfl,J,aa,W,rfl⟩;simp only[go_sem,zE];exact yQ0 (by rw[A];exact⟨_,_,rfl,J,aa,W,rfl⟩)
   ·have d0:decide ((asks:Int)=0)=false:=dEf (by omega);by_cases O:asks=2
    ·have d2:decide ((asks:Int)=2)=true:=dEt (by omega);simp only[go_sem,zE,zA,zL,ab,l0,l1,i2.len,d0,d2,fits];intros;refine (yYl gl (Tm.mk true name []) _ (show IsTm (Tm.mk true name []) _ from⟨_,_,rfl,.inl rfl,rfl⟩) (by show 1<=_;decide) _).mono ?_;rintro _ _ ⟨rfl,rfl⟩;cases hk:Tm.ok (Tm.mk true name [])
     ·simp only[go_sem,zE];have A:=yQt (rule:=rule) (r:=⟨rl,rr,op,asks⟩) (term:=term) (name:=name) F D;simp only[if_neg E,if_pos O,hk,Bool.not_false,if_true] at A;exact yQ0 (by rw[A];exact⟨_,_,rfl,.inl rfl,.inl rfl,rfl,rfl⟩)
     simp only[go_sem,zE,zA,zL];refine (zJv gl G T _ _ al (yQx hm 0) n (Tm.mk true name []) _ (show IsTm (Tm.mk true name []) _ from⟨_,_,rfl,.inl rfl,rfl⟩) (by show 1<=_;decide) _).mono ?_;rintro _ _ ⟨y3,rfl,U,rfl⟩;have ag:=U;obtain⟨o8,n8,t8,x8,t9,x9,rfl⟩:=U.agg;by_cases J:(yZf ((sub[0]?).getD fm0) [(n,(Tm.mk true name []))]).2=0
     ·have A:=yQt (rule:=rule) (r:=⟨rl,rr,op,asks⟩) (term:=term) (name:=name) F D;simp only[if_neg E,if_pos O,hk,Bool.not_true,bFt,if_false,Fm.subs,Fm.nm,J,ne_eq,nTf] at A;simp only[go_sem,zE,zA,zL,J,ac,show decide (((0:Nat):Int)=0)=true from rfl];refine (ae _ _ _ _ _ _ am ag ak hm (Nat.le_trans (yXe _ _) (by decide)) (yQx hm 1) _).mono ?_;rintro _ _ ⟨tg,xs,rfl,J,aa,W,rfl⟩;simp only[go_sem,zE];exact yQ0 (by rw[A];exact⟨_,_,rfl,J,aa,W,rfl⟩)
     ·have A:=yQt (rule:=rule) (r:=⟨rl,rr,op,asks⟩) (term:=term) (name:=name) F D;simp only[if_neg E,if_pos O,hk,Bool.not_true,bFt,if_false,Fm.subs,Fm.nm,ne_eq,J,nFt,if_true] at A;have hd:decide (((yZf ((sub[0]?).getD fm0) [(n,(Tm.mk true name []))]).2:Int)=0)=false:=dEf (by omega);simp only[go_sem,zE,zA,zL,hd];exact yQ0 (by rw[A];exact⟨_,_,rfl,.inl rfl,.inl rfl,rfl,rfl⟩)
    ·have d2:decide ((asks:Int)=2)=false:=dEf (by omega);simp only[go_sem,zE,zA,zL,ab,l0,l1,i2.len,d0,d2];intros;refine (yYl gl term _ hz ht _).mono ?_;rintro _ _ ⟨rfl,rfl⟩;cases hk:Tm.ok term
     ·simp only[go_sem,zE];have A:=yQt (rule:=rule) (r:=⟨rl,rr,op,asks⟩) (term:=term) (name:=name) F D;simp only[if_neg E,if_neg O,hk,Bool.not_false,if_true] at A;exact yQ0 (by rw[A];exact⟨_,_,rfl,.inl rfl,.inl rfl,rfl,rfl⟩)
     simp only[go_sem,zE,zA,zL];refine (zJv gl G T _ _ al (yQx hm 0) n term _ hz ht _).mono ?_;rintro _ _ ⟨y3,rfl,U,rfl⟩;have ag:=U;obtain⟨o8,n8,t8,x8,t9,x9,rfl⟩:=U.agg;by_cases J:(yZf ((sub[0]?).getD fm0) [(n,term)]).2=0
     ·have A:=yQt (rule:=rule) (r:=⟨rl,rr,op,asks⟩) (term:=term) (name:=name) F D;simp only[if_neg E,if_neg O,hk,Bool.not_true,bFt,if_false,Fm.subs,Fm.nm,J,ne_eq,nTf] at A;simp only[go_sem,zE,zA,zL,J,ac,show decide (((0:Nat):Int)=0)=true from rfl];refine (ae _ _ _ _ _ _ am ag ak hm (Nat.le_trans (yXe _ _) (by decide)) (yQx hm 1) _).mono ?_;rintro _ _ ⟨tg,xs,rfl,J,aa,W,rfl⟩;simp only[go_sem,zE];exact yQ0 (by rw[A];exact⟨_,_,rfl,J,aa,W,rfl⟩)
     ·have A:=yQt (rule:=rule) (r:=⟨rl,rr,op,asks⟩) (term:=term) (name:=name) F D;simp only[if_neg E,if_neg O,hk,Bool.not_true,bFt,if_false,Fm.subs,Fm.nm,ne_eq,J,nFt,if_true] at A;have hd:decide (((yZf ((sub[0]?).getD fm0) [(n,term)]).2:Int)=0)=false:=dEf (by omega);simp only[go_sem,zE,zA,zL,hd];exact yQ0 (by rw[A];exact⟨_,_,rfl,.inl rfl,.inl rfl,rfl,rfl⟩)
theorem xZe {ca:Nat}{s:Sq}(h:yXl ca s=true):(∀f∈s.l,f.right=true)/\∀f∈s.r,f.right=true:=by
 unfold yXl at h;simp only[bAt,List.all_eq_true] at h;obtain⟨⟨⟨_,E⟩,D⟩,_⟩:=h;have key:∀f,fmB ca f=true->f.right=true:=λf A=>by
  unfold fmB at A;simp only[bAt] at A;exact A.1
 exact⟨λf A=>key f (E f A),λf A=>key f (D f A)⟩
theorem wGx (G:Gl gl)(T:Gt gl)(ca:Nat)(s:Sq)(x:IV)(hx:IsSq s x)(hs:yKm s)(rule:Nat)(main:Fm)(y:IV)(hy:IsFm main y)(hm:main.size<=1000000)(term:Tm)(z:IV)(hz:IsTm term z)(ht:term.size<=1000000)(name:ByteArray)(st:ISt) :
  ICall prog gl 90 [.raw (.int .u8 ca),x,.raw (.int .u8 rule),y,z,.raw (.string name)] st (AdRD st (yZt ca s rule main term name)):=by
 have hV:=λst=>wVh gl G ca s x hx hs st;have hF:=λhr st=>vVx gl T s x hx hs hr name st;obtain⟨t1,x1,t2,x2,rfl,e1,i1,e2,i2⟩:=hx;have aB:=λst=>xU0 gl G s.l main t1 x1 y e1 i1 hy hs.1 hm st;have ak:=λst=>xU0 gl G s.r main t2 x2 y e2 i2 hy hs.2 hm st;have hA:=λr hr st=>wUv gl G T ca rule r hr main y hy hm term z hz ht name st;obtain⟨o3,n3,t3,x3,t4,x4,rfl⟩:=hy.agg;obtain⟨v,un,tz,xz,rfl⟩:∃v un tz xz,z=.agg [.raw (.bool v),.raw (.string un),.sl tz xz]:=by
  obtain⟨v,un,us⟩:=term;obtain⟨tz,xz,rfl,_⟩:=hz.mk;exact⟨_,_,_,_,rfl⟩
 refine iI func90 ?_;simp only[go_sem,zE,zA,zL,reduceCtorEq];refine (hV _).mono ?_;rintro _ st ⟨rfl,rfl⟩;cases hv:yXl ca s
 ·simp only[go_sem,zE];exact yQ0 (by unfold yZt;rw[hv];exact⟨_,_,rfl,.inl rfl,.inl rfl,rfl,rfl⟩)
 have D:=xZe hv;simp only[go_sem,zA,reduceCtorEq];refine (wX5 gl ca _).mono ?_;rintro _ _ ⟨b,E,rfl,rfl⟩;cases hr:rowS ca rule with
 | none =>
  have A:yZt ca s rule main term name=([],191):=by unfold yZt;rw[hv,hr];rfl
  simp only[go_sem,zE,zA,zL,ISt.put_same,yYp,hr,Option.map_none,zGf];exact yQc (yQe E) (by rw[A];exact⟨_,_,rfl,.inl rfl,.inl rfl,rfl,rfl⟩)
 | some r =>
  have aa:=hA r hr;obtain⟨rl,rr,op,asks⟩:=r;have A:yZt ca s rule main term name=if decide ((yZl ca rule ⟨rl,rr,op,asks⟩ main term name).2=192) || (rl&&!hasF s.l main) || (rr&&!hasF s.r main) then ([],192)
    else if (yZl ca rule ⟨rl,rr,op,asks⟩ main term name).2≠0 then ([],(yZl ca rule ⟨rl,rr,op,asks⟩ main term name).2)
    else if decide (asks=2)&&yKj s name then ([],193) else ((yZl ca rule ⟨rl,rr,op,asks⟩ main term name).1,0):=by unfold yZt;rw[hv,hr];rfl
  generalize yZl ca rule ⟨rl,rr,op,asks⟩ main term name=q at A aa;obtain⟨qs,U⟩:=q;simp only at A;simp only[go_sem,zE,zA,zL,reduceCtorEq,ISt.put_same,yYp,hr,Option.map_some,zGe,rwI];refine (aa _).mono ?_;rintro _ _ ⟨tg,xs,rfl,he,J,F,rfl⟩;by_cases ah:U=192
  ·have d:decide ((U:Int)=192)=true:=dEt (by omega);have az:yZt ca s rule main term name=([],192):=by rw[A,ah];rfl
   simp only[go_sem,zE,d];exact yQc (yQe E) (by rw[az];exact⟨_,_,rfl,.inl rfl,.inl rfl,rfl,rfl⟩)
  have d:decide ((U:Int)=192)=false:=dEf (by omega);have aj:decide (U=192)=false:=dEf ah;rw[aj,Bool.false_or] at A;cases rl
  ·cases rr
   ·simp only[Bool.false_and,Bool.false_and,Bool.or_false,bFt,if_false] at A;by_cases h0:U=0
    ·subst h0;simp only[ne_eq,nTf,if_false] at A;by_cases ha:asks=2
     ·have O:decide ((asks:Int)=2)=true:=dEt (by omega);simp only[go_sem,zE,zA,zL,d,O,show decide (((0:Nat):Int)=0)=true from rfl];refine (hF D _).mono ?_;rintro _ _ ⟨rfl,rfl⟩;rw[dEt ha,Bool.true_and] at A;cases W:yKj s name
      ·simp only[go_sem,zE];rw[W] at A;exact yQc (yQe E) (by rw[A];exact⟨_,_,rfl,he,J,F,rfl⟩)
      ·simp only[go_sem,zE];rw[W] at A;exact yQc (yQe E) (by rw[A];exact⟨_,_,rfl,.inl rfl,.inl rfl,rfl,rfl⟩)
     ·have O:decide ((asks:Int)=2)=false:=dEf (by omega);rw[dEf ha,Bool.false_and] at A;simp only[go_sem,zE,zA,d,O,show decide (((0:Nat):Int)=0)=true from rfl];exact yQc (yQe E) (by rw[A];exact⟨_,_,rfl,he,J,F,rfl⟩)
    ·have d0:decide ((U:Int)=0)=false:=dEf (by omega);rw[if_pos h0] at A;simp only[go_sem,zE,zA,d,d0];exact yQc (yQe E) (by rw[A];exact⟨_,_,rfl,.inl rfl,.inl rfl,rfl,rfl⟩)
   ·simp only[go_sem,zE,zA,zL,d];refine (ak _).mono ?_;rintro _ _ ⟨rfl,rfl⟩;cases h5:hasF s.r main
    ·simp only[go_sem,zE];rw[h5] at A;exact yQc (yQe E) (by rw[A];exact⟨_,_,rfl,.inl rfl,.inl rfl,rfl,rfl⟩)
    ·simp only[h5,Bool.false_and,Bool.and_false,Bool.not_true,Bool.or_false,bFt,if_false] at A;by_cases h0:U=0
     ·subst h0;simp only[ne_eq,nTf,if_false] at A;by_cases ha:asks=2
      ·have O:decide ((asks:Int)=2)=true:=dEt (by omega);simp only[go_sem,zE,zA,zL,O,show decide (((0:Nat):Int)=0)=true from rfl];refine (hF D _).mono ?_;rintro _ _ ⟨rfl,rfl⟩;rw[dEt ha,Bool.true_and] at A;cases W:yKj s name
       ·simp only[go_sem,zE];rw[W] at A;exact yQc (yQe E) (by rw[A];exact⟨_,_,rfl,he,J,F,rfl⟩)
       ·simp only[go_sem,zE];rw[W] at A;exact yQc (yQe E) (by rw[A];exact⟨_,_,rfl,.inl rfl,.inl rfl,rfl,rfl⟩)
      ·have O:decide ((asks:Int)=2)=false:=dEf (by omega);rw[dEf ha,Bool.false_and] at A;simp only[go_sem,zE,zA,O,show decide (((0:Nat):Int)=0)=true from rfl];exact yQc (yQe E) (by rw[A];exact⟨_,_,rfl,he,J,F,rfl⟩)
     ·have d0:decide ((U:Int)=0)=false:=dEf (by omega);rw[if_pos h0] at A;simp only[go_sem,zE,d0];exact yQc (yQe E) (by rw[A];exact⟨_,_,rfl,.inl rfl,.inl rfl,rfl,rfl⟩)
  ·simp only[go_sem,zE,zA,zL,d];refine (aB _).mono ?_;rintro _ _ ⟨rfl,rfl⟩;cases h4:hasF s.l main
   ·simp only[go_sem,zE];rw[h4] at A;exact yQc (yQe E) (by rw[A];exact⟨_,_,rfl,.inl rfl,.inl rfl,rfl,rfl⟩)
   cases rr
   ·simp only[h4,Bool.false_and,Bool.and_false,Bool.not_true,Bool.or_false,bFt,if_false] at A;by_cases h0:U=0
    ·subst h0;simp only[ne_eq,nTf,if_false] at A;by_cases ha:asks=2
     ·have O:decide ((asks:Int)=2)=true:=dEt (by omega);simp only[go_sem,zE,zA,zL,O,show decide (((0:Nat):Int)=0)=true from rfl];refine (hF D _).mono ?_;rintro _ _ ⟨rfl,rfl⟩;rw[dEt ha,Bool.true_and] at A;cases W:yKj s name
      ·simp only[go_sem,zE];rw[W] at A;exact yQc (yQe E) (by rw[A];exact⟨_,_,rfl,he,J,F,rfl⟩)
      ·simp only[go_sem,zE];rw[W] at A;exact yQc (yQe E) (by rw[A];exact⟨_,_,rfl,.inl rfl,.inl rfl,rfl,rfl⟩)
     ·have O:decide ((asks:Int)=2)=false:=dEf (by omega);rw[dEf ha,Bool.false_and] at A;simp only[go_sem,zE,zA,O,show decide (((0:Nat):Int)=0)=true from rfl];exact yQc (yQe E) (by rw[A];exact⟨_,_,rfl,he,J,F,rfl⟩)
    ·have d0:decide ((U:Int)=0)=false:=dEf (by omega);rw[if_pos h0] at A;simp only[go_sem,zE,zA,d0];exact yQc (yQe E) (by rw[A];exact⟨_,_,rfl,.inl rfl,.inl rfl,rfl,rfl⟩)
   ·simp only[go_sem,zE,zA,zL];refine (ak _).mono ?_;rintro _ _ ⟨rfl,rfl⟩;cases h5:hasF s.r main
    ·simp only[go_sem,zE];rw[h4,h5] at A;exact yQc (yQe E) (by rw[A];exact⟨_,_,rfl,.inl rfl,.inl rfl,rfl,rfl⟩)
    ·simp only[h4,h5,Bool.and_false,Bool.not_true,Bool.or_false,bFt,if_false] at A;by_cases h0:U=0
     ·subst h0;simp only[ne_eq,nTf,if_false] at A;by_cases ha:asks=2
      ·have O:decide ((asks:Int)=2)=true:=dEt (by omega);simp only[go_sem,zE,zA,zL,O,show decide (((0:Nat):Int)=0)=true from rfl];refine (hF D _).mono ?_;rintro _ _ ⟨rfl,rfl⟩;rw[dEt ha,Bool.true_and] at A;cases W:yKj s name
       ·simp only[go_sem,zE];rw[W] at A;exact yQc (yQe E) (by rw[A];exact⟨_,_,rfl,he,J,F,rfl⟩)
       ·simp only[go_sem,zE];rw[W] at A;exact yQc (yQe E) (by rw[A];exact⟨_,_,rfl,.inl rfl,.inl rfl,rfl,rfl⟩)
      ·have O:decide ((asks:Int)=2)=false:=dEf (by omega);rw[dEf ha,Bool.false_and] at A;simp only[go_sem,zE,zA,O,show decide (((0:Nat):Int)=0)=true from rfl];exact yQc (yQe E) (by rw[A];exact⟨_,_,rfl,he,J,F,rfl⟩)
     ·have d0:decide ((U:Int)=0)=false:=dEf (by omega);rw[if_pos h0] at A;simp only[go_sem,zE,d0];exact yQc (yQe E) (by rw[A];exact⟨_,_,rfl,.inl rfl,.inl rfl,rfl,rfl⟩)
theorem vKi (G:Gl gl)(T:Gt gl)(ca:Nat)(s:Sq)(x:IV)(E:IsSq s x)(J:yKm s)(rule:Nat)(main:Fm)(y:IV)(D:IsFm main y)(O:main.size<=1000000)(term:Tm)(z:IV)(A:IsTm term z)(F:term.size<=1000000)(name:ByteArray)(st:ISt) :
  ICall prog gl 90 [.raw (.int .u8 ca),x,.raw (.int .u8 rule),y,z,.raw (.string name)] st (AdR st (yZt ca s rule main term name)) :=
 (wGx gl G T ca s x E J rule main y D O term z A F name st).mono AdRD.w
theorem wYb:lenI prog 3=none:=by kernel_rfl
theorem zYq (n:Nat):yXm none (some 0) n=some (0,0):=by simp[yXm]
theorem xKw (n:Nat):yXm none (some ((0:Nat):Int)) n=some (0,0):=zYq n
theorem vYh (n:Nat)(G:n<=1099511627776)(st:ISt):ICall prog gl 164 [.sl ⟨true,.nil,0⟩ [],.raw (.int .i64 n)] st (λr st' =>
  (n=0/\r=.sl ⟨true,.nil,0⟩ []/\st'=st)\/(∃g cap,st g=none/\n<=cap/\r=.raw (.slice (some ⟨g,0,none⟩) 0 cap)/\st'=st.put g (some (.box (List.replicate (cap*4) .junk))))):=by
 have h1:decide ((n:Int)<0)=false:=dEf (by omega);have h2:IntKind.i64.wrap ((0:Int)-((0:Nat):Int))=0:=rfl;have D:IntKind.i64.wrap ((n:Int)-0)=n:=w64 (by omega) (by omega);refine iI func164 ?_;by_cases E:n=0
 ·subst E;simp only[go_sem,zE,zL,reduceCtorEq,h1,h2,D,show decide ((0:Int)<((0:Nat):Int))=false from rfl];refine yQ0 (.inl ?_);simp
 ·have F:decide ((0:Int)<(n:Int))=true:=dEt (by omega);simp only[go_sem,zE,zL,reduceCtorEq,h1,h2,D,F,zYq,wYb];refine yQv ⟨rfl,by omega,by show (n:Int)*72<=_;omega,by omega⟩ λg cap=>yQd λA=>?_;obtain⟨A,hc⟩:=A;rw[Int.toNat_natCast] at hc;simp only[go_sem,zE,zL,reduceCtorEq,Int.toNat_natCast,xKw,ite_self,Nat.zero_mul,hc];exact yQ0 (.inr ⟨g,cap,A,hc,rfl,rfl⟩)
def catL (l:List (Tag×List IV)):List IV:=l.flatMap (·.2)
def catI (l:List (Tag×List IV)):List IV:=l.map λp=>.sl p.1 p.2
theorem xZ1 {l:List (Tag×List IV)}{k:Nat}{p:Tag×List IV}(h:l[k]?=some p):(catI l)[k]?=some (.sl p.1 p.2):=by simp[catI,List.getElem?_map,h]
theorem yWi {l:List (Tag×List IV)}{k:Nat}{p:Tag×List IV}(h:l[k]?=some p):catL (l.take (k+1))=catL (l.take k)++p.2:=by
 rw[yQ4 h];simp[catL]
theorem xZ0 (l:List (Tag×List IV))(k:Nat):(catL (l.take k)).length<=(catL l).length:=by
 conv=>rhs;rw[<- List.take_append_drop k l]
 unfold catL;rw[List.flatMap_append,lLa];omega
theorem yXv:∀ {l:List Fm}{A:List IV},IsFms l A->∀y∈A,fits true 4 y=true
 | [],_,rfl,y,h=>by cases h
 | a::l,_,⟨x,A,rfl,D,E⟩,y,h=>by
  rcases List.mem_cons.1 h with rfl|h
  ·obtain⟨o,n,t,x,G,F,rfl⟩:=D.agg;simp[fits,IV.one]
  ·exact yXv E y h
theorem xVy {y:IV}(h:fits true 4 y=true):y.cells.length=4:=(yJf h).2.1
theorem uWj {l:List IV}(h:∀y∈l,fits true 4 y=true):(l.flatMap IV.cells).length=l.length*4:=yQy l λx A=>xVy (h x A)
theorem wGj (l:List (Tag×List IV))(tt:Tag)(G:okEs tt 1)(F:∀p∈l,∀y∈p.2,fits true 4 y=true)(af:(catL l).length<=1099511627776)(st:ISt) :
  ICall prog gl 119 [.sl tt (catI l)] st (λr st'=>(∃t,r=.sl t []/\okEs t 4/\catL l=[]/\st'=st) \/
   ∃g cap cs,st g=none/\(catL l).length<=cap/\cap*4<=cs.length/\cs.take ((catL l).length*4)=(catL l).flatMap IV.cells/\r=.raw (.slice (some ⟨g,0,none⟩) (catL l).length cap)/\st'=st.put g (some (.box cs))):=by
 have J:(catI l).length=l.length:=by simp[catI]
 have az:∀y∈catL l,fits true 4 y=true:=λy hy=>by
  obtain⟨p,hp,hy⟩:=List.mem_flatMap.1 hy;exact F p hp y hy
 refine iI func119 ?_;simp only[go_sem,reduceCtorEq,J];intro hl;refine LoopC.ctr l.length (λk fr st' ds=>fr 0=.iv (.sl tt (catI l))/\fr 3=.iv (.raw (.int .i64 (catL (l.take k)).length))/\fr 9=.iv (.sl tt (catI l))/\fr 10=.iv (.raw (.int .i64 l.length))/\fr 11=.iv (.raw (.int .i64 k))/\st'=st/\ds=[]) ?_ ?_ ?_
 ·simp only[go_sem,zE,reduceCtorEq];simp[catL]
 ·rintro k fr D _ A ⟨f0,f3,f9,f10,f11,rfl,rfl⟩;obtain⟨p,hp⟩:=yQ3 A;have h1:=xZ0 l k;have h2:=xZ0 l (k+1);rw[yWi hp,lLa] at h2;have h3:IntKind.i64.wrap ((((catL (l.take k)).length:Nat):Int)+((p.2.length:Nat):Int))=((catL (l.take (k+1))).length:Nat):=by
   rw[w64 (by omega) (by omega),yWi hp,lLa];omega
  have h4:decide ((((catL (l.take (k+1))).length:Nat):Int)<0)=false:=dEf (by omega);simp only[go_sem,zE,f3,f9,f10,f11,lt_i A,yQ2 G,iNn,xZ1 hp,fits,h3];intro ay;simp only[go_sem,zE,reduceCtorEq,h3,h4,f0,f9,f10,f11,yQb A (show l.length<=281474976710656 by omega)]
 ·rintro fr D _ ⟨f0,f3,f9,f10,f11,rfl,rfl⟩;rw[lTl] at f3;simp only[go_sem,zE,zA,f3,f10,f11,yQj (nLi _)];refine (vYh gl (catL l).length af _).mono ?_;have loop:∀(I:Nat->IV->ISt->Prop),True:=λ_=>trivial;rintro r ai (⟨hz,rfl,rfl⟩|⟨g,cap,hg,ao,rfl,rfl⟩)
  ·have E:catL l=[]:=List.eq_nil_of_length_eq_zero hz;simp only[go_sem,reduceCtorEq,f0,J];intro _;refine LoopC.ctr l.length (λk fr st' ds=>(∃t,fr 6=.iv (.sl t [])/\t.cap=.nil)/\fr 25=.iv (.sl tt (catI l))/\fr 26=.iv (.raw (.int .i64 l.length))/\fr 27=.iv (.raw (.int .i64 k))/\st'=ai/\ds=[]) ?_ ?_ ?_
   ·simp only[go_sem,zE];exact⟨⟨_,rfl,rfl⟩,rfl⟩
   ·rintro k fr D _ A ⟨⟨t,f6,ht⟩,f25,f26,f27,rfl,rfl⟩;obtain⟨p,hp⟩:=yQ3 A;have al:p.2=[]:=by
     have:=yWi hp;have h2:=xZ0 l (k+1);rw[this,lLa,E,List.length_nil] at h2;exact List.eq_nil_of_length_eq_zero (by omega)
    obtain⟨fs,c,es⟩:=t;obtain rfl:c=.nil:=ht;simp only[go_sem,zE,zA,zM,zL,f6,f25,f26,f27,lt_i A,yQ2 G,iNn,xZ1 hp,fits,al,yQb A (show l.length<=281474976710656 by omega)];exact⟨_,rfl,rfl⟩
   ·rintro fr D _ ⟨⟨t,f6,ht⟩,f25,f26,f27,rfl,rfl⟩;simp only[go_sem,zE,f6,f26,f27,yQj (nLi _)];exact yQ0 (.inl ⟨_,rfl,.inl ht,E,rfl⟩)
  ·simp only[go_sem,reduceCtorEq,f0,J];intro _;refine LoopC.ctr l.length (λk fr st' ds=>(∃g cap cs,D g=none/\(catL (l.take k)).length<=cap/\cap*4<=cs.length/\cs.take ((catL (l.take k)).length*4)=(catL (l.take k)).flatMap IV.cells/\fr 6=.iv (.raw (.slice (some ⟨g,0,none⟩) (catL (l.take k)).length cap))/\st'=D.put g (some (.box cs)))/\fr 25=.iv (.sl tt (catI l))/\fr 26=.iv (.raw (.int .i64 l.length))/\fr 27=.iv (.raw (.int .i64 k))/\ds=[]) ?_ ?_ ?_
   ·simp only[go_sem,zE];exact⟨⟨g,cap,_,hg,by simp[catL],by simp,by simp[catL],by simp[catL],rfl⟩,rfl⟩
   ·rintro k fr st' _ A ⟨⟨g,cap,cs,hg,W,U,O,f6,rfl⟩,f25,f26,f27,rfl⟩;obtain⟨p,hp⟩:=yQ3 A;have h2:=xZ0 l (k+1);rw[yWi hp,lLa] at h2;have ae:=F p (lMg hp);simp only[go_sem,zE,zA,f6,f25,f26,f27,lt_i A,yQ2 G,iNn,xZ1 hp,fits];refine zXv _ _ _ (ISt.put_same ..) (List.all_eq_true.2 ae) ⟨by show _*72<=_;omega,by omega⟩ ⟨W,U⟩ (uWj ae) ?_;intro g' ag cs' an k1 k2 k3;simp only[go_sem,zE,f25,f26,f27,yQb A (show l.length<=281474976710656 by omega)];have ac:((D.put g (some (.box cs))).put g none).put g' (some (.box cs'))=D.put g' (some (.box cs')):=by
     funext c;simp only[ISt.put_apply];split
     ·rfl
     ·split
      ·subst_vars;exact hg.symm
      ·rfl
    have am:D g'=none:=by
     rcases an with rfl|h
     ·exact hg
     ·rw[ISt.put_apply] at h;split at h
      ·cases h
      ·exact h
    refine⟨g',ag,cs',am,?_,k2,?_,?_,ac⟩
    ·rw[yWi hp,lLa];exact k1
    ·rw[yWi hp,lLa,List.flatMap_append,<- O];exact k3
    ·rw[yWi hp,lLa]
   ·rintro fr st' _ ⟨⟨g,cap,cs,hg,W,U,O,f6,rfl⟩,f25,f26,f27,rfl⟩;rw[lTl] at *;simp only[go_sem,zE,f6,f26,f27,yQj (nLi _)];exact yQ0 (.inr ⟨g,cap,cs,hg,W,U,O,rfl,rfl⟩)
theorem xU1 (W U:List Fm)(t1 t2 O:Tag)(D A:List IV)(aa:okEs O 1)(h1:IsFms W D)(h2:IsFms U A)(F:W.length+U.length<=1099511627776)(st:ISt) :
  ICall prog gl 119 [.sl O [.sl t1 D,.sl t2 A]] st (λr st'=>∃t ys,r=.sl t ys/\okEs t 4/\IsFms (W++U) ys/\st'=st):=by
 have hc:catL [(t1,D),(t2,A)]=D++A:=by simp[catL]
 have J:=h1.append h2;have ab:(D++A).length<=1099511627776:=by rw[J.len,lLa];exact F
 have key:=wGj gl [(t1,D),(t2,A)] O aa (λp hp y G=>by
  rcases List.mem_cons.1 hp with rfl|hp
  ·exact yXv h1 y G
  ·obtain rfl:=List.mem_singleton.1 hp;exact yXv h2 y G) (by rw[hc];exact ab) st
 rw[hc] at key;refine ICall.fix (key.mono λr st' h=>?_);rcases h with⟨t,rfl,ht,hn,rfl⟩|⟨g,cap,cs,hg,af,ae,ac,rfl,rfl⟩
 ·exact⟨.sl t [],(λ_=>none),st',LendOk.mk (λb o h=>by cases h) (subSt.refl _) (λb cs h=>by cases h),.refl _,⟨false,t.cap,t.es⟩,[],by simp only[age,ages],ht,hn▸J,rfl⟩
 ·have E:∀y∈D++A,y.cells.length=4:=λy G=>xVy (yXv J y G);refine⟨.sl ⟨true,.app g,4⟩ (D++A),ISt.put (λ_=>none) g (some (.box cs)),st,⟨λb o h=>?_,yQe hg,λb cs' h=>?_⟩,.sl g cap ⟨true,.app g,4⟩ (D++A) cs rfl (by omega) af E (ISt.put_same ..) ae λi r c hr hx=>?_,⟨false,.app g,4⟩,ages (D++A),by simp only[age],.inr rfl,J.aged,rfl⟩
  ·rw[ISt.put_apply] at h ⊢;split at h
   ·rename_i hb;rw[if_pos hb];exact h
   ·cases h
  ·rw[ISt.put_apply] at h;split at h
   ·rename_i hb;rw[hb];exact hg
   ·cases h
  ·have hi:i<(D++A).length*4:=by
    have:=(lGs hx).1
    rwa [yQy _ E] at this
   have:(cs.take ((D++A).length*4))[i]?=cs[i]?:=by rw[List.getElem?_take,if_pos hi]
   rw[ac,hx,hr] at this;cases this;exact .refl _
theorem xKj {ca:Nat}{s:Sq}{rule:Nat}{main:Fm}{term:Tm}{name:ByteArray}{ad:List Sq}(h:yZt ca s rule main term name=(ad,0)) :
  yXl ca s=true/\∃r,(yZl ca rule r main term name)=(ad,0):=by
 unfold yZt at h;split at h
 ·simp at h
 ·rename_i E;split at h
  ·simp at h
  ·rename_i r _;split at h
   ·simp at h
   ·split at h
    ·rename_i h1 h2;injection h with D A;exact absurd A h2
    ·rename_i h1 h2;split at h
     ·simp at h
     ·injection h with D A;refine⟨by simpa using E,r,?_⟩;rw[<- D];exact Prod.ext rfl (by simpa using h2)
theorem yXd:fitL []:=λf h=>by cases h
theorem xQs {f:Fm}(h:f.size<=1000):fitL [f]:=λg A=>by obtain rfl:=List.mem_singleton.1 A;omega
theorem xGi {f g:Fm}(h:f.size<=1000)(A:g.size<=1000):fitL [f,g]:=λk hk=>by
 rcases List.mem_cons.1 hk with rfl|hk
 ·omega
 ·obtain rfl:=List.mem_singleton.1 hk;omega
theorem yJv {c:Prop} [Decidable c]{A B:List Sq}{P:Sq->Prop}(h1:∀s∈A,P s)(h2:∀s∈B,P s):∀s∈(if c then A else B),P s:=by split<;>assumption
def yGk (s:Sq):Prop:=yKm s/\s.l.length<=64/\s.r.length<=64
theorem xGx {ca rule:Nat}{main a b:Fm}(hm:main.size<=400)(ha:a.size<=400)(hb:b.size<=400):∀s∈addS ca rule main a b,yGk s:=by
 have hi:(impF a b).size<=1000:=by simp only[impF,Fm.size,yQa,yQ9];omega
 have W:(impF b a).size<=1000:=by simp only[impF,Fm.size,yQa,yQ9];omega
 have l1:=xQs (show main.size<=1000 by omega);have E:=xQs (show a.size<=1000 by omega);have G:=xQs (show b.size<=1000 by omega);have l4:=xGi (show a.size<=1000 by omega) (show b.size<=1000 by omega);have l5:=xGi hi W;have q0:∀s∈([]:List Sq),yGk s:=λs J=>by cases J
 have F:∀ {x:Sq},yGk x->∀s∈[x],yGk s:=λU s J=>by obtain rfl:=List.mem_singleton.1 J;exact U
 have O:∀ {x y:Sq},yGk x->yGk y->∀s∈[x,y],yGk s:=λU hy s J=>by
  rcases List.mem_cons.1 J with rfl|J
  ·exact U
  ·obtain rfl:=List.mem_singleton.1 J;exact hy
 have D:([]:List Fm).length<=64:=Nat.zero_le _;have A:∀f:Fm,[f].length<=64:=λ_=>by simp
 have c2:∀f g:Fm,[f,g].length<=64:=λ_ _=>by simp
 unfold addS;refine yJv (F ⟨⟨yXd,E⟩,D,A _⟩) (yJv (F ⟨⟨E,yXd⟩,A _,D⟩) (yJv (F ⟨⟨l4,yXd⟩,c2 _ _,D⟩) (yJv (O ⟨⟨yXd,E⟩,D,A _⟩ ⟨⟨yXd,G⟩,D,A _⟩) (yJv (O ⟨⟨E,yXd⟩,A _,D⟩ ⟨⟨G,yXd⟩,A _,D⟩)
  (yJv (yJv (F ⟨⟨yXd,E⟩,D,A _⟩) (F ⟨⟨yXd,l4⟩,D,c2 _ _⟩)) (yJv (O ⟨⟨yXd,E⟩,D,A _⟩ ⟨⟨G,yXd⟩,A _,D⟩) (yJv (F ⟨⟨E,G⟩,A _,A _⟩) (yJv (F ⟨⟨l5,yXd⟩,c2 _ _,D⟩) (yJv (O ⟨⟨E,G⟩,A _,A _⟩ ⟨⟨G,E⟩,A _,A _⟩)
  (yJv (F ⟨⟨E,yXd⟩,A _,D⟩) (yJv (F ⟨⟨yXd,E⟩,D,A _⟩) (yJv (F ⟨⟨E,yXd⟩,A _,D⟩) (yJv (F ⟨⟨yXd,E⟩,D,A _⟩) (yJv (O ⟨⟨yXd,l1⟩,D,A _⟩ ⟨⟨l1,yXd⟩,A _,D⟩) (yJv (F ⟨⟨yXd,G⟩,D,A _⟩) q0)))))))))))))))
theorem yUg:∀ {l:List Fm}{g:Fm},g∈l->g.size<=yQ9 l
 | a::l,g,h=>by
  simp only[yQ9];rcases List.mem_cons.1 h with rfl|h
  ·omega
  ·have:=yUg h;omega
theorem wYi {l:List Fm}{n:Nat}(h:yQ9 l<=n)(A:1<=n)(k:Nat):((l[k]?).getD fm0).size<=n:=by
 cases D:l[k]? with
 | none=>exact A
 | some a=>exact Nat.le_trans (yUg (lMg D)) h
theorem zX0 {ca rule:Nat}{r:Rw}{main:Fm}{term:Tm}{name:ByteArray}{ad:List Sq}(h:yZl ca rule r main term name=(ad,0)):∀s∈ad,yGk s:=by
 unfold yZl at h;by_cases hc:(!fmB ca main || (decide (r.op≠0)&&decide (main.op≠r.op)))=true
 ·rw[if_pos hc] at h;cases (Prod.mk.inj h).2
 ·rw[if_neg hc] at h;have E:fmB ca main=true:=by
   cases G:fmB ca main
   ·simp[G] at hc
   ·rfl
  have D:main.size<=400:=by
   unfold fmB at E;simp only[bAt] at E;exact (yK1 E.1).2.1
  have A:∀k,((main.subs[k]?).getD fm0).size<=400:=λk=>wYi (by
   obtain⟨o,n,us,sub⟩:=main;simp only[Fm.size] at D;show yQ9 sub<=400;omega) (by omega) k
  by_cases F:r.asks=0
  ·simp only[if_pos F] at h;rw[<- (Prod.mk.inj h).1];exact xGx D (A 0) (A 1)
  ·simp only[if_neg F] at h;generalize (if r.asks=2 then Tm.mk true name [] else term)=t at h;by_cases h1:(!t.ok)=true
   ·simp only[if_pos h1] at h;cases (Prod.mk.inj h).2
   ·simp only[if_neg h1] at h;by_cases h2:(yZf ((main.subs[0]?).getD fm0) [(main.nm,t)]).2≠0
    ·simp only[if_pos h2] at h;cases (Prod.mk.inj h).2
    ·simp only[if_neg h2] at h;rw[<- (Prod.mk.inj h).1];exact xGx D (yXe _ _) (A 1)
theorem yYr (s:Sq):∀(l E:List Sq) (D A:List Tr),l.length=D.length->yJ2 s (l++E) (D++A)=(yJ2 s l D&&yJ2 s E A)
 | [],E,[],A,_=>by simp[yJ2]
 | a::l,E,t::D,A,h=>by
  simp only[List.cons_append,yJ2,yYr s l E D A (by simpa using h),Bool.and_assoc]
 | [],_,_::_,_,h=>by simp at h
 | _::_,_,[],_,h=>by simp at h
theorem zW1 {l A:List Fm}(h:fitL l)(E:fitL A):fitL (l++A):=λf D=>(List.mem_append.1 D).elim (h f) (E f)
theorem vXg (G:Gl gl)(T:Gt gl)(ca rule:Nat)(s:Sq)(main:Fm)(term:Tm)(name:ByteArray)(sub:List Tr)(x:IV)(hx:IsTr (.mk rule s main term name sub) x)(hs:yKm s)(hm:main.size<=1000000)(ht:term.size<=1000000)
  (O:∀a∈sub,yKm a.sq) (st:ISt):ICall prog gl 73 [.raw (.int .u8 ca),.cptr x] st (λr st'=>r=.raw (.int .i64 (yZj ca (.mk rule s main term name sub)))/\st'=st):=by
 obtain⟨tl,xl,tr,xr,op,fn,ta,xa,tb,xb,v,un,tu,xu,ts,xs,rfl,bh,e1,i1,e2,i2,hy,hz,e3,i3⟩:=hx.mk;have F:=λst=>vKi gl G T ca s _ ⟨tl,xl,tr,xr,rfl,e1,i1,e2,i2⟩ hs rule main _ hy hm term _ hz ht name st;unfold yZj;refine ICall.intro (c:=cf prog gl [] [(9,[0,1,2,3,4,5,6,7,9,10,11,12,13,14,15,16,19,8,17,18,20])]) func73 rfl (by show _<=84;simp) (by kernel_rfl) ?_;simp only[go_sem,zE,zB,zA,zL,reduceCtorEq,fits];refine (F _).mono ?_;rintro _ st ⟨tg,ys,rfl,he,hys,rfl⟩;generalize hq:yZt ca s rule main term name=q at hys ⊢;obtain⟨ad,er⟩:=q;simp only at hys ⊢;by_cases h0:er=0
 ·subst h0;obtain⟨hv,r,hr⟩:=xKj hq;have U:=zX0 hr;simp only[go_sem,zE,show decide (((0:Nat):Int)=0)=true from rfl,i3.len,hys.len,fits];intro _ _;by_cases hl:sub.length=ad.length
  ·have dl:decide ((sub.length:Int)=(ad.length:Int))=true:=dEt (by omega);simp only[go_sem,zE,dl,hys.len];intro _;refine LoopC.ctr ad.length (λk fr st' ds=>yJ2 s (ad.take k) (sub.take k)=true/\fr 0=.iv (.raw (.int .u8 ca))/\fr 1=.iv (.cptr (.agg [.raw (.int .u8 rule),.sl tl xl,.sl tr xr,.raw (.int .u8 op),.raw (.string fn),.sl ta xa,.sl tb xb,.raw (.bool v),.raw (.string un),.sl tu xu,.raw (.string name),.sl ts xs]))/\fr 46=.iv (.sl tg ys)/\fr 47=.iv (.raw (.int .i64 ad.length))/\fr 48=.iv (.raw (.int .i64 k))/\st'=st/\ds=[]) ?_ ?_ ?_
   ·simp only[go_sem,zE,reduceCtorEq];simp[yJ2]
   ·rintro k fr ah _ E ⟨hn,f0,f1,f46,f47,f48,rfl,rfl⟩;obtain⟨a,ha⟩:=yQ3 E;obtain⟨w,an,W⟩:=hys.get ha;obtain⟨b,hb⟩:=yQ3 (l:=sub) (k:=k) (by omega);obtain⟨z,am,hz⟩:=i3.get hb;have D:=U a (lMg ha);have bf:s.l.length<=64/\s.r.length<=64:=by
     unfold yXl at hv;simp only[bAt,dTe] at hv;exact⟨hv.1.1.1.1.2,hv.1.1.1.2⟩
    obtain⟨t1,x1,t2,x2,rfl,k1,j1,k2,j2⟩:=W;have aq:=λst=>xU1 gl s.l a.l tl t1 ⟨true,.full,1⟩ xl x1 (.inr rfl) i1 j1 (by have:=D.2.1;omega) st;have ao:=λst=>xU1 gl s.r a.r tr t2 ⟨true,.full,1⟩ xr x2 (.inr rfl) i2 j2 (by have:=D.2.2;omega) st;have aj:=O b (lMg hb);obtain⟨br,bs,bm,bt,bn,ay⟩:=b;obtain⟨aU,aF,aT,aE,a1,bu,aY,aI,aW,aG,v',aM,aO,aA,aQ,aC,rfl,_,g1,m1,g2,m2,_⟩:=hz.mk;have A:(ad.take k).length=(sub.take k).length:=by rw[List.length_take,List.length_take];omega
    have al:yKm (s.plus a):=⟨zW1 hs.1 D.1.1,zW1 hs.2 D.1.2⟩
    simp only[go_sem,zE,zB,zA,zM,zL,f1,f46,f47,f48,lt_i E,yQ2 he,iNn,an,fits,yQ6];refine (aq _).mono ?_;rintro _ J ⟨t3,y1,rfl,g3,m3,rfl⟩;simp only[go_sem,zE,zA];refine (ao _).mono ?_;rintro _ J ⟨t4,y2,rfl,g4,m4,rfl⟩;simp only[go_sem,zE,zB,zA,zL,f1,yQ2 e3,iNn,am,fits];refine (zKf gl G bs (s.plus a) _ _ ⟨_,_,_,_,rfl,g1,m1,g2,m2⟩ ⟨_,_,_,_,rfl,g3,m3,g4,m4⟩ aj al _).mono ?_;rintro _ J ⟨rfl,rfl⟩;cases W:yXf bs (s.plus a)
    ·simp only[go_sem];refine yQ0 ⟨?_,rfl⟩;have hp:yJ2 s ad sub=false:=by
      conv=>lhs;rw[<- List.take_append_drop k ad,<- List.take_append_drop k sub]
      rw[List.drop_eq_getElem_cons E,List.drop_eq_getElem_cons (show k<sub.length by omega),yYr s _ _ _ _ A,(lGs ha).2,(lGs hb).2];simp only[yJ2,Tr.sq,W,Bool.false_and,Bool.and_false]
     rw[if_neg (by omega),if_neg (by omega),hp];rfl
    ·simp only[go_sem,zE,reduceCtorEq,f0,f1,f46,f47,f48,yQb E (show ad.length<=281474976710656 by omega)];rw[yQ4 ha,yQ4 hb,yYr s _ _ _ _ A,hn];simp only[yJ2,Tr.sq,W,Bool.true_and]
   ·rintro fr ah _ ⟨hn,f0,f1,f46,f47,f48,rfl,rfl⟩;rw[lTl,show sub.take ad.length=sub by rw[<- hl,lTl]] at hn;simp only[go_sem,f47,f48,yQj (nLi _)];refine yQ0 ⟨?_,rfl⟩;rw[if_neg (by omega),if_neg (by omega),hn];rfl
  ·have dl:decide ((sub.length:Int)=(ad.length:Int))=false:=dEf (by omega);simp only[go_sem,dl];refine yQ0 ⟨?_,rfl⟩;rw[if_neg (by omega),if_pos hl];rfl
 ·have d0:decide ((er:Int)=0)=false:=dEf (by omega);simp only[go_sem,zE,d0];refine yQ0 ⟨?_,rfl⟩;rw[if_pos h0]
def OIc (T:ISt)(cs ds:List IV):Prop:=cs.length=ds.length/\∀(i:Nat) (r c:IV),cs[i]?=some r->ds[i]?=some c->OI T r c
theorem OIc.nil (T:ISt):OIc T [] []:=⟨rfl,λi r c h=>by simp at h⟩
theorem OIc.cons {T:ISt}{r c:IV}{cs ds:List IV}(h:OI T r c)(k:OIc T cs ds):OIc T (r::cs) (c::ds) :=
 ⟨by simp[k.1],λi a b D A=>by
  cases i with
  | zero=>cases D;cases A;exact h
  | succ i=>exact k.2 i a b (by simpa using D) (by simpa using A)⟩
theorem OIc.append {T:ISt}{cs ds:List IV}:∀ {us A:List IV},OIc T us A->OIc T cs ds->OIc T (us++cs) (A++ds)
 | [],[],_,k=>k
 | [],_::_,h,_=>by cases h.1
 | _::_,[],h,_=>by cases h.1
 | a::us,b::A,h,k=>OIc.cons (h.2 0 a b rfl rfl) (OIc.append ⟨by have:=h.1;simpa using this,λi r c D hc=>h.2 (i+1) r c (by simpa using D) (by simpa using hc)⟩ k)
theorem OIc.front {T:ISt}{cs ds rest:List IV}(h:OIc T cs ds)(i:Nat)(r c:IV)(A:(cs++rest)[i]?=some r)(hc:ds[i]?=some c):OI T r c:=by
 have D:=(lGs hc).1;rw[List.getElem?_append_left (by rw[h.1];exact D)] at A;exact h.2 i r c A hc
theorem OIc.agg {T:ISt}{cs ds:List IV}(h:OIc T cs ds):OI T (.agg cs) (.agg ds):=.agg _ _ h.1 h.2
theorem zKk:∀ {l:List Tm}{D:List IV},IsTms l D->∀x∈D,x.cells.length=3
 | [],D,h,x,A=>by simp only[IsTms] at h;subst h;cases A
 | a::l,D,h,x,A=>by
  obtain⟨y,ys,rfl,E,h⟩:=h;rcases List.mem_cons.1 A with rfl|A
  ·obtain⟨_,_,_,_,rfl⟩:=E.agg;rfl
  ·exact zKk h x A
theorem _root_.Go.Iv.IsSq.aged {s:Sq}{x:IV}(h:IsSq s x):IsSq s (age x):=by
 obtain⟨t1,F,t2,E,rfl,D,i1,A,i2⟩:=h;exact⟨_,_,_,_,by simp only[age,ages],zZ9 D,i1.aged,zZ9 A,i2.aged⟩
mutual
theorem LTt.oi {T:ISt}:∀ {t:Tm} {c:List IV},LTt T t c->t.size<=1099511627776->∃x,IsTm t x/\OIc T c x.cells
 | .mk v n E,c,h,G=>by
  simp only[LTt] at h;obtain⟨a,cs,rfl,U,hc⟩:=h;simp only[Tm.size] at G;obtain⟨D,A,J⟩:=LTc.oi hc (by omega);have O:=A.len;have F:=yX0 E;refine⟨.agg [.raw (.bool v),.raw (.string n),.sl ⟨true,.app a,3⟩ D],⟨_,_,rfl,.inr rfl,A⟩,.cons (.refl _) (.cons (.refl _) (.cons ?_ (.nil _)))⟩;rw[<- O];exact .sl a _ _ D _ rfl (by omega) (by omega) (zKk A) U (by rw[lLa,hc.len,yYu];simp only;omega) (J.front (rest:=mksT 12))
theorem LTc.oi {T:ISt}:∀ {l:List Tm} {c:List IV},LTc T l c->yQa l<=1099511627776->∃A,IsTms l A/\OIc T c (A.flatMap IV.cells)
 | [],c,h,_=>by
  simp only[LTc] at h;subst h;exact⟨[],rfl,.nil _⟩
 | t::l,c,h,J=>by
  simp only[LTc] at h;obtain⟨a,b,rfl,h2,O⟩:=h;simp only[yQa] at J;obtain⟨x,G,F⟩:=LTt.oi h2 (by omega);obtain⟨A,E,D⟩:=LTc.oi O (by omega);exact⟨x::A,⟨x,A,rfl,G,E⟩,by rw[List.flatMap_cons];exact OIc.append F D⟩
end
mutual
theorem LFf.oi {T:ISt}:∀ {t:Fm} {c:List IV},LFf T t c->t.size<=1099511627776->∃x,IsFm t x/\OIc T c x.cells
 | .mk o n O sub,c,h,hs=>by
  simp only[LFf] at h;obtain⟨a,cs,b,ds,ho,rfl,hb,hc,hd,J⟩:=h;simp only[Fm.size] at hs;obtain⟨F,A,E⟩:=LTc.oi hc (by omega);obtain⟨ys,hys,D⟩:=LFc.oi J (by omega);have hl:=A.len;have hm:=hys.len;have W:=yX0 O;have G:=yQs sub;refine⟨.agg [.raw (.int .u8 o),.raw (.string n),.sl ⟨true,.app a,3⟩ F,.sl ⟨true,.app b,4⟩ ys],⟨_,_,_,_,rfl,ho,.inr rfl,A,.inr rfl,hys⟩,.cons (.refl _) (.cons (.refl _) (.cons ?_ (.cons ?_ (.nil _))))⟩
  ·rw[<- hl];exact .sl a _ _ F _ rfl (by omega) (by omega) (zKk A) hb (by rw[lLa,hc.len,yYu];simp only;omega) (E.front (rest:=mksT 12))
  ·rw[<- hm];exact .sl b _ _ ys _ rfl (by omega) (by omega) (λy U=>xVy (yXv hys y U)) hd (by rw[lLa,J.len,yYv];simp only;omega) (D.front (rest:=mksF 12))
theorem LFc.oi {T:ISt}:∀ {l:List Fm} {c:List IV},LFc T l c->yQ9 l<=1099511627776->∃A,IsFms l A/\OIc T c (A.flatMap IV.cells)
 | [],c,h,_=>by
  simp only[LFc] at h;subst h;exact⟨[],rfl,.nil _⟩
 | t::l,c,h,J=>by
  simp only[LFc] at h;obtain⟨a,b,rfl,h2,O⟩:=h;simp only[yQ9] at J;obtain⟨x,G,F⟩:=LFf.oi h2 (by omega);obtain⟨A,E,D⟩:=LFc.oi O (by omega);exact⟨x::A,⟨x,A,rfl,G,E⟩,by rw[List.flatMap_cons];exact OIc.append F D⟩
end
theorem LTt.agg {T:ISt}{t:Tm}{c:List IV}(h:LTt T t c)(D:t.size<=1099511627776):∃x,IsTm t x/\OI T (.agg c) x:=by
 obtain⟨x,A,E⟩:=h.oi D;obtain⟨_,_,_,_,rfl⟩:=A.agg;exact⟨_,A,E.agg⟩
theorem LFf.agg {T:ISt}{t:Fm}{c:List IV}(h:LFf T t c)(D:t.size<=1099511627776):∃x,IsFm t x/\OI T (.agg c) x:=by
 obtain⟨x,A,E⟩:=h.oi D;obtain⟨_,_,_,_,_,_,rfl⟩:=A.agg;exact⟨_,A,E.agg⟩
theorem LFc.sl {T:ISt}{l:List Fm}{c:List IV}{a:Nat}(h:LFc T l c)(O:T a=some (.box (c++mksF 12)))(G:yQ9 l<=1099511627776):∃D,IsFms l D/\OI T (.raw (.slice (some ⟨a,0,none⟩) l.length (l.length+12))) (.sl ⟨true,.app a,4⟩ D):=by
 obtain⟨ys,hys,A⟩:=h.oi G;have J:=hys.len;have E:=yQs l;refine⟨ys,hys,?_⟩;rw[<- J];exact .sl a _ _ ys _ rfl (by omega) (by omega) (λy F=>xVy (yXv hys y F)) O (by rw[lLa,h.len,yYv];simp only;omega) (A.front (rest:=mksF 12))
theorem LSq.oi {T:ISt}{s:Sq}{x:IV}(h:LSq T s x)(J:yQ9 s.l<=1099511627776)(F:yQ9 s.r<=1099511627776):∃y,IsSq s y/\OI T x y:=by
 obtain⟨a,cs,b,ds,rfl,h2,W,U,O⟩:=h;obtain⟨E,A,G⟩:=W.sl h2 J;obtain⟨ys,hys,D⟩:=O.sl U F;exact⟨.agg [.sl ⟨true,.app a,4⟩ E,.sl ⟨true,.app b,4⟩ ys],⟨_,_,_,_,rfl,.inr rfl,A,.inr rfl,hys⟩,(OIc.cons G (.cons D (.nil _))).agg⟩
def tmPF:FuncId->List IV->Option IV
 | g,[.raw (.int .i64 k),.raw (.int .i64 i)]=>if g=147/\0<=k/\0<=i then some (.agg (mkC k.toNat i.toNat)) else none
 | _,_=>none
def fmPF:FuncId->List IV->Option IV
 | g,[.raw (.int .i64 k),.raw (.int .i64 i)]=>if g=138/\0<=k/\0<=i then some (.agg (mkD k.toNat i.toNat)) else none
 | _,_=>none
theorem vQd:∀g us v,tmPF g us=some v->entI prog g=true/\∀st,ICall prog gl g us st (λr st'=>r=v/\st'=st):=by
 intro g us v h;unfold tmPF at h;split at h
 ·rename_i k i;split at h
  ·rename_i hc;obtain⟨rfl,A,D⟩:=hc;cases h;refine⟨by simp only[go_sem],λst=>?_⟩;have:=zXg gl k.toNat i.toNat st
   rwa [Int.toNat_of_nonneg A,Int.toNat_of_nonneg D] at this
  ·cases h
 ·cases h
theorem vX1:∀g us v,fmPF g us=some v->entI prog g=true/\∀st,ICall prog gl g us st (λr st'=>r=v/\st'=st):=by
 intro g us v h;unfold fmPF at h;split at h
 ·rename_i k i;split at h
  ·rename_i hc;obtain⟨rfl,A,D⟩:=hc;cases h;refine⟨by simp only[go_sem],λst=>?_⟩;have:=yUk gl k.toNat i.toNat st
   rwa [Int.toNat_of_nonneg A,Int.toNat_of_nonneg D] at this
  ·cases h
 ·cases h
theorem vKd (j:Nat):tmPF 147 [.raw (.int .i64 1),.raw (.int .i64 (j:Int))]=some (.agg (mkC 1 j)):=by simp[tmPF]
theorem vW1 (j:Nat):fmPF 138 [.raw (.int .i64 1),.raw (.int .i64 (j:Int))]=some (.agg (mkD 1 j)):=by simp[fmPF]
theorem LTc.get {T:ISt}:∀ {l:List Tm} {cs rest:List IV} {k:Nat} {t:Tm},LTc T l cs->l[k]?=some t->∃c,LTt T t c/\k*3+3<=(cs++rest).length/\((cs++rest).drop (k*3)).take 3=c
 | [],_,_,k,_,_,h=>by simp at h
 | a::l,cs,rest,0,t,h,A=>by
  simp only[LTc] at h;obtain⟨c,d,rfl,h2,G⟩:=h;cases A;refine⟨c,h2,by simp only[lLa,h2.len];omega,?_⟩;rw[Nat.zero_mul,List.drop_zero,List.append_assoc,List.take_left' h2.len]
 | a::l,cs,rest,k+1,t,h,A=>by
  simp only[LTc] at h;obtain⟨c,d,rfl,h2,G⟩:=h;obtain⟨e,F,E,D⟩:=LTc.get (rest:=rest) G (by simpa using A);have hc:=h2.len;refine⟨e,F,by simp only[lLa] at E ⊢;omega,?_⟩;rw[List.append_assoc,show (k+1)*3=c.length+k*3 by omega,<- List.drop_drop,List.drop_left];exact D
theorem LFc.get {T:ISt}:∀ {l:List Fm} {cs rest:List IV} {k:Nat} {t:Fm},LFc T l cs->l[k]?=some t->∃c,LFf T t c/\k*4+4<=(cs++rest).length/\((cs++rest).drop (k*4)).take 4=c
 | [],_,_,k,_,_,h=>by simp at h
 | a::l,cs,rest,0,t,h,A=>by
  simp only[LFc] at h;obtain⟨c,d,rfl,h2,G⟩:=h;cases A;refine⟨c,h2,by simp only[lLa,h2.len];omega,?_⟩;rw[Nat.zero_mul,List.drop_zero,List.append_assoc,List.take_left' h2.len]
 | a::l,cs,rest,k+1,t,h,A=>by
  simp only[LFc] at h;obtain⟨c,d,rfl,h2,G⟩:=h;obtain⟨e,F,E,D⟩:=LFc.get (rest:=rest) G (by simpa using A);have hc:=h2.len;refine⟨e,F,by simp only[lLa] at E ⊢;omega,?_⟩;rw[List.append_assoc,show (k+1)*4=c.length+k*4 by omega,<- List.drop_drop,List.drop_left];exact D
theorem xYq:∀ {m j:Nat},j<m->((mksT m).drop (j*3)).take 3=mkC 1 j
 | m+1,j,h=>by
  simp only[mksT];by_cases A:j=m
  ·subst A;rw[List.drop_left' (yYu j)];rfl
  ·have:=xYq (show j<m by omega);have D:=yYu m;rw[List.drop_append_of_le_length (by omega),List.take_append_of_le_length (by rw[List.length_drop];omega)];exact this
theorem xYr:∀ {m j:Nat},j<m->((mksF m).drop (j*4)).take 4=mkD 1 j
 | m+1,j,h=>by
  simp only[mksF];by_cases A:j=m
  ·subst A;rw[List.drop_left' (yYv j)];rfl
  ·have:=xYr (show j<m by omega);have D:=yYv m;rw[List.drop_append_of_le_length (by omega),List.take_append_of_le_length (by rw[List.length_drop];omega)];exact this
theorem vZk (k j:Nat):IsTm (.mk false (mkT k j) []) (.agg (mkC k j)):=⟨_,_,rfl,.inl rfl,rfl⟩
theorem vZl (k j:Nat):IsFm (.mk 0 (mkT k j) [] []) (.agg (mkD k j)):=⟨_,_,_,_,rfl,by omega,.inl rfl,rfl,.inl rfl,rfl⟩
theorem wJh {st:ISt}(h:flatSt st):∀b o,st b=some o->(∃cs,o=.box cs)\/wKc o:=λb o A=>.inr (h b o A)
theorem vVj {st:ISt}{x A y:IV}(D:OI st x A):Lents st [x,y] [age A,y]:=⟨_,_,rfl,.inr ⟨A,D,rfl⟩,_,_,rfl,.inl rfl,rfl⟩
theorem xQe {f:FuncId}{x A y:IV}{b:Bool}{st T:ISt}(E:flatSt st)(F:subSt T st)(D:OI T x A)(h:∀st,ICall prog gl f [age A,y] st (λr st'=>r=.raw (.bool b)/\st'=st)) :
  ICall prog gl f [x,y] st (λr st'=>r=.raw (.bool b)/\st'=st) :=
 (ICall.lent (K:=λr=>r=.raw (.bool b)) (wJh E) (vVj (D.mono λ_ _ h=>F _ _ h)) ((h (yY2 st)).mono λr st' k=>⟨k.2,by rw[k.1];trivial,k.1⟩)).mono λr st' k=>⟨k.2,k.1⟩
def KTP (us:List Tm):Prop:=∀(D:Tag) (A:List IV) (_:okEs D 3) (_:IsTms us A) (_:yQa us<=1099511627776) (a:Nat) (cs:List IV) (st:ISt) (_:flatSt st) (_:st a=some (.box (cs++mksT 12))) (_:LTc st us cs),
 ICall prog gl 110 [.raw (.slice (some ⟨a,0,none⟩) us.length (us.length+12)),.sl D A] st (λr st'=>r=.raw (.bool true)/\st'=st)
def KFP (us:List Fm):Prop:=∀(D:Tag) (A:List IV) (_:okEs D 4) (_:IsFms us A) (_:yQ9 us<=1099511627776) (a:Nat) (cs:List IV) (st:ISt) (_:flatSt st) (_:st a=some (.box (cs++mksF 12))) (_:LFc st us cs),
 ICall prog gl 104 [.raw (.slice (some ⟨a,0,none⟩) us.length (us.length+12)),.sl D A] st (λr st'=>r=.raw (.bool true)/\st'=st)
theorem zX4 (v:Bool)(n:ByteArray)(us:List Tm)(IH:KTP gl us)(x:IV)(E:IsTm (.mk v n us) x)(F:(Tm.mk v n us).size<=1099511627776)(c:List IV)(st:ISt)(G:flatSt st)(hc:LTt st (.mk v n us) c) :
  ICall prog gl 63 [.agg c,x] st (λr st'=>r=.raw (.bool true)/\st'=st):=by
 obtain⟨y,O,U⟩:=hc.agg F;have h1:=xQe gl G (subSt.refl _) U (λst=>zQn gl _ _ _ _ O.aged E st);rw[yQm.2 rfl] at h1;simp only[LTt] at hc;obtain⟨a,cs,rfl,W,hc⟩:=hc;obtain⟨J,cx,rfl,A,D⟩:=E.mk;simp only[Tm.size] at F;have h2:=IH J cx A D (by omega) a cs st G W hc;refine iI func63 ?_;simp only[go_sem,zE,zA,zL];refine h1.mono ?_;rintro _ st ⟨rfl,rfl⟩;simp only[go_sem,zE,zA];refine h2.mono ?_;rintro _ st ⟨rfl,rfl⟩;simp only[go_sem,zE];exact yQ0 ⟨rfl,rfl⟩
theorem wUe (k j:Nat):IsTm (.mk false (mkT k j) []) (.agg (mkC k j)):=vZk k j
theorem wUd (k j:Nat):IsFm (.mk 0 (mkT k j) [] []) (.agg (mkD k j)):=vZl k j
theorem zYj (us:List Tm)(IH:∀v n l,Tm.mk v n l∈us->KTP gl l):KTP gl us:=by
 intro tg xs ab D aq a cs st hf hb hc;have ah:=yX0 us;have step:∀t∈us,∀(x:IV) (_:IsTm t x) (_:t.size<=1099511627776) (c:List IV) (_:LTt st t c),ICall prog gl 63 [.agg c,x] st (λr st'=>r=.raw (.bool true)/\st'=st):=λt U x hx hs c hc=>by
  obtain⟨v,n,l⟩:=t;exact zX4 gl v n l (IH _ _ _ U) x hx hs c st hf hc
 have af:(cs++mksT 12).length=(us.length+12)*3:=by rw[lLa,hc.len,yYu];omega
 have aa:IntKind.i64.wrap ((us.length:Int)+12)=((us.length+12:Nat):Int):=by rw[w64]<;>omega
 refine ICall.intro (c:=cfp prog gl [31,48,1000147] [] tmPF (vQd gl)) func110 rfl (by show _<=58;simp) (by kernel_rfl) ?_;simp only[go_sem,zE,reduceCtorEq,D.len,decide_true];intro _;simp only[go_sem,reduceCtorEq,aa,Nat.le_add_right,yK9 (Nat.le_refl (us.length+12)),Nat.zero_mul];intro _;refine LoopC.ctr (us.length+12) (λk fr st' ds=>fr 0=.iv (.raw (.slice (some ⟨a,0,none⟩) us.length (us.length+12)))/\fr 1=.iv (.sl tg xs)/\fr 5=.iv (.raw (.slice (some ⟨a,0,none⟩) (us.length+12) (us.length+12)))/\fr 6=.iv (.raw (.int .i64 k))/\st'=st/\ds=[]) ?_ ?_ ?_
 ·simp only[go_sem,zE,reduceCtorEq]
  first|rfl|exact⟨rfl,rfl⟩
 ·rintro k fr st _ A ⟨f0,f1,f5,f6,rfl,rfl⟩;by_cases hk:k<us.length
  ·obtain⟨t,U⟩:=yQ3 hk;obtain⟨y,ac,hy⟩:=D.get U;obtain⟨c,ae,J,G⟩:=hc.get (rest:=mksT 12) U;obtain⟨h1,h2⟩:=yZg U;have O:=step t (lMg U) y hy (by omega) c ae;have F:decide (((us.length:Nat):Int)<=(k:Nat))=false:=dEf (by omega);obtain⟨v5,n5,t5,x5,rfl⟩:=hy.agg;simp only[go_sem,zE,zB,zA,f1,f5,f6,lt_i A,lt_i hk,D.len,yQ2 ab,iNn,ac,hb,J,G,fits,A];refine O.mono ?_;rintro _ st ⟨rfl,rfl⟩;simp only[go_sem,zE,reduceCtorEq,f0,f1,f5,f6,D.len,F,yQb A (show us.length+12<=281474976710656 by omega)]
  ·obtain⟨j,hj⟩:∃j,k=us.length+j:=⟨k-us.length,by omega⟩
   have W:decide (((k:Nat):Int)<us.length)=false:=dEf (by omega);have F:decide (((us.length:Nat):Int)<=(k:Nat))=true:=dEt (by omega);have hw:IntKind.i64.wrap (((k:Nat):Int)-us.length)=((j:Nat):Int):=by rw[w64]<;>omega
   have J:k*3+3<=(cs++mksT 12).length:=by rw[af];omega
   have G:((cs++mksT 12).drop (k*3)).take 3=mkC 1 j:=by
    have ax:cs.length=us.length*3:=hc.len;rw[show k*3=cs.length+j*3 by omega,<- List.drop_drop,List.drop_left];exact xYq (by omega)
   have E:=zQn gl _ _ _ _ (wUe 1 j) (wUe 1 j) st;rw[yQm.2 rfl] at E;have ak:(mkC 1 j).all IV.one=true:=rfl;have av:(mkC 1 j).length=3:=rfl;simp only[go_sem,zE,zB,zA,f1,f5,f6,lt_i A,W,F,D.len,iNn,hb,J,G,fits,A,hw,vKd];intros;refine E.mono ?_;rintro _ st ⟨rfl,rfl⟩;simp only[go_sem,zE,reduceCtorEq,f0,f1,f5,f6,yQb A (show us.length+12<=281474976710656 by omega)]
 ·rintro fr st _ ⟨f0,f1,f5,f6,rfl,rfl⟩;simp only[go_sem,zE,f5,f6,yQj (nLi _)];exact yQ0 ⟨rfl,rfl⟩
theorem zX3:∀(k:Nat)(us:List Tm),SizeOf.sizeOf us<k->KTP gl us
 | 0,f,h=>by omega
 | k+1,us,h=>zYj gl us (λv n l A=>zX3 k l (by
   have:=lSm A;simp at this;omega))
theorem zWu (us:List Tm):KTP gl us:=zX3 gl _ us (Nat.lt_succ_self _)
theorem wZ2 (t:Tm)(x:IV)(A:IsTm t x)(D:t.size<=1099511627776)(c:List IV)(st:ISt)(E:flatSt st)(hc:LTt st t c) :
  ICall prog gl 63 [.agg c,x] st (λr st'=>r=.raw (.bool true)/\st'=st):=by
 obtain⟨v,n,us⟩:=t;exact zX4 gl v n us (zWu gl us) x A D c st E hc
def KFf (t:Fm):Prop:=∀(x:IV) (_:IsFm t x) (_:t.size<=1099511627776) (c:List IV) (st:ISt) (_:flatSt st) (_:LFf st t c),
 ICall prog gl 62 [.agg c,x] st (λr st'=>r=.raw (.bool true)/\st'=st)
theorem zQ9 (us:List Fm)(IH:∀a∈us,KFf gl a):KFP gl us:=by
 intro tg xs ab D ao a cs st hf hb hc;have ah:=yQs us;have af:(cs++mksF 12).length=(us.length+12)*4:=by rw[lLa,hc.len,yYv];omega
 have aa:IntKind.i64.wrap ((us.length:Int)+12)=((us.length+12:Nat):Int):=by rw[w64]<;>omega
 refine ICall.intro (c:=cfp prog gl [31,48,1000138] [] fmPF (vX1 gl)) func104 rfl (by show _<=58;simp) (by kernel_rfl) ?_;simp only[go_sem,zE,reduceCtorEq,D.len,decide_true];intro _;simp only[go_sem,reduceCtorEq,aa,Nat.le_add_right,yK9 (Nat.le_refl (us.length+12)),Nat.zero_mul];intro _;refine LoopC.ctr (us.length+12) (λk fr st' ds=>fr 0=.iv (.raw (.slice (some ⟨a,0,none⟩) us.length (us.length+12)))/\fr 1=.iv (.sl tg xs)/\fr 5=.iv (.raw (.slice (some ⟨a,0,none⟩) (us.length+12) (us.length+12)))/\fr 6=.iv (.raw (.int .i64 k))/\st'=st/\ds=[]) ?_ ?_ ?_
 ·simp only[go_sem,zE,reduceCtorEq]
  first|rfl|exact⟨rfl,rfl⟩
 ·rintro k fr st _ A ⟨f0,f1,f5,f6,rfl,rfl⟩;by_cases hk:k<us.length
  ·obtain⟨t,W⟩:=yQ3 hk;obtain⟨y,ac,hy⟩:=D.get W;obtain⟨c,ae,J,G⟩:=hc.get (rest:=mksF 12) W;obtain⟨h1,h2⟩:=yQq W;have O:=IH t (lMg W) y hy (by omega) c st hf ae;have F:decide (((us.length:Nat):Int)<=(k:Nat))=false:=dEf (by omega);obtain⟨v5,n5,t5,x5,t6,x6,rfl⟩:=hy.agg;simp only[go_sem,zE,zB,zA,f1,f5,f6,lt_i A,lt_i hk,D.len,yQ2 ab,iNn,ac,hb,J,G,fits,A];refine O.mono ?_;rintro _ st ⟨rfl,rfl⟩;simp only[go_sem,zE,reduceCtorEq,f0,f1,f5,f6,D.len,F,yQb A (show us.length+12<=281474976710656 by omega)]
  ·obtain⟨j,hj⟩:∃j,k=us.length+j:=⟨k-us.length,by omega⟩
   have U:decide (((k:Nat):Int)<us.length)=false:=dEf (by omega);have F:decide (((us.length:Nat):Int)<=(k:Nat))=true:=dEt (by omega);have hw:IntKind.i64.wrap (((k:Nat):Int)-us.length)=((j:Nat):Int):=by rw[w64]<;>omega
   have J:k*4+4<=(cs++mksF 12).length:=by rw[af];omega
   have G:((cs++mksF 12).drop (k*4)).take 4=mkD 1 j:=by
    have av:cs.length=us.length*4:=hc.len;rw[show k*4=cs.length+j*4 by omega,<- List.drop_drop,List.drop_left];exact xYr (by omega)
   have E:=yYy gl _ _ _ _ (wUd 1 j) (wUd 1 j) st;rw[yQm.2 rfl] at E;have ak:(mkD 1 j).all IV.one=true:=rfl;have aq:(mkD 1 j).length=4:=rfl;simp only[go_sem,zE,zB,zA,f1,f5,f6,lt_i A,U,F,D.len,iNn,hb,J,G,fits,A,hw,vW1];intros;refine E.mono ?_;rintro _ st ⟨rfl,rfl⟩;simp only[go_sem,zE,reduceCtorEq,f0,f1,f5,f6,yQb A (show us.length+12<=281474976710656 by omega)]
 ·rintro fr st _ ⟨f0,f1,f5,f6,rfl,rfl⟩;simp only[go_sem,zE,f5,f6,yQj (nLi _)];exact yQ0 ⟨rfl,rfl⟩
theorem xZ6 (op:Nat)(n:ByteArray)(us:List Tm)(sub:List Fm)(IH:∀a∈sub,KFf gl a):KFf gl (.mk op n us sub):=by
 intro x J O c st E hc;obtain⟨y,hy,ho⟩:=hc.agg O;have h1:=xQe gl E (subSt.refl _) ho (λst=>yYy gl _ _ _ _ hy.aged J st);rw[yQm.2 rfl] at h1;simp only[LFf] at hc;obtain⟨a,cs,b,ds,_,rfl,hb,hc,hd,he⟩:=hc;obtain⟨W,cx,U,cy,rfl,_,D,G,A,F⟩:=J.mk;simp only[Fm.size] at O;have h2:=zWu gl us W cx D G (by omega) a cs st E hb hc;have h3:=zQ9 gl sub IH U cy A F (by omega) b ds st E hd he;refine iI func62 ?_;simp only[go_sem,zE,zA,zL];refine h1.mono ?_;rintro _ st ⟨rfl,rfl⟩;simp only[go_sem,zE,zA];refine h2.mono ?_;rintro _ st ⟨rfl,rfl⟩;simp only[go_sem,zE,zA];refine h3.mono ?_;rintro _ st ⟨rfl,rfl⟩;simp only[go_sem,zE];exact yQ0 ⟨rfl,rfl⟩
theorem zJp:∀(k:Nat)(a:Fm),SizeOf.sizeOf a<k->KFf gl a
 | 0,f,h=>by omega
 | k+1,.mk o n us sub,h=>xZ6 gl o n us sub (λa A=>zJp k a (by
   have:=lSm A;simp at h;omega))
theorem zU3 (a:Fm):KFf gl a:=zJp gl _ a (Nat.lt_succ_self _)
theorem zWw (us:List Fm):KFP gl us:=zQ9 gl us (λa _=>zU3 gl a)
theorem zWv (s:Sq)(x y:IV)(D:IsSq s x)(F:yQ9 s.l<=1099511627776)(E:yQ9 s.r<=1099511627776)(st:ISt)(A:flatSt st)(hc:LSq st s y) :
  ICall prog gl 55 [y,x] st (λr st'=>r=.raw (.bool true)/\st'=st):=by
 obtain⟨z,O,U⟩:=hc.oi F E;have h1:=xQe gl A (subSt.refl _) U (λst=>yW2 gl _ _ _ _ (IsSq.aged O) D st);rw[yQm.2 rfl] at h1;obtain⟨a,cs,b,ds,rfl,hb,hc,hd,W⟩:=hc;obtain⟨t1,J,t2,G,rfl,e1,i1,e2,i2⟩:=D;have h2:=zWw gl s.l t1 J e1 i1 F a cs st A hb hc;have h3:=zWw gl s.r t2 G e2 i2 E b ds st A hd W;refine iI func55 ?_;simp only[go_sem,zE,zA,zL];refine h1.mono ?_;rintro _ st ⟨rfl,rfl⟩;simp only[go_sem,zE,zA];refine h2.mono ?_;rintro _ st ⟨rfl,rfl⟩;simp only[go_sem,zE,zA];refine h3.mono ?_;rintro _ st ⟨rfl,rfl⟩;simp only[go_sem,zE];exact yQ0 ⟨rfl,rfl⟩
