/- Walks: the rows of a calculus; what a ru -/
import Derived.Test.YtclkffdkahljeaaGreatDoorQA
import Derived.Test.YtclkffdkahljeaaGreatDoorKD
import Derived.Shelf.SlSortCmp.NoneTotal
set_option linter.all false
open Nat renaming reduceEqDiff → zE,reduceBEq → zB,reduceAdd → zA,reduceMul → zM,reduceSub → zS,reduceLeDiff → zL
namespace Go.Proofs.Tryz
open Go Go.Iv
set_option maxRecDepth 4000
variable (gl:Nat->Option IV)
theorem yY2 (a b:Int)(v:IV):∀es:List (Value×IV),yXr (.int .u8 a) (updI (.int .u8 b) v es)=if a=b then some v else yXr (.int .u8 a) es
 | []=>by
  simp only[updI,yXr,yKa];by_cases h:a=b<;>simp[h]
 | (x,u)::es=>by
  simp only[updI];by_cases hk:yKa (.int .u8 b) x=true
  ·rw[if_pos hk];have hx:∀c,yKa (.int .u8 c) x=decide (c=b):=λc=>by
    cases x<;>simp[yKa] at hk ⊢;rw[hk]
   have e:yKa (.int .u8 a) (.int .u8 b)=decide (a=b):=rfl;simp only[yXr,e,hx];by_cases h:a=b<;>simp[h]
  ·rw[if_neg hk];simp only[yXr];rw[yY2 a b v es];by_cases h:a=b
   ·subst h;simp[hk]
   ·simp[h]
def zJf (ca rule:Nat):Nat :=
 if ca=2/\rule=18 then 169 else if ca=2/\rule=8 then 167
 else if rule=13\/rule=15 then 170 else if rule=14\/rule=16 then 172
 else if rule=1 then 208 else if rule=2 then 209 else if rule=3 then 210 else if rule=4 then 211
 else if rule=5 then 212 else if rule=6 then 213 else if rule=7 then 214 else if rule=8 then 215
 else if rule=9 then 216 else if rule=10 then 217 else if rule=11 then 219 else if rule=12 then 221
 else 222
def rwI (ca rule:Nat)(r:Rw):IV:=.agg [.raw (.bool r.left),.raw (.bool r.right),.raw (.int .u8 r.op),.raw (.int .u8 r.asks),.fn (.func (zJf ca rule)) [] []]
def rwL (a b:Bool)(op asks id:Nat):IV:=.agg [.raw (.bool a),.raw (.bool b),.raw (.int .u8 op),.raw (.int .u8 asks),.fn (.func id) [] []]
def zJv:List (Value×IV) :=
 updI (.int .u8 17) (rwL false false 0 0 222) <| updI (.int .u8 12) (rwL false true 7 0 221) <| updI (.int .u8 11) (rwL true false 7 0 219) <|
 updI (.int .u8 10) (rwL false true 6 0 217) <| updI (.int .u8 9) (rwL true false 6 0 216) <| updI (.int .u8 8) (rwL false true 5 0 215) <|
 updI (.int .u8 7) (rwL true false 5 0 214) <| updI (.int .u8 6) (rwL false true 4 0 213) <| updI (.int .u8 5) (rwL true false 4 0 212) <|
 updI (.int .u8 4) (rwL false true 3 0 211) <| updI (.int .u8 3) (rwL true false 3 0 210) <| updI (.int .u8 2) (rwL true false 2 0 209) <|
 updI (.int .u8 1) (rwL true true 0 0 208) []
def yGe (ca:Nat):List (Value×IV) :=
 if ca=2 then updI (.int .u8 18) (rwL false true 5 0 169) <| updI (.int .u8 8) (rwL false true 5 0 167) zJv
 else if ca=3 then updI (.int .u8 16) (rwL false true 9 1 172) <| updI (.int .u8 15) (rwL true false 9 2 170) <| updI (.int .u8 14) (rwL false true 8 2 172) <|
  updI (.int .u8 13) (rwL true false 8 1 170) zJv
 else zJv
theorem wKt (st:ISt):ICall prog gl 166 [] st (λr st'=>∃b,st b=none/\r=.raw (.map (some b))/\st'=st.put b (some (.map (.int .u8) zJv))):=by
 refine iI func166 ?_;simp only[go_sem,zE,zA,zL,fits];refine λb=>yQ9 λhb=>?_;simp only[go_sem,yQ8];exact yQ0 ⟨b,hb,rfl,rfl⟩
theorem wKl (ca:Nat)(st:ISt):ICall prog gl 127 [.raw (.int .u8 ca)] st (λr st'=>∃b,st b=none/\r=.raw (.map (some b))/\st'=st.put b (some (.map (.int .u8) (yGe ca)))):=by
 refine iI func127 ?_;simp only[go_sem,zA];refine (wKt gl _).mono ?_;rintro _ _ ⟨b,hb,rfl,rfl⟩;by_cases h2:ca=2
 ·have e2:decide ((ca:Int)=2)=true:=dEt (by omega);simp only[go_sem,zE,zA,zL,reduceCtorEq,e2,fits,ISt.put_same,yQ8];exact yQ0 ⟨b,hb,rfl,by rw[yGe,if_pos h2];rfl⟩
 ·have e2:decide ((ca:Int)=2)=false:=dEf (by omega);by_cases h3:ca=3
  ·have e3:decide ((ca:Int)=3)=true:=dEt (by omega);simp only[go_sem,zE,zA,zL,reduceCtorEq,e2,e3,fits,ISt.put_same,yQ8];exact yQ0 ⟨b,hb,rfl,by rw[yGe,if_neg h2,if_pos h3];rfl⟩
  ·have e3:decide ((ca:Int)=3)=false:=dEf (by omega);simp only[go_sem,zE,reduceCtorEq,e2,e3];exact yQ0 ⟨b,hb,rfl,by rw[yGe,if_neg h2,if_neg h3]⟩
theorem zUu (rule:Nat):yXr (.int .u8 rule) zJv=(rowK rule).map λr=>.agg [.raw (.bool r.left),.raw (.bool r.right),.raw (.int .u8 r.op),.raw (.int .u8 r.asks),.fn (.func (zJf 1 rule)) [] []]:=by
 unfold zJv;simp only[yY2];by_cases h:rule<=18
 ·rcases (show rule=0\/rule=1\/rule=2\/rule=3\/rule=4\/rule=5\/rule=6\/rule=7\/rule=8\/rule=9\/rule=10\/rule=11\/rule=12\/rule=13\/rule=14\/rule=15\/rule=16\/rule=17\/rule=18 by omega) with
   rfl|rfl|rfl|rfl|rfl|rfl|rfl|rfl|rfl|rfl|rfl|rfl|rfl|rfl|rfl|rfl|rfl|rfl|rfl<;>rfl
 ·have hn:rowK rule=none:=by unfold rowK;repeat (rw[if_neg (by omega)])
  rw[hn]
  repeat (rw[if_neg (by omega)])
  rfl
theorem zZn (ca rule:Nat):yXr (.int .u8 rule) (yGe ca)=(rowS ca rule).map (rwI ca rule):=by
 have hp:=zUu rule;by_cases h:rule<=18
 ·have hr:rule=0\/rule=1\/rule=2\/rule=3\/rule=4\/rule=5\/rule=6\/rule=7\/rule=8\/rule=9\/rule=10\/rule=11\/rule=12\/rule=13\/rule=14\/rule=15\/rule=16\/rule=17\/rule=18:=by omega
  by_cases h2:ca=2
  ·subst h2;simp only[yGe,if_true,yY2,hp];rcases hr with rfl|rfl|rfl|rfl|rfl|rfl|rfl|rfl|rfl|rfl|rfl|rfl|rfl|rfl|rfl|rfl|rfl|rfl|rfl<;>rfl
  ·by_cases h3:ca=3
   ·subst h3;simp only[yGe,if_true,if_neg h2,yY2,hp];rcases hr with rfl|rfl|rfl|rfl|rfl|rfl|rfl|rfl|rfl|rfl|rfl|rfl|rfl|rfl|rfl|rfl|rfl|rfl|rfl<;>rfl
   ·have hk:rowS ca rule=rowK rule:=by
     unfold rowS;rw[if_neg (by omega),if_neg (by omega),if_neg (by omega),if_neg (by omega),if_neg (by omega)]
    have hi:∀r,rowK rule=some r->zJf 1 rule=zJf ca rule:=λ_ _=>by
     unfold zJf;rw[if_neg (by omega),if_neg (by omega)]
     conv=>rhs;rw[if_neg (by omega),if_neg (by omega)]
    simp only[yGe,if_neg h2,if_neg h3,hp,hk];cases hq:rowK rule with
    | none=>rfl
    | some r=>simp only[Option.map_some,rwI,hi r hq]
 ·have hn:rowS ca rule=none:=by
   unfold rowS;rw[if_neg (by omega),if_neg (by omega),if_neg (by omega),if_neg (by omega),if_neg (by omega)];unfold rowK;repeat (rw[if_neg (by omega)])
  have hk:rowK rule=none:=by unfold rowK;repeat (rw[if_neg (by omega)])
  rw[hk] at hp;rw[hn];unfold yGe;split
  ·simp only[yY2,hp];repeat (rw[if_neg (by omega)])
   rfl
  ·split
   ·simp only[yY2,hp];repeat (rw[if_neg (by omega)])
    rfl
   ·rw[hp];rfl
theorem wXa {ca rule:Nat}{r:Rw}(h:rowS ca rule=some r):yVw gl (zJf ca rule) (addS ca rule)/\entI prog (zJf ca rule)=true:=by
 have hr:rule<=18:=by
  refine Classical.byContradiction λhc=>?_;have hn:rowS ca rule=none:=by
   unfold rowS;rw[if_neg (by omega),if_neg (by omega),if_neg (by omega),if_neg (by omega),if_neg (by omega)];unfold rowK;repeat (rw[if_neg (by omega)])
  rw[hn] at h;cases h
 have hcas:rule=0\/rule=1\/rule=2\/rule=3\/rule=4\/rule=5\/rule=6\/rule=7\/rule=8\/rule=9\/rule=10\/rule=11\/rule=12\/rule=13\/rule=14\/rule=15\/rule=16\/rule=17\/rule=18:=by omega
 by_cases h2:ca=2
 ·subst h2;rcases hcas with rfl|rfl|rfl|rfl|rfl|rfl|rfl|rfl|rfl|rfl|rfl|rfl|rfl|rfl|rfl|rfl|rfl|rfl|rfl
  all_goals first|(cases h;done)|exact⟨xUx gl,by kernel_rfl⟩|exact⟨xUw gl,by kernel_rfl⟩|exact⟨xUv gl,by kernel_rfl⟩|exact⟨xUu gl,by kernel_rfl⟩|exact⟨xUt gl,by kernel_rfl⟩|exact⟨xUs gl,by kernel_rfl⟩|exact⟨xUr gl,by kernel_rfl⟩|exact⟨xUq gl,by kernel_rfl⟩|exact⟨xZ4 gl,by kernel_rfl⟩|exact⟨xUp gl,by kernel_rfl⟩|exact⟨xZ9 gl,by kernel_rfl⟩|exact⟨xZ8 gl,by kernel_rfl⟩|exact⟨xZ7 gl,by kernel_rfl⟩|exact⟨xZ6 gl,by kernel_rfl⟩|exact⟨xZ5 gl,by kernel_rfl⟩|exact⟨xUo gl,by kernel_rfl⟩|exact⟨xUn gl,by kernel_rfl⟩
 ·by_cases h3:ca=3
  ·subst h3;rcases hcas with rfl|rfl|rfl|rfl|rfl|rfl|rfl|rfl|rfl|rfl|rfl|rfl|rfl|rfl|rfl|rfl|rfl|rfl|rfl
   all_goals first|(cases h;done)|exact⟨xUx gl,by kernel_rfl⟩|exact⟨xUw gl,by kernel_rfl⟩|exact⟨xUv gl,by kernel_rfl⟩|exact⟨xUu gl,by kernel_rfl⟩|exact⟨xUt gl,by kernel_rfl⟩|exact⟨xUs gl,by kernel_rfl⟩|exact⟨xUr gl,by kernel_rfl⟩|exact⟨xUq gl,by kernel_rfl⟩|exact⟨xZ4 gl,by kernel_rfl⟩|exact⟨xUp gl,by kernel_rfl⟩|exact⟨xZ9 gl,by kernel_rfl⟩|exact⟨xZ8 gl,by kernel_rfl⟩|exact⟨xZ7 gl,by kernel_rfl⟩|exact⟨xZ6 gl,by kernel_rfl⟩|exact⟨xZ5 gl,by kernel_rfl⟩|exact⟨xUo gl,by kernel_rfl⟩|exact⟨xUn gl,by kernel_rfl⟩
  ·have hk:rowS ca rule=rowS 1 rule:=by
    unfold rowS;rw[if_neg (by omega),if_neg (by omega),if_neg (by omega),if_neg (by omega),if_neg (by omega)]
    conv=>rhs;rw[if_neg (by omega),if_neg (by omega),if_neg (by omega),if_neg (by omega),if_neg (by omega)]
   have hi:zJf ca rule=zJf 1 rule:=by
    unfold zJf;rw[if_neg (by omega),if_neg (by omega)]
    conv=>rhs;rw[if_neg (by omega),if_neg (by omega)]
   have hs:addS ca rule=addS 1 rule:=by
    funext m a b;unfold addS;rw[if_neg h2,if_neg (show ¬ (1:Nat)=2 by decide)]
   rw[hk] at h;rw[hi,hs];rcases hcas with rfl|rfl|rfl|rfl|rfl|rfl|rfl|rfl|rfl|rfl|rfl|rfl|rfl|rfl|rfl|rfl|rfl|rfl|rfl
   all_goals first|(cases h;done)|exact⟨xUx gl,by kernel_rfl⟩|exact⟨xUw gl,by kernel_rfl⟩|exact⟨xUv gl,by kernel_rfl⟩|exact⟨xUu gl,by kernel_rfl⟩|exact⟨xUt gl,by kernel_rfl⟩|exact⟨xUs gl,by kernel_rfl⟩|exact⟨xUr gl,by kernel_rfl⟩|exact⟨xUq gl,by kernel_rfl⟩|exact⟨xZ4 gl,by kernel_rfl⟩|exact⟨xUp gl,by kernel_rfl⟩|exact⟨xZ9 gl,by kernel_rfl⟩|exact⟨xZ8 gl,by kernel_rfl⟩|exact⟨xZ7 gl,by kernel_rfl⟩|exact⟨xZ6 gl,by kernel_rfl⟩|exact⟨xZ5 gl,by kernel_rfl⟩|exact⟨xUo gl,by kernel_rfl⟩|exact⟨xUn gl,by kernel_rfl⟩
noncomputable def rB (ca:Nat)(a0 f:Fm):Bool:=fmB ca f&&(decide (ca≠2) || eqF f a0)
theorem wXv (ca:Nat)(a0:Fm):∀l:List Fm,l.all (rB ca a0)=(l.all (fmB ca)&&(decide (ca≠2) || l.all λf=>eqF f a0))
 | []=>by simp
 | f::l=>by
  simp only[List.all_cons,wXv ca a0 l,rB];cases fmB ca f<;>cases l.all (fmB ca)<;>cases decide (ca≠2)<;>simp
theorem xW1 (ca:Nat)(s:Sq):yQy ca s=(yWc ca&&decide (s.l.length<=64)&&decide (s.r.length<=64)&&s.l.all (fmB ca)&&s.r.all (rB ca (s.r.headD fm0))):=by
 rw[wXv];unfold yQy xQr;cases s.r with
 | nil=>simp
 | cons a l=>simp only[List.headD_cons,Bool.and_assoc]
theorem xUz (G:Gl gl)(ca:Nat)(s:Sq)(x:IV)(hx:IsSq s x)(hs:yYi s)(st:ISt):ICall prog gl 25 [.raw (.int .u8 ca),x] st (λr st'=>r=.raw (.bool (yQy ca s))/\st'=st):=by
 obtain⟨l,r⟩:=s;obtain⟨t1,x1,t2,x2,rfl,e1,i1,e2,i2⟩:=hx;obtain⟨hl,hr⟩:=hs;simp only at i1 i2 hl hr;rw[xW1];simp only;refine iI func25 ?_;simp only[go_sem,zA,reduceCtorEq];refine (xG4 gl ca _).mono ?_;rintro _ st ⟨rfl,rfl⟩;cases hk:yWc ca
 ·simp only[go_sem,zE];exact yQ0 ⟨by simp,rfl⟩
 by_cases h1:l.length<=64
 case neg =>
  have e:decide ((64:Int)<(l.length:Int))=true:=dEt (by omega);simp only[go_sem,zE,i1.len,e];intro _;exact yQ0 ⟨by simp[h1],rfl⟩
 by_cases h2:r.length<=64
 case neg =>
  have e:decide ((64:Int)<(l.length:Int))=false:=dEf (by omega);have e':decide ((64:Int)<(r.length:Int))=true:=dEt (by omega);simp only[go_sem,zE,i1.len,i2.len,e,e'];intro _ _;exact yQ0 ⟨by simp[h2],rfl⟩
 have e:decide ((64:Int)<(l.length:Int))=false:=dEf (by omega);have e':decide ((64:Int)<(r.length:Int))=false:=dEf (by omega);simp only[go_sem,zE,i1.len,i2.len,e,e'];intros;refine LoopC.ctr l.length (λk fr st' ds=>(l.take k).all (fmB ca)=true/\fr 0=.iv (.raw (.int .u8 ca))/\fr 3=.box [.sl t1 x1,.sl t2 x2]/\fr 25=.iv (.sl t1 x1)/\fr 26=.iv (.raw (.int .i64 l.length))/\fr 27=.iv (.raw (.int .i64 k))/\st'=st/\ds=[]) ?_ ?_ ?_
 ·simp only[go_sem,zE,reduceCtorEq]
  first|rfl|exact⟨rfl,rfl⟩
 ·rintro k fr st1 _ hlt ⟨hn,f0,f3,f25,f26,f27,rfl,rfl⟩;obtain⟨a,ha⟩:=yQ3 hlt;obtain⟨y,hky,hy⟩:=i1.get ha;have hcall:=zXa gl G ca a y hy (hl a (lMg ha)) st1;obtain⟨o5,n5,t5,x5,t6,x6,rfl⟩:=hy.agg;simp only[go_sem,zE,zB,zA,zL,reduceCtorEq,f0,f25,f26,f27,lt_i hlt,yQ4 e1,iNn,hky,fits];refine hcall.mono ?_;rintro _ _ ⟨rfl,rfl⟩;cases hr:fmB ca a
  ·simp only[go_sem];refine yQ0 ⟨?_,rfl⟩;have:l.all (fmB ca)=false:=List.all_eq_false.2 ⟨a,lMg ha,by simp[hr]⟩;simp[this]
  ·simp only[go_sem,zE,reduceCtorEq,f0,f3,f25,f26,f27,yQf hlt (show l.length<=281474976710656 by omega)];rw[yQ7 ha,List.all_append,hn];simp[hr]
 ·rintro fr st1 _ ⟨hn,f0,f3,f25,f26,f27,rfl,rfl⟩;rw[lTl] at hn;simp only[go_sem,zE,f3,f26,f27,i2.len,yQo (nLi _)];intro _;refine LoopC.ctr r.length (λk fr st' ds=>(r.take k).all (rB ca (r.headD fm0))=true/\fr 0=.iv (.raw (.int .u8 ca))/\fr 3=.box [.sl t1 x1,.sl t2 x2]/\fr 37=.iv (.sl t2 x2)/\fr 38=.iv (.raw (.int .i64 r.length))/\fr 39=.iv (.raw (.int .i64 k))/\st'=st1/\ds=[]) ?_ ?_ ?_
  ·simp only[go_sem,zE,reduceCtorEq,f0,f3]
   first|rfl|exact⟨rfl,rfl⟩
  ·rintro k fr st2 _ hlt ⟨hm,f0,f3,f37,f38,f39,rfl,rfl⟩;obtain⟨a,ha⟩:=yQ3 hlt;obtain⟨y,hky,hy⟩:=i2.get ha;obtain⟨a0,ha0⟩:=yQ3 (show 0<r.length by omega);obtain⟨y0,hky0,hy0⟩:=i2.get ha0;have hd0:r.headD fm0=a0:=by cases r with|nil=>cases ha0|cons b r=>simpa using ha0
   have hcall:=zXa gl G ca a y hy (hr a (lMg ha)) st2;have heq:=λst=>wVr gl G a a0 y y0 hy hy0 (hr a (lMg ha)) (hr a0 (lMg ha0)) st;rw[hd0] at hm ⊢;have hout:rB ca a0 a=false->r.all (rB ca a0)=false:=λhb=>List.all_eq_false.2 ⟨a,lMg ha,by simp[hb]⟩;have hin:rB ca a0 a=true->(r.take (k+1)).all (rB ca a0)=true:=λhb=>by
    rw[yQ7 ha,List.all_append,hm];simp[hb]
   obtain⟨o5,n5,t5,x5,t6,x6,rfl⟩:=hy.agg;obtain⟨o7,n7,t7,x7,t8,x8,rfl⟩:=hy0.agg;simp only[go_sem,zE,zB,zA,zL,reduceCtorEq,f0,f37,f38,f39,lt_i hlt,yQ4 e2,iNn,hky,fits];refine hcall.mono ?_;rintro _ _ ⟨rfl,rfl⟩;cases hr:fmB ca a
   ·simp only[go_sem,zE];exact yQ0 ⟨by rw[hout (by simp[rB,hr])];simp,rfl⟩
   by_cases hj:ca=2
   ·have ej:decide ((ca:Int)=2)=true:=dEt (by omega);simp only[go_sem,zE,zB,zA,zL,reduceCtorEq,ej,f0,f3,yQ4 e2,hky0,fits,Int.le_refl,Int.toNat_zero];refine (heq _).mono ?_;rintro _ _ ⟨rfl,rfl⟩;cases hq:eqF a a0
    ·simp only[go_sem,zE];exact yQ0 ⟨by rw[hout (by simp[rB,hj,hq])];simp,rfl⟩
    ·simp only[go_sem,zE,reduceCtorEq,f0,f3,f37,f38,f39,yQf hlt (show r.length<=281474976710656 by omega)];exact hin (by simp[rB,hr,hq])
   ·have ej:decide ((ca:Int)=2)=false:=dEf (by omega);simp only[go_sem,zE,reduceCtorEq,ej,f0,f3,f37,f38,f39,yQf hlt (show r.length<=281474976710656 by omega)];exact hin (by simp[rB,hr,hj])
  ·rintro fr st2 _ ⟨hm,f0,f3,f37,f38,f39,rfl,rfl⟩;rw[lTl] at hm;simp only[go_sem,f38,f39,yQo (nLi _)];exact yQ0 ⟨by rw[hn,hm];simp[h1,h2],rfl⟩
theorem yZu (f:Fm)(l:Sb):(yX1 f l).1.size<=400:=by
 unfold yX1;split
 ·split
  ·rename_i h;simp only[bAt,dTe] at h;exact h.1
  ·show fm0.size<=400;decide
 ·show fm0.size<=400;decide
theorem vUz:IsFm fm0 (.agg [.raw (.int .u8 0),.raw (.string ⟨#[]⟩),.sl ⟨true,.nil,0⟩ [],.sl ⟨true,.nil,0⟩ []]):=wUq _ _ (.inl rfl) (.inl rfl)
theorem xZn {sub:List Fm}{xs:List IV}(h:IsFms sub xs)(k:Nat):∃y,IsFm ((sub[k]?).getD fm0) y/\(sub.length<=k->y=.agg [.raw (.int .u8 0),.raw (.string ⟨#[]⟩),.sl ⟨true,.nil,0⟩ [],.sl ⟨true,.nil,0⟩ []])/\(k<sub.length->xs[k]?=some y):=by
 by_cases hk:k<sub.length
 ·obtain⟨a,ha⟩:=yQ3 hk;obtain⟨y,hy,hf⟩:=h.get ha;exact⟨y,by rw[ha];exact hf,λhc=>by omega,λ_=>hy⟩
 ·exact⟨_,by rw[List.getElem?_eq_none (by omega)];exact vUz,λ_=>rfl,λhc=>absurd hc hk⟩
def AdR (st:ISt)(q:List Sq×Nat)(r:IV)(st':ISt):Prop:=∃tg xs,r=.tup [.sl tg xs,.raw (.int .i64 q.2)]/\okEs tg 2/\IsSqs q.1 xs/\st'=st
def AdRD (st:ISt)(q:List Sq×Nat)(r:IV)(st':ISt):Prop:=∃tg xs,r=.tup [.sl tg xs,.raw (.int .i64 q.2)]/\okEs tg 2/\appT q.1.length tg/\IsSqsD q.1 xs/\st'=st
theorem AdRD.w {st:ISt}{q:List Sq×Nat}(r:IV)(st':ISt):AdRD st q r st'->AdR st q r st':=λ⟨tg,xs,h1,h2,_,h4,h5⟩=>⟨tg,xs,h1,h2,h4.w,h5⟩
theorem yQr {o:Nat}{n:ByteArray}{us:List Tm}{sub:List Fm}(h:(Fm.mk o n us sub).size<=1000000)(k:Nat):((sub[k]?).getD fm0).size<=1000000:=by
 cases ha:sub[k]? with
 | none=>show fm0.size<=1000000;decide
 | some a =>
  have:=(yZ3 ha).2;simp only[Fm.size] at h;show a.size<=1000000;omega
theorem yQk {ca rule:Nat}{r:Rw}{main:Fm}{term:Tm}{name:ByteArray}(h:fmB ca main=true)(h':r.op=0\/main.op=r.op):zGq ca rule r main term name =
  if r.asks=0 then (addS ca rule main ((main.subs[0]?).getD fm0) ((main.subs[1]?).getD fm0),0)
  else if !(if r.asks=2 then Tm.mk true name [] else term).ok then ([],193)
  else if (yX1 ((main.subs[0]?).getD fm0) [(main.nm,if r.asks=2 then Tm.mk true name [] else term)]).2≠0 then ([],193)
  else (addS ca rule main (yX1 ((main.subs[0]?).getD fm0) [(main.nm,if r.asks=2 then Tm.mk true name [] else term)]).1 ((main.subs[1]?).getD fm0),0):=by
 have e:(!fmB ca main || (decide (r.op≠0)&&decide (main.op≠r.op)))=false:=by
  rw[h];rcases h' with h'|h'<;>simp[h']
 simp only[zGq,e,bFt,if_false]
set_option maxHeartbeats 2000000 in
theorem vZh (G:Gl gl)(T:Gt gl)(ca rule:Nat)(r:Rw)(hr:rowS ca rule=some r)(main:Fm)(y:IV)(hy:IsFm main y)(hm:main.size<=1000000)(term:Tm)(z:IV)(hz:IsTm term z)(ht:term.size<=1000000)(name:ByteArray)(st:ISt) :
  ICall prog gl 128 [rwI ca rule r,.raw (.int .u8 ca),y,z,.raw (.string name)] st (AdRD st (zGq ca rule r main term name)):=by
 obtain⟨hadd,hent⟩:=wXa gl hr;have hf:=λst=>zXa gl G ca main y hy hm st;obtain⟨rl,rr,op,asks⟩:=r;obtain⟨o,n,us,sub⟩:=main;have hy0:=hy;obtain⟨t1,x1,t2,x2,rfl,ho,e1,i1,e2,i2⟩:=hy.mk;obtain⟨v,un,tz,xz,rfl⟩:∃v un tz xz,z=.agg [.raw (.bool v),.raw (.string un),.sl tz xz]:=by
  obtain⟨v,un,us⟩:=term;obtain⟨tz,xz,rfl,_⟩:=hz.mk;exact⟨_,_,_,_,rfl⟩
 obtain⟨z1,hz1,hz1n,hz1s⟩:=xZn i2 0;obtain⟨z2,hz2,hz2n,hz2s⟩:=xZn i2 1;have hE:fmB ca (.mk o n us sub)=false->zGq ca rule ⟨rl,rr,op,asks⟩ (.mk o n us sub) term name=([],192):=λh=>by simp only[zGq,h];rfl
 refine iI func128 ?_;simp only[go_sem,zE,zA,zL,rwI];refine (hf _).mono ?_;rintro _ _ ⟨rfl,rfl⟩;cases hfm:fmB ca (.mk o n us sub)
 ·simp only[go_sem,zE];exact yQ0 (by rw[hE hfm];exact⟨_,_,rfl,.inl rfl,.inl rfl,rfl,rfl⟩)
 by_cases hop:op=0\/o=op
 case neg =>
  have hq:zGq ca rule ⟨rl,rr,op,asks⟩ (.mk o n us sub) term name=([],192):=by
   have e:(!fmB ca (.mk o n us sub) || (decide (op≠0)&&decide ((Fm.mk o n us sub).op≠op)))=true:=by
    simp only[Fm.op,hfm];simp only[not_or] at hop;simp[hop]
   simp only[zGq,e,if_true]
  simp only[not_or] at hop;have d1:decide ((op:Int)=0)=false:=dEf (by omega);have d2:decide ((o:Int)=(op:Int))=false:=dEf (by omega);simp only[go_sem,zE,zA,d1,d2];exact yQ0 (by rw[hq];exact⟨_,_,rfl,.inl rfl,.inl rfl,rfl,rfl⟩)
 obtain⟨dop,hdop⟩:∃b,decide ((op:Int)=0)=b:=⟨_,rfl⟩
 have hdo:dop=false->decide ((o:Int)=(op:Int))=true:=λh=>by
  subst hdop;have:=of_decide_eq_false h;exact dEt (by omega)
 have hop0:=hop;replace hop:(⟨rl,rr,op,asks⟩:Rw).op=0\/(Fm.mk o n us sub).op=(⟨rl,rr,op,asks⟩:Rw).op:=hop0;by_cases hl0:0<sub.length
 ·have l0:decide ((0:Int)<(sub.length:Int))=true:=dEt (by omega);have g0:=hz1s hl0;obtain⟨o3,n3,t3,x3,t4,x4,rfl⟩:=hz1.agg;by_cases hl1:1<sub.length
  ·have l1:decide ((1:Int)<(sub.length:Int))=true:=dEt (by omega);have g1:=hz2s hl1;obtain⟨o5,n5,t5,x5,t6,x6,rfl⟩:=hz2.agg;cases dop
   ·have hd2:=hdo rfl;by_cases ha0:asks=0
    ·have d0:decide ((asks:Int)=0)=true:=dEt (by omega);have hq:=yQk (rule:=rule) (r:=⟨rl,rr,op,asks⟩) (term:=term) (name:=name) hfm hop;simp only[if_pos ha0,Fm.subs] at hq;simp only[go_sem,zE,zB,zA,zL,hdop,hd2,l0,l1,i2.len,g0,g1,yQ4 e2,Int.le_refl,Int.toNat_zero,(show (0:Int)<=1 by decide),(show Int.toNat 1=1 from rfl),d0,fits,hent];intros;refine (hadd _ _ _ _ _ _ hy0 hz1 hz2 hm (yQr hm 0) (yQr hm 1) _).mono ?_;rintro _ _ ⟨tg,xs,rfl,he,hap,hxs,rfl⟩;simp only[go_sem,zE];exact yQ0 (by rw[hq];exact⟨_,_,rfl,he,hap,hxs,rfl⟩)
    ·have d0:decide ((asks:Int)=0)=false:=dEf (by omega);by_cases ha2:asks=2
     ·have d2:decide ((asks:Int)=2)=true:=dEt (by omega);simp only[go_sem,zE,zB,zA,zL,hdop,hd2,l0,l1,i2.len,g0,g1,yQ4 e2,Int.le_refl,Int.toNat_zero,(show (0:Int)<=1 by decide),(show Int.toNat 1=1 from rfl),d0,d2,fits];intros;refine (yV7 gl (Tm.mk true name []) _ (show IsTm (Tm.mk true name []) _ from⟨_,_,rfl,.inl rfl,rfl⟩) (by show 1<=_;decide) _).mono ?_;rintro _ _ ⟨rfl,rfl⟩;cases hk:Tm.ok (Tm.mk true name [])
      ·simp only[go_sem,zE];have hq:=yQk (rule:=rule) (r:=⟨rl,rr,op,asks⟩) (term:=term) (name:=name) hfm hop;simp only[if_neg ha0,if_pos ha2,hk,Bool.not_false,if_true] at hq;exact yQ0 (by rw[hq];exact⟨_,_,rfl,.inl rfl,.inl rfl,rfl,rfl⟩)
      simp only[go_sem,zE,zA,zL];refine (zQp gl G T _ _ hz1 (yQr hm 0) n (Tm.mk true name []) _ (show IsTm (Tm.mk true name []) _ from⟨_,_,rfl,.inl rfl,rfl⟩) (by show 1<=_;decide) _).mono ?_;rintro _ _ ⟨y3,rfl,hy3,rfl⟩;have hy4:=hy3;obtain⟨o8,n8,t8,x8,t9,x9,rfl⟩:=hy3.agg;by_cases he:(yX1 ((sub[0]?).getD fm0) [(n,(Tm.mk true name []))]).2=0
      ·have hq:=yQk (rule:=rule) (r:=⟨rl,rr,op,asks⟩) (term:=term) (name:=name) hfm hop;simp only[if_neg ha0,if_pos ha2,hk,Bool.not_true,bFt,if_false,Fm.subs,Fm.nm,he,ne_eq,nTf] at hq;simp only[go_sem,zE,zA,zL,he,hent,show decide (((0:Nat):Int)=0)=true from rfl];refine (hadd _ _ _ _ _ _ hy0 hy4 hz2 hm (Nat.le_trans (yZu _ _) (by decide)) (yQr hm 1) _).mono ?_;rintro _ _ ⟨tg,xs,rfl,he,hap,hxs,rfl⟩;simp only[go_sem,zE];exact yQ0 (by rw[hq];exact⟨_,_,rfl,he,hap,hxs,rfl⟩)
      ·have hq:=yQk (rule:=rule) (r:=⟨rl,rr,op,asks⟩) (term:=term) (name:=name) hfm hop;simp only[if_neg ha0,if_pos ha2,hk,Bool.not_true,bFt,if_false,Fm.subs,Fm.nm,ne_eq,he,nFt,if_true] at hq;have hd:decide (((yX1 ((sub[0]?).getD fm0) [(n,(Tm.mk true name []))]).2:Int)=0)=false:=dEf (by omega);simp only[go_sem,zE,zA,zL,hd];exact yQ0 (by rw[hq];exact⟨_,_,rfl,.inl rfl,.inl rfl,rfl,rfl⟩)
     ·have d2:decide ((asks:Int)=2)=false:=dEf (by omega);simp only[go_sem,zE,zB,zA,zL,hdop,hd2,l0,l1,i2.len,g0,g1,yQ4 e2,Int.le_refl,Int.toNat_zero,(show (0:Int)<=1 by decide),(show Int.toNat 1=1 from rfl),d0,d2,fits];intros;refine (yV7 gl term _ hz ht _).mono ?_;rintro _ _ ⟨rfl,rfl⟩;cases hk:Tm.ok term
      ·simp only[go_sem,zE];have hq:=yQk (rule:=rule) (r:=⟨rl,rr,op,asks⟩) (term:=term) (name:=name) hfm hop;simp only[if_neg ha0,if_neg ha2,hk,Bool.not_false,if_true] at hq;exact yQ0 (by rw[hq];exact⟨_,_,rfl,.inl rfl,.inl rfl,rfl,rfl⟩)
      simp only[go_sem,zE,zA,zL];refine (zQp gl G T _ _ hz1 (yQr hm 0) n term _ hz ht _).mono ?_;rintro _ _ ⟨y3,rfl,hy3,rfl⟩;have hy4:=hy3;obtain⟨o8,n8,t8,x8,t9,x9,rfl⟩:=hy3.agg;by_cases he:(yX1 ((sub[0]?).getD fm0) [(n,term)]).2=0
      ·have hq:=yQk (rule:=rule) (r:=⟨rl,rr,op,asks⟩) (term:=term) (name:=name) hfm hop;simp only[if_neg ha0,if_neg ha2,hk,Bool.not_true,bFt,if_false,Fm.subs,Fm.nm,he,ne_eq,nTf] at hq;simp only[go_sem,zE,zA,zL,he,hent,show decide (((0:Nat):Int)=0)=true from rfl];refine (hadd _ _ _ _ _ _ hy0 hy4 hz2 hm (Nat.le_trans (yZu _ _) (by decide)) (yQr hm 1) _).mono ?_;rintro _ _ ⟨tg,xs,rfl,he,hap,hxs,rfl⟩;simp only[go_sem,zE];exact yQ0 (by rw[hq];exact⟨_,_,rfl,he,hap,hxs,rfl⟩)
      ·have hq:=yQk (rule:=rule) (r:=⟨rl,rr,op,asks⟩) (term:=term) (name:=name) hfm hop;simp only[if_neg ha0,if_neg ha2,hk,Bool.not_true,bFt,if_false,Fm.subs,Fm.nm,ne_eq,he,nFt,if_true] at hq;have hd:decide (((yX1 ((sub[0]?).getD fm0) [(n,term)]).2:Int)=0)=false:=dEf (by omega);simp only[go_sem,zE,zA,zL,hd];exact yQ0 (by rw[hq];exact⟨_,_,rfl,.inl rfl,.inl rfl,rfl,rfl⟩)
   ·by_cases ha0:asks=0
    ·have d0:decide ((asks:Int)=0)=true:=dEt (by omega);have hq:=yQk (rule:=rule) (r:=⟨rl,rr,op,asks⟩) (term:=term) (name:=name) hfm hop;simp only[if_pos ha0,Fm.subs] at hq;simp only[go_sem,zE,zB,zA,zL,hdop,l0,l1,i2.len,g0,g1,yQ4 e2,Int.le_refl,Int.toNat_zero,(show (0:Int)<=1 by decide),(show Int.toNat 1=1 from rfl),d0,fits,hent];intros;refine (hadd _ _ _ _ _ _ hy0 hz1 hz2 hm (yQr hm 0) (yQr hm 1) _).mono ?_;rintro _ _ ⟨tg,xs,rfl,he,hap,hxs,rfl⟩;simp only[go_sem,zE];exact yQ0 (by rw[hq];exact⟨_,_,rfl,he,hap,hxs,rfl⟩)
    ·have d0:decide ((asks:Int)=0)=false:=dEf (by omega);by_cases ha2:asks=2
     ·have d2:decide ((asks:Int)=2)=true:=dEt (by omega);simp only[go_sem,zE,zB,zA,zL,hdop,l0,l1,i2.len,g0,g1,yQ4 e2,Int.le_refl,Int.toNat_zero,(show (0:Int)<=1 by decide),(show Int.toNat 1=1 from rfl),d0,d2,fits];intros;refine (yV7 gl (Tm.mk true name []) _ (show IsTm (Tm.mk true name []) _ from⟨_,_,rfl,.inl rfl,rfl⟩) (by show 1<=_;decide) _).mono ?_;rintro _ _ ⟨rfl,rfl⟩;cases hk:Tm.ok (Tm.mk true name [])
      ·simp only[go_sem,zE];have hq:=yQk (rule:=rule) (r:=⟨rl,rr,op,asks⟩) (term:=term) (name:=name) hfm hop;simp only[if_neg ha0,if_pos ha2,hk,Bool.not_false,if_true] at hq;exact yQ0 (by rw[hq];exact⟨_,_,rfl,.inl rfl,.inl rfl,rfl,rfl⟩)
      simp only[go_sem,zE,zA,zL];refine (zQp gl G T _ _ hz1 (yQr hm 0) n (Tm.mk true name []) _ (show IsTm (Tm.mk true name []) _ from⟨_,_,rfl,.inl rfl,rfl⟩) (by show 1<=_;decide) _).mono ?_;rintro _ _ ⟨y3,rfl,hy3,rfl⟩;have hy4:=hy3;obtain⟨o8,n8,t8,x8,t9,x9,rfl⟩:=hy3.agg;by_cases he:(yX1 ((sub[0]?).getD fm0) [(n,(Tm.mk true name []))]).2=0
      ·have hq:=yQk (rule:=rule) (r:=⟨rl,rr,op,asks⟩) (term:=term) (name:=name) hfm hop;simp only[if_neg ha0,if_pos ha2,hk,Bool.not_true,bFt,if_false,Fm.subs,Fm.nm,he,ne_eq,nTf] at hq;simp only[go_sem,zE,zA,zL,he,hent,show decide (((0:Nat):Int)=0)=true from rfl];refine (hadd _ _ _ _ _ _ hy0 hy4 hz2 hm (Nat.le_trans (yZu _ _) (by decide)) (yQr hm 1) _).mono ?_;rintro _ _ ⟨tg,xs,rfl,he,hap,hxs,rfl⟩;simp only[go_sem,zE];exact yQ0 (by rw[hq];exact⟨_,_,rfl,he,hap,hxs,rfl⟩)
      ·have hq:=yQk (rule:=rule) (r:=⟨rl,rr,op,asks⟩) (term:=term) (name:=name) hfm hop;simp only[if_neg ha0,if_pos ha2,hk,Bool.not_true,bFt,if_false,Fm.subs,Fm.nm,ne_eq,he,nFt,if_true] at hq;have hd:decide (((yX1 ((sub[0]?).getD fm0) [(n,(Tm.mk true name []))]).2:Int)=0)=false:=dEf (by omega);simp only[go_sem,zE,zA,zL,hd];exact yQ0 (by rw[hq];exact⟨_,_,rfl,.inl rfl,.inl rfl,rfl,rfl⟩)
     ·have d2:decide ((asks:Int)=2)=false:=dEf (by omega);simp only[go_sem,zE,zB,zA,zL,hdop,l0,l1,i2.len,g0,g1,yQ4 e2,Int.le_refl,Int.toNat_zero,(show (0:Int)<=1 by decide),(show Int.toNat 1=1 from rfl),d0,d2,fits];intros;refine (yV7 gl term _ hz ht _).mono ?_;rintro _ _ ⟨rfl,rfl⟩;cases hk:Tm.ok term
      ·simp only[go_sem,zE];have hq:=yQk (rule:=rule) (r:=⟨rl,rr,op,asks⟩) (term:=term) (name:=name) hfm hop;simp only[if_neg ha0,if_neg ha2,hk,Bool.not_false,if_true] at hq;exact yQ0 (by rw[hq];exact⟨_,_,rfl,.inl rfl,.inl rfl,rfl,rfl⟩)
      simp only[go_sem,zE,zA,zL];refine (zQp gl G T _ _ hz1 (yQr hm 0) n term _ hz ht _).mono ?_;rintro _ _ ⟨y3,rfl,hy3,rfl⟩;have hy4:=hy3;obtain⟨o8,n8,t8,x8,t9,x9,rfl⟩:=hy3.agg;by_cases he:(yX1 ((sub[0]?).getD fm0) [(n,term)]).2=0
      ·have hq:=yQk (rule:=rule) (r:=⟨rl,rr,op,asks⟩) (term:=term) (name:=name) hfm hop;simp only[if_neg ha0,if_neg ha2,hk,Bool.not_true,bFt,if_false,Fm.subs,Fm.nm,he,ne_eq,nTf] at hq;simp only[go_sem,zE,zA,zL,he,hent,show decide (((0:Nat):Int)=0)=true from rfl];refine (hadd _ _ _ _ _ _ hy0 hy4 hz2 hm (Nat.le_trans (yZu _ _) (by decide)) (yQr hm 1) _).mono ?_;rintro _ _ ⟨tg,xs,rfl,he,hap,hxs,rfl⟩;simp only[go_sem,zE];exact yQ0 (by rw[hq];exact⟨_,_,rfl,he,hap,hxs,rfl⟩)
      ·have hq:=yQk (rule:=rule) (r:=⟨rl,rr,op,asks⟩) (term:=term) (name:=name) hfm hop;simp only[if_neg ha0,if_neg ha2,hk,Bool.not_true,bFt,if_false,Fm.subs,Fm.nm,ne_eq,he,nFt,if_true] at hq;have hd:decide (((yX1 ((sub[0]?).getD fm0) [(n,term)]).2:Int)=0)=false:=dEf (by omega);simp only[go_sem,zE,zA,zL,hd];exact yQ0 (by rw[hq];exact⟨_,_,rfl,.inl rfl,.inl rfl,rfl,rfl⟩)
  ·have l1:decide ((1:Int)<(sub.length:Int))=false:=dEf (by omega);obtain rfl:=hz2n (by omega);cases dop
   ·have hd2:=hdo rfl;by_cases ha0:asks=0
    ·have d0:decide ((asks:Int)=0)=true:=dEt (by omega);have hq:=yQk (rule:=rule) (r:=⟨rl,rr,op,asks⟩) (term:=term) (name:=name) hfm hop;simp only[if_pos ha0,Fm.subs] at hq;simp only[go_sem,zE,zB,zA,zL,hdop,hd2,l0,l1,i2.len,g0,yQ4 e2,Int.le_refl,Int.toNat_zero,d0,fits,hent];intros;refine (hadd _ _ _ _ _ _ hy0 hz1 hz2 hm (yQr hm 0) (yQr hm 1) _).mono ?_;rintro _ _ ⟨tg,xs,rfl,he,hap,hxs,rfl⟩;simp only[go_sem,zE];exact yQ0 (by rw[hq];exact⟨_,_,rfl,he,hap,hxs,rfl⟩)
    ·have d0:decide ((asks:Int)=0)=false:=dEf (by omega);by_cases ha2:asks=2
     ·have d2:decide ((asks:Int)=2)=true:=dEt (by omega);simp only[go_sem,zE,zB,zA,zL,hdop,hd2,l0,l1,i2.len,g0,yQ4 e2,Int.le_refl,Int.toNat_zero,d0,d2,fits];intros;refine (yV7 gl (Tm.mk true name []) _ (show IsTm (Tm.mk true name []) _ from⟨_,_,rfl,.inl rfl,rfl⟩) (by show 1<=_;decide) _).mono ?_;rintro _ _ ⟨rfl,rfl⟩;cases hk:Tm.ok (Tm.mk true name [])
      ·simp only[go_sem,zE];have hq:=yQk (rule:=rule) (r:=⟨rl,rr,op,asks⟩) (term:=term) (name:=name) hfm hop;simp only[if_neg ha0,if_pos ha2,hk,Bool.not_false,if_true] at hq;exact yQ0 (by rw[hq];exact⟨_,_,rfl,.inl rfl,.inl rfl,rfl,rfl⟩)
      simp only[go_sem,zE,zA,zL];refine (zQp gl G T _ _ hz1 (yQr hm 0) n (Tm.mk true name []) _ (show IsTm (Tm.mk true name []) _ from⟨_,_,rfl,.inl rfl,rfl⟩) (by show 1<=_;decide) _).mono ?_;rintro _ _ ⟨y3,rfl,hy3,rfl⟩;have hy4:=hy3;obtain⟨o8,n8,t8,x8,t9,x9,rfl⟩:=hy3.agg;by_cases he:(yX1 ((sub[0]?).getD fm0) [(n,(Tm.mk true name []))]).2=0
      ·have hq:=yQk (rule:=rule) (r:=⟨rl,rr,op,asks⟩) (term:=term) (name:=name) hfm hop;simp only[if_neg ha0,if_pos ha2,hk,Bool.not_true,bFt,if_false,Fm.subs,Fm.nm,he,ne_eq,nTf] at hq;simp only[go_sem,zE,zA,zL,he,hent,show decide (((0:Nat):Int)=0)=true from rfl];refine (hadd _ _ _ _ _ _ hy0 hy4 hz2 hm (Nat.le_trans (yZu _ _) (by decide)) (yQr hm 1) _).mono ?_;rintro _ _ ⟨tg,xs,rfl,he,hap,hxs,rfl⟩;simp only[go_sem,zE];exact yQ0 (by rw[hq];exact⟨_,_,rfl,he,hap,hxs,rfl⟩)
      ·have hq:=yQk (rule:=rule) (r:=⟨rl,rr,op,asks⟩) (term:=term) (name:=name) hfm hop;simp only[if_neg ha0,if_pos ha2,hk,Bool.not_true,bFt,if_false,Fm.subs,Fm.nm,ne_eq,he,nFt,if_true] at hq;have hd:decide (((yX1 ((sub[0]?).getD fm0) [(n,(Tm.mk true name []))]).2:Int)=0)=false:=dEf (by omega);simp only[go_sem,zE,zA,zL,hd];exact yQ0 (by rw[hq];exact⟨_,_,rfl,.inl rfl,.inl rfl,rfl,rfl⟩)
     ·have d2:decide ((asks:Int)=2)=false:=dEf (by omega);simp only[go_sem,zE,zB,zA,zL,hdop,hd2,l0,l1,i2.len,g0,yQ4 e2,Int.le_refl,Int.toNat_zero,d0,d2,fits];intros;refine (yV7 gl term _ hz ht _).mono ?_;rintro _ _ ⟨rfl,rfl⟩;cases hk:Tm.ok term
      ·simp only[go_sem,zE];have hq:=yQk (rule:=rule) (r:=⟨rl,rr,op,asks⟩) (term:=term) (name:=name) hfm hop;simp only[if_neg ha0,if_neg ha2,hk,Bool.not_false,if_true] at hq;exact yQ0 (by rw[hq];exact⟨_,_,rfl,.inl rfl,.inl rfl,rfl,rfl⟩)
      simp only[go_sem,zE,zA,zL];refine (zQp gl G T _ _ hz1 (yQr hm 0) n term _ hz ht _).mono ?_;rintro _ _ ⟨y3,rfl,hy3,rfl⟩;have hy4:=hy3;obtain⟨o8,n8,t8,x8,t9,x9,rfl⟩:=hy3.agg;by_cases he:(yX1 ((sub[0]?).getD fm0) [(n,term)]).2=0
      ·have hq:=yQk (rule:=rule) (r:=⟨rl,rr,op,asks⟩) (term:=term) (name:=name) hfm hop;simp only[if_neg ha0,if_neg ha2,hk,Bool.not_true,bFt,if_false,Fm.subs,Fm.nm,he,ne_eq,nTf] at hq;simp only[go_sem,zE,zA,zL,he,hent,show decide (((0:Nat):Int)=0)=true from rfl];refine (hadd _ _ _ _ _ _ hy0 hy4 hz2 hm (Nat.le_trans (yZu _ _) (by decide)) (yQr hm 1) _).mono ?_;rintro _ _ ⟨tg,xs,rfl,he,hap,hxs,rfl⟩;simp only[go_sem,zE];exact yQ0 (by rw[hq];exact⟨_,_,rfl,he,hap,hxs,rfl⟩)
      ·have hq:=yQk (rule:=rule) (r:=⟨rl,rr,op,asks⟩) (term:=term) (name:=name) hfm hop;simp only[if_neg ha0,if_neg ha2,hk,Bool.not_true,bFt,if_false,Fm.subs,Fm.nm,ne_eq,he,nFt,if_true] at hq;have hd:decide (((yX1 ((sub[0]?).getD fm0) [(n,term)]).2:Int)=0)=false:=dEf (by omega);simp only[go_sem,zE,zA,zL,hd];exact yQ0 (by rw[hq];exact⟨_,_,rfl,.inl rfl,.inl rfl,rfl,rfl⟩)
   ·by_cases ha0:asks=0
    ·have d0:decide ((asks:Int)=0)=true:=dEt (by omega);have hq:=yQk (rule:=rule) (r:=⟨rl,rr,op,asks⟩) (term:=term) (name:=name) hfm hop;simp only[if_pos ha0,Fm.subs] at hq;simp only[go_sem,zE,zB,zA,zL,hdop,l0,l1,i2.len,g0,yQ4 e2,Int.le_refl,Int.toNat_zero,d0,fits,hent];intros;refine (hadd _ _ _ _ _ _ hy0 hz1 hz2 hm (yQr hm 0) (yQr hm 1) _).mono ?_;rintro _ _ ⟨tg,xs,rfl,he,hap,hxs,rfl⟩;simp only[go_sem,zE];exact yQ0 (by rw[hq];exact⟨_,_,rfl,he,hap,hxs,rfl⟩)
    ·have d0:decide ((asks:Int)=0)=false:=dEf (by omega);by_cases ha2:asks=2
     ·have d2:decide ((asks:Int)=2)=true:=dEt (by omega);simp only[go_sem,zE,zB,zA,zL,hdop,l0,l1,i2.len,g0,yQ4 e2,Int.le_refl,Int.toNat_zero,d0,d2,fits];intros;refine (yV7 gl (Tm.mk true name []) _ (show IsTm (Tm.mk true name []) _ from⟨_,_,rfl,.inl rfl,rfl⟩) (by show 1<=_;decide) _).mono ?_;rintro _ _ ⟨rfl,rfl⟩;cases hk:Tm.ok (Tm.mk true name [])
      ·simp only[go_sem,zE];have hq:=yQk (rule:=rule) (r:=⟨rl,rr,op,asks⟩) (term:=term) (name:=name) hfm hop;simp only[if_neg ha0,if_pos ha2,hk,Bool.not_false,if_true] at hq;exact yQ0 (by rw[hq];exact⟨_,_,rfl,.inl rfl,.inl rfl,rfl,rfl⟩)
      simp only[go_sem,zE,zA,zL];refine (zQp gl G T _ _ hz1 (yQr hm 0) n (Tm.mk true name []) _ (show IsTm (Tm.mk true name []) _ from⟨_,_,rfl,.inl rfl,rfl⟩) (by show 1<=_;decide) _).mono ?_;rintro _ _ ⟨y3,rfl,hy3,rfl⟩;have hy4:=hy3;obtain⟨o8,n8,t8,x8,t9,x9,rfl⟩:=hy3.agg;by_cases he:(yX1 ((sub[0]?).getD fm0) [(n,(Tm.mk true name []))]).2=0
      ·have hq:=yQk (rule:=rule) (r:=⟨rl,rr,op,asks⟩) (term:=term) (name:=name) hfm hop;simp only[if_neg ha0,if_pos ha2,hk,Bool.not_true,bFt,if_false,Fm.subs,Fm.nm,he,ne_eq,nTf] at hq;simp only[go_sem,zE,zA,zL,he,hent,show decide (((0:Nat):Int)=0)=true from rfl];refine (hadd _ _ _ _ _ _ hy0 hy4 hz2 hm (Nat.le_trans (yZu _ _) (by decide)) (yQr hm 1) _).mono ?_;rintro _ _ ⟨tg,xs,rfl,he,hap,hxs,rfl⟩;simp only[go_sem,zE];exact yQ0 (by rw[hq];exact⟨_,_,rfl,he,hap,hxs,rfl⟩)
      ·have hq:=yQk (rule:=rule) (r:=⟨rl,rr,op,asks⟩) (term:=term) (name:=name) hfm hop;simp only[if_neg ha0,if_pos ha2,hk,Bool.not_true,bFt,if_false,Fm.subs,Fm.nm,ne_eq,he,nFt,if_true] at hq;have hd:decide (((yX1 ((sub[0]?).getD fm0) [(n,(Tm.mk true name []))]).2:Int)=0)=false:=dEf (by omega);simp only[go_sem,zE,zA,zL,hd];exact yQ0 (by rw[hq];exact⟨_,_,rfl,.inl rfl,.inl rfl,rfl,rfl⟩)
     ·have d2:decide ((asks:Int)=2)=false:=dEf (by omega);simp only[go_sem,zE,zB,zA,zL,hdop,l0,l1,i2.len,g0,yQ4 e2,Int.le_refl,Int.toNat_zero,d0,d2,fits];intros;refine (yV7 gl term _ hz ht _).mono ?_;rintro _ _ ⟨rfl,rfl⟩;cases hk:Tm.ok term
      ·simp only[go_sem,zE];have hq:=yQk (rule:=rule) (r:=⟨rl,rr,op,asks⟩) (term:=term) (name:=name) hfm hop;simp only[if_neg ha0,if_neg ha2,hk,Bool.not_false,if_true] at hq;exact yQ0 (by rw[hq];exact⟨_,_,rfl,.inl rfl,.inl rfl,rfl,rfl⟩)
      simp only[go_sem,zE,zA,zL];refine (zQp gl G T _ _ hz1 (yQr hm 0) n term _ hz ht _).mono ?_;rintro _ _ ⟨y3,rfl,hy3,rfl⟩;have hy4:=hy3;obtain⟨o8,n8,t8,x8,t9,x9,rfl⟩:=hy3.agg;by_cases he:(yX1 ((sub[0]?).getD fm0) [(n,term)]).2=0
      ·have hq:=yQk (rule:=rule) (r:=⟨rl,rr,op,asks⟩) (term:=term) (name:=name) hfm hop;simp only[if_neg ha0,if_neg ha2,hk,Bool.not_true,bFt,if_false,Fm.subs,Fm.nm,he,ne_eq,nTf] at hq;simp only[go_sem,zE,zA,zL,he,hent,show decide (((0:Nat):Int)=0)=true from rfl];refine (hadd _ _ _ _ _ _ hy0 hy4 hz2 hm (Nat.le_trans (yZu _ _) (by decide)) (yQr hm 1) _).mono ?_;rintro _ _ ⟨tg,xs,rfl,he,hap,hxs,rfl⟩;simp only[go_sem,zE];exact yQ0 (by rw[hq];exact⟨_,_,rfl,he,hap,hxs,rfl⟩)
      ·have hq:=yQk (rule:=rule) (r:=⟨rl,rr,op,asks⟩) (term:=term) (name:=name) hfm hop;simp only[if_neg ha0,if_neg ha2,hk,Bool.not_true,bFt,if_false,Fm.subs,Fm.nm,ne_eq,he,nFt,if_true] at hq;have hd:decide (((yX1 ((sub[0]?).getD fm0) [(n,term)]).2:Int)=0)=false:=dEf (by omega);simp only[go_sem,zE,zA,zL,hd];exact yQ0 (by rw[hq];exact⟨_,_,rfl,.inl rfl,.inl rfl,rfl,rfl⟩)
 ·have l0:decide ((0:Int)<(sub.length:Int))=false:=dEf (by omega);have l1:decide ((1:Int)<(sub.length:Int))=false:=dEf (by omega);obtain rfl:=hz1n (by omega);obtain rfl:=hz2n (by omega);cases dop
  ·have hd2:=hdo rfl;by_cases ha0:asks=0
   ·have d0:decide ((asks:Int)=0)=true:=dEt (by omega);have hq:=yQk (rule:=rule) (r:=⟨rl,rr,op,asks⟩) (term:=term) (name:=name) hfm hop;simp only[if_pos ha0,Fm.subs] at hq;simp only[go_sem,zE,zA,zL,hdop,hd2,l0,l1,i2.len,d0,hent];intros;refine (hadd _ _ _ _ _ _ hy0 hz1 hz2 hm (yQr hm 0) (yQr hm 1) _).mono ?_;rintro _ _ ⟨tg,xs,rfl,he,hap,hxs,rfl⟩;simp only[go_sem,zE];exact yQ0 (by rw[hq];exact⟨_,_,rfl,he,hap,hxs,rfl⟩)
   ·have d0:decide ((asks:Int)=0)=false:=dEf (by omega);by_cases ha2:asks=2
    ·have d2:decide ((asks:Int)=2)=true:=dEt (by omega);simp only[go_sem,zE,zA,zL,hdop,hd2,l0,l1,i2.len,d0,d2,fits];intros;refine (yV7 gl (Tm.mk true name []) _ (show IsTm (Tm.mk true name []) _ from⟨_,_,rfl,.inl rfl,rfl⟩) (by show 1<=_;decide) _).mono ?_;rintro _ _ ⟨rfl,rfl⟩;cases hk:Tm.ok (Tm.mk true name [])
     ·simp only[go_sem,zE];have hq:=yQk (rule:=rule) (r:=⟨rl,rr,op,asks⟩) (term:=term) (name:=name) hfm hop;simp only[if_neg ha0,if_pos ha2,hk,Bool.not_false,if_true] at hq;exact yQ0 (by rw[hq];exact⟨_,_,rfl,.inl rfl,.inl rfl,rfl,rfl⟩)
     simp only[go_sem,zE,zA,zL];refine (zQp gl G T _ _ hz1 (yQr hm 0) n (Tm.mk true name []) _ (show IsTm (Tm.mk true name []) _ from⟨_,_,rfl,.inl rfl,rfl⟩) (by show 1<=_;decide) _).mono ?_;rintro _ _ ⟨y3,rfl,hy3,rfl⟩;have hy4:=hy3;obtain⟨o8,n8,t8,x8,t9,x9,rfl⟩:=hy3.agg;by_cases he:(yX1 ((sub[0]?).getD fm0) [(n,(Tm.mk true name []))]).2=0
     ·have hq:=yQk (rule:=rule) (r:=⟨rl,rr,op,asks⟩) (term:=term) (name:=name) hfm hop;simp only[if_neg ha0,if_pos ha2,hk,Bool.not_true,bFt,if_false,Fm.subs,Fm.nm,he,ne_eq,nTf] at hq;simp only[go_sem,zE,zA,zL,he,hent,show decide (((0:Nat):Int)=0)=true from rfl];refine (hadd _ _ _ _ _ _ hy0 hy4 hz2 hm (Nat.le_trans (yZu _ _) (by decide)) (yQr hm 1) _).mono ?_;rintro _ _ ⟨tg,xs,rfl,he,hap,hxs,rfl⟩;simp only[go_sem,zE];exact yQ0 (by rw[hq];exact⟨_,_,rfl,he,hap,hxs,rfl⟩)
     ·have hq:=yQk (rule:=rule) (r:=⟨rl,rr,op,asks⟩) (term:=term) (name:=name) hfm hop;simp only[if_neg ha0,if_pos ha2,hk,Bool.not_true,bFt,if_false,Fm.subs,Fm.nm,ne_eq,he,nFt,if_true] at hq;have hd:decide (((yX1 ((sub[0]?).getD fm0) [(n,(Tm.mk true name []))]).2:Int)=0)=false:=dEf (by omega);simp only[go_sem,zE,zA,zL,hd];exact yQ0 (by rw[hq];exact⟨_,_,rfl,.inl rfl,.inl rfl,rfl,rfl⟩)
    ·have d2:decide ((asks:Int)=2)=false:=dEf (by omega);simp only[go_sem,zE,zA,zL,hdop,hd2,l0,l1,i2.len,d0,d2];intros;refine (yV7 gl term _ hz ht _).mono ?_;rintro _ _ ⟨rfl,rfl⟩;cases hk:Tm.ok term
     ·simp only[go_sem,zE];have hq:=yQk (rule:=rule) (r:=⟨rl,rr,op,asks⟩) (term:=term) (name:=name) hfm hop;simp only[if_neg ha0,if_neg ha2,hk,Bool.not_false,if_true] at hq;exact yQ0 (by rw[hq];exact⟨_,_,rfl,.inl rfl,.inl rfl,rfl,rfl⟩)
     simp only[go_sem,zE,zA,zL];refine (zQp gl G T _ _ hz1 (yQr hm 0) n term _ hz ht _).mono ?_;rintro _ _ ⟨y3,rfl,hy3,rfl⟩;have hy4:=hy3;obtain⟨o8,n8,t8,x8,t9,x9,rfl⟩:=hy3.agg;by_cases he:(yX1 ((sub[0]?).getD fm0) [(n,term)]).2=0
     ·have hq:=yQk (rule:=rule) (r:=⟨rl,rr,op,asks⟩) (term:=term) (name:=name) hfm hop;simp only[if_neg ha0,if_neg ha2,hk,Bool.not_true,bFt,if_false,Fm.subs,Fm.nm,he,ne_eq,nTf] at hq;simp only[go_sem,zE,zA,zL,he,hent,show decide (((0:Nat):Int)=0)=true from rfl];refine (hadd _ _ _ _ _ _ hy0 hy4 hz2 hm (Nat.le_trans (yZu _ _) (by decide)) (yQr hm 1) _).mono ?_;rintro _ _ ⟨tg,xs,rfl,he,hap,hxs,rfl⟩;simp only[go_sem,zE];exact yQ0 (by rw[hq];exact⟨_,_,rfl,he,hap,hxs,rfl⟩)
     ·have hq:=yQk (rule:=rule) (r:=⟨rl,rr,op,asks⟩) (term:=term) (name:=name) hfm hop;simp only[if_neg ha0,if_neg ha2,hk,Bool.not_true,bFt,if_false,Fm.subs,Fm.nm,ne_eq,he,nFt,if_true] at hq;have hd:decide (((yX1 ((sub[0]?).getD fm0) [(n,term)]).2:Int)=0)=false:=dEf (by omega);simp only[go_sem,zE,zA,zL,hd];exact yQ0 (by rw[hq];exact⟨_,_,rfl,.inl rfl,.inl rfl,rfl,rfl⟩)
  ·by_cases ha0:asks=0
   ·have d0:decide ((asks:Int)=0)=true:=dEt (by omega);have hq:=yQk (rule:=rule) (r:=⟨rl,rr,op,asks⟩) (term:=term) (name:=name) hfm hop;simp only[if_pos ha0,Fm.subs] at hq;simp only[go_sem,zE,zA,zL,hdop,l0,l1,i2.len,d0,hent];intros;refine (hadd _ _ _ _ _ _ hy0 hz1 hz2 hm (yQr hm 0) (yQr hm 1) _).mono ?_;rintro _ _ ⟨tg,xs,rfl,he,hap,hxs,rfl⟩;simp only[go_sem,zE];exact yQ0 (by rw[hq];exact⟨_,_,rfl,he,hap,hxs,rfl⟩)
   ·have d0:decide ((asks:Int)=0)=false:=dEf (by omega);by_cases ha2:asks=2
    ·have d2:decide ((asks:Int)=2)=true:=dEt (by omega);simp only[go_sem,zE,zA,zL,hdop,l0,l1,i2.len,d0,d2,fits];intros;refine (yV7 gl (Tm.mk true name []) _ (show IsTm (Tm.mk true name []) _ from⟨_,_,rfl,.inl rfl,rfl⟩) (by show 1<=_;decide) _).mono ?_;rintro _ _ ⟨rfl,rfl⟩;cases hk:Tm.ok (Tm.mk true name [])
     ·simp only[go_sem,zE];have hq:=yQk (rule:=rule) (r:=⟨rl,rr,op,asks⟩) (term:=term) (name:=name) hfm hop;simp only[if_neg ha0,if_pos ha2,hk,Bool.not_false,if_true] at hq;exact yQ0 (by rw[hq];exact⟨_,_,rfl,.inl rfl,.inl rfl,rfl,rfl⟩)
     simp only[go_sem,zE,zA,zL];refine (zQp gl G T _ _ hz1 (yQr hm 0) n (Tm.mk true name []) _ (show IsTm (Tm.mk true name []) _ from⟨_,_,rfl,.inl rfl,rfl⟩) (by show 1<=_;decide) _).mono ?_;rintro _ _ ⟨y3,rfl,hy3,rfl⟩;have hy4:=hy3;obtain⟨o8,n8,t8,x8,t9,x9,rfl⟩:=hy3.agg;by_cases he:(yX1 ((sub[0]?).getD fm0) [(n,(Tm.mk true name []))]).2=0
     ·have hq:=yQk (rule:=rule) (r:=⟨rl,rr,op,asks⟩) (term:=term) (name:=name) hfm hop;simp only[if_neg ha0,if_pos ha2,hk,Bool.not_true,bFt,if_false,Fm.subs,Fm.nm,he,ne_eq,nTf] at hq;simp only[go_sem,zE,zA,zL,he,hent,show decide (((0:Nat):Int)=0)=true from rfl];refine (hadd _ _ _ _ _ _ hy0 hy4 hz2 hm (Nat.le_trans (yZu _ _) (by decide)) (yQr hm 1) _).mono ?_;rintro _ _ ⟨tg,xs,rfl,he,hap,hxs,rfl⟩;simp only[go_sem,zE];exact yQ0 (by rw[hq];exact⟨_,_,rfl,he,hap,hxs,rfl⟩)
     ·have hq:=yQk (rule:=rule) (r:=⟨rl,rr,op,asks⟩) (term:=term) (name:=name) hfm hop;simp only[if_neg ha0,if_pos ha2,hk,Bool.not_true,bFt,if_false,Fm.subs,Fm.nm,ne_eq,he,nFt,if_true] at hq;have hd:decide (((yX1 ((sub[0]?).getD fm0) [(n,(Tm.mk true name []))]).2:Int)=0)=false:=dEf (by omega);simp only[go_sem,zE,zA,zL,hd];exact yQ0 (by rw[hq];exact⟨_,_,rfl,.inl rfl,.inl rfl,rfl,rfl⟩)
    ·have d2:decide ((asks:Int)=2)=false:=dEf (by omega);simp only[go_sem,zE,zA,zL,hdop,l0,l1,i2.len,d0,d2];intros;refine (yV7 gl term _ hz ht _).mono ?_;rintro _ _ ⟨rfl,rfl⟩;cases hk:Tm.ok term
     ·simp only[go_sem,zE];have hq:=yQk (rule:=rule) (r:=⟨rl,rr,op,asks⟩) (term:=term) (name:=name) hfm hop;simp only[if_neg ha0,if_neg ha2,hk,Bool.not_false,if_true] at hq;exact yQ0 (by rw[hq];exact⟨_,_,rfl,.inl rfl,.inl rfl,rfl,rfl⟩)
     simp only[go_sem,zE,zA,zL];refine (zQp gl G T _ _ hz1 (yQr hm 0) n term _ hz ht _).mono ?_;rintro _ _ ⟨y3,rfl,hy3,rfl⟩;have hy4:=hy3;obtain⟨o8,n8,t8,x8,t9,x9,rfl⟩:=hy3.agg;by_cases he:(yX1 ((sub[0]?).getD fm0) [(n,term)]).2=0
     ·have hq:=yQk (rule:=rule) (r:=⟨rl,rr,op,asks⟩) (term:=term) (name:=name) hfm hop;simp only[if_neg ha0,if_neg ha2,hk,Bool.not_true,bFt,if_false,Fm.subs,Fm.nm,he,ne_eq,nTf] at hq;simp only[go_sem,zE,zA,zL,he,hent,show decide (((0:Nat):Int)=0)=true from rfl];refine (hadd _ _ _ _ _ _ hy0 hy4 hz2 hm (Nat.le_trans (yZu _ _) (by decide)) (yQr hm 1) _).mono ?_;rintro _ _ ⟨tg,xs,rfl,he,hap,hxs,rfl⟩;simp only[go_sem,zE];exact yQ0 (by rw[hq];exact⟨_,_,rfl,he,hap,hxs,rfl⟩)
     ·have hq:=yQk (rule:=rule) (r:=⟨rl,rr,op,asks⟩) (term:=term) (name:=name) hfm hop;simp only[if_neg ha0,if_neg ha2,hk,Bool.not_true,bFt,if_false,Fm.subs,Fm.nm,ne_eq,he,nFt,if_true] at hq;have hd:decide (((yX1 ((sub[0]?).getD fm0) [(n,term)]).2:Int)=0)=false:=dEf (by omega);simp only[go_sem,zE,zA,zL,hd];exact yQ0 (by rw[hq];exact⟨_,_,rfl,.inl rfl,.inl rfl,rfl,rfl⟩)
theorem xXl:lenI prog 3=none:=by kernel_rfl
theorem yU9 (n:Nat):yXh none (some 0) n=some (0,0):=by simp[yXh]
theorem zZg (n:Nat):yXh none (some ((0:Nat):Int)) n=some (0,0):=yU9 n
theorem vZn (n:Nat)(hn:n<=1099511627776)(st:ISt):ICall prog gl 131 [.sl ⟨true,.nil,0⟩ [],.raw (.int .i64 n)] st (λr st' =>
  (n=0/\r=.sl ⟨true,.nil,0⟩ []/\st'=st)\/(∃g cap,st g=none/\n<=cap/\r=.raw (.slice (some ⟨g,0,none⟩) 0 cap)/\st'=st.put g (some (.box (List.replicate (cap*4) .junk))))):=by
 have h1:decide ((n:Int)<0)=false:=dEf (by omega);have h2:IntKind.i64.wrap ((0:Int)-((0:Nat):Int))=0:=rfl;have h3:IntKind.i64.wrap ((n:Int)-0)=n:=w64 (by omega) (by omega);refine iI func131 ?_;by_cases hz:n=0
 ·subst hz;simp only[go_sem,zE,zL,reduceCtorEq,h1,h2,h3,show decide ((0:Int)<((0:Nat):Int))=false from rfl];refine yQ0 (.inl ?_);simp
 ·have h4:decide ((0:Int)<(n:Int))=true:=dEt (by omega);simp only[go_sem,zE,zL,reduceCtorEq,h1,h2,h3,h4,yU9,xXl];refine yZ4 ⟨rfl,by omega,by show (n:Int)*72<=_;omega,by omega,by decide⟩ λg cap=>yQ9 λhg=>?_;obtain⟨hg,hc⟩:=hg;rw[Int.toNat_natCast] at hc;simp only[go_sem,zE,zL,reduceCtorEq,Int.toNat_natCast,zZg,ite_self,Nat.zero_mul,hc];exact yQ0 (.inr ⟨g,cap,hg,hc,rfl,rfl⟩)
def catL (l:List (Tag×List IV)):List IV:=l.flatMap (·.2)
def catI (l:List (Tag×List IV)):List IV:=l.map λp=>.sl p.1 p.2
theorem yY9 {l:List (Tag×List IV)}{k:Nat}{p:Tag×List IV}(h:l[k]?=some p):(catI l)[k]?=some (.sl p.1 p.2):=by simp[catI,List.getElem?_map,h]
theorem yZy {l:List (Tag×List IV)}{k:Nat}{p:Tag×List IV}(h:l[k]?=some p):catL (l.take (k+1))=catL (l.take k)++p.2:=by
 rw[yQ7 h];simp[catL]
theorem yWl (l:List (Tag×List IV))(k:Nat):(catL (l.take k)).length<=(catL l).length:=by
 conv=>rhs;rw[<- List.take_append_drop k l]
 unfold catL;rw[List.flatMap_append,lLa];omega
theorem yWz:∀ {l:List Fm}{xs:List IV},IsFms l xs->∀y∈xs,fits true 4 y=true
 | [],_,rfl,y,h=>by cases h
 | a::l,_,⟨x,xs,rfl,hx,hl⟩,y,h=>by
  rcases List.mem_cons.1 h with rfl|h
  ·obtain⟨o,n,t,x,t',x',rfl⟩:=hx.agg;simp[fits,IV.one]
  ·exact yWz hl y h
theorem wVm {y:IV}(h:fits true 4 y=true):y.cells.length=4:=(yZp h).2.1
theorem uQ8 {l:List IV}(h:∀y∈l,fits true 4 y=true):(l.flatMap IV.cells).length=l.length*4:=yQm l λx hx=>wVm (h x hx)
theorem wXf (l:List (Tag×List IV))(tt:Tag)(htt:okEs tt 1)(hfit:∀p∈l,∀y∈p.2,fits true 4 y=true)(hlen:(catL l).length<=1099511627776)(st:ISt) :
  ICall prog gl 97 [.sl tt (catI l)] st (λr st'=>(∃t,r=.sl t []/\okEs t 4/\catL l=[]/\st'=st) \/
   ∃g cap cs,st g=none/\(catL l).length<=cap/\cap*4<=cs.length/\cs.take ((catL l).length*4)=(catL l).flatMap IV.cells/\r=.raw (.slice (some ⟨g,0,none⟩) (catL l).length cap)/\st'=st.put g (some (.box cs))):=by
 have hli:(catI l).length=l.length:=by simp[catI]
 have hfc:∀y∈catL l,fits true 4 y=true:=λy hy=>by
  obtain⟨p,hp,hy⟩:=List.mem_flatMap.1 hy;exact hfit p hp y hy
 refine iI func97 ?_;simp only[go_sem,reduceCtorEq,hli];intro hl;refine LoopC.ctr l.length (λk fr st' ds=>fr 0=.iv (.sl tt (catI l))/\fr 3=.iv (.raw (.int .i64 (catL (l.take k)).length))/\fr 9=.iv (.sl tt (catI l))/\fr 10=.iv (.raw (.int .i64 l.length))/\fr 11=.iv (.raw (.int .i64 k))/\st'=st/\ds=[]) ?_ ?_ ?_
 ·simp only[go_sem,zE,reduceCtorEq];simp[catL]
 ·rintro k fr st1 _ hlt ⟨f0,f3,f9,f10,f11,rfl,rfl⟩;obtain⟨p,hp⟩:=yQ3 hlt;have h1:=yWl l k;have h2:=yWl l (k+1);rw[yZy hp,lLa] at h2;have h3:IntKind.i64.wrap ((((catL (l.take k)).length:Nat):Int)+((p.2.length:Nat):Int))=((catL (l.take (k+1))).length:Nat):=by
   rw[w64 (by omega) (by omega),yZy hp,lLa];omega
  have h4:decide ((((catL (l.take (k+1))).length:Nat):Int)<0)=false:=dEf (by omega);simp only[go_sem,zE,f3,f9,f10,f11,lt_i hlt,yQ4 htt,iNn,yY9 hp,fits,h3];intro hpl;simp only[go_sem,zE,reduceCtorEq,h3,h4,f0,f9,f10,f11,yQf hlt (show l.length<=281474976710656 by omega)]
 ·rintro fr st1 _ ⟨f0,f3,f9,f10,f11,rfl,rfl⟩;rw[lTl] at f3;simp only[go_sem,zE,zA,f3,f10,f11,yQo (nLi _)];refine (vZn gl (catL l).length hlen _).mono ?_;have loop:∀(I:Nat->IV->ISt->Prop),True:=λ_=>trivial;rintro r st2 (⟨hz,rfl,rfl⟩|⟨g,cap,hg,hcap,rfl,rfl⟩)
  ·have hnil:catL l=[]:=List.eq_nil_of_length_eq_zero hz;simp only[go_sem,reduceCtorEq,f0,hli];intro _;refine LoopC.ctr l.length (λk fr st' ds=>(∃t,fr 6=.iv (.sl t [])/\t.cap=.nil)/\fr 25=.iv (.sl tt (catI l))/\fr 26=.iv (.raw (.int .i64 l.length))/\fr 27=.iv (.raw (.int .i64 k))/\st'=st2/\ds=[]) ?_ ?_ ?_
   ·simp only[go_sem,zE];exact⟨⟨_,rfl,rfl⟩,rfl⟩
   ·rintro k fr st1 _ hlt ⟨⟨t,f6,ht⟩,f25,f26,f27,rfl,rfl⟩;obtain⟨p,hp⟩:=yQ3 hlt;have hp0:p.2=[]:=by
     have:=yZy hp;have h2:=yWl l (k+1);rw[this,lLa,hnil,List.length_nil] at h2;exact List.eq_nil_of_length_eq_zero (by omega)
    obtain⟨fs,c,es⟩:=t;obtain rfl:c=.nil:=ht;simp only[go_sem,zE,zA,zM,zL,f6,f25,f26,f27,lt_i hlt,yQ4 htt,iNn,yY9 hp,fits,hp0,yQf hlt (show l.length<=281474976710656 by omega)];exact⟨_,rfl,rfl⟩
   ·rintro fr st1 _ ⟨⟨t,f6,ht⟩,f25,f26,f27,rfl,rfl⟩;simp only[go_sem,zE,f6,f26,f27,yQo (nLi _)];exact yQ0 (.inl ⟨_,rfl,.inl ht,hnil,rfl⟩)
  ·simp only[go_sem,reduceCtorEq,f0,hli];intro _;refine LoopC.ctr l.length (λk fr st' ds=>(∃g cap cs,st1 g=none/\(catL (l.take k)).length<=cap/\cap*4<=cs.length/\cs.take ((catL (l.take k)).length*4)=(catL (l.take k)).flatMap IV.cells/\fr 6=.iv (.raw (.slice (some ⟨g,0,none⟩) (catL (l.take k)).length cap))/\st'=st1.put g (some (.box cs)))/\fr 25=.iv (.sl tt (catI l))/\fr 26=.iv (.raw (.int .i64 l.length))/\fr 27=.iv (.raw (.int .i64 k))/\ds=[]) ?_ ?_ ?_
   ·simp only[go_sem,zE];exact⟨⟨g,cap,_,hg,by simp[catL],by simp,by simp[catL],by simp[catL],rfl⟩,rfl⟩
   ·rintro k fr st' _ hlt ⟨⟨g,cap,cs,hg,hc1,hc2,hc3,f6,rfl⟩,f25,f26,f27,rfl⟩;obtain⟨p,hp⟩:=yQ3 hlt;have h2:=yWl l (k+1);rw[yZy hp,lLa] at h2;have hpf:=hfit p (lMg hp);simp only[go_sem,zE,zA,f6,f25,f26,f27,lt_i hlt,yQ4 htt,iNn,yY9 hp,fits];refine yXc _ _ _ (ISt.put_same ..) (List.all_eq_true.2 hpf) ⟨by show _*72<=_;omega,by omega⟩ ⟨hc1,hc2⟩ (uQ8 hpf) ?_;intro g' cap' cs' hg' k1 k2 k3;simp only[go_sem,zE,f25,f26,f27,yQf hlt (show l.length<=281474976710656 by omega)];have hst':((st1.put g (some (.box cs))).put g none).put g' (some (.box cs'))=st1.put g' (some (.box cs')):=by
     funext c;simp only[ISt.put_apply];split
     ·rfl
     ·split
      ·subst_vars;exact hg.symm
      ·rfl
    have hg1:st1 g'=none:=by
     rcases hg' with rfl|h
     ·exact hg
     ·rw[ISt.put_apply] at h;split at h
      ·cases h
      ·exact h
    refine⟨g',cap',cs',hg1,?_,k2,?_,?_,hst'⟩
    ·rw[yZy hp,lLa];exact k1
    ·rw[yZy hp,lLa,List.flatMap_append,<- hc3];exact k3
    ·rw[yZy hp,lLa]
   ·rintro fr st' _ ⟨⟨g,cap,cs,hg,hc1,hc2,hc3,f6,rfl⟩,f25,f26,f27,rfl⟩;rw[lTl] at *;simp only[go_sem,zE,f6,f26,f27,yQo (nLi _)];exact yQ0 (.inr ⟨g,cap,cs,hg,hc1,hc2,hc3,rfl,rfl⟩)
theorem wXg (l1 l2:List Fm)(t1 t2 tt:Tag)(x1 x2:List IV)(htt:okEs tt 1)(h1:IsFms l1 x1)(h2:IsFms l2 x2)(hlen:l1.length+l2.length<=1099511627776)(st:ISt) :
  ICall prog gl 97 [.sl tt [.sl t1 x1,.sl t2 x2]] st (λr st'=>∃t ys,r=.sl t ys/\okEs t 4/\IsFms (l1++l2) ys/\st'=st):=by
 have hc:catL [(t1,x1),(t2,x2)]=x1++x2:=by simp[catL]
 have hf:=h1.append h2;have hlx:(x1++x2).length<=1099511627776:=by rw[hf.len,lLa];exact hlen
 have key:=wXf gl [(t1,x1),(t2,x2)] tt htt (λp hp y hy=>by
  rcases List.mem_cons.1 hp with rfl|hp
  ·exact yWz h1 y hy
  ·obtain rfl:=List.mem_singleton.1 hp;exact yWz h2 y hy) (by rw[hc];exact hlx) st
 rw[hc] at key;refine ICall.fix (key.mono λr st' h=>?_);rcases h with⟨t,rfl,ht,hn,rfl⟩|⟨g,cap,cs,hg,hc1,hc2,hc3,rfl,rfl⟩
 ·exact⟨.sl t [],(λ_=>none),st',LendOk.mk (λb o h=>by cases h) (subSt.refl _) (λb cs h=>by cases h),.refl _,⟨false,t.cap,t.es⟩,[],by simp only[age,ages],ht,hn▸hf,rfl⟩
 ·have hcell:∀y∈x1++x2,y.cells.length=4:=λy hy=>wVm (yWz hf y hy);refine⟨.sl ⟨true,.app g,4⟩ (x1++x2),ISt.put (λ_=>none) g (some (.box cs)),st,⟨λb o h=>?_,yQn hg,λb cs' h=>?_⟩,.sl g cap ⟨true,.app g,4⟩ (x1++x2) cs rfl (by omega) hc1 hcell (ISt.put_same ..) hc2 λi r c hr hx=>?_,⟨false,.app g,4⟩,ages (x1++x2),by simp only[age],.inr rfl,hf.aged,rfl⟩
  ·rw[ISt.put_apply] at h ⊢;split at h
   ·rename_i hb;rw[if_pos hb];exact h
   ·cases h
  ·rw[ISt.put_apply] at h;split at h
   ·rename_i hb;rw[hb];exact hg
   ·cases h
  ·have hi:i<(x1++x2).length*4:=by
    have:=(lGs hx).1
    rwa [yQm _ hcell] at this
   have:(cs.take ((x1++x2).length*4))[i]?=cs[i]?:=by rw[List.getElem?_take,if_pos hi]
   rw[hc3,hx,hr] at this;cases this;exact .refl _
theorem yWs:∀ {l:List Fm}{g:Fm},g∈l->g.size<=yQb l
 | a::l,g,h=>by
  simp only[yQb];rcases List.mem_cons.1 h with rfl|h
  ·omega
  ·have:=yWs h;omega
end Go.Proofs.Tryz
namespace Go.Proofs
open Go.Shelf
def Tryz.sortFL_ren:Go.Shelf.Ren:=⟨λ| 6=>90|15=>121|14=>120|28=>162|29=>163|20=>154|21=>155|22=>156|23=>157|24=>158|25=>159|26=>160|27=>161|46=>202|47=>203|48=>204|49=>205|50=>206|57=>242|n=>n,λ| 22=>22|24=>31|25=>175|3=>3|39=>185|0=>0|53=>262|55=>264|4=>4|46=>256|45=>255|50=>125|5=>5|9=>9|66=>286|70=>290|76=>307|77=>308|n=>n,λ| n=>n⟩
theorem Tryz.sortFL:Go.Proofs.SlLaysF0.n6 Tryz.prog Tryz.sortFL_ren:={
 mixed:=by kernel_rfl
 f6:=⟨Tryz.f90.name,by decide,Tryz.func90.trans (congrArg some (by kernel_rfl))⟩
 f14:=⟨Tryz.f120.name,by decide,Tryz.func120.trans (congrArg some (by kernel_rfl))⟩
 f15:=Tryz.func121.trans (congrArg some (by kernel_rfl))
 f20:=⟨Tryz.f154.name,by decide,Tryz.func154.trans (congrArg some (by kernel_rfl))⟩
 f21:=⟨Tryz.f155.name,by decide,Tryz.func155.trans (congrArg some (by kernel_rfl))⟩
 f22:=⟨Tryz.f156.name,by decide,Tryz.func156.trans (congrArg some (by kernel_rfl))⟩
 f23:=⟨Tryz.f157.name,by decide,Tryz.func157.trans (congrArg some (by kernel_rfl))⟩
 f24:=⟨Tryz.f158.name,by decide,Tryz.func158.trans (congrArg some (by kernel_rfl))⟩
 f25:=⟨Tryz.f159.name,by decide,Tryz.func159.trans (congrArg some (by kernel_rfl))⟩
 f26:=⟨Tryz.f160.name,by decide,Tryz.func160.trans (congrArg some (by kernel_rfl))⟩
 f27:=⟨Tryz.f161.name,by decide,Tryz.func161.trans (congrArg some (by kernel_rfl))⟩
 f28:=Tryz.func162.trans (congrArg some (by kernel_rfl))
 f29:=Tryz.func163.trans (congrArg some (by kernel_rfl))
 f46:=⟨Tryz.f202.name,by decide,Tryz.func202.trans (congrArg some (by kernel_rfl))⟩
 f47:=Tryz.func203.trans (congrArg some (by kernel_rfl))
 f48:=Tryz.func204.trans (congrArg some (by kernel_rfl))
 f49:=⟨Tryz.f205.name,by decide,Tryz.func205.trans (congrArg some (by kernel_rfl))⟩
 f50:=⟨Tryz.f206.name,by decide,Tryz.func206.trans (congrArg some (by kernel_rfl))⟩
 f57:=⟨Tryz.f242.name,by decide,Tryz.func242.trans (congrArg some (by kernel_rfl))⟩
 t0:=Tryz.underlying0
 a0:=Tryz.isAgg0
 z0:=Tryz.sizeOf0
 v0:=Tryz.zeroValue0
 t3:=Tryz.underlying3
 a3:=Tryz.isAgg3
 z3:=Tryz.sizeOf3
 v3:=Tryz.zeroValue3
 t4:=Tryz.underlying4
 a4:=Tryz.isAgg4
 z4:=Tryz.sizeOf4
 v4:=Tryz.zeroValue4
 t5:=Tryz.underlying5
 a5:=Tryz.isAgg5
 z5:=Tryz.sizeOf5
 v5:=Tryz.zeroValue5
 t9:=Tryz.underlying9
 a9:=Tryz.isAgg9
 z9:=Tryz.sizeOf9
 v9:=Tryz.zeroValue9
 t22:=Tryz.underlying22
 a22:=Tryz.isAgg22
 z22:=Tryz.sizeOf22
 v22:=Tryz.zeroValue22
 t25:=Tryz.underlying175
 a25:=Tryz.isAgg175
 z25:=Tryz.sizeOf175
 v25:=Tryz.zeroValue175
 t39:=Tryz.underlying185
 a39:=Tryz.isAgg185
 z39:=Tryz.sizeOf185
 v39:=Tryz.zeroValue185
 t45:=Tryz.underlying255
 a45:=Tryz.isAgg255
 z45:=Tryz.sizeOf255
 v45:=Tryz.zeroValue255
 t46:=Tryz.underlying256
 a46:=Tryz.isAgg256
 z46:=Tryz.sizeOf256
 v46:=Tryz.zeroValue256
 t50:=Tryz.underlying125
 a50:=Tryz.isAgg125
 z50:=Tryz.sizeOf125
 v50:=Tryz.zeroValue125
 t53:=Tryz.underlying262
 a53:=Tryz.isAgg262
 z53:=Tryz.sizeOf262
 v53:=Tryz.zeroValue262
 t55:=Tryz.underlying264
 a55:=Tryz.isAgg264
 z55:=Tryz.sizeOf264
 v55:=Tryz.zeroValue264
 t66:=Tryz.underlying286
 a66:=Tryz.isAgg286
 z66:=Tryz.sizeOf286
 v66:=Tryz.zeroValue286
 t70:=Tryz.underlying290
 a70:=Tryz.isAgg290
 z70:=Tryz.sizeOf290
 v70:=Tryz.zeroValue290
 t76:=Tryz.underlying307
 a76:=Tryz.isAgg307
 z76:=Tryz.sizeOf307
 v76:=Tryz.zeroValue307
 t77:=Tryz.underlying308
 a77:=Tryz.isAgg308
 z77:=Tryz.sizeOf308
 v77:=Tryz.zeroValue308 }
namespace Tryz
open Go Go.Iv
theorem xZq:tyI Tryz.prog (Tryz.sortFL_ren.t 24)=some (true,4):=by kernel_rfl
theorem xWk (w:World):(isAgg (Tryz.sortFL_ren.t 24)).run Tryz.prog w=.ok true w:=(yZn xZq w).1
theorem xK3 (w:World):(Go.sizeOf (Tryz.sortFL_ren.t 24)).run Tryz.prog w=.ok 4 w:=(yZn xZq w).2
end Tryz
end Go.Proofs
namespace Go.Proofs.Tryz
set_option maxRecDepth 4000
open Go Go.Iv Go.Sort Go.Shelf Go.RowKit
variable (gl:Nat->Option IV)
section
variable {α:Type} [Inhabited α]{enc:α->List Value}{k:Nat}
theorem zYr (hk:∀x,(enc x).length=k)(h0:0<k):∀(l:List α) (t:Nat),t<l.length*k->(l.flatMap enc)[t]?=some ((enc l[t / k]!)[t%k]!)
 | [],t,h=>by simp at h
 | a::l,t,h=>by
  rw[List.flatMap_cons];by_cases ht:t<k
  ·rw[List.getElem?_append_left (by rw[hk];exact ht),Nat.div_eq_of_lt ht,Nat.mod_eq_of_lt ht];rw[List.getElem?_eq_getElem (by rw[hk];exact ht)];simp only[List.getElem!_cons_zero];rw[getElem!_pos _ t (by rw[hk];exact ht)]
  ·obtain⟨s,rfl⟩:∃s,t=s+k:=⟨t-k,by omega⟩
   rw[List.getElem?_append_right (by rw[hk];omega),hk,Nat.add_sub_cancel,zYr hk h0 l s (by rw[List.length_cons,Nat.succ_mul] at h;omega),Nat.add_div_right _ h0,Nat.add_mod_right];simp
theorem zYq (hk:∀x,(enc x).length=k):∀l:List α,(l.flatMap enc).length=l.length*k
 | []=>by simp
 | a::l=>by rw[List.flatMap_cons,lLa,hk,zYq hk l,List.length_cons,Nat.succ_mul,Nat.add_comm]
theorem yY0 (hk:∀x,(enc x).length=k)(h0:0<k)(d:Array α):(flatK enc k d).toList=d.toList.flatMap enc:=by
 have hl:(d.toList.flatMap enc).length=d.size*k:=by rw[zYq hk,Array.length_toList]
 apply List.ext_getElem?;intro t;by_cases ht:t<d.size*k
 ·rw[zYr hk h0 d.toList t (by simpa using ht)];have h1:=get_flatK enc k d t ht;rw[getElem!_pos _ t (by rw[size_flatK];exact ht)] at h1;rw[Array.getElem?_toList,Array.getElem?_eq_getElem (by rw[size_flatK];exact ht),h1];congr 3;rw[Array.getElem!_toList]
 ·rw[List.getElem?_eq_none (show (flatK enc k d).toList.length<=t by rw[Array.length_toList,size_flatK];omega),List.getElem?_eq_none (show (d.toList.flatMap enc).length<=t by rw[hl];omega)]
end
section
variable {α:Type} [Inhabited α]{enc:α->List Value}{k:Nat}{w:World}{b m:Nat}{dk:Array α}{os:Array Obj}
theorem zQq {c:Array Value}{T:TypeId}{f:Nat×Nat}(hh:w.heap[b]?=some (.cells c T f)):(sortWorldK enc k w b 0 m dk os).heap[b]?=some (.cells (putCells id 0 (flatK enc k dk) c) T f):=by
 have hb:=(Array.getElem?_eq_some_iff.1 hh).1;unfold sortWorldK;rw[heap_grow_old _ _ (by show b<(putRowK enc k _ b 0 dk).heap.size;simpa[putRowK] using hb)];show (w.heap.modify b (onCells (putCells id 0 (flatK enc k dk))))[b]?=_;rw[Array.getElem?_modify,if_pos rfl,hh];rfl
theorem yXe {j:Nat}(hj:j≠b)(hlt:j<w.heap.size):(sortWorldK enc k w b 0 m dk os).heap[j]?=w.heap[j]?:=by
 unfold sortWorldK;rw[heap_grow_old _ _ (by show j<(putRowK enc k _ b 0 dk).heap.size;simpa[putRowK] using hlt)];show (w.heap.modify b (onCells (putCells id 0 (flatK enc k dk))))[j]?=_;rw[Array.getElem?_modify,if_neg (λh=>hj h.symm)]
theorem yGf {F c:Array Value}(h:F.size<=c.size):(putCells id 0 F c).toList=F.toList++c.toList.drop F.size:=by
 apply List.ext_getElem?;intro i;unfold putCells;rw[Array.getElem?_toList,Array.getElem?_mapIdx];by_cases hi:i<F.size
 ·rw[List.getElem?_append_left (by simpa using hi),Array.getElem?_toList,Array.getElem?_eq_getElem (show i<c.size by omega),Array.getElem?_eq_getElem hi];simp only[Option.map_some,id,Nat.zero_add,Nat.zero_le,true_and,if_pos hi,Nat.sub_zero];rw[getElem!_pos F i hi]
 ·rw[List.getElem?_append_right (by simpa using hi),List.getElem?_drop,Array.length_toList,Array.getElem?_toList];rw[show F.size+(i-F.size)=i by omega];cases hc:c[i]? with
  | none=>rfl
  | some v=>simp only[Option.map_some,Nat.zero_add,Nat.zero_le,true_and,if_neg hi]
end
theorem zXs {X X':WS}(he:Ext X X')(hst:∀b,X.st b=none)(hd:X.w.drawn<=X'.w.drawn):∃q os,X'.w=grow (X.w.drewN q) os:=by
 refine⟨X'.w.drawn-X.w.drawn,X'.w.heap.extract X.w.heap.size X'.w.heap.size,?_⟩;have h1:X'.w.heap=X.w.heap++X'.w.heap.extract X.w.heap.size X'.w.heap.size:=by
  apply Array.ext_getElem?;intro i;by_cases hi:i<X.w.heap.size
  ·rw[Array.getElem?_append_left hi];exact (he.keep i hi (hst i)).1
  ·rw[Array.getElem?_append_right (by omega),Array.getElem?_extract];have:=he.size;split
   ·congr 1;omega
   ·rw[Array.getElem?_eq_none (by omega)]
 have h2:=he.os;have h3:=he.tape;have h4:=he.output;generalize X'.w=w' at *;generalize X.w=w at *;obtain⟨hp,tp,dr,os,out⟩:=w';obtain⟨hp1,tp1,dr1,os1,out1⟩:=w;simp only at h1 h2 h3 h4 hd;subst h2 h3 h4;simp only[grow,World.drewN,World.mk.injEq,and_true,true_and];exact⟨h1,by omega⟩
theorem xVj (g:FuncId)(hent:∀args w,(callFunc g args).run prog w=.ok (.enter g args) w)(xs rest:List IV)(b cap:Nat)(st:ISt)(hne:xs≠[])(hlen:xs.length<=140737488355328)(hx:∀x∈xs,fits true 4 x=true)(hb:st b=some (.box (xs.flatMap IV.cells++rest)))(cf:IV->IV->Int)
  (h1:∀x∈xs,¬ cf x x<0) (h2:∀x∈xs,∀y∈xs,∀z∈xs,cf x y<0->cf y z<0->cf x z<0) (h3:∀x∈xs,∀y∈xs,∀z∈xs,¬ cf x y<0->¬ cf y z<0->¬ cf x z<0)
  (hcmp:∀x∈xs,∀y∈xs,ICall prog (λ_=>none) g [x,y] (λ_=>none) (λr _=>r=.raw (.int .i64 (cf x y)))) :
  ICall prog gl 90 [.raw (.slice (some ⟨b,0,none⟩) xs.length cap),.fn (.func g) [] []] st
   (λr st'=>r=.tup []/\∃ys:List IV,ys.Perm xs/\ys.Pairwise (λx y=>¬ cf y x<0)/\st'=st.put b (some (.box (ys.flatMap IV.cells++rest)))):=by
 intro B X rs hg hst hv;subst hst;obtain⟨r0,r1,rfl⟩:∃r0 r1,rs=[r0,r1]:=by
  match rs,hv with
  | [a,b],_=>exact⟨a,b,rfl⟩
  | [],hv=>cases hv.1
  | [_],hv=>cases hv.1
  | _::_::_::_,hv=>cases hv.1
 obtain rfl:=V.raw_inv (hv.2 0 r0 _ rfl rfl);obtain⟨f1,f2,rfl,hf1,hf2⟩:=V.fn_inv (hv.2 1 r1 _ rfl rfl);obtain rfl:f1=[]:=List.eq_nil_of_length_eq_zero hf1.1;obtain rfl:f2=[]:=List.eq_nil_of_length_eq_zero hf2.1;obtain⟨hL,c,T,hh,hvl⟩:=hg.ok b _ hb;have hblk:b<X.w.heap.size:=hg.lt hb;have hcells:∀x∈xs,x.cells.length=4:=λx hxm=>(yZp (hx x hxm)).2.1;have hcl:c.size=xs.length*4+rest.length:=by
  have:=hvl.1;rw[lLa,yQm xs hcells,Array.length_toList] at this;exact this
 -- the elements
 let α:={ p:IV×List Value // p.1∈xs/\VL B X.L X.w p.2 p.1.cells }
 have hel:∀(l:List IV) (vs:List Value),(∀x∈l,x∈xs)->VL B X.L X.w vs (l.flatMap IV.cells)->∃d:List α,d.map (λa=>a.1.1)=l/\d.flatMap (λa=>a.1.2)=vs:=by
  intro l
  induction l with
  | nil =>
   intro vs _ hvs;exact⟨[],rfl,(List.eq_nil_of_length_eq_zero hvs.1).symm⟩
  | cons x l ih =>
   intro vs hm hvs;have hx4:=hcells x (hm x (by simp));have hlv:vs.length=4+(l.flatMap IV.cells).length:=by rw[hvs.1,List.flatMap_cons,lLa,hx4]
   have ha:VL B X.L X.w (vs.take 4) x.cells:=by
    have:=hvs.take 4
    rwa [List.flatMap_cons,List.take_left' hx4] at this
   have hbv:VL B X.L X.w (vs.drop 4) (l.flatMap IV.cells):=by
    have:=hvs.drop 4
    rwa [List.flatMap_cons,List.drop_left' hx4] at this
   obtain⟨d,hd1,hd2⟩:=ih (vs.drop 4) (λy hy=>hm y (by simp[hy])) hbv;exact⟨⟨(x,vs.take 4),hm x (by simp),ha⟩::d,by simp[hd1],by simp[hd2]⟩
 obtain⟨d,hd1,hd2⟩:=hel xs (c.toList.take (xs.length*4)) (λ_ h=>h) (by
  have:=hvl.take (xs.length*4)
  rwa [List.take_left' (yQm xs hcells)] at this)
 have hdl:d.length=xs.length:=by rw[<- hd1,List.length_map]
 have hdn:d≠[]:=by rintro rfl;exact hne (List.eq_nil_of_length_eq_zero hdl.symm)
 letI:Inhabited α:=⟨d.head hdn⟩
 let enc:α->List Value:=λa=>a.1.2
 have hk:∀a:α,(enc a).length=4:=λa=>by rw[a.2.2.1];exact hcells _ a.2.1
 have hone:∀(a:α),∀v∈enc a,v.oneCell'=true:=λa v hv=>yVq (C:=⟨prog,gl,B⟩) a.2.2 (yZp (hx _ a.2.1)).2.2.1 v hv
 let cf':α->α->Int:=λa a'=>cf a.1.1 a'.1.1
 have hO:SWO (ltOf cf'):=⟨λa=>by simp only[ltOf,decide_eq_false_iff_not];exact h1 _ a.2.1,λa a' a'' p q=>by
   simp only[ltOf,dTe] at p q ⊢;exact h2 _ a.2.1 _ a'.2.1 _ a''.2.1 p q,λa a' a'' p q=>by
   simp only[ltOf,decide_eq_false_iff_not] at p q ⊢;exact h3 _ a.2.1 _ a'.2.1 _ a''.2.1 p q⟩
 have hfl:(flatK enc 4 d.toArray).toList=c.toList.take (xs.length*4):=by
  rw[yY0 hk (by decide)];exact hd2
 have hH:HoldsK enc 4 X.w b 0 d.toArray:=by
  intro j hj;have hj':j<xs.length*4:=by rw[size_flatK] at hj;simpa[hdl] using hj
  have e1:(flatK enc 4 d.toArray)[j]?=c[j]?:=by
   rw[<- Array.getElem?_toList,hfl,List.getElem?_take,if_pos hj',Array.getElem?_toList]
  have hjc:j<c.size:=by omega
  rw[Array.getElem?_eq_getElem hj,Array.getElem?_eq_getElem hjc] at e1;refine⟨?_,?_⟩
  ·rw[Nat.zero_add,yQz hh,Array.getElem?_toList,Array.getElem?_eq_getElem hjc,<- e1,id,getElem!_pos _ j hj]
  ·simp only[World.frozen?,hh];simp
 have hmono:∀(n:Nat) (dk:Array α) (os:Array Obj) (X1:WS),X1.w=sortWorldK enc 4 X.w b 0 n dk os->X1.L=X.L->∀r x,V B X.L X.w r x->V B X1.L X1.w r x:=by
  intro n dk os X1 hw hXL r x hrx;refine V.mono hrx (λj=>by rw[hXL];exact Nat.le_refl _) (λj i hi=>?_) (λj p hp=>?_)
  ·have hjb:j≠b:=by rintro rfl;rw[hL] at hi;omega
   have hjl:j<X.w.heap.size:=by
    rcases Nat.lt_or_ge j X.w.heap.size with h|h
    ·exact h
    ·rw[hg.Lnew j h] at hi;omega
   exact yXm (by rw[hw];exact yXe hjb hjl) i
  ·by_cases hjb:j=b
   ·subst hjb;simp only[shq,hh] at hp;simp only[shq,hw,zQq hh];rw[<- hp];simp[putCells]
   ·rw[<- hp];exact yZq (by rw[hw];exact yXe hjb (yKe hp))
 have hcon:=AnyQ.slices_SortFunc Tryz.sortFL 4 xWk xK3 enc hk hone cf' hO g #[] b 0 cap d.toArray X.w hent (by
   intro n os dk hdk a a'
   let X1:WS:={ w:=sortWorldK enc 4 X.w b 0 n dk os,L:=X.L,st:=λ_=>none,d:=X.w.drawn+n }
   have hsz:=size_sortWorldK_c enc 4 X.w b 0 n dk os;have hg1:Go.Iv.Good ⟨prog,λ_=>none,B⟩ X1:=⟨λ_ _ h=>(by cases h),λ_ _ h=>(by cases h),Nat.le_trans hg.B hsz,λj hj=>hg.Lnew j (Nat.le_trans hsz hj),λ_ _ h=>(by cases h),λ_=>Nat.le_refl _⟩
   have hm1:=hmono n dk os X1 rfl rfl;have agg:∀a:α,V B X1.L X1.w (.agg (enc a).toArray) a.1.1:=λa=>by
    obtain⟨⟨x,vs⟩,hxm,hvx⟩:=a;obtain⟨cs,rfl⟩:∃cs,x=.agg cs:=by
     have:=hx x hxm;cases x<;>first|exact⟨_,rfl⟩|(simp[fits] at this)
    exact (show VL B X1.L X1.w vs cs from⟨hvx.1,λi r c hr hc=>hm1 r c (hvx.2 i r c hr hc)⟩).agg
   refine (hcmp a.1.1 a.2.1 a'.1.1 a'.2.1 B X1 [.agg (enc a).toArray,.agg (enc a').toArray] hg1 rfl (VL.cons (agg a) (VL.cons (agg a') VL.nil))).mono ?_;rintro e w' ⟨v,rfl,X',x,rfl,hg',he',hv',rfl⟩;obtain rfl:=V.raw_inv hv';refine⟨rfl,?_⟩;have hd:=hg'.dr (λ_=>rfl);rw[he'.d] at hd;exact zXs he' (λ_=>rfl) hd) hH hblk (by simp[hdl];omega)
 have harr:(⟨[.slice (some ⟨b,0,none⟩) xs.length cap,.func (.func g) ⟨[]⟩ ⟨[]⟩]⟩:Array Value)=#[.slice (some ⟨b,0,none⟩) d.toArray.size cap,.func (.func g) #[] #[]]:=by simp[hdl]
 rw[harr];refine hcon.mono ?_;rintro e w' ⟨rfl,d',n,os,hp,hs,rfl⟩;have hd'l:d'.size=xs.length:=by rw[hp.1];simp[hdl]
 have hperm:d'.toList.Perm d:=by
  have:=hp.2.2;rw[List.size_toArray,hdl,<- hd'l,Array.extract_size] at this
  rwa [hd'l,<- hdl,show d.toArray.extract 0 d.length=d.toArray by simp] at this
 have hys:∀y∈d'.toList.map (λa=>a.1.1),y∈xs:=λy hy=>by
  obtain⟨a,_,rfl⟩:=List.mem_map.1 hy;exact a.2.1
 have hblock:=zQq (enc:=enc) (k:=4) (m:=n) (dk:=d') (os:=os) hh;have hfs:(flatK enc 4 d').size=xs.length*4:=by rw[size_flatK,hd'l]
 have hpl:(putCells id 0 (flatK enc 4 d') c).toList=d'.toList.flatMap enc++c.toList.drop (xs.length*4):=by
  rw[yGf (by omega),yY0 hk (by decide),hfs]
 let X':WS:={ w:=sortWorldK enc 4 X.w b 0 n d' os,L:=X.L,st:=X.st.put b (some (.box ((d'.toList.map (λa=>a.1.1)).flatMap IV.cells++rest))),d:=X.d }
 have hm:=hmono n d' os X' rfl rfl;have hsz:=size_sortWorldK_c enc 4 X.w b 0 n d' os;have hvlm:∀rs cs,VL B X.L X.w rs cs->VL B X'.L X'.w rs cs:=λrs cs h=>⟨h.1,λi r x hr hx=>hm r x (h.2 i r x hr hx)⟩
 have hgood:Go.Iv.Good ⟨prog,gl,B⟩ X':=by
  refine⟨λj o ho=>?_,λj x hj=>hm _ _ (hg.gl j x hj),Nat.le_trans hg.B hsz,λj hj=>hg.Lnew j (Nat.le_trans hsz hj),λj x hj=>?_,λhd=>Nat.le_trans (hg.dr hd) (Nat.le_add_right _ _)⟩
  ·by_cases hjb:j=b
   ·subst hjb;simp only[X',ISt.put_same,Option.some.injEq] at ho;subst ho;refine⟨hL,_,T,hblock,hvlm _ _ ?_⟩;rw[hpl];refine VL.append ?_ ?_
    ·have key:∀l:List α,VL B X.L X.w (l.flatMap enc) ((l.map λa=>a.1.1).flatMap IV.cells):=λl=>by
      induction l with
      | nil=>exact VL.nil
      | cons a l ih=>simp only[List.flatMap_cons,List.map_cons];exact a.2.2.append ih
     exact key _
    ·have:=hvl.drop (xs.length*4)
     rwa [List.drop_left' (yQm xs hcells)] at this
   ·have ho':X.st j=some o:=by simpa only[X',ISt.put_apply,if_neg hjb] using ho
    exact (hg.ok j o ho').mono (yXe hjb (hg.lt ho')) rfl hvlm
  ·obtain⟨T',z,hT⟩:=hg.gsh j x hj;refine⟨T',z,?_⟩;by_cases hjb:j=b
   ·subst hjb;simp only[shq,hh] at hT;simp only[shq,X',hblock];rw[<- hT];simp[putCells]
   ·rw[<- hT];exact yZq (yXe hjb (yKe hT))
 refine⟨_,rfl,X',.tup [],rfl,hgood,⟨rfl,rfl,rfl,hsz,λ_=>Nat.le_refl _,λj i hi=>?_,λj hj hs0=>?_,λj hj hs0=>?_,λj p hp=>?_,rfl⟩,.tup [] [] rfl (λi r c h=>by simp at h),rfl,_,?_,?_,rfl⟩
 ·have hjb:j≠b:=by rintro rfl;rw[hL] at hi;omega
  have hjl:j<X.w.heap.size:=by
   rcases Nat.lt_or_ge j X.w.heap.size with h|h
   ·exact h
   ·rw[hg.Lnew j h] at hi;omega
  exact yXm (yXe hjb hjl) i
 ·have hjb:j≠b:=by rintro rfl;rw[hb] at hs0;cases hs0
  exact⟨yXe hjb hj,rfl⟩
 ·have hjb:j≠b:=by rintro rfl;rw[hb] at hs0;cases hs0
  simp only[X',ISt.put_apply,if_neg hjb];exact hs0
 ·by_cases hjb:j=b
  ·subst hjb;simp only[shq,hh] at hp;simp only[shq,X',hblock];rw[<- hp];simp[putCells]
  ·rw[<- hp];exact yZq (yXe hjb (yKe hp))
 ·have:=hperm.map (λa:α=>a.1.1)
  rwa [hd1] at this
 ·rw[List.pairwise_map];refine List.pairwise_iff_getElem.2 λi j hi hj hij=>?_;have:=hs i j (Nat.zero_le _) hij (by simp at hj ⊢;omega);simp only[ltOf,decide_eq_false_iff_not] at this;rw[Array.length_toList] at hi hj;rw[getElem!_pos d' i hi,getElem!_pos d' j hj] at this;exact this
end Go.Proofs.Tryz
namespace Go.Proofs.Tryz
open Go Go.Iv Go.Shelf Go.RowKit
set_option maxRecDepth 4000
variable (gl:Nat->Option IV)
mutual
theorem wG7:∀(a b:Tm)(x:IV),IsTm a x->IsTm b x->a=b
 | .mk v n us,.mk w m ws,x,h,k=>by
  obtain⟨t,xs,rfl,_,h1⟩:=h.mk;obtain⟨t',xs',hx,_,h2⟩:=k.mk;simp only[IV.agg.injEq,List.cons.injEq,IV.raw.injEq,Value.bool.injEq,Value.string.injEq,IV.sl.injEq,and_true] at hx;obtain⟨rfl,rfl,rfl,rfl⟩:=hx;rw[zU3 us ws xs h1 h2]
theorem zU3:∀(l m:List Tm)(xs:List IV),IsTms l xs->IsTms m xs->l=m
 | [],[],_,_,_=>rfl
 | [],b::m,xs,h,k=>by
  simp only[IsTms] at h k;obtain⟨y,ys,rfl,_⟩:=k;cases h
 | a::l,[],xs,h,k=>by
  simp only[IsTms] at h k;obtain⟨y,ys,rfl,_⟩:=h;cases k
 | a::l,b::m,xs,h,k=>by
  simp only[IsTms] at h k;obtain⟨y,ys,rfl,h1,h2⟩:=h;obtain⟨y',ys',he,k1,k2⟩:=k;cases he;rw[wG7 a b y h1 k1,zU3 l m ys h2 k2]
end
mutual
theorem wJj:∀(a b:Fm)(x:IV),IsFm a x->IsFm b x->a=b
 | .mk o n us sub,.mk o' m ws sub',x,h,k=>by
  obtain⟨t,xs,t2,xs2,rfl,_,_,h1,_,h2⟩:=h.mk;obtain⟨t',xs',t2',xs2',hx,_,_,k1,_,k2⟩:=k.mk;simp only[IV.agg.injEq,List.cons.injEq,IV.raw.injEq,Value.int.injEq,Value.string.injEq,IV.sl.injEq,and_true,true_and,Int.natCast_inj] at hx;obtain⟨rfl,rfl,⟨rfl,rfl⟩,rfl,rfl⟩:=hx;rw[zU3 us ws xs h1 k1,xGq sub sub' xs2 h2 k2]
theorem xGq:∀(l m:List Fm)(xs:List IV),IsFms l xs->IsFms m xs->l=m
 | [],[],_,_,_=>rfl
 | [],b::m,xs,h,k=>by
  simp only[IsFms] at h k;obtain⟨y,ys,rfl,_⟩:=k;cases h
 | a::l,[],xs,h,k=>by
  simp only[IsFms] at h k;obtain⟨y,ys,rfl,_⟩:=h;cases k
 | a::l,b::m,xs,h,k=>by
  simp only[IsFms] at h k;obtain⟨y,ys,rfl,h1,h2⟩:=h;obtain⟨y',ys',he,k1,k2⟩:=k;cases he;rw[wJj a b y h1 k1,xGq l m ys h2 k2]
end
open Classical in
noncomputable def rdF (x:IV):Fm:=if h:∃a,IsFm a x then h.choose else fm0
theorem xZz {a:Fm}{x:IV}(h:IsFm a x):rdF x=a:=by
 have he:∃a,IsFm a x:=⟨a,h⟩
 unfold rdF;rw[dif_pos he];exact wJj _ _ x he.choose_spec h
theorem xZy:∀ {l:List Fm}{xs:List IV},IsFms l xs->xs.map rdF=l
 | [],_,rfl=>rfl
 | a::l,_,⟨x,xs,rfl,hx,hl⟩=>by rw[List.map_cons,xZz hx,xZy hl]
theorem wJi:∀ {ys:List IV},(∀y∈ys,∃a,IsFm a y)->IsFms (ys.map rdF) ys
 | [],_=>rfl
 | y::ys,h=>by
  obtain⟨a,ha⟩:=h y (by simp);exact⟨y,ys,rfl,by rw[xZz ha];exact ha,wJi λz hz=>h z (by simp[hz])⟩
theorem yUs:∀ {l:List Fm}{xs:List IV},IsFms l xs->∀y∈xs,∃a,IsFm a y/\a∈l
 | [],_,rfl,y,h=>by cases h
 | a::l,_,⟨x,xs,rfl,hx,hl⟩,y,h=>by
  rcases List.mem_cons.1 h with rfl|h
  ·exact⟨a,hx,by simp⟩
  ·obtain⟨b,hb,hm⟩:=yUs hl y h;exact⟨b,hb,by simp[hm]⟩
theorem vZi (l:List Fm)(xs rest:List IV)(hx:IsFms l xs)(hne:xs≠[])(hlen:xs.length<=140737488355328)(b cap:Nat)(st:ISt)(hb:st b=some (.box (xs.flatMap IV.cells++rest))) :
  ICall prog gl 90 [.raw (.slice (some ⟨b,0,none⟩) xs.length cap),.fn (.func 91) [] []] st
   (λr st'=>r=.tup []/\∃(m:List Fm) (ys:List IV),IsFms m ys/\m.Perm l/\m.Pairwise (λx y=>¬ yZa y x<0)/\(∀y∈ys,y∈xs)/\st'=st.put b (some (.box (ys.flatMap IV.cells++rest)))):=by
 refine (xVj gl 91 ?_ xs rest b cap st hne hlen (yWz hx) hb (λx y=>yZa (rdF x) (rdF y)) (λx _=>yV4 _) (λx _ y _ z _=>yVo _ _ _) (λx _ y _ z _ h1 h2 h3=>?_) (λx hxm y hym=>?_)).mono ?_
 ·exact enters_of func91 (by kernel_rfl) rfl
 ·rcases Int.lt_or_le (yZa (rdF y) (rdF x)) 0 with h|h
  ·have:=yVo _ _ _ h h3;exact h2 this
  ·have hxy:yZa (rdF x) (rdF y)=0:=by
    have:=yV3 (rdF x) (rdF y);omega
   rw[(yXt _ _).1 hxy] at h3;exact h2 h3
 ·obtain⟨a,ha,_⟩:=yUs hx x hxm;obtain⟨c,hc,_⟩:=yUs hx y hym;rw[xZz ha,xZz hc];exact (zXk (λ_=>none) a c x y ha hc _).mono λr st' h=>h.1
 ·rintro r st' ⟨rfl,ys,hp,hpw,rfl⟩;refine⟨rfl,ys.map rdF,ys,wJi λy hy=>?_,?_,?_,λy hy=>hp.mem_iff.1 hy,rfl⟩
  ·obtain⟨a,ha,_⟩:=yUs hx y (hp.mem_iff.1 hy);exact⟨a,ha⟩
  ·rw[<- xZy hx];exact hp.map rdF
  ·exact List.pairwise_map.2 hpw
theorem wQ1 (t:Tag)(ht:t.cap=.nil)(st:ISt):ICall prog gl 90 [.sl t [],.fn (.func 91) [] []] st (λr st'=>r=.tup []/\st'=st):=by
 obtain⟨fs,c,es⟩:=t;obtain rfl:c=.nil:=ht;intro B X rs hg hst hv;obtain⟨r0,r1,rfl⟩:∃r0 r1,rs=[r0,r1]:=by
  match rs,hv with
  | [a,b],_=>exact⟨a,b,rfl⟩
  | [],hv=>cases hv.1
  | [_],hv=>cases hv.1
  | _::_::_::_,hv=>cases hv.1
 obtain⟨p,cap,rfl⟩:∃p cap,r0=.slice p 0 cap:=by
  have:=hv.2 0 r0 _ rfl rfl;obtain⟨a,cap,_,_,rfl,_⟩:=V.sl_inv this;exact⟨a,cap,rfl⟩
 refine Calls.mono (AnyF.slices_SortFunc_none Tryz.sortFL p cap r1 X.w) ?_;rintro e w' ⟨rfl,rfl⟩;exact⟨_,rfl,X,.tup [],rfl,hg,Ext.refl X,.tup [] [] rfl (λi r c h=>by simp at h),rfl,hst⟩
noncomputable def ddF (p:Fm):List Fm->List Fm
 | []=>[]
 | b::l=>if yZa b p=0 then ddF b l else b::ddF b l
noncomputable def dd:List Fm->List Fm
 | []=>[]
 | a::l=>a::ddF a l
theorem xJi:∀(p:Fm)(l:List Fm)(a b:Fm),(p::l).getLast?=some a->ddF p (l++[b])=ddF p l++(if yZa b a=0 then [] else [b])
 | p,[],a,b,h=>by
  simp only[List.getLast?_singleton,Option.some.injEq] at h;subst h;simp only[List.nil_append,ddF]
 | p,c::l,a,b,h=>by
  rw[List.getLast?_cons_cons] at h;simp only[List.cons_append,ddF,xJi c l a b h];split<;>rfl
theorem wVu:∀(l:List Fm)(a b:Fm),l.getLast?=some a->dd (l++[b])=dd l++(if yZa b a=0 then [] else [b])
 | p::l,a,b,h=>by simp only[List.cons_append,dd,xJi p l a b h]
theorem xU3 {m:List Fm}{k:Nat}{a b:Fm}(ha:m[k]?=some a)(hb:m[k+1]?=some b):dd (m.take (k+1+1))=dd (m.take (k+1))++(if yZa b a=0 then [] else [b]):=by
 rw[yQ7 hb];exact wVu _ a b (by rw[yQ7 ha,List.getLast?_concat])
theorem xU4:∀(p:Fm)(l:List Fm),(p::l).Pairwise (λx y=>¬ yZa y x<0)->(∀f,f∈p::ddF p l↔f∈p::l)/\(p::ddF p l).Pairwise (λx y=>yZa x y<0)
 | p,[],_=>⟨λf=>Iff.rfl,List.pairwise_singleton ..⟩
 | p,b::l,h=>by
  have h1:=List.pairwise_cons.1 h;obtain⟨i1,i2⟩:=xU4 b l h1.2;simp only[ddF];by_cases hc:yZa b p=0
  ·have hbp:=(yXt b p).1 hc;subst hbp;rw[if_pos hc];refine⟨λf=>?_,i2⟩;rw[i1 f];simp
  ·rw[if_neg hc];have hlt:yZa p b<0:=by
    have:=h1.1 b (by simp);have:=yV3 b p;omega
   refine⟨λf=>?_,List.pairwise_cons.2 ⟨λf hf=>?_,i2⟩⟩
   ·rw[List.mem_cons,i1 f,List.mem_cons (l:=b::l)]
   ·rcases List.mem_cons.1 hf with rfl|hf
    ·exact hlt
    ·exact yVo _ _ _ hlt ((List.pairwise_cons.1 i2).1 f hf)
theorem vZ2 (l m:List Fm)(hp:m.Perm l)(h:m.Pairwise (λx y=>¬ yZa y x<0)):SetF l (dd m):=by
 cases m with
 | nil =>
  obtain rfl:=List.Perm.nil_eq hp;exact⟨List.Pairwise.nil,λf=>Iff.rfl⟩
 | cons a m =>
  obtain⟨h1,h2⟩:=xU4 a m h;exact⟨h2,λf=>(h1 f).trans hp.mem_iff⟩
theorem rd4 {ys rest cs:List IV}(hf:∀y∈ys,y.cells.length=4)(hlen:cs.length=(ys.flatMap IV.cells++rest).length){i:Nat}{y:IV}(hy:ys[i]?=some y)(hc:∀j,i*4<=j->cs[j]?=(ys.flatMap IV.cells++rest)[j]?) :
  i*4+4<=cs.length/\(cs.drop (i*4)).take 4=y.cells:=by
 have hi:=(lGs hy).1;have h0:ys.flatMap IV.cells=(ys.take i).flatMap IV.cells++(y.cells++(ys.drop (i+1)).flatMap IV.cells):=by
  conv=>lhs;rw[<- List.take_append_drop i ys,List.drop_eq_getElem_cons hi,(lGs hy).2]
  rw[List.flatMap_append,List.flatMap_cons]
 have h1:((ys.take i).flatMap IV.cells).length=i*4:=by
  rw[yQm _ λz hz=>hf z (List.mem_of_mem_take hz),List.length_take];omega
 have hy4:=hf y (lMg hy);have hd:cs.drop (i*4)=(ys.flatMap IV.cells++rest).drop (i*4):=by
  apply List.ext_getElem?;intro j;rw[List.getElem?_drop,List.getElem?_drop,hc _ (by omega)]
 refine⟨?_,?_⟩
 ·rw[hlen,h0];simp only[lLa,h1,hy4];omega
 ·rw[hd,h0,List.append_assoc,List.drop_left' h1,List.append_assoc,List.take_left' hy4]
theorem xJ9:∀ {l:List Fm}{xs:List IV}(k:Nat),IsFms l xs->IsFms (l.take k) (xs.take k)
 | [],_,k,rfl=>by simp[IsFms]
 | a::l,_,0,_=>by simp[IsFms]
 | a::l,_,k+1,⟨y,ys,rfl,hy,h⟩=>by
  rw[List.take_succ_cons,List.take_succ_cons];exact⟨y,ys.take k,rfl,hy,xJ9 k h⟩
theorem st4 {cs l:List IV}{k n:Nat}(hl:l.length=n)(h:k*4+n<=cs.length):(yX7 cs (k*4) l).length=cs.length/\(yX7 cs (k*4) l).take (k*4)=cs.take (k*4)/\(yX7 cs (k*4) l).take (k*4+n)=cs.take (k*4)++l/\∀i,k*4+n<=i->(yX7 cs (k*4) l)[i]?=cs[i]?:=by
 have h1:(cs.take (k*4)).length=k*4:=by rw[List.length_take];omega
 have h2:(cs.take (k*4)++l).length=k*4+n:=by rw[lLa,h1,hl]
 unfold yX7;refine⟨?_,?_,List.take_left' h2,λi hi=>?_⟩
 ·rw[lLa,h2,List.length_drop,hl];omega
 ·rw[List.append_assoc,List.take_left' h1]
 ·rw[List.getElem?_append_right (by omega),h2,List.getElem?_drop,hl];congr 1;omega
theorem yKc {k n:Nat}(h:k<=n):yXh (some ((k:Nat):Int)) none n=some (k,n):=by
 simp only[yXh,Option.getD_none,Option.getD_some];rw[if_pos ⟨by omega,by omega,Int.le_refl _⟩];simp
theorem yU5 {k n:Nat}(h:k<=n):yXh none (some ((k:Nat):Int)) n=some (0,k):=by
 simp only[yXh,Option.getD_none,Option.getD_some];rw[if_pos ⟨Int.le_refl _,by omega,by omega⟩];simp
theorem wQ5 (qf:FuncId)(ce:entI prog qf=true)(hcmp:∀a b x y,IsFm a x->IsFm b y->∀st,ICall prog gl qf [x,y] st (λr st'=>r=.raw (.bool (decide (yZa a b=0)))/\st'=st))(m:List Fm)(ys rest:List IV)(hx:IsFms m ys)(hlen:m.length<=1099511627776)(g cap:Nat)(hcap:m.length<=cap)(st:ISt)(hb:st g=some (.box (ys.flatMap IV.cells++rest))) :
  ICall prog gl 92 [.raw (.slice (some ⟨g,0,none⟩) m.length cap),.fn (.func qf) [] []] st
   (λr st'=>∃k cs zs,r=.raw (.slice (some ⟨g,0,none⟩) k cap)/\st'=st.put g (some (.box cs))/\cs.length=(ys.flatMap IV.cells++rest).length/\cs.take (k*4)=zs.flatMap IV.cells/\IsFms (dd m) zs/\zs.length=k/\k<=m.length/\∀z∈zs,z∈ys):=by
 have hf4:∀y∈ys,y.cells.length=4:=λy hy=>wVm (yWz hx y hy);have hyl:=hx.len;have hput:st.put g (some (.box (ys.flatMap IV.cells++rest)))=st:=yXf hb;have same:∀k,dd (m.take k)=m.take k->k=m.length->∃k cs zs,IV.raw (.slice (some ⟨g,0,none⟩) m.length cap)=.raw (.slice (some ⟨g,0,none⟩) k cap)/\st=st.put g (some (.box cs))/\cs.length=(ys.flatMap IV.cells++rest).length/\cs.take (k*4)=zs.flatMap IV.cells/\IsFms (dd m) zs/\zs.length=k/\k<=m.length/\∀z∈zs,z∈ys:=by
  intro k hk hkl;rw[hkl,lTl] at hk;refine⟨m.length,_,ys,rfl,hput.symm,rfl,?_,by rw[hk];exact hx,hyl,Nat.le_refl _,λ_ h=>h⟩;rw[<- hyl,List.take_left' (yQm _ hf4)]
 refine ICall.intro (c:=cf prog gl [22,27,42,47] []) func92 rfl (by show _<=66;simp) (by kernel_rfl) ?_;by_cases h2:m.length<2
 ·have d2:decide (((m.length:Nat):Int)<2)=true:=dEt (by omega);simp only[go_sem,zE,zB,zA,zM,zS,zL,reduceCtorEq,d2];refine yQ0 (same m.length ?_ rfl);rw[lTl]
  match m,h2 with
  | [],_=>rfl
  | [a],_=>rfl
 ·have d2:decide (((m.length:Nat):Int)<2)=false:=dEf (by omega);simp only[go_sem,zE,zB,zA,zM,zS,zL,reduceCtorEq,d2];refine LoopC.ctr (m.length-1) (λc fr st' ds=>dd (m.take (c+1))=m.take (c+1)/\fr 0=.iv (.raw (.slice (some ⟨g,0,none⟩) m.length cap))/\fr 1=.iv (.fn (.func qf) [] [])/\fr 5=.iv (.raw (.int .i64 ((c+1:Nat):Int)))/\st'=st/\ds=[]) ?_ ?_ ?_
  ·simp only[go_sem,zE,zB,zA,zM,zS,zL,reduceCtorEq];refine⟨?_,rfl⟩
   match m,h2 with
   | [],h=>exact absurd (show 0<2 by decide) h
   | [a],h=>exact absurd (show 1<2 by decide) h
   | a::b::l,_=>rfl
  ·rintro c fr st1 _ hlt ⟨hd,f0,f1,f5,rfl,rfl⟩;have hlt':c+1<m.length:=by omega
   obtain⟨a,ha⟩:=yQ3 (l:=m) (k:=c) (by omega);obtain⟨b,hbm⟩:=yQ3 hlt';obtain⟨x,hkx,hxa⟩:=hx.get ha;obtain⟨y,hky,hyb⟩:=hx.get hbm;have hcall:=hcmp b a y x hyb hxa st1;obtain⟨rx1,rx2⟩:=rd4 (rest:=rest) hf4 rfl hkx (λ_ _=>rfl);obtain⟨ry1,ry2⟩:=rd4 (rest:=rest) hf4 rfl hky (λ_ _=>rfl);obtain⟨x1,x2,x3,x4,x5,x6,rfl⟩:=hxa.agg;obtain⟨y1,y2,y3,y4,y5,y6,rfl⟩:=hyb.agg;simp only[IV.cells] at rx2 ry2;have hw:IntKind.i64.wrap (((c+1:Nat):Int)-1)=(c:Nat):=by rw[w64 (by omega) (by omega)];omega
   simp only[go_sem,zE,zB,zA,zM,zS,zL,reduceCtorEq,f0,f1,f5,lt_i hlt',hw,hlt',show c<m.length by omega,iNn,hb,rx1,ry1,rx2,ry2,fits,ce];refine hcall.mono ?_;rintro _ st1 ⟨rfl,rfl⟩;have hds:=xU3 ha hbm;by_cases he:yZa b a=0
   ·rw[if_pos he,List.append_nil,hd] at hds;have hcne:¬ cap=c+1:=by omega
    simp only[go_sem,zE,zB,zA,zM,zS,zL,reduceCtorEq,dEt he,f0,f1,f5,yKc (show c+1<=m.length by omega),hcap,hcne];refine LoopC.ctr (m.length-(c+1)-1) (λj fr st' ds=>(∃k cs zs,fr 5=.iv (.raw (.int .i64 ((k:Nat):Int)))/\st'=st1.put g (some (.box cs))/\cs.length=(ys.flatMap IV.cells++rest).length/\cs.take (k*4)=zs.flatMap IV.cells/\IsFms (dd (m.take (c+1+j+1))) zs/\zs.length=k/\k<=c+1+j/\(∀z∈zs,z∈ys)/\∀i,(c+1+j)*4<=i->cs[i]?=(ys.flatMap IV.cells++rest)[i]?) /\
     fr 0=.iv (.raw (.slice (some ⟨g,0,none⟩) m.length cap))/\fr 1=.iv (.fn (.func qf) [] [])/\fr 6=.iv (.raw (.slice (some ⟨g,(c+1)*4,none⟩) (m.length-(c+1)) (cap-(c+1))))/\fr 7=.iv (.raw (.int .i64 ((j+1:Nat):Int)))/\ds=[]) ?_ ?_ ?_
    ·simp only[go_sem,zE,zB,zA,zM,zS,zL,reduceCtorEq];refine⟨⟨c+1,ys.flatMap IV.cells++rest,ys.take (c+1),f5,(yXf hb).symm,rfl,?_,?_,?_,Nat.le_refl _,λz hz=>List.mem_of_mem_take hz,λ_ _=>rfl⟩,f0,f1,rfl⟩
     ·conv=>lhs;rw[<- List.take_append_drop (c+1) ys]
      rw[List.flatMap_append,List.append_assoc,List.take_left' (by rw[yQm _ λz hz=>hf4 z (List.mem_of_mem_take hz),List.length_take];omega)]
     ·rw[hds];exact xJ9 _ hx
     ·rw[List.length_take];omega
    ·rintro j fr st2 _ hj ⟨⟨k,cs,zs,f5,rfl,hcl,hct,hz,hzl,hk,hzm,hcs⟩,f0,f1,f6,f7,rfl⟩;obtain⟨a',ha'⟩:=yQ3 (l:=m) (k:=c+1+j) (by omega);obtain⟨b',hb'⟩:=yQ3 (l:=m) (k:=c+1+j+1) (by omega);obtain⟨x',hkx',hxa'⟩:=hx.get ha';obtain⟨y',hky',hyb'⟩:=hx.get hb';have hyb0:=hyb';have hcall':=hcmp b' a' y' x' hyb' hxa' (st1.put g (some (.box cs)));obtain⟨rx1',rx2'⟩:=rd4 hf4 hcl hkx' hcs;obtain⟨ry1',ry2'⟩:=rd4 hf4 hcl hky' (λi hi=>hcs i (by omega));have hy4:=hf4 y' (lMg hky');obtain⟨p1,p2,p3,p4,p5,p6,rfl⟩:=hxa'.agg;obtain⟨q1,q2,q3,q4,q5,q6,rfl⟩:=hyb'.agg;simp only[IV.cells] at rx2' ry2' hy4;have hw':IntKind.i64.wrap (((j+1:Nat):Int)-1)=(j:Nat):=by rw[w64 (by omega) (by omega)];omega
     have o1:(c+1)*4+j*4=(c+1+j)*4:=by omega
     have o2:(c+1)*4+(j+1)*4=(c+1+j+1)*4:=by omega
     have hj1:j+1<m.length-(c+1):=by omega
     have hj0:j<m.length-(c+1):=by omega
     have hds':=xU3 ha' hb';simp only[go_sem,zE,zB,zA,zM,zS,zL,reduceCtorEq,f0,f1,f5,f6,f7,lt_i hj1,hj0,hj1,hw',iNn,ISt.put_same,o1,o2,rx1',ry1',rx2',ry2',fits,ce];refine hcall'.mono ?_;rintro _ _ ⟨rfl,rfl⟩;by_cases he':yZa b' a'=0
     ·rw[if_pos he',List.append_nil] at hds';simp only[go_sem,zE,zB,zA,zM,zS,zL,reduceCtorEq,dEt he',f0,f1,f5,f6,f7,yQf hj1 (show m.length-(c+1)<=281474976710656 by omega)];exact⟨k,cs,zs,rfl,rfl,hcl,hct,by rw[show c+1+(j+1)+1=c+1+j+1+1 by omega,hds'];exact hz,hzl,by omega,hzm,λi hi=>hcs i (by omega)⟩
     ·rw[if_neg he'] at hds';have hkm:k<m.length:=by omega
      have hk4:k*4+4<=cs.length:=by omega
      obtain⟨s1,s2,s3,s4⟩:=st4 hy4 hk4;simp only[go_sem,zE,zB,zA,zM,zS,zL,reduceCtorEq,dEf he',f0,f1,f5,f6,f7,hj1,hkm,iNn,ISt.put_same,o2,ry1',ry2',hk4,fits,yQf hkm (show m.length<=281474976710656 by omega),yQf hj1 (show m.length-(c+1)<=281474976710656 by omega)];refine⟨k+1,yX7 cs (k*4) [.raw (.int .u8 q1),.raw (.string q2),.sl q3 q4,.sl q5 q6],zs++[.agg [.raw (.int .u8 q1),.raw (.string q2),.sl q3 q4,.sl q5 q6]],rfl,by rw[yQ8];rfl,s1.trans hcl,?_,?_,by simp[hzl],by omega,λz hz=>by
        rcases List.mem_append.1 hz with hz|hz
        ·exact hzm z hz
        ·rw[List.mem_singleton.1 hz];exact lMg hky',λi hi=>(s4 i (by omega)).trans (hcs i (by omega))⟩
      ·rw[show (k+1)*4=k*4+4 by omega,s3,hct,List.flatMap_append];simp[IV.cells]
      ·rw[show c+1+(j+1)+1=c+1+j+1+1 by omega,hds'];exact hz.append ⟨_,_,rfl,hyb0,rfl⟩
    ·rintro fr st2 _ ⟨⟨k,cs,zs,f5,rfl,hcl,hct,hz,hzl,hk,hzm,hcs⟩,f0,f1,f6,f7,rfl⟩;have hkm:k<m.length:=by omega
     have hck:¬ cap=k:=by omega
     have hmk:¬ m.length-k=0:=by omega
     have hlen4:m.length*4<=cs.length:=by rw[hcl,lLa,yQm _ hf4];omega
     have hk4:k*4+(m.length-k)*4<=cs.length:=by omega
     obtain⟨s1,s2,s3,s4⟩:=st4 (cs:=cs) (k:=k) (l:=List.replicate ((m.length-k)*4) .junk) (List.length_replicate ..) hk4;rw[show m.length-(c+1)-1+1=m.length-(c+1) by omega] at f7;simp only[go_sem,zE,zB,zA,zM,zS,zL,reduceCtorEq,f0,f1,f5,f6,f7,yQo (nLi _),yKc (show k<=m.length by omega),yU5 (show k<=cap by omega),hcap,hck,hmk,ISt.put_same,hk4,ite_self,Nat.zero_mul];rw[show c+1+(m.length-(c+1)-1)+1=m.length by omega,lTl] at hz;exact yQ0 ⟨k,yX7 cs (k*4) (List.replicate ((m.length-k)*4) .junk),zs,rfl,by rw[yQ8];rfl,s1.trans hcl,s2.trans hct,hz,hzl,by omega,hzm⟩
   ·rw[if_neg he,hd] at hds;simp only[go_sem,zE,zB,zA,zM,zS,zL,reduceCtorEq,dEf he,f0,f1,f5,yQf hlt' (show m.length<=281474976710656 by omega)];rw[hds,yQ7 hbm]
  ·rintro fr st1 _ ⟨hd,f0,f1,f5,rfl,rfl⟩;rw[show m.length-1+1=m.length by omega] at hd f5;simp only[go_sem,zE,zB,zA,zM,zS,zL,reduceCtorEq,f0,f5,yQo (nLi _)];exact yQ0 (same m.length hd rfl)
end Go.Proofs.Tryz
namespace Go.Proofs.Tryz
open Go Go.Iv
set_option maxRecDepth 4000
variable (gl:Nat->Option IV)
theorem yQp (l:List Nat):(yQi l).length=l.length:=by simp[yQi]
theorem yX2 {l:List Nat}{i n:Nat}(h:l[i]?=some n):(yQi l)[i]?=some (.raw (.int .i64 (n:Int))):=by simp[yQi,h]
theorem xG9 (l:List Nat)(k:Nat):(yQi l).take k=yQi (l.take k):=by simp[yQi,List.map_take]
theorem zVv (l m:List Nat):yQi (l++m)=yQi l++yQi m:=by simp[yQi]
theorem rd1 {m:List Nat}{rest cs:List IV}{i n:Nat}(h:m[i]?=some n)(hc:cs[i]?=(yQi m++rest)[i]?):cs[i]?=some (.raw (.int .i64 (n:Int))):=by
 rw[hc,List.getElem?_append_left (by rw[yQp];exact (lGs h).1),yX2 h]
theorem st1_ {cs l:List IV}{k n:Nat}(hl:l.length=n)(h:k+n<=cs.length):(yX7 cs k l).length=cs.length/\(yX7 cs k l).take k=cs.take k/\(yX7 cs k l).take (k+n)=cs.take k++l/\∀i,k+n<=i->(yX7 cs k l)[i]?=cs[i]?:=by
 have h1:(cs.take k).length=k:=by rw[List.length_take];omega
 have h2:(cs.take k++l).length=k+n:=by rw[lLa,h1,hl]
 unfold yX7;refine⟨?_,?_,List.take_left' h2,λi hi=>?_⟩
 ·rw[lLa,h2,List.length_drop,hl];omega
 ·rw[List.append_assoc,List.take_left' h1]
 ·rw[List.getElem?_append_right (by omega),h2,List.getElem?_drop,hl];congr 1;omega
theorem zKp (m:List Nat)(rest:List IV)(hlen:m.length<=1099511627776)(g cap:Nat)(hcap:m.length<=cap)(st:ISt)(hb:st g=some (.box (yQi m++rest))) :
  ICall prog gl 107 [.raw (.slice (some ⟨g,0,none⟩) m.length cap)] st
   (λr st'=>∃cs,r=.raw (.slice (some ⟨g,0,none⟩) (ddN m).length cap)/\st'=st.put g (some (.box cs))/\cs.length=(yQi m++rest).length/\cs.take (ddN m).length=yQi (ddN m)/\(ddN m).length<=m.length):=by
 have hput:st.put g (some (.box (yQi m++rest)))=st:=yXf hb;have same:ddN m=m->∃cs,IV.raw (.slice (some ⟨g,0,none⟩) m.length cap)=.raw (.slice (some ⟨g,0,none⟩) (ddN m).length cap)/\st=st.put g (some (.box cs))/\cs.length=(yQi m++rest).length/\cs.take (ddN m).length=yQi (ddN m)/\(ddN m).length<=m.length:=by
  intro hk;rw[hk];exact⟨_,rfl,hput.symm,rfl,by rw[List.take_left' (yQp m)],Nat.le_refl _⟩
 refine ICall.intro (c:=cf prog gl [19,24,38,43] []) func107 rfl (by show _<=61;simp) (by kernel_rfl) ?_;by_cases h2:m.length<2
 ·have d2:decide (((m.length:Nat):Int)<2)=true:=dEt (by omega);simp only[go_sem,zE,zB,zA,zM,zS,zL,reduceCtorEq,d2];refine yQ0 (same ?_)
  match m,h2 with
  | [],_=>rfl
  | [a],_=>rfl
 ·have d2:decide (((m.length:Nat):Int)<2)=false:=dEf (by omega);simp only[go_sem,zE,zB,zA,zM,zS,zL,reduceCtorEq,d2];refine LoopC.ctr (m.length-1) (λc fr st' ds=>ddN (m.take (c+1))=m.take (c+1)/\fr 0=.iv (.raw (.slice (some ⟨g,0,none⟩) m.length cap))/\fr 3=.iv (.raw (.int .i64 ((c+1:Nat):Int)))/\st'=st/\ds=[]) ?_ ?_ ?_
  ·simp only[go_sem,zE,zB,zA,zM,zS,zL,reduceCtorEq];refine⟨?_,rfl⟩
   match m,h2 with
   | [],h=>exact absurd (show 0<2 by decide) h
   | [a],h=>exact absurd (show 1<2 by decide) h
   | a::b::l,_=>rfl
  ·rintro c fr st1 _ hlt ⟨hd,f0,f3,rfl,rfl⟩;have hlt':c+1<m.length:=by omega
   obtain⟨a,ha⟩:=yQ3 (l:=m) (k:=c) (by omega);obtain⟨b,hbm⟩:=yQ3 hlt';have rx:=rd1 (rest:=rest) ha rfl;have ry:=rd1 (rest:=rest) hbm rfl;have hw:IntKind.i64.wrap (((c+1:Nat):Int)-1)=(c:Nat):=by rw[w64 (by omega) (by omega)];omega
   have hds:=xJh ha hbm;by_cases he:b=a
   ·rw[if_pos he,List.append_nil,hd] at hds;have hcne:¬ cap=c+1:=by omega
    simp only[go_sem,zE,zB,zA,zM,zS,zL,reduceCtorEq,f0,f3,lt_i hlt',hw,hlt',show c<m.length by omega,iNn,Nat.mul_one,hb,rx,ry,dEt (show (b:Int)=a by omega),yKc (show c+1<=m.length by omega),hcap,hcne];refine LoopC.ctr (m.length-(c+1)-1) (λj fr st' ds=>(∃k cs,fr 3=.iv (.raw (.int .i64 ((k:Nat):Int)))/\st'=st1.put g (some (.box cs))/\cs.length=(yQi m++rest).length/\k=(ddN (m.take (c+1+j+1))).length/\cs.take k=yQi (ddN (m.take (c+1+j+1)))/\k<=c+1+j/\∀i,c+1+j<=i->cs[i]?=(yQi m++rest)[i]?) /\
     fr 0=.iv (.raw (.slice (some ⟨g,0,none⟩) m.length cap))/\fr 4=.iv (.raw (.slice (some ⟨g,c+1,none⟩) (m.length-(c+1)) (cap-(c+1))))/\fr 5=.iv (.raw (.int .i64 ((j+1:Nat):Int)))/\ds=[]) ?_ ?_ ?_
    ·simp only[go_sem,zE,zB,zA,zM,zS,zL,reduceCtorEq];refine⟨⟨c+1,yQi m++rest,f3,(yXf hb).symm,rfl,?_,?_,Nat.le_refl _,λ_ _=>rfl⟩,f0,rfl⟩
     ·rw[hds,List.length_take];omega
     ·rw[hds,List.take_append_of_le_length (by rw[yQp];omega),xG9]
    ·rintro j fr st2 _ hj ⟨⟨k,cs,f3,rfl,hcl,hkl,hct,hk,hcs⟩,f0,f4,f5,rfl⟩;obtain⟨a',ha'⟩:=yQ3 (l:=m) (k:=c+1+j) (by omega);obtain⟨b',hb'⟩:=yQ3 (l:=m) (k:=c+1+j+1) (by omega);have rx':=rd1 ha' (hcs _ (Nat.le_refl _));have ry':=rd1 hb' (hcs _ (by omega));have hw':IntKind.i64.wrap (((j+1:Nat):Int)-1)=(j:Nat):=by rw[w64 (by omega) (by omega)];omega
     have o2:c+1+(j+1)=c+1+j+1:=by omega
     have hj1:j+1<m.length-(c+1):=by omega
     have hj0:j<m.length-(c+1):=by omega
     have hds':=xJh ha' hb';by_cases he':b'=a'
     ·rw[if_pos he',List.append_nil] at hds';simp only[go_sem,zE,zB,zA,zM,zS,zL,reduceCtorEq,f0,f3,f4,f5,lt_i hj1,hj0,hj1,hw',iNn,Nat.mul_one,ISt.put_same,o2,rx',ry',dEt (show (b':Int)=a' by omega),yQf hj1 (show m.length-(c+1)<=281474976710656 by omega)];exact⟨k,cs,rfl,rfl,hcl,by rw[hds'];exact hkl,by rw[hds'];exact hct,by omega,λi hi=>hcs i (by omega)⟩
     ·rw[if_neg he'] at hds';have hkm:k<m.length:=by omega
      have hml:m.length<=cs.length:=by rw[hcl,lLa,yQp];omega
      have hk1:k+1<=cs.length:=by omega
      obtain⟨s1,s2,s3,s4⟩:=st1_ (n:=1) (l:=[.raw (.int .i64 (b':Int))]) rfl hk1;simp only[go_sem,zE,zB,zA,zM,zS,zL,reduceCtorEq,f0,f3,f4,f5,lt_i hj1,hj0,hj1,hw',iNn,Nat.mul_one,ISt.put_same,o2,rx',ry',dEf (show ¬ (b':Int)=a' by omega),hkm,hk1,yQf hkm (show m.length<=281474976710656 by omega),yQf hj1 (show m.length-(c+1)<=281474976710656 by omega)];refine⟨k+1,yX7 cs k [.raw (.int .i64 (b':Int))],rfl,by rw[yQ8];rfl,s1.trans hcl,?_,?_,by omega,λi hi=>?_⟩
      ·rw[hds',lLa,<- hkl];rfl
      ·rw[hds',s3,hct,zVv];rfl
      ·exact (s4 i (by omega)).trans (hcs i (by omega))
    ·rintro fr st2 _ ⟨⟨k,cs,f3,rfl,hcl,hkl,hct,hk,hcs⟩,f0,f4,f5,rfl⟩;have hkm:k<m.length:=by omega
     have hck:¬ cap=k:=by omega
     have hmk:¬ m.length-k=0:=by omega
     have hlen4:m.length<=cs.length:=by rw[hcl,lLa,yQp];omega
     have hk4:k+(m.length-k)<=cs.length:=by omega
     obtain⟨s1,s2,s3,s4⟩:=st1_ (cs:=cs) (k:=k) (l:=List.replicate (m.length-k) .junk) (List.length_replicate ..) hk4;rw[show m.length-(c+1)-1+1=m.length-(c+1) by omega] at f5;simp only[go_sem,zE,zB,zA,zM,zS,zL,reduceCtorEq,f0,f3,f4,f5,yQo (nLi _),yKc (show k<=m.length by omega),yU5 (show k<=cap by omega),hcap,hck,hmk,ISt.put_same,hk4,ite_self,Nat.zero_mul,Nat.mul_one];rw[show c+1+(m.length-(c+1)-1)+1=m.length by omega,lTl] at hkl hct;subst hkl;exact yQ0 ⟨yX7 cs (ddN m).length (List.replicate (m.length-(ddN m).length) .junk),rfl,by rw[yQ8];rfl,s1.trans hcl,s2.trans hct,by omega⟩
   ·rw[if_neg he,hd] at hds;simp only[go_sem,zE,zB,zA,zM,zS,zL,reduceCtorEq,f0,f3,lt_i hlt',hw,hlt',show c<m.length by omega,iNn,Nat.mul_one,hb,rx,ry,dEf (show ¬ (b:Int)=a by omega),yQf hlt' (show m.length<=281474976710656 by omega)];rw[hds,yQ7 hbm]
  ·rintro fr st1 _ ⟨hd,f0,f3,rfl,rfl⟩;rw[show m.length-1+1=m.length by omega] at hd f3;rw[lTl] at hd;simp only[go_sem,zE,zB,zA,zM,zS,zL,reduceCtorEq,f0,f3,yQo (nLi _)];exact yQ0 (same hd)
theorem yU3 (t:Tag)(ht:t.cap=.nil)(st:ISt):ICall prog gl 107 [.sl t []] st (λr st'=>(∃t',r=.sl t' []/\t'.cap=.nil)/\st'=st):=by
 obtain⟨fs,c,es⟩:=t;obtain rfl:c=.nil:=ht;refine ICall.intro (c:=cf prog gl [19,24,38,43] []) func107 rfl (by show _<=61;simp) (by kernel_rfl) ?_;simp only[go_sem,zE,zB,zA,zM,zS,zL,reduceCtorEq,show decide (((0:Nat):Int)<2)=true from rfl];exact yQ0 ⟨⟨_,rfl,rfl⟩,rfl⟩
theorem wWg (n:Nat)(hn:n<=1099511627776)(st:ISt):ICall prog gl 188 [.sl ⟨true,.nil,0⟩ [],.raw (.int .i64 n)] st (λr st' =>
  (n=0/\r=.sl ⟨true,.nil,0⟩ []/\st'=st)\/(∃g cap,st g=none/\n<=cap/\r=.raw (.slice (some ⟨g,0,none⟩) 0 cap)/\st'=st.put g (some (.box (List.replicate cap .junk))))):=by
 have h1:decide ((n:Int)<0)=false:=dEf (by omega);have h2:IntKind.i64.wrap ((0:Int)-((0:Nat):Int))=0:=rfl;have h3:IntKind.i64.wrap ((n:Int)-0)=n:=w64 (by omega) (by omega);refine iI func188 ?_;by_cases hz:n=0
 ·subst hz;simp only[go_sem,zE,zB,zA,zM,zS,zL,reduceCtorEq,h1,h2,h3,show decide ((0:Int)<((0:Nat):Int))=false from rfl];refine yQ0 (.inl ?_);simp
 ·have h4:decide ((0:Int)<(n:Int))=true:=dEt (by omega);simp only[go_sem,zE,zB,zA,zM,zS,zL,reduceCtorEq,h1,h2,h3,h4,yU9,xXl];refine yZ4 ⟨rfl,by omega,by show (n:Int)*8<=_;omega,by omega,by decide⟩ λg cap=>yQ9 λhg=>?_;obtain⟨hg,hc⟩:=hg;rw[Int.toNat_natCast] at hc;simp only[go_sem,zE,zB,zA,zM,zS,zL,reduceCtorEq,Int.toNat_natCast,zZg,ite_self,Nat.zero_mul,Nat.mul_one,hc];exact yQ0 (.inr ⟨g,cap,hg,hc,rfl,rfl⟩)
theorem vQw {y:IV}(h:fits false 1 y=true):y.cells.length=1:=(yZp h).2.1
theorem uQ9 {l:List IV}(h:∀y∈l,fits false 1 y=true):(l.flatMap IV.cells).length=l.length:=(yQm l λx hx=>vQw (h x hx)).trans (Nat.mul_one _)
theorem wQ4 (l:List (Tag×List IV))(tt:Tag)(htt:okEs tt 1)(hfit:∀p∈l,∀y∈p.2,fits false 1 y=true)(hlen:(catL l).length<=1099511627776)(st:ISt) :
  ICall prog gl 136 [.sl tt (catI l)] st (λr st'=>(∃t,r=.sl t []/\t.cap=.nil/\catL l=[]/\st'=st) \/
   ∃g cap cs,st g=none/\(catL l).length<=cap/\cap<=cs.length/\cs.take ((catL l).length)=(catL l).flatMap IV.cells/\r=.raw (.slice (some ⟨g,0,none⟩) (catL l).length cap)/\st'=st.put g (some (.box cs))):=by
 have hli:(catI l).length=l.length:=by simp[catI]
 have hfc:∀y∈catL l,fits false 1 y=true:=λy hy=>by
  obtain⟨p,hp,hy⟩:=List.mem_flatMap.1 hy;exact hfit p hp y hy
 refine iI func136 ?_;simp only[go_sem,zE,zB,zA,zM,zS,zL,reduceCtorEq,hli];intro hl;refine LoopC.ctr l.length (λk fr st' ds=>fr 0=.iv (.sl tt (catI l))/\fr 3=.iv (.raw (.int .i64 (catL (l.take k)).length))/\fr 9=.iv (.sl tt (catI l))/\fr 10=.iv (.raw (.int .i64 l.length))/\fr 11=.iv (.raw (.int .i64 k))/\st'=st/\ds=[]) ?_ ?_ ?_
 ·simp only[go_sem,zE,zB,zA,zM,zS,zL,reduceCtorEq];simp[catL]
 ·rintro k fr st1 _ hlt ⟨f0,f3,f9,f10,f11,rfl,rfl⟩;obtain⟨p,hp⟩:=yQ3 hlt;have h1:=yWl l k;have h2:=yWl l (k+1);rw[yZy hp,lLa] at h2;have h3:IntKind.i64.wrap ((((catL (l.take k)).length:Nat):Int)+((p.2.length:Nat):Int))=((catL (l.take (k+1))).length:Nat):=by
   rw[w64 (by omega) (by omega),yZy hp,lLa];omega
  have h4:decide ((((catL (l.take (k+1))).length:Nat):Int)<0)=false:=dEf (by omega);simp only[go_sem,zE,zB,zA,zM,zS,zL,reduceCtorEq,f0,f3,f9,f10,f11,lt_i hlt,yQ4 htt,iNn,yY9 hp,fits,h3];intro hpl;simp only[go_sem,zE,zB,zA,zM,zS,zL,reduceCtorEq,h3,h4,f0,f3,f9,f10,f11,yQf hlt (show l.length<=281474976710656 by omega)]
 ·rintro fr st1 _ ⟨f0,f3,f9,f10,f11,rfl,rfl⟩;rw[lTl] at f3;simp only[go_sem,zE,zB,zA,zM,zS,zL,reduceCtorEq,f0,f3,f9,f10,f11,yQo (nLi _)];refine (wWg gl (catL l).length hlen _).mono ?_;have loop:∀(I:Nat->IV->ISt->Prop),True:=λ_=>trivial;rintro r st2 (⟨hz,rfl,rfl⟩|⟨g,cap,hg,hcap,rfl,rfl⟩)
  ·have hnil:catL l=[]:=List.eq_nil_of_length_eq_zero hz;simp only[go_sem,zE,zB,zA,zM,zS,zL,reduceCtorEq,f0,hli];intro _;refine LoopC.ctr l.length (λk fr st' ds=>(∃t,fr 6=.iv (.sl t [])/\t.cap=.nil)/\fr 25=.iv (.sl tt (catI l))/\fr 26=.iv (.raw (.int .i64 l.length))/\fr 27=.iv (.raw (.int .i64 k))/\st'=st2/\ds=[]) ?_ ?_ ?_
   ·simp only[go_sem,zE,zB,zA,zM,zS,zL,reduceCtorEq];exact⟨⟨_,rfl,rfl⟩,rfl⟩
   ·rintro k fr st1 _ hlt ⟨⟨t,f6,ht⟩,f25,f26,f27,rfl,rfl⟩;obtain⟨p,hp⟩:=yQ3 hlt;have hp0:p.2=[]:=by
     have:=yZy hp;have h2:=yWl l (k+1);rw[this,lLa,hnil,List.length_nil] at h2;exact List.eq_nil_of_length_eq_zero (by omega)
    obtain⟨fs,c,es⟩:=t;obtain rfl:c=.nil:=ht;simp only[go_sem,zE,zB,zA,zM,zS,zL,reduceCtorEq,f6,f25,f26,f27,lt_i hlt,yQ4 htt,iNn,yY9 hp,fits,hp0,yQf hlt (show l.length<=281474976710656 by omega)];exact⟨_,rfl,rfl⟩
   ·rintro fr st1 _ ⟨⟨t,f6,ht⟩,f25,f26,f27,rfl,rfl⟩;simp only[go_sem,zE,zB,zA,zM,zS,zL,reduceCtorEq,f6,f25,f26,f27,yQo (nLi _)];exact yQ0 (.inl ⟨_,rfl,ht,hnil,rfl⟩)
  ·simp only[go_sem,zE,zB,zA,zM,zS,zL,reduceCtorEq,f0,hli];intro _;refine LoopC.ctr l.length (λk fr st' ds=>(∃g cap cs,st1 g=none/\(catL (l.take k)).length<=cap/\cap<=cs.length/\cs.take ((catL (l.take k)).length)=(catL (l.take k)).flatMap IV.cells/\fr 6=.iv (.raw (.slice (some ⟨g,0,none⟩) (catL (l.take k)).length cap))/\st'=st1.put g (some (.box cs)))/\fr 25=.iv (.sl tt (catI l))/\fr 26=.iv (.raw (.int .i64 l.length))/\fr 27=.iv (.raw (.int .i64 k))/\ds=[]) ?_ ?_ ?_
   ·simp only[go_sem,zE,zB,zA,zM,zS,zL,reduceCtorEq];exact⟨⟨g,cap,_,hg,by simp[catL],by simp,by simp[catL],by simp[catL],rfl⟩,rfl⟩
   ·rintro k fr st' _ hlt ⟨⟨g,cap,cs,hg,hc1,hc2,hc3,f6,rfl⟩,f25,f26,f27,rfl⟩;obtain⟨p,hp⟩:=yQ3 hlt;have h2:=yWl l (k+1);rw[yZy hp,lLa] at h2;have hpf:=hfit p (lMg hp);simp only[go_sem,zE,zB,zA,zM,zS,zL,reduceCtorEq,f6,f25,f26,f27,lt_i hlt,yQ4 htt,iNn,yY9 hp,fits];refine yXc _ _ _ (ISt.put_same ..) (List.all_eq_true.2 hpf) ⟨by show _*8<=_;omega,by omega⟩ ⟨hc1,by simp only[Nat.mul_one];exact hc2⟩ ((uQ9 hpf).trans (Nat.mul_one _).symm) ?_;intro g' cap' cs' hg' k1 k2 k3;simp only[Nat.mul_one] at k2 k3;simp only[go_sem,zE,zB,zA,zM,zS,zL,reduceCtorEq,f6,f25,f26,f27,yQf hlt (show l.length<=281474976710656 by omega)];have hst':((st1.put g (some (.box cs))).put g none).put g' (some (.box cs'))=st1.put g' (some (.box cs')):=by
     funext c;simp only[ISt.put_apply];split
     ·rfl
     ·split
      ·subst_vars;exact hg.symm
      ·rfl
    have hg1:st1 g'=none:=by
     rcases hg' with rfl|h
     ·exact hg
     ·rw[ISt.put_apply] at h;split at h
      ·cases h
      ·exact h
    refine⟨g',cap',cs',hg1,?_,k2,?_,?_,hst'⟩
    ·rw[yZy hp,lLa];exact k1
    ·rw[yZy hp,lLa,List.flatMap_append,<- hc3];exact k3
    ·rw[yZy hp,lLa]
   ·rintro fr st' _ ⟨⟨g,cap,cs,hg,hc1,hc2,hc3,f6,rfl⟩,f25,f26,f27,rfl⟩;rw[lTl] at *;simp only[go_sem,zE,zB,zA,zM,zS,zL,reduceCtorEq,f6,f25,f26,f27,yQo (nLi _)];exact yQ0 (.inr ⟨g,cap,cs,hg,hc1,hc2,hc3,rfl,rfl⟩)
theorem wJd (n:Nat):Int.fdiv (n:Int) (2 ^ min (Int.toNat 1) 64)=((n / 2:Nat):Int):=by
 rw[show (2:Int) ^ min (Int.toNat 1) 64=((2:Nat):Int) from rfl];exact (Int.ofNat_fdiv n 2).symm
theorem wJe {a b n:Nat}(h:a<=b)(hn:b<=n)(hl:n<=1099511627776):IntKind.u64.wrap (IntKind.i64.wrap ((a:Int)+(b:Int)))=((a+b:Nat):Int)/\IntKind.i64.wrap (((a+b) / 2:Nat):Int)=(((a+b) / 2:Nat):Int):=by
 have h1:IntKind.i64.wrap ((a:Int)+(b:Int))=((a+b:Nat):Int):=by rw[w64 (by omega) (by omega)];omega
 rw[h1];exact⟨IntWalk.u64_in _ (by omega),w64 (by omega) (by omega)⟩
theorem uJd (W:List Fm)(tg:Tag)(xs:List IV)(htg:okEs tg 4)(hx:IsFms W xs)(hW:Srt W)(hlen:W.length<=1099511627776)(f:Fm)(y:IV)(hy:IsFm f y)(st:ISt) :
  ICall prog gl 105 [.sl tg xs,y,.fn (.func 91) [] []] st
   (λr st'=>(∃(i:Nat) (b:Bool),r=.tup [.raw (.int .i64 (i:Int)),.raw (.bool b)]/\(b=true↔f∈W)/\(b=true->W[i]?=some f))/\st'=st):=by
 have hcall:=λa x hx st=>zXk gl a f x y hx hy st;obtain⟨y1,y2,y3,y4,y5,y6,rfl⟩:=hy.agg;have hxl:=hx.len;have c1:=λn:Int=>yXs prog 3 185 zJc zVt .i64 n;have c2:=λn:Int=>yXs prog 185 3 zVt zJc .u64 n;refine iI func105 ?_;simp only[go_sem,zE,zB,zA,zM,zS,zL,reduceCtorEq,fits,hxl];intro _;refine LoopC.dec W.length (λm fr st' ds=>(∃lo hi,m=hi-lo/\lo<=hi/\hi<=W.length/\(∀k a,k<lo->W[k]?=some a->yZa a f<0)/\(∀k a,hi<=k->W[k]?=some a->¬ yZa a f<0)/\fr 9=.iv (.raw (.int .i64 (lo:Int)))/\fr 10=.iv (.raw (.int .i64 (hi:Int))))/\fr 0=.iv (.sl tg xs)/\fr 2=.iv (.fn (.func 91) [] []) /\
  fr 4=.box [.raw (.int .u8 y1),.raw (.string y2),.sl y3 y4,.sl y5 y6]/\fr 8=.iv (.raw (.int .i64 W.length))/\st'=st/\ds=[]) ?_ ?_
 ·simp only[go_sem,zE,zB,zA,zM,zS,zL,reduceCtorEq];refine⟨0,W.length,by omega,by omega,by omega,λk a hk=>absurd hk (by omega),λk a hk ha=>?_,rfl,rfl⟩;have:=(lGs ha).1;omega
 ·rintro m fr st1 _ ⟨⟨lo,hi,hm,hlh,hhn,h1,h2,f9,f10⟩,f0,f2,f4,f8,rfl,rfl⟩;by_cases hlt:lo<hi
  ·obtain⟨hm1,hm2⟩:=wJe hlh hhn hlen;obtain⟨a,ha⟩:=yQ3 (l:=W) (k:=(lo+hi) / 2) (by omega);obtain⟨x,hkx,hxa⟩:=hx.get ha;obtain⟨x1,x2,x3,x4,x5,x6,rfl⟩:=hxa.agg;simp only[go_sem,zE,zB,zA,zM,zS,zL,reduceCtorEq,f0,f2,f4,f8,f9,f10,lt_i hlt,c1,c2,show ((0:Int)<=1)=True from eq_true (by omega),wJd,hm1,hm2,yQ4 htg,iNn,hkx,fits];refine (hcall a _ hxa _).mono ?_;rintro _ _ ⟨rfl,rfl⟩;by_cases hc:yZa a f<0
   ·simp only[go_sem,zE,zB,zA,zM,zS,zL,reduceCtorEq,f0,f2,f4,f8,f9,f10,dEt hc,yQf (show (lo+hi) / 2<W.length by omega) (show W.length<=281474976710656 by omega)];refine⟨hi-((lo+hi) / 2+1),by omega,(lo+hi) / 2+1,hi,rfl,by omega,hhn,λk b hk hb=>?_,h2,rfl,rfl⟩;rcases Nat.lt_or_ge k ((lo+hi) / 2) with h|h
    ·exact yVo _ _ _ (zJn hW hb ha h) hc
    ·obtain rfl:k=(lo+hi) / 2:=by omega
     rw[ha] at hb;cases hb;exact hc
   ·simp only[go_sem,zE,zB,zA,zM,zS,zL,reduceCtorEq,f0,f2,f4,f8,f9,f10,dEf hc];refine⟨(lo+hi) / 2-lo,by omega,lo,(lo+hi) / 2,rfl,by omega,by omega,h1,λk b hk hb=>?_,rfl,rfl⟩;rcases Nat.lt_or_ge ((lo+hi) / 2) k with h|h
    ·exact λhbf=>hc (yVo _ _ _ (zJn hW ha hb h) hbf)
    ·obtain rfl:k=(lo+hi) / 2:=by omega
     rw[ha] at hb;cases hb;exact hc
  ·obtain rfl:lo=hi:=by omega
   have hfind:∀k,W[k]?=some f->k=lo:=λk hk=>by
    rcases Nat.lt_trichotomy k lo with h|h|h
    ·exact absurd (h1 k f h hk) (yV4 f)
    ·exact h
    ·obtain⟨b,hb⟩:=yQ3 (l:=W) (k:=lo) (by have:=(lGs hk).1;omega);exact absurd (zJn hW hb hk h) (h2 lo b (Nat.le_refl _) hb)
   have hmem:f∈W↔W[lo]?=some f:=⟨λh=>by
    obtain⟨k,hk⟩:=List.mem_iff_getElem?.1 h
    rwa [hfind k hk] at hk,lMg⟩
   by_cases hln:lo<W.length
   ·obtain⟨a,ha⟩:=yQ3 hln;obtain⟨x,hkx,hxa⟩:=hx.get ha;obtain⟨x1,x2,x3,x4,x5,x6,rfl⟩:=hxa.agg;simp only[go_sem,zE,zB,zA,zM,zS,zL,reduceCtorEq,f0,f2,f4,f8,f9,f10,yQo (nLi _),lt_i hln,yQ4 htg,iNn,hkx,fits];refine (hcall a _ hxa _).mono ?_;rintro _ _ ⟨rfl,rfl⟩;by_cases hc:yZa a f=0
    ·simp only[go_sem,zE,zB,zA,zM,zS,zL,reduceCtorEq,f0,f2,f4,f8,f9,f10,dEt hc];refine yQ0 ⟨⟨lo,true,rfl,⟨λ_=>?_,λ_=>rfl⟩,λ_=>?_⟩,rfl⟩
     ·rw[hmem,ha,(yXt a f).1 hc]
     ·rw[ha,(yXt a f).1 hc]
    ·simp only[go_sem,zE,zB,zA,zM,zS,zL,reduceCtorEq,f0,f2,f4,f8,f9,f10,dEf hc];refine yQ0 ⟨⟨lo,false,rfl,⟨nofun,λh=>?_⟩,nofun⟩,rfl⟩;rw[hmem,ha] at h;cases h;exact absurd ((yXt _ _).2 rfl) hc
   ·simp only[go_sem,zE,zB,zA,zM,zS,zL,reduceCtorEq,f0,f2,f4,f8,f9,f10,yQo (nLi _),yQo hln];refine yQ0 ⟨⟨lo,false,rfl,⟨nofun,λh=>?_⟩,nofun⟩,rfl⟩;rw[hmem] at h;exact absurd (lGs h).1 hln
