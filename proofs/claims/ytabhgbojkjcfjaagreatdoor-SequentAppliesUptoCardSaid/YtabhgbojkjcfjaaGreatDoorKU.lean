/- What is put and is not free makes no dif -/
import Derived.Test.YtabhgbojkjcfjaaGreatDoorLH
set_option linter.all false
open Nat renaming reduceEqDiff → zE,reduceBEq → zB,reduceAdd → zA,reduceMul → zM,reduceLeDiff → zL
namespace Go.Proofs.Tryz
open Go Go.Iv
mutual
theorem xGq {F G:ByteArray->Option Tm}:∀t:Tm,(∀n∈yQl t,F n=G n)->yJk F t=yJk G t
 | .mk true n l,h=>by
  have h1:=h n (by simp[yQl]);have h2:=yYc l λm hm=>h m (by simp[yQl,hm]);simp only[yJk,h1,h2]
 | .mk false n l,h=>by
  have h2:=yYc l λm hm=>h m (by simp[yQl,hm]);simp only[yJk,h2]
theorem yYc {F G:ByteArray->Option Tm}:∀l:List Tm,(∀n∈yQg l,F n=G n)->yZe F l=yZe G l
 | [],_=>rfl
 | a::l,h=>by
  have h1:=xGq a λm hm=>h m (by simp[yQg,hm]);have h2:=yYc l λm hm=>h m (by simp[yQg,hm]);simp only[yZe,h1,h2]
end
theorem wZt {l:Sb}{fr:List ByteArray}{n:ByteArray}(h:n∈fr):yZa (yGd l fr) n=yZa l n:=by
 unfold yZa yGd;rw[List.find?_filter];congr 2;funext p;by_cases hp:p.1=n
 ·simp[hp,h]
 ·simp[hp]
theorem wWd {l:Sb}{fr g:List ByteArray}{m:ByteArray}(h:∀n∈g,n≠m->n∈fr):cntS (yGd l fr) m g=cntS l m g:=by
 unfold cntS yGd;rw[List.filter_filter];refine List.filter_congr λp _=>?_;cases h1:memB g p.1
 ·simp
 ·by_cases h2:p.1=m
  ·simp[h2]
  ·simp[h2,yX5.2 (h _ (yX5.1 h1) h2)]
theorem xYu {l:Sb}{fr g:List ByteArray}{m:ByteArray}(h:∀n∈g,n≠m->n∈fr):yJ2 (yGd l fr) m g=yJ2 l m g:=by
 unfold yJ2 zYt yUb;rw[wWd h]
mutual
theorem xX2:∀(f:Fm)(l:Sb)(fr:List ByteArray),(∀n∈frF f,n∈fr)->yJc (yGd l fr) f=yJc l f
 | .mk op m us sub,l,fr,h=>by
  have h1:yZe (yZa (yGd l fr)) us=yZe (yZa l) us:=yYc us λn hn=>wZt (h n (by simp[frF,hn]));cases hq:isQ op
  ·have h2:=zYn sub l fr λn hn=>h n (by simp[frF,hq,hn]);simp only[yJc,hq,bFt,if_false,h1,h2]
  ·have h2:yJ2 (yGd l fr) m (frFs sub)=yJ2 l m (frFs sub):=xYu λn hn hne=>h n (by simp[frF,hq,hn,hne]);simp only[yJc,hq,if_true,h1,h2]
theorem zYn:∀(f:List Fm)(l:Sb)(fr:List ByteArray),(∀n∈frFs f,n∈fr)->yXm (yGd l fr) f=yXm l f
 | [],_,_,_=>rfl
 | a::f,l,fr,h=>by
  have h1:=xX2 a l fr λn hn=>h n (by simp[frFs,hn]);have h2:=zYn f l fr λn hn=>h n (by simp[frFs,hn]);simp only[yXm,h1,h2]
end
theorem xU8 (f:Fm)(l:Sb):yJc (yGd l (frF f)) f=yJc l f:=xX2 f l _ λ_ h=>h
mutual
theorem wVm {F:ByteArray->Option Tm}{M:Nat}(hM:1<=M)(hF:∀n u,F n=some u->u.size<=M):∀t:Tm,(yJk F t).size<=t.size*M
 | .mk true n l=>by
  have ih:=zQr hM hF l;cases h:F n with
  | some u =>
   have:=hF n u h;simp only[yJk,h,Tm.size];have h1:1*M<=(yQ8 l+1)*M:=Nat.mul_le_mul_right _ (by omega);omega
  | none =>
   simp only[yJk,h,Tm.size,Nat.add_mul];omega
 | .mk false n l=>by
  have ih:=zQr hM hF l;simp only[yJk,Tm.size,Nat.add_mul];omega
theorem zQr {F:ByteArray->Option Tm}{M:Nat}(hM:1<=M)(hF:∀n u,F n=some u->u.size<=M):∀l:List Tm,yQ8 (yZe F l)<=yQ8 l*M
 | []=>by simp[yZe,yQ8]
 | a::l=>by
  have h1:=wVm hM hF a;have h2:=zQr hM hF l;simp only[yZe,yQ8,Nat.add_mul];omega
end
theorem vQ3 {l:Sb}{M:Nat}(h:∀p∈l,p.2.size<=M)(n:ByteArray)(u:Tm)(hu:yZa l n=some u):u.size<=M:=by
 unfold yZa at hu;obtain⟨p,hp,rfl⟩:=Option.map_eq_some_iff.1 hu;exact h p (List.mem_of_find?_eq_some hp)
theorem wKd {l:Sb}{M:Nat}(hM:1<=M)(h:∀p∈l,p.2.size<=M)(m:ByteArray)(fr:List ByteArray):∀p∈(yJ2 l m fr).2,p.2.size<=M:=by
 have hc:∀p∈cntS l m fr,p.2.size<=M:=λp hp=>h p (List.mem_filter.1 hp).1;unfold yJ2;split
 ·intro p hp;rcases List.mem_append.1 hp with hp|hp
  ·exact hc p hp
  ·rw[List.mem_singleton] at hp;subst hp;simpa[Tm.size,yQ8] using hM
 ·exact hc
mutual
theorem xY5 {M:Nat}(hM:1<=M):∀(f:Fm) (l:Sb),(∀p∈l,p.2.size<=M)->(yJc l f).size<=f.size*M
 | .mk op m us sub,l,h=>by
  have h1:=zQr hM (vQ3 h) us;have h2:=xX3 hM sub (if isQ op then (yJ2 l m (frFs sub)).2 else l) (by
   split
   ·exact wKd hM h _ _
   ·exact h)
  simp only[yJc,Fm.size,Nat.add_mul];omega
theorem xX3 {M:Nat}(hM:1<=M):∀(f:List Fm) (l:Sb),(∀p∈l,p.2.size<=M)->yQ7 (yXm l f)<=yQ7 f*M
 | [],_,_=>by simp[yXm,yQ7]
 | a::f,l,h=>by
  have h1:=xY5 hM a l h;have h2:=xX3 hM f l h;simp only[yXm,yQ7,Nat.add_mul];omega
end
theorem xU5 {l:Sb}{k:Nat}{p:ByteArray×Tm}(hp:l[k]?=some p)(hg:yVy [] (l.take k)=true):yVy [] (l.take (k+1))=(yKg p.1&&p.2.ok&&!memB ((l.take k).map (·.1)) p.1):=by
 rw[yQ5 hp,yKt,hg];simp[yVy]
theorem zV0 {l:Sb}{k:Nat}(h:yVy [] (l.take (k+1))=false):yVy [] l=false:=by
 rw[<- List.take_append_drop (k+1) l,yKt,h];rfl
theorem xJr (f:Fm)(l:Sb):yZc f l=if f.right&&yVy [] l then (if decide ((yJc l f).size<=400)&&decide ((yJc l f).deep<=40) then (yJc l f,0) else (fm0,3)) else (fm0,2):=by
 unfold yZc;rw[xU8]
end Go.Proofs.Tryz
namespace Go.Proofs.Tryz
open Go Go.Iv
set_option maxRecDepth 4000
variable (gl:Nat->Option IV)
theorem wUp (f:Fm)(x:IV)(hx:IsFm f x)(hs:f.size<=500000)(l:Sb)(tg:Tag)(xs:List IV)(htg:okEs tg 4)(hxs:IsOnes l xs)(hl:l.length<=500000)(hls:∀p∈l,p.2.size<=1000000)(st:ISt) :
  ICall prog gl 116 [x,.sl tg xs] st (FE (yZc f l).1 (yZc f l).2 st):=by
 have hright:=λst=>zJ8 gl f x hx (by omega) st;have hput:=λhok st=>vJ9 gl f x hx hok l tg xs htg hxs hls (by omega) st;have hsz:=xY5 (M:=1000000) (by omega) f l hls;have hbadl:yVy [] l=false->yZc f l=(fm0,2):=λh=>by rw[xJr,h,Bool.and_false];rfl
 obtain⟨o0,n0,ta,xa,tb,xb,rfl⟩:=hx.agg;refine iI func116 rfl rfl (by kernel_rfl) ?_;simp only[go_sem,zE,zA,zL];refine (hright _).mono ?_;rintro _ st ⟨rfl,rfl⟩;cases hr:f.right
 ·have hE:yZc f l=(fm0,2):=by rw[xJr,hr];rfl
  rw[hE];simp only[go_sem,zE,zA,zL];exact yQ0 ⟨_,rfl,xX4 _ _ (.inl rfl) (.inl rfl),rfl⟩
 have hok:=(yJp hr).1;have hf4:=(yJp hr).2.1;simp only[go_sem];refine LoopC.ctr l.length (λk fr st' ds=>yVy [] (l.take k)=true/\fr 1=.iv (.sl tg xs)/\fr 2=.box [.raw (.int .u8 o0),.raw (.string n0),.sl ta xa,.sl tb xb]/\fr 4=.box [.raw (.int .u8 0),.raw (.string ⟨#[]⟩),.sl ⟨true,.nil,0⟩ [],.sl ⟨true,.nil,0⟩ []] /\
  fr 6=.iv (.raw (.int .i64 k))/\st'=st/\ds=[]) ?_ ?_ ?_
 ·simp only[go_sem,zE];exact⟨rfl,rfl⟩
 ·rintro k fr st _ hlt ⟨hg,f1,f2,f4,f6,rfl,rfl⟩;obtain⟨p,hp⟩:=yQ3 hlt;obtain⟨y,hky,v3,n3,t3,x3,rfl,hy⟩:=hxs.get hp;have hps:=hls p (lMg hp);have hg1:=xU5 hp hg;cases hv1:yKg p.1
  ·rw[hbadl (zV0 (by rw[hg1,hv1];rfl))];simp only[go_sem,zE,zA,f1,f6,hxs.len,lt_i hlt,yQ1 htg,iNn,hky,fits];intros;refine (yJr gl p.1 _).mono ?_;rintro _ st ⟨rfl,rfl⟩;simp only[go_sem,zE,zA,zL,f4,hv1];exact yQ0 ⟨_,rfl,xX4 _ _ (.inl rfl) (.inl rfl),rfl⟩
  simp only[go_sem,zE,zA,f1,f6,hxs.len,lt_i hlt,yQ1 htg,iNn,hky,fits];intros;refine (yJr gl p.1 _).mono ?_;rintro _ st ⟨rfl,rfl⟩;simp only[go_sem,zE,zB,zA,zL,f1,f6,hv1,fits,yQ1 htg,iNn,hky];refine (zKd gl p.2 _ hy (by omega) _).mono ?_;rintro _ st ⟨rfl,rfl⟩;cases hv2:p.2.ok
  ·rw[hbadl (zV0 (by rw[hg1,hv1,hv2];rfl))];simp only[go_sem,zE,zA,zL,f4];exact yQ0 ⟨_,rfl,xX4 _ _ (.inl rfl) (.inl rfl),rfl⟩
  simp only[go_sem,zE];refine LoopC.ctr k (λj fr st' ds=>(∀q∈l.take j,q.1≠p.1)/\fr 1=.iv (.sl tg xs)/\fr 2=.box [.raw (.int .u8 o0),.raw (.string n0),.sl ta xa,.sl tb xb]/\fr 4=.box [.raw (.int .u8 0),.raw (.string ⟨#[]⟩),.sl ⟨true,.nil,0⟩ [],.sl ⟨true,.nil,0⟩ []] /\
   fr 6=.iv (.raw (.int .i64 k))/\fr 7=.iv (.raw (.int .i64 j))/\st'=st/\ds=[]) ?_ ?_ ?_
  ·simp only[go_sem,zE,f1,f2,f4,f6];exact⟨(λq hq=>by cases hq),rfl⟩
  ·rintro j fr st _ hjk ⟨hne,f1,f2,f4,f6,f7,rfl,rfl⟩;obtain⟨q,hq⟩:=yQ3 (show j<l.length by omega);obtain⟨y4,hky4,v4,n4,t4,x4,rfl,hy4⟩:=hxs.get hq;by_cases hqp:q.1=p.1
   ·have hmem:memB ((l.take k).map (·.1)) p.1=true:=yX5.2 (List.mem_map.2 ⟨q,lMg (show (l.take k)[j]?=some q by rw[List.getElem?_take,if_pos hjk];exact hq),hqp⟩);rw[hbadl (zV0 (by rw[hg1,hv1,hv2,hmem];rfl))];simp only[go_sem,zE,zA,zL,f1,f4,f6,f7,lt_i hjk,yQ1 htg,iNn,hky,hky4,dEt hqp,fits];exact yQ0 ⟨_,rfl,xX4 _ _ (.inl rfl) (.inl rfl),rfl⟩
   ·simp only[go_sem,zE,f1,f2,f4,f6,f7,lt_i hjk,yQ1 htg,iNn,hky,hky4,dEf hqp,fits,yQa hjk (show k<=281474976710656 by omega)];intro r hr;rw[yQ5 hq] at hr;rcases List.mem_append.1 hr with hr|hr
    ·exact hne r hr
    ·rw[List.mem_singleton] at hr;subst hr;exact hqp
  ·rintro fr st _ ⟨hne,f1,f2,f4,f6,f7,rfl,rfl⟩;simp only[go_sem,zE,f1,f2,f4,f6,f7,yQj (nLi _),yQa hlt (show l.length<=281474976710656 by omega)];have hmem:memB ((l.take k).map (·.1)) p.1=false:=zQq.2 λh=>by
    obtain⟨q,hq,he⟩:=List.mem_map.1 h;exact hne q hq he
   rw[hg1,hv1,hv2,hmem];rfl
 ·rintro fr st _ ⟨hg,f1,f2,f4,f6,rfl,rfl⟩;rw[lTl] at hg;have hP:yZc f l=if decide ((yJc l f).size<=400)&&decide ((yJc l f).deep<=40) then (yJc l f,0) else (fm0,3):=by
   rw[xJr,hr,hg];rfl
  rw[hP];simp only[go_sem,zE,zA,zL,f1,f2,f6,hxs.len,yQj (nLi _)];intros;refine (hput hok _).mono ?_;rintro g st ⟨hgv,rfl⟩;generalize yJc l f=gf at *;have hgv0:=hgv;have hnod:=λst=>xVz gl gf g hgv (by omega) st;have hdep:=λst=>xW0 gl gf g hgv (by omega) st;obtain⟨o5,n5,t5,x5,t6,x6,rfl⟩:=hgv.agg;simp only[go_sem,zE,zA,zL];refine (hnod _).mono ?_;rintro _ st ⟨rfl,rfl⟩;by_cases hz:gf.size<=400
  ·simp only[go_sem,zE,zA,zL,show decide ((400:Int)<(gf.size:Int))=false from dEf (by omega)];refine (hdep _).mono ?_;rintro _ st ⟨rfl,rfl⟩;rw[dEt hz];by_cases hd:gf.deep<=40
   ·rw[dEt hd];simp only[Bool.and_self,if_true];simp only[go_sem,zE,zA,zL,f4,show decide ((40:Int)<(gf.deep:Int))=false from dEf (by omega)];exact yQ0 ⟨_,rfl,hgv0,rfl⟩
   ·rw[dEf hd];simp only[Bool.and_false,bFt,if_false];simp only[go_sem,zE,zA,zL,f4,show decide ((40:Int)<(gf.deep:Int))=true from dEt (by omega)];exact yQ0 ⟨_,rfl,xX4 _ _ (.inl rfl) (.inl rfl),rfl⟩
  ·rw[dEf hz];simp only[Bool.false_and,bFt,if_false];simp only[go_sem,zE,zA,zL,f4,show decide ((400:Int)<(gf.size:Int))=true from dEt (by omega)];exact yQ0 ⟨_,rfl,xX4 _ _ (.inl rfl) (.inl rfl),rfl⟩
theorem xVy (f:Fm)(x:IV)(hx:IsFm f x)(hs:f.size<=500000)(nm:ByteArray)(t:Tm)(y:IV)(hy:IsTm t y)(ht:t.size<=1000000)(st:ISt) :
  ICall prog gl 69 [x,.raw (.string nm),y] st (FE (yZc f [(nm,t)]).1 (yZc f [(nm,t)]).2 st):=by
 obtain⟨v,n3,t3,x3,rfl⟩:=hy.agg;have hones:IsOnes [(nm,t)] [.agg [.raw (.string nm),.raw (.bool v),.raw (.string n3),.sl t3 x3]]:=⟨_,[],rfl,⟨v,n3,t3,x3,rfl,hy⟩,rfl⟩
 have hc:=λtg htg st=>wUp gl f x hx hs [(nm,t)] tg _ htg hones (by simp) (λp hp=>by rw[List.mem_singleton] at hp;subst hp;exact ht) st;obtain⟨o0,n0,ta,xa,tb,xb,rfl⟩:=hx.agg;refine iI func69 rfl rfl (by kernel_rfl) ?_;simp only[go_sem,zE,zA,zM,zL,fits,yQ2];refine (hc _ (by simp only[go_sem]) _).mono ?_;rintro _ _ ⟨z,rfl,hz,rfl⟩;obtain⟨o5,n5,t5,x5,t6,x6,rfl⟩:=hz.agg;simp only[go_sem,zE,zA,zL];exact yQ0 ⟨_,rfl,hz,rfl⟩
