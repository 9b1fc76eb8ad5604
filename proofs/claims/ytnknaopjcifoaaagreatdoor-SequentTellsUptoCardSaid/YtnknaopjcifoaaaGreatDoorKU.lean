/- What is put and is not free makes no dif -/
import Derived.Test.YtnknaopjcifoaaaGreatDoorLH
set_option linter.all false
open Nat renaming reduceEqDiff → zE,reduceBEq → zB,reduceAdd → zA,reduceMul → zM,reduceLeDiff → zL
namespace Go.Proofs.Tryz
open Go Go.Iv
mutual
theorem xYl {F G:ByteArray->Option Tm}:∀t:Tm,(∀n∈yQk t,F n=G n)->yJq F t=yJq G t
 | .mk true n l,h=>by
  have h1:=h n (by simp[yQk]);have h2:=yY6 l λm hm=>h m (by simp[yQk,hm]);simp only[yJq,h1,h2]
 | .mk false n l,h=>by
  have h2:=yY6 l λm hm=>h m (by simp[yQk,hm]);simp only[yJq,h2]
theorem yY6 {F G:ByteArray->Option Tm}:∀l:List Tm,(∀n∈yQg l,F n=G n)->yZg F l=yZg G l
 | [],_=>rfl
 | a::l,h=>by
  have h1:=xYl a λm hm=>h m (by simp[yQg,hm]);have h2:=yY6 l λm hm=>h m (by simp[yQg,hm]);simp only[yZg,h1,h2]
end
theorem wQq {l:Sb}{fr:List ByteArray}{n:ByteArray}(h:n∈fr):yZ9 (yG3 l fr) n=yZ9 l n:=by
 unfold yZ9 yG3;rw[List.find?_filter];congr 2;funext p;by_cases hp:p.1=n
 ·simp[hp,h]
 ·simp[hp]
theorem wV3 {l:Sb}{fr g:List ByteArray}{m:ByteArray}(h:∀n∈g,n≠m->n∈fr):cntS (yG3 l fr) m g=cntS l m g:=by
 unfold cntS yG3;rw[List.filter_filter];refine List.filter_congr λp _=>?_;cases h1:memB g p.1
 ·simp
 ·by_cases h2:p.1=m
  ·simp[h2]
  ·simp[h2,yX8.2 (h _ (yX8.1 h1) h2)]
theorem xWm {l:Sb}{fr g:List ByteArray}{m:ByteArray}(h:∀n∈g,n≠m->n∈fr):yJ7 (yG3 l fr) m g=yJ7 l m g:=by
 unfold yJ7 zWs yGv;rw[wV3 h]
mutual
theorem xQq:∀(f:Fm)(l:Sb)(fr:List ByteArray),(∀n∈frF f,n∈fr)->yJh (yG3 l fr) f=yJh l f
 | .mk op m us sub,l,fr,h=>by
  have h1:yZg (yZ9 (yG3 l fr)) us=yZg (yZ9 l) us:=yY6 us λn hn=>wQq (h n (by simp[frF,hn]));cases hq:isQ op
  ·have h2:=zWm sub l fr λn hn=>h n (by simp[frF,hq,hn]);simp only[yJh,hq,bFt,if_false,h1,h2]
  ·have h2:yJ7 (yG3 l fr) m (frFs sub)=yJ7 l m (frFs sub):=xWm λn hn hne=>h n (by simp[frF,hq,hn,hne]);simp only[yJh,hq,if_true,h1,h2]
theorem zWm:∀(f:List Fm)(l:Sb)(fr:List ByteArray),(∀n∈frFs f,n∈fr)->yXp (yG3 l fr) f=yXp l f
 | [],_,_,_=>rfl
 | a::f,l,fr,h=>by
  have h1:=xQq a l fr λn hn=>h n (by simp[frFs,hn]);have h2:=zWm f l fr λn hn=>h n (by simp[frFs,hn]);simp only[yXp,h1,h2]
end
theorem xG3 (f:Fm)(l:Sb):yJh (yG3 l (frF f)) f=yJh l f:=xQq f l _ λ_ h=>h
mutual
theorem wKe {F:ByteArray->Option Tm}{M:Nat}(hM:1<=M)(hF:∀n u,F n=some u->u.size<=M):∀t:Tm,(yJq F t).size<=t.size*M
 | .mk true n l=>by
  have ih:=zQ9 hM hF l;cases h:F n with
  | some u =>
   have:=hF n u h;simp only[yJq,h,Tm.size];grind
  | none =>
   simp only[yJq,h,Tm.size,Nat.add_mul];omega
 | .mk false n l=>by
  have ih:=zQ9 hM hF l;simp only[yJq,Tm.size,Nat.add_mul];omega
theorem zQ9 {F:ByteArray->Option Tm}{M:Nat}(hM:1<=M)(hF:∀n u,F n=some u->u.size<=M):∀l:List Tm,yQ8 (yZg F l)<=yQ8 l*M
 | []=>by simp[yZg,yQ8]
 | a::l=>by
  have h1:=wKe hM hF a;have h2:=zQ9 hM hF l;simp only[yZg,yQ8,Nat.add_mul];omega
end
theorem wGn {l:Sb}{M:Nat}(h:∀p∈l,p.2.size<=M)(n:ByteArray)(u:Tm)(hu:yZ9 l n=some u):u.size<=M:=by
 unfold yZ9 at hu;obtain⟨p,hp,rfl⟩:=Option.map_eq_some_iff.1 hu;grind
theorem wJ9 {l:Sb}{M:Nat}(hM:1<=M)(h:∀p∈l,p.2.size<=M)(m:ByteArray)(fr:List ByteArray):∀p∈(yJ7 l m fr).2,p.2.size<=M:=by
 have hc:∀p∈cntS l m fr,p.2.size<=M:=λp hp=>h p (List.mem_filter.1 hp).1;unfold yJ7;split
 ·intro p hp;rcases List.mem_append.1 hp with hp|hp
  ·exact hc p hp
  ·rw[List.mem_singleton] at hp;subst hp;simpa[Tm.size,yQ8] using hM
 ·exact hc
mutual
theorem xVs {M:Nat}(hM:1<=M):∀(f:Fm) (l:Sb),(∀p∈l,p.2.size<=M)->(yJh l f).size<=f.size*M
 | .mk op m us sub,l,h=>by
  have h1:=zQ9 hM (wGn h) us;have h2:=xQr hM sub (if isQ op then (yJ7 l m (frFs sub)).2 else l) (by
   split
   ·exact wJ9 hM h _ _
   ·exact h)
  simp only[yJh,Fm.size,Nat.add_mul];omega
theorem xQr {M:Nat}(hM:1<=M):∀(f:List Fm) (l:Sb),(∀p∈l,p.2.size<=M)->yQ7 (yXp l f)<=yQ7 f*M
 | [],_,_=>by simp[yXp,yQ7]
 | a::f,l,h=>by
  have h1:=xVs hM a l h;have h2:=xQr hM f l h;simp only[yXp,yQ7,Nat.add_mul];omega
end
theorem xG0 {l:Sb}{k:Nat}{p:ByteArray×Tm}(hp:l[k]?=some p)(hg:yVy [] (l.take k)=true):yVy [] (l.take (k+1))=(yKl p.1&&p.2.ok&&!memB ((l.take k).map (·.1)) p.1):=by
 rw[yQ5 hp,yKy,hg];simp[yVy]
theorem zK6 {l:Sb}{k:Nat}(h:yVy [] (l.take (k+1))=false):yVy [] l=false:=by
 rw[<- List.take_append_drop (k+1) l,yKy,h];rfl
theorem xXh (f:Fm)(l:Sb):yZc f l=if f.right&&yVy [] l then (if decide ((yJh l f).size<=400)&&decide ((yJh l f).deep<=40) then (yJh l f,0) else (fm0,3)) else (fm0,2):=by
 unfold yZc;rw[xG3]
end Go.Proofs.Tryz
namespace Go.Proofs.Tryz
open Go Go.Iv
set_option maxRecDepth 4000
variable (gl:Nat->Option IV)
theorem wGb (f:Fm)(x:IV)(hx:IsFm f x)(hs:f.size<=500000)(l:Sb)(tg:Tag)(xs:List IV)(htg:okEs tg 4)(hxs:IsOnes l xs)(hl:l.length<=500000)(hls:∀p∈l,p.2.size<=1000000)(st:ISt) :
  ICall prog gl 192 [x,.sl tg xs] st (FE (yZc f l).1 (yZc f l).2 st):=by
 have hright:=λst=>zXc gl f x hx (by omega) st;have hput:=λhok st=>vZp gl f x hx hok l tg xs htg hxs hls (by omega) st;have hsz:=xVs (M:=1000000) (by omega) f l hls;have hbadl:yVy [] l=false->yZc f l=(fm0,2):=λh=>by rw[xXh,h,Bool.and_false];rfl
 obtain⟨o0,n0,ta,xa,tb,xb,rfl⟩:=hx.agg;refine iI func192 ?_;simp only[go_sem,zE,zA,zL];refine (hright _).mono ?_;rintro _ st ⟨rfl,rfl⟩;cases hr:f.right
 ·have hE:yZc f l=(fm0,2):=by rw[xXh,hr];rfl
  rw[hE];simp only[go_sem,zE,zA,zL];exact yQ0 ⟨_,rfl,xQs _ _ (.inl rfl) (.inl rfl),rfl⟩
 have hok:=(yJu hr).1;have hf4:=(yJu hr).2.1;simp only[go_sem];refine LoopC.ctr l.length (λk fr st' ds=>yVy [] (l.take k)=true/\fr 1=.iv (.sl tg xs)/\fr 2=.box [.raw (.int .u8 o0),.raw (.string n0),.sl ta xa,.sl tb xb]/\fr 4=.box [.raw (.int .u8 0),.raw (.string ⟨#[]⟩),.sl ⟨true,.nil,0⟩ [],.sl ⟨true,.nil,0⟩ []] /\
  fr 6=.iv (.raw (.int .i64 k))/\st'=st/\ds=[]) ?_ ?_ ?_
 ·simp only[go_sem,zE];exact⟨rfl,rfl⟩
 ·rintro k fr st _ hlt ⟨hg,f1,f2,f4,f6,rfl,rfl⟩;obtain⟨p,hp⟩:=yQ3 hlt;obtain⟨y,hky,v3,n3,t3,x3,rfl,hy⟩:=hxs.get hp;have hps:=hls p (lMg hp);have hg1:=xG0 hp hg;cases hv1:yKl p.1
  ·rw[hbadl (zK6 (by rw[hg1,hv1];rfl))];simp only[go_sem,zE,zA,f1,f6,hxs.len,lt_i hlt,yQ1 htg,iNn,hky,fits];intros;refine (yJw gl p.1 _).mono ?_;rintro _ st ⟨rfl,rfl⟩;simp only[go_sem,zE,zA,zL,f4,hv1];exact yQ0 ⟨_,rfl,xQs _ _ (.inl rfl) (.inl rfl),rfl⟩
  simp only[go_sem,zE,zA,f1,f6,hxs.len,lt_i hlt,yQ1 htg,iNn,hky,fits];intros;refine (yJw gl p.1 _).mono ?_;rintro _ st ⟨rfl,rfl⟩;simp only[go_sem,zE,zB,zA,zL,f1,f6,hv1,fits,yQ1 htg,iNn,hky];refine (zJh gl p.2 _ hy (by omega) _).mono ?_;rintro _ st ⟨rfl,rfl⟩;cases hv2:p.2.ok
  ·rw[hbadl (zK6 (by rw[hg1,hv1,hv2];rfl))];simp only[go_sem,zE,zA,zL,f4];exact yQ0 ⟨_,rfl,xQs _ _ (.inl rfl) (.inl rfl),rfl⟩
  simp only[go_sem,zE];refine LoopC.ctr k (λj fr st' ds=>(∀q∈l.take j,q.1≠p.1)/\fr 1=.iv (.sl tg xs)/\fr 2=.box [.raw (.int .u8 o0),.raw (.string n0),.sl ta xa,.sl tb xb]/\fr 4=.box [.raw (.int .u8 0),.raw (.string ⟨#[]⟩),.sl ⟨true,.nil,0⟩ [],.sl ⟨true,.nil,0⟩ []] /\
   fr 6=.iv (.raw (.int .i64 k))/\fr 7=.iv (.raw (.int .i64 j))/\st'=st/\ds=[]) ?_ ?_ ?_
  ·simp only[go_sem,zE,f1,f2,f4,f6];exact⟨(λq hq=>by cases hq),rfl⟩
  ·rintro j fr st _ hjk ⟨hne,f1,f2,f4,f6,f7,rfl,rfl⟩;obtain⟨q,hq⟩:=yQ3 (show j<l.length by omega);obtain⟨y4,hky4,v4,n4,t4,x4,rfl,hy4⟩:=hxs.get hq;by_cases hqp:q.1=p.1
   ·have hmem:memB ((l.take k).map (·.1)) p.1=true:=yX8.2 (List.mem_map.2 ⟨q,lMg (show (l.take k)[j]?=some q by rw[List.getElem?_take,if_pos hjk];exact hq),hqp⟩);rw[hbadl (zK6 (by rw[hg1,hv1,hv2,hmem];rfl))];simp only[go_sem,zE,zA,zL,f1,f4,f6,f7,lt_i hjk,yQ1 htg,iNn,hky,hky4,dEt hqp,fits];exact yQ0 ⟨_,rfl,xQs _ _ (.inl rfl) (.inl rfl),rfl⟩
   ·simp only[go_sem,zE,f1,f2,f4,f6,f7,lt_i hjk,yQ1 htg,iNn,hky,hky4,dEf hqp,fits,yQ9 hjk (show k<=281474976710656 by omega)];intro r hr;rw[yQ5 hq] at hr;rcases List.mem_append.1 hr with hr|hr
    ·exact hne r hr
    ·rw[List.mem_singleton] at hr;subst hr;exact hqp
  ·rintro fr st _ ⟨hne,f1,f2,f4,f6,f7,rfl,rfl⟩;simp only[go_sem,zE,f1,f2,f4,f6,f7,yQj (nLi _),yQ9 hlt (show l.length<=281474976710656 by omega)];have hmem:memB ((l.take k).map (·.1)) p.1=false:=zQ8.2 λh=>by
    obtain⟨q,hq,he⟩:=List.mem_map.1 h;exact hne q hq he
   rw[hg1,hv1,hv2,hmem];rfl
 ·rintro fr st _ ⟨hg,f1,f2,f4,f6,rfl,rfl⟩;rw[lTl] at hg;have hP:yZc f l=if decide ((yJh l f).size<=400)&&decide ((yJh l f).deep<=40) then (yJh l f,0) else (fm0,3):=by
   rw[xXh,hr,hg];rfl
  rw[hP];simp only[go_sem,zE,zA,zL,f1,f2,f6,hxs.len,yQj (nLi _)];intros;refine (hput hok _).mono ?_;rintro g st ⟨hgv,rfl⟩;generalize yJh l f=gf at *;have hgv0:=hgv;have hnod:=λst=>xKq gl gf g hgv (by omega) st;have hdep:=λst=>xKs gl gf g hgv (by omega) st;obtain⟨o5,n5,t5,x5,t6,x6,rfl⟩:=hgv.agg;simp only[go_sem,zE,zA,zL];refine (hnod _).mono ?_;rintro _ st ⟨rfl,rfl⟩;by_cases hz:gf.size<=400
  ·simp only[go_sem,zE,zA,zL,show decide ((400:Int)<(gf.size:Int))=false from dEf (by omega)];refine (hdep _).mono ?_;rintro _ st ⟨rfl,rfl⟩;rw[dEt hz];by_cases hd:gf.deep<=40
   ·rw[dEt hd];simp only[Bool.and_self,if_true];simp only[go_sem,zE,zA,zL,f4,show decide ((40:Int)<(gf.deep:Int))=false from dEf (by omega)];exact yQ0 ⟨_,rfl,hgv0,rfl⟩
   ·rw[dEf hd];simp only[Bool.and_false,bFt,if_false];simp only[go_sem,zE,zA,zL,f4,show decide ((40:Int)<(gf.deep:Int))=true from dEt (by omega)];exact yQ0 ⟨_,rfl,xQs _ _ (.inl rfl) (.inl rfl),rfl⟩
  ·rw[dEf hz];simp only[Bool.false_and,bFt,if_false];simp only[go_sem,zE,zA,zL,f4,show decide ((400:Int)<(gf.size:Int))=true from dEt (by omega)];exact yQ0 ⟨_,rfl,xQs _ _ (.inl rfl) (.inl rfl),rfl⟩
theorem xKp (f:Fm)(x:IV)(hx:IsFm f x)(hs:f.size<=500000)(nm:ByteArray)(t:Tm)(y:IV)(hy:IsTm t y)(ht:t.size<=1000000)(st:ISt) :
  ICall prog gl 157 [x,.raw (.string nm),y] st (FE (yZc f [(nm,t)]).1 (yZc f [(nm,t)]).2 st):=by
 obtain⟨v,n3,t3,x3,rfl⟩:=hy.agg;have hones:IsOnes [(nm,t)] [.agg [.raw (.string nm),.raw (.bool v),.raw (.string n3),.sl t3 x3]]:=⟨_,[],rfl,⟨v,n3,t3,x3,rfl,hy⟩,rfl⟩
 have hc:=λtg htg st=>wGb gl f x hx hs [(nm,t)] tg _ htg hones (by simp) (λp hp=>by rw[List.mem_singleton] at hp;subst hp;exact ht) st;obtain⟨o0,n0,ta,xa,tb,xb,rfl⟩:=hx.agg;refine iI func157 ?_;simp only[go_sem,zE,zA,zM,zL,fits,yQ2];refine (hc _ (by simp only[go_sem]) _).mono ?_;rintro _ _ ⟨z,rfl,hz,rfl⟩;obtain⟨o5,n5,t5,x5,t6,x6,rfl⟩:=hz.agg;simp only[go_sem,zE,zA,zL];exact yQ0 ⟨_,rfl,hz,rfl⟩
