/- What is put and is not free makes no dif -/
import Derived.Test.YtabhgbojkjcfjaaGreatDoorLH
set_option linter.all false
open Nat renaming reduceEqDiff → zE,reduceBEq → zB,reduceAdd → zA,reduceMul → zM,reduceLeDiff → zL
namespace Go.Proofs.Tryz
open Go Go.Iv
mutual
theorem wQ3 {F G:ByteArray->Option Tm}:∀t:Tm,(∀n∈yQo t,F n=G n)->yJi F t=yJi G t
 | .mk true n l,h=>by
  have h1:=h n (by simp[yQo]);have h2:=yYw l λm A=>h m (by simp[yQo,A]);simp only[yJi,h1,h2]
 | .mk false n l,h=>by
  have h2:=yYw l λm A=>h m (by simp[yQo,A]);simp only[yJi,h2]
theorem yYw {F G:ByteArray->Option Tm}:∀l:List Tm,(∀n∈yQk l,F n=G n)->yZd F l=yZd G l
 | [],_=>rfl
 | a::l,h=>by
  have h1:=wQ3 a λm A=>h m (by simp[yQk,A]);have h2:=yYw l λm A=>h m (by simp[yQk,A]);simp only[yZd,h1,h2]
end
theorem wJ2 {l:Sb}{fr:List ByteArray}{n:ByteArray}(h:n∈fr):yZa (yGd l fr) n=yZa l n:=by
 unfold yZa yGd;rw[List.find?_filter];congr 2;funext p;by_cases hp:p.1=n
 ·simp[hp,h]
 ·simp[hp]
theorem wYt {l:Sb}{fr g:List ByteArray}{m:ByteArray}(h:∀n∈g,n≠m->n∈fr):cntS (yGd l fr) m g=cntS l m g:=by
 unfold cntS yGd;rw[List.filter_filter];refine List.filter_congr λp _=>?_;cases h1:memB g p.1
 ·simp
 ·by_cases h2:p.1=m
  ·simp[h2]
  ·simp[h2,yXj.2 (h _ (yXj.1 h1) h2)]
theorem xU5 {l:Sb}{fr g:List ByteArray}{m:ByteArray}(h:∀n∈g,n≠m->n∈fr):yJk (yGd l fr) m g=yJk l m g:=by
 unfold yJk zGw zQ0;rw[wYt h]
mutual
theorem xJh:∀(f:Fm)(l:Sb)(fr:List ByteArray),(∀n∈frF f,n∈fr)->yJn (yGd l fr) f=yJn l f
 | .mk op m us sub,l,fr,h=>by
  have h1:yZd (yZa (yGd l fr)) us=yZd (yZa l) us:=yYw us λn A=>wJ2 (h n (by simp[frF,A]));cases D:isQ op
  ·have h2:=zGq sub l fr λn A=>h n (by simp[frF,D,A]);simp only[yJn,D,bFt,if_false,h1,h2]
  ·have h2:yJk (yGd l fr) m (frFs sub)=yJk l m (frFs sub):=xU5 λn A E=>h n (by simp[frF,D,A,E]);simp only[yJn,D,if_true,h1,h2]
theorem zGq:∀(f:List Fm)(l:Sb)(fr:List ByteArray),(∀n∈frFs f,n∈fr)->yXu (yGd l fr) f=yXu l f
 | [],_,_,_=>rfl
 | a::f,l,fr,h=>by
  have h1:=xJh a l fr λn A=>h n (by simp[frFs,A]);have h2:=zGq f l fr λn A=>h n (by simp[frFs,A]);simp only[yXu,h1,h2]
end
theorem wQj (f:Fm)(l:Sb):yJn (yGd l (frF f)) f=yJn l f:=xJh f l _ λ_ h=>h
mutual
theorem wY2 {F:ByteArray->Option Tm}{M:Nat}(hM:1<=M)(A:∀n u,F n=some u->u.size<=M):∀t:Tm,(yJi F t).size<=t.size*M
 | .mk true n l=>by
  have D:=zZd hM A l;cases h:F n with
  | some u =>
   have:=A n u h;simp only[yJi,h,Tm.size];have h1:1*M<=(yQa l+1)*M:=Nat.mul_le_mul_right _ (by omega);omega
  | none =>
   simp only[yJi,h,Tm.size,Nat.add_mul];omega
 | .mk false n l=>by
  have D:=zZd hM A l;simp only[yJi,Tm.size,Nat.add_mul];omega
theorem zZd {F:ByteArray->Option Tm}{M:Nat}(hM:1<=M)(A:∀n u,F n=some u->u.size<=M):∀l:List Tm,yQa (yZd F l)<=yQa l*M
 | []=>by simp[yZd,yQa]
 | a::l=>by
  have h1:=wY2 hM A a;have h2:=zZd hM A l;simp only[yZd,yQa,Nat.add_mul];omega
end
theorem vZn {l:Sb}{M:Nat}(h:∀p∈l,p.2.size<=M)(n:ByteArray)(u:Tm)(A:yZa l n=some u):u.size<=M:=by
 unfold yZa at A;obtain⟨p,hp,rfl⟩:=Option.map_eq_some_iff.1 A;exact h p (List.mem_of_find?_eq_some hp)
theorem wVs {l:Sb}{M:Nat}(hM:1<=M)(h:∀p∈l,p.2.size<=M)(m:ByteArray)(fr:List ByteArray):∀p∈(yJk l m fr).2,p.2.size<=M:=by
 have hc:∀p∈cntS l m fr,p.2.size<=M:=λp hp=>h p (List.mem_filter.1 hp).1;unfold yJk;split
 ·intro p hp;rcases List.mem_append.1 hp with hp|hp
  ·exact hc p hp
  ·rw[List.mem_singleton] at hp;subst hp;simpa[Tm.size,yQa] using hM
 ·exact hc
mutual
theorem xGd {M:Nat}(hM:1<=M):∀(f:Fm) (l:Sb),(∀p∈l,p.2.size<=M)->(yJn l f).size<=f.size*M
 | .mk op m us sub,l,h=>by
  have h1:=zZd hM (vZn h) us;have h2:=xJi hM sub (if isQ op then (yJk l m (frFs sub)).2 else l) (by
   split
   ·exact wVs hM h _ _
   ·exact h)
  simp only[yJn,Fm.size,Nat.add_mul];omega
theorem xJi {M:Nat}(hM:1<=M):∀(f:List Fm) (l:Sb),(∀p∈l,p.2.size<=M)->yQ9 (yXu l f)<=yQ9 f*M
 | [],_,_=>by simp[yXu,yQ9]
 | a::f,l,h=>by
  have h1:=xGd hM a l h;have h2:=xJi hM f l h;simp only[yXu,yQ9,Nat.add_mul];omega
end
theorem wQg {l:Sb}{k:Nat}{p:ByteArray×Tm}(hp:l[k]?=some p)(A:yWj [] (l.take k)=true):yWj [] (l.take (k+1))=(yV4 p.1&&p.2.ok&&!memB ((l.take k).map (·.1)) p.1):=by
 rw[yQ4 hp,yVh,A];simp[yWj]
theorem zVt {l:Sb}{k:Nat}(h:yWj [] (l.take (k+1))=false):yWj [] l=false:=by
 rw[<- List.take_append_drop (k+1) l,yVh,h];rfl
theorem xV5 (f:Fm)(l:Sb):yZf f l=if f.right&&yWj [] l then (if decide ((yJn l f).size<=400)&&decide ((yJn l f).deep<=40) then (yJn l f,0) else (fm0,3)) else (fm0,2):=by
 unfold yZf;rw[wQj]
end Go.Proofs.Tryz
namespace Go.Proofs.Tryz
open Go Go.Iv
set_option maxRecDepth 4000
variable (gl:Nat->Option IV)
theorem vZ6 (f:Fm)(x:IV)(hx:IsFm f x)(hs:f.size<=500000)(l:Sb)(tg:Tag)(xs:List IV)(F:okEs tg 4)(D:IsOnes l xs)(hl:l.length<=500000)(al:∀p∈l,p.2.size<=1000000)(st:ISt) :
  ICall prog gl 116 [x,.sl tg xs] st (FE (yZf f l).1 (yZf f l).2 st):=by
 have U:=λst=>zZ6 gl f x hx (by omega) st;have ao:=λaj st=>vKp gl f x hx aj l tg xs F D al (by omega) st;have aG:=xGd (M:=1000000) (by omega) f l al;have A:yWj [] l=false->yZf f l=(fm0,2):=λh=>by rw[xV5,h,Bool.and_false];rfl
 obtain⟨o0,n0,ta,xa,tb,xb,rfl⟩:=hx.agg;refine iI func116 ?_;simp only[go_sem,zE,zA,zL];refine (U _).mono ?_;rintro _ st ⟨rfl,rfl⟩;cases G:f.right
 ·have hE:yZf f l=(fm0,2):=by rw[xV5,G];rfl
  rw[hE];simp only[go_sem,zE,zA,zL];exact yQ0 ⟨_,rfl,xJj _ _ (.inl rfl) (.inl rfl),rfl⟩
 have aj:=(yK1 G).1;have aI:=(yK1 G).2.1;simp only[go_sem];refine LoopC.ctr l.length (λk fr st' ds=>yWj [] (l.take k)=true/\fr 1=.iv (.sl tg xs)/\fr 2=.box [.raw (.int .u8 o0),.raw (.string n0),.sl ta xa,.sl tb xb]/\fr 4=.box [.raw (.int .u8 0),.raw (.string ⟨#[]⟩),.sl ⟨true,.nil,0⟩ [],.sl ⟨true,.nil,0⟩ []] /\
  fr 6=.iv (.raw (.int .i64 k))/\st'=st/\ds=[]) ?_ ?_ ?_
 ·simp only[go_sem,zE];exact⟨rfl,rfl⟩
 ·rintro k fr st _ aa ⟨hg,f1,f2,f4,f6,rfl,rfl⟩;obtain⟨p,hp⟩:=yQ3 aa;obtain⟨y,O,v3,n3,t3,x3,rfl,hy⟩:=D.get hp;have aH:=al p (lMg hp);have ae:=wQg hp hg;cases E:yV4 p.1
  ·rw[A (zVt (by rw[ae,E];rfl))];simp only[go_sem,zE,zA,f1,f6,D.len,lt_i aa,yQ2 F,iNn,O,fits];intros;refine (yKd gl p.1 _).mono ?_;rintro _ st ⟨rfl,rfl⟩;simp only[go_sem,zE,zA,zL,f4,E];exact yQ0 ⟨_,rfl,xJj _ _ (.inl rfl) (.inl rfl),rfl⟩
  simp only[go_sem,zE,zA,f1,f6,D.len,lt_i aa,yQ2 F,iNn,O,fits];intros;refine (yKd gl p.1 _).mono ?_;rintro _ st ⟨rfl,rfl⟩;simp only[go_sem,zE,zB,zA,zL,f1,f6,E,fits,yQ2 F,iNn,O];refine (zV2 gl p.2 _ hy (by omega) _).mono ?_;rintro _ st ⟨rfl,rfl⟩;cases ah:p.2.ok
  ·rw[A (zVt (by rw[ae,E,ah];rfl))];simp only[go_sem,zE,zA,zL,f4];exact yQ0 ⟨_,rfl,xJj _ _ (.inl rfl) (.inl rfl),rfl⟩
  simp only[go_sem,zE];refine LoopC.ctr k (λj fr st' ds=>(∀q∈l.take j,q.1≠p.1)/\fr 1=.iv (.sl tg xs)/\fr 2=.box [.raw (.int .u8 o0),.raw (.string n0),.sl ta xa,.sl tb xb]/\fr 4=.box [.raw (.int .u8 0),.raw (.string ⟨#[]⟩),.sl ⟨true,.nil,0⟩ [],.sl ⟨true,.nil,0⟩ []] /\
   fr 6=.iv (.raw (.int .i64 k))/\fr 7=.iv (.raw (.int .i64 j))/\st'=st/\ds=[]) ?_ ?_ ?_
  ·simp only[go_sem,zE,f1,f2,f4,f6];exact⟨(λq hq=>by cases hq),rfl⟩
  ·rintro j fr st _ ab ⟨ak,f1,f2,f4,f6,f7,rfl,rfl⟩;obtain⟨q,hq⟩:=yQ3 (show j<l.length by omega);obtain⟨y4,af,v4,n4,t4,x4,rfl,aE⟩:=D.get hq;by_cases W:q.1=p.1
   ·have J:memB ((l.take k).map (·.1)) p.1=true:=yXj.2 (List.mem_map.2 ⟨q,lMg (show (l.take k)[j]?=some q by rw[List.getElem?_take,if_pos ab];exact hq),W⟩);rw[A (zVt (by rw[ae,E,ah,J];rfl))];simp only[go_sem,zE,zA,zL,f1,f4,f6,f7,lt_i ab,yQ2 F,iNn,O,af,dEt W,fits];exact yQ0 ⟨_,rfl,xJj _ _ (.inl rfl) (.inl rfl),rfl⟩
   ·simp only[go_sem,zE,f1,f2,f4,f6,f7,lt_i ab,yQ2 F,iNn,O,af,dEf W,fits,yQb ab (show k<=281474976710656 by omega)];intro r G;rw[yQ4 hq] at G;rcases List.mem_append.1 G with G|G
    ·exact ak r G
    ·rw[List.mem_singleton] at G;subst G;exact W
  ·rintro fr st _ ⟨ak,f1,f2,f4,f6,f7,rfl,rfl⟩;simp only[go_sem,zE,f1,f2,f4,f6,f7,yQj (nLi _),yQb aa (show l.length<=281474976710656 by omega)];have J:memB ((l.take k).map (·.1)) p.1=false:=zZc.2 λh=>by
    obtain⟨q,hq,he⟩:=List.mem_map.1 h;exact ak q hq he
   rw[ae,E,ah,J];rfl
 ·rintro fr st _ ⟨hg,f1,f2,f4,f6,rfl,rfl⟩;rw[lTl] at hg;have hP:yZf f l=if decide ((yJn l f).size<=400)&&decide ((yJn l f).deep<=40) then (yJn l f,0) else (fm0,3):=by
   rw[xV5,G,hg];rfl
  rw[hP];simp only[go_sem,zE,zA,zL,f1,f2,f6,D.len,yQj (nLi _)];intros;refine (ao aj _).mono ?_;rintro g st ⟨ac,rfl⟩;generalize yJn l f=gf at *;have au:=ac;have aq:=λst=>xY5 gl gf g ac (by omega) st;have av:=λst=>xY7 gl gf g ac (by omega) st;obtain⟨o5,n5,t5,x5,t6,x6,rfl⟩:=ac.agg;simp only[go_sem,zE,zA,zL];refine (aq _).mono ?_;rintro _ st ⟨rfl,rfl⟩;by_cases hz:gf.size<=400
  ·simp only[go_sem,zE,zA,zL,show decide ((400:Int)<(gf.size:Int))=false from dEf (by omega)];refine (av _).mono ?_;rintro _ st ⟨rfl,rfl⟩;rw[dEt hz];by_cases hd:gf.deep<=40
   ·rw[dEt hd];simp only[Bool.and_self,if_true];simp only[go_sem,zE,zA,zL,f4,show decide ((40:Int)<(gf.deep:Int))=false from dEf (by omega)];exact yQ0 ⟨_,rfl,au,rfl⟩
   ·rw[dEf hd];simp only[Bool.and_false,bFt,if_false];simp only[go_sem,zE,zA,zL,f4,show decide ((40:Int)<(gf.deep:Int))=true from dEt (by omega)];exact yQ0 ⟨_,rfl,xJj _ _ (.inl rfl) (.inl rfl),rfl⟩
  ·rw[dEf hz];simp only[Bool.false_and,bFt,if_false];simp only[go_sem,zE,zA,zL,f4,show decide ((400:Int)<(gf.size:Int))=true from dEt (by omega)];exact yQ0 ⟨_,rfl,xJj _ _ (.inl rfl) (.inl rfl),rfl⟩
theorem xY4 (f:Fm)(x:IV)(O:IsFm f x)(hs:f.size<=500000)(nm:ByteArray)(t:Tm)(y:IV)(J:IsTm t y)(W:t.size<=1000000)(st:ISt) :
  ICall prog gl 69 [x,.raw (.string nm),y] st (FE (yZf f [(nm,t)]).1 (yZf f [(nm,t)]).2 st):=by
 obtain⟨v,F,t3,E,rfl⟩:=J.agg;have A:IsOnes [(nm,t)] [.agg [.raw (.string nm),.raw (.bool v),.raw (.string F),.sl t3 E]]:=⟨_,[],rfl,⟨v,F,t3,E,rfl,J⟩,rfl⟩
 have hc:=λU D st=>vZ6 gl f x O hs [(nm,t)] U _ D A (by simp) (λp hp=>by rw[List.mem_singleton] at hp;subst hp;exact W) st;obtain⟨o0,n0,ta,xa,tb,xb,rfl⟩:=O.agg;refine iI func69 ?_;simp only[go_sem,zE,zA,zM,zL,fits,yQ1];refine (hc _ (by simp only[go_sem]) _).mono ?_;rintro _ _ ⟨z,rfl,G,rfl⟩;obtain⟨o5,n5,t5,x5,t6,x6,rfl⟩:=G.agg;simp only[go_sem,zE,zA,zL];exact yQ0 ⟨_,rfl,G,rfl⟩
