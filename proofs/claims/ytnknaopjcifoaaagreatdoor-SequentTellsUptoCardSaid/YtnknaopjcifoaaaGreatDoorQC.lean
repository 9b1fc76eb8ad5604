/- Walks: the normal form of a sequent. -/
import Derived.Test.YtnknaopjcifoaaaGreatDoorQB
import Derived.Test.YtnknaopjcifoaaaGreatDoorKU
import Derived.Test.YtnknaopjcifoaaaGreatDoorLE
import Derived.Test.YtnknaopjcifoaaaGreatDoorKG
set_option linter.all false
open Nat renaming reduceEqDiff → zE,reduceBEq → zB,reduceAdd → zA,reduceMul → zM,reduceSub → zS,reduceLeDiff → zL
namespace Go.Proofs.Tryz
open Go Go.Iv
set_option maxRecDepth 4000
variable (gl:Nat->Option IV)
open Classical in
noncomputable def setF (l:List Fm):List Fm:=if h:∃r,SetF l r then h.choose else []
theorem zJb {l r:List Fm}(h:SetF l r):setF l=r:=by
 have he:∃r,SetF l r:=⟨r,h⟩
 unfold setF;rw[dif_pos he];exact SetF.one he.choose_spec h
theorem xKg:setF []=[]:=zJb ⟨List.Pairwise.nil,λ_=>Iff.rfl⟩
noncomputable def yX6 (l:List Fm):List Fm×Nat:=if l.all Fm.right then (setF (l.map zX3),0) else ([],2)
theorem xZj (t:Tag)(ht:t.cap=.nil)(st:ISt):ICall prog gl 69 [.sl t [],.fn (.func 70) [] []] st (λr st'=>(∃t',r=.sl t' []/\t'.cap=.nil)/\st'=st):=by
 obtain⟨fs,c,es⟩:=t;obtain rfl:c=.nil:=ht;refine ICall.intro (c:=cf prog gl [22,27,42,47] []) func69 rfl (by show _<=66;simp) (by kernel_rfl) ?_;simp only[go_sem,zL,reduceCtorEq,show decide (((0:Nat):Int)<2)=true from rfl];exact yQ0 ⟨⟨_,rfl,rfl⟩,rfl⟩
theorem wKz {l:List IV}(h:∀x∈l,dfr x):dfrs l:=by
 induction l with
 | nil=>trivial
 | cons x l ih=>exact⟨h x (by simp),ih λy hy=>h y (by simp[hy])⟩
theorem wJk {l m:List Fm}(hp:m.Perm l)(h:m.Pairwise (λx y=>¬ yXq y x<0))(hl:0<l.length):0<(setF l).length:=by
 rw[zJb (wX7 _ m hp h)];have:=hp.length_eq
 match m,this with
 | [],e=>simp at e;omega
 | a::m,_=>simp[dd]
theorem zUr (G:Gl gl)(T:Gt gl)(l:List Fm)(tg:Tag)(xs:List IV)(htg:okEs tg 4)(hx:IsFms l xs)(hs:fitL l)(hlen:l.length<=1099511627776)(st:ISt) :
  ICall prog gl 50 [.sl tg xs] st (λr st'=>(∃t ys,r=.tup [.sl t ys,.raw (.int .i64 (yX6 l).2)]/\okEs t 4/\appT (yX6 l).1.length t/\IsFmsD (yX6 l).1 ys)/\st'=st):=by
 refine ICall.fixN (ICall.mono (K:=λy st'=>(l.all Fm.right=false/\y=.tup [.sl ⟨true,.nil,0⟩ [],.raw (.int .i64 2)]/\st'=st)\/(l=[]/\(∃t,y=.tup [.sl t [],.raw (.int .i64 0)]/\t.cap=.nil)/\st'=st) \/
   (l.all Fm.right=true/\∃g cap k cs zs,st g=none/\k<=cap/\cap*4<=cs.length/\cs.take (k*4)=zs.flatMap IV.cells/\0<k/\IsFmsD (setF (l.map zX3)) zs/\zs.length=k/\k<=l.length/\y=.tup [.raw (.slice (some ⟨g,0,none⟩) k cap),.raw (.int .i64 0)]/\st'=st.put g (some (.box cs)))) ?_ ?_)
 ·refine ICall.intro (c:=cf prog gl [26] []) func50 rfl (by show _<=32;simp) (by kernel_rfl) ?_;simp only[go_sem,reduceCtorEq,hx.len];intro _;refine LoopC.ctr l.length (λk fr st' ds=>(l.take k).all Fm.right=true/\((k=0/\fr 4=.iv (.sl ⟨true,.nil,0⟩ [])/\st'=st)\/(0<k/\∃g cap cs zs,st g=none/\k<=cap/\cap*4<=cs.length/\cs.take (k*4)=zs.flatMap IV.cells/\IsFmsD ((l.take k).map zX3) zs/\zs.length=k/\fr 4=.iv (.raw (.slice (some ⟨g,0,none⟩) k cap))/\st'=st.put g (some (.box cs)))) /\
   fr 9=.iv (.sl tg xs)/\fr 10=.iv (.raw (.int .i64 l.length))/\fr 11=.iv (.raw (.int .i64 k))/\ds=[]) ?_ ?_ ?_
  ·simp only[go_sem,zE,zM];rfl
  ·rintro k fr st1 _ hlt ⟨hall,hor,f9,f10,f11,rfl⟩;obtain⟨a,ha⟩:=yQ3 hlt;obtain⟨y,hky,hya⟩:=hx.get ha;have ham:=lMg ha;have hcall:=wVr gl G T a y hya (hs a ham) st1;obtain⟨y1,y2,y3,y4,y5,y6,rfl⟩:=hya.agg;simp only[go_sem,zE,zB,zA,zL,reduceCtorEq,f9,f10,f11,lt_i hlt,yQ1 htg,iNn,hky,fits];refine hcall.mono ?_;rintro _ st1 ⟨y',rfl,hyD,rfl⟩;have hy':=hyD.1;unfold yVx at hy';cases hr:a.right
   ·rw[hr] at hy';simp only[bFt,if_false] at hy';obtain⟨z1,z2,z3,z4,z5,z6,rfl⟩:=hy'.agg;unfold yVx;rw[hr];simp only[bFt,if_false];simp only[go_sem,zE,zA,zL,show decide (((2:Nat):Int)=0)=false from rfl];have hsub:subSt st st1:=by
     rcases hor with⟨_,_,h⟩|⟨_,g,cap,cs,zs,hg,_,_,_,_,_,_,h⟩
     ·rw[h];exact subSt.refl _
     ·rw[h];exact yQe hg
    exact yQa hsub (.inl ⟨List.all_eq_false.2 ⟨a,ham,by simp[hr]⟩,rfl,rfl⟩)
   ·rw[hr] at hy';simp only[if_true] at hy';rw[show (yVx a).1=zX3 a by unfold yVx;rw[hr];simp] at hyD;have hy0:=hyD;obtain⟨z1,z2,z3,z4,z5,z6,rfl⟩:=hy'.agg;unfold yVx;rw[hr];simp only[if_true];have hall':(l.take (k+1)).all Fm.right=true:=by
     rw[yQ5 ha,List.all_append,hall];simp[hr]
    rcases hor with⟨rfl,f4,rfl⟩|⟨hk0,g,cap,cs,zs,hg,h1,h2,h3,hz,hzl,f4,rfl⟩
    ·simp only[go_sem,zE,zA,zM,zL,show decide (((0:Nat):Int)=0)=true from rfl,fits,f4,yQ2];intro g cap;refine yQc λhg=>?_;obtain⟨hg,hcap⟩:=hg;simp only[go_sem,zE,f9,f10,f11,show IntKind.i64.wrap (((0:Nat):Int)+1)=((1:Nat):Int) from rfl];have hl1:(l.take 1).map zX3=[zX3 a]:=by
      have:=yQ5 ha;simp only[Nat.zero_add,List.take_zero,List.nil_append] at this;rw[this];rfl
     refine⟨by simpa using hall',.inr ⟨by omega,g,cap,_,[.agg [.raw (.int .u8 z1),.raw (.string z2),.sl z3 z4,.sl z5 z6]],hg,hcap,?_,?_,by rw[hl1];exact IsFmsD.one hy0,rfl,rfl,rfl⟩⟩
     ·simp[IV.cells];omega
     ·simp[IV.cells]
    ·simp only[go_sem,zE,zA,zM,zL,show decide (((0:Nat):Int)=0)=true from rfl,fits,f4,yQ2];have hkk:k<=1099511627776:=by omega
     refine zZi _ _ _ (ISt.put_same ..) (by simp[fits,IV.one]) ⟨by show (_+1)*72<=_;omega,by show _+1<=_;omega⟩ ⟨h1,h2⟩ (by simp[IV.cells]) ?_;intro g' cap' cs' hg' q1 q2 q3;have hst':((st.put g (some (.box cs))).put g none).put g' (some (.box cs'))=st.put g' (some (.box cs')):=by
      funext c;simp only[ISt.put_apply];split
      ·rfl
      ·split
       ·subst_vars;exact hg.symm
       ·rfl
     have hg1:st g'=none:=by
      rcases hg' with rfl|h
      ·exact hg
      ·rw[ISt.put_apply] at h;split at h
       ·cases h
       ·exact h
     simp only[go_sem,zE,f9,f10,f11,yQ9 hlt (show l.length<=281474976710656 by omega)];refine⟨hall',.inr ⟨by omega,g',cap',cs',zs++[.agg [.raw (.int .u8 z1),.raw (.string z2),.sl z3 z4,.sl z5 z6]],hg1,q1,q2,?_,?_,by simp[hzl],rfl,hst'⟩⟩
     ·rw[List.flatMap_append,<- h3];exact q3
     ·rw[yQ5 ha,List.map_append];exact hz.append (IsFmsD.one hy0)
  ·rintro fr st1 _ ⟨hall,hor,f9,f10,f11,rfl⟩;rw[lTl] at hall hor;rcases hor with⟨h0,f4,rfl⟩|⟨hk0,g,cap,cs,zs,hg,h1,h2,h3,hz,hzl,f4,rfl⟩
   ·simp only[go_sem,zE,zA,f4,f10,f11,yQj (nLi _)];refine (wXz gl _ rfl _).mono ?_;rintro _ _ ⟨rfl,rfl⟩;simp only[go_sem,zE,zA,f4];refine (xZj gl _ rfl _).mono ?_;rintro _ _ ⟨⟨t',rfl,ht'⟩,rfl⟩;simp only[go_sem,zE];exact yQ0 (.inr (.inl ⟨List.eq_nil_of_length_eq_zero h0,⟨t',rfl,ht'⟩,rfl⟩))
   ·have hcs:cs=zs.flatMap IV.cells++cs.drop (l.length*4):=by rw[<- h3,List.take_append_drop]
    have hzl':=hz.len;have hsort:=vJx gl (l.map zX3) zs (cs.drop (l.length*4)) hz.1 (by rintro rfl;simp at hzl;omega) (by omega) g cap (st.put g (some (.box cs))) (by rw[ISt.put_same,<- hcs]);rw[hzl] at hsort;simp only[go_sem,zE,zA,f4,f10,f11,yQj (nLi _)];refine hsort.mono ?_;rintro _ _ ⟨rfl,m,ys,hm,hperm,hpw,hym,rfl⟩;have hml:m.length=l.length:=by rw[hperm.length_eq,List.length_map]
    have hcom:=wJ4 gl m ys (cs.drop (l.length*4)) hm (by omega) g cap (by omega) ((st.put g (some (.box cs))).put g (some (.box (ys.flatMap IV.cells++cs.drop (l.length*4))))) (ISt.put_same ..);rw[hml] at hcom;simp only[go_sem,zE,zA,f4];refine hcom.mono ?_;rintro _ _ ⟨k,cs2,zs2,rfl,rfl,hl2,ht2,hz2,hzl2,hk2,hzm2⟩;rw[yQd,yQd];simp only[go_sem,zE];have hyl:(ys.flatMap IV.cells).length=l.length*4:=by rw[yQz _ λy hy=>wZv (yK8 hm y hy),hm.len,hml]
    rw[lLa,hyl,List.length_drop] at hl2;exact yQ0 (.inr (.inr ⟨hall,g,cap,k,cs2,zs2,hg,by omega,by omega,ht2,by
     have h1:=wJk hperm hpw (by rw[List.length_map];exact hk0);rw[zJb (wX7 _ m hperm hpw),<- hz2.len,hzl2] at h1;exact h1,by rw[zJb (wX7 _ m hperm hpw)];exact⟨hz2,wKz λz hz'=>xW4 hz.2 (hym z (hzm2 z hz'))⟩,hzl2,hk2,rfl,rfl⟩))
 ·rintro y st' (⟨ha,rfl,rfl⟩|⟨rfl,⟨t,rfl,ht⟩,rfl⟩|⟨ha,g,cap,k,cs,zs,hg,hc1,hc2,hct,hk0,hz,hzl,hkl,rfl,rfl⟩)
  ·have hn:yX6 l=([],2):=by unfold yX6;rw[ha];rfl
   exact .inl ⟨⟨_,_,by rw[hn];rfl,.inl rfl,.inl rfl,by rw[hn];exact IsFmsD.nil⟩,rfl⟩
  ·have hn:yX6 []=([],0):=by unfold yX6;simp only[List.all_nil,if_true,List.map_nil,xKg]
   exact .inl ⟨⟨_,_,by rw[hn];rfl,.inl ht,.inl ht,by rw[hn];exact IsFmsD.nil⟩,rfl⟩
  ·have hn:yX6 l=(setF (l.map zX3),0):=by unfold yX6;rw[ha];rfl
   exact .inr ⟨g,k,cap,cs,4,zs,_,hg,rfl,rfl,hzl,by omega,hc1,hc2,hct,λz hz'=>wZv (yK8 hz.1 z hz'),⟨_,_,by rw[hn];rfl,.inr rfl,.inr ⟨by rw[hn];simp only;rw[<- hz.len,hzl];exact hk0,rfl,g,rfl⟩,by rw[hn];exact hz⟩,rfl⟩
noncomputable def SetS (s:Sq):Sq×Nat :=
 if (yX6 s.l).2≠0 then (⟨[],[]⟩,(yX6 s.l).2) else if (yX6 s.r).2≠0 then (⟨[],[]⟩,(yX6 s.r).2) else (⟨(yX6 s.l).1,(yX6 s.r).1⟩,0)
theorem uV8 (G:Gl gl)(T:Gt gl)(s:Sq)(x:IV)(hx:IsSq s x)(hs:yVz s)(hl:s.l.length<=1099511627776/\s.r.length<=1099511627776)(st:ISt) :
  ICall prog gl 27 [x] st (λr st'=>(∃y,r=.tup [y,.raw (.int .i64 (SetS s).2)]/\IsSqD (SetS s).1 y)/\st'=st):=by
 obtain⟨t1,x1,t2,x2,rfl,e1,i1,e2,i2⟩:=hx;have h1:=λst=>zUr gl G T s.l t1 x1 e1 i1 hs.1 hl.1 st;have h2:=λst=>zUr gl G T s.r t2 x2 e2 i2 hs.2 hl.2 st;unfold SetS;refine iI func27 ?_;simp only[go_sem,zE,zA];refine (h1 _).mono ?_;rintro _ st ⟨⟨t3,y1,rfl,e3,a3,j1⟩,rfl⟩;by_cases q1:(yX6 s.l).2=0
 ·rw[if_neg (by omega)];simp only[go_sem,zE,zA,q1,show decide (((0:Nat):Int)=0)=true from rfl];refine (h2 _).mono ?_;rintro _ st ⟨⟨t4,y2,rfl,e4,a4,j2⟩,rfl⟩;by_cases q2:(yX6 s.r).2=0
  ·rw[if_neg (by omega)];simp only[go_sem,zE,zA,zL,q2,show decide (((0:Nat):Int)=0)=true from rfl,fits];exact yQ0 ⟨⟨_,rfl,_,_,_,_,rfl,e3,a3,j1,e4,a4,j2⟩,rfl⟩
  ·rw[if_pos q2];simp only[go_sem,zE,zA,zL,show decide ((((yX6 s.r).2:Nat):Int)=0)=false from dEf (by omega)];exact yQ0 ⟨⟨_,rfl,_,_,_,_,rfl,.inl rfl,.inl rfl,IsFmsD.nil,.inl rfl,.inl rfl,IsFmsD.nil⟩,rfl⟩
 ·rw[if_pos q1];simp only[go_sem,zE,zA,zL,show decide ((((yX6 s.l).2:Nat):Int)=0)=false from dEf (by omega)];exact yQ0 ⟨⟨_,rfl,_,_,_,_,rfl,.inl rfl,.inl rfl,IsFmsD.nil,.inl rfl,.inl rfl,IsFmsD.nil⟩,rfl⟩
theorem uV9 (G:Gl gl)(T:Gt gl)(s:Sq)(x:IV)(hx:IsSq s x)(hs:yVz s)(hl:s.l.length<=1099511627776/\s.r.length<=1099511627776)(st:ISt) :
  ICall prog gl 27 [x] st (λr st'=>(∃y,r=.tup [y,.raw (.int .i64 (SetS s).2)]/\IsSq (SetS s).1 y)/\st'=st) :=
 (uV8 gl G T s x hx hs hl st).mono λr st' ⟨⟨y,h1,h2⟩,h3⟩=>⟨⟨y,h1,h2.w⟩,h3⟩
theorem zGa:∀ {l:List Fm}{c:Nat},(∀f∈l,f.size<=c)->yQ7 l<=l.length*c
 | [],c,_=>by simp[yQ7]
 | a::l,c,h=>by
  have h1:=h a (by simp);have h2:=zGa (l:=l) λf hf=>h f (by simp[hf]);rw[List.length_cons,Nat.succ_mul];simp only[yQ7];omega
def yJa (ca:Nat)(s m:Sq):Sq:=⟨s.l++m.l,if ca≠2\/m.r.length=0 then s.r++m.r else m.r⟩
def okI (ca:Nat)(s m:Sq):Bool:=decide ((yJa ca s m).l.length<=64)&&decide ((yJa ca s m).r.length<=64)
noncomputable def xJz (ca:Nat)(s:Sq)(rule:Nat)(main:Fm)(term:Tm)(name:ByteArray):List Sq×Nat :=
 if !yXo ca then ([],2) else if (yZo ca s rule main term name).2≠0 then ([],(yZo ca s rule main term name).2)
 else if (yZo ca s rule main term name).1.all (okI ca s) then ((yZo ca s rule main term name).1.map (yJa ca s),0) else ([],5)
theorem wGw {c:Prop} [Decidable c]{A B:List Sq}(h1:A.length<=2)(h2:B.length<=2):(if c then A else B).length<=2:=by split<;>assumption
theorem xWe (ca rule:Nat)(main a b:Fm):(addS ca rule main a b).length<=2:=by
 unfold addS
 repeat' apply wGw
 all_goals first|exact Nat.zero_le _|exact Nat.le_refl 2|exact Nat.le_succ 1
theorem wXk {ca rule:Nat}{r:Rw}{main:Fm}{term:Tm}{name:ByteArray}{ad:List Sq}(h:yZj ca rule r main term name=(ad,0)):ad.length<=2:=by
 unfold yZj at h;by_cases hc:(!fmB ca main || (decide (r.op≠0)&&decide (main.op≠r.op)))=true
 ·rw[if_pos hc] at h;cases (Prod.mk.inj h).2
 ·rw[if_neg hc] at h;by_cases h0:r.asks=0
  ·simp only[if_pos h0] at h;rw[<- (Prod.mk.inj h).1];exact xWe ..
  ·simp only[if_neg h0] at h;generalize (if r.asks=2 then Tm.mk true name [] else term)=t at h;by_cases h1:(!t.ok)=true
   ·simp only[if_pos h1] at h;cases (Prod.mk.inj h).2
   ·simp only[if_neg h1] at h;by_cases h2:(yZc ((main.subs[0]?).getD fm0) [(main.nm,t)]).2≠0
    ·simp only[if_pos h2] at h;cases (Prod.mk.inj h).2
    ·simp only[if_neg h2] at h;rw[<- (Prod.mk.inj h).1];exact xWe ..
theorem wQa {st st' S0:ISt}{tg:Tag}{n s:Nat}(h:own st tg n s S0)(hs:subSt st st'):own st' tg n s S0:=h.mono λg hg _=>hs g _ hg
theorem vK7 (G:Gl gl)(T:Gt gl)(ca:Nat)(s:Sq)(x:IV)(hx:IsSq s x)(hs:yVz s)(rule:Nat)(main:Fm)(y:IV)(hy:IsFm main y)(hm:main.size<=1000000)(term:Tm)(z:IV)(hz:IsTm term z)(ht:term.size<=1000000)(name:ByteArray)(st:ISt) :
  ICall prog gl 26 [.raw (.int .u8 ca),x,.raw (.int .u8 rule),y,z,.raw (.string name)] st (AdRD st (xJz ca s rule main term name)):=by
 have hstep:=λst=>wW8 gl G T ca s x hx hs rule main y hy hm term z hz ht name st;have hkn:=λst=>xJ0 gl ca st;obtain⟨t1,x1,t2,x2,rfl,e1,i1,e2,i2⟩:=hx;obtain⟨o3,n3,t3,x3,t4,x4,rfl⟩:=hy.agg;obtain⟨v,un,tz,xz,rfl⟩:=wYg hz;unfold xJz;refine ICall.intro (c:=cf prog gl [] [(10,[0,1,3,4,6,7,9,2,5,8,10]),(12,[0,1,3,4,2,5,6,7])]) func26 rfl (by show _<=82;simp) (by kernel_rfl) ?_;simp only[go_sem,zE,zA,reduceCtorEq];refine (hkn _).mono ?_;rintro _ st ⟨rfl,rfl⟩;cases hk:yXo ca
 ·simp only[go_sem,zE];exact yQ0 ⟨_,_,rfl,.inl rfl,.inl rfl,rfl,rfl⟩
 simp only[go_sem,zE,zA,zL,reduceCtorEq];refine (hstep _).mono ?_;rintro _ st ⟨tg,ys,rfl,he,hap,hysD,rfl⟩;have hys:=hysD.w;generalize hq:yZo ca s rule main term name=q at hysD hys ⊢;obtain⟨ad,er⟩:=q;simp only at hysD hys ⊢;by_cases h0:er=0
 ·subst h0;obtain⟨hv,r,hr⟩:=xUc hq;have hfit:=zKy hr;have hal2:=wXk hr;have hvl:s.l.length<=64/\s.r.length<=64:=by
   unfold yXd at hv;simp only[bAt,dTe] at hv;exact⟨hv.1.1.1.1.2,hv.1.1.1.2⟩
  have hF1:=λst=>xJc gl s.l t1 x1 e1 i1 (by have:=zGa hs.1;omega) st;have hF2:=λst=>xJc gl s.r t2 x2 e2 i2 (by have:=zGa hs.2;omega) st;simp only[if_false,ne_eq,nTf];simp only[go_sem,zE,show decide (((0:Nat):Int)=0)=true from rfl,hys.len];intro hal;refine LoopC.ctr ad.length (λk fr st' ds=>(ad.take k).all (okI ca s)=true/\(∃tg' zs,fr 16=.iv (.sl tg' zs)/\IsSqsD ((ad.take k).map (yJa ca s)) zs/\appT k tg'/\own st' tg' k 2 st/\subSt st st')/\fr 0=.iv (.raw (.int .u8 ca))/\fr 7=.box [.sl t1 x1,.sl t2 x2] /\
   fr 36=.iv (.sl tg ys)/\fr 37=.iv (.raw (.int .i64 ad.length))/\fr 38=.iv (.raw (.int .i64 k))/\ds=[]) ?_ ?_ ?_
  ·simp only[go_sem,zE,reduceCtorEq];exact⟨⟨_,_,rfl,rfl,.inl rfl,.inl ⟨rfl,rfl⟩,subSt.refl _⟩,rfl⟩
  ·rintro k fr st1 _ hlt ⟨hall,⟨tgo,zs,f16,hzs,hapo,hown,hsub⟩,f0,f7,f36,f37,f38,rfl⟩;obtain⟨a,ha⟩:=yQ3 hlt;obtain⟨w,hkw,hw⟩:=hys.get ha;have hza:=hfit a (lMg ha);obtain⟨_,e1',hwD⟩:=hysD.mem hkw;obtain rfl:=Option.some.inj (ha.symm.trans e1');obtain⟨t5,x5,t6,x6,rfl,k5,a5,j5D,k6,a6,j6D⟩:=hwD;have j5:=j5D.1;have j6:=j6D.1;simp only[go_sem,zE,zB,zA,zL,f7,f36,f37,f38,lt_i hlt,yQ1 he,iNn,hkw,fits];refine (hF1 _).mono ?_;rintro _ st2 ⟨t7,y7,rfl,k7,a7,hy7,hown7,hsub7⟩;simp only[go_sem,zE,zA];refine yGq hown7 hy7.len j5.len hsub7 rfl (List.all_eq_true.2 (yK8 j5)) (by show _*72<=_;have:=hza.2.1;omega) (by have:=hza.2.1;omega) λt8 st3 hown8 hsub8 _ a8=>?_;obtain⟨L,hL⟩:∃L,L=y7++x5:=⟨_,rfl⟩
   have hLD:IsFmsD (yJa ca s a).l L:=hL▸hy7.append j5D;have hLs:=hLD.1;have aL:appT (yJa ca s a).l.length t8:=(a8 a7.1).to (by show (s.l++a.l).length=_;rw[lLa]);have tL:=hown8.es;rw[<- hL];by_cases hca:ca=2
   ·have dca:decide ((ca:Int)=2)=true:=dEt (by omega);by_cases hr0:a.r.length=0
    ·simp only[go_sem,zE,zA,zL,reduceCtorEq,f0,f7,fits,dca,j6.len,hr0,show decide (((0:Nat):Int)=0)=true from rfl];refine (hF2 _).mono ?_;rintro _ st4 ⟨t9,y9,rfl,k9,a9,hy9,hown9,hsub9⟩;simp only[go_sem,zE,zA];refine yGq hown9 hy9.len j6.len hsub9 rfl (List.all_eq_true.2 (yK8 j6)) (by show _*72<=_;have:=hza.2.2;omega) (by have:=hza.2.2;omega) λt10 st5 hown10 hsub10 _ a10=>?_;obtain⟨R,hR⟩:∃R,R=y9++x6:=⟨_,rfl⟩
     have hRD:IsFmsD (yJa ca s a).r R:=by rw[hR];unfold yJa;rw[if_pos (by omega)];exact hy9.append j6D
     have hRs:=hRD.1;have aR:appT (yJa ca s a).r.length t10:=(a10 a9.1).to (by unfold yJa;rw[if_pos (by omega),lLa]);rw[<- hR];have hown':=wQa hown (hsub8.trans hsub10);have hallA:∀(h:okI ca s a=false),ad.all (okI ca s)=false:=λh=>List.all_eq_false.2 ⟨a,lMg ha,by rw[h];simp⟩;by_cases hl64:(yJa ca s a).l.length<=64
     ·have dl:decide ((64:Int)<(((yJa ca s a).l.length:Nat):Int))=false:=dEf (by omega);by_cases hr64:(yJa ca s a).r.length<=64
      ·have dr:decide ((64:Int)<(((yJa ca s a).r.length:Nat):Int))=false:=dEf (by omega);have hok:okI ca s a=true:=by unfold okI;rw[dEt hl64,dEt hr64];rfl
       simp only[go_sem,zE,zA,zM,zL,f16,fits,hLs.len,hRs.len,dl,dr,yQ2];intros;refine yZz hown' (by rw[hzs.w.len,List.length_map,List.length_take];omega) (hsub.trans (hsub8.trans hsub10)) rfl (by simp[fits,IV.one]) (by simp only;omega) (by omega) λtg2 st6 hown2 hsub4 _ hap2=>?_;simp only[go_sem,zE,reduceCtorEq,f0,f7,f36,f37,f38,yQ9 hlt (show ad.length<=281474976710656 by omega)];refine⟨by rw[yQ5 ha,List.all_append,hall];simp[hok],tg2,_,rfl,?_,hap2,hown2,hsub4⟩;rw[yQ5 ha,List.map_append];exact hzs.append ⟨_,_,rfl,⟨_,_,_,_,rfl,tL,aL,hLD,hown10.es,aR,hRD⟩,rfl⟩
      ·have dr:decide ((64:Int)<(((yJa ca s a).r.length:Nat):Int))=true:=dEt (by omega);simp only[go_sem,zE,zA,zL,hLs.len,hRs.len,dl,dr];intros;refine yQa (hsub.trans (hsub8.trans hsub10)) ?_;rw[hallA (by unfold okI;rw[dEf hr64,Bool.and_false])];exact⟨_,_,rfl,.inl rfl,.inl rfl,rfl,rfl⟩
     ·have dl:decide ((64:Int)<(((yJa ca s a).l.length:Nat):Int))=true:=dEt (by omega);simp only[go_sem,zE,zA,zL,hLs.len,dl];intros;refine yQa (hsub.trans (hsub8.trans hsub10)) ?_;rw[hallA (by unfold okI;rw[dEf hl64,Bool.false_and])];exact⟨_,_,rfl,.inl rfl,.inl rfl,rfl,rfl⟩
    ·simp only[go_sem,zE,zA,zL,reduceCtorEq,f0,fits,dca,j6.len,show decide (((a.r.length:Nat):Int)=0)=false from dEf (by omega),hLs.len];intros;have hRD:IsFmsD (yJa ca s a).r x6:=by unfold yJa;rw[if_neg (by omega)];exact j6D
     have hRs:=hRD.1;have aR:appT (yJa ca s a).r.length t6:=a6.to (by unfold yJa;rw[if_neg (by omega)]);have hown':=wQa hown hsub8;have hallA:∀(h:okI ca s a=false),ad.all (okI ca s)=false:=λh=>List.all_eq_false.2 ⟨a,lMg ha,by rw[h];simp⟩;by_cases hl64:(yJa ca s a).l.length<=64
     ·have dl:decide ((64:Int)<(((yJa ca s a).l.length:Nat):Int))=false:=dEf (by omega);by_cases hr64:(yJa ca s a).r.length<=64
      ·have dr:decide ((64:Int)<(((yJa ca s a).r.length:Nat):Int))=false:=dEf (by omega);have hok:okI ca s a=true:=by unfold okI;rw[dEt hl64,dEt hr64];rfl
       simp only[go_sem,zE,zA,zM,zL,f16,fits,hRs.len,dl,dr,yQ2];intros;refine yZz hown' (by rw[hzs.w.len,List.length_map,List.length_take];omega) (hsub.trans hsub8) rfl (by simp[fits,IV.one]) (by simp only;omega) (by omega) λtg2 st6 hown2 hsub4 _ hap2=>?_;simp only[go_sem,zE,reduceCtorEq,f0,f7,f36,f37,f38,yQ9 hlt (show ad.length<=281474976710656 by omega)];refine⟨by rw[yQ5 ha,List.all_append,hall];simp[hok],tg2,_,rfl,?_,hap2,hown2,hsub4⟩;rw[yQ5 ha,List.map_append];exact hzs.append ⟨_,_,rfl,⟨_,_,_,_,rfl,tL,aL,hLD,k6,aR,hRD⟩,rfl⟩
      ·have dr:decide ((64:Int)<(((yJa ca s a).r.length:Nat):Int))=true:=dEt (by omega);simp only[go_sem,zE,hRs.len,dl,dr];intros;refine yQa (hsub.trans hsub8) ?_;rw[hallA (by unfold okI;rw[dEf hr64,Bool.and_false])];exact⟨_,_,rfl,.inl rfl,.inl rfl,rfl,rfl⟩
     ·have dl:decide ((64:Int)<(((yJa ca s a).l.length:Nat):Int))=true:=dEt (by omega);simp only[go_sem,zE,dl];intros;refine yQa (hsub.trans hsub8) ?_;rw[hallA (by unfold okI;rw[dEf hl64,Bool.false_and])];exact⟨_,_,rfl,.inl rfl,.inl rfl,rfl,rfl⟩
   ·have dca:decide ((ca:Int)=2)=false:=dEf (by omega);simp only[go_sem,zE,zA,zL,reduceCtorEq,f0,f7,fits,dca];refine (hF2 _).mono ?_;rintro _ st4 ⟨t9,y9,rfl,k9,a9,hy9,hown9,hsub9⟩;simp only[go_sem,zE,zA];refine yGq hown9 hy9.len j6.len hsub9 rfl (List.all_eq_true.2 (yK8 j6)) (by show _*72<=_;have:=hza.2.2;omega) (by have:=hza.2.2;omega) λt10 st5 hown10 hsub10 _ a10=>?_;obtain⟨R,hR⟩:∃R,R=y9++x6:=⟨_,rfl⟩
    have hRD:IsFmsD (yJa ca s a).r R:=by rw[hR];unfold yJa;rw[if_pos (by omega)];exact hy9.append j6D
    have hRs:=hRD.1;have aR:appT (yJa ca s a).r.length t10:=(a10 a9.1).to (by unfold yJa;rw[if_pos (by omega),lLa]);rw[<- hR];have hown':=wQa hown (hsub8.trans hsub10);have hallA:∀(h:okI ca s a=false),ad.all (okI ca s)=false:=λh=>List.all_eq_false.2 ⟨a,lMg ha,by rw[h];simp⟩;by_cases hl64:(yJa ca s a).l.length<=64
    ·have dl:decide ((64:Int)<(((yJa ca s a).l.length:Nat):Int))=false:=dEf (by omega);by_cases hr64:(yJa ca s a).r.length<=64
     ·have dr:decide ((64:Int)<(((yJa ca s a).r.length:Nat):Int))=false:=dEf (by omega);have hok:okI ca s a=true:=by unfold okI;rw[dEt hl64,dEt hr64];rfl
      simp only[go_sem,zE,zA,zM,zL,f16,fits,hLs.len,hRs.len,dl,dr,yQ2];intros;refine yZz hown' (by rw[hzs.w.len,List.length_map,List.length_take];omega) (hsub.trans (hsub8.trans hsub10)) rfl (by simp[fits,IV.one]) (by simp only;omega) (by omega) λtg2 st6 hown2 hsub4 _ hap2=>?_;simp only[go_sem,zE,reduceCtorEq,f0,f7,f36,f37,f38,yQ9 hlt (show ad.length<=281474976710656 by omega)];refine⟨by rw[yQ5 ha,List.all_append,hall];simp[hok],tg2,_,rfl,?_,hap2,hown2,hsub4⟩;rw[yQ5 ha,List.map_append];exact hzs.append ⟨_,_,rfl,⟨_,_,_,_,rfl,tL,aL,hLD,hown10.es,aR,hRD⟩,rfl⟩
     ·have dr:decide ((64:Int)<(((yJa ca s a).r.length:Nat):Int))=true:=dEt (by omega);simp only[go_sem,zE,zA,zL,hLs.len,hRs.len,dl,dr];intros;refine yQa (hsub.trans (hsub8.trans hsub10)) ?_;rw[hallA (by unfold okI;rw[dEf hr64,Bool.and_false])];exact⟨_,_,rfl,.inl rfl,.inl rfl,rfl,rfl⟩
    ·have dl:decide ((64:Int)<(((yJa ca s a).l.length:Nat):Int))=true:=dEt (by omega);simp only[go_sem,zE,zA,zL,hLs.len,dl];intros;refine yQa (hsub.trans (hsub8.trans hsub10)) ?_;rw[hallA (by unfold okI;rw[dEf hl64,Bool.false_and])];exact⟨_,_,rfl,.inl rfl,.inl rfl,rfl,rfl⟩
  ·rintro fr st1 _ ⟨hall,⟨tgo,zs,f16,hzs,hapo,hown,hsub⟩,f0,f7,f36,f37,f38,rfl⟩;rw[lTl] at hall hzs;simp only[go_sem,zE,f16,f37,f38,yQj (nLi _)];rw[if_pos hall];exact yQa hsub ⟨_,_,rfl,hown.es,hapo.to (by rw[List.length_map]),hzs,rfl⟩
 ·have d0:decide ((er:Int)=0)=false:=dEf (by omega);simp only[go_sem,zE,d0];rw[if_pos h0];exact yQ0 ⟨_,_,rfl,.inl rfl,.inl rfl,rfl,rfl⟩
noncomputable def zQv (ca rule:Nat)(main:Fm)(term:Tm)(name:ByteArray):List Sq×Nat :=
 if !yXo ca then ([],2) else match rowS ca rule with
  | none=>([],191)
  | some r=>yZj ca rule r main term name
theorem wY4 (G:Gl gl)(T:Gt gl)(ca:Nat)(s:Sq)(x:IV)(hx:IsSq s x)(hs:yVz s)(rule:Nat)(main:Fm)(y:IV)(hy:IsFm main y)(hm:main.size<=1000000)(term:Tm)(z:IV)(hz:IsTm term z)(ht:term.size<=1000000)(name:ByteArray)(st:ISt) :
  ICall prog gl 26 [.raw (.int .u8 ca),x,.raw (.int .u8 rule),y,z,.raw (.string name)] st (AdR st (xJz ca s rule main term name)) :=
 (vK7 gl G T ca s x hx hs rule main y hy hm term z hz ht name st).mono AdRD.w
end Go.Proofs.Tryz
namespace Go.Proofs.Tryz
open Go Go.Iv
theorem wXl (ca rule:Nat)(r:Rw)(main:Fm)(term:Tm)(name:ByteArray):(yZj ca rule r main term name).2=0\/(yZj ca rule r main term name).2=192\/(yZj ca rule r main term name).2=193:=by
 unfold yZj;grind
theorem zJ4 {ca:Nat}{s:Sq}{rule:Nat}{main:Fm}{term:Tm}{name:ByteArray}(h:(yZo ca s rule main term name).2=0):yXd ca s=true:=by
 unfold yZo at h;grind
theorem zX9 (ca:Nat)(t:Tr)(h:yXo ca=false):yXk ca t=([],2):=by
 unfold yXk;rw[h];rfl
theorem yZl:∀ {l:List Tr}{a:Tr},a∈l->a.steps<=yQl l
 | b::l,a,h=>by
  simp only[yQl];rcases List.mem_cons.1 h with rfl|h
  ·omega
  ·have:=yZl h;omega
end Go.Proofs.Tryz
namespace Go.Proofs.Tryz
open Go Go.Iv
theorem wKy {a b:Fm}:eqF a b=true↔a.op=b.op/\a.right=true/\b.right=true/\dbF [] a=dbF [] b:=by
 unfold eqF yKg;simp only[bAt,dTe,yQm,and_assoc]
theorem xW2 {a:Fm}(h:a.right=true):eqF a a=true:=wKy.2 ⟨rfl,h,h,rfl⟩
theorem xQl {l:List Fm}{f:Fm}:hasF l f=true↔∃g∈l,eqF f g=true:=by simp[hasF]
theorem wXj {l m:List Fm}:allF l m=true↔∀f∈l,hasF m f=true:=by simp[allF]
end Go.Proofs.Tryz
namespace Go.Proofs.Tryz
open Go Go.Iv
theorem wJg {ca:Nat}{s:Sq}{rule:Nat}{main:Fm}{term:Tm}{name:ByteArray}{r:Rw}(h1:yXd ca s=true)(h2:rowS ca rule=some r)(h3:(yZj ca rule r main term name).2=0)
  (h4:r.left=true->hasF s.l main=true) (h5:r.right=true->hasF s.r main=true) (h6:r.asks=2->yK7 s name=false):yZo ca s rule main term name=((yZj ca rule r main term name).1,0):=by
 unfold yZo;grind
theorem xWq {ca:Nat}{s:Sq}{rule:Nat}{main:Fm}{term:Tm}{name:ByteArray}(h:(yZo ca s rule main term name).2=0) :
  ∃r,yXd ca s=true/\rowS ca rule=some r/\(yZj ca rule r main term name).2=0/\(r.left=true->hasF s.l main=true)/\(r.right=true->hasF s.r main=true)/\(r.asks=2->yK7 s name=false) /\
   yZo ca s rule main term name=((yZj ca rule r main term name).1,0):=by
 have hv:=zJ4 h;cases hr:rowS ca rule with
 | none=>unfold yZo at h;rw[hv,hr] at h;simp at h
 | some r =>
  have key:(yZj ca rule r main term name).2=0/\(r.left&&!hasF s.l main)=false/\(r.right&&!hasF s.r main)=false/\(decide (r.asks=2)&&yK7 s name)=false:=by
   unfold yZo at h;grind
  obtain⟨k1,k2,k3,k4⟩:=key;have q4:r.left=true->hasF s.l main=true:=λhl=>by rw[hl] at k2;simpa using k2
  have q5:r.right=true->hasF s.r main=true:=λhl=>by rw[hl] at k3;simpa using k3
  have q6:r.asks=2->yK7 s name=false:=λhl=>by rw[hl] at k4;simpa using k4
  exact⟨r,hv,rfl,k1,q4,q5,q6,wJg hv hr k1 q4 q5 q6⟩
section
variable {ca rule:Nat}{s:Sq}{f:Fm}{u:Tm}{n:ByteArray}{sub:List Tr}(h:(yXk ca (.mk rule s f u n sub)).2=0)(h1:s.l.length<64)(h2:s.r.length<64)
include h h1 h2
end
end Go.Proofs.Tryz
namespace Go.Proofs.Tryz
open Go Go.Iv
section
variable {ca rule:Nat}{s:Sq}{f:Fm}{u:Tm}{n:ByteArray}{sub:List Tr}(h:(yXk ca (.mk rule s f u n sub)).2=0)
include h
end
end Go.Proofs.Tryz
namespace Go.Proofs.Tryz
open Go Go.Iv
theorem zQl {ca:Nat}{f:Fm}:fmB ca f=true↔f.ok=true/\f.size<=400/\f.deep<=40/\opsB ca f=true:=by
 unfold fmB Fm.right;grind
end Go.Proofs.Tryz
namespace Go.Proofs.Tryz
open Go Go.Iv
theorem zQ6 {α:Type}{c:Prop} [Decidable c]{a r:α}{x:Option α}(h:(if c then some a else x)=some r):(c/\r=a)\/(¬c/\x=some r):=by
 grind
theorem wK3 {α:Type}{c:Prop} [Decidable c]{a b r:α}(h:(if c then a else b)=r):(c/\a=r)\/(¬c/\b=r):=by
 grind
theorem zUj {ca rule:Nat}{r:Rw}(h:rowS ca rule=some r):(rule=1/\r=⟨true,true,0,0⟩)\/(rule=2/\r=⟨true,false,2,0⟩)\/(rule=3/\r=⟨true,false,3,0⟩)\/(rule=4/\r=⟨false,true,3,0⟩)\/(rule=5/\r=⟨true,false,4,0⟩)\/(rule=6/\r=⟨false,true,4,0⟩) \/
  (rule=7/\r=⟨true,false,5,0⟩)\/(rule=8/\r=⟨false,true,5,0⟩)\/(rule=9/\r=⟨true,false,6,0⟩)\/(rule=10/\r=⟨false,true,6,0⟩)\/(rule=11/\r=⟨true,false,7,0⟩)\/(rule=12/\r=⟨false,true,7,0⟩) \/
  (rule=13/\r=⟨true,false,8,1⟩)\/(rule=14/\r=⟨false,true,8,2⟩)\/(rule=15/\r=⟨true,false,9,2⟩)\/(rule=16/\r=⟨false,true,9,1⟩)\/(rule=17/\r=⟨false,false,0,0⟩)\/(rule=18/\r=⟨false,true,5,0⟩):=by
 unfold rowS rowK at h;rcases zQ6 h with⟨⟨hc,hr⟩,hq⟩|⟨_,h⟩
 ·subst hr;subst hq;simp
 rcases zQ6 h with⟨⟨hc,hr⟩,hq⟩|⟨_,h⟩
 ·subst hr;subst hq;simp
 rcases zQ6 h with⟨⟨hc,hr⟩,hq⟩|⟨_,h⟩
 ·subst hr;subst hq;simp
 rcases zQ6 h with⟨⟨hc,hr⟩,hq⟩|⟨_,h⟩
 ·subst hr;subst hq;simp
 rcases zQ6 h with⟨⟨hc,hr⟩,hq⟩|⟨_,h⟩
 ·subst hr;subst hq;simp
 rcases zQ6 h with⟨hr,hq⟩|⟨_,h⟩
 ·subst hr;subst hq;simp
 rcases zQ6 h with⟨hr,hq⟩|⟨_,h⟩
 ·subst hr;subst hq;simp
 rcases zQ6 h with⟨hr,hq⟩|⟨_,h⟩
 ·subst hr;subst hq;simp
 rcases zQ6 h with⟨hr,hq⟩|⟨_,h⟩
 ·subst hr;subst hq;simp
 rcases zQ6 h with⟨hr,hq⟩|⟨_,h⟩
 ·subst hr;subst hq;simp
 rcases zQ6 h with⟨hr,hq⟩|⟨_,h⟩
 ·subst hr;subst hq;simp
 rcases zQ6 h with⟨hr,hq⟩|⟨_,h⟩
 ·subst hr;subst hq;simp
 rcases zQ6 h with⟨hr,hq⟩|⟨_,h⟩
 ·subst hr;subst hq;simp
 rcases zQ6 h with⟨hr,hq⟩|⟨_,h⟩
 ·subst hr;subst hq;simp
 grind
end Go.Proofs.Tryz
namespace Go.Proofs.Tryz
open Go Go.Iv
set_option maxRecDepth 4000
variable (gl:Nat->Option IV)
mutual
def opsR (ca:Nat):Fm->Bool
 | .mk op _ us sub=>(!decide (9<op)&&(!decide (7<op) || decide (ca=3))&&(!decide (op=1) || !decide (0<us.length) || decide (ca=3)))&&yUd ca sub
def yUd (ca:Nat):List Fm->Bool
 | []=>true
 | a::l=>opsR ca a&&yUd ca l
end
theorem xYi {op:Nat}{n:ByteArray}{a b:Nat}(h:yZ6 op n a b=true):1<=op/\(op≠1->a=0):=by
 unfold yZ6 at h;split at h
 all_goals (first|(simp only[bAt,dTe] at h;refine⟨by decide,λh1=>?_⟩;first|exact absurd rfl h1|exact h.1.2)|cases h)
mutual
theorem wQd (ca:Nat):∀f:Fm,f.ok=true->opsR ca f=opsB ca f
 | .mk op n us sub,h=>by
  simp only[Fm.ok,bAt] at h;obtain⟨h1,h2⟩:=xYi h.1.1;have ih:=xV1 ca sub h.2;simp only[opsR,opsB,ih];congr 1;have hus:us.isEmpty=decide (us.length=0):=by cases us<;>simp
  rw[hus,Bool.eq_iff_iff];simp only[bAt,Bool.or_eq_true,Bool.not_eq_true',dTe,decide_eq_false_iff_not];by_cases hc:ca=3
  ·simp only[hc,if_true,or_true,and_true,true_or];omega
  ·simp only[hc,if_false,or_false,false_or];by_cases ho:op=1
   ·simp only[ho,nTf,false_or];omega
   ·have:=h2 ho;simp only[ho,nFt,true_or,and_true,this];omega
theorem xV1 (ca:Nat):∀l:List Fm,yV3 l=true->yUd ca l=yYg ca l
 | [],_=>rfl
 | a::l,h=>by
  simp only[yV3,bAt] at h;simp only[yUd,yYg,wQd ca a h.1,xV1 ca l h.2]
end
theorem zZt (ca:Nat):∀l m:List Fm,yUd ca (l++m)=(yUd ca l&&yUd ca m)
 | [],m=>by simp[yUd]
 | a::l,m=>by simp only[List.cons_append,yUd,zZt ca l m,Bool.and_assoc]
theorem xYh {ca:Nat}{l:List Fm}{k:Nat}{a:Fm}(h:l[k]?=some a):yUd ca (l.take (k+1))=(yUd ca (l.take k)&&opsR ca a):=by
 rw[yQ5 h,zZt];simp[yUd]
theorem wK5 {ca:Nat}{l:List Fm}{a:Fm}(h:a∈l)(ha:opsR ca a=false):yUd ca l=false:=by
 induction l with
 | nil=>cases h
 | cons b l ih =>
  simp only[yUd];rcases List.mem_cons.1 h with rfl|h
  ·rw[ha];rfl
  ·rw[ih h,Bool.and_false]
def roC (ca:Nat)(f:Fm):Prop:=∀(x:IV) (_:IsFm f x) (_:f.size<=1099511627776) (st:ISt),ICall prog gl 187 [.raw (.int .u8 ca),x] st (λr st'=>r=.raw (.bool (opsR ca f))/\st'=st)
theorem wK4 (ca:Nat)(o:Nat)(n:ByteArray)(us:List Tm)(sub:List Fm)(IH:∀a∈sub,roC gl ca a):roC gl ca (.mk o n us sub):=by
 intro x hx hs st;obtain⟨t1,x1,t2,x2,rfl,ho,e1,i1,e2,i2⟩:=hx.mk;simp only[Fm.size] at hs;have hlsz:=yZn sub;have d9:decide ((9:Int)<((o:Nat):Int))=decide (9<o):=by rw[decide_eq_decide];omega
 have d7:decide ((7:Int)<((o:Nat):Int))=decide (7<o):=by rw[decide_eq_decide];omega
 have d1:decide (((o:Nat):Int)=1)=decide (o=1):=by rw[decide_eq_decide];omega
 have d3:decide (((ca:Nat):Int)=3)=decide (ca=3):=by rw[decide_eq_decide];omega
 have du:decide ((0:Int)<((us.length:Nat):Int))=decide (0<us.length):=by rw[decide_eq_decide];omega
 refine iI func187 ?_;cases q9:decide (9<o)
 case true =>
  simp only[go_sem,zE,zA,d9,q9];intros;exact yQ0 ⟨by simp only[opsR,q9,Bool.not_true,Bool.false_and],rfl⟩
 cases q7:decide (7<o)<;>cases q3:decide (ca=3)<;>cases q1:decide (o=1)<;>cases qu:decide (0<us.length)
 all_goals
  first
   | (simp only[go_sem,zE,zA,reduceCtorEq,i1.len,d9,d7,d1,d3,du,q9,q7,q3,q1,qu]
      intros;refine LoopC.ctr sub.length (λk fr st' ds=>yUd ca (sub.take k)=true/\fr 0=.iv (.raw (.int .u8 ca))/\fr 3=.box [.raw (.int .u8 o),.raw (.string n),.sl t1 x1,.sl t2 x2]/\fr 5=.iv (.raw (.int .i64 k))/\st'=st/\ds=[]) ?_ ?_ ?_
      ·simp only[go_sem,zE,reduceCtorEq];exact⟨rfl,rfl⟩
      ·rintro k fr st1 _ hlt ⟨hk,f0,f3,f5,rfl,rfl⟩;obtain⟨a,ha⟩:=yQ3 hlt;obtain⟨z,hkz,hzz⟩:=i2.get ha;obtain⟨h1,h2⟩:=yQu ha;have hcall:=λst=>IH a (lMg ha) z hzz (by omega) st;obtain⟨o5,n5,t5,x5,t6,x6,rfl⟩:=hzz.agg;simp only[go_sem,zE,zB,zA,reduceCtorEq,f0,f3,f5,i2.len,lt_i hlt,yQ1 e2,iNn,hkz,fits];intro _;refine (hcall _).mono ?_;rintro _ st2 ⟨rfl,rfl⟩;cases hra:opsR ca a
       ·simp only[go_sem];exact yQ0 ⟨by simp only[opsR,wK5 (lMg ha) hra,Bool.and_false],rfl⟩
       ·simp only[go_sem,zE,reduceCtorEq,f0,f3,f5,yQ9 hlt (show sub.length<=281474976710656 by omega)];rw[xYh ha,hk,hra];rfl
      ·rintro fr st1 _ ⟨hk,f0,f3,f5,rfl,rfl⟩;rw[lTl] at hk;simp only[go_sem,zE,f3,f5,i2.len,yQj (nLi _)];intro _;exact yQ0 ⟨by unfold opsR;rw[hk,q9,q7,q3,q1,qu];rfl,rfl⟩
      done)
   | (simp only[go_sem,zE,zA,reduceCtorEq,i1.len,d9,d7,d1,d3,du,q9,q7,q3,q1,qu]
      intros;exact yQ0 ⟨by unfold opsR;rw[q9,q7,q3,q1,qu];rfl,rfl⟩)
theorem wQc (ca:Nat):∀(k:Nat) (f:Fm),SizeOf.sizeOf f<k->roC gl ca f
 | 0,f,h=>by omega
 | k+1,.mk o n us sub,h=>wK4 gl ca o n us sub (λa ha=>wQc ca k a (by
   have:=lSm ha;simp only[Fm.mk.sizeOf_spec] at h;omega))
theorem wQ4 (ca:Nat)(f:Fm)(x:IV)(hx:IsFm f x)(hs:f.size<=1099511627776)(st:ISt):ICall prog gl 152 [.raw (.int .u8 ca),x] st (λr st'=>r=.raw (.bool (fmB ca f))/\st'=st):=by
 have h1:=λst=>zXc gl f x hx hs st;have h2:=λst=>wQc gl ca _ f (Nat.lt_succ_self _) x hx hs st;unfold fmB;obtain⟨o5,n5,t5,x5,t6,x6,rfl⟩:=hx.agg;refine iI func152 ?_;simp only[go_sem,zE,zA,zL];refine (h1 _).mono ?_;rintro _ st ⟨rfl,rfl⟩;cases hr:f.right
 ·simp only[go_sem,zE];exact yQ0 ⟨rfl,rfl⟩
 simp only[go_sem,zE,zA,zL,reduceCtorEq];refine (h2 _).mono ?_;rintro _ st ⟨rfl,rfl⟩;simp only[go_sem,zE];exact yQ0 ⟨by rw[wQd ca f (yJu hr).1],rfl⟩
theorem wVm {a b:Fm}(h:yKg a b=true):a.op=b.op:=by
 unfold yKg at h;simp only[bAt] at h;have:=yQm.1 h.2;obtain⟨o,n,us,sub⟩:=a;obtain⟨o',n',us',sub'⟩:=b;simp only[dbF] at this;split at this<;>split at this<;>simp only[NlF.mk.injEq] at this<;>exact this.1
theorem xQy (a b:Fm):eqF a b=yKg b a:=by
 unfold eqF;rw[Bool.eq_iff_iff,bAt,dTe];have hs:∀x y:Fm,yKg x y=true->yKg y x=true:=λx y h=>by
  unfold yKg at h ⊢;simp only[bAt] at h ⊢;exact⟨⟨h.1.2,h.1.1⟩,yQm.2 (yQm.1 h.2).symm⟩
 exact⟨λh=>hs _ _ h.2,λh=>⟨(wVm h).symm,hs _ _ h⟩⟩
theorem xKr (G:Gl gl)(l:List Fm)(tg:Tag)(xs:List IV)(htg:okEs tg 4)(hxs:IsFms l xs)(f:Fm)(y:IV)(hy:IsFm f y)(hl:fitL l)(hf:f.size<=1000000)(hlen:l.length<=1099511627776)(st:ISt) :
  ICall prog gl 108 [.sl tg xs,y] st (λr st'=>r=.raw (.bool (hasF l f))/\st'=st):=by
 have hA:=λg z hz (hg:g.size<=1000000) st=>xKt gl g f z y hz hy (by omega) (by omega) st;obtain⟨o9,n9,t9,x9,t8,x8,rfl⟩:=hy.agg;refine iI func108 ?_;simp only[go_sem];refine LoopC.ctr l.length (λk fr st' ds=>hasF (l.take k) f=false/\fr 0=.iv (.sl tg xs)/\fr 3=.box [.raw (.int .u8 o9),.raw (.string n9),.sl t9 x9,.sl t8 x8]/\fr 5=.iv (.raw (.int .i64 k))/\st'=st/\ds=[]) ?_ ?_ ?_
 ·simp only[go_sem,zE,reduceCtorEq];exact⟨rfl,rfl⟩
 ·rintro k fr st1 _ hlt ⟨hk,f0,f3,f5,rfl,rfl⟩;obtain⟨a,ha⟩:=yQ3 hlt;have ham:=lMg ha;obtain⟨z,hkz,hzz⟩:=hxs.get ha;have hcall:=λst=>hA a z hzz (hl a ham) st;obtain⟨o5,n5,t5,x5,t6,x6,rfl⟩:=hzz.agg;simp only[go_sem,zE,zB,zA,zL,reduceCtorEq,f0,f3,f5,hxs.len,lt_i hlt,yQ1 htg,iNn,hkz,fits];intro _;refine (hcall _).mono ?_;rintro _ st2 ⟨rfl,rfl⟩;rw[<- xQy];cases hra:eqF f a
  ·simp only[go_sem,zE,reduceCtorEq,f0,f3,f5,yQ9 hlt (show l.length<=281474976710656 by omega)];unfold hasF at hk ⊢;rw[yQ5 ha,List.any_append,hk];simp[hra]
  ·simp only[go_sem];refine yQ0 ⟨?_,rfl⟩;have:hasF l f=true:=xQl.2 ⟨a,ham,hra⟩;rw[this]
 ·rintro fr st1 _ ⟨hk,f0,f3,f5,rfl,rfl⟩;rw[lTl] at hk;simp only[go_sem,zE,reduceCtorEq,f0,f5,hxs.len,yQj (nLi _)];intro _;exact yQ0 ⟨by rw[hk],rfl⟩
theorem vZu (G:Gl gl)(l a b:List Fm)(tl ta tb:Tag)(xl xa xb:List IV)(e1:okEs tl 4)(i1:IsFms l xl)(e2:okEs ta 4)(i2:IsFms a xa)(e3:okEs tb 4)(i3:IsFms b xb)(hl:fitL l)(ha:fitL a)(hb:fitL b)
  (hlen:l.length<=1099511627776/\a.length<=1099511627776/\b.length<=1099511627776) (st:ISt) :
  ICall prog gl 74 [.sl tl xl,.sl ta xa,.sl tb xb] st (λr st'=>r=.raw (.bool (allF l (a++b)))/\st'=st):=by
 have hHa:=λf y hy hf st=>xKr gl G a ta xa e2 i2 f y hy ha hf hlen.2.1 st;have hHb:=λf y hy hf st=>xKr gl G b tb xb e3 i3 f y hy hb hf hlen.2.2 st;have happ:∀f,hasF (a++b) f=(hasF a f || hasF b f):=λf=>by unfold hasF;rw[List.any_append]
 refine iI func74 ?_;simp only[go_sem];refine LoopC.ctr l.length (λk fr st' ds=>allF (l.take k) (a++b)=true/\fr 0=.iv (.sl tl xl)/\fr 1=.iv (.sl ta xa)/\fr 2=.iv (.sl tb xb)/\fr 7=.iv (.raw (.int .i64 k))/\st'=st/\ds=[]) ?_ ?_ ?_
 ·simp only[go_sem,zE,reduceCtorEq];exact⟨rfl,rfl⟩
 ·rintro k fr st1 _ hlt ⟨hk,f0,f1,f2,f7,rfl,rfl⟩;obtain⟨q,hq⟩:=yQ3 hlt;have hqm:=lMg hq;obtain⟨z,hkz,hzz⟩:=i1.get hq;have hca:=λst=>hHa q z hzz (hl q hqm) st;have hcb:=λst=>hHb q z hzz (hl q hqm) st;obtain⟨o5,n5,t5,x5,t6,x6,rfl⟩:=hzz.agg;have hno:(hasF a q || hasF b q)=false->allF l (a++b)=false:=λh=>by
   cases hh:allF l (a++b)
   ·rfl
   ·have:=wXj.1 hh q hqm;rw[happ,h] at this;cases this
  have hyes:(hasF a q || hasF b q)=true->allF (l.take (k+1)) (a++b)=true:=λh=>by
   rw[<- happ] at h;unfold allF at hk ⊢;rw[yQ5 hq,List.all_append,hk];simp[h]
  simp only[go_sem,zE,zB,zA,reduceCtorEq,f0,f1,f7,i1.len,lt_i hlt,yQ1 e1,iNn,hkz,fits];intro _;refine (hca _).mono ?_;rintro _ st2 ⟨rfl,rfl⟩;cases hra:hasF a q
  ·rw[hra] at hno hyes;simp only[go_sem,zE,zB,zA,reduceCtorEq,f0,f2,f7,yQ1 e1,iNn,hkz,fits];intros;refine (hcb _).mono ?_;rintro _ st2 ⟨rfl,rfl⟩;cases hrb:hasF b q
   ·rw[hrb] at hno;simp only[go_sem,zE];exact yQ0 ⟨by rw[hno rfl],rfl⟩
   ·rw[hrb] at hyes;simp only[go_sem,zE,reduceCtorEq,f0,f1,f2,f7,yQ9 hlt (show l.length<=281474976710656 by omega)];exact hyes rfl
  ·rw[hra] at hyes;simp only[go_sem,zE,reduceCtorEq,f0,f1,f2,f7,yQ9 hlt (show l.length<=281474976710656 by omega)];exact hyes rfl
 ·rintro fr st1 _ ⟨hk,f0,f1,f2,f7,rfl,rfl⟩;rw[lTl] at hk;simp only[go_sem,zE,reduceCtorEq,f0,f7,i1.len,yQj (nLi _)];intro _;exact yQ0 ⟨by rw[hk],rfl⟩
theorem yJm (t:Tag)(xs:List IV)(t':Tag)(ys:List IV)(st:ISt):ICall prog gl 154 [.sl t xs,.sl t' ys] st (λr st'=>r=.agg [.sl t xs,.sl t' ys]/\st'=st):=by
 refine iI func154 ?_;simp only[go_sem,zE,zA,zL,reduceCtorEq,fits];exact yQ0 ⟨rfl,rfl⟩
def yKp (ca rule:Nat)(x:IV):Prop:=match rowS ca rule with
 | some r=>x=.tup [.raw (.int .u8 r.op),.raw (.bool r.left),.raw (.bool r.right),.raw (.bool true)]
 | none=>∃(o:Int) (a b:Bool),x=.tup [.raw (.int .u8 o),.raw (.bool a),.raw (.bool b),.raw (.bool false)]
end Go.Proofs.Tryz
namespace Go.Proofs.Tryz
open Go Go.Iv
section
variable (nm:ByteArray)(g:Fm)
mutual
def repF:Fm->Fm
 | .mk o n us sub=>if o=1/\n=nm/\us.length=0 then g else .mk o n us (wJs sub)
def wJs:List Fm->List Fm
 | []=>[]
 | a::l=>repF a::wJs l
end
def repS (s:Sq):Sq:=⟨wJs nm g s.l,wJs nm g s.r⟩
mutual
def repT:Tr->Tr
 | .mk rule s f u n sub=>.mk rule (repS nm g s) (repF nm g f) u n (vZq sub)
def vZq:List Tr->List Tr
 | []=>[]
 | a::l=>repT a::vZq l
end
end
section
variable {nm:ByteArray}{g:Fm}{ca:Nat}
end
theorem wGh {op:Nat}{n:ByteArray}{us:List Tm}{sub:List Fm}(h:(Fm.mk op n us sub).ok=true):(op=3\/op=8\/op=9->sub.length=1)/\(op=4\/op=5\/op=6\/op=7->sub.length=2):=by
 simp only[Fm.ok,bAt] at h;have h:=h.1.1;constructor
 ·rintro (rfl|rfl|rfl)<;>simp only[yZ6,bAt,dTe] at h<;>exact h.2
 ·rintro (rfl|rfl|rfl|rfl)<;>simp only[yZ6,bAt,dTe] at h<;>exact h.2
section
variable {nm:ByteArray}{g:Fm}{ca:Nat}
mutual
def yU8:Tr->Bool
 | .mk _ _ _ u _ sub=>decide (u.size<=900000)&&zXa sub
def zXa:List Tr->Bool
 | []=>true
 | a::l=>yU8 a&&zXa l
end
end
theorem zUt (s:Sq):∀(ad:List Sq) (ts:List Tr),yXt s ad ts=true->∀(i:Nat) (m:Sq) (t:Tr),ad[i]?=some m->ts[i]?=some t->yJo t.sq (s.plus m)=true
 | [],_,_,i,m,t,h,_=>by simp at h
 | _::_,[],_,i,m,t,_,h=>by simp at h
 | a::ad,b::ts,h,i,m,t,hm,ht=>by
  simp only[yXt,bAt] at h;cases i with
  | zero =>
   grind
  | succ i=>exact zUt s ad ts h.2 i m t (by simpa using hm) (by simpa using ht)
end Go.Proofs.Tryz
namespace Go.Proofs.Tryz
open Go Go.Iv
set_option maxRecDepth 4000
variable (gl:Nat->Option IV)
theorem xGs (ca rule:Nat)(st:ISt):ICall prog gl 106 [.raw (.int .u8 ca),.raw (.int .u8 rule)] st (λr st'=>yKp ca rule r/\st'=st):=by
 have d3:decide (((ca:Nat):Int)=3)=decide (ca=3):=by rw[decide_eq_decide];omega
 have d2:decide (((ca:Nat):Int)=2)=decide (ca=2):=by rw[decide_eq_decide];omega
 refine iI func106 ?_;by_cases h1:rule=1
 ·have dt:decide (((rule:Nat):Int)=1)=true:=dEt (by omega);have ds:∀j:Int,j≠1->decide (((rule:Nat):Int)=j)=false:=λj hj=>dEf (by omega);simp only[go_sem,zE,dt];refine yQ0 ⟨?_,rfl⟩;have:rowS ca rule=some ⟨true,true,0,0⟩:=by rw[h1];unfold rowS rowK;simp
  unfold yKp;rw[this];rfl
 by_cases h2:rule=2
 ·have dt:decide (((rule:Nat):Int)=2)=true:=dEt (by omega);have ds:∀j:Int,j≠2->decide (((rule:Nat):Int)=j)=false:=λj hj=>dEf (by omega);simp only[go_sem,zE,dt,ds,ne_eq,nFt,Int.reduceEq];refine yQ0 ⟨?_,rfl⟩;have:rowS ca rule=some ⟨true,false,2,0⟩:=by rw[h2];unfold rowS rowK;simp
  unfold yKp;rw[this];rfl
 by_cases h3:rule=3
 ·have dt:decide (((rule:Nat):Int)=3)=true:=dEt (by omega);have ds:∀j:Int,j≠3->decide (((rule:Nat):Int)=j)=false:=λj hj=>dEf (by omega);simp only[go_sem,zE,dt,ds,ne_eq,nFt,Int.reduceEq];refine yQ0 ⟨?_,rfl⟩;have:rowS ca rule=some ⟨true,false,3,0⟩:=by rw[h3];unfold rowS rowK;simp
  unfold yKp;rw[this];rfl
 by_cases h4:rule=4
 ·have dt:decide (((rule:Nat):Int)=4)=true:=dEt (by omega);have ds:∀j:Int,j≠4->decide (((rule:Nat):Int)=j)=false:=λj hj=>dEf (by omega);simp only[go_sem,zE,dt,ds,ne_eq,nFt,Int.reduceEq];refine yQ0 ⟨?_,rfl⟩;have:rowS ca rule=some ⟨false,true,3,0⟩:=by rw[h4];unfold rowS rowK;simp
  unfold yKp;rw[this];rfl
 by_cases h5:rule=5
 ·have dt:decide (((rule:Nat):Int)=5)=true:=dEt (by omega);have ds:∀j:Int,j≠5->decide (((rule:Nat):Int)=j)=false:=λj hj=>dEf (by omega);simp only[go_sem,zE,dt,ds,ne_eq,nFt,Int.reduceEq];refine yQ0 ⟨?_,rfl⟩;have:rowS ca rule=some ⟨true,false,4,0⟩:=by rw[h5];unfold rowS rowK;simp
  unfold yKp;rw[this];rfl
 by_cases h6:rule=6
 ·have dt:decide (((rule:Nat):Int)=6)=true:=dEt (by omega);have ds:∀j:Int,j≠6->decide (((rule:Nat):Int)=j)=false:=λj hj=>dEf (by omega);simp only[go_sem,zE,dt,ds,ne_eq,nFt,Int.reduceEq];refine yQ0 ⟨?_,rfl⟩;have:rowS ca rule=some ⟨false,true,4,0⟩:=by rw[h6];unfold rowS rowK;simp
  unfold yKp;rw[this];rfl
 by_cases h7:rule=7
 ·have dt:decide (((rule:Nat):Int)=7)=true:=dEt (by omega);have ds:∀j:Int,j≠7->decide (((rule:Nat):Int)=j)=false:=λj hj=>dEf (by omega);simp only[go_sem,zE,dt,ds,ne_eq,nFt,Int.reduceEq];refine yQ0 ⟨?_,rfl⟩;have:rowS ca rule=some ⟨true,false,5,0⟩:=by rw[h7];unfold rowS rowK;simp
  unfold yKp;rw[this];rfl
 by_cases h8:rule=8
 ·have dt:decide (((rule:Nat):Int)=8)=true:=dEt (by omega);have ds:∀j:Int,j≠8->decide (((rule:Nat):Int)=j)=false:=λj hj=>dEf (by omega);simp only[go_sem,zE,dt,ds,ne_eq,nFt,Int.reduceEq];refine yQ0 ⟨?_,rfl⟩;have:rowS ca rule=some ⟨false,true,5,0⟩:=by rw[h8];unfold rowS rowK;simp
  unfold yKp;rw[this];rfl
 by_cases h9:rule=9
 ·have dt:decide (((rule:Nat):Int)=9)=true:=dEt (by omega);have ds:∀j:Int,j≠9->decide (((rule:Nat):Int)=j)=false:=λj hj=>dEf (by omega);simp only[go_sem,zE,dt,ds,ne_eq,nFt,Int.reduceEq];refine yQ0 ⟨?_,rfl⟩;have:rowS ca rule=some ⟨true,false,6,0⟩:=by rw[h9];unfold rowS rowK;simp
  unfold yKp;rw[this];rfl
 by_cases h10:rule=10
 ·have dt:decide (((rule:Nat):Int)=10)=true:=dEt (by omega);have ds:∀j:Int,j≠10->decide (((rule:Nat):Int)=j)=false:=λj hj=>dEf (by omega);simp only[go_sem,zE,dt,ds,ne_eq,nFt,Int.reduceEq];refine yQ0 ⟨?_,rfl⟩;have:rowS ca rule=some ⟨false,true,6,0⟩:=by rw[h10];unfold rowS rowK;simp
  unfold yKp;rw[this];rfl
 by_cases h11:rule=11
 ·have dt:decide (((rule:Nat):Int)=11)=true:=dEt (by omega);have ds:∀j:Int,j≠11->decide (((rule:Nat):Int)=j)=false:=λj hj=>dEf (by omega);simp only[go_sem,zE,dt,ds,ne_eq,nFt,Int.reduceEq];refine yQ0 ⟨?_,rfl⟩;have:rowS ca rule=some ⟨true,false,7,0⟩:=by rw[h11];unfold rowS rowK;simp
  unfold yKp;rw[this];rfl
 by_cases h12:rule=12
 ·have dt:decide (((rule:Nat):Int)=12)=true:=dEt (by omega);have ds:∀j:Int,j≠12->decide (((rule:Nat):Int)=j)=false:=λj hj=>dEf (by omega);simp only[go_sem,zE,dt,ds,ne_eq,nFt,Int.reduceEq];refine yQ0 ⟨?_,rfl⟩;have:rowS ca rule=some ⟨false,true,7,0⟩:=by rw[h12];unfold rowS rowK;simp
  unfold yKp;rw[this];rfl
 by_cases h13:rule=13
 ·have dt:decide (((rule:Nat):Int)=13)=true:=dEt (by omega);have ds:∀j:Int,j≠13->decide (((rule:Nat):Int)=j)=false:=λj hj=>dEf (by omega);by_cases hc:ca=3
  ·have dc:decide (((ca:Nat):Int)=3)=true:=dEt (by omega);simp only[go_sem,zE,reduceCtorEq,dt,ds,dc,ne_eq,nFt,Int.reduceEq];refine yQ0 ⟨?_,rfl⟩;have:rowS ca rule=some ⟨true,false,8,1⟩:=by rw[h13,hc];rfl
   unfold yKp;rw[this];rfl
  ·have dc:∀j:Int,((ca:Nat):Int)≠j->decide (((ca:Nat):Int)=j)=false:=λj hj=>dEf hj;have hc':((ca:Nat):Int)≠3:=by omega
   simp only[go_sem,zE,reduceCtorEq,dt,ds,dc _ hc',ne_eq,nFt,Int.reduceEq];refine yQ0 ⟨?_,rfl⟩;have:rowS ca rule=none:=by
    rw[h13];unfold rowS rowK;simp[hc]
   unfold yKp;rw[this];exact⟨_,_,_,rfl⟩
 by_cases h14:rule=14
 ·have dt:decide (((rule:Nat):Int)=14)=true:=dEt (by omega);have ds:∀j:Int,j≠14->decide (((rule:Nat):Int)=j)=false:=λj hj=>dEf (by omega);by_cases hc:ca=3
  ·have dc:decide (((ca:Nat):Int)=3)=true:=dEt (by omega);simp only[go_sem,zE,reduceCtorEq,dt,ds,dc,ne_eq,nFt,Int.reduceEq];refine yQ0 ⟨?_,rfl⟩;have:rowS ca rule=some ⟨false,true,8,2⟩:=by rw[h14,hc];rfl
   unfold yKp;rw[this];rfl
  ·have dc:∀j:Int,((ca:Nat):Int)≠j->decide (((ca:Nat):Int)=j)=false:=λj hj=>dEf hj;have hc':((ca:Nat):Int)≠3:=by omega
   simp only[go_sem,zE,reduceCtorEq,dt,ds,dc _ hc',ne_eq,nFt,Int.reduceEq];refine yQ0 ⟨?_,rfl⟩;have:rowS ca rule=none:=by
    rw[h14];unfold rowS rowK;simp[hc]
   unfold yKp;rw[this];exact⟨_,_,_,rfl⟩
 by_cases h15:rule=15
 ·have dt:decide (((rule:Nat):Int)=15)=true:=dEt (by omega);have ds:∀j:Int,j≠15->decide (((rule:Nat):Int)=j)=false:=λj hj=>dEf (by omega);by_cases hc:ca=3
  ·have dc:decide (((ca:Nat):Int)=3)=true:=dEt (by omega);simp only[go_sem,zE,reduceCtorEq,dt,ds,dc,ne_eq,nFt,Int.reduceEq];refine yQ0 ⟨?_,rfl⟩;have:rowS ca rule=some ⟨true,false,9,2⟩:=by rw[h15,hc];rfl
   unfold yKp;rw[this];rfl
  ·have dc:∀j:Int,((ca:Nat):Int)≠j->decide (((ca:Nat):Int)=j)=false:=λj hj=>dEf hj;have hc':((ca:Nat):Int)≠3:=by omega
   simp only[go_sem,zE,reduceCtorEq,dt,ds,dc _ hc',ne_eq,nFt,Int.reduceEq];refine yQ0 ⟨?_,rfl⟩;have:rowS ca rule=none:=by
    rw[h15];unfold rowS rowK;simp[hc]
   unfold yKp;rw[this];exact⟨_,_,_,rfl⟩
 by_cases h16:rule=16
 ·have dt:decide (((rule:Nat):Int)=16)=true:=dEt (by omega);have ds:∀j:Int,j≠16->decide (((rule:Nat):Int)=j)=false:=λj hj=>dEf (by omega);by_cases hc:ca=3
  ·have dc:decide (((ca:Nat):Int)=3)=true:=dEt (by omega);simp only[go_sem,zE,reduceCtorEq,dt,ds,dc,ne_eq,nFt,Int.reduceEq];refine yQ0 ⟨?_,rfl⟩;have:rowS ca rule=some ⟨false,true,9,1⟩:=by rw[h16,hc];rfl
   unfold yKp;rw[this];rfl
  ·have dc:∀j:Int,((ca:Nat):Int)≠j->decide (((ca:Nat):Int)=j)=false:=λj hj=>dEf hj;have hc':((ca:Nat):Int)≠3:=by omega
   simp only[go_sem,zE,reduceCtorEq,dt,ds,dc _ hc',ne_eq,nFt,Int.reduceEq];refine yQ0 ⟨?_,rfl⟩;have:rowS ca rule=none:=by
    rw[h16];unfold rowS rowK;simp[hc]
   unfold yKp;rw[this];exact⟨_,_,_,rfl⟩
 by_cases h17:rule=17
 ·have dt:decide (((rule:Nat):Int)=17)=true:=dEt (by omega);have ds:∀j:Int,j≠17->decide (((rule:Nat):Int)=j)=false:=λj hj=>dEf (by omega);simp only[go_sem,zE,dt,ds,ne_eq,nFt,Int.reduceEq];refine yQ0 ⟨?_,rfl⟩;have:rowS ca rule=some ⟨false,false,0,0⟩:=by rw[h17];unfold rowS rowK;simp
  unfold yKp;rw[this];rfl
 by_cases h18:rule=18
 ·have dt:decide (((rule:Nat):Int)=18)=true:=dEt (by omega);have ds:∀j:Int,j≠18->decide (((rule:Nat):Int)=j)=false:=λj hj=>dEf (by omega);by_cases hc:ca=2
  ·have dc:decide (((ca:Nat):Int)=2)=true:=dEt (by omega);simp only[go_sem,zE,reduceCtorEq,dt,ds,dc,ne_eq,nFt,Int.reduceEq];refine yQ0 ⟨?_,rfl⟩;have:rowS ca rule=some ⟨false,true,5,0⟩:=by rw[h18,hc];rfl
   unfold yKp;rw[this];rfl
  ·have dc:∀j:Int,((ca:Nat):Int)≠j->decide (((ca:Nat):Int)=j)=false:=λj hj=>dEf hj;have hc':((ca:Nat):Int)≠2:=by omega
   simp only[go_sem,zE,reduceCtorEq,dt,ds,dc _ hc',ne_eq,nFt,Int.reduceEq];refine yQ0 ⟨?_,rfl⟩;have:rowS ca rule=none:=by
    rw[h18];unfold rowS rowK;simp[hc]
   unfold yKp;rw[this];exact⟨_,_,_,rfl⟩
 have ds:∀j:Int,1<=j->j<=18->decide (((rule:Nat):Int)=j)=false:=λj h1 h2=>dEf (by omega);simp only[go_sem,zE,ds 1 (by decide) (by decide),ds 2 (by decide) (by decide),ds 3 (by decide) (by decide),ds 4 (by decide) (by decide),ds 5 (by decide) (by decide),ds 6 (by decide) (by decide),ds 7 (by decide) (by decide),ds 8 (by decide) (by decide),ds 9 (by decide) (by decide),ds 10 (by decide) (by decide),ds 11 (by decide) (by decide),ds 12 (by decide) (by decide),ds 13 (by decide) (by decide),ds 14 (by decide) (by decide),ds 15 (by decide) (by decide),ds 16 (by decide) (by decide),ds 17 (by decide) (by decide),ds 18 (by decide) (by decide)];refine yQ0 ⟨?_,rfl⟩;have:rowS ca rule=none:=by
  unfold rowS rowK;simp[h1,h2,h3,h4,h5,h6,h7,h8,h9,h10,h11,h12,h13,h14,h15,h16,h17,h18]
 unfold yKp;rw[this];exact⟨_,_,_,rfl⟩
theorem xUz (l:List Fm)(tg:Tag)(xs:List IV)(htg:okEs tg 4)(hxs:IsFms l xs)(n:ByteArray)(hl:fitL l)(hlen:l.length<=1099511627776)(st:ISt) :
  ICall prog gl 109 [.sl tg xs,.raw (.string n)] st (λr st'=>r=.raw (.bool (l.any λf=>memB (frF f) n))/\st'=st):=by
 refine iI func109 ?_;simp only[go_sem];refine LoopC.ctr l.length (λk fr st' ds=>((l.take k).any λf=>memB (frF f) n)=false/\fr 0=.iv (.sl tg xs)/\fr 1=.iv (.raw (.string n))/\fr 5=.iv (.raw (.int .i64 k))/\st'=st/\ds=[]) ?_ ?_ ?_
 ·simp only[go_sem,zE,reduceCtorEq];exact⟨rfl,rfl⟩
 ·rintro k fr st1 _ hlt ⟨hk,f0,f1,f5,rfl,rfl⟩;obtain⟨a,ha⟩:=yQ3 hlt;have ham:=lMg ha;obtain⟨z,hkz,hzz⟩:=hxs.get ha;have hsz:=hl a ham;have hcall:=λst=>wQ3 gl a z hzz (by omega) st;obtain⟨o5,n5,t5,x5,t6,x6,rfl⟩:=hzz.agg;simp only[go_sem,zE,zB,zA,reduceCtorEq,f0,f5,hxs.len,lt_i hlt,yQ1 htg,iNn,hkz,fits];intro _;refine (hcall _).mono ?_;rintro _ st2 ⟨tg5,m,rfl,htg5,hso,rfl⟩;have hml:m.length<=140737488355328:=by
   have h1:=zZ0 hso.1 (λx hx=>(hso.2 x).1 hx);have h2:=zKa a;omega
  have hHas:=λst=>xGm gl tg5 m n htg5 hml st;simp only[go_sem,zE,zA,f1];refine (hHas _).mono ?_;rintro _ st2 ⟨rfl,rfl⟩;have he:hasB m n=memB (frF a) n:=by
   rw[Bool.eq_iff_iff,yX8,<- hso.2];exact zK4
  rw[he];cases hra:memB (frF a) n
  ·simp only[go_sem,zE,reduceCtorEq,f0,f1,f5,yQ9 hlt (show l.length<=281474976710656 by omega)];rw[yQ5 ha,List.any_append,hk];simp[hra]
  ·simp only[go_sem];refine yQ0 ⟨?_,rfl⟩;have:(l.any λf=>memB (frF f) n)=true:=List.any_eq_true.2 ⟨a,ham,hra⟩;rw[this]
 ·rintro fr st1 _ ⟨hk,f0,f1,f5,rfl,rfl⟩;rw[lTl] at hk;simp only[go_sem,zE,reduceCtorEq,f0,f5,hxs.len,yQj (nLi _)];intro _;exact yQ0 ⟨by rw[hk],rfl⟩
theorem xG7 (r:List Fm):zZc r=r.all (yKg ((r[0]?).getD fm0)):=by
 cases r with
 | nil=>rfl
 | cons a l =>
  show ((a::l).all λf=>eqF f a)=(a::l).all (yKg a);congr 1;funext f;exact xQy f a
def qV (ca:Nat)(hd f:Fm):Prop:=fmB ca f=true/\(ca=2->yKg hd f=true)
theorem yGa {ca:Nat}{s:Sq}:yXd ca s=true↔yXo ca=true/\s.l.length<=64/\s.r.length<=64/\(∀f∈s.l,fmB ca f=true)/\∀f∈s.r,qV ca ((s.r[0]?).getD fm0) f:=by
 unfold yXd qV;rw[xG7];simp only[bAt,Bool.or_eq_true,dTe,List.all_eq_true];constructor
 ·rintro⟨⟨⟨⟨⟨h1,h2⟩,h3⟩,h4⟩,h5⟩,h6⟩;exact⟨h1,h2,h3,h4,λf hf=>⟨h5 f hf,λhc=>h6.resolve_left (λh=>h hc) f hf⟩⟩
 ·rintro⟨h1,h2,h3,h4,h5⟩;refine⟨⟨⟨⟨⟨h1,h2⟩,h3⟩,h4⟩,λf hf=>(h5 f hf).1⟩,?_⟩;by_cases hc:ca=2
  ·exact .inr λf hf=>(h5 f hf).2 hc
  ·exact .inl hc
theorem yVf {ca:Nat}{s:Sq}(h:¬ (yXo ca=true/\s.l.length<=64/\s.r.length<=64/\(∀f∈s.l,fmB ca f=true)/\∀f∈s.r,qV ca ((s.r[0]?).getD fm0) f)):yXd ca s=false:=by
 cases hv:yXd ca s
 ·rfl
 ·exact absurd (yGa.1 hv) h
set_option maxHeartbeats 1000000 in
theorem wJw (ca:Nat)(s:Sq)(x:IV)(hx:IsSq s x)(hs:yVz s)(st:ISt):ICall prog gl 105 [.raw (.int .u8 ca),x] st (λr st'=>r=.raw (.bool (yXd ca s))/\st'=st):=by
 have hF:=λf z hz (hf:f.size<=1000000) st=>wQ4 gl ca f z hz (by omega) st;have hAl:=λf g z w hz hw (hf:f.size<=1000000) (hg:g.size<=1000000) st=>xKt gl f g z w hz hw hf hg st;obtain⟨l,r⟩:=s;obtain⟨t1,x1,t2,x2,rfl,e1,i1,e2,i2⟩:=hx;simp only[yVz] at hs i1 i2;obtain⟨hl,hr⟩:=hs;have k1:decide (((ca:Nat):Int)<1)=decide (ca<1):=by rw[decide_eq_decide];omega
 have k2:decide ((3:Int)<((ca:Nat):Int))=decide (3<ca):=by rw[decide_eq_decide];omega
 have k3:decide ((64:Int)<((l.length:Nat):Int))=decide (64<l.length):=by rw[decide_eq_decide];omega
 have k4:decide ((64:Int)<((r.length:Nat):Int))=decide (64<r.length):=by rw[decide_eq_decide];omega
 have k5:decide (((ca:Nat):Int)=2)=decide (ca=2):=by rw[decide_eq_decide];omega
 have hkn:∀h:ca<1\/3<ca,¬ yXo ca=true:=λh hk=>by
  simp only[yXo,bAt,dTe] at hk;omega
 refine iI func105 ?_;cases q1:decide (ca<1)
 case true =>
  simp only[go_sem,zE,reduceCtorEq,k1,q1];intros;exact yQ0 ⟨by rw[yVf λh=>hkn (.inl (of_decide_eq_true q1)) h.1],rfl⟩
 cases q2:decide (3<ca)
 case true =>
  simp only[go_sem,zE,reduceCtorEq,k1,k2,q1,q2];intros;exact yQ0 ⟨by rw[yVf λh=>hkn (.inr (of_decide_eq_true q2)) h.1],rfl⟩
 cases q3:decide (64<l.length)
 case true =>
  simp only[go_sem,zE,reduceCtorEq,k1,k2,k3,q1,q2,q3,i1.len];intros;exact yQ0 ⟨by rw[yVf λh=>by have:=h.2.1;have:=of_decide_eq_true q3;simp only at *;omega],rfl⟩
 cases q4:decide (64<r.length)
 case true =>
  simp only[go_sem,zE,reduceCtorEq,k1,k2,k3,k4,q1,q2,q3,q4,i1.len,i2.len];intros;exact yQ0 ⟨by rw[yVf λh=>by have:=h.2.2.1;have:=of_decide_eq_true q4;simp only at *;omega],rfl⟩
 have hk:yXo ca=true:=by
  have:=of_decide_eq_false q1;have:=of_decide_eq_false q2;simp only[yXo,bAt,dTe];omega
 have hll:l.length<=64:=by have:=of_decide_eq_false q3;omega
 have hlr:r.length<=64:=by have:=of_decide_eq_false q4;omega
 simp only[go_sem,zE,reduceCtorEq,k1,k2,k3,k4,q1,q2,q3,q4,i1.len,i2.len];intros;refine LoopC.ctr l.length (λk fr st' ds=>(∀f∈l.take k,fmB ca f=true)/\fr 0=.iv (.raw (.int .u8 ca))/\fr 3=.box [.sl t1 x1,.sl t2 x2]/\fr 5=.iv (.raw (.int .i64 k))/\st'=st/\ds=[]) ?_ ?_ ?_
 ·simp only[go_sem,zE,reduceCtorEq];exact⟨λf hf=>by simp at hf,rfl⟩
 ·rintro k fr st1 _ hlt ⟨hkk,f0,f3,f5,rfl,rfl⟩;obtain⟨a,ha⟩:=yQ3 hlt;have ham:=lMg ha;obtain⟨z,hkz,hzz⟩:=i1.get ha;have hcall:=λst=>hF a z hzz (hl a ham) st;obtain⟨o5,n5,t5,x5,t6,x6,rfl⟩:=hzz.agg;simp only[go_sem,zE,zB,zA,reduceCtorEq,f0,f3,f5,i1.len,lt_i hlt,yQ1 e1,iNn,hkz,fits];intro _;refine (hcall _).mono ?_;rintro _ st2 ⟨rfl,rfl⟩;cases hra:fmB ca a
  ·simp only[go_sem];exact yQ0 ⟨by rw[yVf λh=>by have:=h.2.2.2.1 a ham;rw[hra] at this;cases this],rfl⟩
  ·simp only[go_sem,zE,reduceCtorEq,f0,f3,f5,yQ9 hlt (show l.length<=281474976710656 by omega)];intro f hf;rw[yQ5 ha] at hf;rcases List.mem_append.1 hf with hf|hf
   ·exact hkk f hf
   ·rw[List.mem_singleton.1 hf];exact hra
 ·rintro fr st1 _ ⟨hkl,f0,f3,f5,rfl,rfl⟩;rw[lTl] at hkl;simp only[go_sem,zE,f3,f5,i1.len,yQj (nLi _)];intro _;refine LoopC.ctr r.length (λk fr st' ds=>(∀f∈r.take k,qV ca ((r[0]?).getD fm0) f)/\fr 0=.iv (.raw (.int .u8 ca))/\fr 3=.box [.sl t1 x1,.sl t2 x2]/\fr 6=.iv (.raw (.int .i64 k))/\st'=st1/\ds=[]) ?_ ?_ ?_
  ·simp only[go_sem,zE,reduceCtorEq,f0,f3];exact⟨λf hf=>by simp at hf,rfl⟩
  ·rintro k fr st1 _ hlt ⟨hkk,f0,f3,f6,rfl,rfl⟩;obtain⟨a,ha⟩:=yQ3 hlt;have ham:=lMg ha;obtain⟨z,hkz,hzz⟩:=i2.get ha;obtain⟨b,hb⟩:=yQ3 (show 0<r.length by omega);obtain⟨zb,hkb,hzb⟩:=i2.get hb;have hbm:=lMg hb;have hcall:=λst=>hF a z hzz (hr a ham) st;have hcal2:=λst=>hAl b a zb z hzb hzz (hr b hbm) (hr a ham) st;have hhd:(r[0]?).getD fm0=b:=by rw[hb];rfl
   rw[hhd] at hkk ⊢;have hbad:∀h:¬ qV ca b a,yXd ca ⟨l,r⟩=false:=λh=>yVf λh'=>h (by have:=h'.2.2.2.2 a ham;rwa [hhd] at this);have hgood:qV ca b a->∀f∈r.take (k+1),qV ca b f:=λh f hf=>by
    rw[yQ5 ha] at hf;rcases List.mem_append.1 hf with hf|hf
    ·exact hkk f hf
    ·rw[List.mem_singleton.1 hf];exact h
   obtain⟨o5,n5,t5,x5,t6,x6,rfl⟩:=hzz.agg;obtain⟨o7,n7,t7,x7,t8,x8,rfl⟩:=hzb.agg;simp only[go_sem,zE,zB,zA,reduceCtorEq,f0,f3,f6,i2.len,lt_i hlt,yQ1 e2,iNn,hkz,fits];intro _;refine (hcall _).mono ?_;rintro _ st2 ⟨rfl,rfl⟩;cases hra:fmB ca a
   ·simp only[go_sem,zE];exact yQ0 ⟨by rw[hbad λh=>by rw[h.1] at hra;cases hra],rfl⟩
   ·cases q5:decide (ca=2)
    ·simp only[go_sem,zE,reduceCtorEq,f0,f3,f6,k5,q5,yQ9 hlt (show r.length<=281474976710656 by omega)];exact hgood ⟨hra,λh=>absurd h (of_decide_eq_false q5)⟩
    ·simp only[go_sem,zE,zB,zA,reduceCtorEq,f0,f3,f6,fits,k5,q5,yQ1 e2,iNn,hkz,hkb,Int.le_refl,Int.toNat_zero];intros;refine (hcal2 _).mono ?_;rintro _ st2 ⟨rfl,rfl⟩;cases hrb:yKg b a
     ·simp only[go_sem,zE];exact yQ0 ⟨by rw[hbad λh=>by rw[h.2 (of_decide_eq_true q5)] at hrb;cases hrb],rfl⟩
     ·simp only[go_sem,zE,reduceCtorEq,f0,f3,f6,yQ9 hlt (show r.length<=281474976710656 by omega)];exact hgood ⟨hra,λ_=>hrb⟩
  ·rintro fr st1 _ ⟨hkr,f0,f3,f6,rfl,rfl⟩;rw[lTl] at hkr;simp only[go_sem,zE,f3,f6,i2.len,yQj (nLi _)];intro _;exact yQ0 ⟨by rw[yGa.2 ⟨hk,hll,hlr,hkl,hkr⟩],rfl⟩
theorem yQt {tg:Tag}{es:Nat}(h:okEs tg es)(len hh l:Nat):okEs (yXb (reTag es tg) len hh l none) es:=by
 have:=yQ1 h;unfold yXb;by_cases h1:(reTag es tg).cap=.nil
 ·rw[if_pos h1];exact .inr this
 ·rw[if_neg h1];by_cases h2:l=0/\hh=len
  ·simp only[if_pos h2];exact .inr this
  ·simp only[if_neg h2];exact .inr this
theorem yZq {n:Nat}(h:1<=n):yXn (some 1) none n=some (1,n):=by
 simp only[yXn,Option.getD_none,Option.getD_some];rw[if_pos (by omega)];rfl
theorem yZp {n:Nat}(h:1<=n):yXn none (some 1) n=some (0,1):=by
 simp only[yXn,Option.getD_none,Option.getD_some];rw[if_pos (by omega)];rfl
theorem yG1 (x y:Operand):yV6 2 [(0,x),(1,y)]=true:=rfl
theorem xWc {ca rule:Nat}{r:Rw}{main:Fm}{u:Tm}{n:ByteArray}(h:¬ (fmB ca main=true/\(r.op≠0->main.op=r.op))):yZj ca rule r main u n=([],192):=by
 unfold yZj;rw[if_pos];by_cases hf:fmB ca main=true
 ·have h0:r.op≠0:=λh0=>h ⟨hf,λq=>absurd h0 q⟩;have h1:main.op≠r.op:=λh1=>h ⟨hf,λ_=>h1⟩;simp[h0,h1]
 ·simp[hf]
theorem yJ9 {ca rule:Nat}{r:Rw}{main:Fm}{u:Tm}{n:ByteArray}(hf:fmB ca main=true)(h1:r.op≠0->main.op=r.op)(h0:r.asks=0):yZj ca rule r main u n=(addS ca rule main ((main.subs[0]?).getD fm0) ((main.subs[1]?).getD fm0),0):=by
 unfold yZj;rw[if_neg (by rw[hf];intro hx;simp at hx;first|exact hx.2 (h1 hx.1)|exact (of_decide_eq_true hx.2) (h1 hx.1))];simp only[if_pos h0]
theorem zXs {ca rule:Nat}{r:Rw}{main:Fm}{u t:Tm}{n:ByteArray}(hf:fmB ca main=true)(h1:r.op≠0->main.op=r.op)(h0:r.asks≠0)(ht:t=if r.asks=2 then .mk true n [] else u):yZj ca rule r main u n =
  (if t.ok=false then ([],193) else if (yZc ((main.subs[0]?).getD fm0) [(main.nm,t)]).2≠0 then ([],193) else (addS ca rule main (yZc ((main.subs[0]?).getD fm0) [(main.nm,t)]).1 ((main.subs[1]?).getD fm0),0)):=by
 unfold yZj;rw[if_neg (by rw[hf];intro hx;simp at hx;first|exact hx.2 (h1 hx.1)|exact (of_decide_eq_true hx.2) (h1 hx.1))];simp only[if_neg h0,<- ht];cases t.ok<;>rfl
set_option maxHeartbeats 4000000 in
theorem wJz (ca rule:Nat)(main:Fm)(y:IV)(hy:IsFm main y)(hm:main.size<=1000000)(term:Tm)(z:IV)(hz:IsTm term z)(ht:term.size<=900000)(name:ByteArray)(st:ISt) :
  ICall prog gl 107 [.raw (.int .u8 ca),.raw (.int .u8 rule),y,z,.raw (.string name)] st (AdR st (zQv ca rule main term name)):=by
 have hW:=λst=>xGs gl ca rule st;have hF:=λst=>wQ4 gl ca main y hy (by omega) st;have hy0:=hy;have hz0:=hz;obtain⟨op,nm,us,sub⟩:=main;obtain⟨t1,x1,t4,x4,rfl,ho,e1,i1,e4,i4⟩:=hy.mk;obtain⟨v5,n5,t5,x5,rfl⟩:=hz.agg;have k1:decide (((ca:Nat):Int)<1)=decide (ca<1):=by rw[decide_eq_decide];omega
 have k2:decide ((3:Int)<((ca:Nat):Int))=decide (3<ca):=by rw[decide_eq_decide];omega
 refine ICall.intro (c:=cf prog gl [] [(39,[0,1,3,4,2,5,6,7,8]),(48,[0,1,2,3,4,5,10,6,7,8,9,11,12])]) func107 rfl (by show _<=197;simp) (by kernel_rfl) ?_;cases hk:yXo ca
 ·have hAS:zQv ca rule (.mk op nm us sub) term name=([],2):=by unfold zQv;rw[hk];rfl
  rw[hAS];by_cases q1:ca<1
  ·have q1:=dEt q1;simp only[go_sem,zE,reduceCtorEq,k1,q1];intros;exact yQ0 ⟨_,_,rfl,.inl rfl,rfl,rfl⟩
  ·have q2:decide (3<ca)=true:=dEt (by simp only[yXo,Bool.and_eq_false_iff,decide_eq_false_iff_not] at hk;omega);have q1:=dEf q1;simp only[go_sem,zE,reduceCtorEq,k1,k2,q1,q2];intros;exact yQ0 ⟨_,_,rfl,.inl rfl,rfl,rfl⟩
 have hkk:=hk;simp only[yXo,bAt,dTe] at hkk;have q1:decide (ca<1)=false:=dEf (by omega);have q2:decide (3<ca)=false:=dEf (by omega);simp only[go_sem,zE,zA,reduceCtorEq,k1,k2,q1,q2];intros;refine (hW _).mono ?_;rintro w st ⟨hw,rfl⟩;unfold yKp at hw;cases hrow:rowS ca rule with
 | none =>
  rw[hrow] at hw;obtain⟨o9,a9,b9,rfl⟩:=hw;have hAS:zQv ca rule (.mk op nm us sub) term name=([],191):=by unfold zQv;rw[hk,hrow];rfl
  rw[hAS];simp only[go_sem,zE];exact yQ0 ⟨_,_,rfl,.inl rfl,rfl,rfl⟩
 | some r =>
  rw[hrow] at hw;simp only at hw;subst hw;have hAd:zQv ca rule (.mk op nm us sub) term name=yZj ca rule r (.mk op nm us sub) term name:=by unfold zQv;rw[hk,hrow];rfl
  rw[hAd];have k4:decide (((r.op:Nat):Int)=0)=decide (r.op=0):=by rw[decide_eq_decide];omega
  have k5:decide (((op:Nat):Int)=((r.op:Nat):Int))=decide (op=r.op):=by rw[decide_eq_decide];omega
  simp only[go_sem,zE,zA,zL,reduceCtorEq];refine (hF _).mono ?_;rintro _ st ⟨rfl,rfl⟩;cases hf:fmB ca (.mk op nm us sub)
  ·rw[xWc (λh=>by rw[h.1] at hf;cases hf)];simp only[go_sem,zE];exact yQ0 ⟨_,_,rfl,.inl rfl,rfl,rfl⟩
  have hmain:r.op≠0->op≠r.op->yZj ca rule r (.mk op nm us sub) term name=([],192):=λh1 h2=>xWc λh=>h2 (h.2 h1);have hlen:=wGh (zQl.1 hf).1;have d2:∀h:Bool,decide (ca=2)=h->decide (((ca:Nat):Int)=2)=h:=λh hh=>by rw[<- hh,decide_eq_decide];omega
  rcases zUj hrow with⟨hru,hr⟩|⟨hru,hr⟩|⟨hru,hr⟩|⟨hru,hr⟩|⟨hru,hr⟩|⟨hru,hr⟩|⟨hru,hr⟩|⟨hru,hr⟩|⟨hru,hr⟩|⟨hru,hr⟩|⟨hru,hr⟩|⟨hru,hr⟩|⟨hru,hr⟩|⟨hru,hr⟩|⟨hru,hr⟩|⟨hru,hr⟩|⟨hru,hr⟩|⟨hru,hr⟩
  ·have dt:decide (((rule:Nat):Int)=1)=true:=dEt (by omega);have ds:∀j:Int,j≠1->decide (((rule:Nat):Int)=j)=false:=λj hj=>dEf (by omega);have hrop:r.op=0:=by rw[hr]
   have k6:decide (r.op=0)=true:=dEt hrop;rw[yJ9 hf (λh=>absurd hrop h) (by rw[hr]),show ∀A B,addS ca rule (.mk op nm us sub) A B=[] from λA B=>by rw[hru];rfl];by_cases hsl:sub.length=0
   ·have k8:decide ((0:Int)<((sub.length:Nat):Int))=false:=dEf (by omega);simp only[go_sem,zE,k4,k6,dt,i4.len,k8];intros
    repeat (refine (yJm gl _ _ _ _ _).mono ?_;rintro _ _ ⟨rfl,rfl⟩;simp only[go_sem,zE,zB,zA,zM,zS,zL,reduceCtorEq,fits,k4,k5,k6,dt,ds,Int.reduceNe,ne_eq,nFt,nTf,Int.reduceEq,yQ2,yG1])
    exact yQ0 ⟨_,_,rfl,.inl rfl,rfl,rfl⟩
   ·have k8:decide ((0:Int)<((sub.length:Nat):Int))=true:=dEt (by omega);simp only[go_sem,zE,k4,k6,dt,i4.len,k8,yZq (show 1<=sub.length by omega),yZp (show 1<=sub.length by omega),yQ1 e4];intros
    repeat (refine (yJm gl _ _ _ _ _).mono ?_;rintro _ _ ⟨rfl,rfl⟩;simp only[go_sem,zE,zB,zA,zM,zS,zL,reduceCtorEq,fits,k4,k5,k6,dt,ds,Int.reduceNe,ne_eq,nFt,nTf,Int.reduceEq,yQ2,yG1])
    exact yQ0 ⟨_,_,rfl,.inl rfl,rfl,rfl⟩
  ·have dt:decide (((rule:Nat):Int)=2)=true:=dEt (by omega);have ds:∀j:Int,j≠2->decide (((rule:Nat):Int)=j)=false:=λj hj=>dEf (by omega);have hrop:r.op=2:=by rw[hr]
   have k6:decide (r.op=0)=false:=dEf (by omega);by_cases hop:op=r.op
   case neg =>
    rw[hmain (by omega) hop];have k7:decide (op=r.op)=false:=dEf hop;simp only[go_sem,zE,zA,k4,k5,k6,k7];intros;exact yQ0 ⟨_,_,rfl,.inl rfl,rfl,rfl⟩
   have k7:decide (op=r.op)=true:=dEt hop;rw[yJ9 hf (λh=>hop) (by rw[hr]),show ∀A B,addS ca rule (.mk op nm us sub) A B=[] from λA B=>by rw[hru];rfl];by_cases hsl:sub.length=0
   ·have k8:decide ((0:Int)<((sub.length:Nat):Int))=false:=dEf (by omega);simp only[go_sem,zE,zA,k4,k5,k6,k7,dt,ds,ne_eq,nFt,Int.reduceEq,i4.len,k8];intros
    repeat (refine (yJm gl _ _ _ _ _).mono ?_;rintro _ _ ⟨rfl,rfl⟩;simp only[go_sem,zE,zB,zA,zM,zS,zL,reduceCtorEq,fits,k4,k5,k6,k7,dt,ds,Int.reduceNe,ne_eq,nFt,nTf,Int.reduceEq,yQ2,yG1])
    exact yQ0 ⟨_,_,rfl,.inl rfl,rfl,rfl⟩
   ·have k8:decide ((0:Int)<((sub.length:Nat):Int))=true:=dEt (by omega);simp only[go_sem,zE,zA,k4,k5,k6,k7,dt,ds,ne_eq,nFt,Int.reduceEq,i4.len,k8,yZq (show 1<=sub.length by omega),yZp (show 1<=sub.length by omega),yQ1 e4];intros
    repeat (refine (yJm gl _ _ _ _ _).mono ?_;rintro _ _ ⟨rfl,rfl⟩;simp only[go_sem,zE,zB,zA,zM,zS,zL,reduceCtorEq,fits,k4,k5,k6,k7,dt,ds,Int.reduceNe,ne_eq,nFt,nTf,Int.reduceEq,yQ2,yG1])
    exact yQ0 ⟨_,_,rfl,.inl rfl,rfl,rfl⟩
  ·have dt:decide (((rule:Nat):Int)=3)=true:=dEt (by omega);have ds:∀j:Int,j≠3->decide (((rule:Nat):Int)=j)=false:=λj hj=>dEf (by omega);have hrop:r.op=3:=by rw[hr]
   have k6:decide (r.op=0)=false:=dEf (by omega);by_cases hop:op=r.op
   case neg =>
    rw[hmain (by omega) hop];have k7:decide (op=r.op)=false:=dEf hop;simp only[go_sem,zE,zA,k4,k5,k6,k7];intros;exact yQ0 ⟨_,_,rfl,.inl rfl,rfl,rfl⟩
   have k7:decide (op=r.op)=true:=dEt hop;obtain⟨a,rfl⟩:∃a,sub=[a]:=by
    have:=hlen.1 (by omega)
    match sub,this with
    | [a],_=>exact⟨a,rfl⟩
   simp only[IsFms] at i4;obtain⟨ya,_,rfl,hya,rfl⟩:=i4;obtain⟨oa,na,ta1,xa1,ta2,xa2,rfl⟩:=hya.agg;have k8:decide ((0:Int)<((1:Nat):Int))=true:=rfl;have s1:=yZq (show 1<=1 by omega);have s2:=yZp (show 1<=1 by omega);have s3:∀a b c,(reTag 4 (yXb (reTag 4 t4) a b c none)).es=4:=λa b c=>yQ1 (yQt e4 a b c);generalize haS:yZj ca rule r (.mk op nm us [a]) term name=addSS;have hA0:addSS=(addS ca rule (.mk op nm us [a]) a fm0,0):=by rw[<- haS,yJ9 hf (λ_=>hop) (by rw[hr])];rfl
   have hv:addSS=([⟨[],[a]⟩],0):=by rw[hA0,show addS ca rule (.mk op nm us [a]) a fm0=[⟨[],[a]⟩] from by rw[hru];rfl]
   rw[hv];simp only[go_sem,zE,zA,zS,zL,k4,k5,k6,k7,dt,ds,ne_eq,nFt,Int.reduceEq,k8,s1,s2,yQ1 e4];intros
   repeat (refine (yJm gl _ _ _ _ _).mono ?_;rintro _ _ ⟨rfl,rfl⟩;simp only[go_sem,zE,zA,zM,zL,fits,yQ2])
   exact yQ0 ⟨_,_,rfl,.inr rfl,⟨_,_,rfl,⟨_,_,_,_,rfl,.inl rfl,rfl,yQt e4 _ _ _,⟨_,_,rfl,hya,rfl⟩⟩,rfl⟩,rfl⟩
  ·have dt:decide (((rule:Nat):Int)=4)=true:=dEt (by omega);have ds:∀j:Int,j≠4->decide (((rule:Nat):Int)=j)=false:=λj hj=>dEf (by omega);have hrop:r.op=3:=by rw[hr]
   have k6:decide (r.op=0)=false:=dEf (by omega);by_cases hop:op=r.op
   case neg =>
    rw[hmain (by omega) hop];have k7:decide (op=r.op)=false:=dEf hop;simp only[go_sem,zE,zA,k4,k5,k6,k7];intros;exact yQ0 ⟨_,_,rfl,.inl rfl,rfl,rfl⟩
   have k7:decide (op=r.op)=true:=dEt hop;obtain⟨a,rfl⟩:∃a,sub=[a]:=by
    have:=hlen.1 (by omega)
    match sub,this with
    | [a],_=>exact⟨a,rfl⟩
   simp only[IsFms] at i4;obtain⟨ya,_,rfl,hya,rfl⟩:=i4;obtain⟨oa,na,ta1,xa1,ta2,xa2,rfl⟩:=hya.agg;have k8:decide ((0:Int)<((1:Nat):Int))=true:=rfl;have s1:=yZq (show 1<=1 by omega);have s2:=yZp (show 1<=1 by omega);have s3:∀a b c,(reTag 4 (yXb (reTag 4 t4) a b c none)).es=4:=λa b c=>yQ1 (yQt e4 a b c);generalize haS:yZj ca rule r (.mk op nm us [a]) term name=addSS;have hA0:addSS=(addS ca rule (.mk op nm us [a]) a fm0,0):=by rw[<- haS,yJ9 hf (λ_=>hop) (by rw[hr])];rfl
   have hv:addSS=([⟨[a],[]⟩],0):=by rw[hA0,show addS ca rule (.mk op nm us [a]) a fm0=[⟨[a],[]⟩] from by rw[hru];rfl]
   rw[hv];simp only[go_sem,zE,zA,zS,zL,k4,k5,k6,k7,dt,ds,ne_eq,nFt,Int.reduceEq,k8,s1,s2,yQ1 e4];intros
   repeat (refine (yJm gl _ _ _ _ _).mono ?_;rintro _ _ ⟨rfl,rfl⟩;simp only[go_sem,zE,zA,zM,zL,fits,yQ2])
   exact yQ0 ⟨_,_,rfl,.inr rfl,⟨_,_,rfl,⟨_,_,_,_,rfl,yQt e4 _ _ _,⟨_,_,rfl,hya,rfl⟩,.inl rfl,rfl⟩,rfl⟩,rfl⟩
  ·have dt:decide (((rule:Nat):Int)=5)=true:=dEt (by omega);have ds:∀j:Int,j≠5->decide (((rule:Nat):Int)=j)=false:=λj hj=>dEf (by omega);have hrop:r.op=4:=by rw[hr]
   have k6:decide (r.op=0)=false:=dEf (by omega);by_cases hop:op=r.op
   case neg =>
    rw[hmain (by omega) hop];have k7:decide (op=r.op)=false:=dEf hop;simp only[go_sem,zE,zA,k4,k5,k6,k7];intros;exact yQ0 ⟨_,_,rfl,.inl rfl,rfl,rfl⟩
   have k7:decide (op=r.op)=true:=dEt hop;obtain⟨a,b,rfl⟩:∃a b,sub=[a,b]:=by
    have:=hlen.2 (by omega)
    match sub,this with
    | [a,b],_=>exact⟨a,b,rfl⟩
   simp only[IsFms] at i4;obtain⟨ya,_,rfl,hya,yb,_,rfl,hyb,rfl⟩:=i4;obtain⟨oa,na,ta1,xa1,ta2,xa2,rfl⟩:=hya.agg;obtain⟨ob,nb,tb1,xb1,tb2,xb2,rfl⟩:=hyb.agg;have k8:decide ((0:Int)<((2:Nat):Int))=true:=rfl;have s1:=yZq (show 1<=2 by omega);have s2:=yZp (show 1<=2 by omega);have s3:∀a b c,(reTag 4 (yXb (reTag 4 t4) a b c none)).es=4:=λa b c=>yQ1 (yQt e4 a b c);generalize haS:yZj ca rule r (.mk op nm us [a,b]) term name=addSS;have hA0:addSS=(addS ca rule (.mk op nm us [a,b]) a b,0):=by rw[<- haS,yJ9 hf (λ_=>hop) (by rw[hr])];rfl
   have hv:addSS=([⟨[a,b],[]⟩],0):=by rw[hA0,show addS ca rule (.mk op nm us [a,b]) a b=[⟨[a,b],[]⟩] from by rw[hru];rfl]
   rw[hv];simp only[go_sem,zE,zA,zS,zL,k4,k5,k6,k7,dt,ds,ne_eq,nFt,Int.reduceEq,k8,s1,s2,yQ1 e4];intros
   repeat (refine (yJm gl _ _ _ _ _).mono ?_;rintro _ _ ⟨rfl,rfl⟩;simp only[go_sem,zE,zA,zM,zL,fits,yQ2])
   exact yQ0 ⟨_,_,rfl,.inr rfl,⟨_,_,rfl,⟨_,_,_,_,rfl,e4,⟨_,_,rfl,hya,_,_,rfl,hyb,rfl⟩,.inl rfl,rfl⟩,rfl⟩,rfl⟩
  ·have dt:decide (((rule:Nat):Int)=6)=true:=dEt (by omega);have ds:∀j:Int,j≠6->decide (((rule:Nat):Int)=j)=false:=λj hj=>dEf (by omega);have hrop:r.op=4:=by rw[hr]
   have k6:decide (r.op=0)=false:=dEf (by omega);by_cases hop:op=r.op
   case neg =>
    rw[hmain (by omega) hop];have k7:decide (op=r.op)=false:=dEf hop;simp only[go_sem,zE,zA,k4,k5,k6,k7];intros;exact yQ0 ⟨_,_,rfl,.inl rfl,rfl,rfl⟩
   have k7:decide (op=r.op)=true:=dEt hop;obtain⟨a,b,rfl⟩:∃a b,sub=[a,b]:=by
    have:=hlen.2 (by omega)
    match sub,this with
    | [a,b],_=>exact⟨a,b,rfl⟩
   simp only[IsFms] at i4;obtain⟨ya,_,rfl,hya,yb,_,rfl,hyb,rfl⟩:=i4;obtain⟨oa,na,ta1,xa1,ta2,xa2,rfl⟩:=hya.agg;obtain⟨ob,nb,tb1,xb1,tb2,xb2,rfl⟩:=hyb.agg;have k8:decide ((0:Int)<((2:Nat):Int))=true:=rfl;have s1:=yZq (show 1<=2 by omega);have s2:=yZp (show 1<=2 by omega);have s3:∀a b c,(reTag 4 (yXb (reTag 4 t4) a b c none)).es=4:=λa b c=>yQ1 (yQt e4 a b c);generalize haS:yZj ca rule r (.mk op nm us [a,b]) term name=addSS;have hA0:addSS=(addS ca rule (.mk op nm us [a,b]) a b,0):=by rw[<- haS,yJ9 hf (λ_=>hop) (by rw[hr])];rfl
   have hv:addSS=([⟨[],[a]⟩,⟨[],[b]⟩],0):=by rw[hA0,show addS ca rule (.mk op nm us [a,b]) a b=[⟨[],[a]⟩,⟨[],[b]⟩] from by rw[hru];rfl]
   rw[hv];simp only[go_sem,zE,zA,zS,zL,k4,k5,k6,k7,dt,ds,ne_eq,nFt,Int.reduceEq,k8,s1,s2,yQ1 e4];intros
   repeat (refine (yJm gl _ _ _ _ _).mono ?_;rintro _ _ ⟨rfl,rfl⟩;simp only[go_sem,zE,zA,zM,zL,fits,yG1])
   exact yQ0 ⟨_,_,rfl,.inr rfl,⟨_,_,rfl,⟨_,_,_,_,rfl,.inl rfl,rfl,yQt e4 _ _ _,⟨_,_,rfl,hya,rfl⟩⟩,⟨_,_,rfl,⟨_,_,_,_,rfl,.inl rfl,rfl,yQt e4 _ _ _,⟨_,_,rfl,hyb,rfl⟩⟩,rfl⟩⟩,rfl⟩
  ·have dt:decide (((rule:Nat):Int)=7)=true:=dEt (by omega);have ds:∀j:Int,j≠7->decide (((rule:Nat):Int)=j)=false:=λj hj=>dEf (by omega);have hrop:r.op=5:=by rw[hr]
   have k6:decide (r.op=0)=false:=dEf (by omega);by_cases hop:op=r.op
   case neg =>
    rw[hmain (by omega) hop];have k7:decide (op=r.op)=false:=dEf hop;simp only[go_sem,zE,zA,k4,k5,k6,k7];intros;exact yQ0 ⟨_,_,rfl,.inl rfl,rfl,rfl⟩
   have k7:decide (op=r.op)=true:=dEt hop;obtain⟨a,b,rfl⟩:∃a b,sub=[a,b]:=by
    have:=hlen.2 (by omega)
    match sub,this with
    | [a,b],_=>exact⟨a,b,rfl⟩
   simp only[IsFms] at i4;obtain⟨ya,_,rfl,hya,yb,_,rfl,hyb,rfl⟩:=i4;obtain⟨oa,na,ta1,xa1,ta2,xa2,rfl⟩:=hya.agg;obtain⟨ob,nb,tb1,xb1,tb2,xb2,rfl⟩:=hyb.agg;have k8:decide ((0:Int)<((2:Nat):Int))=true:=rfl;have s1:=yZq (show 1<=2 by omega);have s2:=yZp (show 1<=2 by omega);have s3:∀a b c,(reTag 4 (yXb (reTag 4 t4) a b c none)).es=4:=λa b c=>yQ1 (yQt e4 a b c);generalize haS:yZj ca rule r (.mk op nm us [a,b]) term name=addSS;have hA0:addSS=(addS ca rule (.mk op nm us [a,b]) a b,0):=by rw[<- haS,yJ9 hf (λ_=>hop) (by rw[hr])];rfl
   have hv:addSS=([⟨[a],[]⟩,⟨[b],[]⟩],0):=by rw[hA0,show addS ca rule (.mk op nm us [a,b]) a b=[⟨[a],[]⟩,⟨[b],[]⟩] from by rw[hru];rfl]
   rw[hv];simp only[go_sem,zE,zA,zS,zL,k4,k5,k6,k7,dt,ds,ne_eq,nFt,Int.reduceEq,k8,s1,s2,yQ1 e4];intros
   repeat (refine (yJm gl _ _ _ _ _).mono ?_;rintro _ _ ⟨rfl,rfl⟩;simp only[go_sem,zE,zA,zM,zL,fits,yG1])
   exact yQ0 ⟨_,_,rfl,.inr rfl,⟨_,_,rfl,⟨_,_,_,_,rfl,yQt e4 _ _ _,⟨_,_,rfl,hya,rfl⟩,.inl rfl,rfl⟩,⟨_,_,rfl,⟨_,_,_,_,rfl,yQt e4 _ _ _,⟨_,_,rfl,hyb,rfl⟩,.inl rfl,rfl⟩,rfl⟩⟩,rfl⟩
  ·have dt:decide (((rule:Nat):Int)=8)=true:=dEt (by omega);have ds:∀j:Int,j≠8->decide (((rule:Nat):Int)=j)=false:=λj hj=>dEf (by omega);have hrop:r.op=5:=by rw[hr]
   have k6:decide (r.op=0)=false:=dEf (by omega);by_cases hop:op=r.op
   case neg =>
    rw[hmain (by omega) hop];have k7:decide (op=r.op)=false:=dEf hop;simp only[go_sem,zE,zA,k4,k5,k6,k7];intros;exact yQ0 ⟨_,_,rfl,.inl rfl,rfl,rfl⟩
   have k7:decide (op=r.op)=true:=dEt hop;obtain⟨a,b,rfl⟩:∃a b,sub=[a,b]:=by
    have:=hlen.2 (by omega)
    match sub,this with
    | [a,b],_=>exact⟨a,b,rfl⟩
   simp only[IsFms] at i4;obtain⟨ya,_,rfl,hya,yb,_,rfl,hyb,rfl⟩:=i4;obtain⟨oa,na,ta1,xa1,ta2,xa2,rfl⟩:=hya.agg;obtain⟨ob,nb,tb1,xb1,tb2,xb2,rfl⟩:=hyb.agg;have k8:decide ((0:Int)<((2:Nat):Int))=true:=rfl;have s1:=yZq (show 1<=2 by omega);have s2:=yZp (show 1<=2 by omega);have s3:∀a b c,(reTag 4 (yXb (reTag 4 t4) a b c none)).es=4:=λa b c=>yQ1 (yQt e4 a b c);generalize haS:yZj ca rule r (.mk op nm us [a,b]) term name=addSS;have hA0:addSS=(addS ca rule (.mk op nm us [a,b]) a b,0):=by rw[<- haS,yJ9 hf (λ_=>hop) (by rw[hr])];rfl
   by_cases hc2:ca=2
   ·have dc:=d2 true (dEt hc2);have hv:addSS=([⟨[],[a]⟩],0):=by rw[hA0,show addS ca rule (.mk op nm us [a,b]) a b=[⟨[],[a]⟩] from by rw[hru,hc2];rfl]
    rw[hv];simp only[go_sem,zE,zA,zS,zL,reduceCtorEq,k4,k5,k6,k7,dt,ds,ne_eq,nFt,Int.reduceEq,k8,s1,s2,yQ1 e4,dc];intros
    repeat (refine (yJm gl _ _ _ _ _).mono ?_;rintro _ _ ⟨rfl,rfl⟩;simp only[go_sem,zE,zA,zM,zL,fits,yQ2])
    exact yQ0 ⟨_,_,rfl,.inr rfl,⟨_,_,rfl,⟨_,_,_,_,rfl,.inl rfl,rfl,yQt e4 _ _ _,⟨_,_,rfl,hya,rfl⟩⟩,rfl⟩,rfl⟩
   ·have dc:=d2 false (dEf hc2);have hv:addSS=([⟨[],[a,b]⟩],0):=by rw[hA0,show addS ca rule (.mk op nm us [a,b]) a b=[⟨[],[a,b]⟩] from by rw[hru];unfold addS;simp[hc2]]
    rw[hv];simp only[go_sem,zE,zA,zS,zL,reduceCtorEq,k4,k5,k6,k7,dt,ds,ne_eq,nFt,Int.reduceEq,k8,s1,s2,yQ1 e4,dc];intros
    repeat (refine (yJm gl _ _ _ _ _).mono ?_;rintro _ _ ⟨rfl,rfl⟩;simp only[go_sem,zE,zA,zM,zL,fits,yQ2])
    exact yQ0 ⟨_,_,rfl,.inr rfl,⟨_,_,rfl,⟨_,_,_,_,rfl,.inl rfl,rfl,e4,⟨_,_,rfl,hya,_,_,rfl,hyb,rfl⟩⟩,rfl⟩,rfl⟩
  ·have dt:decide (((rule:Nat):Int)=9)=true:=dEt (by omega);have ds:∀j:Int,j≠9->decide (((rule:Nat):Int)=j)=false:=λj hj=>dEf (by omega);have hrop:r.op=6:=by rw[hr]
   have k6:decide (r.op=0)=false:=dEf (by omega);by_cases hop:op=r.op
   case neg =>
    rw[hmain (by omega) hop];have k7:decide (op=r.op)=false:=dEf hop;simp only[go_sem,zE,zA,k4,k5,k6,k7];intros;exact yQ0 ⟨_,_,rfl,.inl rfl,rfl,rfl⟩
   have k7:decide (op=r.op)=true:=dEt hop;obtain⟨a,b,rfl⟩:∃a b,sub=[a,b]:=by
    have:=hlen.2 (by omega)
    match sub,this with
    | [a,b],_=>exact⟨a,b,rfl⟩
   simp only[IsFms] at i4;obtain⟨ya,_,rfl,hya,yb,_,rfl,hyb,rfl⟩:=i4;obtain⟨oa,na,ta1,xa1,ta2,xa2,rfl⟩:=hya.agg;obtain⟨ob,nb,tb1,xb1,tb2,xb2,rfl⟩:=hyb.agg;have k8:decide ((0:Int)<((2:Nat):Int))=true:=rfl;have s1:=yZq (show 1<=2 by omega);have s2:=yZp (show 1<=2 by omega);have s3:∀a b c,(reTag 4 (yXb (reTag 4 t4) a b c none)).es=4:=λa b c=>yQ1 (yQt e4 a b c);generalize haS:yZj ca rule r (.mk op nm us [a,b]) term name=addSS;have hA0:addSS=(addS ca rule (.mk op nm us [a,b]) a b,0):=by rw[<- haS,yJ9 hf (λ_=>hop) (by rw[hr])];rfl
   have hv:addSS=([⟨[],[a]⟩,⟨[b],[]⟩],0):=by rw[hA0,show addS ca rule (.mk op nm us [a,b]) a b=[⟨[],[a]⟩,⟨[b],[]⟩] from by rw[hru];rfl]
   rw[hv];simp only[go_sem,zE,zA,zS,zL,k4,k5,k6,k7,dt,ds,ne_eq,nFt,Int.reduceEq,k8,s1,s2,yQ1 e4];intros
   repeat (refine (yJm gl _ _ _ _ _).mono ?_;rintro _ _ ⟨rfl,rfl⟩;simp only[go_sem,zE,zA,zM,zL,fits,yG1])
   exact yQ0 ⟨_,_,rfl,.inr rfl,⟨_,_,rfl,⟨_,_,_,_,rfl,.inl rfl,rfl,yQt e4 _ _ _,⟨_,_,rfl,hya,rfl⟩⟩,⟨_,_,rfl,⟨_,_,_,_,rfl,yQt e4 _ _ _,⟨_,_,rfl,hyb,rfl⟩,.inl rfl,rfl⟩,rfl⟩⟩,rfl⟩
  ·have dt:decide (((rule:Nat):Int)=10)=true:=dEt (by omega);have ds:∀j:Int,j≠10->decide (((rule:Nat):Int)=j)=false:=λj hj=>dEf (by omega);have hrop:r.op=6:=by rw[hr]
   have k6:decide (r.op=0)=false:=dEf (by omega);by_cases hop:op=r.op
   case neg =>
    rw[hmain (by omega) hop];have k7:decide (op=r.op)=false:=dEf hop;simp only[go_sem,zE,zA,k4,k5,k6,k7];intros;exact yQ0 ⟨_,_,rfl,.inl rfl,rfl,rfl⟩
   have k7:decide (op=r.op)=true:=dEt hop;obtain⟨a,b,rfl⟩:∃a b,sub=[a,b]:=by
    have:=hlen.2 (by omega)
    match sub,this with
    | [a,b],_=>exact⟨a,b,rfl⟩
   simp only[IsFms] at i4;obtain⟨ya,_,rfl,hya,yb,_,rfl,hyb,rfl⟩:=i4;obtain⟨oa,na,ta1,xa1,ta2,xa2,rfl⟩:=hya.agg;obtain⟨ob,nb,tb1,xb1,tb2,xb2,rfl⟩:=hyb.agg;have k8:decide ((0:Int)<((2:Nat):Int))=true:=rfl;have s1:=yZq (show 1<=2 by omega);have s2:=yZp (show 1<=2 by omega);have s3:∀a b c,(reTag 4 (yXb (reTag 4 t4) a b c none)).es=4:=λa b c=>yQ1 (yQt e4 a b c);generalize haS:yZj ca rule r (.mk op nm us [a,b]) term name=addSS;have hA0:addSS=(addS ca rule (.mk op nm us [a,b]) a b,0):=by rw[<- haS,yJ9 hf (λ_=>hop) (by rw[hr])];rfl
   have hv:addSS=([⟨[a],[b]⟩],0):=by rw[hA0,show addS ca rule (.mk op nm us [a,b]) a b=[⟨[a],[b]⟩] from by rw[hru];rfl]
   rw[hv];simp only[go_sem,zE,zA,zS,zL,k4,k5,k6,k7,dt,ds,ne_eq,nFt,Int.reduceEq,k8,s1,s2,yQ1 e4];intros
   repeat (refine (yJm gl _ _ _ _ _).mono ?_;rintro _ _ ⟨rfl,rfl⟩;simp only[go_sem,zE,zA,zM,zL,fits,yQ2])
   exact yQ0 ⟨_,_,rfl,.inr rfl,⟨_,_,rfl,⟨_,_,_,_,rfl,yQt e4 _ _ _,⟨_,_,rfl,hya,rfl⟩,yQt e4 _ _ _,⟨_,_,rfl,hyb,rfl⟩⟩,rfl⟩,rfl⟩
  ·have dt:decide (((rule:Nat):Int)=11)=true:=dEt (by omega);have ds:∀j:Int,j≠11->decide (((rule:Nat):Int)=j)=false:=λj hj=>dEf (by omega);have hrop:r.op=7:=by rw[hr]
   have k6:decide (r.op=0)=false:=dEf (by omega);by_cases hop:op=r.op
   case neg =>
    rw[hmain (by omega) hop];have k7:decide (op=r.op)=false:=dEf hop;simp only[go_sem,zE,zA,k4,k5,k6,k7];intros;exact yQ0 ⟨_,_,rfl,.inl rfl,rfl,rfl⟩
   have k7:decide (op=r.op)=true:=dEt hop;obtain⟨a,b,rfl⟩:∃a b,sub=[a,b]:=by
    have:=hlen.2 (by omega)
    match sub,this with
    | [a,b],_=>exact⟨a,b,rfl⟩
   simp only[IsFms] at i4;obtain⟨ya,_,rfl,hya,yb,_,rfl,hyb,rfl⟩:=i4;obtain⟨oa,na,ta1,xa1,ta2,xa2,rfl⟩:=hya.agg;obtain⟨ob,nb,tb1,xb1,tb2,xb2,rfl⟩:=hyb.agg;have k8:decide ((0:Int)<((2:Nat):Int))=true:=rfl;have s1:=yZq (show 1<=2 by omega);have s2:=yZp (show 1<=2 by omega);have s3:∀a b c,(reTag 4 (yXb (reTag 4 t4) a b c none)).es=4:=λa b c=>yQ1 (yQt e4 a b c);generalize haS:yZj ca rule r (.mk op nm us [a,b]) term name=addSS;have hA0:addSS=(addS ca rule (.mk op nm us [a,b]) a b,0):=by rw[<- haS,yJ9 hf (λ_=>hop) (by rw[hr])];rfl
   have hv:addSS=([⟨[impF a b,impF b a],[]⟩],0):=by rw[hA0,show addS ca rule (.mk op nm us [a,b]) a b=[⟨[impF a b,impF b a],[]⟩] from by rw[hru];rfl]
   rw[hv];simp only[go_sem,zE,zB,zA,zM,zS,zL,fits,k4,k5,k6,k7,dt,ds,ne_eq,nFt,Int.reduceEq,yG1,k8,s1,s2,s3,yQ1 e4,Int.le_refl,Int.toNat_zero];intros
   repeat (refine (yJm gl _ _ _ _ _).mono ?_;rintro _ _ ⟨rfl,rfl⟩;simp only[go_sem,zE,zA,zM,zL,fits,yQ2])
   refine yQ0 ⟨_,_,rfl,.inr rfl,⟨_,_,rfl,⟨_,_,_,_,rfl,.inr rfl,?_,.inl rfl,rfl⟩,rfl⟩,rfl⟩;simp only[IsFms,impF,IsFm];exact⟨_,_,rfl,⟨_,_,_,_,rfl,by omega,.inl rfl,rfl,e4,⟨_,_,rfl,hya,_,_,rfl,hyb,rfl⟩⟩,_,_,rfl,⟨_,_,_,_,rfl,by omega,.inl rfl,rfl,.inr rfl,⟨_,_,rfl,hyb,_,_,rfl,hya,rfl⟩⟩,rfl⟩
  ·have dt:decide (((rule:Nat):Int)=12)=true:=dEt (by omega);have ds:∀j:Int,j≠12->decide (((rule:Nat):Int)=j)=false:=λj hj=>dEf (by omega);have hrop:r.op=7:=by rw[hr]
   have k6:decide (r.op=0)=false:=dEf (by omega);by_cases hop:op=r.op
   case neg =>
    rw[hmain (by omega) hop];have k7:decide (op=r.op)=false:=dEf hop;simp only[go_sem,zE,zA,k4,k5,k6,k7];intros;exact yQ0 ⟨_,_,rfl,.inl rfl,rfl,rfl⟩
   have k7:decide (op=r.op)=true:=dEt hop;obtain⟨a,b,rfl⟩:∃a b,sub=[a,b]:=by
    have:=hlen.2 (by omega)
    match sub,this with
    | [a,b],_=>exact⟨a,b,rfl⟩
   simp only[IsFms] at i4;obtain⟨ya,_,rfl,hya,yb,_,rfl,hyb,rfl⟩:=i4;obtain⟨oa,na,ta1,xa1,ta2,xa2,rfl⟩:=hya.agg;obtain⟨ob,nb,tb1,xb1,tb2,xb2,rfl⟩:=hyb.agg;have k8:decide ((0:Int)<((2:Nat):Int))=true:=rfl;have s1:=yZq (show 1<=2 by omega);have s2:=yZp (show 1<=2 by omega);have s3:∀a b c,(reTag 4 (yXb (reTag 4 t4) a b c none)).es=4:=λa b c=>yQ1 (yQt e4 a b c);generalize haS:yZj ca rule r (.mk op nm us [a,b]) term name=addSS;have hA0:addSS=(addS ca rule (.mk op nm us [a,b]) a b,0):=by rw[<- haS,yJ9 hf (λ_=>hop) (by rw[hr])];rfl
   have hv:addSS=([⟨[a],[b]⟩,⟨[b],[a]⟩],0):=by rw[hA0,show addS ca rule (.mk op nm us [a,b]) a b=[⟨[a],[b]⟩,⟨[b],[a]⟩] from by rw[hru];rfl]
   rw[hv];simp only[go_sem,zE,zA,zS,zL,k4,k5,k6,k7,dt,ds,ne_eq,nFt,Int.reduceEq,k8,s1,s2,yQ1 e4];intros
   repeat (refine (yJm gl _ _ _ _ _).mono ?_;rintro _ _ ⟨rfl,rfl⟩;simp only[go_sem,zE,zA,zM,zL,fits,yG1])
   exact yQ0 ⟨_,_,rfl,.inr rfl,⟨_,_,rfl,⟨_,_,_,_,rfl,yQt e4 _ _ _,⟨_,_,rfl,hya,rfl⟩,yQt e4 _ _ _,⟨_,_,rfl,hyb,rfl⟩⟩,⟨_,_,rfl,⟨_,_,_,_,rfl,yQt e4 _ _ _,⟨_,_,rfl,hyb,rfl⟩,yQt e4 _ _ _,⟨_,_,rfl,hya,rfl⟩⟩,rfl⟩⟩,rfl⟩
  ·have dt:decide (((rule:Nat):Int)=13)=true:=dEt (by omega);have ds:∀j:Int,j≠13->decide (((rule:Nat):Int)=j)=false:=λj hj=>dEf (by omega);have hrop:r.op=8:=by rw[hr]
   have k6:decide (r.op=0)=false:=dEf (by omega);by_cases hop:op=r.op
   case neg =>
    rw[hmain (by omega) hop];have k7:decide (op=r.op)=false:=dEf hop;simp only[go_sem,zE,zA,k4,k5,k6,k7];intros;exact yQ0 ⟨_,_,rfl,.inl rfl,rfl,rfl⟩
   have k7:decide (op=r.op)=true:=dEt hop;obtain⟨a,rfl⟩:∃a,sub=[a]:=by
    have:=hlen.1 (by omega)
    match sub,this with
    | [a],_=>exact⟨a,rfl⟩
   simp only[IsFms] at i4;obtain⟨ya,_,rfl,hya,rfl⟩:=i4;obtain⟨oa,na,ta1,xa1,ta2,xa2,rfl⟩:=hya.agg;have k8:decide ((0:Int)<((1:Nat):Int))=true:=rfl;have s1:=yZq (show 1<=1 by omega);have s2:=yZp (show 1<=1 by omega);have s3:∀a b c,(reTag 4 (yXb (reTag 4 t4) a b c none)).es=4:=λa b c=>yQ1 (yQt e4 a b c);have hT:=λst=>zJh gl term _ hz0 (by omega) st;have hP:=λst=>xKp gl a _ hya (by simp only[Fm.size,yQ7] at hm;have:=(zQl.1 hf).2.1;simp only[Fm.size,yQ7] at this;omega) nm term _ hz0 (by omega) st;generalize haS:yZj ca rule r (.mk op nm us [a]) term name=addSS;have hA0:=haS.symm.trans (zXs (t:=term) hf (λ_=>hop) (by rw[hr];decide) (by rw[hr];rfl));simp only[Fm.subs,Fm.nm,List.getElem?_cons_zero,Option.getD_some] at hA0;simp only[go_sem,zE,zA,zS,zL,k4,k5,k6,k7,ds,ne_eq,nFt,Int.reduceEq,k8,s1,s2,yQ1 e4];intros;refine (hT _).mono ?_;rintro _ st ⟨rfl,rfl⟩;cases hok:term.ok
   ·rw[hok] at hA0;rw[hA0];simp only[go_sem,zE,ne_eq];exact yQ0 ⟨_,_,rfl,.inl rfl,rfl,rfl⟩
   rw[hok] at hA0;rw[if_neg (by decide)] at hA0;simp only[go_sem,zE,zB,zA,zL,fits,s3,Int.le_refl,Int.toNat_zero];intros;refine (hP _).mono ?_;rintro _ st ⟨yg,rfl,hg,rfl⟩;obtain⟨og,ng,tg1,xg1,tg2,xg2,rfl⟩:=hg.agg;rcases wK3 hA0.symm with⟨he,hA1⟩|⟨he,hA1⟩
   ·have k9:decide ((((yZc a [(nm,term)]).2:Nat):Int)=0)=false:=dEf (by omega);rw[<- hA1];simp only[go_sem,zE,zA,zL,k9];exact yQ0 ⟨_,_,rfl,.inl rfl,rfl,rfl⟩
   ·have k9:decide ((((yZc a [(nm,term)]).2:Nat):Int)=0)=true:=dEt (by omega);rw[<- hA1,show ∀A B,addS ca rule (.mk op nm us [a]) A B=[⟨[A],[]⟩] from λA B=>by rw[hru];rfl];simp only[go_sem,zE,zA,zM,zL,fits,dt,yQ2,k9];intros
    repeat (refine (yJm gl _ _ _ _ _).mono ?_;rintro _ _ ⟨rfl,rfl⟩;simp only[go_sem,zE,zA,zM,zL,fits,yQ2])
    exact yQ0 ⟨_,_,rfl,.inr rfl,⟨_,_,rfl,⟨_,_,_,_,rfl,.inr rfl,⟨_,_,rfl,hg,rfl⟩,.inl rfl,rfl⟩,rfl⟩,rfl⟩
  ·have dt:decide (((rule:Nat):Int)=14)=true:=dEt (by omega);have ds:∀j:Int,j≠14->decide (((rule:Nat):Int)=j)=false:=λj hj=>dEf (by omega);have hrop:r.op=8:=by rw[hr]
   have k6:decide (r.op=0)=false:=dEf (by omega);by_cases hop:op=r.op
   case neg =>
    rw[hmain (by omega) hop];have k7:decide (op=r.op)=false:=dEf hop;simp only[go_sem,zE,zA,k4,k5,k6,k7];intros;exact yQ0 ⟨_,_,rfl,.inl rfl,rfl,rfl⟩
   have k7:decide (op=r.op)=true:=dEt hop;obtain⟨a,rfl⟩:∃a,sub=[a]:=by
    have:=hlen.1 (by omega)
    match sub,this with
    | [a],_=>exact⟨a,rfl⟩
   simp only[IsFms] at i4;obtain⟨ya,_,rfl,hya,rfl⟩:=i4;obtain⟨oa,na,ta1,xa1,ta2,xa2,rfl⟩:=hya.agg;have k8:decide ((0:Int)<((1:Nat):Int))=true:=rfl;have s1:=yZq (show 1<=1 by omega);have s2:=yZp (show 1<=1 by omega);have s3:∀a b c,(reTag 4 (yXb (reTag 4 t4) a b c none)).es=4:=λa b c=>yQ1 (yQt e4 a b c);have hT:=λst=>zJh gl (Tm.mk true name []) (.agg [.raw (.bool true),.raw (.string name),.sl ⟨true,.nil,0⟩ []]) ⟨⟨true,.nil,0⟩,[],rfl,.inl rfl,rfl⟩ (by simp[Tm.size,yQ8]) st;have hP:=λst=>xKp gl a _ hya (by simp only[Fm.size,yQ7] at hm;have:=(zQl.1 hf).2.1;simp only[Fm.size,yQ7] at this;omega) nm (Tm.mk true name []) (.agg [.raw (.bool true),.raw (.string name),.sl ⟨true,.nil,0⟩ []]) ⟨⟨true,.nil,0⟩,[],rfl,.inl rfl,rfl⟩ (by simp[Tm.size,yQ8]) st;generalize haS:yZj ca rule r (.mk op nm us [a]) term name=addSS;have hA0:=haS.symm.trans (zXs (t:=(Tm.mk true name [])) hf (λ_=>hop) (by rw[hr];decide) (by rw[hr];rfl));simp only[Fm.subs,Fm.nm,List.getElem?_cons_zero,Option.getD_some] at hA0;have hV:=λst=>yJw gl name st;simp only[go_sem,zE,zA,zS,zL,k4,k5,k6,k7,dt,ds,ne_eq,nFt,Int.reduceEq,k8,s1,s2,yQ1 e4];intros;refine (hV _).mono ?_;rintro _ st ⟨rfl,rfl⟩;cases hnv:yKl name
   ·rw[if_pos (show (Tm.mk true name []).ok=false from by simp[Tm.ok,hnv])] at hA0;rw[hA0];simp only[go_sem,zE];exact yQ0 ⟨_,_,rfl,.inl rfl,rfl,rfl⟩
   have hok:(Tm.mk true name []).ok=true:=by simp[Tm.ok,hnv]
   rw[hok] at hT;simp only[go_sem,zE,zA,zL,fits];refine (hT _).mono ?_;rintro _ st ⟨rfl,rfl⟩;rw[hok] at hA0;rw[if_neg (by decide)] at hA0;simp only[go_sem,zE,zB,zA,zL,fits,s3,Int.le_refl,Int.toNat_zero];intros;refine (hP _).mono ?_;rintro _ st ⟨yg,rfl,hg,rfl⟩;obtain⟨og,ng,tg1,xg1,tg2,xg2,rfl⟩:=hg.agg;rcases wK3 hA0.symm with⟨he,hA1⟩|⟨he,hA1⟩
   ·have k9:decide ((((yZc a [(nm,(Tm.mk true name []))]).2:Nat):Int)=0)=false:=dEf (by omega);rw[<- hA1];simp only[go_sem,zE,zA,zL,k9];exact yQ0 ⟨_,_,rfl,.inl rfl,rfl,rfl⟩
   ·have k9:decide ((((yZc a [(nm,(Tm.mk true name []))]).2:Nat):Int)=0)=true:=dEt (by omega);rw[<- hA1,show ∀A B,addS ca rule (.mk op nm us [a]) A B=[⟨[],[A]⟩] from λA B=>by rw[hru];rfl];simp only[go_sem,zE,zA,zM,zL,fits,ds,ne_eq,nFt,Int.reduceEq,yQ2,k9];intros
    repeat (refine (yJm gl _ _ _ _ _).mono ?_;rintro _ _ ⟨rfl,rfl⟩;simp only[go_sem,zE,zA,zM,zL,fits,yQ2])
    exact yQ0 ⟨_,_,rfl,.inr rfl,⟨_,_,rfl,⟨_,_,_,_,rfl,.inl rfl,rfl,.inr rfl,⟨_,_,rfl,hg,rfl⟩⟩,rfl⟩,rfl⟩
  ·have dt:decide (((rule:Nat):Int)=15)=true:=dEt (by omega);have ds:∀j:Int,j≠15->decide (((rule:Nat):Int)=j)=false:=λj hj=>dEf (by omega);have hrop:r.op=9:=by rw[hr]
   have k6:decide (r.op=0)=false:=dEf (by omega);by_cases hop:op=r.op
   case neg =>
    rw[hmain (by omega) hop];have k7:decide (op=r.op)=false:=dEf hop;simp only[go_sem,zE,zA,k4,k5,k6,k7];intros;exact yQ0 ⟨_,_,rfl,.inl rfl,rfl,rfl⟩
   have k7:decide (op=r.op)=true:=dEt hop;obtain⟨a,rfl⟩:∃a,sub=[a]:=by
    have:=hlen.1 (by omega)
    match sub,this with
    | [a],_=>exact⟨a,rfl⟩
   simp only[IsFms] at i4;obtain⟨ya,_,rfl,hya,rfl⟩:=i4;obtain⟨oa,na,ta1,xa1,ta2,xa2,rfl⟩:=hya.agg;have k8:decide ((0:Int)<((1:Nat):Int))=true:=rfl;have s1:=yZq (show 1<=1 by omega);have s2:=yZp (show 1<=1 by omega);have s3:∀a b c,(reTag 4 (yXb (reTag 4 t4) a b c none)).es=4:=λa b c=>yQ1 (yQt e4 a b c);have hT:=λst=>zJh gl (Tm.mk true name []) (.agg [.raw (.bool true),.raw (.string name),.sl ⟨true,.nil,0⟩ []]) ⟨⟨true,.nil,0⟩,[],rfl,.inl rfl,rfl⟩ (by simp[Tm.size,yQ8]) st;have hP:=λst=>xKp gl a _ hya (by simp only[Fm.size,yQ7] at hm;have:=(zQl.1 hf).2.1;simp only[Fm.size,yQ7] at this;omega) nm (Tm.mk true name []) (.agg [.raw (.bool true),.raw (.string name),.sl ⟨true,.nil,0⟩ []]) ⟨⟨true,.nil,0⟩,[],rfl,.inl rfl,rfl⟩ (by simp[Tm.size,yQ8]) st;generalize haS:yZj ca rule r (.mk op nm us [a]) term name=addSS;have hA0:=haS.symm.trans (zXs (t:=(Tm.mk true name [])) hf (λ_=>hop) (by rw[hr];decide) (by rw[hr];rfl));simp only[Fm.subs,Fm.nm,List.getElem?_cons_zero,Option.getD_some] at hA0;have hV:=λst=>yJw gl name st;simp only[go_sem,zE,zA,zS,zL,k4,k5,k6,k7,dt,ds,ne_eq,nFt,Int.reduceEq,k8,s1,s2,yQ1 e4];intros;refine (hV _).mono ?_;rintro _ st ⟨rfl,rfl⟩;cases hnv:yKl name
   ·rw[if_pos (show (Tm.mk true name []).ok=false from by simp[Tm.ok,hnv])] at hA0;rw[hA0];simp only[go_sem,zE];exact yQ0 ⟨_,_,rfl,.inl rfl,rfl,rfl⟩
   have hok:(Tm.mk true name []).ok=true:=by simp[Tm.ok,hnv]
   rw[hok] at hT;simp only[go_sem,zE,zA,zL,fits];refine (hT _).mono ?_;rintro _ st ⟨rfl,rfl⟩;rw[hok] at hA0;rw[if_neg (by decide)] at hA0;simp only[go_sem,zE,zB,zA,zL,fits,s3,Int.le_refl,Int.toNat_zero];intros;refine (hP _).mono ?_;rintro _ st ⟨yg,rfl,hg,rfl⟩;obtain⟨og,ng,tg1,xg1,tg2,xg2,rfl⟩:=hg.agg;rcases wK3 hA0.symm with⟨he,hA1⟩|⟨he,hA1⟩
   ·have k9:decide ((((yZc a [(nm,(Tm.mk true name []))]).2:Nat):Int)=0)=false:=dEf (by omega);rw[<- hA1];simp only[go_sem,zE,zA,zL,k9];exact yQ0 ⟨_,_,rfl,.inl rfl,rfl,rfl⟩
   ·have k9:decide ((((yZc a [(nm,(Tm.mk true name []))]).2:Nat):Int)=0)=true:=dEt (by omega);rw[<- hA1,show ∀A B,addS ca rule (.mk op nm us [a]) A B=[⟨[A],[]⟩] from λA B=>by rw[hru];rfl];simp only[go_sem,zE,zA,zM,zL,fits,dt,ds,ne_eq,nFt,Int.reduceEq,yQ2,k9];intros
    repeat (refine (yJm gl _ _ _ _ _).mono ?_;rintro _ _ ⟨rfl,rfl⟩;simp only[go_sem,zE,zA,zM,zL,fits,yQ2])
    exact yQ0 ⟨_,_,rfl,.inr rfl,⟨_,_,rfl,⟨_,_,_,_,rfl,.inr rfl,⟨_,_,rfl,hg,rfl⟩,.inl rfl,rfl⟩,rfl⟩,rfl⟩
  ·have dt:decide (((rule:Nat):Int)=16)=true:=dEt (by omega);have ds:∀j:Int,j≠16->decide (((rule:Nat):Int)=j)=false:=λj hj=>dEf (by omega);have hrop:r.op=9:=by rw[hr]
   have k6:decide (r.op=0)=false:=dEf (by omega);by_cases hop:op=r.op
   case neg =>
    rw[hmain (by omega) hop];have k7:decide (op=r.op)=false:=dEf hop;simp only[go_sem,zE,zA,k4,k5,k6,k7];intros;exact yQ0 ⟨_,_,rfl,.inl rfl,rfl,rfl⟩
   have k7:decide (op=r.op)=true:=dEt hop;obtain⟨a,rfl⟩:∃a,sub=[a]:=by
    have:=hlen.1 (by omega)
    match sub,this with
    | [a],_=>exact⟨a,rfl⟩
   simp only[IsFms] at i4;obtain⟨ya,_,rfl,hya,rfl⟩:=i4;obtain⟨oa,na,ta1,xa1,ta2,xa2,rfl⟩:=hya.agg;have k8:decide ((0:Int)<((1:Nat):Int))=true:=rfl;have s1:=yZq (show 1<=1 by omega);have s2:=yZp (show 1<=1 by omega);have s3:∀a b c,(reTag 4 (yXb (reTag 4 t4) a b c none)).es=4:=λa b c=>yQ1 (yQt e4 a b c);have hT:=λst=>zJh gl term _ hz0 (by omega) st;have hP:=λst=>xKp gl a _ hya (by simp only[Fm.size,yQ7] at hm;have:=(zQl.1 hf).2.1;simp only[Fm.size,yQ7] at this;omega) nm term _ hz0 (by omega) st;generalize haS:yZj ca rule r (.mk op nm us [a]) term name=addSS;have hA0:=haS.symm.trans (zXs (t:=term) hf (λ_=>hop) (by rw[hr];decide) (by rw[hr];rfl));simp only[Fm.subs,Fm.nm,List.getElem?_cons_zero,Option.getD_some] at hA0;simp only[go_sem,zE,zA,zS,zL,k4,k5,k6,k7,ds,ne_eq,nFt,Int.reduceEq,k8,s1,s2,yQ1 e4];intros;refine (hT _).mono ?_;rintro _ st ⟨rfl,rfl⟩;cases hok:term.ok
   ·rw[hok] at hA0;rw[hA0];simp only[go_sem,zE,ne_eq];exact yQ0 ⟨_,_,rfl,.inl rfl,rfl,rfl⟩
   rw[hok] at hA0;rw[if_neg (by decide)] at hA0;simp only[go_sem,zE,zB,zA,zL,fits,s3,Int.le_refl,Int.toNat_zero];intros;refine (hP _).mono ?_;rintro _ st ⟨yg,rfl,hg,rfl⟩;obtain⟨og,ng,tg1,xg1,tg2,xg2,rfl⟩:=hg.agg;rcases wK3 hA0.symm with⟨he,hA1⟩|⟨he,hA1⟩
   ·have k9:decide ((((yZc a [(nm,term)]).2:Nat):Int)=0)=false:=dEf (by omega);rw[<- hA1];simp only[go_sem,zE,zA,zL,k9];exact yQ0 ⟨_,_,rfl,.inl rfl,rfl,rfl⟩
   ·have k9:decide ((((yZc a [(nm,term)]).2:Nat):Int)=0)=true:=dEt (by omega);rw[<- hA1,show ∀A B,addS ca rule (.mk op nm us [a]) A B=[⟨[],[A]⟩] from λA B=>by rw[hru];rfl];simp only[go_sem,zE,zA,zM,zL,fits,ds,ne_eq,nFt,Int.reduceEq,yQ2,k9];intros
    repeat (refine (yJm gl _ _ _ _ _).mono ?_;rintro _ _ ⟨rfl,rfl⟩;simp only[go_sem,zE,zA,zM,zL,fits,yQ2])
    exact yQ0 ⟨_,_,rfl,.inr rfl,⟨_,_,rfl,⟨_,_,_,_,rfl,.inl rfl,rfl,.inr rfl,⟨_,_,rfl,hg,rfl⟩⟩,rfl⟩,rfl⟩
  ·have dt:decide (((rule:Nat):Int)=17)=true:=dEt (by omega);have ds:∀j:Int,j≠17->decide (((rule:Nat):Int)=j)=false:=λj hj=>dEf (by omega);have hrop:r.op=0:=by rw[hr]
   have k6:decide (r.op=0)=true:=dEt hrop;rw[yJ9 hf (λh=>absurd hrop h) (by rw[hr]),show ∀A B,addS ca rule (.mk op nm us sub) A B=[⟨[],[.mk op nm us sub]⟩,⟨[.mk op nm us sub],[]⟩] from λA B=>by rw[hru];rfl];by_cases hsl:sub.length=0
   ·have k8:decide ((0:Int)<((sub.length:Nat):Int))=false:=dEf (by omega);simp only[go_sem,zE,zA,zM,zL,fits,k4,k6,dt,ds,ne_eq,nFt,Int.reduceEq,yQ2,i4.len,k8];intros
    repeat (refine (yJm gl _ _ _ _ _).mono ?_;rintro _ _ ⟨rfl,rfl⟩;simp only[go_sem,zE,zA,zM,zL,fits,yG1])
    exact yQ0 ⟨_,_,rfl,.inr rfl,⟨_,_,rfl,⟨_,_,_,_,rfl,.inl rfl,rfl,.inr rfl,⟨_,_,rfl,hy0,rfl⟩⟩,⟨_,_,rfl,⟨_,_,_,_,rfl,.inr rfl,⟨_,_,rfl,hy0,rfl⟩,.inl rfl,rfl⟩,rfl⟩⟩,rfl⟩
   ·have k8:decide ((0:Int)<((sub.length:Nat):Int))=true:=dEt (by omega);simp only[go_sem,zE,zA,zM,zL,fits,k4,k6,dt,ds,ne_eq,nFt,Int.reduceEq,yQ2,i4.len,k8,yZq (show 1<=sub.length by omega),yZp (show 1<=sub.length by omega),yQ1 e4];intros
    repeat (refine (yJm gl _ _ _ _ _).mono ?_;rintro _ _ ⟨rfl,rfl⟩;simp only[go_sem,zE,zA,zM,zL,fits,yG1])
    exact yQ0 ⟨_,_,rfl,.inr rfl,⟨_,_,rfl,⟨_,_,_,_,rfl,.inl rfl,rfl,.inr rfl,⟨_,_,rfl,hy0,rfl⟩⟩,⟨_,_,rfl,⟨_,_,_,_,rfl,.inr rfl,⟨_,_,rfl,hy0,rfl⟩,.inl rfl,rfl⟩,rfl⟩⟩,rfl⟩
  ·have dt:decide (((rule:Nat):Int)=18)=true:=dEt (by omega);have ds:∀j:Int,j≠18->decide (((rule:Nat):Int)=j)=false:=λj hj=>dEf (by omega);have hrop:r.op=5:=by rw[hr]
   have k6:decide (r.op=0)=false:=dEf (by omega);by_cases hop:op=r.op
   case neg =>
    rw[hmain (by omega) hop];have k7:decide (op=r.op)=false:=dEf hop;simp only[go_sem,zE,zA,k4,k5,k6,k7];intros;exact yQ0 ⟨_,_,rfl,.inl rfl,rfl,rfl⟩
   have k7:decide (op=r.op)=true:=dEt hop;obtain⟨a,b,rfl⟩:∃a b,sub=[a,b]:=by
    have:=hlen.2 (by omega)
    match sub,this with
    | [a,b],_=>exact⟨a,b,rfl⟩
   simp only[IsFms] at i4;obtain⟨ya,_,rfl,hya,yb,_,rfl,hyb,rfl⟩:=i4;obtain⟨oa,na,ta1,xa1,ta2,xa2,rfl⟩:=hya.agg;obtain⟨ob,nb,tb1,xb1,tb2,xb2,rfl⟩:=hyb.agg;have k8:decide ((0:Int)<((2:Nat):Int))=true:=rfl;have s1:=yZq (show 1<=2 by omega);have s2:=yZp (show 1<=2 by omega);have s3:∀a b c,(reTag 4 (yXb (reTag 4 t4) a b c none)).es=4:=λa b c=>yQ1 (yQt e4 a b c);generalize haS:yZj ca rule r (.mk op nm us [a,b]) term name=addSS;have hA0:addSS=(addS ca rule (.mk op nm us [a,b]) a b,0):=by rw[<- haS,yJ9 hf (λ_=>hop) (by rw[hr])];rfl
   have hv:addSS=([⟨[],[b]⟩],0):=by rw[hA0,show addS ca rule (.mk op nm us [a,b]) a b=[⟨[],[b]⟩] from by rw[hru];rfl]
   rw[hv];simp only[go_sem,zE,zA,zS,zL,k4,k5,k6,k7,dt,ds,ne_eq,nFt,Int.reduceEq,k8,s1,s2,yQ1 e4];intros
   repeat (refine (yJm gl _ _ _ _ _).mono ?_;rintro _ _ ⟨rfl,rfl⟩;simp only[go_sem,zE,zA,zM,zL,fits,yQ2])
   exact yQ0 ⟨_,_,rfl,.inr rfl,⟨_,_,rfl,⟨_,_,_,_,rfl,.inl rfl,rfl,yQt e4 _ _ _,⟨_,_,rfl,hyb,rfl⟩⟩,rfl⟩,rfl⟩
end Go.Proofs.Tryz
namespace Go.Proofs.Tryz
open Go Go.Iv
end Go.Proofs.Tryz
namespace Go.Proofs.Tryz
open Go Go.Iv
set_option maxRecDepth 4000
variable (gl:Nat->Option IV)
theorem q_p (n:ByteArray)(t:Tag)(xs:List IV)(st:ISt):ICall prog gl 21 [.raw (.string n),.sl t xs] st (λr st'=>r=.agg [.raw (.int .u8 1),.raw (.string n),.sl t xs,.sl ⟨true,.nil,0⟩ []]/\st'=st):=by
 refine iI func21 ?_;simp only[go_sem,zE,zA,zL,reduceCtorEq,fits];exact yQ0 ⟨rfl,rfl⟩
theorem q_no (o:Int)(n:ByteArray)(t:Tag)(x:List IV)(t':Tag)(x':List IV)(st:ISt):ICall prog gl 24 [.agg [.raw (.int .u8 o),.raw (.string n),.sl t x,.sl t' x']] st
  (λr st'=>r=.agg [.raw (.int .u8 3),.raw (.string ⟨#[]⟩),.sl ⟨true,.nil,0⟩ [],.sl ⟨true,.full,4⟩ [.agg [.raw (.int .u8 o),.raw (.string n),.sl t x,.sl t' x']]]/\st'=st):=by
 refine iI func24 ?_;simp only[go_sem,zE,zA,zM,zL,fits,yQ2];exact yQ0 ⟨rfl,rfl⟩
theorem xXg (op o:Int)(n:ByteArray)(t:Tag)(x:List IV)(t':Tag)(x':List IV)(o2:Int)(n2:ByteArray)(t2:Tag)(x2:List IV)(t2':Tag)(x2':List IV)(st:ISt) :
  ICall prog gl 20 [.raw (.int .u8 op),.agg [.raw (.int .u8 o),.raw (.string n),.sl t x,.sl t' x'],.agg [.raw (.int .u8 o2),.raw (.string n2),.sl t2 x2,.sl t2' x2']] st
  (λr st'=>r=.agg [.raw (.int .u8 op),.raw (.string ⟨#[]⟩),.sl ⟨true,.nil,0⟩ [],.sl ⟨true,.full,4⟩ [.agg [.raw (.int .u8 o),.raw (.string n),.sl t x,.sl t' x'],.agg [.raw (.int .u8 o2),.raw (.string n2),.sl t2 x2,.sl t2' x2']]]/\st'=st):=by
 refine iI func20 ?_;simp only[go_sem,zE,zA,zM,zL,reduceCtorEq,fits,yQq];exact yQ0 ⟨rfl,rfl⟩
theorem q_fs (t:Tag)(xs:List IV)(st:ISt):ICall prog gl 23 [.sl t xs] st (λr st'=>r=.sl t xs/\st'=st):=by
 refine iI func23 ?_;simp only[go_sem,reduceCtorEq];exact yQ0 ⟨rfl,rfl⟩
theorem q_sq (t:Tag)(xs:List IV)(t':Tag)(ys:List IV)(st:ISt):ICall prog gl 22 [.sl t xs,.sl t' ys] st (λr st'=>r=.agg [.sl t xs,.sl t' ys]/\st'=st):=by
 refine iI func22 ?_;simp only[go_sem,zE,zA,zL,reduceCtorEq,fits];exact yQ0 ⟨rfl,rfl⟩
theorem q_v (n:ByteArray)(st:ISt):ICall prog gl 25 [.raw (.string n)] st (λr st'=>r=.agg [.raw (.bool true),.raw (.string n),.sl ⟨true,.nil,0⟩ []]/\st'=st):=by
 refine iI func25 ?_;simp only[go_sem,zE,zA,zL,reduceCtorEq,fits];exact yQ0 ⟨rfl,rfl⟩
