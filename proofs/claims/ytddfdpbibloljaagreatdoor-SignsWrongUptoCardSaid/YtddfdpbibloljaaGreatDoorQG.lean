/- Walks: what is used of a step. -/
import Derived.Test.YtddfdpbibloljaaGreatDoorQF
import Derived.Test.YtddfdpbibloljaaGreatDoorKE
import Derived.Deep.DeepHandedRow
set_option linter.all false
open Nat renaming reduceEqDiff → zE,reduceBEq → zB,reduceAdd → zA,reduceMul → zM,reduceSub → zS,reduceLeDiff → zL
namespace Go.Proofs.Tryz
open Go Go.Iv
set_option maxRecDepth 4000
variable (gl:Nat->Option IV)
noncomputable def zXo (q s w:Sq):Sq:=⟨q.l++yXt s.l w.l,q.r++yXt s.r w.r⟩
noncomputable def yY6 (fin:Sq->Tr):List Sq->List Tr->Sq->Tr
 | _,[],q=>fin q
 | [],s::_,_=>s
 | a::al,s::ss,q=>if !yVk a.l s.sq.l&&!yVk a.r s.sq.r then s else yY6 fin al ss (zXo q s.sq a)
def wV5 (rule:Nat)(m:Fm):Sq:=if rule=1 then ⟨[m],[m]⟩ else if yVt rule then ⟨[m],[]⟩ else if rule≠17 then ⟨[],[m]⟩ else ⟨[],[]⟩
noncomputable def addU (rule:Nat)(m:Fm):List Sq:=(wJv 1 rule m tm0 bE).1
noncomputable def xZq (rule:Nat)(s:Sq)(m:Fm)(subs:List Tr):Tr:=yY6 (λq=>.mk rule ⟨yJ8 s.l q.l,yJ8 s.r q.r⟩ m tm0 bE subs) (addU rule m) subs (wV5 rule m)
theorem zJx (l:List Fm):yXt l []=l:=by simp[yXt,hasL]
theorem NeedO.sub {s0 st:ISt}{b gL gR:Nat}{L R:List Fm}(h:NeedO s0 st b gL gR L R)(hb:s0 b=none):subSt s0 st:=by
 obtain⟨xl,xr,zl,zr,h1,h2,_,h4,_,_,_,h8⟩:=h;have none:∀ {s n cells g x},SlO s0 st s n cells g x->0<n->s0 g=none:=λhs hn=>by
  rcases hs with⟨h,_⟩|⟨_,_,_,_,_,_,_,_,h⟩
  ·omega
  ·exact h
 intro c o hc;have pos:∀l:List Fm,l≠[]->0<l.length:=λl h=>by cases l<;>simp at *
 rw[h8 c (λh=>by rw[h,hb] at hc;cases hc) (λhl h=>by rw[h,none h2 (pos _ hl)] at hc;cases hc) (λhl h=>by rw[h,none h4 (pos _ hl)] at hc;cases hc)];exact hc
theorem zVj (fin:Sq->Tr)(al:List Sq)(q:Sq):yY6 fin al [] q=fin q:=by cases al<;>rfl
theorem NeedO.off {s0 st:ISt}{b gL gR:Nat}{L R:List Fm}(h:NeedO s0 st b gL gR L R):(L≠[]->s0 gL=none)/\(R≠[]->s0 gR=none):=by
 obtain⟨xl,xr,zl,zr,h1,h2,_,h4,_,_,_,h8⟩:=h;have none:∀ {l:List Fm} {s cells g x},SlO s0 st s l.length cells g x->l≠[]->s0 g=none:=λhs hn=>by
  rcases hs with⟨h,_⟩|⟨_,_,_,_,_,_,_,_,h⟩
  ·exact absurd (List.length_eq_zero_iff.1 h) hn
  ·exact h
 exact⟨none h2,none h4⟩
def SU (st:ISt)(eL eR:Bool)(gL gR:Nat)(a b:Bool):ISt:=λc=>if (a=true/\eL=true/\c=gL)\/(b=true/\eR=true/\c=gR) then none else st c
theorem SU_ff {st:ISt}{eL eR:Bool}{gL gR:Nat}:SU st eL eR gL gR false false=st:=by
 funext c;simp[SU]
theorem vWg {st:ISt}{L R:List Fm}{gL gR c:Nat}{a b:Bool}(h1:L≠[]->c≠gL)(h2:R≠[]->c≠gR):SU st (!L.isEmpty) (!R.isEmpty) gL gR a b c=st c:=by
 unfold SU;rw[if_neg];simp only[Bool.not_eq_true',List.isEmpty_eq_false_iff];rintro (⟨_,h,h'⟩|⟨_,h,h'⟩)
 ·exact h1 h h'
 ·exact h2 h h'
theorem SU_L {st:ISt}{L R:List Fm}{gL gR:Nat}{b:Bool}(h:R≠[]->gL≠gR):SU st (!L.isEmpty) (!R.isEmpty) gL gR false b gL=st gL:=by
 unfold SU;rw[if_neg];simp only[Bool.not_eq_true',List.isEmpty_eq_false_iff,bFt,false_and,false_or];exact λh'=>h h'.2.1 h'.2.2
theorem SU_R {st:ISt}{L R:List Fm}{gL gR:Nat}{a:Bool}(h:L≠[]->gR≠gL):SU st (!L.isEmpty) (!R.isEmpty) gL gR a false gR=st gR:=by
 unfold SU;rw[if_neg];simp only[Bool.not_eq_true',List.isEmpty_eq_false_iff,bFt,false_and,or_false];exact λh'=>h h'.2.1 h'.2.2
theorem uUs {st:ISt}{eR:Bool}{gL gR:Nat}{b:Bool}:(SU st true eR gL gR false b).put gL none=SU st true eR gL gR true b:=by
 funext c;rw[ISt.put_apply];unfold SU;by_cases h:c=gL<;>simp[h]
theorem uUr {st:ISt}{eL:Bool}{gL gR:Nat}{a:Bool}:(SU st eL true gL gR a false).put gR none=SU st eL true gL gR a true:=by
 funext c;rw[ISt.put_apply];unfold SU;by_cases h:c=gR<;>simp[h]
theorem vWi {st:ISt}{eR:Bool}{gL gR:Nat}{a b:Bool}:SU st false eR gL gR a b=SU st false eR gL gR false b:=by
 funext c;simp[SU]
theorem vWh {st:ISt}{eL:Bool}{gL gR:Nat}{a b:Bool}:SU st eL false gL gR a b=SU st eL false gL gR a false:=by
 funext c;simp[SU]
theorem xQs {l:List Fm}{xs:List IV}(h:IsFms l xs):∀x∈xs,x.cells.length=4:=λx hx=>by
 have:=zQ5 h x hx;exact (yXu this).2.1
set_option maxHeartbeats 2000000 in
theorem vXp (G:Gl gl)(T:Gt gl)(rd:IV)(mp:Nat)(hrd:rd=.agg [.raw (.map (some mp))])(rule:Nat)(s:Sq)(mn:Fm)(u:Tm)(nm:ByteArray)(sb:List Tr)(x:IV)(hx:IsTr (.mk rule s mn u nm sb) x)(subs:List Tr)(tg:Tag)(zs:List IV)(htg:okEs tg 12)(hzs:IsTrs subs zs)
  (hsz:mn.size<=100000) (hs1:yQa s.l<=100000) (hs2:yQa s.r<=100000) (hq:∀a∈subs,a.sq.l.length+a.sq.r.length<=1000) (hn:subs.length<=100) (st:ISt) (es:List (Value×IV)) (hm:st mp=some (.map (.int .u8) es)) (hl:zY0 es) :
  ICall prog gl 57 [rd,x,.agg [],.sl tg zs] st (λr st'=>IsTr (xZq rule s mn subs) r/\st'=st):=by
 subst hrd;obtain⟨tl,xl,tr,xr,op,fn,ta,xa,tb,xb,v,un,tu,xu,ts,xs,rfl,hru,e1,i1,e2,i2,hy,hz,e3,i3⟩:=hx.mk;have hcopy:=λst=>zQl gl mn _ hy (by omega) st;have hA:=λst=>vZ9 gl G T 1 rule mn _ hy (by omega) tm0 (.agg [.raw (.bool false),.raw (.string ⟨#[]⟩),.sl ⟨true,.nil,0⟩ []]) ⟨_,_,rfl,.inl rfl,rfl⟩ (by decide) bE st;have hlk:=hl rule;have hr1:((rule:Int)=1)=(rule=1):=propext (by omega);have hr17:((rule:Int)=17)=(rule=17):=propext (by omega);have hmain:IsFms [mn] [.agg [.raw (.int .u8 op),.raw (.string fn),.sl ta xa,.sl tb xb]]:=⟨_,_,rfl,hy,rfl⟩
 have hcol:=λq L R t1 x1 t2 x2 (h1:IsSq q (.agg [.sl t1 x1,.sl t2 x2])) s0 st b gL gR (h:NeedO s0 st b gL gR L R) hl=>xZ3 gl q ⟨[],[]⟩ _ (.agg [.sl ⟨true,.nil,0⟩ [],.sl ⟨true,.nil,0⟩ []]) h1 ⟨_,_,_,_,rfl,.inl rfl,rfl,.inl rfl,rfl⟩ s0 st b gL gR L R h hl;refine ICall.intro (c:=cf prog gl [9,110,116] [(18,[])] [5]) func57 rfl (by show _<=124;simp) (by kernel_rfl) ?_;simp only[go_sem,zE,zB,zA,zM,zS,zL,reduceCtorEq,fits];refine λb=>yQc λhb=>?_;have hN0:NeedO st (st.put b (some (.box [.sl ⟨true,.nil,0⟩ [],.sl ⟨true,.nil,0⟩ []]))) b b b [] []:=⟨_,_,[],[],ISt.put_same ..,.inl ⟨rfl,rfl,_,_,rfl⟩,rfl,.inl ⟨rfl,rfl,_,_,rfl⟩,rfl,λh=>absurd rfl h,λh=>absurd rfl h,λc h _ _=>yQb h⟩
 have hbm:mp≠b:=λh=>by rw[<- h,hm] at hb;cases hb
 have hq0:wV5 rule mn=if rule=1 then ⟨[mn],[mn]⟩ else if yVt rule then ⟨[mn],[]⟩ else if rule≠17 then ⟨[],[mn]⟩ else ⟨[],[]⟩:=rfl
 have hun:xZq rule s mn subs=yY6 (λq=>.mk rule ⟨yJ8 s.l q.l,yJ8 s.r q.r⟩ mn tm0 bE subs) (addU rule mn) subs (wV5 rule mn):=rfl;generalize wV5 rule mn=q at hq0 hun;have look0:∀z,zQu false none z=some z:=λ_=>rfl;have look1:∀v z,zQu false (some v) z=some v:=λ_ _=>rfl;have hsz0:(if (#[]:Array UInt8).size<=281474976710656 then some (IV.raw (Value.string { data:=#[] })) else none)=some (IV.raw (Value.string { data:=#[] })):=rfl;rcases (show rule=1\/(rule≠1/\yVt rule=true)\/(rule≠1/\yVt rule=false/\rule=17)\/(rule≠1/\yVt rule=false/\rule≠17) by
  by_cases h1:rule=1
  ·exact .inl h1
  ·by_cases h2:rule=17<;>cases yVt rule<;>simp[h1,h2]) with h1|h1|h1|h1
 all_goals first
  | (rw[if_pos h1] at hq0
     have d1:decide ((rule:Int)=1)=true:=dEt (by omega);simp only[go_sem,zE,zB,zA,zM,zS,zL,reduceCtorEq,fits,yQ1,d1];refine (hcol ⟨[mn],[mn]⟩ _ _ _ _ _ _ ⟨_,_,_,_,rfl,.inr rfl,hmain,.inr rfl,hmain⟩ _ _ _ _ _ hN0 (by simp)).mono ?_;rintro _ st1 ⟨rfl,gL,gR,hN⟩;simp only[zJx,List.nil_append] at hN;have hN1:NeedO st st1 b gL gR q.l q.r:=by rw[hq0];exact hN
     have hqn:q.l.length+q.r.length<=2:=by rw[hq0];simp
     simp only[go_sem,zE,zB,zA,zM,zS,zL,reduceCtorEq,fits,hsz0])
  | (have d1:decide ((rule:Int)=1)=false:=dEf (by omega)
     rw[if_neg h1.1,h1.2,if_pos rfl] at hq0;rw[h1.2,if_pos rfl] at hlk;simp only[go_sem,zE,zB,zA,zM,zS,zL,reduceCtorEq,fits,yQ1,d1,yQb hbm,hm,hlk,look1];refine (hcol ⟨[mn],[]⟩ _ _ _ _ _ _ ⟨_,_,_,_,rfl,.inr rfl,hmain,.inl rfl,rfl⟩ _ _ _ _ _ hN0 (by simp)).mono ?_;rintro _ st1 ⟨rfl,gL,gR,hN⟩;simp only[zJx,List.nil_append] at hN;have hN1:NeedO st st1 b gL gR q.l q.r:=by rw[hq0];exact hN
     have hqn:q.l.length+q.r.length<=2:=by rw[hq0];simp
     simp only[go_sem,zE,zB,zA,zM,zS,zL,reduceCtorEq,fits,hsz0])
  | (have d1:decide ((rule:Int)=1)=false:=dEf (by omega)
     have d2:decide ((rule:Int)=17)=true:=dEt (by omega);rw[if_neg h1.1,h1.2.1,if_neg (by decide),if_neg (λh=>h h1.2.2)] at hq0;rw[h1.2.1,if_neg (by decide)] at hlk;simp only[go_sem,zE,zB,zA,zM,zS,zL,reduceCtorEq,fits,yQ1,d1,yQb hbm,hm,hlk,look0,d2];obtain⟨st1,hst1⟩:∃st1,st1=st.put b (some (.box [.sl ⟨true,.nil,0⟩ [],.sl ⟨true,.nil,0⟩ []])):=⟨_,rfl⟩
     rw[<- hst1];rw[<- hst1] at hN0;have hN1:NeedO st st1 b b b q.l q.r:=by rw[hq0];exact hN0
     have hqn:q.l.length+q.r.length<=2:=by rw[hq0];simp
     simp only[go_sem,zE,zB,zA,zM,zS,zL,reduceCtorEq,fits,hsz0])
  | (have d1:decide ((rule:Int)=1)=false:=dEf (by omega)
     have d2:decide ((rule:Int)=17)=false:=dEf (by omega);rw[if_neg h1.1,h1.2.1,if_neg (by decide),if_pos h1.2.2] at hq0;rw[h1.2.1,if_neg (by decide)] at hlk;simp only[go_sem,zE,zB,zA,zM,zS,zL,reduceCtorEq,fits,yQ1,d1,yQb hbm,hm,hlk,look0,d2];refine (hcol ⟨[],[mn]⟩ _ _ _ _ _ _ ⟨_,_,_,_,rfl,.inl rfl,rfl,.inr rfl,hmain⟩ _ _ _ _ _ hN0 (by simp)).mono ?_;rintro _ st1 ⟨rfl,gL,gR,hN⟩;simp only[zJx,List.nil_append] at hN;have hN1:NeedO st st1 b gL gR q.l q.r:=by rw[hq0];exact hN
     have hqn:q.l.length+q.r.length<=2:=by rw[hq0];simp
     simp only[go_sem,zE,zB,zA,zM,zS,zL,reduceCtorEq,fits,hsz0])
 all_goals
  refine (hA _).mono ?_;rintro _ st1 ⟨tgA,xsA,rfl,eA,_,iA,rfl⟩;replace iA:IsSqs (addU rule mn) xsA:=iA.w;simp only[go_sem,zE,zB,zA,zM,zS,zL,reduceCtorEq,fits,hzs.len];intro _;refine LoopC.ctr subs.length (λk fr st' ds=>(∃gL gR q,NeedO st st' b gL gR q.l q.r/\xZq rule s mn subs=yY6 (λq=>.mk rule ⟨yJ8 s.l q.l,yJ8 s.r q.r⟩ mn tm0 bE subs) ((addU rule mn).drop k) (subs.drop k) q/\q.l.length+q.r.length<=2+1000*k) /\
   fr 3=.iv (.sl tg zs)/\fr 4=.box [.raw (.map (some mp))]/\fr 5=.iv (.cptr (.agg [.raw (.int .u8 rule),.sl tl xl,.sl tr xr,.raw (.int .u8 op),.raw (.string fn),.sl ta xa,.sl tb xb,.raw (.bool v),.raw (.string un),.sl tu xu,.raw (.string nm),.sl ts xs]))/\fr 8=.box trZ/\fr 9=.iv (ptrI b)/\fr 10=.iv (.fn (.func 97) [] [ptrI b])/\fr 12=.iv (.sl tgA xsA) /\
   fr 59=.iv (.sl tg zs)/\fr 60=.iv (.raw (.int .i64 subs.length))/\fr 61=.iv (.raw (.int .i64 k))/\ds=[]) ?_ ?_ ?_
  ·simp only[go_sem,zE,zB,zA,zM,zS,zL,reduceCtorEq];exact⟨⟨_,_,q,hN1,hun,by omega⟩,rfl,rfl,rfl,rfl⟩
  ·rintro k fr st1 _ hlt ⟨⟨gL,gR,q,hN,hgo,hql⟩,f3,f4,f5,f8,f9,f10,f12,f59,f60,f61,rfl⟩;obtain⟨a,ha⟩:=yQ4 hlt;obtain⟨z,hkz,hz⟩:=hzs.get ha;have hqa:=hq a (lMg ha);have hz0:=hz;have hdr:subs.drop k=a::subs.drop (k+1):=List.drop_eq_getElem_cons hlt▸by rw[(lGs ha).2]
   obtain⟨ar,as',am,au,an,asb⟩:=a;obtain⟨tl',xl',tr',xr',op',fn',ta',xa',tb',xb',v',un',tu',xu',ts2,xs2,rfl,_,e1',i1',e2',i2',hy',hz',e3',i3'⟩:=hz.mk;by_cases hka:k<(addU rule mn).length
   ·have dk:decide ((((addU rule mn).length:Nat):Int)<=(k:Int))=false:=dEf (by omega);simp only[go_sem,zE,zB,zA,zM,zS,zL,reduceCtorEq,f3,f4,f5,f8,f9,f10,f12,f59,f60,f61,lt_i hlt,yQ3 htg,yQ3 eA,iNn,hkz,fits,iA.len,dk];obtain⟨w,hw⟩:=yQ4 hka;obtain⟨yw,hkw,hyw⟩:=iA.get hw;have hdw:(addU rule mn).drop k=w::(addU rule mn).drop (k+1):=List.drop_eq_getElem_cons hka▸by rw[(lGs hw).2]
    rw[hdr,hdw,yY6] at hgo;obtain⟨tw,xw,tw',xw',rfl,ew,iw,ew',iw'⟩:=hyw;have hm1:=λst=>wQx gl w.l tw xw ew iw as'.l tl' xl' e1' i1' st;have hm2:=λst=>wQx gl w.r tw' xw' ew' iw' as'.r tr' xr' e2' i2' st;have hln1:(yXt as'.l w.l).length<=as'.l.length:=List.length_filter_le ..;have hln2:(yXt as'.r w.r).length<=as'.r.length:=List.length_filter_le ..;replace hqa:as'.l.length+as'.r.length<=1000:=hqa;have hcl:=xZ3 gl as' w (.agg [.sl tl' xl',.sl tr' xr']) (.agg [.sl tw xw,.sl tw' xw']) ⟨_,_,_,_,rfl,e1',i1',e2',i2'⟩ ⟨_,_,_,_,rfl,ew,iw,ew',iw'⟩ st st1 b gL gR q.l q.r hN (by omega);have hnext:∀(st2:ISt) gL gR,NeedO st st2 b gL gR (q.l++yXt as'.l w.l) (q.r++yXt as'.r w.r)->xZq rule s mn subs=yY6 (λq=>.mk rule ⟨yJ8 s.l q.l,yJ8 s.r q.r⟩ mn tm0 bE subs) ((addU rule mn).drop (k+1)) (subs.drop (k+1)) (zXo q as' w) →
      ∃gL gR q,NeedO st st2 b gL gR q.l q.r/\xZq rule s mn subs=yY6 (λq=>.mk rule ⟨yJ8 s.l q.l,yJ8 s.r q.r⟩ mn tm0 bE subs) ((addU rule mn).drop (k+1)) (subs.drop (k+1)) q/\q.l.length+q.r.length<=2+1000*(k+1):=λst2 gL gR h1 h2=>⟨gL,gR,zXo q as' w,h1,h2,by simp only[zXo,lLa];omega⟩
    simp only[go_sem,zE,zB,zA,zM,zS,zL,reduceCtorEq,hkw,fits];refine (hm1 _).mono ?_;rintro _ st1 ⟨rfl,rfl⟩;cases hb1:yVk w.l as'.l
    ·simp only[go_sem,zE,zB,zA,zM,zS,zL,reduceCtorEq,f3,f4,f5,f8,f9,f10,f12,f59,f60,f61,hkw,yQ3 eA,iNn,fits];refine (hm2 _).mono ?_;rintro _ st1 ⟨rfl,rfl⟩;cases hb2:yVk w.r as'.r
     ·simp only[go_sem,zE,zB,zA,zM,zS,zL,reduceCtorEq,f3,f4,f5,f8,f9,f10,f12,f59,f60,f61,fits];rw[if_pos (by decide)];refine yQd (hN.sub hb) ⟨?_,rfl⟩;rw[hgo,if_pos (by show (!yVk w.l as'.l&&!yVk w.r as'.r)=true;rw[hb1,hb2];rfl)];exact hz0
     ·rw[if_neg (by show ¬ (!yVk w.l as'.l&&!yVk w.r as'.r)=true;rw[hb1,hb2];decide)] at hgo;simp only[go_sem,zE,zB,zA,zM,zS,zL,reduceCtorEq,f3,f4,f5,f8,f9,f10,f12,f59,f60,f61,hkw,yQ3 eA,iNn,fits];refine hcl.mono ?_;rintro _ st2 ⟨rfl,gL2,gR2,hN2⟩;simp only[go_sem,zE,zB,zA,zM,zS,zL,reduceCtorEq,f3,f4,f5,f8,f9,f10,f12,f59,f60,f61,yQg hlt (show subs.length<=281474976710656 by omega)];exact hnext st2 gL2 gR2 hN2 hgo
    ·rw[if_neg (by show ¬ (!yVk w.l as'.l&&!yVk w.r as'.r)=true;rw[hb1];simp)] at hgo;simp only[go_sem,zE,zB,zA,zM,zS,zL,reduceCtorEq,f3,f4,f5,f8,f9,f10,f12,f59,f60,f61,hkw,yQ3 eA,iNn,fits];refine hcl.mono ?_;rintro _ st2 ⟨rfl,gL2,gR2,hN2⟩;simp only[go_sem,zE,zB,zA,zM,zS,zL,reduceCtorEq,f3,f4,f5,f8,f9,f10,f12,f59,f60,f61,yQg hlt (show subs.length<=281474976710656 by omega)];exact hnext st2 gL2 gR2 hN2 hgo
   ·have dk:decide ((((addU rule mn).length:Nat):Int)<=(k:Int))=true:=dEt (by omega);simp only[go_sem,zE,zB,zA,zM,zS,zL,reduceCtorEq,f3,f4,f5,f8,f9,f10,f12,f59,f60,f61,lt_i hlt,yQ3 htg,yQ3 eA,iNn,hkz,fits,iA.len,dk];rw[if_pos (by decide)];rw[hdr,List.drop_eq_nil_of_le (by omega),yY6] at hgo;exact yQd (hN.sub hb) ⟨by rw[hgo];exact hz0,rfl⟩
  ·rintro fr st1 _ ⟨⟨gL,gR,q,hN,hgo,hql⟩,f3,f4,f5,f8,f9,f10,f12,f59,f60,f61,rfl⟩;rw[List.drop_length] at hgo;simp only[go_sem,zE,zB,zA,zM,zS,zL,reduceCtorEq,f3,f4,f5,f8,f9,f10,f60,f61,yQr (nLi _)];rw[yKd];have hsubN:=hN.sub hb;obtain⟨hLn,hRn⟩:=hN.off;obtain⟨yl,yr,zl,zr,hbx,hsL,izl,hsR,izr,k1,k2,k3⟩:=hN;obtain⟨S,hS⟩:∃S:Array Bool->ISt,S=λl=>SU st1 (!q.l.isEmpty) (!q.r.isEmpty) gL gR (l.getD 7 false) (l.getD 13 false):=⟨_,rfl⟩
   have hSb:∀l,S l b=some (.box [yl,yr]):=λl=>by rw[hS];exact (vWg (λh=>(k1 h).1.symm) (λh=>(k2 h).symm)).trans hbx
   have kk:∀ {K:Kt} {ad:Ad} {fr:Fr} {l:Array Bool} {i:Nat},K ad fr (S (l.setIfInBounds i true)) []->(decide (i=7) || decide (i=13))=false->K ad fr (S l) []:=λh hi=>by
    simp only[Bool.or_eq_false_iff,decide_eq_false_iff_not] at hi;rw[hS] at h ⊢;simp only[getD_set_ne false hi.1,getD_set_ne false hi.2] at h;exact h
   have hst1:st1=S (Array.replicate 21 false):=by rw[hS];simp only[yXh];exact SU_ff.symm
   rw[hst1];refine anyT (n:=20) (S:=S) (Rel:=λi z=>match i with
    | 0=>z=.cptr (.raw (.int .u8 rule))
    | 1=>z=.raw (.int .u8 rule)
    | 2=>z=.cptr (.agg [.sl tl xl,.sl tr xr])
    | 3=>z=.cptr (.sl tl xl)
    | 4=>z=.sl tl xl
    | 5=>z=.raw (.pointer (some ⟨b,0,none⟩))
    | 6=>z=yl
    | 7=>∃t ys,z=.sl t ys/\okEs t 4/\IsFms (yJ8 s.l q.l) ys
    | 8=>z=.cptr (.agg [.sl tl xl,.sl tr xr])
    | 9=>z=.cptr (.sl tr xr)
    | 10=>z=.sl tr xr
    | 11=>z=.raw (.pointer (some ⟨b,1,none⟩))
    | 12=>z=yr
    | 13=>∃t ys,z=.sl t ys/\okEs t 4/\IsFms (yJ8 s.r q.r) ys
    | 14=>∃t ys t' ys',z=.agg [.sl t ys,.sl t' ys']/\okEs t 4/\IsFms (yJ8 s.l q.l) ys/\okEs t' 4/\IsFms (yJ8 s.r q.r) ys'
    | 15=>z=.cptr (.agg [.raw (.int .u8 op),.raw (.string fn),.sl ta xa,.sl tb xb])
    | 16=>z=.agg [.raw (.int .u8 op),.raw (.string fn),.sl ta xa,.sl tb xb]
    | 17=>IsFm mn z
    | 18=>z=.sl tg zs
    | 19=>IsTr (.mk rule ⟨yJ8 s.l q.l,yJ8 s.r q.r⟩ mn tm0 bE subs) z
    | _=>True)
    (F:=λfr=>fr 3=.iv (.sl tg zs)/\fr 5=.iv (.cptr (.agg [.raw (.int .u8 rule),.sl tl xl,.sl tr xr,.raw (.int .u8 op),.raw (.string fn),.sl ta xa,.sl tb xb,.raw (.bool v),.raw (.string un),.sl tu xu,.raw (.string nm),.sl ts xs]))/\fr 8=.box trZ/\fr 9=.iv (ptrI b)) (G:=λfr=>∃l,IsTr (.mk rule ⟨yJ8 s.l q.l,yJ8 s.r q.r⟩ mn tm0 bE subs) (.agg l)/\fr 8=.box l)
    ⟨rfl,by decide,by decide,by decide,λfr d z hd ⟨h3,h5,h8,h9⟩=>⟨(xQ1 hd rfl).trans h3,(xQ1 hd rfl).trans h5,(xQ1 hd rfl).trans h8,(xQ1 hd rfl).trans h9⟩⟩ ?_ ?_ (λ_=>rfl) ⟨f3,f5,f8,f9⟩
   ·repeat' apply AllOkS.cons
    ·intro listed ad fr K hz hfl had hF hd hK hS2;obtain⟨f3,f5,f8,f9⟩:=hF;simp only[go_sem,zE,zB,zA,zM,zS,zL,reduceCtorEq,yQ5,had,f3,f5,f8,f9];exact kk (hK _ _ rfl (λh=>absurd h (by decide)) rfl) rfl
    ·intro listed ad fr K hz hfl had hF hd hK hS2;obtain⟨f3,f5,f8,f9⟩:=hF;obtain⟨_,g0,rfl⟩:=hd 0 _ rfl rfl;simp only[go_sem,zE,zB,zA,zM,zS,zL,reduceCtorEq,yQ5,had,f3,f5,f8,f9,g0];exact kk (hK _ _ rfl (λh=>absurd h (by decide)) rfl) rfl
    ·intro listed ad fr K hz hfl had hF hd hK hS2;obtain⟨f3,f5,f8,f9⟩:=hF;simp only[go_sem,zE,zB,zA,zM,zS,zL,reduceCtorEq,yQ5,had,f3,f5,f8,f9];exact kk (hK _ _ rfl (λh=>absurd h (by decide)) rfl) rfl
    ·intro listed ad fr K hz hfl had hF hd hK hS2;obtain⟨f3,f5,f8,f9⟩:=hF;obtain⟨_,g2,rfl⟩:=hd 2 _ rfl rfl;simp only[go_sem,zE,zB,zA,zM,zS,zL,reduceCtorEq,yQ5,had,f3,f5,f8,f9,g2];exact kk (hK _ _ rfl (λh=>absurd h (by decide)) rfl) rfl
    ·intro listed ad fr K hz hfl had hF hd hK hS2;obtain⟨f3,f5,f8,f9⟩:=hF;obtain⟨_,g3,rfl⟩:=hd 3 _ rfl rfl;simp only[go_sem,zE,zB,zA,zM,zS,zL,reduceCtorEq,yQ5,had,f3,f5,f8,f9,g3];exact kk (hK _ _ rfl (λh=>absurd h (by decide)) rfl) rfl
    ·intro listed ad fr K hz hfl had hF hd hK hS2;obtain⟨f3,f5,f8,f9⟩:=hF;unfold ptrI at f9;simp only[go_sem,zE,zB,zA,zM,zS,zL,reduceCtorEq,yQ5,had,f3,f5,f8,f9];exact kk (hK _ _ rfl (λh=>absurd h (by decide)) rfl) rfl
    ·intro listed ad fr K hz hfl had hF hd hK hS2;obtain⟨f3,f5,f8,f9⟩:=hF;obtain⟨_,g5,rfl⟩:=hd 5 _ rfl rfl;simp only[go_sem,zE,zB,zA,zM,zS,zL,reduceCtorEq,yQ5,had,f3,f5,f8,f9,g5,hSb];exact kk (hK _ _ rfl (λh=>absurd h (by decide)) rfl) rfl
    ·intro listed ad fr K hz hfl had hF hd hK hS2;obtain⟨f3,f5,f8,f9⟩:=hF;obtain⟨_,g4,rfl⟩:=hd 4 _ rfl rfl;obtain⟨_,g6,rfl⟩:=hd 6 _ rfl rfl;rcases hsL with⟨hn0,hcz,fz,ez,rfl⟩|⟨hn0,cap0,cs0,rfl,hg0,hkc0,hcc0,htk0,hgn0⟩
     ·have hq0:q.l=[]:=List.length_eq_zero_iff.1 hn0;have hz0:zl=[]:=List.length_eq_zero_iff.1 (by rw[izl.len];exact hn0);subst hz0;simp only[go_sem,zE,zB,zA,zM,zS,zL,reduceCtorEq,yQ5,had,f3,f5,f8,f9,g4,g6,fits];refine (xKw gl s.l tl xl e1 i1 q.l ⟨fz,.nil,ez⟩ [] (.inl rfl) izl (by omega) _).mono ?_;rintro _ _ ⟨t5,y5,rfl,e5,i5,rfl⟩;have hKK:=hK _ (.sl t5 y5) rfl (λh=>absurd h (by decide)) ⟨_,_,rfl,e5,i5⟩;have hE:S (listed.setIfInBounds 7 true)=S listed:=by
       rw[hS];simp only[getD_set_ne false (show 7≠13 by decide),hq0,List.isEmpty_nil,Bool.not_true];rw[vWi,vWi (a:=listed.getD 7 false)]
      rw[<- hE];exact hKK
     ·have hq0:q.l≠[]:=λh=>by rw[h] at hn0;exact absurd hn0 (by decide)
      have hqe:(!q.l.isEmpty)=true:=by simpa using hq0
      have hSg:S listed gL=some (.box cs0):=by
       rw[hS];simp only[hfl];exact (SU_L (λh=>(k1 hq0).2 h)).trans hg0
      have hE:(S listed).put gL none=S (listed.setIfInBounds 7 true):=by
       rw[hS];simp only[getD_set_ne false (show 7≠13 by decide),yQo (show 7<listed.size by rw[hz];decide),if_true,hfl,hqe];exact uUs
      simp only[go_sem,zE,zB,zA,zM,zS,zL,reduceCtorEq,yQ5,had,f3,f5,f8,f9,g4,g6,fits];refine ICall.frzSl (pre:=[_]) (es:=4) (zs:=zl) hSg izl.len hkc0 hcc0 (xQs izl) htk0 (by omega) ?_;rw[hE];refine (xKw gl s.l tl xl e1 i1 q.l _ _ (.inr rfl) izl.aged (by omega) _).mono ?_;rintro _ _ ⟨t5,y5,rfl,e5,i5,rfl⟩;exact hK _ (.sl t5 y5) rfl (λh=>absurd h (by decide)) ⟨_,_,rfl,e5,i5⟩
    ·intro listed ad fr K hz hfl had hF hd hK hS2;obtain⟨f3,f5,f8,f9⟩:=hF;simp only[go_sem,zE,zB,zA,zM,zS,zL,reduceCtorEq,yQ5,had,f3,f5,f8,f9];exact kk (hK _ _ rfl (λh=>absurd h (by decide)) rfl) rfl
    ·intro listed ad fr K hz hfl had hF hd hK hS2;obtain⟨f3,f5,f8,f9⟩:=hF;obtain⟨_,g8,rfl⟩:=hd 8 _ rfl rfl;simp only[go_sem,zE,zB,zA,zM,zS,zL,reduceCtorEq,yQ5,had,f3,f5,f8,f9,g8];exact kk (hK _ _ rfl (λh=>absurd h (by decide)) rfl) rfl
    ·intro listed ad fr K hz hfl had hF hd hK hS2;obtain⟨f3,f5,f8,f9⟩:=hF;obtain⟨_,g9,rfl⟩:=hd 9 _ rfl rfl;simp only[go_sem,zE,zB,zA,zM,zS,zL,reduceCtorEq,yQ5,had,f3,f5,f8,f9,g9];exact kk (hK _ _ rfl (λh=>absurd h (by decide)) rfl) rfl
    ·intro listed ad fr K hz hfl had hF hd hK hS2;obtain⟨f3,f5,f8,f9⟩:=hF;unfold ptrI at f9;simp only[go_sem,zE,zB,zA,zM,zS,zL,reduceCtorEq,yQ5,had,f3,f5,f8,f9];exact kk (hK _ _ rfl (λh=>absurd h (by decide)) rfl) rfl
    ·intro listed ad fr K hz hfl had hF hd hK hS2;obtain⟨f3,f5,f8,f9⟩:=hF;obtain⟨_,g11,rfl⟩:=hd 11 _ rfl rfl;simp only[go_sem,zE,zB,zA,zM,zS,zL,reduceCtorEq,yQ5,had,f3,f5,f8,f9,g11,hSb];exact kk (hK _ _ rfl (λh=>absurd h (by decide)) rfl) rfl
    ·intro listed ad fr K hz hfl had hF hd hK hS2;obtain⟨f3,f5,f8,f9⟩:=hF;obtain⟨_,g10,rfl⟩:=hd 10 _ rfl rfl;obtain⟨_,g12,rfl⟩:=hd 12 _ rfl rfl;rcases hsR with⟨hn0,hcz,fz,ez,rfl⟩|⟨hn0,cap0,cs0,rfl,hg0,hkc0,hcc0,htk0,hgn0⟩
     ·have hq0:q.r=[]:=List.length_eq_zero_iff.1 hn0;have hz0:zr=[]:=List.length_eq_zero_iff.1 (by rw[izr.len];exact hn0);subst hz0;simp only[go_sem,zE,zB,zA,zM,zS,zL,reduceCtorEq,yQ5,had,f3,f5,f8,f9,g10,g12,fits];refine (xKw gl s.r tr xr e2 i2 q.r ⟨fz,.nil,ez⟩ [] (.inl rfl) izr (by omega) _).mono ?_;rintro _ _ ⟨t5,y5,rfl,e5,i5,rfl⟩;have hKK:=hK _ (.sl t5 y5) rfl (λh=>absurd h (by decide)) ⟨_,_,rfl,e5,i5⟩;have hE:S (listed.setIfInBounds 13 true)=S listed:=by
       rw[hS];simp only[getD_set_ne false (show 13≠7 by decide),hq0,List.isEmpty_nil,Bool.not_true];rw[vWh,vWh (b:=listed.getD 13 false)]
      rw[<- hE];exact hKK
     ·have hq0:q.r≠[]:=λh=>by rw[h] at hn0;exact absurd hn0 (by decide)
      have hqe:(!q.r.isEmpty)=true:=by simpa using hq0
      have hSg:S listed gR=some (.box cs0):=by
       rw[hS];simp only[hfl];exact (SU_R (λh=>((k1 h).2 hq0).symm)).trans hg0
      have hE:(S listed).put gR none=S (listed.setIfInBounds 13 true):=by
       rw[hS];simp only[getD_set_ne false (show 13≠7 by decide),yQo (show 13<listed.size by rw[hz];decide),if_true,hfl,hqe];exact uUr
      simp only[go_sem,zE,zB,zA,zM,zS,zL,reduceCtorEq,yQ5,had,f3,f5,f8,f9,g10,g12,fits];refine ICall.frzSl (pre:=[_]) (es:=4) (zs:=zr) hSg izr.len hkc0 hcc0 (xQs izr) htk0 (by omega) ?_;rw[hE];refine (xKw gl s.r tr xr e2 i2 q.r _ _ (.inr rfl) izr.aged (by omega) _).mono ?_;rintro _ _ ⟨t5,y5,rfl,e5,i5,rfl⟩;exact hK _ (.sl t5 y5) rfl (λh=>absurd h (by decide)) ⟨_,_,rfl,e5,i5⟩
    ·intro listed ad fr K hz hfl had hF hd hK hS2;obtain⟨f3,f5,f8,f9⟩:=hF;obtain⟨z7,g7,k7⟩:=hd 7 _ rfl rfl;obtain⟨t5,y5,rfl,k5,k6⟩:=k7;obtain⟨z13,g13,k13⟩:=hd 13 _ rfl rfl;obtain⟨t6,y6,rfl,k7',k8⟩:=k13;simp only[go_sem,zE,zB,zA,zM,zS,zL,reduceCtorEq,yQ5,had,f3,f5,f8,f9,g7,g13,fits];exact kk (hK _ _ rfl (λh=>absurd h (by decide)) ⟨_,_,_,_,rfl,k5,k6,k7',k8⟩) rfl
    ·intro listed ad fr K hz hfl had hF hd hK hS2;obtain⟨f3,f5,f8,f9⟩:=hF;simp only[go_sem,zE,zB,zA,zM,zS,zL,reduceCtorEq,yQ5,had,f3,f5,f8,f9];exact kk (hK _ _ rfl (λh=>absurd h (by decide)) rfl) rfl
    ·intro listed ad fr K hz hfl had hF hd hK hS2;obtain⟨f3,f5,f8,f9⟩:=hF;obtain⟨_,g15,rfl⟩:=hd 15 _ rfl rfl;simp only[go_sem,zE,zB,zA,zM,zS,zL,reduceCtorEq,yQ5,had,f3,f5,f8,f9,g15,fits];exact kk (hK _ _ rfl (λh=>absurd h (by decide)) rfl) rfl
    ·intro listed ad fr K hz hfl had hF hd hK hS2;obtain⟨f3,f5,f8,f9⟩:=hF;obtain⟨_,g16,rfl⟩:=hd 16 _ rfl rfl;simp only[go_sem,zE,zB,zA,zM,zS,zL,reduceCtorEq,yQ5,had,f3,f5,f8,f9,g16];refine (hcopy _).mono ?_;rintro r _ ⟨hr,rfl⟩;exact kk (hK _ _ rfl (λh=>absurd h (by decide)) hr.1) rfl
    ·intro listed ad fr K hz hfl had hF hd hK hS2;obtain⟨f3,f5,f8,f9⟩:=hF;simp only[go_sem,zE,zB,zA,zM,zS,zL,reduceCtorEq,yQ5,had,f3,f5,f8,f9];exact kk (hK _ _ rfl (λh=>absurd h (by decide)) rfl) rfl
    ·intro listed ad fr K hz hfl had hF hd hK hS2;obtain⟨f3,f5,f8,f9⟩:=hF;obtain⟨_,g1,rfl⟩:=hd 1 _ rfl rfl;obtain⟨z14,g14,k14⟩:=hd 14 _ rfl rfl;obtain⟨t5,y5,t6,y6,rfl,k5,k6,k7',k8⟩:=k14;obtain⟨z17,g17,k17⟩:=hd 17 _ rfl rfl;obtain⟨_,g18,rfl⟩:=hd 18 _ rfl rfl;replace k17:IsFm mn z17:=k17;obtain⟨o2,n2,t2,x2,t3,x3,rfl⟩:=k17.agg;simp only[go_sem,zE,zB,zA,zM,zS,zL,reduceCtorEq,yQ5,had,f3,f5,f8,f9,g1,g14,g17,g18,fits];exact kk (hK _ _ rfl (λh=>absurd h (by decide)) (by simp only[IsTr];exact⟨_,_,_,_,_,_,_,_,_,_,_,_,_,_,_,_,rfl,hru,k5,k6,k7',k8,k17,⟨_,_,rfl,.inl rfl,rfl⟩,htg,hzs⟩)) rfl
    ·intro listed ad fr K hz hfl had hF hd hK hS2;obtain⟨f3,f5,f8,f9⟩:=hF;obtain⟨z19,g19,k19⟩:=hd 19 _ rfl rfl;obtain⟨rule9,tl9,xl9,tr9,xr9,op9,fn9,ta9,xa9,tb9,xb9,v9,un9,tu9,xu9,n9,ts9,xs9,rfl⟩:=yK4 k19;simp only[go_sem,zE,zB,zA,zM,zS,zL,reduceCtorEq,yQ5,had,f3,f5,f8,f9,g19,fits,trZ];exact kk (hS2 _ rfl rfl ⟨_,k19,rfl⟩ (λ_=>wY5 rfl)) rfl
    ·exact trivial
   ·rintro fr ⟨l,hl,h8⟩ hall;obtain⟨rule9,tl9,xl9,tr9,xr9,op9,fn9,ta9,xa9,tb9,xb9,v9,un9,tu9,xu9,n9,ts9,xs9,he9⟩:=yK4 hl;obtain rfl:=IV.agg.inj he9;simp only[go_sem,zE,zB,zA,zM,zS,zL,reduceCtorEq,h8];refine yQd (λc o hc=>?_) ⟨by rw[hgo,zVj];exact hl,rfl⟩;rw[hS];exact (vWg (λh h'=>by rw[h',hLn h] at hc;cases hc) (λh h'=>by rw[h',hRn h] at hc;cases hc)).trans (hsubN c o hc)
mutual
noncomputable def zU9:Tr->Tr
 | .mk rule s m _ _ sub=>xZq rule s m (yVy sub)
noncomputable def yVy:List Tr->List Tr
 | []=>[]
 | a::l=>zU9 a::yVy l
end
theorem zQg:∀l:List Tr,(yVy l).length=l.length
 | []=>rfl
 | a::l=>by simp only[yVy,List.length_cons,zQg l]
theorem zVi:∀l m:List Tr,yVy (l++m)=yVy l++yVy m
 | [],m=>rfl
 | a::l,m=>by simp only[List.cons_append,yVy,zVi l m]
theorem zJ1 {P:Tr->Prop}{fin:Sq->Tr}(hf:∀q,P (fin q)):∀ {al:List Sq} {ss:List Tr} {q:Sq},(∀s∈ss,P s)->P (yY6 fin al ss q)
 | al,[],q,_=>by rw[zVj];exact hf q
 | [],s::_,q,h=>h s (by simp)
 | a::al,s::ss,q,h=>by
  rw[yY6];split
  ·exact h s (by simp)
  ·exact zJ1 hf λx hx=>h x (by simp[hx])
mutual
theorem wK1:∀ {t:Tr},okT t=true->(zU9 t).sq.l.length+(zU9 t).sq.r.length<=300
 | .mk rule s m u n sub,h=>by
  simp only[okT,bAt] at h;have hb:=(yGa h.1).1;rw[zU9,xZq];refine zJ1 (P:=λt=>t.sq.l.length+t.sq.r.length<=300) (λq=>?_) (zJ0 h.2);have h1:=(yYg (need:=q.l) (l:=s.l) (r:=[])).2;have h2:=(yYg (need:=q.r) (l:=s.r) (r:=[])).2;have h3:=yZ8 s.l;have h4:=yZ8 s.r;have h5:=yZx s.l;have h6:=yZx s.r;simp only[List.length_nil] at h1 h2;show (yJ8 s.l q.l).length+(yJ8 s.r q.r).length<=300;unfold yJ8;omega
theorem zJ0:∀ {l:List Tr},okTs l=true->∀a∈yVy l,a.sq.l.length+a.sq.r.length<=300
 | [],_,a,h=>by simp only[yVy] at h;cases h
 | b::l,h,a,ha=>by
  simp only[okTs,bAt] at h;simp only[yVy,List.mem_cons] at ha;rcases ha with rfl|ha
  ·exact wK1 h.1
  ·exact zJ0 h.2 a ha
end
def wWa (t:Tr):Prop:=∀(x:IV) (_:IsTr t x) (_:t.steps<=100) (_:okT t=true) (st:ISt) (m:Nat) (es:List (Value×IV)) (_:st m=some (.map (.int .u8) es)) (_:zY0 es),
 ICall prog gl 56 [x,.agg [],.fn (.func 49) [.agg [.raw (.map (some m))]] [],.fn (.func 57) [.agg [.raw (.map (some m))]] []] st
  (λr st'=>IsTr (zU9 t) r/\st'=st)
theorem xWj (G:Gl gl)(T:Gt gl)(rule:Nat)(s:Sq)(mn:Fm)(u:Tm)(nm:ByteArray)(sub:List Tr)(IH:∀a∈sub,wWa gl a):wWa gl (.mk rule s mn u nm sub):=by
 intro x hx hst hw st m es hm hl;obtain⟨tl,xl,tr,xr,op,fn,ta,xa,tb,xb,v,un,tu,xu,ts,xs,rfl,hru,e1,i1,e2,i2,hy,hz,e3,i3⟩:=hx.mk;refine ICall.intro (c:=cf prog gl [23] []) func56 rfl (by show _<=48;simp) (by kernel_rfl) ?_;simp only[go_sem,zE,zB,zA,zM,zS,zL,reduceCtorEq,fits];refine (wJi gl _ m rfl _ _ hx (by show sub.length<=_;simp only[Tr.steps] at hst;have:=yXm sub;omega) _).mono ?_;rintro _ st ⟨ts',xs',rfl,e3',i3',rfl⟩;have hln:=i3'.len;have hls:sub.length<=100:=by rw[Tr.steps] at hst;have:=yXm sub;omega
 change xs'.length=sub.length at hln;simp only[go_sem,zE,zB,zA,zM,zS,zL,reduceCtorEq,fits];intro _;refine yQx ⟨by omega,by omega,by omega⟩ λg=>yQc λhg=>?_;have hgm:g≠m:=λh=>by rw[h,hm] at hg;cases hg
 intro _;refine LoopC.ctr sub.length (λk fr st' ds=>(∃cs zs,st'=st.put g (some (.box cs))/\cs.length=sub.length*12/\cs.take (k*12)=zs.flatMap IV.cells/\IsTrs (yVy (sub.take k)) zs) /\
  fr 2=.iv (.fn (.func 49) [.agg [.raw (.map (some m))]] [])/\fr 3=.iv (.fn (.func 57) [.agg [.raw (.map (some m))]] [])/\fr 4=.box [.raw (.int .u8 rule),.sl tl xl,.sl tr xr,.raw (.int .u8 op),.raw (.string fn),.sl ta xa,.sl tb xb,.raw (.bool v),.raw (.string un),.sl tu xu,.raw (.string nm),.sl ts xs]/\fr 5=.box []/\fr 8=.box trZ /\
  fr 10=.iv (.sl ⟨false,.none,0⟩ (List.replicate sub.length (.agg [])))/\fr 11=.iv (.raw (.slice (some ⟨g,0,none⟩) sub.length sub.length))/\fr 24=.iv (.sl ts' xs')/\fr 25=.iv (.raw (.int .i64 sub.length))/\fr 26=.iv (.raw (.int .i64 k))/\ds=[]) ?_ ?_ ?_
 ·simp only[go_sem,zE,zB,zA,zM,zS,zL,reduceCtorEq,hln];exact⟨⟨_,[],rfl,by simp,rfl,rfl⟩,rfl,rfl,rfl⟩
 ·rintro k fr _ _ hlt ⟨⟨cs,zs,rfl,hcl,hct,hzs⟩,f2,f3,f4,f5,f8,f10,f11,f24,f25,f26,rfl⟩;obtain⟨a,ha⟩:=yQ4 hlt;obtain⟨z,hkz,hz⟩:=i3'.get ha;have ham:=lMg ha;have hsta:=yUk ham;simp only[Tr.steps] at hst;simp only[okT,bAt] at hw;have hcall:=λst1 hm=>IH a ham z hz (by omega) (zYz hw.2 ham) st1 m es hm hl;have hrep:(List.replicate sub.length (IV.agg []))[k]?=some (.agg []):=by rw[List.getElem?_replicate,if_pos hlt]
  obtain⟨rule',tl',xl',tr',xr',op',fn',ta',xa',tb',xb',v',un',tu',xu',n',ts2,xs2,rfl⟩:=yK4 hz;simp only[go_sem,zE,zB,zA,zM,zS,zL,reduceCtorEq,f2,f3,f4,f5,f8,f10,f11,f24,f25,f26,lt_i hlt,yQ3 e3',iNn,hkz,fits,hrep];refine (hcall _ (by rw[yQb hgm.symm];exact hm)).mono ?_;rintro r _ ⟨hr,rfl⟩;have hr0:=hr;obtain⟨rule9,tl9,xl9,tr9,xr9,op9,fn9,ta9,xa9,tb9,xb9,v9,un9,tu9,xu9,n9,ts9,xs9,rfl⟩:=yK4 hr;simp only[go_sem,zE,zB,zA,zM,zS,zL,reduceCtorEq,f2,f3,f4,f5,f8,f10,f11,f24,f25,f26,fits,ISt.put_same,yQ9,yQg hlt (show sub.length<=281474976710656 by omega)];have hkn:k*12+12<=sub.length*12:=by omega
  obtain⟨q1,q2⟩:=yGy (new:=[IV.raw (.int .u8 rule9),.sl tl9 xl9,.sl tr9 xr9,.raw (.int .u8 op9),.raw (.string fn9),.sl ta9 xa9,.sl tb9 xb9,.raw (.bool v9),.raw (.string un9),.sl tu9 xu9,.raw (.string n9),.sl ts9 xs9]) hcl hlt rfl;rw[if_pos ⟨by omega,hlt⟩,if_pos (by omega)];refine⟨_,zs++[.agg [.raw (.int .u8 rule9),.sl tl9 xl9,.sl tr9 xr9,.raw (.int .u8 op9),.raw (.string fn9),.sl ta9 xa9,.sl tb9 xb9,.raw (.bool v9),.raw (.string un9),.sl tu9 xu9,.raw (.string n9),.sl ts9 xs9]],rfl,q1,?_,?_⟩
  ·rw[q2,hct,List.flatMap_append,List.flatMap_singleton];rfl
  ·rw[yQ8 ha,zVi];exact hzs.append ⟨_,_,rfl,hr0,rfl⟩
 ·rintro fr _ _ ⟨⟨cs,zs,rfl,hcl,hct,hzs⟩,f2,f3,f4,f5,f8,f10,f11,f24,f25,f26,rfl⟩;rw[lTl] at hzs;have hzl:zs.length=sub.length:=by rw[hzs.len,zQg]
  simp only[go_sem,zE,zB,zA,zM,zS,zL,reduceCtorEq,f2,f3,f4,f5,f8,f10,f11,f24,f25,f26,yQr (nLi _)];refine ICall.frzSl (pre:=[_,_,_]) (es:=12) (zs:=zs) (ISt.put_same ..) hzl (Nat.le_refl _) (by omega) (zJ2 hzs) hct (by omega) ?_;rw[xQ0 hg];have hok:=hw;simp only[okT,bAt] at hw;obtain⟨hb1,hb2,_,_⟩:=yGa hw.1;have hsm:=zYn mn;have hs3:=yZx s.l;have hs4:=yZx s.r;refine (vXp gl G T _ m rfl rule s mn u nm sub _ hx (yVy sub) _ _ (.inr rfl) (zY9 hzs) (by omega) (by omega) (by omega) (λa ha=>Nat.le_trans (zJ0 hw.2 a ha) (by decide)) (by rw[zQg];omega) _ es hm hl).mono ?_;rintro r _ ⟨hr,rfl⟩;have hr0:=hr;obtain⟨rule9,tl9,xl9,tr9,xr9,op9,fn9,ta9,xa9,tb9,xb9,v9,un9,tu9,xu9,n9,ts9,xs9,rfl⟩:=yK4 hr;simp only[go_sem,zE,zB,zA,zM,zS,zL,reduceCtorEq,f8,trZ,fits];exact yQ0 ⟨by simpa only[zU9] using hr0,rfl⟩
theorem zGy (G:Gl gl)(T:Gt gl):∀(k:Nat) (t:Tr),SizeOf.sizeOf t<k->wWa gl t
 | 0,_,h=>absurd h (by omega)
 | k+1,.mk rule s mn u nm sub,h=>xWj gl G T rule s mn u nm sub λa ha=>zGy G T k a (by have:=lSm ha;simp only[Tr.mk.sizeOf_spec] at h;omega)
theorem wG1 (G:Gl gl)(T:Gt gl)(t:Tr):wWa gl t:=zGy gl G T _ t (Nat.lt_succ_self _)
noncomputable def zX4 (t:Tr):Tr×Nat:=if (yXb 1 t).2≠0 then (tr0,231) else (zU9 t,0)
theorem wJk (G:Gl gl)(T:Gt gl)(t:Tr)(x:IV)(hx:IsTr t x)(hok:okT t=true)(hst:t.steps<=100)(st:ISt) :
  ICall prog gl 20 [x] st (λr st'=>(∃z,r=.tup [z,.raw (.int .i64 (zX4 t).2)]/\IsTr (zX4 t).1 z)/\st'=st):=by
 have hck:=λst=>wJu gl G T 1 t x hx (wUa hok (by omega)) st;have hx0:=hx;have z0:=xUb;unfold trZ at z0;obtain⟨rule,tl,xl,tr,xr,op,fn,ta,xa,tb,xb,v,un,tu,xu,nm,ts,xs,rfl⟩:=yK4 hx;have hne:∀n:Nat,((n:Int)=0)=(n=0):=λn=>propext (by omega);refine iI func20 ?_;simp only[go_sem,zE,zB,zA,zM,zS,zL,reduceCtorEq,fits];refine (hck _).mono ?_;rintro _ st ⟨⟨tg,rfl,htg⟩,rfl⟩;by_cases h0:(yXb 1 t).2=0
 ·simp only[go_sem,zE,zB,zA,zM,zS,zL,reduceCtorEq,fits,h0,decide_true,Bool.not_true,Int.natCast_zero];refine (zJt gl st).mono ?_;rintro _ _ ⟨m,es,hm,rfl,hl,rfl⟩;simp only[go_sem,zE,zB,zA,zM,zS,zL,reduceCtorEq,fits];refine (wG1 gl G T t _ hx0 hst hok _ m es (ISt.put_same ..) hl).mono ?_;rintro r _ ⟨hr,rfl⟩;have hr0:=hr;obtain⟨rule9,tl9,xl9,tr9,xr9,op9,fn9,ta9,xa9,tb9,xb9,v9,un9,tu9,xu9,n9,ts9,xs9,rfl⟩:=yK4 hr;simp only[go_sem,zE,zB,zA,zM,zS,zL,reduceCtorEq,fits];have he:zX4 t=(zU9 t,0):=by rw[zX4,if_neg (by rw[h0];decide)]
  exact yQd (yQf hm) ⟨⟨_,by rw[he];rfl,by rw[he];exact hr0⟩,rfl⟩
 ·simp only[go_sem,zE,zB,zA,zM,zS,zL,reduceCtorEq,fits,hne,h0,decide_false,Bool.not_false];have he:zX4 t=(tr0,231):=by rw[zX4,if_pos h0]
  exact yQ0 ⟨⟨_,by rw[he];rfl,by rw[he];exact z0⟩,rfl⟩
end Go.Proofs.Tryz
namespace Go.Proofs.Tryz
open Go Go.Iv
set_option maxRecDepth 8000
variable (gl:Nat->Option IV)
theorem ord3 (x y z:Operand):yJw 3 [(0,x),(1,y),(2,z)]=true:=rfl
theorem ord4 (x y z w:Operand):yJw 4 [(0,x),(1,y),(2,z),(3,w)]=true:=rfl
theorem zY4 {ca:Nat}{s:Sq}{rule:Nat}{main:Fm}{term:Tm}{name:ByteArray}{r:Rw}{ad:List Sq}(h1:yJ9 ca s=true)(h2:rowS ca rule=some r)(h3:yJd ca rule r main term name=(ad,0))
  (h4:r.left=true->hasF s.l main=true) (h5:r.right=true->hasF s.r main=true) (h6:r.asks≠2):yK5 ca s rule main term name=(ad,0):=by
 unfold yK5;rw[h1,h2];simp only[Bool.not_true,bFt,if_false,h3];obtain⟨rl,rr,op,asks⟩:=r;simp only at h4 h5 h6 ⊢;have e1:(rl&&!hasF s.l main)=false:=by
  cases rl
  ·rfl
  ·rw[h4 rfl];rfl
 have e2:(rr&&!hasF s.r main)=false:=by
  cases rr
  ·rfl
  ·rw[h5 rfl];rfl
 rw[e1,e2,dEf h6];rfl
theorem xHas {l:List Fm}{f:Fm}(h:f∈l)(hr:f.right=true):hasF l f=true:=zQ1.2 ⟨f,h,zXn hr⟩
theorem xGv {s:Sq}(h:(decide (s.l.length<=64)&&decide (s.r.length<=64)&&s.l.all (fmB 1)&&s.r.all (fmB 1))=true):yJ9 1 s=true:=by
 unfold yJ9;rw[show yV9 1=true from rfl,Bool.true_and,h];rfl
theorem xAll {l m:List Fm}(h:∀f∈l,f∈m/\f.right=true):allF l m=true:=List.all_eq_true.2 λf hf=>xHas (h f hf).1 (h f hf).2
theorem zXu {ca rule:Nat}{s:Sq}{main:Fm}{term:Tm}{name:ByteArray}{sub:List Tr}{ad:List Sq}(h:yK5 ca s rule main term name=(ad,0))(hl:sub.length=ad.length)(hp:yJf s ad sub=true):yXq ca (.mk rule s main term name sub)=0:=by
 simp only[yXq];rw[h];simp only[ne_eq,nTf,if_false,hl,hp,if_true]
theorem vJ6:yK5 1 ⟨[xmR,xmA],[xmR]⟩ 5 xmA xmT ⟨#[]⟩=([⟨[xmP,xmQ],[]⟩],0):=zY4 (r:=⟨true,false,4,0⟩) (xGv (by decide)) rfl (by rfl) (λ_=>xHas (by simp) (by decide)) (λh=>by cases h) (by decide)
theorem vJ5:yK5 1 ⟨[xmP,xmQ,xmR,xmA],[xmR]⟩ 1 xmR xmT ⟨#[]⟩=([],0):=zY4 (r:=⟨true,true,0,0⟩) (xGv (by decide)) rfl (by rfl) (λ_=>xHas (by simp) (by decide)) (λ_=>xHas (by simp) (by decide)) (by decide)
theorem xGr:yXb 1 xmX=([],0):=by
 have h1:yXq 1 xmX=0:=zXu vJ6 rfl (by
  have a1:allF [xmP,xmQ,xmR,xmA] [xmR,xmA,xmP,xmQ]=true:=xAll λf hf=>by
   simp only[List.mem_cons,List.not_mem_nil,or_false] at hf;rcases hf with rfl|rfl|rfl|rfl<;>exact⟨by simp,by decide⟩
  have a2:allF [xmR] [xmR]=true:=xAll λf hf=>by
   simp only[List.mem_cons,List.not_mem_nil,or_false] at hf;subst hf;exact⟨by simp,by decide⟩
  simp only[yJf,Tr.sq,Sq.plus,yJs,List.append_nil,List.cons_append,List.nil_append,a1,a2,Bool.and_self])
 have h2:yXq 1 (.mk 1 ⟨[xmP,xmQ,xmR,xmA],[xmR]⟩ xmR xmT ⟨#[]⟩ [])=0:=zXu vJ5 rfl rfl;unfold yXb;rw[show xmX.walk []=[([],xmX),([0],.mk 1 ⟨[xmP,xmQ,xmR,xmA],[xmR]⟩ xmR xmT ⟨#[]⟩ [])] from rfl];simp only[yZi,h1,h2,if_true];rfl
theorem wWu:zZe xmS (n1 false)=(xmW,0):=by
 rw[zZe,if_neg (by rw[zGw];decide),if_neg (by rw[xGt];decide),xJy]
theorem vJu:yWh xmW=(n1 true,0):=by
 rw[yWh,if_neg (by rw[zGv,wJx];decide),if_neg (by decide),wJw]
theorem vXr:zX4 xmW=(xmV,0):=by
 rw[zX4,if_neg (by rw[zGv];decide)];rfl
theorem vXq:zX4 xmX=(xmY,0):=by
 rw[zX4,if_neg (by rw[xGr];decide)];rfl
theorem vQ2:xZh (n1 false) (yZf xmS):=by
 simp only[n1,n2,n3,xZh,GrowsL,xGu];exact⟨trivial,rfl,by decide,⟨rfl,rfl,by decide,⟨rfl,rfl,rfl⟩,trivial⟩,trivial⟩
def tagJ:List Tr->Tag
 | []=>⟨true,.nil,0⟩
 | _::_=>⟨true,.full,12⟩
theorem wGj (l:List Tr):okEs (tagJ l) 12:=by cases l<;>simp[tagJ,okEs]
mutual
def trJ:Tr->IV
 | .mk rule s (.mk o fn us fs) (.mk v un ts) n sub=>.agg [.raw (.int .u8 rule),.sl (tagF s.l) (fmsI s.l),.sl (tagF s.r) (fmsI s.r),.raw (.int .u8 o),.raw (.string fn),.sl (tagT us) (tmsI us),.sl (tagF fs) (fmsI fs),.raw (.bool v),.raw (.string un),.sl (tagT ts) (tmsI ts),.raw (.string n),.sl (tagJ sub) (trsJ sub)]
def trsJ:List Tr->List IV
 | []=>[]
 | a::l=>trJ a::trsJ l
end
mutual
def bytJ:Tr->Bool
 | .mk rule s f _ _ sub=>decide (rule<256)&&zZn s.l&&zZn s.r&&wKz f&&wW0 sub
def wW0:List Tr->Bool
 | []=>true
 | a::l=>bytJ a&&wW0 l
end
mutual
theorem zVn:∀t:Tr,bytJ t=true->IsTr t (trJ t)
 | .mk rule s (.mk o fn us fs) (.mk v un ts) n sub,h=>by
  simp only[bytJ,bAt,dTe] at h;obtain⟨⟨⟨⟨h1,h2⟩,h3⟩,h4⟩,h5⟩:=h;have hf:=zWk (.mk o fn us fs) h4;have ht:=wWv (.mk v un ts);simp only[fmI] at hf;simp only[tmI] at ht;simp only[IsTr];exact⟨tagF s.l,fmsI s.l,tagF s.r,fmsI s.r,o,fn,tagT us,tmsI us,tagF fs,fmsI fs,v,un,tagT ts,tmsI ts,tagJ sub,trsJ sub,by simp only[trJ],h1,zJ9 _,zZ1 _ h2,zJ9 _,zZ1 _ h3,hf,ht,wGj _,xU8 sub h5⟩
theorem xU8:∀l:List Tr,wW0 l=true->IsTrs l (trsJ l)
 | [],_=>rfl
 | a::l,h=>by
  simp only[wW0,bAt] at h;exact⟨_,_,by simp only[trsJ],zVn a h.1,xU8 l h.2⟩
end
def sqI (s:Sq):IV:=.agg [.sl (tagF s.l) (fmsI s.l),.sl (tagF s.r) (fmsI s.r)]
theorem xUo (s:Sq)(h:(zZn s.l&&zZn s.r)=true):IsSq s (sqI s):=by
 rw[bAt] at h;exact⟨_,_,_,_,rfl,zJ9 _,zZ1 _ h.1,zJ9 _,zZ1 _ h.2⟩
theorem xUn {s:Sq}{x:IV}(h:IsSq s x):IsSq s (age x):=by
 obtain⟨t1,x1,t2,x2,rfl,e1,i1,e2,i2⟩:=h;simp only[age,ages];exact⟨_,_,_,_,rfl,yJg e1,i1.aged,yJg e2,i2.aged⟩
theorem wKl (G:Gl gl)(T:Gt gl)(hgl:∀g x,gl g=some x->age x=x)(st:ISt)(h0:∀b,st b=none):ICall prog gl 9 [] st (λr st'=>r=.raw (.bool true)/\st'=st):=by
 have hfl:zZv st:=λb o hb=>by rw[h0] at hb;cases hb
 have hrw:xY9 st:=λb cs hb=>by rw[h0] at hb;cases hb
 have hB:=ICall.own (K:=λr=>∃z,r=.tup [z,.raw (.int .i64 0)]/\IsNd (n1 false) z) (args:=[.raw (.int .u8 1),sqI xmS]) hfl hgl ((vZ7 gl G xmS (age (sqI xmS)) (xUn (xUo xmS (by decide))) (by decide) xGs (n1 false) (by decide) vQ2 st).mono λr st' ⟨⟨z,h1,h2,h3⟩,h4⟩=>⟨h4,by rw[h1];exact⟨h3,trivial,trivial⟩,z,h1,h2⟩);refine ICall.intro (c:=cf prog gl [] [(7,[0,1,2,3,4,5,6,9,10,11,13,14,15,16,24,7,8,12,17,18,19,20,21,22,23,25]),(10,[0,1,2,3,4,5,8,9,10,12,13,21,6,7,11,14,15,16,17,18,19,20,22]),(13,[0,1,2,3,5,6,9,10,11,12,13,14,16,17,27,4,7,8,15,18,19,20,21,22,23,24,25,26,28,29]),(14,[0,1,2,3,4,5,6,7,8,9,10,11,12,13,14,15,16,17,18,19,20,21,22,23,24,25,26,28,29,27,30,31,32,33,34,35,36,37,38,39,40])]) func9 rfl (by show _<=199;simp) (by kernel_rfl) ?_;simp only[go_sem,zE,zB,zA,zM,zS,zL,reduceCtorEq,fits,yQj]
 repeat (first
  | (refine (s_p gl _ _).mono ?_;rintro _ st ⟨rfl,rfl⟩;simp only[go_sem,zE,zB,zA,zM,zS,zL,reduceCtorEq,fits,yQ1,yQ7,ord3,ord4,yQj,decide_true,fits])
  | (refine (s_of gl _ _ _ _).mono ?_;rintro _ st ⟨rfl,rfl⟩;simp only[go_sem,zE,zB,zA,zM,zS,zL,reduceCtorEq,fits,yQ1,yQ7,ord3,ord4,yQj,decide_true,fits])
  | (refine (s_fs gl _ _ _).mono ?_;rintro _ st ⟨rfl,rfl⟩;simp only[go_sem,zE,zB,zA,zM,zS,zL,reduceCtorEq,fits,yQ1,yQ7,ord3,ord4,yQj,decide_true,fits])
  | (refine (s_sq gl _ _ _ _ _).mono ?_;rintro _ st ⟨rfl,rfl⟩;simp only[go_sem,zE,zB,zA,zM,zS,zL,reduceCtorEq,fits,yQ1,yQ7,ord3,ord4,yQj,decide_true,fits])
  | (refine (yUo gl _ _ _ _ _ _ _ _ _ _ _ _ _ _).mono ?_;rintro _ st ⟨rfl,rfl⟩;simp only[go_sem,zE,zB,zA,zM,zS,zL,reduceCtorEq,fits,yQ1,yQ7,ord3,ord4,yQj,decide_true,fits]))
 refine hB.mono ?_;rintro _ st1 ⟨_,hfl1,hrw1,_,⟨z,rfl,hz⟩,hO,hY⟩;obtain⟨y,rfl,hOy,hYy⟩:=wU6 hO hY;obtain⟨o,n,v4,v5,g1,c1,o2,m2,w4,w5,q1,g2,c2,o3,m3,u4,u5,u8,q2,rfl,ho4,ho5,hc1,hc2,hN1,hN2,z',hz',hO'⟩:=vQ8 (hrw1 hrw) hz hOy hYy;have ho8:(IV.raw (Value.slice (some ⟨g1,0,none⟩) 1 c1)).one=true:=rfl;have hTr:=ICall.lentFix (K:=λr=>∃y,r=.tup [y,.raw (.int .i64 0)]/\IsTr xmW y) (args:=[sqI xmS,.agg [.raw (.bool false),.raw (.int .i64 0),.raw (.int .u8 o),.raw (.string n),.raw v4,.raw v5,.raw (.bool false),.raw (.int .i64 0),.raw (.slice (some ⟨g1,0,none⟩) 1 c1)]]) (args':=[sqI xmS,age z]) hfl1 hgl ⟨_,_,rfl,.inl rfl,_,_,rfl,.inr ⟨z,hOy,rfl⟩,rfl⟩
  ((wJl gl G xmS (age (sqI xmS)) (xUn (xUo xmS (by decide))) (by decide) (n1 false) (age (age z)) hz.aged.aged (by decide) (yVs st1)).mono λr st' ⟨⟨y,h1,h2,h3⟩,h4⟩=>⟨h4,by rw[h1];exact⟨h3,trivial,trivial⟩,age y,by rw[h1,wWu];rfl,by rw[wWu] at h2;exact xUa h2⟩)
 simp only[go_sem,zE,zB,zA,zM,zS,zL,reduceCtorEq,fits,ho4,ho5,ho8];refine hTr.mono ?_;rintro _ st ⟨rfl,y,rfl,hy⟩;have hNo:=λst=>xWg gl G T xmW y hy (by decide) (by decide) st;have hUs:=λst=>wJk gl G T xmW y hy (by decide) (by decide) st;have hSa:=λw hw st=>zZf gl xmW y w hy hw (by decide) st;rw[vJu] at hNo;rw[vXr] at hUs;obtain⟨rule',tl',xl',tr1',xr',op',fn',ta',xa',tb',xb',v',un',tu',xu',n',ts2,xs2,rfl⟩:=yK4 hy;simp only[go_sem,zE,zB,zA,zM,zS,zL,reduceCtorEq,fits,yQ1,yQ7,ord3,ord4,yQj,decide_true]
 repeat (first
  | (refine (s_p gl _ _).mono ?_;rintro _ st ⟨rfl,rfl⟩;simp only[go_sem,zE,zB,zA,zM,zS,zL,reduceCtorEq,fits,yQ1,yQ7,ord3,ord4,yQj,decide_true,fits])
  | (refine (s_of gl _ _ _ _).mono ?_;rintro _ st ⟨rfl,rfl⟩;simp only[go_sem,zE,zB,zA,zM,zS,zL,reduceCtorEq,fits,yQ1,yQ7,ord3,ord4,yQj,decide_true,fits])
  | (refine (s_fs gl _ _ _).mono ?_;rintro _ st ⟨rfl,rfl⟩;simp only[go_sem,zE,zB,zA,zM,zS,zL,reduceCtorEq,fits,yQ1,yQ7,ord3,ord4,yQj,decide_true,fits])
  | (refine (s_sq gl _ _ _ _ _).mono ?_;rintro _ st ⟨rfl,rfl⟩;simp only[go_sem,zE,zB,zA,zM,zS,zL,reduceCtorEq,fits,yQ1,yQ7,ord3,ord4,yQj,decide_true,fits])
  | (refine (yUo gl _ _ _ _ _ _ _ _ _ _ _ _ _ _).mono ?_;rintro _ st ⟨rfl,rfl⟩;simp only[go_sem,zE,zB,zA,zM,zS,zL,reduceCtorEq,fits,yQ1,yQ7,ord3,ord4,yQj,decide_true,fits]))
 refine (hNo _).mono ?_;rintro _ st ⟨⟨m,rfl,hm⟩,rfl⟩;have hSm:=λw hw st=>zWz gl (n1 true) m w hm hw (by decide) st;obtain⟨v1,w1,o1,k1,t1,y1,t2,y2,a1,w2,t3,y3,rfl⟩:=yKp hm;simp only[go_sem,zE,zB,zA,zM,zS,zL,reduceCtorEq,fits,yQ1,yQ7,ord3,ord4,yQj,decide_true];refine (hUs _).mono ?_;rintro _ st ⟨⟨u,rfl,hu⟩,rfl⟩;have hSu:=λw hw st=>zZf gl xmV u w hu hw (by decide) st;obtain⟨rule3,tl3,xl3,tr3,xr3,op3,fn3,ta3,xa3,tb3,xb3,v3,un3,tu3,xu3,nn3,ts3,xs3,rfl⟩:=yK4 hu;simp only[go_sem,zE,zB,zA,zM,zS,zL,reduceCtorEq,fits,yQ1,yQ7,ord3,ord4,yQj,decide_true]
 repeat (first
  | (refine (s_p gl _ _).mono ?_;rintro _ st ⟨rfl,rfl⟩;simp only[go_sem,zE,zB,zA,zM,zS,zL,reduceCtorEq,fits,yQ1,yQ7,ord3,ord4,yQj,decide_true,fits])
  | (refine (s_of gl _ _ _ _).mono ?_;rintro _ st ⟨rfl,rfl⟩;simp only[go_sem,zE,zB,zA,zM,zS,zL,reduceCtorEq,fits,yQ1,yQ7,ord3,ord4,yQj,decide_true,fits])
  | (refine (s_fs gl _ _ _).mono ?_;rintro _ st ⟨rfl,rfl⟩;simp only[go_sem,zE,zB,zA,zM,zS,zL,reduceCtorEq,fits,yQ1,yQ7,ord3,ord4,yQj,decide_true,fits])
  | (refine (s_sq gl _ _ _ _ _).mono ?_;rintro _ st ⟨rfl,rfl⟩;simp only[go_sem,zE,zB,zA,zM,zS,zL,reduceCtorEq,fits,yQ1,yQ7,ord3,ord4,yQj,decide_true,fits])
  | (refine (yUo gl _ _ _ _ _ _ _ _ _ _ _ _ _ _).mono ?_;rintro _ st ⟨rfl,rfl⟩;simp only[go_sem,zE,zB,zA,zM,zS,zL,reduceCtorEq,fits,yQ1,yQ7,ord3,ord4,yQj,decide_true,fits]))
 have hUx:=λst=>wJk gl G T xmX (trJ xmX) (zVn xmX (by decide)) (by decide) (by decide) st;rw[vXq] at hUx;refine (hUx _).mono ?_;rintro _ st ⟨⟨xx,rfl,hxx⟩,rfl⟩;have hSx:=λw hw st=>zZf gl xmY xx w hxx hw (by decide) st;obtain⟨rule4,tl4,xl4,tr4,xr4,op4,fn4,ta4,xa4,tb4,xb4,v4',un4,tu4,xu4,nn4,ts4,xs4,rfl⟩:=yK4 hxx;have hz1:IntKind.i64.wrap ((0:Int)+((0:Nat):Int))=0:=rfl;have hz2:IntKind.i64.wrap (((0:Nat):Int)+((0:Nat):Int))=0:=rfl;have hz3:IntKind.i64.wrap ((0:Int)+(0:Int))=0:=rfl;simp only[go_sem,zE,zB,zA,zM,zS,zL,reduceCtorEq,fits,yQ1,yQ7,ord3,ord4,yQj,decide_true,hz1,hz2,hz3];refine (hSa (trJ xmW) (zVn xmW (by decide)) _).mono ?_;rintro _ st ⟨rfl,rfl⟩;simp only[go_sem,zE,zB,zA,zM,zS,zL,reduceCtorEq,fits,yQ1,yQ7,ord3,ord4,yQj,decide_true,hz1,hz2,hz3];refine (hSu (trJ xmV) (zVn xmV (by decide)) _).mono ?_;rintro _ st ⟨rfl,rfl⟩;simp only[go_sem,zE,zB,zA,zM,zS,zL,reduceCtorEq,fits,yQ1,yQ7,ord3,ord4,yQj,decide_true,hz1,hz2,hz3]
 repeat (first
  | (refine (s_p gl _ _).mono ?_;rintro _ st ⟨rfl,rfl⟩;simp only[go_sem,zE,zB,zA,zM,zS,zL,reduceCtorEq,fits,yQ1,yQ7,ord3,ord4,yQj,decide_true,fits])
  | (refine (s_of gl _ _ _ _).mono ?_;rintro _ st ⟨rfl,rfl⟩;simp only[go_sem,zE,zB,zA,zM,zS,zL,reduceCtorEq,fits,yQ1,yQ7,ord3,ord4,yQj,decide_true,fits])
  | (refine (s_fs gl _ _ _).mono ?_;rintro _ st ⟨rfl,rfl⟩;simp only[go_sem,zE,zB,zA,zM,zS,zL,reduceCtorEq,fits,yQ1,yQ7,ord3,ord4,yQj,decide_true,fits])
  | (refine (s_sq gl _ _ _ _ _).mono ?_;rintro _ st ⟨rfl,rfl⟩;simp only[go_sem,zE,zB,zA,zM,zS,zL,reduceCtorEq,fits,yQ1,yQ7,ord3,ord4,yQj,decide_true,fits])
  | (refine (yUo gl _ _ _ _ _ _ _ _ _ _ _ _ _ _).mono ?_;rintro _ st ⟨rfl,rfl⟩;simp only[go_sem,zE,zB,zA,zM,zS,zL,reduceCtorEq,fits,yQ1,yQ7,ord3,ord4,yQj,decide_true,fits]))
 refine (hSx (trJ xmY) (zVn xmY (by decide)) _).mono ?_;rintro _ st ⟨rfl,rfl⟩;simp only[go_sem,zE,zB,zA,zM,zS,zL,reduceCtorEq,fits,yQ1,yQ7,ord3,ord4,yQj,decide_true,hz1,hz2,hz3];have hBr:=ICall.borrow (st:=st) (args:=[.agg [.raw (.bool false),.raw (.int .i64 0),.raw (.int .u8 o),.raw (.string n),.raw v4,.raw v5,.raw (.bool false),.raw (.int .i64 0),.raw (.slice (some ⟨g1,0,none⟩) 1 c1)]]) (K:=λr=>r=.raw (.int .i64 (1:Nat))) hfl1 ⟨_,_,rfl,.inr ⟨z,hOy,rfl⟩,rfl⟩
  ((xGq gl (n1 false) (age z) hz.aged (by decide) (yVs st)).mono λr st' ⟨h1,h2⟩=>⟨h2,by rw[h1];trivial,h1⟩)
 refine hBr.mono ?_;rintro _ st ⟨rfl,rfl⟩;have d1:decide (((1:Nat):Int)=1)=true:=rfl;have d0:(0:Int).toNat=0:=rfl;have hst2:zZv (st.put g2 (some (.box (.raw (.bool true)::.raw (.int .i64 0)::.raw (.int .u8 o3)::.raw (.string m3)::.raw u4::.raw u5::.raw (.bool true)::.raw (.int .i64 0)::.raw u8::q2)))):=λb o hb=>by
  rw[ISt.put_apply] at hb;split at hb
  ·cases hb;intro x hx;rcases List.mem_cons.1 hx with rfl|hx
   ·trivial
   ·exact hfl1 g2 _ hN2 x (List.mem_cons_of_mem _ hx)
  ·exact hfl1 b o hb
 have hSN:=λ(w:IV) (hw:IsNd (n1 true) w)=>ICall.borrow (P:=prog) (gl:=gl) (f:=39) (args:=[w,.agg [.raw (.bool false),.raw (.int .i64 0),.raw (.int .u8 o),.raw (.string n),.raw v4,.raw v5,.raw (.bool false),.raw (.int .i64 0),.raw (.slice (some ⟨g1,0,none⟩) 1 c1)]]) (args':=[w,age z']) (K:=λr=>r=.raw (.bool true)) hst2 ⟨_,_,rfl,.inl rfl,_,_,rfl,.inr ⟨z',hO',rfl⟩,rfl⟩ ((zWz gl (n1 true) w (age z') hw hz'.aged (by decide) (yVs _)).mono λr st' ⟨h1,h2⟩=>⟨h2,by rw[h1];trivial,h1⟩);simp only[go_sem,zE,zB,zA,zM,zS,zL,reduceCtorEq,fits,yQ1,yQ7,ord3,ord4,yQj,decide_true,d1,d0,hN1,hN2];rw[if_pos (by decide),if_pos (by decide)];refine (hSN _ hm).mono ?_;rintro _ _ ⟨rfl,rfl⟩;simp only[go_sem,zE,zB,zA,zM,zS,zL,reduceCtorEq,fits,ISt.put_same];exact yQd (λb o hb=>by rw[h0] at hb;cases hb) ⟨rfl,rfl⟩
end Go.Proofs.Tryz
namespace Go.Proofs.Tryz
open Go Go.Iv
set_option maxRecDepth 8000
variable (gl:Nat->Option IV)
def xmB:Fm:=.mk 10 ⟨#[]⟩ [] [xmP]
def xmU:Fm:=.mk 1 ⟨#[79,116,104,101,114]⟩ [] []
def xmUU:Fm:=.mk 3 ⟨#[]⟩ [] [.mk 3 ⟨#[]⟩ [] [xmU]]
def badN (n:Nd):Nd:=.mk ⟨true,0,xmUU⟩ false 0 [n]
def yKg (t:Tr):Tr:=.mk 3 ⟨[],[]⟩ xmN xmT ⟨#[]⟩ [t]
def axTr:Tr:=.mk 1 ⟨[xmP],[xmP]⟩ xmP xmT ⟨#[]⟩ []
def wVr:Tr:=.mk 17 ⟨[xmP],[xmP]⟩ xmP xmT ⟨#[]⟩ [axTr,axTr]
def longTr:Tr:=.mk 1 ⟨List.replicate 17 xmP,[xmP]⟩ xmP xmT ⟨#[]⟩ []
theorem wK7 (r:List Fm)(n:Nd):zZe ⟨[],r⟩ (badN n)=(tr0,230):=by
 have h:(yG2 ⟨[],r⟩ (badN n)).2≠0:=λh=>by
  obtain⟨_,_,h3⟩:=zKz h;rw[badN,yX9] at h3;have hw0:yGm (yZf ⟨[],r⟩) ⟨true,0,xmUU⟩ false 0 [n].length=0:=by
   split at h3
   ·rename_i h';exact absurd h3 h'
   ·rename_i h';simpa using h'
  obtain⟨hm,_⟩:=yKy hw0;rcases (yKa.1 hm).2 with h|h
  ·cases h.2
  ·cases h.1
 rw[zZe,if_pos h]
theorem wK6:zZe ⟨[xmB],[xmB]⟩ (.mk ⟨true,0,xmB⟩ true 0 [])=(tr0,230):=rfl
theorem zXv (t:Tr):(yXb 1 (yKg t)).2≠0:=λh=>by
 obtain⟨_,_,h2⟩:=zY1.1 h;simp only[yKg,xQ7,bAt,dTe] at h2;obtain⟨_,r,hr,_,_,hl,_⟩:=xUl h2.1 (by decide);obtain rfl:(⟨true,false,3,0⟩:Rw)=r:=Option.some.inj hr;cases hl rfl
theorem xYf (t:Tr):yWh (yKg t)=(nd0,231):=by rw[yWh,if_pos (.inl (zXv t))]
theorem xWo (t:Tr):zX4 (yKg t)=(tr0,231):=by rw[zX4,if_pos (zXv t)]
theorem wV2:yWh wVr=(nd0,231):=by rw[yWh,if_pos (.inr (by decide))]
theorem xUk:yK5 1 ⟨List.replicate 17 xmP,[xmP]⟩ 1 xmP xmT ⟨#[]⟩=([],0):=zY4 (r:=⟨true,true,0,0⟩) (xGv (by decide)) rfl (by rfl) (λ_=>xHas (by simp) (by decide)) (λ_=>xHas (by simp) (by decide)) (by decide)
theorem xGd:yXb 1 longTr=([],0):=by
 have h2:yXq 1 longTr=0:=zXu xUk rfl rfl;unfold yXb;rw[show longTr.walk []=[([],longTr)] from rfl];simp only[yZi,h2,if_true];rfl
theorem wQq:yWh longTr=(nd0,2):=by
 rw[yWh,if_neg (by rw[xGd];decide),if_pos (by decide)]
theorem zQi {y:IV}(h:IsTr tr0 y):∃(tl:Tag) (xl:List IV) (tr:Tag) (xr:List IV) (op:Int) (fn:ByteArray) (ta:Tag) (xa:List IV) (tb:Tag) (xb:List IV) (v:Bool) (un:ByteArray) (tu:Tag) (xu:List IV) (n:ByteArray) (ts:Tag),
  y=.agg [.raw (.int .u8 0),.sl tl xl,.sl tr xr,.raw (.int .u8 op),.raw (.string fn),.sl ta xa,.sl tb xb,.raw (.bool v),.raw (.string un),.sl tu xu,.raw (.string n),.sl ts []]:=by
 simp only[tr0,IsTr] at h;obtain⟨tl',xl',tr',xr',op,fn,ta,xa,tb,xb,v,un,tu,xu,ts,xs,rfl,hr,_,_,_,_,_,_,e3,i3⟩:=h;obtain rfl:xs=[]:=by simpa only[IsTrs] using i3
 exact⟨_,_,_,_,_,_,_,_,_,_,_,_,_,_,_,_,rfl⟩
theorem zJu {y:IV}(h:IsNd nd0 y):∃(b:Bool) (w:Int) (o:Int) (n:ByteArray) (t:Tag) (xs:List IV) (t':Tag) (ys:List IV) (c:Bool) (w':Int) (tn:Tag),
  y=.agg [.raw (.bool b),.raw (.int .i64 w),.raw (.int .u8 o),.raw (.string n),.sl t xs,.sl t' ys,.raw (.bool c),.raw (.int .i64 w'),.sl tn []]:=by
 simp only[nd0,IsNd] at h;obtain⟨o,n,t1,x1,t2,x2,tn,zs,rfl,_,_,hzs⟩:=h;obtain rfl:zs=[]:=by simpa only[IsNds] using hzs
 exact⟨_,_,_,_,_,_,_,_,_,_,_,rfl⟩
theorem xQn {f:Fm}{x:IV}(h:IsFm f x):∀k,IsFms (List.replicate k f) (List.replicate k x)
 | 0=>rfl
 | k+1=>⟨x,List.replicate k x,rfl,h,xQn h k⟩
theorem xZg (G:Gl gl)(T:Gt gl)(hgl:∀g x,gl g=some x->age x=x)(s:Sq)(x:IV)(hx:IsSq s x)(hw:wFms s.l<=1099511627776/\wFms s.r<=1099511627776)(n:Nd)(z:IV)(hz:IsNd n z)(hwn:wNd n<=1099511627776)
  (t:Tr) (y:IV) (hy:IsTr t y) (hwt:wTr t<=1099511627776) (st:ISt) (h0:∀b,st b=none) :
  ICall prog gl 5 [x,z,y] st (λr st'=>r=.raw (.bool true)/\st'=st):=by
 have hA:=wKl gl G T hgl st h0;have hfew:=λst=>vZ5 gl s x hx hw st;have hsm:=λst=>wWg gl n z hz hwn st;have hsq:=λst=>wWf gl t y hy hwt st;have hz0:=hz;have hy0:=hy;obtain⟨tl,xl,tr,xr,rfl,e1,i1,e2,i2⟩:=hx;obtain⟨v1,w1,o1,k1,t1,y1,t2,y2,c1,w2,t3,y3,rfl⟩:=yKp hz;obtain⟨rule',tl',xl',tr1',xr',op',fn',ta',xa',tb',xb',v',un',tu',xu',n',ts2,xs2,rfl⟩:=yK4 hy;clear hz hy;refine ICall.intro (c:=cf prog gl [] [(7,[6,7,9,0,1,2,3,4,5,8,10]),(8,[0,1,3,8,2,4,5,6,7,9,10]),(9,[0,1,3,4,7,8,9,14,2,5,6,10,11,12,13,15,16]),(10,[0,1,4,5,7,2,3,6,8]),(13,[0,1,2,4,5,9,3,6,7,8,10]),(14,[0,1,2,4,5,8,9,10,16,3,6,7,11,12,13,14,15,17,18]),(20,[0,1,2,3,11,4,5,6,7,8,9,10,12,13])]) func5 rfl (by show _<=193;simp) (by kernel_rfl) ?_;simp only[go_sem,zE,zB,zA,zM,zS,zL,reduceCtorEq,fits];refine hA.mono ?_;rintro _ st ⟨rfl,rfl⟩;simp only[go_sem,zE,zB,zA,zM,zS,zL,reduceCtorEq,fits];refine (hfew _).mono ?_;rintro _ st ⟨rfl,rfl⟩;cases q1:decide (wFms s.l+wFms s.r<=300)
 ·simp only[go_sem,zE,zB,zA,zM,zS,zL,reduceCtorEq,fits,q1];exact yQ0 ⟨rfl,rfl⟩
 simp only[go_sem,zE,zB,zA,zM,zS,zL,reduceCtorEq,fits,q1];refine (hsm _).mono ?_;rintro _ st ⟨rfl,rfl⟩;cases q2:(okN n&&decide (n.nodes<=60))
 ·simp only[go_sem,zE,zB,zA,zM,zS,zL,reduceCtorEq,fits,q2];exact yQ0 ⟨rfl,rfl⟩
 simp only[go_sem,zE,zB,zA,zM,zS,zL,reduceCtorEq,fits,q2];refine (hsq _).mono ?_;rintro _ st ⟨rfl,rfl⟩;cases q3:(okT t&&decide (t.steps<=60))
 ·simp only[go_sem,zE,zB,zA,zM,zS,zL,reduceCtorEq,fits,q3];exact yQ0 ⟨rfl,rfl⟩
 have hw3:wFms s.l+wFms s.r<=300:=of_decide_eq_true q1;have hn:n.nodes<=60:=by
  rw[bAt,dTe] at q2;exact q2.2
 obtain⟨hok,hst⟩:okT t=true/\t.steps<=60:=by
  rw[bAt,dTe] at q3;exact q3
 simp only[go_sem,zE,zB,zA,zM,zS,zL,reduceCtorEq,fits,q3]
 repeat (first
  | (refine (s_p gl _ _).mono ?_;rintro _ st ⟨rfl,rfl⟩;simp only[go_sem,zE,zB,zA,zM,zS,zL,reduceCtorEq,fits,yQ1,yQ7,ord3,ord4,yQj,decide_true,fits])
  | (refine (s_of gl _ _ _ _).mono ?_;rintro _ st ⟨rfl,rfl⟩;simp only[go_sem,zE,zB,zA,zM,zS,zL,reduceCtorEq,fits,yQ1,yQ7,ord3,ord4,yQj,decide_true,fits])
  | (refine (s_fs gl _ _ _).mono ?_;rintro _ st ⟨rfl,rfl⟩;simp only[go_sem,zE,zB,zA,zM,zS,zL,reduceCtorEq,fits,yQ1,yQ7,ord3,ord4,yQj,decide_true,fits])
  | (refine (s_sq gl _ _ _ _ _).mono ?_;rintro _ st ⟨rfl,rfl⟩;simp only[go_sem,zE,zB,zA,zM,zS,zL,reduceCtorEq,fits,yQ1,yQ7,ord3,ord4,yQj,decide_true,fits])
  | (refine (yUo gl _ _ _ _ _ _ _ _ _ _ _ _ _ _).mono ?_;rintro _ st ⟨rfl,rfl⟩;simp only[go_sem,zE,zB,zA,zM,zS,zL,reduceCtorEq,fits,yQ1,yQ7,ord3,ord4,yQj,decide_true,fits]))
 have hb:=hz0;have hbad:IsNd (badN n) (.agg [.raw (.bool true),.raw (.int .i64 0),.raw (.int .u8 3),.raw (.string ⟨#[]⟩),.sl ⟨true,.nil,0⟩ [],.sl ⟨true,.full,4⟩ [fmI (.mk 3 ⟨#[]⟩ [] [xmU])],.raw (.bool false),.raw (.int .i64 0),.sl ⟨true,.full,9⟩ [.agg [.raw (.bool v1),.raw (.int .i64 w1),.raw (.int .u8 o1),.raw (.string k1),.sl t1 y1,.sl t2 y2,.raw (.bool c1),.raw (.int .i64 w2),.sl t3 y3]]]):=by
  simp only[badN,IsNd,IsNds];exact⟨_,_,_,_,_,_,_,_,rfl,zWk xmUU (by decide),.inr rfl,_,_,rfl,hb,rfl⟩
 have hT1:=λst=>wJl gl G ⟨[],s.r⟩ (.agg [.sl ⟨true,.nil,0⟩ [],.sl tr xr]) ⟨_,_,_,_,rfl,.inl rfl,rfl,e2,i2⟩ (by simp only[wFms];omega) (badN n) _ hbad (by simp only[badN,Nd.nodes,yQk];omega) st;rw[wK7] at hT1;refine (hT1 _).mono ?_;rintro _ st ⟨⟨r1,rfl,hr1,_⟩,rfl⟩;have hs1:=hr1;obtain⟨_,_,_,_,_,_,_,_,_,_,_,_,_,_,_,_,rfl⟩:=zQi hr1;clear hT1 hr1;simp only[go_sem,zE,zB,zA,zM,zS,zL,reduceCtorEq,fits,yQ1,yQ7,ord3,ord4,yQj,decide_true]
 repeat (first
  | (refine (s_p gl _ _).mono ?_;rintro _ st ⟨rfl,rfl⟩;simp only[go_sem,zE,zB,zA,zM,zS,zL,reduceCtorEq,fits,yQ1,yQ7,ord3,ord4,yQj,decide_true,fits])
  | (refine (s_of gl _ _ _ _).mono ?_;rintro _ st ⟨rfl,rfl⟩;simp only[go_sem,zE,zB,zA,zM,zS,zL,reduceCtorEq,fits,yQ1,yQ7,ord3,ord4,yQj,decide_true,fits])
  | (refine (s_fs gl _ _ _).mono ?_;rintro _ st ⟨rfl,rfl⟩;simp only[go_sem,zE,zB,zA,zM,zS,zL,reduceCtorEq,fits,yQ1,yQ7,ord3,ord4,yQj,decide_true,fits])
  | (refine (s_sq gl _ _ _ _ _).mono ?_;rintro _ st ⟨rfl,rfl⟩;simp only[go_sem,zE,zB,zA,zM,zS,zL,reduceCtorEq,fits,yQ1,yQ7,ord3,ord4,yQj,decide_true,fits])
  | (refine (yUo gl _ _ _ _ _ _ _ _ _ _ _ _ _ _).mono ?_;rintro _ st ⟨rfl,rfl⟩;simp only[go_sem,zE,zB,zA,zM,zS,zL,reduceCtorEq,fits,yQ1,yQ7,ord3,ord4,yQj,decide_true,fits]))
 have hbx:IsNd (.mk ⟨true,0,xmB⟩ true 0 []) (.agg [.raw (.bool true),.raw (.int .i64 0),.raw (.int .u8 10),.raw (.string ⟨#[]⟩),.sl ⟨true,.nil,0⟩ [],.sl ⟨true,.full,4⟩ [fmI xmP],.raw (.bool true),.raw (.int .i64 0),.sl ⟨true,.nil,0⟩ []]):=by
  simp only[IsNd,IsNds];exact⟨_,_,_,_,_,_,_,_,rfl,zWk xmB (by decide),.inl rfl,rfl⟩
 have hT2:=λst=>wJl gl G ⟨[xmB],[xmB]⟩ (sqI ⟨[xmB],[xmB]⟩) (xUo _ (by decide)) (by decide) (.mk ⟨true,0,xmB⟩ true 0 []) _ hbx (by decide) st;rw[wK6] at hT2;refine (hT2 _).mono ?_;rintro _ st ⟨⟨r2,rfl,hr2,_⟩,rfl⟩;have hs2:=hr2;obtain⟨_,_,_,_,_,_,_,_,_,_,_,_,_,_,_,_,rfl⟩:=zQi hr2;clear hT2 hr2;simp only[go_sem,zE,zB,zA,zM,zS,zL,reduceCtorEq,fits,yQ1,yQ7,ord3,ord4,yQj,decide_true]
 repeat (first
  | (refine (s_p gl _ _).mono ?_;rintro _ st ⟨rfl,rfl⟩;simp only[go_sem,zE,zB,zA,zM,zS,zL,reduceCtorEq,fits,yQ1,yQ7,ord3,ord4,yQj,decide_true,fits])
  | (refine (s_of gl _ _ _ _).mono ?_;rintro _ st ⟨rfl,rfl⟩;simp only[go_sem,zE,zB,zA,zM,zS,zL,reduceCtorEq,fits,yQ1,yQ7,ord3,ord4,yQj,decide_true,fits])
  | (refine (s_fs gl _ _ _).mono ?_;rintro _ st ⟨rfl,rfl⟩;simp only[go_sem,zE,zB,zA,zM,zS,zL,reduceCtorEq,fits,yQ1,yQ7,ord3,ord4,yQj,decide_true,fits])
  | (refine (s_sq gl _ _ _ _ _).mono ?_;rintro _ st ⟨rfl,rfl⟩;simp only[go_sem,zE,zB,zA,zM,zS,zL,reduceCtorEq,fits,yQ1,yQ7,ord3,ord4,yQj,decide_true,fits])
  | (refine (yUo gl _ _ _ _ _ _ _ _ _ _ _ _ _ _).mono ?_;rintro _ st ⟨rfl,rfl⟩;simp only[go_sem,zE,zB,zA,zM,zS,zL,reduceCtorEq,fits,yQ1,yQ7,ord3,ord4,yQj,decide_true,fits]))
 have hwr:IsTr (yKg t) (.agg [.raw (.int .u8 3),.sl ⟨true,.nil,0⟩ [],.sl ⟨true,.nil,0⟩ [],.raw (.int .u8 3),.raw (.string ⟨#[]⟩),.sl ⟨true,.nil,0⟩ [],.sl ⟨true,.full,4⟩ [fmI xmP],.raw (.bool false),.raw (.string ⟨#[]⟩),.sl ⟨true,.nil,0⟩ [],.raw (.string ⟨#[]⟩),.sl ⟨true,.full,12⟩ [.agg [.raw (.int .u8 rule'),.sl tl' xl',.sl tr1' xr',.raw (.int .u8 op'),.raw (.string fn'),.sl ta' xa',.sl tb' xb',.raw (.bool v'),.raw (.string un'),.sl tu' xu',.raw (.string n'),.sl ts2 xs2]]]):=by
  simp only[yKg,IsTr,IsTrs];exact⟨_,_,_,_,_,_,_,_,_,_,_,_,_,_,_,_,rfl,by decide,.inl rfl,rfl,.inl rfl,rfl,zWk xmN (by decide),⟨_,_,rfl,.inl rfl,rfl⟩,.inr rfl,_,_,rfl,hy0,rfl⟩
 have hwok:okT (yKg t)=true:=by
  simp only[yKg,okT,okTs,hok,Bool.and_true];decide
 have hN1:=λst=>xWg gl G T (yKg t) _ hwr hwok (by simp only[yKg,Tr.steps,yQp];omega) st;have hU1:=λst=>wJk gl G T (yKg t) _ hwr hwok (by simp only[yKg,Tr.steps,yQp];omega) st;rw[xYf] at hN1;rw[xWo] at hU1;refine (hN1 _).mono ?_;rintro _ st ⟨⟨r3,rfl,hr3⟩,rfl⟩;have hs3:=hr3;obtain⟨_,_,_,_,_,_,_,_,_,_,_,rfl⟩:=zJu hr3;clear hN1 hr3;simp only[go_sem,zE,zB,zA,zM,zS,zL,reduceCtorEq,fits,yQ1,yQ7,ord3,ord4,yQj,decide_true];refine (hU1 _).mono ?_;rintro _ st ⟨⟨r4,rfl,hr4⟩,rfl⟩;have hs4:=hr4;obtain⟨_,_,_,_,_,_,_,_,_,_,_,_,_,_,_,_,rfl⟩:=zQi hr4;clear hU1 hr4;simp only[go_sem,zE,zB,zA,zM,zS,zL,reduceCtorEq,fits,yQ1,yQ7,ord3,ord4,yQj,decide_true]
 repeat (first
  | (refine (s_p gl _ _).mono ?_;rintro _ st ⟨rfl,rfl⟩;simp only[go_sem,zE,zB,zA,zM,zS,zL,reduceCtorEq,fits,yQ1,yQ7,ord3,ord4,yQj,decide_true,fits])
  | (refine (s_of gl _ _ _ _).mono ?_;rintro _ st ⟨rfl,rfl⟩;simp only[go_sem,zE,zB,zA,zM,zS,zL,reduceCtorEq,fits,yQ1,yQ7,ord3,ord4,yQj,decide_true,fits])
  | (refine (s_fs gl _ _ _).mono ?_;rintro _ st ⟨rfl,rfl⟩;simp only[go_sem,zE,zB,zA,zM,zS,zL,reduceCtorEq,fits,yQ1,yQ7,ord3,ord4,yQj,decide_true,fits])
  | (refine (s_sq gl _ _ _ _ _).mono ?_;rintro _ st ⟨rfl,rfl⟩;simp only[go_sem,zE,zB,zA,zM,zS,zL,reduceCtorEq,fits,yQ1,yQ7,ord3,ord4,yQj,decide_true,fits])
  | (refine (yUo gl _ _ _ _ _ _ _ _ _ _ _ _ _ _).mono ?_;rintro _ st ⟨rfl,rfl⟩;simp only[go_sem,zE,zB,zA,zM,zS,zL,reduceCtorEq,fits,yQ1,yQ7,ord3,ord4,yQj,decide_true,fits]))
 have hN2:=λst=>xWg gl G T wVr (trJ wVr) (zVn wVr (by decide)) (by decide) (by decide) st;rw[wV2] at hN2;refine (hN2 _).mono ?_;rintro _ st ⟨⟨r5,rfl,hr5⟩,rfl⟩;have hs5:=hr5;obtain⟨_,_,_,_,_,_,_,_,_,_,_,rfl⟩:=zJu hr5;clear hN2 hr5;simp only[go_sem,zE,zB,zA,zM,zS,zL,reduceCtorEq,fits,yQ1,yQ7,ord3,ord4,yQj,decide_true];refine LoopC.ctr 17 (λk fr st' ds=>(∃tg,fr 22=.iv (.sl tg (List.replicate k (fmI xmP)))/\own st' tg k 4 st/\subSt st st')/\fr 7=.box [.raw (.int .u8 1),.raw (.string ⟨#[80]⟩),.sl ⟨true,.nil,0⟩ [],.sl ⟨true,.nil,0⟩ []]/\(∃B,fr 10=.box B/\IsTr tr0 (.agg B))/\fr 11=.iv (.raw (.int .i64 (230:Nat)))/\(∃B,fr 12=.box B/\IsTr tr0 (.agg B))/\fr 13=.iv (.raw (.int .i64 (230:Nat)))/\(∃B,fr 15=.box B/\IsNd nd0 (.agg B))/\fr 16=.iv (.raw (.int .i64 (231:Nat)))/\(∃B,fr 17=.box B/\IsTr tr0 (.agg B))/\fr 18=.iv (.raw (.int .i64 (231:Nat)))/\(∃B,fr 20=.box B/\IsNd nd0 (.agg B))/\fr 21=.iv (.raw (.int .i64 (231:Nat)))/\fr 117=.iv (.raw (.int .i64 k))/\ds=[]) ?_ ?_ ?_
 ·simp only[go_sem,zE,zB,zA,zM,zS,zL,reduceCtorEq];exact⟨⟨_,rfl,.inl ⟨rfl,rfl⟩,subSt.refl _⟩,⟨_,rfl,hs1⟩,⟨_,rfl,hs2⟩,⟨_,rfl,hs3⟩,⟨_,rfl,hs4⟩,⟨_,rfl,hs5⟩,rfl⟩
 ·rintro k fr st1 _ hlt ⟨⟨tg,f22,hown,hsub⟩,f7,⟨B1,f10,k1'⟩,f11,⟨B2,f12,k2'⟩,f13,⟨B3,f15,k3'⟩,f16,⟨B4,f17,k4'⟩,f18,⟨B5,f20,k5'⟩,f21,f117,rfl⟩;have hlk:decide ((k:Int)<17)=true:=dEt (by omega);have hwk:IntKind.i64.wrap ((k:Int)+1)=((k+1:Nat):Int):=by rw[w64]<;>omega
  simp only[go_sem,zE,zB,zA,zM,zS,zL,reduceCtorEq,f22,f7,f117,hlk,fits,yQ1];refine yXw hown (by simp) hsub rfl (by simp[fits,IV.one]) (by simp only;omega) (by omega) λtg3 st5 hown3 hsub5 _=>?_;simp only[go_sem,zE,zB,zA,zM,zS,zL,reduceCtorEq,f22,f7,f117,f10,f11,f12,f13,f15,f16,f17,f18,f20,f21,fits,hwk];exact⟨⟨tg3,by rw[List.replicate_succ'];rfl,hown3,hsub5⟩,⟨_,rfl,k1'⟩,⟨_,rfl,k2'⟩,⟨_,rfl,k3'⟩,⟨_,rfl,k4'⟩,⟨_,rfl,k5'⟩⟩
 ·rintro fr st1 _ ⟨⟨tg,f22,hown,hsub⟩,f7,⟨B1,f10,k1'⟩,f11,⟨B2,f12,k2'⟩,f13,⟨B3,f15,k3'⟩,f16,⟨B4,f17,k4'⟩,f18,⟨B5,f20,k5'⟩,f21,f117,rfl⟩;obtain⟨_,_,_,_,_,_,_,_,_,_,_,_,_,_,_,_,hB⟩:=zQi k1';obtain rfl:=IV.agg.inj hB;obtain⟨_,_,_,_,_,_,_,_,_,_,_,_,_,_,_,_,hB⟩:=zQi k2';obtain rfl:=IV.agg.inj hB;obtain⟨_,_,_,_,_,_,_,_,_,_,_,hB⟩:=zJu k3';obtain rfl:=IV.agg.inj hB;obtain⟨_,_,_,_,_,_,_,_,_,_,_,_,_,_,_,_,hB⟩:=zQi k4';obtain rfl:=IV.agg.inj hB;obtain⟨_,_,_,_,_,_,_,_,_,_,_,hB⟩:=zJu k5';obtain rfl:=IV.agg.inj hB;have d17:decide (((17:Nat):Int)<17)=false:=rfl;simp only[go_sem,zE,zB,zA,zM,zS,zL,reduceCtorEq,f22,f7,f117,f10,f11,f12,f13,f15,f16,f17,f18,f20,f21,d17,fits,yQ1,yQ7,ord3,ord4,yQj,decide_true]
  repeat (first
   | (refine (s_p gl _ _).mono ?_;rintro _ st ⟨rfl,rfl⟩;simp only[go_sem,zE,zB,zA,zM,zS,zL,reduceCtorEq,fits,yQ1,yQ7,ord3,ord4,yQj,decide_true,fits])
   | (refine (s_of gl _ _ _ _).mono ?_;rintro _ st ⟨rfl,rfl⟩;simp only[go_sem,zE,zB,zA,zM,zS,zL,reduceCtorEq,fits,yQ1,yQ7,ord3,ord4,yQj,decide_true,fits])
   | (refine (s_fs gl _ _ _).mono ?_;rintro _ st ⟨rfl,rfl⟩;simp only[go_sem,zE,zB,zA,zM,zS,zL,reduceCtorEq,fits,yQ1,yQ7,ord3,ord4,yQj,decide_true,fits])
   | (refine (s_sq gl _ _ _ _ _).mono ?_;rintro _ st ⟨rfl,rfl⟩;simp only[go_sem,zE,zB,zA,zM,zS,zL,reduceCtorEq,fits,yQ1,yQ7,ord3,ord4,yQj,decide_true,fits])
   | (refine (yUo gl _ _ _ _ _ _ _ _ _ _ _ _ _ _).mono ?_;rintro _ st ⟨rfl,rfl⟩;simp only[go_sem,zE,zB,zA,zM,zS,zL,reduceCtorEq,fits,yQ1,yQ7,ord3,ord4,yQj,decide_true,fits]))
  have hlg:IsTr longTr (.agg [.raw (.int .u8 1),.sl tg (List.replicate 17 (fmI xmP)),.sl ⟨true,.full,4⟩ [fmI xmP],.raw (.int .u8 1),.raw (.string ⟨#[80]⟩),.sl ⟨true,.nil,0⟩ [],.sl ⟨true,.nil,0⟩ [],.raw (.bool false),.raw (.string ⟨#[]⟩),.sl ⟨true,.nil,0⟩ [],.raw (.string ⟨#[]⟩),.sl ⟨true,.nil,0⟩ []]):=by
   have hP:IsFm xmP (fmI xmP):=zWk xmP (by decide);simp only[longTr,IsTr];exact⟨_,_,_,_,_,_,_,_,_,_,_,_,_,_,_,_,rfl,by decide,hown.es,xQn hP 17,.inr rfl,⟨_,_,rfl,hP,rfl⟩,hP,⟨_,_,rfl,.inl rfl,rfl⟩,.inl rfl,rfl⟩
  have hN3:=λst=>xWg gl G T longTr _ hlg (by decide) (by decide) st;rw[wQq] at hN3;refine (hN3 _).mono ?_;rintro _ st ⟨⟨r6,rfl,hr6⟩,rfl⟩;obtain⟨_,_,_,_,_,_,_,_,_,_,_,rfl⟩:=zJu hr6;clear hN3 hr6;have z1:decide (((230:Nat):Int)=230)=true:=rfl;have z2:decide (((231:Nat):Int)=231)=true:=rfl;have z3:decide (((2:Nat):Int)=2)=true:=rfl;have z4:IntKind.u8.wrap ((0:Int)+0)=0:=rfl;have z5:IntKind.i64.wrap ((0:Int)+0)=0:=rfl;simp only[go_sem,zE,zB,zA,zM,zS,zL,reduceCtorEq,fits,yQ1,yQ7,ord3,ord4,yQj,decide_true,f10,f11,f12,f13,f15,f16,f17,f18,f20,f21,z1,z2,z3,z4,z5,List.length_nil,Int.natCast_zero];exact yQd hsub ⟨rfl,rfl⟩
end Go.Proofs.Tryz
namespace Go.Proofs.Tryz
open Go Go.Iv Go.ChangeShapes
open Go.Proofs.YtddfdpbibloljaaGreatDoor.Rows (uptoBulk uptoBulkAll)
set_option maxRecDepth 4000
theorem uSeq:prog.underlying 24=some (.struct #[⟨ "Left",22,0,false, "", "",0⟩,⟨ "Right",22,1,false, "", "",24⟩]):=by kernel_rfl
theorem vXu:prog.underlying 37=some (.struct #[⟨ "Rule",5,0,false, "", "",0⟩,⟨ "Seq",24,1,false, "", "",8⟩,⟨ "Main",27,3,false, "", "",56⟩,⟨ "Term",34,7,false, "", "",128⟩,⟨ "Name",9,10,false, "", "",176⟩,⟨ "Sub",35,11,false, "", "",192⟩]):=by kernel_rfl
theorem vXt:prog.underlying 35=some (.slice 37):=by kernel_rfl
theorem nSeq:prog.cellsOf 24=2:=by kernel_rfl
theorem vK0:prog.cellsOf 37=12:=by kernel_rfl
mutual
theorem xK2:∀t:Tm,wTm t<=2*xGe t
 | .mk _ n us=>by have:=zXx us;simp only[wTm,xGe];omega
theorem zXx:∀l:List Tm,wTms l<=2*yGu l
 | []=>Nat.le_refl _
 | a::l=>by have:=xK2 a;have:=zXx l;simp only[wTms,yGu];omega
end
mutual
theorem zY7:∀f:Fm,wFm f<=2*xGf f
 | .mk _ n us sub=>by have:=zXx us;have:=yUd sub;simp only[wFm,xGf];omega
theorem yUd:∀l:List Fm,wFms l<=2*zQe l
 | []=>Nat.le_refl _
 | a::l=>by have:=zY7 a;have:=yUd l;simp only[wFms,zQe];omega
end
section
variable {H:Type}{enc:TypeId×Value->H}{w:World}{spare:Nat->Bool}{held:Bool}
def RQ (d:DataW H)(s:Sq)(x:IV):Prop:=IsSq s x/\wFms s.l+wFms s.r<=2*uptoBulk d
theorem wY0 (fuel:Nat)(cs:List Value)(y:DataW H×List MemPlace)(h:DataW.trod enc prog w 0 spare held fuel 24 cs=some y)(hb:uptoBulk y.1<=1048576):∃s x,VL 0 (L0 w) w cs x.cells/\RQ y.1 s x:=by
 obtain⟨ys,n,rfl,rfl,hl,hlen,hf⟩:=DataW.trod_struct uSeq h
 match ys,hlen with
 | [y0,y1],_ =>
  rw[nSeq] at hl
  match cs,hl with
  | [c0,c1],_ =>
   have h0:=hf 0 _ rfl;have h1:=hf 1 _ rfl;simp only[List.getElem?_cons_zero,List.getElem?_cons_succ] at h0 h1;simp only[List.map_cons,List.map_nil,uptoBulk,uptoBulkAll] at hb;obtain⟨v0,tg0,xs0,l0,e0,hv0,ht0,hl0,hb0⟩:=zGd h0 (by omega) (λm _=>zGe m);obtain⟨v1,tg1,xs1,l1,e1,hv1,ht1,hl1,hb1⟩:=zGd h1 (by omega) (λm _=>zGe m);cases e0;cases e1;refine⟨⟨l0,l1⟩,.agg [.sl tg0 xs0,.sl tg1 xs1],VL.cons hv0 (VL.cons hv1 VL.nil),⟨tg0,xs0,tg1,xs1,rfl,ht0,hl0,ht1,hl1⟩,?_⟩;have:=yUd l0;have:=yUd l1;simp only[List.map_cons,List.map_nil,uptoBulk,uptoBulkAll];omega
theorem xQk:∀ {us:List Tr}{xs:List IV},us.length=xs.length->(∀(i:Nat)(a:Tr)(x:IV),us[i]?=some a->xs[i]?=some x->IsTr a x)->IsTrs us xs
 | [],xs,h,_=>by simpa[IsTrs] using h.symm
 | a::us,[],h,_=>by simp at h
 | a::us,x::xs,h,hh=>⟨x,xs,rfl,hh 0 a x rfl rfl,xQk (by simpa using h) (λi b y hb hy=>hh (i+1) b y (by simpa using hb) (by simpa using hy))⟩
theorem xK0:∀ {us:List Tr}{ds:List (DataW H)},us.length=ds.length->(∀(i:Nat)(a:Tr)(d:DataW H),us[i]?=some a->ds[i]?=some d->wTr a+a.steps<=2*uptoBulk d)->wTrs us+yQp us<=2*uptoBulkAll ds
 | [],ds,h,_=>by simp[wTrs,yQp]
 | a::us,[],h,_=>by simp at h
 | a::us,x::xs,h,hh=>by
  have h1:=hh 0 a x rfl rfl;have h2:=xK0 (us:=us) (ds:=xs) (by simpa using h) (λi b y hb hy=>hh (i+1) b y (by simpa using hb) (by simpa using hy));simp only[wTrs,yQp,uptoBulkAll];omega
def RR (d:DataW H)(t:Tr)(x:IV):Prop:=IsTr t x/\wTr t+t.steps<=2*uptoBulk d
theorem RR.cells {d:DataW H}{t:Tr}{x:IV}(h:RR d t x):x.cells.length=12:=by
 obtain⟨_,_,_,_,_,_,_,_,_,_,_,_,_,_,_,_,_,_,rfl⟩:=yK4 h.1;rfl
theorem wK4 {fuel:Nat}{cs:List Value}{y:DataW H×List MemPlace}(h:DataW.trod enc prog w 0 spare held fuel 35 cs=some y)(hb:uptoBulk y.1<=1048576)
  (IH:∀(n:Nat),n<fuel->∀(cs:List Value) (y:DataW H×List MemPlace),DataW.trod enc prog w 0 spare held n 37 cs=some y->uptoBulk y.1<=1048576->∃t x,VL 0 (L0 w) w cs x.cells/\RR y.1 t x) :
  ∃v tg xs ts,cs=[v]/\V 0 (L0 w) w v (.sl tg xs)/\okEs tg 12/\IsTrs ts xs/\wTrs ts+yQp ts+1<=2*uptoBulk y.1:=by
 obtain⟨v,tg,xs,ts,rfl,hv,htg,hl,hc⟩:=zYw (H:=H) (P:=prog) (d:=y.1) (p:=y.2) RR vXt vK0 (by decide) h (λelems sp e=>by
   have:=yJ3 elems sp;have:=yYo elems;rw[<- e] at *;omega) (λd t x h=>h.cells) (λn hn cs' z q ⟨elems,sp,he,hm⟩ hz=>by
   have:=yJ3 elems sp;have:=zJo hm;rw[he] at hb;exact IH n (by omega) cs' (z,q) hz (show uptoBulk z<=1048576 by omega))
 refine⟨v,tg,xs,ts,rfl,hv,htg,?_⟩;rcases hc with⟨hd,rfl⟩|⟨elems,sp,hd,hel,hr⟩
 ·obtain rfl:ts=[]:=List.length_eq_zero_iff.1 (by simpa using hl);exact⟨rfl,by rw[hd];simp[wTrs,yQp,uptoBulk]⟩
 ·have hi:∀(i:Nat) (a:Tr),ts[i]?=some a->∃x d,xs[i]?=some x/\elems[i]?=some d/\RR d a x:=λi a ha=>by
   have hi:=(lGs ha).1;exact⟨_,_,List.getElem?_eq_getElem (by omega),List.getElem?_eq_getElem (by omega),hr i _ _ _ (List.getElem?_eq_getElem (by omega)) ha (List.getElem?_eq_getElem (by omega))⟩
  refine⟨xQk hl (λi a x ha hx=>?_),?_⟩
  ·obtain⟨x',d,h1,h2,h3⟩:=hi i a ha;rw[hx] at h1;cases h1;exact h3.1
  ·have:=xK0 (us:=ts) (ds:=elems) (by omega) (λi a d ha hd'=>by
    obtain⟨x',d',h1,h2,h3⟩:=hi i a ha;rw[hd'] at h2;cases h2;exact h3.2)
   have:=yJ3 elems sp;grind
theorem cs12 {cs:List Value}(h:cs.length=12):∃a b c d e f g h i j k l,cs=[a,b,c,d,e,f,g,h,i,j,k,l]:=by
 match cs,h with
 | [a,b,c,d,e,f,g,h,i,j,k,l],_=>exact⟨a,b,c,d,e,f,g,h,i,j,k,l,rfl⟩
theorem wGg:∀(fuel:Nat)(cs:List Value)(y:DataW H×List MemPlace),DataW.trod enc prog w 0 spare held fuel 37 cs=some y->uptoBulk y.1<=1048576->∃t x,VL 0 (L0 w) w cs x.cells/\RR y.1 t x:=by
 intro fuel
 induction fuel using Nat.strongRecOn with
 | ind fuel IH =>
  intro cs y h hb;obtain⟨ys,n,rfl,rfl,hl,hlen,hf⟩:=DataW.trod_struct vXu h
  match ys,hlen with
  | [y0,y1,y2,y3,y4,y5],_ =>
   rw[vK0] at hl;obtain⟨c0,c1,c2,c3,c4,c5,c6,c7,c8,c9,c10,c11,rfl⟩:=cs12 hl;have h0:=hf 0 _ rfl;have h1:=hf 1 _ rfl;have h2:=hf 2 _ rfl;have h3:=hf 3 _ rfl;have h4:=hf 4 _ rfl;have h5:=hf 5 _ rfl;simp only[List.getElem?_cons_zero,List.getElem?_cons_succ] at h0 h1 h2 h3 h4 h5;simp only[List.map_cons,List.map_nil,uptoBulk,uptoBulkAll] at hb;obtain⟨op,e0,rfl,hop⟩:=DataW.trod_int uU8 h0;obtain⟨s,xs,hvs,hs1,hs2⟩:=wY0 n _ _ h1 (by omega);obtain⟨f,xf,hvf,hf1,hf2⟩:=zGe n _ _ h2 (by omega);obtain⟨t,xt,hvt,ht1,ht2⟩:=xUc n _ _ h3 (by omega);obtain⟨nm,e4,hn,hn2⟩:=xUi h4 (by omega);obtain⟨v,tg,xb,ts,e5,hv,htg,hts,hbk⟩:=wK4 h5 (by omega) (λm hm=>IH m (by omega));cases e0;cases e4;cases e5;have hop:0<=op/\op<256:=by
    simp only[Lit.wf,IntKind.min,IntKind.max,IntKind.signed,IntKind.bits,bAt] at hop;grind
   obtain⟨k,rfl⟩:=Int.eq_ofNat_of_zero_le hop.1;obtain⟨tl,xl,tr,xr,rfl,k1,k2,k3,k4⟩:=hs1;have hf0:=hf1;have ht0:=ht1;obtain⟨o,fn,us,sub⟩:=f;obtain⟨ta,xa,tb,xb',rfl,_⟩:=hf1.mk;obtain⟨b,un,uu⟩:=t;obtain⟨tu,xu,rfl,_⟩:=ht1.mk;refine⟨.mk k s (.mk o fn us sub) (.mk b un uu) nm ts,.agg [.raw (.int .u8 k),.sl tl xl,.sl tr xr,.raw (.int .u8 o),.raw (.string fn),.sl ta xa,.sl tb xb',.raw (.bool b),.raw (.string un),.sl tu xu,.raw (.string nm),.sl tg xb],
    VL.cons (.raw _ trivial) (hvs.append (hvf.append (hvt.append (VL.cons hn (VL.cons hv VL.nil))))),?_,?_⟩
   ·simp only[IsTr];grind
   ·have:=zY7 (.mk o fn us sub);have:=xK2 (.mk b un uu);simp only[List.map_cons,List.map_nil,uptoBulk,uptoBulkAll,wTr,Tr.steps];omega
end
end Go.Proofs.Tryz
namespace Go.Proofs.Tryz
open Go Go.Iv Go.ChangeShapes Go.RowKit
open Go.Proofs.YtddfdpbibloljaaGreatDoor
set_option maxRecDepth 8000
theorem uRow:prog.underlying 193=some (.struct #[⟨ "right",4,0,false, "", "lyceum/syntax",0⟩,⟨ "schema",4,1,false, "", "lyceum/syntax",1⟩,⟨ "name",5,2,false, "", "lyceum/syntax",2⟩,⟨ "args",3,3,false, "", "lyceum/syntax",8⟩,⟨ "subs",3,4,false, "", "lyceum/syntax",16⟩]):=by kernel_rfl
theorem uZ3:prog.underlying 194=some (.array 17 193):=by kernel_rfl
theorem uInt:prog.underlying 3=some (.int .i64):=by kernel_rfl
theorem nRow:prog.cellsOf 193=5:=by kernel_rfl
theorem uV8:prog.cellsOf 194=85:=by kernel_rfl
theorem nInt:prog.cellsOf 3=1:=by kernel_rfl
theorem gRows:prog.globalNamed "lyceum/syntax.rows" = some 0:=by kernel_rfl
theorem gRowsT:(prog.globals[0]?).map (·.type)=some 194:=by kernel_rfl
theorem gPow:prog.globalNamed "internal/strconv.uint64pow10" = some 2:=by kernel_rfl
theorem gPowT:(prog.globals[2]?).map (·.type)=some 318:=by kernel_rfl
theorem uPow:prog.underlying 318=some (.array 20 295):=by kernel_rfl
theorem uU64:prog.underlying 295=some (.int .u64):=by kernel_rfl
theorem nPow:prog.cellsOf 318=20:=by kernel_rfl
theorem nU64:prog.cellsOf 295=1:=by kernel_rfl
section
variable {H:Type}{enc:TypeId×Value->H}{w:World}{spare:Nat->Bool}{held:Bool}
def rowD (op:Nat):DataW H:=.agg [.lit (.bool (yZa op)),.lit (.bool (zJj op)),.lit (.int .u8 (yX7 op)),.lit (.int .i64 (yX4 op)),.lit (.int .i64 (yX3 op))]
def rowV (op:Nat):List Value:=[.bool (yZa op),.bool (zJj op),.int .u8 (yX7 op),.int .i64 (yX4 op),.int .i64 (yX3 op)]
theorem wQ8 {fuel:Nat}{cs:List Value}{op:Nat}{p:List MemPlace}(h:DataW.trod enc prog w 0 spare held fuel 193 cs=some (rowD op,p)):cs=rowV op:=by
 obtain⟨ys,n,rfl,he,hl,hlen,hf⟩:=DataW.trod_struct uRow h
 match ys,hlen with
 | [y0,y1,y2,y3,y4],_ =>
  rw[nRow] at hl
  match cs,hl with
  | [c0,c1,c2,c3,c4],_ =>
   have h0:=hf 0 _ rfl;have h1:=hf 1 _ rfl;have h2:=hf 2 _ rfl;have h3:=hf 3 _ rfl;have h4:=hf 4 _ rfl;simp only[List.getElem?_cons_zero,List.getElem?_cons_succ] at h0 h1 h2 h3 h4;obtain⟨b0,e0,rfl⟩:=DataW.trod_bool xZs h0;obtain⟨b1,e1,rfl⟩:=DataW.trod_bool xZs h1;obtain⟨b2,e2,rfl,_⟩:=DataW.trod_int uU8 h2;obtain⟨b3,e3,rfl,_⟩:=DataW.trod_int uInt h3;obtain⟨b4,e4,rfl,_⟩:=DataW.trod_int uInt h4;cases e0;cases e1;cases e2;cases e3;cases e4;have he1:=congrArg Prod.fst he;simp only[rowD,List.map_cons,List.map_nil,DataW.agg.injEq,List.cons.injEq,DataW.lit.injEq,Lit.bool.injEq,Lit.int.injEq,true_and,and_true] at he1;obtain⟨rfl,rfl,rfl,rfl,rfl⟩:=he1;rfl
theorem wQ7:(Rows.laid_lyceum_syntax_rows:DataW H)=.agg ((List.range 17).map rowD):=by rfl
theorem xY7 {fuel:Nat}{cs:List Value}{p:List MemPlace}(h:DataW.trod enc prog w 0 spare held fuel 194 cs=some (Rows.laid_lyceum_syntax_rows,p)) :
  cs.length=85/\∀op,op<17->(cs.drop (op*5)).take 5=rowV op:=by
 obtain⟨ys,n,rfl,he,hl,hlen,hf⟩:=DataW.trod_array uZ3 h;rw[uV8] at hl;refine⟨hl,λop hop=>?_⟩;have h1:=hf op hop;rw[nRow] at h1;have he1:=congrArg Prod.fst he;rw[wQ7] at he1;simp only[DataW.agg.injEq] at he1;have h2:(ys.map (·.1))[op]?=some (rowD op):=by
  rw[<- he1,List.getElem?_map,List.getElem?_range hop];rfl
 rw[List.getElem?_map] at h2;obtain⟨y,hy,hy2⟩:=Option.map_eq_some_iff.1 h2;rw[hy] at h1;obtain⟨y1,y2⟩:=y;simp only at hy2;subst hy2;exact wQ8 h1
end
def gl0:Nat->Option IV
 | 0=>some (.agg rowsL)
 | 2=>some (.agg pow10L)
 | _=>none
theorem G0:Gl gl0:=⟨rfl⟩
theorem T0:Gt gl0:=⟨rfl⟩
def X0 (w:World):WS:={ w:=w,L:=L0 w,st:=λ_=>none,d:=0 }
theorem xXh {cs:List Value}(hl:cs.length=85)(h:∀op,op<17->(cs.drop (op*5)).take 5=rowV op)(i:Nat)(r:Value)(c:IV)(hr:cs[i]?=some r)(hc:rowsL[i]?=some c):c=.raw r/\zQn r:=by
 have hi:i<85:=by have:=(lGs hr).1;omega
 have hop:i / 5<17:=by omega
 have e:i=i / 5*5+i%5:=by omega
 have hm:i%5<5:=Nat.mod_lt _ (by decide);have h1:(rowV (i / 5))[i%5]?=some r:=by
  rw[<- h _ hop,List.getElem?_take,if_pos hm,List.getElem?_drop,<- e];exact hr
 have h2:(rowI (i / 5))[i%5]?=some c:=by
  rw[<- (zVy _ hop).2,List.getElem?_take,if_pos hm,List.getElem?_drop,<- e];exact hc
 generalize i%5=k at h1 h2 hm
 match k,hm with
 | 0,_=>cases h1;cases h2;exact⟨rfl,trivial⟩
 | 1,_=>cases h1;cases h2;exact⟨rfl,trivial⟩
 | 2,_=>cases h1;cases h2;exact⟨rfl,trivial⟩
 | 3,_=>cases h1;cases h2;exact⟨rfl,trivial⟩
 | 4,_=>cases h1;cases h2;exact⟨rfl,trivial⟩
theorem uW1 {W:World}(hL:laidMetH prog Rows.signsKeepsUptoRow.laid W):Go.Iv.Good ⟨prog,gl0,0⟩ (X0 W):=by
 obtain⟨ps,hlv,_⟩:=(show laidMet prog _ W from hL)
 obtain⟨_,_,_,_,_,_,_,_,_,_,hlv,_⟩:=hlv;obtain⟨_,_,_,_,_,_,_,_,_,_,hlv,_⟩:=hlv;obtain⟨g1,t1,cs1,f1,p1,q1,hg1,ht1,hv1,hd1,hlv,_⟩:=hlv;obtain⟨g2,t2,cs2,f2,p2,q2,hg2,ht2,hv2,hd2,_,_⟩:=hlv;obtain rfl:=Option.some.inj (gPow.symm.trans hg1);obtain rfl:=Option.some.inj (gPowT.symm.trans ht1);obtain rfl:=Option.some.inj (gRows.symm.trans hg2);obtain rfl:=Option.some.inj (gRowsT.symm.trans ht2);have hc1:=Lib.cells_of_tab (zs:=Lib.pow10Tab) uPow uU64 nU64 nPow hd1;have hc2:=xY7 hd2;have hb:∀(n:String) (g:Nat) (cs:Array Value),prog.globalNamed n=some g->W.var? prog n=some cs->∃T f,W.heap[g]?=some (.cells cs T f):=by
  intro n g cs hn hv;unfold World.var? at hv;rw[hn,Option.bind_some] at hv;split at hv
  ·rename_i c t f hh;cases hv;exact⟨_,_,hh⟩
  ·cases hv
 obtain⟨T1,fr1,hh1⟩:=hb _ _ _ gPow hv1;obtain⟨T2,fr2,hh2⟩:=hb _ _ _ gRows hv2;have row:∀(g:Nat) (cs:Array Value) (T:TypeId) (f:Nat×Nat) (xs:List IV),W.heap[g]?=some (.cells cs T f)->cs.size=xs.length->(∀(i:Nat) (r:Value) (c:IV),cs.toList[i]?=some r->xs[i]?=some c->c=.raw r/\zQn r) →
   V 0 (L0 W) W (.pointer (some ⟨g,0,none⟩)) (.cptr (.agg xs)):=by
  intro g cs T f xs hh hl h;refine .cptr _ _ cs.toList rfl (by simpa[IV.cells] using hl) ?_ (λi r hr=>?_) (λi r c hr hc=>?_)
  ·show 0+cs.toList.length<=L0 W g;simp[L0,hh]
  ·show W.cell? ⟨g,0+i,none⟩=some r;simp only[World.cell?,hh,Nat.zero_add];simpa using hr
  ·obtain⟨rfl,hk⟩:=h i r c hr hc;exact .raw _ hk
 have hp:∀(i:Nat) (r:Value) (c:IV),cs1.toList[i]?=some r->pow10L[i]?=some c->c=.raw r/\zQn r:=by
  intro i r c hr hc;rw[hc1,List.getElem?_map] at hr;unfold pow10L at hc;rw[List.getElem?_map] at hc;obtain⟨z,hz,rfl⟩:=Option.map_eq_some_iff.1 hr;rw[hz] at hc;cases hc;exact⟨rfl,trivial⟩
 have hs1:cs1.size=pow10L.length:=by
  rw[<- Array.length_toList,hc1];simp[pow10L]
 have hs2:cs2.size=rowsL.length:=by
  rw[<- Array.length_toList,hc2.1];rfl
 refine⟨λb o h=>(by cases h),λg x hx=>?_,Nat.zero_le _,λb hb=>?_,λg x hx=>?_,λ_=>Nat.zero_le _⟩
 ·match g,hx with
  | 0,hx=>cases hx;exact row 0 cs2 T2 fr2 _ hh2 hs2 (λi r c hr hc=>xXh hc2.1 hc2.2 i r c hr hc)
  | 2,hx=>cases hx;exact row 2 cs1 T1 fr1 _ hh1 hs1 hp
 ·show L0 W b=0;unfold L0;rw[Array.getElem?_eq_none (show W.heap.size<=b from hb)]
 ·match g,hx with
  | 0,hx=>cases hx;exact⟨T2,fr2 == (0,0),by show shq W 0=_;simp[shq,hh2,hs2,IV.cells]⟩
  | 2,hx=>cases hx;exact⟨T1,fr1 == (0,0),by show shq W 2=_;simp[shq,hh1,hs1,IV.cells]⟩
theorem xZb {W:World}{X':WS}(h:Ext (X0 W) X'):Below W.heap.size W X'.w :=
 ⟨h.os,h.tape,h.output,h.size,λk hk=>(h.keep k hk rfl).1⟩
theorem wUt:laidOutB prog=true:=by kernel_rfl
theorem yUg {H:Type}{enc:TypeId×Value->H}{W W':World}(hb:Below W.heap.size W W')(sp:Nat->Bool):∀ {ts:List TypeId} {vs:List Value} {ds:List (DataW H)} {ps:List MemPlace},
  (∀t∈ts,prog.readableRec t=true/\t<prog.types.size)->DataW.TrodAll enc prog W 0 (λ_=>true) true ts vs ds ps->(∀p∈ps,p.block<W.heap.size)->(∀p∈ps,sp p.block=true) →
  DataW.TrodAll enc prog W' 0 sp true ts vs ds ps
 | [],vs,ds,ps,_,h,_,_=>by
  obtain⟨rfl,rfl,rfl⟩:=trodAll_nil h;rfl
 | t::ts,vs,ds,ps,ht,h,hlt,hsp=>by
  obtain⟨v,vs1,d,ds1,a,b,rfl,rfl,rfl,h1,h2⟩:=trodAll_cons h;refine⟨a,b,WideElems.Trod_stays wUt (ht t (by simp)).1 (ht t (by simp)).2 h1 (λp hp=>hb.same (hlt p (by simp[hp]))) (λp hp=>hsp p (by simp[hp])),?_,rfl⟩;exact yUg hb sp (λt h=>ht t (by simp[h])) h2 (λp hp=>hlt p (by simp[hp])) (λp hp=>hsp p (by simp[hp]))
theorem wVf {H:Type}{enc:TypeId×Value->H}{f:Func}{s:ChangeSpec}{fid:FuncId}{W:World}{args:Array Value}{ds gs:List (DataW H)}{before:List MemPlace}{ivs:List IV}
  (hvars:s.vars=[]) (hW:DataW.Whole enc prog f.params.toList s.vars false W args.toList ds gs before) (hfn:s.fn H (ds++gs)={ results:=[.lit (.bool true)],args:=ds })
  (hres:f.resultTypes=#[4]) (hread:∀t∈f.params.toList,prog.readableRec t=true/\t<prog.types.size) (hg:Go.Iv.Good ⟨prog,gl0,0⟩ (X0 W)) (hv:VL 0 (L0 W) W args.toList ivs)
  (hc:ICall prog gl0 fid ivs (λ_=>none) (λr st'=>r=.raw (.bool true)/\st'=λ_=>none)) :
  Calls prog fid args W λe W'=>∃v,e=.returned v/\s.post enc prog f false true false false W args v W':=by
 refine (hc 0 (X0 W) args.toList hg rfl hv).mono ?_;rintro e W' ⟨v,rfl,X',x,rfl,hg',he,hx,rfl,_⟩;obtain rfl:=V.raw_inv hx;have hb:=xZb he;refine⟨_,rfl,?_⟩;have hW':=hW;obtain⟨p,q,hA,hV,rfl,hz,_⟩:=hW;rw[hvars] at hV;have hgs:gs=[]/\q=[]:=by
  cases gs with
  | nil=>exact⟨rfl,hV⟩
  | cons _ _=>exact absurd hV (by simp[DataW.TrodVars])
 obtain⟨rfl,rfl⟩:=hgs;have hlt:∀x∈p,x.block<W.heap.size:=λx hx=>by simpa using hW'.lt x (by simpa using hx)
 have hargs:∀sp:Nat->Bool,(∀x∈p,sp x.block=true)->DataW.TrodAll enc prog X'.w 0 sp true f.params.toList args.toList (s.fn H (ds++[])).args p:=λsp hsp=>by
  rw[hfn];exact yUg hb sp hread hA hlt hsp
 have hr:∀(b:Nat) (sp:Nat->Bool) (hd:Bool),DataW.TrodAll enc prog X'.w b sp hd f.resultTypes.toList ((Value.bool true).resultList f.resultTypes.size) (s.fn H (ds++[])).results []:=λ_ _ _=>by
  rw[hfn,hres];exact trodAll_cons_mk (shut_bool xZs _) trodAll_mk0
 have hvs:∀sp:Nat->Bool,DataW.TrodVars enc prog X'.w sp s.vars (s.fn H (ds++[])).vars []:=λ_=>by
  rw[hvars,hfn];rfl
 have hsz:∀x∈p,(λb=>decide (b<W.heap.size)) x.block=true:=λx hx=>by simpa using hlt x hx
 refine⟨ds,[],p++[],[],p,[],hW',hr _ _ _,hargs _ hsz,hvs _,World.keptBut_mono (λx hx=>⟨hx,Or.inr (by simpa using hx)⟩) (hb.frame (·∈p++[])),λ_=>⟨ok_one hres rfl (okWide_bool_mk xZs _),_,_,([]++p)++[],
  ⟨[]++p,[],trodAll_append (hargs _ (λ_ _=>rfl)) (hr _ _ _),hvs _,rfl,?_,λh=>by cases h⟩,λx hx _=>by simpa using hx⟩⟩
 intro b off hp;rw[hb.frozen (p:=⟨b,off,none⟩) (hlt (.cell b off) (by simpa using hp))];exact hz b off (by simpa using hp)
theorem wGu {W:World}{base:Nat}{v:Value}{s:Sq}{x:IV}(h:Value.okWide prog W .any base 24 v)(hx:VL 0 (L0 W) W v.cells.toList x.cells)(hf:IsSq s x):V 0 (L0 W) W v x:=by
 obtain⟨cs,rfl,_⟩:=WideShapes.okWide_struct uSeq h;obtain⟨_,_,_,_,rfl,_⟩:=hf;cases cs;exact hx.agg
theorem wK5 {W:World}{base:Nat}{v:Value}{t:Tr}{x:IV}(h:Value.okWide prog W .any base 37 v)(hx:VL 0 (L0 W) W v.cells.toList x.cells)(hf:IsTr t x):V 0 (L0 W) W v x:=by
 obtain⟨cs,rfl,_⟩:=WideShapes.okWide_struct vXu h;obtain⟨_,_,_,_,_,_,_,_,_,_,_,_,_,_,_,_,_,_,rfl⟩:=yK4 hf;cases cs;exact hx.agg
def tab32:List Int:=[0,1,28,2,29,14,24,3,30,22,20,15,25,17,4,8,31,27,13,23,21,19,16,7,26,12,18,6,11,5,10,9]
def tab64:List Int:=[0,1,56,2,57,49,28,3,61,58,42,50,38,29,17,4,62,47,59,36,45,43,51,22,53,39,33,30,24,18,12,5,63,55,48,27,60,41,37,16,46,35,44,21,52,32,23,11,54,26,40,15,34,20,31,10,25,14,19,9,13,8,7,6]
def lay (cs:List Value):Obj->Obj
 | .cells _ t frozen=>.cells cs.toArray t frozen
 | o=>o
noncomputable def zJy (os:Os):World :=
 { World.holding prog os ⟨#[],#[],[]⟩ with heap:=((((World.holding prog os ⟨#[],#[],[]⟩).heap.modify 0 (lay ((List.range 17).flatMap rowV))).modify 2 (lay (Lib.pow10Tab.map λz=>.int .u64 z))).modify 3 (lay (tab32.map λz=>.int .u8 z))).modify 4 (lay (tab64.map λz=>.int .u8 z)) }
theorem wVg (os:Os)(args:Array Value):laidMet prog Rows.signsKeepsUptoRow.laid ((zJy os).forCall (λ_ _=>0) ⟨#[],args,[]⟩).memory :=
 laidMet_of_run' 8 (by kernel_rfl) (by kernel_rfl)
end Go.Proofs.Tryz
namespace Go.Proofs.Tryz
open Go Go.Iv
set_option maxRecDepth 4000
theorem zKt:∀l:List IV,(∀x∈l,∃v,x=.raw v)->ages l=l
 | [],_=>rfl
 | x::l,h=>by
  obtain⟨v,rfl⟩:=h x (by simp);simp only[ages,age,zKt l λy hy=>h y (by simp[hy])]
theorem wW6:∀g x,gl0 g=some x->age x=x:=by
 intro g x hx
 match g,hx with
 | 0,hx =>
  cases hx;simp only[age];rw[zKt _ λy hy=>?_];obtain⟨op,_,hy⟩:=List.mem_flatMap.1 hy;unfold rowI at hy;simp only[List.mem_cons,List.not_mem_nil,or_false] at hy;rcases hy with rfl|rfl|rfl|rfl|rfl<;>exact⟨_,rfl⟩
 | 2,hx =>
  cases hx;simp only[age];rw[zKt _ λy hy=>?_];obtain⟨z,_,rfl⟩:=List.mem_map.1 hy;exact⟨_,rfl⟩
end Go.Proofs.Tryz
namespace Go.Proofs.Tryz
open Go Go.Iv Go.ChangeShapes
open Go.Proofs.YtddfdpbibloljaaGreatDoor.Rows (uptoBulk uptoBulkAll)
set_option maxRecDepth 4000
theorem uZ4:prog.underlying 29=some (.struct #[⟨ "True",4,0,false, "", "",0⟩,⟨ "World",3,1,false, "", "",8⟩,⟨ "Form",27,2,false, "", "",16⟩]):=by kernel_rfl
theorem vXx:prog.underlying 32=some (.struct #[⟨ "Main",29,0,false, "", "",0⟩,⟨ "Close",4,6,false, "", "",88⟩,⟨ "World",3,7,false, "", "",96⟩,⟨ "Sub",30,8,false, "", "",104⟩]):=by kernel_rfl
theorem vXw:prog.underlying 30=some (.slice 32):=by kernel_rfl
theorem vK4:prog.cellsOf 29=6:=by kernel_rfl
theorem vK3:prog.cellsOf 32=9:=by kernel_rfl
theorem vK2:prog.cellsOf 30=1:=by kernel_rfl
section
variable {H:Type}{enc:TypeId×Value->H}{w:World}{spare:Nat->Bool}{held:Bool}
theorem wUl (fuel:Nat)(cs:List Value)(y:DataW H×List MemPlace)(h:DataW.trod enc prog w 0 spare held fuel 29 cs=some y)(hb:uptoBulk y.1<=1048576):∃(m:Mk) (x:IV),VL 0 (L0 w) w cs x.cells/\IsMk m x/\wFm m.f<=2*uptoBulk y.1:=by
 obtain⟨ys,n,rfl,rfl,hl,hlen,hf⟩:=DataW.trod_struct uZ4 h
 match ys,hlen with
 | [y0,y1,y2],_ =>
  rw[vK4] at hl
  match cs,hl with
  | [c0,c1,c2,c3,c4,c5],_ =>
   have h0:=hf 0 _ rfl;have h1:=hf 1 _ rfl;have h2:=hf 2 _ rfl;simp only[vK5,nInt,wUh,List.drop_zero,List.drop_succ_cons,List.take_succ_cons,List.take_zero,List.getElem?_cons_zero,List.getElem?_cons_succ] at h0 h1 h2;simp only[List.map_cons,List.map_nil,uptoBulk,uptoBulkAll] at hb;obtain⟨b,e0,rfl⟩:=DataW.trod_bool xZs h0;obtain⟨i,e1,rfl,_⟩:=DataW.trod_int uInt h1;obtain⟨f,xf,hvf,hf1,hf2⟩:=zGe n _ _ h2 (by omega);cases e0;cases e1;have hf0:=hf1;obtain⟨o,fn,us,sub⟩:=f;obtain⟨ta,xa,tb,xb',rfl,_⟩:=hf1.mk;refine⟨⟨b,i,.mk o fn us sub⟩,.agg [.raw (.bool b),.raw (.int .i64 i),.raw (.int .u8 o),.raw (.string fn),.sl ta xa,.sl tb xb'],VL.cons (.raw _ trivial) (VL.cons (.raw _ trivial) hvf),⟨_,_,_,_,_,_,rfl,hf0⟩,?_⟩;have:=zY7 (.mk o fn us sub);simp only[List.map_cons,List.map_nil,uptoBulk,uptoBulkAll];omega
theorem xQm:∀ {us:List Nd}{xs:List IV},us.length=xs.length->(∀(i:Nat)(a:Nd)(x:IV),us[i]?=some a->xs[i]?=some x->IsNd a x)->IsNds us xs
 | [],xs,h,_=>by simpa[IsNds] using h.symm
 | a::us,[],h,_=>by simp at h
 | a::us,x::xs,h,hh=>⟨x,xs,rfl,hh 0 a x rfl rfl,xQm (by simpa using h) (λi b y hb hy=>hh (i+1) b y (by simpa using hb) (by simpa using hy))⟩
theorem xK3:∀ {us:List Nd}{ds:List (DataW H)},us.length=ds.length->(∀(i:Nat)(a:Nd)(d:DataW H),us[i]?=some a->ds[i]?=some d->wNd a<=2*uptoBulk d)->wNds us<=2*uptoBulkAll ds
 | [],ds,h,_=>by simp[wNds]
 | a::us,[],h,_=>by simp at h
 | a::us,x::xs,h,hh=>by
  have h1:=hh 0 a x rfl rfl;have h2:=xK3 (us:=us) (ds:=xs) (by simpa using h) (λi b y hb hy=>hh (i+1) b y (by simpa using hb) (by simpa using hy));simp only[wNds,uptoBulkAll];omega
def RN (d:DataW H)(t:Nd)(x:IV):Prop:=IsNd t x/\wNd t<=2*uptoBulk d
theorem RN.cells {d:DataW H}{t:Nd}{x:IV}(h:RN d t x):x.cells.length=9:=by
 obtain⟨v3,w3,o3,n3,t4,y4,t5,y5,c5,w5,t6,y6,rfl⟩:=yKp h.1;rfl
theorem wV0 {fuel:Nat}{cs:List Value}{y:DataW H×List MemPlace}(h:DataW.trod enc prog w 0 spare held fuel 30 cs=some y)(hb:uptoBulk y.1<=1048576)
  (IH:∀(n:Nat),n<fuel->∀(cs:List Value) (y:DataW H×List MemPlace),DataW.trod enc prog w 0 spare held n 32 cs=some y->uptoBulk y.1<=1048576->∃t x,VL 0 (L0 w) w cs x.cells/\RN y.1 t x) :
  ∃v tg xs ts,cs=[v]/\V 0 (L0 w) w v (.sl tg xs)/\okEs tg 9/\IsNds ts xs/\wNds ts<=2*uptoBulk y.1:=by
 obtain⟨v,tg,xs,ts,rfl,hv,htg,hl,hc⟩:=zYw (H:=H) (P:=prog) (d:=y.1) (p:=y.2) RN vXw vK3 (by decide) h (λelems sp e=>by
   have:=yJ3 elems sp;have:=yYo elems;rw[<- e] at *;omega) (λd t x h=>h.cells) (λn hn cs' z q ⟨elems,sp,he,hm⟩ hz=>by
   have:=yJ3 elems sp;have:=zJo hm;rw[he] at hb;exact IH n (by omega) cs' (z,q) hz (show uptoBulk z<=1048576 by omega))
 refine⟨v,tg,xs,ts,rfl,hv,htg,?_⟩;rcases hc with⟨hd,rfl⟩|⟨elems,sp,hd,hel,hr⟩
 ·obtain rfl:ts=[]:=List.length_eq_zero_iff.1 (by simpa using hl);exact⟨rfl,by simp[wNds]⟩
 ·have hi:∀(i:Nat) (a:Nd),ts[i]?=some a->∃x d,xs[i]?=some x/\elems[i]?=some d/\RN d a x:=λi a ha=>by
   have hi:=(lGs ha).1;exact⟨_,_,List.getElem?_eq_getElem (by omega),List.getElem?_eq_getElem (by omega),hr i _ _ _ (List.getElem?_eq_getElem (by omega)) ha (List.getElem?_eq_getElem (by omega))⟩
  refine⟨xQm hl (λi a x ha hx=>?_),?_⟩
  ·obtain⟨x',d,h1,h2,h3⟩:=hi i a ha;rw[hx] at h1;cases h1;exact h3.1
  ·have:=xK3 (us:=ts) (ds:=elems) (by omega) (λi a d ha hd'=>by
    obtain⟨x',d',h1,h2,h3⟩:=hi i a ha;rw[hd'] at h2;cases h2;exact h3.2)
   have:=yJ3 elems sp;grind
theorem cs9 {cs:List Value}(h:cs.length=9):∃a b c d e f g h i,cs=[a,b,c,d,e,f,g,h,i]:=by
 match cs,h with
 | [a,b,c,d,e,f,g,h,i],_=>exact⟨a,b,c,d,e,f,g,h,i,rfl⟩
theorem wUd:∀(fuel:Nat)(cs:List Value)(y:DataW H×List MemPlace),DataW.trod enc prog w 0 spare held fuel 32 cs=some y->uptoBulk y.1<=1048576->∃t x,VL 0 (L0 w) w cs x.cells/\RN y.1 t x:=by
 intro fuel
 induction fuel using Nat.strongRecOn with
 | ind fuel IH =>
  intro cs y h hb;obtain⟨ys,n,rfl,rfl,hl,hlen,hf⟩:=DataW.trod_struct vXx h
  match ys,hlen with
  | [y0,y1,y2,y3],_ =>
   rw[vK3] at hl;obtain⟨c0,c1,c2,c3,c4,c5,c6,c7,c8,rfl⟩:=cs9 hl;have h0:=hf 0 _ rfl;have h1:=hf 1 _ rfl;have h2:=hf 2 _ rfl;have h3:=hf 3 _ rfl;simp only[vK4,vK5,nInt,vK2,List.drop_zero,List.drop_succ_cons,List.take_succ_cons,List.take_zero,List.getElem?_cons_zero,List.getElem?_cons_succ] at h0 h1 h2 h3;simp only[List.map_cons,List.map_nil,uptoBulk,uptoBulkAll] at hb;obtain⟨m,xm,hvm,⟨o,fn,ta,xa,tb,xb,rfl,hm1⟩,hm2⟩:=wUl n _ _ h0 (by omega);obtain⟨c,e1,rfl⟩:=DataW.trod_bool xZs h1;obtain⟨i,e2,rfl,_⟩:=DataW.trod_int uInt h2;obtain⟨v,tg,xb',ts,e3,hv,htg,hts,hbk⟩:=wV0 h3 (by omega) (λm hm=>IH m (by omega));cases e1;cases e2;cases e3;refine⟨.mk m c i ts,.agg [.raw (.bool m.is),.raw (.int .i64 m.w),.raw (.int .u8 o),.raw (.string fn),.sl ta xa,.sl tb xb,.raw (.bool c),.raw (.int .i64 i),.sl tg xb'],
    hvm.append (VL.cons (.raw _ trivial) (VL.cons (.raw _ trivial) (VL.cons hv VL.nil))),?_,?_⟩
   ·simp only[IsNd];exact⟨_,_,_,_,_,_,_,_,rfl,hm1,htg,hts⟩
   ·simp only[List.map_cons,List.map_nil,uptoBulk,uptoBulkAll,wNd];omega
theorem wV1 {W:World}{base:Nat}{v:Value}{t:Nd}{x:IV}(h:Value.okWide prog W .any base 32 v)(hx:VL 0 (L0 W) W v.cells.toList x.cells)(hf:IsNd t x):V 0 (L0 W) W v x:=by
 obtain⟨cs,rfl,_⟩:=WideShapes.okWide_struct vXx h;obtain⟨_,_,_,_,_,_,_,_,_,_,_,_,rfl⟩:=yKp hf;cases cs;exact hx.agg
end
