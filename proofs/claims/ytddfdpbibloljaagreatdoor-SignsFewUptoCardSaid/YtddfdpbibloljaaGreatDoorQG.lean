/- Walks: what is used of a step. -/
import Derived.Test.YtddfdpbibloljaaGreatDoorQF
import Derived.Test.YtddfdpbibloljaaGreatDoorKE
import Derived.Deep.DeepHandedRow
set_option linter.all false
open Nat renaming reduceEqDiff → zE,reduceBEq → zB,reduceAdd → zA,reduceMul → zM,reduceSub → zS,reduceLeDiff → zL
namespace Go.Proofs.Tryz
open Go Go.Iv
set_option maxRecDepth 4000
variable (gl:Nat->Option IV)
noncomputable def yKz (q s w:Sq):Sq:=⟨q.l++yXq s.l w.l,q.r++yXq s.r w.r⟩
noncomputable def yXm (fin:Sq->Tr):List Sq->List Tr->Sq->Tr
 | _,[],q=>fin q
 | [],s::_,_=>s
 | a::al,s::ss,q=>if !yJl a.l s.sq.l&&!yJl a.r s.sq.r then s else yXm fin al ss (yKz q s.sq a)
def zK2 (rule:Nat)(m:Fm):Sq:=if rule=1 then ⟨[m],[m]⟩ else if yK6 rule then ⟨[m],[]⟩ else if rule≠17 then ⟨[],[m]⟩ else ⟨[],[]⟩
noncomputable def addU (rule:Nat)(m:Fm):List Sq:=(xY0 1 rule m tm0 bE).1
noncomputable def zJ7 (rule:Nat)(s:Sq)(m:Fm)(subs:List Tr):Tr:=yXm (λq=>.mk rule ⟨yX7 s.l q.l,yX7 s.r q.r⟩ m tm0 bE subs) (addU rule m) subs (zK2 rule m)
theorem zK5 (l:List Fm):yXq l []=l:=by simp[yXq,hasL]
theorem NeedO.sub {s0 st:ISt}{b gL gR:Nat}{L R:List Fm}(h:NeedO s0 st b gL gR L R)(hb:s0 b=none):subSt s0 st:=by
 obtain⟨xl,xr,zl,zr,h1,h2,_,h4,_,_,_,h8⟩:=h;have none:∀ {s n cells g x},SlO s0 st s n cells g x->0<n->s0 g=none:=λhs hn=>by
  rcases hs with⟨h,_⟩|⟨_,_,_,_,_,_,_,_,h⟩
  ·omega
  ·exact h
 intro c o hc;have pos:∀l:List Fm,l≠[]->0<l.length:=λl h=>by cases l<;>simp at *
 rw[h8 c (λh=>by rw[h,hb] at hc;cases hc) (λhl h=>by rw[h,none h2 (pos _ hl)] at hc;cases hc) (λhl h=>by rw[h,none h4 (pos _ hl)] at hc;cases hc)];exact hc
theorem zVr (fin:Sq->Tr)(al:List Sq)(q:Sq):yXm fin al [] q=fin q:=by cases al<;>rfl
theorem NeedO.off {s0 st:ISt}{b gL gR:Nat}{L R:List Fm}(h:NeedO s0 st b gL gR L R):(L≠[]->s0 gL=none)/\(R≠[]->s0 gR=none):=by
 obtain⟨xl,xr,zl,zr,h1,h2,_,h4,_,_,_,h8⟩:=h;have none:∀ {l:List Fm} {s cells g x},SlO s0 st s l.length cells g x->l≠[]->s0 g=none:=λhs hn=>by
  rcases hs with⟨h,_⟩|⟨_,_,_,_,_,_,_,_,h⟩
  ·exact absurd (List.length_eq_zero_iff.1 h) hn
  ·exact h
 exact⟨none h2,none h4⟩
def SU (st:ISt)(eL eR:Bool)(gL gR:Nat)(a b:Bool):ISt:=λc=>if (a=true/\eL=true/\c=gL)\/(b=true/\eR=true/\c=gR) then none else st c
theorem SU_ff {st:ISt}{eL eR:Bool}{gL gR:Nat}:SU st eL eR gL gR false false=st:=by
 funext c;simp[SU]
theorem vWs {st:ISt}{L R:List Fm}{gL gR c:Nat}{a b:Bool}(h1:L≠[]->c≠gL)(h2:R≠[]->c≠gR):SU st (!L.isEmpty) (!R.isEmpty) gL gR a b c=st c:=by
 unfold SU;rw[if_neg];simp only[Bool.not_eq_true',List.isEmpty_eq_false_iff];rintro (⟨_,h,h'⟩|⟨_,h,h'⟩)
 ·exact h1 h h'
 ·exact h2 h h'
theorem SU_L {st:ISt}{L R:List Fm}{gL gR:Nat}{b:Bool}(h:R≠[]->gL≠gR):SU st (!L.isEmpty) (!R.isEmpty) gL gR false b gL=st gL:=by
 unfold SU;rw[if_neg];simp only[Bool.not_eq_true',List.isEmpty_eq_false_iff,bFt,false_and,false_or];exact λh'=>h h'.2.1 h'.2.2
theorem SU_R {st:ISt}{L R:List Fm}{gL gR:Nat}{a:Bool}(h:L≠[]->gR≠gL):SU st (!L.isEmpty) (!R.isEmpty) gL gR a false gR=st gR:=by
 unfold SU;rw[if_neg];simp only[Bool.not_eq_true',List.isEmpty_eq_false_iff,bFt,false_and,or_false];exact λh'=>h h'.2.1 h'.2.2
theorem kQ2 {st:ISt}{eR:Bool}{gL gR:Nat}{b:Bool}:(SU st true eR gL gR false b).put gL none=SU st true eR gL gR true b:=by
 funext c;rw[ISt.put_apply];unfold SU;by_cases h:c=gL<;>simp[h]
theorem kQ1 {st:ISt}{eL:Bool}{gL gR:Nat}{a:Bool}:(SU st eL true gL gR a false).put gR none=SU st eL true gL gR a true:=by
 funext c;rw[ISt.put_apply];unfold SU;by_cases h:c=gR<;>simp[h]
theorem vWu {st:ISt}{eR:Bool}{gL gR:Nat}{a b:Bool}:SU st false eR gL gR a b=SU st false eR gL gR false b:=by
 funext c;simp[SU]
theorem vWt {st:ISt}{eL:Bool}{gL gR:Nat}{a b:Bool}:SU st eL false gL gR a b=SU st eL false gL gR a false:=by
 funext c;simp[SU]
theorem xZ1 {l:List Fm}{xs:List IV}(h:IsFms l xs):∀x∈xs,x.cells.length=4:=λx hx=>by
 have:=zQb h x hx;exact (yJ3 this).2.1
set_option maxHeartbeats 2000000 in
theorem vJ0 (G:Gl gl)(T:Gt gl)(rd:IV)(mp:Nat)(hrd:rd=.agg [.raw (.map (some mp))])(rule:Nat)(s:Sq)(mn:Fm)(u:Tm)(nm:ByteArray)(sb:List Tr)(x:IV)(hx:IsTr (.mk rule s mn u nm sb) x)(subs:List Tr)(tg:Tag)(zs:List IV)(htg:okEs tg 12)(hzs:IsTrs subs zs)
  (hsz:mn.size<=100000) (hs1:yQ9 s.l<=100000) (hs2:yQ9 s.r<=100000) (hq:∀a∈subs,a.sq.l.length+a.sq.r.length<=1000) (hn:subs.length<=100) (st:ISt) (es:List (Value×IV)) (hm:st mp=some (.map (.int .u8) es)) (hl:zY7 es) :
  ICall prog gl 57 [rd,x,.agg [],.sl tg zs] st (λr st'=>IsTr (zJ7 rule s mn subs) r/\st'=st):=by
 subst hrd;obtain⟨tl,xl,tr,xr,op,fn,ta,xa,tb,xb,v,un,tu,xu,ts,xs,rfl,hru,e1,i1,e2,i2,hy,hz,e3,i3⟩:=hx.mk;have hcopy:=λst=>zQu gl mn _ hy (by omega) st;have hA:=λst=>vZk gl G T 1 rule mn _ hy (by omega) tm0 (.agg [.raw (.bool false),.raw (.string ⟨#[]⟩),.sl ⟨true,.nil,0⟩ []]) ⟨_,_,rfl,.inl rfl,rfl⟩ (by decide) bE st;have hlk:=hl rule;have hr1:((rule:Int)=1)=(rule=1):=propext (by omega);have hr17:((rule:Int)=17)=(rule=17):=propext (by omega);have hmain:IsFms [mn] [.agg [.raw (.int .u8 op),.raw (.string fn),.sl ta xa,.sl tb xb]]:=⟨_,_,rfl,hy,rfl⟩
 have hcol:=λq L R t1 x1 t2 x2 (h1:IsSq q (.agg [.sl t1 x1,.sl t2 x2])) s0 st b gL gR (h:NeedO s0 st b gL gR L R) hl=>xZc gl q ⟨[],[]⟩ _ (.agg [.sl ⟨true,.nil,0⟩ [],.sl ⟨true,.nil,0⟩ []]) h1 ⟨_,_,_,_,rfl,.inl rfl,rfl,.inl rfl,rfl⟩ s0 st b gL gR L R h hl;refine ICall.intro (c:=cf prog gl [9,110,116] [(18,[])] [5]) func57 rfl (by show _<=124;simp) (by kernel_rfl) ?_;simp only[go_sem,zE,zB,zA,zM,zS,zL,reduceCtorEq,fits];refine λb=>yQb λhb=>?_;have hN0:NeedO st (st.put b (some (.box [.sl ⟨true,.nil,0⟩ [],.sl ⟨true,.nil,0⟩ []]))) b b b [] []:=⟨_,_,[],[],ISt.put_same ..,.inl ⟨rfl,rfl,_,_,rfl⟩,rfl,.inl ⟨rfl,rfl,_,_,rfl⟩,rfl,λh=>absurd rfl h,λh=>absurd rfl h,λc h _ _=>yQa h⟩
 have hbm:mp≠b:=λh=>by rw[<- h,hm] at hb;cases hb
 have hq0:zK2 rule mn=if rule=1 then ⟨[mn],[mn]⟩ else if yK6 rule then ⟨[mn],[]⟩ else if rule≠17 then ⟨[],[mn]⟩ else ⟨[],[]⟩:=rfl
 have hun:zJ7 rule s mn subs=yXm (λq=>.mk rule ⟨yX7 s.l q.l,yX7 s.r q.r⟩ mn tm0 bE subs) (addU rule mn) subs (zK2 rule mn):=rfl;generalize zK2 rule mn=q at hq0 hun;have look0:∀z,zZ4 false none z=some z:=λ_=>rfl;have look1:∀v z,zZ4 false (some v) z=some v:=λ_ _=>rfl;have hsz0:(if (#[]:Array UInt8).size<=281474976710656 then some (IV.raw (Value.string { data:=#[] })) else none)=some (IV.raw (Value.string { data:=#[] })):=rfl;rcases (show rule=1\/(rule≠1/\yK6 rule=true)\/(rule≠1/\yK6 rule=false/\rule=17)\/(rule≠1/\yK6 rule=false/\rule≠17) by
  by_cases h1:rule=1
  ·exact .inl h1
  ·by_cases h2:rule=17<;>cases yK6 rule<;>simp[h1,h2]) with h1|h1|h1|h1
 all_goals first
  | (rw[if_pos h1] at hq0
     have d1:decide ((rule:Int)=1)=true:=dEt (by omega);simp only[go_sem,zE,zB,zA,zM,zS,zL,reduceCtorEq,fits,yQ1,d1];refine (hcol ⟨[mn],[mn]⟩ _ _ _ _ _ _ ⟨_,_,_,_,rfl,.inr rfl,hmain,.inr rfl,hmain⟩ _ _ _ _ _ hN0 (by simp)).mono ?_;rintro _ st1 ⟨rfl,gL,gR,hN⟩;simp only[zK5,List.nil_append] at hN;have hN1:NeedO st st1 b gL gR q.l q.r:=by rw[hq0];exact hN
     have hqn:q.l.length+q.r.length<=2:=by rw[hq0];simp
     simp only[go_sem,zE,zB,zA,zM,zS,zL,reduceCtorEq,fits,hsz0])
  | (have d1:decide ((rule:Int)=1)=false:=dEf (by omega)
     rw[if_neg h1.1,h1.2,if_pos rfl] at hq0;rw[h1.2,if_pos rfl] at hlk;simp only[go_sem,zE,zB,zA,zM,zS,zL,reduceCtorEq,fits,yQ1,d1,yQa hbm,hm,hlk,look1];refine (hcol ⟨[mn],[]⟩ _ _ _ _ _ _ ⟨_,_,_,_,rfl,.inr rfl,hmain,.inl rfl,rfl⟩ _ _ _ _ _ hN0 (by simp)).mono ?_;rintro _ st1 ⟨rfl,gL,gR,hN⟩;simp only[zK5,List.nil_append] at hN;have hN1:NeedO st st1 b gL gR q.l q.r:=by rw[hq0];exact hN
     have hqn:q.l.length+q.r.length<=2:=by rw[hq0];simp
     simp only[go_sem,zE,zB,zA,zM,zS,zL,reduceCtorEq,fits,hsz0])
  | (have d1:decide ((rule:Int)=1)=false:=dEf (by omega)
     have d2:decide ((rule:Int)=17)=true:=dEt (by omega);rw[if_neg h1.1,h1.2.1,if_neg (by decide),if_neg (λh=>h h1.2.2)] at hq0;rw[h1.2.1,if_neg (by decide)] at hlk;simp only[go_sem,zE,zB,zA,zM,zS,zL,reduceCtorEq,fits,yQ1,d1,yQa hbm,hm,hlk,look0,d2];obtain⟨st1,hst1⟩:∃st1,st1=st.put b (some (.box [.sl ⟨true,.nil,0⟩ [],.sl ⟨true,.nil,0⟩ []])):=⟨_,rfl⟩
     rw[<- hst1];rw[<- hst1] at hN0;have hN1:NeedO st st1 b b b q.l q.r:=by rw[hq0];exact hN0
     have hqn:q.l.length+q.r.length<=2:=by rw[hq0];simp
     simp only[go_sem,zE,zB,zA,zM,zS,zL,reduceCtorEq,fits,hsz0])
  | (have d1:decide ((rule:Int)=1)=false:=dEf (by omega)
     have d2:decide ((rule:Int)=17)=false:=dEf (by omega);rw[if_neg h1.1,h1.2.1,if_neg (by decide),if_pos h1.2.2] at hq0;rw[h1.2.1,if_neg (by decide)] at hlk;simp only[go_sem,zE,zB,zA,zM,zS,zL,reduceCtorEq,fits,yQ1,d1,yQa hbm,hm,hlk,look0,d2];refine (hcol ⟨[],[mn]⟩ _ _ _ _ _ _ ⟨_,_,_,_,rfl,.inl rfl,rfl,.inr rfl,hmain⟩ _ _ _ _ _ hN0 (by simp)).mono ?_;rintro _ st1 ⟨rfl,gL,gR,hN⟩;simp only[zK5,List.nil_append] at hN;have hN1:NeedO st st1 b gL gR q.l q.r:=by rw[hq0];exact hN
     have hqn:q.l.length+q.r.length<=2:=by rw[hq0];simp
     simp only[go_sem,zE,zB,zA,zM,zS,zL,reduceCtorEq,fits,hsz0])
 all_goals
  refine (hA _).mono ?_;rintro _ st1 ⟨tgA,xsA,rfl,eA,_,iA,rfl⟩;replace iA:IsSqs (addU rule mn) xsA:=iA.w;simp only[go_sem,zE,zB,zA,zM,zS,zL,reduceCtorEq,fits,hzs.len];intro _;refine LoopC.ctr subs.length (λk fr st' ds=>(∃gL gR q,NeedO st st' b gL gR q.l q.r/\zJ7 rule s mn subs=yXm (λq=>.mk rule ⟨yX7 s.l q.l,yX7 s.r q.r⟩ mn tm0 bE subs) ((addU rule mn).drop k) (subs.drop k) q/\q.l.length+q.r.length<=2+1000*k) /\
   fr 3=.iv (.sl tg zs)/\fr 4=.box [.raw (.map (some mp))]/\fr 5=.iv (.cptr (.agg [.raw (.int .u8 rule),.sl tl xl,.sl tr xr,.raw (.int .u8 op),.raw (.string fn),.sl ta xa,.sl tb xb,.raw (.bool v),.raw (.string un),.sl tu xu,.raw (.string nm),.sl ts xs]))/\fr 8=.box trZ/\fr 9=.iv (ptrI b)/\fr 10=.iv (.fn (.func 97) [] [ptrI b])/\fr 12=.iv (.sl tgA xsA) /\
   fr 59=.iv (.sl tg zs)/\fr 60=.iv (.raw (.int .i64 subs.length))/\fr 61=.iv (.raw (.int .i64 k))/\ds=[]) ?_ ?_ ?_
  ·simp only[go_sem,zE,zB,zA,zM,zS,zL,reduceCtorEq];exact⟨⟨_,_,q,hN1,hun,by omega⟩,rfl,rfl,rfl,rfl⟩
  ·rintro k fr st1 _ hlt ⟨⟨gL,gR,q,hN,hgo,hql⟩,f3,f4,f5,f8,f9,f10,f12,f59,f60,f61,rfl⟩;obtain⟨a,ha⟩:=yQ4 hlt;obtain⟨z,hkz,hz⟩:=hzs.get ha;have hqa:=hq a (lMg ha);have hz0:=hz;have hdr:subs.drop k=a::subs.drop (k+1):=List.drop_eq_getElem_cons hlt▸by rw[(lGs ha).2]
   obtain⟨ar,as',am,au,an,asb⟩:=a;obtain⟨tl',xl',tr',xr',op',fn',ta',xa',tb',xb',v',un',tu',xu',ts2,xs2,rfl,_,e1',i1',e2',i2',hy',hz',e3',i3'⟩:=hz.mk;by_cases hka:k<(addU rule mn).length
   ·have dk:decide ((((addU rule mn).length:Nat):Int)<=(k:Int))=false:=dEf (by omega);simp only[go_sem,zE,zB,zA,zM,zS,zL,reduceCtorEq,f3,f4,f5,f8,f9,f10,f12,f59,f60,f61,lt_i hlt,yQ3 htg,yQ3 eA,iNn,hkz,fits,iA.len,dk];obtain⟨w,hw⟩:=yQ4 hka;obtain⟨yw,hkw,hyw⟩:=iA.get hw;have hdw:(addU rule mn).drop k=w::(addU rule mn).drop (k+1):=List.drop_eq_getElem_cons hka▸by rw[(lGs hw).2]
    rw[hdr,hdw,yXm] at hgo;obtain⟨tw,xw,tw',xw',rfl,ew,iw,ew',iw'⟩:=hyw;have hm1:=λst=>wZi gl w.l tw xw ew iw as'.l tl' xl' e1' i1' st;have hm2:=λst=>wZi gl w.r tw' xw' ew' iw' as'.r tr' xr' e2' i2' st;have hln1:(yXq as'.l w.l).length<=as'.l.length:=List.length_filter_le ..;have hln2:(yXq as'.r w.r).length<=as'.r.length:=List.length_filter_le ..;replace hqa:as'.l.length+as'.r.length<=1000:=hqa;have hcl:=xZc gl as' w (.agg [.sl tl' xl',.sl tr' xr']) (.agg [.sl tw xw,.sl tw' xw']) ⟨_,_,_,_,rfl,e1',i1',e2',i2'⟩ ⟨_,_,_,_,rfl,ew,iw,ew',iw'⟩ st st1 b gL gR q.l q.r hN (by omega);have hnext:∀(st2:ISt) gL gR,NeedO st st2 b gL gR (q.l++yXq as'.l w.l) (q.r++yXq as'.r w.r)->zJ7 rule s mn subs=yXm (λq=>.mk rule ⟨yX7 s.l q.l,yX7 s.r q.r⟩ mn tm0 bE subs) ((addU rule mn).drop (k+1)) (subs.drop (k+1)) (yKz q as' w) →
      ∃gL gR q,NeedO st st2 b gL gR q.l q.r/\zJ7 rule s mn subs=yXm (λq=>.mk rule ⟨yX7 s.l q.l,yX7 s.r q.r⟩ mn tm0 bE subs) ((addU rule mn).drop (k+1)) (subs.drop (k+1)) q/\q.l.length+q.r.length<=2+1000*(k+1):=λst2 gL gR h1 h2=>⟨gL,gR,yKz q as' w,h1,h2,by simp only[yKz,lLa];omega⟩
    simp only[go_sem,zE,zB,zA,zM,zS,zL,reduceCtorEq,hkw,fits];refine (hm1 _).mono ?_;rintro _ st1 ⟨rfl,rfl⟩;cases hb1:yJl w.l as'.l
    ·simp only[go_sem,zE,zB,zA,zM,zS,zL,reduceCtorEq,f3,f4,f5,f8,f9,f10,f12,f59,f60,f61,hkw,yQ3 eA,iNn,fits];refine (hm2 _).mono ?_;rintro _ st1 ⟨rfl,rfl⟩;cases hb2:yJl w.r as'.r
     ·simp only[go_sem,zE,zB,zA,zM,zS,zL,reduceCtorEq,f3,f4,f5,f8,f9,f10,f12,f59,f60,f61,fits];rw[if_pos (by decide)];refine yQc (hN.sub hb) ⟨?_,rfl⟩;rw[hgo,if_pos (by show (!yJl w.l as'.l&&!yJl w.r as'.r)=true;rw[hb1,hb2];rfl)];exact hz0
     ·rw[if_neg (by show ¬ (!yJl w.l as'.l&&!yJl w.r as'.r)=true;rw[hb1,hb2];decide)] at hgo;simp only[go_sem,zE,zB,zA,zM,zS,zL,reduceCtorEq,f3,f4,f5,f8,f9,f10,f12,f59,f60,f61,hkw,yQ3 eA,iNn,fits];refine hcl.mono ?_;rintro _ st2 ⟨rfl,gL2,gR2,hN2⟩;simp only[go_sem,zE,zB,zA,zM,zS,zL,reduceCtorEq,f3,f4,f5,f8,f9,f10,f12,f59,f60,f61,yQf hlt (show subs.length<=281474976710656 by omega)];exact hnext st2 gL2 gR2 hN2 hgo
    ·rw[if_neg (by show ¬ (!yJl w.l as'.l&&!yJl w.r as'.r)=true;rw[hb1];simp)] at hgo;simp only[go_sem,zE,zB,zA,zM,zS,zL,reduceCtorEq,f3,f4,f5,f8,f9,f10,f12,f59,f60,f61,hkw,yQ3 eA,iNn,fits];refine hcl.mono ?_;rintro _ st2 ⟨rfl,gL2,gR2,hN2⟩;simp only[go_sem,zE,zB,zA,zM,zS,zL,reduceCtorEq,f3,f4,f5,f8,f9,f10,f12,f59,f60,f61,yQf hlt (show subs.length<=281474976710656 by omega)];exact hnext st2 gL2 gR2 hN2 hgo
   ·have dk:decide ((((addU rule mn).length:Nat):Int)<=(k:Int))=true:=dEt (by omega);simp only[go_sem,zE,zB,zA,zM,zS,zL,reduceCtorEq,f3,f4,f5,f8,f9,f10,f12,f59,f60,f61,lt_i hlt,yQ3 htg,yQ3 eA,iNn,hkz,fits,iA.len,dk];rw[if_pos (by decide)];rw[hdr,List.drop_eq_nil_of_le (by omega),yXm] at hgo;exact yQc (hN.sub hb) ⟨by rw[hgo];exact hz0,rfl⟩
  ·rintro fr st1 _ ⟨⟨gL,gR,q,hN,hgo,hql⟩,f3,f4,f5,f8,f9,f10,f12,f59,f60,f61,rfl⟩;rw[List.drop_length] at hgo;simp only[go_sem,zE,zB,zA,zM,zS,zL,reduceCtorEq,f3,f4,f5,f8,f9,f10,f60,f61,yQq (nLi _)];rw[yKn];have hsubN:=hN.sub hb;obtain⟨hLn,hRn⟩:=hN.off;obtain⟨yl,yr,zl,zr,hbx,hsL,izl,hsR,izr,k1,k2,k3⟩:=hN;obtain⟨S,hS⟩:∃S:Array Bool->ISt,S=λl=>SU st1 (!q.l.isEmpty) (!q.r.isEmpty) gL gR (l.getD 7 false) (l.getD 13 false):=⟨_,rfl⟩
   have hSb:∀l,S l b=some (.box [yl,yr]):=λl=>by rw[hS];exact (vWs (λh=>(k1 h).1.symm) (λh=>(k2 h).symm)).trans hbx
   have kk:∀ {K:Kt} {ad:Ad} {fr:Fr} {l:Array Bool} {i:Nat},K ad fr (S (l.setIfInBounds i true)) []->(decide (i=7) || decide (i=13))=false->K ad fr (S l) []:=λh hi=>by
    simp only[Bool.or_eq_false_iff,decide_eq_false_iff_not] at hi;rw[hS] at h ⊢;simp only[getD_set_ne false hi.1,getD_set_ne false hi.2] at h;exact h
   have hst1:st1=S (Array.replicate 21 false):=by rw[hS];simp only[yXp];exact SU_ff.symm
   rw[hst1];refine anyT (n:=20) (S:=S) (Rel:=λi z=>match i with
    | 0=>z=.cptr (.raw (.int .u8 rule))
    | 1=>z=.raw (.int .u8 rule)
    | 2=>z=.cptr (.agg [.sl tl xl,.sl tr xr])
    | 3=>z=.cptr (.sl tl xl)
    | 4=>z=.sl tl xl
    | 5=>z=.raw (.pointer (some ⟨b,0,none⟩))
    | 6=>z=yl
    | 7=>∃t ys,z=.sl t ys/\okEs t 4/\IsFms (yX7 s.l q.l) ys
    | 8=>z=.cptr (.agg [.sl tl xl,.sl tr xr])
    | 9=>z=.cptr (.sl tr xr)
    | 10=>z=.sl tr xr
    | 11=>z=.raw (.pointer (some ⟨b,1,none⟩))
    | 12=>z=yr
    | 13=>∃t ys,z=.sl t ys/\okEs t 4/\IsFms (yX7 s.r q.r) ys
    | 14=>∃t ys t' ys',z=.agg [.sl t ys,.sl t' ys']/\okEs t 4/\IsFms (yX7 s.l q.l) ys/\okEs t' 4/\IsFms (yX7 s.r q.r) ys'
    | 15=>z=.cptr (.agg [.raw (.int .u8 op),.raw (.string fn),.sl ta xa,.sl tb xb])
    | 16=>z=.agg [.raw (.int .u8 op),.raw (.string fn),.sl ta xa,.sl tb xb]
    | 17=>IsFm mn z
    | 18=>z=.sl tg zs
    | 19=>IsTr (.mk rule ⟨yX7 s.l q.l,yX7 s.r q.r⟩ mn tm0 bE subs) z
    | _=>True)
    (F:=λfr=>fr 3=.iv (.sl tg zs)/\fr 5=.iv (.cptr (.agg [.raw (.int .u8 rule),.sl tl xl,.sl tr xr,.raw (.int .u8 op),.raw (.string fn),.sl ta xa,.sl tb xb,.raw (.bool v),.raw (.string un),.sl tu xu,.raw (.string nm),.sl ts xs]))/\fr 8=.box trZ/\fr 9=.iv (ptrI b)) (G:=λfr=>∃l,IsTr (.mk rule ⟨yX7 s.l q.l,yX7 s.r q.r⟩ mn tm0 bE subs) (.agg l)/\fr 8=.box l)
    ⟨rfl,by decide,by decide,by decide,λfr d z hd ⟨h3,h5,h8,h9⟩=>⟨(xQ9 hd rfl).trans h3,(xQ9 hd rfl).trans h5,(xQ9 hd rfl).trans h8,(xQ9 hd rfl).trans h9⟩⟩ ?_ ?_ (λ_=>rfl) ⟨f3,f5,f8,f9⟩
   ·repeat' apply AllOkS.cons
    ·intro listed ad fr K hz hfl had hF hd hK hS2;obtain⟨f3,f5,f8,f9⟩:=hF;simp only[go_sem,zE,zB,zA,zM,zS,zL,reduceCtorEq,yQ5,had,f3,f5,f8,f9];exact kk (hK _ _ rfl (λh=>absurd h (by decide)) rfl) rfl
    ·intro listed ad fr K hz hfl had hF hd hK hS2;obtain⟨f3,f5,f8,f9⟩:=hF;obtain⟨_,g0,rfl⟩:=hd 0 _ rfl rfl;simp only[go_sem,zE,zB,zA,zM,zS,zL,reduceCtorEq,yQ5,had,f3,f5,f8,f9,g0];exact kk (hK _ _ rfl (λh=>absurd h (by decide)) rfl) rfl
    ·intro listed ad fr K hz hfl had hF hd hK hS2;obtain⟨f3,f5,f8,f9⟩:=hF;simp only[go_sem,zE,zB,zA,zM,zS,zL,reduceCtorEq,yQ5,had,f3,f5,f8,f9];exact kk (hK _ _ rfl (λh=>absurd h (by decide)) rfl) rfl
    ·intro listed ad fr K hz hfl had hF hd hK hS2;obtain⟨f3,f5,f8,f9⟩:=hF;obtain⟨_,g2,rfl⟩:=hd 2 _ rfl rfl;simp only[go_sem,zE,zB,zA,zM,zS,zL,reduceCtorEq,yQ5,had,f3,f5,f8,f9,g2];exact kk (hK _ _ rfl (λh=>absurd h (by decide)) rfl) rfl
    ·intro listed ad fr K hz hfl had hF hd hK hS2;obtain⟨f3,f5,f8,f9⟩:=hF;obtain⟨_,g3,rfl⟩:=hd 3 _ rfl rfl;simp only[go_sem,zE,zB,zA,zM,zS,zL,reduceCtorEq,yQ5,had,f3,f5,f8,f9,g3];exact kk (hK _ _ rfl (λh=>absurd h (by decide)) rfl) rfl
    ·intro listed ad fr K hz hfl had hF hd hK hS2;obtain⟨f3,f5,f8,f9⟩:=hF;unfold ptrI at f9;simp only[go_sem,zE,zB,zA,zM,zS,zL,reduceCtorEq,yQ5,had,f3,f5,f8,f9];exact kk (hK _ _ rfl (λh=>absurd h (by decide)) rfl) rfl
    ·intro listed ad fr K hz hfl had hF hd hK hS2;obtain⟨f3,f5,f8,f9⟩:=hF;obtain⟨_,g5,rfl⟩:=hd 5 _ rfl rfl;simp only[go_sem,zE,zB,zA,zM,zS,zL,reduceCtorEq,yQ5,had,f3,f5,f8,f9,g5,hSb];exact kk (hK _ _ rfl (λh=>absurd h (by decide)) rfl) rfl
    ·intro listed ad fr K hz hfl had hF hd hK hS2;obtain⟨f3,f5,f8,f9⟩:=hF;obtain⟨_,g4,rfl⟩:=hd 4 _ rfl rfl;obtain⟨_,g6,rfl⟩:=hd 6 _ rfl rfl;rcases hsL with⟨hn0,hcz,fz,ez,rfl⟩|⟨hn0,cap0,cs0,rfl,hg0,hkc0,hcc0,htk0,hgn0⟩
     ·have hq0:q.l=[]:=List.length_eq_zero_iff.1 hn0;have hz0:zl=[]:=List.length_eq_zero_iff.1 (by rw[izl.len];exact hn0);subst hz0;simp only[go_sem,zE,zB,zA,zM,zS,zL,reduceCtorEq,yQ5,had,f3,f5,f8,f9,g4,g6,fits];refine (xVb gl s.l tl xl e1 i1 q.l ⟨fz,.nil,ez⟩ [] (.inl rfl) izl (by omega) _).mono ?_;rintro _ _ ⟨t5,y5,rfl,e5,i5,rfl⟩;have hKK:=hK _ (.sl t5 y5) rfl (λh=>absurd h (by decide)) ⟨_,_,rfl,e5,i5⟩;have hE:S (listed.setIfInBounds 7 true)=S listed:=by
       rw[hS];simp only[getD_set_ne false (show 7≠13 by decide),hq0,List.isEmpty_nil,Bool.not_true];rw[vWu,vWu (a:=listed.getD 7 false)]
      rw[<- hE];exact hKK
     ·have hq0:q.l≠[]:=λh=>by rw[h] at hn0;exact absurd hn0 (by decide)
      have hqe:(!q.l.isEmpty)=true:=by simpa using hq0
      have hSg:S listed gL=some (.box cs0):=by
       rw[hS];simp only[hfl];exact (SU_L (λh=>(k1 hq0).2 h)).trans hg0
      have hE:(S listed).put gL none=S (listed.setIfInBounds 7 true):=by
       rw[hS];simp only[getD_set_ne false (show 7≠13 by decide),yQo (show 7<listed.size by rw[hz];decide),if_true,hfl,hqe];exact kQ2
      simp only[go_sem,zE,zB,zA,zM,zS,zL,reduceCtorEq,yQ5,had,f3,f5,f8,f9,g4,g6,fits];refine ICall.frzSl (pre:=[_]) (es:=4) (zs:=zl) hSg izl.len hkc0 hcc0 (xZ1 izl) htk0 (by omega) ?_;rw[hE];refine (xVb gl s.l tl xl e1 i1 q.l _ _ (.inr rfl) izl.aged (by omega) _).mono ?_;rintro _ _ ⟨t5,y5,rfl,e5,i5,rfl⟩;exact hK _ (.sl t5 y5) rfl (λh=>absurd h (by decide)) ⟨_,_,rfl,e5,i5⟩
    ·intro listed ad fr K hz hfl had hF hd hK hS2;obtain⟨f3,f5,f8,f9⟩:=hF;simp only[go_sem,zE,zB,zA,zM,zS,zL,reduceCtorEq,yQ5,had,f3,f5,f8,f9];exact kk (hK _ _ rfl (λh=>absurd h (by decide)) rfl) rfl
    ·intro listed ad fr K hz hfl had hF hd hK hS2;obtain⟨f3,f5,f8,f9⟩:=hF;obtain⟨_,g8,rfl⟩:=hd 8 _ rfl rfl;simp only[go_sem,zE,zB,zA,zM,zS,zL,reduceCtorEq,yQ5,had,f3,f5,f8,f9,g8];exact kk (hK _ _ rfl (λh=>absurd h (by decide)) rfl) rfl
    ·intro listed ad fr K hz hfl had hF hd hK hS2;obtain⟨f3,f5,f8,f9⟩:=hF;obtain⟨_,g9,rfl⟩:=hd 9 _ rfl rfl;simp only[go_sem,zE,zB,zA,zM,zS,zL,reduceCtorEq,yQ5,had,f3,f5,f8,f9,g9];exact kk (hK _ _ rfl (λh=>absurd h (by decide)) rfl) rfl
    ·intro listed ad fr K hz hfl had hF hd hK hS2;obtain⟨f3,f5,f8,f9⟩:=hF;unfold ptrI at f9;simp only[go_sem,zE,zB,zA,zM,zS,zL,reduceCtorEq,yQ5,had,f3,f5,f8,f9];exact kk (hK _ _ rfl (λh=>absurd h (by decide)) rfl) rfl
    ·intro listed ad fr K hz hfl had hF hd hK hS2;obtain⟨f3,f5,f8,f9⟩:=hF;obtain⟨_,g11,rfl⟩:=hd 11 _ rfl rfl;simp only[go_sem,zE,zB,zA,zM,zS,zL,reduceCtorEq,yQ5,had,f3,f5,f8,f9,g11,hSb];exact kk (hK _ _ rfl (λh=>absurd h (by decide)) rfl) rfl
    ·intro listed ad fr K hz hfl had hF hd hK hS2;obtain⟨f3,f5,f8,f9⟩:=hF;obtain⟨_,g10,rfl⟩:=hd 10 _ rfl rfl;obtain⟨_,g12,rfl⟩:=hd 12 _ rfl rfl;rcases hsR with⟨hn0,hcz,fz,ez,rfl⟩|⟨hn0,cap0,cs0,rfl,hg0,hkc0,hcc0,htk0,hgn0⟩
     ·have hq0:q.r=[]:=List.length_eq_zero_iff.1 hn0;have hz0:zr=[]:=List.length_eq_zero_iff.1 (by rw[izr.len];exact hn0);subst hz0;simp only[go_sem,zE,zB,zA,zM,zS,zL,reduceCtorEq,yQ5,had,f3,f5,f8,f9,g10,g12,fits];refine (xVb gl s.r tr xr e2 i2 q.r ⟨fz,.nil,ez⟩ [] (.inl rfl) izr (by omega) _).mono ?_;rintro _ _ ⟨t5,y5,rfl,e5,i5,rfl⟩;have hKK:=hK _ (.sl t5 y5) rfl (λh=>absurd h (by decide)) ⟨_,_,rfl,e5,i5⟩;have hE:S (listed.setIfInBounds 13 true)=S listed:=by
       rw[hS];simp only[getD_set_ne false (show 13≠7 by decide),hq0,List.isEmpty_nil,Bool.not_true];rw[vWt,vWt (b:=listed.getD 13 false)]
      rw[<- hE];exact hKK
     ·have hq0:q.r≠[]:=λh=>by rw[h] at hn0;exact absurd hn0 (by decide)
      have hqe:(!q.r.isEmpty)=true:=by simpa using hq0
      have hSg:S listed gR=some (.box cs0):=by
       rw[hS];simp only[hfl];exact (SU_R (λh=>((k1 h).2 hq0).symm)).trans hg0
      have hE:(S listed).put gR none=S (listed.setIfInBounds 13 true):=by
       rw[hS];simp only[getD_set_ne false (show 13≠7 by decide),yQo (show 13<listed.size by rw[hz];decide),if_true,hfl,hqe];exact kQ1
      simp only[go_sem,zE,zB,zA,zM,zS,zL,reduceCtorEq,yQ5,had,f3,f5,f8,f9,g10,g12,fits];refine ICall.frzSl (pre:=[_]) (es:=4) (zs:=zr) hSg izr.len hkc0 hcc0 (xZ1 izr) htk0 (by omega) ?_;rw[hE];refine (xVb gl s.r tr xr e2 i2 q.r _ _ (.inr rfl) izr.aged (by omega) _).mono ?_;rintro _ _ ⟨t5,y5,rfl,e5,i5,rfl⟩;exact hK _ (.sl t5 y5) rfl (λh=>absurd h (by decide)) ⟨_,_,rfl,e5,i5⟩
    ·intro listed ad fr K hz hfl had hF hd hK hS2;obtain⟨f3,f5,f8,f9⟩:=hF;obtain⟨z7,g7,k7⟩:=hd 7 _ rfl rfl;obtain⟨t5,y5,rfl,k5,k6⟩:=k7;obtain⟨z13,g13,k13⟩:=hd 13 _ rfl rfl;obtain⟨t6,y6,rfl,k7',k8⟩:=k13;simp only[go_sem,zE,zB,zA,zM,zS,zL,reduceCtorEq,yQ5,had,f3,f5,f8,f9,g7,g13,fits];exact kk (hK _ _ rfl (λh=>absurd h (by decide)) ⟨_,_,_,_,rfl,k5,k6,k7',k8⟩) rfl
    ·intro listed ad fr K hz hfl had hF hd hK hS2;obtain⟨f3,f5,f8,f9⟩:=hF;simp only[go_sem,zE,zB,zA,zM,zS,zL,reduceCtorEq,yQ5,had,f3,f5,f8,f9];exact kk (hK _ _ rfl (λh=>absurd h (by decide)) rfl) rfl
    ·intro listed ad fr K hz hfl had hF hd hK hS2;obtain⟨f3,f5,f8,f9⟩:=hF;obtain⟨_,g15,rfl⟩:=hd 15 _ rfl rfl;simp only[go_sem,zE,zB,zA,zM,zS,zL,reduceCtorEq,yQ5,had,f3,f5,f8,f9,g15,fits];exact kk (hK _ _ rfl (λh=>absurd h (by decide)) rfl) rfl
    ·intro listed ad fr K hz hfl had hF hd hK hS2;obtain⟨f3,f5,f8,f9⟩:=hF;obtain⟨_,g16,rfl⟩:=hd 16 _ rfl rfl;simp only[go_sem,zE,zB,zA,zM,zS,zL,reduceCtorEq,yQ5,had,f3,f5,f8,f9,g16];refine (hcopy _).mono ?_;rintro r _ ⟨hr,rfl⟩;exact kk (hK _ _ rfl (λh=>absurd h (by decide)) hr.1) rfl
    ·intro listed ad fr K hz hfl had hF hd hK hS2;obtain⟨f3,f5,f8,f9⟩:=hF;simp only[go_sem,zE,zB,zA,zM,zS,zL,reduceCtorEq,yQ5,had,f3,f5,f8,f9];exact kk (hK _ _ rfl (λh=>absurd h (by decide)) rfl) rfl
    ·intro listed ad fr K hz hfl had hF hd hK hS2;obtain⟨f3,f5,f8,f9⟩:=hF;obtain⟨_,g1,rfl⟩:=hd 1 _ rfl rfl;obtain⟨z14,g14,k14⟩:=hd 14 _ rfl rfl;obtain⟨t5,y5,t6,y6,rfl,k5,k6,k7',k8⟩:=k14;obtain⟨z17,g17,k17⟩:=hd 17 _ rfl rfl;obtain⟨_,g18,rfl⟩:=hd 18 _ rfl rfl;replace k17:IsFm mn z17:=k17;obtain⟨o2,n2,t2,x2,t3,x3,rfl⟩:=k17.agg;simp only[go_sem,zE,zB,zA,zM,zS,zL,reduceCtorEq,yQ5,had,f3,f5,f8,f9,g1,g14,g17,g18,fits];exact kk (hK _ _ rfl (λh=>absurd h (by decide)) (by simp only[IsTr];exact⟨_,_,_,_,_,_,_,_,_,_,_,_,_,_,_,_,rfl,hru,k5,k6,k7',k8,k17,⟨_,_,rfl,.inl rfl,rfl⟩,htg,hzs⟩)) rfl
    ·intro listed ad fr K hz hfl had hF hd hK hS2;obtain⟨f3,f5,f8,f9⟩:=hF;obtain⟨z19,g19,k19⟩:=hd 19 _ rfl rfl;obtain⟨rule9,tl9,xl9,tr9,xr9,op9,fn9,ta9,xa9,tb9,xb9,v9,un9,tu9,xu9,n9,ts9,xs9,rfl⟩:=yKe k19;simp only[go_sem,zE,zB,zA,zM,zS,zL,reduceCtorEq,yQ5,had,f3,f5,f8,f9,g19,fits,trZ];exact kk (hS2 _ rfl rfl ⟨_,k19,rfl⟩ (λ_=>wYj rfl)) rfl
    ·exact trivial
   ·rintro fr ⟨l,hl,h8⟩ hall;obtain⟨rule9,tl9,xl9,tr9,xr9,op9,fn9,ta9,xa9,tb9,xb9,v9,un9,tu9,xu9,n9,ts9,xs9,he9⟩:=yKe hl;obtain rfl:=IV.agg.inj he9;simp only[go_sem,zE,zB,zA,zM,zS,zL,reduceCtorEq,h8];refine yQc (λc o hc=>?_) ⟨by rw[hgo,zVr];exact hl,rfl⟩;rw[hS];exact (vWs (λh h'=>by rw[h',hLn h] at hc;cases hc) (λh h'=>by rw[h',hRn h] at hc;cases hc)).trans (hsubN c o hc)
mutual
noncomputable def yJ9:Tr->Tr
 | .mk rule s m _ _ sub=>zJ7 rule s m (yXl sub)
noncomputable def yXl:List Tr->List Tr
 | []=>[]
 | a::l=>yJ9 a::yXl l
end
theorem zQq:∀l:List Tr,(yXl l).length=l.length
 | []=>rfl
 | a::l=>by simp only[yXl,List.length_cons,zQq l]
theorem zVq:∀l m:List Tr,yXl (l++m)=yXl l++yXl m
 | [],m=>rfl
 | a::l,m=>by simp only[List.cons_append,yXl,zVq l m]
theorem zJ8 {P:Tr->Prop}{fin:Sq->Tr}(hf:∀q,P (fin q)):∀ {al:List Sq} {ss:List Tr} {q:Sq},(∀s∈ss,P s)->P (yXm fin al ss q)
 | al,[],q,_=>by rw[zVr];exact hf q
 | [],s::_,q,h=>h s (by simp)
 | a::al,s::ss,q,h=>by
  rw[yXm];split
  ·exact h s (by simp)
  ·exact zJ8 hf λx hx=>h x (by simp[hx])
mutual
theorem wKh:∀ {t:Tr},okT t=true->(yJ9 t).sq.l.length+(yJ9 t).sq.r.length<=300
 | .mk rule s m u n sub,h=>by
  simp only[okT,bAt] at h;have hb:=(yW7 h.1).1;rw[yJ9,zJ7];refine zJ8 (P:=λt=>t.sq.l.length+t.sq.r.length<=300) (λq=>?_) (zJ6 h.2);have h1:=(yW6 (need:=q.l) (l:=s.l) (r:=[])).2;have h2:=(yW6 (need:=q.r) (l:=s.r) (r:=[])).2;have h3:=yZ1 s.l;have h4:=yZ1 s.r;have h5:=yZq s.l;have h6:=yZq s.r;simp only[List.length_nil] at h1 h2;show (yX7 s.l q.l).length+(yX7 s.r q.r).length<=300;unfold yX7;omega
theorem zJ6:∀ {l:List Tr},okTs l=true->∀a∈yXl l,a.sq.l.length+a.sq.r.length<=300
 | [],_,a,h=>by simp only[yXl] at h;cases h
 | b::l,h,a,ha=>by
  simp only[okTs,bAt] at h;simp only[yXl,List.mem_cons] at ha;rcases ha with rfl|ha
  ·exact wKh h.1
  ·exact zJ6 h.2 a ha
end
def wWn (t:Tr):Prop:=∀(x:IV) (_:IsTr t x) (_:t.steps<=100) (_:okT t=true) (st:ISt) (m:Nat) (es:List (Value×IV)) (_:st m=some (.map (.int .u8) es)) (_:zY7 es),
 ICall prog gl 56 [x,.agg [],.fn (.func 49) [.agg [.raw (.map (some m))]] [],.fn (.func 57) [.agg [.raw (.map (some m))]] []] st
  (λr st'=>IsTr (yJ9 t) r/\st'=st)
theorem xY2 (G:Gl gl)(T:Gt gl)(rule:Nat)(s:Sq)(mn:Fm)(u:Tm)(nm:ByteArray)(sub:List Tr)(IH:∀a∈sub,wWn gl a):wWn gl (.mk rule s mn u nm sub):=by
 intro x hx hst hw st m es hm hl;obtain⟨tl,xl,tr,xr,op,fn,ta,xa,tb,xb,v,un,tu,xu,ts,xs,rfl,hru,e1,i1,e2,i2,hy,hz,e3,i3⟩:=hx.mk;refine ICall.intro (c:=cf prog gl [23] []) func56 rfl (by show _<=48;simp) (by kernel_rfl) ?_;simp only[go_sem,zE,zB,zA,zM,zS,zL,reduceCtorEq,fits];refine (wK1 gl _ m rfl _ _ hx (by show sub.length<=_;simp only[Tr.steps] at hst;have:=yXw sub;omega) _).mono ?_;rintro _ st ⟨ts',xs',rfl,e3',i3',rfl⟩;have hln:=i3'.len;have hls:sub.length<=100:=by rw[Tr.steps] at hst;have:=yXw sub;omega
 change xs'.length=sub.length at hln;simp only[go_sem,zE,zB,zA,zM,zS,zL,reduceCtorEq,fits];intro _;refine yQx ⟨by omega,by omega,by omega⟩ λg=>yQb λhg=>?_;have hgm:g≠m:=λh=>by rw[h,hm] at hg;cases hg
 intro _;refine LoopC.ctr sub.length (λk fr st' ds=>(∃cs zs,st'=st.put g (some (.box cs))/\cs.length=sub.length*12/\cs.take (k*12)=zs.flatMap IV.cells/\IsTrs (yXl (sub.take k)) zs) /\
  fr 2=.iv (.fn (.func 49) [.agg [.raw (.map (some m))]] [])/\fr 3=.iv (.fn (.func 57) [.agg [.raw (.map (some m))]] [])/\fr 4=.box [.raw (.int .u8 rule),.sl tl xl,.sl tr xr,.raw (.int .u8 op),.raw (.string fn),.sl ta xa,.sl tb xb,.raw (.bool v),.raw (.string un),.sl tu xu,.raw (.string nm),.sl ts xs]/\fr 5=.box []/\fr 8=.box trZ /\
  fr 10=.iv (.sl ⟨false,.none,0⟩ (List.replicate sub.length (.agg [])))/\fr 11=.iv (.raw (.slice (some ⟨g,0,none⟩) sub.length sub.length))/\fr 24=.iv (.sl ts' xs')/\fr 25=.iv (.raw (.int .i64 sub.length))/\fr 26=.iv (.raw (.int .i64 k))/\ds=[]) ?_ ?_ ?_
 ·simp only[go_sem,zE,zB,zA,zM,zS,zL,reduceCtorEq,hln];exact⟨⟨_,[],rfl,by simp,rfl,rfl⟩,rfl,rfl,rfl⟩
 ·rintro k fr _ _ hlt ⟨⟨cs,zs,rfl,hcl,hct,hzs⟩,f2,f3,f4,f5,f8,f10,f11,f24,f25,f26,rfl⟩;obtain⟨a,ha⟩:=yQ4 hlt;obtain⟨z,hkz,hz⟩:=i3'.get ha;have ham:=lMg ha;have hsta:=yUs ham;simp only[Tr.steps] at hst;simp only[okT,bAt] at hw;have hcall:=λst1 hm=>IH a ham z hz (by omega) (zG4 hw.2 ham) st1 m es hm hl;have hrep:(List.replicate sub.length (IV.agg []))[k]?=some (.agg []):=by rw[List.getElem?_replicate,if_pos hlt]
  obtain⟨rule',tl',xl',tr',xr',op',fn',ta',xa',tb',xb',v',un',tu',xu',n',ts2,xs2,rfl⟩:=yKe hz;simp only[go_sem,zE,zB,zA,zM,zS,zL,reduceCtorEq,f2,f3,f4,f5,f8,f10,f11,f24,f25,f26,lt_i hlt,yQ3 e3',iNn,hkz,fits,hrep];refine (hcall _ (by rw[yQa hgm.symm];exact hm)).mono ?_;rintro r _ ⟨hr,rfl⟩;have hr0:=hr;obtain⟨rule9,tl9,xl9,tr9,xr9,op9,fn9,ta9,xa9,tb9,xb9,v9,un9,tu9,xu9,n9,ts9,xs9,rfl⟩:=yKe hr;simp only[go_sem,zE,zB,zA,zM,zS,zL,reduceCtorEq,f2,f3,f4,f5,f8,f10,f11,f24,f25,f26,fits,ISt.put_same,yQ8,yQf hlt (show sub.length<=281474976710656 by omega)];have hkn:k*12+12<=sub.length*12:=by omega
  obtain⟨q1,q2⟩:=yU5 (new:=[IV.raw (.int .u8 rule9),.sl tl9 xl9,.sl tr9 xr9,.raw (.int .u8 op9),.raw (.string fn9),.sl ta9 xa9,.sl tb9 xb9,.raw (.bool v9),.raw (.string un9),.sl tu9 xu9,.raw (.string n9),.sl ts9 xs9]) hcl hlt rfl;rw[if_pos ⟨by omega,hlt⟩,if_pos (by omega)];refine⟨_,zs++[.agg [.raw (.int .u8 rule9),.sl tl9 xl9,.sl tr9 xr9,.raw (.int .u8 op9),.raw (.string fn9),.sl ta9 xa9,.sl tb9 xb9,.raw (.bool v9),.raw (.string un9),.sl tu9 xu9,.raw (.string n9),.sl ts9 xs9]],rfl,q1,?_,?_⟩
  ·rw[q2,hct,List.flatMap_append,List.flatMap_singleton];rfl
  ·rw[yQ7 ha,zVq];exact hzs.append ⟨_,_,rfl,hr0,rfl⟩
 ·rintro fr _ _ ⟨⟨cs,zs,rfl,hcl,hct,hzs⟩,f2,f3,f4,f5,f8,f10,f11,f24,f25,f26,rfl⟩;rw[lTl] at hzs;have hzl:zs.length=sub.length:=by rw[hzs.len,zQq]
  simp only[go_sem,zE,zB,zA,zM,zS,zL,reduceCtorEq,f2,f3,f4,f5,f8,f10,f11,f24,f25,f26,yQq (nLi _)];refine ICall.frzSl (pre:=[_,_,_]) (es:=12) (zs:=zs) (ISt.put_same ..) hzl (Nat.le_refl _) (by omega) (zJ9 hzs) hct (by omega) ?_;rw[xQ8 hg];have hok:=hw;simp only[okT,bAt] at hw;obtain⟨hb1,hb2,_,_⟩:=yW7 hw.1;have hsm:=zXh mn;have hs3:=yZq s.l;have hs4:=yZq s.r;refine (vJ0 gl G T _ m rfl rule s mn u nm sub _ hx (yXl sub) _ _ (.inr rfl) (zYf hzs) (by omega) (by omega) (by omega) (λa ha=>Nat.le_trans (zJ6 hw.2 a ha) (by decide)) (by rw[zQq];omega) _ es hm hl).mono ?_;rintro r _ ⟨hr,rfl⟩;have hr0:=hr;obtain⟨rule9,tl9,xl9,tr9,xr9,op9,fn9,ta9,xa9,tb9,xb9,v9,un9,tu9,xu9,n9,ts9,xs9,rfl⟩:=yKe hr;simp only[go_sem,zE,zB,zA,zM,zS,zL,reduceCtorEq,f8,trZ,fits];exact yQ0 ⟨by simpa only[yJ9] using hr0,rfl⟩
theorem zU7 (G:Gl gl)(T:Gt gl):∀(k:Nat) (t:Tr),SizeOf.sizeOf t<k->wWn gl t
 | 0,_,h=>absurd h (by omega)
 | k+1,.mk rule s mn u nm sub,h=>xY2 gl G T rule s mn u nm sub λa ha=>zU7 G T k a (by have:=lSm ha;simp only[Tr.mk.sizeOf_spec] at h;omega)
theorem wGh (G:Gl gl)(T:Gt gl)(t:Tr):wWn gl t:=zU7 gl G T _ t (Nat.lt_succ_self _)
noncomputable def zQn (t:Tr):Tr×Nat:=if (yXa 1 t).2≠0 then (tr0,231) else (yJ9 t,0)
theorem wK4 (G:Gl gl)(T:Gt gl)(t:Tr)(x:IV)(hx:IsTr t x)(hok:okT t=true)(hst:t.steps<=100)(st:ISt) :
  ICall prog gl 20 [x] st (λr st'=>(∃z,r=.tup [z,.raw (.int .i64 (zQn t).2)]/\IsTr (zQn t).1 z)/\st'=st):=by
 have hck:=λst=>xK7 gl G T 1 t x hx (wUp hok (by omega)) st;have hx0:=hx;have z0:=xUw;unfold trZ at z0;obtain⟨rule,tl,xl,tr,xr,op,fn,ta,xa,tb,xb,v,un,tu,xu,nm,ts,xs,rfl⟩:=yKe hx;have hne:∀n:Nat,((n:Int)=0)=(n=0):=λn=>propext (by omega);refine iI func20 ?_;simp only[go_sem,zE,zB,zA,zM,zS,zL,reduceCtorEq,fits];refine (hck _).mono ?_;rintro _ st ⟨⟨tg,rfl,htg⟩,rfl⟩;by_cases h0:(yXa 1 t).2=0
 ·simp only[go_sem,zE,zB,zA,zM,zS,zL,reduceCtorEq,fits,h0,decide_true,Bool.not_true,Int.natCast_zero];refine (zK1 gl st).mono ?_;rintro _ _ ⟨m,es,hm,rfl,hl,rfl⟩;simp only[go_sem,zE,zB,zA,zM,zS,zL,reduceCtorEq,fits];refine (wGh gl G T t _ hx0 hst hok _ m es (ISt.put_same ..) hl).mono ?_;rintro r _ ⟨hr,rfl⟩;have hr0:=hr;obtain⟨rule9,tl9,xl9,tr9,xr9,op9,fn9,ta9,xa9,tb9,xb9,v9,un9,tu9,xu9,n9,ts9,xs9,rfl⟩:=yKe hr;simp only[go_sem,zE,zB,zA,zM,zS,zL,reduceCtorEq,fits];have he:zQn t=(yJ9 t,0):=by rw[zQn,if_neg (by rw[h0];decide)]
  exact yQc (yQg hm) ⟨⟨_,by rw[he];rfl,by rw[he];exact hr0⟩,rfl⟩
 ·simp only[go_sem,zE,zB,zA,zM,zS,zL,reduceCtorEq,fits,hne,h0,decide_false,Bool.not_false];have he:zQn t=(tr0,231):=by rw[zQn,if_pos h0]
  exact yQ0 ⟨⟨_,by rw[he];rfl,by rw[he];exact z0⟩,rfl⟩
end Go.Proofs.Tryz
namespace Go.Proofs.Tryz
open Go Go.Iv
set_option maxRecDepth 8000
variable (gl:Nat->Option IV)
theorem ord3 (x y z:Operand):yK7 3 [(0,x),(1,y),(2,z)]=true:=rfl
theorem ord4 (x y z w:Operand):yK7 4 [(0,x),(1,y),(2,z),(3,w)]=true:=rfl
theorem xKa {ca:Nat}{s:Sq}{rule:Nat}{main:Fm}{term:Tm}{name:ByteArray}{r:Rw}{ad:List Sq}(h1:yZn ca s=true)(h2:rowS ca rule=some r)(h3:yJd ca rule r main term name=(ad,0))
  (h4:r.left=true->hasF s.l main=true) (h5:r.right=true->hasF s.r main=true) (h6:r.asks≠2):yJn ca s rule main term name=(ad,0):=by
 unfold yJn;rw[h1,h2];simp only[Bool.not_true,bFt,if_false,h3];obtain⟨rl,rr,op,asks⟩:=r;simp only at h4 h5 h6 ⊢;have e1:(rl&&!hasF s.l main)=false:=by
  cases rl
  ·rfl
  ·rw[h4 rfl];rfl
 have e2:(rr&&!hasF s.r main)=false:=by
  cases rr
  ·rfl
  ·rw[h5 rfl];rfl
 rw[e1,e2,dEf h6];rfl
theorem xHas {l:List Fm}{f:Fm}(h:f∈l)(hr:f.right=true):hasF l f=true:=yG1.2 ⟨f,h,zXx hr⟩
theorem wY0 {s:Sq}(h:(decide (s.l.length<=64)&&decide (s.r.length<=64)&&s.l.all (fmB 1)&&s.r.all (fmB 1))=true):yZn 1 s=true:=by
 unfold yZn;rw[show yKk 1=true from rfl,Bool.true_and,h];rfl
theorem xAll {l m:List Fm}(h:∀f∈l,f∈m/\f.right=true):allF l m=true:=List.all_eq_true.2 λf hf=>xHas (h f hf).1 (h f hf).2
theorem zU5 {ca rule:Nat}{s:Sq}{main:Fm}{term:Tm}{name:ByteArray}{sub:List Tr}{ad:List Sq}(h:yJn ca s rule main term name=(ad,0))(hl:sub.length=ad.length)(hp:yX9 s ad sub=true):yXf ca (.mk rule s main term name sub)=0:=by
 simp only[yXf];rw[h];simp only[ne_eq,nTf,if_false,hl,hp,if_true]
theorem vJg:yJn 1 ⟨[xmR,xmA],[xmR]⟩ 5 xmA xmT ⟨#[]⟩=([⟨[xmP,xmQ],[]⟩],0):=xKa (r:=⟨true,false,4,0⟩) (wY0 (by decide)) rfl (by rfl) (λ_=>xHas (by simp) (by decide)) (λh=>by cases h) (by decide)
theorem vJf:yJn 1 ⟨[xmP,xmQ,xmR,xmA],[xmR]⟩ 1 xmR xmT ⟨#[]⟩=([],0):=xKa (r:=⟨true,true,0,0⟩) (wY0 (by decide)) rfl (by rfl) (λ_=>xHas (by simp) (by decide)) (λ_=>xHas (by simp) (by decide)) (by decide)
theorem xU9:yXa 1 xmX=([],0):=by
 have h1:yXf 1 xmX=0:=zU5 vJg rfl (by
  have a1:allF [xmP,xmQ,xmR,xmA] [xmR,xmA,xmP,xmQ]=true:=xAll λf hf=>by
   simp only[List.mem_cons,List.not_mem_nil,or_false] at hf;rcases hf with rfl|rfl|rfl|rfl<;>exact⟨by simp,by decide⟩
  have a2:allF [xmR] [xmR]=true:=xAll λf hf=>by
   simp only[List.mem_cons,List.not_mem_nil,or_false] at hf;subst hf;exact⟨by simp,by decide⟩
  simp only[yX9,Tr.sq,Sq.plus,yXr,List.append_nil,List.cons_append,List.nil_append,a1,a2,Bool.and_self])
 have h2:yXf 1 (.mk 1 ⟨[xmP,xmQ,xmR,xmA],[xmR]⟩ xmR xmT ⟨#[]⟩ [])=0:=zU5 vJf rfl rfl;unfold yXa;rw[show xmX.walk []=[([],xmX),([0],.mk 1 ⟨[xmP,xmQ,xmR,xmA],[xmR]⟩ xmR xmT ⟨#[]⟩ [])] from rfl];simp only[yZj,h1,h2,if_true];rfl
theorem wY8:zVo xmS (n1 false)=(xmW,0):=by
 rw[zVo,if_neg (by rw[zU4];decide),if_neg (by rw[xUb];decide),xK9]
theorem vK6:zQo xmW=(n1 true,0):=by
 rw[zQo,if_neg (by rw[zU3,wKd];decide),if_neg (by decide),wKc]
theorem vJ2:zQn xmW=(xmV,0):=by
 rw[zQn,if_neg (by rw[zU3];decide)];rfl
theorem vJ1:zQn xmX=(xmY,0):=by
 rw[zQn,if_neg (by rw[xU9];decide)];rfl
theorem vQe:xZs (n1 false) (yZg xmS):=by
 simp only[n1,n2,n3,xZs,GrowsL,xUc];exact⟨trivial,rfl,by decide,⟨rfl,rfl,by decide,⟨rfl,rfl,rfl⟩,trivial⟩,trivial⟩
def tagJ:List Tr->Tag
 | []=>⟨true,.nil,0⟩
 | _::_=>⟨true,.full,12⟩
theorem wGz (l:List Tr):okEs (tagJ l) 12:=by cases l<;>simp[tagJ,okEs]
mutual
def trJ:Tr->IV
 | .mk rule s (.mk o fn us fs) (.mk v un ts) n sub=>.agg [.raw (.int .u8 rule),.sl (tagF s.l) (fmsI s.l),.sl (tagF s.r) (fmsI s.r),.raw (.int .u8 o),.raw (.string fn),.sl (tagT us) (tmsI us),.sl (tagF fs) (fmsI fs),.raw (.bool v),.raw (.string un),.sl (tagT ts) (tmsI ts),.raw (.string n),.sl (tagJ sub) (trsJ sub)]
def trsJ:List Tr->List IV
 | []=>[]
 | a::l=>trJ a::trsJ l
end
mutual
def bytJ:Tr->Bool
 | .mk rule s f _ _ sub=>decide (rule<256)&&zZx s.l&&zZx s.r&&wVe f&&wWc sub
def wWc:List Tr->Bool
 | []=>true
 | a::l=>bytJ a&&wWc l
end
mutual
theorem zUh:∀t:Tr,bytJ t=true->IsTr t (trJ t)
 | .mk rule s (.mk o fn us fs) (.mk v un ts) n sub,h=>by
  simp only[bytJ,bAt,dTe] at h;obtain⟨⟨⟨⟨h1,h2⟩,h3⟩,h4⟩,h5⟩:=h;have hf:=wG4 (.mk o fn us fs) h4;have ht:=wY9 (.mk v un ts);simp only[fmI] at hf;simp only[tmI] at ht;simp only[IsTr];exact⟨tagF s.l,fmsI s.l,tagF s.r,fmsI s.r,o,fn,tagT us,tmsI us,tagF fs,fmsI fs,v,un,tagT ts,tmsI ts,tagJ sub,trsJ sub,by simp only[trJ],h1,zJg _,zZb _ h2,zJg _,zZb _ h3,hf,ht,wGz _,xUt sub h5⟩
theorem xUt:∀l:List Tr,wWc l=true->IsTrs l (trsJ l)
 | [],_=>rfl
 | a::l,h=>by
  simp only[wWc,bAt] at h;exact⟨_,_,by simp only[trsJ],zUh a h.1,xUt l h.2⟩
end
def sqI (s:Sq):IV:=.agg [.sl (tagF s.l) (fmsI s.l),.sl (tagF s.r) (fmsI s.r)]
theorem wYb (s:Sq)(h:(zZx s.l&&zZx s.r)=true):IsSq s (sqI s):=by
 rw[bAt] at h;exact⟨_,_,_,_,rfl,zJg _,zZb _ h.1,zJg _,zZb _ h.2⟩
theorem wQ9 {s:Sq}{x:IV}(h:IsSq s x):IsSq s (age x):=by
 obtain⟨t1,x1,t2,x2,rfl,e1,i1,e2,i2⟩:=h;simp only[age,ages];exact⟨_,_,_,_,rfl,yJp e1,i1.aged,yJp e2,i2.aged⟩
theorem wV0 (G:Gl gl)(T:Gt gl)(hgl:∀g x,gl g=some x->age x=x)(st:ISt)(h0:∀b,st b=none):ICall prog gl 9 [] st (λr st'=>r=.raw (.bool true)/\st'=st):=by
 have hfl:zX4 st:=λb o hb=>by rw[h0] at hb;cases hb
 have hrw:xYt st:=λb cs hb=>by rw[h0] at hb;cases hb
 have hB:=ICall.own (K:=λr=>∃z,r=.tup [z,.raw (.int .i64 0)]/\IsNd (n1 false) z) (args:=[.raw (.int .u8 1),sqI xmS]) hfl hgl ((vZi gl G xmS (age (sqI xmS)) (wQ9 (wYb xmS (by decide))) (by decide) xUa (n1 false) (by decide) vQe st).mono λr st' ⟨⟨z,h1,h2,h3⟩,h4⟩=>⟨h4,by rw[h1];exact⟨h3,trivial,trivial⟩,z,h1,h2⟩);refine ICall.intro (c:=cf prog gl [] [(7,[0,1,2,3,4,5,6,9,10,11,13,14,15,16,24,7,8,12,17,18,19,20,21,22,23,25]),(10,[0,1,2,3,4,5,8,9,10,12,13,21,6,7,11,14,15,16,17,18,19,20,22]),(13,[0,1,2,3,5,6,9,10,11,12,13,14,16,17,27,4,7,8,15,18,19,20,21,22,23,24,25,26,28,29]),(14,[0,1,2,3,4,5,6,7,8,9,10,11,12,13,14,15,16,17,18,19,20,21,22,23,24,25,26,28,29,27,30,31,32,33,34,35,36,37,38,39,40])]) func9 rfl (by show _<=199;simp) (by kernel_rfl) ?_;simp only[go_sem,zE,zB,zA,zM,zS,zL,reduceCtorEq,fits,yQw]
 repeat (first
  | (refine (s_p gl _ _).mono ?_;rintro _ st ⟨rfl,rfl⟩;simp only[go_sem,zE,zB,zA,zM,zS,zL,reduceCtorEq,fits,yQ1,yQd,ord3,ord4,yQw,decide_true,fits])
  | (refine (s_of gl _ _ _ _).mono ?_;rintro _ st ⟨rfl,rfl⟩;simp only[go_sem,zE,zB,zA,zM,zS,zL,reduceCtorEq,fits,yQ1,yQd,ord3,ord4,yQw,decide_true,fits])
  | (refine (s_fs gl _ _ _).mono ?_;rintro _ st ⟨rfl,rfl⟩;simp only[go_sem,zE,zB,zA,zM,zS,zL,reduceCtorEq,fits,yQ1,yQd,ord3,ord4,yQw,decide_true,fits])
  | (refine (s_sq gl _ _ _ _ _).mono ?_;rintro _ st ⟨rfl,rfl⟩;simp only[go_sem,zE,zB,zA,zM,zS,zL,reduceCtorEq,fits,yQ1,yQd,ord3,ord4,yQw,decide_true,fits])
  | (refine (xV3 gl _ _ _ _ _ _ _ _ _ _ _ _ _ _).mono ?_;rintro _ st ⟨rfl,rfl⟩;simp only[go_sem,zE,zB,zA,zM,zS,zL,reduceCtorEq,fits,yQ1,yQd,ord3,ord4,yQw,decide_true,fits]))
 refine hB.mono ?_;rintro _ st1 ⟨_,hfl1,hrw1,_,⟨z,rfl,hz⟩,hO,hY⟩;obtain⟨y,rfl,hOy,hYy⟩:=wUk hO hY;obtain⟨o,n,v4,v5,g1,c1,o2,m2,w4,w5,q1,g2,c2,o3,m3,u4,u5,u8,q2,rfl,ho4,ho5,hc1,hc2,hN1,hN2,z',hz',hO'⟩:=vQk (hrw1 hrw) hz hOy hYy;have ho8:(IV.raw (Value.slice (some ⟨g1,0,none⟩) 1 c1)).one=true:=rfl;have hTr:=ICall.lentFix (K:=λr=>∃y,r=.tup [y,.raw (.int .i64 0)]/\IsTr xmW y) (args:=[sqI xmS,.agg [.raw (.bool false),.raw (.int .i64 0),.raw (.int .u8 o),.raw (.string n),.raw v4,.raw v5,.raw (.bool false),.raw (.int .i64 0),.raw (.slice (some ⟨g1,0,none⟩) 1 c1)]]) (args':=[sqI xmS,age z]) hfl1 hgl ⟨_,_,rfl,.inl rfl,_,_,rfl,.inr ⟨z,hOy,rfl⟩,rfl⟩
  ((vWr gl G xmS (age (sqI xmS)) (wQ9 (wYb xmS (by decide))) (by decide) (n1 false) (age (age z)) hz.aged.aged (by decide) (yVy st1)).mono λr st' ⟨⟨y,h1,h2,h3⟩,h4⟩=>⟨h4,by rw[h1];exact⟨h3,trivial,trivial⟩,age y,by rw[h1,wY8];rfl,by rw[wY8] at h2;exact xUv h2⟩)
 simp only[go_sem,zE,zB,zA,zM,zS,zL,reduceCtorEq,fits,ho4,ho5,ho8];refine hTr.mono ?_;rintro _ st ⟨rfl,y,rfl,hy⟩;have hNo:=λst=>vWy gl G T xmW y hy (by decide) (by decide) st;have hUs:=λst=>wK4 gl G T xmW y hy (by decide) (by decide) st;have hSa:=λw hw st=>zZo gl xmW y w hy hw (by decide) st;rw[vK6] at hNo;rw[vJ2] at hUs;obtain⟨rule',tl',xl',tr1',xr',op',fn',ta',xa',tb',xb',v',un',tu',xu',n',ts2,xs2,rfl⟩:=yKe hy;simp only[go_sem,zE,zB,zA,zM,zS,zL,reduceCtorEq,fits,yQ1,yQd,ord3,ord4,yQw,decide_true]
 repeat (first
  | (refine (s_p gl _ _).mono ?_;rintro _ st ⟨rfl,rfl⟩;simp only[go_sem,zE,zB,zA,zM,zS,zL,reduceCtorEq,fits,yQ1,yQd,ord3,ord4,yQw,decide_true,fits])
  | (refine (s_of gl _ _ _ _).mono ?_;rintro _ st ⟨rfl,rfl⟩;simp only[go_sem,zE,zB,zA,zM,zS,zL,reduceCtorEq,fits,yQ1,yQd,ord3,ord4,yQw,decide_true,fits])
  | (refine (s_fs gl _ _ _).mono ?_;rintro _ st ⟨rfl,rfl⟩;simp only[go_sem,zE,zB,zA,zM,zS,zL,reduceCtorEq,fits,yQ1,yQd,ord3,ord4,yQw,decide_true,fits])
  | (refine (s_sq gl _ _ _ _ _).mono ?_;rintro _ st ⟨rfl,rfl⟩;simp only[go_sem,zE,zB,zA,zM,zS,zL,reduceCtorEq,fits,yQ1,yQd,ord3,ord4,yQw,decide_true,fits])
  | (refine (xV3 gl _ _ _ _ _ _ _ _ _ _ _ _ _ _).mono ?_;rintro _ st ⟨rfl,rfl⟩;simp only[go_sem,zE,zB,zA,zM,zS,zL,reduceCtorEq,fits,yQ1,yQd,ord3,ord4,yQw,decide_true,fits]))
 refine (hNo _).mono ?_;rintro _ st ⟨⟨m,rfl,hm⟩,rfl⟩;have hSm:=λw hw st=>zY6 gl (n1 true) m w hm hw (by decide) st;obtain⟨v1,w1,o1,k1,t1,y1,t2,y2,a1,w2,t3,y3,rfl⟩:=yWx hm;simp only[go_sem,zE,zB,zA,zM,zS,zL,reduceCtorEq,fits,yQ1,yQd,ord3,ord4,yQw,decide_true];refine (hUs _).mono ?_;rintro _ st ⟨⟨u,rfl,hu⟩,rfl⟩;have hSu:=λw hw st=>zZo gl xmV u w hu hw (by decide) st;obtain⟨rule3,tl3,xl3,tr3,xr3,op3,fn3,ta3,xa3,tb3,xb3,v3,un3,tu3,xu3,nn3,ts3,xs3,rfl⟩:=yKe hu;simp only[go_sem,zE,zB,zA,zM,zS,zL,reduceCtorEq,fits,yQ1,yQd,ord3,ord4,yQw,decide_true]
 repeat (first
  | (refine (s_p gl _ _).mono ?_;rintro _ st ⟨rfl,rfl⟩;simp only[go_sem,zE,zB,zA,zM,zS,zL,reduceCtorEq,fits,yQ1,yQd,ord3,ord4,yQw,decide_true,fits])
  | (refine (s_of gl _ _ _ _).mono ?_;rintro _ st ⟨rfl,rfl⟩;simp only[go_sem,zE,zB,zA,zM,zS,zL,reduceCtorEq,fits,yQ1,yQd,ord3,ord4,yQw,decide_true,fits])
  | (refine (s_fs gl _ _ _).mono ?_;rintro _ st ⟨rfl,rfl⟩;simp only[go_sem,zE,zB,zA,zM,zS,zL,reduceCtorEq,fits,yQ1,yQd,ord3,ord4,yQw,decide_true,fits])
  | (refine (s_sq gl _ _ _ _ _).mono ?_;rintro _ st ⟨rfl,rfl⟩;simp only[go_sem,zE,zB,zA,zM,zS,zL,reduceCtorEq,fits,yQ1,yQd,ord3,ord4,yQw,decide_true,fits])
  | (refine (xV3 gl _ _ _ _ _ _ _ _ _ _ _ _ _ _).mono ?_;rintro _ st ⟨rfl,rfl⟩;simp only[go_sem,zE,zB,zA,zM,zS,zL,reduceCtorEq,fits,yQ1,yQd,ord3,ord4,yQw,decide_true,fits]))
 have hUx:=λst=>wK4 gl G T xmX (trJ xmX) (zUh xmX (by decide)) (by decide) (by decide) st;rw[vJ1] at hUx;refine (hUx _).mono ?_;rintro _ st ⟨⟨xx,rfl,hxx⟩,rfl⟩;have hSx:=λw hw st=>zZo gl xmY xx w hxx hw (by decide) st;obtain⟨rule4,tl4,xl4,tr4,xr4,op4,fn4,ta4,xa4,tb4,xb4,v4',un4,tu4,xu4,nn4,ts4,xs4,rfl⟩:=yKe hxx;have hz1:IntKind.i64.wrap ((0:Int)+((0:Nat):Int))=0:=rfl;have hz2:IntKind.i64.wrap (((0:Nat):Int)+((0:Nat):Int))=0:=rfl;have hz3:IntKind.i64.wrap ((0:Int)+(0:Int))=0:=rfl;simp only[go_sem,zE,zB,zA,zM,zS,zL,reduceCtorEq,fits,yQ1,yQd,ord3,ord4,yQw,decide_true,hz1,hz2,hz3];refine (hSa (trJ xmW) (zUh xmW (by decide)) _).mono ?_;rintro _ st ⟨rfl,rfl⟩;simp only[go_sem,zE,zB,zA,zM,zS,zL,reduceCtorEq,fits,yQ1,yQd,ord3,ord4,yQw,decide_true,hz1,hz2,hz3];refine (hSu (trJ xmV) (zUh xmV (by decide)) _).mono ?_;rintro _ st ⟨rfl,rfl⟩;simp only[go_sem,zE,zB,zA,zM,zS,zL,reduceCtorEq,fits,yQ1,yQd,ord3,ord4,yQw,decide_true,hz1,hz2,hz3]
 repeat (first
  | (refine (s_p gl _ _).mono ?_;rintro _ st ⟨rfl,rfl⟩;simp only[go_sem,zE,zB,zA,zM,zS,zL,reduceCtorEq,fits,yQ1,yQd,ord3,ord4,yQw,decide_true,fits])
  | (refine (s_of gl _ _ _ _).mono ?_;rintro _ st ⟨rfl,rfl⟩;simp only[go_sem,zE,zB,zA,zM,zS,zL,reduceCtorEq,fits,yQ1,yQd,ord3,ord4,yQw,decide_true,fits])
  | (refine (s_fs gl _ _ _).mono ?_;rintro _ st ⟨rfl,rfl⟩;simp only[go_sem,zE,zB,zA,zM,zS,zL,reduceCtorEq,fits,yQ1,yQd,ord3,ord4,yQw,decide_true,fits])
  | (refine (s_sq gl _ _ _ _ _).mono ?_;rintro _ st ⟨rfl,rfl⟩;simp only[go_sem,zE,zB,zA,zM,zS,zL,reduceCtorEq,fits,yQ1,yQd,ord3,ord4,yQw,decide_true,fits])
  | (refine (xV3 gl _ _ _ _ _ _ _ _ _ _ _ _ _ _).mono ?_;rintro _ st ⟨rfl,rfl⟩;simp only[go_sem,zE,zB,zA,zM,zS,zL,reduceCtorEq,fits,yQ1,yQd,ord3,ord4,yQw,decide_true,fits]))
 refine (hSx (trJ xmY) (zUh xmY (by decide)) _).mono ?_;rintro _ st ⟨rfl,rfl⟩;simp only[go_sem,zE,zB,zA,zM,zS,zL,reduceCtorEq,fits,yQ1,yQd,ord3,ord4,yQw,decide_true,hz1,hz2,hz3];have hBr:=ICall.borrow (st:=st) (args:=[.agg [.raw (.bool false),.raw (.int .i64 0),.raw (.int .u8 o),.raw (.string n),.raw v4,.raw v5,.raw (.bool false),.raw (.int .i64 0),.raw (.slice (some ⟨g1,0,none⟩) 1 c1)]]) (K:=λr=>r=.raw (.int .i64 (1:Nat))) hfl1 ⟨_,_,rfl,.inr ⟨z,hOy,rfl⟩,rfl⟩
  ((xU8 gl (n1 false) (age z) hz.aged (by decide) (yVy st)).mono λr st' ⟨h1,h2⟩=>⟨h2,by rw[h1];trivial,h1⟩)
 refine hBr.mono ?_;rintro _ st ⟨rfl,rfl⟩;have d1:decide (((1:Nat):Int)=1)=true:=rfl;have d0:(0:Int).toNat=0:=rfl;have hst2:zX4 (st.put g2 (some (.box (.raw (.bool true)::.raw (.int .i64 0)::.raw (.int .u8 o3)::.raw (.string m3)::.raw u4::.raw u5::.raw (.bool true)::.raw (.int .i64 0)::.raw u8::q2)))):=λb o hb=>by
  rw[ISt.put_apply] at hb;split at hb
  ·cases hb;intro x hx;rcases List.mem_cons.1 hx with rfl|hx
   ·trivial
   ·exact hfl1 g2 _ hN2 x (List.mem_cons_of_mem _ hx)
  ·exact hfl1 b o hb
 have hSN:=λ(w:IV) (hw:IsNd (n1 true) w)=>ICall.borrow (P:=prog) (gl:=gl) (f:=39) (args:=[w,.agg [.raw (.bool false),.raw (.int .i64 0),.raw (.int .u8 o),.raw (.string n),.raw v4,.raw v5,.raw (.bool false),.raw (.int .i64 0),.raw (.slice (some ⟨g1,0,none⟩) 1 c1)]]) (args':=[w,age z']) (K:=λr=>r=.raw (.bool true)) hst2 ⟨_,_,rfl,.inl rfl,_,_,rfl,.inr ⟨z',hO',rfl⟩,rfl⟩ ((zY6 gl (n1 true) w (age z') hw hz'.aged (by decide) (yVy _)).mono λr st' ⟨h1,h2⟩=>⟨h2,by rw[h1];trivial,h1⟩);simp only[go_sem,zE,zB,zA,zM,zS,zL,reduceCtorEq,fits,yQ1,yQd,ord3,ord4,yQw,decide_true,d1,d0,hN1,hN2];rw[if_pos (by decide),if_pos (by decide)];refine (hSN _ hm).mono ?_;rintro _ _ ⟨rfl,rfl⟩;simp only[go_sem,zE,zB,zA,zM,zS,zL,reduceCtorEq,fits,ISt.put_same];exact yQc (λb o hb=>by rw[h0] at hb;cases hb) ⟨rfl,rfl⟩
end Go.Proofs.Tryz
namespace Go.Proofs.Tryz
open Go Go.Iv
set_option maxRecDepth 4000
theorem zYu {rule:Nat}{r:Rw}{m:Fm}(h:rowK rule=some r):(r.left=true->m∈(zK2 rule m).l)/\(r.right=true->m∈(zK2 rule m).r)/\(∀f∈(zK2 rule m).l,f=m/\r.left=true)/\(∀f∈(zK2 rule m).r,f=m/\r.right=true) /\
  r.asks=0/\(rule≠17->r.left=true\/r.right=true):=by
 rcases zJq (ca:=1) (by rw[row1];exact h) with h|h|h|h|h|h|h|h|h|h|h|h|h|h|h|h|h|h
 all_goals obtain⟨rfl,rfl⟩:=h
 all_goals first
  | (cases h;done)
  | simp[zK2,yK6]
theorem wKu {s:Sq}{rule:Nat}{m:Fm}{u:Tm}{nm:ByteArray}{sub:List Tr}(h:yXf 1 (.mk rule s m u nm sub)=0) :
  yZn 1 s=true/\∃r,rowK rule=some r/\fmB 1 m=true/\(r.op=0\/m.op=r.op)/\(r.left=true->m∈s.l)/\(r.right=true->m∈s.r) /\
  sub.length=(addS 1 rule m ((m.subs[0]?).getD fm0) ((m.subs[1]?).getD fm0)).length/\yX9 s (addS 1 rule m ((m.subs[0]?).getD fm0) ((m.subs[1]?).getD fm0)) sub=true:=by
 by_cases hc:rule=17
 ·subst hc;simp only[yXf] at h;rcases xQb h with⟨h1,h⟩|⟨h1,h⟩
  ·exact absurd h h1
  rcases xQb h with⟨_,h⟩|⟨h2,h⟩
  ·cases h
  rcases xQb h with⟨h3,_⟩|⟨_,h⟩
  case inr.inr.inr=>cases h
  have h1:=Decidable.not_not.1 h1;have h2:=Decidable.not_not.1 h2;have hv:yZn 1 s=true:=by
   cases hq:yZn 1 s
   ·unfold yJn at h1;rw[hq] at h1;cases h1
   ·rfl
  have hm:fmB 1 m=true:=by
   cases hq:fmB 1 m
   ·unfold yJn at h1;rw[hv,row1] at h1;simp[rowK,yJd,hq] at h1
   ·rfl
  refine⟨hv,⟨false,false,0,0⟩,rfl,hm,.inl rfl,(λh=>nomatch h),(λh=>nomatch h),?_,?_⟩
  ·rw[h2,xYb (r:=⟨false,false,0,0⟩) hv rfl rfl hm (.inl rfl) (λh=>nomatch h) (λh=>nomatch h)]
  ·rw[xYb (r:=⟨false,false,0,0⟩) hv rfl rfl hm (.inl rfl) (λh=>nomatch h) (λh=>nomatch h)] at h3;exact h3
 ·exact wQ7 h hc
theorem vZa {rule:Nat}{r:Rw}{m:Fm}(hr:rowK rule=some r)(hm:fmB 1 m=true)(hop:r.op=0\/m.op=r.op):∀a∈addS 1 rule m ((m.subs[0]?).getD fm0) ((m.subs[1]?).getD fm0),a.l.all (fmB 1)=true/\a.r.all (fmB 1)=true:=by
 intro a ha;by_cases h17:rule=17
 ·subst h17;simp only[addS,if_neg (show ¬ (17=3) by decide),if_neg (show ¬ (17=4) by decide),if_neg (show ¬ (17=5) by decide),if_neg (show ¬ (17=6) by decide),if_neg (show ¬ (17=7) by decide),if_neg (show ¬ (17=8) by decide),if_neg (show ¬ (17=9) by decide),if_neg (show ¬ (17=10) by decide),if_neg (show ¬ (17=11) by decide),if_neg (show ¬ (17=12) by decide),if_neg (show ¬ (17=13) by decide),if_neg (show ¬ (17=14) by decide),if_neg (show ¬ (17=15) by decide),if_neg (show ¬ (17=16) by decide),if_true,List.mem_cons,List.not_mem_nil,or_false] at ha;rcases ha with rfl|rfl<;>simp[hm]
 by_cases h1:rule=1
 ·subst h1;simp[addS] at ha
 by_cases h2:rule=2
 ·subst h2;simp[addS] at ha
 obtain⟨g1,g2,g3,g4,g5⟩:=vJn hr h17 h1 h2;have hop':m.op=r.op:=by omega
 have hfi:=wW2 (m:=⟨yK6 rule,0,m⟩) hm (by show 3<=m.op;omega) (by show m.op<=7;omega);obtain⟨_,hadd,hgood,_⟩:=zQl (m:=⟨yK6 rule,0,m⟩) hm hfi 0;simp only at hadd hgood;rw[hop',g5] at hadd;rw[hadd] at ha;obtain⟨q,hq,rfl⟩:=List.mem_map.1 ha;have hall:∀b,(yZa b q).all (fmB 1)=true:=λb=>List.all_eq_true.2 λf hf=>by
  obtain⟨x,hx,_,rfl⟩:=yJf.1 hf;exact (hgood q hq x hx).1
 exact⟨hall true,hall false⟩
theorem wJp {rule:Nat}{r:Rw}{m:Fm}(hr:rowK rule=some r)(hm:fmB 1 m=true)(hop:r.op=0\/m.op=r.op):addU rule m=addS 1 rule m ((m.subs[0]?).getD fm0) ((m.subs[1]?).getD fm0):=by
 unfold addU xY0;rw[show yKk 1=true from rfl,row1,hr];have e:(!fmB 1 m || (decide (r.op≠0)&&decide (m.op≠r.op)))=false:=by
  rw[hm];rcases hop with h|h<;>simp[h]
 simp only[Bool.not_true,bFt,if_false,yJd,e,if_pos (zYu (m:=m) hr).2.2.2.2.1]
theorem xQl {need:List Fm}:∀ {l r:List Fm} {f:Fm},f∈l.foldl (yGo need) r↔f∈r\/(f∈l/\f∈need)
 | [],r,f=>by simp
 | a::l,r,f=>by
  rw[List.foldl_cons,xQl];unfold yGo;have h1:=yVr (l:=need) (f:=a);have h2:=yVr (l:=r) (f:=a);cases e1:hasL need a<;>cases e2:hasL r a<;>rw[e1] at h1<;>rw[e2] at h2<;>simp only[bFt,false_iff,true_iff,Bool.and_true,Bool.and_false,Bool.not_true,Bool.not_false,if_true,if_false,List.mem_append,List.mem_cons,List.not_mem_nil,or_false,Bool.and_self] at h1 h2 ⊢<;>grind
theorem yJ2 {l need:List Fm}{f:Fm}:f∈yX7 l need↔f∈l/\f∈need:=by
 rw[yX7,xQl];simp
theorem zJw {need:List Fm}:∀ {l r:List Fm},r.Nodup->(l.foldl (yGo need) r).Nodup
 | [],r,h=>h
 | a::l,r,h=>by
  rw[List.foldl_cons];refine zJw ?_;unfold yGo;split
  ·rename_i hc;rw[bAt,Bool.not_eq_true'] at hc;have:a ∉ r:=λh=>by rw[yVr.2 h] at hc;cases hc.2
   rw[List.nodup_append];refine⟨h,by simp,λx hx y hy=>?_⟩;rw[List.mem_singleton.1 hy];rintro rfl;exact this hx
  ·exact h
theorem zQy (l need:List Fm):(yX7 l need).Nodup:=zJw List.nodup_nil
theorem zWa {need:List Fm}:∀ {l r:List Fm},(∀f∈l,f∈need)->(r++l).Nodup->l.foldl (yGo need) r=r++l
 | [],r,_,_=>by simp
 | a::l,r,h,hn=>by
  have ha:a ∉ r:=λhr=>by
   rw[List.nodup_append] at hn;exact hn.2.2 a hr a (by simp) rfl
  have e:yGo need r a=r++[a]:=by
   unfold yGo;rw[yVr.2 (h a (by simp))];cases e2:hasL r a
   ·rfl
   ·exact absurd (yVr.1 e2) ha
  rw[List.foldl_cons,e,zWa (λf hf=>h f (by simp[hf])) (by simpa using hn)];simp
theorem wZ2 (l need:List Fm):yX7 (yX7 l need) need=yX7 l need:=by
 have:=zWa (need:=need) (l:=yX7 l need) (r:=[]) (λf hf=>(yJ2.1 hf).2) (by simpa using zQy l need);simpa[yX7] using this
theorem xVa (l need:List Fm):(yX7 l need).length<=l.length:=by
 have:=(yW6 (need:=need) (l:=l) (r:=[])).2;simpa[yX7] using this
theorem wZ1:∀ {s:Sq}{al:List Sq}{ts:List Tr}{i:Nat}{a:Sq}{t:Tr},yX9 s al ts=true->al[i]?=some a->ts[i]?=some t->yXr t.sq (s.plus a)=true
 | s,m::al,t::ts,0,_,_,h,h1,h2=>by
  simp only[List.getElem?_cons_zero,Option.some.injEq] at h1 h2;subst h1 h2;simp only[yX9,bAt] at h;exact h.1
 | s,m::al,t::ts,i+1,_,_,h,h1,h2=>by
  simp only[yX9,bAt] at h;exact wZ1 (i:=i) h.2 (by simpa using h1) (by simpa using h2)
theorem wZ0:∀ {s:Sq}{al:List Sq}{ts:List Tr},(∀(i:Nat)(a:Sq)(t:Tr),al[i]?=some a->ts[i]?=some t->yXr t.sq (s.plus a)=true)->yX9 s al ts=true
 | s,m::al,t::ts,h=>by
  simp only[yX9,bAt];exact⟨h 0 _ _ rfl rfl,wZ0 λi a t h1 h2=>h (i+1) a t (by simpa using h1) (by simpa using h2)⟩
 | s,[],ts,_=>by simp[yX9]
 | s,_::_,[],_=>by simp[yX9]
theorem zQp:∀l:List Tr,yXl l=l.map yJ9
 | []=>rfl
 | a::l=>by simp only[yXl,List.map_cons,zQp l]
theorem xQg:∀ {l:List Tr},(∀a∈l,yJq 1 a=true)->yY8 1 l=true
 | [],_=>rfl
 | a::l,h=>by simp only[yY8,bAt];exact⟨h a (by simp),xQg λb hb=>h b (by simp[hb])⟩
def vKc (b:Bool)(rule:Nat)(m:Fm)(sub:List Tr)(f:Fm):Prop:=(f=m/\∃r,rowK rule=some r/\(if b then r.left else r.right)=true) \/
 ∃(i:Nat) (a:Sq) (p:Tr),(addU rule m)[i]?=some a/\sub[i]?=some p/\(if b then f∈p.sq.l/\f ∉ a.l else f∈p.sq.r/\f ∉ a.r)
def vWz:Tr->Prop
 | .mk rule s m _ _ sub=>s.l.Nodup/\s.r.Nodup/\(∀f∈s.l,vKc true rule m sub f)/\∀f∈s.r,vKc false rule m sub f
structure UOk (t u:Tr):Prop where
 ok:yJq 1 u=true
 l:∀f∈u.sq.l,f∈t.sq.l
 r:∀f∈u.sq.r,f∈t.sq.r
 st:u.steps<=t.steps
 he:u.height<=t.height
 cu:u.cuts<=t.cuts
 le:Tr.leaves u<=Tr.leaves t
 same:yJ9 u=u
 need:vWz u
theorem wQ0:∀ {l:List Tr},(∀a∈l,UOk a (yJ9 a))->yQj (l.map yJ9)<=yQj l/\yX3 (l.map yJ9)<=yX3 l/\yJ8 (l.map yJ9)<=yJ8 l/\yJu (l.map yJ9)<=yJu l
 | [],_=>by simp
 | a::l,h=>by
  obtain⟨h1,h2,h3,h4⟩:=wQ0 (l:=l) λb hb=>h b (by simp[hb]);have ha:=h a (by simp);have:=ha.st;have:=ha.he;have:=ha.cu;have:=ha.le;simp only[List.map_cons,yQj,yX3,yJ8,yJu];omega
theorem xKq:∀ {l:List Tr}{a:Tr},a∈l->a.steps<=yQj l/\a.height<=yX3 l/\a.cuts<=yJ8 l/\Tr.leaves a<=yJu l
 | b::l,a,h=>by
  simp only[yQj,yX3,yJ8,yJu];rcases List.mem_cons.1 h with rfl|h
  ·omega
  ·have:=xKq h;omega
theorem xVw {l w:List Fm}{f:Fm}:f∈yXq l w↔f∈l/\f ∉ w:=by
 rw[yXq,List.mem_filter];have:=yVr (l:=w) (f:=f);cases e:hasL w f<;>rw[e] at this<;>simp at this ⊢<;>grind
theorem xQm {a b:List Fm}:yJl a b=false↔∀f∈a,f ∉ b:=by
 rw[yJl,List.any_eq_false];constructor
 ·intro h f hf hb;exact h f hf (yVr.2 hb)
 ·intro h f hf hb;exact h f hf (yVr.1 hb)
theorem xWd:∀(al:List Sq)(subs:List Tr)(q:Sq),al.length=subs.length →
  (∃(i:Nat) (a:Sq) (p:Tr),al[i]?=some a/\subs[i]?=some p/\(∀f∈a.l,f ∉ p.sq.l)/\(∀f∈a.r,f ∉ p.sq.r)/\∀fin,yXm fin al subs q=p) \/
  ∃q',(∀fin,yXm fin al subs q=fin q')/\(∀f,f∈q'.l↔f∈q.l\/∃(i:Nat) (a:Sq) (p:Tr),al[i]?=some a/\subs[i]?=some p/\f∈p.sq.l/\f ∉ a.l) /\
   (∀f,f∈q'.r↔f∈q.r\/∃(i:Nat) (a:Sq) (p:Tr),al[i]?=some a/\subs[i]?=some p/\f∈p.sq.r/\f ∉ a.r)
 | [],[],q,_=>.inr ⟨q,λfin=>by rw[yXm],λf=>by simp,λf=>by simp⟩
 | [],_::_,_,h=>by simp at h
 | _::_,[],_,h=>by simp at h
 | a::al,p::subs,q,h=>by
  cases e:(!yJl a.l p.sq.l&&!yJl a.r p.sq.r)
  ·have hgo:∀fin,yXm fin (a::al) (p::subs) q=yXm fin al subs (yKz q p.sq a):=λfin=>by
    rw[yXm,if_neg (by rw[e];decide)]
   rcases xWd al subs (yKz q p.sq a) (by simpa using h) with⟨i,a',p',h1,h2,h3,h4,h5⟩|⟨q',h1,h2,h3⟩
   ·exact .inl ⟨i+1,a',p',by simpa using h1,by simpa using h2,h3,h4,λfin=>(hgo fin).trans (h5 fin)⟩
   ·refine .inr ⟨q',λfin=>(hgo fin).trans (h1 fin),λf=>?_,λf=>?_⟩
    ·rw[h2 f];simp only[yKz,List.mem_append,xVw];constructor
     ·rintro ((h|⟨h,h'⟩)|⟨i,a',p',k1,k2,k3⟩)
      ·exact .inl h
      ·exact .inr ⟨0,a,p,rfl,rfl,h,h'⟩
      ·exact .inr ⟨i+1,a',p',by simpa using k1,by simpa using k2,k3⟩
     ·rintro (h|⟨i,a',p',k1,k2,k3⟩)
      ·exact .inl (.inl h)
      ·cases i with
       | zero =>
        simp only[List.getElem?_cons_zero,Option.some.injEq] at k1 k2;subst k1 k2;exact .inl (.inr k3)
       | succ i=>exact .inr ⟨i,a',p',by simpa using k1,by simpa using k2,k3⟩
    ·rw[h3 f];simp only[yKz,List.mem_append,xVw];constructor
     ·rintro ((h|⟨h,h'⟩)|⟨i,a',p',k1,k2,k3⟩)
      ·exact .inl h
      ·exact .inr ⟨0,a,p,rfl,rfl,h,h'⟩
      ·exact .inr ⟨i+1,a',p',by simpa using k1,by simpa using k2,k3⟩
     ·rintro (h|⟨i,a',p',k1,k2,k3⟩)
      ·exact .inl (.inl h)
      ·cases i with
       | zero =>
        simp only[List.getElem?_cons_zero,Option.some.injEq] at k1 k2;subst k1 k2;exact .inl (.inr k3)
       | succ i=>exact .inr ⟨i,a',p',by simpa using k1,by simpa using k2,k3⟩
  ·rw[bAt,Bool.not_eq_true',Bool.not_eq_true'] at e;exact .inl ⟨0,a,p,rfl,rfl,xQm.1 e.1,xQm.1 e.2,λfin=>by rw[yXm,if_pos (by rw[e.1,e.2];rfl)]⟩
theorem xY7 {s s':Sq}(h:yZn 1 s=true)(h1:s'.l.length<=s.l.length)(h2:s'.r.length<=s.r.length)(h3:∀f∈s'.l,f∈s.l)(h4:∀f∈s'.r,f∈s.r):yZn 1 s'=true:=by
 obtain⟨v1,v2⟩:=yXs h;unfold yZn at h ⊢;simp only[bAt,dTe] at h ⊢;obtain⟨⟨⟨⟨⟨k1,k2⟩,k3⟩,_⟩,_⟩,k6⟩:=h;exact⟨⟨⟨⟨⟨k1,by omega⟩,by omega⟩,List.all_eq_true.2 λf hf=>List.all_eq_true.1 v1 f (h3 f hf)⟩,List.all_eq_true.2 λf hf=>List.all_eq_true.1 v2 f (h4 f hf)⟩,rfl⟩
theorem wQ6 {s:Sq}{rule:Nat}{r:Rw}{m:Fm}{u:Tm}{nm:ByteArray}{sub:List Tr}(hv:yZn 1 s=true)(hr:rowK rule=some r)(hm:fmB 1 m=true)(hop:r.op=0\/m.op=r.op)(hl:r.left=true->m∈s.l)(hrr:r.right=true->m∈s.r)
  (hlen:sub.length=(addU rule m).length) (hp:∀(i:Nat) (a:Sq) (t:Tr),(addU rule m)[i]?=some a->sub[i]?=some t->(∀f∈t.sq.l,f∈s.l\/f∈a.l)/\(∀f∈t.sq.r,f∈s.r\/f∈a.r)) (hg:∀t∈sub,yJq 1 t=true):yJq 1 (.mk rule s m u nm sub)=true:=by
 have hst:=xYb (u:=u) (nm:=nm) hv hr (zYu (m:=m) hr).2.2.2.2.1 hm (by omega) hl hrr;rw[<- wJp hr hm hop] at hst;have hprem:yX9 s (addU rule m) sub=true:=wZ0 λi a t h1 h2=>by
  obtain⟨k1,k2⟩:=hp i a t h1 h2;obtain⟨v1,v2⟩:=yXs (yU9 (hg t (lMg h2)));refine zYb (List.all_eq_true.2 λf hf=>zQe (List.all_eq_true.1 v1 f hf)) (List.all_eq_true.2 λf hf=>zQe (List.all_eq_true.1 v2 f hf)) (λf hf=>?_) (λf hf=>?_)
  ·exact List.mem_append.2 (k1 f hf)
  ·exact List.mem_append.2 (k2 f hf)
 simp only[yJq,bAt,dTe];refine⟨?_,xQg hg⟩;simp only[yXf];rw[hst];simp only[ne_eq,nTf,if_false,hlen,hprem,if_true]
theorem wZ7 {s:Sq}{rule:Nat}{m:Fm}{u:Tm}{nm:ByteArray}{sub:List Tr}(h:yJq 1 (.mk rule s m u nm sub)=true):yZn 1 s=true/\∃r,rowK rule=some r/\fmB 1 m=true/\(r.op=0\/m.op=r.op)/\(r.left=true->m∈s.l)/\(r.right=true->m∈s.r) /\
  sub.length=(addU rule m).length/\(∀(i:Nat) (a:Sq) (t:Tr),(addU rule m)[i]?=some a->sub[i]?=some t->(∀f∈t.sq.l,f∈s.l\/f∈a.l)/\(∀f∈t.sq.r,f∈s.r\/f∈a.r))/\∀t∈sub,yJq 1 t=true:=by
 simp only[yJq,bAt,dTe] at h;obtain⟨hv,r,hr,hm,hop,hl,hrr,hlen,hp⟩:=wKu h.1;have hfm:=vZa hr hm hop;rw[<- wJp hr hm hop] at hlen hp hfm;have hg:∀t∈sub,yJq 1 t=true:=λt ht=>zWe h.2 ht;refine⟨hv,r,hr,hm,hop,hl,hrr,hlen,λi a t h1 h2=>?_,hg⟩;obtain⟨v1,v2⟩:=yXs hv;obtain⟨w1,w2⟩:=hfm a (lMg h1);obtain⟨k1,k2⟩:=xY1 (yU9 (hg t (lMg h2))) (b:=s.plus a) ⟨by show (s.l++a.l).all _=true;rw[List.all_append,v1,w1];rfl,by show (s.r++a.r).all _=true;rw[List.all_append,v2,w2];rfl⟩ (wZ1 hp h1 h2);exact⟨λf hf=>List.mem_append.1 (k1 f hf),λf hf=>List.mem_append.1 (k2 f hf)⟩
theorem xUm {s:Sq}{rule:Nat}{m:Fm}{u:Tm}{nm:ByteArray}{sub:List Tr}(h:yJq 1 (.mk rule s m u nm sub)=true)(IH:∀a∈sub,UOk a (yJ9 a)):UOk (.mk rule s m u nm sub) (yJ9 (.mk rule s m u nm sub)):=by
 obtain⟨hv,r,hr,hm,hop,hl,hrr,hlen,hp,hg⟩:=wZ7 h;obtain⟨n1,n2,n3,n4,_,_⟩:=zYu (m:=m) hr;obtain⟨t1,t2,t3,t4⟩:=wQ0 IH;have hmap:=zQp sub;have hat:∀(i:Nat) (p:Tr),(yXl sub)[i]?=some p->∃a,sub[i]?=some a/\p=yJ9 a:=λi p hi=>by
  rw[hmap,List.getElem?_map] at hi;obtain⟨a,h1,h2⟩:=Option.map_eq_some_iff.1 hi;exact⟨a,h1,h2.symm⟩
 have hne:∀(i:Nat) (a:Tr),sub[i]?=some a->sub.isEmpty=false:=λi a hi=>by
  cases sub with
  | nil=>simp at hi
  | cons=>rfl
 rcases xWd (addU rule m) (yXl sub) (zK2 rule m) (by rw[hmap,List.length_map];exact hlen.symm) with⟨i,a,p,h1,h2,h3,h4,h5⟩|⟨q,h1,h2,h3⟩
 ·obtain⟨c,hc,rfl⟩:=hat i p h2;have hu:yJ9 (.mk rule s m u nm sub)=yJ9 c:=by rw[yJ9,zJ7,h5]
  rw[hu];have hcm:=lMg hc;have hk:=IH c hcm;obtain⟨k1,k2⟩:=hp i a c h1 hc;obtain⟨m1,m2,m3,m4⟩:=xKq hcm;refine⟨hk.ok,λf hf=>?_,λf hf=>?_,?_,?_,?_,?_,hk.same,hk.need⟩
  ·rcases k1 f (hk.l f hf) with h|h
   ·exact h
   ·exact absurd hf (h3 f h)
  ·rcases k2 f (hk.r f hf) with h|h
   ·exact h
   ·exact absurd hf (h4 f h)
  ·have:=hk.st;simp only[Tr.steps];omega
  ·have:=hk.he;simp only[Tr.height];omega
  ·have:=hk.cu;simp only[Tr.cuts];omega
  ·have:=hk.le;rw[Tr.leaves,hne i c hc,if_neg (by decide)];omega
 ·have hu:yJ9 (.mk rule s m u nm sub)=.mk rule ⟨yX7 s.l q.l,yX7 s.r q.r⟩ m tm0 bE (yXl sub):=by rw[yJ9,zJ7,h1]
  have hgu:∀t∈yXl sub,yJq 1 t=true:=λt ht=>by
   rw[hmap] at ht;obtain⟨a,ha,rfl⟩:=List.mem_map.1 ht;exact (IH a ha).ok
  have hs:yXl (yXl sub)=yXl sub:=by
   rw[zQp (yXl sub),hmap,List.map_map];exact List.map_congr_left λa ha=>(IH a ha).same
  rw[hu];refine⟨wQ6 (xY7 hv (xVa _ _) (xVa _ _) (λf hf=>(yJ2.1 hf).1) (λf hf=>(yJ2.1 hf).1)) hr hm hop (λh=>yJ2.2 ⟨hl h,(h2 m).2 (.inl (n1 h))⟩) (λh=>yJ2.2 ⟨hrr h,(h3 m).2 (.inl (n2 h))⟩) (by rw[hmap,List.length_map];exact hlen) (λi a p g1 g2=>?_) hgu,
   λf hf=>(yJ2.1 hf).1,λf hf=>(yJ2.1 hf).1,?_,?_,?_,?_,?_,zQy _ _,zQy _ _,λf hf=>?_,λf hf=>?_⟩
  ·obtain⟨c,hc,rfl⟩:=hat i p g2;have hk:=IH c (lMg hc);obtain⟨k1,k2⟩:=hp i a c g1 hc;constructor
   ·intro f hf;by_cases hfa:f∈a.l
    ·exact .inr hfa
    ·refine .inl (yJ2.2 ⟨(k1 f (hk.l f hf)).resolve_right hfa,(h2 f).2 (.inr ⟨i,a,_,g1,g2,hf,hfa⟩)⟩)
   ·intro f hf;by_cases hfa:f∈a.r
    ·exact .inr hfa
    ·refine .inl (yJ2.2 ⟨(k2 f (hk.r f hf)).resolve_right hfa,(h3 f).2 (.inr ⟨i,a,_,g1,g2,hf,hfa⟩)⟩)
  ·rw[hmap];simp only[Tr.steps];omega
  ·rw[hmap];simp only[Tr.height];omega
  ·rw[hmap];simp only[Tr.cuts];omega
  ·rw[hmap];simp only[Tr.leaves];cases sub with
   | nil=>exact Nat.le_refl _
   | cons b sub=>simpa using t4
  ·rw[yJ9,hs,zJ7,h1];simp only[wZ2]
  ·rcases (h2 f).1 (yJ2.1 hf).2 with h|⟨i,a,p,g1,g2,g3⟩
   ·obtain⟨rfl,hrl⟩:=n3 f h;exact .inl ⟨rfl,r,hr,hrl⟩
   ·exact .inr ⟨i,a,p,g1,g2,g3⟩
  ·rcases (h3 f).1 (yJ2.1 hf).2 with h|⟨i,a,p,g1,g2,g3⟩
   ·obtain⟨rfl,hrl⟩:=n4 f h;exact .inl ⟨rfl,r,hr,hrl⟩
   ·exact .inr ⟨i,a,p,g1,g2,g3⟩
theorem xKi:∀(k:Nat)(t:Tr),SizeOf.sizeOf t<k->yJq 1 t=true->UOk t (yJ9 t)
 | 0,t,h,_=>absurd h (by omega)
 | k+1,.mk rule s m u nm sub,h,ho=>xUm ho λa ha=>xKi k a (by
   have:=lSm ha;simp only[Tr.mk.sizeOf_spec] at h;omega) ((wZ7 ho).2.elim λr hr=>hr.2.2.2.2.2.2.2 a ha)
theorem xUn {t:Tr}(h:yJq 1 t=true):UOk t (yJ9 t):=xKi _ t (Nat.lt_succ_self _) h
theorem wWi {t:Tr}(h:yJq 1 t=true)(hs:t.steps<=300):yXa 1 t=([],0):=by
 have h1:(yXa 1 t).2=0:=zZq.2 ⟨rfl,hs,h⟩;unfold yXa at h1 ⊢;rw[show yKk 1=true from rfl] at h1 ⊢;simp only[Bool.not_true,bFt,if_false] at h1 ⊢;rw[if_neg (by omega)] at h1 ⊢;exact yY3 _ _ h1
theorem wUv {rule:Nat}{s s':Sq}{m:Fm}{u:Tm}{nm:ByteArray}{sub:List Tr}(h:yJq 1 (.mk rule s m u nm sub)=true)(hv:yZn 1 s'=true)(h1:∀f∈s.l,f∈s'.l)(h2:∀f∈s.r,f∈s'.r):yJq 1 (.mk rule s' m u nm sub)=true:=by
 obtain⟨_,r,hr,hm,hop,hl,hrr,hlen,hp,hg⟩:=wZ7 h;exact wQ6 hv hr hm hop (λh=>h1 _ (hl h)) (λh=>h2 _ (hrr h)) hlen (λi a t g1 g2=>⟨λf hf=>((hp i a t g1 g2).1 f hf).imp (h1 f) id,λf hf=>((hp i a t g1 g2).2 f hf).imp (h2 f) id⟩) hg
end Go.Proofs.Tryz
namespace Go.Proofs.Tryz
open Go Go.Iv
set_option maxRecDepth 4000
noncomputable def fewL (ul:List Fm)(f:Fm)(l:List Fm):List Fm:=l.map λg=>if hasF ul g=true then g else f
theorem zGo {ul:List Fm}{f:Fm}{l:List Fm}{g:Fm}(h:g∈fewL ul f l):g∈l\/g=f:=by
 obtain⟨x,hx,rfl⟩:=List.mem_map.1 h;split
 ·exact .inl hx
 ·exact .inr rfl
theorem xWl {ul:List Fm}{f:Fm}{l:List Fm}{g:Fm}(hg:g∈l)(hu:g∈ul)(hf:fmB 1 g=true):g∈fewL ul f l:=List.mem_map.2 ⟨g,hg,if_pos (xJj hf hu)⟩
theorem vW3 {t:Tr}(h:yJq 1 t=true){f:Fm}(hf:fmB 1 f=true){rule:Nat}{s:Sq}{m:Fm}{u:Tm}{nm:ByteArray}{sub:List Tr}(hu:yJ9 t=.mk rule s m u nm sub) :
  yJq 1 (.mk rule ⟨fewL s.l f t.sq.l,fewL s.r f t.sq.r⟩ m u nm sub)=true:=by
 have hk:=xUn h;rw[hu] at hk;have hv:=yU9 h;obtain⟨v1,v2⟩:=yXs hv;have hv':yZn 1 ⟨fewL s.l f t.sq.l,fewL s.r f t.sq.r⟩=true:=by
  unfold yZn at hv ⊢;simp only[bAt,dTe] at hv ⊢;obtain⟨⟨⟨⟨⟨k1,k2⟩,k3⟩,_⟩,_⟩,k6⟩:=hv;refine⟨⟨⟨⟨⟨k1,by simpa[fewL] using k2⟩,by simpa[fewL] using k3⟩,List.all_eq_true.2 λg hg=>?_⟩,List.all_eq_true.2 λg hg=>?_⟩,rfl⟩
  ·rcases zGo hg with h|rfl
   ·exact List.all_eq_true.1 v1 g h
   ·exact hf
  ·rcases zGo hg with h|rfl
   ·exact List.all_eq_true.1 v2 g h
   ·exact hf
 exact wUv hk.ok hv' (λg hg=>xWl (hk.l g hg) hg (List.all_eq_true.1 v1 g (hk.l g hg))) λg hg=>xWl (hk.r g hg) hg (List.all_eq_true.1 v2 g (hk.r g hg))
theorem wG1:∀(al:List Sq)(subs:List Tr)(q:Sq),(∃p∈subs,∀fin,yXm fin al subs q=p)\/∃q',∀fin,yXm fin al subs q=fin q'
 | al,[],q=>.inr ⟨q,λfin=>by cases al<;>rw[yXm]⟩
 | [],p::subs,q=>.inl ⟨p,by simp,λfin=>by rw[yXm]⟩
 | a::al,p::subs,q=>by
  cases e:(!yJl a.l p.sq.l&&!yJl a.r p.sq.r)
  ·rcases wG1 al subs (yKz q p.sq a) with⟨p',h1,h2⟩|⟨q',h1⟩
   ·exact .inl ⟨p',by simp[h1],λfin=>by rw[yXm,e,if_neg (by decide)];exact h2 fin⟩
   ·exact .inr ⟨q',λfin=>by rw[yXm,e,if_neg (by decide)];exact h1 fin⟩
  ·exact .inl ⟨p,by simp,λfin=>by rw[yXm,e,if_pos rfl]⟩
mutual
theorem xUo:∀ {t:Tr},NA t->NA (yJ9 t)
 | .mk rule s m u nm sub,h=>by
  simp only[NA] at h;have hs:=xKj h.2.2.2;rw[yJ9,zJ7];rcases wG1 (addU rule m) (yXl sub) (zK2 rule m) with⟨p,h1,h2⟩|⟨q,h1⟩
  ·rw[h2];exact zU1 hs h1
  ·rw[h1];exact⟨⟨λf hf=>h.1.1 f (yJ2.1 hf).1,λf hf=>h.1.2 f (yJ2.1 hf).1⟩,h.2.1,by decide,hs⟩
theorem xKj:∀ {l:List Tr},NAs l->NAs (yXl l)
 | [],_=>trivial
 | a::l,h=>⟨xUo h.1,xKj h.2⟩
end
end Go.Proofs.Tryz
namespace Go.Proofs.Tryz
open Go Go.Iv
set_option maxRecDepth 4000
variable (gl:Nat->Option IV)
theorem zXw {ul:List Fm}{f:Fm}{l:List Fm}{k:Nat}{a:Fm}(h:l[k]?=some a):fewL ul f (l.take (k+1))=fewL ul f (l.take k)++[if hasF ul a=true then a else f]:=by
 unfold fewL;rw[yQ7 h,List.map_append];rfl
set_option maxHeartbeats 1000000 in
theorem xU3 (G:Gl gl)(T:Gt gl)(hgl:∀g x,gl g=some x->age x=x)(t:Tr)(x:IV)(hx:IsTr t x)(hw:wTr t<=1099511627776)(f:Fm)(y:IV)(hy:IsFm f y)(hwf:wFm f<=1099511627776)(st:ISt)(h0:∀b,st b=none) :
  ICall prog gl 4 [x,y] st (λr st'=>r=.raw (.bool true)/\st'=st):=by
 have hA:=wV0 gl G T hgl st h0;have hsm:=λst=>wWs gl t x hx hw st;have hx0:=hx;have hy0:=hy;obtain⟨rule,s,m,u,nm,sub⟩:=t;obtain⟨tl',xl',tr1',xr',op',fn',ta',xa',tb',xb',v',un',tu',xu',ts2,xs2,rfl,hru,f1,j1,f2',j2,_⟩:=hx.mk;obtain⟨o9,n9,t9,x9,t8,x8,rfl⟩:=hy.agg;clear hx hy;obtain⟨t,ht⟩:∃t,t=Tr.mk rule s m u nm sub:=⟨_,rfl⟩
 rw[<- ht] at hx0 hsm hw;have hts:t.sq=s:=by rw[ht];rfl
 have hsf:IsSq ⟨[f],[]⟩ (.agg [.sl ⟨true,.full,4⟩ [.agg [.raw (.int .u8 o9),.raw (.string n9),.sl t9 x9,.sl t8 x8]],.sl ⟨true,.nil,0⟩ []]):=⟨_,_,_,_,rfl,.inr rfl,⟨_,_,rfl,hy0,rfl⟩,.inl rfl,rfl⟩
 have hfew:=λst=>vY9 gl ⟨[f],[]⟩ _ hsf ⟨by simp only[wFms];omega,by simp only[wFms];omega⟩ st;rw[show wFms [f]+wFms []=wFm f from by simp[wFms]] at hfew;refine iI func4 ?_;simp only[go_sem,zE,zB,zA,zM,zS,zL,reduceCtorEq,fits];refine hA.mono ?_;rintro _ st ⟨rfl,rfl⟩;simp only[go_sem,zE,zB,zA,zM,zS,zL,reduceCtorEq,fits];refine (hsm _).mono ?_;rintro _ st ⟨rfl,rfl⟩;cases q2:(okT t&&decide (t.steps<=60))
 ·simp only[go_sem,zE,zB,zA,zM,zS,zL,reduceCtorEq,fits,q2];exact yQ0 ⟨rfl,rfl⟩
 simp only[go_sem,zE,zB,zA,zM,zS,zL,reduceCtorEq,fits,q2,yQ1];refine (s_fs gl _ _ _).mono ?_;rintro _ st ⟨rfl,rfl⟩;simp only[go_sem,zE,zB,zA,zM,zS,zL,reduceCtorEq,fits];refine (s_sq gl _ _ _ _ _).mono ?_;rintro _ st ⟨rfl,rfl⟩;simp only[go_sem,zE,zB,zA,zM,zS,zL,reduceCtorEq,fits];refine (hfew _).mono ?_;rintro _ st ⟨rfl,rfl⟩;cases q3:decide (wFm f<=300)
 ·simp only[go_sem,zE,zB,zA,zM,zS,zL,reduceCtorEq,fits,q3];exact yQ0 ⟨rfl,rfl⟩
 have hwf3:wFm f<=300:=of_decide_eq_true q3;have hfs:f.size<=1000000:=by have:=zXh f;omega
 have hval:=λst=>wK3 gl G 1 ⟨[f],[]⟩ _ hsf ⟨λg hg=>by rw[List.mem_singleton.1 hg];exact hfs,λg hg=>(by cases hg)⟩ st;simp only[go_sem,zE,zB,zA,zM,zS,zL,reduceCtorEq,fits,q3,yQ1];refine (s_fs gl _ _ _).mono ?_;rintro _ st ⟨rfl,rfl⟩;simp only[go_sem,zE,zB,zA,zM,zS,zL,reduceCtorEq,fits];refine (s_sq gl _ _ _ _ _).mono ?_;rintro _ st ⟨rfl,rfl⟩;simp only[go_sem,zE,zB,zA,zM,zS,zL,reduceCtorEq,fits];refine (hval _).mono ?_;rintro _ st ⟨rfl,rfl⟩;cases q4:yZn 1 ⟨[f],[]⟩
 ·simp only[go_sem,zE,zB,zA,zM,zS,zL,reduceCtorEq,fits,q4];exact yQ0 ⟨rfl,rfl⟩
 have hff:fmB 1 f=true:=by
  have:=(yXs q4).1;simpa using this
 rw[bAt,dTe] at q2;obtain⟨hok,hst⟩:=q2;have hU:=λst=>wK4 gl G T t _ hx0 hok (by omega) st;simp only[go_sem,zE,zB,zA,zM,zS,zL,reduceCtorEq,fits,q4];refine (hU _).mono ?_;rintro _ st ⟨⟨z,rfl,hz⟩,rfl⟩;by_cases hc:(yXa 1 t).2=0
 case neg =>
  have he:zQn t=(tr0,231):=by rw[zQn,if_pos hc]
  rw[he] at hz ⊢;obtain⟨rule3,tl3,xl3,tr3,xr3,op3,fn3,ta3,xa3,tb3,xb3,v3,un3,tu3,xu3,nn3,ts3,xs3,rfl⟩:=yKe hz;have d1:decide (((231:Nat):Int)=0)=false:=rfl;have d2:decide (((231:Nat):Int)=231)=true:=rfl;simp only[go_sem,zE,zB,zA,zM,zS,zL,reduceCtorEq,fits,d1,d2];exact yQ0 ⟨rfl,rfl⟩
 have he:zQn t=(yJ9 t,0):=by rw[zQn,if_neg (by rw[hc];decide)]
 rw[he] at hz ⊢;obtain⟨_,hs300,hall⟩:=zZq.1 hc;have hNA:=xUo (xVl hok);have hust:=(xUn hall).st;have hfo:∀ {rule:Nat} {s:Sq} {m:Fm} {u:Tm} {nm:ByteArray} {sub:List Tr},yJ9 t=.mk rule s m u nm sub->yJq 1 (.mk rule ⟨fewL s.l f t.sq.l,fewL s.r f t.sq.r⟩ m u nm sub)=true:=λh=>vW3 hall hff h;obtain⟨u0,hus⟩:∃u0,yJ9 t=u0:=⟨_,rfl⟩
 obtain⟨rule3,su,m3,u3,nn3,sub3⟩:=u0;replace hz:IsTr (.mk rule3 su m3 u3 nn3 sub3) z:=by rw[<- hus];exact hz
 obtain⟨tl3,xl3,tr3,xr3,op3,fn3,ta3,xa3,tb3,xb3,v3,un3,tu3,xu3,ts3,xs3,rfl,hru3,g1,k1,g2,k2,k3,k4,k5,k6⟩:=hz.mk;have hoth:=hfo hus;rw[hts] at hoth;rw[hus] at hNA hust;have hfu:yY2 su:=wWt hNA;have hfs0:yY2 s:=hts▸wWt (xVl hok);have hlen:s.l.length<=1000/\s.r.length<=1000:=by
  rw[ht,okT,bAt] at hok;have h1:=(yW7 hok.1).1;have:=yZ1 s.l;have:=yZ1 s.r;have:=yZq s.l;have:=yZq s.r;omega
 have d0:decide (((0:Nat):Int)=0)=true:=rfl;simp only[go_sem,zE,zB,zA,zM,zS,zL,reduceCtorEq,fits,d0];refine LoopC.ctr s.l.length (λk fr st' ds=>(∃tg ys,fr 7=.box [.raw (.int .u8 rule3),.sl tg ys,.sl ⟨true,.nil,0⟩ [],.raw (.int .u8 op3),.raw (.string fn3),.sl ta3 xa3,.sl tb3 xb3,.raw (.bool v3),.raw (.string un3),.sl tu3 xu3,.raw (.string nn3),.sl ts3 xs3]/\IsFms (fewL su.l f (s.l.take k)) ys/\own st' tg k 4 st/\subSt st st') /\
  fr 2=.box [.raw (.int .u8 rule),.sl tl' xl',.sl tr1' xr',.raw (.int .u8 op'),.raw (.string fn'),.sl ta' xa',.sl tb' xb',.raw (.bool v'),.raw (.string un'),.sl tu' xu',.raw (.string nm),.sl ts2 xs2] /\
  fr 3=.box [.raw (.int .u8 o9),.raw (.string n9),.sl t9 x9,.sl t8 x8] /\
  fr 5=.box [.raw (.int .u8 rule3),.sl tl3 xl3,.sl tr3 xr3,.raw (.int .u8 op3),.raw (.string fn3),.sl ta3 xa3,.sl tb3 xb3,.raw (.bool v3),.raw (.string un3),.sl tu3 xu3,.raw (.string nn3),.sl ts3 xs3]/\fr 8=.iv (.raw (.int .i64 k))/\ds=[]) ?_ ?_ ?_
 ·simp only[go_sem,zE,zB,zA,zM,zS,zL,reduceCtorEq];exact⟨⟨⟨true,.nil,0⟩,[],rfl,rfl,.inl ⟨rfl,rfl⟩,subSt.refl _⟩,rfl⟩
 ·rintro k fr st1 _ hlt ⟨⟨tg,ys,f7,hys,hown,hsub⟩,f2,f3',f5,f8,rfl⟩;obtain⟨a,ha⟩:=yQ4 hlt;obtain⟨q,hkq,hq⟩:=j1.get ha;have hHas:=λst=>xZr gl G su.l a tl3 xl3 q g1 k1 hq hfu.1 (hfs0.1 a (lMg ha)) st;have hyl:=hys.len;rw[fewL,List.length_map,List.length_take,Nat.min_eq_left (by omega)] at hyl;have hq0:=hq;obtain⟨o5,n5,t5,x5,t6,x6,rfl⟩:=hq.agg;simp only[go_sem,zE,zB,zA,zM,zS,zL,reduceCtorEq,f2,f3',f5,f7,f8,j1.len,lt_i hlt,yQ3 f1,iNn,hkq,fits];intros;refine (hHas _).mono ?_;rintro _ st2 ⟨rfl,rfl⟩;cases hb:hasF su.l a
  ·simp only[go_sem,zE,zB,zA,zM,zS,zL,reduceCtorEq,f2,f3',f5,f7,f8,fits,yQ1];refine yXb hown hyl hsub rfl (by simp[fits,IV.one]) (by simp only;omega) (by omega) λtg3 st5 hown3 hsub5 _=>?_;simp only[go_sem,zE,zB,zA,zM,zS,zL,reduceCtorEq,f2,f3',f5,f7,f8,fits,yQf hlt (show s.l.length<=281474976710656 by omega)];exact⟨tg3,_,rfl,by rw[zXw ha,hb];exact hys.append ⟨_,_,rfl,hy0,rfl⟩,hown3,hsub5⟩
  ·simp only[go_sem,zE,zB,zA,zM,zS,zL,reduceCtorEq,f2,f3',f5,f7,f8,fits,yQ1,yQ3 f1,iNn,hkq];refine yXb hown hyl hsub rfl (by simp[fits,IV.one]) (by simp only;omega) (by omega) λtg3 st5 hown3 hsub5 _=>?_;simp only[go_sem,zE,zB,zA,zM,zS,zL,reduceCtorEq,f2,f3',f5,f7,f8,fits,yQf hlt (show s.l.length<=281474976710656 by omega)];exact⟨tg3,_,rfl,by rw[zXw ha,hb];exact hys.append ⟨_,_,rfl,hq0,rfl⟩,hown3,hsub5⟩
 ·rintro fr st1 _ ⟨⟨tg,ys,f7,hys,hown,hsub⟩,f2,f3',f5,f8,rfl⟩;rw[lTl] at hys;have es1:=hown.es;clear hown;simp only[go_sem,zE,zB,zA,zM,zS,zL,reduceCtorEq,f2,f3',f5,f7,f8,j1.len,yQq (nLi _)];intros;refine LoopC.ctr s.r.length (λk fr st' ds=>(∃tg' ys',fr 7=.box [.raw (.int .u8 rule3),.sl tg ys,.sl tg' ys',.raw (.int .u8 op3),.raw (.string fn3),.sl ta3 xa3,.sl tb3 xb3,.raw (.bool v3),.raw (.string un3),.sl tu3 xu3,.raw (.string nn3),.sl ts3 xs3]/\IsFms (fewL su.r f (s.r.take k)) ys'/\own st' tg' k 4 st1/\subSt st1 st') /\
   fr 2=.box [.raw (.int .u8 rule),.sl tl' xl',.sl tr1' xr',.raw (.int .u8 op'),.raw (.string fn'),.sl ta' xa',.sl tb' xb',.raw (.bool v'),.raw (.string un'),.sl tu' xu',.raw (.string nm),.sl ts2 xs2] /\
   fr 3=.box [.raw (.int .u8 o9),.raw (.string n9),.sl t9 x9,.sl t8 x8] /\
   fr 5=.box [.raw (.int .u8 rule3),.sl tl3 xl3,.sl tr3 xr3,.raw (.int .u8 op3),.raw (.string fn3),.sl ta3 xa3,.sl tb3 xb3,.raw (.bool v3),.raw (.string un3),.sl tu3 xu3,.raw (.string nn3),.sl ts3 xs3]/\fr 9=.iv (.raw (.int .i64 k))/\ds=[]) ?_ ?_ ?_
  ·simp only[go_sem,zE,zB,zA,zM,zS,zL,reduceCtorEq,f2,f3',f5,f7];exact⟨⟨⟨true,.nil,0⟩,[],rfl,rfl,.inl ⟨rfl,rfl⟩,subSt.refl _⟩,rfl⟩
  ·clear f2 f3' f5 f7 f8;rintro k fr st2 _ hlt ⟨⟨tg',ys',f7,hys',hown,hsub'⟩,f2,f3',f5,f9,rfl⟩;obtain⟨a,ha⟩:=yQ4 hlt;obtain⟨q,hkq,hq⟩:=j2.get ha;have hHas:=λst=>xZr gl G su.r a tr3 xr3 q g2 k2 hq hfu.2 (hfs0.2 a (lMg ha)) st;have hyl:=hys'.len;rw[fewL,List.length_map,List.length_take,Nat.min_eq_left (by omega)] at hyl;have hq0:=hq;obtain⟨o5,n5,t5,x5,t6,x6,rfl⟩:=hq.agg;simp only[go_sem,zE,zB,zA,zM,zS,zL,reduceCtorEq,f2,f3',f5,f7,f9,j2.len,lt_i hlt,yQ3 f2',iNn,hkq,fits];intros;refine (hHas _).mono ?_;rintro _ st3 ⟨rfl,rfl⟩;cases hb:hasF su.r a
   ·simp only[go_sem,zE,zB,zA,zM,zS,zL,reduceCtorEq,f2,f3',f5,f7,f9,fits,yQ1];refine yXb hown hyl hsub' rfl (by simp[fits,IV.one]) (by simp only;omega) (by omega) λtg3 st5 hown3 hsub5 _=>?_;simp only[go_sem,zE,zB,zA,zM,zS,zL,reduceCtorEq,f2,f3',f5,f7,f9,fits,yQf hlt (show s.r.length<=281474976710656 by omega)];exact⟨tg3,_,rfl,by rw[zXw ha,hb];exact hys'.append ⟨_,_,rfl,hy0,rfl⟩,hown3,hsub5⟩
   ·simp only[go_sem,zE,zB,zA,zM,zS,zL,reduceCtorEq,f2,f3',f5,f7,f9,fits,yQ1,yQ3 f2',iNn,hkq];refine yXb hown hyl hsub' rfl (by simp[fits,IV.one]) (by simp only;omega) (by omega) λtg3 st5 hown3 hsub5 _=>?_;simp only[go_sem,zE,zB,zA,zM,zS,zL,reduceCtorEq,f2,f3',f5,f7,f9,fits,yQf hlt (show s.r.length<=281474976710656 by omega)];exact⟨tg3,_,rfl,by rw[zXw ha,hb];exact hys'.append ⟨_,_,rfl,hq0,rfl⟩,hown3,hsub5⟩
  ·clear f2 f3' f5 f7 f8;rintro fr st2 _ ⟨⟨tg',ys',f7,hys',hown,hsub'⟩,f2,f3',f5,f9,rfl⟩;rw[lTl] at hys';have hoI:IsTr (.mk rule3 ⟨fewL su.l f s.l,fewL su.r f s.r⟩ m3 u3 nn3 sub3) (.agg [.raw (.int .u8 rule3),.sl tg ys,.sl tg' ys',.raw (.int .u8 op3),.raw (.string fn3),.sl ta3 xa3,.sl tb3 xb3,.raw (.bool v3),.raw (.string un3),.sl tu3 xu3,.raw (.string nn3),.sl ts3 xs3]):=by
    simp only[IsTr];exact⟨_,_,_,_,_,_,_,_,_,_,_,_,_,_,_,_,rfl,hru3,es1,hys,hown.es,hys',k3,k4,k5,k6⟩
   have hNAo:NA (.mk rule3 ⟨fewL su.l f s.l,fewL su.r f s.r⟩ m3 u3 nn3 sub3):=by
    simp only[NA] at hNA ⊢;exact⟨⟨λg hg=>(zGo hg).elim (hfs0.1 g) λh=>h▸hfs,λg hg=>(zGo hg).elim (hfs0.2 g) λh=>h▸hfs⟩,hNA.2⟩
   have hso:(Tr.mk rule3 ⟨fewL su.l f s.l,fewL su.r f s.r⟩ m3 u3 nn3 sub3).steps<=300:=by
    simp only[Tr.steps] at hust ⊢;omega
   have hC:=λst=>xK7 gl G T 1 _ _ hoI (wGc hNAo (by omega)) st;rw[wWi hoth hso] at hC;simp only[go_sem,zE,zB,zA,zM,zS,zL,reduceCtorEq,f2,f3',f5,f7,f9,j2.len,yQq (nLi _),fits];intros;refine (hC _).mono ?_;rintro _ st3 ⟨⟨tg2,rfl,htg2⟩,rfl⟩;simp only[go_sem,zE,zB,zA,zM,zS,zL,reduceCtorEq,fits,d0];exact yQc (hsub.trans hsub') ⟨rfl,rfl⟩
end Go.Proofs.Tryz
namespace Go.Proofs.Tryz
open Go Go.Iv Go.ChangeShapes
open Go.Proofs.YtddfdpbibloljaaGreatDoor.Rows (uptoBulk uptoBulkAll)
set_option maxRecDepth 4000
theorem uSeq:prog.underlying 24=some (.struct #[⟨ "Left",22,0,false, "", "",0⟩,⟨ "Right",22,1,false, "", "",24⟩]):=by kernel_rfl
theorem vJ5:prog.underlying 37=some (.struct #[⟨ "Rule",5,0,false, "", "",0⟩,⟨ "Seq",24,1,false, "", "",8⟩,⟨ "Main",27,3,false, "", "",56⟩,⟨ "Term",34,7,false, "", "",128⟩,⟨ "Name",9,10,false, "", "",176⟩,⟨ "Sub",35,11,false, "", "",192⟩]):=by kernel_rfl
theorem vJ4:prog.underlying 35=some (.slice 37):=by kernel_rfl
theorem nSeq:prog.cellsOf 24=2:=by kernel_rfl
theorem vKd:prog.cellsOf 37=12:=by kernel_rfl
mutual
theorem xKe:∀t:Tm,wTm t<=2*xGw t
 | .mk _ n us=>by have:=zJ3 us;simp only[wTm,xGw];omega
theorem zJ3:∀l:List Tm,wTms l<=2*yU0 l
 | []=>Nat.le_refl _
 | a::l=>by have:=xKe a;have:=zJ3 l;simp only[wTms,yU0];omega
end
mutual
theorem zYd:∀f:Fm,wFm f<=2*xJu f
 | .mk _ n us sub=>by have:=zJ3 us;have:=yUl sub;simp only[wFm,xJu];omega
theorem yUl:∀l:List Fm,wFms l<=2*zQk l
 | []=>Nat.le_refl _
 | a::l=>by have:=zYd a;have:=yUl l;simp only[wFms,zQk];omega
end
section
variable {H:Type}{enc:TypeId×Value->H}{w:World}{spare:Nat->Bool}{held:Bool}
def RQ (d:DataW H)(s:Sq)(x:IV):Prop:=IsSq s x/\wFms s.l+wFms s.r<=2*uptoBulk d
theorem vJl (fuel:Nat)(cs:List Value)(y:DataW H×List MemPlace)(h:DataW.trod enc prog w 0 spare held fuel 24 cs=some y)(hb:uptoBulk y.1<=1048576):∃s x,VL 0 (L0 w) w cs x.cells/\RQ y.1 s x:=by
 obtain⟨ys,n,rfl,rfl,hl,hlen,hf⟩:=DataW.trod_struct uSeq h
 match ys,hlen with
 | [y0,y1],_ =>
  rw[nSeq] at hl
  match cs,hl with
  | [c0,c1],_ =>
   have h0:=hf 0 _ rfl;have h1:=hf 1 _ rfl;simp only[List.getElem?_cons_zero,List.getElem?_cons_succ] at h0 h1;simp only[List.map_cons,List.map_nil,uptoBulk,uptoBulkAll] at hb;obtain⟨v0,tg0,xs0,l0,e0,hv0,ht0,hl0,hb0⟩:=zGi h0 (by omega) (λm _=>zGj m);obtain⟨v1,tg1,xs1,l1,e1,hv1,ht1,hl1,hb1⟩:=zGi h1 (by omega) (λm _=>zGj m);cases e0;cases e1;refine⟨⟨l0,l1⟩,.agg [.sl tg0 xs0,.sl tg1 xs1],VL.cons hv0 (VL.cons hv1 VL.nil),⟨tg0,xs0,tg1,xs1,rfl,ht0,hl0,ht1,hl1⟩,?_⟩;have:=yUl l0;have:=yUl l1;simp only[List.map_cons,List.map_nil,uptoBulk,uptoBulkAll];omega
theorem xQv:∀ {us:List Tr}{xs:List IV},us.length=xs.length->(∀(i:Nat)(a:Tr)(x:IV),us[i]?=some a->xs[i]?=some x->IsTr a x)->IsTrs us xs
 | [],xs,h,_=>by simpa[IsTrs] using h.symm
 | a::us,[],h,_=>by simp at h
 | a::us,x::xs,h,hh=>⟨x,xs,rfl,hh 0 a x rfl rfl,xQv (by simpa using h) (λi b y hb hy=>hh (i+1) b y (by simpa using hb) (by simpa using hy))⟩
theorem xKc:∀ {us:List Tr}{ds:List (DataW H)},us.length=ds.length->(∀(i:Nat)(a:Tr)(d:DataW H),us[i]?=some a->ds[i]?=some d->wTr a+a.steps<=2*uptoBulk d)->wTrs us+yQj us<=2*uptoBulkAll ds
 | [],ds,h,_=>by simp[wTrs,yQj]
 | a::us,[],h,_=>by simp at h
 | a::us,x::xs,h,hh=>by
  have h1:=hh 0 a x rfl rfl;have h2:=xKc (us:=us) (ds:=xs) (by simpa using h) (λi b y hb hy=>hh (i+1) b y (by simpa using hb) (by simpa using hy));simp only[wTrs,yQj,uptoBulkAll];omega
def RR (d:DataW H)(t:Tr)(x:IV):Prop:=IsTr t x/\wTr t+t.steps<=2*uptoBulk d
theorem RR.cells {d:DataW H}{t:Tr}{x:IV}(h:RR d t x):x.cells.length=12:=by
 obtain⟨_,_,_,_,_,_,_,_,_,_,_,_,_,_,_,_,_,_,rfl⟩:=yKe h.1;rfl
theorem wKk {fuel:Nat}{cs:List Value}{y:DataW H×List MemPlace}(h:DataW.trod enc prog w 0 spare held fuel 35 cs=some y)(hb:uptoBulk y.1<=1048576)
  (IH:∀(n:Nat),n<fuel->∀(cs:List Value) (y:DataW H×List MemPlace),DataW.trod enc prog w 0 spare held n 37 cs=some y->uptoBulk y.1<=1048576->∃t x,VL 0 (L0 w) w cs x.cells/\RR y.1 t x) :
  ∃v tg xs ts,cs=[v]/\V 0 (L0 w) w v (.sl tg xs)/\okEs tg 12/\IsTrs ts xs/\wTrs ts+yQj ts+1<=2*uptoBulk y.1:=by
 obtain⟨v,tg,xs,ts,rfl,hv,htg,hl,hc⟩:=xXu (H:=H) (P:=prog) (d:=y.1) (p:=y.2) RR vJ4 vKd (by decide) h (λelems sp e=>by
   have:=yKw elems sp;have:=zQ5 elems;rw[<- e] at *;omega) (λd t x h=>h.cells) (λn hn cs' z q ⟨elems,sp,he,hm⟩ hz=>by
   have:=yKw elems sp;have:=zG0 hm;rw[he] at hb;exact IH n (by omega) cs' (z,q) hz (show uptoBulk z<=1048576 by omega))
 refine⟨v,tg,xs,ts,rfl,hv,htg,?_⟩;rcases hc with⟨hd,rfl⟩|⟨elems,sp,hd,hel,hr⟩
 ·obtain rfl:ts=[]:=List.length_eq_zero_iff.1 (by simpa using hl);exact⟨rfl,by rw[hd];simp[wTrs,yQj,uptoBulk]⟩
 ·have hi:∀(i:Nat) (a:Tr),ts[i]?=some a->∃x d,xs[i]?=some x/\elems[i]?=some d/\RR d a x:=λi a ha=>by
   have hi:=(lGs ha).1;exact⟨_,_,List.getElem?_eq_getElem (by omega),List.getElem?_eq_getElem (by omega),hr i _ _ _ (List.getElem?_eq_getElem (by omega)) ha (List.getElem?_eq_getElem (by omega))⟩
  refine⟨xQv hl (λi a x ha hx=>?_),?_⟩
  ·obtain⟨x',d,h1,h2,h3⟩:=hi i a ha;rw[hx] at h1;cases h1;exact h3.1
  ·have:=xKc (us:=ts) (ds:=elems) (by omega) (λi a d ha hd'=>by
    obtain⟨x',d',h1,h2,h3⟩:=hi i a ha;rw[hd'] at h2;cases h2;exact h3.2)
   have:=yKw elems sp;grind
theorem cs12 {cs:List Value}(h:cs.length=12):∃a b c d e f g h i j k l,cs=[a,b,c,d,e,f,g,h,i,j,k,l]:=by
 match cs,h with
 | [a,b,c,d,e,f,g,h,i,j,k,l],_=>exact⟨a,b,c,d,e,f,g,h,i,j,k,l,rfl⟩
theorem wGw:∀(fuel:Nat)(cs:List Value)(y:DataW H×List MemPlace),DataW.trod enc prog w 0 spare held fuel 37 cs=some y->uptoBulk y.1<=1048576->∃t x,VL 0 (L0 w) w cs x.cells/\RR y.1 t x:=by
 intro fuel
 induction fuel using Nat.strongRecOn with
 | ind fuel IH =>
  intro cs y h hb;obtain⟨ys,n,rfl,rfl,hl,hlen,hf⟩:=DataW.trod_struct vJ5 h
  match ys,hlen with
  | [y0,y1,y2,y3,y4,y5],_ =>
   rw[vKd] at hl;obtain⟨c0,c1,c2,c3,c4,c5,c6,c7,c8,c9,c10,c11,rfl⟩:=cs12 hl;have h0:=hf 0 _ rfl;have h1:=hf 1 _ rfl;have h2:=hf 2 _ rfl;have h3:=hf 3 _ rfl;have h4:=hf 4 _ rfl;have h5:=hf 5 _ rfl;simp only[List.getElem?_cons_zero,List.getElem?_cons_succ] at h0 h1 h2 h3 h4 h5;simp only[List.map_cons,List.map_nil,uptoBulk,uptoBulkAll] at hb;obtain⟨op,e0,rfl,hop⟩:=DataW.trod_int uU8 h0;obtain⟨s,xs,hvs,hs1,hs2⟩:=vJl n _ _ h1 (by omega);obtain⟨f,xf,hvf,hf1,hf2⟩:=zGj n _ _ h2 (by omega);obtain⟨t,xt,hvt,ht1,ht2⟩:=xUx n _ _ h3 (by omega);obtain⟨nm,e4,hn,hn2⟩:=wQ4 h4 (by omega);obtain⟨v,tg,xb,ts,e5,hv,htg,hts,hbk⟩:=wKk h5 (by omega) (λm hm=>IH m (by omega));cases e0;cases e4;cases e5;have hop:0<=op/\op<256:=by
    simp only[Lit.wf,IntKind.min,IntKind.max,IntKind.signed,IntKind.bits,bAt] at hop;grind
   obtain⟨k,rfl⟩:=Int.eq_ofNat_of_zero_le hop.1;obtain⟨tl,xl,tr,xr,rfl,k1,k2,k3,k4⟩:=hs1;have hf0:=hf1;have ht0:=ht1;obtain⟨o,fn,us,sub⟩:=f;obtain⟨ta,xa,tb,xb',rfl,_⟩:=hf1.mk;obtain⟨b,un,uu⟩:=t;obtain⟨tu,xu,rfl,_⟩:=ht1.mk;refine⟨.mk k s (.mk o fn us sub) (.mk b un uu) nm ts,.agg [.raw (.int .u8 k),.sl tl xl,.sl tr xr,.raw (.int .u8 o),.raw (.string fn),.sl ta xa,.sl tb xb',.raw (.bool b),.raw (.string un),.sl tu xu,.raw (.string nm),.sl tg xb],
    VL.cons (.raw _ trivial) (hvs.append (hvf.append (hvt.append (VL.cons hn (VL.cons hv VL.nil))))),?_,?_⟩
   ·simp only[IsTr];grind
   ·have:=zYd (.mk o fn us sub);have:=xKe (.mk b un uu);simp only[List.map_cons,List.map_nil,uptoBulk,uptoBulkAll,wTr,Tr.steps];omega
end
end Go.Proofs.Tryz
namespace Go.Proofs.Tryz
open Go Go.Iv Go.ChangeShapes Go.RowKit
open Go.Proofs.YtddfdpbibloljaaGreatDoor
set_option maxRecDepth 8000
theorem uRow:prog.underlying 193=some (.struct #[⟨ "right",4,0,false, "", "lyceum/syntax",0⟩,⟨ "schema",4,1,false, "", "lyceum/syntax",1⟩,⟨ "name",5,2,false, "", "lyceum/syntax",2⟩,⟨ "args",3,3,false, "", "lyceum/syntax",8⟩,⟨ "subs",3,4,false, "", "lyceum/syntax",16⟩]):=by kernel_rfl
theorem uZf:prog.underlying 194=some (.array 17 193):=by kernel_rfl
theorem uInt:prog.underlying 3=some (.int .i64):=by kernel_rfl
theorem nRow:prog.cellsOf 193=5:=by kernel_rfl
theorem uVi:prog.cellsOf 194=85:=by kernel_rfl
theorem gRows:prog.globalNamed "lyceum/syntax.rows" = some 0:=by kernel_rfl
theorem gRowsT:(prog.globals[0]?).map (·.type)=some 194:=by kernel_rfl
theorem gPow:prog.globalNamed "internal/strconv.uint64pow10" = some 2:=by kernel_rfl
theorem gPowT:(prog.globals[2]?).map (·.type)=some 318:=by kernel_rfl
theorem uPow:prog.underlying 318=some (.array 20 295):=by kernel_rfl
theorem uU64:prog.underlying 295=some (.int .u64):=by kernel_rfl
theorem nPow:prog.cellsOf 318=20:=by kernel_rfl
theorem nU64:prog.cellsOf 295=1:=by kernel_rfl
section
variable {H:Type}{enc:TypeId×Value->H}{w:World}{spare:Nat->Bool}{held:Bool}
def rowD (op:Nat):DataW H:=.agg [.lit (.bool (yZb op)),.lit (.bool (zJr op)),.lit (.int .u8 (yXd op)),.lit (.int .i64 (yX6 op)),.lit (.int .i64 (yX5 op))]
def rowV (op:Nat):List Value:=[.bool (yZb op),.bool (zJr op),.int .u8 (yXd op),.int .i64 (yX6 op),.int .i64 (yX5 op)]
theorem wQt {fuel:Nat}{cs:List Value}{op:Nat}{p:List MemPlace}(h:DataW.trod enc prog w 0 spare held fuel 193 cs=some (rowD op,p)):cs=rowV op:=by
 obtain⟨ys,n,rfl,he,hl,hlen,hf⟩:=DataW.trod_struct uRow h
 match ys,hlen with
 | [y0,y1,y2,y3,y4],_ =>
  rw[nRow] at hl
  match cs,hl with
  | [c0,c1,c2,c3,c4],_ =>
   have h0:=hf 0 _ rfl;have h1:=hf 1 _ rfl;have h2:=hf 2 _ rfl;have h3:=hf 3 _ rfl;have h4:=hf 4 _ rfl;simp only[List.getElem?_cons_zero,List.getElem?_cons_succ] at h0 h1 h2 h3 h4;obtain⟨b0,e0,rfl⟩:=DataW.trod_bool xUr h0;obtain⟨b1,e1,rfl⟩:=DataW.trod_bool xUr h1;obtain⟨b2,e2,rfl,_⟩:=DataW.trod_int uU8 h2;obtain⟨b3,e3,rfl,_⟩:=DataW.trod_int uInt h3;obtain⟨b4,e4,rfl,_⟩:=DataW.trod_int uInt h4;cases e0;cases e1;cases e2;cases e3;cases e4;have he1:=congrArg Prod.fst he;simp only[rowD,List.map_cons,List.map_nil,DataW.agg.injEq,List.cons.injEq,DataW.lit.injEq,Lit.bool.injEq,Lit.int.injEq,true_and,and_true] at he1;obtain⟨rfl,rfl,rfl,rfl,rfl⟩:=he1;rfl
theorem wQs:(Rows.laid_lyceum_syntax_rows:DataW H)=.agg ((List.range 17).map rowD):=by rfl
theorem xYr {fuel:Nat}{cs:List Value}{p:List MemPlace}(h:DataW.trod enc prog w 0 spare held fuel 194 cs=some (Rows.laid_lyceum_syntax_rows,p)) :
  cs.length=85/\∀op,op<17->(cs.drop (op*5)).take 5=rowV op:=by
 obtain⟨ys,n,rfl,he,hl,hlen,hf⟩:=DataW.trod_array uZf h;rw[uVi] at hl;refine⟨hl,λop hop=>?_⟩;have h1:=hf op hop;rw[nRow] at h1;have he1:=congrArg Prod.fst he;rw[wQs] at he1;simp only[DataW.agg.injEq] at he1;have h2:(ys.map (·.1))[op]?=some (rowD op):=by
  rw[<- he1,List.getElem?_map,List.getElem?_range hop];rfl
 rw[List.getElem?_map] at h2;obtain⟨y,hy,hy2⟩:=Option.map_eq_some_iff.1 h2;rw[hy] at h1;obtain⟨y1,y2⟩:=y;simp only at hy2;subst hy2;exact wQt h1
end
def gl0:Nat->Option IV
 | 0=>some (.agg rowsL)
 | 2=>some (.agg pow10L)
 | _=>none
theorem G0:Gl gl0:=⟨rfl⟩
theorem T0:Gt gl0:=⟨rfl⟩
def X0 (w:World):WS:={ w:=w,L:=L0 w,st:=λ_=>none,d:=0 }
theorem xXp {cs:List Value}(hl:cs.length=85)(h:∀op,op<17->(cs.drop (op*5)).take 5=rowV op)(i:Nat)(r:Value)(c:IV)(hr:cs[i]?=some r)(hc:rowsL[i]?=some c):c=.raw r/\zQw r:=by
 have hi:i<85:=by have:=(lGs hr).1;omega
 have hop:i / 5<17:=by omega
 have e:i=i / 5*5+i%5:=by omega
 have hm:i%5<5:=Nat.mod_lt _ (by decide);have h1:(rowV (i / 5))[i%5]?=some r:=by
  rw[<- h _ hop,List.getElem?_take,if_pos hm,List.getElem?_drop,<- e];exact hr
 have h2:(rowI (i / 5))[i%5]?=some c:=by
  rw[<- (zW4 _ hop).2,List.getElem?_take,if_pos hm,List.getElem?_drop,<- e];exact hc
 generalize i%5=k at h1 h2 hm
 match k,hm with
 | 0,_=>cases h1;cases h2;exact⟨rfl,trivial⟩
 | 1,_=>cases h1;cases h2;exact⟨rfl,trivial⟩
 | 2,_=>cases h1;cases h2;exact⟨rfl,trivial⟩
 | 3,_=>cases h1;cases h2;exact⟨rfl,trivial⟩
 | 4,_=>cases h1;cases h2;exact⟨rfl,trivial⟩
theorem uWb {W:World}(hL:laidMetH prog Rows.signsKeepsUptoRow.laid W):Go.Iv.Good ⟨prog,gl0,0⟩ (X0 W):=by
 obtain⟨ps,hlv,_⟩:=(show laidMet prog _ W from hL)
 obtain⟨_,_,_,_,_,_,_,_,_,_,hlv,_⟩:=hlv;obtain⟨_,_,_,_,_,_,_,_,_,_,hlv,_⟩:=hlv;obtain⟨g1,t1,cs1,f1,p1,q1,hg1,ht1,hv1,hd1,hlv,_⟩:=hlv;obtain⟨g2,t2,cs2,f2,p2,q2,hg2,ht2,hv2,hd2,_,_⟩:=hlv;obtain rfl:=Option.some.inj (gPow.symm.trans hg1);obtain rfl:=Option.some.inj (gPowT.symm.trans ht1);obtain rfl:=Option.some.inj (gRows.symm.trans hg2);obtain rfl:=Option.some.inj (gRowsT.symm.trans ht2);have hc1:=Lib.cells_of_tab (zs:=Lib.pow10Tab) uPow uU64 nU64 nPow hd1;have hc2:=xYr hd2;have hb:∀(n:String) (g:Nat) (cs:Array Value),prog.globalNamed n=some g->W.var? prog n=some cs->∃T f,W.heap[g]?=some (.cells cs T f):=by
  intro n g cs hn hv;unfold World.var? at hv;rw[hn,Option.bind_some] at hv;split at hv
  ·rename_i c t f hh;cases hv;exact⟨_,_,hh⟩
  ·cases hv
 obtain⟨T1,fr1,hh1⟩:=hb _ _ _ gPow hv1;obtain⟨T2,fr2,hh2⟩:=hb _ _ _ gRows hv2;have row:∀(g:Nat) (cs:Array Value) (T:TypeId) (f:Nat×Nat) (xs:List IV),W.heap[g]?=some (.cells cs T f)->cs.size=xs.length->(∀(i:Nat) (r:Value) (c:IV),cs.toList[i]?=some r->xs[i]?=some c->c=.raw r/\zQw r) →
   V 0 (L0 W) W (.pointer (some ⟨g,0,none⟩)) (.cptr (.agg xs)):=by
  intro g cs T f xs hh hl h;refine .cptr _ _ cs.toList rfl (by simpa[IV.cells] using hl) ?_ (λi r hr=>?_) (λi r c hr hc=>?_)
  ·show 0+cs.toList.length<=L0 W g;simp[L0,hh]
  ·show W.cell? ⟨g,0+i,none⟩=some r;simp only[World.cell?,hh,Nat.zero_add];simpa using hr
  ·obtain⟨rfl,hk⟩:=h i r c hr hc;exact .raw _ hk
 have hp:∀(i:Nat) (r:Value) (c:IV),cs1.toList[i]?=some r->pow10L[i]?=some c->c=.raw r/\zQw r:=by
  intro i r c hr hc;rw[hc1,List.getElem?_map] at hr;unfold pow10L at hc;rw[List.getElem?_map] at hc;obtain⟨z,hz,rfl⟩:=Option.map_eq_some_iff.1 hr;rw[hz] at hc;cases hc;exact⟨rfl,trivial⟩
 have hs1:cs1.size=pow10L.length:=by
  rw[<- Array.length_toList,hc1];simp[pow10L]
 have hs2:cs2.size=rowsL.length:=by
  rw[<- Array.length_toList,hc2.1];rfl
 refine⟨λb o h=>(by cases h),λg x hx=>?_,Nat.zero_le _,λb hb=>?_,λg x hx=>?_,λ_=>Nat.zero_le _⟩
 ·match g,hx with
  | 0,hx=>cases hx;exact row 0 cs2 T2 fr2 _ hh2 hs2 (λi r c hr hc=>xXp hc2.1 hc2.2 i r c hr hc)
  | 2,hx=>cases hx;exact row 2 cs1 T1 fr1 _ hh1 hs1 hp
 ·show L0 W b=0;unfold L0;rw[Array.getElem?_eq_none (show W.heap.size<=b from hb)]
 ·match g,hx with
  | 0,hx=>cases hx;exact⟨T2,fr2 == (0,0),by show shq W 0=_;simp[shq,hh2,hs2,IV.cells]⟩
  | 2,hx=>cases hx;exact⟨T1,fr1 == (0,0),by show shq W 2=_;simp[shq,hh1,hs1,IV.cells]⟩
theorem xZl {W:World}{X':WS}(h:Ext (X0 W) X'):Below W.heap.size W X'.w :=
 ⟨h.os,h.tape,h.output,h.size,λk hk=>(h.keep k hk rfl).1⟩
theorem vQ5:laidOutB prog=true:=by kernel_rfl
theorem yUo {H:Type}{enc:TypeId×Value->H}{W W':World}(hb:Below W.heap.size W W')(sp:Nat->Bool):∀ {ts:List TypeId} {vs:List Value} {ds:List (DataW H)} {ps:List MemPlace},
  (∀t∈ts,prog.readableRec t=true/\t<prog.types.size)->DataW.TrodAll enc prog W 0 (λ_=>true) true ts vs ds ps->(∀p∈ps,p.block<W.heap.size)->(∀p∈ps,sp p.block=true) →
  DataW.TrodAll enc prog W' 0 sp true ts vs ds ps
 | [],vs,ds,ps,_,h,_,_=>by
  obtain⟨rfl,rfl,rfl⟩:=trodAll_nil h;rfl
 | t::ts,vs,ds,ps,ht,h,hlt,hsp=>by
  obtain⟨v,vs1,d,ds1,a,b,rfl,rfl,rfl,h1,h2⟩:=trodAll_cons h;refine⟨a,b,WideElems.Trod_stays vQ5 (ht t (by simp)).1 (ht t (by simp)).2 h1 (λp hp=>hb.same (hlt p (by simp[hp]))) (λp hp=>hsp p (by simp[hp])),?_,rfl⟩;exact yUo hb sp (λt h=>ht t (by simp[h])) h2 (λp hp=>hlt p (by simp[hp])) (λp hp=>hsp p (by simp[hp]))
theorem wVq {H:Type}{enc:TypeId×Value->H}{f:Func}{s:ChangeSpec}{fid:FuncId}{W:World}{args:Array Value}{ds gs:List (DataW H)}{before:List MemPlace}{ivs:List IV}
  (hvars:s.vars=[]) (hW:DataW.Whole enc prog f.params.toList s.vars false W args.toList ds gs before) (hfn:s.fn H (ds++gs)={ results:=[.lit (.bool true)],args:=ds })
  (hres:f.resultTypes=#[4]) (hread:∀t∈f.params.toList,prog.readableRec t=true/\t<prog.types.size) (hg:Go.Iv.Good ⟨prog,gl0,0⟩ (X0 W)) (hv:VL 0 (L0 W) W args.toList ivs)
  (hc:ICall prog gl0 fid ivs (λ_=>none) (λr st'=>r=.raw (.bool true)/\st'=λ_=>none)) :
  Calls prog fid args W λe W'=>∃v,e=.returned v/\s.post enc prog f false true false false W args v W':=by
 refine (hc 0 (X0 W) args.toList hg rfl hv).mono ?_;rintro e W' ⟨v,rfl,X',x,rfl,hg',he,hx,rfl,_⟩;obtain rfl:=V.raw_inv hx;have hb:=xZl he;refine⟨_,rfl,?_⟩;have hW':=hW;obtain⟨p,q,hA,hV,rfl,hz,_⟩:=hW;rw[hvars] at hV;have hgs:gs=[]/\q=[]:=by
  cases gs with
  | nil=>exact⟨rfl,hV⟩
  | cons _ _=>exact absurd hV (by simp[DataW.TrodVars])
 obtain⟨rfl,rfl⟩:=hgs;have hlt:∀x∈p,x.block<W.heap.size:=λx hx=>by simpa using hW'.lt x (by simpa using hx)
 have hargs:∀sp:Nat->Bool,(∀x∈p,sp x.block=true)->DataW.TrodAll enc prog X'.w 0 sp true f.params.toList args.toList (s.fn H (ds++[])).args p:=λsp hsp=>by
  rw[hfn];exact yUo hb sp hread hA hlt hsp
 have hr:∀(b:Nat) (sp:Nat->Bool) (hd:Bool),DataW.TrodAll enc prog X'.w b sp hd f.resultTypes.toList ((Value.bool true).resultList f.resultTypes.size) (s.fn H (ds++[])).results []:=λ_ _ _=>by
  rw[hfn,hres];exact trodAll_cons_mk (shut_bool xUr _) trodAll_mk0
 have hvs:∀sp:Nat->Bool,DataW.TrodVars enc prog X'.w sp s.vars (s.fn H (ds++[])).vars []:=λ_=>by
  rw[hvars,hfn];rfl
 have hsz:∀x∈p,(λb=>decide (b<W.heap.size)) x.block=true:=λx hx=>by simpa using hlt x hx
 refine⟨ds,[],p++[],[],p,[],hW',hr _ _ _,hargs _ hsz,hvs _,World.keptBut_mono (λx hx=>⟨hx,Or.inr (by simpa using hx)⟩) (hb.frame (·∈p++[])),λ_=>⟨ok_one hres rfl (okWide_bool_mk xUr _),_,_,([]++p)++[],
  ⟨[]++p,[],trodAll_append (hargs _ (λ_ _=>rfl)) (hr _ _ _),hvs _,rfl,?_,λh=>by cases h⟩,λx hx _=>by simpa using hx⟩⟩
 intro b off hp;rw[hb.frozen (p:=⟨b,off,none⟩) (hlt (.cell b off) (by simpa using hp))];exact hz b off (by simpa using hp)
theorem wVw {W:World}{base:Nat}{v:Value}{f:Fm}{x:IV}(h:Value.okWide prog W .any base 27 v)(hx:VL 0 (L0 W) W v.cells.toList x.cells)(hf:IsFm f x):V 0 (L0 W) W v x:=by
 obtain⟨cs,rfl,_⟩:=WideShapes.okWide_struct vJ8 h;cases f with
 | mk op n us sub =>
  obtain⟨tg,xs,tg',ys,rfl,_⟩:=IsFm.mk hf;cases cs;exact hx.agg
theorem wKl {W:World}{base:Nat}{v:Value}{t:Tr}{x:IV}(h:Value.okWide prog W .any base 37 v)(hx:VL 0 (L0 W) W v.cells.toList x.cells)(hf:IsTr t x):V 0 (L0 W) W v x:=by
 obtain⟨cs,rfl,_⟩:=WideShapes.okWide_struct vJ5 h;obtain⟨_,_,_,_,_,_,_,_,_,_,_,_,_,_,_,_,_,_,rfl⟩:=yKe hf;cases cs;exact hx.agg
def tab32:List Int:=[0,1,28,2,29,14,24,3,30,22,20,15,25,17,4,8,31,27,13,23,21,19,16,7,26,12,18,6,11,5,10,9]
def tab64:List Int:=[0,1,56,2,57,49,28,3,61,58,42,50,38,29,17,4,62,47,59,36,45,43,51,22,53,39,33,30,24,18,12,5,63,55,48,27,60,41,37,16,46,35,44,21,52,32,23,11,54,26,40,15,34,20,31,10,25,14,19,9,13,8,7,6]
def lay (cs:List Value):Obj->Obj
 | .cells _ t frozen=>.cells cs.toArray t frozen
 | o=>o
noncomputable def zK6 (os:Os):World :=
 { World.holding prog os ⟨#[],#[],[]⟩ with heap:=((((World.holding prog os ⟨#[],#[],[]⟩).heap.modify 0 (lay ((List.range 17).flatMap rowV))).modify 2 (lay (Lib.pow10Tab.map λz=>.int .u64 z))).modify 3 (lay (tab32.map λz=>.int .u8 z))).modify 4 (lay (tab64.map λz=>.int .u8 z)) }
theorem wVr (os:Os)(args:Array Value):laidMet prog Rows.signsKeepsUptoRow.laid ((zK6 os).forCall (λ_ _=>0) ⟨#[],args,[]⟩).memory :=
 laidMet_of_run' 8 (by kernel_rfl) (by kernel_rfl)
end Go.Proofs.Tryz
namespace Go.Proofs.Tryz
open Go Go.Iv
set_option maxRecDepth 4000
theorem zV1:∀l:List IV,(∀x∈l,∃v,x=.raw v)->ages l=l
 | [],_=>rfl
 | x::l,h=>by
  obtain⟨v,rfl⟩:=h x (by simp);simp only[ages,age,zV1 l λy hy=>h y (by simp[hy])]
theorem wWj:∀g x,gl0 g=some x->age x=x:=by
 intro g x hx
 match g,hx with
 | 0,hx =>
  cases hx;simp only[age];rw[zV1 _ λy hy=>?_];obtain⟨op,_,hy⟩:=List.mem_flatMap.1 hy;unfold rowI at hy;simp only[List.mem_cons,List.not_mem_nil,or_false] at hy;rcases hy with rfl|rfl|rfl|rfl|rfl<;>exact⟨_,rfl⟩
 | 2,hx =>
  cases hx;simp only[age];rw[zV1 _ λy hy=>?_];obtain⟨z,_,rfl⟩:=List.mem_map.1 hy;exact⟨_,rfl⟩
