/- Walks: what is used of a step. -/
import Derived.Test.YtddfdpbibloljaaGreatDoorQF
import Derived.Test.YtddfdpbibloljaaGreatDoorKE
set_option linter.all false
open Nat renaming reduceEqDiff → zE,reduceBEq → zB,reduceAdd → zA,reduceMul → zM,reduceSub → zS,reduceLeDiff → zL
namespace Go.Proofs.Tryz
open Go Go.Iv
set_option maxRecDepth 4000
variable (gl:Nat->Option IV)
noncomputable def yV2 (q s w:Sq):Sq:=⟨q.l++yXw s.l w.l,q.r++yXw s.r w.r⟩
noncomputable def yXs (fin:Sq->Tr):List Sq->List Tr->Sq->Tr
 | _,[],q=>fin q
 | [],s::_,_=>s
 | a::al,s::ss,q=>if !yJn a.l s.sq.l&&!yJn a.r s.sq.r then s else yXs fin al ss (yV2 q s.sq a)
def zKj (rule:Nat)(m:Fm):Sq:=if rule=1 then ⟨[m],[m]⟩ else if yKa rule then ⟨[m],[]⟩ else if rule≠17 then ⟨[],[m]⟩ else ⟨[],[]⟩
noncomputable def addU (rule:Nat)(m:Fm):List Sq:=(xG2 1 rule m tm0 bE).1
noncomputable def zJl (rule:Nat)(s:Sq)(m:Fm)(subs:List Tr):Tr:=yXs (λq=>.mk rule ⟨yX2 s.l q.l,yX2 s.r q.r⟩ m tm0 bE subs) (addU rule m) subs (zKj rule m)
theorem zKn (l:List Fm):yXw l []=l:=by simp[yXw,hasL]
theorem NeedO.sub {s0 st:ISt}{b gL gR:Nat}{L R:List Fm}(h:NeedO s0 st b gL gR L R)(hb:s0 b=none):subSt s0 st:=by
 obtain⟨xl,xr,zl,zr,h1,h2,_,h4,_,_,_,h8⟩:=h;have none:∀ {s n cells g x},SlO s0 st s n cells g x->0<n->s0 g=none:=λhs hn=>by
  rcases hs with⟨h,_⟩|⟨_,_,_,_,_,_,_,_,h⟩
  ·omega
  ·exact h
 intro c o hc;have pos:∀l:List Fm,l≠[]->0<l.length:=λl h=>by cases l<;>simp at *
 rw[h8 c (λh=>by rw[h,hb] at hc;cases hc) (λhl h=>by rw[h,none h2 (pos _ hl)] at hc;cases hc) (λhl h=>by rw[h,none h4 (pos _ hl)] at hc;cases hc)];exact hc
theorem zWi (fin:Sq->Tr)(al:List Sq)(q:Sq):yXs fin al [] q=fin q:=by cases al<;>rfl
theorem NeedO.off {s0 st:ISt}{b gL gR:Nat}{L R:List Fm}(h:NeedO s0 st b gL gR L R):(L≠[]->s0 gL=none)/\(R≠[]->s0 gR=none):=by
 obtain⟨xl,xr,zl,zr,h1,h2,_,h4,_,_,_,h8⟩:=h;have none:∀ {l:List Fm} {s cells g x},SlO s0 st s l.length cells g x->l≠[]->s0 g=none:=λhs hn=>by
  rcases hs with⟨h,_⟩|⟨_,_,_,_,_,_,_,_,h⟩
  ·exact absurd (List.length_eq_zero_iff.1 h) hn
  ·exact h
 exact⟨none h2,none h4⟩
def SU (st:ISt)(eL eR:Bool)(gL gR:Nat)(a b:Bool):ISt:=λc=>if (a=true/\eL=true/\c=gL)\/(b=true/\eR=true/\c=gR) then none else st c
theorem SU_ff {st:ISt}{eL eR:Bool}{gL gR:Nat}:SU st eL eR gL gR false false=st:=by
 funext c;simp[SU]
theorem vYv {st:ISt}{L R:List Fm}{gL gR c:Nat}{a b:Bool}(h1:L≠[]->c≠gL)(h2:R≠[]->c≠gR):SU st (!L.isEmpty) (!R.isEmpty) gL gR a b c=st c:=by
 unfold SU;rw[if_neg];simp only[Bool.not_eq_true',List.isEmpty_eq_false_iff];rintro (⟨_,h,h'⟩|⟨_,h,h'⟩)
 ·exact h1 h h'
 ·exact h2 h h'
theorem SU_L {st:ISt}{L R:List Fm}{gL gR:Nat}{b:Bool}(h:R≠[]->gL≠gR):SU st (!L.isEmpty) (!R.isEmpty) gL gR false b gL=st gL:=by
 unfold SU;rw[if_neg];simp only[Bool.not_eq_true',List.isEmpty_eq_false_iff,bFt,false_and,false_or];exact λh'=>h h'.2.1 h'.2.2
theorem SU_R {st:ISt}{L R:List Fm}{gL gR:Nat}{a:Bool}(h:L≠[]->gR≠gL):SU st (!L.isEmpty) (!R.isEmpty) gL gR a false gR=st gR:=by
 unfold SU;rw[if_neg];simp only[Bool.not_eq_true',List.isEmpty_eq_false_iff,bFt,false_and,or_false];exact λh'=>h h'.2.1 h'.2.2
theorem kZ9 {st:ISt}{eR:Bool}{gL gR:Nat}{b:Bool}:(SU st true eR gL gR false b).put gL none=SU st true eR gL gR true b:=by
 funext c;rw[ISt.put_apply];unfold SU;by_cases h:c=gL<;>simp[h]
theorem kZ8 {st:ISt}{eL:Bool}{gL gR:Nat}{a:Bool}:(SU st eL true gL gR a false).put gR none=SU st eL true gL gR a true:=by
 funext c;rw[ISt.put_apply];unfold SU;by_cases h:c=gR<;>simp[h]
theorem vYx {st:ISt}{eR:Bool}{gL gR:Nat}{a b:Bool}:SU st false eR gL gR a b=SU st false eR gL gR false b:=by
 funext c;simp[SU]
theorem vYw {st:ISt}{eL:Bool}{gL gR:Nat}{a b:Bool}:SU st eL false gL gR a b=SU st eL false gL gR a false:=by
 funext c;simp[SU]
theorem zV2 {l:List Fm}{xs:List IV}(h:IsFms l xs):∀x∈xs,x.cells.length=4:=λx hx=>by
 have:=zQp h x hx;exact (yJ4 this).2.1
set_option maxHeartbeats 2000000 in
theorem vK4 (G:Gl gl)(T:Gt gl)(rd:IV)(mp:Nat)(hrd:rd=.agg [.raw (.map (some mp))])(rule:Nat)(s:Sq)(mn:Fm)(u:Tm)(nm:ByteArray)(sb:List Tr)(x:IV)(hx:IsTr (.mk rule s mn u nm sb) x)(subs:List Tr)(tg:Tag)(zs:List IV)(htg:okEs tg 12)(hzs:IsTrs subs zs)
  (hsz:mn.size<=100000) (hs1:yQ9 s.l<=100000) (hs2:yQ9 s.r<=100000) (hq:∀a∈subs,a.sq.l.length+a.sq.r.length<=1000) (hn:subs.length<=100) (st:ISt) (es:List (Value×IV)) (hm:st mp=some (.map (.int .u8) es)) (hl:zG0 es) :
  ICall prog gl 57 [rd,x,.agg [],.sl tg zs] st (λr st'=>IsTr (zJl rule s mn subs) r/\st'=st):=by
 subst hrd;obtain⟨tl,xl,tr,xr,op,fn,ta,xa,tb,xb,v,un,tu,xu,ts,xs,rfl,hru,e1,i1,e2,i2,hy,hz,e3,i3⟩:=hx.mk;have hcopy:=λst=>zZ7 gl mn _ hy (by omega) st;have hA:=λst=>vXo gl G T 1 rule mn _ hy (by omega) tm0 (.agg [.raw (.bool false),.raw (.string ⟨#[]⟩),.sl ⟨true,.nil,0⟩ []]) ⟨_,_,rfl,.inl rfl,rfl⟩ (by decide) bE st;have hlk:=hl rule;have hr1:((rule:Int)=1)=(rule=1):=propext (by omega);have hr17:((rule:Int)=17)=(rule=17):=propext (by omega);have hmain:IsFms [mn] [.agg [.raw (.int .u8 op),.raw (.string fn),.sl ta xa,.sl tb xb]]:=⟨_,_,rfl,hy,rfl⟩
 have hcol:=λq L R t1 x1 t2 x2 (h1:IsSq q (.agg [.sl t1 x1,.sl t2 x2])) s0 st b gL gR (h:NeedO s0 st b gL gR L R) hl=>xX2 gl q ⟨[],[]⟩ _ (.agg [.sl ⟨true,.nil,0⟩ [],.sl ⟨true,.nil,0⟩ []]) h1 ⟨_,_,_,_,rfl,.inl rfl,rfl,.inl rfl,rfl⟩ s0 st b gL gR L R h hl;refine ICall.intro (c:=cf prog gl [9,110,116] [(18,[])] [5]) func57 rfl (by show _<=124;simp) (by kernel_rfl) ?_;simp only[go_sem,zE,zB,zA,zM,zS,zL,reduceCtorEq,fits];refine λb=>yQc λhb=>?_;have hN0:NeedO st (st.put b (some (.box [.sl ⟨true,.nil,0⟩ [],.sl ⟨true,.nil,0⟩ []]))) b b b [] []:=⟨_,_,[],[],ISt.put_same ..,.inl ⟨rfl,rfl,_,_,rfl⟩,rfl,.inl ⟨rfl,rfl,_,_,rfl⟩,rfl,λh=>absurd rfl h,λh=>absurd rfl h,λc h _ _=>yQb h⟩
 have hbm:mp≠b:=λh=>by rw[<- h,hm] at hb;cases hb
 have hq0:zKj rule mn=if rule=1 then ⟨[mn],[mn]⟩ else if yKa rule then ⟨[mn],[]⟩ else if rule≠17 then ⟨[],[mn]⟩ else ⟨[],[]⟩:=rfl
 have hun:zJl rule s mn subs=yXs (λq=>.mk rule ⟨yX2 s.l q.l,yX2 s.r q.r⟩ mn tm0 bE subs) (addU rule mn) subs (zKj rule mn):=rfl;generalize zKj rule mn=q at hq0 hun;have look0:∀z,zZh false none z=some z:=λ_=>rfl;have look1:∀v z,zZh false (some v) z=some v:=λ_ _=>rfl;have hsz0:(if (#[]:Array UInt8).size<=281474976710656 then some (IV.raw (Value.string { data:=#[] })) else none)=some (IV.raw (Value.string { data:=#[] })):=rfl;rcases (show rule=1\/(rule≠1/\yKa rule=true)\/(rule≠1/\yKa rule=false/\rule=17)\/(rule≠1/\yKa rule=false/\rule≠17) by
  by_cases h1:rule=1
  ·exact .inl h1
  ·by_cases h2:rule=17<;>cases yKa rule<;>simp[h1,h2]) with h1|h1|h1|h1
 all_goals first
  | (rw[if_pos h1] at hq0
     have d1:decide ((rule:Int)=1)=true:=dEt (by omega);simp only[go_sem,zE,zB,zA,zM,zS,zL,reduceCtorEq,fits,yQ1,d1];refine (hcol ⟨[mn],[mn]⟩ _ _ _ _ _ _ ⟨_,_,_,_,rfl,.inr rfl,hmain,.inr rfl,hmain⟩ _ _ _ _ _ hN0 (by simp)).mono ?_;rintro _ st1 ⟨rfl,gL,gR,hN⟩;simp only[zKn,List.nil_append] at hN;have hN1:NeedO st st1 b gL gR q.l q.r:=by rw[hq0];exact hN
     have hqn:q.l.length+q.r.length<=2:=by rw[hq0];simp
     simp only[go_sem,zE,zB,zA,zM,zS,zL,reduceCtorEq,fits,hsz0])
  | (have d1:decide ((rule:Int)=1)=false:=dEf (by omega)
     rw[if_neg h1.1,h1.2,if_pos rfl] at hq0;rw[h1.2,if_pos rfl] at hlk;simp only[go_sem,zE,zB,zA,zM,zS,zL,reduceCtorEq,fits,yQ1,d1,yQb hbm,hm,hlk,look1];refine (hcol ⟨[mn],[]⟩ _ _ _ _ _ _ ⟨_,_,_,_,rfl,.inr rfl,hmain,.inl rfl,rfl⟩ _ _ _ _ _ hN0 (by simp)).mono ?_;rintro _ st1 ⟨rfl,gL,gR,hN⟩;simp only[zKn,List.nil_append] at hN;have hN1:NeedO st st1 b gL gR q.l q.r:=by rw[hq0];exact hN
     have hqn:q.l.length+q.r.length<=2:=by rw[hq0];simp
     simp only[go_sem,zE,zB,zA,zM,zS,zL,reduceCtorEq,fits,hsz0])
  | (have d1:decide ((rule:Int)=1)=false:=dEf (by omega)
     have d2:decide ((rule:Int)=17)=true:=dEt (by omega);rw[if_neg h1.1,h1.2.1,if_neg (by decide),if_neg (λh=>h h1.2.2)] at hq0;rw[h1.2.1,if_neg (by decide)] at hlk;simp only[go_sem,zE,zB,zA,zM,zS,zL,reduceCtorEq,fits,yQ1,d1,yQb hbm,hm,hlk,look0,d2];obtain⟨st1,hst1⟩:∃st1,st1=st.put b (some (.box [.sl ⟨true,.nil,0⟩ [],.sl ⟨true,.nil,0⟩ []])):=⟨_,rfl⟩
     rw[<- hst1];rw[<- hst1] at hN0;have hN1:NeedO st st1 b b b q.l q.r:=by rw[hq0];exact hN0
     have hqn:q.l.length+q.r.length<=2:=by rw[hq0];simp
     simp only[go_sem,zE,zB,zA,zM,zS,zL,reduceCtorEq,fits,hsz0])
  | (have d1:decide ((rule:Int)=1)=false:=dEf (by omega)
     have d2:decide ((rule:Int)=17)=false:=dEf (by omega);rw[if_neg h1.1,h1.2.1,if_neg (by decide),if_pos h1.2.2] at hq0;rw[h1.2.1,if_neg (by decide)] at hlk;simp only[go_sem,zE,zB,zA,zM,zS,zL,reduceCtorEq,fits,yQ1,d1,yQb hbm,hm,hlk,look0,d2];refine (hcol ⟨[],[mn]⟩ _ _ _ _ _ _ ⟨_,_,_,_,rfl,.inl rfl,rfl,.inr rfl,hmain⟩ _ _ _ _ _ hN0 (by simp)).mono ?_;rintro _ st1 ⟨rfl,gL,gR,hN⟩;simp only[zKn,List.nil_append] at hN;have hN1:NeedO st st1 b gL gR q.l q.r:=by rw[hq0];exact hN
     have hqn:q.l.length+q.r.length<=2:=by rw[hq0];simp
     simp only[go_sem,zE,zB,zA,zM,zS,zL,reduceCtorEq,fits,hsz0])
 all_goals
  refine (hA _).mono ?_;rintro _ st1 ⟨tgA,xsA,rfl,eA,_,iA,rfl⟩;replace iA:IsSqs (addU rule mn) xsA:=iA.w;simp only[go_sem,zE,zB,zA,zM,zS,zL,reduceCtorEq,fits,hzs.len];intro _;refine LoopC.ctr subs.length (λk fr st' ds=>(∃gL gR q,NeedO st st' b gL gR q.l q.r/\zJl rule s mn subs=yXs (λq=>.mk rule ⟨yX2 s.l q.l,yX2 s.r q.r⟩ mn tm0 bE subs) ((addU rule mn).drop k) (subs.drop k) q/\q.l.length+q.r.length<=2+1000*k) /\
   fr 3=.iv (.sl tg zs)/\fr 4=.box [.raw (.map (some mp))]/\fr 5=.iv (.cptr (.agg [.raw (.int .u8 rule),.sl tl xl,.sl tr xr,.raw (.int .u8 op),.raw (.string fn),.sl ta xa,.sl tb xb,.raw (.bool v),.raw (.string un),.sl tu xu,.raw (.string nm),.sl ts xs]))/\fr 8=.box trZ/\fr 9=.iv (ptrI b)/\fr 10=.iv (.fn (.func 97) [] [ptrI b])/\fr 12=.iv (.sl tgA xsA) /\
   fr 59=.iv (.sl tg zs)/\fr 60=.iv (.raw (.int .i64 subs.length))/\fr 61=.iv (.raw (.int .i64 k))/\ds=[]) ?_ ?_ ?_
  ·simp only[go_sem,zE,zB,zA,zM,zS,zL,reduceCtorEq];exact⟨⟨_,_,q,hN1,hun,by omega⟩,rfl,rfl,rfl,rfl⟩
  ·rintro k fr st1 _ hlt ⟨⟨gL,gR,q,hN,hgo,hql⟩,f3,f4,f5,f8,f9,f10,f12,f59,f60,f61,rfl⟩;obtain⟨a,ha⟩:=yQ4 hlt;obtain⟨z,hkz,hz⟩:=hzs.get ha;have hqa:=hq a (lMg ha);have hz0:=hz;have hdr:subs.drop k=a::subs.drop (k+1):=List.drop_eq_getElem_cons hlt▸by rw[(lGs ha).2]
   obtain⟨ar,as',am,au,an,asb⟩:=a;obtain⟨tl',xl',tr',xr',op',fn',ta',xa',tb',xb',v',un',tu',xu',ts2,xs2,rfl,_,e1',i1',e2',i2',hy',hz',e3',i3'⟩:=hz.mk;by_cases hka:k<(addU rule mn).length
   ·have dk:decide ((((addU rule mn).length:Nat):Int)<=(k:Int))=false:=dEf (by omega);simp only[go_sem,zE,zB,zA,zM,zS,zL,reduceCtorEq,f3,f4,f5,f8,f9,f10,f12,f59,f60,f61,lt_i hlt,yQ3 htg,yQ3 eA,iNn,hkz,fits,iA.len,dk];obtain⟨w,hw⟩:=yQ4 hka;obtain⟨yw,hkw,hyw⟩:=iA.get hw;have hdw:(addU rule mn).drop k=w::(addU rule mn).drop (k+1):=List.drop_eq_getElem_cons hka▸by rw[(lGs hw).2]
    rw[hdr,hdw,yXs] at hgo;obtain⟨tw,xw,tw',xw',rfl,ew,iw,ew',iw'⟩:=hyw;have hm1:=λst=>wXg gl w.l tw xw ew iw as'.l tl' xl' e1' i1' st;have hm2:=λst=>wXg gl w.r tw' xw' ew' iw' as'.r tr' xr' e2' i2' st;have hln1:(yXw as'.l w.l).length<=as'.l.length:=List.length_filter_le ..;have hln2:(yXw as'.r w.r).length<=as'.r.length:=List.length_filter_le ..;replace hqa:as'.l.length+as'.r.length<=1000:=hqa;have hcl:=xX2 gl as' w (.agg [.sl tl' xl',.sl tr' xr']) (.agg [.sl tw xw,.sl tw' xw']) ⟨_,_,_,_,rfl,e1',i1',e2',i2'⟩ ⟨_,_,_,_,rfl,ew,iw,ew',iw'⟩ st st1 b gL gR q.l q.r hN (by omega);have hnext:∀(st2:ISt) gL gR,NeedO st st2 b gL gR (q.l++yXw as'.l w.l) (q.r++yXw as'.r w.r)->zJl rule s mn subs=yXs (λq=>.mk rule ⟨yX2 s.l q.l,yX2 s.r q.r⟩ mn tm0 bE subs) ((addU rule mn).drop (k+1)) (subs.drop (k+1)) (yV2 q as' w) →
      ∃gL gR q,NeedO st st2 b gL gR q.l q.r/\zJl rule s mn subs=yXs (λq=>.mk rule ⟨yX2 s.l q.l,yX2 s.r q.r⟩ mn tm0 bE subs) ((addU rule mn).drop (k+1)) (subs.drop (k+1)) q/\q.l.length+q.r.length<=2+1000*(k+1):=λst2 gL gR h1 h2=>⟨gL,gR,yV2 q as' w,h1,h2,by simp only[yV2,lLa];omega⟩
    simp only[go_sem,zE,zB,zA,zM,zS,zL,reduceCtorEq,hkw,fits];refine (hm1 _).mono ?_;rintro _ st1 ⟨rfl,rfl⟩;cases hb1:yJn w.l as'.l
    ·simp only[go_sem,zE,zB,zA,zM,zS,zL,reduceCtorEq,f3,f4,f5,f8,f9,f10,f12,f59,f60,f61,hkw,yQ3 eA,iNn,fits];refine (hm2 _).mono ?_;rintro _ st1 ⟨rfl,rfl⟩;cases hb2:yJn w.r as'.r
     ·simp only[go_sem,zE,zB,zA,zM,zS,zL,reduceCtorEq,f3,f4,f5,f8,f9,f10,f12,f59,f60,f61,fits];rw[if_pos (by decide)];refine yQa (hN.sub hb) ⟨?_,rfl⟩;rw[hgo,if_pos (by show (!yJn w.l as'.l&&!yJn w.r as'.r)=true;rw[hb1,hb2];rfl)];exact hz0
     ·rw[if_neg (by show ¬ (!yJn w.l as'.l&&!yJn w.r as'.r)=true;rw[hb1,hb2];decide)] at hgo;simp only[go_sem,zE,zB,zA,zM,zS,zL,reduceCtorEq,f3,f4,f5,f8,f9,f10,f12,f59,f60,f61,hkw,yQ3 eA,iNn,fits];refine hcl.mono ?_;rintro _ st2 ⟨rfl,gL2,gR2,hN2⟩;simp only[go_sem,zE,zB,zA,zM,zS,zL,reduceCtorEq,f3,f4,f5,f8,f9,f10,f12,f59,f60,f61,yQf hlt (show subs.length<=281474976710656 by omega)];exact hnext st2 gL2 gR2 hN2 hgo
    ·rw[if_neg (by show ¬ (!yJn w.l as'.l&&!yJn w.r as'.r)=true;rw[hb1];simp)] at hgo;simp only[go_sem,zE,zB,zA,zM,zS,zL,reduceCtorEq,f3,f4,f5,f8,f9,f10,f12,f59,f60,f61,hkw,yQ3 eA,iNn,fits];refine hcl.mono ?_;rintro _ st2 ⟨rfl,gL2,gR2,hN2⟩;simp only[go_sem,zE,zB,zA,zM,zS,zL,reduceCtorEq,f3,f4,f5,f8,f9,f10,f12,f59,f60,f61,yQf hlt (show subs.length<=281474976710656 by omega)];exact hnext st2 gL2 gR2 hN2 hgo
   ·have dk:decide ((((addU rule mn).length:Nat):Int)<=(k:Int))=true:=dEt (by omega);simp only[go_sem,zE,zB,zA,zM,zS,zL,reduceCtorEq,f3,f4,f5,f8,f9,f10,f12,f59,f60,f61,lt_i hlt,yQ3 htg,yQ3 eA,iNn,hkz,fits,iA.len,dk];rw[if_pos (by decide)];rw[hdr,List.drop_eq_nil_of_le (by omega),yXs] at hgo;exact yQa (hN.sub hb) ⟨by rw[hgo];exact hz0,rfl⟩
  ·rintro fr st1 _ ⟨⟨gL,gR,q,hN,hgo,hql⟩,f3,f4,f5,f8,f9,f10,f12,f59,f60,f61,rfl⟩;rw[List.drop_length] at hgo;simp only[go_sem,zE,zB,zA,zM,zS,zL,reduceCtorEq,f3,f4,f5,f8,f9,f10,f60,f61,yQo (nLi _)];rw[yKp];have hsubN:=hN.sub hb;obtain⟨hLn,hRn⟩:=hN.off;obtain⟨yl,yr,zl,zr,hbx,hsL,izl,hsR,izr,k1,k2,k3⟩:=hN;obtain⟨S,hS⟩:∃S:Array Bool->ISt,S=λl=>SU st1 (!q.l.isEmpty) (!q.r.isEmpty) gL gR (l.getD 7 false) (l.getD 13 false):=⟨_,rfl⟩
   have hSb:∀l,S l b=some (.box [yl,yr]):=λl=>by rw[hS];exact (vYv (λh=>(k1 h).1.symm) (λh=>(k2 h).symm)).trans hbx
   have kk:∀ {K:Kt} {ad:Ad} {fr:Fr} {l:Array Bool} {i:Nat},K ad fr (S (l.setIfInBounds i true)) []->(decide (i=7) || decide (i=13))=false->K ad fr (S l) []:=λh hi=>by
    simp only[Bool.or_eq_false_iff,decide_eq_false_iff_not] at hi;rw[hS] at h ⊢;simp only[getD_set_ne false hi.1,getD_set_ne false hi.2] at h;exact h
   have hst1:st1=S (Array.replicate 21 false):=by rw[hS];simp only[yXu];exact SU_ff.symm
   rw[hst1];refine anyT (n:=20) (S:=S) (Rel:=λi z=>match i with
    | 0=>z=.cptr (.raw (.int .u8 rule))
    | 1=>z=.raw (.int .u8 rule)
    | 2=>z=.cptr (.agg [.sl tl xl,.sl tr xr])
    | 3=>z=.cptr (.sl tl xl)
    | 4=>z=.sl tl xl
    | 5=>z=.raw (.pointer (some ⟨b,0,none⟩))
    | 6=>z=yl
    | 7=>∃t ys,z=.sl t ys/\okEs t 4/\IsFms (yX2 s.l q.l) ys
    | 8=>z=.cptr (.agg [.sl tl xl,.sl tr xr])
    | 9=>z=.cptr (.sl tr xr)
    | 10=>z=.sl tr xr
    | 11=>z=.raw (.pointer (some ⟨b,1,none⟩))
    | 12=>z=yr
    | 13=>∃t ys,z=.sl t ys/\okEs t 4/\IsFms (yX2 s.r q.r) ys
    | 14=>∃t ys t' ys',z=.agg [.sl t ys,.sl t' ys']/\okEs t 4/\IsFms (yX2 s.l q.l) ys/\okEs t' 4/\IsFms (yX2 s.r q.r) ys'
    | 15=>z=.cptr (.agg [.raw (.int .u8 op),.raw (.string fn),.sl ta xa,.sl tb xb])
    | 16=>z=.agg [.raw (.int .u8 op),.raw (.string fn),.sl ta xa,.sl tb xb]
    | 17=>IsFm mn z
    | 18=>z=.sl tg zs
    | 19=>IsTr (.mk rule ⟨yX2 s.l q.l,yX2 s.r q.r⟩ mn tm0 bE subs) z
    | _=>True)
    (F:=λfr=>fr 3=.iv (.sl tg zs)/\fr 5=.iv (.cptr (.agg [.raw (.int .u8 rule),.sl tl xl,.sl tr xr,.raw (.int .u8 op),.raw (.string fn),.sl ta xa,.sl tb xb,.raw (.bool v),.raw (.string un),.sl tu xu,.raw (.string nm),.sl ts xs]))/\fr 8=.box trZ/\fr 9=.iv (ptrI b)) (G:=λfr=>∃l,IsTr (.mk rule ⟨yX2 s.l q.l,yX2 s.r q.r⟩ mn tm0 bE subs) (.agg l)/\fr 8=.box l)
    ⟨rfl,by decide,by decide,by decide,λfr d z hd ⟨h3,h5,h8,h9⟩=>⟨(xQy hd rfl).trans h3,(xQy hd rfl).trans h5,(xQy hd rfl).trans h8,(xQy hd rfl).trans h9⟩⟩ ?_ ?_ (λ_=>rfl) ⟨f3,f5,f8,f9⟩
   ·repeat' apply AllOkS.cons
    ·intro listed ad fr K hz hfl had hF hd hK hS2;obtain⟨f3,f5,f8,f9⟩:=hF;simp only[go_sem,zE,zB,zA,zM,zS,zL,reduceCtorEq,yQ5,had,f3,f5,f8,f9];exact kk (hK _ _ rfl (λh=>absurd h (by decide)) rfl) rfl
    ·intro listed ad fr K hz hfl had hF hd hK hS2;obtain⟨f3,f5,f8,f9⟩:=hF;obtain⟨_,g0,rfl⟩:=hd 0 _ rfl rfl;simp only[go_sem,zE,zB,zA,zM,zS,zL,reduceCtorEq,yQ5,had,f3,f5,f8,f9,g0];exact kk (hK _ _ rfl (λh=>absurd h (by decide)) rfl) rfl
    ·intro listed ad fr K hz hfl had hF hd hK hS2;obtain⟨f3,f5,f8,f9⟩:=hF;simp only[go_sem,zE,zB,zA,zM,zS,zL,reduceCtorEq,yQ5,had,f3,f5,f8,f9];exact kk (hK _ _ rfl (λh=>absurd h (by decide)) rfl) rfl
    ·intro listed ad fr K hz hfl had hF hd hK hS2;obtain⟨f3,f5,f8,f9⟩:=hF;obtain⟨_,g2,rfl⟩:=hd 2 _ rfl rfl;simp only[go_sem,zE,zB,zA,zM,zS,zL,reduceCtorEq,yQ5,had,f3,f5,f8,f9,g2];exact kk (hK _ _ rfl (λh=>absurd h (by decide)) rfl) rfl
    ·intro listed ad fr K hz hfl had hF hd hK hS2;obtain⟨f3,f5,f8,f9⟩:=hF;obtain⟨_,g3,rfl⟩:=hd 3 _ rfl rfl;simp only[go_sem,zE,zB,zA,zM,zS,zL,reduceCtorEq,yQ5,had,f3,f5,f8,f9,g3];exact kk (hK _ _ rfl (λh=>absurd h (by decide)) rfl) rfl
    ·intro listed ad fr K hz hfl had hF hd hK hS2;obtain⟨f3,f5,f8,f9⟩:=hF;unfold ptrI at f9;simp only[go_sem,zE,zB,zA,zM,zS,zL,reduceCtorEq,yQ5,had,f3,f5,f8,f9];exact kk (hK _ _ rfl (λh=>absurd h (by decide)) rfl) rfl
    ·intro listed ad fr K hz hfl had hF hd hK hS2;obtain⟨f3,f5,f8,f9⟩:=hF;obtain⟨_,g5,rfl⟩:=hd 5 _ rfl rfl;simp only[go_sem,zE,zB,zA,zM,zS,zL,reduceCtorEq,yQ5,had,f3,f5,f8,f9,g5,hSb];exact kk (hK _ _ rfl (λh=>absurd h (by decide)) rfl) rfl
    ·intro listed ad fr K hz hfl had hF hd hK hS2;obtain⟨f3,f5,f8,f9⟩:=hF;obtain⟨_,g4,rfl⟩:=hd 4 _ rfl rfl;obtain⟨_,g6,rfl⟩:=hd 6 _ rfl rfl;rcases hsL with⟨hn0,hcz,fz,ez,rfl⟩|⟨hn0,cap0,cs0,rfl,hg0,hkc0,hcc0,htk0,hgn0⟩
     ·have hq0:q.l=[]:=List.length_eq_zero_iff.1 hn0;have hz0:zl=[]:=List.length_eq_zero_iff.1 (by rw[izl.len];exact hn0);subst hz0;simp only[go_sem,zE,zB,zA,zM,zS,zL,reduceCtorEq,yQ5,had,f3,f5,f8,f9,g4,g6,fits];refine (xW9 gl s.l tl xl e1 i1 q.l ⟨fz,.nil,ez⟩ [] (.inl rfl) izl (by omega) _).mono ?_;rintro _ _ ⟨t5,y5,rfl,e5,i5,rfl⟩;have hKK:=hK _ (.sl t5 y5) rfl (λh=>absurd h (by decide)) ⟨_,_,rfl,e5,i5⟩;have hE:S (listed.setIfInBounds 7 true)=S listed:=by
       rw[hS];simp only[getD_set_ne false (show 7≠13 by decide),hq0,List.isEmpty_nil,Bool.not_true];rw[vYx,vYx (a:=listed.getD 7 false)]
      rw[<- hE];exact hKK
     ·have hq0:q.l≠[]:=λh=>by rw[h] at hn0;exact absurd hn0 (by decide)
      have hqe:(!q.l.isEmpty)=true:=by simpa using hq0
      have hSg:S listed gL=some (.box cs0):=by
       rw[hS];simp only[hfl];exact (SU_L (λh=>(k1 hq0).2 h)).trans hg0
      have hE:(S listed).put gL none=S (listed.setIfInBounds 7 true):=by
       rw[hS];simp only[getD_set_ne false (show 7≠13 by decide),yQq (show 7<listed.size by rw[hz];decide),if_true,hfl,hqe];exact kZ9
      simp only[go_sem,zE,zB,zA,zM,zS,zL,reduceCtorEq,yQ5,had,f3,f5,f8,f9,g4,g6,fits];refine ICall.frzSl (pre:=[_]) (es:=4) (zs:=zl) hSg izl.len hkc0 hcc0 (zV2 izl) htk0 (by omega) ?_;rw[hE];refine (xW9 gl s.l tl xl e1 i1 q.l _ _ (.inr rfl) izl.aged (by omega) _).mono ?_;rintro _ _ ⟨t5,y5,rfl,e5,i5,rfl⟩;exact hK _ (.sl t5 y5) rfl (λh=>absurd h (by decide)) ⟨_,_,rfl,e5,i5⟩
    ·intro listed ad fr K hz hfl had hF hd hK hS2;obtain⟨f3,f5,f8,f9⟩:=hF;simp only[go_sem,zE,zB,zA,zM,zS,zL,reduceCtorEq,yQ5,had,f3,f5,f8,f9];exact kk (hK _ _ rfl (λh=>absurd h (by decide)) rfl) rfl
    ·intro listed ad fr K hz hfl had hF hd hK hS2;obtain⟨f3,f5,f8,f9⟩:=hF;obtain⟨_,g8,rfl⟩:=hd 8 _ rfl rfl;simp only[go_sem,zE,zB,zA,zM,zS,zL,reduceCtorEq,yQ5,had,f3,f5,f8,f9,g8];exact kk (hK _ _ rfl (λh=>absurd h (by decide)) rfl) rfl
    ·intro listed ad fr K hz hfl had hF hd hK hS2;obtain⟨f3,f5,f8,f9⟩:=hF;obtain⟨_,g9,rfl⟩:=hd 9 _ rfl rfl;simp only[go_sem,zE,zB,zA,zM,zS,zL,reduceCtorEq,yQ5,had,f3,f5,f8,f9,g9];exact kk (hK _ _ rfl (λh=>absurd h (by decide)) rfl) rfl
    ·intro listed ad fr K hz hfl had hF hd hK hS2;obtain⟨f3,f5,f8,f9⟩:=hF;unfold ptrI at f9;simp only[go_sem,zE,zB,zA,zM,zS,zL,reduceCtorEq,yQ5,had,f3,f5,f8,f9];exact kk (hK _ _ rfl (λh=>absurd h (by decide)) rfl) rfl
    ·intro listed ad fr K hz hfl had hF hd hK hS2;obtain⟨f3,f5,f8,f9⟩:=hF;obtain⟨_,g11,rfl⟩:=hd 11 _ rfl rfl;simp only[go_sem,zE,zB,zA,zM,zS,zL,reduceCtorEq,yQ5,had,f3,f5,f8,f9,g11,hSb];exact kk (hK _ _ rfl (λh=>absurd h (by decide)) rfl) rfl
    ·intro listed ad fr K hz hfl had hF hd hK hS2;obtain⟨f3,f5,f8,f9⟩:=hF;obtain⟨_,g10,rfl⟩:=hd 10 _ rfl rfl;obtain⟨_,g12,rfl⟩:=hd 12 _ rfl rfl;rcases hsR with⟨hn0,hcz,fz,ez,rfl⟩|⟨hn0,cap0,cs0,rfl,hg0,hkc0,hcc0,htk0,hgn0⟩
     ·have hq0:q.r=[]:=List.length_eq_zero_iff.1 hn0;have hz0:zr=[]:=List.length_eq_zero_iff.1 (by rw[izr.len];exact hn0);subst hz0;simp only[go_sem,zE,zB,zA,zM,zS,zL,reduceCtorEq,yQ5,had,f3,f5,f8,f9,g10,g12,fits];refine (xW9 gl s.r tr xr e2 i2 q.r ⟨fz,.nil,ez⟩ [] (.inl rfl) izr (by omega) _).mono ?_;rintro _ _ ⟨t5,y5,rfl,e5,i5,rfl⟩;have hKK:=hK _ (.sl t5 y5) rfl (λh=>absurd h (by decide)) ⟨_,_,rfl,e5,i5⟩;have hE:S (listed.setIfInBounds 13 true)=S listed:=by
       rw[hS];simp only[getD_set_ne false (show 13≠7 by decide),hq0,List.isEmpty_nil,Bool.not_true];rw[vYw,vYw (b:=listed.getD 13 false)]
      rw[<- hE];exact hKK
     ·have hq0:q.r≠[]:=λh=>by rw[h] at hn0;exact absurd hn0 (by decide)
      have hqe:(!q.r.isEmpty)=true:=by simpa using hq0
      have hSg:S listed gR=some (.box cs0):=by
       rw[hS];simp only[hfl];exact (SU_R (λh=>((k1 h).2 hq0).symm)).trans hg0
      have hE:(S listed).put gR none=S (listed.setIfInBounds 13 true):=by
       rw[hS];simp only[getD_set_ne false (show 13≠7 by decide),yQq (show 13<listed.size by rw[hz];decide),if_true,hfl,hqe];exact kZ8
      simp only[go_sem,zE,zB,zA,zM,zS,zL,reduceCtorEq,yQ5,had,f3,f5,f8,f9,g10,g12,fits];refine ICall.frzSl (pre:=[_]) (es:=4) (zs:=zr) hSg izr.len hkc0 hcc0 (zV2 izr) htk0 (by omega) ?_;rw[hE];refine (xW9 gl s.r tr xr e2 i2 q.r _ _ (.inr rfl) izr.aged (by omega) _).mono ?_;rintro _ _ ⟨t5,y5,rfl,e5,i5,rfl⟩;exact hK _ (.sl t5 y5) rfl (λh=>absurd h (by decide)) ⟨_,_,rfl,e5,i5⟩
    ·intro listed ad fr K hz hfl had hF hd hK hS2;obtain⟨f3,f5,f8,f9⟩:=hF;obtain⟨z7,g7,k7⟩:=hd 7 _ rfl rfl;obtain⟨t5,y5,rfl,k5,k6⟩:=k7;obtain⟨z13,g13,k13⟩:=hd 13 _ rfl rfl;obtain⟨t6,y6,rfl,k7',k8⟩:=k13;simp only[go_sem,zE,zB,zA,zM,zS,zL,reduceCtorEq,yQ5,had,f3,f5,f8,f9,g7,g13,fits];exact kk (hK _ _ rfl (λh=>absurd h (by decide)) ⟨_,_,_,_,rfl,k5,k6,k7',k8⟩) rfl
    ·intro listed ad fr K hz hfl had hF hd hK hS2;obtain⟨f3,f5,f8,f9⟩:=hF;simp only[go_sem,zE,zB,zA,zM,zS,zL,reduceCtorEq,yQ5,had,f3,f5,f8,f9];exact kk (hK _ _ rfl (λh=>absurd h (by decide)) rfl) rfl
    ·intro listed ad fr K hz hfl had hF hd hK hS2;obtain⟨f3,f5,f8,f9⟩:=hF;obtain⟨_,g15,rfl⟩:=hd 15 _ rfl rfl;simp only[go_sem,zE,zB,zA,zM,zS,zL,reduceCtorEq,yQ5,had,f3,f5,f8,f9,g15,fits];exact kk (hK _ _ rfl (λh=>absurd h (by decide)) rfl) rfl
    ·intro listed ad fr K hz hfl had hF hd hK hS2;obtain⟨f3,f5,f8,f9⟩:=hF;obtain⟨_,g16,rfl⟩:=hd 16 _ rfl rfl;simp only[go_sem,zE,zB,zA,zM,zS,zL,reduceCtorEq,yQ5,had,f3,f5,f8,f9,g16];refine (hcopy _).mono ?_;rintro r _ ⟨hr,rfl⟩;exact kk (hK _ _ rfl (λh=>absurd h (by decide)) hr.1) rfl
    ·intro listed ad fr K hz hfl had hF hd hK hS2;obtain⟨f3,f5,f8,f9⟩:=hF;simp only[go_sem,zE,zB,zA,zM,zS,zL,reduceCtorEq,yQ5,had,f3,f5,f8,f9];exact kk (hK _ _ rfl (λh=>absurd h (by decide)) rfl) rfl
    ·intro listed ad fr K hz hfl had hF hd hK hS2;obtain⟨f3,f5,f8,f9⟩:=hF;obtain⟨_,g1,rfl⟩:=hd 1 _ rfl rfl;obtain⟨z14,g14,k14⟩:=hd 14 _ rfl rfl;obtain⟨t5,y5,t6,y6,rfl,k5,k6,k7',k8⟩:=k14;obtain⟨z17,g17,k17⟩:=hd 17 _ rfl rfl;obtain⟨_,g18,rfl⟩:=hd 18 _ rfl rfl;replace k17:IsFm mn z17:=k17;obtain⟨o2,n2,t2,x2,t3,x3,rfl⟩:=k17.agg;simp only[go_sem,zE,zB,zA,zM,zS,zL,reduceCtorEq,yQ5,had,f3,f5,f8,f9,g1,g14,g17,g18,fits];exact kk (hK _ _ rfl (λh=>absurd h (by decide)) (by simp only[IsTr];exact⟨_,_,_,_,_,_,_,_,_,_,_,_,_,_,_,_,rfl,hru,k5,k6,k7',k8,k17,⟨_,_,rfl,.inl rfl,rfl⟩,htg,hzs⟩)) rfl
    ·intro listed ad fr K hz hfl had hF hd hK hS2;obtain⟨f3,f5,f8,f9⟩:=hF;obtain⟨z19,g19,k19⟩:=hd 19 _ rfl rfl;obtain⟨rule9,tl9,xl9,tr9,xr9,op9,fn9,ta9,xa9,tb9,xb9,v9,un9,tu9,xu9,n9,ts9,xs9,rfl⟩:=yJk k19;simp only[go_sem,zE,zB,zA,zM,zS,zL,reduceCtorEq,yQ5,had,f3,f5,f8,f9,g19,fits,trZ];exact kk (hS2 _ rfl rfl ⟨_,k19,rfl⟩ (λ_=>wGo rfl)) rfl
    ·exact trivial
   ·rintro fr ⟨l,hl,h8⟩ hall;obtain⟨rule9,tl9,xl9,tr9,xr9,op9,fn9,ta9,xa9,tb9,xb9,v9,un9,tu9,xu9,n9,ts9,xs9,he9⟩:=yJk hl;obtain rfl:=IV.agg.inj he9;simp only[go_sem,zE,zB,zA,zM,zS,zL,reduceCtorEq,h8];refine yQa (λc o hc=>?_) ⟨by rw[hgo,zWi];exact hl,rfl⟩;rw[hS];exact (vYv (λh h'=>by rw[h',hLn h] at hc;cases hc) (λh h'=>by rw[h',hRn h] at hc;cases hc)).trans (hsubN c o hc)
mutual
noncomputable def yJ3:Tr->Tr
 | .mk rule s m _ _ sub=>zJl rule s m (yXl sub)
noncomputable def yXl:List Tr->List Tr
 | []=>[]
 | a::l=>yJ3 a::yXl l
end
theorem zZ3:∀l:List Tr,(yXl l).length=l.length
 | []=>rfl
 | a::l=>by simp only[yXl,List.length_cons,zZ3 l]
theorem zWh:∀l m:List Tr,yXl (l++m)=yXl l++yXl m
 | [],m=>rfl
 | a::l,m=>by simp only[List.cons_append,yXl,zWh l m]
theorem zJm {P:Tr->Prop}{fin:Sq->Tr}(hf:∀q,P (fin q)):∀ {al:List Sq} {ss:List Tr} {q:Sq},(∀s∈ss,P s)->P (yXs fin al ss q)
 | al,[],q,_=>by rw[zWi];exact hf q
 | [],s::_,q,h=>h s (by simp)
 | a::al,s::ss,q,h=>by
  rw[yXs];split
  ·exact h s (by simp)
  ·exact zJm hf λx hx=>h x (by simp[hx])
mutual
theorem wVl:∀ {t:Tr},okT t=true->(yJ3 t).sq.l.length+(yJ3 t).sq.r.length<=300
 | .mk rule s m u n sub,h=>by
  simp only[okT,bAt] at h;have hb:=(yV8 h.1).1;rw[yJ3,zJl];refine zJm (P:=λt=>t.sq.l.length+t.sq.r.length<=300) (λq=>?_) (zJk h.2);have h1:=(yWb (need:=q.l) (l:=s.l) (r:=[])).2;have h2:=(yWb (need:=q.r) (l:=s.r) (r:=[])).2;have h3:=yQw s.l;have h4:=yQw s.r;have h5:=yZt s.l;have h6:=yZt s.r;simp only[List.length_nil] at h1 h2;show (yX2 s.l q.l).length+(yX2 s.r q.r).length<=300;unfold yX2;omega
theorem zJk:∀ {l:List Tr},okTs l=true->∀a∈yXl l,a.sq.l.length+a.sq.r.length<=300
 | [],_,a,h=>by simp only[yXl] at h;cases h
 | b::l,h,a,ha=>by
  simp only[okTs,bAt] at h;simp only[yXl,List.mem_cons] at ha;rcases ha with rfl|ha
  ·exact wVl h.1
  ·exact zJk h.2 a ha
end
def wYs (t:Tr):Prop:=∀(x:IV) (_:IsTr t x) (_:t.steps<=100) (_:okT t=true) (st:ISt) (m:Nat) (es:List (Value×IV)) (_:st m=some (.map (.int .u8) es)) (_:zG0 es),
 ICall prog gl 56 [x,.agg [],.fn (.func 49) [.agg [.raw (.map (some m))]] [],.fn (.func 57) [.agg [.raw (.map (some m))]] []] st
  (λr st'=>IsTr (yJ3 t) r/\st'=st)
theorem xG3 (G:Gl gl)(T:Gt gl)(rule:Nat)(s:Sq)(mn:Fm)(u:Tm)(nm:ByteArray)(sub:List Tr)(IH:∀a∈sub,wYs gl a):wYs gl (.mk rule s mn u nm sub):=by
 intro x hx hst hw st m es hm hl;obtain⟨tl,xl,tr,xr,op,fn,ta,xa,tb,xb,v,un,tu,xu,ts,xs,rfl,hru,e1,i1,e2,i2,hy,hz,e3,i3⟩:=hx.mk;refine ICall.intro (c:=cf prog gl [23] []) func56 rfl (by show _<=48;simp) (by kernel_rfl) ?_;simp only[go_sem,zE,zB,zA,zM,zS,zL,reduceCtorEq,fits];refine (wV4 gl _ m rfl _ _ hx (by show sub.length<=_;simp only[Tr.steps] at hst;have:=yXa sub;omega) _).mono ?_;rintro _ st ⟨ts',xs',rfl,e3',i3',rfl⟩;have hln:=i3'.len;have hls:sub.length<=100:=by rw[Tr.steps] at hst;have:=yXa sub;omega
 change xs'.length=sub.length at hln;simp only[go_sem,zE,zB,zA,zM,zS,zL,reduceCtorEq,fits];intro _;refine yQm ⟨by omega,by omega,by omega⟩ λg=>yQc λhg=>?_;have hgm:g≠m:=λh=>by rw[h,hm] at hg;cases hg
 intro _;refine LoopC.ctr sub.length (λk fr st' ds=>(∃cs zs,st'=st.put g (some (.box cs))/\cs.length=sub.length*12/\cs.take (k*12)=zs.flatMap IV.cells/\IsTrs (yXl (sub.take k)) zs) /\
  fr 2=.iv (.fn (.func 49) [.agg [.raw (.map (some m))]] [])/\fr 3=.iv (.fn (.func 57) [.agg [.raw (.map (some m))]] [])/\fr 4=.box [.raw (.int .u8 rule),.sl tl xl,.sl tr xr,.raw (.int .u8 op),.raw (.string fn),.sl ta xa,.sl tb xb,.raw (.bool v),.raw (.string un),.sl tu xu,.raw (.string nm),.sl ts xs]/\fr 5=.box []/\fr 8=.box trZ /\
  fr 10=.iv (.sl ⟨false,.none,0⟩ (List.replicate sub.length (.agg [])))/\fr 11=.iv (.raw (.slice (some ⟨g,0,none⟩) sub.length sub.length))/\fr 24=.iv (.sl ts' xs')/\fr 25=.iv (.raw (.int .i64 sub.length))/\fr 26=.iv (.raw (.int .i64 k))/\ds=[]) ?_ ?_ ?_
 ·simp only[go_sem,zE,zB,zA,zM,zS,zL,reduceCtorEq,hln];exact⟨⟨_,[],rfl,by simp,rfl,rfl⟩,rfl,rfl,rfl⟩
 ·rintro k fr _ _ hlt ⟨⟨cs,zs,rfl,hcl,hct,hzs⟩,f2,f3,f4,f5,f8,f10,f11,f24,f25,f26,rfl⟩;obtain⟨a,ha⟩:=yQ4 hlt;obtain⟨z,hkz,hz⟩:=i3'.get ha;have ham:=lMg ha;have hsta:=zQ5 ham;simp only[Tr.steps] at hst;simp only[okT,bAt] at hw;have hcall:=λst1 hm=>IH a ham z hz (by omega) (zXy hw.2 ham) st1 m es hm hl;have hrep:(List.replicate sub.length (IV.agg []))[k]?=some (.agg []):=by rw[List.getElem?_replicate,if_pos hlt]
  obtain⟨rule',tl',xl',tr',xr',op',fn',ta',xa',tb',xb',v',un',tu',xu',n',ts2,xs2,rfl⟩:=yJk hz;simp only[go_sem,zE,zB,zA,zM,zS,zL,reduceCtorEq,f2,f3,f4,f5,f8,f10,f11,f24,f25,f26,lt_i hlt,yQ3 e3',iNn,hkz,fits,hrep];refine (hcall _ (by rw[yQb hgm.symm];exact hm)).mono ?_;rintro r _ ⟨hr,rfl⟩;have hr0:=hr;obtain⟨rule9,tl9,xl9,tr9,xr9,op9,fn9,ta9,xa9,tb9,xb9,v9,un9,tu9,xu9,n9,ts9,xs9,rfl⟩:=yJk hr;simp only[go_sem,zE,zB,zA,zM,zS,zL,reduceCtorEq,f2,f3,f4,f5,f8,f10,f11,f24,f25,f26,fits,ISt.put_same,yQ8,yQf hlt (show sub.length<=281474976710656 by omega)];have hkn:k*12+12<=sub.length*12:=by omega
  obtain⟨q1,q2⟩:=yUj (new:=[IV.raw (.int .u8 rule9),.sl tl9 xl9,.sl tr9 xr9,.raw (.int .u8 op9),.raw (.string fn9),.sl ta9 xa9,.sl tb9 xb9,.raw (.bool v9),.raw (.string un9),.sl tu9 xu9,.raw (.string n9),.sl ts9 xs9]) hcl hlt rfl;rw[if_pos ⟨by omega,hlt⟩,if_pos (by omega)];refine⟨_,zs++[.agg [.raw (.int .u8 rule9),.sl tl9 xl9,.sl tr9 xr9,.raw (.int .u8 op9),.raw (.string fn9),.sl ta9 xa9,.sl tb9 xb9,.raw (.bool v9),.raw (.string un9),.sl tu9 xu9,.raw (.string n9),.sl ts9 xs9]],rfl,q1,?_,?_⟩
  ·rw[q2,hct,List.flatMap_append,List.flatMap_singleton];rfl
  ·rw[yQ7 ha,zWh];exact hzs.append ⟨_,_,rfl,hr0,rfl⟩
 ·rintro fr _ _ ⟨⟨cs,zs,rfl,hcl,hct,hzs⟩,f2,f3,f4,f5,f8,f10,f11,f24,f25,f26,rfl⟩;rw[lTl] at hzs;have hzl:zs.length=sub.length:=by rw[hzs.len,zZ3]
  simp only[go_sem,zE,zB,zA,zM,zS,zL,reduceCtorEq,f2,f3,f4,f5,f8,f10,f11,f24,f25,f26,yQo (nLi _)];refine ICall.frzSl (pre:=[_,_,_]) (es:=12) (zs:=zs) (ISt.put_same ..) hzl (Nat.le_refl _) (by omega) (zJn hzs) hct (by omega) ?_;rw[xQx hg];have hok:=hw;simp only[okT,bAt] at hw;obtain⟨hb1,hb2,_,_⟩:=yV8 hw.1;have hsm:=zGk mn;have hs3:=yZt s.l;have hs4:=yZt s.r;refine (vK4 gl G T _ m rfl rule s mn u nm sub _ hx (yXl sub) _ _ (.inr rfl) (zG7 hzs) (by omega) (by omega) (by omega) (λa ha=>Nat.le_trans (zJk hw.2 a ha) (by decide)) (by rw[zZ3];omega) _ es hm hl).mono ?_;rintro r _ ⟨hr,rfl⟩;have hr0:=hr;obtain⟨rule9,tl9,xl9,tr9,xr9,op9,fn9,ta9,xa9,tb9,xb9,v9,un9,tu9,xu9,n9,ts9,xs9,rfl⟩:=yJk hr;simp only[go_sem,zE,zB,zA,zM,zS,zL,reduceCtorEq,f8,trZ,fits];exact yQ0 ⟨by simpa only[yJ3] using hr0,rfl⟩
theorem zUv (G:Gl gl)(T:Gt gl):∀(k:Nat) (t:Tr),SizeOf.sizeOf t<k->wYs gl t
 | 0,_,h=>absurd h (by omega)
 | k+1,.mk rule s mn u nm sub,h=>xG3 gl G T rule s mn u nm sub λa ha=>zUv G T k a (by have:=lSm ha;simp only[Tr.mk.sizeOf_spec] at h;omega)
theorem wUm (G:Gl gl)(T:Gt gl)(t:Tr):wYs gl t:=zUv gl G T _ t (Nat.lt_succ_self _)
noncomputable def yU6 (t:Tr):Tr×Nat:=if (yZp 1 t).2≠0 then (tr0,231) else (yJ3 t,0)
theorem xYz (G:Gl gl)(T:Gt gl)(t:Tr)(x:IV)(hx:IsTr t x)(hok:okT t=true)(hst:t.steps<=100)(st:ISt) :
  ICall prog gl 20 [x] st (λr st'=>(∃z,r=.tup [z,.raw (.int .i64 (yU6 t).2)]/\IsTr (yU6 t).1 z)/\st'=st):=by
 have hck:=λst=>zVt gl G T 1 t x hx (xJr hok (by omega)) st;have hx0:=hx;have z0:=wQu;unfold trZ at z0;obtain⟨rule,tl,xl,tr,xr,op,fn,ta,xa,tb,xb,v,un,tu,xu,nm,ts,xs,rfl⟩:=yJk hx;have hne:∀n:Nat,((n:Int)=0)=(n=0):=λn=>propext (by omega);refine iI func20 ?_;simp only[go_sem,zE,zB,zA,zM,zS,zL,reduceCtorEq,fits];refine (hck _).mono ?_;rintro _ st ⟨⟨tg,rfl,htg⟩,rfl⟩;by_cases h0:(yZp 1 t).2=0
 ·simp only[go_sem,zE,zB,zA,zM,zS,zL,reduceCtorEq,fits,h0,decide_true,Bool.not_true,Int.natCast_zero];refine (zKi gl st).mono ?_;rintro _ _ ⟨m,es,hm,rfl,hl,rfl⟩;simp only[go_sem,zE,zB,zA,zM,zS,zL,reduceCtorEq,fits];refine (wUm gl G T t _ hx0 hst hok _ m es (ISt.put_same ..) hl).mono ?_;rintro r _ ⟨hr,rfl⟩;have hr0:=hr;obtain⟨rule9,tl9,xl9,tr9,xr9,op9,fn9,ta9,xa9,tb9,xb9,v9,un9,tu9,xu9,n9,ts9,xs9,rfl⟩:=yJk hr;simp only[go_sem,zE,zB,zA,zM,zS,zL,reduceCtorEq,fits];have he:yU6 t=(yJ3 t,0):=by rw[yU6,if_neg (by rw[h0];decide)]
  exact yQa (yQg hm) ⟨⟨_,by rw[he];rfl,by rw[he];exact hr0⟩,rfl⟩
 ·simp only[go_sem,zE,zB,zA,zM,zS,zL,reduceCtorEq,fits,hne,h0,decide_false,Bool.not_false];have he:yU6 t=(tr0,231):=by rw[yU6,if_pos h0]
  exact yQ0 ⟨⟨_,by rw[he];rfl,by rw[he];exact z0⟩,rfl⟩
end Go.Proofs.Tryz
namespace Go.Proofs.Tryz
open Go Go.Iv
set_option maxRecDepth 8000
variable (gl:Nat->Option IV)
theorem ord3 (x y z:Operand):yKb 3 [(0,x),(1,y),(2,z)]=true:=rfl
theorem ord4 (x y z w:Operand):yKb 4 [(0,x),(1,y),(2,z),(3,w)]=true:=rfl
theorem xV5 {ca:Nat}{s:Sq}{rule:Nat}{main:Fm}{term:Tm}{name:ByteArray}{r:Rw}{ad:List Sq}(h1:yZz ca s=true)(h2:rowS ca rule=some r)(h3:yJ7 ca rule r main term name=(ad,0))
  (h4:r.left=true->hasF s.l main=true) (h5:r.right=true->hasF s.r main=true) (h6:r.asks≠2):yJl ca s rule main term name=(ad,0):=by
 unfold yJl;rw[h1,h2];simp only[Bool.not_true,bFt,if_false,h3];obtain⟨rl,rr,op,asks⟩:=r;simp only at h4 h5 h6 ⊢;have e1:(rl&&!hasF s.l main)=false:=by
  cases rl
  ·rfl
  ·rw[h4 rfl];rfl
 have e2:(rr&&!hasF s.r main)=false:=by
  cases rr
  ·rfl
  ·rw[h5 rfl];rfl
 rw[e1,e2,dEf h6];rfl
theorem xHas {l:List Fm}{f:Fm}(h:f∈l)(hr:f.right=true):hasF l f=true:=yWk.2 ⟨f,h,zJb hr⟩
theorem wG5 {s:Sq}(h:(decide (s.l.length<=64)&&decide (s.r.length<=64)&&s.l.all (fmB 1)&&s.r.all (fmB 1))=true):yZz 1 s=true:=by
 unfold yZz;rw[show yK4 1=true from rfl,Bool.true_and,h];rfl
theorem xAll {l m:List Fm}(h:∀f∈l,f∈m/\f.right=true):allF l m=true:=List.all_eq_true.2 λf hf=>xHas (h f hf).1 (h f hf).2
theorem zUt {ca rule:Nat}{s:Sq}{main:Fm}{term:Tm}{name:ByteArray}{sub:List Tr}{ad:List Sq}(h:yJl ca s rule main term name=(ad,0))(hl:sub.length=ad.length)(hp:yX3 s ad sub=true):yZu ca (.mk rule s main term name sub)=0:=by
 simp only[yZu];rw[h];simp only[ne_eq,nTf,if_false,hl,hp,if_true]
theorem vKk:yJl 1 ⟨[xmR,xmA],[xmR]⟩ 5 xmA xmT ⟨#[]⟩=([⟨[xmP,xmQ],[]⟩],0):=xV5 (r:=⟨true,false,4,0⟩) (wG5 (by decide)) rfl (by rfl) (λ_=>xHas (by simp) (by decide)) (λh=>by cases h) (by decide)
theorem vKj:yJl 1 ⟨[xmP,xmQ,xmR,xmA],[xmR]⟩ 1 xmR xmT ⟨#[]⟩=([],0):=xV5 (r:=⟨true,true,0,0⟩) (wG5 (by decide)) rfl (by rfl) (λ_=>xHas (by simp) (by decide)) (λ_=>xHas (by simp) (by decide)) (by decide)
theorem wQ9:yZp 1 xmX=([],0):=by
 have h1:yZu 1 xmX=0:=zUt vKk rfl (by
  have a1:allF [xmP,xmQ,xmR,xmA] [xmR,xmA,xmP,xmQ]=true:=xAll λf hf=>by
   simp only[List.mem_cons,List.not_mem_nil,or_false] at hf;rcases hf with rfl|rfl|rfl|rfl<;>exact⟨by simp,by decide⟩
  have a2:allF [xmR] [xmR]=true:=xAll λf hf=>by
   simp only[List.mem_cons,List.not_mem_nil,or_false] at hf;subst hf;exact⟨by simp,by decide⟩
  simp only[yX3,Tr.sq,Sq.plus,yXp,List.append_nil,List.cons_append,List.nil_append,a1,a2,Bool.and_self])
 have h2:yZu 1 (.mk 1 ⟨[xmP,xmQ,xmR,xmA],[xmR]⟩ xmR xmT ⟨#[]⟩ [])=0:=zUt vKj rfl rfl;unfold yZp;rw[show xmX.walk []=[([],xmX),([0],.mk 1 ⟨[xmP,xmQ,xmR,xmA],[xmR]⟩ xmR xmT ⟨#[]⟩ [])] from rfl];simp only[yZk,h1,h2,if_true];rfl
theorem wGd:zWd xmS (n1 false)=(xmW,0):=by
 rw[zWd,if_neg (by rw[zUs];decide),if_neg (by rw[wQb];decide),xV4]
theorem vVa:zZ1 xmW=(n1 true,0):=by
 rw[zZ1,if_neg (by rw[zUr,wVh];decide),if_neg (by decide),wVg]
theorem vK6:yU6 xmW=(xmV,0):=by
 rw[yU6,if_neg (by rw[zUr];decide)];rfl
theorem vK5:yU6 xmX=(xmY,0):=by
 rw[yU6,if_neg (by rw[wQ9];decide)];rfl
theorem vZh:xXh (n1 false) (yZi xmS):=by
 simp only[n1,n2,n3,xXh,GrowsL,wQc];exact⟨trivial,rfl,by decide,⟨rfl,rfl,by decide,⟨rfl,rfl,rfl⟩,trivial⟩,trivial⟩
def tagJ:List Tr->Tag
 | []=>⟨true,.nil,0⟩
 | _::_=>⟨true,.full,12⟩
theorem vQ4 (l:List Tr):okEs (tagJ l) 12:=by cases l<;>simp[tagJ,okEs]
mutual
def trJ:Tr->IV
 | .mk rule s (.mk o fn us fs) (.mk v un ts) n sub=>.agg [.raw (.int .u8 rule),.sl (tagF s.l) (fmsI s.l),.sl (tagF s.r) (fmsI s.r),.raw (.int .u8 o),.raw (.string fn),.sl (tagT us) (tmsI us),.sl (tagF fs) (fmsI fs),.raw (.bool v),.raw (.string un),.sl (tagT ts) (tmsI ts),.raw (.string n),.sl (tagJ sub) (trsJ sub)]
def trsJ:List Tr->List IV
 | []=>[]
 | a::l=>trJ a::trsJ l
end
mutual
def bytJ:Tr->Bool
 | .mk rule s f _ _ sub=>decide (rule<256)&&zXa s.l&&zXa s.r&&wWi f&&wYi sub
def wYi:List Tr->Bool
 | []=>true
 | a::l=>bytJ a&&wYi l
end
mutual
theorem xQ6:∀t:Tr,bytJ t=true->IsTr t (trJ t)
 | .mk rule s (.mk o fn us fs) (.mk v un ts) n sub,h=>by
  simp only[bytJ,bAt,dTe] at h;obtain⟨⟨⟨⟨h1,h2⟩,h3⟩,h4⟩,h5⟩:=h;have hf:=wU9 (.mk o fn us fs) h4;have ht:=wGe (.mk v un ts);simp only[fmI] at hf;simp only[tmI] at ht;simp only[IsTr];exact⟨tagF s.l,fmsI s.l,tagF s.r,fmsI s.r,o,fn,tagT us,tmsI us,tagF fs,fmsI fs,v,un,tagT ts,tmsI ts,tagJ sub,trsJ sub,by simp only[trJ],h1,zJu _,zZo _ h2,zJu _,zZo _ h3,hf,ht,vQ4 _,wQs sub h5⟩
theorem wQs:∀l:List Tr,wYi l=true->IsTrs l (trsJ l)
 | [],_=>rfl
 | a::l,h=>by
  simp only[wYi,bAt] at h;exact⟨_,_,by simp only[trsJ],xQ6 a h.1,wQs l h.2⟩
end
def sqI (s:Sq):IV:=.agg [.sl (tagF s.l) (fmsI s.l),.sl (tagF s.r) (fmsI s.r)]
theorem wGg (s:Sq)(h:(zXa s.l&&zXa s.r)=true):IsSq s (sqI s):=by
 rw[bAt] at h;exact⟨_,_,_,_,rfl,zJu _,zZo _ h.1,zJu _,zZo _ h.2⟩
theorem wZ5 {s:Sq}{x:IV}(h:IsSq s x):IsSq s (age x):=by
 obtain⟨t1,x1,t2,x2,rfl,e1,i1,e2,i2⟩:=h;simp only[age,ages];exact⟨_,_,_,_,rfl,yJq e1,i1.aged,yJq e2,i2.aged⟩
theorem wW4 (G:Gl gl)(T:Gt gl)(hgl:∀g x,gl g=some x->age x=x)(st:ISt)(h0:∀b,st b=none):ICall prog gl 9 [] st (λr st'=>r=.raw (.bool true)/\st'=st):=by
 have hfl:zXi st:=λb o hb=>by rw[h0] at hb;cases hb
 have hrw:xGs st:=λb cs hb=>by rw[h0] at hb;cases hb
 have hB:=ICall.own (K:=λr=>∃z,r=.tup [z,.raw (.int .i64 0)]/\IsNd (n1 false) z) (args:=[.raw (.int .u8 1),sqI xmS]) hfl hgl ((vXm gl G xmS (age (sqI xmS)) (wZ5 (wGg xmS (by decide))) (by decide) wQa (n1 false) (by decide) vZh st).mono λr st' ⟨⟨z,h1,h2,h3⟩,h4⟩=>⟨h4,by rw[h1];exact⟨h3,trivial,trivial⟩,z,h1,h2⟩);refine ICall.intro (c:=cf prog gl [] [(7,[0,1,2,3,4,5,6,9,10,11,13,14,15,16,24,7,8,12,17,18,19,20,21,22,23,25]),(10,[0,1,2,3,4,5,8,9,10,12,13,21,6,7,11,14,15,16,17,18,19,20,22]),(13,[0,1,2,3,5,6,9,10,11,12,13,14,16,17,27,4,7,8,15,18,19,20,21,22,23,24,25,26,28,29]),(14,[0,1,2,3,4,5,6,7,8,9,10,11,12,13,14,15,16,17,18,19,20,21,22,23,24,25,26,28,29,27,30,31,32,33,34,35,36,37,38,39,40])]) func9 rfl (by show _<=199;simp) (by kernel_rfl) ?_;simp only[go_sem,zE,zB,zA,zM,zS,zL,reduceCtorEq,fits,yQy]
 repeat (first
  | (refine (s_p gl _ _).mono ?_;rintro _ st ⟨rfl,rfl⟩;simp only[go_sem,zE,zB,zA,zM,zS,zL,reduceCtorEq,fits,yQ1,yQd,ord3,ord4,yQy,decide_true,fits])
  | (refine (s_of gl _ _ _ _).mono ?_;rintro _ st ⟨rfl,rfl⟩;simp only[go_sem,zE,zB,zA,zM,zS,zL,reduceCtorEq,fits,yQ1,yQd,ord3,ord4,yQy,decide_true,fits])
  | (refine (s_fs gl _ _ _).mono ?_;rintro _ st ⟨rfl,rfl⟩;simp only[go_sem,zE,zB,zA,zM,zS,zL,reduceCtorEq,fits,yQ1,yQd,ord3,ord4,yQy,decide_true,fits])
  | (refine (s_sq gl _ _ _ _ _).mono ?_;rintro _ st ⟨rfl,rfl⟩;simp only[go_sem,zE,zB,zA,zM,zS,zL,reduceCtorEq,fits,yQ1,yQd,ord3,ord4,yQy,decide_true,fits])
  | (refine (xW0 gl _ _ _ _ _ _ _ _ _ _ _ _ _ _).mono ?_;rintro _ st ⟨rfl,rfl⟩;simp only[go_sem,zE,zB,zA,zM,zS,zL,reduceCtorEq,fits,yQ1,yQd,ord3,ord4,yQy,decide_true,fits]))
 refine hB.mono ?_;rintro _ st1 ⟨_,hfl1,hrw1,_,⟨z,rfl,hz⟩,hO,hY⟩;obtain⟨y,rfl,hOy,hYy⟩:=vQp hO hY;obtain⟨o,n,v4,v5,g1,c1,o2,m2,w4,w5,q1,g2,c2,o3,m3,u4,u5,u8,q2,rfl,ho4,ho5,hc1,hc2,hN1,hN2,z',hz',hO'⟩:=vZn (hrw1 hrw) hz hOy hYy;have ho8:(IV.raw (Value.slice (some ⟨g1,0,none⟩) 1 c1)).one=true:=rfl;have hTr:=ICall.lentFix (K:=λr=>∃y,r=.tup [y,.raw (.int .i64 0)]/\IsTr xmW y) (args:=[sqI xmS,.agg [.raw (.bool false),.raw (.int .i64 0),.raw (.int .u8 o),.raw (.string n),.raw v4,.raw v5,.raw (.bool false),.raw (.int .i64 0),.raw (.slice (some ⟨g1,0,none⟩) 1 c1)]]) (args':=[sqI xmS,age z]) hfl1 hgl ⟨_,_,rfl,.inl rfl,_,_,rfl,.inr ⟨z,hOy,rfl⟩,rfl⟩
  ((vYu gl G xmS (age (sqI xmS)) (wZ5 (wGg xmS (by decide))) (by decide) (n1 false) (age (age z)) hz.aged.aged (by decide) (yVt st1)).mono λr st' ⟨⟨y,h1,h2,h3⟩,h4⟩=>⟨h4,by rw[h1];exact⟨h3,trivial,trivial⟩,age y,by rw[h1,wGd];rfl,by rw[wGd] at h2;exact xXq h2⟩)
 simp only[go_sem,zE,zB,zA,zM,zS,zL,reduceCtorEq,fits,ho4,ho5,ho8];refine hTr.mono ?_;rintro _ st ⟨rfl,y,rfl,hy⟩;have hNo:=λst=>vG1 gl G T xmW y hy (by decide) (by decide) st;have hUs:=λst=>xYz gl G T xmW y hy (by decide) (by decide) st;have hSa:=λw hw st=>yU0 gl xmW y w hy hw (by decide) st;rw[vVa] at hNo;rw[vK6] at hUs;obtain⟨rule',tl',xl',tr1',xr',op',fn',ta',xa',tb',xb',v',un',tu',xu',n',ts2,xs2,rfl⟩:=yJk hy;simp only[go_sem,zE,zB,zA,zM,zS,zL,reduceCtorEq,fits,yQ1,yQd,ord3,ord4,yQy,decide_true]
 repeat (first
  | (refine (s_p gl _ _).mono ?_;rintro _ st ⟨rfl,rfl⟩;simp only[go_sem,zE,zB,zA,zM,zS,zL,reduceCtorEq,fits,yQ1,yQd,ord3,ord4,yQy,decide_true,fits])
  | (refine (s_of gl _ _ _ _).mono ?_;rintro _ st ⟨rfl,rfl⟩;simp only[go_sem,zE,zB,zA,zM,zS,zL,reduceCtorEq,fits,yQ1,yQd,ord3,ord4,yQy,decide_true,fits])
  | (refine (s_fs gl _ _ _).mono ?_;rintro _ st ⟨rfl,rfl⟩;simp only[go_sem,zE,zB,zA,zM,zS,zL,reduceCtorEq,fits,yQ1,yQd,ord3,ord4,yQy,decide_true,fits])
  | (refine (s_sq gl _ _ _ _ _).mono ?_;rintro _ st ⟨rfl,rfl⟩;simp only[go_sem,zE,zB,zA,zM,zS,zL,reduceCtorEq,fits,yQ1,yQd,ord3,ord4,yQy,decide_true,fits])
  | (refine (xW0 gl _ _ _ _ _ _ _ _ _ _ _ _ _ _).mono ?_;rintro _ st ⟨rfl,rfl⟩;simp only[go_sem,zE,zB,zA,zM,zS,zL,reduceCtorEq,fits,yQ1,yQd,ord3,ord4,yQy,decide_true,fits]))
 refine (hNo _).mono ?_;rintro _ st ⟨⟨m,rfl,hm⟩,rfl⟩;have hSm:=λw hw st=>zYz gl (n1 true) m w hm hw (by decide) st;obtain⟨v1,w1,o1,k1,t1,y1,t2,y2,a1,w2,t3,y3,rfl⟩:=yY6 hm;simp only[go_sem,zE,zB,zA,zM,zS,zL,reduceCtorEq,fits,yQ1,yQd,ord3,ord4,yQy,decide_true];refine (hUs _).mono ?_;rintro _ st ⟨⟨u,rfl,hu⟩,rfl⟩;have hSu:=λw hw st=>yU0 gl xmV u w hu hw (by decide) st;obtain⟨rule3,tl3,xl3,tr3,xr3,op3,fn3,ta3,xa3,tb3,xb3,v3,un3,tu3,xu3,nn3,ts3,xs3,rfl⟩:=yJk hu;simp only[go_sem,zE,zB,zA,zM,zS,zL,reduceCtorEq,fits,yQ1,yQd,ord3,ord4,yQy,decide_true]
 repeat (first
  | (refine (s_p gl _ _).mono ?_;rintro _ st ⟨rfl,rfl⟩;simp only[go_sem,zE,zB,zA,zM,zS,zL,reduceCtorEq,fits,yQ1,yQd,ord3,ord4,yQy,decide_true,fits])
  | (refine (s_of gl _ _ _ _).mono ?_;rintro _ st ⟨rfl,rfl⟩;simp only[go_sem,zE,zB,zA,zM,zS,zL,reduceCtorEq,fits,yQ1,yQd,ord3,ord4,yQy,decide_true,fits])
  | (refine (s_fs gl _ _ _).mono ?_;rintro _ st ⟨rfl,rfl⟩;simp only[go_sem,zE,zB,zA,zM,zS,zL,reduceCtorEq,fits,yQ1,yQd,ord3,ord4,yQy,decide_true,fits])
  | (refine (s_sq gl _ _ _ _ _).mono ?_;rintro _ st ⟨rfl,rfl⟩;simp only[go_sem,zE,zB,zA,zM,zS,zL,reduceCtorEq,fits,yQ1,yQd,ord3,ord4,yQy,decide_true,fits])
  | (refine (xW0 gl _ _ _ _ _ _ _ _ _ _ _ _ _ _).mono ?_;rintro _ st ⟨rfl,rfl⟩;simp only[go_sem,zE,zB,zA,zM,zS,zL,reduceCtorEq,fits,yQ1,yQd,ord3,ord4,yQy,decide_true,fits]))
 have hUx:=λst=>xYz gl G T xmX (trJ xmX) (xQ6 xmX (by decide)) (by decide) (by decide) st;rw[vK5] at hUx;refine (hUx _).mono ?_;rintro _ st ⟨⟨xx,rfl,hxx⟩,rfl⟩;have hSx:=λw hw st=>yU0 gl xmY xx w hxx hw (by decide) st;obtain⟨rule4,tl4,xl4,tr4,xr4,op4,fn4,ta4,xa4,tb4,xb4,v4',un4,tu4,xu4,nn4,ts4,xs4,rfl⟩:=yJk hxx;have hz1:IntKind.i64.wrap ((0:Int)+((0:Nat):Int))=0:=rfl;have hz2:IntKind.i64.wrap (((0:Nat):Int)+((0:Nat):Int))=0:=rfl;have hz3:IntKind.i64.wrap ((0:Int)+(0:Int))=0:=rfl;simp only[go_sem,zE,zB,zA,zM,zS,zL,reduceCtorEq,fits,yQ1,yQd,ord3,ord4,yQy,decide_true,hz1,hz2,hz3];refine (hSa (trJ xmW) (xQ6 xmW (by decide)) _).mono ?_;rintro _ st ⟨rfl,rfl⟩;simp only[go_sem,zE,zB,zA,zM,zS,zL,reduceCtorEq,fits,yQ1,yQd,ord3,ord4,yQy,decide_true,hz1,hz2,hz3];refine (hSu (trJ xmV) (xQ6 xmV (by decide)) _).mono ?_;rintro _ st ⟨rfl,rfl⟩;simp only[go_sem,zE,zB,zA,zM,zS,zL,reduceCtorEq,fits,yQ1,yQd,ord3,ord4,yQy,decide_true,hz1,hz2,hz3]
 repeat (first
  | (refine (s_p gl _ _).mono ?_;rintro _ st ⟨rfl,rfl⟩;simp only[go_sem,zE,zB,zA,zM,zS,zL,reduceCtorEq,fits,yQ1,yQd,ord3,ord4,yQy,decide_true,fits])
  | (refine (s_of gl _ _ _ _).mono ?_;rintro _ st ⟨rfl,rfl⟩;simp only[go_sem,zE,zB,zA,zM,zS,zL,reduceCtorEq,fits,yQ1,yQd,ord3,ord4,yQy,decide_true,fits])
  | (refine (s_fs gl _ _ _).mono ?_;rintro _ st ⟨rfl,rfl⟩;simp only[go_sem,zE,zB,zA,zM,zS,zL,reduceCtorEq,fits,yQ1,yQd,ord3,ord4,yQy,decide_true,fits])
  | (refine (s_sq gl _ _ _ _ _).mono ?_;rintro _ st ⟨rfl,rfl⟩;simp only[go_sem,zE,zB,zA,zM,zS,zL,reduceCtorEq,fits,yQ1,yQd,ord3,ord4,yQy,decide_true,fits])
  | (refine (xW0 gl _ _ _ _ _ _ _ _ _ _ _ _ _ _).mono ?_;rintro _ st ⟨rfl,rfl⟩;simp only[go_sem,zE,zB,zA,zM,zS,zL,reduceCtorEq,fits,yQ1,yQd,ord3,ord4,yQy,decide_true,fits]))
 refine (hSx (trJ xmY) (xQ6 xmY (by decide)) _).mono ?_;rintro _ st ⟨rfl,rfl⟩;simp only[go_sem,zE,zB,zA,zM,zS,zL,reduceCtorEq,fits,yQ1,yQd,ord3,ord4,yQy,decide_true,hz1,hz2,hz3];have hBr:=ICall.borrow (st:=st) (args:=[.agg [.raw (.bool false),.raw (.int .i64 0),.raw (.int .u8 o),.raw (.string n),.raw v4,.raw v5,.raw (.bool false),.raw (.int .i64 0),.raw (.slice (some ⟨g1,0,none⟩) 1 c1)]]) (K:=λr=>r=.raw (.int .i64 (1:Nat))) hfl1 ⟨_,_,rfl,.inr ⟨z,hOy,rfl⟩,rfl⟩
  ((wQ8 gl (n1 false) (age z) hz.aged (by decide) (yVt st)).mono λr st' ⟨h1,h2⟩=>⟨h2,by rw[h1];trivial,h1⟩)
 refine hBr.mono ?_;rintro _ st ⟨rfl,rfl⟩;have d1:decide (((1:Nat):Int)=1)=true:=rfl;have d0:(0:Int).toNat=0:=rfl;have hst2:zXi (st.put g2 (some (.box (.raw (.bool true)::.raw (.int .i64 0)::.raw (.int .u8 o3)::.raw (.string m3)::.raw u4::.raw u5::.raw (.bool true)::.raw (.int .i64 0)::.raw u8::q2)))):=λb o hb=>by
  rw[ISt.put_apply] at hb;split at hb
  ·cases hb;intro x hx;rcases List.mem_cons.1 hx with rfl|hx
   ·trivial
   ·exact hfl1 g2 _ hN2 x (List.mem_cons_of_mem _ hx)
  ·exact hfl1 b o hb
 have hSN:=λ(w:IV) (hw:IsNd (n1 true) w)=>ICall.borrow (P:=prog) (gl:=gl) (f:=39) (args:=[w,.agg [.raw (.bool false),.raw (.int .i64 0),.raw (.int .u8 o),.raw (.string n),.raw v4,.raw v5,.raw (.bool false),.raw (.int .i64 0),.raw (.slice (some ⟨g1,0,none⟩) 1 c1)]]) (args':=[w,age z']) (K:=λr=>r=.raw (.bool true)) hst2 ⟨_,_,rfl,.inl rfl,_,_,rfl,.inr ⟨z',hO',rfl⟩,rfl⟩ ((zYz gl (n1 true) w (age z') hw hz'.aged (by decide) (yVt _)).mono λr st' ⟨h1,h2⟩=>⟨h2,by rw[h1];trivial,h1⟩);simp only[go_sem,zE,zB,zA,zM,zS,zL,reduceCtorEq,fits,yQ1,yQd,ord3,ord4,yQy,decide_true,d1,d0,hN1,hN2];rw[if_pos (by decide),if_pos (by decide)];refine (hSN _ hm).mono ?_;rintro _ _ ⟨rfl,rfl⟩;simp only[go_sem,zE,zB,zA,zM,zS,zL,reduceCtorEq,fits,ISt.put_same];exact yQa (λb o hb=>by rw[h0] at hb;cases hb) ⟨rfl,rfl⟩
end Go.Proofs.Tryz
namespace Go.Proofs.Tryz
open Go Go.Iv
set_option maxRecDepth 4000
variable (gl:Nat->Option IV)
theorem zXg (us:List Fm)(tg:Tag)(xs:List IV)(htg:okEs tg 4)(hxs:IsFms us xs)(hsz:yQ9 us<=1000000)(st:ISt) :
  ICall prog gl 83 [.sl tg xs] st (λr st'=>∃g zs,SlO st st' 4 us.length (zs.flatMap IV.cells) g r/\IsFms us zs/\(∀c,c≠g->st' c=st c)/\(us=[]->st'=st)):=by
 have hlsz:=yQw us;refine ICall.intro (c:=cf prog gl [20] []) func83 rfl (by show _<=22;simp) (by kernel_rfl) ?_;simp only[go_sem,zE,zB,zA,zM,zS,zL,reduceCtorEq];refine LoopC.ctr us.length (λk fr st' ds=>(∃g zs x,fr 3=.iv x/\SlO st st' 4 k (zs.flatMap IV.cells) g x/\IsFms (us.take k) zs/\(∀c,c≠g->st' c=st c)/\(k=0->st'=st))/\fr 0=.iv (.sl tg xs)/\fr 4=.iv (.raw (.int .i64 k))/\ds=[]) ?_ ?_ ?_
 ·simp only[go_sem,zE,zB,zA,zM,zS,zL,reduceCtorEq];exact⟨⟨0,[],_,rfl,.inl ⟨rfl,rfl,_,_,rfl⟩,rfl,λ_ _=>trivial⟩,rfl⟩
 ·rintro k fr st1 _ hlt ⟨⟨gi,zs,x2,f3,hs2,hzs,hoff,hz0⟩,f0,f4,rfl⟩;obtain⟨a,ha⟩:=yQ4 hlt;obtain⟨x,hkx,hx⟩:=hxs.get ha;have hsa:=yXh (lMg ha);have hcall:=xK9 gl a x hx (by omega) st1;obtain⟨o5,n5,t5,x5,t6,x6,rfl⟩:=hx.agg;rcases hs2 with⟨rfl,hcz,f,e,rfl⟩|⟨hj0,cap,cs,rfl,hg,hkc,hcc,htk,hgn⟩
  ·obtain rfl:=hz0 rfl;simp only[go_sem,zE,zB,zA,zM,zS,zL,reduceCtorEq,f0,f3,f4,hxs.len,lt_i hlt,yQ3 htg,iNn,hkx,fits];intro _;refine hcall.mono ?_;rintro r _ ⟨hr,rfl⟩;have hr0:=hr.1;obtain⟨o7,n7,t7,x7,t8,x8,rfl⟩:=IsFmD.aggs hr;simp only[go_sem,zE,zB,zA,zM,zS,zL,reduceCtorEq,f0,f3,f4,fits,yQ1,yQf hlt (show us.length<=281474976710656 by omega)];refine λg cap=>yQc λ⟨hg,hc⟩=>⟨g,zs++[.agg [.raw (.int .u8 o7),.raw (.string n7),.sl t7 x7,.sl t8 x8]],_,rfl,.inr ⟨Nat.zero_lt_one,cap,_,rfl,ISt.put_same ..,hc,?_,?_,hg⟩,?_,λc hc=>yQb hc,λh=>absurd h (by decide)⟩
   ·simp[IV.cells];omega
   ·rw[List.flatMap_append,hcz];simp[IV.cells]
   ·rw[yQ7 ha];exact hzs.append ⟨_,_,rfl,hr0,rfl⟩
  ·simp only[go_sem,zE,zB,zA,zM,zS,zL,reduceCtorEq,f0,f3,f4,hxs.len,lt_i hlt,yQ3 htg,iNn,hkx,fits];intro _;refine hcall.mono ?_;rintro r _ ⟨hr,rfl⟩;have hr0:=hr.1;obtain⟨o7,n7,t7,x7,t8,x8,rfl⟩:=IsFmD.aggs hr;simp only[go_sem,zE,zB,zA,zM,zS,zL,reduceCtorEq,f0,f3,f4,fits,yQ1];refine yKe _ _ _ (cs:=cs) hg (by simp[fits,IV.one]) ⟨by simp only[List.length_singleton];omega,by simp only[List.length_singleton];omega⟩ ⟨hkc,hcc⟩ (by simp[IV.cells]) ?_;rintro g cap' cs' hgn' hc1 hc2 htk';simp only[go_sem,zE,zB,zA,zM,zS,zL,reduceCtorEq,f0,f4,yQf hlt (show us.length<=281474976710656 by omega)];have hg2:st g=none:=by
    rcases hgn' with rfl|h
    ·exact hgn
    ·by_cases hq:g=gi
     ·rw[hq];exact hgn
     ·rw[<- hoff g hq];exact h
   refine⟨g,zs++[.agg [.raw (.int .u8 o7),.raw (.string n7),.sl t7 x7,.sl t8 x8]],_,rfl,.inr ⟨by omega,cap',cs',rfl,ISt.put_same ..,hc1,hc2,?_,hg2⟩,?_,λc hc=>?_,λh=>h.elim⟩
   ·rw[List.flatMap_append,<- htk];exact htk'
   ·rw[yQ7 ha];exact hzs.append ⟨_,_,rfl,hr0,rfl⟩
   ·rw[yQb hc,ISt.put_apply];split
    ·rename_i hq;rw[hq];exact hgn.symm
    ·rename_i hq;exact hoff c hq
 ·rintro fr st1 _ ⟨⟨gi,zs,x2,f3,hs2,hzs,hoff,hz0⟩,f0,f4,rfl⟩;rw[lTl] at hzs;have hne:us=[]->us.length=0:=λh=>by rw[h];rfl
  rcases hs2 with⟨hl0,hcz,f,e,rfl⟩|⟨hj0,cap,cs,rfl,hg,hkc,hcc,htk,hgn⟩
  ·simp only[go_sem,zE,zB,zA,zM,zS,zL,reduceCtorEq,f0,f3,f4,hxs.len,yQo (nLi _),fits];intro _;exact yQ0 ⟨gi,zs,.inl ⟨hl0,hcz,_,_,rfl⟩,hzs,hoff,λh=>hz0 (hne h)⟩
  ·simp only[go_sem,zE,zB,zA,zM,zS,zL,reduceCtorEq,f0,f3,f4,hxs.len,yQo (nLi _),fits];intro _;exact yQ0 ⟨gi,zs,.inr ⟨hj0,cap,cs,rfl,hg,hkc,hcc,htk,hgn⟩,hzs,hoff,λh=>hz0 (hne h)⟩
end Go.Proofs.Tryz
namespace Go.Proofs.Tryz
open Go Go.Iv
set_option maxRecDepth 4000
theorem zQ9 {rule:Nat}{r:Rw}{m:Fm}(h:rowK rule=some r):(r.left=true->m∈(zKj rule m).l)/\(r.right=true->m∈(zKj rule m).r)/\(∀f∈(zKj rule m).l,f=m/\r.left=true)/\(∀f∈(zKj rule m).r,f=m/\r.right=true) /\
  r.asks=0/\(rule≠17->r.left=true\/r.right=true):=by
 rcases zK5 (ca:=1) (by rw[row1];exact h) with h|h|h|h|h|h|h|h|h|h|h|h|h|h|h|h|h|h
 all_goals obtain⟨rfl,rfl⟩:=h
 all_goals first
  | (cases h;done)
  | simp[zKj,yKa]
theorem wVy {s:Sq}{rule:Nat}{m:Fm}{u:Tm}{nm:ByteArray}{sub:List Tr}(h:yZu 1 (.mk rule s m u nm sub)=0) :
  yZz 1 s=true/\∃r,rowK rule=some r/\fmB 1 m=true/\(r.op=0\/m.op=r.op)/\(r.left=true->m∈s.l)/\(r.right=true->m∈s.r) /\
  sub.length=(addS 1 rule m ((m.subs[0]?).getD fm0) ((m.subs[1]?).getD fm0)).length/\yX3 s (addS 1 rule m ((m.subs[0]?).getD fm0) ((m.subs[1]?).getD fm0)) sub=true:=by
 by_cases hc:rule=17
 ·subst hc;simp only[yZu] at h;rcases xZ0 h with⟨h1,h⟩|⟨h1,h⟩
  ·exact absurd h h1
  rcases xZ0 h with⟨_,h⟩|⟨h2,h⟩
  ·cases h
  rcases xZ0 h with⟨h3,_⟩|⟨_,h⟩
  case inr.inr.inr=>cases h
  have h1:=Decidable.not_not.1 h1;have h2:=Decidable.not_not.1 h2;have hv:yZz 1 s=true:=by
   cases hq:yZz 1 s
   ·unfold yJl at h1;rw[hq] at h1;cases h1
   ·rfl
  have hm:fmB 1 m=true:=by
   cases hq:fmB 1 m
   ·unfold yJl at h1;rw[hv,row1] at h1;simp[rowK,yJ7,hq] at h1
   ·rfl
  refine⟨hv,⟨false,false,0,0⟩,rfl,hm,.inl rfl,(λh=>nomatch h),(λh=>nomatch h),?_,?_⟩
  ·rw[h2,xJ0 (r:=⟨false,false,0,0⟩) hv rfl rfl hm (.inl rfl) (λh=>nomatch h) (λh=>nomatch h)]
  ·rw[xJ0 (r:=⟨false,false,0,0⟩) hv rfl rfl hm (.inl rfl) (λh=>nomatch h) (λh=>nomatch h)] at h3;exact h3
 ·exact wZ3 h hc
theorem wKr {rule:Nat}{r:Rw}{m:Fm}(hr:rowK rule=some r)(hm:fmB 1 m=true)(hop:r.op=0\/m.op=r.op):∀a∈addS 1 rule m ((m.subs[0]?).getD fm0) ((m.subs[1]?).getD fm0),a.l.all (fmB 1)=true/\a.r.all (fmB 1)=true:=by
 intro a ha;by_cases h17:rule=17
 ·subst h17;simp only[addS,if_neg (show ¬ (17=3) by decide),if_neg (show ¬ (17=4) by decide),if_neg (show ¬ (17=5) by decide),if_neg (show ¬ (17=6) by decide),if_neg (show ¬ (17=7) by decide),if_neg (show ¬ (17=8) by decide),if_neg (show ¬ (17=9) by decide),if_neg (show ¬ (17=10) by decide),if_neg (show ¬ (17=11) by decide),if_neg (show ¬ (17=12) by decide),if_neg (show ¬ (17=13) by decide),if_neg (show ¬ (17=14) by decide),if_neg (show ¬ (17=15) by decide),if_neg (show ¬ (17=16) by decide),if_true,List.mem_cons,List.not_mem_nil,or_false] at ha;rcases ha with rfl|rfl<;>simp[hm]
 by_cases h1:rule=1
 ·subst h1;simp[addS] at ha
 by_cases h2:rule=2
 ·subst h2;simp[addS] at ha
 obtain⟨g1,g2,g3,g4,g5⟩:=vKr hr h17 h1 h2;have hop':m.op=r.op:=by omega
 have hfi:=wY7 (m:=⟨yKa rule,0,m⟩) hm (by show 3<=m.op;omega) (by show m.op<=7;omega);obtain⟨_,hadd,hgood,_⟩:=zQy (m:=⟨yKa rule,0,m⟩) hm hfi 0;simp only at hadd hgood;rw[hop',g5] at hadd;rw[hadd] at ha;obtain⟨q,hq,rfl⟩:=List.mem_map.1 ha;have hall:∀b,(yZd b q).all (fmB 1)=true:=λb=>List.all_eq_true.2 λf hf=>by
  obtain⟨x,hx,_,rfl⟩:=yJf.1 hf;exact (hgood q hq x hx).1
 exact⟨hall true,hall false⟩
theorem zVp {rule:Nat}{r:Rw}{m:Fm}(hr:rowK rule=some r)(hm:fmB 1 m=true)(hop:r.op=0\/m.op=r.op):addU rule m=addS 1 rule m ((m.subs[0]?).getD fm0) ((m.subs[1]?).getD fm0):=by
 unfold addU xG2;rw[show yK4 1=true from rfl,row1,hr];have e:(!fmB 1 m || (decide (r.op≠0)&&decide (m.op≠r.op)))=false:=by
  rw[hm];rcases hop with h|h<;>simp[h]
 simp only[Bool.not_true,bFt,if_false,yJ7,e,if_pos (zQ9 (m:=m) hr).2.2.2.2.1]
theorem xZc {need:List Fm}:∀ {l r:List Fm} {f:Fm},f∈l.foldl (yWc need) r↔f∈r\/(f∈l/\f∈need)
 | [],r,f=>by simp
 | a::l,r,f=>by
  rw[List.foldl_cons,xZc];unfold yWc;have h1:=yVx (l:=need) (f:=a);have h2:=yVx (l:=r) (f:=a);cases e1:hasL need a<;>cases e2:hasL r a<;>rw[e1] at h1<;>rw[e2] at h2<;>simp only[bFt,false_iff,true_iff,Bool.and_true,Bool.and_false,Bool.not_true,Bool.not_false,if_true,if_false,List.mem_append,List.mem_cons,List.not_mem_nil,or_false,Bool.and_self] at h1 h2 ⊢<;>grind
theorem yJt {l need:List Fm}{f:Fm}:f∈yX2 l need↔f∈l/\f∈need:=by
 rw[yX2,xZc];simp
theorem zKc {need:List Fm}:∀ {l r:List Fm},r.Nodup->(l.foldl (yWc need) r).Nodup
 | [],r,h=>h
 | a::l,r,h=>by
  rw[List.foldl_cons];refine zKc ?_;unfold yWc;split
  ·rename_i hc;rw[bAt,Bool.not_eq_true'] at hc;have:a ∉ r:=λh=>by rw[yVx.2 h] at hc;cases hc.2
   rw[List.nodup_append];refine⟨h,by simp,λx hx y hy=>?_⟩;rw[List.mem_singleton.1 hy];rintro rfl;exact this hx
  ·exact h
theorem zZb (l need:List Fm):(yX2 l need).Nodup:=zKc List.nodup_nil
theorem zY2 {need:List Fm}:∀ {l r:List Fm},(∀f∈l,f∈need)->(r++l).Nodup->l.foldl (yWc need) r=r++l
 | [],r,_,_=>by simp
 | a::l,r,h,hn=>by
  have ha:a ∉ r:=λhr=>by
   rw[List.nodup_append] at hn;exact hn.2.2 a hr a (by simp) rfl
  have e:yWc need r a=r++[a]:=by
   unfold yWc;rw[yVx.2 (h a (by simp))];cases e2:hasL r a
   ·rfl
   ·exact absurd (yVx.1 e2) ha
  rw[List.foldl_cons,e,zY2 (λf hf=>h f (by simp[hf])) (by simpa using hn)];simp
theorem wX0 (l need:List Fm):yX2 (yX2 l need) need=yX2 l need:=by
 have:=zY2 (need:=need) (l:=yX2 l need) (r:=[]) (λf hf=>(yJt.1 hf).2) (by simpa using zZb l need);simpa[yX2] using this
theorem xW8 (l need:List Fm):(yX2 l need).length<=l.length:=by
 have:=(yWb (need:=need) (l:=l) (r:=[])).2;simpa[yX2] using this
theorem xJj:∀ {s:Sq}{al:List Sq}{ts:List Tr}{i:Nat}{a:Sq}{t:Tr},yX3 s al ts=true->al[i]?=some a->ts[i]?=some t->yXp t.sq (s.plus a)=true
 | s,m::al,t::ts,0,_,_,h,h1,h2=>by
  simp only[List.getElem?_cons_zero,Option.some.injEq] at h1 h2;subst h1 h2;simp only[yX3,bAt] at h;exact h.1
 | s,m::al,t::ts,i+1,_,_,h,h1,h2=>by
  simp only[yX3,bAt] at h;exact xJj (i:=i) h.2 (by simpa using h1) (by simpa using h2)
theorem wZy:∀ {s:Sq}{al:List Sq}{ts:List Tr},(∀(i:Nat)(a:Sq)(t:Tr),al[i]?=some a->ts[i]?=some t->yXp t.sq (s.plus a)=true)->yX3 s al ts=true
 | s,m::al,t::ts,h=>by
  simp only[yX3,bAt];exact⟨h 0 _ _ rfl rfl,wZy λi a t h1 h2=>h (i+1) a t (by simpa using h1) (by simpa using h2)⟩
 | s,[],ts,_=>by simp[yX3]
 | s,_::_,[],_=>by simp[yX3]
theorem zZ2:∀l:List Tr,yXl l=l.map yJ3
 | []=>rfl
 | a::l=>by simp only[yXl,List.map_cons,zZ2 l]
theorem xZ6:∀ {l:List Tr},(∀a∈l,yK8 1 a=true)->yYh 1 l=true
 | [],_=>rfl
 | a::l,h=>by simp only[yYh,bAt];exact⟨h a (by simp),xZ6 λb hb=>h b (by simp[hb])⟩
def wWm (b:Bool)(rule:Nat)(m:Fm)(sub:List Tr)(f:Fm):Prop:=(f=m/\∃r,rowK rule=some r/\(if b then r.left else r.right)=true) \/
 ∃(i:Nat) (a:Sq) (p:Tr),(addU rule m)[i]?=some a/\sub[i]?=some p/\(if b then f∈p.sq.l/\f ∉ a.l else f∈p.sq.r/\f ∉ a.r)
def vG2:Tr->Prop
 | .mk rule s m _ _ sub=>s.l.Nodup/\s.r.Nodup/\(∀f∈s.l,wWm true rule m sub f)/\∀f∈s.r,wWm false rule m sub f
structure UOk (t u:Tr):Prop where
 ok:yK8 1 u=true
 l:∀f∈u.sq.l,f∈t.sq.l
 r:∀f∈u.sq.r,f∈t.sq.r
 st:u.steps<=t.steps
 he:u.height<=t.height
 cu:u.cuts<=t.cuts
 le:Tr.leaves u<=Tr.leaves t
 same:yJ3 u=u
 need:vG2 u
theorem wQy:∀ {l:List Tr},(∀a∈l,UOk a (yJ3 a))->yQj (l.map yJ3)<=yQj l/\yZc (l.map yJ3)<=yZc l/\yJa (l.map yJ3)<=yJa l/\yZ2 (l.map yJ3)<=yZ2 l
 | [],_=>by simp
 | a::l,h=>by
  obtain⟨h1,h2,h3,h4⟩:=wQy (l:=l) λb hb=>h b (by simp[hb]);have ha:=h a (by simp);have:=ha.st;have:=ha.he;have:=ha.cu;have:=ha.le;simp only[List.map_cons,yQj,yZc,yJa,yZ2];omega
theorem xVm:∀ {l:List Tr}{a:Tr},a∈l->a.steps<=yQj l/\a.height<=yZc l/\a.cuts<=yJa l/\Tr.leaves a<=yZ2 l
 | b::l,a,h=>by
  simp only[yQj,yZc,yJa,yZ2];rcases List.mem_cons.1 h with rfl|h
  ·omega
  ·have:=xVm h;omega
theorem xWu {l w:List Fm}{f:Fm}:f∈yXw l w↔f∈l/\f ∉ w:=by
 rw[yXw,List.mem_filter];have:=yVx (l:=w) (f:=f);cases e:hasL w f<;>rw[e] at this<;>simp at this ⊢<;>grind
theorem xZd {a b:List Fm}:yJn a b=false↔∀f∈a,f ∉ b:=by
 rw[yJn,List.any_eq_false];constructor
 ·intro h f hf hb;exact h f hf (yVx.2 hb)
 ·intro h f hf hb;exact h f hf (yVx.1 hb)
theorem xYd:∀(al:List Sq)(subs:List Tr)(q:Sq),al.length=subs.length →
  (∃(i:Nat) (a:Sq) (p:Tr),al[i]?=some a/\subs[i]?=some p/\(∀f∈a.l,f ∉ p.sq.l)/\(∀f∈a.r,f ∉ p.sq.r)/\∀fin,yXs fin al subs q=p) \/
  ∃q',(∀fin,yXs fin al subs q=fin q')/\(∀f,f∈q'.l↔f∈q.l\/∃(i:Nat) (a:Sq) (p:Tr),al[i]?=some a/\subs[i]?=some p/\f∈p.sq.l/\f ∉ a.l) /\
   (∀f,f∈q'.r↔f∈q.r\/∃(i:Nat) (a:Sq) (p:Tr),al[i]?=some a/\subs[i]?=some p/\f∈p.sq.r/\f ∉ a.r)
 | [],[],q,_=>.inr ⟨q,λfin=>by rw[yXs],λf=>by simp,λf=>by simp⟩
 | [],_::_,_,h=>by simp at h
 | _::_,[],_,h=>by simp at h
 | a::al,p::subs,q,h=>by
  cases e:(!yJn a.l p.sq.l&&!yJn a.r p.sq.r)
  ·have hgo:∀fin,yXs fin (a::al) (p::subs) q=yXs fin al subs (yV2 q p.sq a):=λfin=>by
    rw[yXs,if_neg (by rw[e];decide)]
   rcases xYd al subs (yV2 q p.sq a) (by simpa using h) with⟨i,a',p',h1,h2,h3,h4,h5⟩|⟨q',h1,h2,h3⟩
   ·exact .inl ⟨i+1,a',p',by simpa using h1,by simpa using h2,h3,h4,λfin=>(hgo fin).trans (h5 fin)⟩
   ·refine .inr ⟨q',λfin=>(hgo fin).trans (h1 fin),λf=>?_,λf=>?_⟩
    ·rw[h2 f];simp only[yV2,List.mem_append,xWu];constructor
     ·rintro ((h|⟨h,h'⟩)|⟨i,a',p',k1,k2,k3⟩)
      ·exact .inl h
      ·exact .inr ⟨0,a,p,rfl,rfl,h,h'⟩
      ·exact .inr ⟨i+1,a',p',by simpa using k1,by simpa using k2,k3⟩
     ·rintro (h|⟨i,a',p',k1,k2,k3⟩)
      ·exact .inl (.inl h)
      ·cases i with
       | zero =>
        simp only[List.getElem?_cons_zero,Option.some.injEq] at k1 k2;subst k1 k2;exact .inl (.inr k3)
       | succ i=>exact .inr ⟨i,a',p',by simpa using k1,by simpa using k2,k3⟩
    ·rw[h3 f];simp only[yV2,List.mem_append,xWu];constructor
     ·rintro ((h|⟨h,h'⟩)|⟨i,a',p',k1,k2,k3⟩)
      ·exact .inl h
      ·exact .inr ⟨0,a,p,rfl,rfl,h,h'⟩
      ·exact .inr ⟨i+1,a',p',by simpa using k1,by simpa using k2,k3⟩
     ·rintro (h|⟨i,a',p',k1,k2,k3⟩)
      ·exact .inl (.inl h)
      ·cases i with
       | zero =>
        simp only[List.getElem?_cons_zero,Option.some.injEq] at k1 k2;subst k1 k2;exact .inl (.inr k3)
       | succ i=>exact .inr ⟨i,a',p',by simpa using k1,by simpa using k2,k3⟩
  ·rw[bAt,Bool.not_eq_true',Bool.not_eq_true'] at e;exact .inl ⟨0,a,p,rfl,rfl,xZd.1 e.1,xZd.1 e.2,λfin=>by rw[yXs,if_pos (by rw[e.1,e.2];rfl)]⟩
theorem zWg {s s':Sq}(h:yZz 1 s=true)(h1:s'.l.length<=s.l.length)(h2:s'.r.length<=s.r.length)(h3:∀f∈s'.l,f∈s.l)(h4:∀f∈s'.r,f∈s.r):yZz 1 s'=true:=by
 obtain⟨v1,v2⟩:=yXx h;unfold yZz at h ⊢;simp only[bAt,dTe] at h ⊢;obtain⟨⟨⟨⟨⟨k1,k2⟩,k3⟩,_⟩,_⟩,k6⟩:=h;exact⟨⟨⟨⟨⟨k1,by omega⟩,by omega⟩,List.all_eq_true.2 λf hf=>List.all_eq_true.1 v1 f (h3 f hf)⟩,List.all_eq_true.2 λf hf=>List.all_eq_true.1 v2 f (h4 f hf)⟩,rfl⟩
theorem vQ7 {s:Sq}{rule:Nat}{r:Rw}{m:Fm}{u:Tm}{nm:ByteArray}{sub:List Tr}(hv:yZz 1 s=true)(hr:rowK rule=some r)(hm:fmB 1 m=true)(hop:r.op=0\/m.op=r.op)(hl:r.left=true->m∈s.l)(hrr:r.right=true->m∈s.r)
  (hlen:sub.length=(addU rule m).length) (hp:∀(i:Nat) (a:Sq) (t:Tr),(addU rule m)[i]?=some a->sub[i]?=some t->(∀f∈t.sq.l,f∈s.l\/f∈a.l)/\(∀f∈t.sq.r,f∈s.r\/f∈a.r)) (hg:∀t∈sub,yK8 1 t=true):yK8 1 (.mk rule s m u nm sub)=true:=by
 have hst:=xJ0 (u:=u) (nm:=nm) hv hr (zQ9 (m:=m) hr).2.2.2.2.1 hm (by omega) hl hrr;rw[<- zVp hr hm hop] at hst;have hprem:yX3 s (addU rule m) sub=true:=wZy λi a t h1 h2=>by
  obtain⟨k1,k2⟩:=hp i a t h1 h2;obtain⟨v1,v2⟩:=yXx (yY3 (hg t (lMg h2)));refine zJf (List.all_eq_true.2 λf hf=>yWm (List.all_eq_true.1 v1 f hf)) (List.all_eq_true.2 λf hf=>yWm (List.all_eq_true.1 v2 f hf)) (λf hf=>?_) (λf hf=>?_)
  ·exact List.mem_append.2 (k1 f hf)
  ·exact List.mem_append.2 (k2 f hf)
 simp only[yK8,bAt,dTe];refine⟨?_,xZ6 hg⟩;simp only[yZu];rw[hst];simp only[ne_eq,nTf,if_false,hlen,hprem,if_true]
theorem xWf {s:Sq}{rule:Nat}{m:Fm}{u:Tm}{nm:ByteArray}{sub:List Tr}(h:yK8 1 (.mk rule s m u nm sub)=true):yZz 1 s=true/\∃r,rowK rule=some r/\fmB 1 m=true/\(r.op=0\/m.op=r.op)/\(r.left=true->m∈s.l)/\(r.right=true->m∈s.r) /\
  sub.length=(addU rule m).length/\(∀(i:Nat) (a:Sq) (t:Tr),(addU rule m)[i]?=some a->sub[i]?=some t->(∀f∈t.sq.l,f∈s.l\/f∈a.l)/\(∀f∈t.sq.r,f∈s.r\/f∈a.r))/\∀t∈sub,yK8 1 t=true:=by
 simp only[yK8,bAt,dTe] at h;obtain⟨hv,r,hr,hm,hop,hl,hrr,hlen,hp⟩:=wVy h.1;have hfm:=wKr hr hm hop;rw[<- zVp hr hm hop] at hlen hp hfm;have hg:∀t∈sub,yK8 1 t=true:=λt ht=>zY6 h.2 ht;refine⟨hv,r,hr,hm,hop,hl,hrr,hlen,λi a t h1 h2=>?_,hg⟩;obtain⟨v1,v2⟩:=yXx hv;obtain⟨w1,w2⟩:=hfm a (lMg h1);obtain⟨k1,k2⟩:=zWe (yY3 (hg t (lMg h2))) (b:=s.plus a) ⟨by show (s.l++a.l).all _=true;rw[List.all_append,v1,w1];rfl,by show (s.r++a.r).all _=true;rw[List.all_append,v2,w2];rfl⟩ (xJj hp h1 h2);exact⟨λf hf=>List.mem_append.1 (k1 f hf),λf hf=>List.mem_append.1 (k2 f hf)⟩
theorem wQm {s:Sq}{rule:Nat}{m:Fm}{u:Tm}{nm:ByteArray}{sub:List Tr}(h:yK8 1 (.mk rule s m u nm sub)=true)(IH:∀a∈sub,UOk a (yJ3 a)):UOk (.mk rule s m u nm sub) (yJ3 (.mk rule s m u nm sub)):=by
 obtain⟨hv,r,hr,hm,hop,hl,hrr,hlen,hp,hg⟩:=xWf h;obtain⟨n1,n2,n3,n4,_,_⟩:=zQ9 (m:=m) hr;obtain⟨t1,t2,t3,t4⟩:=wQy IH;have hmap:=zZ2 sub;have hat:∀(i:Nat) (p:Tr),(yXl sub)[i]?=some p->∃a,sub[i]?=some a/\p=yJ3 a:=λi p hi=>by
  rw[hmap,List.getElem?_map] at hi;obtain⟨a,h1,h2⟩:=Option.map_eq_some_iff.1 hi;exact⟨a,h1,h2.symm⟩
 have hne:∀(i:Nat) (a:Tr),sub[i]?=some a->sub.isEmpty=false:=λi a hi=>by
  cases sub with
  | nil=>simp at hi
  | cons=>rfl
 rcases xYd (addU rule m) (yXl sub) (zKj rule m) (by rw[hmap,List.length_map];exact hlen.symm) with⟨i,a,p,h1,h2,h3,h4,h5⟩|⟨q,h1,h2,h3⟩
 ·obtain⟨c,hc,rfl⟩:=hat i p h2;have hu:yJ3 (.mk rule s m u nm sub)=yJ3 c:=by rw[yJ3,zJl,h5]
  rw[hu];have hcm:=lMg hc;have hk:=IH c hcm;obtain⟨k1,k2⟩:=hp i a c h1 hc;obtain⟨m1,m2,m3,m4⟩:=xVm hcm;refine⟨hk.ok,λf hf=>?_,λf hf=>?_,?_,?_,?_,?_,hk.same,hk.need⟩
  ·rcases k1 f (hk.l f hf) with h|h
   ·exact h
   ·exact absurd hf (h3 f h)
  ·rcases k2 f (hk.r f hf) with h|h
   ·exact h
   ·exact absurd hf (h4 f h)
  ·have:=hk.st;simp only[Tr.steps];omega
  ·have:=hk.he;simp only[Tr.height];omega
  ·have:=hk.cu;simp only[Tr.cuts];omega
  ·have:=hk.le;rw[Tr.leaves,hne i c hc,if_neg (by decide)];omega
 ·have hu:yJ3 (.mk rule s m u nm sub)=.mk rule ⟨yX2 s.l q.l,yX2 s.r q.r⟩ m tm0 bE (yXl sub):=by rw[yJ3,zJl,h1]
  have hgu:∀t∈yXl sub,yK8 1 t=true:=λt ht=>by
   rw[hmap] at ht;obtain⟨a,ha,rfl⟩:=List.mem_map.1 ht;exact (IH a ha).ok
  have hs:yXl (yXl sub)=yXl sub:=by
   rw[zZ2 (yXl sub),hmap,List.map_map];exact List.map_congr_left λa ha=>(IH a ha).same
  rw[hu];refine⟨vQ7 (zWg hv (xW8 _ _) (xW8 _ _) (λf hf=>(yJt.1 hf).1) (λf hf=>(yJt.1 hf).1)) hr hm hop (λh=>yJt.2 ⟨hl h,(h2 m).2 (.inl (n1 h))⟩) (λh=>yJt.2 ⟨hrr h,(h3 m).2 (.inl (n2 h))⟩) (by rw[hmap,List.length_map];exact hlen) (λi a p g1 g2=>?_) hgu,
   λf hf=>(yJt.1 hf).1,λf hf=>(yJt.1 hf).1,?_,?_,?_,?_,?_,zZb _ _,zZb _ _,λf hf=>?_,λf hf=>?_⟩
  ·obtain⟨c,hc,rfl⟩:=hat i p g2;have hk:=IH c (lMg hc);obtain⟨k1,k2⟩:=hp i a c g1 hc;constructor
   ·intro f hf;by_cases hfa:f∈a.l
    ·exact .inr hfa
    ·refine .inl (yJt.2 ⟨(k1 f (hk.l f hf)).resolve_right hfa,(h2 f).2 (.inr ⟨i,a,_,g1,g2,hf,hfa⟩)⟩)
   ·intro f hf;by_cases hfa:f∈a.r
    ·exact .inr hfa
    ·refine .inl (yJt.2 ⟨(k2 f (hk.r f hf)).resolve_right hfa,(h3 f).2 (.inr ⟨i,a,_,g1,g2,hf,hfa⟩)⟩)
  ·rw[hmap];simp only[Tr.steps];omega
  ·rw[hmap];simp only[Tr.height];omega
  ·rw[hmap];simp only[Tr.cuts];omega
  ·rw[hmap];simp only[Tr.leaves];cases sub with
   | nil=>exact Nat.le_refl _
   | cons b sub=>simpa using t4
  ·rw[yJ3,hs,zJl,h1];simp only[wX0]
  ·rcases (h2 f).1 (yJt.1 hf).2 with h|⟨i,a,p,g1,g2,g3⟩
   ·obtain⟨rfl,hrl⟩:=n3 f h;exact .inl ⟨rfl,r,hr,hrl⟩
   ·exact .inr ⟨i,a,p,g1,g2,g3⟩
  ·rcases (h3 f).1 (yJt.1 hf).2 with h|⟨i,a,p,g1,g2,g3⟩
   ·obtain⟨rfl,hrl⟩:=n4 f h;exact .inl ⟨rfl,r,hr,hrl⟩
   ·exact .inr ⟨i,a,p,g1,g2,g3⟩
theorem xVf:∀(k:Nat)(t:Tr),SizeOf.sizeOf t<k->yK8 1 t=true->UOk t (yJ3 t)
 | 0,t,h,_=>absurd h (by omega)
 | k+1,.mk rule s m u nm sub,h,ho=>wQm ho λa ha=>xVf k a (by
   have:=lSm ha;simp only[Tr.mk.sizeOf_spec] at h;omega) ((xWf ho).2.elim λr hr=>hr.2.2.2.2.2.2.2 a ha)
theorem wQn {t:Tr}(h:yK8 1 t=true):UOk t (yJ3 t):=xVf _ t (Nat.lt_succ_self _) h
theorem xWw {rule:Nat}{s:Sq}{m:Fm}{u:Tm}{nm:ByteArray}{sub:List Tr}(h:yK8 1 (.mk rule s m u nm sub)=true)(s':Sq)(hlen1:s'.l.length<=s.l.length)(hlen2:s'.r.length<=s.r.length)(hsl:∀f∈s'.l,f∈s.l)(hsr:∀f∈s'.r,f∈s.r)
  (f:Fm) (hf:(f ∉ s'.l/\wWm true rule m sub f)\/(f ∉ s'.r/\wWm false rule m sub f)):yZu 1 (.mk rule s' m u nm sub)=192\/yZu 1 (.mk rule s' m u nm sub)=195:=by
 obtain⟨hv,r,hr,hm,hop,hl,hrr,hlen,hp,hg⟩:=xWf h;have hv':=zWg hv hlen1 hlen2 hsl hsr;obtain⟨v1,v2⟩:=yXx hv';have hin:∀l:List Fm,l.all (fmB 1)=true->hasF l m=true->m∈l:=λl hl hh=>by
  obtain⟨g,hg,he⟩:=yWk.1 hh;rw[(zV6 (by decide) hm (List.all_eq_true.1 hl g hg)).1 he];exact hg
 have hask:=(zQ9 (m:=m) hr).2.2.2.2.1;have hadd:yJ7 1 rule r m u nm=(addU rule m,0):=by
  rw[zVp hr hm hop];have e:(!fmB 1 m || (decide (r.op≠0)&&decide (m.op≠r.op)))=false:=by
   rw[hm];rcases hop with h|h<;>simp[h]
  simp only[yJ7,e,bFt,if_false,if_pos hask]
 cases hmain:((r.left&&!hasF s'.l m) || (r.right&&!hasF s'.r m))
 ·have hml:r.left=true->m∈s'.l:=λhq=>by
   refine hin _ v1 ?_;rw[Bool.or_eq_false_iff,hq] at hmain;simpa using hmain.1
  have hmr:r.right=true->m∈s'.r:=λhq=>by
   refine hin _ v2 ?_;rw[Bool.or_eq_false_iff,hq] at hmain;simpa using hmain.2
  have hst:=xJ0 (u:=u) (nm:=nm) hv' hr hask hm (by omega) hml hmr;rw[<- zVp hr hm hop] at hst;have hfm:=wKr hr hm hop;rw[<- zVp hr hm hop] at hfm;have hprem:yX3 s' (addU rule m) sub=false:=by
   cases hq:yX3 s' (addU rule m) sub
   ·rfl
   ·exfalso;have hw:∀(i:Nat) (a:Sq) (t:Tr),(addU rule m)[i]?=some a->sub[i]?=some t->(∀f∈t.sq.l,f∈s'.l\/f∈a.l)/\∀f∈t.sq.r,f∈s'.r\/f∈a.r:=λi a t h1 h2=>by
     obtain⟨w1,w2⟩:=hfm a (lMg h1);obtain⟨k1,k2⟩:=zWe (yY3 (hg t (lMg h2))) (b:=s'.plus a) ⟨by show (s'.l++a.l).all _=true;rw[List.all_append,v1,w1];rfl,by show (s'.r++a.r).all _=true;rw[List.all_append,v2,w2];rfl⟩ (xJj hq h1 h2);exact⟨λf hf=>List.mem_append.1 (k1 f hf),λf hf=>List.mem_append.1 (k2 f hf)⟩
    rcases hf with⟨hn,⟨rfl,r',hr',hq'⟩|⟨i,a,p,g1,g2,g3⟩⟩|⟨hn,⟨rfl,r',hr',hq'⟩|⟨i,a,p,g1,g2,g3⟩⟩
    ·rw[hr] at hr';cases hr';exact hn (hml hq')
    ·exact hn (((hw i a p g1 g2).1 f g3.1).resolve_right g3.2)
    ·rw[hr] at hr';cases hr';exact hn (hmr hq')
    ·exact hn (((hw i a p g1 g2).2 f g3.1).resolve_right g3.2)
  refine .inr ?_;simp only[yZu];rw[hst];simp only[ne_eq,nTf,if_false,hlen,hprem,bFt]
 ·refine .inl ?_;have hst:yJl 1 s' rule m u nm=([],192):=by
   unfold yJl;rw[hv',row1,hr];simp only[Bool.not_true,bFt,if_false,hadd,dEf (show ¬ ((0:Nat)=192) by decide),Bool.false_or,hmain,if_true]
  simp only[yZu];rw[hst];rfl
theorem wWj {rule:Nat}{s:Sq}{m:Fm}{u:Tm}{nm:ByteArray}{sub:List Tr}(h:yK8 1 (.mk rule s m u nm sub)=true)(h1:s.l.length+s.r.length=0):rule=17:=by
 obtain⟨_,r,hr,_,_,hl,hrr,_⟩:=xWf h;refine Decidable.not_not.1 λhn=>?_;rcases (zQ9 (m:=m) hr).2.2.2.2.2 hn with h|h
 ·have:=List.length_pos_of_mem (hl h);omega
 ·have:=List.length_pos_of_mem (hrr h);omega
theorem xW2 {t:Tr}(h:yZu 1 t≠0)(hs:t.steps<=300):yZp 1 t=([],yZu 1 t):=by
 obtain⟨rule,s,m,u,nm,sub⟩:=t;unfold yZp;rw[show yK4 1=true from rfl];simp only[Bool.not_true,bFt,if_false];rw[if_neg (by omega)];simp only[Tr.walk,yZk];rw[if_neg h]
theorem wYo {t:Tr}(h:yK8 1 t=true)(hs:t.steps<=300):yZp 1 t=([],0):=by
 have h1:(yZp 1 t).2=0:=zX3.2 ⟨rfl,hs,h⟩;unfold yZp at h1 ⊢;rw[show yK4 1=true from rfl] at h1 ⊢;simp only[Bool.not_true,bFt,if_false] at h1 ⊢;rw[if_neg (by omega)] at h1 ⊢;exact yYc _ _ h1
end Go.Proofs.Tryz
namespace Go.Proofs.Tryz
open Go Go.Iv
set_option maxRecDepth 4000
theorem wU6:∀(al:List Sq)(subs:List Tr)(q:Sq),(∃p∈subs,∀fin,yXs fin al subs q=p)\/∃q',∀fin,yXs fin al subs q=fin q'
 | al,[],q=>.inr ⟨q,λfin=>by cases al<;>rw[yXs]⟩
 | [],p::subs,q=>.inl ⟨p,by simp,λfin=>by rw[yXs]⟩
 | a::al,p::subs,q=>by
  cases e:(!yJn a.l p.sq.l&&!yJn a.r p.sq.r)
  ·rcases wU6 al subs (yV2 q p.sq a) with⟨p',h1,h2⟩|⟨q',h1⟩
   ·exact .inl ⟨p',by simp[h1],λfin=>by rw[yXs,e,if_neg (by decide)];exact h2 fin⟩
   ·exact .inr ⟨q',λfin=>by rw[yXs,e,if_neg (by decide)];exact h1 fin⟩
  ·exact .inl ⟨p,by simp,λfin=>by rw[yXs,e,if_pos rfl]⟩
end Go.Proofs.Tryz
namespace Go.Proofs.Tryz
open Go Go.Iv
set_option maxRecDepth 4000
theorem wZz {need:List Fm}:∀ {l r:List Fm},wFms (l.foldl (yWc need) r)<=wFms r+wFms l
 | [],r=>by simp[wFms]
 | a::l,r=>by
  have h:=wZz (need:=need) (l:=l) (r:=yWc need r a);have h2:wFms (yWc need r a)<=wFms r+wFm a:=by
   unfold yWc;split
   ·rw[yWw];simp[wFms]
   ·omega
  simp only[wFms,List.foldl_cons];omega
theorem wGp (l need:List Fm):wFms (yX2 l need)<=wFms l:=by
 have:=wZz (need:=need) (l:=l) (r:=[]);simpa[yX2,wFms] using this
mutual
theorem xVe:∀ {t:Tr},okT t=true->okT (yJ3 t)=true
 | .mk rule s m u nm sub,h=>by
  simp only[okT,bAt] at h;have hs:=xQ5 h.2;obtain⟨h1,h2,_⟩:=yV8 h.1;rw[yJ3,zJl];rcases wU6 (addU rule m) (yXl sub) (zKj rule m) with⟨p,hp,hq⟩|⟨q,hq⟩
  ·rw[hq];exact zXy hs hp
  ·rw[hq];have k1:=wGp s.l q.l;have k2:=wGp s.r q.r;simp only[okT,bAt];refine⟨?_,hs⟩;unfold xZ8;rw[dEt (show wFms (yX2 s.l q.l)+wFms (yX2 s.r q.r)<=300 by omega),dEf (show ¬ 300<wFm m by omega)];decide
theorem xQ5:∀ {l:List Tr},okTs l=true->okTs (yXl l)=true
 | [],_=>rfl
 | a::l,h=>by
  simp only[okTs,bAt] at h;simp only[yXl,okTs,bAt];exact⟨xVe h.1,xQ5 h.2⟩
end
def cutL (l:List Fm)(k:Nat):List Fm:=l.take k++l.drop (k+1)
theorem wK6 {l:List Fm}{k:Nat}(h:k<l.length):(cutL l k).length=l.length-1:=by
 simp only[cutL,lLa,List.length_take,List.length_drop];omega
theorem zZs {l:List Fm}{k:Nat}{f:Fm}(h:f∈cutL l k):f∈l:=by
 rcases List.mem_append.1 h with h|h
 ·exact List.mem_of_mem_take h
 ·exact List.mem_of_mem_drop h
theorem wK5 {l:List Fm}{k:Nat}{a:Fm}(hn:l.Nodup)(h:l[k]?=some a):a ∉ cutL l k:=by
 have hk:=(lGs h).1;have he:l=l.take k++a::l.drop (k+1):=by
  conv=>lhs;rw[<- List.take_append_drop k l]
  rw[List.drop_eq_getElem_cons hk,(lGs h).2]
 rw[he,List.nodup_append,List.nodup_cons] at hn;intro hc;rcases List.mem_append.1 hc with hc|hc
 ·exact hn.2.2 a hc a (by simp) rfl
 ·exact hn.2.1.1 hc
theorem vZy {t:Tr}(h:yK8 1 t=true)(hs:t.steps<=300){rule:Nat}{s:Sq}{m:Fm}{u:Tm}{nm:ByteArray}{sub:List Tr}(hu:yJ3 t=.mk rule s m u nm sub){k:Nat} :
  (k<s.l.length->(yZp 1 (.mk rule ⟨cutL s.l k,s.r⟩ m u nm sub)).2=192\/(yZp 1 (.mk rule ⟨cutL s.l k,s.r⟩ m u nm sub)).2=195) /\
  (k<s.r.length->(yZp 1 (.mk rule ⟨s.l,cutL s.r k⟩ m u nm sub)).2=192\/(yZp 1 (.mk rule ⟨s.l,cutL s.r k⟩ m u nm sub)).2=195):=by
 have hk:=wQn h;rw[hu] at hk;obtain⟨n1,n2,n3,n4⟩:=hk.need;have hst:=hk.st;simp only[Tr.steps] at hst;constructor
 ·intro hlt;obtain⟨a,ha⟩:∃a,s.l[k]?=some a:=⟨_,List.getElem?_eq_getElem hlt⟩
  have hb:=xWw hk.ok ⟨cutL s.l k,s.r⟩ (by show (cutL s.l k).length<=_;rw[wK6 hlt];omega) (Nat.le_refl _) (λf hf=>zZs hf) (λf hf=>hf) a (.inl ⟨wK5 n1 ha,n3 a (lMg ha)⟩);rw[xW2 (by rcases hb with h|h<;>rw[h]<;>decide) (by simp only[Tr.steps];omega)];exact hb
 ·intro hlt;obtain⟨a,ha⟩:∃a,s.r[k]?=some a:=⟨_,List.getElem?_eq_getElem hlt⟩
  have hb:=xWw hk.ok ⟨s.l,cutL s.r k⟩ (Nat.le_refl _) (by show (cutL s.r k).length<=_;rw[wK6 hlt];omega) (λf hf=>hf) (λf hf=>zZs hf) a (.inr ⟨wK5 n2 ha,n4 a (lMg ha)⟩);rw[xW2 (by rcases hb with h|h<;>rw[h]<;>decide) (by simp only[Tr.steps];omega)];exact hb
end Go.Proofs.Tryz
namespace Go.Proofs.Tryz
open Go Go.Iv
set_option maxRecDepth 4000
variable (gl:Nat->Option IV)
theorem natz (n:Nat):((n:Int)=0)=(n=0):=propext (by omega)
theorem yGb {s:Nat}:∀ {zs:List IV},(∀z∈zs,z.cells.length=s)->∀k,(zs.flatMap IV.cells).take (k*s)=(zs.take k).flatMap IV.cells
 | [],_,k=>by simp
 | z::zs,h,0=>by simp
 | z::zs,h,k+1=>by
  have hz:=h z (by simp);rw[List.flatMap_cons,List.take_succ_cons,List.flatMap_cons,<- yGb (λy hy=>h y (by simp[hy])) k,List.take_append,List.take_of_length_le (by rw[hz,Nat.add_mul];omega),hz,Nat.add_mul,Nat.one_mul,Nat.add_sub_cancel]
theorem yGc {s:Nat}:∀ {zs:List IV},(∀z∈zs,z.cells.length=s)->∀k,(zs.flatMap IV.cells).drop (k*s)=(zs.drop k).flatMap IV.cells
 | [],_,k=>by simp
 | z::zs,h,0=>by simp
 | z::zs,h,k+1=>by
  have hz:=h z (by simp);rw[List.flatMap_cons,List.drop_succ_cons,<- yGc (λy hy=>h y (by simp[hy])) k,List.drop_append,List.drop_of_length_le (by rw[hz,Nat.add_mul];omega),hz,Nat.add_mul,Nat.one_mul,Nat.add_sub_cancel,List.nil_append]
theorem xYi {l:List Fm}{zs:List IV}(h:IsFms l zs):∀z∈zs,z.cells.length=4:=zV2 h
theorem zQl {l:List Fm}{zs:List IV}(h:IsFms l zs)(k:Nat):IsFms (cutL l k) (zs.take k++zs.drop (k+1)):=by
 unfold cutL;have tk:∀(k:Nat) (l:List Fm) (zs:List IV),IsFms l zs->IsFms (l.take k) (zs.take k)/\IsFms (l.drop k) (zs.drop k):=λk=>by
  induction k with
  | zero=>intro l zs h;exact⟨by simp[IsFms],by simpa using h⟩
  | succ k ih =>
   intro l zs h;cases l with
   | nil=>simp only[IsFms] at h;subst h;exact⟨rfl,rfl⟩
   | cons a l =>
    simp only[IsFms] at h;obtain⟨y,ys,rfl,hy,h⟩:=h;obtain⟨h1,h2⟩:=ih l ys h;exact⟨⟨y,_,rfl,hy,h1⟩,h2⟩
 exact (tk k l zs h).1.append (tk (k+1) l zs h).2
theorem xVt {s0 st:ISt}{n g:Nat}{zs:List IV}{l:List Fm}{x:IV}(h:SlO s0 st 4 n (zs.flatMap IV.cells) g x)(hz:IsFms l zs)(hn:l.length=n)(hl:n<=1000):∃tg,OI st x (.sl tg zs)/\okEs tg 4:=by
 have hzl:=hz.len;rcases h with⟨h0,hc,f,e,rfl⟩|⟨hp,cap,cs,rfl,hg,h1,h2,h3,_⟩
 ·obtain rfl:zs=[]:=List.eq_nil_of_length_eq_zero (by omega);exact⟨_,.refl _,.inl rfl⟩
 ·refine⟨⟨true,.app g,4⟩,?_,.inr rfl⟩;have hz4:=xYi hz;have:=OI.sl (st:=st) g cap ⟨true,.app g,4⟩ zs cs rfl (by omega) (by omega) hz4 hg h2 λi r c hr hc=>by
   have hi:i<zs.length*4:=by
    have:=(lGs hc).1
    rwa [yZ3 _ hz4] at this
   have he:(cs.take (n*4))[i]?=cs[i]?:=by rw[List.getElem?_take,if_pos (by omega)]
   rw[h3,hc,hr] at he;cases he;exact .refl _
  rwa [show zs.length=n by omega] at this
theorem wZd {st:ISt}{n g cap k:Nat}{zs cs:List IV}{l:List Fm}(hz:IsFms l zs)(hn:l.length=n)(hk:k<n)(h1:n<=cap)(h2:cap*4<=cs.length)(h3:cs.take (n*4)=zs.flatMap IV.cells)(hl:n<=1000)(off2:Nat)(ho:off2=if cap=k+1 then 0 else (k+1)*4) :
  off2+(n-(k+1))*4<=cs.length/\((cs.drop off2).take ((n-(k+1))*4)).all IV.one=true /\
  OI (st.put g (some (.box (yZv cs (k*4) ((cs.drop off2).take ((n-(k+1))*4)))))) (.raw (.slice (some ⟨g,0,none⟩) (k+(n-(k+1))) cap)) (.sl ⟨true,.app g,4⟩ (zs.take k++zs.drop (k+1))):=by
 have hz4:=xYi hz;have hzl:=hz.len;have hnew:(cs.drop off2).take ((n-(k+1))*4)=(zs.drop (k+1)).flatMap IV.cells:=by
  by_cases hc:cap=k+1
  ·have h0:n-(k+1)=0:=by omega
   rw[h0,Nat.zero_mul,List.take_zero,List.drop_of_length_le (by omega)];rfl
  ·rw[if_neg hc] at ho;subst ho;rw[<- yGc hz4 (k+1),<- h3,List.drop_take];congr 1;rw[<- Nat.sub_mul]
 have hlen:off2+(n-(k+1))*4<=cs.length:=by
  rw[ho];split<;>omega
 refine⟨hlen,?_,?_⟩
 ·rw[hnew,List.all_eq_true];intro c hc;obtain⟨z,hzm,hcz⟩:=List.mem_flatMap.1 hc;obtain⟨f,_,hf⟩:=wX8 hz (List.mem_of_mem_drop hzm);obtain⟨o,nm,us,sub⟩:=f;obtain⟨t1,x1,t2,x2,rfl,_⟩:=hf.mk;simp only[IV.cells,List.mem_cons,List.not_mem_nil,or_false] at hcz;rcases hcz with rfl|rfl|rfl|rfl<;>rfl
 ·have hz5:∀z∈zs.take k++zs.drop (k+1),z.cells.length=4:=λz hz'=>(List.mem_append.1 hz').elim (λh=>hz4 z (List.mem_of_mem_take h)) λh=>hz4 z (List.mem_of_mem_drop h);have hl5:(zs.take k++zs.drop (k+1)).length=k+(n-(k+1)):=by simp only[lLa,List.length_take,List.length_drop];omega
  have e1:(cs.take (k*4)).length=k*4:=by rw[List.length_take];omega
  have e2:((zs.drop (k+1)).flatMap IV.cells).length=(n-(k+1))*4:=by rw[yZ3 _ (λz hz'=>hz4 z (List.mem_of_mem_drop hz')),List.length_drop];omega
  rw[hnew];have hcut:(yZv cs (k*4) ((zs.drop (k+1)).flatMap IV.cells)).take ((k+(n-(k+1)))*4)=(zs.take k++zs.drop (k+1)).flatMap IV.cells:=by
   unfold yZv;rw[List.take_append_of_le_length (by rw[lLa,e1,e2,Nat.add_mul];exact Nat.le_refl _),List.take_of_length_le (by rw[lLa,e1,e2,Nat.add_mul];exact Nat.le_refl _),List.flatMap_append,<- yGb hz4 k,<- h3,List.take_take,Nat.min_eq_left (by omega)]
  have hlen5:cap*4<=(yZv cs (k*4) ((zs.drop (k+1)).flatMap IV.cells)).length:=by
   unfold yZv;simp only[lLa,e1,e2,List.length_drop];omega
  have:=OI.sl (st:=st.put g (some (.box (yZv cs (k*4) ((zs.drop (k+1)).flatMap IV.cells))))) g cap ⟨true,.app g,4⟩ (zs.take k++zs.drop (k+1)) _ rfl (by omega) (by omega) hz5 (ISt.put_same ..) hlen5 λi r c hr hc=>by
   have hi:i<(k+(n-(k+1)))*4:=by
    have:=(lGs hc).1
    rwa [yZ3 _ hz5,hl5] at this
   have he:((yZv cs (k*4) ((zs.drop (k+1)).flatMap IV.cells)).take ((k+(n-(k+1)))*4))[i]?=(yZv cs (k*4) ((zs.drop (k+1)).flatMap IV.cells))[i]?:=by rw[List.getElem?_take,if_pos hi]
   rw[hcut,hc,hr] at he;cases he;exact .refl _
  rwa [hl5] at this
theorem xUf (s:Sq)(x:IV)(hx:IsSq s x)(h1:yQ9 s.l<=1000000)(h2:yQ9 s.r<=1000000)(st:ISt):ICall prog gl 37 [x] st (λr st' =>
  ∃x1 x2 g1 z1 g2 z2,r=.agg [x1,x2]/\SlO st st' 4 s.l.length (z1.flatMap IV.cells) g1 x1/\IsFms s.l z1/\SlO st st' 4 s.r.length (z2.flatMap IV.cells) g2 x2/\IsFms s.r z2/\(s.l≠[]->s.r≠[]->g1≠g2)/\subSt st st'):=by
 obtain⟨t1,x1,t2,x2,rfl,e1,i1,e2,i2⟩:=hx;have hc1:=zXg gl s.l t1 x1 e1 i1 h1 st;have hc2:=λst=>zXg gl s.r t2 x2 e2 i2 h2 st;refine iI func37 ?_;simp only[go_sem,zE,zB,zA,zM,zS,zL,reduceCtorEq,fits];refine hc1.mono ?_;rintro r1 st1 ⟨g1,z1,hs1,hz1,hoff1,hnil1⟩;have sub1:subSt st st1:=λc o hc=>by
  by_cases hq:c=g1
  ·rcases hs1 with⟨h0,_⟩|⟨_,_,_,_,_,_,_,_,hn⟩
   ·rw[hnil1 (List.eq_nil_of_length_eq_zero h0)];exact hc
   ·rw[hq,hn] at hc;cases hc
  ·rw[hoff1 c hq];exact hc
 have fin:∀r2 st2,(∃g zs,SlO st1 st2 4 s.r.length (zs.flatMap IV.cells) g r2/\IsFms s.r zs/\(∀c,c≠g->st2 c=st1 c)/\(s.r=[]->st2=st1))->∃x1 x2 g1 z1 g2 z2,(IV.agg [r1,r2]=.agg [x1,x2])/\SlO st st2 4 s.l.length (z1.flatMap IV.cells) g1 x1/\IsFms s.l z1/\SlO st st2 4 s.r.length (z2.flatMap IV.cells) g2 x2/\IsFms s.r z2/\(s.l≠[]->s.r≠[]->g1≠g2)/\subSt st st2:=by
  rintro r2 st2 ⟨g2,z2,hs2,hz2,hoff2,hnil2⟩;have key:s.l≠[]->s.r≠[]->g1≠g2:=λhl hr hq=>by
   rcases hs1 with⟨h0,_⟩|⟨_,_,_,_,hg,_⟩
   ·exact hl (List.eq_nil_of_length_eq_zero h0)
   ·rcases hs2 with⟨h0,_⟩|⟨_,_,_,_,_,_,_,_,hn⟩
    ·exact hr (List.eq_nil_of_length_eq_zero h0)
    ·rw[<- hq,hg] at hn;cases hn
  have hst2:∀c,st1 c≠none->st2 c=st1 c:=λc hc=>by
   by_cases hq:c=g2
   ·rcases hs2 with⟨h0,_⟩|⟨_,_,_,_,_,_,_,_,hn⟩
    ·rw[hnil2 (List.eq_nil_of_length_eq_zero h0)]
    ·rw[hq,hn] at hc;exact absurd rfl hc
   ·exact hoff2 c hq
  refine⟨r1,r2,g1,z1,g2,z2,rfl,?_,hz1,?_,hz2,key,λc o hc=>by rw[hst2 c (by rw[sub1 c o hc];exact Option.some_ne_none _)];exact sub1 c o hc⟩
  ·exact hs1.mono λh=>hst2 g1 (by
    rcases hs1 with⟨h0,_⟩|⟨_,_,_,_,hg,_⟩
    ·omega
    ·rw[hg];exact Option.some_ne_none _)
  ·rcases hs2 with h|⟨a,cap,cs,b,c,d,e,f,hn⟩
   ·exact .inl h
   ·exact .inr ⟨a,cap,cs,b,c,d,e,f,yGs sub1 hn⟩
 have hs1':=hs1;rcases hs1' with⟨_,_,f,e,rfl⟩|⟨_,cap,_,rfl,_⟩
 ·simp only[go_sem,zE,zB,zA,zM,zS,zL,reduceCtorEq,fits];refine (hc2 _).mono ?_;rintro r2 st2 h;have:=fin r2 st2 h;obtain⟨g2,z2,hs2,_⟩:=h;rcases hs2 with⟨_,_,f,e,rfl⟩|⟨_,cap,_,rfl,_⟩
  ·simp only[go_sem,zE,zB,zA,zM,zS,zL,reduceCtorEq,fits];exact yQ0 this
  ·simp only[go_sem,zE,zB,zA,zM,zS,zL,reduceCtorEq,fits,IV.one];exact yQ0 this
 ·simp only[go_sem,zE,zB,zA,zM,zS,zL,reduceCtorEq,fits,IV.one];refine (hc2 _).mono ?_;rintro r2 st2 h;have:=fin r2 st2 h;obtain⟨g2,z2,hs2,_⟩:=h;rcases hs2 with⟨_,_,f,e,rfl⟩|⟨_,cap,_,rfl,_⟩
  ·simp only[go_sem,zE,zB,zA,zM,zS,zL,reduceCtorEq,fits,IV.one];exact yQ0 this
  ·simp only[go_sem,zE,zB,zA,zM,zS,zL,reduceCtorEq,fits,IV.one];exact yQ0 this
set_option maxHeartbeats 1000000 in
theorem xKz (G:Gl gl)(T:Gt gl)(hgl:∀g x,gl g=some x->age x=x)(t:Tr)(x:IV)(hx:IsTr t x)(hw:wTr t<=1099511627776)(b:Nat)(hb:b<256)(st:ISt)(h0:∀b,st b=none) :
  ICall prog gl 8 [x,.raw (.int .u8 b)] st (λr st'=>r=.raw (.bool true)/\st'=st):=by
 have hA:=wW4 gl G T hgl st h0;have hsm:=λst=>wYx gl t x hx hw st;have hx0:=hx;obtain⟨rule,s,m,u,nm,sub⟩:=t;obtain⟨tl',xl',tr1',xr',op',fn',ta',xa',tb',xb',v',un',tu',xu',ts2,xs2,rfl,hru,f1,j1,f2',j2,_⟩:=hx.mk;clear hx;obtain⟨t,ht⟩:∃t,t=Tr.mk rule s m u nm sub:=⟨_,rfl⟩
 rw[<- ht] at hx0 hsm hw;have hts:t.sq=s:=by rw[ht];rfl
 refine ICall.intro (c:=cf prog gl [] [(11,[0,1,2,3,4,5,6,7,8,9,10,11,12,13,14,15,16,17,18,19,20,21,22,23,24,26,25,27,28,29,30,31,33,32,34,35,36,37,38,40,39,41,42,43,44,45,47,46,48,49,50,51,52,53,54,55,56])]) func8 rfl (by show _<=189;simp) (by kernel_rfl) ?_;simp only[go_sem,zE,zB,zA,zM,zS,zL,reduceCtorEq,fits];refine hA.mono ?_;rintro _ st ⟨rfl,rfl⟩;simp only[go_sem,zE,zB,zA,zM,zS,zL,reduceCtorEq,fits];refine (hsm _).mono ?_;rintro _ st ⟨rfl,rfl⟩;cases q2:(okT t&&decide (t.steps<=60))
 ·simp only[go_sem,zE,zB,zA,zM,zS,zL,reduceCtorEq,fits,q2];exact yQ0 ⟨rfl,rfl⟩
 have q2':=q2;rw[bAt,dTe] at q2';obtain⟨hok,hst⟩:=q2';have hC:=λst=>zVt gl G T 1 t _ hx0 (xJr hok (by omega)) st;have hU:=λst=>xYz gl G T t _ hx0 hok (by omega) st;simp only[go_sem,zE,zB,zA,zM,zS,zL,reduceCtorEq,fits,q2];refine (hC _).mono ?_;rintro _ st ⟨⟨tg,rfl,htg⟩,rfl⟩;simp only[go_sem,zE,zB,zA,zM,zS,zL,reduceCtorEq,fits];refine (hU _).mono ?_;rintro _ st ⟨⟨z,rfl,hz⟩,rfl⟩;have d0:decide (((0:Nat):Int)=0)=true:=rfl;by_cases hc:(yZp 1 t).2=0
 case neg =>
  have he:yU6 t=(tr0,231):=by rw[yU6,if_pos hc]
  rw[he] at hz ⊢;simp only[tr0,IsTr] at hz;obtain⟨tl3,xl3,tr3,xr3,op3,fn3,ta3,xa3,tb3,xb3,v3,un3,tu3,xu3,ts3,xs3,rfl,_,_,_,_,_,_,_,e3,i3⟩:=hz;obtain rfl:xs3=[]:=by simpa only[IsTrs] using i3
  have d2:decide (((231:Nat):Int)=231)=true:=rfl;simp only[go_sem,zE,zB,zA,zM,zS,zL,reduceCtorEq,fits,natz,hc,d2,decide_false,decide_true,List.length_nil,Int.natCast_zero];exact yQ0 ⟨rfl,rfl⟩
 have he:yU6 t=(yJ3 t,0):=by rw[yU6,if_neg (by rw[hc];decide)]
 rw[he] at hz ⊢;obtain⟨_,hs300,hall⟩:=zX3.1 hc;have hk:=wQn hall;have hcb:=λ{rule s m u nm sub} (h:yJ3 t=.mk rule s m u nm sub) k=>vZy hall (by omega) h (k:=k);have hoku:=xVe hok;have hcu:=wYo hk.ok (by have:=hk.st;omega);have hus:yU6 (yJ3 t)=(yJ3 t,0):=by rw[yU6,if_neg (by rw[hcu];decide),hk.same]
 obtain⟨u0,hu0⟩:∃u0,yJ3 t=u0:=⟨_,rfl⟩
 rw[hu0] at hz hk hoku hcu hus;have hsu:u0.steps<=60:=by have:=hk.st;omega
 have hC2:=λst=>zVt gl G T 1 u0 z hz (xJr hoku (by omega)) st;have hU2:=λst=>xYz gl G T u0 z hz hoku (by omega) st;have hS1:=λst=>wV6 gl t _ hx0 (by omega) st;have hS2:=λst=>wV6 gl u0 z hz (by omega) st;have hH1:=λst=>xG1 gl t _ hx0 (by omega) st;have hH2:=λst=>xG1 gl u0 z hz (by omega) st;have hK1:=λst=>wVd gl t _ hx0 (by omega) st;have hK2:=λst=>wVd gl u0 z hz (by omega) st;have hL1:=λst=>xWy gl t _ hx0 (by omega) st;have hL2:=λst=>xWy gl u0 z hz (by omega) st;have hM:=λw hw st=>yU0 gl u0 z w hz hw (by omega) st;rw[hcu] at hC2;rw[hus] at hU2;have c1:decide ((t.steps:Int)<(u0.steps:Int))=false:=dEf (by have:=hk.st;omega);have c2:decide ((t.height:Int)<(u0.height:Int))=false:=dEf (by have:=hk.he;omega);have c3:decide ((t.cuts:Int)<(u0.cuts:Int))=false:=dEf (by have:=hk.cu;omega);have c4:decide ((Tr.leaves t:Int)<(Tr.leaves u0:Int))=false:=dEf (by have:=hk.le;omega);have hfu:=wYy (xZ5 hoku);have hfs:=wYy (xZ5 hok);have hwi:yXp u0.sq t.sq=true:=by
  obtain⟨v1,v2⟩:=yXx (yY3 hk.ok);exact zJf (List.all_eq_true.2 λf hf=>yWm (List.all_eq_true.1 v1 f hf)) (List.all_eq_true.2 λf hf=>yWm (List.all_eq_true.1 v2 f hf)) hk.l hk.r
 rw[hts] at hwi hfs;obtain⟨rule3,su,m3,u3,nn3,sub3⟩:=u0;obtain⟨tl3,xl3,tr3,xr3,op3,fn3,ta3,xa3,tb3,xb3,v3,un3,tu3,xu3,ts3,xs3,rfl,hru3,g1,k1,g2,k2,k3,k4,k5,k6⟩:=hz.mk;have hWi:=λst=>xYy gl G su s (.agg [.sl tl3 xl3,.sl tr3 xr3]) (.agg [.sl tl' xl',.sl tr1' xr']) ⟨_,_,_,_,rfl,g1,k1,g2,k2⟩ ⟨_,_,_,_,rfl,f1,j1,f2',j2⟩ hfu hfs st;rw[show yXp su s=true from hwi] at hWi;have hpl:plI []=[]:=rfl;simp only[go_sem,zE,zB,zA,zM,zS,zL,reduceCtorEq,fits,natz,hc,d0,decide_true];refine (hC2 _).mono ?_;rintro _ st ⟨⟨tg2,rfl,htg2⟩,rfl⟩;simp only[go_sem,zE,zB,zA,zM,zS,zL,reduceCtorEq,fits];refine (hU2 _).mono ?_;rintro _ st ⟨⟨w,rfl,hw2⟩,rfl⟩;have hM:=λst=>hM w hw2 st;obtain⟨rule7,tl7,xl7,tr7,xr7,op7,fn7,ta7,xa7,tb7,xb7,v7,un7,tu7,xu7,nn7,ts7,xs7,rfl⟩:=yJk hw2;simp only[go_sem,zE,zB,zA,zM,zS,zL,reduceCtorEq,fits,d0,hpl,decide_true,List.length_nil,Int.natCast_zero];intros;refine (hWi _).mono ?_;rintro _ st ⟨rfl,rfl⟩;simp only[go_sem,zE,zB,zA,zM,zS,zL,reduceCtorEq,fits];refine (hS2 _).mono ?_;rintro _ st ⟨rfl,rfl⟩;simp only[go_sem,zE,zB,zA,zM,zS,zL,reduceCtorEq,fits];refine (hS1 _).mono ?_;rintro _ st ⟨rfl,rfl⟩;simp only[go_sem,zE,zB,zA,zM,zS,zL,reduceCtorEq,fits,c1];refine (hH2 _).mono ?_;rintro _ st ⟨rfl,rfl⟩;simp only[go_sem,zE,zB,zA,zM,zS,zL,reduceCtorEq,fits];refine (hH1 _).mono ?_;rintro _ st ⟨rfl,rfl⟩;simp only[go_sem,zE,zB,zA,zM,zS,zL,reduceCtorEq,fits,c2];refine (hK2 _).mono ?_;rintro _ st ⟨rfl,rfl⟩;simp only[go_sem,zE,zB,zA,zM,zS,zL,reduceCtorEq,fits];refine (hK1 _).mono ?_;rintro _ st ⟨rfl,rfl⟩;simp only[go_sem,zE,zB,zA,zM,zS,zL,reduceCtorEq,fits,c3];refine (hL2 _).mono ?_;rintro _ st ⟨rfl,rfl⟩;simp only[go_sem,zE,zB,zA,zM,zS,zL,reduceCtorEq,fits];refine (hL1 _).mono ?_;rintro _ st ⟨rfl,rfl⟩;simp only[go_sem,zE,zB,zA,zM,zS,zL,reduceCtorEq,fits,c4];refine (hM _).mono ?_;rintro _ st ⟨rfl,rfl⟩;simp only[go_sem,zE,zB,zA,zM,zS,zL,reduceCtorEq,fits];intros;have hl1:=k1.len;have hl2:=k2.len;have hle:su.l.length+su.r.length<=300/\yQ9 su.l<=300/\yQ9 su.r<=300:=by
  simp only[okT,bAt] at hoku;have h1:=(yV8 hoku.1).1;have:=yQw su.l;have:=yQw su.r;have:=yZt su.l;have:=yZt su.r;omega
 obtain⟨hle,hz1',hz2'⟩:=hle;obtain⟨N,hN⟩:∃N,N=su.l.length+su.r.length:=⟨_,rfl⟩
 have hwn:IntKind.i64.wrap ((xl3.length:Int)+(xr3.length:Int))=(N:Int):=by rw[hl1,hl2,w64]<;>omega
 by_cases hn:N=0
 ·obtain rfl:=wWj hk.ok (show su.l.length+su.r.length=0 by omega);have dn:decide ((N:Int)=0)=true:=dEt (by omega);have d17:decide (((17:Nat):Int)=17)=true:=rfl;simp only[go_sem,zE,zB,zA,zM,zS,zL,reduceCtorEq,hwn,dn,fits,d17];exact yQ0 ⟨rfl,rfl⟩
 have dn:decide ((N:Int)=0)=false:=dEf (by omega);have hCp:=λst=>xUf gl su (.agg [.sl tl3 xl3,.sl tr3 xr3]) ⟨_,_,_,_,rfl,g1,k1,g2,k2⟩ (by omega) (by omega) st;have hcv:=xX1 prog 5 3 vVn vVo .u8 b;rw[show IntKind.i64.wrap (b:Int)=b from w64 (by omega) (by omega)] at hcv;have hne0:¬ ((N:Int)=0):=by omega
 obtain⟨k,hkN⟩:∃k,k=b%N:=⟨_,rfl⟩
 have hkl:k<N:=hkN▸Nat.mod_lt _ (by omega);have hrem:((b:Nat):Int).tmod (N:Int)=(k:Int):=by
  rw[Int.tmod_eq_emod_of_nonneg (by omega),hkN];rfl
 simp only[go_sem,zE,zB,zA,zM,zS,zL,reduceCtorEq,hwn,dn,fits];refine (hCp _).mono ?_;rintro _ st2 ⟨x1,x2,gL,z1,gR,z2,rfl,hs1,hz1,hs2,hz2,hne,hsub2⟩;have hNAu:NA (.mk rule3 su m3 u3 nn3 sub3):=xZ5 hoku;have fin:∀(S:ISt) (y1 y2:IV) (s':Sq) (w1 w2:List IV) (tg1 tg2:Tag),OI S y1 (.sl tg1 w1)->okEs tg1 4->IsFms s'.l w1->OI S y2 (.sl tg2 w2)->okEs tg2 4->IsFms s'.r w2->(∀f∈s'.l,f∈su.l)->(∀f∈s'.r,f∈su.r) →
   (yZp 1 (.mk rule3 s' m3 u3 nn3 sub3)).2=192\/(yZp 1 (.mk rule3 s' m3 u3 nn3 sub3)).2=195 →
   ICall prog gl 22 [.raw (.int .u8 1),.agg [.raw (.int .u8 rule3),y1,y2,.raw (.int .u8 op3),.raw (.string fn3),.sl ta3 xa3,.sl tb3 xb3,.raw (.bool v3),.raw (.string un3),.sl tu3 xu3,.raw (.string nn3),.sl ts3 xs3]] S
    (λr _=>∃tg pl e,r=.tup [.sl tg pl,.raw (.int .i64 (e:Nat))]/\(e=192\/e=195)):=λS y1 y2 s' w1 w2 tg1 tg2 o1 e1 i1 o2 e2 i2 h1 h2 hcode=>by
  have hI:IsTr (.mk rule3 s' m3 u3 nn3 sub3) (.agg [.raw (.int .u8 rule3),.sl tg1 w1,.sl tg2 w2,.raw (.int .u8 op3),.raw (.string fn3),.sl ta3 xa3,.sl tb3 xb3,.raw (.bool v3),.raw (.string un3),.sl tu3 xu3,.raw (.string nn3),.sl ts3 xs3]):=by
   simp only[IsTr];exact⟨_,_,_,_,_,_,_,_,_,_,_,_,_,_,_,_,rfl,hru3,e1,i1,e2,i2,k3,k4,k5,k6⟩
  have hNAl:NA (.mk rule3 s' m3 u3 nn3 sub3):=by
   simp only[NA] at hNAu ⊢;exact⟨⟨λf hf=>hNAu.1.1 f (h1 f hf),λf hf=>hNAu.1.2 f (h2 f hf)⟩,hNAu.2⟩
  have hO:OI S (.agg [.raw (.int .u8 rule3),y1,y2,.raw (.int .u8 op3),.raw (.string fn3),.sl ta3 xa3,.sl tb3 xb3,.raw (.bool v3),.raw (.string un3),.sl tu3 xu3,.raw (.string nn3),.sl ts3 xs3]) (.agg [.raw (.int .u8 rule3),.sl tg1 w1,.sl tg2 w2,.raw (.int .u8 op3),.raw (.string fn3),.sl ta3 xa3,.sl tb3 xb3,.raw (.bool v3),.raw (.string un3),.sl tu3 xu3,.raw (.string nn3),.sl ts3 xs3]):=by
   refine .agg _ _ rfl λi r c hr hc=>?_
   match i,hr,hc with
   | 0,hr,hc=>cases hr;cases hc;exact .refl _
   | 1,hr,hc=>cases hr;cases hc;exact o1
   | 2,hr,hc=>cases hr;cases hc;exact o2
   | 3,hr,hc=>cases hr;cases hc;exact .refl _
   | 4,hr,hc=>cases hr;cases hc;exact .refl _
   | 5,hr,hc=>cases hr;cases hc;exact .refl _
   | 6,hr,hc=>cases hr;cases hc;exact .refl _
   | 7,hr,hc=>cases hr;cases hc;exact .refl _
   | 8,hr,hc=>cases hr;cases hc;exact .refl _
   | 9,hr,hc=>cases hr;cases hc;exact .refl _
   | 10,hr,hc=>cases hr;cases hc;exact .refl _
   | 11,hr,hc=>cases hr;cases hc;exact .refl _
   | i+12,hr,hc=>simp at hc
  exact ICall.freeze (args':=[.raw (.int .u8 1),age (.agg [.raw (.int .u8 rule3),.sl tg1 w1,.sl tg2 w2,.raw (.int .u8 op3),.raw (.string fn3),.sl ta3 xa3,.sl tb3 xb3,.raw (.bool v3),.raw (.string un3),.sl tu3 xu3,.raw (.string nn3),.sl ts3 xs3])]) ⟨_,_,rfl,.inl rfl,_,_,rfl,.inr ⟨_,hO,rfl⟩,rfl⟩ ((zVt gl G T 1 _ _ (xXq hI) (wUh hNAl (by simp only[Tr.steps] at hsu ⊢;omega)) (yVt S)).mono λr st' ⟨⟨tg,h,_⟩,_⟩=>⟨tg,_,_,h,by rcases hcode with h|h<;>rw[h]<;>decide⟩)
 have hsI1:∀cap j:Nat,j<=cap->yXv none (some (j:Int)) cap=some (0,j):=λcap j h=>by
  unfold yXv;simp only[Option.getD_none,Option.getD_some,Int.toNat_zero,Int.toNat_natCast];rw[if_pos (by omega)]
 have hsI2:∀n j:Nat,j<n->n<=1000->yXv (some (IntKind.i64.wrap ((j:Int)+1))) none n=some (j+1,n):=λn j h hn=>by
  rw[show IntKind.i64.wrap ((j:Int)+1)=((j+1:Nat):Int) from by rw[w64]<;>omega];unfold yXv;simp only[Option.getD_none,Option.getD_some,Int.toNat_natCast];rw[if_pos (by omega)]
 have hs1':=hs1;have hs2':=hs2;by_cases hkL:k<su.l.length
 ·have dk:decide ((k:Int)<(xl3.length:Int))=true:=dEt (by omega);have hcode:=((hcb hu0 k).1 hkL)
  rcases hs1' with⟨n1,_,f,e,rfl⟩|⟨n1,cap1,cs1,rfl,a1,a2,a3,a4,a5⟩
  ·omega
  ·obtain⟨q1,q2,q3⟩:=wZd (st:=st2) (g:=gL) hz1 rfl hkL a2 a3 a4 (by omega) _ rfl;rcases hs2' with⟨n2,_,f,e,rfl⟩|⟨n2,cap2,cs2,rfl,c1',c2',c3',c4',c5'⟩
   ·obtain⟨tgR,oR,eR⟩:=xVt (hs2.mono (st':=st2.put gL (some (.box (yZv cs1 (k*4) ((cs1.drop (if cap1=k+1 then 0 else (k+1)*4)).take ((su.l.length-(k+1))*4)))))) λh=>yQb λhq=>absurd h (by omega)) hz2 rfl (by omega);simp only[go_sem,zE,zB,zA,zM,zS,zL,reduceCtorEq,fits,IV.one,hcv,if_neg hne0,hrem,dk];intro _;refine yQm a2 ?_;rw[hsI1 _ _ (by omega)];refine yQ2.2 ⟨_,rfl,yQm a2 ?_⟩;rw[hsI2 _ _ hkL (by omega)];refine yQ2.2 ⟨_,rfl,?_⟩;simp only[Nat.sub_zero,Nat.zero_mul,ite_self];refine yGy _ _ _ a1 (by omega) a3 (by omega) q1 q2 ?_;simp only[go_sem,zE,zB,zA,zM,zS,zL,reduceCtorEq,fits,IV.one];refine (fin _ _ _ ⟨cutL su.l k,su.r⟩ _ _ _ _ q3 (.inr rfl) (zQl hz1 k) oR eR hz2 (λf hf=>zZs hf) (λf hf=>hf) hcode).mono ?_;rintro _ _ ⟨tg8,pl8,e8,rfl,h8⟩;rcases h8 with rfl|rfl
    ·simp only[go_sem,zE,zB,zA,zM,zS,zL,reduceCtorEq,fits,show decide (((192:Nat):Int)=192)=true from rfl];exact yQa (λb o hb=>by rw[h0] at hb;cases hb) ⟨rfl,rfl⟩
    ·simp only[go_sem,zE,zB,zA,zM,zS,zL,reduceCtorEq,fits,show decide (((195:Nat):Int)=192)=false from rfl,show decide (((195:Nat):Int)=195)=true from rfl];exact yQa (λb o hb=>by rw[h0] at hb;cases hb) ⟨rfl,rfl⟩
   ·obtain⟨tgR,oR,eR⟩:=xVt (hs2.mono (st':=st2.put gL (some (.box (yZv cs1 (k*4) ((cs1.drop (if cap1=k+1 then 0 else (k+1)*4)).take ((su.l.length-(k+1))*4)))))) λh=>yQb (hne (λhq=>by rw[hq] at n1;exact absurd n1 (by decide)) (λhq=>by rw[hq] at n2;exact absurd n2 (by decide))).symm) hz2 rfl (by omega);simp only[go_sem,zE,zB,zA,zM,zS,zL,reduceCtorEq,fits,IV.one,hcv,if_neg hne0,hrem,dk];intro _;refine yQm a2 ?_;rw[hsI1 _ _ (by omega)];refine yQ2.2 ⟨_,rfl,yQm a2 ?_⟩;rw[hsI2 _ _ hkL (by omega)];refine yQ2.2 ⟨_,rfl,?_⟩;simp only[Nat.sub_zero,Nat.zero_mul,ite_self];refine yGy _ _ _ a1 (by omega) a3 (by omega) q1 q2 ?_;simp only[go_sem,zE,zB,zA,zM,zS,zL,reduceCtorEq,fits,IV.one];refine (fin _ _ _ ⟨cutL su.l k,su.r⟩ _ _ _ _ q3 (.inr rfl) (zQl hz1 k) oR eR hz2 (λf hf=>zZs hf) (λf hf=>hf) hcode).mono ?_;rintro _ _ ⟨tg8,pl8,e8,rfl,h8⟩;rcases h8 with rfl|rfl
    ·simp only[go_sem,zE,zB,zA,zM,zS,zL,reduceCtorEq,fits,show decide (((192:Nat):Int)=192)=true from rfl];exact yQa (λb o hb=>by rw[h0] at hb;cases hb) ⟨rfl,rfl⟩
    ·simp only[go_sem,zE,zB,zA,zM,zS,zL,reduceCtorEq,fits,show decide (((195:Nat):Int)=192)=false from rfl,show decide (((195:Nat):Int)=195)=true from rfl];exact yQa (λb o hb=>by rw[h0] at hb;cases hb) ⟨rfl,rfl⟩
 ·have dk:decide ((k:Int)<(xl3.length:Int))=false:=dEf (by omega);obtain⟨j,hj⟩:∃j,j=k-su.l.length:=⟨_,rfl⟩
  have hkR:j<su.r.length:=by omega
  have hwj:IntKind.i64.wrap ((k:Int)-(xl3.length:Int))=(j:Int):=by rw[w64]<;>omega
  have hcode:=((hcb hu0 j).2 hkR)
  rcases hs2' with⟨n2,_,f,e,rfl⟩|⟨n2,cap2,cs2,rfl,c1',c2',c3',c4',c5'⟩
  ·omega
  ·obtain⟨q1,q2,q3⟩:=wZd (st:=st2) (g:=gR) hz2 rfl hkR c2' c3' c4' (by omega) _ rfl;rcases hs1' with⟨n1,_,f,e,rfl⟩|⟨n1,cap1,cs1,rfl,a1,a2,a3,a4,a5⟩
   ·obtain⟨tgL,oL,eL⟩:=xVt (hs1.mono (st':=st2.put gR (some (.box (yZv cs2 (j*4) ((cs2.drop (if cap2=j+1 then 0 else (j+1)*4)).take ((su.r.length-(j+1))*4)))))) λh=>yQb λhq=>absurd h (by omega)) hz1 rfl (by omega);simp only[go_sem,zE,zB,zA,zM,zS,zL,reduceCtorEq,fits,IV.one,hcv,if_neg hne0,hrem,dk,hwj];intros;refine yQm c2' ?_;rw[hsI1 _ _ (by omega)];refine yQ2.2 ⟨_,rfl,yQm c2' ?_⟩;rw[hsI2 _ _ hkR (by omega)];refine yQ2.2 ⟨_,rfl,?_⟩;simp only[Nat.sub_zero,Nat.zero_mul,ite_self];refine yGy _ _ _ c1' (by omega) c3' (by omega) q1 q2 ?_;simp only[go_sem,zE,zB,zA,zM,zS,zL,reduceCtorEq,fits,IV.one];refine (fin _ _ _ ⟨su.l,cutL su.r j⟩ _ _ _ _ oL eL hz1 q3 (.inr rfl) (zQl hz2 j) (λf hf=>hf) (λf hf=>zZs hf) hcode).mono ?_;rintro _ _ ⟨tg8,pl8,e8,rfl,h8⟩;rcases h8 with rfl|rfl
    ·simp only[go_sem,zE,zB,zA,zM,zS,zL,reduceCtorEq,fits,show decide (((192:Nat):Int)=192)=true from rfl];exact yQa (λb o hb=>by rw[h0] at hb;cases hb) ⟨rfl,rfl⟩
    ·simp only[go_sem,zE,zB,zA,zM,zS,zL,reduceCtorEq,fits,show decide (((195:Nat):Int)=192)=false from rfl,show decide (((195:Nat):Int)=195)=true from rfl];exact yQa (λb o hb=>by rw[h0] at hb;cases hb) ⟨rfl,rfl⟩
   ·obtain⟨tgL,oL,eL⟩:=xVt (hs1.mono (st':=st2.put gR (some (.box (yZv cs2 (j*4) ((cs2.drop (if cap2=j+1 then 0 else (j+1)*4)).take ((su.r.length-(j+1))*4)))))) λh=>yQb (hne (λhq=>by rw[hq] at n1;exact absurd n1 (by decide)) (λhq=>by rw[hq] at n2;exact absurd n2 (by decide)))) hz1 rfl (by omega);simp only[go_sem,zE,zB,zA,zM,zS,zL,reduceCtorEq,fits,IV.one,hcv,if_neg hne0,hrem,dk,hwj];intros;refine yQm c2' ?_;rw[hsI1 _ _ (by omega)];refine yQ2.2 ⟨_,rfl,yQm c2' ?_⟩;rw[hsI2 _ _ hkR (by omega)];refine yQ2.2 ⟨_,rfl,?_⟩;simp only[Nat.sub_zero,Nat.zero_mul,ite_self];refine yGy _ _ _ c1' (by omega) c3' (by omega) q1 q2 ?_;simp only[go_sem,zE,zB,zA,zM,zS,zL,reduceCtorEq,fits,IV.one];refine (fin _ _ _ ⟨su.l,cutL su.r j⟩ _ _ _ _ oL eL hz1 q3 (.inr rfl) (zQl hz2 j) (λf hf=>hf) (λf hf=>zZs hf) hcode).mono ?_;rintro _ _ ⟨tg8,pl8,e8,rfl,h8⟩;rcases h8 with rfl|rfl
    ·simp only[go_sem,zE,zB,zA,zM,zS,zL,reduceCtorEq,fits,show decide (((192:Nat):Int)=192)=true from rfl];exact yQa (λb o hb=>by rw[h0] at hb;cases hb) ⟨rfl,rfl⟩
    ·simp only[go_sem,zE,zB,zA,zM,zS,zL,reduceCtorEq,fits,show decide (((195:Nat):Int)=192)=false from rfl,show decide (((195:Nat):Int)=195)=true from rfl];exact yQa (λb o hb=>by rw[h0] at hb;cases hb) ⟨rfl,rfl⟩
end Go.Proofs.Tryz
namespace Go.Proofs.Tryz
open Go Go.Iv Go.ChangeShapes
open Go.Proofs.YtddfdpbibloljaaGreatDoor.Rows (uptoBulk uptoBulkAll)
set_option maxRecDepth 4000
theorem uSeq:prog.underlying 24=some (.struct #[⟨ "Left",22,0,false, "", "",0⟩,⟨ "Right",22,1,false, "", "",24⟩]):=by kernel_rfl
theorem vK9:prog.underlying 37=some (.struct #[⟨ "Rule",5,0,false, "", "",0⟩,⟨ "Seq",24,1,false, "", "",8⟩,⟨ "Main",27,3,false, "", "",56⟩,⟨ "Term",34,7,false, "", "",128⟩,⟨ "Name",9,10,false, "", "",176⟩,⟨ "Sub",35,11,false, "", "",192⟩]):=by kernel_rfl
theorem vK8:prog.underlying 35=some (.slice 37):=by kernel_rfl
theorem nSeq:prog.cellsOf 24=2:=by kernel_rfl
theorem vVg:prog.cellsOf 37=12:=by kernel_rfl
mutual
theorem xV9:∀t:Tm,wTm t<=2*xUw t
 | .mk _ n us=>by have:=zJh us;simp only[wTm,xUw];omega
theorem zJh:∀l:List Tm,wTms l<=2*yUf l
 | []=>Nat.le_refl _
 | a::l=>by have:=xV9 a;have:=zJh l;simp only[wTms,yUf];omega
end
mutual
theorem xVa:∀f:Fm,wFm f<=2*xUx f
 | .mk _ n us sub=>by have:=zJh us;have:=yUy sub;simp only[wFm,xUx];omega
theorem yUy:∀l:List Fm,wFms l<=2*zQx l
 | []=>Nat.le_refl _
 | a::l=>by have:=xVa a;have:=yUy l;simp only[wFms,zQx];omega
end
section
variable {H:Type}{enc:TypeId×Value->H}{w:World}{spare:Nat->Bool}{held:Bool}
def RQ (d:DataW H)(s:Sq)(x:IV):Prop:=IsSq s x/\wFms s.l+wFms s.r<=2*uptoBulk d
theorem vKp (fuel:Nat)(cs:List Value)(y:DataW H×List MemPlace)(h:DataW.trod enc prog w 0 spare held fuel 24 cs=some y)(hb:uptoBulk y.1<=1048576):∃s x,VL 0 (L0 w) w cs x.cells/\RQ y.1 s x:=by
 obtain⟨ys,n,rfl,rfl,hl,hlen,hf⟩:=DataW.trod_struct uSeq h
 match ys,hlen with
 | [y0,y1],_ =>
  rw[nSeq] at hl
  match cs,hl with
  | [c0,c1],_ =>
   have h0:=hf 0 _ rfl;have h1:=hf 1 _ rfl;simp only[List.getElem?_cons_zero,List.getElem?_cons_succ] at h0 h1;simp only[List.map_cons,List.map_nil,uptoBulk,uptoBulkAll] at hb;obtain⟨v0,tg0,xs0,l0,e0,hv0,ht0,hl0,hb0⟩:=zU9 h0 (by omega) (λm _=>xKi m);obtain⟨v1,tg1,xs1,l1,e1,hv1,ht1,hl1,hb1⟩:=zU9 h1 (by omega) (λm _=>xKi m);cases e0;cases e1;refine⟨⟨l0,l1⟩,.agg [.sl tg0 xs0,.sl tg1 xs1],VL.cons hv0 (VL.cons hv1 VL.nil),⟨tg0,xs0,tg1,xs1,rfl,ht0,hl0,ht1,hl1⟩,?_⟩;have:=yUy l0;have:=yUy l1;simp only[List.map_cons,List.map_nil,uptoBulk,uptoBulkAll];omega
theorem xZo:∀ {us:List Tr}{xs:List IV},us.length=xs.length->(∀(i:Nat)(a:Tr)(x:IV),us[i]?=some a->xs[i]?=some x->IsTr a x)->IsTrs us xs
 | [],xs,h,_=>by simpa[IsTrs] using h.symm
 | a::us,[],h,_=>by simp at h
 | a::us,x::xs,h,hh=>⟨x,xs,rfl,hh 0 a x rfl rfl,xZo (by simpa using h) (λi b y hb hy=>hh (i+1) b y (by simpa using hb) (by simpa using hy))⟩
theorem xV7:∀ {us:List Tr}{ds:List (DataW H)},us.length=ds.length->(∀(i:Nat)(a:Tr)(d:DataW H),us[i]?=some a->ds[i]?=some d->wTr a+a.steps<=2*uptoBulk d)->wTrs us+yQj us<=2*uptoBulkAll ds
 | [],ds,h,_=>by simp[wTrs,yQj]
 | a::us,[],h,_=>by simp at h
 | a::us,x::xs,h,hh=>by
  have h1:=hh 0 a x rfl rfl;have h2:=xV7 (us:=us) (ds:=xs) (by simpa using h) (λi b y hb hy=>hh (i+1) b y (by simpa using hb) (by simpa using hy));simp only[wTrs,yQj,uptoBulkAll];omega
def RR (d:DataW H)(t:Tr)(x:IV):Prop:=IsTr t x/\wTr t+t.steps<=2*uptoBulk d
theorem RR.cells {d:DataW H}{t:Tr}{x:IV}(h:RR d t x):x.cells.length=12:=by
 obtain⟨_,_,_,_,_,_,_,_,_,_,_,_,_,_,_,_,_,_,rfl⟩:=yJk h.1;rfl
theorem wVo {fuel:Nat}{cs:List Value}{y:DataW H×List MemPlace}(h:DataW.trod enc prog w 0 spare held fuel 35 cs=some y)(hb:uptoBulk y.1<=1048576)
  (IH:∀(n:Nat),n<fuel->∀(cs:List Value) (y:DataW H×List MemPlace),DataW.trod enc prog w 0 spare held n 37 cs=some y->uptoBulk y.1<=1048576->∃t x,VL 0 (L0 w) w cs x.cells/\RR y.1 t x) :
  ∃v tg xs ts,cs=[v]/\V 0 (L0 w) w v (.sl tg xs)/\okEs tg 12/\IsTrs ts xs/\wTrs ts+yQj ts+1<=2*uptoBulk y.1:=by
 obtain⟨v,tg,xs,ts,rfl,hv,htg,hl,hc⟩:=xJn (H:=H) (P:=prog) (d:=y.1) (p:=y.2) RR vK8 vVg (by decide) h (λelems sp e=>by
   have:=yKz elems sp;have:=zQh elems;rw[<- e] at *;omega) (λd t x h=>h.cells) (λn hn cs' z q ⟨elems,sp,he,hm⟩ hz=>by
   have:=yKz elems sp;have:=zGq hm;rw[he] at hb;exact IH n (by omega) cs' (z,q) hz (show uptoBulk z<=1048576 by omega))
 refine⟨v,tg,xs,ts,rfl,hv,htg,?_⟩;rcases hc with⟨hd,rfl⟩|⟨elems,sp,hd,hel,hr⟩
 ·obtain rfl:ts=[]:=List.length_eq_zero_iff.1 (by simpa using hl);exact⟨rfl,by rw[hd];simp[wTrs,yQj,uptoBulk]⟩
 ·have hi:∀(i:Nat) (a:Tr),ts[i]?=some a->∃x d,xs[i]?=some x/\elems[i]?=some d/\RR d a x:=λi a ha=>by
   have hi:=(lGs ha).1;exact⟨_,_,List.getElem?_eq_getElem (by omega),List.getElem?_eq_getElem (by omega),hr i _ _ _ (List.getElem?_eq_getElem (by omega)) ha (List.getElem?_eq_getElem (by omega))⟩
  refine⟨xZo hl (λi a x ha hx=>?_),?_⟩
  ·obtain⟨x',d,h1,h2,h3⟩:=hi i a ha;rw[hx] at h1;cases h1;exact h3.1
  ·have:=xV7 (us:=ts) (ds:=elems) (by omega) (λi a d ha hd'=>by
    obtain⟨x',d',h1,h2,h3⟩:=hi i a ha;rw[hd'] at h2;cases h2;exact h3.2)
   have:=yKz elems sp;grind
theorem cs12 {cs:List Value}(h:cs.length=12):∃a b c d e f g h i j k l,cs=[a,b,c,d,e,f,g,h,i,j,k,l]:=by
 match cs,h with
 | [a,b,c,d,e,f,g,h,i,j,k,l],_=>exact⟨a,b,c,d,e,f,g,h,i,j,k,l,rfl⟩
theorem vQ1:∀(fuel:Nat)(cs:List Value)(y:DataW H×List MemPlace),DataW.trod enc prog w 0 spare held fuel 37 cs=some y->uptoBulk y.1<=1048576->∃t x,VL 0 (L0 w) w cs x.cells/\RR y.1 t x:=by
 intro fuel
 induction fuel using Nat.strongRecOn with
 | ind fuel IH =>
  intro cs y h hb;obtain⟨ys,n,rfl,rfl,hl,hlen,hf⟩:=DataW.trod_struct vK9 h
  match ys,hlen with
  | [y0,y1,y2,y3,y4,y5],_ =>
   rw[vVg] at hl;obtain⟨c0,c1,c2,c3,c4,c5,c6,c7,c8,c9,c10,c11,rfl⟩:=cs12 hl;have h0:=hf 0 _ rfl;have h1:=hf 1 _ rfl;have h2:=hf 2 _ rfl;have h3:=hf 3 _ rfl;have h4:=hf 4 _ rfl;have h5:=hf 5 _ rfl;simp only[List.getElem?_cons_zero,List.getElem?_cons_succ] at h0 h1 h2 h3 h4 h5;simp only[List.map_cons,List.map_nil,uptoBulk,uptoBulkAll] at hb;obtain⟨op,e0,rfl,hop⟩:=DataW.trod_int uU8 h0;obtain⟨s,xs,hvs,hs1,hs2⟩:=vKp n _ _ h1 (by omega);obtain⟨f,xf,hvf,hf1,hf2⟩:=xKi n _ _ h2 (by omega);obtain⟨t,xt,hvt,ht1,ht2⟩:=wQv n _ _ h3 (by omega);obtain⟨nm,e4,hn,hn2⟩:=wZ1 h4 (by omega);obtain⟨v,tg,xb,ts,e5,hv,htg,hts,hbk⟩:=wVo h5 (by omega) (λm hm=>IH m (by omega));cases e0;cases e4;cases e5;have hop:0<=op/\op<256:=by
    simp only[Lit.wf,IntKind.min,IntKind.max,IntKind.signed,IntKind.bits,bAt] at hop;grind
   obtain⟨k,rfl⟩:=Int.eq_ofNat_of_zero_le hop.1;obtain⟨tl,xl,tr,xr,rfl,k1,k2,k3,k4⟩:=hs1;have hf0:=hf1;have ht0:=ht1;obtain⟨o,fn,us,sub⟩:=f;obtain⟨ta,xa,tb,xb',rfl,_⟩:=hf1.mk;obtain⟨b,un,uu⟩:=t;obtain⟨tu,xu,rfl,_⟩:=ht1.mk;refine⟨.mk k s (.mk o fn us sub) (.mk b un uu) nm ts,.agg [.raw (.int .u8 k),.sl tl xl,.sl tr xr,.raw (.int .u8 o),.raw (.string fn),.sl ta xa,.sl tb xb',.raw (.bool b),.raw (.string un),.sl tu xu,.raw (.string nm),.sl tg xb],
    VL.cons (.raw _ trivial) (hvs.append (hvf.append (hvt.append (VL.cons hn (VL.cons hv VL.nil))))),?_,?_⟩
   ·simp only[IsTr];grind
   ·have:=xVa (.mk o fn us sub);have:=xV9 (.mk b un uu);simp only[List.map_cons,List.map_nil,uptoBulk,uptoBulkAll,wTr,Tr.steps];omega
end
