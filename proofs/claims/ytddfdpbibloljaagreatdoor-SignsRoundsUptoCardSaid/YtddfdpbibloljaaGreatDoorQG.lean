/- Walks: what is used of a step. -/
import Derived.Test.YtddfdpbibloljaaGreatDoorQF
import Derived.Test.YtddfdpbibloljaaGreatDoorKE
import Derived.Deep.DeepHandedRow
set_option linter.all false
open Nat renaming reduceEqDiff → zE,reduceBEq → zB,reduceAdd → zA,reduceMul → zM,reduceSub → zS,reduceLeDiff → zL
namespace Go.Proofs.Tryz
open Go Go.Iv
set_option maxRecDepth 4000
variable (gl:Nat->Option IV)
noncomputable def zJ1 (q s w:Sq):Sq:=⟨q.l++yJc s.l w.l,q.r++yJc s.r w.r⟩
noncomputable def yYs (fin:Sq->Tr):List Sq->List Tr->Sq->Tr
 | _,[],q=>fin q
 | [],s::_,_=>s
 | a::al,s::ss,q=>if !yW3 a.l s.sq.l&&!yW3 a.r s.sq.r then s else yYs fin al ss (zJ1 q s.sq a)
def wVi (rule:Nat)(m:Fm):Sq:=if rule=1 then ⟨[m],[m]⟩ else if yXi rule then ⟨[m],[]⟩ else if rule≠17 then ⟨[],[m]⟩ else ⟨[],[]⟩
noncomputable def addU (rule:Nat)(m:Fm):List Sq:=(wKa 1 rule m tm0 bE).1
noncomputable def xXe (rule:Nat)(s:Sq)(m:Fm)(subs:List Tr):Tr:=yYs (λq=>.mk rule ⟨yJq s.l q.l,yJq s.r q.r⟩ m tm0 bE subs) (addU rule m) subs (wVi rule m)
theorem zKc (l:List Fm):yJc l []=l:=by simp[yJc,hasL]
theorem NeedO.sub {s0 st:ISt}{b gL gR:Nat}{L R:List Fm}(h:NeedO s0 st b gL gR L R)(hb:s0 b=none):subSt s0 st:=by
 obtain⟨xl,xr,zl,zr,h1,h2,_,h4,_,_,_,h8⟩:=h;have none:∀ {s n cells g x},SlO s0 st s n cells g x->0<n->s0 g=none:=λhs hn=>by
  rcases hs with⟨h,_⟩|⟨_,_,_,_,_,_,_,_,h⟩
  ·omega
  ·exact h
 intro c o hc;have pos:∀l:List Fm,l≠[]->0<l.length:=λl h=>by cases l<;>simp at *
 rw[h8 c (λh=>by rw[h,hb] at hc;cases hc) (λhl h=>by rw[h,none h2 (pos _ hl)] at hc;cases hc) (λhl h=>by rw[h,none h4 (pos _ hl)] at hc;cases hc)];exact hc
theorem zW3 (fin:Sq->Tr)(al:List Sq)(q:Sq):yYs fin al [] q=fin q:=by cases al<;>rfl
theorem NeedO.off {s0 st:ISt}{b gL gR:Nat}{L R:List Fm}(h:NeedO s0 st b gL gR L R):(L≠[]->s0 gL=none)/\(R≠[]->s0 gR=none):=by
 obtain⟨xl,xr,zl,zr,h1,h2,_,h4,_,_,_,h8⟩:=h;have none:∀ {l:List Fm} {s cells g x},SlO s0 st s l.length cells g x->l≠[]->s0 g=none:=λhs hn=>by
  rcases hs with⟨h,_⟩|⟨_,_,_,_,_,_,_,_,h⟩
  ·exact absurd (List.length_eq_zero_iff.1 h) hn
  ·exact h
 exact⟨none h2,none h4⟩
def SU (st:ISt)(eL eR:Bool)(gL gR:Nat)(a b:Bool):ISt:=λc=>if (a=true/\eL=true/\c=gL)\/(b=true/\eR=true/\c=gR) then none else st c
theorem SU_ff {st:ISt}{eL eR:Bool}{gL gR:Nat}:SU st eL eR gL gR false false=st:=by
 funext c;simp[SU]
theorem vY2 {st:ISt}{L R:List Fm}{gL gR c:Nat}{a b:Bool}(h1:L≠[]->c≠gL)(h2:R≠[]->c≠gR):SU st (!L.isEmpty) (!R.isEmpty) gL gR a b c=st c:=by
 unfold SU;rw[if_neg];simp only[Bool.not_eq_true',List.isEmpty_eq_false_iff];rintro (⟨_,h,h'⟩|⟨_,h,h'⟩)
 ·exact h1 h h'
 ·exact h2 h h'
theorem SU_L {st:ISt}{L R:List Fm}{gL gR:Nat}{b:Bool}(h:R≠[]->gL≠gR):SU st (!L.isEmpty) (!R.isEmpty) gL gR false b gL=st gL:=by
 unfold SU;rw[if_neg];simp only[Bool.not_eq_true',List.isEmpty_eq_false_iff,bFt,false_and,false_or];exact λh'=>h h'.2.1 h'.2.2
theorem SU_R {st:ISt}{L R:List Fm}{gL gR:Nat}{a:Bool}(h:L≠[]->gR≠gL):SU st (!L.isEmpty) (!R.isEmpty) gL gR a false gR=st gR:=by
 unfold SU;rw[if_neg];simp only[Bool.not_eq_true',List.isEmpty_eq_false_iff,bFt,false_and,or_false];exact λh'=>h h'.2.1 h'.2.2
theorem kQc {st:ISt}{eR:Bool}{gL gR:Nat}{b:Bool}:(SU st true eR gL gR false b).put gL none=SU st true eR gL gR true b:=by
 funext c;rw[ISt.put_apply];unfold SU;by_cases h:c=gL<;>simp[h]
theorem kQb {st:ISt}{eL:Bool}{gL gR:Nat}{a:Bool}:(SU st eL true gL gR a false).put gR none=SU st eL true gL gR a true:=by
 funext c;rw[ISt.put_apply];unfold SU;by_cases h:c=gR<;>simp[h]
theorem vY4 {st:ISt}{eR:Bool}{gL gR:Nat}{a b:Bool}:SU st false eR gL gR a b=SU st false eR gL gR false b:=by
 funext c;simp[SU]
theorem vY3 {st:ISt}{eL:Bool}{gL gR:Nat}{a b:Bool}:SU st eL false gL gR a b=SU st eL false gL gR a false:=by
 funext c;simp[SU]
theorem xZf {l:List Fm}{xs:List IV}(h:IsFms l xs):∀x∈xs,x.cells.length=4:=λx hx=>by
 have:=zQj h x hx;exact (yJd this).2.1
set_option maxHeartbeats 2000000 in
theorem vJ8 (G:Gl gl)(T:Gt gl)(rd:IV)(mp:Nat)(hrd:rd=.agg [.raw (.map (some mp))])(rule:Nat)(s:Sq)(mn:Fm)(u:Tm)(nm:ByteArray)(sb:List Tr)(x:IV)(hx:IsTr (.mk rule s mn u nm sb) x)(subs:List Tr)(tg:Tag)(zs:List IV)(htg:okEs tg 12)(hzs:IsTrs subs zs)
  (hsz:mn.size<=100000) (hs1:yQ9 s.l<=100000) (hs2:yQ9 s.r<=100000) (hq:∀a∈subs,a.sq.l.length+a.sq.r.length<=1000) (hn:subs.length<=100) (st:ISt) (es:List (Value×IV)) (hm:st mp=some (.map (.int .u8) es)) (hl:zYi es) :
  ICall prog gl 57 [rd,x,.agg [],.sl tg zs] st (λr st'=>IsTr (xXe rule s mn subs) r/\st'=st):=by
 subst hrd;obtain⟨tl,xl,tr,xr,op,fn,ta,xa,tb,xb,v,un,tu,xu,ts,xs,rfl,hru,e1,i1,e2,i2,hy,hz,e3,i3⟩:=hx.mk;have hcopy:=λst=>zQz gl mn _ hy (by omega) st;have hA:=λst=>vZs gl G T 1 rule mn _ hy (by omega) tm0 (.agg [.raw (.bool false),.raw (.string ⟨#[]⟩),.sl ⟨true,.nil,0⟩ []]) ⟨_,_,rfl,.inl rfl,rfl⟩ (by decide) bE st;have hlk:=hl rule;have hr1:((rule:Int)=1)=(rule=1):=propext (by omega);have hr17:((rule:Int)=17)=(rule=17):=propext (by omega);have hmain:IsFms [mn] [.agg [.raw (.int .u8 op),.raw (.string fn),.sl ta xa,.sl tb xb]]:=⟨_,_,rfl,hy,rfl⟩
 have hcol:=λq L R t1 x1 t2 x2 (h1:IsSq q (.agg [.sl t1 x1,.sl t2 x2])) s0 st b gL gR (h:NeedO s0 st b gL gR L R) hl=>xZq gl q ⟨[],[]⟩ _ (.agg [.sl ⟨true,.nil,0⟩ [],.sl ⟨true,.nil,0⟩ []]) h1 ⟨_,_,_,_,rfl,.inl rfl,rfl,.inl rfl,rfl⟩ s0 st b gL gR L R h hl;refine ICall.intro (c:=cf prog gl [9,110,116] [(18,[])] [5]) func57 rfl (by show _<=124;simp) (by kernel_rfl) ?_;simp only[go_sem,zE,zB,zA,zM,zS,zL,reduceCtorEq,fits];refine λb=>yQb λhb=>?_;have hN0:NeedO st (st.put b (some (.box [.sl ⟨true,.nil,0⟩ [],.sl ⟨true,.nil,0⟩ []]))) b b b [] []:=⟨_,_,[],[],ISt.put_same ..,.inl ⟨rfl,rfl,_,_,rfl⟩,rfl,.inl ⟨rfl,rfl,_,_,rfl⟩,rfl,λh=>absurd rfl h,λh=>absurd rfl h,λc h _ _=>yQa h⟩
 have hbm:mp≠b:=λh=>by rw[<- h,hm] at hb;cases hb
 have hq0:wVi rule mn=if rule=1 then ⟨[mn],[mn]⟩ else if yXi rule then ⟨[mn],[]⟩ else if rule≠17 then ⟨[],[mn]⟩ else ⟨[],[]⟩:=rfl
 have hun:xXe rule s mn subs=yYs (λq=>.mk rule ⟨yJq s.l q.l,yJq s.r q.r⟩ mn tm0 bE subs) (addU rule mn) subs (wVi rule mn):=rfl;generalize wVi rule mn=q at hq0 hun;have look0:∀z,zZa false none z=some z:=λ_=>rfl;have look1:∀v z,zZa false (some v) z=some v:=λ_ _=>rfl;have hsz0:(if (#[]:Array UInt8).size<=281474976710656 then some (IV.raw (Value.string { data:=#[] })) else none)=some (IV.raw (Value.string { data:=#[] })):=rfl;rcases (show rule=1\/(rule≠1/\yXi rule=true)\/(rule≠1/\yXi rule=false/\rule=17)\/(rule≠1/\yXi rule=false/\rule≠17) by
  by_cases h1:rule=1
  ·exact .inl h1
  ·by_cases h2:rule=17<;>cases yXi rule<;>simp[h1,h2]) with h1|h1|h1|h1
 all_goals first
  | (rw[if_pos h1] at hq0
     have d1:decide ((rule:Int)=1)=true:=dEt (by omega);simp only[go_sem,zE,zB,zA,zM,zS,zL,reduceCtorEq,fits,yQ1,d1];refine (hcol ⟨[mn],[mn]⟩ _ _ _ _ _ _ ⟨_,_,_,_,rfl,.inr rfl,hmain,.inr rfl,hmain⟩ _ _ _ _ _ hN0 (by simp)).mono ?_;rintro _ st1 ⟨rfl,gL,gR,hN⟩;simp only[zKc,List.nil_append] at hN;have hN1:NeedO st st1 b gL gR q.l q.r:=by rw[hq0];exact hN
     have hqn:q.l.length+q.r.length<=2:=by rw[hq0];simp
     simp only[go_sem,zE,zB,zA,zM,zS,zL,reduceCtorEq,fits,hsz0])
  | (have d1:decide ((rule:Int)=1)=false:=dEf (by omega)
     rw[if_neg h1.1,h1.2,if_pos rfl] at hq0;rw[h1.2,if_pos rfl] at hlk;simp only[go_sem,zE,zB,zA,zM,zS,zL,reduceCtorEq,fits,yQ1,d1,yQa hbm,hm,hlk,look1];refine (hcol ⟨[mn],[]⟩ _ _ _ _ _ _ ⟨_,_,_,_,rfl,.inr rfl,hmain,.inl rfl,rfl⟩ _ _ _ _ _ hN0 (by simp)).mono ?_;rintro _ st1 ⟨rfl,gL,gR,hN⟩;simp only[zKc,List.nil_append] at hN;have hN1:NeedO st st1 b gL gR q.l q.r:=by rw[hq0];exact hN
     have hqn:q.l.length+q.r.length<=2:=by rw[hq0];simp
     simp only[go_sem,zE,zB,zA,zM,zS,zL,reduceCtorEq,fits,hsz0])
  | (have d1:decide ((rule:Int)=1)=false:=dEf (by omega)
     have d2:decide ((rule:Int)=17)=true:=dEt (by omega);rw[if_neg h1.1,h1.2.1,if_neg (by decide),if_neg (λh=>h h1.2.2)] at hq0;rw[h1.2.1,if_neg (by decide)] at hlk;simp only[go_sem,zE,zB,zA,zM,zS,zL,reduceCtorEq,fits,yQ1,d1,yQa hbm,hm,hlk,look0,d2];obtain⟨st1,hst1⟩:∃st1,st1=st.put b (some (.box [.sl ⟨true,.nil,0⟩ [],.sl ⟨true,.nil,0⟩ []])):=⟨_,rfl⟩
     rw[<- hst1];rw[<- hst1] at hN0;have hN1:NeedO st st1 b b b q.l q.r:=by rw[hq0];exact hN0
     have hqn:q.l.length+q.r.length<=2:=by rw[hq0];simp
     simp only[go_sem,zE,zB,zA,zM,zS,zL,reduceCtorEq,fits,hsz0])
  | (have d1:decide ((rule:Int)=1)=false:=dEf (by omega)
     have d2:decide ((rule:Int)=17)=false:=dEf (by omega);rw[if_neg h1.1,h1.2.1,if_neg (by decide),if_pos h1.2.2] at hq0;rw[h1.2.1,if_neg (by decide)] at hlk;simp only[go_sem,zE,zB,zA,zM,zS,zL,reduceCtorEq,fits,yQ1,d1,yQa hbm,hm,hlk,look0,d2];refine (hcol ⟨[],[mn]⟩ _ _ _ _ _ _ ⟨_,_,_,_,rfl,.inl rfl,rfl,.inr rfl,hmain⟩ _ _ _ _ _ hN0 (by simp)).mono ?_;rintro _ st1 ⟨rfl,gL,gR,hN⟩;simp only[zKc,List.nil_append] at hN;have hN1:NeedO st st1 b gL gR q.l q.r:=by rw[hq0];exact hN
     have hqn:q.l.length+q.r.length<=2:=by rw[hq0];simp
     simp only[go_sem,zE,zB,zA,zM,zS,zL,reduceCtorEq,fits,hsz0])
 all_goals
  refine (hA _).mono ?_;rintro _ st1 ⟨tgA,xsA,rfl,eA,_,iA,rfl⟩;replace iA:IsSqs (addU rule mn) xsA:=iA.w;simp only[go_sem,zE,zB,zA,zM,zS,zL,reduceCtorEq,fits,hzs.len];intro _;refine LoopC.ctr subs.length (λk fr st' ds=>(∃gL gR q,NeedO st st' b gL gR q.l q.r/\xXe rule s mn subs=yYs (λq=>.mk rule ⟨yJq s.l q.l,yJq s.r q.r⟩ mn tm0 bE subs) ((addU rule mn).drop k) (subs.drop k) q/\q.l.length+q.r.length<=2+1000*k) /\
   fr 3=.iv (.sl tg zs)/\fr 4=.box [.raw (.map (some mp))]/\fr 5=.iv (.cptr (.agg [.raw (.int .u8 rule),.sl tl xl,.sl tr xr,.raw (.int .u8 op),.raw (.string fn),.sl ta xa,.sl tb xb,.raw (.bool v),.raw (.string un),.sl tu xu,.raw (.string nm),.sl ts xs]))/\fr 8=.box trZ/\fr 9=.iv (ptrI b)/\fr 10=.iv (.fn (.func 97) [] [ptrI b])/\fr 12=.iv (.sl tgA xsA) /\
   fr 59=.iv (.sl tg zs)/\fr 60=.iv (.raw (.int .i64 subs.length))/\fr 61=.iv (.raw (.int .i64 k))/\ds=[]) ?_ ?_ ?_
  ·simp only[go_sem,zE,zB,zA,zM,zS,zL,reduceCtorEq];exact⟨⟨_,_,q,hN1,hun,by omega⟩,rfl,rfl,rfl,rfl⟩
  ·rintro k fr st1 _ hlt ⟨⟨gL,gR,q,hN,hgo,hql⟩,f3,f4,f5,f8,f9,f10,f12,f59,f60,f61,rfl⟩;obtain⟨a,ha⟩:=yQ4 hlt;obtain⟨z,hkz,hz⟩:=hzs.get ha;have hqa:=hq a (lMg ha);have hz0:=hz;have hdr:subs.drop k=a::subs.drop (k+1):=List.drop_eq_getElem_cons hlt▸by rw[(lGs ha).2]
   obtain⟨ar,as',am,au,an,asb⟩:=a;obtain⟨tl',xl',tr',xr',op',fn',ta',xa',tb',xb',v',un',tu',xu',ts2,xs2,rfl,_,e1',i1',e2',i2',hy',hz',e3',i3'⟩:=hz.mk;by_cases hka:k<(addU rule mn).length
   ·have dk:decide ((((addU rule mn).length:Nat):Int)<=(k:Int))=false:=dEf (by omega);simp only[go_sem,zE,zB,zA,zM,zS,zL,reduceCtorEq,f3,f4,f5,f8,f9,f10,f12,f59,f60,f61,lt_i hlt,yQ2 htg,yQ2 eA,iNn,hkz,fits,iA.len,dk];obtain⟨w,hw⟩:=yQ4 hka;obtain⟨yw,hkw,hyw⟩:=iA.get hw;have hdw:(addU rule mn).drop k=w::(addU rule mn).drop (k+1):=List.drop_eq_getElem_cons hka▸by rw[(lGs hw).2]
    rw[hdr,hdw,yYs] at hgo;obtain⟨tw,xw,tw',xw',rfl,ew,iw,ew',iw'⟩:=hyw;have hm1:=λst=>wZh gl w.l tw xw ew iw as'.l tl' xl' e1' i1' st;have hm2:=λst=>wZh gl w.r tw' xw' ew' iw' as'.r tr' xr' e2' i2' st;have hln1:(yJc as'.l w.l).length<=as'.l.length:=List.length_filter_le ..;have hln2:(yJc as'.r w.r).length<=as'.r.length:=List.length_filter_le ..;replace hqa:as'.l.length+as'.r.length<=1000:=hqa;have hcl:=xZq gl as' w (.agg [.sl tl' xl',.sl tr' xr']) (.agg [.sl tw xw,.sl tw' xw']) ⟨_,_,_,_,rfl,e1',i1',e2',i2'⟩ ⟨_,_,_,_,rfl,ew,iw,ew',iw'⟩ st st1 b gL gR q.l q.r hN (by omega);have hnext:∀(st2:ISt) gL gR,NeedO st st2 b gL gR (q.l++yJc as'.l w.l) (q.r++yJc as'.r w.r)->xXe rule s mn subs=yYs (λq=>.mk rule ⟨yJq s.l q.l,yJq s.r q.r⟩ mn tm0 bE subs) ((addU rule mn).drop (k+1)) (subs.drop (k+1)) (zJ1 q as' w) →
      ∃gL gR q,NeedO st st2 b gL gR q.l q.r/\xXe rule s mn subs=yYs (λq=>.mk rule ⟨yJq s.l q.l,yJq s.r q.r⟩ mn tm0 bE subs) ((addU rule mn).drop (k+1)) (subs.drop (k+1)) q/\q.l.length+q.r.length<=2+1000*(k+1):=λst2 gL gR h1 h2=>⟨gL,gR,zJ1 q as' w,h1,h2,by simp only[zJ1,lLa];omega⟩
    simp only[go_sem,zE,zB,zA,zM,zS,zL,reduceCtorEq,hkw,fits];refine (hm1 _).mono ?_;rintro _ st1 ⟨rfl,rfl⟩;cases hb1:yW3 w.l as'.l
    ·simp only[go_sem,zE,zB,zA,zM,zS,zL,reduceCtorEq,f3,f4,f5,f8,f9,f10,f12,f59,f60,f61,hkw,yQ2 eA,iNn,fits];refine (hm2 _).mono ?_;rintro _ st1 ⟨rfl,rfl⟩;cases hb2:yW3 w.r as'.r
     ·simp only[go_sem,zE,zB,zA,zM,zS,zL,reduceCtorEq,f3,f4,f5,f8,f9,f10,f12,f59,f60,f61,fits];rw[if_pos (by decide)];refine yQc (hN.sub hb) ⟨?_,rfl⟩;rw[hgo,if_pos (by show (!yW3 w.l as'.l&&!yW3 w.r as'.r)=true;rw[hb1,hb2];rfl)];exact hz0
     ·rw[if_neg (by show ¬ (!yW3 w.l as'.l&&!yW3 w.r as'.r)=true;rw[hb1,hb2];decide)] at hgo;simp only[go_sem,zE,zB,zA,zM,zS,zL,reduceCtorEq,f3,f4,f5,f8,f9,f10,f12,f59,f60,f61,hkw,yQ2 eA,iNn,fits];refine hcl.mono ?_;rintro _ st2 ⟨rfl,gL2,gR2,hN2⟩;simp only[go_sem,zE,zB,zA,zM,zS,zL,reduceCtorEq,f3,f4,f5,f8,f9,f10,f12,f59,f60,f61,yQf hlt (show subs.length<=281474976710656 by omega)];exact hnext st2 gL2 gR2 hN2 hgo
    ·rw[if_neg (by show ¬ (!yW3 w.l as'.l&&!yW3 w.r as'.r)=true;rw[hb1];simp)] at hgo;simp only[go_sem,zE,zB,zA,zM,zS,zL,reduceCtorEq,f3,f4,f5,f8,f9,f10,f12,f59,f60,f61,hkw,yQ2 eA,iNn,fits];refine hcl.mono ?_;rintro _ st2 ⟨rfl,gL2,gR2,hN2⟩;simp only[go_sem,zE,zB,zA,zM,zS,zL,reduceCtorEq,f3,f4,f5,f8,f9,f10,f12,f59,f60,f61,yQf hlt (show subs.length<=281474976710656 by omega)];exact hnext st2 gL2 gR2 hN2 hgo
   ·have dk:decide ((((addU rule mn).length:Nat):Int)<=(k:Int))=true:=dEt (by omega);simp only[go_sem,zE,zB,zA,zM,zS,zL,reduceCtorEq,f3,f4,f5,f8,f9,f10,f12,f59,f60,f61,lt_i hlt,yQ2 htg,yQ2 eA,iNn,hkz,fits,iA.len,dk];rw[if_pos (by decide)];rw[hdr,List.drop_eq_nil_of_le (by omega),yYs] at hgo;exact yQc (hN.sub hb) ⟨by rw[hgo];exact hz0,rfl⟩
  ·rintro fr st1 _ ⟨⟨gL,gR,q,hN,hgo,hql⟩,f3,f4,f5,f8,f9,f10,f12,f59,f60,f61,rfl⟩;rw[List.drop_length] at hgo;simp only[go_sem,zE,zB,zA,zM,zS,zL,reduceCtorEq,f3,f4,f5,f8,f9,f10,f60,f61,yQo (nLi _)];rw[yKx];have hsubN:=hN.sub hb;obtain⟨hLn,hRn⟩:=hN.off;obtain⟨yl,yr,zl,zr,hbx,hsL,izl,hsR,izr,k1,k2,k3⟩:=hN;obtain⟨S,hS⟩:∃S:Array Bool->ISt,S=λl=>SU st1 (!q.l.isEmpty) (!q.r.isEmpty) gL gR (l.getD 7 false) (l.getD 13 false):=⟨_,rfl⟩
   have hSb:∀l,S l b=some (.box [yl,yr]):=λl=>by rw[hS];exact (vY2 (λh=>(k1 h).1.symm) (λh=>(k2 h).symm)).trans hbx
   have kk:∀ {K:Kt} {ad:Ad} {fr:Fr} {l:Array Bool} {i:Nat},K ad fr (S (l.setIfInBounds i true)) []->(decide (i=7) || decide (i=13))=false->K ad fr (S l) []:=λh hi=>by
    simp only[Bool.or_eq_false_iff,decide_eq_false_iff_not] at hi;rw[hS] at h ⊢;simp only[getD_set_ne false hi.1,getD_set_ne false hi.2] at h;exact h
   have hst1:st1=S (Array.replicate 21 false):=by rw[hS];simp only[yXu];exact SU_ff.symm
   rw[hst1];refine anyT (n:=20) (S:=S) (Rel:=λi z=>match i with
    | 0=>z=.cptr (.raw (.int .u8 rule))
    | 1=>z=.raw (.int .u8 rule)
    | 2=>z=.cptr (.agg [.sl tl xl,.sl tr xr])
    | 3=>z=.cptr (.sl tl xl)
    | 4=>z=.sl tl xl
    | 5=>z=.raw (.pointer (some ⟨b,0,none⟩))
    | 6=>z=yl
    | 7=>∃t ys,z=.sl t ys/\okEs t 4/\IsFms (yJq s.l q.l) ys
    | 8=>z=.cptr (.agg [.sl tl xl,.sl tr xr])
    | 9=>z=.cptr (.sl tr xr)
    | 10=>z=.sl tr xr
    | 11=>z=.raw (.pointer (some ⟨b,1,none⟩))
    | 12=>z=yr
    | 13=>∃t ys,z=.sl t ys/\okEs t 4/\IsFms (yJq s.r q.r) ys
    | 14=>∃t ys t' ys',z=.agg [.sl t ys,.sl t' ys']/\okEs t 4/\IsFms (yJq s.l q.l) ys/\okEs t' 4/\IsFms (yJq s.r q.r) ys'
    | 15=>z=.cptr (.agg [.raw (.int .u8 op),.raw (.string fn),.sl ta xa,.sl tb xb])
    | 16=>z=.agg [.raw (.int .u8 op),.raw (.string fn),.sl ta xa,.sl tb xb]
    | 17=>IsFm mn z
    | 18=>z=.sl tg zs
    | 19=>IsTr (.mk rule ⟨yJq s.l q.l,yJq s.r q.r⟩ mn tm0 bE subs) z
    | _=>True)
    (F:=λfr=>fr 3=.iv (.sl tg zs)/\fr 5=.iv (.cptr (.agg [.raw (.int .u8 rule),.sl tl xl,.sl tr xr,.raw (.int .u8 op),.raw (.string fn),.sl ta xa,.sl tb xb,.raw (.bool v),.raw (.string un),.sl tu xu,.raw (.string nm),.sl ts xs]))/\fr 8=.box trZ/\fr 9=.iv (ptrI b)) (G:=λfr=>∃l,IsTr (.mk rule ⟨yJq s.l q.l,yJq s.r q.r⟩ mn tm0 bE subs) (.agg l)/\fr 8=.box l)
    ⟨rfl,by decide,by decide,by decide,λfr d z hd ⟨h3,h5,h8,h9⟩=>⟨(xQp hd rfl).trans h3,(xQp hd rfl).trans h5,(xQp hd rfl).trans h8,(xQp hd rfl).trans h9⟩⟩ ?_ ?_ (λ_=>rfl) ⟨f3,f5,f8,f9⟩
   ·repeat' apply AllOkS.cons
    ·intro listed ad fr K hz hfl had hF hd hK hS2;obtain⟨f3,f5,f8,f9⟩:=hF;simp only[go_sem,zE,zB,zA,zM,zS,zL,reduceCtorEq,yQ5,had,f3,f5,f8,f9];exact kk (hK _ _ rfl (λh=>absurd h (by decide)) rfl) rfl
    ·intro listed ad fr K hz hfl had hF hd hK hS2;obtain⟨f3,f5,f8,f9⟩:=hF;obtain⟨_,g0,rfl⟩:=hd 0 _ rfl rfl;simp only[go_sem,zE,zB,zA,zM,zS,zL,reduceCtorEq,yQ5,had,f3,f5,f8,f9,g0];exact kk (hK _ _ rfl (λh=>absurd h (by decide)) rfl) rfl
    ·intro listed ad fr K hz hfl had hF hd hK hS2;obtain⟨f3,f5,f8,f9⟩:=hF;simp only[go_sem,zE,zB,zA,zM,zS,zL,reduceCtorEq,yQ5,had,f3,f5,f8,f9];exact kk (hK _ _ rfl (λh=>absurd h (by decide)) rfl) rfl
    ·intro listed ad fr K hz hfl had hF hd hK hS2;obtain⟨f3,f5,f8,f9⟩:=hF;obtain⟨_,g2,rfl⟩:=hd 2 _ rfl rfl;simp only[go_sem,zE,zB,zA,zM,zS,zL,reduceCtorEq,yQ5,had,f3,f5,f8,f9,g2];exact kk (hK _ _ rfl (λh=>absurd h (by decide)) rfl) rfl
    ·intro listed ad fr K hz hfl had hF hd hK hS2;obtain⟨f3,f5,f8,f9⟩:=hF;obtain⟨_,g3,rfl⟩:=hd 3 _ rfl rfl;simp only[go_sem,zE,zB,zA,zM,zS,zL,reduceCtorEq,yQ5,had,f3,f5,f8,f9,g3];exact kk (hK _ _ rfl (λh=>absurd h (by decide)) rfl) rfl
    ·intro listed ad fr K hz hfl had hF hd hK hS2;obtain⟨f3,f5,f8,f9⟩:=hF;unfold ptrI at f9;simp only[go_sem,zE,zB,zA,zM,zS,zL,reduceCtorEq,yQ5,had,f3,f5,f8,f9];exact kk (hK _ _ rfl (λh=>absurd h (by decide)) rfl) rfl
    ·intro listed ad fr K hz hfl had hF hd hK hS2;obtain⟨f3,f5,f8,f9⟩:=hF;obtain⟨_,g5,rfl⟩:=hd 5 _ rfl rfl;simp only[go_sem,zE,zB,zA,zM,zS,zL,reduceCtorEq,yQ5,had,f3,f5,f8,f9,g5,hSb];exact kk (hK _ _ rfl (λh=>absurd h (by decide)) rfl) rfl
    ·intro listed ad fr K hz hfl had hF hd hK hS2;obtain⟨f3,f5,f8,f9⟩:=hF;obtain⟨_,g4,rfl⟩:=hd 4 _ rfl rfl;obtain⟨_,g6,rfl⟩:=hd 6 _ rfl rfl;rcases hsL with⟨hn0,hcz,fz,ez,rfl⟩|⟨hn0,cap0,cs0,rfl,hg0,hkc0,hcc0,htk0,hgn0⟩
     ·have hq0:q.l=[]:=List.length_eq_zero_iff.1 hn0;have hz0:zl=[]:=List.length_eq_zero_iff.1 (by rw[izl.len];exact hn0);subst hz0;simp only[go_sem,zE,zB,zA,zM,zS,zL,reduceCtorEq,yQ5,had,f3,f5,f8,f9,g4,g6,fits];refine (xVn gl s.l tl xl e1 i1 q.l ⟨fz,.nil,ez⟩ [] (.inl rfl) izl (by omega) _).mono ?_;rintro _ _ ⟨t5,y5,rfl,e5,i5,rfl⟩;have hKK:=hK _ (.sl t5 y5) rfl (λh=>absurd h (by decide)) ⟨_,_,rfl,e5,i5⟩;have hE:S (listed.setIfInBounds 7 true)=S listed:=by
       rw[hS];simp only[getD_set_ne false (show 7≠13 by decide),hq0,List.isEmpty_nil,Bool.not_true];rw[vY4,vY4 (a:=listed.getD 7 false)]
      rw[<- hE];exact hKK
     ·have hq0:q.l≠[]:=λh=>by rw[h] at hn0;exact absurd hn0 (by decide)
      have hqe:(!q.l.isEmpty)=true:=by simpa using hq0
      have hSg:S listed gL=some (.box cs0):=by
       rw[hS];simp only[hfl];exact (SU_L (λh=>(k1 hq0).2 h)).trans hg0
      have hE:(S listed).put gL none=S (listed.setIfInBounds 7 true):=by
       rw[hS];simp only[getD_set_ne false (show 7≠13 by decide),yQp (show 7<listed.size by rw[hz];decide),if_true,hfl,hqe];exact kQc
      simp only[go_sem,zE,zB,zA,zM,zS,zL,reduceCtorEq,yQ5,had,f3,f5,f8,f9,g4,g6,fits];refine ICall.frzSl (pre:=[_]) (es:=4) (zs:=zl) hSg izl.len hkc0 hcc0 (xZf izl) htk0 (by omega) ?_;rw[hE];refine (xVn gl s.l tl xl e1 i1 q.l _ _ (.inr rfl) izl.aged (by omega) _).mono ?_;rintro _ _ ⟨t5,y5,rfl,e5,i5,rfl⟩;exact hK _ (.sl t5 y5) rfl (λh=>absurd h (by decide)) ⟨_,_,rfl,e5,i5⟩
    ·intro listed ad fr K hz hfl had hF hd hK hS2;obtain⟨f3,f5,f8,f9⟩:=hF;simp only[go_sem,zE,zB,zA,zM,zS,zL,reduceCtorEq,yQ5,had,f3,f5,f8,f9];exact kk (hK _ _ rfl (λh=>absurd h (by decide)) rfl) rfl
    ·intro listed ad fr K hz hfl had hF hd hK hS2;obtain⟨f3,f5,f8,f9⟩:=hF;obtain⟨_,g8,rfl⟩:=hd 8 _ rfl rfl;simp only[go_sem,zE,zB,zA,zM,zS,zL,reduceCtorEq,yQ5,had,f3,f5,f8,f9,g8];exact kk (hK _ _ rfl (λh=>absurd h (by decide)) rfl) rfl
    ·intro listed ad fr K hz hfl had hF hd hK hS2;obtain⟨f3,f5,f8,f9⟩:=hF;obtain⟨_,g9,rfl⟩:=hd 9 _ rfl rfl;simp only[go_sem,zE,zB,zA,zM,zS,zL,reduceCtorEq,yQ5,had,f3,f5,f8,f9,g9];exact kk (hK _ _ rfl (λh=>absurd h (by decide)) rfl) rfl
    ·intro listed ad fr K hz hfl had hF hd hK hS2;obtain⟨f3,f5,f8,f9⟩:=hF;unfold ptrI at f9;simp only[go_sem,zE,zB,zA,zM,zS,zL,reduceCtorEq,yQ5,had,f3,f5,f8,f9];exact kk (hK _ _ rfl (λh=>absurd h (by decide)) rfl) rfl
    ·intro listed ad fr K hz hfl had hF hd hK hS2;obtain⟨f3,f5,f8,f9⟩:=hF;obtain⟨_,g11,rfl⟩:=hd 11 _ rfl rfl;simp only[go_sem,zE,zB,zA,zM,zS,zL,reduceCtorEq,yQ5,had,f3,f5,f8,f9,g11,hSb];exact kk (hK _ _ rfl (λh=>absurd h (by decide)) rfl) rfl
    ·intro listed ad fr K hz hfl had hF hd hK hS2;obtain⟨f3,f5,f8,f9⟩:=hF;obtain⟨_,g10,rfl⟩:=hd 10 _ rfl rfl;obtain⟨_,g12,rfl⟩:=hd 12 _ rfl rfl;rcases hsR with⟨hn0,hcz,fz,ez,rfl⟩|⟨hn0,cap0,cs0,rfl,hg0,hkc0,hcc0,htk0,hgn0⟩
     ·have hq0:q.r=[]:=List.length_eq_zero_iff.1 hn0;have hz0:zr=[]:=List.length_eq_zero_iff.1 (by rw[izr.len];exact hn0);subst hz0;simp only[go_sem,zE,zB,zA,zM,zS,zL,reduceCtorEq,yQ5,had,f3,f5,f8,f9,g10,g12,fits];refine (xVn gl s.r tr xr e2 i2 q.r ⟨fz,.nil,ez⟩ [] (.inl rfl) izr (by omega) _).mono ?_;rintro _ _ ⟨t5,y5,rfl,e5,i5,rfl⟩;have hKK:=hK _ (.sl t5 y5) rfl (λh=>absurd h (by decide)) ⟨_,_,rfl,e5,i5⟩;have hE:S (listed.setIfInBounds 13 true)=S listed:=by
       rw[hS];simp only[getD_set_ne false (show 13≠7 by decide),hq0,List.isEmpty_nil,Bool.not_true];rw[vY3,vY3 (b:=listed.getD 13 false)]
      rw[<- hE];exact hKK
     ·have hq0:q.r≠[]:=λh=>by rw[h] at hn0;exact absurd hn0 (by decide)
      have hqe:(!q.r.isEmpty)=true:=by simpa using hq0
      have hSg:S listed gR=some (.box cs0):=by
       rw[hS];simp only[hfl];exact (SU_R (λh=>((k1 h).2 hq0).symm)).trans hg0
      have hE:(S listed).put gR none=S (listed.setIfInBounds 13 true):=by
       rw[hS];simp only[getD_set_ne false (show 13≠7 by decide),yQp (show 13<listed.size by rw[hz];decide),if_true,hfl,hqe];exact kQb
      simp only[go_sem,zE,zB,zA,zM,zS,zL,reduceCtorEq,yQ5,had,f3,f5,f8,f9,g10,g12,fits];refine ICall.frzSl (pre:=[_]) (es:=4) (zs:=zr) hSg izr.len hkc0 hcc0 (xZf izr) htk0 (by omega) ?_;rw[hE];refine (xVn gl s.r tr xr e2 i2 q.r _ _ (.inr rfl) izr.aged (by omega) _).mono ?_;rintro _ _ ⟨t5,y5,rfl,e5,i5,rfl⟩;exact hK _ (.sl t5 y5) rfl (λh=>absurd h (by decide)) ⟨_,_,rfl,e5,i5⟩
    ·intro listed ad fr K hz hfl had hF hd hK hS2;obtain⟨f3,f5,f8,f9⟩:=hF;obtain⟨z7,g7,k7⟩:=hd 7 _ rfl rfl;obtain⟨t5,y5,rfl,k5,k6⟩:=k7;obtain⟨z13,g13,k13⟩:=hd 13 _ rfl rfl;obtain⟨t6,y6,rfl,k7',k8⟩:=k13;simp only[go_sem,zE,zB,zA,zM,zS,zL,reduceCtorEq,yQ5,had,f3,f5,f8,f9,g7,g13,fits];exact kk (hK _ _ rfl (λh=>absurd h (by decide)) ⟨_,_,_,_,rfl,k5,k6,k7',k8⟩) rfl
    ·intro listed ad fr K hz hfl had hF hd hK hS2;obtain⟨f3,f5,f8,f9⟩:=hF;simp only[go_sem,zE,zB,zA,zM,zS,zL,reduceCtorEq,yQ5,had,f3,f5,f8,f9];exact kk (hK _ _ rfl (λh=>absurd h (by decide)) rfl) rfl
    ·intro listed ad fr K hz hfl had hF hd hK hS2;obtain⟨f3,f5,f8,f9⟩:=hF;obtain⟨_,g15,rfl⟩:=hd 15 _ rfl rfl;simp only[go_sem,zE,zB,zA,zM,zS,zL,reduceCtorEq,yQ5,had,f3,f5,f8,f9,g15,fits];exact kk (hK _ _ rfl (λh=>absurd h (by decide)) rfl) rfl
    ·intro listed ad fr K hz hfl had hF hd hK hS2;obtain⟨f3,f5,f8,f9⟩:=hF;obtain⟨_,g16,rfl⟩:=hd 16 _ rfl rfl;simp only[go_sem,zE,zB,zA,zM,zS,zL,reduceCtorEq,yQ5,had,f3,f5,f8,f9,g16];refine (hcopy _).mono ?_;rintro r _ ⟨hr,rfl⟩;exact kk (hK _ _ rfl (λh=>absurd h (by decide)) hr.1) rfl
    ·intro listed ad fr K hz hfl had hF hd hK hS2;obtain⟨f3,f5,f8,f9⟩:=hF;simp only[go_sem,zE,zB,zA,zM,zS,zL,reduceCtorEq,yQ5,had,f3,f5,f8,f9];exact kk (hK _ _ rfl (λh=>absurd h (by decide)) rfl) rfl
    ·intro listed ad fr K hz hfl had hF hd hK hS2;obtain⟨f3,f5,f8,f9⟩:=hF;obtain⟨_,g1,rfl⟩:=hd 1 _ rfl rfl;obtain⟨z14,g14,k14⟩:=hd 14 _ rfl rfl;obtain⟨t5,y5,t6,y6,rfl,k5,k6,k7',k8⟩:=k14;obtain⟨z17,g17,k17⟩:=hd 17 _ rfl rfl;obtain⟨_,g18,rfl⟩:=hd 18 _ rfl rfl;replace k17:IsFm mn z17:=k17;obtain⟨o2,n2,t2,x2,t3,x3,rfl⟩:=k17.agg;simp only[go_sem,zE,zB,zA,zM,zS,zL,reduceCtorEq,yQ5,had,f3,f5,f8,f9,g1,g14,g17,g18,fits];exact kk (hK _ _ rfl (λh=>absurd h (by decide)) (by simp only[IsTr];exact⟨_,_,_,_,_,_,_,_,_,_,_,_,_,_,_,_,rfl,hru,k5,k6,k7',k8,k17,⟨_,_,rfl,.inl rfl,rfl⟩,htg,hzs⟩)) rfl
    ·intro listed ad fr K hz hfl had hF hd hK hS2;obtain⟨f3,f5,f8,f9⟩:=hF;obtain⟨z19,g19,k19⟩:=hd 19 _ rfl rfl;obtain⟨rule9,tl9,xl9,tr9,xr9,op9,fn9,ta9,xa9,tb9,xb9,v9,un9,tu9,xu9,n9,ts9,xs9,rfl⟩:=yXf k19;simp only[go_sem,zE,zB,zA,zM,zS,zL,reduceCtorEq,yQ5,had,f3,f5,f8,f9,g19,fits,trZ];exact kk (hS2 _ rfl rfl ⟨_,k19,rfl⟩ (λ_=>wYm rfl)) rfl
    ·exact trivial
   ·rintro fr ⟨l,hl,h8⟩ hall;obtain⟨rule9,tl9,xl9,tr9,xr9,op9,fn9,ta9,xa9,tb9,xb9,v9,un9,tu9,xu9,n9,ts9,xs9,he9⟩:=yXf hl;obtain rfl:=IV.agg.inj he9;simp only[go_sem,zE,zB,zA,zM,zS,zL,reduceCtorEq,h8];refine yQc (λc o hc=>?_) ⟨by rw[hgo,zW3];exact hl,rfl⟩;rw[hS];exact (vY2 (λh h'=>by rw[h',hLn h] at hc;cases hc) (λh h'=>by rw[h',hRn h] at hc;cases hc)).trans (hsubN c o hc)
mutual
noncomputable def zUu:Tr->Tr
 | .mk rule s m _ _ sub=>xXe rule s m (yWj sub)
noncomputable def yWj:List Tr->List Tr
 | []=>[]
 | a::l=>zUu a::yWj l
end
theorem zQv:∀l:List Tr,(yWj l).length=l.length
 | []=>rfl
 | a::l=>by simp only[yWj,List.length_cons,zQv l]
theorem zW2:∀l m:List Tr,yWj (l++m)=yWj l++yWj m
 | [],m=>rfl
 | a::l,m=>by simp only[List.cons_append,yWj,zW2 l m]
theorem zJd {P:Tr->Prop}{fin:Sq->Tr}(hf:∀q,P (fin q)):∀ {al:List Sq} {ss:List Tr} {q:Sq},(∀s∈ss,P s)->P (yYs fin al ss q)
 | al,[],q,_=>by rw[zW3];exact hf q
 | [],s::_,q,h=>h s (by simp)
 | a::al,s::ss,q,h=>by
  rw[yYs];split
  ·exact h s (by simp)
  ·exact zJd hf λx hx=>h x (by simp[hx])
mutual
theorem wKg:∀ {t:Tr},okT t=true->(zUu t).sq.l.length+(zUu t).sq.r.length<=300
 | .mk rule s m u n sub,h=>by
  simp only[okT,bAt] at h;have hb:=(yJb h.1).1;rw[zUu,xXe];refine zJd (P:=λt=>t.sq.l.length+t.sq.r.length<=300) (λq=>?_) (zJc h.2);have h1:=(yG1 (need:=q.l) (l:=s.l) (r:=[])).2;have h2:=(yG1 (need:=q.r) (l:=s.r) (r:=[])).2;have h3:=yZb s.l;have h4:=yZb s.r;have h5:=yZt s.l;have h6:=yZt s.r;simp only[List.length_nil] at h1 h2;show (yJq s.l q.l).length+(yJq s.r q.r).length<=300;unfold yJq;omega
theorem zJc:∀ {l:List Tr},okTs l=true->∀a∈yWj l,a.sq.l.length+a.sq.r.length<=300
 | [],_,a,h=>by simp only[yWj] at h;cases h
 | b::l,h,a,ha=>by
  simp only[okTs,bAt] at h;simp only[yWj,List.mem_cons] at ha;rcases ha with rfl|ha
  ·exact wKg h.1
  ·exact zJc h.2 a ha
end
def wWm (t:Tr):Prop:=∀(x:IV) (_:IsTr t x) (_:t.steps<=100) (_:okT t=true) (st:ISt) (m:Nat) (es:List (Value×IV)) (_:st m=some (.map (.int .u8) es)) (_:zYi es),
 ICall prog gl 56 [x,.agg [],.fn (.func 49) [.agg [.raw (.map (some m))]] [],.fn (.func 57) [.agg [.raw (.map (some m))]] []] st
  (λr st'=>IsTr (zUu t) r/\st'=st)
theorem xYb (G:Gl gl)(T:Gt gl)(rule:Nat)(s:Sq)(mn:Fm)(u:Tm)(nm:ByteArray)(sub:List Tr)(IH:∀a∈sub,wWm gl a):wWm gl (.mk rule s mn u nm sub):=by
 intro x hx hst hw st m es hm hl;obtain⟨tl,xl,tr,xr,op,fn,ta,xa,tb,xb,v,un,tu,xu,ts,xs,rfl,hru,e1,i1,e2,i2,hy,hz,e3,i3⟩:=hx.mk;refine ICall.intro (c:=cf prog gl [23] []) func56 rfl (by show _<=48;simp) (by kernel_rfl) ?_;simp only[go_sem,zE,zB,zA,zM,zS,zL,reduceCtorEq,fits];refine (wJz gl _ m rfl _ _ hx (by show sub.length<=_;simp only[Tr.steps] at hst;have:=yXn sub;omega) _).mono ?_;rintro _ st ⟨ts',xs',rfl,e3',i3',rfl⟩;have hln:=i3'.len;have hls:sub.length<=100:=by rw[Tr.steps] at hst;have:=yXn sub;omega
 change xs'.length=sub.length at hln;simp only[go_sem,zE,zB,zA,zM,zS,zL,reduceCtorEq,fits];intro _;refine yQy ⟨by omega,by omega,by omega⟩ λg=>yQb λhg=>?_;have hgm:g≠m:=λh=>by rw[h,hm] at hg;cases hg
 intro _;refine LoopC.ctr sub.length (λk fr st' ds=>(∃cs zs,st'=st.put g (some (.box cs))/\cs.length=sub.length*12/\cs.take (k*12)=zs.flatMap IV.cells/\IsTrs (yWj (sub.take k)) zs) /\
  fr 2=.iv (.fn (.func 49) [.agg [.raw (.map (some m))]] [])/\fr 3=.iv (.fn (.func 57) [.agg [.raw (.map (some m))]] [])/\fr 4=.box [.raw (.int .u8 rule),.sl tl xl,.sl tr xr,.raw (.int .u8 op),.raw (.string fn),.sl ta xa,.sl tb xb,.raw (.bool v),.raw (.string un),.sl tu xu,.raw (.string nm),.sl ts xs]/\fr 5=.box []/\fr 8=.box trZ /\
  fr 10=.iv (.sl ⟨false,.none,0⟩ (List.replicate sub.length (.agg [])))/\fr 11=.iv (.raw (.slice (some ⟨g,0,none⟩) sub.length sub.length))/\fr 24=.iv (.sl ts' xs')/\fr 25=.iv (.raw (.int .i64 sub.length))/\fr 26=.iv (.raw (.int .i64 k))/\ds=[]) ?_ ?_ ?_
 ·simp only[go_sem,zE,zB,zA,zM,zS,zL,reduceCtorEq,hln];exact⟨⟨_,[],rfl,by simp,rfl,rfl⟩,rfl,rfl,rfl⟩
 ·rintro k fr _ _ hlt ⟨⟨cs,zs,rfl,hcl,hct,hzs⟩,f2,f3,f4,f5,f8,f10,f11,f24,f25,f26,rfl⟩;obtain⟨a,ha⟩:=yQ4 hlt;obtain⟨z,hkz,hz⟩:=i3'.get ha;have ham:=lMg ha;have hsta:=zQ1 ham;simp only[Tr.steps] at hst;simp only[okT,bAt] at hw;have hcall:=λst1 hm=>IH a ham z hz (by omega) (zGi hw.2 ham) st1 m es hm hl;have hrep:(List.replicate sub.length (IV.agg []))[k]?=some (.agg []):=by rw[List.getElem?_replicate,if_pos hlt]
  obtain⟨rule',tl',xl',tr',xr',op',fn',ta',xa',tb',xb',v',un',tu',xu',n',ts2,xs2,rfl⟩:=yXf hz;simp only[go_sem,zE,zB,zA,zM,zS,zL,reduceCtorEq,f2,f3,f4,f5,f8,f10,f11,f24,f25,f26,lt_i hlt,yQ2 e3',iNn,hkz,fits,hrep];refine (hcall _ (by rw[yQa hgm.symm];exact hm)).mono ?_;rintro r _ ⟨hr,rfl⟩;have hr0:=hr;obtain⟨rule9,tl9,xl9,tr9,xr9,op9,fn9,ta9,xa9,tb9,xb9,v9,un9,tu9,xu9,n9,ts9,xs9,rfl⟩:=yXf hr;simp only[go_sem,zE,zB,zA,zM,zS,zL,reduceCtorEq,f2,f3,f4,f5,f8,f10,f11,f24,f25,f26,fits,ISt.put_same,yQ8,yQf hlt (show sub.length<=281474976710656 by omega)];have hkn:k*12+12<=sub.length*12:=by omega
  obtain⟨q1,q2⟩:=yUd (new:=[IV.raw (.int .u8 rule9),.sl tl9 xl9,.sl tr9 xr9,.raw (.int .u8 op9),.raw (.string fn9),.sl ta9 xa9,.sl tb9 xb9,.raw (.bool v9),.raw (.string un9),.sl tu9 xu9,.raw (.string n9),.sl ts9 xs9]) hcl hlt rfl;rw[if_pos ⟨by omega,hlt⟩,if_pos (by omega)];refine⟨_,zs++[.agg [.raw (.int .u8 rule9),.sl tl9 xl9,.sl tr9 xr9,.raw (.int .u8 op9),.raw (.string fn9),.sl ta9 xa9,.sl tb9 xb9,.raw (.bool v9),.raw (.string un9),.sl tu9 xu9,.raw (.string n9),.sl ts9 xs9]],rfl,q1,?_,?_⟩
  ·rw[q2,hct,List.flatMap_append,List.flatMap_singleton];rfl
  ·rw[yQ7 ha,zW2];exact hzs.append ⟨_,_,rfl,hr0,rfl⟩
 ·rintro fr _ _ ⟨⟨cs,zs,rfl,hcl,hct,hzs⟩,f2,f3,f4,f5,f8,f10,f11,f24,f25,f26,rfl⟩;rw[lTl] at hzs;have hzl:zs.length=sub.length:=by rw[hzs.len,zQv]
  simp only[go_sem,zE,zB,zA,zM,zS,zL,reduceCtorEq,f2,f3,f4,f5,f8,f10,f11,f24,f25,f26,yQo (nLi _)];refine ICall.frzSl (pre:=[_,_,_]) (es:=12) (zs:=zs) (ISt.put_same ..) hzl (Nat.le_refl _) (by omega) (zJe hzs) hct (by omega) ?_;rw[xQo hg];have hok:=hw;simp only[okT,bAt] at hw;obtain⟨hb1,hb2,_,_⟩:=yJb hw.1;have hsm:=zG5 mn;have hs3:=yZt s.l;have hs4:=yZt s.r;refine (vJ8 gl G T _ m rfl rule s mn u nm sub _ hx (yWj sub) _ _ (.inr rfl) (zYq hzs) (by omega) (by omega) (by omega) (λa ha=>Nat.le_trans (zJc hw.2 a ha) (by decide)) (by rw[zQv];omega) _ es hm hl).mono ?_;rintro r _ ⟨hr,rfl⟩;have hr0:=hr;obtain⟨rule9,tl9,xl9,tr9,xr9,op9,fn9,ta9,xa9,tb9,xb9,v9,un9,tu9,xu9,n9,ts9,xs9,rfl⟩:=yXf hr;simp only[go_sem,zE,zB,zA,zM,zS,zL,reduceCtorEq,f8,trZ,fits];exact yQ0 ⟨by simpa only[zUu] using hr0,rfl⟩
theorem zUk (G:Gl gl)(T:Gt gl):∀(k:Nat) (t:Tr),SizeOf.sizeOf t<k->wWm gl t
 | 0,_,h=>absurd h (by omega)
 | k+1,.mk rule s mn u nm sub,h=>xYb gl G T rule s mn u nm sub λa ha=>zUk G T k a (by have:=lSm ha;simp only[Tr.mk.sizeOf_spec] at h;omega)
theorem wGj (G:Gl gl)(T:Gt gl)(t:Tr):wWm gl t:=zUk gl G T _ t (Nat.lt_succ_self _)
noncomputable def zVz (t:Tr):Tr×Nat:=if (yXl 1 t).2≠0 then (tr0,231) else (zUu t,0)
theorem wGe (G:Gl gl)(T:Gt gl)(t:Tr)(x:IV)(hx:IsTr t x)(hok:okT t=true)(hst:t.steps<=100)(st:ISt) :
  ICall prog gl 20 [x] st (λr st'=>(∃z,r=.tup [z,.raw (.int .i64 (zVz t).2)]/\IsTr (zVz t).1 z)/\st'=st):=by
 have hck:=λst=>wK9 gl G T 1 t x hx (wUt hok (by omega)) st;have hx0:=hx;have z0:=xUz;unfold trZ at z0;obtain⟨rule,tl,xl,tr,xr,op,fn,ta,xa,tb,xb,v,un,tu,xu,nm,ts,xs,rfl⟩:=yXf hx;have hne:∀n:Nat,((n:Int)=0)=(n=0):=λn=>propext (by omega);refine iI func20 ?_;simp only[go_sem,zE,zB,zA,zM,zS,zL,reduceCtorEq,fits];refine (hck _).mono ?_;rintro _ st ⟨⟨tg,rfl,htg⟩,rfl⟩;by_cases h0:(yXl 1 t).2=0
 ·simp only[go_sem,zE,zB,zA,zM,zS,zL,reduceCtorEq,fits,h0,decide_true,Bool.not_true,Int.natCast_zero];refine (zKa gl st).mono ?_;rintro _ _ ⟨m,es,hm,rfl,hl,rfl⟩;simp only[go_sem,zE,zB,zA,zM,zS,zL,reduceCtorEq,fits];refine (wGj gl G T t _ hx0 hst hok _ m es (ISt.put_same ..) hl).mono ?_;rintro r _ ⟨hr,rfl⟩;have hr0:=hr;obtain⟨rule9,tl9,xl9,tr9,xr9,op9,fn9,ta9,xa9,tb9,xb9,v9,un9,tu9,xu9,n9,ts9,xs9,rfl⟩:=yXf hr;simp only[go_sem,zE,zB,zA,zM,zS,zL,reduceCtorEq,fits];have he:zVz t=(zUu t,0):=by rw[zVz,if_neg (by rw[h0];decide)]
  exact yQc (yQg hm) ⟨⟨_,by rw[he];rfl,by rw[he];exact hr0⟩,rfl⟩
 ·simp only[go_sem,zE,zB,zA,zM,zS,zL,reduceCtorEq,fits,hne,h0,decide_false,Bool.not_false];have he:zVz t=(tr0,231):=by rw[zVz,if_pos h0]
  exact yQ0 ⟨⟨_,by rw[he];rfl,by rw[he];exact z0⟩,rfl⟩
end Go.Proofs.Tryz
namespace Go.Proofs.Tryz
open Go Go.Iv
set_option maxRecDepth 8000
variable (gl:Nat->Option IV)
theorem ord3 (x y z:Operand):yKg 3 [(0,x),(1,y),(2,z)]=true:=rfl
theorem ord4 (x y z w:Operand):yKg 4 [(0,x),(1,y),(2,z),(3,w)]=true:=rfl
theorem xKn {ca:Nat}{s:Sq}{rule:Nat}{main:Fm}{term:Tm}{name:ByteArray}{r:Rw}{ad:List Sq}(h1:yXs ca s=true)(h2:rowS ca rule=some r)(h3:yJw ca rule r main term name=(ad,0))
  (h4:r.left=true->hasF s.l main=true) (h5:r.right=true->hasF s.r main=true) (h6:r.asks≠2):yKb ca s rule main term name=(ad,0):=by
 unfold yKb;rw[h1,h2];simp only[Bool.not_true,bFt,if_false,h3];obtain⟨rl,rr,op,asks⟩:=r;simp only at h4 h5 h6 ⊢;have e1:(rl&&!hasF s.l main)=false:=by
  cases rl
  ·rfl
  ·rw[h4 rfl];rfl
 have e2:(rr&&!hasF s.r main)=false:=by
  cases rr
  ·rfl
  ·rw[h5 rfl];rfl
 rw[e1,e2,dEf h6];rfl
theorem xHas {l:List Fm}{f:Fm}(h:f∈l)(hr:f.right=true):hasF l f=true:=yGf.2 ⟨f,h,zJ0 hr⟩
theorem wY0 {s:Sq}(h:(decide (s.l.length<=64)&&decide (s.r.length<=64)&&s.l.all (fmB 1)&&s.r.all (fmB 1))=true):yXs 1 s=true:=by
 unfold yXs;rw[show yVt 1=true from rfl,Bool.true_and,h];rfl
theorem xAll {l m:List Fm}(h:∀f∈l,f∈m/\f.right=true):allF l m=true:=List.all_eq_true.2 λf hf=>xHas (h f hf).1 (h f hf).2
theorem zUh {ca rule:Nat}{s:Sq}{main:Fm}{term:Tm}{name:ByteArray}{sub:List Tr}{ad:List Sq}(h:yKb ca s rule main term name=(ad,0))(hl:sub.length=ad.length)(hp:yJ0 s ad sub=true):yXv ca (.mk rule s main term name sub)=0:=by
 simp only[yXv];rw[h];simp only[ne_eq,nTf,if_false,hl,hp,if_true]
theorem vJq:yKb 1 ⟨[xmR,xmA],[xmR]⟩ 5 xmA xmT ⟨#[]⟩=([⟨[xmP,xmQ],[]⟩],0):=xKn (r:=⟨true,false,4,0⟩) (wY0 (by decide)) rfl (by rfl) (λ_=>xHas (by simp) (by decide)) (λh=>by cases h) (by decide)
theorem vJp:yKb 1 ⟨[xmP,xmQ,xmR,xmA],[xmR]⟩ 1 xmR xmT ⟨#[]⟩=([],0):=xKn (r:=⟨true,true,0,0⟩) (wY0 (by decide)) rfl (by rfl) (λ_=>xHas (by simp) (by decide)) (λ_=>xHas (by simp) (by decide)) (by decide)
theorem xUg:yXl 1 xmX=([],0):=by
 have h1:yXv 1 xmX=0:=zUh vJq rfl (by
  have a1:allF [xmP,xmQ,xmR,xmA] [xmR,xmA,xmP,xmQ]=true:=xAll λf hf=>by
   simp only[List.mem_cons,List.not_mem_nil,or_false] at hf;rcases hf with rfl|rfl|rfl|rfl<;>exact⟨by simp,by decide⟩
  have a2:allF [xmR] [xmR]=true:=xAll λf hf=>by
   simp only[List.mem_cons,List.not_mem_nil,or_false] at hf;subst hf;exact⟨by simp,by decide⟩
  simp only[yJ0,Tr.sq,Sq.plus,yXx,List.append_nil,List.cons_append,List.nil_append,a1,a2,Bool.and_self])
 have h2:yXv 1 (.mk 1 ⟨[xmP,xmQ,xmR,xmA],[xmR]⟩ xmR xmT ⟨#[]⟩ [])=0:=zUh vJp rfl rfl;unfold yXl;rw[show xmX.walk []=[([],xmX),([0],.mk 1 ⟨[xmP,xmQ,xmR,xmA],[xmR]⟩ xmR xmT ⟨#[]⟩ [])] from rfl];simp only[yZl,h1,h2,if_true];rfl
theorem wY8:yXw xmS (n1 false)=(xmW,0):=by
 rw[yXw,if_neg (by rw[zUg];decide),if_neg (by rw[xUi];decide),xKm]
theorem vKe:yV9 xmW=(n1 true,0):=by
 rw[yV9,if_neg (by rw[zUf,wKc];decide),if_neg (by decide),wKb]
theorem vJa:zVz xmW=(xmV,0):=by
 rw[zVz,if_neg (by rw[zUf];decide)];rfl
theorem vJ9:zVz xmX=(xmY,0):=by
 rw[zVz,if_neg (by rw[xUg];decide)];rfl
theorem vQl:xX6 (n1 false) (yQk xmS):=by
 simp only[n1,n2,n3,xX6,GrowsL,xUj];exact⟨trivial,rfl,by decide,⟨rfl,rfl,by decide,⟨rfl,rfl,rfl⟩,trivial⟩,trivial⟩
def tagJ:List Tr->Tag
 | []=>⟨true,.nil,0⟩
 | _::_=>⟨true,.full,12⟩
theorem wU1 (l:List Tr):okEs (tagJ l) 12:=by cases l<;>simp[tagJ,okEs]
mutual
def trJ:Tr->IV
 | .mk rule s (.mk o fn us fs) (.mk v un ts) n sub=>.agg [.raw (.int .u8 rule),.sl (tagF s.l) (fmsI s.l),.sl (tagF s.r) (fmsI s.r),.raw (.int .u8 o),.raw (.string fn),.sl (tagT us) (tmsI us),.sl (tagF fs) (fmsI fs),.raw (.bool v),.raw (.string un),.sl (tagT ts) (tmsI ts),.raw (.string n),.sl (tagJ sub) (trsJ sub)]
def trsJ:List Tr->List IV
 | []=>[]
 | a::l=>trJ a::trsJ l
end
mutual
def bytJ:Tr->Bool
 | .mk rule s f _ _ sub=>decide (rule<256)&&zX3 s.l&&zX3 s.r&&wVd f&&wWd sub
def wWd:List Tr->Bool
 | []=>true
 | a::l=>bytJ a&&wWd l
end
mutual
theorem zUv:∀t:Tr,bytJ t=true->IsTr t (trJ t)
 | .mk rule s (.mk o fn us fs) (.mk v un ts) n sub,h=>by
  simp only[bytJ,bAt,dTe] at h;obtain⟨⟨⟨⟨h1,h2⟩,h3⟩,h4⟩,h5⟩:=h;have hf:=wG6 (.mk o fn us fs) h4;have ht:=wY9 (.mk v un ts);simp only[fmI] at hf;simp only[tmI] at ht;simp only[IsTr];exact⟨tagF s.l,fmsI s.l,tagF s.r,fmsI s.r,o,fn,tagT us,tmsI us,tagF fs,fmsI fs,v,un,tagT ts,tmsI ts,tagJ sub,trsJ sub,by simp only[trJ],h1,zJl _,zZh _ h2,zJl _,zZh _ h3,hf,ht,wU1 _,xUw sub h5⟩
theorem xUw:∀l:List Tr,wWd l=true->IsTrs l (trsJ l)
 | [],_=>rfl
 | a::l,h=>by
  simp only[wWd,bAt] at h;exact⟨_,_,by simp only[trsJ],zUv a h.1,xUw l h.2⟩
end
def sqI (s:Sq):IV:=.agg [.sl (tagF s.l) (fmsI s.l),.sl (tagF s.r) (fmsI s.r)]
theorem wYc (s:Sq)(h:(zX3 s.l&&zX3 s.r)=true):IsSq s (sqI s):=by
 rw[bAt] at h;exact⟨_,_,_,_,rfl,zJl _,zZh _ h.1,zJl _,zZh _ h.2⟩
theorem wQ9 {s:Sq}{x:IV}(h:IsSq s x):IsSq s (age x):=by
 obtain⟨t1,x1,t2,x2,rfl,e1,i1,e2,i2⟩:=h;simp only[age,ages];exact⟨_,_,_,_,rfl,yJz e1,i1.aged,yJz e2,i2.aged⟩
theorem wKz (G:Gl gl)(T:Gt gl)(hgl:∀g x,gl g=some x->age x=x)(st:ISt)(h0:∀b,st b=none):ICall prog gl 9 [] st (λr st'=>r=.raw (.bool true)/\st'=st):=by
 have hfl:zXa st:=λb o hb=>by rw[h0] at hb;cases hb
 have hrw:xG0 st:=λb cs hb=>by rw[h0] at hb;cases hb
 have hB:=ICall.own (K:=λr=>∃z,r=.tup [z,.raw (.int .i64 0)]/\IsNd (n1 false) z) (args:=[.raw (.int .u8 1),sqI xmS]) hfl hgl ((vZq gl G xmS (age (sqI xmS)) (wQ9 (wYc xmS (by decide))) (by decide) xUh (n1 false) (by decide) vQl st).mono λr st' ⟨⟨z,h1,h2,h3⟩,h4⟩=>⟨h4,by rw[h1];exact⟨h3,trivial,trivial⟩,z,h1,h2⟩);refine ICall.intro (c:=cf prog gl [] [(7,[0,1,2,3,4,5,6,9,10,11,13,14,15,16,24,7,8,12,17,18,19,20,21,22,23,25]),(10,[0,1,2,3,4,5,8,9,10,12,13,21,6,7,11,14,15,16,17,18,19,20,22]),(13,[0,1,2,3,5,6,9,10,11,12,13,14,16,17,27,4,7,8,15,18,19,20,21,22,23,24,25,26,28,29]),(14,[0,1,2,3,4,5,6,7,8,9,10,11,12,13,14,15,16,17,18,19,20,21,22,23,24,25,26,28,29,27,30,31,32,33,34,35,36,37,38,39,40])]) func9 rfl (by show _<=199;simp) (by kernel_rfl) ?_;simp only[go_sem,zE,zB,zA,zM,zS,zL,reduceCtorEq,fits,yQx]
 repeat (first
  | (refine (s_p gl _ _).mono ?_;rintro _ st ⟨rfl,rfl⟩;simp only[go_sem,zE,zB,zA,zM,zS,zL,reduceCtorEq,fits,yQ1,yQd,ord3,ord4,yQx,decide_true,fits])
  | (refine (s_of gl _ _ _ _).mono ?_;rintro _ st ⟨rfl,rfl⟩;simp only[go_sem,zE,zB,zA,zM,zS,zL,reduceCtorEq,fits,yQ1,yQd,ord3,ord4,yQx,decide_true,fits])
  | (refine (s_fs gl _ _ _).mono ?_;rintro _ st ⟨rfl,rfl⟩;simp only[go_sem,zE,zB,zA,zM,zS,zL,reduceCtorEq,fits,yQ1,yQd,ord3,ord4,yQx,decide_true,fits])
  | (refine (s_sq gl _ _ _ _ _).mono ?_;rintro _ st ⟨rfl,rfl⟩;simp only[go_sem,zE,zB,zA,zM,zS,zL,reduceCtorEq,fits,yQ1,yQd,ord3,ord4,yQx,decide_true,fits])
  | (refine (xVg gl _ _ _ _ _ _ _ _ _ _ _ _ _ _).mono ?_;rintro _ st ⟨rfl,rfl⟩;simp only[go_sem,zE,zB,zA,zM,zS,zL,reduceCtorEq,fits,yQ1,yQd,ord3,ord4,yQx,decide_true,fits]))
 refine hB.mono ?_;rintro _ st1 ⟨_,hfl1,hrw1,_,⟨z,rfl,hz⟩,hO,hY⟩;obtain⟨y,rfl,hOy,hYy⟩:=wUo hO hY;obtain⟨o,n,v4,v5,g1,c1,o2,m2,w4,w5,q1,g2,c2,o3,m3,u4,u5,u8,q2,rfl,ho4,ho5,hc1,hc2,hN1,hN2,z',hz',hO'⟩:=vQr (hrw1 hrw) hz hOy hYy;have ho8:(IV.raw (Value.slice (some ⟨g1,0,none⟩) 1 c1)).one=true:=rfl;have hTr:=ICall.lentFix (K:=λr=>∃y,r=.tup [y,.raw (.int .i64 0)]/\IsTr xmW y) (args:=[sqI xmS,.agg [.raw (.bool false),.raw (.int .i64 0),.raw (.int .u8 o),.raw (.string n),.raw v4,.raw v5,.raw (.bool false),.raw (.int .i64 0),.raw (.slice (some ⟨g1,0,none⟩) 1 c1)]]) (args':=[sqI xmS,age z]) hfl1 hgl ⟨_,_,rfl,.inl rfl,_,_,rfl,.inr ⟨z,hOy,rfl⟩,rfl⟩
  ((zVe gl G xmS (age (sqI xmS)) (wQ9 (wYc xmS (by decide))) (by decide) (n1 false) (age (age z)) hz.aged.aged (by decide) (yWd st1)).mono λr st' ⟨⟨y,h1,h2,h3⟩,h4⟩=>⟨h4,by rw[h1];exact⟨h3,trivial,trivial⟩,age y,by rw[h1,wY8];rfl,by rw[wY8] at h2;exact xUy h2⟩)
 simp only[go_sem,zE,zB,zA,zM,zS,zL,reduceCtorEq,fits,ho4,ho5,ho8];refine hTr.mono ?_;rintro _ st ⟨rfl,y,rfl,hy⟩;have hNo:=λst=>vY7 gl G T xmW y hy (by decide) (by decide) st;have hUs:=λst=>wGe gl G T xmW y hy (by decide) (by decide) st;have hSa:=λw hw st=>zZv gl xmW y w hy hw (by decide) st;rw[vKe] at hNo;rw[vJa] at hUs;obtain⟨rule',tl',xl',tr1',xr',op',fn',ta',xa',tb',xb',v',un',tu',xu',n',ts2,xs2,rfl⟩:=yXf hy;simp only[go_sem,zE,zB,zA,zM,zS,zL,reduceCtorEq,fits,yQ1,yQd,ord3,ord4,yQx,decide_true]
 repeat (first
  | (refine (s_p gl _ _).mono ?_;rintro _ st ⟨rfl,rfl⟩;simp only[go_sem,zE,zB,zA,zM,zS,zL,reduceCtorEq,fits,yQ1,yQd,ord3,ord4,yQx,decide_true,fits])
  | (refine (s_of gl _ _ _ _).mono ?_;rintro _ st ⟨rfl,rfl⟩;simp only[go_sem,zE,zB,zA,zM,zS,zL,reduceCtorEq,fits,yQ1,yQd,ord3,ord4,yQx,decide_true,fits])
  | (refine (s_fs gl _ _ _).mono ?_;rintro _ st ⟨rfl,rfl⟩;simp only[go_sem,zE,zB,zA,zM,zS,zL,reduceCtorEq,fits,yQ1,yQd,ord3,ord4,yQx,decide_true,fits])
  | (refine (s_sq gl _ _ _ _ _).mono ?_;rintro _ st ⟨rfl,rfl⟩;simp only[go_sem,zE,zB,zA,zM,zS,zL,reduceCtorEq,fits,yQ1,yQd,ord3,ord4,yQx,decide_true,fits])
  | (refine (xVg gl _ _ _ _ _ _ _ _ _ _ _ _ _ _).mono ?_;rintro _ st ⟨rfl,rfl⟩;simp only[go_sem,zE,zB,zA,zM,zS,zL,reduceCtorEq,fits,yQ1,yQd,ord3,ord4,yQx,decide_true,fits]))
 refine (hNo _).mono ?_;rintro _ st ⟨⟨m,rfl,hm⟩,rfl⟩;have hSm:=λw hw st=>zYh gl (n1 true) m w hm hw (by decide) st;obtain⟨v1,w1,o1,k1,t1,y1,t2,y2,a1,w2,t3,y3,rfl⟩:=yXp hm;simp only[go_sem,zE,zB,zA,zM,zS,zL,reduceCtorEq,fits,yQ1,yQd,ord3,ord4,yQx,decide_true];refine (hUs _).mono ?_;rintro _ st ⟨⟨u,rfl,hu⟩,rfl⟩;have hSu:=λw hw st=>zZv gl xmV u w hu hw (by decide) st;obtain⟨rule3,tl3,xl3,tr3,xr3,op3,fn3,ta3,xa3,tb3,xb3,v3,un3,tu3,xu3,nn3,ts3,xs3,rfl⟩:=yXf hu;simp only[go_sem,zE,zB,zA,zM,zS,zL,reduceCtorEq,fits,yQ1,yQd,ord3,ord4,yQx,decide_true]
 repeat (first
  | (refine (s_p gl _ _).mono ?_;rintro _ st ⟨rfl,rfl⟩;simp only[go_sem,zE,zB,zA,zM,zS,zL,reduceCtorEq,fits,yQ1,yQd,ord3,ord4,yQx,decide_true,fits])
  | (refine (s_of gl _ _ _ _).mono ?_;rintro _ st ⟨rfl,rfl⟩;simp only[go_sem,zE,zB,zA,zM,zS,zL,reduceCtorEq,fits,yQ1,yQd,ord3,ord4,yQx,decide_true,fits])
  | (refine (s_fs gl _ _ _).mono ?_;rintro _ st ⟨rfl,rfl⟩;simp only[go_sem,zE,zB,zA,zM,zS,zL,reduceCtorEq,fits,yQ1,yQd,ord3,ord4,yQx,decide_true,fits])
  | (refine (s_sq gl _ _ _ _ _).mono ?_;rintro _ st ⟨rfl,rfl⟩;simp only[go_sem,zE,zB,zA,zM,zS,zL,reduceCtorEq,fits,yQ1,yQd,ord3,ord4,yQx,decide_true,fits])
  | (refine (xVg gl _ _ _ _ _ _ _ _ _ _ _ _ _ _).mono ?_;rintro _ st ⟨rfl,rfl⟩;simp only[go_sem,zE,zB,zA,zM,zS,zL,reduceCtorEq,fits,yQ1,yQd,ord3,ord4,yQx,decide_true,fits]))
 have hUx:=λst=>wGe gl G T xmX (trJ xmX) (zUv xmX (by decide)) (by decide) (by decide) st;rw[vJ9] at hUx;refine (hUx _).mono ?_;rintro _ st ⟨⟨xx,rfl,hxx⟩,rfl⟩;have hSx:=λw hw st=>zZv gl xmY xx w hxx hw (by decide) st;obtain⟨rule4,tl4,xl4,tr4,xr4,op4,fn4,ta4,xa4,tb4,xb4,v4',un4,tu4,xu4,nn4,ts4,xs4,rfl⟩:=yXf hxx;have hz1:IntKind.i64.wrap ((0:Int)+((0:Nat):Int))=0:=rfl;have hz2:IntKind.i64.wrap (((0:Nat):Int)+((0:Nat):Int))=0:=rfl;have hz3:IntKind.i64.wrap ((0:Int)+(0:Int))=0:=rfl;simp only[go_sem,zE,zB,zA,zM,zS,zL,reduceCtorEq,fits,yQ1,yQd,ord3,ord4,yQx,decide_true,hz1,hz2,hz3];refine (hSa (trJ xmW) (zUv xmW (by decide)) _).mono ?_;rintro _ st ⟨rfl,rfl⟩;simp only[go_sem,zE,zB,zA,zM,zS,zL,reduceCtorEq,fits,yQ1,yQd,ord3,ord4,yQx,decide_true,hz1,hz2,hz3];refine (hSu (trJ xmV) (zUv xmV (by decide)) _).mono ?_;rintro _ st ⟨rfl,rfl⟩;simp only[go_sem,zE,zB,zA,zM,zS,zL,reduceCtorEq,fits,yQ1,yQd,ord3,ord4,yQx,decide_true,hz1,hz2,hz3]
 repeat (first
  | (refine (s_p gl _ _).mono ?_;rintro _ st ⟨rfl,rfl⟩;simp only[go_sem,zE,zB,zA,zM,zS,zL,reduceCtorEq,fits,yQ1,yQd,ord3,ord4,yQx,decide_true,fits])
  | (refine (s_of gl _ _ _ _).mono ?_;rintro _ st ⟨rfl,rfl⟩;simp only[go_sem,zE,zB,zA,zM,zS,zL,reduceCtorEq,fits,yQ1,yQd,ord3,ord4,yQx,decide_true,fits])
  | (refine (s_fs gl _ _ _).mono ?_;rintro _ st ⟨rfl,rfl⟩;simp only[go_sem,zE,zB,zA,zM,zS,zL,reduceCtorEq,fits,yQ1,yQd,ord3,ord4,yQx,decide_true,fits])
  | (refine (s_sq gl _ _ _ _ _).mono ?_;rintro _ st ⟨rfl,rfl⟩;simp only[go_sem,zE,zB,zA,zM,zS,zL,reduceCtorEq,fits,yQ1,yQd,ord3,ord4,yQx,decide_true,fits])
  | (refine (xVg gl _ _ _ _ _ _ _ _ _ _ _ _ _ _).mono ?_;rintro _ st ⟨rfl,rfl⟩;simp only[go_sem,zE,zB,zA,zM,zS,zL,reduceCtorEq,fits,yQ1,yQd,ord3,ord4,yQx,decide_true,fits]))
 refine (hSx (trJ xmY) (zUv xmY (by decide)) _).mono ?_;rintro _ st ⟨rfl,rfl⟩;simp only[go_sem,zE,zB,zA,zM,zS,zL,reduceCtorEq,fits,yQ1,yQd,ord3,ord4,yQx,decide_true,hz1,hz2,hz3];have hBr:=ICall.borrow (st:=st) (args:=[.agg [.raw (.bool false),.raw (.int .i64 0),.raw (.int .u8 o),.raw (.string n),.raw v4,.raw v5,.raw (.bool false),.raw (.int .i64 0),.raw (.slice (some ⟨g1,0,none⟩) 1 c1)]]) (K:=λr=>r=.raw (.int .i64 (1:Nat))) hfl1 ⟨_,_,rfl,.inr ⟨z,hOy,rfl⟩,rfl⟩
  ((xUf gl (n1 false) (age z) hz.aged (by decide) (yWd st)).mono λr st' ⟨h1,h2⟩=>⟨h2,by rw[h1];trivial,h1⟩)
 refine hBr.mono ?_;rintro _ st ⟨rfl,rfl⟩;have d1:decide (((1:Nat):Int)=1)=true:=rfl;have d0:(0:Int).toNat=0:=rfl;have hst2:zXa (st.put g2 (some (.box (.raw (.bool true)::.raw (.int .i64 0)::.raw (.int .u8 o3)::.raw (.string m3)::.raw u4::.raw u5::.raw (.bool true)::.raw (.int .i64 0)::.raw u8::q2)))):=λb o hb=>by
  rw[ISt.put_apply] at hb;split at hb
  ·cases hb;intro x hx;rcases List.mem_cons.1 hx with rfl|hx
   ·trivial
   ·exact hfl1 g2 _ hN2 x (List.mem_cons_of_mem _ hx)
  ·exact hfl1 b o hb
 have hSN:=λ(w:IV) (hw:IsNd (n1 true) w)=>ICall.borrow (P:=prog) (gl:=gl) (f:=39) (args:=[w,.agg [.raw (.bool false),.raw (.int .i64 0),.raw (.int .u8 o),.raw (.string n),.raw v4,.raw v5,.raw (.bool false),.raw (.int .i64 0),.raw (.slice (some ⟨g1,0,none⟩) 1 c1)]]) (args':=[w,age z']) (K:=λr=>r=.raw (.bool true)) hst2 ⟨_,_,rfl,.inl rfl,_,_,rfl,.inr ⟨z',hO',rfl⟩,rfl⟩ ((zYh gl (n1 true) w (age z') hw hz'.aged (by decide) (yWd _)).mono λr st' ⟨h1,h2⟩=>⟨h2,by rw[h1];trivial,h1⟩);simp only[go_sem,zE,zB,zA,zM,zS,zL,reduceCtorEq,fits,yQ1,yQd,ord3,ord4,yQx,decide_true,d1,d0,hN1,hN2];rw[if_pos (by decide),if_pos (by decide)];refine (hSN _ hm).mono ?_;rintro _ _ ⟨rfl,rfl⟩;simp only[go_sem,zE,zB,zA,zM,zS,zL,reduceCtorEq,fits,ISt.put_same];exact yQc (λb o hb=>by rw[h0] at hb;cases hb) ⟨rfl,rfl⟩
end Go.Proofs.Tryz
namespace Go.Proofs.Tryz
open Go Go.Iv
set_option maxRecDepth 4000
variable (gl:Nat->Option IV)
theorem wW2 {l:List Mk}(h:∀m∈l,m.f.size<=300):yYp (sqT l):=⟨λf hf=>by
 obtain⟨m,hm,_,rfl⟩:=yZu.1 hf;have:=h m hm;omega,λf hf=>by
 obtain⟨m,hm,_,rfl⟩:=yZu.1 hf;have:=h m hm;omega⟩
mutual
theorem yUb:∀(n:Nd)(l:List Mk)(p:List Nat),(yZm l p n).2=0->GoodT l->(∀m∈l,m.f.size<=300)->NA (yXa l n)
 | .mk m c w sub,l,p,h,hg,hs=>by
  rw[yZm] at h;have hw0:yKo l m c w sub.length=0:=by
   split at h
   ·rename_i h';exact absurd h h'
   ·rename_i h';simpa using h'
  rw[if_neg (by rw[hw0];decide)] at h;obtain⟨hml,hcl,hfi,rfl,hsl⟩:=yKa hw0;rw[yXa,NA];have h1:=hs m hml;refine⟨wW2 hs,by omega,by decide,?_⟩;cases c
  ·simp only[bFt,if_false] at h ⊢;exact xV2 sub _ l p 0 h hg hs λq hq x hx=>⟨by
    obtain⟨h1,h2⟩:=(yW7 (hg m hml).1 (hfi rfl) 0).2.2.1 q hq x hx;exact⟨h1,h2.trans (hg m hml).2⟩,Nat.le_trans (yUl (hg m hml).1 (hfi rfl) 0 q hq x hx) h1⟩
  ·trivial
theorem xV2:∀(ns:List Nd)(qs:List (List Mk))(l:List Mk)(p:List Nat)(i:Nat),(yZs l p i qs ns).2=0->GoodT l->(∀m∈l,m.f.size<=300)->(∀q∈qs,∀x∈q,(fmB 1 x.f=true/\x.w=0)/\x.f.size<=300)->NAs (yXe l qs ns)
 | [],[],_,_,_,_,_,_,_=>trivial
 | [],_::_,_,_,_,_,_,_,_=>trivial
 | _::_,[],_,_,_,_,_,_,_=>trivial
 | n::ns,q::qs,l,p,i,h,hg,hs,hq=>by
  rw[yZs] at h;have h1:(yZm (yZ9 l q) (p++[i]) n).2=0:=by
   split at h
   ·exact h
   ·rename_i h';simpa using h'
  rw[if_neg (by rw[h1];decide)] at h;exact⟨yUb n _ _ h1 (hg.adds λx hx=>(hq q (by simp) x hx).1) λx hx=>(yJ4.1 hx).elim (hs x) λh=>(hq q (by simp) x h).2,
   xV2 ns qs l p _ h hg hs λq' hq'=>hq q' (by simp[hq'])⟩
end
theorem yVg {s:Sq}(h:wFms s.l+wFms s.r<=300):∀m∈yQk s,m.f.size<=300:=λm hm=>by
 have h1:=yZt s.l;have h2:=yZt s.r;rcases (yZh.1 hm).2 with h|h
 ·have:=yX3 h.2;omega
 ·have:=yX3 h.2;omega
theorem nat0 (n:Nat):((n:Int)=0)=(n=0):=propext (by omega)
end Go.Proofs.Tryz
namespace Go.Proofs.Tryz
open Go Go.Iv
mutual
def zZu:Nd->Nd->Prop
 | .mk m c w sub,.mk m' c' w' sub'=>c=c'/\w=w'/\m.w=m'.w/\m.f=m'.f/\(c=false->m.is=m'.is)/\SignedNs sub sub'
def SignedNs:List Nd->List Nd->Prop
 | [],[]=>True
 | a::l,b::l'=>zZu a b/\SignedNs l l'
 | [],_::_=>False
 | _::_,[]=>False
end
theorem SignedNs.len:∀ {l m:List Nd},SignedNs l m->l.length=m.length
 | [],[],_=>rfl
 | _::l,_::m,h=>by rw[SignedNs] at h;simp[SignedNs.len h.2]
theorem SignedNs.get:∀ {l m:List Nd}{k:Nat}{a b:Nd},SignedNs l m->l[k]?=some a->m[k]?=some b->zZu a b
 | _::_,_::_,0,_,_,h,h1,h2=>by
  rw[SignedNs] at h;simp only[List.getElem?_cons_zero,Option.some.injEq] at h1 h2;subst h1 h2;exact h.1
 | _::_,_::_,k+1,_,_,h,h1,h2=>by
  rw[SignedNs] at h;exact SignedNs.get (k:=k) h.2 (by simpa using h1) (by simpa using h2)
mutual
def zVd:Tr->Tr->Prop
 | .mk rule s m _ _ sub,.mk rule' s' m' _ _ sub'=>(rule=rule'\/(rule<=2/\rule'<=2))/\m=m'/\yXx s' s=true/\WideTs sub sub'
def WideTs:List Tr->List Tr->Prop
 | [],[]=>True
 | a::l,b::l'=>zVd a b/\WideTs l l'
 | [],_::_=>False
 | _::_,[]=>False
end
theorem WideTs.len:∀ {l m:List Tr},WideTs l m->l.length=m.length
 | [],[],_=>rfl
 | _::l,_::m,h=>by rw[WideTs] at h;simp[WideTs.len h.2]
theorem WideTs.get:∀ {l m:List Tr}{k:Nat}{a b:Tr},WideTs l m->l[k]?=some a->m[k]?=some b->zVd a b
 | _::_,_::_,0,_,_,h,h1,h2=>by
  rw[WideTs] at h;simp only[List.getElem?_cons_zero,Option.some.injEq] at h1 h2;subst h1 h2;exact h.1
 | _::_,_::_,k+1,_,_,h,h1,h2=>by
  rw[WideTs] at h;exact WideTs.get (k:=k) h.2 (by simpa using h1) (by simpa using h2)
theorem xGh (b:Bool)(o:Nat)(h:3<=yKd b o):yXi (yKd b o)=b:=by
 unfold yKd at h ⊢
 repeat' split at h
 all_goals first
  | (exact absurd h (by decide))
  | (cases b<;>simp_all [yXi])
mutual
theorem vJl:∀(n:Nd)(l:List Mk)(p:List Nat),(yZm l p n).2=0->GoodT l->zZu (yZd (yXa l n)) n
 | .mk m c w sub,l,p,h,hg=>by
  rw[yZm] at h;have hw0:yKo l m c w sub.length=0:=by
   split at h
   ·rename_i h';exact absurd h h'
   ·rename_i h';simpa using h'
  rw[if_neg (by rw[hw0];decide)] at h;obtain⟨hml,hcl,hfi,rfl,hsl⟩:=yKa hw0;obtain⟨hmf,hmw⟩:=hg m hml;rw[yXa,yZd,zZu];cases c
  ·simp only[bFt,if_false] at h hsl;rw[if_neg (show ¬ (false=true) by decide)];obtain⟨_,_,hgood,h3,h12,_⟩:=yW7 hmf (hfi rfl) 0;have hr:yV0 l m false=yKd m.is m.f.op:=by simp[yV0]
   rw[hr];refine⟨by rw[dEf (by omega),dEf (by omega)];rfl,rfl,hmw.symm,rfl,λ_=>xGh _ _ h3,?_⟩;exact wYb sub _ l p 0 hsl.symm h hg λq hq x hx=>⟨(hgood q hq x hx).1,(hgood q hq x hx).2.trans hmw⟩
  ·simp only[if_true] at hsl;rw[if_pos rfl];obtain rfl:=List.eq_nil_of_length_eq_zero hsl;have hr:yV0 l m true=1\/yV0 l m true=2:=by
    simp only[yV0,Bool.not_true,bFt,if_false];split
    ·exact .inl rfl
    ·exact .inr rfl
   exact⟨by rcases hr with h|h<;>rw[h]<;>decide,rfl,hmw.symm,rfl,(λh=>by rcases hr with h'|h'<;>rw[h'] at h<;>exact absurd h (by decide)),by rw[yXm,SignedNs];trivial⟩
theorem wYb:∀(ns:List Nd)(qs:List (List Mk))(l:List Mk)(p:List Nat)(i:Nat),qs.length=ns.length->(yZs l p i qs ns).2=0->GoodT l->(∀q∈qs,GoodT q)->SignedNs (yXm (yXe l qs ns)) ns
 | [],[],_,_,_,_,_,_,_=>by rw[yXe,yXm,SignedNs];trivial;simp
 | [],_::_,_,_,_,h,_,_,_=>by simp at h
 | _::_,[],_,_,_,h,_,_,_=>by simp at h
 | n::ns,q::qs,l,p,i,hl,h,hg,hq=>by
  rw[yZs] at h;have h1:(yZm (yZ9 l q) (p++[i]) n).2=0:=by
   split at h
   ·exact h
   ·rename_i h';simpa using h'
  rw[if_neg (by rw[h1];decide)] at h;rw[yXe,yXm,SignedNs];exact⟨vJl n _ _ h1 (hg.adds (hq q (by simp))),wYb ns qs l p _ (by simpa using hl) h hg λq' hq'=>hq q' (by simp[hq'])⟩
end
theorem xQz {s:Sq}{l:List Mk}(hm:MarksOf s l)(hv:yXs 1 s=true):yXx s (sqT l)=true:=by
 obtain⟨v1,v2⟩:=yKp hv;exact zYm (List.all_eq_true.2 λf hf=>zQm (List.all_eq_true.1 v1 f hf)) (List.all_eq_true.2 λf hf=>zQm (List.all_eq_true.1 v2 f hf))
  (λf hf=>yZu.2 ⟨_,hm.1 f hf,rfl,rfl⟩) (λf hf=>yZu.2 ⟨_,hm.2 f hf,rfl,rfl⟩)
mutual
theorem back:∀(t:Tr)(l:List Mk),MarksOf t.sq l->zZ3 1 t=true->t.cuts=0->zVd (yXa l (yZd t)) t
 | .mk rule s m u nm sub,l,hl,h,hcut=>by
  simp only[zZ3,bAt,dTe] at h;obtain⟨h,hsub⟩:=h;have h17:rule≠17:=λhq=>by
   simp only[Tr.cuts,hq,if_true] at hcut;omega
  have hcs:yJ6 sub=0:=by simp only[Tr.cuts] at hcut;omega
  obtain⟨hv,r,hr,hm,hop,hil,hir,hlen,hprem⟩:=zUz h h17;replace hl:MarksOf s l:=hl;have hwi:=xQz hl hv;rw[yZd,yXa,zVd];have two:∀c,c=true->yV0 l ⟨yXi rule,0,m⟩ c<=2:=λc hc=>by
   subst hc;simp only[yV0,Bool.not_true,bFt,if_false];split<;>decide
  by_cases h1:rule=1
  ·subst h1;have:sub=[]:=by
    refine List.eq_nil_of_length_eq_zero (hlen.trans ?_);simp[addS]
   subst this;exact⟨.inr ⟨two _ (by decide),by decide⟩,rfl,hwi,by simp only[decide_true,Bool.true_or,if_true];rw[WideTs];trivial⟩
  by_cases h2:rule=2
  ·subst h2;have:sub=[]:=by
    refine List.eq_nil_of_length_eq_zero (hlen.trans ?_);simp[addS]
   subst this;exact⟨.inr ⟨two _ (by decide),by decide⟩,rfl,hwi,by simp only[decide_true,Bool.or_true,if_true];rw[WideTs];trivial⟩
  obtain⟨g1,g2,g3,g4,g5⟩:=wYi hr h17 h1 h2;have hop':m.op=r.op:=by omega
  have hc:(decide (rule=1) || decide (rule=2))=false:=by rw[dEf h1,dEf h2];rfl
  rw[hc];have hfi:=xWu (m:=⟨yXi rule,0,m⟩) hm (by show 3<=m.op;omega) (by show m.op<=7;omega);obtain⟨_,hadd,hgood,_⟩:=yW7 (m:=⟨yXi rule,0,m⟩) hm hfi 0;simp only at hadd hgood;rw[hop',g5] at hadd;rw[hadd] at hlen hprem;rw[List.length_map] at hlen;have hr:yV0 l ⟨yXi rule,0,m⟩ false=rule:=by
   simp only[yV0,Bool.not_false,if_true];rw[hop',g5]
  rw[if_neg (show ¬ (false=true) by decide)];obtain⟨v1,v2⟩:=yKp hv;exact⟨.inl hr,rfl,hwi,vWq sub (yQs ⟨yXi rule,0,m⟩ 0) l s hlen hl v1 v2 (λq hq x hx=>⟨(hgood q hq x hx).1,(hgood q hq x hx).2⟩) hprem hsub hcs⟩
theorem vWq:∀(ts:List Tr)(qs:List (List Mk))(l:List Mk)(s:Sq),ts.length=qs.length->MarksOf s l->s.l.all (fmB 1)=true->s.r.all (fmB 1)=true->(∀q∈qs,∀x∈q,fmB 1 x.f=true/\x.w=0)->yJ0 s (qs.map sqT) ts=true->yYi 1 ts=true->yJ6 ts=0 →
  WideTs (yXe l qs (yXm ts)) ts
 | [],[],l,s,_,_,_,_,_,_,_,_=>by rw[yXm,yXe,WideTs];trivial;simp
 | [],_::_,l,s,h,_,_,_,_,_,_,_=>by simp at h
 | t::ts,[],l,s,h,_,_,_,_,_,_,_=>by simp at h
 | t::ts,q::qs,l,s,hlen,hl,v1,v2,hg,hp,ho,hc=>by
  simp only[List.map_cons,yJ0,bAt] at hp;simp only[yYi,bAt] at ho;simp only[yJ6] at hc;have hgq:=hg q (by simp);have hall:∀b,(yZ5 b q).all (fmB 1)=true:=λb=>List.all_eq_true.2 λf hf=>by
   obtain⟨x,hx,_,rfl⟩:=yZu.1 hf;exact (hgq x hx).1
  have hw:=zW0 (zK7 ho.1) (b:=s.plus (sqT q)) ⟨by show (s.l++yZ5 true q).all _=true;rw[List.all_append,v1,hall];rfl,by show (s.r++yZ5 false q).all _=true;rw[List.all_append,v2,hall];rfl⟩ hp.1;rw[yXm,yXe,WideTs];exact⟨back t (yZ9 l q) (hl.step hw rfl λx hx=>(hgq x hx).2) ho.1 (by omega),vWq ts qs l s (by simpa using hlen) hl v1 v2 (λq' hq'=>hg q' (by simp[hq'])) hp.2 ho.2 (by omega)⟩
end
end Go.Proofs.Tryz
namespace Go.Proofs.Tryz
open Go Go.Iv
set_option maxRecDepth 4000
variable (gl:Nat->Option IV)
def zG6 (n:Nd):Prop:=∀(n':Nd) (_:zZu n n') (x y:IV) (_:IsNd n x) (_:IsNd n' y) (_:n.nodes<=1099511627776) (st:ISt),ICall prog gl 14 [x,y] st (λr st'=>r=.raw (.bool true)/\st'=st)
theorem xJ4 (m:Mk)(c:Bool)(w:Int)(sub:List Nd)(IH:∀a∈sub,zG6 gl a):zG6 gl (.mk m c w sub):=by
 intro n' hs x y hx hy hst st;obtain⟨⟨mi,mw,mf⟩,c',w',sub'⟩:=n';obtain⟨ni,nw,nf⟩:=m;rw[zZu] at hs;obtain⟨rfl,rfl,hmw,hmf,his,hsub⟩:=hs;simp only at hmw hmf his;subst hmw hmf;have hl:=hsub.len;obtain⟨o,n,t,xs,t',ys,ts,zs,rfl,hf,e3,i3⟩:=hx.mk;obtain⟨o2,n2,t2,xs2,t2',ys2,ts2,zs2,rfl,hf2,e32,i32⟩:=hy.mk;simp only[Nd.nodes] at hst;have hlsub:=yVr sub;have h2:=λst=>zJs gl nf nf _ _ hf hf2 st;rw[show decide (yYf nf nf=0)=true from dEt ((zJ2 nf nf).2 rfl)] at h2;have e0:∀b:Bool,(b != b)=false:=λb=>by cases b<;>rfl
 have hlz:zs2.length=sub.length:=by rw[i32.len,hl]
 refine iI func14 ?_;cases c
 ·obtain rfl:ni=mi:=his rfl;simp only[go_sem,zE,zB,zA,zM,zS,zL,reduceCtorEq,fits,decide_true,e0];refine (h2 _).mono ?_;rintro _ st ⟨rfl,rfl⟩;simp only[go_sem,zE,zB,zA,zM,zS,zL,reduceCtorEq,fits,decide_true,e0,i3.len,hlz];intros;refine LoopC.ctr sub.length (λk fr st' ds=>fr 2=.box [.raw (.bool ni),.raw (.int .i64 nw),.raw (.int .u8 o),.raw (.string n),.sl t xs,.sl t' ys,.raw (.bool false),.raw (.int .i64 w),.sl ts zs] /\
   (∃b,fr 3=.box [.raw (.bool b),.raw (.int .i64 nw),.raw (.int .u8 o2),.raw (.string n2),.sl t2 xs2,.sl t2' ys2,.raw (.bool false),.raw (.int .i64 w),.sl ts2 zs2])/\fr 5=.iv (.raw (.int .i64 k))/\st'=st/\ds=[]) ?_ ?_ ?_
  ·simp only[go_sem,zE,zB,zA,zM,zS,zL,reduceCtorEq];exact⟨⟨_,rfl⟩,rfl⟩
  ·rintro k fr st1 _ hlt ⟨f2,⟨b,f3⟩,f5,rfl,rfl⟩;obtain⟨a,ha⟩:=yQ4 hlt;obtain⟨a',ha'⟩:=yQ4 (show k<sub'.length by omega);have ham:=lMg ha;obtain⟨z,hkz,hzz⟩:=i3.get ha;obtain⟨z2,hkz2,hzz2⟩:=i32.get ha';have hcall:=λst=>IH a ham a' (hsub.get ha ha') z z2 hzz hzz2 (by have:=yJ1 ham;omega) st;obtain⟨v3,w3,o3,n3,t4,y4,t5,y5,c5,w5,t6,y6,rfl⟩:=yXp hzz;obtain⟨v3,w3,o3,n3,t4,y4,t5,y5,c5,w5,t6,y6,rfl⟩:=yXp hzz2;simp only[go_sem,zE,zB,zA,zM,zS,zL,reduceCtorEq,f2,f3,f5,i3.len,hlz,lt_i hlt,yQ2 e3,yQ2 e32,iNn,hkz,hkz2,fits];intros;refine (hcall _).mono ?_;rintro _ st2 ⟨rfl,rfl⟩;simp only[go_sem,zE,zB,zA,zM,zS,zL,reduceCtorEq,f2,f3,f5,fits,yQf hlt (show sub.length<=281474976710656 by omega)];exact⟨_,rfl⟩
  ·rintro fr st1 _ ⟨f2,⟨b,f3⟩,f5,rfl,rfl⟩;simp only[go_sem,zE,zB,zA,zM,zS,zL,reduceCtorEq,f2,f3,f5,i3.len,yQo (nLi _)];intros;exact yQ0 ⟨rfl,rfl⟩
 ·simp only[go_sem,zE,zB,zA,zM,zS,zL,reduceCtorEq,fits,decide_true,e0];refine (h2 _).mono ?_;rintro _ st ⟨rfl,rfl⟩;simp only[go_sem,zE,zB,zA,zM,zS,zL,reduceCtorEq,fits,decide_true,e0,i3.len,hlz];intros;refine LoopC.ctr sub.length (λk fr st' ds=>fr 2=.box [.raw (.bool ni),.raw (.int .i64 nw),.raw (.int .u8 o),.raw (.string n),.sl t xs,.sl t' ys,.raw (.bool true),.raw (.int .i64 w),.sl ts zs] /\
   (∃b,fr 3=.box [.raw (.bool b),.raw (.int .i64 nw),.raw (.int .u8 o2),.raw (.string n2),.sl t2 xs2,.sl t2' ys2,.raw (.bool true),.raw (.int .i64 w),.sl ts2 zs2])/\fr 5=.iv (.raw (.int .i64 k))/\st'=st/\ds=[]) ?_ ?_ ?_
  ·simp only[go_sem,zE,zB,zA,zM,zS,zL,reduceCtorEq];exact⟨⟨_,rfl⟩,rfl⟩
  ·rintro k fr st1 _ hlt ⟨f2,⟨b,f3⟩,f5,rfl,rfl⟩;obtain⟨a,ha⟩:=yQ4 hlt;obtain⟨a',ha'⟩:=yQ4 (show k<sub'.length by omega);have ham:=lMg ha;obtain⟨z,hkz,hzz⟩:=i3.get ha;obtain⟨z2,hkz2,hzz2⟩:=i32.get ha';have hcall:=λst=>IH a ham a' (hsub.get ha ha') z z2 hzz hzz2 (by have:=yJ1 ham;omega) st;obtain⟨v3,w3,o3,n3,t4,y4,t5,y5,c5,w5,t6,y6,rfl⟩:=yXp hzz;obtain⟨v3,w3,o3,n3,t4,y4,t5,y5,c5,w5,t6,y6,rfl⟩:=yXp hzz2;simp only[go_sem,zE,zB,zA,zM,zS,zL,reduceCtorEq,f2,f3,f5,i3.len,hlz,lt_i hlt,yQ2 e3,yQ2 e32,iNn,hkz,hkz2,fits];intros;refine (hcall _).mono ?_;rintro _ st2 ⟨rfl,rfl⟩;simp only[go_sem,zE,zB,zA,zM,zS,zL,reduceCtorEq,f2,f3,f5,fits,yQf hlt (show sub.length<=281474976710656 by omega)];exact⟨_,rfl⟩
  ·rintro fr st1 _ ⟨f2,⟨b,f3⟩,f5,rfl,rfl⟩;simp only[go_sem,zE,zB,zA,zM,zS,zL,reduceCtorEq,f2,f3,f5,i3.len,yQo (nLi _)];intros;exact yQ0 ⟨rfl,rfl⟩
theorem zWf:∀(k:Nat)(t:Nd),SizeOf.sizeOf t<k->zG6 gl t
 | 0,t,h=>by omega
 | k+1,.mk m c w sub,h=>xJ4 gl m c w sub (λa ha=>zWf k a (by
   have:=lSm ha;simp only[Nd.mk.sizeOf_spec] at h;omega))
theorem wKx (t:Nd):zG6 gl t:=zWf gl _ t (Nat.lt_succ_self _)
def xKp (a:Tr):Prop:=∀(b:Tr) (_:zVd a b) (x y:IV) (_:IsTr a x) (_:IsTr b y) (_:NA a) (_:NA b) (_:a.steps<=1099511627776) (st:ISt),ICall prog gl 16 [x,y] st (λr st'=>r=.raw (.bool true)/\st'=st)
theorem xYa (G:Gl gl)(rule:Nat)(s:Sq)(f:Fm)(u:Tm)(n:ByteArray)(sub:List Tr)(IH:∀a∈sub,xKp gl a):xKp gl (.mk rule s f u n sub):=by
 intro b hw x y hx hy hNa hNb hst st;obtain⟨rule2,s2,f2,u2,n2,sub2⟩:=b;rw[zVd] at hw;obtain⟨hru,rfl,hwi,hsub⟩:=hw;have hl:=hsub.len;obtain⟨tl,xl,tr,xr,op,fn,ta,xa,tb,xb,v,un,tu,xu,ts,xs,rfl,hr1,e1,i1,e2,i2,hyf,hz,e3,i3⟩:=hx.mk;obtain⟨tl2,xl2,tr2,xr2,op2,fn2,ta2,xa2,tb2,xb2,v2,un2,tu2,xu2,ts2,xs2,rfl,hr2,e12,i12,e22,i22,hyf2,hz2,e32,i32⟩:=hy.mk;simp only[Tr.steps] at hst;have hlsub:=yXn sub;have h2:=λst=>zJs gl f f _ _ hyf hyf2 st;rw[show decide (yYf f f=0)=true from dEt ((zJ2 f f).2 rfl)] at h2;have h1:=λst=>xY7 gl G s2 s (.agg [.sl tl2 xl2,.sl tr2 xr2]) (.agg [.sl tl xl,.sl tr xr]) ⟨_,_,_,_,rfl,e12,i12,e22,i22⟩ ⟨_,_,_,_,rfl,e1,i1,e2,i2⟩ (wWt hNb) (wWt hNa) st;rw[hwi] at h1;simp only[NA] at hNa hNb;have hlz:xs2.length=sub.length:=by rw[i32.len,hl]
 refine iI func16 ?_;have hrr:(decide ((rule:Int)=(rule2:Int))=true)\/(decide ((rule:Int)=(rule2:Int))=false/\decide ((rule:Int)<=2)=true/\decide ((rule2:Int)<=2)=true):=by
  by_cases hq:rule=rule2
  ·exact .inl (dEt (by omega))
  ·rcases hru with h|h
   ·exact absurd h hq
   ·exact .inr ⟨dEf (by omega),dEt (by omega),dEt (by omega)⟩
 rcases hrr with d1|⟨d1,d2,d3⟩
 ·simp only[go_sem,zE,zB,zA,zM,zS,zL,reduceCtorEq,fits,decide_true,d1];refine (h2 _).mono ?_;rintro _ st ⟨rfl,rfl⟩;simp only[go_sem,zE,zB,zA,zM,zS,zL,reduceCtorEq,fits];refine (h1 _).mono ?_;rintro _ st ⟨rfl,rfl⟩;simp only[go_sem,zE,zB,zA,zM,zS,zL,reduceCtorEq,fits,decide_true,i3.len,hlz];intros;refine LoopC.ctr sub.length (λk fr st' ds=>fr 2=.box [.raw (.int .u8 rule),.sl tl xl,.sl tr xr,.raw (.int .u8 op),.raw (.string fn),.sl ta xa,.sl tb xb,.raw (.bool v),.raw (.string un),.sl tu xu,.raw (.string n),.sl ts xs] /\
   fr 3=.box [.raw (.int .u8 rule2),.sl tl2 xl2,.sl tr2 xr2,.raw (.int .u8 op2),.raw (.string fn2),.sl ta2 xa2,.sl tb2 xb2,.raw (.bool v2),.raw (.string un2),.sl tu2 xu2,.raw (.string n2),.sl ts2 xs2]/\fr 5=.iv (.raw (.int .i64 k))/\st'=st/\ds=[]) ?_ ?_ ?_
  ·simp only[go_sem,zE,zB,zA,zM,zS,zL,reduceCtorEq];rfl
  ·rintro k fr st1 _ hlt ⟨f2,f3,f5,rfl,rfl⟩;obtain⟨a,ha⟩:=yQ4 hlt;obtain⟨a',ha'⟩:=yQ4 (show k<sub2.length by omega);have ham:=lMg ha;obtain⟨z,hkz,hzz⟩:=i3.get ha;obtain⟨z2,hkz2,hzz2⟩:=i32.get ha';have hcall:=λst=>IH a ham a' (hsub.get ha ha') z z2 hzz hzz2 (yUr hNa.2.2.2 ham) (yUr hNb.2.2.2 (lMg ha')) (by have:=yJx ham;omega) st;obtain⟨rule',tl',xl',tr',xr',op',fn',ta',xa',tb',xb',v',un',tu',xu',n',ts',xs',rfl⟩:=yXf hzz;obtain⟨rule',tl',xl',tr',xr',op',fn',ta',xa',tb',xb',v',un',tu',xu',n',ts',xs',rfl⟩:=yXf hzz2;simp only[go_sem,zE,zB,zA,zM,zS,zL,reduceCtorEq,f2,f3,f5,i3.len,hlz,lt_i hlt,yQ2 e3,yQ2 e32,iNn,hkz,hkz2,fits];intros;refine (hcall _).mono ?_;rintro _ st2 ⟨rfl,rfl⟩;simp only[go_sem,zE,zB,zA,zM,zS,zL,reduceCtorEq,f2,f3,f5,fits,yQf hlt (show sub.length<=281474976710656 by omega)]
  ·rintro fr st1 _ ⟨f2,f3,f5,rfl,rfl⟩;simp only[go_sem,zE,zB,zA,zM,zS,zL,reduceCtorEq,f2,f3,f5,i3.len,yQo (nLi _)];intros;exact yQ0 ⟨rfl,rfl⟩
 ·simp only[go_sem,zE,zB,zA,zM,zS,zL,reduceCtorEq,fits,decide_true,d1,d2,d3];refine (h2 _).mono ?_;rintro _ st ⟨rfl,rfl⟩;simp only[go_sem,zE,zB,zA,zM,zS,zL,reduceCtorEq,fits];refine (h1 _).mono ?_;rintro _ st ⟨rfl,rfl⟩;simp only[go_sem,zE,zB,zA,zM,zS,zL,reduceCtorEq,fits,decide_true,i3.len,hlz];intros;refine LoopC.ctr sub.length (λk fr st' ds=>fr 2=.box [.raw (.int .u8 rule),.sl tl xl,.sl tr xr,.raw (.int .u8 op),.raw (.string fn),.sl ta xa,.sl tb xb,.raw (.bool v),.raw (.string un),.sl tu xu,.raw (.string n),.sl ts xs] /\
   fr 3=.box [.raw (.int .u8 rule2),.sl tl2 xl2,.sl tr2 xr2,.raw (.int .u8 op2),.raw (.string fn2),.sl ta2 xa2,.sl tb2 xb2,.raw (.bool v2),.raw (.string un2),.sl tu2 xu2,.raw (.string n2),.sl ts2 xs2]/\fr 5=.iv (.raw (.int .i64 k))/\st'=st/\ds=[]) ?_ ?_ ?_
  ·simp only[go_sem,zE,zB,zA,zM,zS,zL,reduceCtorEq];rfl
  ·rintro k fr st1 _ hlt ⟨f2,f3,f5,rfl,rfl⟩;obtain⟨a,ha⟩:=yQ4 hlt;obtain⟨a',ha'⟩:=yQ4 (show k<sub2.length by omega);have ham:=lMg ha;obtain⟨z,hkz,hzz⟩:=i3.get ha;obtain⟨z2,hkz2,hzz2⟩:=i32.get ha';have hcall:=λst=>IH a ham a' (hsub.get ha ha') z z2 hzz hzz2 (yUr hNa.2.2.2 ham) (yUr hNb.2.2.2 (lMg ha')) (by have:=yJx ham;omega) st;obtain⟨rule',tl',xl',tr',xr',op',fn',ta',xa',tb',xb',v',un',tu',xu',n',ts',xs',rfl⟩:=yXf hzz;obtain⟨rule',tl',xl',tr',xr',op',fn',ta',xa',tb',xb',v',un',tu',xu',n',ts',xs',rfl⟩:=yXf hzz2;simp only[go_sem,zE,zB,zA,zM,zS,zL,reduceCtorEq,f2,f3,f5,i3.len,hlz,lt_i hlt,yQ2 e3,yQ2 e32,iNn,hkz,hkz2,fits];intros;refine (hcall _).mono ?_;rintro _ st2 ⟨rfl,rfl⟩;simp only[go_sem,zE,zB,zA,zM,zS,zL,reduceCtorEq,f2,f3,f5,fits,yQf hlt (show sub.length<=281474976710656 by omega)]
  ·rintro fr st1 _ ⟨f2,f3,f5,rfl,rfl⟩;simp only[go_sem,zE,zB,zA,zM,zS,zL,reduceCtorEq,f2,f3,f5,i3.len,yQo (nLi _)];intros;exact yQ0 ⟨rfl,rfl⟩
theorem zUi (G:Gl gl):∀(k:Nat) (t:Tr),SizeOf.sizeOf t<k->xKp gl t
 | 0,t,h=>by omega
 | k+1,.mk r sq f u n sub,h=>xYa gl G r sq f u n sub (λa ha=>zUi G k a (by
   have:=lSm ha;simp at h;omega))
theorem zJ7 (G:Gl gl)(t:Tr):xKp gl t:=zUi gl G _ t (Nat.lt_succ_self _)
theorem yG5 {t:Tr}(h:(yV9 t).2=0):(yXl 1 t).2=0/\t.cuts=0/\yJr t.sq=true/\yV9 t=(yZd t,0):=by
 unfold yV9 at h ⊢;split at h
 ·cases h
 ·rename_i h1;split at h
  ·cases h
  ·rename_i h2;have h3:(yXl 1 t).2=0:=Decidable.not_not.1 λhq=>h1 (.inl hq);have h4:¬ 0<t.cuts:=λhq=>h1 (.inr hq);refine⟨h3,by omega,by simpa using h2,?_⟩;rw[if_neg h1,if_neg h2]
theorem wZa {s:Sq}{n:Nd}(h:(yWa s n).2=0)(hb:bigT (yQk s) n=false):yV9 (yXa (yQk s) n)=(yZd (yXa (yQk s) n),0):=by
 obtain⟨p1,p2,_⟩:=vKt h hb;have h1:=(yJ9 h).1;have hv:yJr (yXa (yQk s) n).sq=true:=by
  obtain⟨_,_,k3,k4⟩:=yWi h1;rw[zYr];unfold yJr;simp only[bAt,dTe];refine⟨⟨zV5 h1 true,zV5 h1 false⟩,List.all_eq_true.2 λf hf=>?_⟩;rcases List.mem_append.1 hf with hf|hf
  ·exact k3 f (yVc.1.1 hf)
  ·exact k4 f (yVc.2.1 hf)
 rw[yV9,if_neg (by rw[p1,p2];decide),if_neg (by rw[hv];decide)]
set_option maxHeartbeats 1000000 in
theorem zUd (G:Gl gl)(T:Gt gl)(hgl:∀g x,gl g=some x->age x=x)(s:Sq)(x:IV)(hx:IsSq s x)(hw:wFms s.l<=1099511627776/\wFms s.r<=1099511627776)(n:Nd)(z:IV)(hz:IsNd n z)(hwn:wNd n<=1099511627776)
  (t:Tr) (y:IV) (hy:IsTr t y) (hwt:wTr t<=1099511627776) (st:ISt) (h0:∀b,st b=none) :
  ICall prog gl 3 [x,z,y] st (λr st'=>r=.raw (.bool true)/\st'=st):=by
 have hA:=wKz gl G T hgl st h0;have hfew:=λst=>vZo gl s x hx hw st;have hsm:=λst=>wWs gl n z hz hwn st;have hsq:=λst=>wWr gl t y hy hwt st;have hx0:=hx;have hz0:=hz;have hy0:=hy;obtain⟨tl,xl,tr,xr,rfl,e1,i1,e2,i2⟩:=hx;obtain⟨v1,w1,o1,k1,t1,y1,t2,y2,c1,w2,t3,y3,rfl⟩:=yXp hz;obtain⟨rule,s',m,u,nm,sub⟩:=t;obtain⟨tl',xl',tr1',xr',op',fn',ta',xa',tb',xb',v',un',tu',xu',ts2,xs2,rfl,hru,f1,j1,f2,j2,_⟩:=hy.mk;clear hz hy;obtain⟨t,ht⟩:∃t,t=Tr.mk rule s' m u nm sub:=⟨_,rfl⟩
 rw[<- ht] at hy0 hsq hwt;have hts:t.sq=s':=by rw[ht];rfl
 have d0:decide (((0:Nat):Int)=0)=true:=rfl;have d5:decide (((5:Nat):Int)=0)=false:=rfl;have d5':decide (((5:Nat):Int)=5)=true:=rfl;have d23:decide (((230:Nat):Int)=0)=false:=rfl;refine iI func3 ?_;simp only[go_sem,zE,zB,zA,zM,zS,zL,reduceCtorEq,fits];refine hA.mono ?_;rintro _ st ⟨rfl,rfl⟩;simp only[go_sem,zE,zB,zA,zM,zS,zL,reduceCtorEq,fits];refine (hfew _).mono ?_;rintro _ st ⟨rfl,rfl⟩;cases q1:decide (wFms s.l+wFms s.r<=300)
 ·simp only[go_sem,zE,zB,zA,zM,zS,zL,reduceCtorEq,fits,q1];refine (hsq _).mono ?_;rintro _ st ⟨rfl,rfl⟩;cases q3:(okT t&&decide (t.steps<=60))
  ·simp only[go_sem,zE,zB,zA,zM,zS,zL,reduceCtorEq,fits,q3];exact yQ0 ⟨rfl,rfl⟩
  rw[bAt,dTe] at q3;obtain⟨hok,hst⟩:=q3;have hd60:decide (t.steps<=60)=true:=dEt hst;simp only[go_sem,zE,zB,zA,zM,zS,zL,reduceCtorEq,fits,hok,hd60];refine (zVg gl G T t _ hy0 (yYh hok) (by omega) _).mono ?_;rintro _ st ⟨⟨mz,rfl,hmz⟩,rfl⟩;by_cases hN:(yV9 t).2=0
  ·obtain⟨n1,n2,n3,n4⟩:=yG5 hN;rw[n4] at hmz ⊢;obtain⟨r1,r2,_⟩:=zJy n1 n2 n3;rw[hts] at r1 n3;have hw4:wFms s'.l+wFms s'.r<=300:=by
    rw[ht,okT,bAt] at hok;exact (yJb hok.1).1
   have hTr:=λst=>zVe gl G s' (.agg [.sl tl' xl',.sl tr1' xr']) ⟨_,_,_,_,rfl,f1,j1,f2,j2⟩ hw4 (yZd t) mz hmz (by omega) st;obtain⟨v6,w6,o6,n6,t6,y6,t7,y7,c6,w7,t8,y8,rfl⟩:=yXp hmz;simp only[go_sem,zE,zB,zA,zM,zS,zL,reduceCtorEq,fits,d0];refine (hTr _).mono ?_;rintro _ st ⟨⟨xz,rfl,hxz,_⟩,rfl⟩;by_cases hb:bigT (yQk s') (yZd t)=true
   ·have he:yXw s' (yZd t)=(tr0,5):=by rw[yXw,if_neg (by rw[r1];decide),if_pos hb]
    rw[he] at hxz ⊢;obtain⟨rule7,tl7,xl7,tr7,xr7,op7,fn7,ta7,xa7,tb7,xb7,v7,un7,tu7,xu7,nn7,ts7,xs7,rfl⟩:=yXf hxz;simp only[go_sem,zE,zB,zA,zM,zS,zL,reduceCtorEq,fits,d5,d5'];exact yQ0 ⟨rfl,rfl⟩
   ·have he:yXw s' (yZd t)=(yXa (yQk s') (yZd t),0):=by rw[yXw,if_neg (by rw[r1];decide),if_neg hb]
    rw[he] at hxz ⊢;obtain⟨c1,_,c3⟩:=yJ9 (s:=s') (n:=yZd t) (by rw[r1]);have hNAx:=yUb (yZd t) (yQk s') [] c3 (yX4 c1) (yVg hw4);have hsx:=(yJs (yZd t) _ _ c3).1;have hall:=(yKj.1 n1).2.2;have hwd:zVd (yXa (yQk s') (yZd t)) t:=back t (yQk s') (by rw[hts];exact⟨λf hf=>yZh.2 ⟨rfl,.inl ⟨rfl,hf⟩⟩,λf hf=>yZh.2 ⟨rfl,.inr ⟨rfl,hf⟩⟩⟩) hall n2;have hWc:=λst=>zJ7 gl G _ t hwd xz _ hxz hy0 hNAx (yYh hok) (by omega) st;obtain⟨rule7,tl7,xl7,tr7,xr7,op7,fn7,ta7,xa7,tb7,xb7,v7,un7,tu7,xu7,nn7,ts7,xs7,rfl⟩:=yXf hxz;simp only[go_sem,zE,zB,zA,zM,zS,zL,reduceCtorEq,fits,d0];refine (hWc _).mono ?_;rintro _ st ⟨rfl,rfl⟩;simp only[go_sem,zE,zB,zA,zM,zS,zL,reduceCtorEq,fits];exact yQ0 ⟨rfl,rfl⟩
  ·obtain⟨v6,w6,o6,n6,t6,y6,t7,y7,c6,w7,t8,y8,rfl⟩:=yXp hmz;simp only[go_sem,zE,zB,zA,zM,zS,zL,reduceCtorEq,fits,nat0,hN,decide_false,Bool.not_false];exact yQ0 ⟨rfl,rfl⟩
 simp only[go_sem,zE,zB,zA,zM,zS,zL,reduceCtorEq,fits,q1];refine (hsm _).mono ?_;rintro _ st ⟨rfl,rfl⟩;cases q2:(okN n&&decide (n.nodes<=60))
 ·simp only[go_sem,zE,zB,zA,zM,zS,zL,reduceCtorEq,fits,q2];refine (hsq _).mono ?_;rintro _ st ⟨rfl,rfl⟩;cases q3:(okT t&&decide (t.steps<=60))
  ·simp only[go_sem,zE,zB,zA,zM,zS,zL,reduceCtorEq,fits,q3];exact yQ0 ⟨rfl,rfl⟩
  rw[bAt,dTe] at q3;obtain⟨hok,hst⟩:=q3;have hd60:decide (t.steps<=60)=true:=dEt hst;simp only[go_sem,zE,zB,zA,zM,zS,zL,reduceCtorEq,fits,hok,hd60];refine (zVg gl G T t _ hy0 (yYh hok) (by omega) _).mono ?_;rintro _ st ⟨⟨mz,rfl,hmz⟩,rfl⟩;by_cases hN:(yV9 t).2=0
  ·obtain⟨n1,n2,n3,n4⟩:=yG5 hN;rw[n4] at hmz ⊢;obtain⟨r1,r2,_⟩:=zJy n1 n2 n3;rw[hts] at r1 n3;have hw4:wFms s'.l+wFms s'.r<=300:=by
    rw[ht,okT,bAt] at hok;exact (yJb hok.1).1
   have hTr:=λst=>zVe gl G s' (.agg [.sl tl' xl',.sl tr1' xr']) ⟨_,_,_,_,rfl,f1,j1,f2,j2⟩ hw4 (yZd t) mz hmz (by omega) st;obtain⟨v6,w6,o6,n6,t6,y6,t7,y7,c6,w7,t8,y8,rfl⟩:=yXp hmz;simp only[go_sem,zE,zB,zA,zM,zS,zL,reduceCtorEq,fits,d0];refine (hTr _).mono ?_;rintro _ st ⟨⟨xz,rfl,hxz,_⟩,rfl⟩;by_cases hb:bigT (yQk s') (yZd t)=true
   ·have he:yXw s' (yZd t)=(tr0,5):=by rw[yXw,if_neg (by rw[r1];decide),if_pos hb]
    rw[he] at hxz ⊢;obtain⟨rule7,tl7,xl7,tr7,xr7,op7,fn7,ta7,xa7,tb7,xb7,v7,un7,tu7,xu7,nn7,ts7,xs7,rfl⟩:=yXf hxz;simp only[go_sem,zE,zB,zA,zM,zS,zL,reduceCtorEq,fits,d5,d5'];exact yQ0 ⟨rfl,rfl⟩
   ·have he:yXw s' (yZd t)=(yXa (yQk s') (yZd t),0):=by rw[yXw,if_neg (by rw[r1];decide),if_neg hb]
    rw[he] at hxz ⊢;obtain⟨c1,_,c3⟩:=yJ9 (s:=s') (n:=yZd t) (by rw[r1]);have hNAx:=yUb (yZd t) (yQk s') [] c3 (yX4 c1) (yVg hw4);have hsx:=(yJs (yZd t) _ _ c3).1;have hall:=(yKj.1 n1).2.2;have hwd:zVd (yXa (yQk s') (yZd t)) t:=back t (yQk s') (by rw[hts];exact⟨λf hf=>yZh.2 ⟨rfl,.inl ⟨rfl,hf⟩⟩,λf hf=>yZh.2 ⟨rfl,.inr ⟨rfl,hf⟩⟩⟩) hall n2;have hWc:=λst=>zJ7 gl G _ t hwd xz _ hxz hy0 hNAx (yYh hok) (by omega) st;obtain⟨rule7,tl7,xl7,tr7,xr7,op7,fn7,ta7,xa7,tb7,xb7,v7,un7,tu7,xu7,nn7,ts7,xs7,rfl⟩:=yXf hxz;simp only[go_sem,zE,zB,zA,zM,zS,zL,reduceCtorEq,fits,d0];refine (hWc _).mono ?_;rintro _ st ⟨rfl,rfl⟩;simp only[go_sem,zE,zB,zA,zM,zS,zL,reduceCtorEq,fits];exact yQ0 ⟨rfl,rfl⟩
  ·obtain⟨v6,w6,o6,n6,t6,y6,t7,y7,c6,w7,t8,y8,rfl⟩:=yXp hmz;simp only[go_sem,zE,zB,zA,zM,zS,zL,reduceCtorEq,fits,nat0,hN,decide_false,Bool.not_false];exact yQ0 ⟨rfl,rfl⟩
 have hw3:wFms s.l+wFms s.r<=300:=of_decide_eq_true q1;have hn:n.nodes<=60:=by
  rw[bAt,dTe] at q2;exact q2.2
 have htr:=λst=>zVe gl G s _ hx0 hw3 n _ hz0 (by omega) st;simp only[go_sem,zE,zB,zA,zM,zS,zL,reduceCtorEq,fits,q2];refine (htr _).mono ?_;rintro _ st ⟨⟨w,rfl,hy,_⟩,rfl⟩;by_cases hc:(yWa s n).2=0
 ·by_cases hb:bigT (yQk s) n=true
  ·have he:yXw s n=(tr0,5):=by rw[yXw,if_neg (by rw[hc];decide),if_pos hb]
   rw[he] at hy ⊢;obtain⟨rule3,tl3,xl3,tr3,xr3,op3,fn3,ta3,xa3,tb3,xb3,v3,un3,tu3,xu3,nn3,ts3,xs3,rfl⟩:=yXf hy;simp only[go_sem,zE,zB,zA,zM,zS,zL,reduceCtorEq,fits,d5];refine (hsq _).mono ?_;rintro _ st ⟨rfl,rfl⟩;cases q3:(okT t&&decide (t.steps<=60))
   ·simp only[go_sem,zE,zB,zA,zM,zS,zL,reduceCtorEq,fits,q3];exact yQ0 ⟨rfl,rfl⟩
   rw[bAt,dTe] at q3;obtain⟨hok,hst⟩:=q3;have hd60:decide (t.steps<=60)=true:=dEt hst;simp only[go_sem,zE,zB,zA,zM,zS,zL,reduceCtorEq,fits,hok,hd60];refine (zVg gl G T t _ hy0 (yYh hok) (by omega) _).mono ?_;rintro _ st ⟨⟨mz,rfl,hmz⟩,rfl⟩;by_cases hN:(yV9 t).2=0
   ·obtain⟨n1,n2,n3,n4⟩:=yG5 hN;rw[n4] at hmz ⊢;obtain⟨r1,r2,_⟩:=zJy n1 n2 n3;rw[hts] at r1 n3;have hw4:wFms s'.l+wFms s'.r<=300:=by
     rw[ht,okT,bAt] at hok;exact (yJb hok.1).1
    have hTr:=λst=>zVe gl G s' (.agg [.sl tl' xl',.sl tr1' xr']) ⟨_,_,_,_,rfl,f1,j1,f2,j2⟩ hw4 (yZd t) mz hmz (by omega) st;obtain⟨v6,w6,o6,n6,t6,y6,t7,y7,c6,w7,t8,y8,rfl⟩:=yXp hmz;simp only[go_sem,zE,zB,zA,zM,zS,zL,reduceCtorEq,fits,d0];refine (hTr _).mono ?_;rintro _ st ⟨⟨xz,rfl,hxz,_⟩,rfl⟩;by_cases hb:bigT (yQk s') (yZd t)=true
    ·have he:yXw s' (yZd t)=(tr0,5):=by rw[yXw,if_neg (by rw[r1];decide),if_pos hb]
     rw[he] at hxz ⊢;obtain⟨rule7,tl7,xl7,tr7,xr7,op7,fn7,ta7,xa7,tb7,xb7,v7,un7,tu7,xu7,nn7,ts7,xs7,rfl⟩:=yXf hxz;simp only[go_sem,zE,zB,zA,zM,zS,zL,reduceCtorEq,fits,d5,d5'];exact yQ0 ⟨rfl,rfl⟩
    ·have he:yXw s' (yZd t)=(yXa (yQk s') (yZd t),0):=by rw[yXw,if_neg (by rw[r1];decide),if_neg hb]
     rw[he] at hxz ⊢;obtain⟨c1,_,c3⟩:=yJ9 (s:=s') (n:=yZd t) (by rw[r1]);have hNAx:=yUb (yZd t) (yQk s') [] c3 (yX4 c1) (yVg hw4);have hsx:=(yJs (yZd t) _ _ c3).1;have hall:=(yKj.1 n1).2.2;have hwd:zVd (yXa (yQk s') (yZd t)) t:=back t (yQk s') (by rw[hts];exact⟨λf hf=>yZh.2 ⟨rfl,.inl ⟨rfl,hf⟩⟩,λf hf=>yZh.2 ⟨rfl,.inr ⟨rfl,hf⟩⟩⟩) hall n2;have hWc:=λst=>zJ7 gl G _ t hwd xz _ hxz hy0 hNAx (yYh hok) (by omega) st;obtain⟨rule7,tl7,xl7,tr7,xr7,op7,fn7,ta7,xa7,tb7,xb7,v7,un7,tu7,xu7,nn7,ts7,xs7,rfl⟩:=yXf hxz;simp only[go_sem,zE,zB,zA,zM,zS,zL,reduceCtorEq,fits,d0];refine (hWc _).mono ?_;rintro _ st ⟨rfl,rfl⟩;simp only[go_sem,zE,zB,zA,zM,zS,zL,reduceCtorEq,fits];exact yQ0 ⟨rfl,rfl⟩
   ·obtain⟨v6,w6,o6,n6,t6,y6,t7,y7,c6,w7,t8,y8,rfl⟩:=yXp hmz;simp only[go_sem,zE,zB,zA,zM,zS,zL,reduceCtorEq,fits,nat0,hN,decide_false,Bool.not_false];exact yQ0 ⟨rfl,rfl⟩
  ·have he:yXw s n=(yXa (yQk s) n,0):=by rw[yXw,if_neg (by rw[hc];decide),if_neg hb]
   rw[he] at hy ⊢;obtain⟨c1,_,c3⟩:=yJ9 hc;have hNA:=yUb n (yQk s) [] c3 (yX4 c1) (yVg hw3);have hsteps:=(yJs n _ _ c3).1;have hNo:=λst=>zVg gl G T (yXa (yQk s) n) w hy hNA (by omega) st;rw[wZa hc (by simpa using hb)] at hNo;have hsg:=vJl n (yQk s) [] c3 (yX4 c1);have hnn:=(zZ4 (yXa (yQk s) n)).1;obtain⟨rule3,tl3,xl3,tr3,xr3,op3,fn3,ta3,xa3,tb3,xb3,v3,un3,tu3,xu3,nn3,ts3,xs3,rfl⟩:=yXf hy;simp only[go_sem,zE,zB,zA,zM,zS,zL,reduceCtorEq,fits,d0];refine (hNo _).mono ?_;rintro _ st ⟨⟨mw,rfl,hmw⟩,rfl⟩;have hSg:=λst=>wKx gl _ n hsg mw _ hmw hz0 (by omega) st;obtain⟨v6,w6,o6,n6,t6,y6,t7,y7,c6,w7,t8,y8,rfl⟩:=yXp hmw;simp only[go_sem,zE,zB,zA,zM,zS,zL,reduceCtorEq,fits,d0];refine (hSg _).mono ?_;rintro _ st ⟨rfl,rfl⟩;simp only[go_sem,zE,zB,zA,zM,zS,zL,reduceCtorEq,fits];refine (hsq _).mono ?_;rintro _ st ⟨rfl,rfl⟩;cases q3:(okT t&&decide (t.steps<=60))
   ·simp only[go_sem,zE,zB,zA,zM,zS,zL,reduceCtorEq,fits,q3];exact yQ0 ⟨rfl,rfl⟩
   rw[bAt,dTe] at q3;obtain⟨hok,hst⟩:=q3;have hd60:decide (t.steps<=60)=true:=dEt hst;simp only[go_sem,zE,zB,zA,zM,zS,zL,reduceCtorEq,fits,hok,hd60];refine (zVg gl G T t _ hy0 (yYh hok) (by omega) _).mono ?_;rintro _ st ⟨⟨mz,rfl,hmz⟩,rfl⟩;by_cases hN:(yV9 t).2=0
   ·obtain⟨n1,n2,n3,n4⟩:=yG5 hN;rw[n4] at hmz ⊢;obtain⟨r1,r2,_⟩:=zJy n1 n2 n3;rw[hts] at r1 n3;have hw4:wFms s'.l+wFms s'.r<=300:=by
     rw[ht,okT,bAt] at hok;exact (yJb hok.1).1
    have hTr:=λst=>zVe gl G s' (.agg [.sl tl' xl',.sl tr1' xr']) ⟨_,_,_,_,rfl,f1,j1,f2,j2⟩ hw4 (yZd t) mz hmz (by omega) st;obtain⟨v6,w6,o6,n6,t6,y6,t7,y7,c6,w7,t8,y8,rfl⟩:=yXp hmz;simp only[go_sem,zE,zB,zA,zM,zS,zL,reduceCtorEq,fits,d0];refine (hTr _).mono ?_;rintro _ st ⟨⟨xz,rfl,hxz,_⟩,rfl⟩;by_cases hb:bigT (yQk s') (yZd t)=true
    ·have he:yXw s' (yZd t)=(tr0,5):=by rw[yXw,if_neg (by rw[r1];decide),if_pos hb]
     rw[he] at hxz ⊢;obtain⟨rule7,tl7,xl7,tr7,xr7,op7,fn7,ta7,xa7,tb7,xb7,v7,un7,tu7,xu7,nn7,ts7,xs7,rfl⟩:=yXf hxz;simp only[go_sem,zE,zB,zA,zM,zS,zL,reduceCtorEq,fits,d5,d5'];exact yQ0 ⟨rfl,rfl⟩
    ·have he:yXw s' (yZd t)=(yXa (yQk s') (yZd t),0):=by rw[yXw,if_neg (by rw[r1];decide),if_neg hb]
     rw[he] at hxz ⊢;obtain⟨c1,_,c3⟩:=yJ9 (s:=s') (n:=yZd t) (by rw[r1]);have hNAx:=yUb (yZd t) (yQk s') [] c3 (yX4 c1) (yVg hw4);have hsx:=(yJs (yZd t) _ _ c3).1;have hall:=(yKj.1 n1).2.2;have hwd:zVd (yXa (yQk s') (yZd t)) t:=back t (yQk s') (by rw[hts];exact⟨λf hf=>yZh.2 ⟨rfl,.inl ⟨rfl,hf⟩⟩,λf hf=>yZh.2 ⟨rfl,.inr ⟨rfl,hf⟩⟩⟩) hall n2;have hWc:=λst=>zJ7 gl G _ t hwd xz _ hxz hy0 hNAx (yYh hok) (by omega) st;obtain⟨rule7,tl7,xl7,tr7,xr7,op7,fn7,ta7,xa7,tb7,xb7,v7,un7,tu7,xu7,nn7,ts7,xs7,rfl⟩:=yXf hxz;simp only[go_sem,zE,zB,zA,zM,zS,zL,reduceCtorEq,fits,d0];refine (hWc _).mono ?_;rintro _ st ⟨rfl,rfl⟩;simp only[go_sem,zE,zB,zA,zM,zS,zL,reduceCtorEq,fits];exact yQ0 ⟨rfl,rfl⟩
   ·obtain⟨v6,w6,o6,n6,t6,y6,t7,y7,c6,w7,t8,y8,rfl⟩:=yXp hmz;simp only[go_sem,zE,zB,zA,zM,zS,zL,reduceCtorEq,fits,nat0,hN,decide_false,Bool.not_false];exact yQ0 ⟨rfl,rfl⟩
 ·have he:yXw s n=(tr0,230):=by rw[yXw,if_pos hc]
  rw[he] at hy ⊢;obtain⟨rule3,tl3,xl3,tr3,xr3,op3,fn3,ta3,xa3,tb3,xb3,v3,un3,tu3,xu3,nn3,ts3,xs3,rfl⟩:=yXf hy;simp only[go_sem,zE,zB,zA,zM,zS,zL,reduceCtorEq,fits,d23];refine (hsq _).mono ?_;rintro _ st ⟨rfl,rfl⟩;cases q3:(okT t&&decide (t.steps<=60))
  ·simp only[go_sem,zE,zB,zA,zM,zS,zL,reduceCtorEq,fits,q3];exact yQ0 ⟨rfl,rfl⟩
  rw[bAt,dTe] at q3;obtain⟨hok,hst⟩:=q3;have hd60:decide (t.steps<=60)=true:=dEt hst;simp only[go_sem,zE,zB,zA,zM,zS,zL,reduceCtorEq,fits,hok,hd60];refine (zVg gl G T t _ hy0 (yYh hok) (by omega) _).mono ?_;rintro _ st ⟨⟨mz,rfl,hmz⟩,rfl⟩;by_cases hN:(yV9 t).2=0
  ·obtain⟨n1,n2,n3,n4⟩:=yG5 hN;rw[n4] at hmz ⊢;obtain⟨r1,r2,_⟩:=zJy n1 n2 n3;rw[hts] at r1 n3;have hw4:wFms s'.l+wFms s'.r<=300:=by
    rw[ht,okT,bAt] at hok;exact (yJb hok.1).1
   have hTr:=λst=>zVe gl G s' (.agg [.sl tl' xl',.sl tr1' xr']) ⟨_,_,_,_,rfl,f1,j1,f2,j2⟩ hw4 (yZd t) mz hmz (by omega) st;obtain⟨v6,w6,o6,n6,t6,y6,t7,y7,c6,w7,t8,y8,rfl⟩:=yXp hmz;simp only[go_sem,zE,zB,zA,zM,zS,zL,reduceCtorEq,fits,d0];refine (hTr _).mono ?_;rintro _ st ⟨⟨xz,rfl,hxz,_⟩,rfl⟩;by_cases hb:bigT (yQk s') (yZd t)=true
   ·have he:yXw s' (yZd t)=(tr0,5):=by rw[yXw,if_neg (by rw[r1];decide),if_pos hb]
    rw[he] at hxz ⊢;obtain⟨rule7,tl7,xl7,tr7,xr7,op7,fn7,ta7,xa7,tb7,xb7,v7,un7,tu7,xu7,nn7,ts7,xs7,rfl⟩:=yXf hxz;simp only[go_sem,zE,zB,zA,zM,zS,zL,reduceCtorEq,fits,d5,d5'];exact yQ0 ⟨rfl,rfl⟩
   ·have he:yXw s' (yZd t)=(yXa (yQk s') (yZd t),0):=by rw[yXw,if_neg (by rw[r1];decide),if_neg hb]
    rw[he] at hxz ⊢;obtain⟨c1,_,c3⟩:=yJ9 (s:=s') (n:=yZd t) (by rw[r1]);have hNAx:=yUb (yZd t) (yQk s') [] c3 (yX4 c1) (yVg hw4);have hsx:=(yJs (yZd t) _ _ c3).1;have hall:=(yKj.1 n1).2.2;have hwd:zVd (yXa (yQk s') (yZd t)) t:=back t (yQk s') (by rw[hts];exact⟨λf hf=>yZh.2 ⟨rfl,.inl ⟨rfl,hf⟩⟩,λf hf=>yZh.2 ⟨rfl,.inr ⟨rfl,hf⟩⟩⟩) hall n2;have hWc:=λst=>zJ7 gl G _ t hwd xz _ hxz hy0 hNAx (yYh hok) (by omega) st;obtain⟨rule7,tl7,xl7,tr7,xr7,op7,fn7,ta7,xa7,tb7,xb7,v7,un7,tu7,xu7,nn7,ts7,xs7,rfl⟩:=yXf hxz;simp only[go_sem,zE,zB,zA,zM,zS,zL,reduceCtorEq,fits,d0];refine (hWc _).mono ?_;rintro _ st ⟨rfl,rfl⟩;simp only[go_sem,zE,zB,zA,zM,zS,zL,reduceCtorEq,fits];exact yQ0 ⟨rfl,rfl⟩
  ·obtain⟨v6,w6,o6,n6,t6,y6,t7,y7,c6,w7,t8,y8,rfl⟩:=yXp hmz;simp only[go_sem,zE,zB,zA,zM,zS,zL,reduceCtorEq,fits,nat0,hN,decide_false,Bool.not_false];exact yQ0 ⟨rfl,rfl⟩
end Go.Proofs.Tryz
namespace Go.Proofs.Tryz
open Go Go.Iv Go.ChangeShapes
open Go.Proofs.YtddfdpbibloljaaGreatDoor.Rows (uptoBulk uptoBulkAll)
set_option maxRecDepth 4000
theorem uSeq:prog.underlying 24=some (.struct #[⟨ "Left",22,0,false, "", "",0⟩,⟨ "Right",22,1,false, "", "",24⟩]):=by kernel_rfl
theorem vJd:prog.underlying 37=some (.struct #[⟨ "Rule",5,0,false, "", "",0⟩,⟨ "Seq",24,1,false, "", "",8⟩,⟨ "Main",27,3,false, "", "",56⟩,⟨ "Term",34,7,false, "", "",128⟩,⟨ "Name",9,10,false, "", "",176⟩,⟨ "Sub",35,11,false, "", "",192⟩]):=by kernel_rfl
theorem vJc:prog.underlying 35=some (.slice 37):=by kernel_rfl
theorem nSeq:prog.cellsOf 24=2:=by kernel_rfl
theorem vKk:prog.cellsOf 37=12:=by kernel_rfl
mutual
theorem xKs:∀t:Tm,wTm t<=2*xU3 t
 | .mk _ n us=>by have:=zJ9 us;simp only[wTm,xU3];omega
theorem zJ9:∀l:List Tm,wTms l<=2*yU8 l
 | []=>Nat.le_refl _
 | a::l=>by have:=xKs a;have:=zJ9 l;simp only[wTms,yU8];omega
end
mutual
theorem zYo:∀f:Fm,wFm f<=2*xU4 f
 | .mk _ n us sub=>by have:=zJ9 us;have:=yUu sub;simp only[wFm,xU4];omega
theorem yUu:∀l:List Fm,wFms l<=2*zQt l
 | []=>Nat.le_refl _
 | a::l=>by have:=zYo a;have:=yUu l;simp only[wFms,zQt];omega
end
section
variable {H:Type}{enc:TypeId×Value->H}{w:World}{spare:Nat->Bool}{held:Bool}
def RQ (d:DataW H)(s:Sq)(x:IV):Prop:=IsSq s x/\wFms s.l+wFms s.r<=2*uptoBulk d
theorem wYg (fuel:Nat)(cs:List Value)(y:DataW H×List MemPlace)(h:DataW.trod enc prog w 0 spare held fuel 24 cs=some y)(hb:uptoBulk y.1<=1048576):∃s x,VL 0 (L0 w) w cs x.cells/\RQ y.1 s x:=by
 obtain⟨ys,n,rfl,rfl,hl,hlen,hf⟩:=DataW.trod_struct uSeq h
 match ys,hlen with
 | [y0,y1],_ =>
  rw[nSeq] at hl
  match cs,hl with
  | [c0,c1],_ =>
   have h0:=hf 0 _ rfl;have h1:=hf 1 _ rfl;simp only[List.getElem?_cons_zero,List.getElem?_cons_succ] at h0 h1;simp only[List.map_cons,List.map_nil,uptoBulk,uptoBulkAll] at hb;obtain⟨v0,tg0,xs0,l0,e0,hv0,ht0,hl0,hb0⟩:=zGw h0 (by omega) (λm _=>zGx m);obtain⟨v1,tg1,xs1,l1,e1,hv1,ht1,hl1,hb1⟩:=zGw h1 (by omega) (λm _=>zGx m);cases e0;cases e1;refine⟨⟨l0,l1⟩,.agg [.sl tg0 xs0,.sl tg1 xs1],VL.cons hv0 (VL.cons hv1 VL.nil),⟨tg0,xs0,tg1,xs1,rfl,ht0,hl0,ht1,hl1⟩,?_⟩;have:=yUu l0;have:=yUu l1;simp only[List.map_cons,List.map_nil,uptoBulk,uptoBulkAll];omega
theorem xZ8:∀ {us:List Tr}{xs:List IV},us.length=xs.length->(∀(i:Nat)(a:Tr)(x:IV),us[i]?=some a->xs[i]?=some x->IsTr a x)->IsTrs us xs
 | [],xs,h,_=>by simpa[IsTrs] using h.symm
 | a::us,[],h,_=>by simp at h
 | a::us,x::xs,h,hh=>⟨x,xs,rfl,hh 0 a x rfl rfl,xZ8 (by simpa using h) (λi b y hb hy=>hh (i+1) b y (by simpa using hb) (by simpa using hy))⟩
theorem xKq:∀ {us:List Tr}{ds:List (DataW H)},us.length=ds.length->(∀(i:Nat)(a:Tr)(d:DataW H),us[i]?=some a->ds[i]?=some d->wTr a+a.steps<=2*uptoBulk d)->wTrs us+yQq us<=2*uptoBulkAll ds
 | [],ds,h,_=>by simp[wTrs,yQq]
 | a::us,[],h,_=>by simp at h
 | a::us,x::xs,h,hh=>by
  have h1:=hh 0 a x rfl rfl;have h2:=xKq (us:=us) (ds:=xs) (by simpa using h) (λi b y hb hy=>hh (i+1) b y (by simpa using hb) (by simpa using hy));simp only[wTrs,yQq,uptoBulkAll];omega
def RR (d:DataW H)(t:Tr)(x:IV):Prop:=IsTr t x/\wTr t+t.steps<=2*uptoBulk d
theorem RR.cells {d:DataW H}{t:Tr}{x:IV}(h:RR d t x):x.cells.length=12:=by
 obtain⟨_,_,_,_,_,_,_,_,_,_,_,_,_,_,_,_,_,_,rfl⟩:=yXf h.1;rfl
theorem wKj {fuel:Nat}{cs:List Value}{y:DataW H×List MemPlace}(h:DataW.trod enc prog w 0 spare held fuel 35 cs=some y)(hb:uptoBulk y.1<=1048576)
  (IH:∀(n:Nat),n<fuel->∀(cs:List Value) (y:DataW H×List MemPlace),DataW.trod enc prog w 0 spare held n 37 cs=some y->uptoBulk y.1<=1048576->∃t x,VL 0 (L0 w) w cs x.cells/\RR y.1 t x) :
  ∃v tg xs ts,cs=[v]/\V 0 (L0 w) w v (.sl tg xs)/\okEs tg 12/\IsTrs ts xs/\wTrs ts+yQq ts+1<=2*uptoBulk y.1:=by
 obtain⟨v,tg,xs,ts,rfl,hv,htg,hl,hc⟩:=zGf (H:=H) (P:=prog) (d:=y.1) (p:=y.2) RR vJc vKk (by decide) h (λelems sp e=>by
   have:=yJk elems sp;have:=yGa elems;rw[<- e] at *;omega) (λd t x h=>h.cells) (λn hn cs' z q ⟨elems,sp,he,hm⟩ hz=>by
   have:=yJk elems sp;have:=zK3 hm;rw[he] at hb;exact IH n (by omega) cs' (z,q) hz (show uptoBulk z<=1048576 by omega))
 refine⟨v,tg,xs,ts,rfl,hv,htg,?_⟩;rcases hc with⟨hd,rfl⟩|⟨elems,sp,hd,hel,hr⟩
 ·obtain rfl:ts=[]:=List.length_eq_zero_iff.1 (by simpa using hl);exact⟨rfl,by rw[hd];simp[wTrs,yQq,uptoBulk]⟩
 ·have hi:∀(i:Nat) (a:Tr),ts[i]?=some a->∃x d,xs[i]?=some x/\elems[i]?=some d/\RR d a x:=λi a ha=>by
   have hi:=(lGs ha).1;exact⟨_,_,List.getElem?_eq_getElem (by omega),List.getElem?_eq_getElem (by omega),hr i _ _ _ (List.getElem?_eq_getElem (by omega)) ha (List.getElem?_eq_getElem (by omega))⟩
  refine⟨xZ8 hl (λi a x ha hx=>?_),?_⟩
  ·obtain⟨x',d,h1,h2,h3⟩:=hi i a ha;rw[hx] at h1;cases h1;exact h3.1
  ·have:=xKq (us:=ts) (ds:=elems) (by omega) (λi a d ha hd'=>by
    obtain⟨x',d',h1,h2,h3⟩:=hi i a ha;rw[hd'] at h2;cases h2;exact h3.2)
   have:=yJk elems sp;grind
theorem cs12 {cs:List Value}(h:cs.length=12):∃a b c d e f g h i j k l,cs=[a,b,c,d,e,f,g,h,i,j,k,l]:=by
 match cs,h with
 | [a,b,c,d,e,f,g,h,i,j,k,l],_=>exact⟨a,b,c,d,e,f,g,h,i,j,k,l,rfl⟩
theorem wGy:∀(fuel:Nat)(cs:List Value)(y:DataW H×List MemPlace),DataW.trod enc prog w 0 spare held fuel 37 cs=some y->uptoBulk y.1<=1048576->∃t x,VL 0 (L0 w) w cs x.cells/\RR y.1 t x:=by
 intro fuel
 induction fuel using Nat.strongRecOn with
 | ind fuel IH =>
  intro cs y h hb;obtain⟨ys,n,rfl,rfl,hl,hlen,hf⟩:=DataW.trod_struct vJd h
  match ys,hlen with
  | [y0,y1,y2,y3,y4,y5],_ =>
   rw[vKk] at hl;obtain⟨c0,c1,c2,c3,c4,c5,c6,c7,c8,c9,c10,c11,rfl⟩:=cs12 hl;have h0:=hf 0 _ rfl;have h1:=hf 1 _ rfl;have h2:=hf 2 _ rfl;have h3:=hf 3 _ rfl;have h4:=hf 4 _ rfl;have h5:=hf 5 _ rfl;simp only[List.getElem?_cons_zero,List.getElem?_cons_succ] at h0 h1 h2 h3 h4 h5;simp only[List.map_cons,List.map_nil,uptoBulk,uptoBulkAll] at hb;obtain⟨op,e0,rfl,hop⟩:=DataW.trod_int uU8 h0;obtain⟨s,xs,hvs,hs1,hs2⟩:=wYg n _ _ h1 (by omega);obtain⟨f,xf,hvf,hf1,hf2⟩:=zGx n _ _ h2 (by omega);obtain⟨t,xt,hvt,ht1,ht2⟩:=wQ0 n _ _ h3 (by omega);obtain⟨nm,e4,hn,hn2⟩:=wQ6 h4 (by omega);obtain⟨v,tg,xb,ts,e5,hv,htg,hts,hbk⟩:=wKj h5 (by omega) (λm hm=>IH m (by omega));cases e0;cases e4;cases e5;have hop:0<=op/\op<256:=by
    simp only[Lit.wf,IntKind.min,IntKind.max,IntKind.signed,IntKind.bits,bAt] at hop;grind
   obtain⟨k,rfl⟩:=Int.eq_ofNat_of_zero_le hop.1;obtain⟨tl,xl,tr,xr,rfl,k1,k2,k3,k4⟩:=hs1;have hf0:=hf1;have ht0:=ht1;obtain⟨o,fn,us,sub⟩:=f;obtain⟨ta,xa,tb,xb',rfl,_⟩:=hf1.mk;obtain⟨b,un,uu⟩:=t;obtain⟨tu,xu,rfl,_⟩:=ht1.mk;refine⟨.mk k s (.mk o fn us sub) (.mk b un uu) nm ts,.agg [.raw (.int .u8 k),.sl tl xl,.sl tr xr,.raw (.int .u8 o),.raw (.string fn),.sl ta xa,.sl tb xb',.raw (.bool b),.raw (.string un),.sl tu xu,.raw (.string nm),.sl tg xb],
    VL.cons (.raw _ trivial) (hvs.append (hvf.append (hvt.append (VL.cons hn (VL.cons hv VL.nil))))),?_,?_⟩
   ·simp only[IsTr];grind
   ·have:=zYo (.mk o fn us sub);have:=xKs (.mk b un uu);simp only[List.map_cons,List.map_nil,uptoBulk,uptoBulkAll,wTr,Tr.steps];omega
end
end Go.Proofs.Tryz
namespace Go.Proofs.Tryz
open Go Go.Iv Go.ChangeShapes Go.RowKit
open Go.Proofs.YtddfdpbibloljaaGreatDoor
set_option maxRecDepth 8000
theorem uRow:prog.underlying 193=some (.struct #[⟨ "right",4,0,false, "", "lyceum/syntax",0⟩,⟨ "schema",4,1,false, "", "lyceum/syntax",1⟩,⟨ "name",5,2,false, "", "lyceum/syntax",2⟩,⟨ "args",3,3,false, "", "lyceum/syntax",8⟩,⟨ "subs",3,4,false, "", "lyceum/syntax",16⟩]):=by kernel_rfl
theorem uZo:prog.underlying 194=some (.array 17 193):=by kernel_rfl
theorem uInt:prog.underlying 3=some (.int .i64):=by kernel_rfl
theorem nRow:prog.cellsOf 193=5:=by kernel_rfl
theorem uVt:prog.cellsOf 194=85:=by kernel_rfl
theorem nInt:prog.cellsOf 3=1:=by kernel_rfl
theorem gRows:prog.globalNamed "lyceum/syntax.rows" = some 0:=by kernel_rfl
theorem gRowsT:(prog.globals[0]?).map (·.type)=some 194:=by kernel_rfl
theorem gPow:prog.globalNamed "internal/strconv.uint64pow10" = some 2:=by kernel_rfl
theorem gPowT:(prog.globals[2]?).map (·.type)=some 318:=by kernel_rfl
theorem uPow:prog.underlying 318=some (.array 20 295):=by kernel_rfl
theorem uU64:prog.underlying 295=some (.int .u64):=by kernel_rfl
theorem nPow:prog.cellsOf 318=20:=by kernel_rfl
theorem nU64:prog.cellsOf 295=1:=by kernel_rfl
section
variable {H:Type}{enc:TypeId×Value->H}{w:World}{spare:Nat->Bool}{held:Bool}
def rowD (op:Nat):DataW H:=.agg [.lit (.bool (yZe op)),.lit (.bool (zJw op)),.lit (.int .u8 (yXh op)),.lit (.int .i64 (yXc op)),.lit (.int .i64 (yXb op))]
def rowV (op:Nat):List Value:=[.bool (yZe op),.bool (zJw op),.int .u8 (yXh op),.int .i64 (yXc op),.int .i64 (yXb op)]
theorem wQt {fuel:Nat}{cs:List Value}{op:Nat}{p:List MemPlace}(h:DataW.trod enc prog w 0 spare held fuel 193 cs=some (rowD op,p)):cs=rowV op:=by
 obtain⟨ys,n,rfl,he,hl,hlen,hf⟩:=DataW.trod_struct uRow h
 match ys,hlen with
 | [y0,y1,y2,y3,y4],_ =>
  rw[nRow] at hl
  match cs,hl with
  | [c0,c1,c2,c3,c4],_ =>
   have h0:=hf 0 _ rfl;have h1:=hf 1 _ rfl;have h2:=hf 2 _ rfl;have h3:=hf 3 _ rfl;have h4:=hf 4 _ rfl;simp only[List.getElem?_cons_zero,List.getElem?_cons_succ] at h0 h1 h2 h3 h4;obtain⟨b0,e0,rfl⟩:=DataW.trod_bool xXg h0;obtain⟨b1,e1,rfl⟩:=DataW.trod_bool xXg h1;obtain⟨b2,e2,rfl,_⟩:=DataW.trod_int uU8 h2;obtain⟨b3,e3,rfl,_⟩:=DataW.trod_int uInt h3;obtain⟨b4,e4,rfl,_⟩:=DataW.trod_int uInt h4;cases e0;cases e1;cases e2;cases e3;cases e4;have he1:=congrArg Prod.fst he;simp only[rowD,List.map_cons,List.map_nil,DataW.agg.injEq,List.cons.injEq,DataW.lit.injEq,Lit.bool.injEq,Lit.int.injEq,true_and,and_true] at he1;obtain⟨rfl,rfl,rfl,rfl,rfl⟩:=he1;rfl
theorem wQs:(Rows.laid_lyceum_syntax_rows:DataW H)=.agg ((List.range 17).map rowD):=by rfl
theorem xYy {fuel:Nat}{cs:List Value}{p:List MemPlace}(h:DataW.trod enc prog w 0 spare held fuel 194 cs=some (Rows.laid_lyceum_syntax_rows,p)) :
  cs.length=85/\∀op,op<17->(cs.drop (op*5)).take 5=rowV op:=by
 obtain⟨ys,n,rfl,he,hl,hlen,hf⟩:=DataW.trod_array uZo h;rw[uVt] at hl;refine⟨hl,λop hop=>?_⟩;have h1:=hf op hop;rw[nRow] at h1;have he1:=congrArg Prod.fst he;rw[wQs] at he1;simp only[DataW.agg.injEq] at he1;have h2:(ys.map (·.1))[op]?=some (rowD op):=by
  rw[<- he1,List.getElem?_map,List.getElem?_range hop];rfl
 rw[List.getElem?_map] at h2;obtain⟨y,hy,hy2⟩:=Option.map_eq_some_iff.1 h2;rw[hy] at h1;obtain⟨y1,y2⟩:=y;simp only at hy2;subst hy2;exact wQt h1
end
def gl0:Nat->Option IV
 | 0=>some (.agg rowsL)
 | 2=>some (.agg pow10L)
 | _=>none
theorem G0:Gl gl0:=⟨rfl⟩
theorem T0:Gt gl0:=⟨rfl⟩
def X0 (w:World):WS:={ w:=w,L:=L0 w,st:=λ_=>none,d:=0 }
theorem xJ6 {cs:List Value}(hl:cs.length=85)(h:∀op,op<17->(cs.drop (op*5)).take 5=rowV op)(i:Nat)(r:Value)(c:IV)(hr:cs[i]?=some r)(hc:rowsL[i]?=some c):c=.raw r/\zZ1 r:=by
 have hi:i<85:=by have:=(lGs hr).1;omega
 have hop:i / 5<17:=by omega
 have e:i=i / 5*5+i%5:=by omega
 have hm:i%5<5:=Nat.mod_lt _ (by decide);have h1:(rowV (i / 5))[i%5]?=some r:=by
  rw[<- h _ hop,List.getElem?_take,if_pos hm,List.getElem?_drop,<- e];exact hr
 have h2:(rowI (i / 5))[i%5]?=some c:=by
  rw[<- (zWh _ hop).2,List.getElem?_take,if_pos hm,List.getElem?_drop,<- e];exact hc
 generalize i%5=k at h1 h2 hm
 match k,hm with
 | 0,_=>cases h1;cases h2;exact⟨rfl,trivial⟩
 | 1,_=>cases h1;cases h2;exact⟨rfl,trivial⟩
 | 2,_=>cases h1;cases h2;exact⟨rfl,trivial⟩
 | 3,_=>cases h1;cases h2;exact⟨rfl,trivial⟩
 | 4,_=>cases h1;cases h2;exact⟨rfl,trivial⟩
theorem uWl {W:World}(hL:laidMetH prog Rows.signsKeepsUptoRow.laid W):Go.Iv.Good ⟨prog,gl0,0⟩ (X0 W):=by
 obtain⟨ps,hlv,_⟩:=(show laidMet prog _ W from hL)
 obtain⟨_,_,_,_,_,_,_,_,_,_,hlv,_⟩:=hlv;obtain⟨_,_,_,_,_,_,_,_,_,_,hlv,_⟩:=hlv;obtain⟨g1,t1,cs1,f1,p1,q1,hg1,ht1,hv1,hd1,hlv,_⟩:=hlv;obtain⟨g2,t2,cs2,f2,p2,q2,hg2,ht2,hv2,hd2,_,_⟩:=hlv;obtain rfl:=Option.some.inj (gPow.symm.trans hg1);obtain rfl:=Option.some.inj (gPowT.symm.trans ht1);obtain rfl:=Option.some.inj (gRows.symm.trans hg2);obtain rfl:=Option.some.inj (gRowsT.symm.trans ht2);have hc1:=Lib.cells_of_tab (zs:=Lib.pow10Tab) uPow uU64 nU64 nPow hd1;have hc2:=xYy hd2;have hb:∀(n:String) (g:Nat) (cs:Array Value),prog.globalNamed n=some g->W.var? prog n=some cs->∃T f,W.heap[g]?=some (.cells cs T f):=by
  intro n g cs hn hv;unfold World.var? at hv;rw[hn,Option.bind_some] at hv;split at hv
  ·rename_i c t f hh;cases hv;exact⟨_,_,hh⟩
  ·cases hv
 obtain⟨T1,fr1,hh1⟩:=hb _ _ _ gPow hv1;obtain⟨T2,fr2,hh2⟩:=hb _ _ _ gRows hv2;have row:∀(g:Nat) (cs:Array Value) (T:TypeId) (f:Nat×Nat) (xs:List IV),W.heap[g]?=some (.cells cs T f)->cs.size=xs.length->(∀(i:Nat) (r:Value) (c:IV),cs.toList[i]?=some r->xs[i]?=some c->c=.raw r/\zZ1 r) →
   V 0 (L0 W) W (.pointer (some ⟨g,0,none⟩)) (.cptr (.agg xs)):=by
  intro g cs T f xs hh hl h;refine .cptr _ _ cs.toList rfl (by simpa[IV.cells] using hl) ?_ (λi r hr=>?_) (λi r c hr hc=>?_)
  ·show 0+cs.toList.length<=L0 W g;simp[L0,hh]
  ·show W.cell? ⟨g,0+i,none⟩=some r;simp only[World.cell?,hh,Nat.zero_add];simpa using hr
  ·obtain⟨rfl,hk⟩:=h i r c hr hc;exact .raw _ hk
 have hp:∀(i:Nat) (r:Value) (c:IV),cs1.toList[i]?=some r->pow10L[i]?=some c->c=.raw r/\zZ1 r:=by
  intro i r c hr hc;rw[hc1,List.getElem?_map] at hr;unfold pow10L at hc;rw[List.getElem?_map] at hc;obtain⟨z,hz,rfl⟩:=Option.map_eq_some_iff.1 hr;rw[hz] at hc;cases hc;exact⟨rfl,trivial⟩
 have hs1:cs1.size=pow10L.length:=by
  rw[<- Array.length_toList,hc1];simp[pow10L]
 have hs2:cs2.size=rowsL.length:=by
  rw[<- Array.length_toList,hc2.1];rfl
 refine⟨λb o h=>(by cases h),λg x hx=>?_,Nat.zero_le _,λb hb=>?_,λg x hx=>?_,λ_=>Nat.zero_le _⟩
 ·match g,hx with
  | 0,hx=>cases hx;exact row 0 cs2 T2 fr2 _ hh2 hs2 (λi r c hr hc=>xJ6 hc2.1 hc2.2 i r c hr hc)
  | 2,hx=>cases hx;exact row 2 cs1 T1 fr1 _ hh1 hs1 hp
 ·show L0 W b=0;unfold L0;rw[Array.getElem?_eq_none (show W.heap.size<=b from hb)]
 ·match g,hx with
  | 0,hx=>cases hx;exact⟨T2,fr2 == (0,0),by show shq W 0=_;simp[shq,hh2,hs2,IV.cells]⟩
  | 2,hx=>cases hx;exact⟨T1,fr1 == (0,0),by show shq W 2=_;simp[shq,hh1,hs1,IV.cells]⟩
theorem xX0 {W:World}{X':WS}(h:Ext (X0 W) X'):Below W.heap.size W X'.w :=
 ⟨h.os,h.tape,h.output,h.size,λk hk=>(h.keep k hk rfl).1⟩
theorem vQc:laidOutB prog=true:=by kernel_rfl
theorem yUx {H:Type}{enc:TypeId×Value->H}{W W':World}(hb:Below W.heap.size W W')(sp:Nat->Bool):∀ {ts:List TypeId} {vs:List Value} {ds:List (DataW H)} {ps:List MemPlace},
  (∀t∈ts,prog.readableRec t=true/\t<prog.types.size)->DataW.TrodAll enc prog W 0 (λ_=>true) true ts vs ds ps->(∀p∈ps,p.block<W.heap.size)->(∀p∈ps,sp p.block=true) →
  DataW.TrodAll enc prog W' 0 sp true ts vs ds ps
 | [],vs,ds,ps,_,h,_,_=>by
  obtain⟨rfl,rfl,rfl⟩:=trodAll_nil h;rfl
 | t::ts,vs,ds,ps,ht,h,hlt,hsp=>by
  obtain⟨v,vs1,d,ds1,a,b,rfl,rfl,rfl,h1,h2⟩:=trodAll_cons h;refine⟨a,b,WideElems.Trod_stays vQc (ht t (by simp)).1 (ht t (by simp)).2 h1 (λp hp=>hb.same (hlt p (by simp[hp]))) (λp hp=>hsp p (by simp[hp])),?_,rfl⟩;exact yUx hb sp (λt h=>ht t (by simp[h])) h2 (λp hp=>hlt p (by simp[hp])) (λp hp=>hsp p (by simp[hp]))
theorem wVs {H:Type}{enc:TypeId×Value->H}{f:Func}{s:ChangeSpec}{fid:FuncId}{W:World}{args:Array Value}{ds gs:List (DataW H)}{before:List MemPlace}{ivs:List IV}
  (hvars:s.vars=[]) (hW:DataW.Whole enc prog f.params.toList s.vars false W args.toList ds gs before) (hfn:s.fn H (ds++gs)={ results:=[.lit (.bool true)],args:=ds })
  (hres:f.resultTypes=#[4]) (hread:∀t∈f.params.toList,prog.readableRec t=true/\t<prog.types.size) (hg:Go.Iv.Good ⟨prog,gl0,0⟩ (X0 W)) (hv:VL 0 (L0 W) W args.toList ivs)
  (hc:ICall prog gl0 fid ivs (λ_=>none) (λr st'=>r=.raw (.bool true)/\st'=λ_=>none)) :
  Calls prog fid args W λe W'=>∃v,e=.returned v/\s.post enc prog f false true false false W args v W':=by
 refine (hc 0 (X0 W) args.toList hg rfl hv).mono ?_;rintro e W' ⟨v,rfl,X',x,rfl,hg',he,hx,rfl,_⟩;obtain rfl:=V.raw_inv hx;have hb:=xX0 he;refine⟨_,rfl,?_⟩;have hW':=hW;obtain⟨p,q,hA,hV,rfl,hz,_⟩:=hW;rw[hvars] at hV;have hgs:gs=[]/\q=[]:=by
  cases gs with
  | nil=>exact⟨rfl,hV⟩
  | cons _ _=>exact absurd hV (by simp[DataW.TrodVars])
 obtain⟨rfl,rfl⟩:=hgs;have hlt:∀x∈p,x.block<W.heap.size:=λx hx=>by simpa using hW'.lt x (by simpa using hx)
 have hargs:∀sp:Nat->Bool,(∀x∈p,sp x.block=true)->DataW.TrodAll enc prog X'.w 0 sp true f.params.toList args.toList (s.fn H (ds++[])).args p:=λsp hsp=>by
  rw[hfn];exact yUx hb sp hread hA hlt hsp
 have hr:∀(b:Nat) (sp:Nat->Bool) (hd:Bool),DataW.TrodAll enc prog X'.w b sp hd f.resultTypes.toList ((Value.bool true).resultList f.resultTypes.size) (s.fn H (ds++[])).results []:=λ_ _ _=>by
  rw[hfn,hres];exact trodAll_cons_mk (shut_bool xXg _) trodAll_mk0
 have hvs:∀sp:Nat->Bool,DataW.TrodVars enc prog X'.w sp s.vars (s.fn H (ds++[])).vars []:=λ_=>by
  rw[hvars,hfn];rfl
 have hsz:∀x∈p,(λb=>decide (b<W.heap.size)) x.block=true:=λx hx=>by simpa using hlt x hx
 refine⟨ds,[],p++[],[],p,[],hW',hr _ _ _,hargs _ hsz,hvs _,World.keptBut_mono (λx hx=>⟨hx,Or.inr (by simpa using hx)⟩) (hb.frame (·∈p++[])),λ_=>⟨ok_one hres rfl (okWide_bool_mk xXg _),_,_,([]++p)++[],
  ⟨[]++p,[],trodAll_append (hargs _ (λ_ _=>rfl)) (hr _ _ _),hvs _,rfl,?_,λh=>by cases h⟩,λx hx _=>by simpa using hx⟩⟩
 intro b off hp;rw[hb.frozen (p:=⟨b,off,none⟩) (hlt (.cell b off) (by simpa using hp))];exact hz b off (by simpa using hp)
theorem wUc {W:World}{base:Nat}{v:Value}{s:Sq}{x:IV}(h:Value.okWide prog W .any base 24 v)(hx:VL 0 (L0 W) W v.cells.toList x.cells)(hf:IsSq s x):V 0 (L0 W) W v x:=by
 obtain⟨cs,rfl,_⟩:=WideShapes.okWide_struct uSeq h;obtain⟨_,_,_,_,rfl,_⟩:=hf;cases cs;exact hx.agg
theorem wKk {W:World}{base:Nat}{v:Value}{t:Tr}{x:IV}(h:Value.okWide prog W .any base 37 v)(hx:VL 0 (L0 W) W v.cells.toList x.cells)(hf:IsTr t x):V 0 (L0 W) W v x:=by
 obtain⟨cs,rfl,_⟩:=WideShapes.okWide_struct vJd h;obtain⟨_,_,_,_,_,_,_,_,_,_,_,_,_,_,_,_,_,_,rfl⟩:=yXf hf;cases cs;exact hx.agg
def tab32:List Int:=[0,1,28,2,29,14,24,3,30,22,20,15,25,17,4,8,31,27,13,23,21,19,16,7,26,12,18,6,11,5,10,9]
def tab64:List Int:=[0,1,56,2,57,49,28,3,61,58,42,50,38,29,17,4,62,47,59,36,45,43,51,22,53,39,33,30,24,18,12,5,63,55,48,27,60,41,37,16,46,35,44,21,52,32,23,11,54,26,40,15,34,20,31,10,25,14,19,9,13,8,7,6]
def lay (cs:List Value):Obj->Obj
 | .cells _ t frozen=>.cells cs.toArray t frozen
 | o=>o
noncomputable def zKd (os:Os):World :=
 { World.holding prog os ⟨#[],#[],[]⟩ with heap:=((((World.holding prog os ⟨#[],#[],[]⟩).heap.modify 0 (lay ((List.range 17).flatMap rowV))).modify 2 (lay (Lib.pow10Tab.map λz=>.int .u64 z))).modify 3 (lay (tab32.map λz=>.int .u8 z))).modify 4 (lay (tab64.map λz=>.int .u8 z)) }
theorem wVt (os:Os)(args:Array Value):laidMet prog Rows.signsKeepsUptoRow.laid ((zKd os).forCall (λ_ _=>0) ⟨#[],args,[]⟩).memory :=
 laidMet_of_run' 8 (by kernel_rfl) (by kernel_rfl)
end Go.Proofs.Tryz
namespace Go.Proofs.Tryz
open Go Go.Iv
set_option maxRecDepth 4000
theorem zV9:∀l:List IV,(∀x∈l,∃v,x=.raw v)->ages l=l
 | [],_=>rfl
 | x::l,h=>by
  obtain⟨v,rfl⟩:=h x (by simp);simp only[ages,age,zV9 l λy hy=>h y (by simp[hy])]
theorem wWj:∀g x,gl0 g=some x->age x=x:=by
 intro g x hx
 match g,hx with
 | 0,hx =>
  cases hx;simp only[age];rw[zV9 _ λy hy=>?_];obtain⟨op,_,hy⟩:=List.mem_flatMap.1 hy;unfold rowI at hy;simp only[List.mem_cons,List.not_mem_nil,or_false] at hy;rcases hy with rfl|rfl|rfl|rfl|rfl<;>exact⟨_,rfl⟩
 | 2,hx =>
  cases hx;simp only[age];rw[zV9 _ λy hy=>?_];obtain⟨z,_,rfl⟩:=List.mem_map.1 hy;exact⟨_,rfl⟩
