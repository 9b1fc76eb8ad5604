/- Walks: goals, right steps of sketches. -/
import Derived.Test.YtdbmgeebmfpmpaaGreatDoorQF
set_option linter.all false
open Nat renaming reduceEqDiff → zE,reduceBEq → zB,reduceAdd → zA,reduceMul → zM,reduceSub → zS,reduceLeDiff → zL
namespace Go.Proofs.Tryz
open Go Go.Iv
set_option maxRecDepth 4000
variable (gl:Nat->Option IV)
theorem zUd:IsTm tmZ (.agg [.raw (.bool false),.raw (.string ⟨#[]⟩),.sl ⟨true,.nil,0⟩ []]):=⟨_,_,rfl,.inl rfl,rfl⟩
theorem vKs (t:Tr)(x:IV)(hx:IsTr t x)(st:ISt):ICall prog gl 51 [x] st (λr st'=>r=.raw (.bool (zVm t))/\st'=st):=by
 obtain⟨rule,sq,f,u,n,sub⟩:=t;obtain⟨tl,xl,tr,xr,op,fn,ta,xa,tb,xb,v,un,tu,xu,ts,xs,rfl,_,_,_,_,_,hf,_,e3,i3⟩:=hx.mk;have hS:=λst=>wQt gl f fm0 _ _ hf xGy st;have hl:=i3.len;refine iI func51 ?_;by_cases h0:rule=0
 ·have d0:decide ((rule:Int)=0)=true:=dEt (by omega);by_cases h1:sub=[]
  ·have d1:decide ((xs.length:Int)=0)=true:=by rw[hl,h1];rfl
   simp only[go_sem,zE,zB,zA,zM,zS,zL,reduceCtorEq,fits,d0,d1];intro _;refine (hS _).mono ?_;rintro _ _ ⟨rfl,rfl⟩;simp only[go_sem,zE,zB,zA,zM,zS,zL,reduceCtorEq];exact yQ0 ⟨by simp[zVm,h0,h1],rfl⟩
  ·have hp:0<sub.length:=List.length_pos_iff.2 h1;have d1:decide ((xs.length:Int)=0)=false:=dEf (by omega);simp only[go_sem,zE,zB,zA,zM,zS,zL,reduceCtorEq,fits,d0,d1];intro _;exact yQ0 ⟨by simp[zVm,h1],rfl⟩
 ·have d0:decide ((rule:Int)=0)=false:=dEf (by omega);simp only[go_sem,zE,zB,zA,zM,zS,zL,reduceCtorEq,fits,d0];exact yQ0 ⟨by simp[zVm,h0],rfl⟩
theorem xQt:∀(l:List Tr)(i:Nat),(∀a∈l,yJm a.sq)->(∀q∈yQn [] i (l.map λp=>goalT p.sq),zWa q.2)/\yXq (l.map λp=>goalT p.sq)<=1
 | [],_,_=>⟨nofun,Nat.zero_le _⟩
 | a::l,i,ha=>by
  obtain⟨k1,k2⟩:=xQt l (i+1) λb hb=>ha b (.tail _ hb);simp only[List.map_cons,yQn,Tr.walk,yXq,Tr.height];refine⟨λq hq=>?_,by omega⟩;rcases List.mem_append.1 hq with hq|hq
  ·rcases List.mem_cons.1 hq with rfl|hq
   ·exact⟨ha a (.head _),by show fm0.size<=1000000;decide,by show tmZ.size<=1000000;decide,nofun⟩
   ·cases hq
  ·exact k1 q hq
theorem wV3 {t:Tr}(h:zWa t):xJn (shal t):=by
 obtain⟨rule,sq,f,u,n,sub⟩:=t;obtain⟨h1,h2,_,h4⟩:=h;have hz:tmZ.size<=1000000:=by decide
 obtain⟨k1,k2⟩:=xQt sub 0 h4;refine⟨λq hq=>?_,?_⟩
 ·simp only[shal,Tr.walk] at hq;rcases List.mem_cons.1 hq with rfl|hq
  ·refine⟨h1,h2,hz,λa ha=>?_⟩;obtain⟨b,hb,rfl⟩:=List.mem_map.1 ha;exact h4 b hb
  ·exact k1 q hq
 ·simp only[shal,Tr.height];omega
theorem wWb (G:Gl gl)(T:Gt gl)(ca:Nat)(t:Tr)(x:IV)(hx:IsTr t x)(hn:zWa t)(hl:t.steps<=1000000)(st:ISt):ICall prog gl 25 [.raw (.int .u8 (ca:Int)),x] st (λr st'=>r=.raw (.bool (yJb ca t))/\st'=st):=by
 have hg:=λst=>vKs gl t x hx st;have hck:=λy hy st=>wKl gl G T ca (shal t) y hy (wV3 hn) st;obtain⟨rule,sq,f,u,n,sub⟩:=t;have hfq:=hn.1;obtain⟨tl,xl,tr,xr,op,fn,ta,xa,tb,xb,v,un,tu,xu,ts,xs,rfl,hru,e1,i1,e2,i2,hf,_,e3,i3⟩:=hx.mk;have hv:=λst=>xKb gl G ca sq _ ⟨_,_,_,_,rfl,e1,i1,e2,i2⟩ hfq st;have hsl:=yVa sub;simp only[Tr.steps] at hl;refine iI func25 ?_;simp only[go_sem,zE,zB,zA,zM,zS,zL,reduceCtorEq,fits];refine (hg _).mono ?_;rintro _ st ⟨rfl,rfl⟩;cases hb:zVm (.mk rule sq f u n sub)
 ·simp only[go_sem,zE,zB,zA,zM,zS,zL,reduceCtorEq,fits,i3.len];intro _;refine LoopC.ctr sub.length (λk fr st' ds=>(∃t y,fr 5=.box [.raw (.int .u8 rule),.sl tl xl,.sl tr xr,.raw (.int .u8 op),.raw (.string fn),.sl ta xa,.sl tb xb,.raw (.bool false),.raw (.string ⟨#[]⟩),.sl ⟨true,.nil,0⟩ [],.raw (.string ⟨#[]⟩),.sl t y]/\own st' t k 12 st/\subSt st st'/\IsTrs ((sub.take k).map λp=>goalT p.sq) y/\y.length=k) /\
   fr 0=.iv (.raw (.int .u8 ca))/\fr 24=.iv (.sl ts xs)/\fr 25=.iv (.raw (.int .i64 (sub.length:Int)))/\fr 26=.iv (.raw (.int .i64 (k:Int)))/\ds=[]) ?_ ?_ ?_
  ·simp only[go_sem,zE,zB,zA,zM,zS,zL,reduceCtorEq];exact⟨⟨_,_,rfl,own.nil ..,subSt.refl _,rfl,rfl⟩,rfl⟩
  ·rintro k fr st1 _ hlk ⟨⟨t,y,f5,hown,hsub,hy,hyl⟩,f0,f24,f25,f26,rfl⟩;obtain⟨a,ha⟩:=yQ1 hlk;obtain⟨z,hkz,hz⟩:=i3.get ha;obtain⟨rule',sq',f',u',n',sub'⟩:=a;obtain⟨tl',xl',tr',xr',op',fn',ta',xa',tb',xb',v',un',tu',xu',ts',xs',rfl,_,e1',i1',e2',i2',_⟩:=hz.mk;simp only[go_sem,zE,zB,zA,zM,zS,zL,reduceCtorEq,f5,f0,f24,f25,f26,fits,lt_i hlk,yQ4 e3,iNn,hkz,yQ3];refine yZf hown hyl hsub rfl (by simp[fits,IV.one]) (by simp only;omega) (by omega) λt' st3 w1 w2 w3=>?_;simp only[go_sem,zE,zB,zA,zM,zS,zL,reduceCtorEq,f5,f0,f24,f25,f26,fits,yQd hlk (show sub.length<=281474976710656 by omega)];refine⟨t',_,rfl,w1,w2,?_,by rw[lLa,hyl];rfl⟩;rw[yQ8 ha,List.map_append,List.map_singleton];refine hy.append ?_;simp only[IsTrs];exact⟨_,[],rfl,⟨_,_,_,_,_,_,_,_,_,_,_,_,_,_,_,_,rfl,by omega,e1',i1',e2',i2',xGy,zUd,.inl rfl,rfl⟩,rfl⟩
  ·rintro fr st1 _ ⟨⟨t,y,f5,hown,hsub,hy,hyl⟩,f0,f24,f25,f26,rfl⟩;rw[lTl] at hy;have hsh:IsTr (shal (.mk rule sq f u n sub)) (.agg [.raw (.int .u8 rule),.sl tl xl,.sl tr xr,.raw (.int .u8 op),.raw (.string fn),.sl ta xa,.sl tb xb,.raw (.bool false),.raw (.string ⟨#[]⟩),.sl ⟨true,.nil,0⟩ [],.raw (.string ⟨#[]⟩),.sl t y]) :=
    ⟨_,_,_,_,_,_,_,_,_,_,_,_,_,_,_,_,rfl,hru,e1,i1,e2,i2,hf,zUd,hown.es,hy⟩
   simp only[go_sem,zE,zB,zA,zM,zS,zL,reduceCtorEq,f5,f0,f25,f26,fits,yQl (nLi _)];refine (hck _ hsh _).mono ?_;rintro _ st2 ⟨⟨tg,rfl,htg⟩,rfl⟩;by_cases h0:(yXl ca (shal (.mk rule sq f u n sub))).2=0
   ·have d0:decide (((yXl ca (shal (.mk rule sq f u n sub))).2:Int)=0)=true:=dEt (by omega);simp only[go_sem,zE,zB,zA,zM,zS,zL,reduceCtorEq,fits,d0];exact yQg hsub ⟨by simp[yJb,hb,h0],rfl⟩
   ·have d0:decide (((yXl ca (shal (.mk rule sq f u n sub))).2:Int)=0)=false:=dEf (by omega);simp only[go_sem,zE,zB,zA,zM,zS,zL,reduceCtorEq,fits,d0,yXn];intro _;refine yQg hsub ⟨?_,rfl⟩;simp[yJb,hb,h0]
 ·simp only[go_sem,zE,zB,zA,zM,zS,zL,reduceCtorEq,fits];refine (hv _).mono ?_;rintro _ _ ⟨rfl,rfl⟩;simp only[go_sem,zE,zB,zA,zM,zS,zL,reduceCtorEq];exact yQ0 ⟨by simp[yJb,hb,Tr.sq],rfl⟩
theorem xWk (us:List Fm)(tg:Tag)(xs:List IV)(htg:okEs tg 4)(hxs:IsFms us xs)(hsz:yQb us<=1000000)(st:ISt) :
  ICall prog gl 84 [.sl tg xs] st (λr st'=>(∃tg' ys,r=.sl tg' ys/\okEs tg' 4/\IsFms us ys)/\st'=st):=by
 have hlsz:=yXf us;refine iI func84 ?_;simp only[go_sem,zE,zB,zA,zM,zS,zL,reduceCtorEq,hxs.len];intro _;refine LoopC.ctr us.length (λk fr st' ds=>(∃tg' ys,fr 3=.iv (.sl tg' ys)/\IsFms (us.take k) ys/\own st' tg' k 4 st/\subSt st st') /\
  fr 6=.iv (.sl tg xs)/\fr 7=.iv (.raw (.int .i64 us.length))/\fr 8=.iv (.raw (.int .i64 k))/\ds=[]) ?_ ?_ ?_
 ·simp only[go_sem,zE,zB,zA,zM,zS,zL,reduceCtorEq];exact⟨⟨_,[],rfl,rfl,own.nil ..,subSt.refl _⟩,rfl⟩
 ·rintro k fr st1 _ hlt ⟨⟨tg',ys,f3,hys,hown,hsub⟩,f6,f7,f8,rfl⟩;obtain⟨a,ha⟩:=yQ1 hlt;obtain⟨x,hkx,hx⟩:=hxs.get ha;obtain⟨h1,h2⟩:=yZ6 ha;have hlen2:ys.length=k:=by rw[hys.len,List.length_take];omega
  have hcall:=yWh gl a x hx (by omega) st1;obtain⟨o5,n5,t5,x5,t6,x6,rfl⟩:=hx.agg;simp only[go_sem,zE,zB,zA,zM,zS,zL,reduceCtorEq,f3,f6,f7,f8,lt_i hlt,yQ4 htg,iNn,hkx,fits];refine hcall.mono ?_;rintro r _ ⟨hr,rfl⟩;have hn:IsFms (us.take (k+1)) (ys++[r]):=by
   rw[yQ8 ha];exact hys.append ⟨r,[],rfl,hr.1,rfl⟩
  obtain⟨o7,n7,t7,x7,t8,x8,rfl⟩:=IsFmD.aggs hr;simp only[go_sem,zE,zB,zA,zM,zS,zL,reduceCtorEq,f3,f6,f7,f8,fits,yQ3];refine yZf hown hlen2 hsub rfl (by simp[fits,IV.one]) (by simp only;omega) (by omega) λtg2 st4 hown2 hsub4 _=>?_;simp only[go_sem,zE,zB,zA,zM,zS,zL,reduceCtorEq,f3,f6,f7,f8,fits,yQd hlt (show us.length<=281474976710656 by omega)];exact⟨tg2,_,rfl,hn,hown2,hsub4⟩
 ·rintro fr st1 _ ⟨⟨tg',ys,f3,hys,hown,hsub⟩,f6,f7,f8,rfl⟩;rw[lTl] at hys;simp only[go_sem,zE,zB,zA,zM,zS,zL,reduceCtorEq,f3,f7,f8,yQl (nLi _),fits];exact yQg hsub ⟨⟨tg',ys,rfl,hown.es,hys⟩,rfl⟩
theorem wXo (s:Sq)(x:IV)(hx:IsSq s x)(h1:yQb s.l<=1000000)(h2:yQb s.r<=1000000)(st:ISt) :
  ICall prog gl 62 [x] st (λr st'=>IsSq s r/\st'=st):=by
 obtain⟨t1,x1,t2,x2,rfl,e1,i1,e2,i2⟩:=hx;have c1:=λst=>xWk gl s.l t1 x1 e1 i1 h1 st;have c2:=λst=>xWk gl s.r t2 x2 e2 i2 h2 st;refine ICall.intro (c:=cf prog gl [] [(1,[0,1,3,4,2,5,6,7])]) func62 rfl (by show _<=10;simp) (by kernel_rfl) ?_;simp only[go_sem,zE,zB,zA,zM,zS,zL,reduceCtorEq,fits];refine (c1 _).mono ?_;rintro _ _ ⟨⟨t3,y1,rfl,e3,i3⟩,rfl⟩;simp only[go_sem,zE,zB,zA,zM,zS,zL,reduceCtorEq,fits];refine (c2 _).mono ?_;rintro _ _ ⟨⟨t4,y2,rfl,e4,i4⟩,rfl⟩;simp only[go_sem,zE,zB,zA,zM,zS,zL,reduceCtorEq,fits];exact yQ0 ⟨⟨_,_,_,_,rfl,e3,i3,e4,i4⟩,rfl⟩
theorem xJd (x:IV)(hx:IsTm tmZ x)(st:ISt):ICall prog gl 64 [x] st (λr st'=>IsTm tmZ r/\st'=st):=by
 obtain⟨t,xs,rfl,ht,hxs⟩:=hx.mk;obtain rfl:xs=[]:=hxs;refine iI func64 ?_;simp only[go_sem,zE,zB,zA,zM,zS,zL,reduceCtorEq,fits];refine LoopC.ctr 0 (λk fr st' ds=>fr 1=.box [.raw (.bool false),.raw (.string noN),.sl ⟨true,.nil,0⟩ []]/\fr 2=.box [.raw (.bool false),.raw (.string ⟨#[]⟩),.sl ⟨true,.nil,0⟩ []]/\fr 10=.iv (.raw (.int .i64 0))/\fr 11=.iv (.raw (.int .i64 k))/\st'=st/\ds=[]) ?_ ?_ ?_
 ·simp only[go_sem,zE,zB,zA,zM,zS,zL,reduceCtorEq];exact⟨rfl,rfl⟩
 ·rintro k fr st1 _ hlt;omega
 ·rintro fr st1 _ ⟨f1,f2,f10,f11,rfl,rfl⟩;simp only[go_sem,zE,zB,zA,zM,zS,zL,reduceCtorEq,f1,f2,f10,f11,fits,show decide (((0:Nat):Int)<0)=false from rfl];exact yQ0 ⟨zUd,rfl⟩
def isZ:Tm->Bool
 | .mk false ⟨⟨[]⟩⟩ []=>true
 | _=>false
theorem vKj {u:Tm}(h:isZ u=true):u=tmZ:=by
 unfold isZ at h;split at h
 ·rfl
 ·cases h
def visL (g:Nat->Tr->Option Tr):Nat->List Tr->Option (List Tr)
 | _,[]=>some []
 | k,s::l=>match g k s,visL g (k+1) l with
  | some z,some zs=>some (z::zs)
  | _,_=>none
theorem xKn {g:Nat->Tr->Option Tr}:∀ {k:Nat} {l zs:List Tr},visL g k l=some zs->zs.length=l.length/\∀(i:Nat) (s:Tr),l[i]?=some s->∃z,g (k+i) s=some z/\zs[i]?=some z
 | _,[],zs,h=>by cases h;exact⟨rfl,λi s h=>by simp at h⟩
 | k,s::l,zs,h=>by
  unfold visL at h;split at h
  ·rename_i z zs' h1 h2;cases h;obtain⟨k1,k2⟩:=xKn h2;refine⟨by simp[k1],λi s' hi=>?_⟩;cases i with
   | zero=>cases hi;exact⟨z,h1,rfl⟩
   | succ i =>
    obtain⟨z',h3,h4⟩:=k2 i s' hi;exact⟨z',by rw[show k+(i+1)=k+1+i by omega];exact h3,h4⟩
  ·cases h
def visG (g:Tr->Bool->List Nat->Option Tr)(o:Bool)(pl:List Nat)(k:Nat)(z:Tr):Option Tr:=if o=true/\pl.head?=some k then g z true pl.tail else g z false []
noncomputable def visB (g:Tr->Bool->List Nat->Option Tr)(o:Bool)(pl:List Nat):Tr->Option Tr
 | .mk r s m u nm sub=>if (isZ u&&decide (yQb s.l<=1000000)&&decide (yQb s.r<=1000000)&&decide (m.size<=1000000)&&decide (sub.length<=1000000))=true then (visL (visG g o pl) 0 sub).map (λrs=>.mk r s m tmZ nm rs) else none
noncomputable def visF (f:Tr->Tr):Nat->Tr->Bool->List Nat->Option Tr
 | 0,_,_,_=>none
 | n+1,t,on,pl=>if on=true/\pl=[] then visB (visF f n) false pl (f t) else visB (visF f n) on pl t
theorem zJ1 {g:Tr->Bool->List Nat->Option Tr}{o:Bool}{pl:List Nat}{r:Nat}{s:Sq}{m:Fm}{u:Tm}{nm:ByteArray}{sub:List Tr}{res:Tr}(h:visB g o pl (.mk r s m u nm sub)=some res) :
  u=tmZ/\yQb s.l<=1000000/\yQb s.r<=1000000/\m.size<=1000000/\sub.length<=1000000/\∃rs,res=.mk r s m tmZ nm rs/\rs.length=sub.length/\∀(i:Nat) (z:Tr),sub[i]?=some z->∃y,visG g o pl i z=some y/\rs[i]?=some y:=by
 rw[visB] at h;by_cases hc:(isZ u&&decide (yQb s.l<=1000000)&&decide (yQb s.r<=1000000)&&decide (m.size<=1000000)&&decide (sub.length<=1000000))=true
 ·rw[if_pos hc] at h;simp only[bAt,dTe] at hc;obtain⟨⟨⟨⟨c1,c2⟩,c3⟩,c4⟩,c5⟩:=hc;cases hv:visL (visG g o pl) 0 sub with
  | none=>rw[hv] at h;cases h
  | some rs =>
   rw[hv] at h;obtain⟨k1,k2⟩:=xKn hv;refine⟨vKj c1,c2,c3,c4,c5,rs,by cases h;rfl,k1,λi z hi=>?_⟩;obtain⟨y,h1,h2⟩:=k2 i z hi;rw[Nat.zero_add] at h1;exact⟨y,h1,h2⟩
 ·rw[if_neg hc] at h;cases h
theorem xVo {tg:Tag}{es:Nat}(h:okEs tg es)(len hh l:Nat):okEs (yVw (reTag es tg) len hh l none) es:=by
 have:=yQ4 h;unfold yVw;by_cases h1:(reTag es tg).cap=.nil
 ·rw[if_pos h1];exact .inr this
 ·rw[if_neg h1];by_cases h2:l=0/\hh=len
  ·simp only[if_pos h2];exact .inr this
  ·simp only[if_neg h2];exact .inr this
def visI (c:IV)(b:Nat):IV:=.fn (.func 61) [] [.cptr c,pt b]
theorem vXu (f:Tr->Tr)(g:Fn)(fi ca:List IV)(hent:∀i,g=.func i->entI prog i=true)(P:ISt->Prop)(hP:∀s s',P s->subSt s s'->P s')(hchg:∀t x st,P st->IsTr t x->ICallV prog gl (.fn g fi ca) [x] st (λr st'=>IsTr (f t) r/\st'=st))(b:Nat) :
  ∀(n:Nat) (t:Tr) (x:IV) (_:IsTr t x) (on:Bool) (pl:List Nat) (tg:Tag) (_:okEs tg 1) (_:pl.length<=1000000) (res:Tr) (_:visF f n t on pl=some res) (st:ISt) (_:P st) (_:st b=some (.box [visI (.fn g fi ca) b])),
   ICall prog gl 61 [x,.raw (.bool on),.sl tg (plI pl),.cptr (.fn g fi ca),pt b] st (λr st'=>IsTr res r/\st'=st)
 | 0,_,_,_,_,_,_,_,_,_,hv,_,_,_=>by cases hv
 | n+1,t,x,hx,on,pl,tg,htg,hpl,res,hv,st,hPs,hst=>by
  have IH:=λt x hx on pl tg htg hpl res hv st hPs hst=>vXu f g fi ca hent P hP hchg b n t x hx on pl tg htg hpl res hv st hPs hst;have hx0:=hx;have hch:=λst hp=>hchg t x st hp hx;rw[visF] at hv;obtain⟨rule1,s1,m1,u1,nm1,sub1⟩:=t;obtain⟨tl1,xl1,tr1,xr1,op1,fn1,ta1,xa1,tb1,xb1,v1,un1,tu1,xu1,ts1,xs1,rfl,hru,e1,i1,e2,i2,hf,hu,e3,i3⟩:=hx.mk;refine ICall.intro (c:=cf prog gl [53,63] [(4,[0,1,2,3,5,6,8,9,11,12,14,4,7,10,13,15])]) func61 rfl (by show _<=71;simp) (by kernel_rfl) ?_;cases on
  ·rw[if_neg (by simp)] at hv;obtain⟨rfl,k1,k2,k3,k4,rs,rfl,hrl,hrs⟩:=zJ1 hv;simp only[go_sem,zE,zB,zA,zM,zS,zL,reduceCtorEq,fits];have hsq:=λst=>wXo gl s1 _ ⟨_,_,_,_,rfl,e1,i1,e2,i2⟩ k1 k2 st;have hfm:=λst=>yWh gl m1 _ hf (by omega) st;have htm:=λst=>xJd gl _ hu st;refine (hsq _).mono ?_;rintro _ st ⟨⟨q1,y1,q2,y2,rfl,g1,j1,g2,j2⟩,rfl⟩;simp only[go_sem,zE,zB,zA,zM,zS,zL,reduceCtorEq,fits];refine (hfm _).mono ?_;rintro _ st ⟨⟨hr2,hrd⟩,rfl⟩;have hr20:=hr2;obtain⟨o5,n5,t5,x5,t6,x6,rfl⟩:=hr2.agg;simp only[go_sem,zE,zB,zA,zM,zS,zL,reduceCtorEq,fits];refine (htm _).mono ?_;rintro _ st ⟨hr3,rfl⟩;have hr30:=hr3;obtain⟨q3,y3,rfl,_,_⟩:=hr3.mk;simp only[go_sem,zE,zB,zA,zM,zS,zL,reduceCtorEq,fits,i3.len];intro _;refine LoopC.ctr sub1.length (λk fr st' ds=>(∃t y,fr 9=.box [.raw (.int .u8 rule1),.sl q1 y1,.sl q2 y2,.raw (.int .u8 o5),.raw (.string n5),.sl t5 x5,.sl t6 x6,.raw (.bool false),.raw (.string noN),.sl q3 y3,.raw (.string nm1),.sl t y]/\own st' t k 12 st/\subSt st st'/\IsTrs (rs.take k) y/\y.length=k) /\
    fr 1=.iv (.raw (.bool false))/\fr 2=.iv (.sl tg (plI pl))/\fr 4=.iv (pt b)/\fr 8=.box z12/\fr 36=.iv (.sl ts1 xs1)/\fr 37=.iv (.raw (.int .i64 (sub1.length:Int)))/\fr 38=.iv (.raw (.int .i64 (k:Int)))/\ds=[]) ?_ ?_ ?_
   ·simp only[go_sem,zE,zB,zA,zM,zS,zL,reduceCtorEq,z12];exact⟨⟨_,[],rfl,own.nil ..,subSt.refl _,rfl,rfl⟩,rfl⟩
   ·rintro k fr st1 _ hlk ⟨⟨t,y,f9,hown,hsub,hy,hyl⟩,f1,f2,f4,f8,f36,f37,f38,rfl⟩;obtain⟨a,ha⟩:=yQ1 hlk;obtain⟨z,hkz,hz⟩:=i3.get ha;obtain⟨w,hw,hrw⟩:=hrs k a ha;have hz0:=hz;have hb:=hsub _ _ hst;obtain⟨rule2,tl2,xl2,tr2,xr2,op2,fn2,ta2,xa2,tb2,xb2,v2,un2,tu2,xu2,n2,ts2,xs2,rfl⟩:=yX8 hz;rw[visG,if_neg (by simp)] at hw;have hcall:=IH a _ hz0 false [] ⟨true,.nil,0⟩ (.inl rfl) (Nat.zero_le _) w hw st1 (hP _ _ hPs hsub) hb;simp only[go_sem,zE,zB,zA,zM,zS,zL,reduceCtorEq,f9,f1,f2,f4,f8,f36,f37,f38,fits,lt_i hlk,yQ4 e3,iNn,hkz,pt,hb,visI];refine hcall.mono ?_;rintro r st1 ⟨hr,rfl⟩;have hr0:=hr;obtain⟨rule3,tl3,xl3,tr3,xr3,op3,fn3,ta3,xa3,tb3,xb3,v3,un3,tu3,xu3,n3,ts3,xs3,rfl⟩:=yX8 hr;simp only[go_sem,zE,zB,zA,zM,zS,zL,reduceCtorEq,f9,f1,f2,f4,f8,f36,f37,f38,fits,yQ3];refine yZf hown hyl hsub rfl (by simp[fits,IV.one]) (by simp only;omega) (by omega) λt' st3 w1 w2 w3=>?_;simp only[go_sem,zE,zB,zA,zM,zS,zL,reduceCtorEq,f9,f1,f2,f4,f8,f36,f37,f38,fits,yQd hlk (show sub1.length<=281474976710656 by omega)];refine⟨⟨t',_,rfl,w1,w2,?_,by rw[lLa,hyl];rfl⟩,rfl⟩;rw[yQ8 hrw];exact hy.append ⟨_,[],rfl,hr0,rfl⟩
   ·rintro fr st1 _ ⟨⟨t,y,f9,hown,hsub,hy,hyl⟩,f1,f2,f4,f8,f36,f37,f38,rfl⟩;rw[<- hrl,lTl] at hy;simp only[go_sem,zE,zB,zA,zM,zS,zL,reduceCtorEq,f9,f8,f37,f38,z12,fits,yQl (nLi _)];exact yQg hsub ⟨⟨_,_,_,_,_,_,_,_,_,_,_,_,_,_,_,_,rfl,hru,g1,j1,g2,j2,hr20,hr30,hown.es,hy⟩,rfl⟩
  ·by_cases hp:pl=[]
   ·subst hp;rw[if_pos ⟨rfl,rfl⟩] at hv;have d:decide (((plI []).length:Int)=0)=true:=rfl;simp only[go_sem,zE,zB,zA,zM,zS,zL,reduceCtorEq,fits,d];intro _;refine yZ2 hent ((hch _ hPs).mono ?_);rintro _ st ⟨hx1,rfl⟩;generalize f (.mk rule1 s1 m1 u1 nm1 sub1)=t1 at hv hx1;obtain⟨rule1,s1,m1,u1,nm1,sub1⟩:=t1;obtain⟨tl1,xl1,tr1,xr1,op1,fn1,ta1,xa1,tb1,xb1,v1,un1,tu1,xu1,ts1,xs1,rfl,hru,e1,i1,e2,i2,hf,hu,e3,i3⟩:=hx1.mk;obtain⟨rfl,k1,k2,k3,k4,rs,rfl,hrl,hrs⟩:=zJ1 hv;simp only[go_sem,zE,zB,zA,zM,zS,zL,reduceCtorEq,fits];have hsq:=λst=>wXo gl s1 _ ⟨_,_,_,_,rfl,e1,i1,e2,i2⟩ k1 k2 st;have hfm:=λst=>yWh gl m1 _ hf (by omega) st;have htm:=λst=>xJd gl _ hu st;refine (hsq _).mono ?_;rintro _ st ⟨⟨q1,y1,q2,y2,rfl,g1,j1,g2,j2⟩,rfl⟩;simp only[go_sem,zE,zB,zA,zM,zS,zL,reduceCtorEq,fits];refine (hfm _).mono ?_;rintro _ st ⟨⟨hr2,hrd⟩,rfl⟩;have hr20:=hr2;obtain⟨o5,n5,t5,x5,t6,x6,rfl⟩:=hr2.agg;simp only[go_sem,zE,zB,zA,zM,zS,zL,reduceCtorEq,fits];refine (htm _).mono ?_;rintro _ st ⟨hr3,rfl⟩;have hr30:=hr3;obtain⟨q3,y3,rfl,_,_⟩:=hr3.mk;simp only[go_sem,zE,zB,zA,zM,zS,zL,reduceCtorEq,fits,i3.len];intro _;refine LoopC.ctr sub1.length (λk fr st' ds=>(∃t y,fr 9=.box [.raw (.int .u8 rule1),.sl q1 y1,.sl q2 y2,.raw (.int .u8 o5),.raw (.string n5),.sl t5 x5,.sl t6 x6,.raw (.bool false),.raw (.string noN),.sl q3 y3,.raw (.string nm1),.sl t y]/\own st' t k 12 st/\subSt st st'/\IsTrs (rs.take k) y/\y.length=k) /\
     fr 1=.iv (.raw (.bool false))/\fr 2=.iv (.sl tg (plI []))/\fr 4=.iv (pt b)/\fr 8=.box z12/\fr 36=.iv (.sl ts1 xs1)/\fr 37=.iv (.raw (.int .i64 (sub1.length:Int)))/\fr 38=.iv (.raw (.int .i64 (k:Int)))/\ds=[]) ?_ ?_ ?_
    ·simp only[go_sem,zE,zB,zA,zM,zS,zL,reduceCtorEq,z12];exact⟨⟨_,[],rfl,own.nil ..,subSt.refl _,rfl,rfl⟩,rfl⟩
    ·rintro k fr st1 _ hlk ⟨⟨t,y,f9,hown,hsub,hy,hyl⟩,f1,f2,f4,f8,f36,f37,f38,rfl⟩;obtain⟨a,ha⟩:=yQ1 hlk;obtain⟨z,hkz,hz⟩:=i3.get ha;obtain⟨w,hw,hrw⟩:=hrs k a ha;have hz0:=hz;have hb:=hsub _ _ hst;obtain⟨rule2,tl2,xl2,tr2,xr2,op2,fn2,ta2,xa2,tb2,xb2,v2,un2,tu2,xu2,n2,ts2,xs2,rfl⟩:=yX8 hz;rw[visG,if_neg (by simp)] at hw;have hcall:=IH a _ hz0 false [] ⟨true,.nil,0⟩ (.inl rfl) (Nat.zero_le _) w hw st1 (hP _ _ hPs hsub) hb;simp only[go_sem,zE,zB,zA,zM,zS,zL,reduceCtorEq,f9,f1,f2,f4,f8,f36,f37,f38,fits,lt_i hlk,yQ4 e3,iNn,hkz,pt,hb,visI];refine hcall.mono ?_;rintro r st1 ⟨hr,rfl⟩;have hr0:=hr;obtain⟨rule3,tl3,xl3,tr3,xr3,op3,fn3,ta3,xa3,tb3,xb3,v3,un3,tu3,xu3,n3,ts3,xs3,rfl⟩:=yX8 hr;simp only[go_sem,zE,zB,zA,zM,zS,zL,reduceCtorEq,f9,f1,f2,f4,f8,f36,f37,f38,fits,yQ3];refine yZf hown hyl hsub rfl (by simp[fits,IV.one]) (by simp only;omega) (by omega) λt' st3 w1 w2 w3=>?_;simp only[go_sem,zE,zB,zA,zM,zS,zL,reduceCtorEq,f9,f1,f2,f4,f8,f36,f37,f38,fits,yQd hlk (show sub1.length<=281474976710656 by omega)];refine⟨⟨t',_,rfl,w1,w2,?_,by rw[lLa,hyl];rfl⟩,rfl⟩;rw[yQ8 hrw];exact hy.append ⟨_,[],rfl,hr0,rfl⟩
    ·rintro fr st1 _ ⟨⟨t,y,f9,hown,hsub,hy,hyl⟩,f1,f2,f4,f8,f36,f37,f38,rfl⟩;rw[<- hrl,lTl] at hy;simp only[go_sem,zE,zB,zA,zM,zS,zL,reduceCtorEq,f9,f8,f37,f38,z12,fits,yQl (nLi _)];exact yQg hsub ⟨⟨_,_,_,_,_,_,_,_,_,_,_,_,_,_,_,_,rfl,hru,g1,j1,g2,j2,hr20,hr30,hown.es,hy⟩,rfl⟩
   ·obtain⟨p0,pr,rfl⟩:=List.exists_cons_of_ne_nil hp;rw[if_neg (by simp)] at hv;obtain⟨rfl,k1,k2,k3,k4,rs,rfl,hrl,hrs⟩:=zJ1 hv;have d:decide (((plI (p0::pr)).length:Int)=0)=false:=by rw[yXn,List.length_cons];exact dEf (by omega)
    simp only[go_sem,zE,zB,zA,zM,zS,zL,reduceCtorEq,fits,d];intro _;have hsq:=λst=>wXo gl s1 _ ⟨_,_,_,_,rfl,e1,i1,e2,i2⟩ k1 k2 st;have hfm:=λst=>yWh gl m1 _ hf (by omega) st;have htm:=λst=>xJd gl _ hu st;refine (hsq _).mono ?_;rintro _ st ⟨⟨q1,y1,q2,y2,rfl,g1,j1,g2,j2⟩,rfl⟩;simp only[go_sem,zE,zB,zA,zM,zS,zL,reduceCtorEq,fits];refine (hfm _).mono ?_;rintro _ st ⟨⟨hr2,hrd⟩,rfl⟩;have hr20:=hr2;obtain⟨o5,n5,t5,x5,t6,x6,rfl⟩:=hr2.agg;simp only[go_sem,zE,zB,zA,zM,zS,zL,reduceCtorEq,fits];refine (htm _).mono ?_;rintro _ st ⟨hr3,rfl⟩;have hr30:=hr3;obtain⟨q3,y3,rfl,_,_⟩:=hr3.mk;simp only[go_sem,zE,zB,zA,zM,zS,zL,reduceCtorEq,fits,i3.len];intro _;refine LoopC.ctr sub1.length (λk fr st' ds=>(∃t y,fr 9=.box [.raw (.int .u8 rule1),.sl q1 y1,.sl q2 y2,.raw (.int .u8 o5),.raw (.string n5),.sl t5 x5,.sl t6 x6,.raw (.bool false),.raw (.string noN),.sl q3 y3,.raw (.string nm1),.sl t y]/\own st' t k 12 st/\subSt st st'/\IsTrs (rs.take k) y/\y.length=k) /\
     fr 1=.iv (.raw (.bool true))/\fr 2=.iv (.sl tg (plI (p0::pr)))/\fr 4=.iv (pt b)/\fr 8=.box z12/\fr 36=.iv (.sl ts1 xs1)/\fr 37=.iv (.raw (.int .i64 (sub1.length:Int)))/\fr 38=.iv (.raw (.int .i64 (k:Int)))/\ds=[]) ?_ ?_ ?_
    ·simp only[go_sem,zE,zB,zA,zM,zS,zL,reduceCtorEq,z12];exact⟨⟨_,[],rfl,own.nil ..,subSt.refl _,rfl,rfl⟩,rfl⟩
    ·rintro k fr st1 _ hlk ⟨⟨t,y,f9,hown,hsub,hy,hyl⟩,f1,f2,f4,f8,f36,f37,f38,rfl⟩;obtain⟨a,ha⟩:=yQ1 hlk;obtain⟨z,hkz,hz⟩:=i3.get ha;obtain⟨w,hw,hrw⟩:=hrs k a ha;have hz0:=hz;have hb:=hsub _ _ hst;obtain⟨rule2,tl2,xl2,tr2,xr2,op2,fn2,ta2,xa2,tb2,xb2,v2,un2,tu2,xu2,n2,ts2,xs2,rfl⟩:=yX8 hz;have h0:(plI (p0::pr))[0]?=some (.raw (.int .i64 (p0:Int))):=rfl;have hsl:yX6 (some 1) none (plI (p0::pr)).length=some (1,pr.length+1):=by
      rw[yXn,List.length_cons];simp only[yX6,Option.getD_none,Option.getD_some];rw[if_pos ⟨by omega,by omega,by omega⟩];simp
     have htk:List.take (pr.length+1-1) (List.drop 1 (plI (p0::pr)))=plI pr:=by
      show List.take pr.length (plI pr)=_;rw[<- yXn pr,lTl]
     by_cases hk:k=p0
     ·subst hk;rw[visG,if_pos ⟨rfl,rfl⟩] at hw;simp only[go_sem,zE,zB,zA,zM,zS,zL,reduceCtorEq,f9,f1,f2,f4,f8,f36,f37,f38,fits,lt_i hlk,yQ4 e3,yQ4 htg,iNn,Int.le_refl,Int.toNat_zero,h0,decide_true,hkz,pt,hb,visI,hsl];rw[htk];have hcall:=IH a _ hz0 true pr _ (xVo htg (plI (k::pr)).length (pr.length+1) 1) (by simp only[List.length_cons] at hpl;omega) w hw st1 (hP _ _ hPs hsub) hb;refine hcall.mono ?_;rintro r st1 ⟨hr,rfl⟩;have hr0:=hr;obtain⟨rule3,tl3,xl3,tr3,xr3,op3,fn3,ta3,xa3,tb3,xb3,v3,un3,tu3,xu3,n3,ts3,xs3,rfl⟩:=yX8 hr;simp only[go_sem,zE,zB,zA,zM,zS,zL,reduceCtorEq,f9,f1,f2,f4,f8,f36,f37,f38,fits,yQ3];refine yZf hown hyl hsub rfl (by simp[fits,IV.one]) (by simp only;omega) (by omega) λt' st3 w1 w2 w3=>?_;simp only[go_sem,zE,zB,zA,zM,zS,zL,reduceCtorEq,f9,f1,f2,f4,f8,f36,f37,f38,fits,yQd hlk (show sub1.length<=281474976710656 by omega)];refine⟨⟨t',_,rfl,w1,w2,?_,by rw[lLa,hyl];rfl⟩,rfl⟩;rw[yQ8 hrw];exact hy.append ⟨_,[],rfl,hr0,rfl⟩
     ·rw[visG,if_neg (λh=>hk (by have:=h.2;simpa using this.symm))] at hw;have dk:decide ((k:Int)=(p0:Int))=false:=dEf (by omega);have hcall:=IH a _ hz0 false [] ⟨true,.nil,0⟩ (.inl rfl) (Nat.zero_le _) w hw st1 (hP _ _ hPs hsub) hb;simp only[go_sem,zE,zB,zA,zM,zS,zL,reduceCtorEq,f9,f1,f2,f4,f8,f36,f37,f38,fits,lt_i hlk,yQ4 e3,yQ4 htg,iNn,Int.le_refl,Int.toNat_zero,h0,dk,hkz,pt,hb,visI];refine hcall.mono ?_;rintro r st1 ⟨hr,rfl⟩;have hr0:=hr;obtain⟨rule3,tl3,xl3,tr3,xr3,op3,fn3,ta3,xa3,tb3,xb3,v3,un3,tu3,xu3,n3,ts3,xs3,rfl⟩:=yX8 hr;simp only[go_sem,zE,zB,zA,zM,zS,zL,reduceCtorEq,f9,f1,f2,f4,f8,f36,f37,f38,fits,yQ3];refine yZf hown hyl hsub rfl (by simp[fits,IV.one]) (by simp only;omega) (by omega) λt' st3 w1 w2 w3=>?_;simp only[go_sem,zE,zB,zA,zM,zS,zL,reduceCtorEq,f9,f1,f2,f4,f8,f36,f37,f38,fits,yQd hlk (show sub1.length<=281474976710656 by omega)];refine⟨⟨t',_,rfl,w1,w2,?_,by rw[lLa,hyl];rfl⟩,rfl⟩;rw[yQ8 hrw];exact hy.append ⟨_,[],rfl,hr0,rfl⟩
    ·rintro fr st1 _ ⟨⟨t,y,f9,hown,hsub,hy,hyl⟩,f1,f2,f4,f8,f36,f37,f38,rfl⟩;rw[<- hrl,lTl] at hy;simp only[go_sem,zE,zB,zA,zM,zS,zL,reduceCtorEq,f9,f8,f37,f38,z12,fits,yQl (nLi _)];exact yQg hsub ⟨⟨_,_,_,_,_,_,_,_,_,_,_,_,_,_,_,_,rfl,hru,g1,j1,g2,j2,hr20,hr30,hown.es,hy⟩,rfl⟩
theorem wYn (f:Tr->Tr)(g:Fn)(fi ca:List IV)(hent:∀i,g=.func i->entI prog i=true)(P:ISt->Prop)(hP:∀s s',P s->subSt s s'->P s')(hchg:∀t x st,P st->IsTr t x->ICallV prog gl (.fn g fi ca) [x] st (λr st'=>IsTr (f t) r/\st'=st))(n:Nat)(t:Tr)(x:IV)(hx:IsTr t x)(pl:List Nat)(tg:Tag)(htg:okEs tg 1)(hpl:pl.length<=1000000)(res:Tr)(hv:visF f n t true pl=some res)(st:ISt)(hPs:P st) :
  ICall prog gl 32 [x,.sl tg (plI pl),.fn g fi ca] st (λr st'=>IsTr res r/\st'=st):=by
 have hvis:=λb st=>vXu gl f g fi ca hent P hP hchg b n t x hx true pl tg htg hpl res hv st;obtain⟨rule',tl',xl',tr',xr',op',fn',ta',xa',tb',xb',v',un',tu',xu',n',ts',xs',rfl⟩:=yX8 hx;refine ICall.intro (c:=cf prog gl [7] [] [5]) func32 rfl (by show _<=13;simp) (by kernel_rfl) ?_;simp only[go_sem,zE,zB,zA,zM,zS,zL,reduceCtorEq,fits];intro b;refine yQ9 λhb=>?_;refine (hvis b _ (hP _ _ hPs (yQa (yQa (subSt.refl _) hb) hb)) (ISt.put_same ..)).mono ?_;rintro r _ ⟨hr,rfl⟩;have hr0:=hr;obtain⟨rule3,tl3,xl3,tr3,xr3,op3,fn3,ta3,xa3,tb3,xb3,v3,un3,tu3,xu3,n3,ts3,xs3,rfl⟩:=yX8 hr;simp only[go_sem,zE,zB,zA,zM,zS,zL,reduceCtorEq,fits];exact yQg (st':=st) (yQa (yQa (subSt.refl _) hb) hb) ⟨hr0,rfl⟩
mutual
theorem zVp:∀(q:List Nat)(t:Tr)(x:List Nat×Tr),x∈t.walk q->x.2.steps<=t.steps
 | q,.mk _ _ _ _ _ sub,x,h=>by
  simp only[Tr.walk,List.mem_cons] at h;rcases h with rfl|h
  ·exact Nat.le_refl _
  ·have:=yUg q 0 sub x h;simp only[Tr.steps];omega
theorem yUg:∀(q:List Nat)(i:Nat)(l:List Tr)(x:List Nat×Tr),x∈yQn q i l->x.2.steps<=yQq l
 | _,_,[],x,h=>by simp[yQn] at h
 | q,i,a::l,x,h=>by
  simp only[yQn,List.mem_append] at h;simp only[yQq];rcases h with h|h
  ·have:=zVp (q++[i]) a x h;omega
  ·have:=yUg q (i+1) l x h;omega
end
theorem zXn (G:Gl gl)(T:Gt gl)(ca:Nat)(t:Tr)(x:IV)(hx:IsTr t x)(hfit:xJn t)(hs:t.steps<=1000000)(st:ISt):ICall prog gl 11 [.raw (.int .u8 (ca:Int)),x] st (λr st'=>(∃tg,r=.tup [.sl tg (plI (hCk ca t).1),.raw (.int .i64 ((hCk ca t).2:Int))]/\okEs tg 1)/\st'=st):=by
 have hst:=λst=>xWj gl x st t hx;have hN:=λst=>wKd gl t x hx (by omega) st;have hit:=λI=>xQp gl t x hx hfit.2 I;obtain⟨rule,tl,xl,tr,xr,op,fn,ta,xa,tb,xb,v,un,tu,xu,n,ts,xs,rfl⟩:=yX8 hx;refine ICall.intro (c:=cf prog gl [2,4,5] [] [3]) func11 rfl (by show _<=27;simp) (by kernel_rfl) ?_;simp only[go_sem,zE,zB,zA,zM,zS,zL,reduceCtorEq,fits,IV.one];intro b2;refine yQ9 λhb2=>?_;intro b4;refine yQ9 λhb4=>?_;intro b5;refine yQ9 λhb5=>?_;have h24:b2≠b4:=by rintro rfl;rw[ISt.put_same] at hb4;cases hb4
 have h45:b4≠b5:=by rintro rfl;rw[ISt.put_same] at hb5;cases hb5
 have h25:b2≠b5:=by rintro rfl;rw[ISt.put_apply,if_neg h24,ISt.put_same] at hb5;cases hb5
 rw[ISt.put_apply,if_neg h24.symm] at hb4;rw[ISt.put_apply,if_neg h45.symm,ISt.put_apply,if_neg h25.symm] at hb5;obtain⟨s1,hs1,f2,f4,f5,hsub⟩:∃s1,s1=((st.put b2 (some (.box [.raw (.int .u8 ca)]))).put b4 (some (.box [.sl ⟨true,.nil,0⟩ []]))).put b5 (some (.box [.raw (.int .i64 0)]))/\s1 b2=some (.box [.raw (.int .u8 ca)])/\s1 b4=some (.box [.sl ⟨true,.nil,0⟩ []])/\s1 b5=some (.box [.raw (.int .i64 0)])/\subSt st s1 :=
  ⟨_,rfl,by simp only[ISt.put_apply,if_neg h24,if_neg h25,if_true],by simp only[ISt.put_apply,if_neg h45,if_true],by simp only[ISt.put_apply,if_true],yQa (yQa (yQa (subSt.refl st) hb2) hb4) hb5⟩
 rw[<- hs1];have g5:∀(s:ISt) o,(s.put b4 o) b5=s b5:=λs o=>by rw[ISt.put_apply,if_neg h45.symm]
 have g4:∀(s:ISt) o o',((s.put b4 o).put b5 o') b4=o:=λs o o'=>by rw[ISt.put_apply,if_neg h45,ISt.put_same]
 have hsub':∀(s:ISt) o o',subSt st s->subSt st ((s.put b4 o).put b5 o'):=λs o o' h=>yQa (yQa h hb4) hb5;by_cases hc:ca=1\/ca=2
 ·obtain⟨a,d1,d2⟩:∃a:Bool,decide ((ca:Int)=1)=a/\(a=false->decide ((ca:Int)=2)=true):=by
   rcases hc with rfl|rfl
   ·exact⟨true,rfl,nofun⟩
   ·exact⟨false,rfl,λ_=>rfl⟩
  cases a
  all_goals first
   | (replace d2:=d2 rfl;simp only[go_sem,zE,zB,zA,zM,zS,zL,reduceCtorEq,f2,d1,d2,fits])
   | simp only[go_sem,zE,zB,zA,zM,zS,zL,reduceCtorEq,f2,d1,fits]
  all_goals
   refine (hN _).mono ?_;rintro _ s1' ⟨rfl,rfl⟩;by_cases hbig:300<t.steps
   ·have d3:decide ((300:Int)<(t.steps:Int))=true:=dEt (by omega);have hq:hCk ca t=([],5):=by unfold hCk;rw[if_pos hc,if_pos hbig]
    simp only[go_sem,zE,zB,zA,zM,zS,zL,reduceCtorEq,f4,f5,d3,fits,g5,g4,ISt.put_same];exact yQg (hsub' _ _ _ hsub) ⟨⟨_,by rw[hq];rfl,.inl rfl⟩,rfl⟩
   ·have d3:decide ((300:Int)<(t.steps:Int))=false:=dEf (by omega);have hq:hCk ca t=yQx (badN ca) (t.walk []):=by unfold hCk;rw[if_pos hc,if_neg hbig]
    simp only[go_sem,zE,zB,zA,zM,zS,zL,reduceCtorEq,d3,fits];refine (hst _).mono ?_;rintro _ _ ⟨rfl,rfl⟩;simp only[go_sem,zE,zB,zA,zM,zS,zL,reduceCtorEq,fits];refine RangeL.intro (lkW (λx=>x) (t.walk [])) (t.walk []).length (λk s=>(s b2=some (.box [.raw (.int .u8 ca)])/\s b4=some (.box [.sl ⟨true,.nil,0⟩ []])/\s b5=some (.box [.raw (.int .i64 0)])/\subSt st s)/\yQx (badN ca) ((t.walk []).take k)=([],0)) (λe s=>CkS st b4 b5 (hCk ca t) e s) rfl ?_ ?_ ?_ (hit _) ?_ ?_
    ·rintro k a e ⟨p,u,a,y,_,_,_,rfl⟩;rfl
    ·exact⟨⟨f2,f4,f5,hsub⟩,by simp[yQx]⟩
    ·rintro k _ e s ⟨p,z,a,y,hkz,hz,hp,rfl⟩ hd ⟨⟨c2,c4,c5,hss⟩,hf⟩;have hd':disj s e:=hd;have r2:=yZn hd' _ _ c2;have hpl:=yY4 [] t _ (lMg hkz);have hfd:=hfit.2;simp only[List.length_nil] at hpl;have hrt:=λst=>wWb gl G T ca z y hz (hfit.1 _ (lMg hkz)) (Nat.le_trans (zVp [] t _ (lMg hkz)) hs) st;have hcl:=wKj gl p a e s hp (by omega) hd';have hiv:ivOf (.iv a)=some a:=by rcases hp with⟨t,rfl,_⟩|⟨g,cap,cs,rfl,_⟩<;>rfl
     obtain⟨rule',tl',xl',tr',xr',op',fn',ta',xa',tb',xb',v',un',tu',xu',n',ts',xs',rfl⟩:=yX8 hz;simp only[go_sem,zE,zB,zA,zM,zS,zL,reduceCtorEq,r2,hiv,fits];refine (hrt _).mono ?_;rintro _ _ ⟨rfl,rfl⟩;cases hr:yJb ca z
     ·have hb:badN ca z=270:=by unfold badN;rw[hr];rfl
      have hv:hCk ca t=(p,270):=by
       rw[hq]
       conv=>lhs;rw[<- List.take_append_drop k (t.walk [])]
       rw[List.drop_eq_getElem_cons (lGs hkz).1,(lGs hkz).2,yXr,hf];simp[yQx,hb]
      simp only[go_sem,zE,zB,zA,zM,zS,zL,reduceCtorEq,hiv,fits];refine hcl.mono ?_;rintro _ _ ⟨⟨t',rfl,ht'⟩,rfl⟩;simp only[go_sem,zE,zB,zA,zM,zS,zL,reduceCtorEq,c4,c5,fits,g5,g4,ISt.put_same];refine⟨rfl,⟨t',?_,ht'⟩,?_,hsub' _ _ _ hss⟩
      ·rw[g4,hv]
      ·rw[ISt.put_same,hv];rfl
     ·have hb:badN ca z=0:=by unfold badN;rw[hr];rfl
      simp only[go_sem,zE,zB,zA,zM,zS,zL,reduceCtorEq,fits];refine⟨s,⟨⟨c2,c4,c5,hss⟩,?_⟩,hd,rfl⟩;rw[yQ8 hkz,yXr,hf];simp[yQx,hb]
    ·rintro s r ⟨⟨c2,c4,c5,hss⟩,hf⟩;rw[lTl,<- hq] at hf;simp only[go_sem,zE,zB,zA,zM,zS,zL,reduceCtorEq,c4,c5,fits,g5,g4,ISt.put_same];exact yQg (hsub' _ _ _ hss) ⟨⟨_,by rw[hf];rfl,.inl rfl⟩,rfl⟩
    ·rintro e s r ⟨rfl,⟨tg,c4,ht⟩,c5,hss⟩;simp only[go_sem,zE,zB,zA,zM,zS,zL,reduceCtorEq,c4,c5,fits];exact yQg hss ⟨⟨_,rfl,ht⟩,rfl⟩
 ·have d1:decide ((ca:Int)=1)=false:=dEf (by omega);have d2:decide ((ca:Int)=2)=false:=dEf (by omega);have hq:hCk ca t=([],2):=by unfold hCk;rw[if_neg hc]
  simp only[go_sem,zE,zB,zA,zM,zS,zL,reduceCtorEq,f2,f4,f5,d1,d2,fits,g5,g4,ISt.put_same];exact yQg (hsub' _ _ _ hsub) ⟨⟨_,by rw[hq];rfl,.inl rfl⟩,rfl⟩
noncomputable def lowB (j:Bool)(h:Nat)(ps:List Sn):Bool:=ps.all λp=>decide (1<=Tryz.hF j p)&&decide (Tryz.hF j p<h)
abbrev mvZ:IV:=.agg [.raw (.int .u8 0),.raw (.int .u8 0),.raw (.string ⟨#[]⟩),.sl ⟨true,.nil,0⟩ [],.sl ⟨true,.nil,0⟩ [],.sl ⟨true,.nil,0⟩ []]
theorem vQ3 (ca:Nat)(v:Nat×Fm×List Sn)(x:IV)(hv:yWb v x)(h:Nat)(hlen:v.2.2.length<=1000000)(hp:∀p∈v.2.2,∀y st,IsSq ⟨p.1,p.2⟩ y->ICall prog gl 28 [.raw (.int .u8 (ca:Int)),y] st (λr st'=>r=.tup [.raw (.int .i64 (Tryz.hF (calJ ca) p:Int)),.raw (.int .i64 0)]/\st'=st))(st:ISt) :
  ICall prog gl 83 [.raw (.int .u8 (ca:Int)),x,.raw (.int .i64 (h:Int))] st (λr st'=>r=.tup [.raw (.bool (lowB (calJ ca) h v.2.2)),.raw (.int .i64 0)]/\st'=st):=by
 obtain⟨o,n,t1,x1,t2,x2,t3,x3,rfl,hf,e3,h3⟩:=hv;have hl3:=h3.1;refine iI func83 ?_;simp only[go_sem,zE,zB,zA,zM,zS,zL,reduceCtorEq,fits,hl3];intro _;refine LoopC.ctr v.2.2.length (λk fr st' ds=>lowB (calJ ca) h (v.2.2.take k)=true/\st'=st/\fr 0=.iv (.raw (.int .u8 (ca:Int)))/\fr 2=.iv (.raw (.int .i64 (h:Int)))/\fr 13=.iv (.sl t3 x3)/\fr 14=.iv (.raw (.int .i64 (v.2.2.length:Int)))/\fr 15=.iv (.raw (.int .i64 (k:Int)))/\ds=[]) ?_ ?_ ?_
 ·simp only[go_sem,zE,zB,zA,zM,zS,zL,reduceCtorEq];exact⟨rfl,rfl⟩
 ·rintro k fr st1 _ hlk ⟨hlo,rfl,f0,f2,f13,f14,f15,rfl⟩;obtain⟨p,hpk⟩:=yQ1 hlk;obtain⟨y,hy,hyp⟩:=h3.2 k p hpk;have hL:=hp p (lMg hpk) y;have hyp0:=hyp;obtain⟨ta,xa,tb,xb,rfl,ea,ia,eb,ib⟩:=hyp;have hcall:=hL st1 hyp0;simp only[go_sem,zE,zB,zA,zM,zS,zL,reduceCtorEq,f0,f2,f13,f14,f15,fits,lt_i hlk,yQ4 e3,iNn,hy];refine hcall.mono ?_;rintro _ st1 ⟨rfl,rfl⟩;have hsn:lowB (calJ ca) h (v.2.2.take (k+1))=(decide (1<=Tryz.hF (calJ ca) p)&&decide (Tryz.hF (calJ ca) p<h)):=by
   rw[yQ8 hpk];unfold lowB at hlo ⊢;rw[List.all_append,hlo];simp
  have hno:∀b:Bool,lowB (calJ ca) h (v.2.2.take (k+1))=false->lowB (calJ ca) h v.2.2=false:=λ_ hb=>by
   rw[<- List.take_append_drop (k+1) v.2.2];unfold lowB at hb ⊢;rw[List.all_append,hb];rfl
  by_cases h1:1<=Tryz.hF (calJ ca) p
  ·have d1:decide ((Tryz.hF (calJ ca) p:Int)<1)=false:=dEf (by omega);by_cases h2:Tryz.hF (calJ ca) p<h
   ·have d2:decide ((h:Int)<=(Tryz.hF (calJ ca) p:Int))=false:=dEf (by omega);rw[dEt h1,dEt h2] at hsn;simp only[go_sem,zE,zB,zA,zM,zS,zL,reduceCtorEq,f0,f2,f13,f14,f15,fits,decide_true,d1,d2,yQd hlk (show v.2.2.length<=281474976710656 by omega)];exact hsn
   ·have d2:decide ((h:Int)<=(Tryz.hF (calJ ca) p:Int))=true:=dEt (by omega);rw[dEf h2,Bool.and_false] at hsn;simp only[go_sem,zE,zB,zA,zM,zS,zL,reduceCtorEq,f0,f2,f13,f14,f15,fits,decide_true,d1,d2];exact yQ0 ⟨by rw[hno true hsn],rfl⟩
  ·have d1:decide ((Tryz.hF (calJ ca) p:Int)<1)=true:=dEt (by omega);rw[dEf h1,Bool.false_and] at hsn;simp only[go_sem,zE,zB,zA,zM,zS,zL,reduceCtorEq,f0,f2,f13,f14,f15,fits,decide_true,d1];exact yQ0 ⟨by rw[hno true hsn],rfl⟩
 ·rintro fr st1 _ ⟨hlo,rfl,f0,f2,f13,f14,f15,rfl⟩;rw[lTl] at hlo;simp only[go_sem,zE,zB,zA,zM,zS,zL,reduceCtorEq,f14,f15,yQl (nLi _),fits];exact yQ0 ⟨by rw[hlo],rfl⟩
theorem wJo (G:Gl gl)(T:Gt gl)(s s1:Sq)(f:Fm)(x:IV)(hx:IsSq s x)(hs:yJm s)(hl:s.l.length<=64/\s.r.length<=64)(h1:SetS s=(s1,0))(hf1:yJm s1)(hl1:s1.l.length<=64)(hf:s1.l.find? (hasF s1.r)=some f)(st:ISt) :
  ICall prog gl 81 [x] st (λr st'=>(∃z,yWb (1,f,[]) z/\r=.tup [z,.raw (.int .i64 0)])/\st'=st):=by
 have hS:=λst=>kQ7 gl G T s x hx hs ⟨by omega,by omega⟩ st;rw[h1] at hS;obtain⟨t1,x1,t2,x2,rfl,e1,i1,e2,i2⟩:=hx;refine iI func81 ?_;simp only[go_sem,zE,zB,zA,zM,zS,zL,reduceCtorEq,fits];refine (hS _).mono ?_;rintro _ st ⟨⟨y,rfl,hy⟩,rfl⟩;obtain⟨t3,x3,t4,x4,rfl,e3,i3,e4,i4⟩:=hy;simp only[go_sem,zE,zB,zA,zM,zS,zL,reduceCtorEq,fits,i3.len,show decide (((0:Nat):Int)=0)=true from rfl];intro _;refine LoopC.ctr s1.l.length (λk fr st' ds=>(∀g∈s1.l.take k,hasF s1.r g=false)/\st'=st/\fr 1=.box [.sl t3 x3,.sl t4 x4]/\fr 2=.box [.raw (.int .u8 0),.raw (.int .u8 0),.raw (.string ⟨#[]⟩),.sl ⟨true,.nil,0⟩ [],.sl ⟨true,.nil,0⟩ [],.sl ⟨true,.nil,0⟩ []]/\fr 17=.iv (.sl t3 x3)/\fr 18=.iv (.raw (.int .i64 (s1.l.length:Int)))/\fr 19=.iv (.raw (.int .i64 (k:Int)))/\ds=[]) ?_ ?_ ?_
 ·simp only[go_sem,zE,zB,zA,zM,zS,zL,reduceCtorEq];exact⟨nofun,rfl⟩
 ·rintro k fr st1 _ hlk ⟨hno,rfl,f1,f2,f17,f18,f19,rfl⟩;obtain⟨g,hg⟩:=yQ1 hlk;obtain⟨z,hz,hzg⟩:=i3.get hg;have hgm:=lMg hg;have hH:=λst=>xYj gl G s1.r g t4 x4 z e4 i4 hzg hf1.2 (hf1.1 g hgm) st;have hz0:=hzg;obtain⟨o5,n5,t5,x5,t6,x6,rfl⟩:=hzg.agg;simp only[go_sem,zE,zB,zA,zM,zS,zL,reduceCtorEq,f1,f2,f17,f18,f19,fits,lt_i hlk,yQ4 e3,iNn,hz];refine (hH _).mono ?_;rintro _ st1 ⟨rfl,rfl⟩;cases hb:hasF s1.r g
  ·simp only[go_sem,zE,zB,zA,zM,zS,zL,reduceCtorEq,f1,f2,f17,f18,f19,fits,yQd hlk (show s1.l.length<=281474976710656 by omega)];refine λq hq=>?_;rw[yQ8 hg] at hq;rcases List.mem_append.1 hq with hq|hq
   ·exact hno q hq
   ·rw[List.mem_singleton.1 hq];exact hb
  ·have hfg:f=g:=by
    rw[<- List.take_append_drop k s1.l,List.drop_eq_getElem_cons hlk,(lGs hg).2,List.find?_append,List.find?_eq_none.2 λq hq=>by rw[hno q hq];simp] at hf;simpa[hb] using hf.symm
   subst hfg;simp only[go_sem,zE,zB,zA,zM,zS,zL,reduceCtorEq,f1,f2,fits];exact yQ0 ⟨⟨_,⟨_,_,_,_,_,_,_,_,rfl,hz0,.inl rfl,AllR.nil⟩,rfl⟩,rfl⟩
 ·rintro fr st1 _ ⟨hno,rfl,f1,f2,f17,f18,f19,rfl⟩;rw[lTl] at hno;rw[List.find?_eq_none.2 λq hq=>by rw[hno q hq];simp] at hf;cases hf
theorem zGi (G:Gl gl)(T:Gt gl)(ca:Nat)(s:Sq)(hc:ca=1\/ca=2)(hv:yQv ca s=true)(h:Nat)(m:Nat×Fm×List Sn)(x:IV)(hx:IsSq s x)(hs:yJm s)
  (hcl:ClF s.l s.r->∀st,ICall prog gl 81 [x] st (λr st'=>(∃z,yWb m z/\r=.tup [z,.raw (.int .i64 0)])/\st'=st))
  (hmv:¬ ClF s.l s.r->¬ zG2 (calJ ca) (nf (s.l,s.r))/\(mvF (calJ ca) (nf (s.l,s.r))).find? (λv=>lowB (calJ ca) h v.2.2)=some m/\(mvF (calJ ca) (nf (s.l,s.r))).length<=1000000/\∀v∈mvF (calJ ca) (nf (s.l,s.r)),v.2.2.length<=1000000/\∀p∈v.2.2,∀y st,IsSq ⟨p.1,p.2⟩ y->ICall prog gl 28 [.raw (.int .u8 (ca:Int)),y] st (λr st'=>r=.tup [.raw (.int .i64 (Tryz.hF (calJ ca) p:Int)),.raw (.int .i64 0)]/\st'=st)) (st:ISt) :
  ICall prog gl 55 [.raw (.int .u8 (ca:Int)),x,.raw (.int .i64 (h:Int))] st (λr st'=>(∃z,yWb m z/\r=.tup [z,.raw (.int .i64 0)])/\st'=st):=by
 have hC:=λst=>wWu gl G T ca s x hx hs st;have hM:=λhn st=>wUz gl G T ca s hc hv hn x hx hs st;obtain⟨t1,x1,t2,x2,rfl,e1,i1,e2,i2⟩:=hx;refine iI func55 ?_;simp only[go_sem,zE,zB,zA,zM,zS,zL,reduceCtorEq,fits];refine (hC _).mono ?_;rintro r st ⟨rfl,hr⟩;obtain⟨b,hb,rfl⟩:∃b:Bool,(b=true↔ClF s.l s.r)/\r=.tup [.raw (.bool b),.raw (.int .i64 0)]:=by
  rcases hr with⟨h,_⟩|⟨_,h,_⟩|⟨_,_,h⟩
  ·exact absurd hc h
  ·rw[hv] at h;cases h
  ·exact h
 cases b
 ·have hncl:¬ ClF s.l s.r:=λh=>by have:=hb.2 h;cases this
  obtain⟨hlong,hfind,hml,hall⟩:=hmv hncl;simp only[go_sem,zE,zB,zA,zM,zS,zL,reduceCtorEq,fits,decide_true];refine (hM hlong _).mono ?_;rintro _ st ⟨⟨t,ys,ht,hys,rfl⟩,rfl⟩;generalize mvF (calJ ca) (nf (s.l,s.r))=L at hfind hml hall hys;have hyl:=hys.1;simp only[go_sem,zE,zB,zA,zM,zS,zL,reduceCtorEq,fits,decide_true,hyl];intro _;refine LoopC.ctr L.length (λk fr st' ds=>(∀v∈L.take k,lowB (calJ ca) h v.2.2=false)/\st'=st/\fr 0=.iv (.raw (.int .u8 (ca:Int)))/\fr 2=.iv (.raw (.int .i64 (h:Int)))/\fr 6=.box [.raw (.int .u8 0),.raw (.int .u8 0),.raw (.string ⟨#[]⟩),.sl ⟨true,.nil,0⟩ [],.sl ⟨true,.nil,0⟩ [],.sl ⟨true,.nil,0⟩ []]/\fr 40=.iv (.sl t ys)/\fr 41=.iv (.raw (.int .i64 (L.length:Int)))/\fr 42=.iv (.raw (.int .i64 (k:Int)))/\ds=[]) ?_ ?_ ?_
  ·simp only[go_sem,zE,zB,zA,zM,zS,zL,reduceCtorEq];exact⟨nofun,rfl⟩
  ·rintro k fr st1 _ hlk ⟨hno,rfl,f0,f2,f6,f40,f41,f42,rfl⟩;obtain⟨v,hvk⟩:=yQ1 hlk;obtain⟨y,hy,hyv⟩:=hys.2 k v hvk;obtain⟨hv1,hv2⟩:=hall v (lMg hvk);have hlw:=λst=>vQ3 gl ca v y hyv h hv1 hv2 st;have hy0:=hyv;obtain⟨o,n,q1,z1,q2,z2,q3,z3,rfl,_⟩:=hyv;simp only[go_sem,zE,zB,zA,zM,zS,zL,reduceCtorEq,f0,f2,f6,f40,f41,f42,fits,lt_i hlk,yQ4 ht,iNn,hy];refine (hlw _).mono ?_;rintro _ st1 ⟨rfl,rfl⟩;cases hlo:lowB (calJ ca) h v.2.2
   ·simp only[go_sem,zE,zB,zA,zM,zS,zL,reduceCtorEq,f0,f2,f6,f40,f41,f42,fits,decide_true,yQd hlk (show L.length<=281474976710656 by omega)];refine λq hq=>?_;rw[yQ8 hvk] at hq;rcases List.mem_append.1 hq with hq|hq
    ·exact hno q hq
    ·rw[List.mem_singleton.1 hq];exact hlo
   ·have hmv':m=v:=by
     rw[<- List.take_append_drop k L,List.drop_eq_getElem_cons hlk,(lGs hvk).2,List.find?_append,List.find?_eq_none.2 λq hq=>by rw[hno q hq];simp] at hfind;simpa[hlo] using hfind.symm
    subst hmv';simp only[go_sem,zE,zB,zA,zM,zS,zL,reduceCtorEq,f6,fits,decide_true];exact yQ0 ⟨⟨_,hy0,rfl⟩,rfl⟩
  ·rintro fr st1 _ ⟨hno,rfl,f0,f2,f6,f40,f41,f42,rfl⟩;rw[lTl] at hno;rw[List.find?_eq_none.2 λq hq=>by rw[hno q hq];simp] at hfind;cases hfind
 ·simp only[go_sem,zE,zB,zA,zM,zS,zL,reduceCtorEq,fits,decide_true];refine (hcl (hb.1 rfl) _).mono ?_;rintro _ st ⟨⟨z,hz,rfl⟩,rfl⟩;have hz0:=hz;obtain⟨o,n,q1,z1,q2,z2,q3,z3,rfl,_⟩:=hz;simp only[go_sem,zE,zB,zA,zM,zS,zL,reduceCtorEq,fits];exact yQ0 ⟨⟨_,hz0,rfl⟩,rfl⟩
abbrev nlS:IV:=.sl ⟨true,.nil,0⟩ []
def xZk (ca:Nat)(t:Tr)(h:Nat)(m:Nat×Fm×List Sn)(r:IV):Prop :=
 ((hCk ca t).2≠0/\r=.tup [nlS,.raw (.int .i64 0),mvZ,.raw (.int .i64 ((hCk ca t).2:Int))]) \/
 ((hCk ca t).2=0/\yJ7 t=[]/\r=.tup [nlS,.raw (.int .i64 0),mvZ,.raw (.int .i64 271)]) \/
 ((hCk ca t).2=0/\∃p ps tg,yJ7 t=p::ps/\okEs tg 1/\((h=0/\r=.tup [.sl tg (plI p),.raw (.int .i64 0),mvZ,.raw (.int .i64 272)])\/(0<h/\∃z,yWb m z/\r=.tup [.sl tg (plI p),.raw (.int .i64 (h:Int)),z,.raw (.int .i64 0)])))
theorem xJf {t:Tr}{p:List Nat}{ps:List (List Nat)}(h:yJ7 t=p::ps):okP t p/\p.length<=t.steps:=by
 have hm:p∈yJ7 t:=by rw[h];exact .head _
 unfold yJ7 at hm;obtain⟨⟨q,z⟩,hq,rfl⟩:=List.mem_map.1 hm;have hq:=(List.mem_filter.1 hq).1;obtain⟨p',h1,h2,_⟩:=xVm [] t q z hq;have:=yY4 [] t _ hq;have h5:=t.height_le_steps;simp only[List.length_nil] at this;rw[List.nil_append] at h1;exact⟨h1▸h2,by show q.length<=_;omega⟩
theorem xJp (G:Gl gl)(T:Gt gl)(hgl:∀g x,gl g=some x->age x=x)(ca:Nat)(t:Tr)(x:IV)(hx:IsTr t x)(hfit:xJn t)(hs:t.steps<=1000000)(h:Nat)(m:Nat×Fm×List Sn)
  (hL:∀p ps,(hCk ca t).2=0->yJ7 t=p::ps->∀y st,IsSq (atT t p).sq y->ICall prog gl 28 [.raw (.int .u8 (ca:Int)),y] st (λr st'=>r=.tup [.raw (.int .i64 (h:Int)),.raw (.int .i64 0)]/\st'=st))
  (hB:∀p ps,0<h->(hCk ca t).2=0->yJ7 t=p::ps->∀y st,IsSq (atT t p).sq y->ICall prog gl 55 [.raw (.int .u8 (ca:Int)),y,.raw (.int .i64 (h:Int))] st (λr st'=>(∃z,yWb m z/\r=.tup [z,.raw (.int .i64 0)])/\st'=st)) (st:ISt) :
  ICall prog gl 30 [.raw (.int .u8 (ca:Int)),x] st (λr st'=>xZk ca t h m r/\st'=st):=by
 have hC:=λst=>zXn gl G T ca t x hx hfit hs st;have hG:=λst=>wKg gl hgl t x hx hs st;have hA:=λp hp tg htg hl st=>at_c gl t x hx p hp tg htg hl st;obtain⟨rule,tl,xl,tr,xr,op,fn,ta,xa,tb,xb,v,un,tu,xu,n,ts,xs,rfl⟩:=yX8 hx;refine ICall.intro (c:=cf prog gl [] [(7,[0,1,2,3,6,4,5,7])]) func30 rfl (by show _<=69;simp) (by kernel_rfl) ?_;simp only[go_sem,zE,zB,zA,zM,zS,zL,reduceCtorEq,fits];refine (hC _).mono ?_;rintro _ st ⟨⟨tg0,rfl,_⟩,rfl⟩;by_cases h0:(hCk ca t).2=0
 ·have d0:decide (((hCk ca t).2:Int)=0)=true:=dEt (by omega);simp only[go_sem,zE,zB,zA,zM,zS,zL,reduceCtorEq,fits,d0];refine (hG _).mono ?_;rintro _ st ⟨⟨tg,ys,rfl,htg,hys⟩,rfl⟩;cases hgs:yJ7 t with
  | nil =>
   rw[hgs] at hys;obtain rfl:ys=[]:=List.eq_nil_of_length_eq_zero hys.1;simp only[go_sem,zE,zB,zA,zM,zS,zL,reduceCtorEq,fits,show decide (((0:Nat):Int)=0)=true from rfl];exact yQ0 ⟨.inr (.inl ⟨h0,hgs,rfl⟩),rfl⟩
  | cons p ps =>
   rw[hgs] at hys;obtain⟨y,hy,t',rfl,ht'⟩:=hys.2 0 p rfl;obtain⟨zs,rfl⟩:∃zs,ys=.sl t' (plI p)::zs:=by
    cases ys with
    | nil=>cases hy
    | cons a zs=>cases hy;exact⟨zs,rfl⟩
   obtain⟨hok,hpl⟩:=xJf hgs;have d1:decide (((zs.length+1:Nat):Int)=0)=false:=dEf (by omega);have ha:=hA p hok t' ht' (Nat.le_trans hpl hs);simp only[go_sem,zE,zB,zA,zM,zS,zL,reduceCtorEq,fits,d1,yQ4 htg];intro _;refine (ha _).mono ?_;rintro r st ⟨hr,rfl⟩;have hLp:=hL p ps h0 hgs;have hBp:=λhh=>hB p ps hh h0 hgs;generalize atT t p=z at hr hLp hBp;obtain⟨rule',sq',f',u',n',sub'⟩:=z;obtain⟨tl',xl',tr',xr',op',fn',ta',xa',tb',xb',v',un',tu',xu',ts',xs',rfl,_,e1',i1',e2',i2',_⟩:=hr.mk;have hsq:IsSq sq' (.agg [.sl tl' xl',.sl tr' xr']):=⟨_,_,_,_,rfl,e1',i1',e2',i2'⟩
   have hL2:=λst=>hLp _ st hsq;have hB2:=λhh st=>hBp hh _ st hsq;simp only[go_sem,zE,zB,zA,zM,zS,zL,reduceCtorEq,fits];refine (hL2 _).mono ?_;rintro _ st ⟨rfl,rfl⟩;rcases Nat.eq_zero_or_pos h with rfl|hh
   ·simp only[go_sem,zE,zB,zA,zM,zS,zL,reduceCtorEq,fits,decide_true,show decide (((0:Nat):Int)=0)=true from rfl,yQ4 htg,Int.le_refl,Int.toNat_zero];exact yQ0 ⟨.inr (.inr ⟨h0,p,ps,t',hgs,ht',.inl ⟨rfl,rfl⟩⟩),rfl⟩
   ·have d2:decide ((h:Int)=0)=false:=dEf (by omega);simp only[go_sem,zE,zB,zA,zM,zS,zL,reduceCtorEq,fits,decide_true,d2];refine (hB2 hh _).mono ?_;rintro _ st ⟨⟨z,hz,rfl⟩,rfl⟩;have hz0:=hz;obtain⟨o,n,q1,z1,q2,z2,q3,z3,rfl,_⟩:=hz;simp only[go_sem,zE,zB,zA,zM,zS,zL,reduceCtorEq,fits,decide_true,yQ4 htg,Int.le_refl,Int.toNat_zero];exact yQ0 ⟨.inr (.inr ⟨h0,p,ps,t',hgs,ht',.inr ⟨hh,_,hz0,rfl⟩⟩),rfl⟩
 ·have d0:decide (((hCk ca t).2:Int)=0)=false:=dEf (by omega);simp only[go_sem,zE,zB,zA,zM,zS,zL,reduceCtorEq,fits,d0];exact yQ0 ⟨.inl ⟨h0,rfl⟩,rfl⟩
def wGy (t:Tr):Tr:=goalT t.sq
def folF (m:Nat×Fm×List Sn)(t:Tr):Tr:=.mk m.1 t.sq m.2.1 tmZ noN (m.2.2.map λp=>goalT ⟨p.1,p.2⟩)
theorem wGz (t:Tr)(x:IV)(hx:IsTr t x)(st:ISt):ICall prog gl 35 [x] st (λr st'=>IsTr (wGy t) r/\st'=st):=by
 obtain⟨rule',sq',f',u',n',sub'⟩:=t;obtain⟨tl',xl',tr',xr',op',fn',ta',xa',tb',xb',v',un',tu',xu',ts',xs',rfl,_,e1,i1,e2,i2,_⟩:=hx.mk;refine iI func35 ?_;simp only[go_sem,zE,zB,zA,zM,zS,zL,reduceCtorEq,fits];exact yQ0 ⟨⟨_,_,_,_,_,_,_,_,_,_,_,_,_,_,_,_,rfl,by decide,e1,i1,e2,i2,xGy,zUd,.inl rfl,rfl⟩,rfl⟩
theorem wU9 {s:Sq}{x:IV}(h:IsSq s x):IsSq s (age x):=by
 obtain⟨t,xs,t',ys,rfl,e1,i1,e2,i2⟩:=h;exact⟨⟨false,t.cap,t.es⟩,_,⟨false,t'.cap,t'.es⟩,_,by simp only[age,ages],e1,i1.aged,e2,i2.aged⟩
theorem wJy {l:List IV}{i:Nat}{x:IV}(h:l[i]?=some x):(ages l)[i]?=some (age x):=by
 induction l generalizing i with
 | nil=>simp at h
 | cons a l ih =>
  cases i with
  | zero=>cases h;simp[ages]
  | succ i=>simp only[ages,List.getElem?_cons_succ] at h ⊢;exact ih h
theorem zV4:∀l:List IV,(ages l).length=l.length
 | []=>by simp[ages]
 | _::l=>by simp[ages,zV4 l]
theorem wUx {m:Nat×Fm×List Sn}{x:IV}(h:yWb m x):yWb m (age x):=by
 obtain⟨o,n,t1,x1,t2,x2,t3,x3,rfl,hf,e3,h3⟩:=h;have hfa:=hf.aged;simp only[age,ages] at hfa;refine⟨_,_,_,_,_,_,⟨false,t3.cap,t3.es⟩,ages x3,by simp only[age,ages],hfa,e3,by rw[zV4];exact h3.1,λi p hp=>?_⟩;obtain⟨y,h1,h2⟩:=h3.2 i p hp;exact⟨_,wJy h1,wU9 h2⟩
theorem wXv (m:Nat×Fm×List Sn)(z:List IV)(hm:yWb m (.agg z))(hr:m.1<256)(hl:m.2.2.length<=1000000)(t:Tr)(x:IV)(hx:IsTr t x)(st:ISt):ICall prog gl 33 [x,.cptr (.agg z)] st (λr st'=>IsTr (folF m t) r/\st'=st):=by
 obtain⟨rule',sq',f',u',n',sub'⟩:=t;obtain⟨tl',xl',tr',xr',op',fn',ta',xa',tb',xb',v',un',tu',xu',ts',xs',rfl,_,e1,i1,e2,i2,_⟩:=hx.mk;obtain⟨o,n,t1,x1,t2,x2,t3,x3,hz,hf,e3,h3⟩:=hm;injection hz with hz;subst hz;have hl3:=h3.1;refine iI func33 ?_;simp only[go_sem,zE,zB,zA,zM,zS,zL,reduceCtorEq,fits,hl3];intro _;refine LoopC.ctr m.2.2.length (λk fr st' ds=>(∃t y,fr 4=.box [.raw (.int .u8 (m.1:Int)),.sl tl' xl',.sl tr' xr',.raw (.int .u8 o),.raw (.string n),.sl t1 x1,.sl t2 x2,.raw (.bool false),.raw (.string ⟨#[]⟩),.sl ⟨true,.nil,0⟩ [],.raw (.string ⟨#[]⟩),.sl t y]/\own st' t k 12 st/\subSt st st'/\IsTrs ((m.2.2.take k).map λp=>goalT ⟨p.1,p.2⟩) y/\y.length=k) /\
  fr 3=.box z12/\fr 15=.iv (.sl t3 x3)/\fr 16=.iv (.raw (.int .i64 (m.2.2.length:Int)))/\fr 17=.iv (.raw (.int .i64 (k:Int)))/\ds=[]) ?_ ?_ ?_
 ·simp only[go_sem,zE,zB,zA,zM,zS,zL,reduceCtorEq,z12];exact⟨⟨_,[],rfl,own.nil ..,subSt.refl _,rfl,rfl⟩,rfl⟩
 ·rintro k fr st1 _ hlk ⟨⟨t,y,f4,hown,hsub,hy,hyl⟩,f3,f15,f16,f17,rfl⟩;obtain⟨p,hp⟩:=yQ1 hlk;obtain⟨q,hq,hqp⟩:=h3.2 k p hp;obtain⟨t5,x5,t6,x6,rfl,e5,i5,e6,i6⟩:=hqp;simp only[go_sem,zE,zB,zA,zM,zS,zL,reduceCtorEq,f3,f4,f15,f16,f17,fits,lt_i hlk,yQ4 e3,iNn,hq,yQ3];refine yZf hown hyl hsub rfl (by simp[fits,IV.one]) (by simp only;omega) (by omega) λt' st3 w1 w2 w3=>?_;simp only[go_sem,zE,zB,zA,zM,zS,zL,reduceCtorEq,f3,f4,f15,f16,f17,fits,yQd hlk (show m.2.2.length<=281474976710656 by omega)];refine⟨t',_,rfl,w1,w2,?_,by rw[lLa,hyl];rfl⟩;rw[yQ8 hp,List.map_append,List.map_singleton];exact hy.append ⟨_,[],rfl,⟨_,_,_,_,_,_,_,_,_,_,_,_,_,_,_,_,rfl,by decide,e5,i5,e6,i6,xGy,zUd,.inl rfl,rfl⟩,rfl⟩
 ·rintro fr st1 _ ⟨⟨t,y,f4,hown,hsub,hy,hyl⟩,f3,f15,f16,f17,rfl⟩;rw[lTl] at hy;simp only[go_sem,zE,zB,zA,zM,zS,zL,reduceCtorEq,f3,f4,f16,f17,z12,fits,yQl (nLi _)];exact yQg hsub ⟨⟨_,_,_,_,_,_,_,_,_,_,_,_,_,_,_,_,rfl,hr,e1,i1,e2,i2,hf,zUd,hown.es,hy⟩,rfl⟩
theorem vQg (G:Gl gl)(T:Gt gl)(ca:Nat)(t:Tr)(x:IV)(hx:IsTr t x)(hfit:xJn t)(hs:t.steps<=1000000)(he:(hCk ca t).2≠0)(st:ISt):ICall prog gl 12 [.raw (.int .u8 (ca:Int)),x] st (λr st'=>r=.tup [.raw (.int .i64 0),.raw (.int .i64 ((hCk ca t).2:Int))]/\st'=st):=by
 have hC:=λst=>zXn gl G T ca t x hx hfit hs st;obtain⟨rule,tl,xl,tr,xr,op,fn,ta,xa,tb,xb,v,un,tu,xu,n,ts,xs,rfl⟩:=yX8 hx;refine iI func12 ?_;simp only[go_sem,zE,zB,zA,zM,zS,zL,reduceCtorEq,fits];refine (hC _).mono ?_;rintro _ st ⟨⟨tg0,rfl,_⟩,rfl⟩;have d0:decide (((hCk ca t).2:Int)=0)=false:=dEf (by omega);simp only[go_sem,zE,zB,zA,zM,zS,zL,reduceCtorEq,fits,d0];exact yQ0 ⟨rfl,rfl⟩
theorem vQe (hgl:∀g x,gl g=some x->age x=x)(ca:Nat)(t:Tr)(x:IV)(hx:IsTr t x)(hs:t.steps<=1000000)(p:List Nat)(ps:List (List Nat))(hgs:yJ7 t=p::ps)
  (hL:∀y st,IsSq (atT t p).sq y->ICall prog gl 28 [.raw (.int .u8 (ca:Int)),y] st (λr st'=>r=.tup [.raw (.int .i64 0),.raw (.int .i64 0)]/\st'=st)) (st:ISt) :
  ICall prog gl 34 [.raw (.int .u8 (ca:Int)),x] st (λr st'=>(∃tg,okEs tg 1/\r=.tup [.sl tg (plI p),.raw (.int .i64 0)])/\st'=st):=by
 have hG:=λst=>wKg gl hgl t x hx hs st;obtain⟨hok,hpl⟩:=xJf hgs;have hA:=λtg htg st=>at_c gl t x hx p hok tg htg (Nat.le_trans hpl hs) st;obtain⟨rule,tl,xl,tr,xr,op,fn,ta,xa,tb,xb,v,un,tu,xu,n,ts,xs,rfl⟩:=yX8 hx;refine iI func34 ?_;simp only[go_sem,zE,zB,zA,zM,zS,zL,reduceCtorEq,fits];refine (hG _).mono ?_;rintro _ st ⟨⟨tg,ys,rfl,htg,hys⟩,rfl⟩;rw[hgs] at hys;obtain⟨y,hy,t',rfl,ht'⟩:=hys.2 0 p rfl;obtain⟨zs,rfl⟩:∃zs,ys=.sl t' (plI p)::zs:=by
  cases ys with
  | nil=>cases hy
  | cons a zs=>cases hy;exact⟨zs,rfl⟩
 simp only[go_sem,zE,zB,zA,zM,zS,zL,reduceCtorEq,fits];intro _;refine LoopC.ctr (zs.length+1) (λk fr st' ds=>k=0/\st'=st/\fr 0=.iv (.raw (.int .u8 (ca:Int)))/\fr 3=.box [.raw (.int .u8 rule),.sl tl xl,.sl tr xr,.raw (.int .u8 op),.raw (.string fn),.sl ta xa,.sl tb xb,.raw (.bool v),.raw (.string un),.sl tu xu,.raw (.string n),.sl ts xs]/\fr 11=.iv (.sl tg (.sl t' (plI p)::zs))/\fr 12=.iv (.raw (.int .i64 ((zs.length+1:Nat):Int)))/\fr 13=.iv (.raw (.int .i64 (k:Int)))/\ds=[]) ?_ ?_ ?_
 ·simp only[go_sem,zE,zB,zA,zM,zS,zL,reduceCtorEq];exact rfl
 ·rintro k fr st1 _ hlk ⟨rfl,rfl,f0,f3,f11,f12,f13,rfl⟩;have ha:=hA t' ht' st1;have dl:decide (((0:Nat):Int)<((zs.length+1:Nat):Int))=true:=dEt (by omega);simp only[go_sem,zE,zB,zA,zM,zS,zL,reduceCtorEq,f0,f3,f11,f12,f13,fits,dl,yQ4 htg];refine ha.mono ?_;rintro r st1 ⟨hr,rfl⟩;generalize atT t p=z at hr hL;obtain⟨rule',sq',f',u',n',sub'⟩:=z;obtain⟨tl',xl',tr',xr',op',fn',ta',xa',tb',xb',v',un',tu',xu',ts',xs',rfl,_,e1',i1',e2',i2',_⟩:=hr.mk;have hL2:=λst=>hL _ st ⟨_,_,_,_,rfl,e1',i1',e2',i2'⟩;simp only[go_sem,zE,zB,zA,zM,zS,zL,reduceCtorEq,f0,fits];refine (hL2 _).mono ?_;rintro _ st1 ⟨rfl,rfl⟩;simp only[go_sem,zE,zB,zA,zM,zS,zL,reduceCtorEq,fits,decide_true];exact yQ0 ⟨⟨t',ht',rfl⟩,rfl⟩
 ·rintro fr st1 _ ⟨h,_⟩;omega
theorem wXq (G:Gl gl)(T:Gt gl)(hgl:∀g x,gl g=some x->age x=x)(ca:Nat)(t:Tr)(x:IV)(hx:IsTr t x)(hfit:xJn t)(hs:t.steps<=1000000)(h:Nat)
  (hE:(hCk ca t).2=0->(∃i,yJ7 t=[[i]]/\∀y st,IsSq (atT t [i]).sq y->ICall prog gl 28 [.raw (.int .u8 (ca:Int)),y] st (λr st'=>r=.tup [.raw (.int .i64 0),.raw (.int .i64 0)]/\st'=st))/\0<h/\∀y st,IsSq t.sq y->ICall prog gl 28 [.raw (.int .u8 (ca:Int)),y] st (λr st'=>r=.tup [.raw (.int .i64 (h:Int)),.raw (.int .i64 0)]/\st'=st)) (st:ISt) :
  ICall prog gl 16 [.raw (.int .u8 (ca:Int)),x] st (λr st'=>(((hCk ca t).2≠0/\r=.tup [nlS,.raw (.int .i64 ((hCk ca t).2:Int))])\/((hCk ca t).2=0/\∃tg,okEs tg 1/\r=.tup [.sl tg (plI []),.raw (.int .i64 0)]))/\st'=st):=by
 have hC:=λst=>zXn gl G T ca t x hx hfit hs st;have hA:=λtg htg st=>at_c gl t x hx [] trivial tg htg (Nat.zero_le _) st;have hlo:=λi hgs hL st=>vQe gl hgl ca t x hx hs [i] [] hgs hL st;have hx0:=hx;obtain⟨rule',sq',f',u',n',sub'⟩:=t;obtain⟨tl',xl',tr',xr',op',fn',ta',xa',tb',xb',v',un',tu',xu',ts',xs',rfl,_,e1',i1',e2',i2',_⟩:=hx.mk;refine iI func16 ?_;simp only[go_sem,zE,zB,zA,zM,zS,zL,reduceCtorEq,fits];refine (hC _).mono ?_;rintro _ st ⟨⟨tg0,rfl,_⟩,rfl⟩;by_cases h0:(hCk ca (.mk rule' sq' f' u' n' sub')).2=0
 ·have d0:decide (((hCk ca (.mk rule' sq' f' u' n' sub')).2:Int)=0)=true:=dEt (by omega);obtain⟨⟨i,hgs,hL⟩,hh,hR⟩:=hE h0;simp only[go_sem,zE,zB,zA,zM,zS,zL,reduceCtorEq,fits,d0];refine (hlo i hgs hL _).mono ?_;rintro _ st ⟨⟨tg,htg,rfl⟩,rfl⟩;simp only[go_sem,zE,zB,zA,zM,zS,zL,reduceCtorEq,fits,decide_true];refine LoopC.ctr 1 (λk fr st' ds=>k=0/\st'=st/\fr 0=.iv (.raw (.int .u8 (ca:Int)))/\fr 3=.box [.raw (.int .u8 rule'),.sl tl' xl',.sl tr' xr',.raw (.int .u8 op'),.raw (.string fn'),.sl ta' xa',.sl tb' xb',.raw (.bool v'),.raw (.string un'),.sl tu' xu',.raw (.string n'),.sl ts' xs']/\fr 8=.iv (.sl tg (plI [i]))/\ds=[]) ?_ ?_ ?_
  ·simp only[go_sem,zE,zB,zA,zM,zS,zL,reduceCtorEq]
  ·rintro k fr st1 _ hlk ⟨rfl,rfl,f0,f3,f8,rfl⟩;have hl:(plI [i]).length=1:=rfl;simp only[go_sem,zE,zB,zA,zM,zS,zL,reduceCtorEq,f0,f3,f8,fits,hl,show decide ((0:Int)<((1:Nat):Int))=true from rfl,show IntKind.i64.wrap (((1:Nat):Int)-1)=0 from rfl,show yX6 none (some 0) 1=some (0,0) from rfl,yQ4 htg];have hsl:=xVo htg 1 0 0;refine (hA _ hsl _).mono ?_;rintro r st1 ⟨hr,rfl⟩;simp only[atT] at hr;obtain⟨tl2,xl2,tr2,xr2,op2,fn2,ta2,xa2,tb2,xb2,v2,un2,tu2,xu2,ts2,xs2,rfl,_,e1,i1,e2,i2,_⟩:=hr.mk;have hR2:=λst=>hR _ st ⟨_,_,_,_,rfl,e1,i1,e2,i2⟩;simp only[go_sem,zE,zB,zA,zM,zS,zL,reduceCtorEq,f0,fits];refine (hR2 _).mono ?_;rintro _ st1 ⟨rfl,rfl⟩;have dh:decide ((0:Int)<(h:Int))=true:=dEt (by omega);simp only[go_sem,zE,zB,zA,zM,zS,zL,reduceCtorEq,fits,decide_true,dh];exact yQ0 ⟨.inr ⟨h0,_,hsl,rfl⟩,rfl⟩
  ·rintro fr st1 _ ⟨h,_⟩;omega
 ·have d0:decide (((hCk ca (.mk rule' sq' f' u' n' sub')).2:Int)=0)=false:=dEf (by omega);simp only[go_sem,zE,zB,zA,zM,zS,zL,reduceCtorEq,fits,d0];exact yQ0 ⟨.inl ⟨h0,rfl⟩,rfl⟩
theorem wXn (ca:Nat)(t res:Tr)(x:IV)(hx:IsTr t x)(e:Nat)(hB:∀st,ICall prog gl 16 [.raw (.int .u8 (ca:Int)),x] st (λr st'=>((e≠0/\r=.tup [nlS,.raw (.int .i64 (e:Int))])\/(e=0/\∃tg,okEs tg 1/\r=.tup [.sl tg (plI []),.raw (.int .i64 0)]))/\st'=st))
  (n:Nat) (hv:e=0->visF wGy n t true []=some res) (st:ISt) :
  ICall prog gl 17 [.raw (.int .u8 (ca:Int)),x] st (λr st'=>((e≠0/\r=.tup [.agg z12,.raw (.int .i64 (e:Int))])\/(e=0/\∃z,IsTr res z/\r=.tup [z,.raw (.int .i64 0)]))/\st'=st):=by
 have hrp:=λhe tg htg st=>wYn gl wGy (.func 35) [] [] (λi h=>by cases h;simp only[go_sem]) (λ_=>True) (λ_ _ _ _=>trivial) (λt x st _ hx=>.of_ICall (by simp only[go_sem]) (wGz gl t x hx st)) n t x hx [] tg htg (Nat.zero_le _) res (hv he) st trivial;obtain⟨rule,tl,xl,tr,xr,op,fn,ta,xa,tb,xb,v,un,tu,xu,n',ts,xs,rfl⟩:=yX8 hx;refine iI func17 ?_;simp only[go_sem,zE,zB,zA,zM,zS,zL,reduceCtorEq,fits];refine (hB _).mono ?_;rintro _ st ⟨⟨he,rfl⟩|⟨he,tg,htg,rfl⟩,rfl⟩
 ·have d0:decide ((e:Int)=0)=false:=dEf (by omega);simp only[go_sem,zE,zB,zA,zM,zS,zL,reduceCtorEq,fits,d0];exact yQ0 ⟨.inl ⟨he,rfl⟩,rfl⟩
 ·simp only[go_sem,zE,zB,zA,zM,zS,zL,reduceCtorEq,fits,decide_true];refine (hrp he tg htg _).mono ?_;rintro z st ⟨hz,rfl⟩;have hz0:=hz;obtain⟨rule',tl',xl',tr',xr',op',fn',ta',xa',tb',xb',v',un',tu',xu',n',ts',xs',rfl⟩:=yX8 hz;simp only[go_sem,zE,zB,zA,zM,zS,zL,reduceCtorEq,fits];exact yQ0 ⟨.inr ⟨he,_,hz0,rfl⟩,rfl⟩
theorem zK7 (ca:Nat)(t res:Tr)(x:IV)(hx:IsTr t x)(hs:t.steps<=1000000)(h:Nat)(m:Nat×Fm×List Sn)(hr:m.1<256)(hF:∀st,ICall prog gl 30 [.raw (.int .u8 (ca:Int)),x] st (λr st'=>xZk ca t h m r/\st'=st))
  (n:Nat) (hv:∀p ps,0<h->yJ7 t=p::ps->t.steps+m.2.2.length<=300/\visF (folF m) n t true p=some res) (st:ISt) :
  ICall prog gl 15 [.raw (.int .u8 (ca:Int)),x] st (λr st'=>(((hCk ca t).2≠0/\r=.tup [.agg z12,.raw (.int .i64 ((hCk ca t).2:Int))])\/((hCk ca t).2=0/\yJ7 t=[]/\r=.tup [.agg z12,.raw (.int .i64 271)])\/((hCk ca t).2=0/\h=0)\/((hCk ca t).2=0/\yJ7 t≠[]/\∃z,IsTr res z/\r=.tup [z,.raw (.int .i64 0)]))/\st'=st):=by
 have hN:=λst=>wKd gl t x hx (by omega) st;have hrp:=λp ps hh hgs z hm tg htg st=>wYn gl (folF m) (.func 33) [] [.cptr (.agg z)] (λi h=>by cases h;simp only[go_sem]) (λ_=>True) (λ_ _ _ _=>trivial) (λt x st _ hx=>.of_ICall (by simp only[go_sem]) (wXv gl m z hm hr (by have:=(hv p ps hh hgs).1;omega) t x hx st)) n t x hx p tg htg (Nat.le_trans (xJf hgs).2 hs) res (hv p ps hh hgs).2 st trivial;obtain⟨rule,tl,xl,tr,xr,op,fn,ta,xa,tb,xb,v,un,tu,xu,n',ts,xs,rfl⟩:=yX8 hx;refine ICall.introF (t:=8) (n:=2) (c:=cf prog gl [8] [(4,[0,2,3,4,1,5,6])]) func15 rfl (by show _<=34;simp) (by show _<34;simp) (by kernel_rfl) ?_;simp only[go_sem,zE,zB,zA,zM,zS,zL,reduceCtorEq,fits];refine (hF _).mono ?_;rintro r st ⟨⟨h0,rfl⟩|⟨h0,hgs,rfl⟩|⟨h0,p,ps,tg,hgs,htg,⟨hh,rfl⟩|⟨hh,z,hz,rfl⟩⟩,rfl⟩
 ·have d0:decide (((hCk ca t).2:Int)=0)=false:=dEf (by omega);simp only[go_sem,zE,zB,zA,zM,zS,zL,reduceCtorEq,fits];refine λb=>yQ9 λhb=>?_;refine⟨b,mvZ,by simp only[go_sem,zE,zB,zA,zM,zS,zL,reduceCtorEq],ISt.put_same ..,?_⟩;rw[yJy hb];simp only[go_sem,zE,zB,zA,zM,zS,zL,reduceCtorEq,fits,d0];exact yQ0 ⟨.inl ⟨h0,rfl⟩,rfl⟩
 ·simp only[go_sem,zE,zB,zA,zM,zS,zL,reduceCtorEq,fits];refine λb=>yQ9 λhb=>?_;refine⟨b,mvZ,by simp only[go_sem,zE,zB,zA,zM,zS,zL,reduceCtorEq],ISt.put_same ..,?_⟩;rw[yJy hb];simp only[go_sem,zE,zB,zA,zM,zS,zL,reduceCtorEq,fits,show decide ((271:Int)=0)=false from rfl];exact yQ0 ⟨.inr (.inl ⟨h0,hgs,rfl⟩),rfl⟩
 ·simp only[go_sem,zE,zB,zA,zM,zS,zL,reduceCtorEq,fits];refine λb=>yQ9 λhb=>?_;refine⟨b,mvZ,by simp only[go_sem,zE,zB,zA,zM,zS,zL,reduceCtorEq],ISt.put_same ..,?_⟩;rw[yJy hb];simp only[go_sem,zE,zB,zA,zM,zS,zL,reduceCtorEq,fits,show decide ((272:Int)=0)=false from rfl];exact yQ0 ⟨.inr (.inr (.inl ⟨h0,hh⟩)),rfl⟩
 ·have hz0:=wUx hz;obtain⟨hst,_⟩:=hv p ps hh hgs;obtain⟨o,nm,q1,z1,q2,z2,q3,z3,rfl,_,_,h3⟩:=hz;have hl3:=h3.1;simp only[go_sem,zE,zB,zA,zM,zS,zL,reduceCtorEq,fits];refine λb=>yQ9 λhb=>?_;refine⟨b,.agg [.raw (.int .u8 (m.1:Int)),.raw (.int .u8 o),.raw (.string nm),.sl q1 z1,.sl q2 z2,.sl q3 z3],by simp only[go_sem,zE,zB,zA,zM,zS,zL,reduceCtorEq],ISt.put_same ..,?_⟩;rw[yJy hb];simp only[age,ages] at hz0 ⊢;have hal:(ages z3).length=m.2.2.length:=by rw[zV4];exact hl3
  have dn:decide ((300:Int)<IntKind.i64.wrap ((t.steps:Int)+(m.2.2.length:Int)))=false:=dEf (by rw[w64 (by omega) (by omega)];omega);simp only[go_sem,zE,zB,zA,zM,zS,zL,reduceCtorEq,fits,decide_true,hal];refine (hN _).mono ?_;rintro _ st ⟨rfl,rfl⟩;simp only[go_sem,zE,zB,zA,zM,zS,zL,reduceCtorEq,fits,hal,dn];refine (hrp p ps hh hgs _ hz0 tg htg _).mono ?_;rintro y st ⟨hy,rfl⟩;have hy0:=hy;obtain⟨rule',tl',xl',tr',xr',op',fn',ta',xa',tb',xb',v',un',tu',xu',n',ts',xs',rfl⟩:=yX8 hy;simp only[go_sem,zE,zB,zA,zM,zS,zL,reduceCtorEq,fits];exact yQ0 ⟨.inr (.inr (.inr ⟨h0,by rw[hgs];simp,_,hy0,rfl⟩)),rfl⟩
abbrev advZ:List IV:=[nlS,.raw (.int .i64 0),.raw (.bool false),.raw (.int .u8 0),.raw (.string ⟨#[]⟩),nlS,nlS,.raw (.int .u8 0),nlS]
def onR (r:Nat):Bool:=decide (r=4\/r=6\/r=8\/r=18\/r=10\/r=12)
theorem wZ8 (r:Nat)(st:ISt):ICall prog gl 58 [.raw (.int .u8 (r:Int))] st (λx st'=>x=.raw (.bool (onR r))/\st'=st):=by
 refine iI func58 ?_;by_cases g4:r=4
 ·simp only[go_sem,zE,zB,zA,zM,zS,zL,reduceCtorEq,show decide ((r:Int)=4)=true from dEt (by omega)];exact yQ0 ⟨by simp[onR,g4],rfl⟩
 have d4:decide ((r:Int)=4)=false:=dEf (by omega);by_cases g6:r=6
 ·simp only[go_sem,zE,zB,zA,zM,zS,zL,reduceCtorEq,d4,show decide ((r:Int)=6)=true from dEt (by omega)];exact yQ0 ⟨by simp[onR,g6],rfl⟩
 have d6:decide ((r:Int)=6)=false:=dEf (by omega);by_cases g8:r=8
 ·simp only[go_sem,zE,zB,zA,zM,zS,zL,reduceCtorEq,d4,d6,show decide ((r:Int)=8)=true from dEt (by omega)];exact yQ0 ⟨by simp[onR,g8],rfl⟩
 have d8:decide ((r:Int)=8)=false:=dEf (by omega);by_cases g18:r=18
 ·simp only[go_sem,zE,zB,zA,zM,zS,zL,reduceCtorEq,d4,d6,d8,show decide ((r:Int)=18)=true from dEt (by omega)];exact yQ0 ⟨by simp[onR,g18],rfl⟩
 have d18:decide ((r:Int)=18)=false:=dEf (by omega);by_cases g10:r=10
 ·simp only[go_sem,zE,zB,zA,zM,zS,zL,reduceCtorEq,d4,d6,d8,d18,show decide ((r:Int)=10)=true from dEt (by omega)];exact yQ0 ⟨by simp[onR,g10],rfl⟩
 have d10:decide ((r:Int)=10)=false:=dEf (by omega);by_cases g12:r=12
 ·simp only[go_sem,zE,zB,zA,zM,zS,zL,reduceCtorEq,d4,d6,d8,d18,d10,show decide ((r:Int)=12)=true from dEt (by omega)];exact yQ0 ⟨by simp[onR,g12],rfl⟩
 have d12:decide ((r:Int)=12)=false:=dEf (by omega);simp only[go_sem,zE,zB,zA,zM,zS,zL,reduceCtorEq,d4,d6,d8,d18,d10,d12];exact yQ0 ⟨by simp[onR,g4,g6,g8,g18,g10,g12],rfl⟩
def D1J (tg:Tag)(pl:List IV)(h:Int)(b:Nat)(c0 c1:IV)(z:List IV)(S:ISt)(listed:Array Bool):Kt:=λad fr st ds=>(∀s,ad s=none)/\ds=[]/\fr 0=.iv (pt b)/\fr 1=.iv (.cptr (.sl tg pl))/\fr 2=.iv (.cptr (.raw (.int .i64 h))) /\
 (listed.getD 0 false=true->fr 4=.iv (pt b))/\(listed.getD 1 false=true->fr 5=.iv (pt b))/\(listed.getD 2 false=true->fr 6=.iv (.sl tg pl))/\(listed.getD 3 false=true->fr 7=.iv (.raw (.int .i64 h)))/\(listed.getD 4 false=true->fr 8=.iv (pt b))/\(listed.getD 5 false=true->fr 9=.iv (pt b)) /\
 (listed.getD 7 false=true->fr 10=.iv (pt b))/\(listed.getD 8 false=true->fr 11=.iv (.raw (.pointer (some ⟨b,1,none⟩))))/\st=S.put b (some (.box ((if listed.getD 6 false=true then .sl tg pl else c0)::(if listed.getD 9 false=true then .raw (.int .i64 h) else c1)::z)))
section
variable (c0 c1 c2 c3 c4 c5 c6 c7 c8:IV)(b:Nat)(st:ISt)(hst:st b=some (.box [c0,c1,c2,c3,c4,c5,c6,c7,c8]))
include hst
theorem vWq (tg:Tag)(pl:List IV)(h:Int):ICall prog gl 56 [pt b,.cptr (.sl tg pl),.cptr (.raw (.int .i64 h))] st (λ_ st'=>st'=st.put b (some (.box [.sl tg pl,.raw (.int .i64 h),c2,c3,c4,c5,c6,c7,c8]))):=by
 refine ICall.intro (c:=cf prog gl [2] [(0,[])]) func56 rfl (by show _<=12;simp) (by kernel_rfl) ?_;have hS:st=st.put b (some (.box (c0::c1::[c2,c3,c4,c5,c6,c7,c8]))):=by
  funext c;by_cases hc:c=b
  ·rw[hc,ISt.put_same];exact hst
  ·rw[yQ7 hc]
 simp only[go_sem,zE,zB,zA,zM,zS,zL,reduceCtorEq];refine zZg (D1J tg pl h b c0 c1 [c2,c3,c4,c5,c6,c7,c8] st) ?_ ?_ _ _ _ _ _ _ rfl ?_
 ·intro listed ad fr st1 ds hz6 hJ i hi;replace hz6:listed.size=10:=hz6;obtain⟨h00,o,ho,hdep⟩:=mem_ready.1 hi;have his:i<10:=(Array.getElem?_eq_some_iff.1 ho).1;have e':∀j,(listed.setIfInBounds i true).getD j false=if i=j then true else listed.getD j false:=λj=>xQu (by omega)
  obtain⟨had,rfl,f0,f1,f2,g0,g1,g2,g3,g4,g5,g7,g8,rfl⟩:=hJ;rcases (show i=0\/i=1\/i=2\/i=3\/i=4\/i=5\/i=6\/i=7\/i=8\/i=9 by omega) with rfl|rfl|rfl|rfl|rfl|rfl|rfl|rfl|rfl|rfl
  all_goals obtain rfl:_=o:=Option.some.inj ho
  ·simp only[go_sem,zE,zB,zA,zM,zS,zL,reduceCtorEq,yZ4,had,f0,pt,ISt.put_same,yQ6,fits];simp only[D1J,e',zE,iteT,iteF,reduceCtorEq,false_imp_iff,true_imp_iff];exact⟨yXt had _,trivial,f0,f1,f2,rfl,g1,g2,g3,g4,g5,g7,g8,trivial⟩
  ·simp only[go_sem,zE,zB,zA,zM,zS,zL,reduceCtorEq,yZ4,had,f0,pt,ISt.put_same,yQ6,fits];simp only[D1J,e',zE,iteT,iteF,reduceCtorEq,false_imp_iff,true_imp_iff];exact⟨yXt had _,trivial,f0,f1,f2,g0,rfl,g2,g3,g4,g5,g7,g8,trivial⟩
  ·simp only[go_sem,zE,zB,zA,zM,zS,zL,reduceCtorEq,yZ4,had,f1,pt,ISt.put_same,yQ6,fits];simp only[D1J,e',zE,iteT,iteF,reduceCtorEq,false_imp_iff,true_imp_iff];exact⟨yXt had _,trivial,f0,f1,f2,g0,g1,rfl,g3,g4,g5,g7,g8,trivial⟩
  ·simp only[go_sem,zE,zB,zA,zM,zS,zL,reduceCtorEq,yZ4,had,f2,pt,ISt.put_same,yQ6,fits];simp only[D1J,e',zE,iteT,iteF,reduceCtorEq,false_imp_iff,true_imp_iff];exact⟨yXt had _,trivial,f0,f1,f2,g0,g1,g2,rfl,g4,g5,g7,g8,trivial⟩
  ·have q0:=g0 (hdep ⟨0,.data⟩ (by simp) rfl);simp only[go_sem,zE,zB,zA,zM,zS,zL,reduceCtorEq,yZ4,had,q0,pt,ISt.put_same,yQ6,fits];simp only[D1J,e',zE,iteT,iteF,reduceCtorEq,false_imp_iff,true_imp_iff];exact⟨yXt had _,trivial,f0,f1,f2,g0,g1,g2,g3,rfl,g5,g7,g8,trivial⟩
  ·have q4:=g4 (hdep ⟨4,.data⟩ (by simp) rfl);simp only[go_sem,zE,zB,zA,zM,zS,zL,reduceCtorEq,yZ4,had,q4,pt,ISt.put_same,yQ6,fits];simp only[D1J,e',zE,iteT,iteF,reduceCtorEq,false_imp_iff,true_imp_iff];exact⟨yXt had _,trivial,f0,f1,f2,g0,g1,g2,g3,g4,rfl,g7,g8,trivial⟩
  ·have q5:=g5 (hdep ⟨5,.data⟩ (by simp) rfl);have q2:=g2 (hdep ⟨2,.data⟩ (by simp) rfl);simp only[go_sem,zE,zB,zA,zM,zS,zL,reduceCtorEq,yZ4,had,q5,q2,pt,ISt.put_same,yQ6,fits];simp only[D1J,e',zE,iteT,iteF,reduceCtorEq,false_imp_iff,true_imp_iff];exact⟨had,trivial,f0,f1,f2,g0,g1,g2,g3,g4,g5,g7,g8,trivial⟩
  ·have q1:=g1 (hdep ⟨1,.data⟩ (by simp) rfl);simp only[go_sem,zE,zB,zA,zM,zS,zL,reduceCtorEq,yZ4,had,q1,pt,ISt.put_same,yQ6,fits];simp only[D1J,e',zE,iteT,iteF,reduceCtorEq,false_imp_iff,true_imp_iff];exact⟨yXt had _,trivial,f0,f1,f2,g0,g1,g2,g3,g4,g5,rfl,g8,trivial⟩
  ·have q7:=g7 (hdep ⟨7,.data⟩ (by simp) rfl);simp only[go_sem,zE,zB,zA,zM,zS,zL,reduceCtorEq,yZ4,had,q7,pt,ISt.put_same,yQ6,fits];simp only[D1J,e',zE,iteT,iteF,reduceCtorEq,false_imp_iff,true_imp_iff];exact⟨yXt had _,trivial,f0,f1,f2,g0,g1,g2,g3,g4,g5,g7,rfl,trivial⟩
  ·have q8:=g8 (hdep ⟨8,.data⟩ (by simp) rfl);have q3:=g3 (hdep ⟨3,.data⟩ (by simp) rfl);simp only[go_sem,zE,zB,zA,zM,zS,zL,reduceCtorEq,yZ4,had,q8,q3,pt,ISt.put_same,yQ6,fits];simp only[D1J,e',zE,iteT,iteF,reduceCtorEq,false_imp_iff,true_imp_iff];exact⟨had,trivial,f0,f1,f2,g0,g1,g2,g3,g4,g5,g7,g8,trivial⟩
 ·intro listed ad fr st1 ds hz6 hr hJ;have hl:=zJj (by decide) hz6 hr;obtain⟨_,rfl,_,_,_,_,_,_,_,_,_,_,_,rfl⟩:=hJ;rw[hl 6 (by decide),hl 9 (by decide)];simp only[go_sem,zE,zB,zA,zM,zS,zL,reduceCtorEq];exact yQ0 rfl
 ·exact⟨λ_=>rfl,rfl,rfl,rfl,rfl,nofun,nofun,nofun,nofun,nofun,nofun,nofun,nofun,hS⟩
theorem vWp (r:Nat)(o:Int)(n:ByteArray)(t1:Tag)(x1:List IV)(t2:Tag)(x2:List IV)(t3:Tag)(x3:List IV):ICall prog gl 57 [pt b,.cptr (.agg [.raw (.int .u8 (r:Int)),.raw (.int .u8 o),.raw (.string n),.sl t1 x1,.sl t2 x2,.sl t3 x3])] st (λ_ st'=>st'=st.put b (some (.box [c0,c1,.raw (.bool (onR r)),.raw (.int .u8 o),.raw (.string n),.sl t1 x1,.sl t2 x2,c7,c8]))):=by
 have hr:=λst=>wZ8 gl r st;refine iI func57 ?_;simp only[go_sem,zE,zB,zA,zM,zS,zL,reduceCtorEq,fits,pt];refine (hr _).mono ?_;rintro _ _ ⟨rfl,rfl⟩;simp only[go_sem,zE,zB,zA,zM,zS,zL,reduceCtorEq,fits,pt,hst,ISt.put_same,yQ6];exact yQ0 rfl
theorem vWo (r:Nat)(o n a b' ps:IV):ICall prog gl 59 [pt b,.cptr (.agg [.raw (.int .u8 (r:Int)),o,n,a,b',ps])] st (λ_ st'=>st'=st.put b (some (.box [c0,c1,c2,c3,c4,c5,c6,.raw (.int .u8 (r:Int)),c8]))):=by
 refine iI func59 ?_;simp only[go_sem,zE,zB,zA,zM,zS,zL,reduceCtorEq,fits,pt,hst,ISt.put_same,yQ6];exact yQ0 rfl
theorem vWn (r o n a b':IV)(t3:Tag)(x3:List IV):ICall prog gl 60 [pt b,.cptr (.agg [r,o,n,a,b',.sl t3 x3])] st (λ_ st'=>st'=st.put b (some (.box [c0,c1,c2,c3,c4,c5,c6,c7,.sl t3 x3]))):=by
 refine iI func60 ?_;simp only[go_sem,zE,zB,zA,zM,zS,zL,reduceCtorEq,fits,pt,hst,ISt.put_same,yQ6];exact yQ0 rfl
end
def degI (pl h m:IV):IV:=.agg [.fn (.func 56) [] [.cptr pl,.cptr h],.fn (.func 57) [] [.cptr m],.fn (.func 59) [] [.cptr m],.fn (.func 60) [] [.cptr m]]
theorem wJg (tg:Tag)(pl:List IV)(h:Int)(m:Nat×Fm×List Sn)(z:IV)(hz:yWb m z)(st:ISt):ICall prog gl 31 [.sl tg pl,.raw (.int .i64 h),z] st (λr st'=>r=degI (.sl tg pl) (.raw (.int .i64 h)) z/\st'=st):=by
 obtain⟨o,n,t1,x1,t2,x2,t3,x3,rfl,_⟩:=hz;refine ICall.intro (c:=cf prog gl [] [] [3,4,5]) func31 rfl (by show _<=12;simp) (by kernel_rfl) ?_;have hf:∀i,fldI prog 74 i=none:=λi=>by
  cases h:fldI prog 74 i with
  | none=>rfl
  | some f =>
   obtain⟨fs,_,h1,_⟩:=zXq (fo:=f.1) (ag:=f.2.1) (n:=f.2.2) h;have h2:(match prog.underlying 74 with|some (.struct _)=>true|_=>false)=false:=by kernel_rfl
   rw[h1] at h2;cases h2
 have ha:arrI prog 74=some (4,false,1):=by kernel_rfl
 have ho:∀b:Option (Nat×Bool×Nat),orO none b=b:=λ_=>rfl;have hk:yZ9 prog 74=true:=by kernel_rfl
 simp only[go_sem,zE,zB,zA,zM,zS,zL,reduceCtorEq,fits,hf,ha,ho,hk,Option.map_some];exact yQ0 ⟨rfl,rfl⟩
theorem zKg:∀(l:List (List Nat×Tr))(ca:Nat),(yQx (badN ca) l).2<=270
 | [],_=>Nat.zero_le _
 | (p,t)::l,ca=>by
  rw[yQx];split
  ·exact zKg l ca
  ·show badN ca t<=270;unfold badN;split<;>omega
theorem vKo (ca:Nat)(t:Tr):(hCk ca t).2<=270:=by
 unfold hCk;split
 ·split
  ·decide
  ·exact zKg _ _
 ·decide
def kQc (ca:Nat)(t:Tr)(h:Nat)(m:Nat×Fm×List Sn)(lv:Int)(r:IV):Prop :=
 ((lv<1\/4<lv)/\r=.tup [.agg advZ,.raw (.int .i64 2)])\/(¬ (lv<1\/4<lv)/\(((hCk ca t).2≠0/\r=.tup [.agg advZ,.raw (.int .i64 ((hCk ca t).2:Int))])\/((hCk ca t).2=0/\yJ7 t=[]/\r=.tup [.agg advZ,.raw (.int .i64 271)]) \/
  ((hCk ca t).2=0/\∃p ps tg,yJ7 t=p::ps/\okEs tg 1/\((h=0/\r=.tup [.agg (.sl tg (plI p)::advZ.tail),.raw (.int .i64 272)])\/(0<h/\∃o n t1 x1 t2 x2 t3 x3,yWb m (.agg [.raw (.int .u8 (m.1:Int)),.raw (.int .u8 o),.raw (.string n),.sl t1 x1,.sl t2 x2,.sl t3 x3]) /\
   r=.tup [.agg [.sl tg (plI p),.raw (.int .i64 (h:Int)),.raw (.bool (onR m.1)),.raw (.int .u8 o),.raw (.string n),.sl t1 x1,.sl t2 x2,.raw (.int .u8 (m.1:Int)),.sl t3 x3],.raw (.int .i64 0)])))))
theorem zGj (ca:Nat)(t:Tr)(x:IV)(hx:IsTr t x)(h:Nat)(m:Nat×Fm×List Sn)(lv:Int)(hlv:(hCk ca t).2=0->0<h->yJ7 t≠[]->¬ (lv<1\/4<lv)->lv=4)(hF:¬ (lv<1\/4<lv)->∀st,ICall prog gl 30 [.raw (.int .u8 (ca:Int)),x] st (λr st'=>xZk ca t h m r/\st'=st))(st:ISt) :
  ICall prog gl 13 [.raw (.int .u8 (ca:Int)),x,.raw (.int .i64 lv)] st (λr st'=>kQc ca t h m lv r/\st'=st):=by
 obtain⟨rule,tl,xl,tr,xr,op,fn,ta,xa,tb,xb,v,un,tu,xu,n',ts,xs,rfl⟩:=yX8 hx;refine ICall.intro (c:=cf prog gl [12] []) func13 rfl (by show _<=54;simp) (by kernel_rfl) ?_;by_cases h1:lv<1
 ·have d1:decide (lv<1)=true:=dEt h1;simp only[go_sem,zE,zB,zA,zM,zS,zL,reduceCtorEq,fits,d1];exact yQ0 ⟨.inl ⟨.inl h1,rfl⟩,rfl⟩
 have d1:decide (lv<1)=false:=dEf h1;by_cases h2:4<lv
 ·have d2:decide (4<lv)=true:=dEt h2;simp only[go_sem,zE,zB,zA,zM,zS,zL,reduceCtorEq,fits,d1,d2];exact yQ0 ⟨.inl ⟨.inr h2,rfl⟩,rfl⟩
 have d2:decide (4<lv)=false:=dEf h2;have hno:¬ (lv<1\/4<lv):=by omega
 have hF:=hF hno;simp only[go_sem,zE,zB,zA,zM,zS,zL,reduceCtorEq,fits,d1,d2];refine (hF _).mono ?_;rintro r st ⟨⟨h0,rfl⟩|⟨h0,hgs,rfl⟩|⟨h0,p,ps,tg,hgs,htg,⟨hh,rfl⟩|⟨hh,z,hz,rfl⟩⟩,rfl⟩
 ·have d0:decide (((hCk ca t).2:Int)=272)=false:=dEf (by have:=vKo ca t;omega);have d3:decide (((hCk ca t).2:Int)=0)=false:=dEf (by omega);simp only[go_sem,zE,zB,zA,zM,zS,zL,reduceCtorEq,fits,d0,d3];exact yQ0 ⟨.inr ⟨hno,.inl ⟨h0,rfl⟩⟩,rfl⟩
 ·simp only[go_sem,zE,zB,zA,zM,zS,zL,reduceCtorEq,fits,show decide ((271:Int)=272)=false from rfl,show decide ((271:Int)=0)=false from rfl];exact yQ0 ⟨.inr ⟨hno,.inr (.inl ⟨h0,hgs,rfl⟩)⟩,rfl⟩
 ·simp only[go_sem,zE,zB,zA,zM,zS,zL,reduceCtorEq,fits,decide_true];exact yQ0 ⟨.inr ⟨hno,.inr (.inr ⟨h0,p,ps,tg,hgs,htg,.inl ⟨hh,rfl⟩⟩)⟩,rfl⟩
 ·obtain rfl:=hlv h0 hh (by rw[hgs];simp) hno;have hz0:=hz;have hdg:=λst=>wJg gl tg (plI p) (h:Int) m z hz st;obtain⟨o,nm,q1,z1,q2,z2,q3,z3,rfl,_⟩:=hz;simp only[go_sem,zE,zB,zA,zM,zS,zL,reduceCtorEq,fits,show decide ((0:Int)=272)=false from rfl,decide_true];refine λb=>yQ9 λhb=>?_;refine (hdg _).mono ?_;rintro _ st0 ⟨rfl,hst0⟩;subst hst0;have ha:arrI prog 74=some (4,false,1):=by kernel_rfl
  have hln:lenI prog 74=some (.arr 4):=by kernel_rfl
  simp only[go_sem,zE,zB,zA,zM,zS,zL,reduceCtorEq];refine LoopC.ctr 4 (λk fr st' ds=>((k=0/\st'=st.put b (some (.box [nlS,.raw (.int .i64 0),.raw (.bool false),.raw (.int .u8 0),.raw (.string ⟨#[]⟩),nlS,nlS,.raw (.int .u8 0),nlS])))\/(k=1/\st'=st.put b (some (.box [.sl tg (plI p),.raw (.int .i64 (h:Int)),.raw (.bool false),.raw (.int .u8 0),.raw (.string ⟨#[]⟩),nlS,nlS,.raw (.int .u8 0),nlS])))\/(k=2/\st'=st.put b (some (.box [.sl tg (plI p),.raw (.int .i64 (h:Int)),.raw (.bool (onR m.1)),.raw (.int .u8 o),.raw (.string nm),.sl q1 z1,.sl q2 z2,.raw (.int .u8 0),nlS])))\/(k=3/\st'=st.put b (some (.box [.sl tg (plI p),.raw (.int .i64 (h:Int)),.raw (.bool (onR m.1)),.raw (.int .u8 o),.raw (.string nm),.sl q1 z1,.sl q2 z2,.raw (.int .u8 (m.1:Int)),nlS])))\/(k=4/\st'=st.put b (some (.box [.sl tg (plI p),.raw (.int .i64 (h:Int)),.raw (.bool (onR m.1)),.raw (.int .u8 o),.raw (.string nm),.sl q1 z1,.sl q2 z2,.raw (.int .u8 (m.1:Int)),.sl q3 z3]))))/\fr 2=.iv (.raw (.int .i64 4))/\fr 12=.iv (pt b)/\fr 6=.box advZ/\fr 42=.iv (degI (.sl tg (plI p)) (.raw (.int .i64 (h:Int))) (.agg [.raw (.int .u8 (m.1:Int)),.raw (.int .u8 o),.raw (.string nm),.sl q1 z1,.sl q2 z2,.sl q3 z3]))/\fr 43=.iv (.raw (.int .i64 (k:Int)))/\ds=[]) ?_ ?_ ?_
  ·simp only[go_sem,zE,zB,zA,zM,zS,zL,reduceCtorEq];exact⟨rfl,rfl⟩
  ·rintro k fr st1 _ hlk ⟨hk,f2,f12,f6,f42,f43,rfl⟩;unfold degI at f42;rcases hk with⟨rfl,rfl⟩|⟨rfl,rfl⟩|⟨rfl,rfl⟩|⟨rfl,rfl⟩|⟨rfl,rfl⟩
   ·simp only[go_sem,zE,zB,zA,zM,zS,zL,reduceCtorEq,f2,f12,f42,f43,fits,ha,hln,pt,show decide (((0:Nat):Int)<4)=true from rfl,show (0<=((0:Nat):Int)/\((0:Nat):Int)<((4:Nat):Int))=True from eq_true (by omega),show Int.toNat ((0:Nat):Int)=0 from rfl];refine (vWq gl _ _ _ _ _ _ _ _ _ b _ (ISt.put_same ..) _ _ _).mono ?_;rintro _ _ rfl;rw[yQ6];simp only[go_sem,zE,zB,zA,zM,zS,zL,reduceCtorEq,f2,f12,f6,f42,f43,fits];exact⟨rfl,rfl,rfl⟩
   ·simp only[go_sem,zE,zB,zA,zM,zS,zL,reduceCtorEq,f2,f12,f42,f43,fits,ha,hln,pt,show decide (((1:Nat):Int)<4)=true from rfl,show (0<=((1:Nat):Int)/\((1:Nat):Int)<((4:Nat):Int))=True from eq_true (by omega),show Int.toNat ((1:Nat):Int)=1 from rfl];refine (vWp gl _ _ _ _ _ _ _ _ _ b _ (ISt.put_same ..) _ _ _ _ _ _ _ _ _).mono ?_;rintro _ _ rfl;rw[yQ6];simp only[go_sem,zE,zB,zA,zM,zS,zL,reduceCtorEq,f2,f12,f6,f42,f43,fits];exact⟨rfl,rfl,rfl⟩
   ·simp only[go_sem,zE,zB,zA,zM,zS,zL,reduceCtorEq,f2,f12,f42,f43,fits,ha,hln,pt,show decide (((2:Nat):Int)<4)=true from rfl,show (0<=((2:Nat):Int)/\((2:Nat):Int)<((4:Nat):Int))=True from eq_true (by omega),show Int.toNat ((2:Nat):Int)=2 from rfl];refine (vWo gl _ _ _ _ _ _ _ _ _ b _ (ISt.put_same ..) _ _ _ _ _ _).mono ?_;rintro _ _ rfl;rw[yQ6];simp only[go_sem,zE,zB,zA,zM,zS,zL,reduceCtorEq,f2,f12,f6,f42,f43,fits];exact⟨rfl,rfl,rfl⟩
   ·simp only[go_sem,zE,zB,zA,zM,zS,zL,reduceCtorEq,f2,f12,f42,f43,fits,ha,hln,pt,show decide (((3:Nat):Int)<4)=true from rfl,show (0<=((3:Nat):Int)/\((3:Nat):Int)<((4:Nat):Int))=True from eq_true (by omega),show Int.toNat ((3:Nat):Int)=3 from rfl];refine (vWn gl _ _ _ _ _ _ _ _ _ b _ (ISt.put_same ..) _ _ _ _ _ _ _).mono ?_;rintro _ _ rfl;rw[yQ6];simp only[go_sem,zE,zB,zA,zM,zS,zL,reduceCtorEq,f2,f12,f6,f42,f43,fits];exact⟨rfl,rfl,rfl⟩
   ·omega
  ·rintro fr st1 _ ⟨hk,f2,f12,f6,f42,f43,rfl⟩;rcases hk with⟨h,_⟩|⟨h,_⟩|⟨h,_⟩|⟨h,_⟩|⟨_,rfl⟩
   ·omega
   ·omega
   ·omega
   ·omega
   simp only[go_sem,zE,zB,zA,zM,zS,zL,reduceCtorEq,f12,f6,f43,fits,pt,ISt.put_same,show decide (((4:Nat):Int)<4)=false from rfl];exact yQg (st':=st) (yQh hb) ⟨.inr ⟨hno,.inr (.inr ⟨h0,p,ps,tg,hgs,htg,.inr ⟨hh,_,_,_,_,_,_,_,_,hz0,rfl⟩⟩)⟩,rfl⟩
end Go.Proofs.Tryz
namespace Go.Proofs.Tryz
open Go Go.Iv
theorem xKh {ca:Nat}{s:Sq}{rule:Nat}{main:Fm}{term:Tm}{name:ByteArray}{r:Rw}{ad:List Sq}(h1:yQv ca s=true)(h2:rowS ca rule=some r)(h3:yK5 ca rule r main term name=(ad,0))
  (h4:r.left=true->hasF s.l main=true) (h5:r.right=true->hasF s.r main=true) (h6:r.asks=0):yVk ca s rule main term name=(ad,0):=by
 unfold yVk;rw[h1,h2];simp only[Bool.not_true,bFt,if_false,h3];obtain⟨rl,rr,op,asks⟩:=r;simp only at h4 h5 h6 ⊢;have e1:(rl&&!hasF s.l main)=false:=by
  cases rl
  ·rfl
  ·rw[h4 rfl];rfl
 have e2:(rr&&!hasF s.r main)=false:=by
  cases rr
  ·rfl
  ·rw[h5 rfl];rfl
 subst h6;rw[e1,e2];rfl
theorem xY0 {f:Fm}(hr:f.right=true):eqF f f=true:=by unfold eqF zV1;rw[hr,dEt rfl];simp[eqB]
theorem yJ8 {ca:Nat}{f:Fm}(h:fmB ca f=true):f.right=true:=by unfold fmB at h;exact (bAt _ _▸h).1
theorem yW3 {l:List Fm}{f:Fm}(h:f∈l)(hr:f.right=true):hasF l f=true:=List.any_eq_true.2 ⟨f,h,xY0 hr⟩
theorem xYc {l m:List Fm}(h:∀f∈l,f∈m)(hr:∀f∈l,f.right=true):allF l m=true:=List.all_eq_true.2 λf hf=>yW3 (h f hf) (hr f hf)
theorem vJo {ca:Nat}(hc:ca=1\/ca=2){f:Fm}(hf:PF f){r:Bool}{t:Nat×List Sn}(ht:t∈addF (calJ ca) f r):∃R,rowS ca t.1=some R/\(R.left=true->r=false)/\(R.right=true->r=true)/\R.asks=0/\t.1<256/\t.1≠17:=by
 cases hf with
 | atom n=>simp[addF] at ht
 | fls=>simp[addF] at ht
 | neg ha =>
  rcases hc with rfl|rfl<;>cases r<;>simp[addF] at ht<;>subst ht<;>exact⟨_,rfl,by simp,by simp,rfl,by simp,by simp⟩
 | @bin o a b h4 h7 _ _ =>
  obtain rfl|rfl|rfl|rfl:o=4\/o=5\/o=6\/o=7:=by omega
  all_goals rcases hc with rfl|rfl<;>cases r<;>simp[addF,calJ] at ht
  all_goals first
   | (subst ht;exact⟨_,rfl,by simp,by simp,rfl,by simp,by simp⟩)
   | (rcases ht with rfl|rfl<;>exact⟨_,rfl,by simp,by simp,rfl,by simp,by simp⟩)
theorem wK0 {ca:Nat}{rule:Nat}{f:Fm}{R:Rw}{ad:List Sq}(hk:yJ5 ca=true)(hR:rowS ca rule=some R)(h:zZz ca rule f tmZ noN=(ad,0)):yK5 ca rule R f tmZ noN=(ad,0):=by
 unfold zZz at h;rw[hk,hR] at h;exact h
theorem zW3 {s:Sq}:∀ {ad:List Sq} {sub:List Tr},(∀(i:Nat) (m:Sq) (t:Tr),ad[i]?=some m->sub[i]?=some t->yGv t.sq (s.plus m)=true)->yK6 s ad sub=true
 | [],_,_=>by simp[yK6]
 | m::ad,[],_=>by simp[yK6]
 | m::ad,t::sub,h=>by
  simp only[yK6,bAt];exact⟨h 0 m t rfl rfl,zW3 λi m t h1 h2=>h (i+1) m t h1 h2⟩
theorem xYp {ca:Nat}(hc:ca=1\/ca=2){s:Sn}(hv:yQv ca (sqOf s)=true)(h1:∀f∈s.1,fmB ca f=true)(h2:∀f∈s.2,fmB ca f=true){m:Nat×Fm×List Sn}(hm:m∈mvF (calJ ca) s){sub:List Tr}(hsub:sub.map Tr.sq=m.2.2.map sqOf) :
  yXb ca (.mk m.1 (sqOf s) m.2.1 tmZ noN sub)=0/\m.1<256/\m.1≠17/\fmB ca m.2.1=true:=by
 have hc3:ca≠3:=by omega
 have hk:yJ5 ca=true:=by unfold yJ5;rcases hc with rfl|rfl<;>rfl
 have key:∀(r:Bool) (f:Fm),f∈(if r=true then s.2 else s.1)->m∈zVi (calJ ca) s r f->yXb ca (.mk m.1 (sqOf s) m.2.1 tmZ noN sub)=0/\m.1<256/\m.1≠17/\fmB ca m.2.1=true:=λr f hf hmv=>by
  obtain⟨t,ht,rfl⟩:=List.mem_map.1 hmv;have hff:fmB ca f=true:=by cases r<;>simp at hf<;>first|exact h1 f hf|exact h2 f hf
  obtain⟨R,hR,hl,hr,ha,hlt,h17⟩:=vJo hc (zUz hc3 hff) ht;have hadd:=xZh hc hff ht;have hst:yVk ca (sqOf s) t.1 f tmZ noN=(t.2.map sqOf,0):=xKh hv hR (wK0 hk hR hadd)
   (λh=>yW3 (show f∈s.1 by rw[hl h] at hf;simpa using hf) (yJ8 hff)) (λh=>yW3 (show f∈s.2 by rw[hr h] at hf;simpa using hf) (yJ8 hff)) ha
  refine⟨?_,hlt,h17,hff⟩;have hlen:sub.length=(t.2.map sqOf).length:=by
   have:=congrArg List.length hsub;simpa using this
  simp only[yXb];rw[hst];simp only[ne_eq,nTf,if_false,hlen];rw[if_pos];refine zW3 λi q tr hq htr=>?_;rw[List.getElem?_map] at hq;obtain⟨p,hp,rfl⟩:=Option.map_eq_some_iff.1 hq;have hs:(sub.map Tr.sq)[i]?=some tr.sq:=by rw[List.getElem?_map,htr];rfl
  rw[hsub,List.getElem?_map,List.getElem?_map,hp] at hs;have hs':tr.sq=sqOf (xXl (calJ ca) s p):=by simpa using hs.symm
  rw[hs'];obtain⟨a1,a2⟩:=vQo hc3 hff ht p (lMg hp);have w1:∀g∈(xXl (calJ ca) s p).1,g∈s.1++p.1:=λg hg=>yWf.1 hg;have w2:∀g∈(xXl (calJ ca) s p).2,g∈s.2++p.2:=λg hg=>by
   have hg:=yWf.1 hg;unfold rgt at hg;split at hg
   ·exact List.mem_append_right _ hg
   ·exact hg
  unfold yGv;rw[bAt];exact⟨xYc w1 λg hg=>yJ8 ((List.mem_append.1 (w1 g hg)).elim (h1 g) (a1 g)),xYc w2 λg hg=>yJ8 ((List.mem_append.1 (w2 g hg)).elim (h2 g) (a2 g))⟩
 rcases List.mem_append.1 hm with hm|hm
 ·obtain⟨f,hf,hm⟩:=List.mem_flatMap.1 hm;exact key false f hf hm
 ·obtain⟨f,hf,hm⟩:=List.mem_flatMap.1 hm;exact key true f hf hm
theorem xY9 {ca:Nat}(hc:ca=1\/ca=2){s:Sn}(hv:yQv ca (sqOf s)=true)(h1:∀f∈s.1,fmB ca f=true){r:Nat}{f:Fm}(ha:axF s=some (r,f)) :
  yXb ca (.mk r (sqOf s) f tmZ noN [])=0/\(r=1\/r=2)/\fmB ca f=true:=by
 have hc3:ca≠3:=by omega
 have hcheck:∀R,rowS ca r=some R->R.asks=0->yK5 ca r R f tmZ noN=([],0)->(R.left=true->hasF s.1 f=true)->(R.right=true->hasF s.2 f=true)->yXb ca (.mk r (sqOf s) f tmZ noN [])=0:=λR hR h0 hA hl hr=>by
  have hst:yVk ca (sqOf s) r f tmZ noN=([],0):=xKh hv hR hA hl hr h0;simp only[yXb];rw[hst];rfl
 rcases vZ9 ha with⟨rfl,hl,hr⟩|⟨rfl,rfl,g,hg,hgf⟩
 ·have hff:=h1 f hl;refine⟨hcheck ⟨true,true,0,0⟩ (by rcases hc with rfl|rfl<;>rfl) rfl ?_ (λ_=>yW3 hl (yJ8 hff)) (λ_=>yW3 hr (yJ8 hff)),.inl rfl,hff⟩;unfold yK5;rw[hff];simp[addS]
 ·have hpf:=zUz hc3 (h1 g hg);have hge:g=.mk 2 noN [] []:=by
   cases hpf<;>simp[zVk] at hgf
   ·rfl
   ·omega
  subst hge;have hff:=h1 _ hg;refine⟨hcheck ⟨true,false,2,0⟩ (by rcases hc with rfl|rfl<;>rfl) rfl ?_ (λ_=>yW3 hg (yJ8 hff)) (λh=>by cases h),.inr rfl,hff⟩;unfold yK5;rw[hff];simp[addS,Fm.op]
end Go.Proofs.Tryz
namespace Go.Proofs.Tryz
open Go Go.Iv
set_option maxRecDepth 4000
variable (gl:Nat->Option IV)
section
variable {ca m:Nat}{W:List Fm}{tw:Tag}{xw:List IV}{lines:List Ln}{links:List (List Lk)}{hs:List Nat}{tl tk:Tag}{xl xk:List IV}{mN rb gH:Nat}
end
section
variable {ca m:Nat}{W:List Fm}{tw:Tag}{xw:List IV}{lines:List Ln}{links:List (List Lk)}{hs:List Nat}{tl tk:Tag}{xl xk:List IV}{mN rb gH:Nat}
end
noncomputable def tS (j:Bool)(s:Sn):Nat:=(tF j (hF j s) s).steps
section
variable {ca m:Nat}{W:List Fm}{tw:Tag}{xw:List IV}{lines:List Ln}{links:List (List Lk)}{hs:List Nat}{tl tk:Tag}{xl xk:List IV}{mN rb gH:Nat}
end
end Go.Proofs.Tryz
namespace Go.Proofs.Tryz
open Go Go.Iv
end Go.Proofs.Tryz
namespace Go.Proofs.Tryz
open Go Go.Iv
set_option maxRecDepth 4000
variable (gl:Nat->Option IV)
mutual
def wTr:Tr->Nat
 | .mk _ s f u n sub=>wFms s.l+wFms s.r+wFm f+wTm u+n.size+wTrs sub
def wTrs:List Tr->Nat
 | []=>0
 | a::l=>wTr a+wTrs l
end
def xXv (s:Sq)(f:Fm)(u:Tm)(n:ByteArray):Bool:=decide (wFms s.l+wFms s.r<=300)&&!decide (300<wFm f)&&!decide (300<wTm u)&&!decide (100<n.size)
mutual
def okT:Tr->Bool
 | .mk _ s f u n sub=>xXv s f u n&&okTs sub
def okTs:List Tr->Bool
 | []=>true
 | a::l=>okT a&&okTs l
end
theorem yU0:∀l m:List Tr,okTs (l++m)=(okTs l&&okTs m)
 | [],m=>by simp[okTs]
 | a::l,m=>by simp only[List.cons_append,okTs,yU0 l m,Bool.and_assoc]
theorem wZ9 {l:List Tr}{k:Nat}{a:Tr}(h:l[k]?=some a):okTs (l.take (k+1))=(okTs (l.take k)&&okT a):=by
 rw[yQ8 h,yU0];simp[okTs]
theorem wUs (l:List Tr)(k:Nat)(h:okTs l=true):okTs (l.take k)=true:=by
 rw[<- List.take_append_drop k l,yU0,bAt] at h;exact h.1
theorem xX1 {l:List Tr}{k:Nat}{a:Tr}(h:l[k]?=some a):yQq (l.take (k+1))=yQq (l.take k)+a.steps:=by
 rw[yQ8 h,yKm];simp[yQq]
theorem wQa (l:List Tr)(k:Nat):yQq (l.take k)<=yQq l:=by
 conv=>rhs;rw[<- List.take_append_drop k l]
 rw[yKm];omega
theorem xKk:∀ {l:List Tr}{t:Tr},t∈l->wTr t<=wTrs l
 | a::l,t,h=>by
  simp only[wTrs];rcases List.mem_cons.1 h with rfl|h
  ·omega
  ·have:=xKk h;omega
theorem Sum.gt {w:Nat}{r:IV}(h:Sum w 300 r):∃n:Nat,r=.raw (.int .i64 n)/\decide ((300:Int)<(n:Int))=decide (300<w):=by
 obtain⟨n,rfl,h1,h2⟩:=h;refine⟨n,rfl,?_⟩;rw[decide_eq_decide];constructor
 ·intro h;omega
 ·intro h;rcases Int.lt_or_le 300 (n:Int) with hn|hn
  ·exact hn
  ·have:=h2 hn;omega
def vYa (t:Tr)(left:Int)(r:Int):Prop:=-1<=r/\r<=left/\(0<=r↔okT t=true/\(t.steps:Int)<=left)/\(0<=r->r=left-t.steps)
def sC (t:Tr):Prop:=∀(x:IV) (_:IsTr t x) (left:Int) (_:0<=left/\left<=1000) (_:wTr t<=1099511627776) (st:ISt),
 ICall prog gl 22 [x,.raw (.int .i64 left)] st (λr st'=>(∃n:Int,r=.raw (.int .i64 n)/\vYa t left n)/\st'=st)
theorem xYy (rule:Nat)(s:Sq)(f:Fm)(u:Tm)(n:ByteArray)(sub:List Tr)(IH:∀a∈sub,sC gl a):sC gl (.mk rule s f u n sub):=by
 intro x hx left hl hw st;obtain⟨tl,xl,tr,xr,op,fn,ta,xa,tb,xb,v,un,tu,xu,ts,xs,rfl,hru,e1,i1,e2,i2,hy,hz,e3,i3⟩:=hx.mk;simp only[wTr] at hw;have hfew:=λst=>kQd gl s _ ⟨tl,xl,tr,xr,rfl,e1,i1,e2,i2⟩ ⟨by omega,by omega⟩ st;have hsz:=λst=>xXk gl [f] ⟨true,.full,4⟩ _ (.inr rfl) ⟨_,_,rfl,hy,rfl⟩ 300 ⟨by omega,by omega⟩ (by simp only[wFms];omega) st;have htm:=λst=>xVa gl [u] ⟨true,.full,3⟩ _ (.inr rfl) ⟨_,_,rfl,hz,rfl⟩ 300 ⟨by omega,by omega⟩ (by simp only[wTms];omega) st;have hbad:xXv s f u n=false->vYa (.mk rule s f u n sub) left (-1):=λh=>by
  refine⟨by omega,by omega,⟨λh=>by omega,λh'=>?_⟩,λh=>by omega⟩;simp only[okT,h,Bool.false_and,bFt,false_and] at h'
 refine iI func22 ?_;simp only[go_sem,zE,zA,zL];refine (hfew _).mono ?_;rintro _ st ⟨rfl,rfl⟩;unfold xXv at hbad;cases q1:decide (wFms s.l+wFms s.r<=300)
 ·simp only[go_sem,zE];exact yQ0 ⟨⟨-1,rfl,hbad (by rw[q1];rfl)⟩,rfl⟩
 simp only[go_sem,zE,zA,zM,zL,fits,yQ3];refine (hsz _).mono ?_;rintro _ st ⟨hS,rfl⟩;obtain⟨m,rfl,hd⟩:=hS.gt;rw[show wFms [f]=wFm f from by simp[wFms]] at hd;cases q2:decide (300<wFm f)
 case true =>
  rw[q2] at hd;simp only[go_sem,zE,hd];exact yQ0 ⟨⟨-1,rfl,hbad (by rw[q1,q2];rfl)⟩,rfl⟩
 rw[q2] at hd;simp only[go_sem,zE,zA,zM,zL,fits,hd,yQ3];refine (htm _).mono ?_;rintro _ st ⟨hS2,rfl⟩;obtain⟨m2,rfl,hd2⟩:=hS2.gt;rw[show wTms [u]=wTm u from by simp[wTms]] at hd2;cases q3:decide (300<wTm u)
 case true =>
  rw[q3] at hd2;simp only[go_sem,zE,hd2];exact yQ0 ⟨⟨-1,rfl,hbad (by rw[q1,q2,q3];rfl)⟩,rfl⟩
 rw[q3] at hd2;have hdn:decide ((100:Int)<((n.size:Nat):Int))=decide (100<n.size):=by rw[decide_eq_decide];omega
 cases q4:decide (100<n.size)
 case true =>
  rw[q4] at hdn;simp only[go_sem,zE,hd2,hdn];intro _;exact yQ0 ⟨⟨-1,rfl,hbad (by rw[q1,q2,q3,q4];rfl)⟩,rfl⟩
 rw[q4] at hdn;have hnode:xXv s f u n=true:=by unfold xXv;rw[q1,q2,q3,q4];rfl
 have wl:IntKind.i64.wrap (left-1)=left-1:=w64 (by omega) (by omega);simp only[go_sem,zE,hd2,hdn,wl];intro _;refine LoopC.ctr sub.length (λk fr st' ds=>(∃l:Int,fr 1=.iv (.raw (.int .i64 l)) /\ -1<=l/\l<=left-1/\(0<=l↔okTs (sub.take k)=true/\((yQq (sub.take k):Nat):Int)+1<=left)/\(0<=l->l=left-1-(yQq (sub.take k):Nat))) /\
  fr 2=.box [.raw (.int .u8 rule),.sl tl xl,.sl tr xr,.raw (.int .u8 op),.raw (.string fn),.sl ta xa,.sl tb xb,.raw (.bool v),.raw (.string un),.sl tu xu,.raw (.string n),.sl ts xs]/\fr 5=.iv (.raw (.int .i64 k))/\st'=st/\ds=[]) ?_ ?_ ?_
 ·simp only[go_sem,zE];exact⟨⟨left-1,rfl,by omega,by omega,⟨λh=>⟨rfl,by simp only[yQq];omega⟩,λh=>by have:=h.2;simp only[yQq] at this;omega⟩,λ_=>by simp only[yQq];omega⟩,rfl⟩
 ·rintro k fr st1 _ hlt ⟨⟨l,f1,hl1,hl2,hl3,hl4⟩,f2,f5,rfl,rfl⟩;obtain⟨a,ha⟩:=yQ1 hlt;obtain⟨z,hkz,hzz⟩:=i3.get ha;have hoks:=wZ9 ha;have hst:=xX1 ha;by_cases hle:(0:Int)<=l
  ·have hcall:=λst=>IH a (lMg ha) z hzz l ⟨hle,by omega⟩ (by have:=xKk (lMg ha);omega) st;obtain⟨rule',tl',xl',tr',xr',op',fn',ta',xa',tb',xb',v',un',tu',xu',n',ts',xs',rfl⟩:=yX8 hzz;simp only[go_sem,zE,zB,zA,f1,f2,f5,i3.len,lt_i hlt,dEt hle,yQ4 e3,iNn,hkz,fits];intro _;refine (hcall _).mono ?_;rintro _ st2 ⟨⟨r,rfl,hr1,hr2,hr3,hr4⟩,rfl⟩;simp only[go_sem,zE,f2,f5,yQd hlt (show sub.length<=281474976710656 by omega)];have g3:=hl3.1 hle;have g4:=hl4 hle;refine⟨r,rfl,hr1,by omega,?_,λh=>by have:=hr4 h;rw[hst];omega⟩;rw[hoks,hst,g3.1,Bool.true_and];constructor
   ·intro h;have:=hr3.1 h;exact⟨this.1,by omega⟩
   ·intro h;exact hr3.2 ⟨h.1,by have:=h.2;omega⟩
  ·simp only[go_sem,zE,f1,f2,f5,i3.len,lt_i hlt,dEf hle];intro _;refine yQ0 ⟨⟨l,rfl,hl1,by omega,⟨λh=>absurd h hle,λh=>?_⟩,λh=>absurd h hle⟩,rfl⟩;have h1:=h.1;have h2:=h.2;simp only[okT,hnode,Bool.true_and] at h1;simp only[Tr.steps] at h2;have h3:=wQa sub k;exact absurd (hl3.2 ⟨wUs sub k h1,by omega⟩) hle
 ·rintro fr st1 _ ⟨⟨l,f1,hl1,hl2,hl3,hl4⟩,f2,f5,rfl,rfl⟩;rw[lTl] at hl3 hl4;simp only[go_sem,zE,f1,f2,f5,i3.len,yQl (nLi _)];intro _;refine yQ0 ⟨⟨l,rfl,hl1,by omega,?_,λh=>by have:=hl4 h;simp only[Tr.steps];omega⟩,rfl⟩;simp only[okT,hnode,Bool.true_and,Tr.steps];constructor
  ·intro h;have:=hl3.1 h;exact⟨this.1,by omega⟩
  ·intro h;exact hl3.2 ⟨h.1,by have:=h.2;omega⟩
theorem zUp:∀(k:Nat)(t:Tr),SizeOf.sizeOf t<k->sC gl t
 | 0,t,h=>by omega
 | k+1,.mk r sq f u n sub,h=>xYy gl r sq f u n sub (λa ha=>zUp k a (by
   have:=lSm ha;simp at h;omega))
theorem wVj (t:Tr):sC gl t:=zUp gl _ t (Nat.lt_succ_self _)
theorem wY5 (t:Tr)(x:IV)(hx:IsTr t x)(hw:wTr t<=1099511627776)(st:ISt):ICall prog gl 5 [x] st (λr st'=>r=.raw (.bool (okT t&&decide (t.steps<=60)))/\st'=st):=by
 have hs:=λst=>wVj gl t x hx 60 ⟨by omega,by omega⟩ hw st;obtain⟨rule',tl',xl',tr',xr',op',fn',ta',xa',tb',xb',v',un',tu',xu',n',ts',xs',rfl⟩:=yX8 hx;refine iI func5 ?_;simp only[go_sem,zE,zA,zL];refine (hs _).mono ?_;rintro _ st ⟨⟨r,rfl,h1,h2,h3,h4⟩,rfl⟩;have hd:decide ((0:Int)<=r)=(okT t&&decide (t.steps<=60)):=by
  rw[Bool.eq_iff_iff,dTe,h3,bAt,dTe];constructor<;>intro h<;>exact⟨h.1,by have:=h.2;omega⟩
 simp only[go_sem,hd];exact yQ0 ⟨rfl,rfl⟩
end Go.Proofs.Tryz
namespace Go.Proofs.Tryz
open Go Go.Iv
mutual
theorem xKx:∀t:Tm,t.size<=wTm t
 | .mk _ n us=>by have:=zJc us;simp only[wTm,Tm.size];omega
theorem zJc:∀l:List Tm,yQf l<=wTms l
 | []=>Nat.le_refl _
 | a::l=>by have:=xKx a;have:=zJc l;simp only[wTms,yQf];omega
end
mutual
theorem xKy:∀f:Fm,f.size<=wFm f
 | .mk _ n us sub=>by have:=zJc us;have:=yUt sub;simp only[wFm,Fm.size];omega
theorem yUt:∀l:List Fm,yQb l<=wFms l
 | []=>Nat.le_refl _
 | a::l=>by have:=xKy a;have:=yUt l;simp only[wFms,yQb];omega
end
theorem zWb {s:Sq}{f:Fm}{u:Tm}{n:ByteArray}(h:xXv s f u n=true):wFms s.l+wFms s.r<=300/\wFm f<=300/\wTm u<=300/\n.size<=100:=by
 unfold xXv at h;grind
theorem xWv {s:Sq}(h:wFms s.l+wFms s.r<=300):yJm s:=by
 have:=yUt s.l;have:=yUt s.r;exact⟨λf hf=>by have:=yG3 hf;omega,λf hf=>by have:=yG3 hf;omega⟩
theorem xVk:∀ {l:List Tr}{a:Tr},okTs l=true->a∈l->okT a=true
 | b::l,a,h,ha=>by
  simp only[okTs,bAt] at h;rcases List.mem_cons.1 ha with rfl|ha
  ·exact h.1
  ·exact xVk h.2 ha
theorem wVo:∀ {t:Tr},okT t=true->zWa t
 | .mk rule s m u n sub,h=>by
  simp only[okT,bAt] at h;obtain⟨h1,h2,h3,_⟩:=zWb h.1;have:=xKy m;have:=xKx u;refine⟨xWv h1,by omega,by omega,λa ha=>?_⟩;have:=xVk h.2 ha;obtain⟨rule',s',m',u',n',sub'⟩:=a;simp only[okT,bAt] at this;exact xWv (zWb this.1).1
mutual
theorem xVl:∀(p:List Nat)(t:Tr),okT t=true->∀q∈t.walk p,okT q.2=true
 | p,.mk rule s m u n sub,h,q,hq=>by
  simp only[Tr.walk,List.mem_cons] at hq;rcases hq with rfl|hq
  ·exact h
  ·simp only[okT,bAt] at h;exact xQ2 p 0 sub h.2 q hq
theorem xQ2:∀(p:List Nat)(i:Nat)(l:List Tr),okTs l=true->∀q∈yQn p i l,okT q.2=true
 | _,_,[],_,q,hq=>by cases hq
 | p,i,a::l,h,q,hq=>by
  simp only[okTs,bAt] at h;simp only[yQn,List.mem_append] at hq;rcases hq with hq|hq
  ·exact xVl _ a h.1 q hq
  ·exact xQ2 p (i+1) l h.2 q hq
end
theorem zJp {t:Tr}(h:okT t=true)(hs:t.steps<=1099511627776):xJn t:=⟨λq hq=>wVo (xVl [] t h q hq),Nat.le_trans t.height_le_steps hs⟩
theorem xW5 {o:Nat}(h:o<=7):isQ o=false:=by
 rcases (show o=0\/o=1\/o=2\/o=3\/o=4\/o=5\/o=6\/o=7 by omega) with rfl|rfl|rfl|rfl|rfl|rfl|rfl|rfl<;>rfl
theorem wVn {f:Fm}(h:PF f)(fr:List ByteArray)(ar:Ar):zVh fr ar f=f:=by
 induction h with
 | atom n=>simp[zVh,yKr,yZz,xW5 (o:=1) (by omega)]
 | fls=>simp[zVh,yKr,yZz,xW5 (o:=2) (by omega)]
 | neg h ih=>simp[zVh,yKr,yZz,xW5 (o:=3) (by omega),ih]
 | bin h4 h7 _ _ ih1 ih2=>simp[zVh,yKr,yZz,xW5 h7,ih1,ih2]
theorem vJk {ca:Nat}(hc:ca=1\/ca=2){s:Sq}(hv:yQv ca s=true):SetS s=(sqOf (nf (s.l,s.r)),0):=by
 have hfm:=xUx hv;have key:∀l:List Fm,(∀f∈l,fmB ca f=true)->yX5 l=(setF l,0):=λl hl=>by
  unfold yX5;rw[if_pos (List.all_eq_true.2 λf hf=>yJ8 (hl f hf))];have:l.map zJt=l:=by
   conv=>rhs;rw[<- List.map_id l]
   exact List.map_congr_left λf hf=>wVn (zUz (by omega) (hl f hf)) _ _
  rw[this]
 unfold SetS;rw[key s.l λf hf=>hfm f (List.mem_append_left _ hf),key s.r λf hf=>hfm f (List.mem_append_right _ hf)];rfl
section
variable {ca:Nat}(hc:ca=1\/ca=2){s0:Sq}(hv:yQv ca s0=true){K:List Sn}(hK:ReachOk (calJ ca) (nf (s0.l,s0.r)) K)
include hc hv hK
end
set_option maxRecDepth 100000
theorem yU8 {e:Tr->Nat}:∀ {l:List (List Nat×Tr)},(∀q∈l,e q.2=0)->yQx e l=([],0)
 | [],_=>rfl
 | q::l,h=>by
  obtain⟨p,t⟩:=q;rw[yQx,if_pos (h _ (.head _))];exact yU8 λq hq=>h q (.tail _ hq)
theorem zKh {e:Tr->Nat}:∀ {l:List (List Nat×Tr)},(yQx e l).2=0\/∃q∈l,(yQx e l).1=q.1
 | []=>.inl rfl
 | (p,t)::l=>by
  rw[yQx];by_cases h:e t=0
  ·rw[if_pos h];rcases zKh (e:=e) (l:=l) with h|⟨q,hq,h⟩
   ·exact .inl h
   ·exact .inr ⟨q,.tail _ hq,h⟩
  ·rw[if_neg h];exact .inr ⟨(p,t),.head _,rfl⟩
mutual
theorem wKo:∀(p:List Nat)(t:Tr)(q:List Nat×Tr),q∈t.walk p->p.length<=q.1.length
 | p,.mk _ _ _ _ _ sub,q,h=>by
  simp only[Tr.walk,List.mem_cons] at h;rcases h with rfl|h
  ·exact Nat.le_refl _
  ·exact Nat.le_of_lt (zXw p 0 sub q h)
theorem zXw:∀(p:List Nat)(i:Nat)(l:List Tr)(q:List Nat×Tr),q∈yQn p i l->p.length<q.1.length
 | _,_,[],q,h=>by simp[yQn] at h
 | p,i,a::l,q,h=>by
  simp only[yQn,List.mem_append] at h;rcases h with h|h
  ·have:=wKo (p++[i]) a q h;rw[lLa,List.length_singleton] at this;omega
  ·exact zXw p (i+1) l q h
end
theorem yG8 {ca:Nat}(hk:yJ5 ca=true){t:Tr}(hg:zVm t=false)(hs:(shal t).steps<=300)(h:yXb ca (shal t)=0):yJb ca t=true:=by
 unfold yJb;rw[hg];have e:yXl ca (shal t)=yQx (yXb ca) ((shal t).walk []):=by
  unfold yXl;rw[hk];simp only[Bool.not_true,bFt,if_false];rw[if_neg (by omega)]
 rw[e];obtain⟨r,s,m,u,n,sub⟩:=t;simp only[shal] at h ⊢;simp only[Tr.walk,yQx,h,if_true];simp only[bFt,if_false,Bool.or_eq_true,dTe];rcases zKh (e:=yXb ca) (l:=yQn [] 0 (sub.map λp=>goalT p.sq)) with h1|⟨q,hq,h1⟩
 ·exact .inl h1
 ·right;rw[h1];exact Nat.lt_of_le_of_lt (Nat.zero_le _) (zXw _ _ _ _ hq)
theorem yKj {ca:Nat}{s:Sq}(h:yQv ca s=true):yJb ca (goalT s)=true:=by
 have:zVm (goalT s)=true:=by
  rw[zVm,(yJ1 fm0 fm0).2 rfl];rfl
 unfold yJb;rw[this];exact h
theorem zK8 {ca:Nat}(hc:ca=1\/ca=2){t:Tr}(hs:t.steps<=300)(h:∀q∈t.walk [],yJb ca q.2=true):hCk ca t=([],0):=by
 unfold hCk;rw[if_pos hc,if_neg (by omega)];exact yU8 λq hq=>by unfold badN;rw[if_pos (h q hq)]
abbrev qqF:Fm:=fbi 6 faQ faQ
abbrev mnF:Fm:=fbi 5 faP qqF
abbrev sM:Sq:=⟨[],[mnF]⟩
abbrev sQ:Sq:=⟨[],[qqF]⟩
abbrev sA:Sq:=⟨[faQ],[faQ]⟩
abbrev sP:Sq:=⟨[],[faP]⟩
abbrev sO:Sq:=⟨[],[orP]⟩
abbrev mv1:Nat×Fm×List Sn:=(18,mnF,[([],[qqF])])
abbrev mv2:Nat×Fm×List Sn:=(10,qqF,[([faQ],[faQ])])
abbrev mv3:Nat×Fm×List Sn:=(1,faQ,[])
abbrev mv4:Nat×Fm×List Sn:=(8,orP,[([],[faP,fno faP,orP])])
abbrev sk1:Tr:=.mk 18 sM mnF tmZ noN [goalT sQ]
abbrev sk2:Tr:=.mk 18 sM mnF tmZ noN [.mk 10 sQ qqF tmZ noN [goalT sA]]
abbrev sk3:Tr:=.mk 18 sM mnF tmZ noN [.mk 10 sQ qqF tmZ noN [.mk 1 sA faQ tmZ noN []]]
abbrev skW:Tr:=.mk 8 sM mnF tmZ noN [goalT sP]
theorem hvM:yQv 2 sM=true:=zUa (by kernel_rfl)
theorem hvQ:yQv 2 sQ=true:=zUa (by kernel_rfl)
theorem hvA:yQv 2 sA=true:=zUa (by kernel_rfl)
theorem hvP:yQv 2 sP=true:=zUa (by kernel_rfl)
theorem hvE:yQv 1 ⟨[],[faP,fno faP,orP]⟩=true:=by kernel_rfl
theorem nfM:nf ([],[mnF])=([],[mnF]):=by rw[nf_C];kernel_rfl
theorem nfQ:nf ([],[qqF])=([],[qqF]):=by rw[nf_C];kernel_rfl
theorem nfO:nf ([],[orP])=([],[orP]):=by rw[nf_C];kernel_rfl
theorem nfA:nf ([faQ],[faQ])=([faQ],[faQ]):=by rw[nf_C];kernel_rfl
theorem mvM:mvF true ([],[mnF])=[(8,mnF,[([],[faP])]),mv1]:=by rw[wZk];kernel_rfl
theorem mvQ:mvF true ([],[qqF])=[mv2]:=by rw[wZk];kernel_rfl
theorem mvO:mvF false ([],[orP])=[mv4]:=by rw[wZk];kernel_rfl
theorem nclM:¬ ClF ([]:List Fm) [mnF]:=λh=>by
 have:=(zKt ([],[mnF])).2 h;exact absurd this (by rw[show clC ([],[mnF])=false by kernel_rfl];decide)
theorem nclQ:¬ ClF ([]:List Fm) [qqF]:=λh=>by
 have:=(zKt ([],[qqF])).2 h;exact absurd this (by rw[show clC ([],[qqF])=false by kernel_rfl];decide)
theorem nclO:¬ ClF ([]:List Fm) [orP]:=λh=>by
 have:=(zKt ([],[orP])).2 h;exact absurd this (by rw[show clC ([],[orP])=false by kernel_rfl];decide)
theorem clA:ClF [faQ] [faQ]:=.inl ⟨faQ,.head _,.head _⟩
def sd1K:List Sn:=[([],[faP])]
theorem sd1c:Cert true sd1K [false] [[]] [0]:=yKy (by kernel_rfl) (by kernel_rfl) (by kernel_rfl) (by kernel_rfl) (by kernel_rfl) (by kernel_rfl) (by decide)
theorem sd1:hF true ([],[faP])=0/\ReachOk true (nf ([],[faP])) sd1K:=yWu sd1c (by kernel_rfl)
def sd2K:List Sn:=[([],[(fbi 5 faP (fbi 6 faQ faQ))]),([],[faP]),([],[(fbi 6 faQ faQ)]),([faQ],[faQ])]
theorem sd2c:Cert true sd2K [false,false,false,true] [[[1],[2]],[],[[3]],[]] [3,0,2,1]:=yKy (by kernel_rfl) (by kernel_rfl) (by kernel_rfl) (by kernel_rfl) (by kernel_rfl) (by kernel_rfl) (by decide)
theorem sd2:hF true ([],[(fbi 5 faP (fbi 6 faQ faQ))])=3/\ReachOk true (nf ([],[(fbi 5 faP (fbi 6 faQ faQ))])) sd2K:=yWu sd2c (by kernel_rfl)
def sd3K:List Sn:=[([],[(fbi 6 faQ faQ)]),([faQ],[faQ])]
theorem sd3c:Cert true sd3K [false,true] [[[1]],[]] [2,1]:=yKy (by kernel_rfl) (by kernel_rfl) (by kernel_rfl) (by kernel_rfl) (by kernel_rfl) (by kernel_rfl) (by decide)
theorem sd3:hF true ([],[(fbi 6 faQ faQ)])=2/\ReachOk true (nf ([],[(fbi 6 faQ faQ)])) sd3K:=yWu sd3c (by kernel_rfl)
def sd4K:List Sn:=[([faQ],[faQ])]
theorem sd4c:Cert true sd4K [true] [[]] [1]:=yKy (by kernel_rfl) (by kernel_rfl) (by kernel_rfl) (by kernel_rfl) (by kernel_rfl) (by kernel_rfl) (by decide)
theorem sd4:hF true ([faQ],[faQ])=1/\ReachOk true (nf ([faQ],[faQ])) sd4K:=yWu sd4c (by kernel_rfl)
def sd5K:List Sn:=[([],[faP,(fno faP),(fbi 5 faP (fno faP))]),([faP],[faP,(fno faP),(fbi 5 faP (fno faP))])]
theorem sd5c:Cert false sd5K [false,true] [[[1],[0]],[]] [2,1]:=yKy (by kernel_rfl) (by kernel_rfl) (by kernel_rfl) (by kernel_rfl) (by kernel_rfl) (by kernel_rfl) (by decide)
theorem sd5:hF false ([],[faP,(fno faP),(fbi 5 faP (fno faP))])=2/\ReachOk false (nf ([],[faP,(fno faP),(fbi 5 faP (fno faP))])) sd5K:=yWu sd5c (by kernel_rfl)
theorem wZe {s:Sn}(hv:yQv 2 (sqOf s)=true)(h1:s.1=[])(h2:∀f∈s.2,fmB 2 f=true){m:Nat×Fm×List Sn}(hm:m∈mvF true s){sub:List Tr}(hsub:sub.map Tr.sq=m.2.2.map sqOf):yXb 2 (.mk m.1 (sqOf s) m.2.1 tmZ noN sub)=0 :=
 (xYp (.inr rfl) hv (by rw[h1];nofun) h2 hm hsub).1
theorem fmM:∀f∈[mnF],fmB 2 f=true:=λf hf=>by rw[List.mem_singleton.1 hf];kernel_rfl
theorem fmQ:∀f∈[qqF],fmB 2 f=true:=λf hf=>by rw[List.mem_singleton.1 hf];kernel_rfl
theorem rW:yJb 2 skW=true:=yG8 rfl rfl (by decide) (wZe (s:=([],[mnF])) hvM rfl fmM (m:=(8,mnF,[([],[faP])])) (by rw[mvM];exact .head _) rfl)
theorem r1 (a:Tr)(h:a.sq=sQ):yJb 2 (.mk 18 sM mnF tmZ noN [a])=true:=yG8 rfl rfl (by show 2<=300;decide) (wZe (s:=([],[mnF])) hvM rfl fmM (m:=mv1) (by rw[mvM];exact .tail _ (.head _)) (by simp only[List.map_cons,List.map_nil,h];rfl))
theorem r2 (a:Tr)(h:a.sq=sA):yJb 2 (.mk 10 sQ qqF tmZ noN [a])=true:=yG8 rfl rfl (by show 2<=300;decide) (wZe (s:=([],[qqF])) hvQ rfl fmQ (m:=mv2) (by rw[mvQ];exact .head _) (by simp only[List.map_cons,List.map_nil,h];rfl))
theorem r3:yJb 2 (.mk 1 sA faQ tmZ noN [])=true:=yG8 rfl rfl (by decide) (xY9 (.inr rfl) (s:=([faQ],[faQ])) hvA (λf hf=>by rw[List.mem_singleton.1 hf];kernel_rfl) (by simp[axF])).1
theorem ckO1:hCk 1 (goalT sO)=([],0):=zK8 (.inl rfl) (by decide) λq hq=>by
 simp only[Tr.walk,yQn,List.mem_singleton] at hq;subst hq;exact yKj awv2
theorem ckO2:hCk 2 (goalT sO)=([],0):=zK8 (.inr rfl) (by decide) λq hq=>by
 simp only[Tr.walk,yQn,List.mem_singleton] at hq;subst hq;exact yKj awv3
theorem ckM:hCk 2 (goalT sM)=([],0):=zK8 (.inr rfl) (by decide) λq hq=>by
 simp only[Tr.walk,yQn,List.mem_singleton] at hq;subst hq;exact yKj hvM
theorem ckW:hCk 2 skW=([],0):=zK8 (.inr rfl) (by decide) λq hq=>by
 simp only[Tr.walk,yQn,List.append_nil,List.nil_append,List.mem_cons,List.not_mem_nil,or_false] at hq;rcases hq with rfl|rfl
 ·exact rW
 ·exact yKj hvP
theorem ck1:hCk 2 sk1=([],0):=zK8 (.inr rfl) (by decide) λq hq=>by
 simp only[Tr.walk,yQn,List.append_nil,List.nil_append,List.mem_cons,List.not_mem_nil,or_false] at hq;rcases hq with rfl|rfl
 ·exact r1 _ rfl
 ·exact yKj hvQ
theorem ck2:hCk 2 sk2=([],0):=zK8 (.inr rfl) (by decide) λq hq=>by
 simp only[Tr.walk,yQn,List.append_nil,List.nil_append,List.mem_cons,List.not_mem_nil,or_false] at hq;rcases hq with rfl|rfl|rfl
 ·exact r1 _ rfl
 ·exact r2 _ rfl
 ·exact yKj hvA
theorem ck3:hCk 2 sk3=([],0):=zK8 (.inr rfl) (by decide) λq hq=>by
 simp only[Tr.walk,yQn,List.append_nil,List.nil_append,List.mem_cons,List.not_mem_nil,or_false] at hq;rcases hq with rfl|rfl|rfl
 ·exact r1 _ rfl
 ·exact r2 _ rfl
 ·exact r3
def badT (t:Tr):Tr:=.mk 4 sP (fno faP) tmZ noN [t]
theorem vY5 (ca:Nat)(t:Tr)(hs:t.steps<=200):hCk ca (badT t)=([],if ca=1\/ca=2 then 270 else 2):=by
 unfold hCk;by_cases hc:ca=1\/ca=2
 ·rw[if_pos hc,if_pos hc,if_neg (by simp only[badT,Tr.steps,yQq];omega)];have hn:yXb ca (shal (badT t))≠0:=by
   have hst:(yVk ca sP 4 (fno faP) tmZ noN).2≠0:=by
    have hh:hasF [faP] (fno faP)=false:=by simp[hasF,eqF,Fm.op]
    have hr:rowS ca 4=some ⟨false,true,3,0⟩:=by rcases hc with rfl|rfl<;>rfl
    have hh':hasF sP.r (fno faP)=false:=hh;unfold yVk;rw[hr];by_cases hv:yQv ca sP=true
    ·simp[hv,hh']
    ·simp[hv]
   simp only[badT,shal,List.map_cons,List.map_nil,yXb];rw[if_pos hst];exact hst
  have hr:yJb ca (badT t)=false:=by
   unfold yJb;rw[show zVm (badT t)=false from rfl];have hk:yJ5 ca=true:=by unfold yJ5;rcases hc with rfl|rfl<;>rfl
   have e:yXl ca (shal (badT t))=([],yXb ca (shal (badT t))):=by
    unfold yXl;rw[hk];simp only[Bool.not_true,bFt,if_false];rw[if_neg (by simp[badT,shal,Tr.steps,yQq])];simp only[badT,shal,Tr.walk] at hn ⊢;rw[yQx,if_neg hn]
   rw[e];simp[hn]
  simp only[badT,Tr.walk];rw[yQx,if_neg (by unfold badN;rw[show yJb ca (.mk 4 sP (fno faP) tmZ noN [t])=false from hr];decide)];unfold badN;rw[show yJb ca (.mk 4 sP (fno faP) tmZ noN [t])=false from hr];rfl
 ·rw[if_neg hc,if_neg hc]
