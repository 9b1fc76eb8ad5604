/- Walks: lists of sequents: compared, over -/
import Derived.Test.YtabhgbojkjcfjaaGreatDoorQE
set_option linter.all false
open Nat renaming reduceEqDiff → zE,reduceBEq → zB,reduceAdd → zA,reduceMul → zM,reduceSub → zS,reduceLeDiff → zL
namespace Go.Proofs.Tryz
open Go Go.Iv
set_option maxRecDepth 4000
variable (gl:Nat->Option IV)
theorem zU0 (l m:List Sq)(t t':Tag)(xs ys:List IV)(ht:okEs t 2)(ac:okEs t' 2)(O:IsSqs l xs)(hy:IsSqs m ys)(st:ISt) :
  ICall prog gl 60 [.sl t xs,.sl t' ys] st (λr st'=>r=.raw (.bool (eqB l m))/\st'=st):=by
 refine iI func60 ?_;simp only[go_sem,zE,reduceCtorEq,O.len,hy.len];intro al ak;by_cases A:l.length=m.length
 case neg =>
  simp only[go_sem,show decide (((l.length:Nat):Int)=m.length)=false from dEf (by omega)];exact yQ0 ⟨by rw[yQi.2 λh=>A (by rw[h])],rfl⟩
 simp only[go_sem,show decide (((l.length:Nat):Int)=m.length)=true from dEt (by omega)];refine LoopC.ctr l.length (λk fr st' ds=>l.take k=m.take k/\fr 0=.iv (.sl t xs)/\fr 1=.iv (.sl t' ys)/\fr 5=.iv (.raw (.int .i64 k))/\st'=st/\ds=[]) ?_ ?_ ?_
 ·simp only[go_sem,zE,reduceCtorEq];simp
 ·rintro k fr F _ D ⟨U,f0,f1,f5,rfl,rfl⟩;obtain⟨a,ha⟩:=yQ3 D;obtain⟨b,W⟩:=yQ3 (l:=m) (k:=k) (by omega);obtain⟨x,af,J⟩:=O.get ha;obtain⟨y,ae,G⟩:=hy.get W;have E:=yW2 gl a b x y J G F;obtain⟨_,_,_,_,rfl⟩:=IsSq.two J;obtain⟨_,_,_,_,rfl⟩:=IsSq.two G;simp only[go_sem,zE,zB,zA,reduceCtorEq,f0,f1,f5,O.len,lt_i D,yQ2 ht,yQ2 ac,iNn,af,ae,fits];intros;refine E.mono ?_;rintro _ _ ⟨rfl,rfl⟩;cases hq:eqB a b
  ·simp only[go_sem];refine yQ0 ⟨?_,rfl⟩;rw[yQi.2 λh=>?_];subst h;rw[ha] at W;cases W;exact yQi.1 hq rfl
  ·simp only[go_sem,zE,reduceCtorEq,f0,f1,f5,yQb D (show l.length<=281474976710656 by omega)];rw[yQ4 ha,yQ4 W,U,yQm.1 hq]
 ·rintro fr F _ ⟨U,f0,f1,f5,rfl,rfl⟩;rw[lTl,show m.take l.length=m by rw[A,lTl]] at U;simp only[go_sem,zE,reduceCtorEq,f0,f5,O.len,yQj (nLi _)];intros;exact yQ0 ⟨by rw[yQm.2 U],rfl⟩
theorem wXy (k i:Nat)(st:ISt):ICall prog gl 109 [.raw (.int .i64 k),.raw (.int .i64 i)] st (λr st'=>(∃a b,r=.agg [a,b]/\a.one=true/\b.one=true)/\st'=st):=by
 have A:(mkD k i).all IV.one=true:=rfl;have D:(mkD k i).length=4:=rfl;refine iI func109 ?_;simp only[go_sem,zE,zA,reduceCtorEq];refine (yUk gl k i _).mono ?_;rintro _ st ⟨rfl,rfl⟩;simp only[go_sem,zE,zA,zM,zL,fits,yQ1,A,D];exact yQ0 ⟨⟨_,_,rfl,rfl,rfl⟩,rfl⟩
theorem yUx (f:Bool)(e:Nat)(st:ISt):ICall prog gl 61 [.sl ⟨f,.nil,e⟩ []] st (λ_ st'=>st'=st):=by
 refine iI func61 ?_;simp only[go_sem];refine LoopC.ctr 0 (λk fr st' ds=>fr 0=.iv (.sl ⟨f,.nil,e⟩ [])/\fr 2=.iv (.raw (.int .i64 0))/\st'=st/\ds=[]) ?_ ?_ ?_
 ·simp only[go_sem,reduceCtorEq]
 ·intro k _ _ _ h;omega
 ·rintro fr st _ ⟨f0,f2,rfl,rfl⟩;simp only[go_sem,zE,zL,reduceCtorEq,f0,f2,show decide ((0:Int)<((0:Nat):Int))=false from rfl,show IntKind.i64.wrap (((0:Nat):Int)+12)=12 from rfl,show min (0:Int) 12=((0:Nat):Int) from rfl,yK9 (Nat.le_refl 0)];intros;refine LoopC.ctr 0 (λk fr st' ds=>(∃t,fr 3=.iv (.sl t []))/\fr 4=.iv (.raw (.int .i64 0))/\st'=st/\ds=[]) ?_ ?_ ?_
  ·simp only[go_sem,zE];exact⟨_,rfl⟩
  ·intro k _ _ _ h;omega
  ·rintro fr st _ ⟨⟨t,f3⟩,f4,rfl,rfl⟩;simp only[go_sem,zE,zL,f3,f4,show decide ((0:Int)<((0:Nat):Int))=false from rfl];intros;exact yQ0 rfl
theorem zU1 {D:Nat->Prop}{d:Nat}{x:IV}{st:ISt}(h:OK D d 2 st x):ICall prog gl 61 [x] st (λ_ st'=>∀b,¬ D b->st' b=st b):=by
 cases d with
 | zero =>
  rcases h with⟨f,e,rfl⟩|rfl
  ·exact (yUx gl f e st).mono λ_ _ h _ _=>by rw[h]
  ·exact ICall.nil1 ((yUx gl _ _ st).mono λ_ _ h _ _=>by rw[h])
 | succ d =>
  rcases h with (⟨f,e,rfl⟩|rfl)|⟨g,n,c,cs,v,rfl,hD,hn,ah,hg,ac,h0,hv,hi⟩
  ·exact (yUx gl f e st).mono λ_ _ h _ _=>by rw[h]
  ·exact ICall.nil1 ((yUx gl _ _ st).mono λ_ _ h _ _=>by rw[h])
  have hw:OK D (d+1) 2 st (.raw (.slice (some ⟨g,0,none⟩) n c)):=.inr ⟨g,n,c,cs,v,rfl,hD,hn,ah,hg,ac,h0,hv,hi⟩;clear hg ac h0 hv hi;have am:IntKind.i64.wrap ((n:Int)+12)=((n+12:Nat):Int):=by rw[w64]<;>omega
  have ab:min (c:Int) ((n+12:Nat):Int)=((min c (n+12):Nat):Int):=by omega
  generalize hm:min c (n+12)=m at ab;have ao:m<=c:=by omega
  have aK:m<=281474976710000:=by omega
  refine iI func61 ?_;simp only[go_sem];refine LoopC.ctr n (λk fr st' ds=>fr 0=.iv (.raw (.slice (some ⟨g,0,none⟩) n c))/\fr 2=.iv (.raw (.int .i64 k))/\Ow D st st'/\ds=[]) ?_ ?_ ?_
  ·simp only[go_sem,reduceCtorEq];exact⟨rfl,Ow.refl _ _⟩
  ·rintro k fr al _ E ⟨f0,f2,J,rfl⟩;obtain⟨e,W,v,he,_,_,_,ae,au,_,_,av⟩:=(J.keep _ _ _ hw).raw;obtain rfl:d=e:=by omega
   obtain⟨aa,h2⟩:=av k E;have U:k*2+2<=W.length:=by omega
   obtain⟨y,q1,y1,y2⟩:=aa 0 (by omega);obtain⟨z,q2,z1,z2⟩:=aa 1 (by omega);have ax:(W.drop (k*2)).take 2=[y,z]:=by
    apply List.ext_getElem?;intro j;rw[List.getElem?_take,List.getElem?_drop]
    match j with
    | 0=>simpa using q1
    | 1=>simpa using q2
    | j+2=>rw[if_neg (by omega)];rfl
   have af:=zGi gl y1 y2 z1 z2 (h2 0 _ 4 q1 rfl) (h2 1 _ 4 q2 rfl);simp only[go_sem,zE,zA,reduceCtorEq,f0,f2,lt_i E,iNn,E,ae,U,ax];refine af.mono ?_;rintro _ G ag;simp only[go_sem,zE,reduceCtorEq,f0,f2,yQb E (show n<=281474976710656 by omega)];exact J.trans ag
  ·rintro fr al _ ⟨f0,f2,J,rfl⟩;obtain⟨e,W,v,_,_,_,_,ae,au,_⟩:=(J.keep _ _ _ hw).raw;simp only[go_sem,zE,reduceCtorEq,f0,f2,yQj (nLi _),am,ab,ah,yK9 ao,ite_self,Nat.zero_mul];refine LoopC.ctr m (λk fr st' ds=>fr 3=.iv (.raw (.slice (some ⟨g,0,none⟩) m c))/\fr 4=.iv (.raw (.int .i64 k))/\(∃A,st' g=some (.box A)/\A.length=W.length)/\(∀b,¬ D b->st' b=st b)/\ds=[]) ?_ ?_ ?_
   ·simp only[go_sem,zE];exact⟨rfl,⟨_,ae,rfl⟩,J.dom⟩
   ·rintro k fr G _ E ⟨f3,f4,⟨A,aw,aL⟩,O,rfl⟩;have U:k*2+2<=A.length:=by omega
    simp only[go_sem,zE,zA,f3,f4,lt_i E];refine (wXy gl 2 k G).mono ?_;rintro _ G ⟨⟨a,b,rfl,ha,hb⟩,rfl⟩;have aq:(yXb A (k*2) [a,b]).length=A.length:=xZx U;have an:(G.put g (some (.box (yXb A (k*2) [a,b])))) g=some (.box (yXb A (k*2) [a,b])):=ISt.put_same ..;have ai:∀b',¬ D b'->(G.put g (some (.box (yXb A (k*2) [a,b])))) b'=st b':=λb' aj=>by
     rw[yZ7 (by rintro rfl;exact aj hD)];exact O b' aj
    generalize F:yXb A (k*2) [a,b]=cs3 at aq an ai;unfold yXb at F;rw[show[a,b].length=2 from rfl] at F;simp only[go_sem,zE,zA,f3,f4,iNn,E,aw,U,ha,hb,yQb E (show m<=281474976710656 by omega)];refine⟨⟨_,rfl,?_⟩,?_⟩
    ·rw[F];omega
    ·rw[F];exact ai
   ·rintro fr G _ ⟨f3,f4,_,O,rfl⟩;simp only[go_sem,zE,f3,f4,yQj (nLi _)];intros;exact yQ0 O
theorem vZ8 (G:Gl gl)(ca rule:Nat)(s:Sq)(m:Fm)(u:Tm)(n:ByteArray)(sub:List Tr)(x:IV)(hx:IsTr (.mk rule s m u n sub) x)(hn:NA (.mk rule s m u n sub))(hu:yWw (.mk rule s m u n sub)=true)(st:ISt) :
  ICall prog gl 59 [.raw (.int .u8 ca),x] st (AdR st (xZ7 ca s rule m u n)):=by
 have hB:=λst=>xXf gl G ca _ x hx hn hu st;simp only at hB;obtain⟨tl,xl,tr,xr,op,fn,ta,xa,tb,xb,v,un,tu,xu,ts,xs,rfl,bp,e1,i1,e2,i2,hy,hz,e3,i3⟩:=hx.mk;simp only[NA] at hn;unfold xZ7;refine ICall.intro (c:=cf prog gl [] [(10,[0,1,2,3,5,6,7,8,9,11,12,13,14,16,17,18,19,20,23,4,10,15,21,22,24])]) func59 rfl (by show _<=87;simp) (by kernel_rfl) ?_;by_cases k1:1<=ca
 case neg =>
  have d1:decide ((ca:Int)<1)=true:=dEt (by omega);simp only[go_sem,zE,reduceCtorEq,d1];rw[show yX7 ca=false from by simp[yX7,k1]];exact yQ0 ⟨_,_,rfl,.inl rfl,rfl,rfl⟩
 have d1:decide ((ca:Int)<1)=false:=dEf (by omega);by_cases k2:ca<=3
 case neg =>
  have d2:decide ((3:Int)<ca)=true:=dEt (by omega);simp only[go_sem,zE,reduceCtorEq,d1,d2];rw[show yX7 ca=false from by simp[yX7,k2]];exact yQ0 ⟨_,_,rfl,.inl rfl,rfl,rfl⟩
 have d2:decide ((3:Int)<ca)=false:=dEf (by omega);have hk:yX7 ca=true:=by unfold yX7;rw[dEt k1,dEt k2];rfl
 rw[hk];simp only[go_sem,zE,zA,zL,reduceCtorEq,d1,d2];refine (hB _).mono ?_;rintro _ st ⟨tg,ys,rfl,he,hys,rfl⟩;generalize hq:yZt ca s rule m u n=q at hys ⊢;obtain⟨ad,er⟩:=q;simp only at hys ⊢;by_cases h0:er=0
 ·subst h0;obtain⟨hv,r,hr⟩:=xKj hq;have aD:=zX0 hr;have aY:=xK4 hr;have bn:s.l.length<=64/\s.r.length<=64:=by
   unfold yXl at hv;simp only[bAt,dTe] at hv;exact⟨hv.1.1.1.1.2,hv.1.1.1.2⟩
  simp only[if_false,ne_eq,nTf];simp only[go_sem,zE,show decide (((0:Nat):Int)=0)=true from rfl];refine LoopC.ctr ad.length (λk fr st' ds=>(ad.take k).all (okI ca s)=true/\(∃aA zs,fr 8=.iv (.sl aA zs)/\IsSqs ((ad.take k).map (yZk ca s)) zs/\own st' aA k 2 st/\subSt st st')/\fr 0=.iv (.raw (.int .u8 ca)) /\
   fr 3=.box [.raw (.int .u8 rule),.sl tl xl,.sl tr xr,.raw (.int .u8 op),.raw (.string fn),.sl ta xa,.sl tb xb,.raw (.bool v),.raw (.string un),.sl tu xu,.raw (.string n),.sl ts xs]/\fr 6=.iv (.sl tg ys)/\fr 9=.iv (.raw (.int .i64 k))/\ds=[]) ?_ ?_ ?_
  ·simp only[go_sem,zE,reduceCtorEq];exact⟨⟨_,_,rfl,rfl,own.nil _ _ _ _ _,subSt.refl _⟩,rfl⟩
  ·rintro k fr aC _ ak ⟨aa,⟨aI,zs,f8,hzs,ai,ah⟩,f0,f3,f6,f9,rfl⟩;obtain⟨a,ha⟩:=yQ3 ak;obtain⟨w,az,hw⟩:=hys.get ha;have am:=aD a (lMg ha);obtain⟨t5,x5,t6,x6,rfl,k5,j5,k6,j6⟩:=hw;simp only[go_sem,zE,zA,zM,zL,f3,f6,f9,hys.len,lt_i ak,yQ2 he,iNn,az,fits,show yJx 0 []=true from rfl];intros;refine yJ5 (S0:=aC) (n:=0) (s:=4) (own.full _ _ _ _) rfl i1.len (subSt.refl _) rfl (List.all_eq_true.2 (yXv i1)) (by show _*72<=_;omega) (by omega) λt7 bk ay av _=>?_;simp only[go_sem,zE,zA];intros;refine yJ5 ay (by rw[i1.len,Nat.zero_add]) j5.len av rfl (List.all_eq_true.2 (yXv j5)) (by show _*72<=_;have:=am.2.1;omega) (by have:=am.2.1;omega) λt8 aL ax ag _=>?_;simp only[go_sem,zE,zA];intros;refine yJ5 (S0:=aL) (n:=0) (s:=4) (own.full _ _ _ _) rfl i2.len (subSt.refl _) rfl (List.all_eq_true.2 (yXv i2)) (by show _*72<=_;omega) (by omega) λt9 st4 aw au _=>?_;simp only[go_sem,zE,zA];intros;refine yJ5 aw (by rw[i2.len,Nat.zero_add]) j6.len au rfl (List.all_eq_true.2 (yXv j6)) (by show _*72<=_;have:=am.2.2;omega) (by have:=am.2.2;omega) λt10 aK an ac _=>?_;simp only[go_sem,zE,zA];refine (yJr gl _ _ _ _ _).mono ?_;rintro _ aK ⟨rfl,rfl⟩;have tL:=ax.es;have tR:=an.es;have A:=ah.trans ((ag).trans ac);have ab:=xYf ai (ag.trans ac);obtain⟨L,hL⟩:∃L,L=xl++x5:=⟨_,rfl⟩
   have J:IsFms (yZk ca s a).l L:=hL▸i1.append j5;rw[<- hL];by_cases bs:ca=2
   ·have ao:decide ((ca:Int)=2)=true:=dEt (by omega);by_cases aN:a.r.length=0
    ·obtain⟨R,hR⟩:∃R,R=xr++x6:=⟨_,rfl⟩
     have W:IsFms (yZk ca s a).r R:=by rw[hR];unfold yZk;rw[if_pos (by omega)];exact i2.append j6
     rw[<- hR];simp only[go_sem,zE,zA,zL,reduceCtorEq,f0,f6,f9,yQ2 he,iNn,az,fits,ao,j6.len,aN,show decide ((0:Int)<((0:Nat):Int))=false from rfl];have D:∀(h:okI ca s a=false),ad.all (okI ca s)=false:=λh=>List.all_eq_false.2 ⟨a,lMg ha,by rw[h];simp⟩;by_cases F:(yZk ca s a).l.length<=64
     ·have dl:decide ((64:Int)<(((yZk ca s a).l.length:Nat):Int))=false:=dEf (by omega);by_cases E:(yZk ca s a).r.length<=64
      ·have dr:decide ((64:Int)<(((yZk ca s a).r.length:Nat):Int))=false:=dEf (by omega);have aj:okI ca s a=true:=by unfold okI;rw[dEt F,dEt E];rfl
       simp only[go_sem,zE,zA,zM,zL,f8,fits,J.len,W.len,dl,dr,yQ1];intros;refine yZ1 ab (by rw[hzs.len,List.length_map,List.length_take];omega) A rfl (by simp[fits,IV.one]) (by simp only;omega) (by omega) λaf aB U O _=>?_;simp only[go_sem,zE,reduceCtorEq,f0,f3,f6,f9,yQb ak (show ad.length<=281474976710656 by omega)];refine⟨by rw[yQ4 ha,List.all_append,aa];simp[aj],⟨af,_,rfl,?_,U,O⟩⟩;rw[yQ4 ha,List.map_append];exact hzs.append ⟨_,_,rfl,⟨_,_,_,_,rfl,tL,J,tR,W⟩,rfl⟩
      ·have dr:decide ((64:Int)<(((yZk ca s a).r.length:Nat):Int))=true:=dEt (by omega);simp only[go_sem,zE,J.len,W.len,dl,dr];intros;refine yQc A ?_;rw[D (by unfold okI;rw[dEf E,Bool.and_false])];exact⟨_,_,rfl,.inl rfl,rfl,rfl⟩
     ·have dl:decide ((64:Int)<(((yZk ca s a).l.length:Nat):Int))=true:=dEt (by omega);simp only[go_sem,zE,J.len,dl];intros;refine yQc A ?_;rw[D (by unfold okI;rw[dEf F,Bool.false_and])];exact⟨_,_,rfl,.inl rfl,rfl,rfl⟩
    ·have W:IsFms (yZk ca s a).r x6:=by unfold yZk;rw[if_neg (by omega)];exact j6
     simp only[go_sem,zE,zA,zL,reduceCtorEq,f0,f6,f9,yQ2 he,iNn,az,fits,ao,j6.len,show decide ((0:Int)<((a.r.length:Nat):Int))=true from dEt (by omega)];intros;have D:∀(h:okI ca s a=false),ad.all (okI ca s)=false:=λh=>List.all_eq_false.2 ⟨a,lMg ha,by rw[h];simp⟩;by_cases F:(yZk ca s a).l.length<=64
     ·have dl:decide ((64:Int)<(((yZk ca s a).l.length:Nat):Int))=false:=dEf (by omega);by_cases E:(yZk ca s a).r.length<=64
      ·have dr:decide ((64:Int)<(((yZk ca s a).r.length:Nat):Int))=false:=dEf (by omega);have aj:okI ca s a=true:=by unfold okI;rw[dEt F,dEt E];rfl
       simp only[go_sem,zE,zA,zM,zL,f8,fits,J.len,W.len,dl,dr,yQ1];intros;refine yZ1 ab (by rw[hzs.len,List.length_map,List.length_take];omega) A rfl (by simp[fits,IV.one]) (by simp only;omega) (by omega) λaf aB U O _=>?_;simp only[go_sem,zE,reduceCtorEq,f0,f3,f6,f9,yQb ak (show ad.length<=281474976710656 by omega)];refine⟨by rw[yQ4 ha,List.all_append,aa];simp[aj],⟨af,_,rfl,?_,U,O⟩⟩;rw[yQ4 ha,List.map_append];exact hzs.append ⟨_,_,rfl,⟨_,_,_,_,rfl,tL,J,k6,W⟩,rfl⟩
      ·have dr:decide ((64:Int)<(((yZk ca s a).r.length:Nat):Int))=true:=dEt (by omega);simp only[go_sem,zE,J.len,W.len,dl,dr];intros;refine yQc A ?_;rw[D (by unfold okI;rw[dEf E,Bool.and_false])];exact⟨_,_,rfl,.inl rfl,rfl,rfl⟩
     ·have dl:decide ((64:Int)<(((yZk ca s a).l.length:Nat):Int))=true:=dEt (by omega);simp only[go_sem,zE,J.len,dl];intros;refine yQc A ?_;rw[D (by unfold okI;rw[dEf F,Bool.false_and])];exact⟨_,_,rfl,.inl rfl,rfl,rfl⟩
   ·have ao:decide ((ca:Int)=2)=false:=dEf (by omega);obtain⟨R,hR⟩:∃R,R=xr++x6:=⟨_,rfl⟩
    have W:IsFms (yZk ca s a).r R:=by rw[hR];unfold yZk;rw[if_pos (by omega)];exact i2.append j6
    rw[<- hR];simp only[go_sem,zE,zA,zL,reduceCtorEq,f0,ao];have D:∀(h:okI ca s a=false),ad.all (okI ca s)=false:=λh=>List.all_eq_false.2 ⟨a,lMg ha,by rw[h];simp⟩;by_cases F:(yZk ca s a).l.length<=64
    ·have dl:decide ((64:Int)<(((yZk ca s a).l.length:Nat):Int))=false:=dEf (by omega);by_cases E:(yZk ca s a).r.length<=64
     ·have dr:decide ((64:Int)<(((yZk ca s a).r.length:Nat):Int))=false:=dEf (by omega);have aj:okI ca s a=true:=by unfold okI;rw[dEt F,dEt E];rfl
      simp only[go_sem,zE,zA,zM,zL,f8,fits,J.len,W.len,dl,dr,yQ1];intros;refine yZ1 ab (by rw[hzs.len,List.length_map,List.length_take];omega) A rfl (by simp[fits,IV.one]) (by simp only;omega) (by omega) λaf aB U O _=>?_;simp only[go_sem,zE,reduceCtorEq,f0,f3,f6,f9,yQb ak (show ad.length<=281474976710656 by omega)];refine⟨by rw[yQ4 ha,List.all_append,aa];simp[aj],⟨af,_,rfl,?_,U,O⟩⟩;rw[yQ4 ha,List.map_append];exact hzs.append ⟨_,_,rfl,⟨_,_,_,_,rfl,tL,J,tR,W⟩,rfl⟩
     ·have dr:decide ((64:Int)<(((yZk ca s a).r.length:Nat):Int))=true:=dEt (by omega);simp only[go_sem,zE,J.len,W.len,dl,dr];intros;refine yQc A ?_;rw[D (by unfold okI;rw[dEf E,Bool.and_false])];exact⟨_,_,rfl,.inl rfl,rfl,rfl⟩
    ·have dl:decide ((64:Int)<(((yZk ca s a).l.length:Nat):Int))=true:=dEt (by omega);simp only[go_sem,zE,J.len,dl];intros;refine yQc A ?_;rw[D (by unfold okI;rw[dEf F,Bool.false_and])];exact⟨_,_,rfl,.inl rfl,rfl,rfl⟩
  ·rintro fr aC _ ⟨aa,⟨aI,zs,f8,hzs,ai,ah⟩,f0,f3,f6,f9,rfl⟩;rw[lTl] at aa hzs;simp only[go_sem,zE,f6,f8,f9,hys.len,yQj (nLi _)];intros;rw[if_pos aa];exact yQc ah ⟨_,_,rfl,ai.es,hzs,rfl⟩
 ·have aP:decide (((er:Nat):Int)=0)=false:=dEf (by omega);simp only[ne_eq,h0,nFt,if_true];simp only[go_sem,zE,aP];exact yQ0 ⟨_,_,rfl,.inl rfl,rfl,rfl⟩
def Tr.subsT:Tr->List Tr
 | .mk _ _ _ _ _ sub=>sub
theorem xY9 {s:Sq}:∀ {ad:List Sq} {A:List Tr},(∀(i:Nat) (m:Sq) (t:Tr),ad[i]?=some m->A[i]?=some t->yXf t.sq (s.plus m)=true)->yJ2 s ad A=true
 | [],_,_=>rfl
 | _::_,[],_=>rfl
 | m::ad,t::A,h=>by
  simp only[yJ2,bAt];exact⟨h 0 m t rfl rfl,xY9 λi a b h1 h2=>h (i+1) a b (by simpa using h1) (by simpa using h2)⟩
theorem xVz {ca rule:Nat}{s:Sq}{m:Fm}{u:Tm}{n:ByteArray}{ad:List Sq}(U:u.size<=900000)(h:yZt ca s rule m u n=(ad,0)):∀q∈ad,yKm q/\q.l.length<=1099511627776/\q.r.length<=1099511627776:=by
 have G:(yZt ca s rule m u n).2=0:=by rw[h]
 obtain⟨r,O,J,F,_,_,_,E⟩:=xUa G;rw[h] at E;have hA:yZl ca rule r m u n=(ad,0):=Prod.ext ((Prod.mk.inj E).1.symm) F;have A:=zX0 hA;intro q D;exact⟨(A q D).1,by have:=(A q D).2.1;omega,by have:=(A q D).2.2;omega⟩
set_option maxHeartbeats 1000000 in
theorem wWi (G:Gl gl)(ca:Nat)(t:Tr)(x:IV)(hx:IsTr t x)(hn:NA t)(hu:yWw t=true)(O:∀a∈(Tr.subsT t),a.sq.l.length<=1099511627776/\a.sq.r.length<=1099511627776)(aD:t.steps<=1099511627776)(st:ISt) :
  ICall prog gl 129 [.raw (.int .u8 ca),x] st (λr st'=>r=.raw (.int .i64 (yZj ca t))/\st'=st):=by
 have hB:=λst=>xXf gl G ca t x hx hn hu st;obtain⟨rule,s,m,u,n,sub⟩:=t;simp only[Tr.subsT] at O;obtain⟨tl,xl,tr,xr,op,fn,ta,xa,tb,xb,v,un,tu,xu,ts,xs,rfl,bG,e1,i1,e2,i2,hy,hz,e3,i3⟩:=hx.mk;simp only at hB;simp only[NA] at hn;simp only[yWw,bAt,dTe] at hu;simp only[Tr.steps] at aD;have bH:=yX6 sub;have aJ:yZj ca (.mk rule s m u n sub)=if (yZt ca s rule m u n).2≠0 then (yZt ca s rule m u n).2 else if sub.length≠(yZt ca s rule m u n).1.length then 194 else if yJ2 s (yZt ca s rule m u n).1 sub then 0 else 195:=by simp only[yZj]
 rw[aJ];have F:=λad h=>xVz (ca:=ca) (rule:=rule) (s:=s) (m:=m) (n:=n) (ad:=ad) hu.1 h;have E:=λh=>zKq (ca:=ca) (s:=s) (rule:=rule) (main:=m) (term:=u) (name:=n) h;generalize yZt ca s rule m u n=q at hB F E ⊢;obtain⟨ad,e⟩:=q;simp only at hB E ⊢;refine iI func129 ?_;simp only[go_sem,zE,zA,zL,reduceCtorEq];refine (hB _).mono ?_;rintro _ st ⟨ao,za,rfl,ab,D,rfl⟩;by_cases he:e=0
 case neg =>
  have k0:decide (((e:Nat):Int)=0)=false:=dEf (by omega);rw[if_pos he];simp only[go_sem,zE,k0];exact yQ0 ⟨rfl,rfl⟩
 subst he;rw[if_neg (by simp)];have F:=F ad rfl;obtain⟨_,aV,aU,_⟩:=yUb.1 (E rfl);by_cases ag:sub.length=ad.length
 case neg =>
  have k1:decide (((ad.length:Nat):Int)=((sub.length:Nat):Int))=false:=dEf (by omega);rw[if_pos ag];simp only[go_sem,zE,D.len,i3.len,k1,show decide (((0:Nat):Int)=0)=true from rfl];intros;exact yQ0 ⟨rfl,rfl⟩
 rw[if_neg (by simp[ag])];have k1:decide (((ad.length:Nat):Int)=((sub.length:Nat):Int))=true:=dEt (by omega);simp only[go_sem,zE,D.len,i3.len,k1,show decide (((0:Nat):Int)=0)=true from rfl];intros;refine LoopC.ctr ad.length (λk fr st' ds=>(∀(i:Nat) (m:Sq) (t:Tr),i<k->ad[i]?=some m->sub[i]?=some t->yXf t.sq (s.plus m)=true)/\fr 3=.box [.raw (.int .u8 rule),.sl tl xl,.sl tr xr,.raw (.int .u8 op),.raw (.string fn),.sl ta xa,.sl tb xb,.raw (.bool v),.raw (.string un),.sl tu xu,.raw (.string n),.sl ts xs] /\
  fr 5=.iv (.sl ao za)/\fr 7=.iv (.raw (.int .i64 k))/\st'=st/\ds=[]) ?_ ?_ ?_
 ·simp only[go_sem,zE];exact⟨λi m t h=>by omega,rfl⟩
 ·rintro k fr av _ U ⟨hk,f3,f5,f7,rfl,rfl⟩;obtain⟨q,hq⟩:=yQ3 U;have aE:=lMg hq;obtain⟨aq,ah,aL⟩:=D.get hq;obtain⟨b,hb⟩:=yQ3 (show k<sub.length by omega);have ai:=lMg hb;obtain⟨zb,aF,aB⟩:=i3.get hb;have A:=vYc (xWh hn.2.2.2 ai);have aK:=O b ai;obtain⟨br,J,bm,bu,bn,aX⟩:=b;obtain⟨bw,bb,bt,a8,bF,bL,bA,bf,bx,bd,v5,bj,bl,aZ,bp,a6,rfl,_,aS,aA,aQ,az,_⟩:=aB.mk;obtain⟨bC,bh,bB,bg,rfl,aP,ay,aO,ax⟩:=aL;simp only[Tr.sq] at A aK;obtain⟨⟨aI,aH⟩,bK,bJ⟩:=F q aE;have aN:=λst=>wWj gl G J.l s.l q.l _ _ _ _ _ _ aS aA e1 i1 aP ay A.1 hn.1.1 aI ⟨by omega,by omega,by omega⟩ st;have aM:=λst=>wWj gl G J.r s.r q.r _ _ _ _ _ _ aQ az e2 i2 aO ax A.2 hn.1.2 aH ⟨by omega,by omega,by omega⟩ st;have W:yXf J (s.plus q)=(allF J.l (s.l++q.l)&&allF J.r (s.r++q.r)):=rfl;have ac:yXf J (s.plus q)=false->yJ2 s ad sub=false:=λh=>by
   cases hp:yJ2 s ad sub
   ·rfl
   ·have:=xXi s ad sub hp k q _ hq hb;simp only[Tr.sq] at this;rw[h] at this;cases this
  have aa:yXf J (s.plus q)=true->∀(i:Nat) (m:Sq) (t:Tr),i<k+1->ad[i]?=some m->sub[i]?=some t->yXf t.sq (s.plus m)=true:=λh i m t hi h1 h2=>by
   rcases Nat.lt_or_ge i k with af|bI
   ·exact hk i m t af h1 h2
   ·obtain rfl:i=k:=by omega
    rw[hq] at h1;rw[hb] at h2;cases h1;cases h2;exact h
  simp only[go_sem,zE,zB,zA,zL,f3,f5,f7,D.len,lt_i U,yQ2 e3,yQ2 ab,iNn,aF,ah,fits];intros;refine (aN _).mono ?_;rintro _ au ⟨rfl,rfl⟩;cases ak:allF J.l (s.l++q.l)
  ·rw[ak] at W;rw[ac (by rw[W];rfl)];simp only[go_sem,zE,reduceCtorEq];exact yQ0 ⟨rfl,rfl⟩
  ·simp only[go_sem,zE,zA,f3,f5,f7,yQ2 ab,iNn,ah,fits];intros;refine (aM _).mono ?_;rintro _ au ⟨rfl,rfl⟩;cases aj:allF J.r (s.r++q.r)
   ·rw[aj,Bool.and_false] at W;rw[ac W];simp only[go_sem,zE,reduceCtorEq];exact yQ0 ⟨rfl,rfl⟩
   ·rw[ak,aj] at W;simp only[go_sem,zE,f3,f5,f7,yQb U (show ad.length<=281474976710656 by omega)];exact aa W
 ·rintro fr av _ ⟨hk,f3,f5,f7,rfl,rfl⟩;have hp:yJ2 s ad sub=true:=xY9 λi m t h1 h2=>hk i m t (lGs h1).1 h1 h2;simp only[go_sem,zE,f5,f7,D.len,yQj (nLi _)];intros;exact yQ0 ⟨by rw[hp];rfl,rfl⟩
mutual
theorem zG8:∀ {t:Tr},okT t=true->yWw t=true
 | .mk rule s m u n sub,h=>by
  simp only[okT,bAt] at h;have:=(yXp h.1).2.2.1;have:=yWl u;simp only[yWw,bAt,dTe];exact⟨by omega,zV7 h.2⟩
theorem zV7:∀ {l:List Tr},okTs l=true->yUc l=true
 | [],_=>rfl
 | a::l,h=>by
  simp only[okTs,bAt] at h;simp only[yUc,bAt];exact⟨zG8 h.1,zV7 h.2⟩
end
theorem wWu {t:Tr}(h:okT t=true):∀a∈Tr.subsT t,a.sq.l.length<=1099511627776/\a.sq.r.length<=1099511627776:=λa F=>by
 obtain⟨rule,s,m,u,n,sub⟩:=t;simp only[okT,bAt] at h;have D:=yUi h.2 F;obtain⟨W,A,bm,U,bn,E⟩:=a;simp only[okT,bAt] at D;have h1:=(yXp D.1).1;have h2:=yXg A.l;have O:=yXg A.r;have J:=yQs A.l;have G:=yQs A.r;simp only[Tr.sq];omega
def stC (t:Tr):Prop:=∀(x:IV) (_:IsTr t x) (_:t.steps<=1099511627776) (st:ISt),ICall prog gl 33 [x] st (λr st'=>r=.raw (.int .i64 t.steps)/\st'=st)
theorem xV2 (rule:Nat)(s:Sq)(f:Fm)(u:Tm)(n:ByteArray)(sub:List Tr)(IH:∀a∈sub,stC gl a):stC gl (.mk rule s f u n sub):=by
 intro x hx O st;obtain⟨tl,xl,tr,xr,op,fn,ta,xa,tb,xb,v,un,tu,xu,ts,xs,rfl,aI,e1,i1,e2,i2,hy,hz,e3,i3⟩:=hx.mk;simp only[Tr.steps] at O ⊢;have U:=yX6 sub;refine iI func33 ?_;simp only[go_sem];refine LoopC.ctr sub.length (λk fr st' ds=>fr 1=.box [.raw (.int .u8 rule),.sl tl xl,.sl tr xr,.raw (.int .u8 op),.raw (.string fn),.sl ta xa,.sl tb xb,.raw (.bool v),.raw (.string un),.sl tu xu,.raw (.string n),.sl ts xs]/\fr 3=.iv (.raw (.int .i64 ((1+yQp (sub.take k):Nat):Int)))/\fr 4=.iv (.raw (.int .i64 k))/\st'=st/\ds=[]) ?_ ?_ ?_
 ·simp only[go_sem,zE];simp[yQp]
 ·rintro k fr G _ A ⟨f1,f3,f4,rfl,rfl⟩;obtain⟨a,ha⟩:=yQ3 A;have F:=lMg ha;obtain⟨z,W,E⟩:=i3.get ha;have h1:=xKi ha;have h2:=wZn sub (k+1);have D:=λst=>IH a F z E (by have:=yZp F;omega) st;have w7:IntKind.i64.wrap (((1+yQp (sub.take k):Nat):Int)+((a.steps:Nat):Int))=((1+yQp (sub.take (k+1)):Nat):Int):=by rw[w64]<;>omega
  obtain⟨J,aA,ai,az,ag,aG,aJ,aD,am,aB,ak,v',aq,av,ab,n',ax,ae,rfl⟩:=yW5 E;simp only[go_sem,zE,zB,zA,f1,f3,f4,i3.len,lt_i A,yQ2 e3,iNn,W,fits];intro _;refine (D _).mono ?_;rintro _ aF ⟨rfl,rfl⟩;simp only[go_sem,zE,f1,f4,w7,yQb A (show sub.length<=281474976710656 by omega)]
 ·rintro fr G _ ⟨f1,f3,f4,rfl,rfl⟩;rw[lTl] at f3;simp only[go_sem,zE,f1,f3,f4,i3.len,yQj (nLi _)];intro _;exact yQ0 ⟨rfl,rfl⟩
theorem zYz:∀(k:Nat)(t:Tr),SizeOf.sizeOf t<k->stC gl t
 | 0,t,h=>by omega
 | k+1,.mk r sq f u n sub,h=>xV2 gl r sq f u n sub (λa A=>zYz k a (by
   have:=lSm A;simp at h;omega))
theorem xY3 (t:Tr):stC gl t:=zYz gl _ t (Nat.lt_succ_self _)
def heC (t:Tr):Prop:=∀(x:IV) (_:IsTr t x) (_:t.steps<=1099511627776) (st:ISt),ICall prog gl 35 [x] st (λr st'=>r=.raw (.int .i64 t.height)/\st'=st)
theorem vVp {l:List Tr}{k:Nat}{a:Tr}(h:l[k]?=some a):yQz (l.take (k+1))=max (yQz (l.take k)) a.height:=by
 rw[yQ4 h,yG7];simp[yQz]
theorem xXb (rule:Nat)(s:Sq)(f:Fm)(u:Tm)(n:ByteArray)(sub:List Tr)(IH:∀a∈sub,heC gl a):heC gl (.mk rule s f u n sub):=by
 intro x hx O st;have aa:=xJc (.mk rule s f u n sub);obtain⟨tl,xl,tr,xr,op,fn,ta,xa,tb,xb,v,un,tu,xu,ts,xs,rfl,aK,e1,i1,e2,i2,hy,hz,e3,i3⟩:=hx.mk;simp only[Tr.steps,Tr.height] at O aa ⊢;have U:=yX6 sub;refine iI func35 ?_;simp only[go_sem];refine LoopC.ctr sub.length (λk fr st' ds=>fr 1=.box [.raw (.int .u8 rule),.sl tl xl,.sl tr xr,.raw (.int .u8 op),.raw (.string fn),.sl ta xa,.sl tb xb,.raw (.bool v),.raw (.string un),.sl tu xu,.raw (.string n),.sl ts xs]/\fr 3=.iv (.raw (.int .i64 ((yQz (sub.take k):Nat):Int)))/\fr 4=.iv (.raw (.int .i64 k))/\st'=st/\ds=[]) ?_ ?_ ?_
 ·simp only[go_sem,zE];simp[yQz]
 ·rintro k fr G _ A ⟨f1,f3,f4,rfl,rfl⟩;obtain⟨a,ha⟩:=yQ3 A;have F:=lMg ha;obtain⟨z,W,E⟩:=i3.get ha;have h1:=vVp ha;have D:=λst=>IH a F z E (by have:=yZp F;omega) st;obtain⟨J,aC,ak,aB,ai,aI,aL,aF,ao,aD,am,v',av,ax,ae,n',az,ag,rfl⟩:=yW5 E;simp only[go_sem,zE,zB,zA,f1,f4,i3.len,lt_i A,yQ2 e3,iNn,W,fits];intro _;refine (D _).mono ?_;rintro _ aH ⟨rfl,rfl⟩;by_cases hg:yQz (sub.take k)<a.height
  ·simp only[go_sem,zE,f1,f3,f4,lt_i hg,yQb A (show sub.length<=281474976710656 by omega)];rw[h1,Nat.max_eq_right (by omega)]
  ·simp only[go_sem,zE,f1,f3,f4,yQj hg,yQb A (show sub.length<=281474976710656 by omega)];rw[h1,Nat.max_eq_left (by omega)]
 ·rintro fr G _ ⟨f1,f3,f4,rfl,rfl⟩;rw[lTl] at f3;have wH:IntKind.i64.wrap (((yQz sub:Nat):Int)+1)=((1+yQz sub:Nat):Int):=by rw[w64]<;>omega
  simp only[go_sem,zE,f1,f3,f4,i3.len,yQj (nLi _),wH];intro _;exact yQ0 ⟨rfl,rfl⟩
theorem zV3:∀(k:Nat)(t:Tr),SizeOf.sizeOf t<k->heC gl t
 | 0,t,h=>by omega
 | k+1,.mk r sq f u n sub,h=>xXb gl r sq f u n sub (λa A=>zV3 k a (by
   have:=lSm A;simp at h;omega))
theorem wXj (t:Tr):heC gl t:=zV3 gl _ t (Nat.lt_succ_self _)
def cuC (t:Tr):Prop:=∀(x:IV) (_:IsTr t x) (_:t.steps<=1099511627776) (st:ISt),ICall prog gl 37 [x] st (λr st'=>r=.raw (.int .i64 t.cuts)/\st'=st)
theorem wUr {l:List Tr}{k:Nat}{a:Tr}(h:l[k]?=some a):yZn (l.take (k+1))=yZn (l.take k)+a.cuts:=by
 rw[yQ4 h,yY7];simp[yZn]
theorem cuLe (l:List Tr)(k:Nat):yZn (l.take k)<=yZn l:=by
 conv=>rhs;rw[<- List.take_append_drop k l]
 rw[yY7];omega
theorem xUw (rule:Nat)(s:Sq)(f:Fm)(u:Tm)(n:ByteArray)(sub:List Tr)(IH:∀a∈sub,cuC gl a):cuC gl (.mk rule s f u n sub):=by
 intro x hx av st;have W:=wKr (.mk rule s f u n sub);obtain⟨tl,xl,tr,xr,op,fn,ta,xa,tb,xb,v,un,tu,xu,ts,xs,rfl,aP,e1,i1,e2,i2,hy,hz,e3,i3⟩:=hx.mk;simp only[Tr.steps,Tr.cuts] at av W ⊢;have aw:=yX6 sub;refine iI func37 ?_;by_cases G:rule=17
 ·have d17:decide (((rule:Nat):Int)=17)=true:=dEt (by omega);have hc:(if rule=17 then 1 else 0)=1:=if_pos G;rw[hc] at W;simp only[go_sem,zE,d17];refine LoopC.ctr sub.length (λk fr st' ds=>fr 1=.box [.raw (.int .u8 rule),.sl tl xl,.sl tr xr,.raw (.int .u8 op),.raw (.string fn),.sl ta xa,.sl tb xb,.raw (.bool v),.raw (.string un),.sl tu xu,.raw (.string n),.sl ts xs]/\fr 3=.iv (.raw (.int .i64 ((1+yZn (sub.take k):Nat):Int)))/\fr 4=.iv (.raw (.int .i64 k))/\st'=st/\ds=[]) ?_ ?_ ?_
  ·simp only[go_sem,zE];simp[yZn]
  ·rintro k fr J _ A ⟨f1,f3,f4,rfl,rfl⟩;obtain⟨a,ha⟩:=yQ3 A;have F:=lMg ha;obtain⟨z,U,E⟩:=i3.get ha;have h1:=wUr ha;have h2:=cuLe sub (k+1);have D:=λst=>IH a F z E (by have:=yZp F;omega) st;have w7:IntKind.i64.wrap (((1+yZn (sub.take k):Nat):Int)+((a.cuts:Nat):Int))=((1+yZn (sub.take (k+1)):Nat):Int):=by rw[w64]<;>omega
   have w8:IntKind.i64.wrap (((yZn (sub.take k):Nat):Int)+((a.cuts:Nat):Int))=((yZn (sub.take (k+1)):Nat):Int):=by rw[w64]<;>omega
   obtain⟨O,am,af,al,ae,au,ax,ao,ah,an,ag,v',ai,aj,ab,n',ak,ac,rfl⟩:=yW5 E;simp only[go_sem,zE,zB,zA,f1,f3,f4,i3.len,lt_i A,yQ2 e3,iNn,U,fits];intro _;refine (D _).mono ?_;rintro _ aq ⟨rfl,rfl⟩;simp only[go_sem,zE,f1,f4,w7,yQb A (show sub.length<=281474976710656 by omega)]
  ·rintro fr J _ ⟨f1,f3,f4,rfl,rfl⟩;rw[lTl] at f3;simp only[go_sem,zE,f1,f3,f4,i3.len,yQj (nLi _)];intro _;exact yQ0 ⟨by simp[G],rfl⟩
 ·have d17:decide (((rule:Nat):Int)=17)=false:=dEf (by omega);have hc:(if rule=17 then 1 else 0)=0:=if_neg G;rw[hc] at W;simp only[go_sem,zE,d17];refine LoopC.ctr sub.length (λk fr st' ds=>fr 1=.box [.raw (.int .u8 rule),.sl tl xl,.sl tr xr,.raw (.int .u8 op),.raw (.string fn),.sl ta xa,.sl tb xb,.raw (.bool v),.raw (.string un),.sl tu xu,.raw (.string n),.sl ts xs]/\fr 3=.iv (.raw (.int .i64 ((0+yZn (sub.take k):Nat):Int)))/\fr 4=.iv (.raw (.int .i64 k))/\st'=st/\ds=[]) ?_ ?_ ?_
  ·simp only[go_sem,zE];simp[yZn]
  ·rintro k fr J _ A ⟨f1,f3,f4,rfl,rfl⟩;obtain⟨a,ha⟩:=yQ3 A;have F:=lMg ha;obtain⟨z,U,E⟩:=i3.get ha;have h1:=wUr ha;have h2:=cuLe sub (k+1);have D:=λst=>IH a F z E (by have:=yZp F;omega) st;have w7:IntKind.i64.wrap (((0+yZn (sub.take k):Nat):Int)+((a.cuts:Nat):Int))=((0+yZn (sub.take (k+1)):Nat):Int):=by rw[w64]<;>omega
   have w8:IntKind.i64.wrap (((yZn (sub.take k):Nat):Int)+((a.cuts:Nat):Int))=((yZn (sub.take (k+1)):Nat):Int):=by rw[w64]<;>omega
   obtain⟨O,am,af,al,ae,au,ax,ao,ah,an,ag,v',ai,aj,ab,n',ak,ac,rfl⟩:=yW5 E;simp only[go_sem,zE,zB,zA,f1,f3,f4,i3.len,lt_i A,yQ2 e3,iNn,U,fits];intro _;refine (D _).mono ?_;rintro _ aq ⟨rfl,rfl⟩;simp only[go_sem,zE,f1,f4,w8,yQb A (show sub.length<=281474976710656 by omega)]
  ·rintro fr J _ ⟨f1,f3,f4,rfl,rfl⟩;rw[lTl] at f3;simp only[go_sem,zE,f1,f3,f4,i3.len,yQj (nLi _)];intro _;exact yQ0 ⟨by simp[G],rfl⟩
theorem xXe:∀(k:Nat)(t:Tr),SizeOf.sizeOf t<k->cuC gl t
 | 0,t,h=>by omega
 | k+1,.mk r sq f u n sub,h=>xUw gl r sq f u n sub (λa A=>xXe k a (by
   have:=lSm A;simp at h;omega))
theorem vZ7 (t:Tr):cuC gl t:=xXe gl _ t (Nat.lt_succ_self _)
theorem zQa (p:List Nat):∀(i:Nat) (l m:List Tr),yZ2 p i (l++m)=yZ2 p i l++yZ2 p (i+l.length) m
 | i,[],m=>by simp[yZ2]
 | i,a::l,m=>by
  simp only[List.cons_append,yZ2,zQa p (i+1) l m,List.append_assoc,List.length_cons];rw[show i+1+l.length=i+(l.length+1) by omega]
theorem xU2 {p:List Nat}{l:List Tr}{k:Nat}{a:Tr}(h:l[k]?=some a):yZ2 p 0 (l.take (k+1))=yZ2 p 0 (l.take k)++a.walk (p++[k]):=by
 have A:=(lGs h).1;rw[yQ4 h,zQa];simp only[yZ2,List.append_nil,List.length_take,Nat.zero_add];rw[Nat.min_eq_left (by omega)]
theorem zU9 (p:List Nat)(l:List Tr)(k:Nat):∃m,yZ2 p 0 l=yZ2 p 0 (l.take k)++m:=by
 refine⟨yZ2 p (0+(l.take k).length) (l.drop k),?_⟩;rw[<- zQa,List.take_append_drop]
def fiC (ca:Nat)(t:Tr):Prop:=∀(x:IV) (_:IsTr t x) (_:okT t=true) (_:t.steps<=1000) (p:List Nat) (D:Tag) (_:okEs D 1) (_:p.length+t.steps<=3000) (st:ISt),
 ICall prog gl 81 [.raw (.int .u8 ca),x,.sl D (plI p)] st (λr st'=>(∃A,r=.tup [.sl A (plI (yZ0 (yZj ca) (t.walk p)).1),.raw (.int .i64 (yZ0 (yZj ca) (t.walk p)).2)]/\okEs A 1)/\st'=st)
set_option maxHeartbeats 1000000 in
theorem wKg (G:Gl gl)(ca:Nat)(rule:Nat)(s:Sq)(f:Fm)(u:Tm)(n:ByteArray)(sub:List Tr)(IH:∀a∈sub,fiC gl ca a):fiC gl ca (.mk rule s f u n sub):=by
 intro x hx E ax p tg aw az st;have aF:=λst=>wWi gl G ca _ x hx (xYn E) (zG8 E) (wWu E) (by omega) st;obtain⟨tl,xl,tr,xr,op,fn,ta,xa,tb,xb,v,un,tu,xu,ts,xs,rfl,bj,e1,i1,e2,i2,hy,hz,e3,i3⟩:=hx.mk;have ai:okTs sub=true:=by
  simp only[okT,bAt] at E;exact E.2
 have F:(Tr.mk rule s f u n sub).walk p=(p,.mk rule s f u n sub)::yZ2 p 0 sub:=by simp only[Tr.walk]
 rw[F];simp only[Tr.steps] at ax az;have aC:=yX6 sub;refine ICall.intro (c:=cf prog gl [] [(7,[0,1,2,3,4,5,6,7,9,10,8,11,12,13,14,15,16,17])]) func81 rfl (by show _<=46;simp) (by kernel_rfl) ?_;simp only[go_sem,zE,zA,zL,reduceCtorEq];refine (aF _).mono ?_;rintro _ st ⟨rfl,rfl⟩;by_cases h0:yZj ca (.mk rule s f u n sub)=0
 case neg =>
  have k0:decide (((yZj ca (.mk rule s f u n sub):Nat):Int)=0)=false:=dEf (by omega);have hq:yZ0 (yZj ca) ((p,.mk rule s f u n sub)::yZ2 p 0 sub)=(p,yZj ca (.mk rule s f u n sub)):=by simp only[yZ0,if_neg h0]
  rw[hq];simp only[go_sem,zE,k0];exact yQ0 ⟨⟨_,rfl,aw⟩,rfl⟩
 have k0:decide (((yZj ca (.mk rule s f u n sub):Nat):Int)=0)=true:=dEt (by omega);have hq:yZ0 (yZj ca) ((p,.mk rule s f u n sub)::yZ2 p 0 sub)=yZ0 (yZj ca) (yZ2 p 0 sub):=by simp only[yZ0,if_pos h0]
 rw[hq];simp only[go_sem,k0];refine LoopC.ctr sub.length (λk fr st' ds=>yZ0 (yZj ca) (yZ2 p 0 (sub.take k))=([],0)/\subSt st st'/\fr 0=.iv (.raw (.int .u8 ca))/\fr 2=.iv (.sl tg (plI p))/\fr 4=.box [.raw (.int .u8 rule),.sl tl xl,.sl tr xr,.raw (.int .u8 op),.raw (.string fn),.sl ta xa,.sl tb xb,.raw (.bool v),.raw (.string un),.sl tu xu,.raw (.string n),.sl ts xs]/\fr 9=.iv (.raw (.int .i64 k))/\ds=[]) ?_ ?_ ?_
 ·simp only[go_sem,zE,reduceCtorEq];exact⟨rfl,subSt.refl _,rfl⟩
 ·rintro k fr ac _ W ⟨hk,D,f0,f2,f4,f9,rfl⟩;obtain⟨a,ha⟩:=yQ3 W;have ab:=lMg ha;obtain⟨z,aD,ae⟩:=i3.get ha;have bi:=yZp ab;have am:=λtg ht st=>IH a ab z ae (yUi ai ab) (by omega) (p++[k]) tg ht (by simp only[lLa,List.length_cons,List.length_nil];omega) st;have al:=xU2 (p:=p) ha;obtain⟨mm,aB⟩:=zU9 p sub (k+1);have aA:plI (p++[k])=plI p++[.raw (.int .i64 k)]:=by simp[plI]
  have ak:(plI p).all (fits false 1)=true:=by
   rw[List.all_eq_true];intro y hy;obtain⟨i,_,rfl⟩:=List.mem_map.1 hy;rfl
  obtain⟨au,a8,aP,a7,aN,bg,bk,be,aU,bc,aS,v',aW,aY,aJ,n',a1,aL,rfl⟩:=yW5 ae;rw[aA] at am;simp only[go_sem,zE,zB,zA,zM,zL,reduceCtorEq,f0,f2,f4,f9,i3.len,lt_i W,yQ2 e3,iNn,aD,fits,yQ1,show yJx 0 []=true from rfl];intros;refine yJ5 (n:=0) (own.full ac st 0 1) rfl (yV2 p) D rfl ak (by simp only;omega) (by omega) λbb st4 U J _=>?_;simp only[go_sem,zE,zA];refine yZy U (by simp[yV2]) J rfl (by simp[fits,IV.one]) (by simp only;omega) (by omega) λan aq O A _ _=>?_;have aa:=am an O.es aq;simp only[go_sem,zE,zA];refine aa.mono ?_;rintro _ _ ⟨⟨ba,rfl,ag⟩,rfl⟩;by_cases af:(yZ0 (yZj ca) (a.walk (p++[k]))).2=0
  ·have k2:decide ((((yZ0 (yZj ca) (a.walk (p++[k]))).2:Nat):Int)=0)=true:=dEt (by omega);simp only[go_sem,zE,reduceCtorEq,f0,f2,f4,f9,k2,yQb W (show sub.length<=281474976710656 by omega)];refine⟨?_,A⟩;rw[al,yJ3,hk];simp only[if_true];exact zZp _ _ af
  ·have k2:decide ((((yZ0 (yZj ca) (a.walk (p++[k]))).2:Nat):Int)=0)=false:=dEf (by omega);have ah:yZ0 (yZj ca) (yZ2 p 0 sub)=yZ0 (yZj ca) (a.walk (p++[k])):=by
    rw[aB,yJ3,al,yJ3,hk];simp only[if_true,if_neg af]
   simp only[go_sem,zE,k2];exact yQc (st':=st) A ⟨⟨_,by rw[ah],ag⟩,rfl⟩
 ·rintro fr ac _ ⟨hk,D,f0,f2,f4,f9,rfl⟩;rw[lTl] at hk;rw[hk];simp only[go_sem,zE,f4,f9,i3.len,yQj (nLi _)];intros;exact yQc (st':=st) D ⟨⟨_,rfl,.inl rfl⟩,rfl⟩
theorem xGk (G:Gl gl)(ca:Nat):∀(k:Nat) (t:Tr),SizeOf.sizeOf t<k->fiC gl ca t
 | 0,t,h=>by omega
 | k+1,.mk r sq f u n sub,h=>wKg gl G ca r sq f u n sub (λa A=>xGk G ca k a (by
   have:=lSm A;simp at h;omega))
theorem wWk (G:Gl gl)(ca:Nat)(t:Tr)(x:IV)(W:IsTr t x)(ac:okT t=true)(ab:t.steps<=1000)(st:ISt) :
  ICall prog gl 30 [.raw (.int .u8 ca),x] st (λr st'=>(∃E,r=.tup [.sl E (plI (yXx ca t).1),.raw (.int .i64 (yXx ca t).2)]/\okEs E 1)/\st'=st):=by
 have hF:=λst=>xGk gl G ca _ t (Nat.lt_succ_self _) x W ac ab [] ⟨true,.nil,0⟩ (.inl rfl) (by simp only[List.length_nil];omega) st;have hS:=λst=>xY3 gl t x W (by omega) st;obtain⟨F,aw,al,av,ak,az,aC,ay,an,ax,am,v',ao,aq,ai,n',au,aj,rfl⟩:=yW5 W;have U:decide (((ca:Nat):Int)<1)=decide (ca<1):=by rw[decide_eq_decide];omega
 have k2:decide ((3:Int)<((ca:Nat):Int))=decide (3<ca):=by rw[decide_eq_decide];omega
 refine iI func30 ?_;cases D:yX7 ca
 ·rw[zJw ca t D];by_cases A:ca<1
  ·have A:=dEt A;simp only[go_sem,zE,reduceCtorEq,U,A];intros;exact yQ0 ⟨⟨_,rfl,.inl rfl⟩,rfl⟩
  ·have J:decide (3<ca)=true:=dEt (by simp only[yX7,Bool.and_eq_false_iff,decide_eq_false_iff_not] at D;omega);have A:=dEf A;simp only[go_sem,zE,reduceCtorEq,U,k2,A,J];intros;exact yQ0 ⟨⟨_,rfl,.inl rfl⟩,rfl⟩
 have ae:=D;simp only[yX7,bAt,dTe] at ae;have A:decide (ca<1)=false:=dEf (by omega);have J:decide (3<ca)=false:=dEf (by omega);simp only[go_sem,zE,zA,zL,reduceCtorEq,U,k2,A,J];intros;refine (hS _).mono ?_;rintro _ st ⟨rfl,rfl⟩;by_cases h3:300<t.steps
 ·have O:decide ((300:Int)<((t.steps:Nat):Int))=true:=dEt (by omega);have hC:yXx ca t=([],5):=by unfold yXx;rw[D,if_pos h3];rfl
  rw[hC];simp only[go_sem,zE,O];exact yQ0 ⟨⟨_,rfl,.inl rfl⟩,rfl⟩
 ·have O:decide ((300:Int)<((t.steps:Nat):Int))=false:=dEf (by omega);have hC:yXx ca t=yZ0 (yZj ca) (t.walk []):=by unfold yXx;rw[D,if_neg h3];rfl
  rw[hC];simp only[go_sem,zE,zA,zL,reduceCtorEq,O];refine (hF _).mono ?_;rintro _ st ⟨⟨E,rfl,aa⟩,rfl⟩;simp only[go_sem,zE];exact yQ0 ⟨⟨_,rfl,aa⟩,rfl⟩
theorem xG1 {a:Tr}{x:IV}(h:IsTr a x):IsTrs [a] [x]:=by simp only[IsTrs];exact⟨x,[],rfl,h,rfl⟩
def wK1 (t:Tr):Prop:=∀(x:IV) (_:IsTr t x) (_:okT t=true) (_:t.steps<=1000) (st:ISt),ICall prog gl 28 [x] st (λr st'=>IsTr t r/\st'=st)
theorem wQh (rule:Nat)(s:Sq)(f:Fm)(u:Tm)(n:ByteArray)(sub:List Tr)(IH:∀a∈sub,wK1 gl a):wK1 gl (.mk rule s f u n sub):=by
 intro x hx A aH st;obtain⟨tl,xl,tr,xr,op,fn,ta,xa,tb,xb,v,un,tu,xu,ts,xs,rfl,aI,e1,i1,e2,i2,hy,hz,e3,i3⟩:=hx.mk;simp only[Tr.steps] at aH;have aK:=yX6 sub;have ag:okTs sub=true:=by
  simp only[okT,bAt] at A;exact A.2
 have aJ:wFms s.l+wFms s.r<=300/\wFm f<=300/\wTm u<=300:=by
  simp only[okT,bAt] at A;exact⟨(yXp A.1).1,(yXp A.1).2.1,(yXp A.1).2.2.1⟩
 have h1:=λst=>zGj gl s (.agg [.sl tl xl,.sl tr xr]) ⟨tl,xl,tr,xr,rfl,e1,i1,e2,i2⟩ (by have:=yXg s.l;omega) (by have:=yXg s.r;omega) st;have h2:=λst=>yYz gl f _ hy (by have:=yUf f;omega) st;have h3:=λst=>zVh gl u _ hz (by have:=yWl u;omega) st;refine ICall.intro (c:=cf prog gl [] [(1,[0,1,2,3,5,6,8,9,11,12,14,4,7,10,13,15])]) func28 rfl (by show _<=38;simp) (by kernel_rfl) ?_;simp only[go_sem,zE,zA,zL];refine (h1 _).mono ?_;rintro _ st ⟨⟨c1,y1,c2,y2,rfl,g1,_,k1,g2,_,k2⟩,rfl⟩;simp only[go_sem,zE,zA];refine (h2 _).mono ?_;rintro r2 st ⟨af,rfl⟩;obtain⟨o2,n2,aD,aq,aB,an,rfl⟩:=IsFmD.aggs af;simp only[go_sem,zE,zA];refine (h3 _).mono ?_;rintro r3 st ⟨ae,rfl⟩;obtain⟨v3,n3,t3,x3,rfl⟩:=ae.agg;simp only[go_sem,zE,zA,zL,fits];refine LoopC.ctr sub.length (λk fr st' ds=>(∃F ys,fr 3=.box [.raw (.int .u8 rule),.sl c1 y1,.sl c2 y2,.raw (.int .u8 o2),.raw (.string n2),.sl aD aq,.sl aB an,.raw (.bool v3),.raw (.string n3),.sl t3 x3,.raw (.string n),.sl F ys]/\IsTrs (sub.take k) ys/\own st' F k 12 st/\subSt st st') /\
  fr 1=.box [.raw (.int .u8 rule),.sl tl xl,.sl tr xr,.raw (.int .u8 op),.raw (.string fn),.sl ta xa,.sl tb xb,.raw (.bool v),.raw (.string un),.sl tu xu,.raw (.string n),.sl ts xs] /\
  fr 2=.box [.raw (.int .u8 0),.sl ⟨true,.nil,0⟩ [],.sl ⟨true,.nil,0⟩ [],.raw (.int .u8 0),.raw (.string ⟨#[]⟩),.sl ⟨true,.nil,0⟩ [],.sl ⟨true,.nil,0⟩ [],.raw (.bool false),.raw (.string ⟨#[]⟩),.sl ⟨true,.nil,0⟩ [],.raw (.string ⟨#[]⟩),.sl ⟨true,.nil,0⟩ []]/\fr 4=.iv (.raw (.int .i64 k))/\ds=[]) ?_ ?_ ?_
 ·simp only[go_sem,zE];exact⟨⟨_,_,rfl,rfl,own.nil _ _ _ _ _,subSt.refl _⟩,rfl⟩
 ·rintro k fr aF _ U ⟨⟨F,ys,f3,hys,E,D⟩,f1,f2,f4,rfl⟩;obtain⟨a,ha⟩:=yQ3 U;have ab:=lMg ha;obtain⟨z,aL,ac⟩:=i3.get ha;have W:ys.length=k:=by rw[hys.len,List.length_take];omega
  have aa:=λst=>IH a ab z ac (yUi ag ab) (by have:=yZp ab;omega) st;obtain⟨G,az,al,ay,aj,aG,aN,aE,au,aC,ao,v',av,aw,ah,n',ax,ai,rfl⟩:=yW5 ac;simp only[go_sem,zE,zB,zA,f1,f3,f4,i3.len,lt_i U,yQ2 e3,iNn,aL,fits];intro _;refine (aa _).mono ?_;rintro r _ ⟨hr,rfl⟩;have hn:IsTrs (sub.take (k+1)) (ys++[r]):=by
   rw[yQ4 ha];exact hys.append (xG1 hr)
  obtain⟨G,az,al,ay,aj,aG,aN,aE,au,aC,ao,v',av,aw,ah,n',ax,ai,rfl⟩:=yW5 hr;simp only[go_sem,zE,zA,zM,zL,fits,yQ1];refine yZy E W D rfl (by simp[fits,IV.one]) (by simp only;omega) (by omega) λaA st4 O J _ aP=>?_;simp only[go_sem,zE,zA,zL,f1,f2,f3,f4,yQb U (show sub.length<=281474976710656 by omega)];exact⟨aA,_,rfl,hn,O,J⟩
 ·rintro fr aF _ ⟨⟨F,ys,f3,hys,E,D⟩,f1,f2,f4,rfl⟩;rw[lTl] at hys;simp only[go_sem,zE,zA,zL,f1,f2,f3,f4,i3.len,yQj (nLi _)];intro _;refine yQc (st':=st) D ⟨?_,rfl⟩;simp only[IsTr];exact⟨_,_,_,_,_,_,_,_,_,_,_,_,_,_,_,_,rfl,aI,g1,k1.1,g2,k2.1,af.1,ae.1,E.es,hys⟩
theorem zVu:∀(k:Nat)(t:Tr),SizeOf.sizeOf t<k->wK1 gl t
 | 0,t,h=>by omega
 | k+1,.mk r sq f u n sub,h=>wQh gl r sq f u n sub (λa A=>zVu k a (by
   have:=lSm A;simp at h;omega))
def wZi (t:Tr):Prop:=∀(x:IV) (_:IsTr t x) (_:okT t=true) (_:t.steps<=1000) (st:ISt),ICall prog gl 29 [x] st (λr st'=>IsTr t r/\st'=st)
theorem xU9 (rule:Nat)(s:Sq)(f:Fm)(u:Tm)(n:ByteArray)(sub:List Tr)(IH:∀a∈sub,wZi gl a):wZi gl (.mk rule s f u n sub):=by
 intro x hx A aH st;obtain⟨tl,xl,tr,xr,op,fn,ta,xa,tb,xb,v,un,tu,xu,ts,xs,rfl,aI,e1,i1,e2,i2,hy,hz,e3,i3⟩:=hx.mk;simp only[Tr.steps] at aH;have aK:=yX6 sub;have ag:okTs sub=true:=by
  simp only[okT,bAt] at A;exact A.2
 have aJ:wFms s.l+wFms s.r<=300/\wFm f<=300/\wTm u<=300:=by
  simp only[okT,bAt] at A;exact⟨(yXp A.1).1,(yXp A.1).2.1,(yXp A.1).2.2.1⟩
 have h1:=λst=>zGj gl s (.agg [.sl tl xl,.sl tr xr]) ⟨tl,xl,tr,xr,rfl,e1,i1,e2,i2⟩ (by have:=yXg s.l;omega) (by have:=yXg s.r;omega) st;have h2:=λst=>yYz gl f _ hy (by have:=yUf f;omega) st;have h3:=λst=>zVh gl u _ hz (by have:=yWl u;omega) st;refine ICall.intro (c:=cf prog gl [] [(1,[0,1,2,3,5,6,8,9,11,12,14,4,7,10,13,15])]) func29 rfl (by show _<=38;simp) (by kernel_rfl) ?_;simp only[go_sem,zE,zA,zL];refine (h1 _).mono ?_;rintro _ st ⟨⟨c1,y1,c2,y2,rfl,g1,_,k1,g2,_,k2⟩,rfl⟩;simp only[go_sem,zE,zA];refine (h2 _).mono ?_;rintro r2 st ⟨af,rfl⟩;obtain⟨o2,n2,aD,aq,aB,an,rfl⟩:=IsFmD.aggs af;simp only[go_sem,zE,zA];refine (h3 _).mono ?_;rintro r3 st ⟨ae,rfl⟩;obtain⟨v3,n3,t3,x3,rfl⟩:=ae.agg;simp only[go_sem,zE,zA,zL,fits];refine LoopC.ctr sub.length (λk fr st' ds=>(∃F ys,fr 3=.box [.raw (.int .u8 rule),.sl c1 y1,.sl c2 y2,.raw (.int .u8 o2),.raw (.string n2),.sl aD aq,.sl aB an,.raw (.bool v3),.raw (.string n3),.sl t3 x3,.raw (.string n),.sl F ys]/\IsTrs (sub.take k) ys/\own st' F k 12 st/\subSt st st') /\
  fr 1=.box [.raw (.int .u8 rule),.sl tl xl,.sl tr xr,.raw (.int .u8 op),.raw (.string fn),.sl ta xa,.sl tb xb,.raw (.bool v),.raw (.string un),.sl tu xu,.raw (.string n),.sl ts xs] /\
  fr 2=.box [.raw (.int .u8 0),.sl ⟨true,.nil,0⟩ [],.sl ⟨true,.nil,0⟩ [],.raw (.int .u8 0),.raw (.string ⟨#[]⟩),.sl ⟨true,.nil,0⟩ [],.sl ⟨true,.nil,0⟩ [],.raw (.bool false),.raw (.string ⟨#[]⟩),.sl ⟨true,.nil,0⟩ [],.raw (.string ⟨#[]⟩),.sl ⟨true,.nil,0⟩ []]/\fr 4=.iv (.raw (.int .i64 k))/\ds=[]) ?_ ?_ ?_
 ·simp only[go_sem,zE];exact⟨⟨_,_,rfl,rfl,own.nil _ _ _ _ _,subSt.refl _⟩,rfl⟩
 ·rintro k fr aF _ U ⟨⟨F,ys,f3,hys,E,D⟩,f1,f2,f4,rfl⟩;obtain⟨a,ha⟩:=yQ3 U;have ab:=lMg ha;obtain⟨z,aL,ac⟩:=i3.get ha;have W:ys.length=k:=by rw[hys.len,List.length_take];omega
  have aa:=λst=>IH a ab z ac (yUi ag ab) (by have:=yZp ab;omega) st;obtain⟨G,az,al,ay,aj,aG,aN,aE,au,aC,ao,v',av,aw,ah,n',ax,ai,rfl⟩:=yW5 ac;simp only[go_sem,zE,zB,zA,f1,f3,f4,i3.len,lt_i U,yQ2 e3,iNn,aL,fits];intro _;refine (aa _).mono ?_;rintro r _ ⟨hr,rfl⟩;have hn:IsTrs (sub.take (k+1)) (ys++[r]):=by
   rw[yQ4 ha];exact hys.append (xG1 hr)
  obtain⟨G,az,al,ay,aj,aG,aN,aE,au,aC,ao,v',av,aw,ah,n',ax,ai,rfl⟩:=yW5 hr;simp only[go_sem,zE,zA,zM,zL,fits,yQ1];refine yZy E W D rfl (by simp[fits,IV.one]) (by simp only;omega) (by omega) λaA st4 O J _ aP=>?_;simp only[go_sem,zE,zA,zL,f1,f2,f3,f4,yQb U (show sub.length<=281474976710656 by omega)];exact⟨aA,_,rfl,hn,O,J⟩
 ·rintro fr aF _ ⟨⟨F,ys,f3,hys,E,D⟩,f1,f2,f4,rfl⟩;rw[lTl] at hys;simp only[go_sem,zE,zA,zL,f1,f2,f3,f4,i3.len,yQj (nLi _)];intro _;refine yQc (st':=st) D ⟨?_,rfl⟩;simp only[IsTr];exact⟨_,_,_,_,_,_,_,_,_,_,_,_,_,_,_,_,rfl,aI,g1,k1.1,g2,k2.1,af.1,ae.1,E.es,hys⟩
theorem xZk:∀(k:Nat)(t:Tr),SizeOf.sizeOf t<k->wZi gl t
 | 0,t,h=>by omega
 | k+1,.mk r sq f u n sub,h=>xU9 gl r sq f u n sub (λa A=>xZk k a (by
   have:=lSm A;simp at h;omega))
def vQw (t:Tr):Prop:=∀(x y:IV) (_:IsTr t x) (_:IsTr t y) (_:t.steps<=1099511627776) (st:ISt),ICall prog gl 38 [x,y] st (λr st'=>r=.raw (.bool true)/\st'=st)
theorem wX1 (rule:Nat)(s:Sq)(f:Fm)(u:Tm)(n:ByteArray)(sub:List Tr)(IH:∀a∈sub,vQw gl a):vQw gl (.mk rule s f u n sub):=by
 intro x y hx hy aM st;obtain⟨tl,xl,tr,xr,op,fn,ta,xa,tb,xb,v,un,tu,xu,ts,xs,rfl,bn,e1,i1,e2,i2,aL,hz,e3,i3⟩:=hx.mk;obtain⟨U,J,O,G,aG,aU,aD,an,aB,al,v2,aq,av,af,ax,ah,rfl,a6,aY,aJ,aX,aI,ab,aK,aW,W⟩:=hy.mk;simp only[Tr.steps] at aM;have aQ:=yX6 sub;have h1:=λst=>yW2 gl s s (.agg [.sl tl xl,.sl tr xr]) (.agg [.sl U J,.sl O G]) ⟨_,_,_,_,rfl,e1,i1,e2,i2⟩ ⟨_,_,_,_,rfl,aY,aJ,aX,aI⟩ st;have h2:=λst=>yYy gl f f _ _ aL ab st;have h3:=λst=>zQn gl u u _ _ hz aK st;have aP:eqB s s=true:=yQm.2 rfl;have aO:eqB f f=true:=yQm.2 rfl;have aN:eqB u u=true:=yQm.2 rfl;refine iI func38 ?_;simp only[go_sem,zE,zA,zL,decide_true];refine (h1 _).mono ?_;rintro _ st ⟨rfl,rfl⟩;simp only[go_sem,zE,zA,zL,aP];refine (h2 _).mono ?_;rintro _ st ⟨rfl,rfl⟩;simp only[go_sem,zE,zA,zL,aO];refine (h3 _).mono ?_;rintro _ st ⟨rfl,rfl⟩;simp only[go_sem,zE,zA,aN,decide_true,i3.len,W.len];intros;refine LoopC.ctr sub.length (λk fr st' ds=>fr 2=.box [.raw (.int .u8 rule),.sl tl xl,.sl tr xr,.raw (.int .u8 op),.raw (.string fn),.sl ta xa,.sl tb xb,.raw (.bool v),.raw (.string un),.sl tu xu,.raw (.string n),.sl ts xs] /\
  fr 3=.box [.raw (.int .u8 rule),.sl U J,.sl O G,.raw (.int .u8 aG),.raw (.string aU),.sl aD an,.sl aB al,.raw (.bool v2),.raw (.string aq),.sl av af,.raw (.string n),.sl ax ah]/\fr 5=.iv (.raw (.int .i64 k))/\st'=st/\ds=[]) ?_ ?_ ?_
 ·simp only[go_sem,zE];rfl
 ·rintro k fr aF _ E ⟨f2,f3,f5,rfl,rfl⟩;obtain⟨a,ha⟩:=yQ3 E;have ae:=lMg ha;obtain⟨z,aS,aa⟩:=i3.get ha;obtain⟨z2,ac,A⟩:=W.get ha;have F:=λst=>IH a ae z z2 aa A (by have:=yZp ae;omega) st;obtain⟨D,aA,ak,az,aj,aH,aV,aE,ao,aC,am,v',au,aw,ag,n',ay,ai,rfl⟩:=yW5 aa;obtain⟨D,aA,ak,az,aj,aH,aV,aE,ao,aC,am,v',au,aw,ag,n',ay,ai,rfl⟩:=yW5 A;simp only[go_sem,zE,zB,zA,f2,f3,f5,i3.len,lt_i E,yQ2 e3,yQ2 aW,iNn,aS,ac,fits];intros;refine (F _).mono ?_;rintro _ bi ⟨rfl,rfl⟩;simp only[go_sem,zE,f2,f3,f5,yQb E (show sub.length<=281474976710656 by omega)]
 ·rintro fr aF _ ⟨f2,f3,f5,rfl,rfl⟩;simp only[go_sem,zE,f2,f5,i3.len,yQj (nLi _)];intros;exact yQ0 ⟨rfl,rfl⟩
theorem xWu:∀(k:Nat)(t:Tr),SizeOf.sizeOf t<k->vQw gl t
 | 0,t,h=>by omega
 | k+1,.mk r sq f u n sub,h=>wX1 gl r sq f u n sub (λa A=>xWu k a (by
   have:=lSm A;simp at h;omega))
set_option maxHeartbeats 1000000 in
theorem xQz (G:Gl gl)(T:Gt gl)(ca:Nat)(t:Tr)(x:IV)(W:IsTr t x)(A:okT t=true)(bd:t.steps<=1000)(st:ISt) :
  ICall prog gl 9 [.raw (.int .u8 ca),x] st (λr st'=>r=.raw (.bool true)/\st'=st):=by
 have hG:=λst=>zVu gl _ t (Nat.lt_succ_self _) x W A (by omega) st;have U:=W;obtain⟨O,aX,aB,aU,ay,bc,bj,a8,aH,a1,aE,v',aK,aN,ao,n',aQ,av,rfl⟩:=yW5 W;refine ICall.intro (c:=cf prog gl [] [(5,[0,1,2,3,4,5,6,7,8,9,11,10,12,13,14,15,16,18,17,19,20,21,22,23,25,24,26,27,28,29,30,31,32,33,34])]) func9 rfl (by show _<=61;simp) (by kernel_rfl) ?_;simp only[go_sem,zE,zA,zL];refine (hG _).mono ?_;rintro r st ⟨D,rfl⟩;have hT:=λst=>xZk gl _ t (Nat.lt_succ_self _) r D A (by omega) st;have ak:=λst=>wWk gl G ca t r D A (by omega) st;have ag:=λst=>xY3 gl t r D (by omega) st;have ai:=λst=>wXj gl t r D (by omega) st;have ac:=λst=>vZ7 gl t r D (by omega) st;obtain⟨J,aW,aA,aT,ax,bb,bi,a7,aG,aZ,aD,v2,aJ,aM,an,n2,aP,au,rfl⟩:=yW5 D;simp only[go_sem,zE,zA,zL];refine (hT _).mono ?_;rintro q st ⟨E,rfl⟩;have al:=λst=>zWy gl G T ca t q E (vYd (xYn A) (by omega)) st;have ah:=λst=>wVi gl t q E (by omega) st;have aj:=λst=>xGz gl t q E (by omega) st;have ae:=λst=>wUz gl t q E (by omega) st;have hM:=λst=>xWu gl _ t (Nat.lt_succ_self _) q _ E U (by omega) st;obtain⟨F,aV,az,aS,aw,ba,bh,a6,aF,aY,aC,v3,aI,aL,am,n3,aO,aq,rfl⟩:=yW5 E;simp only[go_sem,zE,zA,zL,reduceCtorEq];refine (al _).mono ?_;rintro _ st ⟨⟨g1,rfl,ab⟩,rfl⟩;simp only[go_sem,zE,zA,zL,reduceCtorEq];refine (ak _).mono ?_;rintro _ st ⟨⟨g2,rfl,aa⟩,rfl⟩;generalize yXx ca t=w;obtain⟨p,e⟩:=w;have af:=λst=>wZ0 gl g1 g2 p p ab aa st;simp only[go_sem,zE,zA];refine (af _).mono ?_;rintro _ st ⟨rfl,rfl⟩;have hp:eqB p p=true:=yQm.2 rfl;simp only[go_sem,zE,zA,zL,hp,decide_true];refine (ah _).mono ?_;rintro _ st ⟨rfl,rfl⟩;simp only[go_sem,zE,zA];refine (ag _).mono ?_;rintro _ st ⟨rfl,rfl⟩;simp only[go_sem,zE,zA,zL,decide_true];refine (aj _).mono ?_;rintro _ st ⟨rfl,rfl⟩;simp only[go_sem,zE,zA];refine (ai _).mono ?_;rintro _ st ⟨rfl,rfl⟩;simp only[go_sem,zE,zA,zL,decide_true];refine (ae _).mono ?_;rintro _ st ⟨rfl,rfl⟩;simp only[go_sem,zE,zA];refine (ac _).mono ?_;rintro _ st ⟨rfl,rfl⟩;simp only[go_sem,zE,zA,zL,decide_true];refine (hM _).mono ?_;rintro _ st ⟨rfl,rfl⟩;simp only[go_sem,zE];exact yQ0 ⟨rfl,rfl⟩
theorem wWo {N:ISt}(D:wXh N){l:List Sq}{y:IV}{t:Tag}{U:List IV}(A:rawY y)(ho:OI N y (.sl t U))(ax:okEs t 2)(az:appT l.length t)(W:IsSqsD l U):y.one=true/\∃d,OK (λb=>N b≠none) d 2 N y:=by
 have aj:=W.w.len;cases ho with
 | refl=>exact A.elim
 | nil _ h=>exact⟨rfl,0,.inr rfl⟩
 | sl g cap _ _ cs O ac al hs G E h =>
  have h3:=xQ3 ax O;rw[h3] at E;have ah:∀x∈U,x.cells.length=2:=yZs W;have ai:0<U.length:=by
   rcases az with hn|hp
   ·rw[O] at hn;cases hn
   ·rw[aj];exact hp.1
  have aF:=Nat.mul_le_mul_right 2 al;have part:∀i,i<U.length->∃(F J:IV) (v0 v1:Option Addr×Nat×Nat),cs[2*i]?=some F/\cs[2*i+1]?=some J/\F=.raw (.slice v0.1 v0.2.1 v0.2.2)/\J=.raw (.slice v1.1 v1.2.1 v1.2.2) /\
    (∃d,OK (λb=>N b≠none) d 4 N F)/\∃d,OK (λb=>N b≠none) d 4 N J:=λi hi=>by
   obtain⟨x,hx⟩:=yQ3 hi;obtain⟨s,ha,ay⟩:=W.mem hx;obtain⟨t1,x1,t2,x2,rfl,e1,a1,i1,e2,a2,i2⟩:=ay;obtain⟨F,ab⟩:=yQ3 (show 2*i<cs.length by omega);obtain⟨J,aa⟩:=yQ3 (show 2*i+1<cs.length by omega);have f0:=yVw ah hx (show 0<2 by omega);have f1:=yVw ah hx (show 1<2 by omega);have o0:=h _ _ _ ab f0;have o1:=h _ _ _ aa f1;obtain⟨w,rfl⟩:=yGp (D _ _ G F (lMg ab)) o0;obtain⟨w',rfl⟩:=yGp (D _ _ G J (lMg aa)) o1;have q0:=zZ8 D _ s.l (Nat.lt_succ_self _) _ _ _ ⟨w,rfl⟩ o0 e1 i1.1 (zYs a1 i1);have q1:=zZ8 D _ s.r (Nat.lt_succ_self _) _ _ _ ⟨w',rfl⟩ o1 e2 i2.1 (zYs a2 i2);have g0:∃q:Option Addr×Nat×Nat,w=.slice q.1 q.2.1 q.2.2:=by cases o0 with|nil=>exact⟨(_,_,_),rfl⟩|sl=>exact⟨(_,_,_),rfl⟩
   have g1:∃q:Option Addr×Nat×Nat,w'=.slice q.1 q.2.1 q.2.2:=by cases o1 with|nil=>exact⟨(_,_,_),rfl⟩|sl=>exact⟨(_,_,_),rfl⟩
   obtain⟨p0,rfl⟩:=g0;obtain⟨p1,rfl⟩:=g1;exact⟨_,_,p0,p1,ab,aa,rfl,rfl,q0,q1⟩
  have am:∀i,i<U.length->∃d,(∀y,cs[i*2+0]?=some y->OK (λb=>N b≠none) d 4 N y)/\∀y,cs[i*2+1]?=some y->OK (λb=>N b≠none) d 4 N y:=λi hi=>by
   obtain⟨F,J,v0,v1,k0,k1,_,_,⟨d,hd⟩,e,he⟩:=part i hi;refine⟨d+e,λy A=>?_,λy A=>?_⟩
   ·rw[Nat.mul_comm,Nat.add_zero,k0] at A;cases A;exact hd.le (by omega)
   ·rw[Nat.mul_comm,k1] at A;cases A;exact he.le (by omega)
  obtain⟨d,ak⟩:=zZx (P:=λd i=>(∀y,cs[i*2+0]?=some y->OK (λb=>N b≠none) d 4 N y)/\∀y,cs[i*2+1]?=some y->OK (λb=>N b≠none) d 4 N y) (λd i h=>⟨λy A=>(h.1 y A).up,λy A=>(h.2 y A).up⟩) _ am;obtain⟨F,_,v0,_,k0,_,q0,_⟩:=part 0 ai;refine⟨rfl,d+1,.inr ⟨g,U.length,cap,cs,F,rfl,(by show N g≠none;rw[G];exact λh=>by cases h),ac,al,G,E,k0,⟨v0,q0⟩,λi hi=>⟨λj hj=>?_,λj y s' A hn=>by
   obtain⟨rfl|rfl,rfl⟩:=nx2 hn
   ·exact (ak i hi).1 y A
   ·exact (ak i hi).2 y A⟩⟩⟩
  obtain⟨F,J,v0,v1,k0,k1,q0,q1,_⟩:=part i hi;rw[Nat.mul_comm]
  match j,hj with
  | 0,_=>exact⟨F,k0,by rw[q0];exact⟨rfl,λh=>by cases h⟩⟩
  | 1,_=>exact⟨J,k1,by rw[q1];exact⟨rfl,λh=>by cases h⟩⟩
mutual
theorem xXp:∀ {t:Tr},okT t=true->yWw t=true
 | .mk rule s f u n sub,h=>by
  simp only[okT,bAt] at h;have h1:=(yXp h.1).2.2.1;have h2:=yWl u;simp only[yWw,bAt,dTe];exact⟨by omega,zG7 h.2⟩
theorem zG7:∀ {l:List Tr},okTs l=true->yUc l=true
 | [],_=>rfl
 | a::l,h=>by
  simp only[okTs,bAt] at h;simp only[yUc,bAt];exact⟨xXp h.1,zG7 h.2⟩
end
theorem xWq:∀ {l:List Sq}{A:List IV},IsSqsD l A->dfrs A/\∀c∈A.flatMap IV.cells,c.one=true
 | [],A,h=>by
  simp only[IsSqsD] at h;subst h;exact⟨trivial,λc hc=>by simp at hc⟩
 | a::l,A,h=>by
  obtain⟨y,ys,rfl,h1,h2⟩:=h;have:=xWq h2;refine⟨⟨h1.dfr,this.1⟩,λc hc=>?_⟩;rw[List.flatMap_cons,List.mem_append] at hc;rcases hc with hc|hc
  ·exact h1.one.2 c hc
  ·exact this.2 c hc
theorem zUh:∀ {l:List Sq}{A:List IV},IsSqs l A->IsSqs l (ages A)
 | [],A,h=>by
  simp only[IsSqs] at h;subst h;rfl
 | a::l,A,h=>by
  obtain⟨y,ys,rfl,h1,h2⟩:=h;exact⟨_,_,rfl,h1.aged,zUh h2⟩
theorem LTt.three {T:ISt}{t:Tm}{c:List IV}(h:LTt T t c):∃v n a k l,c=[.raw (.bool v),.raw (.string n),.raw (.slice a k l)]:=by
 obtain⟨v,n,us⟩:=t;obtain⟨a,cs,h,_⟩:=h;exact⟨_,_,_,_,_,h⟩
theorem LFf.four {T:ISt}{t:Fm}{c:List IV}(h:LFf T t c):∃o n a k l b D A,c=[.raw (.int .u8 o),.raw (.string n),.raw (.slice a k l),.raw (.slice b D A)]:=by
 obtain⟨o,n,us,sub⟩:=t;obtain⟨a,cs,b,ds,_,h,_⟩:=h;exact⟨_,_,_,_,_,_,_,_,h⟩
variable {gl} in
theorem xYe {f:FuncId}{args args':List IV}{q:List Sq×Nat}{st:ISt}(hf:flatSt st)(aa:wV3 gl)(hl:Lents st args args')(h:ICall prog gl f (ages args') (yY2 st) (AdRD (yY2 st) q)) :
  ICall prog gl f args st (λr st'=>subSt st st'/\flatSt st'/\∃a k l N A D d,r=.tup [.raw (.slice a k l),.raw (.int .i64 q.2)]/\OI N (.raw (.slice a k l)) (.sl A D)/\okEs A 2/\IsSqs q.1 D/\OK (λb=>N b≠none) d 2 N (.raw (.slice a k l))/\subSt N st'/\∀b,N b≠none->st b=none):=by
 refine (ICall.lentOwn hf aa hl (K:=λr=>∃A D,r=.tup [.sl A D,.raw (.int .i64 q.2)]/\okEs A 2/\appT q.1.length A/\IsSqsD q.1 D) (h.mono λr st' ⟨A,D,h1,h2,h3,h4,h5⟩=>⟨h5,by
  rw[h1];refine⟨?_,trivial,trivial⟩;simp only[dfr];exact⟨h3.to h4.w.len,xWq h4⟩,A,D,h1,h2,h3,h4⟩)).mono ?_
 rintro _ ak ⟨J,ab,_,N,⟨A,D,rfl,he,ha,hx⟩,W,O,U,af,ae⟩;obtain⟨y,rfl,E,F⟩:=xYd W O;obtain⟨_,d,ac⟩:=wWo U F E he ha hx;have G:∃a k l,y=.raw (.slice a k l):=by cases E with|refl=>exact F.elim|nil=>exact⟨_,_,_,rfl⟩|sl=>exact⟨_,_,_,rfl⟩
 obtain⟨a,k,l,rfl⟩:=G;exact⟨J,ab,a,k,l,N,A,D,d,rfl,E,he,hx.w,ac,af,ae⟩
theorem zWj (G:Gl gl)(T:Gt gl)(au:wV3 gl)(ca:Nat)(t:Tr)(x:IV)(hx:IsTr t x)(J:okT t=true)(ci:t.steps<=60)(st:ISt)(A:flatSt st) :
  ICall prog gl 15 [.raw (.int .u8 ca),x] st (λr st'=>r=.raw (.bool true)/\st'=st):=by
 have hG:=λst=>zVu gl _ t (Nat.lt_succ_self _) x hx J (by omega) st;have bj:=xYn J;have aQ:=xXp J;obtain⟨rule,s,m,u,n,sub⟩:=t;have be:=λx hx st=>vZ8 gl G ca rule s m u n sub x hx bj aQ st;have ai:(wFms s.l+wFms s.r<=300/\wFm m<=300/\wTm u<=300)/\yKm s:=by
  simp only[okT,bAt] at J;have:=yXp J.1;exact⟨⟨this.1,this.2.1,this.2.2.1⟩,xQr this.1⟩
 obtain⟨⟨w1,w2,w3⟩,a1⟩:=ai;have s1:=yXg s.l;have s2:=yXg s.r;have s3:=yUf m;have s4:=yWl u;have ch:=hx;obtain⟨tl,xl,tr,xr,op,fn,ta,xa,tb,xb,v,un,tu,xu,ts,xs,rfl,cj,e1,i1,e2,i2,hy,hz,e3,i3⟩:=hx.mk;have bl:=λst A=>zWs gl s _ ⟨tl,xl,tr,xr,rfl,e1,i1,e2,i2⟩ (by omega) (by omega) st A;have bm:=λst A=>zU2 gl m _ hy (by omega) st A;have bk:=λst A=>wZ1 gl u _ hz (by omega) st A;refine ICall.intro (c:=cf prog gl [] [(2,[0,1,3,4,6,7,9,10,11,2,5,8,12,13,14])]) func15 rfl (by show _<=110;simp) (by kernel_rfl) ?_;simp only[go_sem,zE,zA,zL];refine (hG _).mono ?_;rintro r st ⟨hr,rfl⟩;have aU:=hr;obtain⟨bU,bM,bT,bL,b9,cn,bY,bO,bX,bN,v2,bQ,bR,bJ,bS,aE,rfl,_,cr,cg,cq,ce,aL,aK,co,cd⟩:=hr.mk;have bf:=λst=>be _ aU st;have bg:=λst=>zUv gl ca rule m _ aL (by omega) u _ aK (by omega) n st;simp only[go_sem,zE,zA,zL];refine (bl _ A).mono ?_;rintro xa b0 ⟨af,aT,a8⟩;obtain⟨za,aJ,aX⟩:=af.oi (by omega) (by omega);obtain⟨pa,ct,qa,da,rfl,_⟩:=id af;simp only[go_sem,zE,zA];refine (bm _ a8).mono ?_;rintro _ bZ ⟨cb,rfl,ae,ah,a7⟩;obtain⟨zb,am,aW⟩:=ae.agg (by omega);obtain⟨b1,b2,b3,b4,b5,b6,b7,b8,rfl⟩:=ae.four;simp only[go_sem,zE,zA];refine (bk _ a7).mono ?_;rintro _ D ⟨cc,rfl,ac,F,O⟩;obtain⟨zc,al,aV⟩:=ac.agg (by omega);obtain⟨c1,c2,c3,c4,c5,rfl⟩:=ac.three;have bt:=af.mono λc o hc=>F _ _ (ah _ _ (yJh hc).2);have bs:=ae.mono λc o hc=>F _ _ (yJh hc).2;have br:=ac.mono λc o hc=>(yJh hc).2;have aq:=aX.sub λc o hc=>F _ _ (ah _ _ (yJh hc).2);have aa:=aW.sub λc o hc=>F _ _ (yJh hc).2;have W:=aV.sub λc o hc=>(yJh hc).2;have bp:=zWv gl s _ _ ⟨tl,xl,tr,xr,rfl,e1,i1,e2,i2⟩ (by omega) (by omega) D O bt;have bo:=zU3 gl m _ hy (by omega) _ D O bs;have bn:=wZ2 gl u _ hz (by omega) _ D O br;have hA:=xYe (gl:=gl) O au (Lents.self (y:=.raw (.int .u8 ca)) (Lents.self (y:=.raw (.int .u8 rule)) (Lents.lent aa (Lents.lent W (Lents.self (y:=.raw (.string n)) (Lents.nil _))))))
  (vXu gl G T ca rule m (age (age zb)) am.aged.aged (by omega) u (age (age zc)) al.aged.aged (by omega) n (yY2 D))
 simp only[go_sem,zE,zA,zL,reduceCtorEq];refine hA.mono ?_;rintro _ st4 ⟨E,a6,p1,p2,p3,N1,bW,bK,d1,rfl,aZ,bd,aP,bi,aj,bq⟩;simp only[go_sem,zE,zA,zL,reduceCtorEq];refine (bg _).mono ?_;rintro _ st4 ⟨aG,aD,rfl,bb,aN,rfl⟩;have hB:=xYe (gl:=gl) a6 au (Lents.self (y:=.raw (.int .u8 ca)) (Lents.lent (aq.sub E) (Lents.self (y:=.raw (.int .u8 rule)) (Lents.lent (aa.sub E) (Lents.lent (W.sub E) (Lents.self (y:=.raw (.string n)) (Lents.nil _)))))))
  (vQ0 gl G T ca s (age (age za)) aJ.aged.aged a1 rule m (age (age zb)) am.aged.aged (by omega) u (age (age zc)) al.aged.aged (by omega) n (yY2 st4))
 simp only[go_sem,zE,zA,zL,reduceCtorEq];refine hB.mono ?_;rintro _ ab ⟨ag,av,p4,p5,p6,N2,bV,aE,d2,rfl,aY,bc,aO,bh,az,aA⟩;simp only[go_sem,zE,zA,zL,reduceCtorEq];refine (bf _).mono ?_;rintro _ ab ⟨aF,aC,rfl,ba,aM,rfl⟩;have ax:=yWb (gl:=gl) av (Lents.lent ((aZ.sub aj).sub ag) (Lents.self (y:=.sl aG aD) (Lents.nil _))) (λst=>by
  simp only[age];exact zU0 gl _ _ _ _ _ _ (by exact bd) bb (zUh aP) aN st)
 have aw:=yWb (gl:=gl) av (Lents.lent (aY.sub az) (Lents.self (y:=.sl aF aC) (Lents.nil _))) (λst=>by
  simp only[age];exact zU0 gl _ _ _ _ _ _ (by exact bc) ba (zUh aO) aM st)
 rw[yQm.2 rfl] at ax aw;simp only[go_sem,zE,zA,decide_true];refine ax.mono ?_;rintro _ ab ⟨rfl,rfl⟩;simp only[go_sem,zE,zA];refine aw.mono ?_;rintro _ ab ⟨rfl,rfl⟩;simp only[go_sem,zE,zA];refine (zU1 gl (bi.mono λc o hc=>ag _ _ (aj _ _ hc))).mono ?_;rintro _ aI U;have ay:subSt N2 aI:=λc o hc=>by
  rw[U c λhD=>?_]
  ·exact az _ _ hc
  ·cases hq:N1 c with
   | none=>exact hD hq
   | some o' =>
    have:=aj _ _ hq;rw[aA c (by rw[hc];exact λh=>by cases h)] at this;cases this
 simp only[go_sem,zE,zA];refine (zU1 gl (bh.mono ay)).mono ?_;rintro _ aH ao;have aS:subSt D aH:=λc o hc=>by
  have h4:=E _ _ hc;rw[ao c λhD=>by rw[aA c hD] at h4;cases h4];rw[U c λhD=>by rw[bq c hD] at hc;cases hc];exact ag _ _ (E _ _ hc)
 simp only[go_sem,zE,zA,zL];refine (ICall.sub bp aS).mono ?_;rintro _ ak ⟨rfl,rfl⟩;simp only[go_sem,zE,zA,zL];refine bo.mono ?_;rintro _ ak ⟨rfl,rfl⟩;simp only[go_sem,zE,zA,zL];refine bn.mono ?_;rintro _ ak ⟨rfl,rfl⟩;simp only[go_sem,zE];exact yQc (λc o hc=>F _ _ (ah _ _ (aT _ _ hc))) ⟨rfl,rfl⟩
theorem zXn {st:ISt}(h:flatSt st)(g n s:Nat):flatSt (st.put g (some (.front n s))):=h.put λx A=>by cases A;trivial
theorem yKw {esc:List Nat}{dst:Option Nat}{e:TypeId×Bool×Nat×Nat}{tg:Tag}{zs ys:List IV}{R:Rt}{st S0:ISt}{ds:List Dfd}{n s:Nat}(h:own st tg n s S0)(J:zs.length=n)(hy:ys≠[])(A:subSt S0 st)(he:e.2.2.1=s)
  (hf:ys.all (fits e.2.1 e.2.2.1)=true) (W:(n+ys.length)*e.2.2.2<=140737488355328) (E:n+ys.length<=140737488355328)
  (k:∀G st',own st' G (n+ys.length) s S0->subSt S0 st'->(flatSt st->flatSt st')->R (.val (.sl G (zs++ys))) st' ds)
  (U:yWe esc dst=false:=by first|rfl|simp[yWe]):appV esc dst e tg zs ys R st ds:=by
 subst J he;unfold appV;refine⟨hf,⟨W,E⟩,?_⟩;obtain⟨y1,ab,rfl⟩:∃y l,ys=y::l:=by cases ys with|nil=>exact absurd rfl hy|cons y l=>exact⟨y,l,rfl⟩
 rcases h with⟨F,hc⟩|rfl|⟨g0,rfl,h1,h2⟩
 ·have hz:zs=[]:=List.eq_nil_of_length_eq_zero F;subst hz;rw[hc];simp only[U,bFt,if_false];intro g D;have F:=yVc A D;refine k _ _ (.inr (.inr ⟨g,rfl,?_,F⟩)) (yZ4 A F) λh=>zXn h g _ _;rw[ISt.put_same];simp
 ·refine⟨rfl,λg D=>?_⟩;have F:=yVc A D;exact k _ _ (.inr (.inr ⟨g,rfl,ISt.put_same _ _ _,F⟩)) (yZ4 A F) λh=>zXn h g _ _
 ·refine⟨rfl,h1,λg D=>?_⟩;have O:S0 g=none:=by
   rcases D with rfl|D
   ·exact h2
   ·exact yVc A D
  exact k _ _ (.inr (.inr ⟨g,rfl,ISt.put_same _ _ _,O⟩)) (yZ4 (yZ4 A h2) O) λh=>zXn (h.put λx hx=>by cases hx) g _ _
def zA:Fm:=.mk 4 bE [] [zP,zQ]
def zNQ:Fm:=.mk 3 bE [] [zQ]
def trN:Nat->Tr
 | 0=>.mk 1 ⟨[zP],[zP]⟩ zP tm0 bE []
 | i+1=>.mk 3 ⟨[zP,zNQ],[zP]⟩ zNQ tm0 bE [trN i]
theorem xZf:∀i,(trN i).steps=i+1
 | 0=>rfl
 | i+1=>by
  show 1+yQp [trN i]=_;simp only[yQp,xZf i];omega
theorem wGw:∀i,okT (trN i)=true
 | 0=>by decide
 | i+1=>by
  show (xQ6 ⟨[zP,zNQ],[zP]⟩ zNQ tm0 bE&&okTs [trN i])=true;simp only[okTs,wGw i,Bool.and_true];decide
theorem w8 {n:Nat}(h:n<=255):IntKind.u8.wrap ((n:Nat):Int)=((n:Nat):Int):=by
 unfold IntKind.wrap;simp only[IntKind.bits,IntKind.signed,Bool.false_and,bFt,if_false];omega
abbrev iP:IV:=.agg [.raw (.int .u8 1),.raw (.string ⟨#[80]⟩),.sl ⟨true,.nil,0⟩ [],.sl ⟨true,.nil,0⟩ []]
abbrev iQ:IV:=.agg [.raw (.int .u8 1),.raw (.string ⟨#[81]⟩),.sl ⟨true,.nil,0⟩ [],.sl ⟨true,.nil,0⟩ []]
abbrev iA:IV:=.agg [.raw (.int .u8 4),.raw (.string ⟨#[]⟩),.sl ⟨true,.nil,0⟩ [],.sl ⟨true,.full,4⟩ [iP,iQ]]
theorem is_P:IsFm zP iP:=zZn zP (by decide)
theorem is_Q:IsFm zQ iQ:=zZn zQ (by decide)
theorem vZx:IsFm zA iA:=zZn zA (by decide)
theorem wYg:IsFm zNQ (.agg [.raw (.int .u8 3),.raw (.string ⟨#[]⟩),.sl ⟨true,.nil,0⟩ [],.sl ⟨true,.full,4⟩ [iQ]]):=zZn zNQ (by decide)
theorem zGk:IsTm tm0 (.agg [.raw (.bool false),.raw (.string ⟨#[]⟩),.sl ⟨true,.nil,0⟩ []]):=xZg tm0
theorem zQ7:∀n,IsFms (List.replicate n zP) (List.replicate n iP)
 | 0=>rfl
 | n+1=>⟨_,_,rfl,is_P,zQ7 n⟩
theorem vKq:∀n,wFms (List.replicate n zP)=n
 | 0=>rfl
 | n+1=>by
  rw[List.replicate_succ];simp only[wFms,vKq n];rw[show wFm zP=1 from by decide];omega
theorem wWc (n:Nat):(List.replicate n iP).all (fits true 4)=true:=List.all_eq_true.2 λx A=>by rw[List.eq_of_mem_replicate A];rfl
theorem vZ2 (n:Nat):fitL (List.replicate n zP):=λf A=>by rw[List.eq_of_mem_replicate A];decide
theorem wYa (G:Gl gl)(T:Gt gl)(ak:wV3 gl)(st:ISt)(aJ:flatSt st) :
  ICall prog gl 24 [] st (λr st'=>r=.raw (.bool true)/\st'=st):=by
 refine ICall.intro (c:=cf prog gl [] [(11,[0,1,2,4,3,5,6,7,8,9,10,11,12,13,14,15,16,17,18,19,21,22,20,23,24,25,26]),(14,[0,1,3,4,7,8,10,2,5,6,9,11]),(20,[2,7,8,11,12,0,1,3,4,5,6,9,10,13,14])]) func24 rfl (by show _<=98;simp) (by kernel_rfl) ?_;simp only[go_sem,zL,yQ7]
 repeat (first
  | (refine (q_p gl _ _ _ _).mono ?_;rintro _ st ⟨rfl,rfl⟩;simp only[go_sem,zE,zM,zL,fits,yQ6,yQ7,fits])
  | (refine (q_no gl _ _ _ _ _ _ _).mono ?_;rintro _ st ⟨rfl,rfl⟩;simp only[go_sem,zE,zB,zA,zM,zS,zL,reduceCtorEq,fits,yQ1,yQ6,yQ7,decide_true,fits])
  | (refine (q_fs gl _ _ _).mono ?_;rintro _ st ⟨rfl,rfl⟩;simp only[go_sem,zE,zL,fits,fits])
  | (refine (q_sq gl _ _ _ _ _).mono ?_;rintro _ st ⟨rfl,rfl⟩;simp only[go_sem,zE,zB,zA,zM,zS,zL,reduceCtorEq,fits,yQ1,yQ6,yQ7,decide_true,fits])
  | (refine (yKh gl _ _ _ _ _ _ _ _ _ _ _ _ _ _ _ _ _).mono ?_;rintro _ st ⟨rfl,rfl⟩;simp only[go_sem,zE,zB,zA,zM,zS,zL,reduceCtorEq,fits,yQ1,yQ6,yQ7,decide_true,fits]))
 refine LoopC.ctr 66 (λi fr st' ds=>(∃tg,fr 3=.iv (.sl tg (List.replicate i iP))/\own st' tg i 4 st)/\subSt st st'/\flatSt st'/\fr 1=.box [.raw (.int .u8 1),.raw (.string ⟨#[80]⟩),.sl ⟨true,.nil,0⟩ [],.sl ⟨true,.nil,0⟩ []] /\
  fr 2=.box [.raw (.int .u8 4),.raw (.string ⟨#[]⟩),.sl ⟨true,.nil,0⟩ [],.sl ⟨true,.full,4⟩ [iP,iQ]]/\fr 4=.iv (.raw (.int .i64 (i:Int)))/\ds=[]) ?_ ?_ ?_
 ·simp only[go_sem,zE];exact⟨⟨_,rfl,own.nil _ _ _ _ _⟩,subSt.refl _,aJ,rfl⟩
 ·rintro i fr J _ ah ⟨⟨tg,f3,E⟩,F,ag,f1,f2,f4,rfl⟩;have ac:(List.replicate i iP).length=i:=List.length_replicate;have hz:List.replicate i iP++[iP]=List.replicate i iP++[iP]:=rfl;by_cases aW:62<=i
  ·simp only[go_sem,zE,zM,zL,f2,f4,fits,show decide ((i:Int)<66)=true from dEt (by omega),show decide ((62:Int)<=(i:Int))=true from dEt (by omega),yQ1]
   repeat (first
    | (refine (q_p gl _ _ _ _).mono ?_;rintro _ J ⟨rfl,rfl⟩;simp only[go_sem,zE,zB,zA,zM,zS,zL,reduceCtorEq,fits,yQ1,yQ6,yQ7,decide_true,f3])
    | (refine (q_no gl _ _ _ _ _ _ _).mono ?_;rintro _ J ⟨rfl,rfl⟩;simp only[go_sem,zE,zB,zA,zM,zS,zL,reduceCtorEq,fits,yQ1,yQ6,yQ7,decide_true,f3])
    | (refine (q_fs gl _ _ _).mono ?_;rintro _ J ⟨rfl,rfl⟩;simp only[go_sem,zE,f3])
    | (refine (q_sq gl _ _ _ _ _).mono ?_;rintro _ J ⟨rfl,rfl⟩;simp only[go_sem,zE,zB,zA,zM,zS,zL,reduceCtorEq,fits,yQ1,yQ6,yQ7,decide_true,f3])
    | (refine (yKh gl _ _ _ _ _ _ _ _ _ _ _ _ _ _ _ _ _).mono ?_;rintro _ J ⟨rfl,rfl⟩;simp only[go_sem,zE,zB,zA,zM,zS,zL,reduceCtorEq,fits,yQ1,yQ6,yQ7,decide_true,f3]))
   refine yKw (own.full J J 1 4) rfl (by intro h;have:=congrArg List.length h;rw[ac] at this;simp at this;omega) (subSt.refl _) rfl (wWc i) (by rw[ac];show (1+i)*72<=_;omega) (by rw[ac];omega) λaj A ae ab O=>?_;have O:=O ag;have aH:IsSq ⟨zA::List.replicate i zP,List.replicate i zP⟩ (.agg [.sl aj (iA::List.replicate i iP),.sl tg (List.replicate i iP)]):=⟨_,_,_,_,rfl,ae.es,⟨_,_,rfl,vZx,zQ7 i⟩,E.es,zQ7 i⟩
   have aG:IsSq ⟨List.replicate i zP,[]⟩ (.agg [.sl tg (List.replicate i iP),.sl ⟨true,.nil,0⟩ []]):=⟨_,_,_,_,rfl,E.es,zQ7 i,.inl rfl,rfl⟩
   have aS:IsSq ⟨List.replicate i zP,List.replicate i zP⟩ (.agg [.sl tg (List.replicate i iP),.sl tg (List.replicate i iP)]):=⟨_,_,_,_,rfl,E.es,zQ7 i,E.es,zQ7 i⟩
   have an:=vKq i;have aI:wFm zA=3:=by decide
   have aQ:yQ9 (List.replicate i zP)<=66:=by have:=yXg (List.replicate i zP);omega
   have al:=vZ2 i;have aK:fitL (zA::List.replicate i zP):=λf hf=>by
    rcases List.mem_cons.1 hf with rfl|hf
    ·decide
    ·exact al f hf
   have hS:=λca=>vKn gl G T ak ca _ _ _ _ aH aG zP iP is_P ⟨aK,al⟩ ⟨al,λf hf=>by cases hf⟩ (by decide) ⟨by show zA.size+yQ9 (List.replicate i zP)<=_;rw[show zA.size=3 from by decide];omega,by show yQ9 (List.replicate i zP)<=_;omega,by show yQ9 (List.replicate i zP)<=_;omega,by show 0<=_;omega⟩ A O;have aM:=λca=>zWj gl G T ak ca (.mk 5 ⟨zA::List.replicate i zP,List.replicate i zP⟩ zA tm0 bE []) (.agg [.raw (.int .u8 5),.sl aj (iA::List.replicate i iP),.sl tg (List.replicate i iP),.raw (.int .u8 4),.raw (.string ⟨#[]⟩),.sl ⟨true,.nil,0⟩ [],.sl ⟨true,.full,4⟩ [iP,iQ],.raw (.bool false),.raw (.string ⟨#[]⟩),.sl ⟨true,.nil,0⟩ [],.raw (.string ⟨#[]⟩),.sl ⟨true,.nil,0⟩ []])
    (by simp only[IsTr];exact⟨_,_,_,_,_,_,_,_,_,_,_,_,_,_,_,_,rfl,by omega,ae.es,⟨_,_,rfl,vZx,zQ7 i⟩,E.es,zQ7 i,vZx,zGk,.inl rfl,rfl⟩)
    (by simp only[okT,okTs,xQ6,wFms,an,aI,Bool.and_true,bAt,dTe,Bool.not_eq_true',decide_eq_false_iff_not];exact⟨⟨⟨by omega,by omega⟩,by decide⟩,by decide⟩) (by simp[Tr.steps,yQp]) A O
   have aL:=λca=>zWj gl G T ak ca (.mk 1 ⟨List.replicate i zP,List.replicate i zP⟩ zP tm0 bE []) (.agg [.raw (.int .u8 1),.sl tg (List.replicate i iP),.sl tg (List.replicate i iP),.raw (.int .u8 1),.raw (.string ⟨#[80]⟩),.sl ⟨true,.nil,0⟩ [],.sl ⟨true,.nil,0⟩ [],.raw (.bool false),.raw (.string ⟨#[]⟩),.sl ⟨true,.nil,0⟩ [],.raw (.string ⟨#[]⟩),.sl ⟨true,.nil,0⟩ []])
    (by simp only[IsTr];exact⟨_,_,_,_,_,_,_,_,_,_,_,_,_,_,_,_,rfl,by omega,E.es,zQ7 i,E.es,zQ7 i,is_P,zGk,.inl rfl,rfl⟩)
    (by simp only[okT,okTs,xQ6,an,Bool.and_true,bAt,dTe,Bool.not_eq_true',decide_eq_false_iff_not];exact⟨⟨⟨by omega,by decide⟩,by decide⟩,by decide⟩) (by simp[Tr.steps,yQp]) A O
   simp only[go_sem,zE,f3]
   repeat (first
    | (refine (q_p gl _ _ _ _).mono ?_;rintro _ A ⟨rfl,rfl⟩;simp only[go_sem,zE,zB,zA,zM,zS,zL,reduceCtorEq,fits,yQ1,yQ6,yQ7,decide_true,f3])
    | (refine (q_no gl _ _ _ _ _ _ _).mono ?_;rintro _ A ⟨rfl,rfl⟩;simp only[go_sem,zE,zB,zA,zM,zS,zL,reduceCtorEq,fits,yQ1,yQ6,yQ7,decide_true,f3])
    | (refine (q_fs gl _ _ _).mono ?_;rintro _ A ⟨rfl,rfl⟩;simp only[go_sem,zE,zB,zA,zM,zS,zL,reduceCtorEq,fits,yQ1,yQ6,yQ7,decide_true,f3])
    | (refine (q_sq gl _ _ _ _ _).mono ?_;rintro _ A ⟨rfl,rfl⟩;simp only[go_sem,zE,zL])
    | (refine (yKh gl _ _ _ _ _ _ _ _ _ _ _ _ _ _ _ _ _).mono ?_;rintro _ A ⟨rfl,rfl⟩;simp only[go_sem,zE,zB,zA,zM,zS,zL,reduceCtorEq,fits,yQ1,yQ6,yQ7,decide_true,f3]))
   refine LoopC.ctr 3 (λc fr st' ds=>fr 1=.box [.raw (.int .u8 1),.raw (.string ⟨#[80]⟩),.sl ⟨true,.nil,0⟩ [],.sl ⟨true,.nil,0⟩ []]/\fr 2=.box [.raw (.int .u8 4),.raw (.string ⟨#[]⟩),.sl ⟨true,.nil,0⟩ [],.sl ⟨true,.full,4⟩ [iP,iQ]]/\fr 3=.iv (.sl tg (List.replicate i iP))/\fr 4=.iv (.raw (.int .i64 (i:Int))) /\
    fr 5=.box [.sl aj (iA::List.replicate i iP),.sl tg (List.replicate i iP)]/\fr 6=.iv (.raw (.int .u8 ((c+1:Nat):Int)))/\st'=A/\ds=[]) ?_ ?_ ?_
   ·simp only[go_sem,zE,f1,f2,f3,f4];exact rfl
   ·rintro c fr D _ aO ⟨f1,f2,f3,f4,f5,f6,rfl,rfl⟩;have hu:IntKind.u8.wrap (((c+1:Nat):Int)+1)=((c+1+1:Nat):Int):=by rw[show (((c+1:Nat):Int)+1)=((c+1+1:Nat):Int) from by omega];exact w8 (by omega)
    simp only[go_sem,zE,zL,f1,f3,f5,f6,show decide (((c+1:Nat):Int)<=3)=true from dEt (by omega)]
    repeat (first
     | (refine (q_p gl _ _ _ _).mono ?_;rintro _ D ⟨rfl,rfl⟩;simp only[go_sem,zE,zB,zA,zM,zS,zL,reduceCtorEq,fits,yQ1,yQ6,yQ7,decide_true,f1,f2,f3,f4,f5,f6])
     | (refine (q_no gl _ _ _ _ _ _ _).mono ?_;rintro _ D ⟨rfl,rfl⟩;simp only[go_sem,zE,zB,zA,zM,zS,zL,reduceCtorEq,fits,yQ1,yQ6,yQ7,decide_true,f1,f2,f3,f4,f5,f6])
     | (refine (q_fs gl _ _ _).mono ?_;rintro _ D ⟨rfl,rfl⟩;simp only[go_sem,zE,zB,zA,zM,zS,zL,reduceCtorEq,fits,yQ1,yQ6,yQ7,decide_true,f1,f2,f3,f4,f5,f6])
     | (refine (q_sq gl _ _ _ _ _).mono ?_;rintro _ D ⟨rfl,rfl⟩;simp only[go_sem,zE])
     | (refine (yKh gl _ _ _ _ _ _ _ _ _ _ _ _ _ _ _ _ _).mono ?_;rintro _ D ⟨rfl,rfl⟩;simp only[go_sem,zE,zB,zA,zM,zS,zL,reduceCtorEq,fits,yQ1,yQ6,yQ7,decide_true,f1,f2,f3,f4,f5,f6]))
    refine (hS _).mono ?_;rintro _ D ⟨rfl,rfl⟩;simp only[go_sem,zE,zL,f2,f5,f6,yQ7]
    repeat (first
     | (refine (q_p gl _ _ _ _).mono ?_;rintro _ D ⟨rfl,rfl⟩;simp only[go_sem,zE,zB,zA,zM,zS,zL,reduceCtorEq,fits,yQ1,yQ6,yQ7,decide_true,f1,f2,f3,f4,f5,f6])
     | (refine (q_no gl _ _ _ _ _ _ _).mono ?_;rintro _ D ⟨rfl,rfl⟩;simp only[go_sem,zE,zB,zA,zM,zS,zL,reduceCtorEq,fits,yQ1,yQ6,yQ7,decide_true,f1,f2,f3,f4,f5,f6])
     | (refine (q_fs gl _ _ _).mono ?_;rintro _ D ⟨rfl,rfl⟩;simp only[go_sem,zE,zB,zA,zM,zS,zL,reduceCtorEq,fits,yQ1,yQ6,yQ7,decide_true,f1,f2,f3,f4,f5,f6])
     | (refine (q_sq gl _ _ _ _ _).mono ?_;rintro _ D ⟨rfl,rfl⟩;simp only[go_sem,zE,zB,zA,zM,zS,zL,reduceCtorEq,fits,yQ1,yQ6,yQ7,decide_true,f1,f2,f3,f4,f5,f6])
     | (refine (yKh gl _ _ _ _ _ _ _ _ _ _ _ _ _ _ _ _ _).mono ?_;rintro _ D ⟨rfl,rfl⟩;simp only[go_sem,zE]))
    refine (aM _).mono ?_;rintro _ D ⟨rfl,rfl⟩;simp only[go_sem,zE,zL,f1,f3,f6]
    repeat (first
     | (refine (q_p gl _ _ _ _).mono ?_;rintro _ D ⟨rfl,rfl⟩;simp only[go_sem,zE,zB,zA,zM,zS,zL,reduceCtorEq,fits,yQ1,yQ6,yQ7,decide_true,f1,f2,f3,f4,f5,f6])
     | (refine (q_no gl _ _ _ _ _ _ _).mono ?_;rintro _ D ⟨rfl,rfl⟩;simp only[go_sem,zE,zB,zA,zM,zS,zL,reduceCtorEq,fits,yQ1,yQ6,yQ7,decide_true,f1,f2,f3,f4,f5,f6])
     | (refine (q_fs gl _ _ _).mono ?_;rintro _ D ⟨rfl,rfl⟩;simp only[go_sem,zE,zB,zA,zM,zS,zL,reduceCtorEq,fits,yQ1,yQ6,yQ7,decide_true,f1,f2,f3,f4,f5,f6])
     | (refine (q_sq gl _ _ _ _ _).mono ?_;rintro _ D ⟨rfl,rfl⟩;simp only[go_sem,zE,zL,yQ7])
     | (refine (yKh gl _ _ _ _ _ _ _ _ _ _ _ _ _ _ _ _ _).mono ?_;rintro _ D ⟨rfl,rfl⟩;simp only[go_sem,zE]))
    refine (aL _).mono ?_;rintro _ D ⟨rfl,rfl⟩;simp only[go_sem,zE,f1,f2,f3,f4,f5,f6,hu]
   ·rintro fr D _ ⟨f1,f2,f3,f4,f5,f6,rfl,rfl⟩;simp only[go_sem,zE,zM,zL,f1,f3,f6,fits,show decide (((3+1:Nat):Int)<=3)=false from rfl,yQ1];refine yKw (E.mono λg hg _=>ab g _ hg) ac (by simp) (F.trans ab) rfl (by simp[fits,IV.one]) (by show (i+1)*72<=_;omega) (by show i+1<=_;omega) λai D W U af=>?_;simp only[go_sem,zE,f1,f2,f4,yQb ah (show 66<=281474976710656 by omega)];exact⟨⟨ai,by rw[List.replicate_succ',<- hz],W⟩,U,af O⟩
  ·simp only[go_sem,zE,zM,zL,f1,f3,f4,fits,show decide ((i:Int)<66)=true from dEt (by omega),show decide ((62:Int)<=(i:Int))=false from dEf (by omega),yQ1];refine yKw E ac (by simp) F rfl (by simp[fits,IV.one]) (by show (i+1)*72<=_;omega) (by show i+1<=_;omega) λai D W U af=>?_;simp only[go_sem,zE,f1,f2,f4,yQb ah (show 66<=281474976710656 by omega)];exact⟨⟨ai,by rw[List.replicate_succ',<- hz],W⟩,U,af ag⟩
 ·rintro fr J _ ⟨⟨tg,f3,E⟩,F,ag,f1,f2,f4,rfl⟩;simp only[go_sem,zE,zM,zL,f1,f4,fits,show decide (((66:Nat):Int)<66)=false from rfl,yQ1]
  repeat (first
   | (refine (q_p gl _ _ _ _).mono ?_;rintro _ J ⟨rfl,rfl⟩;simp only[go_sem,zE,zB,zA,zM,zS,zL,reduceCtorEq,fits,yQ1,yQ6,yQ7,decide_true,fits])
   | (refine (q_no gl _ _ _ _ _ _ _).mono ?_;rintro _ J ⟨rfl,rfl⟩;simp only[go_sem,zE,zB,zA,zM,zS,zL,reduceCtorEq,fits,yQ1,yQ6,yQ7,decide_true,fits])
   | (refine (q_fs gl _ _ _).mono ?_;rintro _ J ⟨rfl,rfl⟩;simp only[go_sem,zE])
   | (refine (q_sq gl _ _ _ _ _).mono ?_;rintro _ J ⟨rfl,rfl⟩;simp only[go_sem,zE,zL,yQ7])
   | (refine (yKh gl _ _ _ _ _ _ _ _ _ _ _ _ _ _ _ _ _).mono ?_;rintro _ J ⟨rfl,rfl⟩;simp only[go_sem,zE,zL]))
  refine LoopC.ctr 301 (λi fr st' ds=>(∃r tl xl tr xr o n ta xa tb xb v un tu xu nm ts xs,fr 7=.box [.raw (.int .u8 r),.sl tl xl,.sl tr xr,.raw (.int .u8 o),.raw (.string n),.sl ta xa,.sl tb xb,.raw (.bool v),.raw (.string un),.sl tu xu,.raw (.string nm),.sl ts xs] /\
   IsTr (trN i) (.agg [.raw (.int .u8 r),.sl tl xl,.sl tr xr,.raw (.int .u8 o),.raw (.string n),.sl ta xa,.sl tb xb,.raw (.bool v),.raw (.string un),.sl tu xu,.raw (.string nm),.sl ts xs]))/\subSt st st'/\fr 1=.box [.raw (.int .u8 1),.raw (.string ⟨#[80]⟩),.sl ⟨true,.nil,0⟩ [],.sl ⟨true,.nil,0⟩ []]/\fr 8=.iv (.raw (.int .i64 (i:Int)))/\ds=[]) ?_ ?_ ?_
  ·simp only[go_sem,zE,f1];refine⟨⟨_,_,_,_,_,_,_,_,_,_,_,_,_,_,_,_,_,_,rfl,?_⟩,F,rfl⟩;simp only[trN,IsTr];exact⟨_,_,_,_,_,_,_,_,_,_,_,_,_,_,_,_,rfl,by omega,.inr rfl,⟨_,_,rfl,is_P,rfl⟩,.inr rfl,⟨_,_,rfl,is_P,rfl⟩,is_P,zGk,.inl rfl,rfl⟩
  ·rintro i fr A _ ah ⟨⟨r,tl,xl,tr,xr,o,n,ta,xa,tb,xb,v,un,tu,xu,nm,ts,xs,f7,hx⟩,F,f1,f8,rfl⟩;have hw:=yQb ah (show 301<=281474976710656 by omega);have am:=xQz gl G T 1 (trN i) _ hx (wGw i) (by rw[xZf];omega) A;by_cases aP:298<=i
   ·simp only[go_sem,zE,zL,f7,f8,show decide ((i:Int)<301)=true from dEt (by omega),show decide ((298:Int)<=(i:Int))=true from dEt (by omega)];refine am.mono ?_;rintro _ A ⟨rfl,rfl⟩;simp only[go_sem,zE,zM,zL,f1,f7,fits,yQ1,yQ7]
    repeat (first
     | (refine (q_p gl _ _ _ _).mono ?_;rintro _ A ⟨rfl,rfl⟩;simp only[go_sem])
     | (refine (q_no gl _ _ _ _ _ _ _).mono ?_;rintro _ A ⟨rfl,rfl⟩;simp only[go_sem,zE,zM,zL,fits,yQ6,yQ7])
     | (refine (q_fs gl _ _ _).mono ?_;rintro _ A ⟨rfl,rfl⟩;simp only[go_sem,zE])
     | (refine (q_sq gl _ _ _ _ _).mono ?_;rintro _ A ⟨rfl,rfl⟩;simp only[go_sem,zE,zL,fits,f1,f7,f8,hw])
     | (refine (yKh gl _ _ _ _ _ _ _ _ _ _ _ _ _ _ _ _ _).mono ?_;rintro _ A ⟨rfl,rfl⟩;simp only[go_sem,zE,zB,zA,zM,zS,zL,reduceCtorEq,fits,yQ1,yQ6,yQ7,decide_true,f1,f7,f8,hw]))
    simp only[Nat.reduceAdd,Nat.reduceLeDiff,if_true];simp only[go_sem,zL];refine⟨⟨_,_,_,_,_,_,_,_,_,_,_,_,_,_,_,_,_,_,rfl,?_⟩,F⟩;simp only[trN,IsTr];exact⟨_,_,_,_,_,_,_,_,_,_,_,_,_,_,_,_,rfl,by omega,.inr rfl,⟨_,_,rfl,is_P,_,_,rfl,wYg,rfl⟩,.inr rfl,⟨_,_,rfl,is_P,rfl⟩,wYg,zGk,.inr rfl,_,_,rfl,hx,rfl⟩
   ·simp only[go_sem,zE,zM,zL,f1,f7,f8,fits,yQ1,yQ7,show decide ((i:Int)<301)=true from dEt (by omega),show decide ((298:Int)<=(i:Int))=false from dEf (by omega)]
    repeat (first
     | (refine (q_p gl _ _ _ _).mono ?_;rintro _ A ⟨rfl,rfl⟩;simp only[go_sem])
     | (refine (q_no gl _ _ _ _ _ _ _).mono ?_;rintro _ A ⟨rfl,rfl⟩;simp only[go_sem,zE,zM,zL,fits,yQ6,yQ7])
     | (refine (q_fs gl _ _ _).mono ?_;rintro _ A ⟨rfl,rfl⟩;simp only[go_sem,zE])
     | (refine (q_sq gl _ _ _ _ _).mono ?_;rintro _ A ⟨rfl,rfl⟩;simp only[go_sem,zE,zL,fits,f1,f7,f8,hw])
     | (refine (yKh gl _ _ _ _ _ _ _ _ _ _ _ _ _ _ _ _ _).mono ?_;rintro _ A ⟨rfl,rfl⟩;simp only[go_sem,zE,zB,zA,zM,zS,zL,reduceCtorEq,fits,yQ1,yQ6,yQ7,decide_true,f1,f7,f8,hw]))
    simp only[Nat.reduceAdd,Nat.reduceLeDiff,if_true];simp only[go_sem,zL];refine⟨⟨_,_,_,_,_,_,_,_,_,_,_,_,_,_,_,_,_,_,rfl,?_⟩,F⟩;simp only[trN,IsTr];exact⟨_,_,_,_,_,_,_,_,_,_,_,_,_,_,_,_,rfl,by omega,.inr rfl,⟨_,_,rfl,is_P,_,_,rfl,wYg,rfl⟩,.inr rfl,⟨_,_,rfl,is_P,rfl⟩,wYg,zGk,.inr rfl,_,_,rfl,hx,rfl⟩
  ·rintro fr A _ ⟨⟨r,tl,xl,tr,xr,o,n,ta,xa,tb,xb,v,un,tu,xu,nm,ts,xs,f7,hx⟩,F,f1,f8,rfl⟩;simp only[go_sem,f8,show decide (((301:Nat):Int)<301)=false from rfl];exact yQc F ⟨rfl,rfl⟩
end Go.Proofs.Tryz
namespace Go.Proofs.Tryz
open Go Go.Iv
mutual
theorem mapW {ps:Sb}{B:Nat}(A:1<=B)(h:∀p∈ps,wTm p.2<=B):∀t:Tm,wTm (yJi (yZa ps) t)<=wTm t*B
 | .mk v n us=>by
  have E:=vZm A h us;have h1:(1+n.size / 20)<=(1+n.size / 20)*B:=Nat.le_mul_of_pos_right _ A;have h2:wTm (.mk v n us)*B=(1+n.size / 20)*B+wTms us*B:=by simp only[wTm,Nat.add_mul]
  rw[h2];cases v
  ·simp only[yJi,wTm];omega
  ·simp only[yJi];cases D:yZa ps n with
   | none=>simp only[wTm];first|omega|(have:=Nat.le_mul_of_pos_right (wTms us) A;omega)
   | some r =>
    unfold yZa at D;obtain⟨p,hp,rfl⟩:=Option.map_eq_some_iff.1 D;have G:=h p (List.mem_of_find?_eq_some hp);have F:1*B<=(1+n.size / 20)*B:=Nat.mul_le_mul_right _ (by omega);show wTm p.2<=_;omega
theorem vZm {ps:Sb}{B:Nat}(A:1<=B)(h:∀p∈ps,wTm p.2<=B):∀l:List Tm,wTms (yZd (yZa ps) l)<=wTms l*B
 | []=>by simp[yZd,wTms]
 | a::l=>by
  have h1:=mapW A h a;have h2:=vZm A h l;simp only[yZd,wTms,Nat.add_mul];omega
end
theorem uVo {n:ByteArray}{us:List Tm}{x:ByteArray}{t:Tm}{B:Nat}(A:1<=B)(E:wTm t<=B):wFm (yZf (.mk 1 n us []) [(x,t)]).1<=wFm (.mk 1 n us [])*B:=by
 have D:1<=wFm (.mk 1 n us [])*B:=Nat.le_trans A (Nat.le_mul_of_pos_left _ (by simp only[wFm];omega));unfold yZf;split
 ·split
  ·have F:=vZm (ps:=yGd [(x,t)] (frF (.mk 1 n us []))) A (λp hp=>by
    have:=(List.mem_filter.1 hp).1;rw[List.mem_singleton.1 this];exact E) us
   have h1:(1+n.size / 20)<=(1+n.size / 20)*B:=Nat.le_mul_of_pos_right _ A;simp only[yJn,yXu,wFm,wFms,Nat.add_mul,show isQ 1=false from rfl,bFt,if_false] at h1 ⊢;omega
  ·exact D
 ·exact D
def yGv (W:Nat)(l:List Sq):Prop:=l.length<=2/\∀s∈l,wFms s.l+wFms s.r<=W
theorem wJf {W:Nat}{c:Prop} [Decidable c]{x y:List Sq}(D:yGv W x)(A:yGv W y):yGv W (if c then x else y):=by
 by_cases h:c
 ·rw[if_pos h];exact D
 ·rw[if_neg h];exact A
theorem addW (ca rule:Nat)(m a b:Fm):yGv (2+2*wFm a+2*wFm b+wFm m) (addS ca rule m a b):=by
 have D:∀a b,wFm (impF a b)=1+wFm a+wFm b:=λa b=>by
  simp only[impF,wFm,wFms,wTms,bE];rw[show (⟨#[]⟩:ByteArray).size / 20=0 from rfl];omega
 unfold addS
 repeat' apply wJf
 all_goals
  refine⟨by simp,λs A=>?_⟩;simp only[List.mem_cons,List.not_mem_nil,or_false] at A
  try first|(subst A;simp only[wFms,D];omega)|(rcases A with rfl|rfl<;>(simp only[wFms];omega))
end Go.Proofs.Tryz
namespace Go.Proofs.Tryz
open Go Go.Iv
set_option maxRecDepth 4000
variable (gl:Nat->Option IV)
theorem zJh (us:List Fm)(tg:Tag)(xs:List IV)(ag:okEs tg 4)(F:IsFms us xs)(an:yQ9 us<=1099511627776)(st:ISt) :
  ICall prog gl 70 [.sl tg xs] st (λr st'=>∃A ys,r=.sl A ys/\own st' A us.length 4 st/\IsFmsD us ys/\subSt st st'):=by
 have am:=yQs us;refine iI func70 ?_;simp only[go_sem];refine LoopC.ctr us.length (λk fr st' ds=>(∃A ys,fr 3=.iv (.sl A ys)/\IsFmsD (us.take k) ys/\appT k A/\own st' A k 4 st/\subSt st st')/\fr 0=.iv (.sl tg xs)/\fr 4=.iv (.raw (.int .i64 k))/\ds=[]) ?_ ?_ ?_
 ·simp only[go_sem,zE,reduceCtorEq];exact⟨⟨_,_,rfl,IsFmsD.nil,.inl rfl,own.nil _ _ _ _ _,subSt.refl _⟩,rfl⟩
 ·rintro k fr aa _ O ⟨⟨A,ys,f3,hys,ai,E,D⟩,f0,f4,rfl⟩;obtain⟨a,ha⟩:=yQ3 O;obtain⟨x,ah,hx⟩:=F.get ha;obtain⟨h1,h2⟩:=yQq ha;have U:ys.length=k:=by rw[hys.len,List.length_take];omega
  have W:=yYz gl a x hx (by omega) aa;obtain⟨o5,n5,t5,x5,t6,x6,rfl⟩:=hx.agg;simp only[go_sem,zE,zB,zA,reduceCtorEq,f0,f4,F.len,lt_i O,yQ2 ag,iNn,ah,fits];intro _;refine W.mono ?_;rintro r _ ⟨hr,rfl⟩;have hn:IsFmsD (us.take (k+1)) (ys++[r]):=by
   rw[yQ4 ha];exact hys.append (IsFmsD.one hr)
  obtain⟨o7,n7,t7,x7,t8,x8,rfl⟩:=IsFmD.aggs hr;simp only[go_sem,zE,zA,zM,zL,f3,fits,yQ1];refine yZy E U D rfl (by simp[fits,IV.one]) (by simp only;omega) (by omega) λae st4 J G _ ab=>?_;simp only[go_sem,zE,reduceCtorEq,f0,f4,yQb O (show us.length<=281474976710656 by omega)];exact⟨ae,_,rfl,hn,ab,J,G⟩
 ·rintro fr aa _ ⟨⟨A,ys,f3,hys,ai,E,D⟩,f0,f4,rfl⟩;rw[lTl] at hys;simp only[go_sem,zE,reduceCtorEq,f0,f3,f4,F.len,yQj (nLi _)];intro _;exact yQ0 ⟨A,ys,rfl,E,hys,D⟩
theorem vV2 {st S0 S1:ISt}{A:Tag}{n s:Nat}(h:own st A n s S1)(D:subSt S0 S1):own st A n s S0:=by
 rcases h with h|h|⟨g,h1,h2,E⟩
 ·exact .inl h
 ·exact .inr (.inl h)
 ·exact .inr (.inr ⟨g,h1,h2,yVc D E⟩)
theorem wQc (s:Sq)(x:IV)(hx:IsSq s x)(h1:yQ9 s.l<=1099511627776)(h2:yQ9 s.r<=1099511627776)(st:ISt):ICall prog gl 23 [x] st (λr st' =>
  ∃t1 F t2 E,r=.agg [.sl t1 F,.sl t2 E]/\own st' t1 s.l.length 4 st/\IsFmsD s.l F/\own st' t2 s.r.length 4 st/\IsFmsD s.r E/\subSt st st'):=by
 obtain⟨t1,F,t2,E,rfl,e1,i1,e2,i2⟩:=hx;have O:=zJh gl s.l t1 F e1 i1 h1 st;have J:=λst=>zJh gl s.r t2 E e2 i2 h2 st;refine iI func23 ?_;simp only[go_sem,zE,zA];refine O.mono ?_;rintro _ ae ⟨ab,ys,rfl,ho,hys,U⟩;simp only[go_sem,zE,zA,zL];refine (J _).mono ?_;rintro _ ac ⟨aa,W,rfl,G,A,D⟩;simp only[go_sem,zE,zA,zL];exact yQ0 ⟨_,_,_,_,rfl,ho.mono λg hg _=>D g _ hg,hys,vV2 G U,A,U.trans D⟩
end Go.Proofs.Tryz
namespace Go.Proofs.Tryz
open Go Go.Iv
set_option maxRecDepth 8000
variable (gl:Nat->Option IV)
def msL:List Fm:=[zP,.mk 2 bE [] [],.mk 3 bE [] [zP],zA,.mk 5 bE [] [zP,zQ],zI,.mk 7 bE [] [zP,zQ],.mk 8 ⟨#[120]⟩ [] [.mk 1 ⟨#[82]⟩ [.mk true ⟨#[120]⟩ []] []],
 .mk 9 ⟨#[120]⟩ [] [.mk 1 ⟨#[82]⟩ [.mk true ⟨#[120]⟩ [],.mk true ⟨#[117]⟩ []] []],.mk 8 ⟨#[120]⟩ [] [zP],.mk 10 bE [] [zP],.mk 1 ⟨#[112]⟩ [] [],.mk 0 bE [] []]
def utL:List Tm:=[.mk true ⟨#[117]⟩ [],.mk true ⟨#[119]⟩ [],.mk false ⟨#[97]⟩ [],.mk false ⟨#[102]⟩ [.mk true ⟨#[120]⟩ []],.mk false ⟨#[85]⟩ [],.mk false bE []]
def tmN:Tm->ByteArray
 | .mk _ n _=>n
theorem ms_w:∀m∈msL,wFm m<=4:=by decide
theorem ut_w:∀u∈utL,wTm u<=2/\(tmN u).size<=1:=by decide
theorem vZi:∀m∈msL,m.op=8\/m.op=9->∃n us,(m.subs[0]?).getD fm0=.mk 1 n us []:=by
 intro m A D;simp only[msL,List.mem_cons,List.not_mem_nil,or_false] at A;rcases A with rfl|rfl|rfl|rfl|rfl|rfl|rfl|rfl|rfl|rfl|rfl|rfl|rfl<;>first|exact⟨_,_,rfl⟩|(exact absurd D (by decide))
theorem vKg (m:Fm)(k:Nat):wFm ((m.subs[k]?).getD fm0)<=wFm m:=by
 obtain⟨o,n,us,sub⟩:=m;cases h:sub[k]? with
 | none =>
  simp only[Fm.subs,h,Option.getD_none];rw[show wFm fm0=1 from by decide];simp only[wFm];omega
 | some a =>
  have h1:=wZa h;have h2:=vQ3 sub (k+1);simp only[Fm.subs,h,Option.getD_some,wFm];omega
theorem wW9 {ca rule:Nat}{r:Rw}(h:rowS ca rule=some r):r.asks=0\/r.op=8\/r.op=9:=by
 have A:∀(c:Prop) [Decidable c] (x y:Option Rw),(∀r,x=some r->r.asks=0\/r.op=8\/r.op=9)->(∀r,y=some r->r.asks=0\/r.op=8\/r.op=9)->∀r,(if c then x else y)=some r->r.asks=0\/r.op=8\/r.op=9:=λc _ x y E D r h=>by
  by_cases hc:c
  ·rw[if_pos hc] at h;exact E r h
  ·rw[if_neg hc] at h;exact D r h
 revert r;unfold rowS rowK
 repeat' apply A
 all_goals intro r h
 all_goals first|(cases h;exact .inl rfl)|(cases h;exact .inr (.inl rfl))|(cases h;exact .inr (.inr rfl))|cases h
theorem vYl (ca rule:Nat){m:Fm}(hm:m∈msL){u:Tm}(hu:u∈utL):yGv 60 (yVr ca rule m u (tmN u)).1:=by
 have aj:=ms_w m hm;have G:=ut_w u hu;have h0:=vKg m 0;have h1:=vKg m 1;have F:yGv 60 []:=⟨by simp,λs O=>by cases O⟩
 have hl:∀ {W:Nat} {l:List Sq},yGv W l->W<=60->yGv 60 l:=λh hW=>⟨h.1,λs O=>Nat.le_trans (h.2 s O) hW⟩
 have D:∀(c:Prop) [Decidable c] (x y:List Sq×Nat),yGv 60 x.1->yGv 60 y.1->yGv 60 (if c then x else y).1:=λc _ x y hx hy=>by
  by_cases hc:c
  ·rw[if_pos hc];exact hx
  ·rw[if_neg hc];exact hy
 unfold yVr;refine D _ _ _ F ?_;cases hr:rowS ca rule with
 | none=>exact F
 | some r =>
  have E:∀t:Tm,wTm t<=2->m.op=8\/m.op=9->wFm (yZf ((m.subs[0]?).getD fm0) [(m.nm,t)]).1<=8:=λt ht ho=>by
   obtain⟨n,us,hb⟩:=vZi m hm ho;rw[hb] at h0 ⊢;have:=uVo (n:=n) (us:=us) (x:=m.nm) (by omega) ht;omega
  have J:wTm (if r.asks=2 then .mk true (tmN u) [] else u)<=2:=by
   by_cases h2:r.asks=2
   ·rw[if_pos h2];simp only[wTm,wTms];omega
   ·rw[if_neg h2];exact G.1
  simp only;unfold yZl;by_cases A:(!fmB ca m || (decide (r.op≠0)&&decide (m.op≠r.op)))=true
  ·rw[if_pos A];exact F
  rw[if_neg A];by_cases U:r.asks=0
  ·simp only[if_pos U];exact hl (addW ca rule m ((m.subs[0]?).getD fm0) ((m.subs[1]?).getD fm0)) (by omega)
  simp only[if_neg U];have h8:=(wW9 hr).resolve_left U;have ak:m.op=r.op:=by
   simp only[Bool.or_eq_true,bAt,dTe,not_or,not_and,Decidable.not_not] at A;exact A.2 (by omega)
  have h3:=E _ J (by omega);refine D _ _ _ F (D _ _ _ F ?_);exact hl (addW ca rule m _ ((m.subs[1]?).getD fm0)) (by omega)
