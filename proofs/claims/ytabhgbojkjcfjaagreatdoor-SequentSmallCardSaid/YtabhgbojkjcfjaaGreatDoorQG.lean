/- Walks: SequentSmall. -/
import Derived.Test.YtabhgbojkjcfjaaGreatDoorQF
import Derived.Test.YtabhgbojkjcfjaaGreatDoorKE
import Derived.Deep.DeepHandedRow
set_option linter.all false
open Nat renaming reduceEqDiff → zE,reduceBEq → zB,reduceAdd → zA,reduceMul → zM,reduceSub → zS,reduceLeDiff → zL
namespace Go.Proofs.Tryz
open Go Go.Iv
set_option maxRecDepth 8000
variable (gl:Nat->Option IV)
theorem yYh {b:Bool}{c:Cf}{A B:Code}{K:Fr->ISt->List Dfd->Prop}{Q:Kc}{fr:Fr}{st:ISt}{ds:List Dfd}(J:Fr->ISt->List Dfd->Prop)(E:∀fr st ds,J fr st ds->K fr st ds)
  (h1:b=true->vcC c A (seqK J Q) fr st ds) (h2:b=false->vcC c B (seqK J Q) fr st ds):yU6 b (vcC c A (seqK K Q) fr st ds) (vcC c B (seqK K Q) fr st ds) .mk .mk:=by
 have D:∀e fr st ds,seqK J Q e fr st ds->seqK K Q e fr st ds:=λe fr st ds=>by
  cases e<;>first|exact E _ _ _|exact id
 exact yZb (λh=>zJx A D (h1 h)) (λh=>zJx B D (h2 h))
theorem s1_c (n:ByteArray)(st:ISt):ICall prog gl 16 [.raw (.string n)] st (λr st'=>r=.agg [.raw (.bool true),.raw (.string n),.sl ⟨true,.nil,0⟩ []]/\st'=st):=by
 refine iI func16 ?_;simp only[go_sem,zE,zL,reduceCtorEq,fits];exact yQ0 ⟨rfl,rfl⟩
theorem s2_c (op o:Int)(n:ByteArray)(t:Tag)(x:List IV)(D:Tag)(A:List IV)(st:ISt):ICall prog gl 17 [.raw (.int .u8 op),.agg [.raw (.int .u8 o),.raw (.string n),.sl t x,.sl D A]] st
  (λr st'=>r=.agg [.raw (.int .u8 op),.raw (.string ⟨#[120]⟩),.sl ⟨true,.nil,0⟩ [],.sl ⟨true,.full,4⟩ [.agg [.raw (.int .u8 o),.raw (.string n),.sl t x,.sl D A]]]/\st'=st):=by
 refine iI func17 ?_;simp only[go_sem,zE,zM,zL,reduceCtorEq,fits,yQ1];refine (q_fs gl _ _ _).mono ?_;rintro _ _ ⟨rfl,rfl⟩;simp only[go_sem,zE,zL,fits,yQ7];exact yQ0 ⟨rfl,rfl⟩
theorem wJt (a b c d e f g h i j k l m:Operand):yJx 13 [(0,a),(1,b),(2,c),(3,d),(4,e),(5,f),(6,g),(7,h),(8,i),(9,j),(10,k),(11,l),(12,m)]=true:=rfl
theorem wUk (a b c d e f:Operand):yJx 6 [(0,a),(1,b),(2,c),(3,d),(4,e),(5,f)]=true:=rfl
def frSm (E us F D:List IV)(c r A i:Nat)(fr:Fr):Prop:=fr 4=.box [.raw (.int .u8 1),.raw (.string ⟨#[81]⟩),.sl ⟨true,.nil,0⟩ [],.sl ⟨true,.nil,0⟩ []]/\fr 5=.iv (.sl ⟨true,.full,4⟩ E)/\fr 6=.iv (.sl ⟨true,.full,3⟩ us)/\fr 7=.iv (.raw (.int .u8 (c:Int))) /\
 fr 8=.iv (.raw (.int .u8 (r:Int)))/\fr 9=.iv (.raw (.int .i64 (A:Int)))/\fr 10=.iv (.raw (.int .i64 (i:Int)))/\fr 11=.box F/\fr 12=.box D
theorem is_S:IsFm (.mk 1 ⟨#[83]⟩ [] []) (.agg [.raw (.int .u8 1),.raw (.string ⟨#[83]⟩),.sl ⟨true,.nil,0⟩ [],.sl ⟨true,.nil,0⟩ []]):=zZn _ (by decide)
set_option maxHeartbeats 8000000 in
theorem zYh (G:Gl gl)(T:Gt gl)(bB:wV3 gl)(st:ISt)(bC:flatSt st) :
  ICall prog gl 6 [] st (λr st'=>r=.raw (.bool true)/\st'=st):=by
 refine ICall.intro (c:=cf prog gl [] [(4,[0,1,2,4,5,7,8,10,11,13,14,16,17,22,23,25,30,31,33,34,38,3,6,9,12,15,18,19,20,21,24,26,27,28,29,32,35,36,37,39,40,41])]) func6 rfl (by show _<=242;simp) (by kernel_rfl) ?_;simp only[go_sem,zL,yQ7]
 repeat (first
  | (refine (q_p gl _ _ _ _).mono ?_;rintro _ st ⟨rfl,rfl⟩;simp only[go_sem,zE,zM,zL,fits,yQ1,yQ7,wJt])
  | (refine (q_no gl _ _ _ _ _ _ _).mono ?_;rintro _ st ⟨rfl,rfl⟩;simp only[go_sem,zE])
  | (refine (yG9 gl _ _ _ _ _ _ _ _ _ _ _ _ _ _).mono ?_;rintro _ st ⟨rfl,rfl⟩;simp only[go_sem,zE,zL,yQ7])
  | (refine (q_fs gl _ _ _).mono ?_;rintro _ st ⟨rfl,rfl⟩;simp only[go_sem,zE,zL,fits,yQ7])
  | (refine (s1_c gl _ _).mono ?_;rintro _ st ⟨rfl,rfl⟩;simp only[go_sem,zE,zM,zL,fits,yQ1,yQ6,yQ7,wUk])
  | (refine (s2_c gl _ _ _ _ _ _ _ _).mono ?_;rintro _ st ⟨rfl,rfl⟩;simp only[go_sem,zE,zL,yQ7])
  | (refine (yKh gl _ _ _ _ _ _ _ _ _ _ _ _ _ _ _ _ _).mono ?_;rintro _ st ⟨rfl,rfl⟩;simp only[go_sem,zE,zB,zA,zM,zS,zL,reduceCtorEq,fits,yQ1,yQ6,yQ7,decide_true,wJt,wUk]))
 refine LoopC.ctr 5 (λc fr st' ds=>(∃ms us,IsFms msL ms/\IsTms utL us/\fr 5=.iv (.sl ⟨true,.full,4⟩ ms)/\fr 6=.iv (.sl ⟨true,.full,3⟩ us))/\subSt st st'/\fr 4=.box [.raw (.int .u8 1),.raw (.string ⟨#[81]⟩),.sl ⟨true,.nil,0⟩ [],.sl ⟨true,.nil,0⟩ []]/\fr 7=.iv (.raw (.int .u8 (c:Int)))/\ds=[]) ?_ ?_ ?_
 ·simp only[go_sem,zE];exact⟨⟨_,_,yKe msL (by decide),zUc utL,rfl,rfl⟩,subSt.refl _,rfl⟩
 ·rintro c fr bM _ b7 ⟨⟨ms,us,aX,aU,f5,f6⟩,F,f4,f7,rfl⟩;have aY:ms.length=13:=aX.len;have bP:us.length=6:=aU.len;have bf:∀k:Nat,k<=100->IntKind.u8.wrap ((k:Int)+1)=((k+1:Nat):Int):=λk hk=>by rw[show ((k:Int)+1)=((k+1:Nat):Int) from by omega];exact w8 (by omega)
  simp only[go_sem,f7,show decide ((c:Int)<=4)=true from dEt (by omega)];refine LoopC.ctr 20 (λr fr st' ds=>subSt st st'/\fr 4=.box [.raw (.int .u8 1),.raw (.string ⟨#[81]⟩),.sl ⟨true,.nil,0⟩ [],.sl ⟨true,.nil,0⟩ []]/\fr 5=.iv (.sl ⟨true,.full,4⟩ ms)/\fr 6=.iv (.sl ⟨true,.full,3⟩ us)/\fr 7=.iv (.raw (.int .u8 (c:Int)))/\fr 8=.iv (.raw (.int .u8 (r:Int)))/\ds=[]) ?_ ?_ ?_
  ·simp only[go_sem,zE,f4,f5,f6,f7];exact⟨F,rfl⟩
  ·rintro r fr bL _ b6 ⟨F,f4,f5,f6,f7,f8,rfl⟩;cases e1:decide ((13:Int)<=(r:Int))<;>cases e2:decide ((r:Int)<=16)<;>simp only[go_sem,zE,zL,f6,f8,e1,e2,bP,show decide ((r:Int)<=19)=true from dEt (by omega)]
   all_goals
    try intros
    refine LoopC.ctr 312 (λi fr st' ds=>(∃D:Nat,fr 9=.iv (.raw (.int .i64 (D:Int)))/\D<=6)/\subSt st st'/\fr 4=.box [.raw (.int .u8 1),.raw (.string ⟨#[81]⟩),.sl ⟨true,.nil,0⟩ [],.sl ⟨true,.nil,0⟩ []]/\fr 5=.iv (.sl ⟨true,.full,4⟩ ms)/\fr 6=.iv (.sl ⟨true,.full,3⟩ us)/\fr 7=.iv (.raw (.int .u8 (c:Int)))/\fr 8=.iv (.raw (.int .u8 (r:Int)))/\fr 10=.iv (.raw (.int .i64 (i:Int)))/\ds=[]) ?_ ?_ ?_
    ·simp only[go_sem,zE,f4,f5,f6,f7,f8]
     first|exact⟨⟨1,rfl,by omega⟩,F,rfl⟩|exact⟨⟨6,rfl,by omega⟩,F,rfl⟩
    ·rintro i fr U _ bA ⟨⟨D,f9,aZ⟩,F,f4,f5,f6,f7,f8,f10,rfl⟩;have w1:IntKind.i64.wrap (((13:Nat):Int)*4)=52:=rfl;have w2:IntKind.i64.wrap (52*(D:Int))=((52*D:Nat):Int):=by rw[show (52*(D:Int))=((52*D:Nat):Int) from by omega,w64]<;>omega
     by_cases hi:i<52*D
     ·obtain⟨m,hm⟩:=yQ3 (l:=msL) (k:=i%13) (by show _<13;omega);obtain⟨u,hu⟩:=yQ3 (l:=utL) (k:=i / 13 / 4) (by show _<6;omega);obtain⟨x,bV,hx⟩:=aX.get hm;obtain⟨y,bU,hy⟩:=aU.get hu;have bx:=lMg hm;have bm:=lMg hu;have cq:=ms_w m bx;have be:=ut_w u bm;have bj:(((13:Nat):Int)=0)=False:=eq_false (by decide);have z4:((4:Int)=0)=False:=eq_false (by decide);have q1:(i:Int).tmod ((13:Nat):Int)=((i%13:Nat):Int):=rfl;have q2:IntKind.i64.wrap ((i:Int).tdiv ((13:Nat):Int))=((i / 13:Nat):Int):=by rw[show (i:Int).tdiv ((13:Nat):Int)=((i / 13:Nat):Int) from rfl,w64]<;>omega
      have q3:IntKind.i64.wrap (((i / 13:Nat):Int).tdiv 4)=((i / 13 / 4:Nat):Int):=by rw[show ((i / 13:Nat):Int).tdiv 4=((i / 13 / 4:Nat):Int) from rfl,w64]<;>omega
      have q4:((i / 13:Nat):Int).tmod 4=((i / 13%4:Nat):Int):=rfl;have aJ:=hx;have bb:=hy;obtain⟨o,n,t1,x1,t2,x2,rfl⟩:=hx.agg;obtain⟨v,E,ae⟩:=u;obtain⟨tu,xu,rfl,cn,ck⟩:=hy.mk;simp only[go_sem,zE,zB,zL,f5,f6,f9,f10,fits,aY,w1,w2,lt_i hi,bj,z4,q1,q2,q3,q4,iNn,bV,bU];refine yYh (λfr st' ds=>(∃sl xl,fr 13=.box [.sl ⟨true,.full,4⟩ xl,.sl ⟨true,.nil,0⟩ []]/\IsFms sl xl/\wFms sl<=6)/\frSm ms us [.raw (.int .u8 o),.raw (.string n),.sl t1 x1,.sl t2 x2] [.raw (.bool v),.raw (.string E),.sl tu xu] c r D i fr/\st'=U/\ds=[]) ?_ (λ_=>?_) (λ_=>?_)
      ·rintro fr st4 _ ⟨⟨sl,xl,f13,br,b4⟩,⟨f4,f5,f6,f7,f8,f9,f10,f11,f12⟩,rfl,rfl⟩;simp only[go_sem,zE,zL,f5,f10,aY,bj,z4,q2,q4];refine yYh (λfr st' ds=>(∃sr tr xr,fr 13=.box [.sl ⟨true,.full,4⟩ xl,.sl tr xr]/\okEs tr 4/\IsFms sr xr/\wFms sr<=6)/\frSm ms us [.raw (.int .u8 o),.raw (.string n),.sl t1 x1,.sl t2 x2] [.raw (.bool v),.raw (.string E),.sl tu xu] c r D i fr/\st'=st4/\ds=[]) ?_ (λ_=>?_) (λ_=>?_)
       ·rintro fr aw _ ⟨⟨sr,tr,xr,f13,bn,bq,b3⟩,⟨f4,f5,f6,f7,f8,f9,f10,f11,f12⟩,rfl,rfl⟩;simp only[go_sem,zE,zL,f8,f11,f12,f13]
        repeat (first
         | (refine (q_p gl _ _ _ _).mono ?_;rintro _ aw ⟨rfl,rfl⟩;simp only[go_sem,zE,zB,zA,zM,zS,zL,reduceCtorEq,fits,yQ1,yQ6,yQ7,decide_true,f4,f5,f6,f7,f8,f9,f10,f11,f12,f13])
         | (refine (q_no gl _ _ _ _ _ _ _).mono ?_;rintro _ aw ⟨rfl,rfl⟩;simp only[go_sem,zE,zB,zA,zM,zS,zL,reduceCtorEq,fits,yQ1,yQ6,yQ7,decide_true,f4,f5,f6,f7,f8,f9,f10,f11,f12,f13])
         | (refine (yG9 gl _ _ _ _ _ _ _ _ _ _ _ _ _ _).mono ?_;rintro _ aw ⟨rfl,rfl⟩;simp only[go_sem,zE,zB,zA,zM,zS,zL,reduceCtorEq,fits,yQ1,yQ6,yQ7,decide_true,f4,f5,f6,f7,f8,f9,f10,f11,f12,f13])
         | (refine (q_fs gl _ _ _).mono ?_;rintro _ aw ⟨rfl,rfl⟩;simp only[go_sem,zE,zB,zA,zM,zS,zL,reduceCtorEq,fits,yQ1,yQ6,yQ7,decide_true,f4,f5,f6,f7,f8,f9,f10,f11,f12,f13])
         | (refine (s1_c gl _ _).mono ?_;rintro _ aw ⟨rfl,rfl⟩;simp only[go_sem,zE,zB,zA,zM,zS,zL,reduceCtorEq,fits,yQ1,yQ6,yQ7,decide_true,f4,f5,f6,f7,f8,f9,f10,f11,f12,f13])
         | (refine (s2_c gl _ _ _ _ _ _ _ _).mono ?_;rintro _ aw ⟨rfl,rfl⟩;simp only[go_sem,zE,zB,zA,zM,zS,zL,reduceCtorEq,fits,yQ1,yQ6,yQ7,decide_true,f4,f5,f6,f7,f8,f9,f10,f11,f12,f13])
         | (refine (yKh gl _ _ _ _ _ _ _ _ _ _ _ _ _ _ _ _ _).mono ?_;rintro _ aw ⟨rfl,rfl⟩;simp only[go_sem,zE,zL,f7]))
        have bO:E.size<=1:=be.2;have bw:∀nm:ByteArray,nm.size<=1->xQ6 ⟨sl,sr⟩ m (.mk v E ae) nm=true:=λnm co=>by
         have:=be.1;simp only[xQ6,bAt,dTe,Bool.not_eq_true',decide_eq_false_iff_not];exact⟨⟨⟨by omega,by omega⟩,by omega⟩,by omega⟩
        have bc:∀subs tg xs,okEs tg 12->IsTrs subs xs->IsTr (.mk r ⟨sl,sr⟩ m (.mk v E ae) E subs) (.agg [.raw (.int .u8 (r:Int)),.sl ⟨true,.full,4⟩ xl,.sl tr xr,.raw (.int .u8 o),.raw (.string n),.sl t1 x1,.sl t2 x2,.raw (.bool v),.raw (.string E),.sl tu xu,.raw (.string E),.sl tg xs]):=λsubs tg xs h1 h2=>by
         simp only[IsTr];exact⟨_,_,_,_,_,_,_,_,_,_,_,_,_,_,_,_,rfl,by omega,.inr rfl,br,bn,bq,aJ,bb,h1,h2⟩
        have aL:∀subs,okTs subs=true->okT (.mk r ⟨sl,sr⟩ m (.mk v E ae) E subs)=true:=λsubs h=>by simp only[okT,bw E bO,h,Bool.and_self]
        refine ((zWj gl G T bB c _ _ (bc [] _ _ (.inl rfl) rfl) (aL [] rfl) (by simp[Tr.steps,yQp]) st bC).sub F).mono ?_;rintro _ ai ⟨rfl,rfl⟩;simp only[go_sem,zE,zL,f7];refine (xQz gl G T c _ _ (bc [] _ _ (.inl rfl) rfl) (aL [] rfl) (by simp[Tr.steps,yQp]) ai).mono ?_;rintro _ ai ⟨rfl,rfl⟩;simp only[go_sem,zE,zL,f7,f8,f11,f12];refine (zUv gl c r m _ aJ (by have:=yUf m;omega) (.mk v E ae) _ bb (by have:=yWl (.mk v E ae);have:=be.1;omega) E ai).mono ?_;rintro _ ai ⟨tg,xs,rfl,bQ,aT,rfl⟩;have O:=vYl c r bx bm;have bS:yVr c r m (.mk v E ae) (tmN (.mk v E ae))=yVr c r m (.mk v E ae) E:=rfl;rw[bS] at O;generalize yVr c r m (.mk v E ae) E=q at O aT ⊢;obtain⟨q,qe⟩:=q;simp only[go_sem,zE];refine LoopC.ctr 4 (λk fr st' ds=>frSm ms us [.raw (.int .u8 o),.raw (.string n),.sl t1 x1,.sl t2 x2] [.raw (.bool v),.raw (.string E),.sl tu xu] c r D i fr/\fr 13=.box [.sl ⟨true,.full,4⟩ xl,.sl tr xr]/\fr 15=.box [.raw (.int .u8 (r:Int)),.sl ⟨true,.full,4⟩ xl,.sl tr xr,.raw (.int .u8 o),.raw (.string n),.sl t1 x1,.sl t2 x2,.raw (.bool v),.raw (.string E),.sl tu xu,.raw (.string E),.sl ⟨true,.nil,0⟩ []]/\fr 16=.iv (.sl tg xs)/\fr 18=.iv (.raw (.int .i64 (k:Int)))/\subSt ai st'/\ds=[]) ?_ ?_ ?_
        ·simp only[go_sem,zE,f4,f5,f6,f7,f8,f9,f10,f11,f12,f13,frSm];exact⟨rfl,subSt.refl _⟩
        ·rintro k fr bK _ bz ⟨⟨f4,f5,f6,f7,f8,f9,f10,f11,f12⟩,f13,f15,f16,f18,az,rfl⟩;simp only[go_sem,zE,zL,f15,f18,show decide ((k:Int)<4)=true from dEt (by omega)];refine LoopC.ctr q.length (λj fr st' ds=>(∃subs tS ss,fr 19=.box [.raw (.int .u8 (r:Int)),.sl ⟨true,.full,4⟩ xl,.sl tr xr,.raw (.int .u8 o),.raw (.string n),.sl t1 x1,.sl t2 x2,.raw (.bool v),.raw (.string E),.sl tu xu,.raw (.string E),.sl tS ss]/\IsTrs subs ss/\okTs subs=true/\yQp subs=j/\subs.length=j/\own st' tS j 12 ai)/\frSm ms us [.raw (.int .u8 o),.raw (.string n),.sl t1 x1,.sl t2 x2] [.raw (.bool v),.raw (.string E),.sl tu xu] c r D i fr/\fr 13=.box [.sl ⟨true,.full,4⟩ xl,.sl tr xr]/\fr 15=.box [.raw (.int .u8 (r:Int)),.sl ⟨true,.full,4⟩ xl,.sl tr xr,.raw (.int .u8 o),.raw (.string n),.sl t1 x1,.sl t2 x2,.raw (.bool v),.raw (.string E),.sl tu xu,.raw (.string E),.sl ⟨true,.nil,0⟩ []]/\fr 16=.iv (.sl tg xs)/\fr 18=.iv (.raw (.int .i64 (k:Int)))/\fr 20=.iv (.raw (.int .i64 (j:Int)))/\subSt ai st'/\ds=[]) ?_ ?_ ?_
         ·simp only[go_sem,zE,f4,f5,f6,f7,f8,f9,f10,f11,f12,f13,f15,f16,f18,frSm];exact⟨⟨[],_,[],rfl,rfl,rfl,rfl,rfl,own.nil _ _ _ _ _⟩,rfl,az⟩
         ·rintro j fr ac _ aM ⟨⟨subs,tS,ss,f19,af,aG,aC,ag,aD⟩,⟨f4,f5,f6,f7,f8,f9,f10,f11,f12⟩,f13,f15,f16,f18,f20,ab,rfl⟩;obtain⟨sN,bs⟩:=yQ3 aM;obtain⟨z,bT,hz⟩:=aT.get bs;have cm:=O.2 sN (lMg bs);have bN:=hz;obtain⟨_,_,_,_,rfl,_⟩:=hz;simp only[go_sem,zE,zB,f16,f20,fits,aT.len,lt_i aM,yQ2 bQ,iNn,bT];intros;have cj:=yXg sN.l;have ci:=yXg sN.r;refine (wQc gl sN _ bN (by omega) (by omega) ac).mono ?_;rintro _ A ⟨ta,ya,tb,yb,rfl,aW,aI,aV,aH,J⟩;have aN:∀(sa sb:List Fm) (av au:Tag) (aq ao:List IV),okEs av 4->IsFms sa aq->wFms sa<=70->okEs au 4->IsFms sb ao->wFms sb<=70->IsTrs (subs++[.mk 1 ⟨sa,sb⟩ zQ tm0 bE []]) (ss++[.agg [.raw (.int .u8 1),.sl av aq,.sl au ao,.raw (.int .u8 1),.raw (.string ⟨#[81]⟩),.sl ⟨true,.nil,0⟩ [],.sl ⟨true,.nil,0⟩ [],.raw (.bool false),.raw (.string ⟨#[]⟩),.sl ⟨true,.nil,0⟩ [],.raw (.string ⟨#[]⟩),.sl ⟨true,.nil,0⟩ []]])/\okTs (subs++[.mk 1 ⟨sa,sb⟩ zQ tm0 bE []])=true/\yQp (subs++[.mk 1 ⟨sa,sb⟩ zQ tm0 bE []])=j+1/\(subs++[Tr.mk 1 ⟨sa,sb⟩ zQ tm0 bE []]).length=j+1:=λsa sb av au aq ao h1 h2 h3 h4 h5 h6=>by
           refine⟨af.append ⟨_,_,rfl,?_,rfl⟩,?_,?_,by rw[lLa,ag];rfl⟩
           ·simp only[IsTr];exact⟨_,_,_,_,_,_,_,_,_,_,_,_,_,_,_,_,rfl,by omega,h1,h2,h4,h5,is_Q,zGk,.inl rfl,rfl⟩
           ·rw[zQi,aG];simp only[okTs,okT,xQ6,Bool.true_and,Bool.and_true,bAt,dTe,Bool.not_eq_true',decide_eq_false_iff_not];exact⟨⟨⟨by omega,by decide⟩,by decide⟩,by decide⟩
           ·rw[yJp,aC];rfl
          have bh:=yQb aM (show q.length<=281474976710656 by have:q.length<=2:=O.1;omega);have bW:q.length<=2:=O.1;have bg:∀st',subSt ac st'->own st' tS j 12 ai:=λst' h=>aD.mono λg hg _=>h g _ hg;have hll:=yQs sN.l;have cr:=yQs sN.r;have f21:=True.intro;by_cases k1:k=1
          ·have e1:decide ((k:Int)=1)=true:=dEt (by omega);have e3:decide ((k:Int)=2)=false:=dEf (by omega);simp only[go_sem,zE,zL,f16,f18,f20,e1];intros;refine yYh (λfr st' ds=>(∃aS av aq,fr 21=.box [.sl av aq,.sl tb yb]/\okEs av 4/\IsFms aS aq/\wFms aS<=70)/\(frSm ms us [.raw (.int .u8 o),.raw (.string n),.sl t1 x1,.sl t2 x2] [.raw (.bool v),.raw (.string E),.sl tu xu] c r D i fr/\fr 13=.box [.sl ⟨true,.full,4⟩ xl,.sl tr xr]/\fr 15=.box [.raw (.int .u8 (r:Int)),.sl ⟨true,.full,4⟩ xl,.sl tr xr,.raw (.int .u8 o),.raw (.string n),.sl t1 x1,.sl t2 x2,.raw (.bool v),.raw (.string E),.sl tu xu,.raw (.string E),.sl ⟨true,.nil,0⟩ []]/\fr 16=.iv (.sl tg xs)/\fr 18=.iv (.raw (.int .i64 (k:Int)))/\fr 19=.box [.raw (.int .u8 (r:Int)),.sl ⟨true,.full,4⟩ xl,.sl tr xr,.raw (.int .u8 o),.raw (.string n),.sl t1 x1,.sl t2 x2,.raw (.bool v),.raw (.string E),.sl tu xu,.raw (.string E),.sl tS ss]/\fr 20=.iv (.raw (.int .i64 (j:Int))))/\subSt ac st'/\ds=[]) ?_ (λ_=>?_) (λ_=>?_)
           ·rintro fr A _ ⟨⟨aS,av,aq,f21,bp,bl,bd⟩,⟨⟨f4,f5,f6,f7,f8,f9,f10,f11,f12⟩,f13,f15,f16,f18,f19,f20⟩,J,rfl⟩;simp only[go_sem,zE,zL,f4,f18,f19,f21,e3]
            repeat (first
             | (refine (q_p gl _ _ _ _).mono ?_;rintro _ A ⟨rfl,rfl⟩;simp only[go_sem,zE,zB,zA,zM,zS,zL,reduceCtorEq,fits,yQ1,yQ6,yQ7,decide_true,f4,f5,f6,f7,f8,f9,f10,f11,f12,f13,f15,f16,f18,f19,f20,f21])
             | (refine (q_no gl _ _ _ _ _ _ _).mono ?_;rintro _ A ⟨rfl,rfl⟩;simp only[go_sem,zE,zB,zA,zM,zS,zL,reduceCtorEq,fits,yQ1,yQ6,yQ7,decide_true,f4,f5,f6,f7,f8,f9,f10,f11,f12,f13,f15,f16,f18,f19,f20,f21])
             | (refine (yG9 gl _ _ _ _ _ _ _ _ _ _ _ _ _ _).mono ?_;rintro _ A ⟨rfl,rfl⟩;simp only[go_sem,zE,zB,zA,zM,zS,zL,reduceCtorEq,fits,yQ1,yQ6,yQ7,decide_true,f4,f5,f6,f7,f8,f9,f10,f11,f12,f13,f15,f16,f18,f19,f20,f21])
             | (refine (q_fs gl _ _ _).mono ?_;rintro _ A ⟨rfl,rfl⟩;simp only[go_sem,zE,zB,zA,zM,zS,zL,reduceCtorEq,fits,yQ1,yQ6,yQ7,decide_true,f4,f5,f6,f7,f8,f9,f10,f11,f12,f13,f15,f16,f18,f19,f20,f21])
             | (refine (s1_c gl _ _).mono ?_;rintro _ A ⟨rfl,rfl⟩;simp only[go_sem,zE,zB,zA,zM,zS,zL,reduceCtorEq,fits,yQ1,yQ6,yQ7,decide_true,f4,f5,f6,f7,f8,f9,f10,f11,f12,f13,f15,f16,f18,f19,f20,f21])
             | (refine (s2_c gl _ _ _ _ _ _ _ _).mono ?_;rintro _ A ⟨rfl,rfl⟩;simp only[go_sem,zE,zB,zA,zM,zS,zL,reduceCtorEq,fits,yQ1,yQ6,yQ7,decide_true,f4,f5,f6,f7,f8,f9,f10,f11,f12,f13,f15,f16,f18,f19,f20,f21])
             | (refine (yKh gl _ _ _ _ _ _ _ _ _ _ _ _ _ _ _ _ _).mono ?_;rintro _ A ⟨rfl,rfl⟩;simp only[go_sem,zE,zM,zL,fits,yQ1]))
            refine yKw (bg _ J) (af.len.trans ag) (by simp) (ab.trans J) rfl (by simp[fits,IV.one]) (by show (j+1)*216<=_;omega) (by show j+1<=_;omega) λa1 aA W aa _=>?_;simp only[go_sem,zE,zL,f4,f5,f6,f7,f8,f9,f10,f11,f12,f13,f15,f16,f18,f19,f20,frSm,bh];obtain⟨g1,g2,g3,g4⟩:=aN aS sN.r _ _ _ _ bp bl bd aV.es aH.1 (by omega);exact⟨⟨_,_,_,rfl,g1,g2,g3,g4,W⟩,aa⟩
           ·simp only[go_sem,zE]
            repeat (first
             | (refine (q_p gl _ _ _ _).mono ?_;rintro _ A ⟨rfl,rfl⟩;simp only[go_sem,zE,zM,zL,fits,yQ1])
             | (refine (q_no gl _ _ _ _ _ _ _).mono ?_;rintro _ A ⟨rfl,rfl⟩;simp only[go_sem,zE,zB,zA,zM,zS,zL,reduceCtorEq,fits,yQ1,yQ6,yQ7,decide_true,f4,f5,f6,f7,f8,f9,f10,f11,f12,f13,f15,f16,f18,f19,f20])
             | (refine (yG9 gl _ _ _ _ _ _ _ _ _ _ _ _ _ _).mono ?_;rintro _ A ⟨rfl,rfl⟩;simp only[go_sem,zE,zB,zA,zM,zS,zL,reduceCtorEq,fits,yQ1,yQ6,yQ7,decide_true,f4,f5,f6,f7,f8,f9,f10,f11,f12,f13,f15,f16,f18,f19,f20])
             | (refine (q_fs gl _ _ _).mono ?_;rintro _ A ⟨rfl,rfl⟩;simp only[go_sem,zE,zB,zA,zM,zS,zL,reduceCtorEq,fits,yQ1,yQ6,yQ7,decide_true,f4,f5,f6,f7,f8,f9,f10,f11,f12,f13,f15,f16,f18,f19,f20])
             | (refine (s1_c gl _ _).mono ?_;rintro _ A ⟨rfl,rfl⟩;simp only[go_sem,zE,zB,zA,zM,zS,zL,reduceCtorEq,fits,yQ1,yQ6,yQ7,decide_true,f4,f5,f6,f7,f8,f9,f10,f11,f12,f13,f15,f16,f18,f19,f20])
             | (refine (s2_c gl _ _ _ _ _ _ _ _).mono ?_;rintro _ A ⟨rfl,rfl⟩;simp only[go_sem,zE,zB,zA,zM,zS,zL,reduceCtorEq,fits,yQ1,yQ6,yQ7,decide_true,f4,f5,f6,f7,f8,f9,f10,f11,f12,f13,f15,f16,f18,f19,f20])
             | (refine (yKh gl _ _ _ _ _ _ _ _ _ _ _ _ _ _ _ _ _).mono ?_;rintro _ A ⟨rfl,rfl⟩;simp only[go_sem,zE,zB,zA,zM,zS,zL,reduceCtorEq,fits,yQ1,yQ6,yQ7,decide_true,f4,f5,f6,f7,f8,f9,f10,f11,f12,f13,f15,f16,f18,f19,f20]))
            refine yKw aW aI.1.len (by simp) J rfl (by simp[fits,IV.one]) (by show (_+1)*72<=_;omega) (by show _+1<=_;omega) λcd aA bu aK _=>?_;simp only[go_sem,zE,zL,f4,f5,f6,f7,f8,f9,f10,f11,f12,f13,f15,f16,f18,f19,f20,frSm];exact⟨⟨sN.l++[.mk 1 ⟨#[83]⟩ [] []],_,_,rfl,bu.es,aI.1.append ⟨_,_,rfl,is_S,rfl⟩,by rw[yW4];rw[show wFms [.mk 1 ⟨#[83]⟩ [] []]=1 from by decide];omega⟩,aK⟩
           ·simp only[go_sem,zE,f4,f5,f6,f7,f8,f9,f10,f11,f12,f13,f15,f16,f18,f19,f20,frSm];exact⟨⟨sN.l,_,_,rfl,aW.es,aI.1,by omega⟩,J⟩
          by_cases k2:k=2
          ·have e1:decide ((k:Int)=1)=false:=dEf (by omega);have e3:decide ((k:Int)=2)=true:=dEt (by omega);simp only[go_sem,zE,zL,f18,f20,e1,e3];refine yYh (λfr st' ds=>(∃aQ au ao,fr 21=.box [.sl ta ya,.sl au ao]/\okEs au 4/\IsFms aQ ao/\wFms aQ<=70)/\(frSm ms us [.raw (.int .u8 o),.raw (.string n),.sl t1 x1,.sl t2 x2] [.raw (.bool v),.raw (.string E),.sl tu xu] c r D i fr/\fr 13=.box [.sl ⟨true,.full,4⟩ xl,.sl tr xr]/\fr 15=.box [.raw (.int .u8 (r:Int)),.sl ⟨true,.full,4⟩ xl,.sl tr xr,.raw (.int .u8 o),.raw (.string n),.sl t1 x1,.sl t2 x2,.raw (.bool v),.raw (.string E),.sl tu xu,.raw (.string E),.sl ⟨true,.nil,0⟩ []]/\fr 16=.iv (.sl tg xs)/\fr 18=.iv (.raw (.int .i64 (k:Int)))/\fr 19=.box [.raw (.int .u8 (r:Int)),.sl ⟨true,.full,4⟩ xl,.sl tr xr,.raw (.int .u8 o),.raw (.string n),.sl t1 x1,.sl t2 x2,.raw (.bool v),.raw (.string E),.sl tu xu,.raw (.string E),.sl tS ss]/\fr 20=.iv (.raw (.int .i64 (j:Int))))/\subSt ac st'/\ds=[]) ?_ (λ_=>?_) (λ_=>?_)
           ·rintro fr A _ ⟨⟨aQ,au,ao,f21,bo,bk,bd⟩,⟨⟨f4,f5,f6,f7,f8,f9,f10,f11,f12⟩,f13,f15,f16,f18,f19,f20⟩,J,rfl⟩;simp only[go_sem,zE,zL,f4,f19,f21]
            repeat (first
             | (refine (q_p gl _ _ _ _).mono ?_;rintro _ A ⟨rfl,rfl⟩;simp only[go_sem,zE,zB,zA,zM,zS,zL,reduceCtorEq,fits,yQ1,yQ6,yQ7,decide_true,f4,f5,f6,f7,f8,f9,f10,f11,f12,f13,f15,f16,f18,f19,f20,f21])
             | (refine (q_no gl _ _ _ _ _ _ _).mono ?_;rintro _ A ⟨rfl,rfl⟩;simp only[go_sem,zE,zB,zA,zM,zS,zL,reduceCtorEq,fits,yQ1,yQ6,yQ7,decide_true,f4,f5,f6,f7,f8,f9,f10,f11,f12,f13,f15,f16,f18,f19,f20,f21])
             | (refine (yG9 gl _ _ _ _ _ _ _ _ _ _ _ _ _ _).mono ?_;rintro _ A ⟨rfl,rfl⟩;simp only[go_sem,zE,zB,zA,zM,zS,zL,reduceCtorEq,fits,yQ1,yQ6,yQ7,decide_true,f4,f5,f6,f7,f8,f9,f10,f11,f12,f13,f15,f16,f18,f19,f20,f21])
             | (refine (q_fs gl _ _ _).mono ?_;rintro _ A ⟨rfl,rfl⟩;simp only[go_sem,zE,zB,zA,zM,zS,zL,reduceCtorEq,fits,yQ1,yQ6,yQ7,decide_true,f4,f5,f6,f7,f8,f9,f10,f11,f12,f13,f15,f16,f18,f19,f20,f21])
             | (refine (s1_c gl _ _).mono ?_;rintro _ A ⟨rfl,rfl⟩;simp only[go_sem,zE,zB,zA,zM,zS,zL,reduceCtorEq,fits,yQ1,yQ6,yQ7,decide_true,f4,f5,f6,f7,f8,f9,f10,f11,f12,f13,f15,f16,f18,f19,f20,f21])
             | (refine (s2_c gl _ _ _ _ _ _ _ _).mono ?_;rintro _ A ⟨rfl,rfl⟩;simp only[go_sem,zE,zB,zA,zM,zS,zL,reduceCtorEq,fits,yQ1,yQ6,yQ7,decide_true,f4,f5,f6,f7,f8,f9,f10,f11,f12,f13,f15,f16,f18,f19,f20,f21])
             | (refine (yKh gl _ _ _ _ _ _ _ _ _ _ _ _ _ _ _ _ _).mono ?_;rintro _ A ⟨rfl,rfl⟩;simp only[go_sem,zE,zM,zL,fits,yQ1]))
            refine yKw (bg _ J) (af.len.trans ag) (by simp) (ab.trans J) rfl (by simp[fits,IV.one]) (by show (j+1)*216<=_;omega) (by show j+1<=_;omega) λa1 aA W aa _=>?_;simp only[go_sem,zE,zL,f4,f5,f6,f7,f8,f9,f10,f11,f12,f13,f15,f16,f18,f19,f20,frSm,bh];obtain⟨g1,g2,g3,g4⟩:=aN sN.l aQ _ _ _ _ aW.es aI.1 (by omega) bo bk bd;exact⟨⟨_,_,_,rfl,g1,g2,g3,g4,W⟩,aa⟩
           ·simp only[go_sem,zE,zM,zL,f4,fits,yQ1]
            repeat (first
             | (refine (q_p gl _ _ _ _).mono ?_;rintro _ A ⟨rfl,rfl⟩;simp only[go_sem,zE,zB,zA,zM,zS,zL,reduceCtorEq,fits,yQ1,yQ6,yQ7,decide_true,f4,f5,f6,f7,f8,f9,f10,f11,f12,f13,f15,f16,f18,f19,f20])
             | (refine (q_no gl _ _ _ _ _ _ _).mono ?_;rintro _ A ⟨rfl,rfl⟩;simp only[go_sem,zE,zB,zA,zM,zS,zL,reduceCtorEq,fits,yQ1,yQ6,yQ7,decide_true,f4,f5,f6,f7,f8,f9,f10,f11,f12,f13,f15,f16,f18,f19,f20])
             | (refine (yG9 gl _ _ _ _ _ _ _ _ _ _ _ _ _ _).mono ?_;rintro _ A ⟨rfl,rfl⟩;simp only[go_sem,zE,zB,zA,zM,zS,zL,reduceCtorEq,fits,yQ1,yQ6,yQ7,decide_true,f4,f5,f6,f7,f8,f9,f10,f11,f12,f13,f15,f16,f18,f19,f20])
             | (refine (q_fs gl _ _ _).mono ?_;rintro _ A ⟨rfl,rfl⟩;simp only[go_sem,zE,zB,zA,zM,zS,zL,reduceCtorEq,fits,yQ1,yQ6,yQ7,decide_true,f4,f5,f6,f7,f8,f9,f10,f11,f12,f13,f15,f16,f18,f19,f20])
             | (refine (s1_c gl _ _).mono ?_;rintro _ A ⟨rfl,rfl⟩;simp only[go_sem,zE,zB,zA,zM,zS,zL,reduceCtorEq,fits,yQ1,yQ6,yQ7,decide_true,f4,f5,f6,f7,f8,f9,f10,f11,f12,f13,f15,f16,f18,f19,f20])
             | (refine (s2_c gl _ _ _ _ _ _ _ _).mono ?_;rintro _ A ⟨rfl,rfl⟩;simp only[go_sem,zE,zB,zA,zM,zS,zL,reduceCtorEq,fits,yQ1,yQ6,yQ7,decide_true,f4,f5,f6,f7,f8,f9,f10,f11,f12,f13,f15,f16,f18,f19,f20])
             | (refine (yKh gl _ _ _ _ _ _ _ _ _ _ _ _ _ _ _ _ _).mono ?_;rintro _ A ⟨rfl,rfl⟩;simp only[go_sem,zE,zB,zA,zM,zS,zL,reduceCtorEq,fits,yQ1,yQ6,yQ7,decide_true,f4,f5,f6,f7,f8,f9,f10,f11,f12,f13,f15,f16,f18,f19,f20]))
            refine yKw aV aH.1.len (by simp) J rfl (by simp[fits,IV.one]) (by show (_+1)*72<=_;omega) (by show _+1<=_;omega) λcb aA bt aK _=>?_;simp only[go_sem,zE,zL,f4,f5,f6,f7,f8,f9,f10,f11,f12,f13,f15,f16,f18,f19,f20,frSm];exact⟨⟨sN.r++[zQ],_,_,rfl,bt.es,aH.1.append ⟨_,_,rfl,is_Q,rfl⟩,by rw[yW4];rw[show wFms [zQ]=1 from by decide];omega⟩,aK⟩
           ·simp only[go_sem,zE,f4,f5,f6,f7,f8,f9,f10,f11,f12,f13,f15,f16,f18,f19,f20,frSm];exact⟨⟨sN.r,_,_,rfl,aV.es,aH.1,by omega⟩,J⟩
          ·have e1:decide ((k:Int)=1)=false:=dEf (by omega);have e3:decide ((k:Int)=2)=false:=dEf (by omega);simp only[go_sem,zE,zL,f4,f18,f19,e1,e3]
           repeat (first
            | (refine (q_p gl _ _ _ _).mono ?_;rintro _ A ⟨rfl,rfl⟩;simp only[go_sem,zE,zB,zA,zM,zS,zL,reduceCtorEq,fits,yQ1,yQ6,yQ7,decide_true,f4,f5,f6,f7,f8,f9,f10,f11,f12,f13,f15,f16,f18,f19,f20,f21])
            | (refine (q_no gl _ _ _ _ _ _ _).mono ?_;rintro _ A ⟨rfl,rfl⟩;simp only[go_sem,zE,zB,zA,zM,zS,zL,reduceCtorEq,fits,yQ1,yQ6,yQ7,decide_true,f4,f5,f6,f7,f8,f9,f10,f11,f12,f13,f15,f16,f18,f19,f20,f21])
            | (refine (yG9 gl _ _ _ _ _ _ _ _ _ _ _ _ _ _).mono ?_;rintro _ A ⟨rfl,rfl⟩;simp only[go_sem,zE,zB,zA,zM,zS,zL,reduceCtorEq,fits,yQ1,yQ6,yQ7,decide_true,f4,f5,f6,f7,f8,f9,f10,f11,f12,f13,f15,f16,f18,f19,f20,f21])
            | (refine (q_fs gl _ _ _).mono ?_;rintro _ A ⟨rfl,rfl⟩;simp only[go_sem,zE,zB,zA,zM,zS,zL,reduceCtorEq,fits,yQ1,yQ6,yQ7,decide_true,f4,f5,f6,f7,f8,f9,f10,f11,f12,f13,f15,f16,f18,f19,f20,f21])
            | (refine (s1_c gl _ _).mono ?_;rintro _ A ⟨rfl,rfl⟩;simp only[go_sem,zE,zB,zA,zM,zS,zL,reduceCtorEq,fits,yQ1,yQ6,yQ7,decide_true,f4,f5,f6,f7,f8,f9,f10,f11,f12,f13,f15,f16,f18,f19,f20,f21])
            | (refine (s2_c gl _ _ _ _ _ _ _ _).mono ?_;rintro _ A ⟨rfl,rfl⟩;simp only[go_sem,zE,zB,zA,zM,zS,zL,reduceCtorEq,fits,yQ1,yQ6,yQ7,decide_true,f4,f5,f6,f7,f8,f9,f10,f11,f12,f13,f15,f16,f18,f19,f20,f21])
            | (refine (yKh gl _ _ _ _ _ _ _ _ _ _ _ _ _ _ _ _ _).mono ?_;rintro _ A ⟨rfl,rfl⟩;simp only[go_sem,zE,zM,zL,fits,yQ1]))
           refine yKw (bg _ J) (af.len.trans ag) (by simp) (ab.trans J) rfl (by simp[fits,IV.one]) (by show (j+1)*216<=_;omega) (by show j+1<=_;omega) λa1 aA W aa _=>?_;simp only[go_sem,zE,zL,f4,f5,f6,f7,f8,f9,f10,f11,f12,f13,f15,f16,f18,f19,f20,frSm,bh];obtain⟨g1,g2,g3,g4⟩:=aN sN.l sN.r _ _ _ _ aW.es aI.1 (by omega) aV.es aH.1 (by omega);exact⟨⟨_,_,_,rfl,g1,g2,g3,g4,W⟩,aa⟩
         ·rintro fr ac _ ⟨⟨subs,tS,ss,f19,af,aG,aC,ag,aD⟩,⟨f4,f5,f6,f7,f8,f9,f10,f11,f12⟩,f13,f15,f16,f18,f20,ab,rfl⟩;have bW:q.length<=2:=O.1;simp only[go_sem,zE,f16,f18,f20,aT.len,yQj (nLi _)];intros;refine yYh (λfr st' ds=>(∃subs tS ss,fr 19=.box [.raw (.int .u8 (r:Int)),.sl ⟨true,.full,4⟩ xl,.sl tr xr,.raw (.int .u8 o),.raw (.string n),.sl t1 x1,.sl t2 x2,.raw (.bool v),.raw (.string E),.sl tu xu,.raw (.string E),.sl tS ss]/\okEs tS 12/\IsTrs subs ss/\okTs subs=true/\yQp subs<=5)/\frSm ms us [.raw (.int .u8 o),.raw (.string n),.sl t1 x1,.sl t2 x2] [.raw (.bool v),.raw (.string E),.sl tu xu] c r D i fr/\fr 13=.box [.sl ⟨true,.full,4⟩ xl,.sl tr xr]/\fr 15=.box [.raw (.int .u8 (r:Int)),.sl ⟨true,.full,4⟩ xl,.sl tr xr,.raw (.int .u8 o),.raw (.string n),.sl t1 x1,.sl t2 x2,.raw (.bool v),.raw (.string E),.sl tu xu,.raw (.string E),.sl ⟨true,.nil,0⟩ []]/\fr 16=.iv (.sl tg xs)/\fr 18=.iv (.raw (.int .i64 (k:Int)))/\subSt ai st'/\ds=[]) ?_ (λ_=>?_) (λ_=>?_)
          ·rintro fr a6 _ ⟨⟨subs,tS,ss,f19,bR,af,aG,aC⟩,⟨f4,f5,f6,f7,f8,f9,f10,f11,f12⟩,f13,f15,f16,f18,ay,rfl⟩;simp only[go_sem,zE,zL,f7,f19];refine (xQz gl G T c _ _ (bc subs tS ss bR af) (aL subs aG) (by simp only[Tr.steps];omega) a6).mono ?_;rintro _ a6 ⟨rfl,rfl⟩;simp only[go_sem,zE,f4,f5,f6,f7,f8,f9,f10,f11,f12,f13,f15,f16,f18,yQb bz (show 4<=281474976710656 by omega),frSm];exact ay
          ·simp only[go_sem,zE,zL,f11,f12,f13,f19]
           repeat (first
            | (refine (q_p gl _ _ _ _).mono ?_;rintro _ ac ⟨rfl,rfl⟩;simp only[go_sem,zE,zB,zA,zM,zS,zL,reduceCtorEq,fits,yQ1,yQ6,yQ7,decide_true,f4,f5,f6,f7,f8,f9,f10,f11,f12,f13,f15,f16,f18,f19])
            | (refine (q_no gl _ _ _ _ _ _ _).mono ?_;rintro _ ac ⟨rfl,rfl⟩;simp only[go_sem,zE,zB,zA,zM,zS,zL,reduceCtorEq,fits,yQ1,yQ6,yQ7,decide_true,f4,f5,f6,f7,f8,f9,f10,f11,f12,f13,f15,f16,f18,f19])
            | (refine (yG9 gl _ _ _ _ _ _ _ _ _ _ _ _ _ _).mono ?_;rintro _ ac ⟨rfl,rfl⟩;simp only[go_sem,zE,zB,zA,zM,zS,zL,reduceCtorEq,fits,yQ1,yQ6,yQ7,decide_true,f4,f5,f6,f7,f8,f9,f10,f11,f12,f13,f15,f16,f18,f19])
            | (refine (q_fs gl _ _ _).mono ?_;rintro _ ac ⟨rfl,rfl⟩;simp only[go_sem,zE,zB,zA,zM,zS,zL,reduceCtorEq,fits,yQ1,yQ6,yQ7,decide_true,f4,f5,f6,f7,f8,f9,f10,f11,f12,f13,f15,f16,f18,f19])
            | (refine (s1_c gl _ _).mono ?_;rintro _ ac ⟨rfl,rfl⟩;simp only[go_sem,zE,zB,zA,zM,zS,zL,reduceCtorEq,fits,yQ1,yQ6,yQ7,decide_true,f4,f5,f6,f7,f8,f9,f10,f11,f12,f13,f15,f16,f18,f19])
            | (refine (s2_c gl _ _ _ _ _ _ _ _).mono ?_;rintro _ ac ⟨rfl,rfl⟩;simp only[go_sem,zE,zB,zA,zM,zS,zL,reduceCtorEq,fits,yQ1,yQ6,yQ7,decide_true,f4,f5,f6,f7,f8,f9,f10,f11,f12,f13,f15,f16,f18,f19])
            | (refine (yKh gl _ _ _ _ _ _ _ _ _ _ _ _ _ _ _ _ _).mono ?_;rintro _ ac ⟨rfl,rfl⟩;simp only[go_sem,zE,zM,zL,fits,yQ1]))
           refine yKw aD (af.len.trans ag) (by simp) ab rfl (by simp[fits,IV.one]) (by show (q.length+1)*216<=_;omega) (by show q.length+1<=_;omega) λa1 a6 W ay _=>?_;simp only[go_sem,zE,zL,f4,f5,f6,f7,f8,f9,f10,f11,f12,f13,f15,f16,f18,f19,frSm];refine⟨⟨subs++[.mk 2 ⟨sl,sr⟩ m (.mk v E ae) bE []],_,_,rfl,W.es,af.append ⟨_,_,rfl,?_,rfl⟩,?_,?_⟩,ay⟩
           ·simp only[IsTr];exact⟨_,_,_,_,_,_,_,_,_,_,_,_,_,_,_,_,rfl,by omega,.inr rfl,br,bn,bq,aJ,bb,.inl rfl,rfl⟩
           ·rw[zQi,aG];simp only[okTs,okT,bw bE (by decide),Bool.and_self]
           ·rw[yJp,aC];simp only[yQp,Tr.steps];omega
          ·simp only[go_sem,zE,f4,f5,f6,f7,f8,f9,f10,f11,f12,f13,f15,f16,f18,f19,frSm];exact⟨⟨subs,tS,ss,rfl,aD.es,af,aG,by omega⟩,ab⟩
        ·rintro fr bK _ ⟨⟨f4,f5,f6,f7,f8,f9,f10,f11,f12⟩,f13,f15,f16,f18,az,rfl⟩;simp only[go_sem,zE,f4,f5,f6,f7,f8,f9,f10,f18,show decide (((4:Nat):Int)<4)=false from rfl,yQb bA (show 312<=281474976710656 by omega)];exact⟨⟨D,rfl,aZ⟩,az⟩
       ·simp only[go_sem,zE,zM,zL,f11,fits,yQ1]
        repeat (first
         | (refine (q_p gl _ _ _ _).mono ?_;rintro _ st4 ⟨rfl,rfl⟩;simp only[go_sem,zE,zB,zA,zM,zS,zL,reduceCtorEq,fits,yQ1,yQ6,yQ7,decide_true,f4,f5,f6,f7,f8,f9,f10,f11,f12,f13,frSm])
         | (refine (q_no gl _ _ _ _ _ _ _).mono ?_;rintro _ st4 ⟨rfl,rfl⟩;simp only[go_sem,zE,zB,zA,zM,zS,zL,reduceCtorEq,fits,yQ1,yQ6,yQ7,decide_true,f4,f5,f6,f7,f8,f9,f10,f11,f12,f13,frSm])
         | (refine (yG9 gl _ _ _ _ _ _ _ _ _ _ _ _ _ _).mono ?_;rintro _ st4 ⟨rfl,rfl⟩;simp only[go_sem,zE,zB,zA,zM,zS,zL,reduceCtorEq,fits,yQ1,yQ6,yQ7,decide_true,f4,f5,f6,f7,f8,f9,f10,f11,f12,f13,frSm])
         | (refine (q_fs gl _ _ _).mono ?_;rintro _ st4 ⟨rfl,rfl⟩;simp only[go_sem,zE,zL,f4,f5,f6,f7,f8,f9,f10,f11,f12,f13,frSm])
         | (refine (s1_c gl _ _).mono ?_;rintro _ st4 ⟨rfl,rfl⟩;simp only[go_sem,zE,zB,zA,zM,zS,zL,reduceCtorEq,fits,yQ1,yQ6,yQ7,decide_true,f4,f5,f6,f7,f8,f9,f10,f11,f12,f13,frSm])
         | (refine (s2_c gl _ _ _ _ _ _ _ _).mono ?_;rintro _ st4 ⟨rfl,rfl⟩;simp only[go_sem,zE,zB,zA,zM,zS,zL,reduceCtorEq,fits,yQ1,yQ6,yQ7,decide_true,f4,f5,f6,f7,f8,f9,f10,f11,f12,f13,frSm])
         | (refine (yKh gl _ _ _ _ _ _ _ _ _ _ _ _ _ _ _ _ _).mono ?_;rintro _ st4 ⟨rfl,rfl⟩;simp only[go_sem,zE,zB,zA,zM,zS,zL,reduceCtorEq,fits,yQ1,yQ6,yQ7,decide_true,f4,f5,f6,f7,f8,f9,f10,f11,f12,f13,frSm]))
        exact⟨[m],_,_,rfl,.inr rfl,⟨_,_,rfl,aJ,rfl⟩,by simp only[wFms];omega⟩
       ·simp only[go_sem,zE,f4,f5,f6,f7,f8,f9,f10,f11,f12,f13,frSm];exact⟨[],_,_,rfl,.inl rfl,rfl,Nat.zero_le _⟩
      ·simp only[go_sem,zE,zM,zL,f4,fits,yQ6]
       repeat (first
        | (refine (q_p gl _ _ _ _).mono ?_;rintro _ U ⟨rfl,rfl⟩;simp only[go_sem,zE,zB,zA,zM,zS,zL,reduceCtorEq,fits,yQ1,yQ6,yQ7,decide_true,f4,f5,f6,f7,f8,f9,f10,frSm])
        | (refine (q_no gl _ _ _ _ _ _ _).mono ?_;rintro _ U ⟨rfl,rfl⟩;simp only[go_sem,zE,zB,zA,zM,zS,zL,reduceCtorEq,fits,yQ1,yQ6,yQ7,decide_true,f4,f5,f6,f7,f8,f9,f10,frSm])
        | (refine (yG9 gl _ _ _ _ _ _ _ _ _ _ _ _ _ _).mono ?_;rintro _ U ⟨rfl,rfl⟩;simp only[go_sem,zE,zB,zA,zM,zS,zL,reduceCtorEq,fits,yQ1,yQ6,yQ7,decide_true,f4,f5,f6,f7,f8,f9,f10,frSm])
        | (refine (q_fs gl _ _ _).mono ?_;rintro _ U ⟨rfl,rfl⟩;simp only[go_sem,zE,zL,f4,f5,f6,f7,f8,f9,f10,frSm])
        | (refine (s1_c gl _ _).mono ?_;rintro _ U ⟨rfl,rfl⟩;simp only[go_sem,zE,zB,zA,zM,zS,zL,reduceCtorEq,fits,yQ1,yQ6,yQ7,decide_true,f4,f5,f6,f7,f8,f9,f10,frSm])
        | (refine (s2_c gl _ _ _ _ _ _ _ _).mono ?_;rintro _ U ⟨rfl,rfl⟩;simp only[go_sem,zE,zB,zA,zM,zS,zL,reduceCtorEq,fits,yQ1,yQ6,yQ7,decide_true,f4,f5,f6,f7,f8,f9,f10,frSm])
        | (refine (yKh gl _ _ _ _ _ _ _ _ _ _ _ _ _ _ _ _ _).mono ?_;rintro _ U ⟨rfl,rfl⟩;simp only[go_sem,zE,zB,zA,zM,zS,zL,reduceCtorEq,fits,yQ1,yQ6,yQ7,decide_true,f4,f5,f6,f7,f8,f9,f10,frSm]))
       exact⟨[zQ,m],_,rfl,⟨_,_,rfl,is_Q,_,_,rfl,aJ,rfl⟩,by simp only[wFms];rw[show wFm zQ=1 from by decide];omega⟩
      ·simp only[go_sem,zE,zM,zL,f4,fits,yQ1]
       repeat (first
        | (refine (q_p gl _ _ _ _).mono ?_;rintro _ U ⟨rfl,rfl⟩;simp only[go_sem,zE,zB,zA,zM,zS,zL,reduceCtorEq,fits,yQ1,yQ6,yQ7,decide_true,f4,f5,f6,f7,f8,f9,f10,frSm])
        | (refine (q_no gl _ _ _ _ _ _ _).mono ?_;rintro _ U ⟨rfl,rfl⟩;simp only[go_sem,zE,zB,zA,zM,zS,zL,reduceCtorEq,fits,yQ1,yQ6,yQ7,decide_true,f4,f5,f6,f7,f8,f9,f10,frSm])
        | (refine (yG9 gl _ _ _ _ _ _ _ _ _ _ _ _ _ _).mono ?_;rintro _ U ⟨rfl,rfl⟩;simp only[go_sem,zE,zB,zA,zM,zS,zL,reduceCtorEq,fits,yQ1,yQ6,yQ7,decide_true,f4,f5,f6,f7,f8,f9,f10,frSm])
        | (refine (q_fs gl _ _ _).mono ?_;rintro _ U ⟨rfl,rfl⟩;simp only[go_sem,zE,zL,f4,f5,f6,f7,f8,f9,f10,frSm])
        | (refine (s1_c gl _ _).mono ?_;rintro _ U ⟨rfl,rfl⟩;simp only[go_sem,zE,zB,zA,zM,zS,zL,reduceCtorEq,fits,yQ1,yQ6,yQ7,decide_true,f4,f5,f6,f7,f8,f9,f10,frSm])
        | (refine (s2_c gl _ _ _ _ _ _ _ _).mono ?_;rintro _ U ⟨rfl,rfl⟩;simp only[go_sem,zE,zB,zA,zM,zS,zL,reduceCtorEq,fits,yQ1,yQ6,yQ7,decide_true,f4,f5,f6,f7,f8,f9,f10,frSm])
        | (refine (yKh gl _ _ _ _ _ _ _ _ _ _ _ _ _ _ _ _ _).mono ?_;rintro _ U ⟨rfl,rfl⟩;simp only[go_sem,zE,zB,zA,zM,zS,zL,reduceCtorEq,fits,yQ1,yQ6,yQ7,decide_true,f4,f5,f6,f7,f8,f9,f10,frSm]))
       exact⟨[zQ],_,rfl,⟨_,_,rfl,is_Q,rfl⟩,by decide⟩
     ·simp only[go_sem,zE,zL,f4,f5,f6,f7,f8,f9,f10,aY,w1,w2,yQj hi,bf r (by omega)];exact F
    ·rintro fr U _ ⟨⟨D,f9,aZ⟩,F,f4,f5,f6,f7,f8,f10,rfl⟩;have w1:IntKind.i64.wrap (((13:Nat):Int)*4)=52:=rfl;have w2:IntKind.i64.wrap (52*(D:Int))=((52*D:Nat):Int):=by rw[show (52*(D:Int))=((52*D:Nat):Int) from by omega,w64]<;>omega
     simp only[go_sem,zE,zL,f4,f5,f6,f7,f8,f9,f10,aY,w1,w2,yQj (show ¬ 312<52*D by omega),bf r (by omega)];exact F
  ·rintro fr bL _ ⟨F,f4,f5,f6,f7,f8,rfl⟩;simp only[go_sem,zE,f4,f5,f6,f7,f8,show decide (((20:Nat):Int)<=19)=false from rfl,bf c (by omega)];exact⟨⟨ms,us,aX,aU,rfl,rfl⟩,F⟩
 ·rintro fr bM _ ⟨⟨ms,us,aX,aU,f5,f6⟩,F,f4,f7,rfl⟩;simp only[go_sem,f7,show decide (((5:Nat):Int)<=4)=false from rfl];refine ((wYa gl G T bB st bC).sub F).mono ?_;rintro _ _ ⟨rfl,rfl⟩;simp only[go_sem];refine (wWl gl G T _).mono ?_;rintro _ _ ⟨rfl,rfl⟩;simp only[go_sem,zE];exact yQ0 ⟨rfl,rfl⟩
end Go.Proofs.Tryz
namespace Go.Proofs.Tryz
open Go Go.Iv Go.ChangeShapes
open Go.Proofs.YtabhgbojkjcfjaaGreatDoor.Rows (uptoBulk uptoBulkAll)
set_option maxRecDepth 4000
section
variable {H:Type}{enc:TypeId×Value->H}{w:World}{spare:Nat->Bool}{held:Bool}
end
end Go.Proofs.Tryz
namespace Go.Proofs.Tryz
open Go Go.Iv Go.ChangeShapes Go.RowKit
open Go.Proofs.YtabhgbojkjcfjaaGreatDoor
set_option maxRecDepth 8000
theorem uRow:prog.underlying 251=some (.struct #[⟨ "right",4,0,false, "", "lyceum/syntax",0⟩,⟨ "schema",4,1,false, "", "lyceum/syntax",1⟩,⟨ "name",5,2,false, "", "lyceum/syntax",2⟩,⟨ "args",3,3,false, "", "lyceum/syntax",8⟩,⟨ "subs",3,4,false, "", "lyceum/syntax",16⟩]):=by kernel_rfl
theorem uZ1:prog.underlying 252=some (.array 17 251):=by kernel_rfl
theorem uInt:prog.underlying 3=some (.int .i64):=by kernel_rfl
theorem nRow:prog.cellsOf 251=5:=by kernel_rfl
theorem uVv:prog.cellsOf 252=85:=by kernel_rfl
theorem gRows:prog.globalNamed "lyceum/syntax.rows" = some 0:=by kernel_rfl
theorem gRowsT:(prog.globals[0]?).map (·.type)=some 252:=by kernel_rfl
theorem gPow:prog.globalNamed "internal/strconv.uint64pow10" = some 2:=by kernel_rfl
theorem gPowT:(prog.globals[2]?).map (·.type)=some 314:=by kernel_rfl
theorem uPow:prog.underlying 314=some (.array 20 247):=by kernel_rfl
theorem uU64:prog.underlying 247=some (.int .u64):=by kernel_rfl
theorem nPow:prog.cellsOf 314=20:=by kernel_rfl
theorem nU64:prog.cellsOf 247=1:=by kernel_rfl
section
variable {H:Type}{enc:TypeId×Value->H}{w:World}{spare:Nat->Bool}{held:Bool}
def rowD (op:Nat):DataW H:=.agg [.lit (.bool (yZi op)),.lit (.bool (zV0 op)),.lit (.int .u8 (yJ1 op)),.lit (.int .i64 (yXz op)),.lit (.int .i64 (yXy op))]
def rowV (op:Nat):List Value:=[.bool (yZi op),.bool (zV0 op),.int .u8 (yJ1 op),.int .i64 (yXz op),.int .i64 (yXy op)]
theorem wXa {F:Nat}{cs:List Value}{op:Nat}{p:List MemPlace}(h:DataW.trod enc prog w 0 spare held F 251 cs=some (rowD op,p)):cs=rowV op:=by
 obtain⟨ys,n,rfl,W,G,A,D⟩:=DataW.trod_struct uRow h
 match ys,A with
 | [y0,y1,y2,y3,y4],_ =>
  rw[nRow] at G
  match cs,G with
  | [c0,c1,c2,c3,c4],_ =>
   have U:=D 0 _ rfl;have h1:=D 1 _ rfl;have h2:=D 2 _ rfl;have O:=D 3 _ rfl;have J:=D 4 _ rfl;simp only[List.getElem?_cons_zero,List.getElem?_cons_succ] at U h1 h2 O J;obtain⟨b0,e0,rfl⟩:=DataW.trod_bool wVt U;obtain⟨b1,e1,rfl⟩:=DataW.trod_bool wVt h1;obtain⟨b2,e2,rfl,_⟩:=DataW.trod_int uU8 h2;obtain⟨b3,e3,rfl,_⟩:=DataW.trod_int uInt O;obtain⟨b4,e4,rfl,_⟩:=DataW.trod_int uInt J;cases e0;cases e1;cases e2;cases e3;cases e4;have E:=congrArg Prod.fst W;simp only[rowD,List.map_cons,List.map_nil,DataW.agg.injEq,List.cons.injEq,DataW.lit.injEq,Lit.bool.injEq,Lit.int.injEq,true_and,and_true] at E;obtain⟨rfl,rfl,rfl,rfl,rfl⟩:=E;rfl
theorem wX9:(Rows.laid_lyceum_syntax_rows:DataW H)=.agg ((List.range 17).map rowD):=by rfl
theorem xUr {F:Nat}{cs:List Value}{p:List MemPlace}(h:DataW.trod enc prog w 0 spare held F 252 cs=some (Rows.laid_lyceum_syntax_rows,p)) :
  cs.length=85/\∀op,op<17->(cs.drop (op*5)).take 5=rowV op:=by
 obtain⟨ys,n,rfl,W,J,G,U⟩:=DataW.trod_array uZ1 h;rw[uVv] at J;refine⟨J,λop E=>?_⟩;have h1:=U op E;rw[nRow] at h1;have A:=congrArg Prod.fst W;rw[wX9] at A;simp only[DataW.agg.injEq] at A;have h2:(ys.map (·.1))[op]?=some (rowD op):=by
  rw[<- A,List.getElem?_map,List.getElem?_range E];rfl
 rw[List.getElem?_map] at h2;obtain⟨y,O,D⟩:=Option.map_eq_some_iff.1 h2;rw[O] at h1;obtain⟨y1,y2⟩:=y;simp only at D;subst D;exact wXa h1
end
def gl0:Nat->Option IV
 | 0=>some (.agg rowsL)
 | 2=>some (.agg pow10L)
 | _=>none
theorem G0:Gl gl0:=⟨rfl⟩
theorem T0:Gt gl0:=⟨rfl⟩
def X0 (w:World):WS:={ w:=w,L:=L0 w,st:=λ_=>none,d:=0 }
theorem xKy {cs:List Value}(F:cs.length=85)(h:∀op,op<17->(cs.drop (op*5)).take 5=rowV op)(i:Nat)(r:Value)(c:IV)(E:cs[i]?=some r)(hc:rowsL[i]?=some c):c=.raw r/\zXc r:=by
 have G:i<85:=by have:=(lGs E).1;omega
 have A:i / 5<17:=by omega
 have e:i=i / 5*5+i%5:=by omega
 have D:i%5<5:=Nat.mod_lt _ (by decide);have h1:(rowV (i / 5))[i%5]?=some r:=by
  rw[<- h _ A,List.getElem?_take,if_pos D,List.getElem?_drop,<- e];exact E
 have h2:(rowI (i / 5))[i%5]?=some c:=by
  rw[<- (zYv _ A).2,List.getElem?_take,if_pos D,List.getElem?_drop,<- e];exact hc
 generalize i%5=k at h1 h2 D
 match k,D with
 | 0,_=>cases h1;cases h2;exact⟨rfl,trivial⟩
 | 1,_=>cases h1;cases h2;exact⟨rfl,trivial⟩
 | 2,_=>cases h1;cases h2;exact⟨rfl,trivial⟩
 | 3,_=>cases h1;cases h2;exact⟨rfl,trivial⟩
 | 4,_=>cases h1;cases h2;exact⟨rfl,trivial⟩
theorem uWc {W:World}(hL:laidMetH prog Rows.sequentSetsUptoRow.laid W):Go.Iv.Good ⟨prog,gl0,0⟩ (X0 W):=by
 obtain⟨ps,A,_⟩:=(show laidMet prog _ W from hL)
 obtain⟨_,_,_,_,_,_,_,_,_,_,A,_⟩:=A;obtain⟨_,_,_,_,_,_,_,_,_,_,A,_⟩:=A;obtain⟨g1,t1,G,f1,p1,q1,aq,an,al,av,A,_⟩:=A;obtain⟨g2,t2,ag,f2,p2,q2,ao,am,ak,au,_,_⟩:=A;obtain rfl:=Option.some.inj (gPow.symm.trans aq);obtain rfl:=Option.some.inj (gPowT.symm.trans an);obtain rfl:=Option.some.inj (gRows.symm.trans ao);obtain rfl:=Option.some.inj (gRowsT.symm.trans am);have ac:=Lib.cells_of_tab (zs:=Lib.pow10Tab) uPow uU64 nU64 nPow av;have F:=xUr au;have hb:∀(n:String) (g:Nat) (cs:Array Value),prog.globalNamed n=some g->W.var? prog n=some cs->∃T f,W.heap[g]?=some (.cells cs T f):=by
  intro n g cs hn J;unfold World.var? at J;rw[hn,Option.bind_some] at J;split at J
  ·rename_i c t f hh;cases J;exact⟨_,_,hh⟩
  ·cases J
 obtain⟨T1,af,ab⟩:=hb _ _ _ gPow al;obtain⟨T2,ae,aa⟩:=hb _ _ _ gRows ak;have row:∀(g:Nat) (cs:Array Value) (T:TypeId) (f:Nat×Nat) (xs:List IV),W.heap[g]?=some (.cells cs T f)->cs.size=xs.length->(∀(i:Nat) (r:Value) (c:IV),cs.toList[i]?=some r->xs[i]?=some c->c=.raw r/\zXc r) →
   V 0 (L0 W) W (.pointer (some ⟨g,0,none⟩)) (.cptr (.agg xs)):=by
  intro g cs T f xs hh hl h;refine .cptr _ _ cs.toList rfl (by simpa[IV.cells] using hl) ?_ (λi r E=>?_) (λi r c E hc=>?_)
  ·show 0+cs.toList.length<=L0 W g;simp[L0,hh]
  ·show W.cell? ⟨g,0+i,none⟩=some r;simp only[World.cell?,hh,Nat.zero_add];simpa using E
  ·obtain⟨rfl,hk⟩:=h i r c E hc;exact .raw _ hk
 have hp:∀(i:Nat) (r:Value) (c:IV),G.toList[i]?=some r->pow10L[i]?=some c->c=.raw r/\zXc r:=by
  intro i r c E hc;rw[ac,List.getElem?_map] at E;unfold pow10L at hc;rw[List.getElem?_map] at hc;obtain⟨z,hz,rfl⟩:=Option.map_eq_some_iff.1 E;rw[hz] at hc;cases hc;exact⟨rfl,trivial⟩
 have U:G.size=pow10L.length:=by
  rw[<- Array.length_toList,ac];simp[pow10L]
 have O:ag.size=rowsL.length:=by
  rw[<- Array.length_toList,F.1];rfl
 refine⟨λb o h=>(by cases h),λg x D=>?_,Nat.zero_le _,λb hb=>?_,λg x D=>?_,λ_=>Nat.zero_le _⟩
 ·match g,D with
  | 0,D=>cases D;exact row 0 ag T2 ae _ aa O (λi r c E hc=>xKy F.1 F.2 i r c E hc)
  | 2,D=>cases D;exact row 2 G T1 af _ ab U hp
 ·show L0 W b=0;unfold L0;rw[Array.getElem?_eq_none (show W.heap.size<=b from hb)]
 ·match g,D with
  | 0,D=>cases D;exact⟨T2,ae == (0,0),by show shq W 0=_;simp[shq,aa,O,IV.cells]⟩
  | 2,D=>cases D;exact⟨T1,af == (0,0),by show shq W 2=_;simp[shq,ab,U,IV.cells]⟩
theorem xK2 {W:World}{X':WS}(h:Ext (X0 W) X'):Below W.heap.size W X'.w :=
 ⟨h.os,h.tape,h.output,h.size,λk A=>(h.keep k A rfl).1⟩
theorem vZr:laidOutB prog=true:=by kernel_rfl
theorem zQx {H:Type}{enc:TypeId×Value->H}{W W':World}(J:Below W.heap.size W W')(F:Nat->Bool):∀ {E:List TypeId} {vs:List Value} {ds:List (DataW H)} {ps:List MemPlace},
  (∀t∈E,prog.readableRec t=true/\t<prog.types.size)->DataW.TrodAll enc prog W 0 (λ_=>true) true E vs ds ps->(∀p∈ps,p.block<W.heap.size)->(∀p∈ps,F p.block=true) →
  DataW.TrodAll enc prog W' 0 F true E vs ds ps
 | [],vs,ds,ps,_,h,_,_=>by
  obtain⟨rfl,rfl,rfl⟩:=trodAll_nil h;rfl
 | t::E,vs,ds,ps,G,h,D,A=>by
  obtain⟨v,O,d,U,a,b,rfl,rfl,rfl,h1,h2⟩:=trodAll_cons h;refine⟨a,b,WideElems.Trod_stays vZr (G t (by simp)).1 (G t (by simp)).2 h1 (λp hp=>J.same (D p (by simp[hp]))) (λp hp=>A p (by simp[hp])),?_,rfl⟩;exact zQx J F (λt h=>G t (by simp[h])) h2 (λp hp=>D p (by simp[hp])) (λp hp=>A p (by simp[hp]))
theorem wYd {H:Type}{enc:TypeId×Value->H}{f:Func}{s:ChangeSpec}{af:FuncId}{W:World}{args:Array Value}{ds gs:List (DataW H)}{F:List MemPlace}{ab:List IV}
  (A:s.vars=[]) (hW:DataW.Whole enc prog f.params.toList s.vars false W args.toList ds gs F) (aa:s.fn H (ds++gs)={ results:=[.lit (.bool true)],args:=ds })
  (J:f.resultTypes=#[4]) (O:∀t∈f.params.toList,prog.readableRec t=true/\t<prog.types.size) (hg:Go.Iv.Good ⟨prog,gl0,0⟩ (X0 W)) (hv:VL 0 (L0 W) W args.toList ab)
  (hc:ICall prog gl0 af ab (λ_=>none) (λr st'=>r=.raw (.bool true)/\st'=λ_=>none)) :
  Calls prog af args W λe W'=>∃v,e=.returned v/\s.post enc prog f false true false false W args v W':=by
 refine (hc 0 (X0 W) args.toList hg rfl hv).mono ?_;rintro e W' ⟨v,rfl,X',x,rfl,au,he,E,rfl,_⟩;obtain rfl:=V.raw_inv E;have hb:=xK2 he;refine⟨_,rfl,?_⟩;have ae:=hW;obtain⟨p,q,hA,hV,rfl,hz,_⟩:=hW;rw[A] at hV;have aj:gs=[]/\q=[]:=by
  cases gs with
  | nil=>exact⟨rfl,hV⟩
  | cons _ _=>exact absurd hV (by simp[DataW.TrodVars])
 obtain⟨rfl,rfl⟩:=aj;have U:∀x∈p,x.block<W.heap.size:=λx E=>by simpa using ae.lt x (by simpa using E)
 have D:∀G:Nat->Bool,(∀x∈p,G x.block=true)->DataW.TrodAll enc prog X'.w 0 G true f.params.toList args.toList (s.fn H (ds++[])).args p:=λG ai=>by
  rw[aa];exact zQx hb G O hA U ai
 have hr:∀(b:Nat) (G:Nat->Bool) (hd:Bool),DataW.TrodAll enc prog X'.w b G hd f.resultTypes.toList ((Value.bool true).resultList f.resultTypes.size) (s.fn H (ds++[])).results []:=λ_ _ _=>by
  rw[aa,J];exact trodAll_cons_mk (shut_bool wVt _) trodAll_mk0
 have ac:∀G:Nat->Bool,DataW.TrodVars enc prog X'.w G s.vars (s.fn H (ds++[])).vars []:=λ_=>by
  rw[A,aa];rfl
 have ah:∀x∈p,(λb=>decide (b<W.heap.size)) x.block=true:=λx E=>by simpa using U x E
 refine⟨ds,[],p++[],[],p,[],ae,hr _ _ _,D _ ah,ac _,World.keptBut_mono (λx E=>⟨E,Or.inr (by simpa using E)⟩) (hb.frame (·∈p++[])),λ_=>⟨ok_one J rfl (okWide_bool_mk wVt _),_,_,([]++p)++[],
  ⟨[]++p,[],trodAll_append (D _ (λ_ _=>rfl)) (hr _ _ _),ac _,rfl,?_,λh=>by cases h⟩,λx E _=>by simpa using E⟩⟩
 intro b off hp;rw[hb.frozen (p:=⟨b,off,none⟩) (U (.cell b off) (by simpa using hp))];exact hz b off (by simpa using hp)
def tab32:List Int:=[0,1,28,2,29,14,24,3,30,22,20,15,25,17,4,8,31,27,13,23,21,19,16,7,26,12,18,6,11,5,10,9]
def tab64:List Int:=[0,1,56,2,57,49,28,3,61,58,42,50,38,29,17,4,62,47,59,36,45,43,51,22,53,39,33,30,24,18,12,5,63,55,48,27,60,41,37,16,46,35,44,21,52,32,23,11,54,26,40,15,34,20,31,10,25,14,19,9,13,8,7,6]
def lay (cs:List Value):Obj->Obj
 | .cells _ t frozen=>.cells cs.toArray t frozen
 | o=>o
noncomputable def zVe (os:Os):World :=
 { World.holding prog os ⟨#[],#[],[]⟩ with heap:=((((World.holding prog os ⟨#[],#[],[]⟩).heap.modify 0 (lay ((List.range 17).flatMap rowV))).modify 2 (lay (Lib.pow10Tab.map λz=>.int .u64 z))).modify 3 (lay (tab32.map λz=>.int .u8 z))).modify 4 (lay (tab64.map λz=>.int .u8 z)) }
theorem wYe (os:Os)(args:Array Value):laidMet prog Rows.sequentSetsUptoRow.laid ((zVe os).forCall (λ_ _=>0) ⟨#[],args,[]⟩).memory :=
 laidMet_of_run' 8 (by kernel_rfl) (by kernel_rfl)
end Go.Proofs.Tryz
namespace Go.Proofs.Tryz
open Go Go.Iv
set_option maxRecDepth 4000
theorem zWm:∀l:List IV,(∀x∈l,∃v,x=.raw v)->ages l=l
 | [],_=>rfl
 | x::l,h=>by
  obtain⟨v,rfl⟩:=h x (by simp);simp only[ages,age,zWm l λy A=>h y (by simp[A])]
theorem wGb:∀g x,gl0 g=some x->age x=x:=by
 intro g x D
 match g,D with
 | 0,D =>
  cases D;simp only[age];rw[zWm _ λy A=>?_];obtain⟨op,_,A⟩:=List.mem_flatMap.1 A;unfold rowI at A;simp only[List.mem_cons,List.not_mem_nil,or_false] at A;rcases A with rfl|rfl|rfl|rfl|rfl<;>exact⟨_,rfl⟩
 | 2,D =>
  cases D;simp only[age];rw[zWm _ λy A=>?_];obtain⟨z,_,rfl⟩:=List.mem_map.1 A;exact⟨_,rfl⟩
