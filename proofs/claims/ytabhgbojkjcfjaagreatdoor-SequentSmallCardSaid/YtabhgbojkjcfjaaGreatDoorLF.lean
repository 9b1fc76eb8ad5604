/- Walks of the second program: normal, Nor -/
import Derived.Test.YtabhgbojkjcfjaaGreatDoorKT
import Derived.Test.YtabhgbojkjcfjaaGreatDoorKN
set_option linter.all false
open Nat renaming reduceEqDiff → zE,reduceBEq → zB,reduceAdd → zA,reduceMul → zM,reduceLeDiff → zL
namespace Go.Proofs.Tryz
open Go Go.Iv
set_option maxRecDepth 4000
variable (gl:Nat->Option IV)
theorem zVm:yJx 0 []=true:=rfl
theorem xXm:∀ {l m:Sb}{A ys:List IV},IsOnes l A->IsOnes m ys->IsOnes (l++m) (A++ys)
 | [],m,A,ys,h,k=>by simp only[IsOnes] at h;subst h;exact k
 | a::l,m,A,ys,h,k=>by
  simp only[IsOnes] at h;obtain⟨y,zs,rfl,D,h⟩:=h;exact⟨y,zs++ys,rfl,D,xXm h k⟩
def oneV (p:ByteArray×ByteArray):ByteArray×Tm:=(p.1,.mk true p.2 [])
theorem wJ1 (ar:Ar):yZa (ar.map oneV)=renF ar:=by
 funext n;unfold yZa renF;rw[List.find?_map];simp only[Option.map_map];rfl
theorem vJz {D A:List ByteArray}(h:D.length=A.length){k:Nat}(G:k<A.length):∃a b,D[A.length-k-1]?=some a/\A[A.length-k-1]?=some b/\(D.zip A).reverse[k]?=some (a,b):=by
 obtain⟨a,F⟩:=yQ3 (show A.length-k-1<D.length by omega);obtain⟨b,E⟩:=yQ3 (show A.length-k-1<A.length by omega);refine⟨a,b,F,E,?_⟩;rw[List.getElem?_reverse (by rw[List.length_zip];omega),List.length_zip,show min D.length A.length-1-k=A.length-k-1 by omega];rw[List.getElem?_zip_eq_some];exact⟨F,E⟩
def RNo (f:Fm):Prop:=∀(x:IV) (_:IsFm f x) (_:f.ok=true) (D F:List ByteArray) (_:∀x,x∈F↔x∈D) (E A:List ByteArray) (_:E.length=A.length) (J to G:Tag) (_:okEs J 1) (_:okEs to 1) (_:okEs G 1)
 (_:F.length+A.length+f.size<=1000000000) (st:ISt),
 ICall prog gl 188 [x,.sl J (strI F),.sl to (strI E),.sl G (strI A)] st (λr st'=>IsFm (zJr D (E.zip A).reverse f) r/\st'=st)
theorem xX5 (op:Nat)(n:ByteArray)(us:List Tm)(sub:List Fm)(IH:∀a∈sub,RNo gl a):RNo gl (.mk op n us sub):=by
 intro x hx br F fl aT E A af tf to tn a6 aZ a1 bw st;obtain⟨t1,x1,t2,x2,rfl,bb,bq,aG,a8,aq⟩:=hx.mk;obtain⟨bH,aB,bG⟩:=yY1 br;simp only[Fm.size] at bw;have bF:=yZu us;have bD:=yV6 sub;have bp:IntKind.i64.wrap ((A.length:Int)-1)=(A.length:Int)-1:=by rw[w64]<;>omega
 have bo:(E.zip A).reverse.length=A.length:=by rw[List.length_reverse,List.length_zip];omega
 have an:(E.zip A).reverse=(E.zip A).reverse:=rfl;have bx:=λk (hk:k<A.length)=>vJz af hk;have ba:(E.zip A).reverse.map (·.2)=A.reverse:=by rw[List.map_reverse,List.map_snd_zip (by omega)]
 refine ICall.intro (c:=cf prog gl [] [(13,[0,1,3,4,5,2,6,7]),(14,[0,1,3,4,5,2,6,7])]) func188 rfl (by show _<=103;simp) (by kernel_rfl) ?_;simp only[go_sem,zE,yQn,af,bp];intros;refine LoopC.ctr A.length (λk fr st' ds=>(∃tl zl,fr 9=.iv (.sl tl zl)/\IsOnes (((E.zip A).reverse.take k).map oneV) zl/\own st' tl k 4 st/\subSt st st') /\
  fr 1=.iv (.sl tf (strI fl))/\fr 2=.iv (.sl to (strI E))/\fr 3=.iv (.sl tn (strI A))/\fr 4=.box [.raw (.int .u8 op),.raw (.string n),.sl t1 x1,.sl t2 x2]/\fr 8=.box [.raw (.int .u8 0),.raw (.string ⟨#[]⟩),.sl ⟨true,.nil,0⟩ [],.sl ⟨true,.nil,0⟩ []] /\
  fr 10=.iv (.raw (.int .i64 (((A.length-k:Nat):Int)-1)))/\ds=[]) ?_ ?_ ?_
 ·simp only[go_sem,zE];exact⟨_,_,rfl,rfl,own.nil _ _ _ _ _,subSt.refl _⟩
 ·rintro k fr aE _ U ⟨⟨tl,zl,f9,av,D,ai⟩,f1,f2,f3,f4,f8,f10,rfl⟩;obtain⟨a,b,ha,hb,bz⟩:=bx k U;have hi:(((A.length-k:Nat):Int)-1)=((A.length-k-1:Nat):Int):=by omega
  rw[hi] at f10;have hw:IntKind.i64.wrap (((A.length-k-1:Nat):Int)-1)=((A.length-(k+1):Nat):Int)-1:=by rw[w64]<;>omega
  have bs:zl.length=k:=by rw[av.len,List.length_map,List.length_take];omega
  simp only[go_sem,zE,zA,zM,zL,f2,f3,f9,f10,decide_true,yQ2 aZ,yQ2 a1,iNn,yK0 ha,yK0 hb,fits,yQ1];refine yZ1 D bs ai rfl (by simp[fits,IV.one]) (by simp only;omega) (by omega) λak ag aa O _=>?_;simp only[go_sem,zE,f1,f2,f3,f4,f8,f10,hw];refine⟨ak,_,rfl,?_,aa,O⟩;rw[yQ4 bz,List.map_append];exact xXm av ⟨_,[],rfl,⟨_,_,_,_,rfl,_,[],rfl,.inl rfl,rfl⟩,rfl⟩
 ·rintro fr aE _ ⟨⟨tl,zl,f9,av,D,ai⟩,f1,f2,f3,f4,f8,f10,rfl⟩;have htl:=D.es;rw[<- bo,lTl] at av;have bu:decide ((0:Int)<=((A.length-A.length:Nat):Int)-1)=false:=dEf (by omega);have bI:(E.zip A).reverse.length<=1000000000:=by omega
  have bt:yJc (fl++A)=yJc (F++(E.zip A).reverse.map (·.2)):=yGx λx=>by
   rw[ba,List.mem_append,List.mem_append,List.mem_reverse,aT x]
  generalize bd:(E.zip A).reverse=ar at *;simp only[go_sem,zE,zA,zL,f4,f10,bu];refine LoopC.ctr us.length (λk fr st' ds=>(∃W ys,fr 11=.box [.raw (.int .u8 op),.raw (.string n),.sl W ys,.sl ⟨true,.nil,0⟩ []]/\IsTms (yZd (yZa (ar.map oneV)) (us.take k)) ys/\own st' W k 3 aE/\subSt aE st') /\
   fr 1=.iv (.sl tf (strI fl))/\fr 2=.iv (.sl to (strI E))/\fr 3=.iv (.sl tn (strI A))/\fr 4=.box [.raw (.int .u8 op),.raw (.string n),.sl t1 x1,.sl t2 x2]/\fr 8=.box [.raw (.int .u8 0),.raw (.string ⟨#[]⟩),.sl ⟨true,.nil,0⟩ [],.sl ⟨true,.nil,0⟩ []] /\
   fr 9=.iv (.sl tl zl)/\fr 12=.iv (.raw (.int .i64 k))/\ds=[]) ?_ ?_ ?_
  ·simp only[go_sem,zE,f1,f2,f3,f4,f8,f9];exact⟨⟨_,_,rfl,rfl,own.nil _ _ _ _ _,subSt.refl _⟩,rfl⟩
  ·rintro k fr ag _ U ⟨⟨W,ys,f11,hys,D,O⟩,f1,f2,f3,f4,f8,f9,f12,rfl⟩;obtain⟨a,ha⟩:=yQ3 U;obtain⟨y,ax,hy⟩:=aG.get ha;have ac:=lMg ha;have J:=zG0 gl (ar.map oneV) a y hy tl zl htl av (by have:=yWm ac;omega) (by rw[List.length_map];omega) ag;have ae:ys.length=k:=by rw[hys.len,yZ5,List.length_take];omega
   have ab:∀r,IsTm (yJi (yZa (ar.map oneV)) a) r->IsTms (yZd (yZa (ar.map oneV)) (us.take (k+1))) (ys++[r]):=λr hr=>by
    rw[yQ4 ha,yX4];exact hys.append (IsTms.one hr)
   obtain⟨v5,n5,t5,x5,rfl⟩:=hy.agg;simp only[go_sem,zE,zB,zA,f4,f9,f11,f12,aG.len,lt_i U,yQ2 bq,iNn,ax,fits];intros;refine J.mono ?_;rintro r _ ⟨hr,rfl⟩;have hn:=ab r hr;obtain⟨v6,n6,t6,x6,rfl⟩:=hr.agg;simp only[go_sem,zE,zA,zM,zL,fits,yQ1];refine yZ1 D ae O rfl (by simp[fits,IV.one]) (by simp only;omega) (by omega) λak bn aa al _=>?_;simp only[go_sem,zE,zA,zL,f1,f2,f3,f4,f8,f9,f11,f12,yQb U (show us.length<=281474976710656 by omega)];exact⟨ak,_,rfl,hn,aa,al⟩
  rintro fr ag _ ⟨⟨ta,xa,f11,aF,aa,O⟩,f1,f2,f3,f4,f8,f9,f12,rfl⟩;rw[lTl,wJ1] at aF;have a7:=aa.es;simp only[go_sem,zE,zA,zL,f4,f12,aG.len,yQj (nLi _)];intros;refine (xZ3 gl op n _ _ _ _ _).mono ?_;rintro _ ag ⟨rfl,rfl⟩;cases hq:isQ op
  ·have an:(E.zip A).reverse=ar:=bd;simp only[go_sem];refine LoopC.ctr sub.length (λk fr st' ds=>(∃W ys,fr 11=.box [.raw (.int .u8 op),.raw (.string n),.sl ta xa,.sl W ys]/\IsFms (yKo F (ar) (sub.take k)) ys/\own st' W k 4 ag/\subSt ag st') /\
    fr 1=.iv (.sl tf (strI fl))/\fr 2=.iv (.sl to (strI (E)))/\fr 3=.iv (.sl tn (strI (A)))/\fr 4=.box [.raw (.int .u8 op),.raw (.string n),.sl t1 x1,.sl t2 x2]/\fr 8=.box [.raw (.int .u8 0),.raw (.string ⟨#[]⟩),.sl ⟨true,.nil,0⟩ [],.sl ⟨true,.nil,0⟩ []] /\
    fr 13=.iv (.raw (.int .i64 k))/\ds=[]) ?_ ?_ ?_
   ·simp only[go_sem,zE,f1,f2,f3,f4,f8,f11];exact⟨⟨_,_,rfl,rfl,own.nil _ _ _ _ _,subSt.refl _⟩,rfl⟩
   ·rintro k fr au _ U ⟨⟨W,ys,f11,hys,D,G⟩,f1,f2,f3,f4,f8,f13,rfl⟩;obtain⟨a,ha⟩:=yQ3 U;obtain⟨y,ax,hy⟩:=aq.get ha;have ac:=lMg ha;obtain⟨h1,h2⟩:=yX2 ha;have J:=IH a ac y hy (yZq aB ac) F fl aT (E) (A) (by first|exact af|simp[af]) tf to tn a6 aZ a1 (by first|omega|(simp only[lLa,List.length_cons,List.length_nil];omega)) au;rw[an] at J;have ae:ys.length=k:=by rw[hys.len,yXc,List.length_take];omega
    have ab:∀r,IsFm (zJr F (ar) a) r->IsFms (yKo F (ar) (sub.take (k+1))) (ys++[r]):=λr hr=>by
     rw[yQ4 ha,yK2];exact hys.append (IsFms.one hr)
    obtain⟨o5,n5,t5,x5,t6,x6,rfl⟩:=hy.agg;simp only[go_sem,zE,zB,zA,f1,f2,f3,f4,f11,f13,aq.len,lt_i U,yQ2 a8,iNn,ax,fits];intros;refine J.mono ?_;rintro r _ ⟨hr,rfl⟩;have hn:=ab r hr;obtain⟨o7,n7,t7,x7,t8,x8,rfl⟩:=hr.agg;simp only[go_sem,zE,zA,zM,zL,fits,yQ1];refine yZ1 D ae G rfl (by simp[fits,IV.one]) (by simp only;omega) (by omega) λak aY aj ah _=>?_;simp only[go_sem,zE,zA,zL,f1,f2,f3,f4,f8,f11,f13,yQb U (show sub.length<=281474976710656 by omega)];exact⟨ak,_,rfl,hn,aj,ah⟩
   rintro fr au _ ⟨⟨tb,xb,f11,aw,D,G⟩,f1,f2,f3,f4,f8,f13,rfl⟩;rw[lTl] at aw;simp only[go_sem,zE,zA,zL,f4,f8,f11,f13,aq.len,yQj (nLi _)];intros;refine yQc ((ai.trans O).trans G) ⟨?_,rfl⟩;exact⟨ta,xa,tb,xb,by simp[hq],bb,a7,aF,D.es,by simpa[hq] using aw⟩
  ·simp only[go_sem,zE,zA,zM,zL,f1,zVm];refine yJ5 (s:=1) (S0:=ag) (own.full ag ag 0 1) rfl (yQn fl) (subSt.refl ag) rfl (by simp[fits,IV.one,strI]) (by simp only;omega) (by omega) λbO bn aS al _=>?_;simp only[go_sem,zE,zA,f3];refine yJ5 aS (by simp[yQn]) (yQn A) al rfl (by simp[fits,IV.one,strI]) (by simp only;omega) (by omega) λbl st4 aQ aL _=>?_
   try simp only[List.nil_append]
   rw[<- yJo];simp only[go_sem,zA];refine (xY6 gl bl aQ.es (fl++A) (by rw[lLa];omega) _).mono ?_;rintro _ st4 ⟨rfl,rfl⟩;rw[bt];simp only[go_sem,zE,zA,zM,zL,f2,f4,f11,fits,zVm,yQ1];refine yJ5 (s:=1) (S0:=st4) (own.full st4 st4 0 1) rfl (yQn E) (subSt.refl st4) rfl (by simp[fits,IV.one,strI]) (by simp only;omega) (by omega) λbN bQ aP aK _=>?_;simp only[go_sem,zE,zA];refine yZ1 aP (by simp[yQn]) aK rfl (by simp[fits,IV.one]) (by simp only;omega) (by omega) λaW ay aO aJ _=>?_;simp only[go_sem,zE,zA,zM,zL,f3,fits,zVm,yQ1];refine yJ5 (s:=1) (S0:=ay) (own.full ay ay 0 1) rfl (yQn A) (subSt.refl ay) rfl (by simp[fits,IV.one,strI]) (by simp only;omega) (by omega) λbM bP aN aI _=>?_;simp only[go_sem,zE,zA];refine yZ1 aN (by simp[yQn]) aI rfl (by simp[fits,IV.one]) (by simp only;omega) (by omega) λaV aX aM aH _=>?_;generalize aC:yJc (F++ar.map (·.2))=new at *;have e1:strI E++[.raw (.string n)]=strI (E++[n]):=by rw[yJo];rfl
   have e2:strI A++[.raw (.string new)]=strI (A++[new]):=by rw[yJo];rfl
   try simp only[List.nil_append]
   rw[e1,e2];have an:((E++[n]).zip (A++[new])).reverse=(n,new)::ar:=by
    rw[List.zip_append af,List.reverse_append,bd];rfl
   simp only[go_sem];refine LoopC.ctr sub.length (λk fr st' ds=>(∃W ys,fr 11=.box [.raw (.int .u8 op),.raw (.string new),.sl ta xa,.sl W ys]/\IsFms (yKo F (((n,new)::ar)) (sub.take k)) ys/\own st' W k 4 aX/\subSt aX st') /\
    fr 1=.iv (.sl tf (strI fl))/\fr 2=.iv (.sl aW (strI (E++[n])))/\fr 3=.iv (.sl aV (strI (A++[new])))/\fr 4=.box [.raw (.int .u8 op),.raw (.string n),.sl t1 x1,.sl t2 x2]/\fr 8=.box [.raw (.int .u8 0),.raw (.string ⟨#[]⟩),.sl ⟨true,.nil,0⟩ [],.sl ⟨true,.nil,0⟩ []] /\
    fr 13=.iv (.raw (.int .i64 k))/\ds=[]) ?_ ?_ ?_
   ·simp only[go_sem,zE,f1,f4,f8];exact⟨⟨_,_,rfl,rfl,own.nil _ _ _ _ _,subSt.refl _⟩,rfl⟩
   ·rintro k fr au _ U ⟨⟨W,ys,f11,hys,D,G⟩,f1,f2,f3,f4,f8,f13,rfl⟩;obtain⟨a,ha⟩:=yQ3 U;obtain⟨y,ax,hy⟩:=aq.get ha;have ac:=lMg ha;obtain⟨h1,h2⟩:=yX2 ha;have J:=IH a ac y hy (yZq aB ac) F fl aT (E++[n]) (A++[new]) (by first|exact af|simp[af]) tf aW aV a6 aO.es aM.es (by first|omega|(simp only[lLa,List.length_cons,List.length_nil];omega)) au;rw[an] at J;have ae:ys.length=k:=by rw[hys.len,yXc,List.length_take];omega
    have ab:∀r,IsFm (zJr F (((n,new)::ar)) a) r->IsFms (yKo F (((n,new)::ar)) (sub.take (k+1))) (ys++[r]):=λr hr=>by
     rw[yQ4 ha,yK2];exact hys.append (IsFms.one hr)
    obtain⟨o5,n5,t5,x5,t6,x6,rfl⟩:=hy.agg;simp only[go_sem,zE,zB,zA,f1,f2,f3,f4,f11,f13,aq.len,lt_i U,yQ2 a8,iNn,ax,fits];intros;refine J.mono ?_;rintro r _ ⟨hr,rfl⟩;have hn:=ab r hr;obtain⟨o7,n7,t7,x7,t8,x8,rfl⟩:=hr.agg;simp only[go_sem,zE,zA,zM,zL,fits,yQ1];refine yZ1 D ae G rfl (by simp[fits,IV.one]) (by simp only;omega) (by omega) λak aY aj ah _=>?_;simp only[go_sem,zE,zA,zL,f1,f2,f3,f4,f8,f11,f13,yQb U (show sub.length<=281474976710656 by omega)];exact⟨ak,_,rfl,hn,aj,ah⟩
   rintro fr au _ ⟨⟨tb,xb,f11,aw,D,G⟩,f1,f2,f3,f4,f8,f13,rfl⟩;rw[lTl] at aw;simp only[go_sem,zE,zA,zL,f4,f8,f11,f13,aq.len,yQj (nLi _)];intros;refine yQc (((((ai.trans O).trans aL).trans aJ).trans aH).trans G) ⟨?_,rfl⟩;exact⟨ta,xa,tb,xb,by simp[hq,aC],bb,a7,aF,D.es,by simpa[hq,aC] using aw⟩
theorem zV1:∀(k:Nat)(t:Fm),SizeOf.sizeOf t<k->RNo gl t
 | 0,f,h=>by omega
 | k+1,.mk o n us sub,h=>xX5 gl o n us sub (λa A=>zV1 k a (by
   have:=lSm A;simp at h;omega))
theorem wXc (t:Fm):RNo gl t:=zV1 gl _ t (Nat.lt_succ_self _)
theorem wXi (f:Fm)(x:IV)(U:IsFm f x)(hs:f.size<=1000000)(st:ISt) :
  ICall prog gl 139 [x] st (FE (yJ6 f).1 (yJ6 f).2 st):=by
 have D:=λst=>zZ6 gl f x U (by omega) st;have F:=λst=>xV4 gl f x U (by omega) st;have am:=zJk f;have E:=λag fl O tf to tn ae aa ab hb st=>wXc gl f x U ag (frF f) fl O [] [] rfl tf to tn ae aa ab hb st;obtain⟨o0,n0,ta,xa,tb,xb,rfl⟩:=U.agg;refine iI func139 ?_;simp only[go_sem,zE,zA,zL];refine (D _).mono ?_;rintro _ st ⟨rfl,rfl⟩;cases hr:f.right
 ·have hE:yJ6 f=(fm0,2):=by simp[yJ6,hr]
  rw[hE];simp only[go_sem,zE,zA,zL];exact yQ0 ⟨_,rfl,⟨_,[],_,[],rfl,by omega,.inl rfl,rfl,.inl rfl,rfl⟩,rfl⟩
 have hN:yJ6 f=(zJr (frF f) [] f,0):=by simp[yJ6,hr,yJb]
 rw[hN];simp only[go_sem,zE,zA,zL];refine (F _).mono ?_;rintro _ st ⟨ti,A,rfl,ac,J,rfl⟩;have ah:=J.len;simp only[go_sem,zE,zA];refine (E (yK1 hr).1 A J.2 ti _ _ ac (.inl rfl) (.inl rfl) (by simp only[List.length_nil];omega) _).mono ?_;rintro z st ⟨hz,rfl⟩;have G:IsFm (zJr (frF f) [] f) z:=hz;have W:=G;obtain⟨o5,n5,t5,x5,t6,x6,rfl⟩:=G.agg;simp only[go_sem,zE,zA,zL];exact yQ0 ⟨_,rfl,W,rfl⟩
