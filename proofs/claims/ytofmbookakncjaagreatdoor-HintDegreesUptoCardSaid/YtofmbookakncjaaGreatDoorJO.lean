/- Walks: iterators over names; sets. -/
import Derived.Test.YtofmbookakncjaaGreatDoorJN
set_option linter.all false
open Nat renaming reduceEqDiff → zE,reduceBEq → zB,reduceAdd → zA,reduceLeDiff → zL
namespace Go.Proofs.Tryz
open Go Go.Iv
set_option maxRecDepth 4000
variable (gl:Nat->Option IV)
def isQ (op:Nat):Bool:=decide (op=8) || decide (op=9)
theorem yJ8 (op:Nat)(n:ByteArray)(t G:Tag)(E ys:List IV)(st:ISt) :
  ICall prog gl 138 [.agg [.raw (.int .u8 op),.raw (.string n),.sl t E,.sl G ys]] st (λx st'=>x=.raw (.bool (isQ op))/\st'=st):=by
 refine iI func138 ?_;by_cases D:op=8
 ·simp only[go_sem,zE,zA,show decide ((op:Int)=8)=true from dEt (by omega)];exact yQ0 ⟨by simp[isQ,D],rfl⟩
 ·simp only[go_sem,zE,zA,show decide ((op:Int)=8)=false from dEf (by omega)];exact yQ0 ⟨by
   congr 2;by_cases A:op=9
   ·simp[isQ,A]
   ·rw[dEf (by omega)];simp[isQ,D,A],rfl⟩
theorem xXr (t:Tm)(x:IV)(D:IsTm t x)(st:ISt):ICall prog gl 236 [x] st (λr st'=>r=.fn (.func 257) [] [.cptr x]/\st'=st):=by
 obtain⟨v,n,us⟩:=t;obtain⟨J,G,rfl,E,A⟩:=D.mk;refine ICall.intro (c:=cf prog gl [] [] [1]) func236 rfl (by show _<=4;simp) (by kernel_rfl) ?_;simp only[go_sem,zE];exact yQ0 ⟨rfl,rfl⟩
theorem yWv (f:Fm)(x:IV)(A:IsFm f x)(st:ISt):ICall prog gl 185 [x] st (λr st'=>r=.fn (.func 217) [] [.cptr x]/\st'=st):=by
 obtain⟨o,n,us,sub⟩:=f;obtain⟨t1,E,t2,D,rfl,_⟩:=A.mk;refine ICall.intro (c:=cf prog gl [] [] [1]) func185 rfl (by show _<=4;simp) (by kernel_rfl) ?_;simp only[go_sem,zE];exact yQ0 ⟨rfl,rfl⟩
def zVj (l:List ByteArray):List (List IV):=l.map λs=>[.raw (.string s)]
theorem YOk.of {y:IV}{I:Nat->ISt->Prop}{S:ISt->Prop}{l:List ByteArray}(h:wVp prog gl y (seqX (zVj l)) I S):YOk gl y I S 0 l:=λi nm stu A D=>by
 have:=h i [.raw (.string nm)] stu (by simp[seqX,zVj,A]) (by simpa using D);rw[Nat.zero_add];exact this
theorem xQ4 (t:Tm)(x:IV)(E:IsTm t x)(I:Nat->ISt->Prop):IterC prog gl 257 [] [.cptr x] (seqX (zVj (yZ2 t))) (yZ2 t).length I:=by
 obtain⟨v,n,us⟩:=t;obtain⟨tg,xs,rfl,U,O⟩:=E.mk;rintro y I' S' st ⟨f,G,ca,rfl,D,A⟩ _ J h0;change ICall prog gl _ [.fn f G ca,_] st _;refine iI func257 ?_;simp only[go_sem,zE,zA,reduceCtorEq,fits];refine (zJg gl _ _ E f G ca D A I' S' 0 (YOk.of gl J) st h0).mono ?_;rintro _ st' h;simp only[go_sem];refine yQ0 ?_;rw[Nat.zero_add] at h;exact h.imp And.right And.right
def setE (l:List ByteArray):List (Value×IV):=l.foldl (λes s=>updI (.string s) (.raw (.bool true)) es) []
theorem wWi (g:FuncId)(D:List IV)(l:List ByteArray)(st:ISt)(he:entI prog g=true)(hi:∀I,IterC prog gl g [] D (seqX (zVj l)) l.length I) :
  ICall prog gl 184 [.fn (.func g) [] D] st (λr st'=>∃m,st m=none/\r=.raw (.map (some m))/\st'=st.put m (some (.map .str (setE l)))):=by
 refine ICall.intro (c:=cf prog gl [3] []) func184 rfl (by show _<=11;simp) (by kernel_rfl) ?_;simp only[go_sem,zE,zL,reduceCtorEq];refine λm=>yQ8 λU=>λb=>yQ8 λG=>?_;have A:b≠m:=by rintro rfl;rw[ISt.put_same] at G;cases G
 have key:∀k,((st.put m (some (.map .str (setE (l.take k))))).put b (some (.box [.raw (.map (some m))]))) m=some (.map .str (setE (l.take k))):=λk=>by
  rw[yQ7 (λh=>A h.symm),ISt.put_same]
 refine RangeC.intro (seqX (zVj l)) l.length (λk st'=>st'=(st.put m (some (.map .str (setE (l.take k))))).put b (some (.box [.raw (.map (some m))]))) (λ_ _=>False) he ?_ ?_ ?_ (hi _) ?_ (λ_ _ _ h=>h.elim)
 ·intro k a O;simp only[seqX,zVj,List.getElem?_map,Option.map_eq_some_iff] at O;obtain⟨s,_,rfl⟩:=O;rfl
 ·rw[yQ9];rfl
 ·rintro k a _ J rfl;simp only[seqX,zVj,List.getElem?_map,Option.map_eq_some_iff] at J;obtain⟨s,hs,rfl⟩:=J;simp only[go_sem,zE,ISt.put_same,key k];have hst:∀E,((st.put m (some (.map .str (setE (l.take k))))).put b (some (.box [.raw (.map (some m))]))).put m (some (.map .str E))=(st.put m (some (.map .str E))).put b (some (.box [.raw (.map (some m))])):=λE=>by
   funext c;simp only[ISt.put_apply];by_cases h1:c=m
   ·rw[if_pos h1,if_neg (λh=>A (by rw[<- h,h1])),if_pos h1]
   ·rw[if_neg h1,if_neg h1,if_neg h1]
  rw[hst,yQ6 hs];simp only[setE,List.foldl_append,List.foldl_cons,List.foldl_nil]
 ·rintro _ r rfl;simp only[go_sem,zE,ISt.put_same];refine yQg (st':=st.put m (some (.map .str (setE l)))) ?_ ⟨m,U,rfl,rfl⟩;simp only[lTl];exact yQh (by rw[yQ7 A];rw[yQ7 A] at G;exact G)
end Go.Proofs.Tryz
namespace Go.Proofs.Tryz
open Go Go.Iv
set_option maxRecDepth 4000
def incB (b:ByteArray->Nat)(n:ByteArray):ByteArray->Nat:=λs=>if s=n then b s+1 else b s
def yK2 (b:ByteArray->Nat)(l:List ByteArray):List ByteArray:=l.filter λs=>b s == 0
mutual
def zQk (b:ByteArray->Nat):Fm->List ByteArray
 | .mk op n l sub=>yK2 b (yQs l)++yZw (if isQ op then incB b n else b) sub
def yZw (b:ByteArray->Nat):List Fm->List ByteArray
 | []=>[]
 | a::l=>zQk b a++yZw b l
end
theorem yJ3 (b:ByteArray->Nat):∀(l m:List Fm),yZw b (l++m)=yZw b l++yZw b m
 | [],m=>by simp[yZw]
 | a::l,m=>by simp only[List.cons_append,yZw,yJ3 b l m,List.append_assoc]
theorem yXh (b:ByteArray->Nat)(l m:List ByteArray):yK2 b (l++m)=yK2 b l++yK2 b m:=by simp[yK2]
theorem wJy {b:ByteArray->Nat}{l:List ByteArray}{i:Nat}{nm:ByteArray}(h:l[i]?=some nm)(D:b nm=0):(yK2 b l)[(yK2 b (l.take i)).length]?=some nm:=by
 have:l=l.take i++(nm::l.drop (i+1)):=by
  have A:=(lGs h).1
  conv=>lhs;rw[<- List.take_append_drop i l,List.drop_eq_getElem_cons A]
  rw[(lGs h).2]
 conv=>lhs;arg 1;rw[this]
 rw[yXh,List.getElem?_append_right (Nat.le_refl _)];simp[yK2,D]
def CntOk (es:List (Value×IV))(b:ByteArray->Nat):Prop:=∀s,(yJ4 (.string s) es).getD (.raw (.int .i64 0))=.raw (.int .i64 (b s))
theorem CntOk.nil:CntOk [] (λ_=>0):=λ_=>rfl
theorem yGg (s n:ByteArray)(v:IV):∀es:List (Value×IV),yJ4 (.string s) (updI (.string n) v es)=if s=n then some v else yJ4 (.string s) es
 | []=>by
  simp only[updI,yJ4,yKz];by_cases h:s=n<;>simp[h]
 | (x,u)::es=>by
  simp only[updI];by_cases A:yKz (.string n) x=true
  ·have D:x=.string n:=by
    cases x<;>simp[yKz] at A;rw[A]
   subst D;rw[if_pos A];simp only[yJ4,yKz];by_cases h:s=n<;>simp[h]
  ·rw[if_neg A];simp only[yJ4];rw[yGg s n v es];by_cases h:s=n
   ·subst h;simp[A]
   ·simp[h]
theorem CntOk.inc {es:List (Value×IV)}{b:ByteArray->Nat}(h:CntOk es b)(n:ByteArray):CntOk (updI (.string n) (.raw (.int .i64 ((b n+1:Nat):Int))) es) (incB b n):=λs=>by
 rw[yGg];unfold incB;by_cases hs:s=n
 ·subst hs;simp
 ·simp only[if_neg hs];exact h s
theorem CntOk.dec {es:List (Value×IV)}{b:ByteArray->Nat}{n:ByteArray}(h:CntOk es (incB b n)):CntOk (updI (.string n) (.raw (.int .i64 (b n))) es) b:=λs=>by
 rw[yGg];by_cases hs:s=n
 ·subst hs;simp
 ·have:=h s;simp only[incB,if_neg hs] at this;simp only[if_neg hs];exact this
theorem CntOk.look {es:List (Value×IV)}{b:ByteArray->Nat}(h:CntOk es b)(s:ByteArray):zXi false (yJ4 (.string s) es) (.raw (.int .i64 0))=some (.raw (.int .i64 (b s))):=by
 rw[<- h s];rfl
variable (gl:Nat->Option IV)
theorem ICallV.put {y:IV}{args:List IV}{stu:ISt}{K:IV->ISt->Prop}(h:ICallV prog gl y args stu K){m:Nat}(G:stu m=none)(o:IObj) :
  ICallV prog gl y args (stu.put m (some o)) (λx st'=>∃A,A m=none/\st'=A.put m (some o)/\K x A):=by
 have E:∀s:ISt,join s (λc=>if c=m then some o else none)=s.put m (some o):=λs=>by
  funext c;simp only[join,ISt.put_apply];by_cases hc:c=m
  ·simp[hc]
  ·simp[hc]
 have hd:disj stu (λc=>if c=m then some o else none):=λc hc=>by
  by_cases h1:c=m
  ·rw[h1];exact G
  ·simp[h1] at hc
 have:=h.frame hd;rw[E] at this;refine this.mono ?_;rintro x st' ⟨A,D,rfl,hK⟩;exact⟨A,D m (by simp),E _,hK⟩
theorem zUx (nm:ByteArray)(m:Nat)(es:List (Value×IV))(b:ByteArray->Nat)(hc:CntOk es b)(f:Fn)(G ca:List IV)(J:fnOk f=true)(A:∀g,f=.func g->entI prog g=true)(st:ISt)(D:st m=some (.map .str es))
  (K:IV->ISt->Prop) (h1:0<b nm->K (.raw (.bool true)) st) (h2:b nm=0->ICallV prog gl (.fn f G ca) [.raw (.string nm)] st (λr st'=>(r=.raw (.bool true)\/r=.raw (.bool false))/\K r st')) :
  ICall prog gl 246 [.raw (.string nm),.cptr (.raw (.map (some m))),.cptr (.fn f G ca)] st K:=by
 refine iI func246 ?_;by_cases E:b nm=0
 ·simp only[go_sem,zE,reduceCtorEq,fits,D,hc.look nm,E,show decide ((0:Int)<((0:Nat):Int))=false from rfl];refine yZ3 A ((h2 E).mono ?_);rintro _ st (⟨rfl|rfl,hK⟩)
  ·simp only[go_sem,zE];exact yQ0 hK
  ·simp only[go_sem,zE];exact yQ0 hK
 ·simp only[go_sem,zE,reduceCtorEq,fits,D,hc.look nm,show decide ((0:Int)<((b nm:Nat):Int))=true from dEt (by omega)];exact yQ0 (h1 (by omega))
theorem zX1 (x:IV)(op:Nat)(n:ByteArray)(t D:Tag)(A ys:List IV)(m:Nat)(es:List (Value×IV))(b:ByteArray->Nat)(hc:CntOk es (incB b n))(J:b n<=4611686018427387904)(st:ISt)(G:st m=some (.map .str es)) :
  ICallD prog gl 248 [.cptr (.raw (.map (some m))),.cptr (.agg [.raw (.int .u8 op),.raw (.string n),.sl t A,.sl D ys])] st
   (λ_ st'=>st'=st.put m (some (.map .str (updI (.string n) (.raw (.int .i64 (b n))) es)))):=by
 refine ICallD.intro (c:=cf prog gl [] []) func248 rfl (by show _<=7;simp) (by kernel_rfl) ?_;have E:IntKind.i64.wrap (((incB b n n:Nat):Int)-1)=(b n:Int):=by rw[w64]<;>simp[incB]<;>omega
 simp only[go_sem,zE,fits,G,hc.look n,E];exact yQ0 rfl
end Go.Proofs.Tryz
namespace Go.Proofs.Tryz
open Go Go.Iv
set_option maxRecDepth 4000
variable (gl:Nat->Option IV)
def yY7 (m:Nat)(b:ByteArray->Nat)(P:ISt->Prop)(st:ISt):Prop:=∃stu es,stu m=none/\CntOk es b/\st=stu.put m (some (.map .str es))/\P stu
def uGo (I:Nat->ISt->Prop)(S:ISt->Prop)(m:Nat)(b:ByteArray->Nat)(k:Nat)(r:IV)(st':ISt):Prop:=(r=.raw (.bool true)/\yY7 m b (I k) st')\/(r=.raw (.bool false)/\yY7 m b S st')
theorem vX4 {f:Fn}{fi ca:List IV}(J:fnOk f=true)(E:∀g,f=.func g->entI prog g=true){I:Nat->ISt->Prop}{S:ISt->Prop}{k1:Nat}{b:ByteArray->Nat}{l:List ByteArray}(hy:YOk gl (.fn f fi ca) I S k1 (yK2 b l))(m:Nat) :
  YOk gl (.fn (.func 246) [] [.cptr (.raw (.map (some m))),.cptr (.fn f fi ca)]) (λi=>yY7 m b (I (k1+(yK2 b (l.take i)).length))) (yY7 m b S) 0 l:=by
 rintro i nm st G ⟨stu,es,hm,hc,rfl,U⟩;simp only[Nat.zero_add] at U ⊢;refine ICallV.of_ICall (by simp only[go_sem]) (zUx gl nm m es b hc f fi ca J E _ (ISt.put_same _ _ _) _ (λO=>?_) (λO=>?_))
 ·refine .inl ⟨rfl,stu,es,hm,hc,rfl,?_⟩;rw[yQ6 G,yXh];have:yK2 b [nm]=[]:=by simp[yK2];omega
  rw[this,List.append_nil];exact U
 ·refine (ICallV.put gl (hy _ nm stu (wJy G O) U) hm _).mono ?_;rintro r st' ⟨A,D,rfl,h|h⟩
  ·refine⟨.inl h.1,.inl ⟨h.1,A,es,D,hc,rfl,?_⟩⟩;rw[yQ6 G,yXh];have:yK2 b [nm]=[nm]:=by simp[yK2,O]
   rw[this,lLa,<- Nat.add_assoc];exact h.2
  ·exact⟨.inr h.1,.inr ⟨h.1,A,es,D,hc,rfl,h.2⟩⟩
def VF (f:Fm):Prop:=∀(x:IV) (_:IsFm f x) (g:Fn) (A ca:List IV) (_:fnOk g=true) (_:∀i,g=.func i->entI prog i=true) (I:Nat->ISt->Prop) (S:ISt->Prop) (k0:Nat) (b:ByteArray->Nat)
  (_:∀s,b s+f.size<=4611686018427387904) (_:YOk gl (.fn g A ca) I S k0 (zQk b f)) (m:Nat) (st:ISt) (_:yY7 m b (I k0) st),
  ICall prog gl 218 [x,.raw (.map (some m)),.fn g A ca] st (uGo I S m b (k0+(zQk b f).length))
theorem zVt (op:Nat)(n:ByteArray)(us:List Tm)(sub:List Fm)(IH:∀a∈sub,VF gl a):VF gl (.mk op n us sub):=by
 intro x hx g fi ca ah aa I S k0 b ai hy m st hst;obtain⟨tg,xs,ac,ys,rfl,aK,au,al,ae,hys⟩:=hx.mk;obtain⟨stu,es,hm,hc,rfl,hI⟩:=hst;simp only[zQk] at hy ⊢;have ao:=YOk.left gl hy;have O:=YOk.right gl hy;refine ICall.intro (c:=cf prog gl [] [] [3,4,5]) func218 rfl (by show _<=46;simp) (by kernel_rfl) ?_;simp only[go_sem,zE,al.len,fits];intro aC;refine LoopC.ctr us.length (λk fr st' ds=>yY7 m b (I (k0+(yK2 b (yQs (us.take k))).length)) st'/\fr 3=.iv (.cptr (.agg [.raw (.int .u8 op),.raw (.string n),.sl tg xs,.sl ac ys]))/\fr 4=.iv (.cptr (.raw (.map (some m)))) /\
  fr 5=.iv (.cptr (.fn g fi ca))/\fr 7=.iv (.fn (.func 246) [] [.cptr (.raw (.map (some m))),.cptr (.fn g fi ca)])/\fr 14=.iv (.sl tg xs)/\fr 15=.iv (.raw (.int .i64 us.length))/\fr 16=.iv (.raw (.int .i64 k))/\ds=[]) ?_ ?_ ?_
 ·simp only[go_sem,zE];exact⟨⟨stu,es,hm,hc,rfl,by simpa[yQs,yK2] using hI⟩,rfl⟩
 ·rintro k fr st ds D ⟨hst,f3,f4,f5,f7,f14,f15,f16,rfl⟩;obtain⟨a,J⟩:=yQ1 D;obtain⟨x,U,hx⟩:=al.get J;have A:yQs us=yQs (us.take k)++(yZ2 a++yQs (us.drop (k+1))):=by
   conv=>lhs;rw[<- List.take_append_drop k us,List.drop_eq_getElem_cons D]
   rw[yXs,(lGs J).2];rfl
  have G:=ao;rw[A,yXh,yXh] at G;have ax:=vX4 gl ah aa (YOk.left gl (YOk.right gl G)) m;have E:=zJg gl a x hx _ _ _ rfl (λi hi=>by cases hi;simp only[go_sem]) _ _ 0 ax st (by simpa[yK2] using hst);obtain⟨v2,n2,m2⟩:=a;obtain⟨tx,cx,rfl,_⟩:=hx.mk;simp only[go_sem,zE,zA,zL,f7,f14,f15,f16,lt_i D,yQ3 au,iNn,U];refine E.mono ?_;rintro _ st (⟨rfl,h⟩|⟨rfl,h⟩)
  ·simp only[go_sem,zE,f3,f4,f5,f7,f14,f15,f16,yQc D (show us.length<=281474976710656 by omega)];rw[yQ6 J,yXs,yXh,lLa,<- Nat.add_assoc];simpa[yQs,lTl] using h
  ·simp only[go_sem];exact yQ0 (.inr ⟨rfl,h⟩)
 ·rintro fr st ds ⟨hst,f3,f4,f5,f7,f14,f15,f16,rfl⟩;rw[lTl] at hst;obtain⟨stu,es,hm,hc,rfl,hI⟩:=hst;simp only[go_sem,zE,zA,f3,f15,f16,yQl (nLi _),fits];refine (yJ8 gl op n _ _ _ _ _).mono ?_;rintro _ _ ⟨rfl,rfl⟩;cases hq:isQ op
  ·rw[hq] at O;simp only[bFt,if_false] at O ⊢;simp only[go_sem,zE,f3,fits,hys.len];intro ag;refine LoopC.ctr sub.length (λk fr st' ds=>yY7 m b (I (k0+(yK2 b (yQs us)).length+(yZw b (sub.take k)).length)) st'/\fr 4=.iv (.cptr (.raw (.map (some m)))) /\
    fr 5=.iv (.cptr (.fn g fi ca))/\fr 34=.iv (.sl ac ys)/\fr 35=.iv (.raw (.int .i64 sub.length))/\fr 36=.iv (.raw (.int .i64 k))/\ds=[]) ?_ ?_ ?_
   ·simp only[go_sem,zE,f4,f5];exact⟨⟨stu,es,hm,hc,rfl,by simpa[yZw] using hI⟩,rfl⟩
   ·rintro k fr st ds D ⟨hst,f4,f5,f34,f35,f36,rfl⟩;obtain⟨a,J⟩:=yQ1 D;obtain⟨x,U,hx⟩:=hys.get J;obtain⟨aw,av⟩:=yZ7 J;have A:yZw b sub=yZw b (sub.take k)++(zQk b a++yZw b (sub.drop (k+1))):=by
     conv=>lhs;rw[<- List.take_append_drop k sub,List.drop_eq_getElem_cons D]
     rw[yJ3,(lGs J).2];rfl
    have G:=O;rw[A] at G;have E:=IH a (lMg J) x hx g fi ca ah aa I S _ b (λs=>by have:=ai s;simp only[Fm.size] at this;omega) (YOk.left gl (YOk.right gl G)) m st hst;obtain⟨o2,n2,u2,s2⟩:=a;obtain⟨t3,x3,t4,x4,rfl,_⟩:=hx.mk;simp only[go_sem,zE,zB,zA,zL,f4,f5,f34,f35,f36,lt_i D,yQ3 ae,iNn,U,fits];refine E.mono ?_;rintro _ st (⟨rfl,h⟩|⟨rfl,h⟩)
    ·simp only[go_sem,zE,f4,f5,f34,f35,f36,yQc D (show sub.length<=281474976710656 by omega)];rw[yQ6 J,yJ3,lLa,<- Nat.add_assoc];simpa[yZw] using h
    ·simp only[go_sem];exact yQ0 (.inr ⟨rfl,h⟩)
   ·rintro fr st ds ⟨hst,f4,f5,f34,f35,f36,rfl⟩;simp only[go_sem,f35,f36,yQl (nLi _)];rw[lTl] at hst;refine yQ0 (.inl ⟨rfl,?_⟩);rw[lLa,<- Nat.add_assoc];exact hst
  ·rw[hq] at O;simp only[if_true] at O ⊢;have az:=ai n;simp only[Fm.size] at az;have hw:IntKind.i64.wrap (((b n:Nat):Int)+1)=((b n+1:Nat):Int):=by rw[w64]<;>omega
   simp only[go_sem,zE,reduceCtorEq,f3,f4,fits,hys.len,ISt.put_same,hc.look n,hw,yQ9];intro ag;have ay:=hc.inc n;refine LoopC.ctr sub.length (λk fr st' ds=>yY7 m (incB b n) (I (k0+(yK2 b (yQs us)).length+(yZw (incB b n) (sub.take k)).length)) st'/\fr 4=.iv (.cptr (.raw (.map (some m)))) /\
    fr 5=.iv (.cptr (.fn g fi ca))/\fr 34=.iv (.sl ac ys)/\fr 35=.iv (.raw (.int .i64 sub.length))/\fr 36=.iv (.raw (.int .i64 k)) /\
    ds=[.call (.func 248) [.cptr (.raw (.map (some m))),.cptr (.agg [.raw (.int .u8 op),.raw (.string n),.sl tg xs,.sl ac ys])] []]) ?_ ?_ ?_
   ·simp only[go_sem,zE,f4,f5];exact⟨⟨stu,_,hm,ay,rfl,by simpa[yZw] using hI⟩,rfl⟩
   ·rintro k fr st ds D ⟨hst,f4,f5,f34,f35,f36,rfl⟩;obtain⟨a,J⟩:=yQ1 D;obtain⟨x,U,hx⟩:=hys.get J;obtain⟨aw,av⟩:=yZ7 J;have A:yZw (incB b n) sub=yZw (incB b n) (sub.take k)++(zQk (incB b n) a++yZw (incB b n) (sub.drop (k+1))):=by
     conv=>lhs;rw[<- List.take_append_drop k sub,List.drop_eq_getElem_cons D]
     rw[yJ3,(lGs J).2];rfl
    have G:=O;rw[A] at G;have E:=IH a (lMg J) x hx g fi ca ah aa I S _ (incB b n) (λs=>by have:=ai s;simp only[Fm.size] at this;simp only[incB];split<;>omega) (YOk.left gl (YOk.right gl G)) m st hst;obtain⟨o2,n2,u2,s2⟩:=a;obtain⟨t3,x3,t4,x4,rfl,_⟩:=hx.mk;simp only[go_sem,zE,zB,zA,zL,f4,f5,f34,f35,f36,lt_i D,yQ3 ae,iNn,U,fits];refine E.mono ?_;rintro _ st (⟨rfl,h⟩|⟨rfl,h⟩)
    ·simp only[go_sem,zE,f4,f5,f34,f35,f36,yQc D (show sub.length<=281474976710656 by omega)];rw[yQ6 J,yJ3,lLa,<- Nat.add_assoc];simpa[yZw] using h
    ·obtain⟨stu,es,hm,hc,rfl,hS⟩:=h;simp only[go_sem];refine (zX1 gl .junk op n _ _ _ _ m es b hc (by omega) _ (ISt.put_same _ _ _)).mono ?_;rintro _ _ rfl;simp only[go_sem,yQ9];exact yQ0 (.inr ⟨rfl,stu,_,hm,hc.dec,rfl,hS⟩)
   ·rintro fr st ds ⟨hst,f4,f5,f34,f35,f36,rfl⟩;rw[lTl] at hst;obtain⟨stu,es,hm,hc,rfl,hI⟩:=hst;simp only[go_sem,f35,f36,yQl (nLi _)];refine (zX1 gl .junk op n _ _ _ _ m es b hc (by omega) _ (ISt.put_same _ _ _)).mono ?_;rintro _ _ rfl;simp only[go_sem,yQ9];refine yQ0 (.inl ⟨rfl,stu,_,hm,hc.dec,rfl,?_⟩);rw[lLa,<- Nat.add_assoc];exact hI
theorem yUs:∀(k:Nat)(t:Fm),SizeOf.sizeOf t<k->VF gl t
 | 0,f,h=>by omega
 | k+1,.mk o n us sub,h=>zVt gl o n us sub (λa A=>yUs k a (by
   have:=lSm A;simp at h;omega))
theorem xXm (t:Fm):VF gl t:=yUs gl _ t (Nat.lt_succ_self _)
def xKe (f:Fm):List ByteArray:=zQk (λ_=>0) f
theorem yVj (f:Fm)(x:IV)(O:IsFm f x)(hs:f.size<=4611686018427387904)(I:Nat->ISt->Prop):IterC prog gl 217 [] [.cptr x] (seqX (zVj (xKe f))) (xKe f).length I:=by
 obtain⟨o,n,us,sub⟩:=f;obtain⟨t1,x1,t2,x2,rfl,_⟩:=O.mk;rintro y I' S' st ⟨g,U,ca,rfl,G,E⟩ _ hy h0;change ICall prog gl _ [.fn g U ca,_] st _;refine iI func217 ?_;simp only[go_sem,zE,zA,reduceCtorEq,fits];refine λm=>yQ8 λhm=>?_;refine (xXm gl _ _ O g U ca G E I' S' 0 (λ_=>0) (λs=>by omega) (YOk.of gl hy) m _ ⟨st,[],hm,CntOk.nil,rfl,h0⟩).mono ?_;rintro _ st' h;simp only[go_sem];have A:∀(stu:ISt) (es:List (Value×IV)),stu m=none->subSt stu (stu.put m (some (.map .str es))):=λstu es h=>yQh h;rw[Nat.zero_add] at h;rcases h with⟨_,stu,es,D,_,rfl,J⟩|⟨_,stu,es,D,_,rfl,J⟩
 ·exact yQg (A stu es D) (.inl J)
 ·exact yQg (A stu es D) (.inr J)
