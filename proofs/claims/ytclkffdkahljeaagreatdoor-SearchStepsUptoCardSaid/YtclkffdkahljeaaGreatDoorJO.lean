/- Walks: iterators over names; sets. -/
import Derived.Test.YtclkffdkahljeaaGreatDoorJN
set_option linter.all false
open Nat renaming reduceEqDiff → zE,reduceBEq → zB,reduceAdd → zA,reduceLeDiff → zL
namespace Go.Proofs.Tryz
open Go Go.Iv
set_option maxRecDepth 4000
variable (gl:Nat->Option IV)
def isQ (op:Nat):Bool:=decide (op=8) || decide (op=9)
theorem yXp (op:Nat)(n:ByteArray)(t J:Tag)(E ys:List IV)(st:ISt) :
  ICall prog gl 147 [.agg [.raw (.int .u8 op),.raw (.string n),.sl t E,.sl J ys]] st (λx st'=>x=.raw (.bool (isQ op))/\st'=st):=by
 refine iI func147 ?_;by_cases D:op=8
 ·simp only[go_sem,zE,zA,show decide ((op:Int)=8)=true from dEt (by omega)];exact yQ0 ⟨by simp[isQ,D],rfl⟩
 ·simp only[go_sem,zE,zA,show decide ((op:Int)=8)=false from dEf (by omega)];exact yQ0 ⟨by
   congr 2;by_cases A:op=9
   ·simp[isQ,A]
   ·rw[dEf (by omega)];simp[isQ,D,A],rfl⟩
theorem xX3 (t:Tm)(x:IV)(hx:IsTm t x)(st:ISt):ICall prog gl 264 [x] st (λr st'=>r=.fn (.func 280) [] [.cptr x]/\st'=st):=by
 obtain⟨v,n,us⟩:=t;obtain⟨J,E,rfl,D,A⟩:=hx.mk;refine ICall.intro (c:=cf prog gl [] [] [1]) func264 rfl (by show _<=4;simp) (by kernel_rfl) ?_;simp only[go_sem,zE];exact yQ0 ⟨rfl,rfl⟩
theorem yWu (f:Fm)(x:IV)(hx:IsFm f x)(st:ISt):ICall prog gl 119 [x] st (λr st'=>r=.fn (.func 152) [] [.cptr x]/\st'=st):=by
 obtain⟨o,n,us,sub⟩:=f;obtain⟨t1,D,t2,A,rfl,_⟩:=hx.mk;refine ICall.intro (c:=cf prog gl [] [] [1]) func119 rfl (by show _<=4;simp) (by kernel_rfl) ?_;simp only[go_sem,zE];exact yQ0 ⟨rfl,rfl⟩
def zKx (l:List ByteArray):List (List IV):=l.map λs=>[.raw (.string s)]
theorem YOk.of {y:IV}{I:Nat->ISt->Prop}{S:ISt->Prop}{l:List ByteArray}(h:wK8 prog gl y (seqX (zKx l)) I S):YOk gl y I S 0 l:=λi nm stu A D=>by
 have:=h i [.raw (.string nm)] stu (by simp[seqX,zKx,A]) (by simpa using D);rw[Nat.zero_add];exact this
theorem zUl (t:Tm)(x:IV)(hx:IsTm t x)(I:Nat->ISt->Prop):IterC prog gl 280 [] [.cptr x] (seqX (zKx (yZ0 t))) (yZ0 t).length I:=by
 obtain⟨v,n,us⟩:=t;obtain⟨tg,xs,rfl,U,O⟩:=hx.mk;rintro y I' S' st ⟨f,E,ca,rfl,D,A⟩ _ J h0;change ICall prog gl _ [.fn f E ca,_] st _;refine iI func280 ?_;simp only[go_sem,zE,zA,reduceCtorEq,fits];refine (zJ4 gl _ _ hx f E ca D A I' S' 0 (YOk.of gl J) st h0).mono ?_;rintro _ st' h;simp only[go_sem];refine yQ0 ?_;rw[Nat.zero_add] at h;exact h.imp And.right And.right
def setE (l:List ByteArray):List (Value×IV):=l.foldl (λes s=>updI (.string s) (.raw (.bool true)) es) []
theorem wV0 (g:FuncId)(D:List IV)(l:List ByteArray)(st:ISt)(he:entI prog g=true)(hi:∀I,IterC prog gl g [] D (seqX (zKx l)) l.length I) :
  ICall prog gl 118 [.fn (.func g) [] D] st (λr st'=>∃m,st m=none/\r=.raw (.map (some m))/\st'=st.put m (some (.map .str (setE l)))):=by
 refine ICall.intro (c:=cf prog gl [3] []) func118 rfl (by show _<=11;simp) (by kernel_rfl) ?_;simp only[go_sem,zE,zL,reduceCtorEq];refine λm=>yQ8 λhm=>λb=>yQ8 λE=>?_;have A:b≠m:=by rintro rfl;rw[ISt.put_same] at E;cases E
 have key:∀k,((st.put m (some (.map .str (setE (l.take k))))).put b (some (.box [.raw (.map (some m))]))) m=some (.map .str (setE (l.take k))):=λk=>by
  rw[yQ5 (λh=>A h.symm),ISt.put_same]
 refine RangeC.intro (seqX (zKx l)) l.length (λk st'=>st'=(st.put m (some (.map .str (setE (l.take k))))).put b (some (.box [.raw (.map (some m))]))) (λ_ _=>False) he ?_ ?_ ?_ (hi _) ?_ (λ_ _ _ h=>h.elim)
 ·intro k a U;simp only[seqX,zKx,List.getElem?_map,Option.map_eq_some_iff] at U;obtain⟨s,_,rfl⟩:=U;rfl
 ·rw[yQ9];rfl
 ·rintro k a _ O rfl;simp only[seqX,zKx,List.getElem?_map,Option.map_eq_some_iff] at O;obtain⟨s,hs,rfl⟩:=O;simp only[go_sem,zE,ISt.put_same,key k];have J:∀es',((st.put m (some (.map .str (setE (l.take k))))).put b (some (.box [.raw (.map (some m))]))).put m (some (.map .str es'))=(st.put m (some (.map .str es'))).put b (some (.box [.raw (.map (some m))])):=λes'=>by
   funext c;simp only[ISt.put_apply];by_cases h1:c=m
   ·rw[if_pos h1,if_neg (λh=>A (by rw[<- h,h1])),if_pos h1]
   ·rw[if_neg h1,if_neg h1,if_neg h1]
  rw[J,yQ7 hs];simp only[setE,List.foldl_append,List.foldl_cons,List.foldl_nil]
 ·rintro _ r rfl;simp only[go_sem,zE,ISt.put_same];refine yQf (st':=st.put m (some (.map .str (setE l)))) ?_ ⟨m,hm,rfl,rfl⟩;simp only[lTl];exact yQa (by rw[yQ5 A];rw[yQ5 A] at E;exact E)
end Go.Proofs.Tryz
namespace Go.Proofs.Tryz
open Go Go.Iv
set_option maxRecDepth 4000
def incB (b:ByteArray->Nat)(n:ByteArray):ByteArray->Nat:=λs=>if s=n then b s+1 else b s
def yK6 (b:ByteArray->Nat)(l:List ByteArray):List ByteArray:=l.filter λs=>b s == 0
mutual
def zQ8 (b:ByteArray->Nat):Fm->List ByteArray
 | .mk op n l sub=>yK6 b (yQp l)++yX1 (if isQ op then incB b n else b) sub
def yX1 (b:ByteArray->Nat):List Fm->List ByteArray
 | []=>[]
 | a::l=>zQ8 b a++yX1 b l
end
theorem yJ0 (b:ByteArray->Nat):∀(l m:List Fm),yX1 b (l++m)=yX1 b l++yX1 b m
 | [],m=>by simp[yX1]
 | a::l,m=>by simp only[List.cons_append,yX1,yJ0 b l m,List.append_assoc]
theorem yXg (b:ByteArray->Nat)(l m:List ByteArray):yK6 b (l++m)=yK6 b l++yK6 b m:=by simp[yK6]
theorem wXm {b:ByteArray->Nat}{l:List ByteArray}{i:Nat}{nm:ByteArray}(h:l[i]?=some nm)(D:b nm=0):(yK6 b l)[(yK6 b (l.take i)).length]?=some nm:=by
 have:l=l.take i++(nm::l.drop (i+1)):=by
  have A:=(lGs h).1
  conv=>lhs;rw[<- List.take_append_drop i l,List.drop_eq_getElem_cons A]
  rw[(lGs h).2]
 conv=>lhs;arg 1;rw[this]
 rw[yXg,List.getElem?_append_right (Nat.le_refl _)];simp[yK6,D]
def CntOk (es:List (Value×IV))(b:ByteArray->Nat):Prop:=∀s,(yXo (.string s) es).getD (.raw (.int .i64 0))=.raw (.int .i64 (b s))
theorem CntOk.nil:CntOk [] (λ_=>0):=λ_=>rfl
theorem yGc (s n:ByteArray)(v:IV):∀es:List (Value×IV),yXo (.string s) (updI (.string n) v es)=if s=n then some v else yXo (.string s) es
 | []=>by
  simp only[updI,yXo,yKk];by_cases h:s=n<;>simp[h]
 | (x,u)::es=>by
  simp only[updI];by_cases A:yKk (.string n) x=true
  ·have hx:x=.string n:=by
    cases x<;>simp[yKk] at A;rw[A]
   subst hx;rw[if_pos A];simp only[yXo,yKk];by_cases h:s=n<;>simp[h]
  ·rw[if_neg A];simp only[yXo];rw[yGc s n v es];by_cases h:s=n
   ·subst h;simp[A]
   ·simp[h]
theorem CntOk.inc {es:List (Value×IV)}{b:ByteArray->Nat}(h:CntOk es b)(n:ByteArray):CntOk (updI (.string n) (.raw (.int .i64 ((b n+1:Nat):Int))) es) (incB b n):=λs=>by
 rw[yGc];unfold incB;by_cases hs:s=n
 ·subst hs;simp
 ·simp only[if_neg hs];exact h s
theorem CntOk.dec {es:List (Value×IV)}{b:ByteArray->Nat}{n:ByteArray}(h:CntOk es (incB b n)):CntOk (updI (.string n) (.raw (.int .i64 (b n))) es) b:=λs=>by
 rw[yGc];by_cases hs:s=n
 ·subst hs;simp
 ·have:=h s;simp only[incB,if_neg hs] at this;simp only[if_neg hs];exact this
theorem CntOk.look {es:List (Value×IV)}{b:ByteArray->Nat}(h:CntOk es b)(s:ByteArray):zXe false (yXo (.string s) es) (.raw (.int .i64 0))=some (.raw (.int .i64 (b s))):=by
 rw[<- h s];rfl
variable (gl:Nat->Option IV)
theorem ICallV.put {y:IV}{args:List IV}{stu:ISt}{K:IV->ISt->Prop}(h:ICallV prog gl y args stu K){m:Nat}(J:stu m=none)(o:IObj) :
  ICallV prog gl y args (stu.put m (some o)) (λx st'=>∃A,A m=none/\st'=A.put m (some o)/\K x A):=by
 have E:∀s:ISt,join s (λc=>if c=m then some o else none)=s.put m (some o):=λs=>by
  funext c;simp only[join,ISt.put_apply];by_cases hc:c=m
  ·simp[hc]
  ·simp[hc]
 have hd:disj stu (λc=>if c=m then some o else none):=λc hc=>by
  by_cases h1:c=m
  ·rw[h1];exact J
  ·simp[h1] at hc
 have:=h.frame hd;rw[E] at this;refine this.mono ?_;rintro x st' ⟨A,D,rfl,hK⟩;exact⟨A,D m (by simp),E _,hK⟩
theorem zUf (nm:ByteArray)(m:Nat)(es:List (Value×IV))(b:ByteArray->Nat)(hc:CntOk es b)(f:Fn)(J ca:List IV)(O:fnOk f=true)(A:∀g,f=.func g->entI prog g=true)(st:ISt)(D:st m=some (.map .str es))
  (K:IV->ISt->Prop) (h1:0<b nm->K (.raw (.bool true)) st) (h2:b nm=0->ICallV prog gl (.fn f J ca) [.raw (.string nm)] st (λr st'=>(r=.raw (.bool true)\/r=.raw (.bool false))/\K r st')) :
  ICall prog gl 199 [.raw (.string nm),.cptr (.raw (.map (some m))),.cptr (.fn f J ca)] st K:=by
 refine iI func199 ?_;by_cases E:b nm=0
 ·simp only[go_sem,zE,reduceCtorEq,fits,D,hc.look nm,E,show decide ((0:Int)<((0:Nat):Int))=false from rfl];refine yZ4 A ((h2 E).mono ?_);rintro _ st (⟨rfl|rfl,hK⟩)
  ·simp only[go_sem,zE];exact yQ0 hK
  ·simp only[go_sem,zE];exact yQ0 hK
 ·simp only[go_sem,zE,reduceCtorEq,fits,D,hc.look nm,show decide ((0:Int)<((b nm:Nat):Int))=true from dEt (by omega)];exact yQ0 (h1 (by omega))
theorem zZv (x:IV)(op:Nat)(n:ByteArray)(t D:Tag)(A ys:List IV)(m:Nat)(es:List (Value×IV))(b:ByteArray->Nat)(hc:CntOk es (incB b n))(O:b n<=4611686018427387904)(st:ISt)(J:st m=some (.map .str es)) :
  ICallD prog gl 201 [.cptr (.raw (.map (some m))),.cptr (.agg [.raw (.int .u8 op),.raw (.string n),.sl t A,.sl D ys])] st
   (λ_ st'=>st'=st.put m (some (.map .str (updI (.string n) (.raw (.int .i64 (b n))) es)))):=by
 refine ICallD.intro (c:=cf prog gl [] []) func201 rfl (by show _<=7;simp) (by kernel_rfl) ?_;have E:IntKind.i64.wrap (((incB b n n:Nat):Int)-1)=(b n:Int):=by rw[w64]<;>simp[incB]<;>omega
 simp only[go_sem,zE,fits,J,hc.look n,E];exact yQ0 rfl
end Go.Proofs.Tryz
namespace Go.Proofs.Tryz
open Go Go.Iv
set_option maxRecDepth 4000
variable (gl:Nat->Option IV)
def yY8 (m:Nat)(b:ByteArray->Nat)(P:ISt->Prop)(st:ISt):Prop:=∃stu es,stu m=none/\CntOk es b/\st=stu.put m (some (.map .str es))/\P stu
def uWy (I:Nat->ISt->Prop)(S:ISt->Prop)(m:Nat)(b:ByteArray->Nat)(k:Nat)(r:IV)(st':ISt):Prop:=(r=.raw (.bool true)/\yY8 m b (I k) st')\/(r=.raw (.bool false)/\yY8 m b S st')
theorem vQq {f:Fn}{fi ca:List IV}(O:fnOk f=true)(E:∀g,f=.func g->entI prog g=true){I:Nat->ISt->Prop}{S:ISt->Prop}{k1:Nat}{b:ByteArray->Nat}{l:List ByteArray}(hy:YOk gl (.fn f fi ca) I S k1 (yK6 b l))(m:Nat) :
  YOk gl (.fn (.func 199) [] [.cptr (.raw (.map (some m))),.cptr (.fn f fi ca)]) (λi=>yY8 m b (I (k1+(yK6 b (l.take i)).length))) (yY8 m b S) 0 l:=by
 rintro i nm st J ⟨stu,es,hm,hc,rfl,hI⟩;simp only[Nat.zero_add] at hI ⊢;refine ICallV.of_ICall (by simp only[go_sem]) (zUf gl nm m es b hc f fi ca O E _ (ISt.put_same _ _ _) _ (λU=>?_) (λU=>?_))
 ·refine .inl ⟨rfl,stu,es,hm,hc,rfl,?_⟩;rw[yQ7 J,yXg];have:yK6 b [nm]=[]:=by simp[yK6];omega
  rw[this,List.append_nil];exact hI
 ·refine (ICallV.put gl (hy _ nm stu (wXm J U) hI) hm _).mono ?_;rintro r st' ⟨A,D,rfl,h|h⟩
  ·refine⟨.inl h.1,.inl ⟨h.1,A,es,D,hc,rfl,?_⟩⟩;rw[yQ7 J,yXg];have:yK6 b [nm]=[nm]:=by simp[yK6,U]
   rw[this,lLa,<- Nat.add_assoc];exact h.2
  ·exact⟨.inr h.1,.inr ⟨h.1,A,es,D,hc,rfl,h.2⟩⟩
def VF (f:Fm):Prop:=∀(x:IV) (_:IsFm f x) (g:Fn) (A ca:List IV) (_:fnOk g=true) (_:∀i,g=.func i->entI prog i=true) (I:Nat->ISt->Prop) (S:ISt->Prop) (k0:Nat) (b:ByteArray->Nat)
  (_:∀s,b s+f.size<=4611686018427387904) (_:YOk gl (.fn g A ca) I S k0 (zQ8 b f)) (m:Nat) (st:ISt) (_:yY8 m b (I k0) st),
  ICall prog gl 153 [x,.raw (.map (some m)),.fn g A ca] st (uWy I S m b (k0+(zQ8 b f).length))
theorem zV7 (op:Nat)(n:ByteArray)(us:List Tm)(sub:List Fm)(IH:∀a∈sub,VF gl a):VF gl (.mk op n us sub):=by
 intro x hx g fi ca ai ac I S k0 b aj hy m st A;obtain⟨tg,xs,ae,ys,rfl,aL,av,am,af,hys⟩:=hx.mk;obtain⟨stu,es,hm,hc,rfl,hI⟩:=A;simp only[zQ8] at hy ⊢;have aq:=YOk.left gl hy;have aa:=YOk.right gl hy;refine ICall.intro (c:=cf prog gl [] [] [3,4,5]) func153 rfl (by show _<=46;simp) (by kernel_rfl) ?_;simp only[go_sem,zE,am.len,fits];intro aD;refine LoopC.ctr us.length (λk fr st' ds=>yY8 m b (I (k0+(yK6 b (yQp (us.take k))).length)) st'/\fr 3=.iv (.cptr (.agg [.raw (.int .u8 op),.raw (.string n),.sl tg xs,.sl ae ys]))/\fr 4=.iv (.cptr (.raw (.map (some m)))) /\
  fr 5=.iv (.cptr (.fn g fi ca))/\fr 7=.iv (.fn (.func 199) [] [.cptr (.raw (.map (some m))),.cptr (.fn g fi ca)])/\fr 14=.iv (.sl tg xs)/\fr 15=.iv (.raw (.int .i64 us.length))/\fr 16=.iv (.raw (.int .i64 k))/\ds=[]) ?_ ?_ ?_
 ·simp only[go_sem,zE];exact⟨⟨stu,es,hm,hc,rfl,by simpa[yQp,yK6] using hI⟩,rfl⟩
 ·rintro k fr st ds E ⟨A,f3,f4,f5,f7,f14,f15,f16,rfl⟩;obtain⟨a,U⟩:=yQ1 E;obtain⟨x,ab,hx⟩:=am.get U;have D:yQp us=yQp (us.take k)++(yZ0 a++yQp (us.drop (k+1))):=by
   conv=>lhs;rw[<- List.take_append_drop k us,List.drop_eq_getElem_cons E]
   rw[yXq,(lGs U).2];rfl
  have O:=aq;rw[D,yXg,yXg] at O;have ay:=vQq gl ai ac (YOk.left gl (YOk.right gl O)) m;have J:=zJ4 gl a x hx _ _ _ rfl (λi hi=>by cases hi;simp only[go_sem]) _ _ 0 ay st (by simpa[yK6] using A);obtain⟨v2,n2,m2⟩:=a;obtain⟨tx,cx,rfl,_⟩:=hx.mk;simp only[go_sem,zE,zA,zL,f7,f14,f15,f16,lt_i E,yQ3 av,iNn,ab];refine J.mono ?_;rintro _ st (⟨rfl,h⟩|⟨rfl,h⟩)
  ·simp only[go_sem,zE,f3,f4,f5,f7,f14,f15,f16,yQc E (show us.length<=281474976710656 by omega)];rw[yQ7 U,yXq,yXg,lLa,<- Nat.add_assoc];simpa[yQp,lTl] using h
  ·simp only[go_sem];exact yQ0 (.inr ⟨rfl,h⟩)
 ·rintro fr st ds ⟨A,f3,f4,f5,f7,f14,f15,f16,rfl⟩;rw[lTl] at A;obtain⟨stu,es,hm,hc,rfl,hI⟩:=A;simp only[go_sem,zE,zA,f3,f15,f16,yQi (nLi _),fits];refine (yXp gl op n _ _ _ _ _).mono ?_;rintro _ _ ⟨rfl,rfl⟩;cases hq:isQ op
  ·rw[hq] at aa;simp only[bFt,if_false] at aa ⊢;simp only[go_sem,zE,f3,fits,hys.len];intro ah;refine LoopC.ctr sub.length (λk fr st' ds=>yY8 m b (I (k0+(yK6 b (yQp us)).length+(yX1 b (sub.take k)).length)) st'/\fr 4=.iv (.cptr (.raw (.map (some m)))) /\
    fr 5=.iv (.cptr (.fn g fi ca))/\fr 34=.iv (.sl ae ys)/\fr 35=.iv (.raw (.int .i64 sub.length))/\fr 36=.iv (.raw (.int .i64 k))/\ds=[]) ?_ ?_ ?_
   ·simp only[go_sem,zE,f4,f5];exact⟨⟨stu,es,hm,hc,rfl,by simpa[yX1] using hI⟩,rfl⟩
   ·rintro k fr st ds E ⟨A,f4,f5,f34,f35,f36,rfl⟩;obtain⟨a,U⟩:=yQ1 E;obtain⟨x,ab,hx⟩:=hys.get U;obtain⟨ax,aw⟩:=yQv U;have D:yX1 b sub=yX1 b (sub.take k)++(zQ8 b a++yX1 b (sub.drop (k+1))):=by
     conv=>lhs;rw[<- List.take_append_drop k sub,List.drop_eq_getElem_cons E]
     rw[yJ0,(lGs U).2];rfl
    have O:=aa;rw[D] at O;have J:=IH a (lMg U) x hx g fi ca ai ac I S _ b (λs=>by have:=aj s;simp only[Fm.size] at this;omega) (YOk.left gl (YOk.right gl O)) m st A;obtain⟨o2,n2,u2,s2⟩:=a;obtain⟨t3,x3,t4,x4,rfl,_⟩:=hx.mk;simp only[go_sem,zE,zB,zA,zL,f4,f5,f34,f35,f36,lt_i E,yQ3 af,iNn,ab,fits];refine J.mono ?_;rintro _ st (⟨rfl,h⟩|⟨rfl,h⟩)
    ·simp only[go_sem,zE,f4,f5,f34,f35,f36,yQc E (show sub.length<=281474976710656 by omega)];rw[yQ7 U,yJ0,lLa,<- Nat.add_assoc];simpa[yX1] using h
    ·simp only[go_sem];exact yQ0 (.inr ⟨rfl,h⟩)
   ·rintro fr st ds ⟨A,f4,f5,f34,f35,f36,rfl⟩;simp only[go_sem,f35,f36,yQi (nLi _)];rw[lTl] at A;refine yQ0 (.inl ⟨rfl,?_⟩);rw[lLa,<- Nat.add_assoc];exact A
  ·rw[hq] at aa;simp only[if_true] at aa ⊢;have aA:=aj n;simp only[Fm.size] at aA;have hw:IntKind.i64.wrap (((b n:Nat):Int)+1)=((b n+1:Nat):Int):=by rw[w64]<;>omega
   simp only[go_sem,zE,reduceCtorEq,f3,f4,fits,hys.len,ISt.put_same,hc.look n,hw,yQ9];intro ah;have az:=hc.inc n;refine LoopC.ctr sub.length (λk fr st' ds=>yY8 m (incB b n) (I (k0+(yK6 b (yQp us)).length+(yX1 (incB b n) (sub.take k)).length)) st'/\fr 4=.iv (.cptr (.raw (.map (some m)))) /\
    fr 5=.iv (.cptr (.fn g fi ca))/\fr 34=.iv (.sl ae ys)/\fr 35=.iv (.raw (.int .i64 sub.length))/\fr 36=.iv (.raw (.int .i64 k)) /\
    ds=[.call (.func 201) [.cptr (.raw (.map (some m))),.cptr (.agg [.raw (.int .u8 op),.raw (.string n),.sl tg xs,.sl ae ys])] []]) ?_ ?_ ?_
   ·simp only[go_sem,zE,f4,f5];exact⟨⟨stu,_,hm,az,rfl,by simpa[yX1] using hI⟩,rfl⟩
   ·rintro k fr st ds E ⟨A,f4,f5,f34,f35,f36,rfl⟩;obtain⟨a,U⟩:=yQ1 E;obtain⟨x,ab,hx⟩:=hys.get U;obtain⟨ax,aw⟩:=yQv U;have D:yX1 (incB b n) sub=yX1 (incB b n) (sub.take k)++(zQ8 (incB b n) a++yX1 (incB b n) (sub.drop (k+1))):=by
     conv=>lhs;rw[<- List.take_append_drop k sub,List.drop_eq_getElem_cons E]
     rw[yJ0,(lGs U).2];rfl
    have O:=aa;rw[D] at O;have J:=IH a (lMg U) x hx g fi ca ai ac I S _ (incB b n) (λs=>by have:=aj s;simp only[Fm.size] at this;simp only[incB];split<;>omega) (YOk.left gl (YOk.right gl O)) m st A;obtain⟨o2,n2,u2,s2⟩:=a;obtain⟨t3,x3,t4,x4,rfl,_⟩:=hx.mk;simp only[go_sem,zE,zB,zA,zL,f4,f5,f34,f35,f36,lt_i E,yQ3 af,iNn,ab,fits];refine J.mono ?_;rintro _ st (⟨rfl,h⟩|⟨rfl,h⟩)
    ·simp only[go_sem,zE,f4,f5,f34,f35,f36,yQc E (show sub.length<=281474976710656 by omega)];rw[yQ7 U,yJ0,lLa,<- Nat.add_assoc];simpa[yX1] using h
    ·obtain⟨stu,es,hm,hc,rfl,hS⟩:=h;simp only[go_sem];refine (zZv gl .junk op n _ _ _ _ m es b hc (by omega) _ (ISt.put_same _ _ _)).mono ?_;rintro _ _ rfl;simp only[go_sem,yQ9];exact yQ0 (.inr ⟨rfl,stu,_,hm,hc.dec,rfl,hS⟩)
   ·rintro fr st ds ⟨A,f4,f5,f34,f35,f36,rfl⟩;rw[lTl] at A;obtain⟨stu,es,hm,hc,rfl,hI⟩:=A;simp only[go_sem,f35,f36,yQi (nLi _)];refine (zZv gl .junk op n _ _ _ _ m es b hc (by omega) _ (ISt.put_same _ _ _)).mono ?_;rintro _ _ rfl;simp only[go_sem,yQ9];refine yQ0 (.inl ⟨rfl,stu,_,hm,hc.dec,rfl,?_⟩);rw[lLa,<- Nat.add_assoc];exact hI
theorem yUj:∀(k:Nat)(t:Fm),SizeOf.sizeOf t<k->VF gl t
 | 0,f,h=>by omega
 | k+1,.mk o n us sub,h=>zV7 gl o n us sub (λa A=>yUj k a (by
   have:=lSm A;simp at h;omega))
theorem xZx (t:Fm):VF gl t:=yUj gl _ t (Nat.lt_succ_self _)
def xJl (f:Fm):List ByteArray:=zQ8 (λ_=>0) f
theorem yVg (f:Fm)(x:IV)(hx:IsFm f x)(hs:f.size<=4611686018427387904)(I:Nat->ISt->Prop):IterC prog gl 152 [] [.cptr x] (seqX (zKx (xJl f))) (xJl f).length I:=by
 obtain⟨o,n,us,sub⟩:=f;obtain⟨t1,x1,t2,x2,rfl,_⟩:=hx.mk;rintro y I' S' st ⟨g,U,ca,rfl,J,E⟩ _ hy h0;change ICall prog gl _ [.fn g U ca,_] st _;refine iI func152 ?_;simp only[go_sem,zE,zA,reduceCtorEq,fits];refine λm=>yQ8 λhm=>?_;refine (xZx gl _ _ hx g U ca J E I' S' 0 (λ_=>0) (λs=>by omega) (YOk.of gl hy) m _ ⟨st,[],hm,CntOk.nil,rfl,h0⟩).mono ?_;rintro _ st' h;simp only[go_sem];have A:∀(stu:ISt) (es:List (Value×IV)),stu m=none->subSt stu (stu.put m (some (.map .str es))):=λstu es h=>yQa h;rw[Nat.zero_add] at h;rcases h with⟨_,stu,es,D,_,rfl,O⟩|⟨_,stu,es,D,_,rfl,O⟩
 ·exact yQf (A stu es D) (.inl O)
 ·exact yQf (A stu es D) (.inr O)
