/- Walks: iterators over names; sets. -/
import Derived.Test.YtopmhkmegkpkdaaGreatDoorJN
set_option linter.all false
open Nat renaming reduceEqDiff → zE,reduceBEq → zB,reduceAdd → zA,reduceLeDiff → zL
namespace Go.Proofs.Tryz
open Go Go.Iv
set_option maxRecDepth 4000
variable (gl:Nat->Option IV)
def isQ (op:Nat):Bool:=decide (op=8) || decide (op=9)
def rC (op:Nat)(n:ByteArray)(t O:Tag)(E ys:List IV)(st:ISt) :
  ICall prog gl 283 [.agg [.raw (.int .u8 op),n,.sl t E,.sl O ys]] st (λx st'=>x=(isQ op:Bool)/\st'=st):=by
 refine iI func283 ?_;by_cases D:op=8
 ·simp only[go_sem,zE,zA,show decide ((op:Int)=8)=true from dEt (by omega)];exact cO ⟨by simp[isQ,D],rfl⟩
 ·simp only[go_sem,zE,zA,show decide ((op:Int)=8)=false from dEf (by omega)];exact cO ⟨by
   congr 2;by_cases A:op=9
   ·simp[isQ,A]
   ·rw[dEf (by omega)];simp[isQ,D,A],rfl⟩
def JR (t:Tm)(x:IV)(hx:IsTm t x)(st:ISt):ICall prog gl 279 [x] st (λr st'=>r=.fn (.func 297) [] [.cptr x]/\st'=st):=by
 obtain⟨v,n,us⟩:=t;obtain⟨O,E,rfl,D,A⟩:=hx.mk;refine ICall.intro (c:=cf prog gl [] [] [1]) func279 rfl (by show _<=4;simp) (by kernel_rfl) ?_;simp only[go_sem,zE];exact cO ⟨rfl,rfl⟩
def wq (f:Fm)(x:IV)(hx:IsFm f x)(st:ISt):ICall prog gl 246 [x] st (λr st'=>r=.fn (.func 270) [] [.cptr x]/\st'=st):=by
 obtain⟨o,n,us,sub⟩:=f;obtain⟨t1,D,t2,A,rfl,_⟩:=hx.mk;refine ICall.intro (c:=cf prog gl [] [] [1]) func246 rfl (by show _<=4;simp) (by kernel_rfl) ?_;simp only[go_sem,zE];exact cO ⟨rfl,rfl⟩
def lZ (l:List ByteArray):List (List IV):=l.map λs=>[.raw (.string s)]
def YOk.of {y:IV}{I:Nat->ISt->Prop}{S:ISt->Prop}{l:List ByteArray}(h:Bq prog gl y (seqX (lZ l)) I S):YOk gl y I S 0 l:=λi nm stu A D=>by
 have:=h i [.raw (.string nm)] stu (by simp[seqX,lZ,A]) (by simpa using D);rw[eQ];exact this
def JS (t:Tm)(x:IV)(hx:IsTm t x)(I:Nat->ISt->Prop):IterC prog gl 297 [] [.cptr x] (seqX (lZ (fK t))) (fK t).length I:=by
 obtain⟨v,n,us⟩:=t;obtain⟨tg,xs,rfl,W,U⟩:=hx.mk;rintro y I' S' st ⟨f,E,ca,rfl,D,A⟩ _ O h0;change ICall prog gl _ [.fn f E ca,_] st _;refine iI func297 ?_;simp only[go_sem,zE,zA,reduceCtorEq,fits];refine (BZ gl _ _ hx f E ca D A I' S' 0 (YOk.of gl O) st h0).mono ?_;rintro _ st' h;simp only[go_sem];refine cO ?_;rw[eQ] at h;exact h.imp And.right And.right
def setE (l:List ByteArray):List (Value×IV):=l.foldl (λes s=>updI (.string s) true es) []
def wt (g:FuncId)(D:List IV)(l:List ByteArray)(st:ISt)(he:entI prog g=true)(hi:∀I,IterC prog gl g [] D (seqX (lZ l)) l.length I) :
  ICall prog gl 245 [.fn (.func g) [] D] st (λr st'=>∃m,st m=none/\r=.raw (.map (some m))/\st'=st.put m (some (.map .str (setE l)))):=by
 refine ICall.intro (c:=cf prog gl [3] []) func245 rfl (by show _<=11;simp) (by kernel_rfl) ?_;simp only[go_sem,zE,zL,reduceCtorEq];refine λm=>eB λhm=>λb=>eB λO=>?_;have A:b≠m:=by rintro rfl;rw[cT] at O;cases O
 have key:∀k,((st.put m (some (.map .str (setE (l.take k))))).put b (some (.box [.raw (.map (some m))]))) m=some (.map .str (setE (l.take k))):=λk=>by
  rw[de (λh=>A h.symm),cT]
 refine RangeC.intro (seqX (lZ l)) l.length (λk st'=>st'=(st.put m (some (.map .str (setE (l.take k))))).put b (some (.box [.raw (.map (some m))]))) (λ_ _=>False) he ?_ ?_ ?_ (hi _) ?_ (λ_ _ _ h=>h.elim)
 ·intro k a ha;simp only[seqX,lZ,en,gI] at ha;obtain⟨s,_,rfl⟩:=ha;rfl
 ·rw[eZ];rfl
 ·rintro k a _ W rfl;simp only[seqX,lZ,en,gI] at W;obtain⟨s,hs,rfl⟩:=W;simp only[go_sem,zE,cT,key k];have U:∀E,((st.put m (some (.map .str (setE (l.take k))))).put b (some (.box [.raw (.map (some m))]))).put m (some (.map .str E))=(st.put m (some (.map .str E))).put b (some (.box [.raw (.map (some m))])):=λE=>by
   funext c;simp only[ISt.put_apply];by_cases h1:c=m
   ·rw[b_ h1,a_ (λh=>A (by rw[<- h,h1])),b_ h1]
   ·rw[a_ h1,a_ h1,a_ h1]
  rw[U,dK hs];simp only[setE,List.foldl_append,jS,List.foldl_nil]
 ·rintro _ r rfl;simp only[go_sem,zE,cT];refine dZ (st':=st.put m (some (.map .str (setE l)))) ?_ ⟨m,hm,rfl,rfl⟩;simp only[lTl];exact fj (by rw[de A];rw[de A] at O;exact O)
end Go.Proofs.Tryz
namespace Go.Proofs.Tryz
open Go Go.Iv
set_option maxRecDepth 4000
def incB (b:ByteArray->Nat)(n:ByteArray):ByteArray->Nat:=λs=>if s=n then b s+1 else b s
def gF (b:ByteArray->Nat)(l:List ByteArray):List ByteArray:=l.filter λs=>b s == 0
mutual
def mY (b:ByteArray->Nat):Fm->List ByteArray
 | .mk op n l sub=>gF b (fw l)++hU (if isQ op then incB b n else b) sub
def hU (b:ByteArray->Nat):List Fm->List ByteArray
 | []=>[]
 | a::l=>mY b a++hU b l
end
def rD (b:ByteArray->Nat):∀(l m:List Fm),hU b (l++m)=hU b l++hU b m
 | [],m=>by simp[hU]
 | a::l,m=>by simp only[dX,hU,rD b l m,fA]
def nR (b:ByteArray->Nat)(l m:List ByteArray):gF b (l++m)=gF b l++gF b m:=by simp[gF]
def JT {b:ByteArray->Nat}{l:List ByteArray}{i:Nat}{nm:ByteArray}(h:l[i]?=some nm)(D:b nm=0):(gF b l)[(gF b (l.take i)).length]?=some nm:=by
 have:l=l.take i++(nm::l.drop (i+1)):=by
  have A:=(lGs h).1
  conv=>lhs;rw[<- eF i l,fM A]
  rw[(lGs h).2]
 conv=>lhs;arg 1;rw[this]
 rw[nR,gh (dz _)];simp[gF,D]
def CntOk (es:List (Value×IV))(b:ByteArray->Nat):Prop:=∀s,(e8 (.string s) es).getD (0:Int)=(b s:Int)
def CntOk.nil:CntOk [] (λ_=>0):=λ_=>rfl
def s8 (s n:ByteArray)(v:IV):∀es:List (Value×IV),e8 (.string s) (updI (.string n) v es)=if s=n then some v else e8 (.string s) es
 | []=>by
  simp only[updI,e8,f_];by_cases h:s=n<;>simp[h]
 | (x,u)::es=>by
  simp only[updI];by_cases A:f_ (.string n) x=true
  ·have hx:x=.string n:=by
    cases x<;>simp[f_] at A;rw[A]
   subst hx;rw[b_ A];simp only[e8,f_];by_cases h:s=n<;>simp[h]
  ·rw[a_ A];simp only[e8];rw[s8 s n v es];by_cases h:s=n
   ·subst h;simp[A]
   ·simp[h]
def CntOk.inc {es:List (Value×IV)}{b:ByteArray->Nat}(h:CntOk es b)(n:ByteArray):CntOk (updI (.string n) ((b n+1:Nat):Int) es) (incB b n):=λs=>by
 rw[s8];unfold incB;by_cases A:s=n
 ·subst A;simp
 ·simp only[a_ A];exact h s
def CntOk.dec {es:List (Value×IV)}{b:ByteArray->Nat}{n:ByteArray}(h:CntOk es (incB b n)):CntOk (updI (.string n) (b n:Int) es) b:=λs=>by
 rw[s8];by_cases A:s=n
 ·subst A;simp
 ·have:=h s;simp only[incB,a_ A] at this;simp only[a_ A];exact this
def CntOk.look {es:List (Value×IV)}{b:ByteArray->Nat}(h:CntOk es b)(s:ByteArray):kN false (e8 (.string s) es) (.raw (.int .i64 0))=some (.raw (.int .i64 (b s))):=by
 rw[<- h s];rfl
variable (gl:Nat->Option IV)
def ICallV.put {y:IV}{args:List IV}{stu:ISt}{K:IV->ISt->Prop}(h:ICallV prog gl y args stu K){m:Nat}(O:stu m=none)(o:IObj) :
  ICallV prog gl y args (stu.put m (some o)) (λx st'=>∃A,A m=none/\st'=A.put m (some o)/\K x A):=by
 have E:∀s:ISt,join s (λc=>if c=m then some o else none)=s.put m (some o):=λs=>by
  funext c;simp only[join,ISt.put_apply];by_cases hc:c=m
  ·simp[hc]
  ·simp[hc]
 have hd:disj stu (λc=>if c=m then some o else none):=λc hc=>by
  by_cases h1:c=m
  ·rw[h1];exact O
  ·simp[h1] at hc
 have:=h.frame hd;rw[E] at this;refine this.mono ?_;rintro x st' ⟨A,D,rfl,U⟩;exact⟨A,D m (by simp),E _,U⟩
def JU (nm:ByteArray)(m:Nat)(es:List (Value×IV))(b:ByteArray->Nat)(hc:CntOk es b)(f:Fn)(U ca:List IV)(W:fnOk f=true)(A:∀g,f=.func g->entI prog g=true)(st:ISt)(D:st m=some (.map .str es))
  (K:IV->ISt->Prop) (h1:0<b nm->K (.raw (.bool true)) st) (h2:b nm=0->ICallV prog gl (.fn f U ca) [.raw (.string nm)] st (λr st'=>(r=.raw (.bool true)\/r=.raw (.bool false))/\K r st')) :
  ICall prog gl 294 [.raw (.string nm),.cptr (.raw (.map (some m))),.cptr (.fn f U ca)] st K:=by
 refine iI func294 ?_;by_cases E:b nm=0
 ·simp only[go_sem,zE,reduceCtorEq,fits,D,hc.look nm,E,show decide ((0:Int)<((0:Nat):Int))=false from rfl];refine pQ A ((h2 E).mono ?_);rintro _ st (⟨rfl|rfl,O⟩)
  ·simp only[go_sem,zE];exact cO O
  ·simp only[go_sem,zE];exact cO O
 ·simp only[go_sem,zE,reduceCtorEq,fits,D,hc.look nm,show decide ((0:Int)<((b nm:Nat):Int))=true from dEt (by omega)];exact cO (h1 (by omega))
def B0 (x:IV)(op:Nat)(n:ByteArray)(t D:Tag)(A ys:List IV)(m:Nat)(es:List (Value×IV))(b:ByteArray->Nat)(hc:CntOk es (incB b n))(U:b n<=4611686018427387904)(st:ISt)(O:st m=some (.map .str es)) :
  ICallD prog gl 296 [.cptr (.raw (.map (some m))),.cptr (.agg [.raw (.int .u8 op),.raw (.string n),.sl t A,.sl D ys])] st
   (λ_ st'=>st'=st.put m (some (.map .str (updI (.string n) (.raw (.int .i64 (b n))) es)))):=by
 refine ICallD.intro (c:=cf prog gl [] []) func296 rfl (by show _<=7;simp) (by kernel_rfl) ?_;have E:IntKind.i64.wrap (((incB b n n:Nat):Int)-1)=(b n:Int):=by rw[w64]<;>simp[incB]<;>omega
 simp only[go_sem,zE,fits,O,hc.look n,E];exact cO rfl
end Go.Proofs.Tryz
namespace Go.Proofs.Tryz
open Go Go.Iv
set_option maxRecDepth 4000
variable (gl:Nat->Option IV)
def nS (m:Nat)(b:ByteArray->Nat)(P:ISt->Prop)(st:ISt):Prop:=∃stu es,stu m=none/\CntOk es b/\st=stu.put m (some (.map .str es))/\P stu
def JV (I:Nat->ISt->Prop)(S:ISt->Prop)(m:Nat)(b:ByteArray->Nat)(k:Nat)(r:IV)(st':ISt):Prop:=(r=true/\nS m b (I k) st')\/(r=false/\nS m b S st')
def JW {f:Fn}{fi ca:List IV}(U:fnOk f=true)(E:∀g,f=.func g->entI prog g=true){I:Nat->ISt->Prop}{S:ISt->Prop}{k1:Nat}{b:ByteArray->Nat}{l:List ByteArray}(hy:YOk gl (.fn f fi ca) I S k1 (gF b l))(m:Nat) :
  YOk gl (.fn (.func 294) [] [.cptr (.raw (.map (some m))),.cptr (.fn f fi ca)]) (λi=>nS m b (I (k1+(gF b (l.take i)).length))) (nS m b S) 0 l:=by
 rintro i nm st O ⟨stu,es,hm,hc,rfl,hI⟩;simp only[eQ] at hI ⊢;refine lR (by simp only[go_sem]) (JU gl nm m es b hc f fi ca U E _ (cT _ _ _) _ (λW=>?_) (λW=>?_))
 ·refine .inl ⟨rfl,stu,es,hm,hc,rfl,?_⟩;rw[dK O,nR];have:gF b [nm]=[]:=by simp[gF];omega
  rw[this,fH];exact hI
 ·refine (ICallV.put gl (hy _ nm stu (JT O W) hI) hm _).mono ?_;rintro r st' ⟨A,D,rfl,h|h⟩
  ·refine⟨.inl h.1,.inl ⟨h.1,A,es,D,hc,rfl,?_⟩⟩;rw[dK O,nR];have:gF b [nm]=[nm]:=by simp[gF,W]
   rw[this,lLa,<- fa];exact h.2
  ·exact⟨.inr h.1,.inr ⟨h.1,A,es,D,hc,rfl,h.2⟩⟩
def VF (f:Fm):Prop:=∀(x:IV) (_:IsFm f x) (g:Fn) (A ca:List IV) (_:fnOk g=true) (_:∀i,g=.func i->entI prog i=true) (I:Nat->ISt->Prop) (S:ISt->Prop) (k0:Nat) (b:ByteArray->Nat)
  (_:∀s,b s+f.size<=4611686018427387904) (_:YOk gl (.fn g A ca) I S k0 (mY b f)) (m:Nat) (st:ISt) (_:nS m b (I k0) st),
  ICall prog gl 271 [x,.raw (.map (some m)),.fn g A ca] st (JV I S m b (k0+(mY b f).length))
def JX (op:Nat)(n:ByteArray)(us:List Tm)(sub:List Fm)(IH:∀a∈sub,VF gl a):VF gl (.mk op n us sub):=by
 intro x hx g fi ca ai ac I S k0 b aj hy m st A;obtain⟨tg,xs,ae,ys,rfl,aI,av,an,af,hys⟩:=hx.mk;obtain⟨stu,es,hm,hc,rfl,hI⟩:=A;simp only[mY] at hy ⊢;have ar:=YOk.left gl hy;have aa:=YOk.right gl hy;refine ICall.intro (c:=cf prog gl [] [] [3,4,5]) func271 rfl (by show _<=46;simp) (by kernel_rfl) ?_;simp only[go_sem,zE,an.len,fits];intro aA;refine cV us.length (λk fr st' ds=>nS m b (I (k0+(gF b (fw (us.take k))).length)) st'/\fr 3=.iv (.cptr (.agg [.raw (.int .u8 op),.raw (.string n),.sl tg xs,.sl ae ys]))/\fr 4=.iv (.cptr (.raw (.map (some m)))) /\
  fr 5=.iv (.cptr (.fn g fi ca))/\fr 7=.iv (.fn (.func 294) [] [.cptr (.raw (.map (some m))),.cptr (.fn g fi ca)])/\fr 14=.iv (.sl tg xs)/\fr 15=.iv (.raw (.int .i64 us.length))/\fr 16=.iv (.raw (.int .i64 k))/\ds=[]) ?_ ?_ ?_
 ·simp only[go_sem,zE];exact⟨⟨stu,es,hm,hc,rfl,by simpa[fw,gF] using hI⟩,rfl⟩
 ·rintro k fr st ds E ⟨A,f3,f4,f5,f7,f14,f15,f16,rfl⟩;obtain⟨a,W⟩:=dd E;obtain⟨x,ab,hx⟩:=an.get W;have D:fw us=fw (us.take k)++(fK a++fw (us.drop (k+1))):=by
   conv=>lhs;rw[<- eF k us,fM E]
   rw[rA,(lGs W).2];rfl
  have U:=ar;rw[D,nR,nR] at U;have aw:=JW gl ai ac (YOk.left gl (YOk.right gl U)) m;have O:=BZ gl a x hx _ _ _ rfl (λi hi=>by cases hi;simp only[go_sem]) _ _ 0 aw st (by simpa[gF] using A);obtain⟨v2,n2,m2⟩:=a;obtain⟨tx,cx,rfl,_⟩:=hx.mk;simp only[go_sem,zE,zA,zL,f7,f14,f15,f16,lt_i E,dc av,iNn,ab];refine O.mono ?_;rintro _ st (⟨rfl,h⟩|⟨rfl,h⟩)
  ·simp only[go_sem,zE,f3,f4,f5,f7,f14,f15,f16,df E (by omega)];rw[dK W,rA,nR,lLa,<- fa];simpa[fw,lTl] using h
  ·simp only[go_sem];exact cO (.inr ⟨rfl,h⟩)
 ·rintro fr st ds ⟨A,f3,f4,f5,f7,f14,f15,f16,rfl⟩;rw[lTl] at A;obtain⟨stu,es,hm,hc,rfl,hI⟩:=A;simp only[go_sem,zE,zA,f3,f15,f16,dD (nLi _),fits];refine (rC gl op n _ _ _ _ _).q ?_;cases hq:isQ op
  ·rw[hq] at aa;simp only[bFt,dJ] at aa ⊢;simp only[go_sem,zE,f3,fits,hys.len];intro ah;refine cV sub.length (λk fr st' ds=>nS m b (I (k0+(gF b (fw us)).length+(hU b (sub.take k)).length)) st'/\fr 4=.iv (.cptr (.raw (.map (some m)))) /\
    fr 5=.iv (.cptr (.fn g fi ca))/\fr 34=.iv (.sl ae ys)/\fr 35=.iv (.raw (.int .i64 sub.length))/\fr 36=.iv (.raw (.int .i64 k))/\ds=[]) ?_ ?_ ?_
   ·simp only[go_sem,zE,f4,f5];exact⟨⟨stu,es,hm,hc,rfl,by simpa[hU] using hI⟩,rfl⟩
   ·rintro k fr st ds E ⟨A,f4,f5,f34,f35,f36,rfl⟩;obtain⟨a,W⟩:=dd E;obtain⟨x,ab,hx⟩:=hys.get W;obtain⟨hs1,hs2⟩:=jK W;have D:hU b sub=hU b (sub.take k)++(mY b a++hU b (sub.drop (k+1))):=by
     conv=>lhs;rw[<- eF k sub,fM E]
     rw[rD,(lGs W).2];rfl
    have U:=aa;rw[D] at U;have O:=IH a (lMg W) x hx g fi ca ai ac I S _ b (λs=>by have:=aj s;simp only[Fm.size] at this;omega) (YOk.left gl (YOk.right gl U)) m st A;obtain⟨o2,n2,u2,s2⟩:=a;obtain⟨t3,x3,t4,x4,rfl,_⟩:=hx.mk;simp only[go_sem,zE,zB,zA,zL,f4,f5,f34,f35,f36,lt_i E,dc af,iNn,ab,fits];refine O.mono ?_;rintro _ st (⟨rfl,h⟩|⟨rfl,h⟩)
    ·simp only[go_sem,zE,f4,f5,f34,f35,f36,df E (by omega)];rw[dK W,rD,lLa,<- fa];simpa[hU] using h
    ·simp only[go_sem];exact cO (.inr ⟨rfl,h⟩)
   ·rintro fr st ds ⟨A,f4,f5,f34,f35,f36,rfl⟩;simp only[go_sem,f35,f36,dD (nLi _)];rw[lTl] at A;refine cO (.inl ⟨rfl,?_⟩);rw[lLa,<- fa];exact A
  ·rw[hq] at aa;simp only[dB] at aa ⊢;have ay:=aj n;simp only[Fm.size] at ay;have hw:IntKind.i64.wrap (((b n:Nat):Int)+1)=((b n+1:Nat):Int):=by rw[w64]<;>omega
   simp only[go_sem,zE,reduceCtorEq,f3,f4,fits,hys.len,cT,hc.look n,hw,eZ];intro ah;have ax:=hc.inc n;refine cV sub.length (λk fr st' ds=>nS m (incB b n) (I (k0+(gF b (fw us)).length+(hU (incB b n) (sub.take k)).length)) st'/\fr 4=.iv (.cptr (.raw (.map (some m)))) /\
    fr 5=.iv (.cptr (.fn g fi ca))/\fr 34=.iv (.sl ae ys)/\fr 35=.iv (.raw (.int .i64 sub.length))/\fr 36=.iv (.raw (.int .i64 k)) /\
    ds=[.call (.func 296) [.cptr (.raw (.map (some m))),.cptr (.agg [.raw (.int .u8 op),.raw (.string n),.sl tg xs,.sl ae ys])] []]) ?_ ?_ ?_
   ·simp only[go_sem,zE,f4,f5];exact⟨⟨stu,_,hm,ax,rfl,by simpa[hU] using hI⟩,rfl⟩
   ·rintro k fr st ds E ⟨A,f4,f5,f34,f35,f36,rfl⟩;obtain⟨a,W⟩:=dd E;obtain⟨x,ab,hx⟩:=hys.get W;obtain⟨hs1,hs2⟩:=jK W;have D:hU (incB b n) sub=hU (incB b n) (sub.take k)++(mY (incB b n) a++hU (incB b n) (sub.drop (k+1))):=by
     conv=>lhs;rw[<- eF k sub,fM E]
     rw[rD,(lGs W).2];rfl
    have U:=aa;rw[D] at U;have O:=IH a (lMg W) x hx g fi ca ai ac I S _ (incB b n) (λs=>by have:=aj s;simp only[Fm.size] at this;simp only[incB];split<;>omega) (YOk.left gl (YOk.right gl U)) m st A;obtain⟨o2,n2,u2,s2⟩:=a;obtain⟨t3,x3,t4,x4,rfl,_⟩:=hx.mk;simp only[go_sem,zE,zB,zA,zL,f4,f5,f34,f35,f36,lt_i E,dc af,iNn,ab,fits];refine O.mono ?_;rintro _ st (⟨rfl,h⟩|⟨rfl,h⟩)
    ·simp only[go_sem,zE,f4,f5,f34,f35,f36,df E (by omega)];rw[dK W,rD,lLa,<- fa];simpa[hU] using h
    ·obtain⟨stu,es,hm,hc,rfl,hS⟩:=h;simp only[go_sem];refine (B0 gl .junk op n _ _ _ _ m es b hc (by omega) _ (cT _ _ _)).mono ?_;rintro _ _ rfl;simp only[go_sem,eZ];exact cO (.inr ⟨rfl,stu,_,hm,hc.dec,rfl,hS⟩)
   ·rintro fr st ds ⟨A,f4,f5,f34,f35,f36,rfl⟩;rw[lTl] at A;obtain⟨stu,es,hm,hc,rfl,hI⟩:=A;simp only[go_sem,f35,f36,dD (nLi _)];refine (B0 gl .junk op n _ _ _ _ m es b hc (by omega) _ (cT _ _ _)).mono ?_;rintro _ _ rfl;simp only[go_sem,eZ];refine cO (.inl ⟨rfl,stu,_,hm,hc.dec,rfl,?_⟩);rw[lLa,<- fa];exact hI
def B1:∀(k:Nat)(t:Fm),SizeOf.sizeOf t<k->VF gl t
 | 0,f,h=>by omega
 | k+1,.mk o n us sub,h=>JX gl o n us sub (λa A=>B1 k a (by
   have:=lSm A;simp at h;omega))
def JY (t:Fm):VF gl t:=B1 gl _ t (dM _)
def pY (f:Fm):List ByteArray:=mY (λ_=>0) f
def wu (f:Fm)(x:IV)(hx:IsFm f x)(hs:f.size<=4611686018427387904)(I:Nat->ISt->Prop):IterC prog gl 270 [] [.cptr x] (seqX (lZ (pY f))) (pY f).length I:=by
 obtain⟨o,n,us,sub⟩:=f;obtain⟨t1,x1,t2,x2,rfl,_⟩:=hx.mk;rintro y I' S' st ⟨g,W,ca,rfl,O,E⟩ _ hy h0;change ICall prog gl _ [.fn g W ca,_] st _;refine iI func270 ?_;simp only[go_sem,zE,zA,reduceCtorEq,fits];refine λm=>eB λhm=>?_;refine (JY gl _ _ hx g W ca O E I' S' 0 (λ_=>0) (λs=>by omega) (YOk.of gl hy) m _ ⟨st,[],hm,CntOk.nil,rfl,h0⟩).mono ?_;rintro _ st' h;simp only[go_sem];have A:∀(stu:ISt) (es:List (Value×IV)),stu m=none->subSt stu (stu.put m (some (.map .str es))):=λstu es h=>fj h;rw[eQ] at h;rcases h with⟨_,stu,es,D,_,rfl,U⟩|⟨_,stu,es,D,_,rfl,U⟩
 ·exact dZ (A stu es D) (.inl U)
 ·exact dZ (A stu es D) (.inr U)
