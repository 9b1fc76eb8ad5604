/- Walks: iterators over names; sets. -/
import Derived.Test.YtakbihknkdpmgaaGreatDoorJN
set_option linter.all false
open Nat renaming reduceEqDiff → zE,reduceBEq → zB,reduceAdd → zA,reduceLeDiff → zL
namespace Go.Proofs.Tryz
open Go Go.Iv
set_option maxRecDepth 4000
variable (gl:Nat->Option IV)
def isQ (op:Nat):Bool:=decide (op=8) || decide (op=9)
def pH (op:Nat)(n:ByteArray)(t G:Tag)(E ys:List IV)(st:ISt) :
  ICall prog gl 198 [.agg [.raw (.int .u8 op),n,.sl t E,.sl G ys]] st (λx st'=>x=(isQ op:Bool)/\st'=st):=by
 refine iI func198 ?_;by_cases D:op=8
 ·simp only[go_sem,zE,zA,show decide ((op:Int)=8)=true from dEt (by omega)];exact c_ ⟨by simp[isQ,D],rfl⟩
 ·simp only[go_sem,zE,zA,show decide ((op:Int)=8)=false from dEf (by omega)];exact c_ ⟨by
   congr 2;by_cases A:op=9
   ·simp[isQ,A]
   ·rw[dEf (by omega)];simp[isQ,D,A],rfl⟩
def Ke (t:Tm)(x:IV)(D:IsTm t x)(st:ISt):ICall prog gl 271 [x] st (λr st'=>r=.fn (.func 305) [] [.cptr x]/\st'=st):=by
 obtain⟨v,n,us⟩:=t;obtain⟨J,G,rfl,E,A⟩:=D.mk;refine ICall.intro (c:=cf prog gl [] [] [1]) func271 rfl (by show _<=4;simp) (by kernel_rfl) ?_;simp only[go_sem,zE];exact c_ ⟨rfl,rfl⟩
def tX (f:Fm)(x:IV)(A:IsFm f x)(st:ISt):ICall prog gl 190 [x] st (λr st'=>r=.fn (.func 229) [] [.cptr x]/\st'=st):=by
 obtain⟨o,n,us,sub⟩:=f;obtain⟨t1,E,t2,D,rfl,_⟩:=A.mk;refine ICall.intro (c:=cf prog gl [] [] [1]) func190 rfl (by show _<=4;simp) (by kernel_rfl) ?_;simp only[go_sem,zE];exact c_ ⟨rfl,rfl⟩
def lK (l:List ByteArray):List (List IV):=l.map λs=>[.raw (.string s)]
def YOk.of {y:IV}{I:Nat->ISt->Prop}{S:ISt->Prop}{l:List ByteArray}(h:B1 prog gl y (seqX (lK l)) I S):YOk gl y I S 0 l:=λi nm stu A D=>by
 have:=h i [.raw (.string nm)] stu (by simp[seqX,lK,A]) (by simpa using D);rw[ee];exact this
def Kf (t:Tm)(x:IV)(E:IsTm t x)(I:Nat->ISt->Prop):IterC prog gl 305 [] [.cptr x] (seqX (lK (fK t))) (fK t).length I:=by
 obtain⟨v,n,us⟩:=t;obtain⟨tg,xs,rfl,U,O⟩:=E.mk;rintro y I' S' st ⟨f,G,ca,rfl,D,A⟩ _ J h0;change ICall prog gl _ [.fn f G ca,_] st _;refine iI func305 ?_;simp only[go_sem,zE,zA,reduceCtorEq,fits];refine (Cr gl _ _ E f G ca D A I' S' 0 (YOk.of gl J) st h0).mono ?_;rintro _ st' h;simp only[go_sem];refine c_ ?_;rw[ee] at h;exact h.imp And.right And.right
def setE (l:List ByteArray):List (Value×IV):=l.foldl (λes s=>updI (.string s) true es) []
def tY (g:FuncId)(D:List IV)(l:List ByteArray)(st:ISt)(he:entI prog g=true)(hi:∀I,IterC prog gl g [] D (seqX (lK l)) l.length I) :
  ICall prog gl 189 [.fn (.func g) [] D] st (λr st'=>∃m,st m=none/\r=.raw (.map (some m))/\st'=st.put m (some (.map .str (setE l)))):=by
 refine ICall.intro (c:=cf prog gl [3] []) func189 rfl (by show _<=11;simp) (by kernel_rfl) ?_;simp only[go_sem,zE,zL,reduceCtorEq];refine λm=>d_ λU=>λb=>d_ λG=>?_;have A:b≠m:=by rintro rfl;rw[b_] at G;cases G
 have key:∀k,((st.put m (some (.map .str (setE (l.take k))))).put b (some (.box [.raw (.map (some m))]))) m=some (.map .str (setE (l.take k))):=λk=>by
  rw[dw (λh=>A h.symm),b_]
 refine RangeC.intro (seqX (lK l)) l.length (λk st'=>st'=(st.put m (some (.map .str (setE (l.take k))))).put b (some (.box [.raw (.map (some m))]))) (λ_ _=>False) he ?_ ?_ ?_ (hi _) ?_ (λ_ _ _ h=>h.elim)
 ·intro k a O;simp only[seqX,lK,eI,fb] at O;obtain⟨s,_,rfl⟩:=O;rfl
 ·rw[eN];rfl
 ·rintro k a _ J rfl;simp only[seqX,lK,eI,fb] at J;obtain⟨s,hs,rfl⟩:=J;simp only[go_sem,zE,b_,key k];have hst:∀E,((st.put m (some (.map .str (setE (l.take k))))).put b (some (.box [.raw (.map (some m))]))).put m (some (.map .str E))=(st.put m (some (.map .str E))).put b (some (.box [.raw (.map (some m))])):=λE=>by
   funext c;simp only[ISt.put_apply];by_cases h1:c=m
   ·rw[cV h1,a_ (λh=>A (by rw[<- h,h1])),cV h1]
   ·rw[a_ h1,a_ h1,a_ h1]
  rw[hst,dE hs];simp only[setE,List.foldl_append,jB,List.foldl_nil]
 ·rintro _ r rfl;simp only[go_sem,zE,b_];refine ez (st':=st.put m (some (.map .str (setE l)))) ?_ ⟨m,U,rfl,rfl⟩;simp only[lTl];exact ff (by rw[dw A];rw[dw A] at G;exact G)
end Go.Proofs.Tryz
namespace Go.Proofs.Tryz
open Go Go.Iv
set_option maxRecDepth 4000
def incB (b:ByteArray->Nat)(n:ByteArray):ByteArray->Nat:=λs=>if s=n then b s+1 else b s
def gB (b:ByteArray->Nat)(l:List ByteArray):List ByteArray:=l.filter λs=>b s == 0
mutual
def mM (b:ByteArray->Nat):Fm->List ByteArray
 | .mk op n l sub=>gB b (fC l)++gY (if isQ op then incB b n else b) sub
def gY (b:ByteArray->Nat):List Fm->List ByteArray
 | []=>[]
 | a::l=>mM b a++gY b l
end
def rA (b:ByteArray->Nat):∀(l m:List Fm),gY b (l++m)=gY b l++gY b m
 | [],m=>by simp[gY]
 | a::l,m=>by simp only[ed,gY,rA b l m,en]
def nK (b:ByteArray->Nat)(l m:List ByteArray):gB b (l++m)=gB b l++gB b m:=by simp[gB]
def Kg {b:ByteArray->Nat}{l:List ByteArray}{i:Nat}{nm:ByteArray}(h:l[i]?=some nm)(D:b nm=0):(gB b l)[(gB b (l.take i)).length]?=some nm:=by
 have:l=l.take i++(nm::l.drop (i+1)):=by
  have A:=(lGs h).1
  conv=>lhs;rw[<- el i l,fa A]
  rw[(lGs h).2]
 conv=>lhs;arg 1;rw[this]
 rw[nK,fD (dJ _)];simp[gB,D]
def CntOk (es:List (Value×IV))(b:ByteArray->Nat):Prop:=∀s,(fZ (.string s) es).getD (0:Int)=(b s:Int)
def CntOk.nil:CntOk [] (λ_=>0):=λ_=>rfl
def tZ (s n:ByteArray)(v:IV):∀es:List (Value×IV),fZ (.string s) (updI (.string n) v es)=if s=n then some v else fZ (.string s) es
 | []=>by
  simp only[updI,fZ,gN];by_cases h:s=n<;>simp[h]
 | (x,u)::es=>by
  simp only[updI];by_cases A:gN (.string n) x=true
  ·have D:x=.string n:=by
    cases x<;>simp[gN] at A;rw[A]
   subst D;rw[cV A];simp only[fZ,gN];by_cases h:s=n<;>simp[h]
  ·rw[a_ A];simp only[fZ];rw[tZ s n v es];by_cases h:s=n
   ·subst h;simp[A]
   ·simp[h]
def CntOk.inc {es:List (Value×IV)}{b:ByteArray->Nat}(h:CntOk es b)(n:ByteArray):CntOk (updI (.string n) ((b n+1:Nat):Int) es) (incB b n):=λs=>by
 rw[tZ];unfold incB;by_cases hs:s=n
 ·subst hs;simp
 ·simp only[a_ hs];exact h s
def CntOk.dec {es:List (Value×IV)}{b:ByteArray->Nat}{n:ByteArray}(h:CntOk es (incB b n)):CntOk (updI (.string n) (b n:Int) es) b:=λs=>by
 rw[tZ];by_cases hs:s=n
 ·subst hs;simp
 ·have:=h s;simp only[incB,a_ hs] at this;simp only[a_ hs];exact this
def CntOk.look {es:List (Value×IV)}{b:ByteArray->Nat}(h:CntOk es b)(s:ByteArray):kT false (fZ (.string s) es) (0:Int)=some (.raw (.int .i64 (b s))):=by
 rw[<- h s];rfl
variable (gl:Nat->Option IV)
def ICallV.put {y:IV}{args:List IV}{stu:ISt}{K:IV->ISt->Prop}(h:ICallV prog gl y args stu K){m:Nat}(G:stu m=none)(o:IObj) :
  ICallV prog gl y args (stu.put m (some o)) (λx st'=>∃A,A m=none/\st'=A.put m (some o)/\K x A):=by
 have E:∀s:ISt,join s (λc=>if c=m then some o else none)=s.put m (some o):=λs=>by
  funext c;simp only[join,ISt.put_apply];by_cases hc:c=m
  ·simp[hc]
  ·simp[hc]
 have hd:disj stu (λc=>if c=m then some o else none):=λc hc=>by
  by_cases h1:c=m
  ·rw[h1];exact G
  ·simp[h1] at hc
 have:=h.frame hd;rw[E] at this;refine this.mono ?_;rintro x st' ⟨A,D,rfl,hK⟩;exact⟨A,D m (by simp),E _,hK⟩
def Kh (nm:ByteArray)(m:Nat)(es:List (Value×IV))(b:ByteArray->Nat)(hc:CntOk es b)(f:Fn)(G ca:List IV)(J:fnOk f=true)(A:∀g,f=.func g->entI prog g=true)(st:ISt)(D:st m=some (.map .str es))
  (K:IV->ISt->Prop) (h1:0<b nm->K true st) (h2:b nm=0->ICallV prog gl (.fn f G ca) [nm] st (λr st'=>(r=true\/r=false)/\K r st')) :
  ICall prog gl 281 [nm,.cptr (.raw (.map (some m))),.cptr (.fn f G ca)] st K:=by
 refine iI func281 ?_;by_cases E:b nm=0
 ·simp only[go_sem,zE,reduceCtorEq,fits,D,hc.look nm,E,show decide ((0:Int)<((0:Nat):Int))=false from rfl];refine lF A ((h2 E).mono ?_);rintro _ st (⟨rfl|rfl,hK⟩)
  ·simp only[go_sem,zE];exact c_ hK
  ·simp only[go_sem,zE];exact c_ hK
 ·simp only[go_sem,zE,reduceCtorEq,fits,D,hc.look nm,show decide ((0:Int)<((b nm:Nat):Int))=true from dEt (by omega)];exact c_ (h1 (by omega))
def Cs (x:IV)(op:Nat)(n:ByteArray)(t D:Tag)(A ys:List IV)(m:Nat)(es:List (Value×IV))(b:ByteArray->Nat)(hc:CntOk es (incB b n))(J:b n<=4611686018427387904)(st:ISt)(G:st m=some (.map .str es)) :
  ICallD prog gl 283 [.cptr (.raw (.map (some m))),.cptr (.agg [.raw (.int .u8 op),n,.sl t A,.sl D ys])] st
   (λ_ st'=>st'=st.put m (some (.map .str (updI (.string n) (b n:Int) es)))):=by
 refine ICallD.intro (c:=cf prog gl [] []) func283 rfl (by show _<=7;simp) (by kernel_rfl) ?_;have E:IntKind.i64.wrap (((incB b n n:Nat):Int)-1)=(b n:Int):=by rw[w64]<;>simp[incB]<;>omega
 simp only[go_sem,zE,fits,G,hc.look n,E];exact c_ rfl
end Go.Proofs.Tryz
namespace Go.Proofs.Tryz
open Go Go.Iv
set_option maxRecDepth 4000
variable (gl:Nat->Option IV)
def nL (m:Nat)(b:ByteArray->Nat)(P:ISt->Prop)(st:ISt):Prop:=∃stu es,stu m=none/\CntOk es b/\st=stu.put m (some (.map .str es))/\P stu
def Ki (I:Nat->ISt->Prop)(S:ISt->Prop)(m:Nat)(b:ByteArray->Nat)(k:Nat)(r:IV)(st':ISt):Prop:=(r=true/\nL m b (I k) st')\/(r=false/\nL m b S st')
def Kj {f:Fn}{fi ca:List IV}(J:fnOk f=true)(E:∀g,f=.func g->entI prog g=true){I:Nat->ISt->Prop}{S:ISt->Prop}{k1:Nat}{b:ByteArray->Nat}{l:List ByteArray}(hy:YOk gl (.fn f fi ca) I S k1 (gB b l))(m:Nat) :
  YOk gl (.fn (.func 281) [] [.cptr (.raw (.map (some m))),.cptr (.fn f fi ca)]) (λi=>nL m b (I (k1+(gB b (l.take i)).length))) (nL m b S) 0 l:=by
 rintro i nm st G ⟨stu,es,hm,hc,rfl,U⟩;simp only[ee] at U ⊢;refine ICallV.of_ICall (by simp only[go_sem]) (Kh gl nm m es b hc f fi ca J E _ (b_ _ _ _) _ (λO=>?_) (λO=>?_))
 ·refine .inl ⟨rfl,stu,es,hm,hc,rfl,?_⟩;rw[dE G,nK];have:gB b [nm]=[]:=by simp[gB];omega
  rw[this,eo];exact U
 ·refine (ICallV.put gl (hy _ nm stu (Kg G O) U) hm _).mono ?_;rintro r st' ⟨A,D,rfl,h|h⟩
  ·refine⟨.inl h.1,.inl ⟨h.1,A,es,D,hc,rfl,?_⟩⟩;rw[dE G,nK];have:gB b [nm]=[nm]:=by simp[gB,O]
   rw[this,lLa,<- fE];exact h.2
  ·exact⟨.inr h.1,.inr ⟨h.1,A,es,D,hc,rfl,h.2⟩⟩
def VF (f:Fm):Prop:=∀(x:IV) (_:IsFm f x) (g:Fn) (A ca:List IV) (_:fnOk g=true) (_:∀i,g=.func i->entI prog i=true) (I:Nat->ISt->Prop) (S:ISt->Prop) (k0:Nat) (b:ByteArray->Nat)
  (_:∀s,b s+f.size<=4611686018427387904) (_:YOk gl (.fn g A ca) I S k0 (mM b f)) (m:Nat) (st:ISt) (_:nL m b (I k0) st),
  ICall prog gl 230 [x,.raw (.map (some m)),.fn g A ca] st (Ki I S m b (k0+(mM b f).length))
def Kk (op:Nat)(n:ByteArray)(us:List Tm)(sub:List Fm)(IH:∀a∈sub,VF gl a):VF gl (.mk op n us sub):=by
 intro x hx g fi ca ah aa I S k0 b ai hy m st hst;obtain⟨tg,xs,ac,ys,rfl,aK,au,al,ae,hys⟩:=hx.mk;obtain⟨stu,es,hm,hc,rfl,hI⟩:=hst;simp only[mM] at hy ⊢;have ao:=YOk.left gl hy;have O:=YOk.right gl hy;refine ICall.intro (c:=cf prog gl [] [] [3,4,5]) func230 rfl (by show _<=46;simp) (by kernel_rfl) ?_;simp only[go_sem,zE,al.len,fits];intro aC;refine dj us.length (λk fr st' ds=>nL m b (I (k0+(gB b (fC (us.take k))).length)) st'/\fr 3=.iv (.cptr (.agg [.raw (.int .u8 op),.raw (.string n),.sl tg xs,.sl ac ys]))/\fr 4=.iv (.cptr (.raw (.map (some m)))) /\
  fr 5=.iv (.cptr (.fn g fi ca))/\fr 7=.iv (.fn (.func 281) [] [.cptr (.raw (.map (some m))),.cptr (.fn g fi ca)])/\fr 14=.iv (.sl tg xs)/\fr 15=us.length/\fr 16=.iv (.raw (.int .i64 k))/\ds=[]) ?_ ?_ ?_
 ·simp only[go_sem,zE];exact⟨⟨stu,es,hm,hc,rfl,by simpa[fC,gB] using hI⟩,rfl⟩
 ·rintro k fr st ds D ⟨hst,f3,f4,f5,f7,f14,f15,f16,rfl⟩;obtain⟨a,J⟩:=dB D;obtain⟨x,U,hx⟩:=al.get J;have A:fC us=fC (us.take k)++(fK a++fC (us.drop (k+1))):=by
   conv=>lhs;rw[<- el k us,fa D]
   rw[rz,(lGs J).2];rfl
  have G:=ao;rw[A,nK,nK] at G;have ax:=Kj gl ah aa (YOk.left gl (YOk.right gl G)) m;have E:=Cr gl a x hx _ _ _ rfl (λi hi=>by cases hi;simp only[go_sem]) _ _ 0 ax st (by simpa[gB] using hst);obtain⟨v2,n2,m2⟩:=a;obtain⟨tx,cx,rfl,_⟩:=hx.mk;simp only[go_sem,zE,zA,zL,f7,f14,f15,f16,lt_i D,dz au,iNn,U];refine E.mono ?_;rintro _ st (⟨rfl,h⟩|⟨rfl,h⟩)
  ·simp only[go_sem,zE,f3,f4,f5,f7,f14,f15,f16,dC D (by omega)];rw[dE J,rz,nK,lLa,<- fE];simpa[fC,lTl] using h
  ·simp only[go_sem];exact c_ (.inr ⟨rfl,h⟩)
 ·rintro fr st ds ⟨hst,f3,f4,f5,f7,f14,f15,f16,rfl⟩;rw[lTl] at hst;obtain⟨stu,es,hm,hc,rfl,hI⟩:=hst;simp only[go_sem,zE,zA,f3,f15,f16,dF (nLi _),fits];refine (pH gl op n _ _ _ _ _).q ?_;cases hq:isQ op
  ·rw[hq] at O;simp only[bFt,dI] at O ⊢;simp only[go_sem,zE,f3,fits,hys.len];intro ag;refine dj sub.length (λk fr st' ds=>nL m b (I (k0+(gB b (fC us)).length+(gY b (sub.take k)).length)) st'/\fr 4=.iv (.cptr (.raw (.map (some m)))) /\
    fr 5=.iv (.cptr (.fn g fi ca))/\fr 34=.iv (.sl ac ys)/\fr 35=sub.length/\fr 36=.iv (.raw (.int .i64 k))/\ds=[]) ?_ ?_ ?_
   ·simp only[go_sem,zE,f4,f5];exact⟨⟨stu,es,hm,hc,rfl,by simpa[gY] using hI⟩,rfl⟩
   ·rintro k fr st ds D ⟨hst,f4,f5,f34,f35,f36,rfl⟩;obtain⟨a,J⟩:=dB D;obtain⟨x,U,hx⟩:=hys.get J;obtain⟨aw,av⟩:=jr J;have A:gY b sub=gY b (sub.take k)++(mM b a++gY b (sub.drop (k+1))):=by
     conv=>lhs;rw[<- el k sub,fa D]
     rw[rA,(lGs J).2];rfl
    have G:=O;rw[A] at G;have E:=IH a (lMg J) x hx g fi ca ah aa I S _ b (λs=>by have:=ai s;simp only[Fm.size] at this;omega) (YOk.left gl (YOk.right gl G)) m st hst;obtain⟨o2,n2,u2,s2⟩:=a;obtain⟨t3,x3,t4,x4,rfl,_⟩:=hx.mk;simp only[go_sem,zE,zB,zA,zL,f4,f5,f34,f35,f36,lt_i D,dz ae,iNn,U,fits];refine E.mono ?_;rintro _ st (⟨rfl,h⟩|⟨rfl,h⟩)
    ·simp only[go_sem,zE,f4,f5,f34,f35,f36,dC D (by omega)];rw[dE J,rA,lLa,<- fE];simpa[gY] using h
    ·simp only[go_sem];exact c_ (.inr ⟨rfl,h⟩)
   ·rintro fr st ds ⟨hst,f4,f5,f34,f35,f36,rfl⟩;simp only[go_sem,f35,f36,dF (nLi _)];rw[lTl] at hst;refine c_ (.inl ⟨rfl,?_⟩);rw[lLa,<- fE];exact hst
  ·rw[hq] at O;simp only[dD] at O ⊢;have az:=ai n;simp only[Fm.size] at az;have hw:IntKind.i64.wrap (((b n:Nat):Int)+1)=((b n+1:Nat):Int):=by rw[w64]<;>omega
   simp only[go_sem,zE,reduceCtorEq,f3,f4,fits,hys.len,b_,hc.look n,hw,eN];intro ag;have ay:=hc.inc n;refine dj sub.length (λk fr st' ds=>nL m (incB b n) (I (k0+(gB b (fC us)).length+(gY (incB b n) (sub.take k)).length)) st'/\fr 4=.iv (.cptr (.raw (.map (some m)))) /\
    fr 5=.iv (.cptr (.fn g fi ca))/\fr 34=.iv (.sl ac ys)/\fr 35=sub.length/\fr 36=.iv (.raw (.int .i64 k)) /\
    ds=[.call (.func 283) [.cptr (.raw (.map (some m))),.cptr (.agg [.raw (.int .u8 op),.raw (.string n),.sl tg xs,.sl ac ys])] []]) ?_ ?_ ?_
   ·simp only[go_sem,zE,f4,f5];exact⟨⟨stu,_,hm,ay,rfl,by simpa[gY] using hI⟩,rfl⟩
   ·rintro k fr st ds D ⟨hst,f4,f5,f34,f35,f36,rfl⟩;obtain⟨a,J⟩:=dB D;obtain⟨x,U,hx⟩:=hys.get J;obtain⟨aw,av⟩:=jr J;have A:gY (incB b n) sub=gY (incB b n) (sub.take k)++(mM (incB b n) a++gY (incB b n) (sub.drop (k+1))):=by
     conv=>lhs;rw[<- el k sub,fa D]
     rw[rA,(lGs J).2];rfl
    have G:=O;rw[A] at G;have E:=IH a (lMg J) x hx g fi ca ah aa I S _ (incB b n) (λs=>by have:=ai s;simp only[Fm.size] at this;simp only[incB];split<;>omega) (YOk.left gl (YOk.right gl G)) m st hst;obtain⟨o2,n2,u2,s2⟩:=a;obtain⟨t3,x3,t4,x4,rfl,_⟩:=hx.mk;simp only[go_sem,zE,zB,zA,zL,f4,f5,f34,f35,f36,lt_i D,dz ae,iNn,U,fits];refine E.mono ?_;rintro _ st (⟨rfl,h⟩|⟨rfl,h⟩)
    ·simp only[go_sem,zE,f4,f5,f34,f35,f36,dC D (by omega)];rw[dE J,rA,lLa,<- fE];simpa[gY] using h
    ·obtain⟨stu,es,hm,hc,rfl,hS⟩:=h;simp only[go_sem];refine (Cs gl .junk op n _ _ _ _ m es b hc (by omega) _ (b_ _ _ _)).mono ?_;rintro _ _ rfl;simp only[go_sem,eN];exact c_ (.inr ⟨rfl,stu,_,hm,hc.dec,rfl,hS⟩)
   ·rintro fr st ds ⟨hst,f4,f5,f34,f35,f36,rfl⟩;rw[lTl] at hst;obtain⟨stu,es,hm,hc,rfl,hI⟩:=hst;simp only[go_sem,f35,f36,dF (nLi _)];refine (Cs gl .junk op n _ _ _ _ m es b hc (by omega) _ (b_ _ _ _)).mono ?_;rintro _ _ rfl;simp only[go_sem,eN];refine c_ (.inl ⟨rfl,stu,_,hm,hc.dec,rfl,?_⟩);rw[lLa,<- fE];exact hI
def Ct:∀(k:Nat)(t:Fm),SizeOf.sizeOf t<k->VF gl t
 | 0,f,h=>by omega
 | k+1,.mk o n us sub,h=>Kk gl o n us sub (λa A=>Ct k a (by
   have:=lSm A;simp at h;omega))
def Kl (t:Fm):VF gl t:=Ct gl _ t (ew _)
def oC (f:Fm):List ByteArray:=mM (λ_=>0) f
def t_ (f:Fm)(x:IV)(O:IsFm f x)(hs:f.size<=4611686018427387904)(I:Nat->ISt->Prop):IterC prog gl 229 [] [.cptr x] (seqX (lK (oC f))) (oC f).length I:=by
 obtain⟨o,n,us,sub⟩:=f;obtain⟨t1,x1,t2,x2,rfl,_⟩:=O.mk;rintro y I' S' st ⟨g,U,ca,rfl,G,E⟩ _ hy h0;change ICall prog gl _ [.fn g U ca,_] st _;refine iI func229 ?_;simp only[go_sem,zE,zA,reduceCtorEq,fits];refine λm=>d_ λhm=>?_;refine (Kl gl _ _ O g U ca G E I' S' 0 (λ_=>0) (λs=>by omega) (YOk.of gl hy) m _ ⟨st,[],hm,CntOk.nil,rfl,h0⟩).mono ?_;rintro _ st' h;simp only[go_sem];have A:∀(stu:ISt) (es:List (Value×IV)),stu m=none->subSt stu (stu.put m (some (.map .str es))):=λstu es h=>ff h;rw[ee] at h;rcases h with⟨_,stu,es,D,_,rfl,J⟩|⟨_,stu,es,D,_,rfl,J⟩
 ·exact ez (A stu es D) (.inl J)
 ·exact ez (A stu es D) (.inr J)
