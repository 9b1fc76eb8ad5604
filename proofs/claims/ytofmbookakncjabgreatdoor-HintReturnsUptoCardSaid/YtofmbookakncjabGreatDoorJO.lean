/- Walks: iterators over names; sets. -/
import Derived.Test.YtofmbookakncjabGreatDoorJN
set_option linter.all false
open Nat renaming reduceEqDiff → zE,reduceBEq → zB,reduceAdd → zA,reduceLeDiff → zL
namespace Go.Proofs.Tryz
open Go Go.Iv
set_option maxRecDepth 4000
variable (gl:Nat->Option IV)
def isQ (op:Nat):Bool:=decide (op=8) || decide (op=9)
def qZ (op:Nat)(n:ByteArray)(t G:Tag)(E ys:List IV)(st:ISt) :
  ICall prog gl 185 [.agg [.raw (.int .u8 op),n,.sl t E,.sl G ys]] st (λx st'=>x=(isQ op:Bool)/\st'=st):=by
 refine iI func185 ?_;by_cases D:op=8
 ·simp only[go_sem,zE,zA,show decide ((op:Int)=8)=true from dEt (by omega)];exact dw ⟨by simp[isQ,D],rfl⟩
 ·simp only[go_sem,zE,zA,show decide ((op:Int)=8)=false from dEf (by omega)];exact dw ⟨by
   congr 2;by_cases A:op=9
   ·simp[isQ,A]
   ·rw[dEf (by omega)];simp[isQ,D,A],rfl⟩
def LM (t:Tm)(x:IV)(D:IsTm t x)(st:ISt):ICall prog gl 237 [x] st (λr st'=>r=.fn (.func 259) [] [.cptr x]/\st'=st):=by
 obtain⟨v,n,us⟩:=t;obtain⟨J,G,rfl,E,A⟩:=D.mk;refine ICall.intro (c:=cf prog gl [] [] [1]) func237 rfl (by show _<=4;simp) (by kernel_rfl) ?_;simp only[go_sem,zE];exact dw ⟨rfl,rfl⟩
def v7 (f:Fm)(x:IV)(A:IsFm f x)(st:ISt):ICall prog gl 177 [x] st (λr st'=>r=.fn (.func 216) [] [.cptr x]/\st'=st):=by
 obtain⟨o,n,us,sub⟩:=f;obtain⟨t1,E,t2,D,rfl,_⟩:=A.mk;refine ICall.intro (c:=cf prog gl [] [] [1]) func177 rfl (by show _<=4;simp) (by kernel_rfl) ?_;simp only[go_sem,zE];exact dw ⟨rfl,rfl⟩
def mM (l:List ByteArray):List (List IV):=l.map λs=>[.raw (.string s)]
def YOk.of {y:IV}{I:Nat->ISt->Prop}{S:ISt->Prop}{l:List ByteArray}(h:DZ prog gl y (seqX (mM l)) I S):YOk gl y I S 0 l:=λi nm stu A D=>by
 have:=h i [.raw (.string nm)] stu (by simp[seqX,mM,A]) (by simpa using D);rw[eT];exact this
def LN (t:Tm)(x:IV)(E:IsTm t x)(I:Nat->ISt->Prop):IterC prog gl 259 [] [.cptr x] (seqX (mM (gQ t))) (gQ t).length I:=by
 obtain⟨v,n,us⟩:=t;obtain⟨tg,xs,rfl,U,O⟩:=E.mk;rintro y I' S' st ⟨f,G,ca,rfl,D,A⟩ _ J h0;change ICall prog gl _ [.fn f G ca,_] st _;refine iI func259 ?_;simp only[go_sem,zE,zA,reduceCtorEq,fits];refine (Ep gl _ _ E f G ca D A I' S' 0 (YOk.of gl J) st h0).mono ?_;rintro _ st' h;simp only[go_sem];refine dw ?_;rw[eT] at h;exact h.imp And.right And.right
def setE (l:List ByteArray):List (Value×IV):=l.foldl (λes s=>updI (.string s) true es) []
def v8 (g:FuncId)(D:List IV)(l:List ByteArray)(st:ISt)(he:entI prog g=true)(hi:∀I,IterC prog gl g [] D (seqX (mM l)) l.length I) :
  ICall prog gl 176 [.fn (.func g) [] D] st (λr st'=>∃m,st m=none/\r=.raw (.map (some m))/\st'=st.put m (some (.map .str (setE l)))):=by
 refine ICall.intro (c:=cf prog gl [3] []) func176 rfl (by show _<=11;simp) (by kernel_rfl) ?_;simp only[go_sem,zE,zL,reduceCtorEq];refine λm=>fc λU=>λb=>fc λG=>?_;have A:b≠m:=by rintro rfl;rw[b_] at G;cases G
 have key:∀k,((st.put m (some (.map .str (setE (l.take k))))).put b (some (.box [.raw (.map (some m))]))) m=some (.map .str (setE (l.take k))):=λk=>by
  rw[dZ (λh=>A h.symm),b_]
 refine RangeC.intro (seqX (mM l)) l.length (λk st'=>st'=(st.put m (some (.map .str (setE (l.take k))))).put b (some (.box [.raw (.map (some m))]))) (λ_ _=>False) he ?_ ?_ ?_ (hi _) ?_ (λ_ _ _ h=>h.elim)
 ·intro k a O;simp only[seqX,mM,fH,ga] at O;obtain⟨s,_,rfl⟩:=O;rfl
 ·rw[fW];rfl
 ·rintro k a _ J rfl;simp only[seqX,mM,fH,ga] at J;obtain⟨s,hs,rfl⟩:=J;simp only[go_sem,zE,b_,key k];have hst:∀E,((st.put m (some (.map .str (setE (l.take k))))).put b (some (.box [.raw (.map (some m))]))).put m (some (.map .str E))=(st.put m (some (.map .str E))).put b (some (.box [.raw (.map (some m))])):=λE=>by
   funext c;simp only[ISt.put_apply];by_cases h1:c=m
   ·rw[c_ h1,a_ (λh=>A (by rw[<- h,h1])),c_ h1]
   ·rw[a_ h1,a_ h1,a_ h1]
  rw[hst,en hs];simp only[setE,List.foldl_append,kA,List.foldl_nil]
 ·rintro _ r rfl;simp only[go_sem,zE,b_];refine fN (st':=st.put m (some (.map .str (setE l)))) ?_ ⟨m,U,rfl,rfl⟩;simp only[lTl];exact gj (by rw[dZ A];rw[dZ A] at G;exact G)
end Go.Proofs.Tryz
namespace Go.Proofs.Tryz
open Go Go.Iv
set_option maxRecDepth 4000
def incB (b:ByteArray->Nat)(n:ByteArray):ByteArray->Nat:=λs=>if s=n then b s+1 else b s
def iL (b:ByteArray->Nat)(l:List ByteArray):List ByteArray:=l.filter λs=>b s == 0
mutual
def oi (b:ByteArray->Nat):Fm->List ByteArray
 | .mk op n l sub=>iL b (gG l)++jl (if isQ op then incB b n else b) sub
def jl (b:ByteArray->Nat):List Fm->List ByteArray
 | []=>[]
 | a::l=>oi b a++jl b l
end
def uj (b:ByteArray->Nat):∀(l m:List Fm),jl b (l++m)=jl b l++jl b m
 | [],m=>by simp[jl]
 | a::l,m=>by simp only[fq,jl,uj b l m,fD]
def pc (b:ByteArray->Nat)(l m:List ByteArray):iL b (l++m)=iL b l++iL b m:=by simp[iL]
def LO {b:ByteArray->Nat}{l:List ByteArray}{i:Nat}{nm:ByteArray}(h:l[i]?=some nm)(D:b nm=0):(iL b l)[(iL b (l.take i)).length]?=some nm:=by
 have:l=l.take i++(nm::l.drop (i+1)):=by
  have A:=(lGs h).1
  conv=>lhs;rw[<- fh i l,gB A]
  rw[(lGs h).2]
 conv=>lhs;arg 1;rw[this]
 rw[pc,gD (eu _)];simp[iL,D]
def CntOk (es:List (Value×IV))(b:ByteArray->Nat):Prop:=∀s,(hZ (.string s) es).getD (0:Int)=(b s:Int)
def CntOk.nil:CntOk [] (λ_=>0):=λ_=>rfl
def v_ (s n:ByteArray)(v:IV):∀es:List (Value×IV),hZ (.string s) (updI (.string n) v es)=if s=n then some v else hZ (.string s) es
 | []=>by
  simp only[updI,hZ,jb];by_cases h:s=n<;>simp[h]
 | (x,u)::es=>by
  simp only[updI];by_cases A:jb (.string n) x=true
  ·have D:x=.string n:=by
    cases x<;>simp[jb] at A;rw[A]
   subst D;rw[c_ A];simp only[hZ,jb];by_cases h:s=n<;>simp[h]
  ·rw[a_ A];simp only[hZ];rw[v_ s n v es];by_cases h:s=n
   ·subst h;simp[A]
   ·simp[h]
def CntOk.inc {es:List (Value×IV)}{b:ByteArray->Nat}(h:CntOk es b)(n:ByteArray):CntOk (updI (.string n) ((b n+1:Nat):Int) es) (incB b n):=λs=>by
 rw[v_];unfold incB;by_cases hs:s=n
 ·subst hs;simp
 ·simp only[a_ hs];exact h s
def CntOk.dec {es:List (Value×IV)}{b:ByteArray->Nat}{n:ByteArray}(h:CntOk es (incB b n)):CntOk (updI (.string n) (b n:Int) es) b:=λs=>by
 rw[v_];by_cases hs:s=n
 ·subst hs;simp
 ·have:=h s;simp only[incB,a_ hs] at this;simp only[a_ hs];exact this
def CntOk.look {es:List (Value×IV)}{b:ByteArray->Nat}(h:CntOk es b)(s:ByteArray):lY false (hZ (.string s) es) (0:Int)=some (.raw (.int .i64 (b s))):=by
 rw[<- h s];rfl
variable (gl:Nat->Option IV)
def ICallV.put {y:IV}{args:List IV}{stu:ISt}{K:IV->ISt->Prop}(h:ICallV prog gl y args stu K){m:Nat}(G:stu m=none)(o:IObj) :
  ICallV prog gl y args (stu.put m (some o)) (λx st'=>∃A,A m=none/\st'=A.put m (some o)/\K x A):=by
 have E:∀s:ISt,join s (λc=>if c=m then some o else none)=s.put m (some o):=λs=>by
  funext c;simp only[join,ISt.put_apply];by_cases hc:c=m
  ·simp[hc]
  ·simp[hc]
 have hd:disj stu (λc=>if c=m then some o else none):=λc hc=>by
  by_cases h1:c=m
  ·rw[h1];exact G
  ·simp[h1] at hc
 have:=h.frame hd;rw[E] at this;refine this.mono ?_;rintro x st' ⟨A,D,rfl,hK⟩;exact⟨A,D m (by simp),E _,hK⟩
def LP (nm:ByteArray)(m:Nat)(es:List (Value×IV))(b:ByteArray->Nat)(hc:CntOk es b)(f:Fn)(G ca:List IV)(J:fnOk f=true)(A:∀g,f=.func g->entI prog g=true)(st:ISt)(D:st m=some (.map .str es))
  (K:IV->ISt->Prop) (h1:0<b nm->K true st) (h2:b nm=0->ICallV prog gl (.fn f G ca) [nm] st (λr st'=>(r=true\/r=false)/\K r st')) :
  ICall prog gl 247 [nm,.cptr (.raw (.map (some m))),.cptr (.fn f G ca)] st K:=by
 refine iI func247 ?_;by_cases E:b nm=0
 ·simp only[go_sem,zE,reduceCtorEq,fits,D,hc.look nm,E,show decide ((0:Int)<((0:Nat):Int))=false from rfl];refine mI A ((h2 E).mono ?_);rintro _ st (⟨rfl|rfl,hK⟩)
  ·simp only[go_sem,zE];exact dw hK
  ·simp only[go_sem,zE];exact dw hK
 ·simp only[go_sem,zE,reduceCtorEq,fits,D,hc.look nm,show decide ((0:Int)<((b nm:Nat):Int))=true from dEt (by omega)];exact dw (h1 (by omega))
def Er (x:IV)(op:Nat)(n:ByteArray)(t D:Tag)(A ys:List IV)(m:Nat)(es:List (Value×IV))(b:ByteArray->Nat)(hc:CntOk es (incB b n))(J:b n<=4611686018427387904)(st:ISt)(G:st m=some (.map .str es)) :
  ICallD prog gl 249 [.cptr (.raw (.map (some m))),.cptr (.agg [.raw (.int .u8 op),n,.sl t A,.sl D ys])] st
   (λ_ st'=>st'=st.put m (some (.map .str (updI (.string n) (b n:Int) es)))):=by
 refine ICallD.intro (c:=cf prog gl [] []) func249 rfl (by show _<=7;simp) (by kernel_rfl) ?_;have E:IntKind.i64.wrap (((incB b n n:Nat):Int)-1)=(b n:Int):=by rw[w64]<;>simp[incB]<;>omega
 simp only[go_sem,zE,fits,G,hc.look n,E];exact dw rfl
end Go.Proofs.Tryz
namespace Go.Proofs.Tryz
open Go Go.Iv
set_option maxRecDepth 4000
variable (gl:Nat->Option IV)
def pd (m:Nat)(b:ByteArray->Nat)(P:ISt->Prop)(st:ISt):Prop:=∃stu es,stu m=none/\CntOk es b/\st=stu.put m (some (.map .str es))/\P stu
def LQ (I:Nat->ISt->Prop)(S:ISt->Prop)(m:Nat)(b:ByteArray->Nat)(k:Nat)(r:IV)(st':ISt):Prop:=(r=true/\pd m b (I k) st')\/(r=false/\pd m b S st')
def LR {f:Fn}{fi ca:List IV}(J:fnOk f=true)(E:∀g,f=.func g->entI prog g=true){I:Nat->ISt->Prop}{S:ISt->Prop}{k1:Nat}{b:ByteArray->Nat}{l:List ByteArray}(hy:YOk gl (.fn f fi ca) I S k1 (iL b l))(m:Nat) :
  YOk gl (.fn (.func 247) [] [.cptr (.raw (.map (some m))),.cptr (.fn f fi ca)]) (λi=>pd m b (I (k1+(iL b (l.take i)).length))) (pd m b S) 0 l:=by
 rintro i nm st G ⟨stu,es,hm,hc,rfl,U⟩;simp only[eT] at U ⊢;refine ICallV.of_ICall (by simp only[go_sem]) (LP gl nm m es b hc f fi ca J E _ (b_ _ _ _) _ (λO=>?_) (λO=>?_))
 ·refine .inl ⟨rfl,stu,es,hm,hc,rfl,?_⟩;rw[en G,pc];have:iL b [nm]=[]:=by simp[iL];omega
  rw[this,fL];exact U
 ·refine (ICallV.put gl (hy _ nm stu (LO G O) U) hm _).mono ?_;rintro r st' ⟨A,D,rfl,h|h⟩
  ·refine⟨.inl h.1,.inl ⟨h.1,A,es,D,hc,rfl,?_⟩⟩;rw[en G,pc];have:iL b [nm]=[nm]:=by simp[iL,O]
   rw[this,lLa,<- iQ];exact h.2
  ·exact⟨.inr h.1,.inr ⟨h.1,A,es,D,hc,rfl,h.2⟩⟩
def VF (f:Fm):Prop:=∀(x:IV) (_:IsFm f x) (g:Fn) (A ca:List IV) (_:fnOk g=true) (_:∀i,g=.func i->entI prog i=true) (I:Nat->ISt->Prop) (S:ISt->Prop) (k0:Nat) (b:ByteArray->Nat)
  (_:∀s,b s+f.size<=4611686018427387904) (_:YOk gl (.fn g A ca) I S k0 (oi b f)) (m:Nat) (st:ISt) (_:pd m b (I k0) st),
  ICall prog gl 217 [x,.raw (.map (some m)),.fn g A ca] st (LQ I S m b (k0+(oi b f).length))
def LS (op:Nat)(n:ByteArray)(us:List Tm)(sub:List Fm)(IH:∀a∈sub,VF gl a):VF gl (.mk op n us sub):=by
 intro x hx g fi ca ah aa I S k0 b ai hy m st hst;obtain⟨tg,xs,ac,ys,rfl,aK,au,al,ae,hys⟩:=hx.mk;obtain⟨stu,es,hm,hc,rfl,hI⟩:=hst;simp only[oi] at hy ⊢;have ao:=YOk.left gl hy;have O:=YOk.right gl hy;refine ICall.intro (c:=cf prog gl [] [] [3,4,5]) func217 rfl (by show _<=46;simp) (by kernel_rfl) ?_;simp only[go_sem,zE,al.len,fits];intro aC;refine dC us.length (λk fr st' ds=>pd m b (I (k0+(iL b (gG (us.take k))).length)) st'/\fr 3=.iv (.cptr (.agg [.raw (.int .u8 op),.raw (.string n),.sl tg xs,.sl ac ys]))/\fr 4=.iv (.cptr (.raw (.map (some m)))) /\
  fr 5=.iv (.cptr (.fn g fi ca))/\fr 7=.iv (.fn (.func 247) [] [.cptr (.raw (.map (some m))),.cptr (.fn g fi ca)])/\fr 14=.iv (.sl tg xs)/\fr 15=us.length/\fr 16=.iv (.raw (.int .i64 k))/\ds=[]) ?_ ?_ ?_
 ·simp only[go_sem,zE];exact⟨⟨stu,es,hm,hc,rfl,by simpa[gG,iL] using hI⟩,rfl⟩
 ·rintro k fr st ds D ⟨hst,f3,f4,f5,f7,f14,f15,f16,rfl⟩;obtain⟨a,J⟩:=ed D;obtain⟨x,U,hx⟩:=al.get J;have A:gG us=gG (us.take k)++(gQ a++gG (us.drop (k+1))):=by
   conv=>lhs;rw[<- fh k us,gB D]
   rw[ui,(lGs J).2];rfl
  have G:=ao;rw[A,pc,pc] at G;have ax:=LR gl ah aa (YOk.left gl (YOk.right gl G)) m;have E:=Ep gl a x hx _ _ _ rfl (λi hi=>by cases hi;simp only[go_sem]) _ _ 0 ax st (by simpa[iL] using hst);obtain⟨v2,n2,m2⟩:=a;obtain⟨tx,cx,rfl,_⟩:=hx.mk;simp only[go_sem,zE,zA,zL,f7,f14,f15,f16,lt_i D,ec au,iNn,U];refine E.mono ?_;rintro _ st (⟨rfl,h⟩|⟨rfl,h⟩)
  ·simp only[go_sem,zE,f3,f4,f5,f7,f14,f15,f16,ek D (by omega)];rw[en J,ui,pc,lLa,<- iQ];simpa[gG,lTl] using h
  ·simp only[go_sem];exact dw (.inr ⟨rfl,h⟩)
 ·rintro fr st ds ⟨hst,f3,f4,f5,f7,f14,f15,f16,rfl⟩;rw[lTl] at hst;obtain⟨stu,es,hm,hc,rfl,hI⟩:=hst;simp only[go_sem,zE,zA,f3,f15,f16,eI (nLi _),fits];refine (qZ gl op n _ _ _ _ _).q ?_;cases hq:isQ op
  ·rw[hq] at O;simp only[bFt,et] at O ⊢;simp only[go_sem,zE,f3,fits,hys.len];intro ag;refine dC sub.length (λk fr st' ds=>pd m b (I (k0+(iL b (gG us)).length+(jl b (sub.take k)).length)) st'/\fr 4=.iv (.cptr (.raw (.map (some m)))) /\
    fr 5=.iv (.cptr (.fn g fi ca))/\fr 34=.iv (.sl ac ys)/\fr 35=sub.length/\fr 36=.iv (.raw (.int .i64 k))/\ds=[]) ?_ ?_ ?_
   ·simp only[go_sem,zE,f4,f5];exact⟨⟨stu,es,hm,hc,rfl,by simpa[jl] using hI⟩,rfl⟩
   ·rintro k fr st ds D ⟨hst,f4,f5,f34,f35,f36,rfl⟩;obtain⟨a,J⟩:=ed D;obtain⟨x,U,hx⟩:=hys.get J;obtain⟨aw,av⟩:=kW J;have A:jl b sub=jl b (sub.take k)++(oi b a++jl b (sub.drop (k+1))):=by
     conv=>lhs;rw[<- fh k sub,gB D]
     rw[uj,(lGs J).2];rfl
    have G:=O;rw[A] at G;have E:=IH a (lMg J) x hx g fi ca ah aa I S _ b (λs=>by have:=ai s;simp only[Fm.size] at this;omega) (YOk.left gl (YOk.right gl G)) m st hst;obtain⟨o2,n2,u2,s2⟩:=a;obtain⟨t3,x3,t4,x4,rfl,_⟩:=hx.mk;simp only[go_sem,zE,zB,zA,zL,f4,f5,f34,f35,f36,lt_i D,ec ae,iNn,U,fits];refine E.mono ?_;rintro _ st (⟨rfl,h⟩|⟨rfl,h⟩)
    ·simp only[go_sem,zE,f4,f5,f34,f35,f36,ek D (by omega)];rw[en J,uj,lLa,<- iQ];simpa[jl] using h
    ·simp only[go_sem];exact dw (.inr ⟨rfl,h⟩)
   ·rintro fr st ds ⟨hst,f4,f5,f34,f35,f36,rfl⟩;simp only[go_sem,f35,f36,eI (nLi _)];rw[lTl] at hst;refine dw (.inl ⟨rfl,?_⟩);rw[lLa,<- iQ];exact hst
  ·rw[hq] at O;simp only[el] at O ⊢;have az:=ai n;simp only[Fm.size] at az;have hw:IntKind.i64.wrap (((b n:Nat):Int)+1)=((b n+1:Nat):Int):=by rw[w64]<;>omega
   simp only[go_sem,zE,reduceCtorEq,f3,f4,fits,hys.len,b_,hc.look n,hw,fW];intro ag;have ay:=hc.inc n;refine dC sub.length (λk fr st' ds=>pd m (incB b n) (I (k0+(iL b (gG us)).length+(jl (incB b n) (sub.take k)).length)) st'/\fr 4=.iv (.cptr (.raw (.map (some m)))) /\
    fr 5=.iv (.cptr (.fn g fi ca))/\fr 34=.iv (.sl ac ys)/\fr 35=sub.length/\fr 36=.iv (.raw (.int .i64 k)) /\
    ds=[.call (.func 249) [.cptr (.raw (.map (some m))),.cptr (.agg [.raw (.int .u8 op),.raw (.string n),.sl tg xs,.sl ac ys])] []]) ?_ ?_ ?_
   ·simp only[go_sem,zE,f4,f5];exact⟨⟨stu,_,hm,ay,rfl,by simpa[jl] using hI⟩,rfl⟩
   ·rintro k fr st ds D ⟨hst,f4,f5,f34,f35,f36,rfl⟩;obtain⟨a,J⟩:=ed D;obtain⟨x,U,hx⟩:=hys.get J;obtain⟨aw,av⟩:=kW J;have A:jl (incB b n) sub=jl (incB b n) (sub.take k)++(oi (incB b n) a++jl (incB b n) (sub.drop (k+1))):=by
     conv=>lhs;rw[<- fh k sub,gB D]
     rw[uj,(lGs J).2];rfl
    have G:=O;rw[A] at G;have E:=IH a (lMg J) x hx g fi ca ah aa I S _ (incB b n) (λs=>by have:=ai s;simp only[Fm.size] at this;simp only[incB];split<;>omega) (YOk.left gl (YOk.right gl G)) m st hst;obtain⟨o2,n2,u2,s2⟩:=a;obtain⟨t3,x3,t4,x4,rfl,_⟩:=hx.mk;simp only[go_sem,zE,zB,zA,zL,f4,f5,f34,f35,f36,lt_i D,ec ae,iNn,U,fits];refine E.mono ?_;rintro _ st (⟨rfl,h⟩|⟨rfl,h⟩)
    ·simp only[go_sem,zE,f4,f5,f34,f35,f36,ek D (by omega)];rw[en J,uj,lLa,<- iQ];simpa[jl] using h
    ·obtain⟨stu,es,hm,hc,rfl,hS⟩:=h;simp only[go_sem];refine (Er gl .junk op n _ _ _ _ m es b hc (by omega) _ (b_ _ _ _)).mono ?_;rintro _ _ rfl;simp only[go_sem,fW];exact dw (.inr ⟨rfl,stu,_,hm,hc.dec,rfl,hS⟩)
   ·rintro fr st ds ⟨hst,f4,f5,f34,f35,f36,rfl⟩;rw[lTl] at hst;obtain⟨stu,es,hm,hc,rfl,hI⟩:=hst;simp only[go_sem,f35,f36,eI (nLi _)];refine (Er gl .junk op n _ _ _ _ m es b hc (by omega) _ (b_ _ _ _)).mono ?_;rintro _ _ rfl;simp only[go_sem,fW];refine dw (.inl ⟨rfl,stu,_,hm,hc.dec,rfl,?_⟩);rw[lLa,<- iQ];exact hI
def Es:∀(k:Nat)(t:Fm),SizeOf.sizeOf t<k->VF gl t
 | 0,f,h=>by omega
 | k+1,.mk o n us sub,h=>LS gl o n us sub (λa A=>Es k a (by
   have:=lSm A;simp at h;omega))
def LU (t:Fm):VF gl t:=Es gl _ t (fP _)
def pZ (f:Fm):List ByteArray:=oi (λ_=>0) f
def wa (f:Fm)(x:IV)(O:IsFm f x)(hs:f.size<=4611686018427387904)(I:Nat->ISt->Prop):IterC prog gl 216 [] [.cptr x] (seqX (mM (pZ f))) (pZ f).length I:=by
 obtain⟨o,n,us,sub⟩:=f;obtain⟨t1,x1,t2,x2,rfl,_⟩:=O.mk;rintro y I' S' st ⟨g,U,ca,rfl,G,E⟩ _ hy h0;change ICall prog gl _ [.fn g U ca,_] st _;refine iI func216 ?_;simp only[go_sem,zE,zA,reduceCtorEq,fits];refine λm=>fc λhm=>?_;refine (LU gl _ _ O g U ca G E I' S' 0 (λ_=>0) (λs=>by omega) (YOk.of gl hy) m _ ⟨st,[],hm,CntOk.nil,rfl,h0⟩).mono ?_;rintro _ st' h;simp only[go_sem];have A:∀(stu:ISt) (es:List (Value×IV)),stu m=none->subSt stu (stu.put m (some (.map .str es))):=λstu es h=>gj h;rw[eT] at h;rcases h with⟨_,stu,es,D,_,rfl,J⟩|⟨_,stu,es,D,_,rfl,J⟩
 ·exact fN (A stu es D) (.inl J)
 ·exact fN (A stu es D) (.inr J)
