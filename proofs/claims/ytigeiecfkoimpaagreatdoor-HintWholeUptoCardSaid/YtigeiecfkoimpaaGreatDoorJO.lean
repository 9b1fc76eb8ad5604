/- Walks: iterators over names; sets. -/
import Derived.Test.YtigeiecfkoimpaaGreatDoorJN
set_option linter.all false
open Nat renaming reduceEqDiff → zE,reduceBEq → zB,reduceAdd → zA,reduceLeDiff → zL
namespace Go.Proofs.Tryz
open Go Go.Iv
set_option maxRecDepth 4000
variable (gl:Nat->Option IV)
def isQ (op:Nat):Bool:=decide (op=8) || decide (op=9)
def pO (op:Nat)(n:ByteArray)(t G:Tag)(xs ys:List IV)(st:ISt) :
  ICall prog gl 109 [.agg [.raw (.int .u8 op),n,.sl t xs,.sl G ys]] st (λx st'=>x=(isQ op:Bool)/\st'=st):=by
 refine iI func109 ?_;by_cases E:op=8
 ·simp only[go_sem,zE,zA,show decide ((op:Int)=8)=true from dEt (by omega)];exact c_ ⟨by simp[isQ,E],rfl⟩
 ·simp only[go_sem,zE,zA,show decide ((op:Int)=8)=false from dEf (by omega)];exact c_ ⟨by
   congr 2;by_cases D:op=9
   ·simp[isQ,D]
   ·rw[dEf (by omega)];simp[isQ,E,D],rfl⟩
def Ko (t:Tm)(x:IV)(E:IsTm t x)(st:ISt):ICall prog gl 211 [x] st (λr st'=>r=.fn (.func 244) [] [.cptr x]/\st'=st):=by
 obtain⟨v,n,us⟩:=t;obtain⟨J,xs,rfl,G,D⟩:=E.mk;refine ICall.intro (c:=cf prog gl [] [] [1]) func211 rfl (by show _<=4;simp) (by kernel_rfl) ?_;simp only[go_sem,zE];exact c_ ⟨rfl,rfl⟩
def uj (f:Fm)(x:IV)(D:IsFm f x)(st:ISt):ICall prog gl 163 [x] st (λr st'=>r=.fn (.func 194) [] [.cptr x]/\st'=st):=by
 obtain⟨o,n,us,sub⟩:=f;obtain⟨t1,G,t2,E,rfl,_⟩:=D.mk;refine ICall.intro (c:=cf prog gl [] [] [1]) func163 rfl (by show _<=4;simp) (by kernel_rfl) ?_;simp only[go_sem,zE];exact c_ ⟨rfl,rfl⟩
def lT (l:List ByteArray):List (List IV):=l.map λs=>[.raw (.string s)]
def YOk.of {y:IV}{I:Nat->ISt->Prop}{S:ISt->Prop}{l:List ByteArray}(h:Cb prog gl y (seqX (lT l)) I S):YOk gl y I S 0 l:=λi nm stu D E=>by
 have:=h i [.raw (.string nm)] stu (by simp[seqX,lT,D]) (by simpa using E);rw[dY];exact this
def Kp (t:Tm)(x:IV)(G:IsTm t x)(I:Nat->ISt->Prop):IterC prog gl 244 [] [.cptr x] (seqX (lT (fP t))) (fP t).length I:=by
 obtain⟨v,n,us⟩:=t;obtain⟨tg,xs,rfl,ab,aa⟩:=G.mk;rintro y I' S' st ⟨f,J,ca,rfl,E,D⟩ _ O h0;change ICall prog gl _ [.fn f J ca,_] st _;refine iI func244 ?_;simp only[go_sem,zE,zA,reduceCtorEq,fits];refine (CF gl _ _ G f J ca E D I' S' 0 (YOk.of gl O) st h0).mono ?_;rintro _ st' h;simp only[go_sem];refine c_ ?_;rw[dY] at h;exact h.imp And.right And.right
def setE (l:List ByteArray):List (Value×IV):=l.foldl (λes s=>updI (.string s) true es) []
def uk (g:FuncId)(E:List IV)(l:List ByteArray)(st:ISt)(he:entI prog g=true)(hi:∀I,IterC prog gl g [] E (seqX (lT l)) l.length I) :
  ICall prog gl 162 [.fn (.func g) [] E] st (λr st'=>∃m,st m=none/\r=.raw (.map (some m))/\st'=st.put m (some (.map .str (setE l)))):=by
 refine ICall.intro (c:=cf prog gl [3] []) func162 rfl (by show _<=11;simp) (by kernel_rfl) ?_;simp only[go_sem,zE,zL,reduceCtorEq];refine λm=>d_ λhm=>λb=>d_ λJ=>?_;have D:b≠m:=by rintro rfl;rw[b_] at J;cases J
 have key:∀k,((st.put m (some (.map .str (setE (l.take k))))).put b (some (.box [.raw (.map (some m))]))) m=some (.map .str (setE (l.take k))):=λk=>by
  rw[dz (λh=>D h.symm),b_]
 refine RangeC.intro (seqX (lT l)) l.length (λk st'=>st'=(st.put m (some (.map .str (setE (l.take k))))).put b (some (.box [.raw (.map (some m))]))) (λ_ _=>False) he ?_ ?_ ?_ (hi _) ?_ (λ_ _ _ h=>h.elim)
 ·intro k a ha;simp only[seqX,lT,eB,fp] at ha;obtain⟨s,_,rfl⟩:=ha;rfl
 ·rw[eN];rfl
 ·rintro k a _ O rfl;simp only[seqX,lT,eB,fp] at O;obtain⟨s,hs,rfl⟩:=O;simp only[go_sem,zE,b_,key k];have hst:∀G,((st.put m (some (.map .str (setE (l.take k))))).put b (some (.box [.raw (.map (some m))]))).put m (some (.map .str G))=(st.put m (some (.map .str G))).put b (some (.box [.raw (.map (some m))])):=λG=>by
   funext c;simp only[ISt.put_apply];by_cases h1:c=m
   ·rw[cX h1,a_ (λh=>D (by rw[<- h,h1])),cX h1]
   ·rw[a_ h1,a_ h1,a_ h1]
  rw[hst,dM hs];simp only[setE,List.foldl_append,jH,List.foldl_nil]
 ·rintro _ r rfl;simp only[go_sem,zE,b_];refine eI (st':=st.put m (some (.map .str (setE l)))) ?_ ⟨m,hm,rfl,rfl⟩;simp only[lTl];exact fb (by rw[dz D];rw[dz D] at J;exact J)
end Go.Proofs.Tryz
namespace Go.Proofs.Tryz
open Go Go.Iv
set_option maxRecDepth 4000
def incB (b:ByteArray->Nat)(n:ByteArray):ByteArray->Nat:=λs=>if s=n then b s+1 else b s
def gG (b:ByteArray->Nat)(l:List ByteArray):List ByteArray:=l.filter λs=>b s == 0
mutual
def mR (b:ByteArray->Nat):Fm->List ByteArray
 | .mk op n l sub=>gG b (fI l)++iu (if isQ op then incB b n else b) sub
def iu (b:ByteArray->Nat):List Fm->List ByteArray
 | []=>[]
 | a::l=>mR b a++iu b l
end
def rJ (b:ByteArray->Nat):∀(l m:List Fm),iu b (l++m)=iu b l++iu b m
 | [],m=>by simp[iu]
 | a::l,m=>by simp only[eu,iu,rJ b l m,et]
def nP (b:ByteArray->Nat)(l m:List ByteArray):gG b (l++m)=gG b l++gG b m:=by simp[gG]
def Kq {b:ByteArray->Nat}{l:List ByteArray}{i:Nat}{nm:ByteArray}(h:l[i]?=some nm)(E:b nm=0):(gG b l)[(gG b (l.take i)).length]?=some nm:=by
 have:l=l.take i++(nm::l.drop (i+1)):=by
  have D:=(lGs h).1
  conv=>lhs;rw[<- eA i l,fC D]
  rw[(lGs h).2]
 conv=>lhs;arg 1;rw[this]
 rw[nP,fD (dG _)];simp[gG,E]
def CntOk (es:List (Value×IV))(b:ByteArray->Nat):Prop:=∀s,(f_ (.string s) es).getD (0:Int)=(b s:Int)
def CntOk.nil:CntOk [] (λ_=>0):=λ_=>rfl
def um (s n:ByteArray)(v:IV):∀es:List (Value×IV),f_ (.string s) (updI (.string n) v es)=if s=n then some v else f_ (.string s) es
 | []=>by
  simp only[updI,f_,h_];by_cases h:s=n<;>simp[h]
 | (x,u)::es=>by
  simp only[updI];by_cases D:h_ (.string n) x=true
  ·have E:x=.string n:=by
    cases x<;>simp[h_] at D;rw[D]
   subst E;rw[cX D];simp only[f_,h_];by_cases h:s=n<;>simp[h]
  ·rw[a_ D];simp only[f_];rw[um s n v es];by_cases h:s=n
   ·subst h;simp[D]
   ·simp[h]
def CntOk.inc {es:List (Value×IV)}{b:ByteArray->Nat}(h:CntOk es b)(n:ByteArray):CntOk (updI (.string n) ((b n+1:Nat):Int) es) (incB b n):=λs=>by
 rw[um];unfold incB;by_cases hs:s=n
 ·subst hs;simp
 ·simp only[a_ hs];exact h s
def CntOk.dec {es:List (Value×IV)}{b:ByteArray->Nat}{n:ByteArray}(h:CntOk es (incB b n)):CntOk (updI (.string n) (b n:Int) es) b:=λs=>by
 rw[um];by_cases hs:s=n
 ·subst hs;simp
 ·have:=h s;simp only[incB,a_ hs] at this;simp only[a_ hs];exact this
def CntOk.look {es:List (Value×IV)}{b:ByteArray->Nat}(h:CntOk es b)(s:ByteArray):lb false (f_ (.string s) es) (0:Int)=some (.raw (.int .i64 (b s))):=by
 rw[<- h s];rfl
variable (gl:Nat->Option IV)
def ICallV.put {y:IV}{args:List IV}{stu:ISt}{K:IV->ISt->Prop}(h:ICallV prog gl y args stu K){m:Nat}(J:stu m=none)(o:IObj) :
  ICallV prog gl y args (stu.put m (some o)) (λx st'=>∃D,D m=none/\st'=D.put m (some o)/\K x D):=by
 have G:∀s:ISt,join s (λc=>if c=m then some o else none)=s.put m (some o):=λs=>by
  funext c;simp only[join,ISt.put_apply];by_cases hc:c=m
  ·simp[hc]
  ·simp[hc]
 have hd:disj stu (λc=>if c=m then some o else none):=λc hc=>by
  by_cases h1:c=m
  ·rw[h1];exact J
  ·simp[h1] at hc
 have:=h.frame hd;rw[G] at this;refine this.mono ?_;rintro x st' ⟨D,E,rfl,hK⟩;exact⟨D,E m (by simp),G _,hK⟩
def Kr (nm:ByteArray)(m:Nat)(es:List (Value×IV))(b:ByteArray->Nat)(hc:CntOk es b)(f:Fn)(J ca:List IV)(O:fnOk f=true)(D:∀g,f=.func g->entI prog g=true)(st:ISt)(E:st m=some (.map .str es))
  (K:IV->ISt->Prop) (h1:0<b nm->K true st) (h2:b nm=0->ICallV prog gl (.fn f J ca) [nm] st (λr st'=>(r=true\/r=false)/\K r st')) :
  ICall prog gl 221 [nm,.cptr (.raw (.map (some m))),.cptr (.fn f J ca)] st K:=by
 refine iI func221 ?_;by_cases G:b nm=0
 ·simp only[go_sem,zE,reduceCtorEq,fits,E,hc.look nm,G,show decide ((0:Int)<((0:Nat):Int))=false from rfl];refine lO D ((h2 G).mono ?_);rintro _ st (⟨rfl|rfl,hK⟩)
  ·simp only[go_sem,zE];exact c_ hK
  ·simp only[go_sem,zE];exact c_ hK
 ·simp only[go_sem,zE,reduceCtorEq,fits,E,hc.look nm,show decide ((0:Int)<((b nm:Nat):Int))=true from dEt (by omega)];exact c_ (h1 (by omega))
def CG (x:IV)(op:Nat)(n:ByteArray)(t D:Tag)(xs ys:List IV)(m:Nat)(es:List (Value×IV))(b:ByteArray->Nat)(hc:CntOk es (incB b n))(J:b n<=4611686018427387904)(st:ISt)(G:st m=some (.map .str es)) :
  ICallD prog gl 223 [.cptr (.raw (.map (some m))),.cptr (.agg [.raw (.int .u8 op),n,.sl t xs,.sl D ys])] st
   (λ_ st'=>st'=st.put m (some (.map .str (updI (.string n) (b n:Int) es)))):=by
 refine ICallD.intro (c:=cf prog gl [] []) func223 rfl (by show _<=7;simp) (by kernel_rfl) ?_;have E:IntKind.i64.wrap (((incB b n n:Nat):Int)-1)=(b n:Int):=by rw[w64]<;>simp[incB]<;>omega
 simp only[go_sem,zE,fits,G,hc.look n,E];exact c_ rfl
end Go.Proofs.Tryz
namespace Go.Proofs.Tryz
open Go Go.Iv
set_option maxRecDepth 4000
variable (gl:Nat->Option IV)
def nQ (m:Nat)(b:ByteArray->Nat)(P:ISt->Prop)(st:ISt):Prop:=∃stu es,stu m=none/\CntOk es b/\st=stu.put m (some (.map .str es))/\P stu
def Ks (I:Nat->ISt->Prop)(S:ISt->Prop)(m:Nat)(b:ByteArray->Nat)(k:Nat)(r:IV)(st':ISt):Prop:=(r=true/\nQ m b (I k) st')\/(r=false/\nQ m b S st')
def Ku {f:Fn}{fi ca:List IV}(O:fnOk f=true)(G:∀g,f=.func g->entI prog g=true){I:Nat->ISt->Prop}{S:ISt->Prop}{k1:Nat}{b:ByteArray->Nat}{l:List ByteArray}(hy:YOk gl (.fn f fi ca) I S k1 (gG b l))(m:Nat) :
  YOk gl (.fn (.func 221) [] [.cptr (.raw (.map (some m))),.cptr (.fn f fi ca)]) (λi=>nQ m b (I (k1+(gG b (l.take i)).length))) (nQ m b S) 0 l:=by
 rintro i nm st J ⟨stu,es,hm,hc,rfl,hI⟩;simp only[dY] at hI ⊢;refine ICallV.of_ICall (by simp only[go_sem]) (Kr gl nm m es b hc f fi ca O G _ (b_ _ _ _) _ (λhb=>?_) (λhb=>?_))
 ·refine .inl ⟨rfl,stu,es,hm,hc,rfl,?_⟩;rw[dM J,nP];have:gG b [nm]=[]:=by simp[gG];omega
  rw[this,ek];exact hI
 ·refine (ICallV.put gl (hy _ nm stu (Kq J hb) hI) hm _).mono ?_;rintro r st' ⟨D,E,rfl,h|h⟩
  ·refine⟨.inl h.1,.inl ⟨h.1,D,es,E,hc,rfl,?_⟩⟩;rw[dM J,nP];have:gG b [nm]=[nm]:=by simp[gG,hb]
   rw[this,lLa,<- gO];exact h.2
  ·exact⟨.inr h.1,.inr ⟨h.1,D,es,E,hc,rfl,h.2⟩⟩
def VF (f:Fm):Prop:=∀(x:IV) (_:IsFm f x) (g:Fn) (D ca:List IV) (_:fnOk g=true) (_:∀i,g=.func i->entI prog i=true) (I:Nat->ISt->Prop) (S:ISt->Prop) (k0:Nat) (b:ByteArray->Nat)
  (_:∀s,b s+f.size<=4611686018427387904) (_:YOk gl (.fn g D ca) I S k0 (mR b f)) (m:Nat) (st:ISt) (_:nQ m b (I k0) st),
  ICall prog gl 195 [x,.raw (.map (some m)),.fn g D ca] st (Ks I S m b (k0+(mR b f).length))
def Kv (op:Nat)(n:ByteArray)(us:List Tm)(sub:List Fm)(IH:∀a∈sub,VF gl a):VF gl (.mk op n us sub):=by
 intro x hx g fi ca aj ac I S k0 b ak hy m st hst;obtain⟨tg,xs,af,ys,rfl,aL,av,an,ag,hys⟩:=hx.mk;obtain⟨stu,es,hm,hc,rfl,hI⟩:=hst;simp only[mR] at hy ⊢;have aq:=YOk.left gl hy;have aa:=YOk.right gl hy;refine ICall.intro (c:=cf prog gl [] [] [3,4,5]) func195 rfl (by show _<=46;simp) (by kernel_rfl) ?_;simp only[go_sem,zE,an.len,fits];intro aD;refine dt us.length (λk fr st' ds=>nQ m b (I (k0+(gG b (fI (us.take k))).length)) st'/\fr 3=.iv (.cptr (.agg [.raw (.int .u8 op),.raw (.string n),.sl tg xs,.sl af ys]))/\fr 4=.iv (.cptr (.raw (.map (some m)))) /\
  fr 5=.iv (.cptr (.fn g fi ca))/\fr 7=.iv (.fn (.func 221) [] [.cptr (.raw (.map (some m))),.cptr (.fn g fi ca)])/\fr 14=.iv (.sl tg xs)/\fr 15=us.length/\fr 16=.iv (.raw (.int .i64 k))/\ds=[]) ?_ ?_ ?_
 ·simp only[go_sem,zE];exact⟨⟨stu,es,hm,hc,rfl,by simpa[fI,gG] using hI⟩,rfl⟩
 ·rintro k fr st ds E ⟨hst,f3,f4,f5,f7,f14,f15,f16,rfl⟩;obtain⟨a,O⟩:=dD E;obtain⟨x,ab,hx⟩:=an.get O;have D:fI us=fI (us.take k)++(fP a++fI (us.drop (k+1))):=by
   conv=>lhs;rw[<- eA k us,fC E]
   rw[rI,(lGs O).2];rfl
  have J:=aq;rw[D,nP,nP] at J;have ay:=Ku gl aj ac (YOk.left gl (YOk.right gl J)) m;have G:=CF gl a x hx _ _ _ rfl (λi hi=>by cases hi;simp only[go_sem]) _ _ 0 ay st (by simpa[gG] using hst);obtain⟨v2,n2,m2⟩:=a;obtain⟨tx,cx,rfl,_⟩:=hx.mk;simp only[go_sem,zE,zA,zL,f7,f14,f15,f16,lt_i E,dB av,iNn,ab];refine G.mono ?_;rintro _ st (⟨rfl,h⟩|⟨rfl,h⟩)
  ·simp only[go_sem,zE,f3,f4,f5,f7,f14,f15,f16,dL E (by omega)];rw[dM O,rI,nP,lLa,<- gO];simpa[fI,lTl] using h
  ·simp only[go_sem];exact c_ (.inr ⟨rfl,h⟩)
 ·rintro fr st ds ⟨hst,f3,f4,f5,f7,f14,f15,f16,rfl⟩;rw[lTl] at hst;obtain⟨stu,es,hm,hc,rfl,hI⟩:=hst;simp only[go_sem,zE,zA,f3,f15,f16,dS (nLi _),fits];refine (pO gl op n _ _ _ _ _).q ?_;cases hq:isQ op
  ·rw[hq] at aa;simp only[bFt,dE] at aa ⊢;simp only[go_sem,zE,f3,fits,hys.len];intro ai;refine dt sub.length (λk fr st' ds=>nQ m b (I (k0+(gG b (fI us)).length+(iu b (sub.take k)).length)) st'/\fr 4=.iv (.cptr (.raw (.map (some m)))) /\
    fr 5=.iv (.cptr (.fn g fi ca))/\fr 34=.iv (.sl af ys)/\fr 35=sub.length/\fr 36=.iv (.raw (.int .i64 k))/\ds=[]) ?_ ?_ ?_
   ·simp only[go_sem,zE,f4,f5];exact⟨⟨stu,es,hm,hc,rfl,by simpa[iu] using hI⟩,rfl⟩
   ·rintro k fr st ds E ⟨hst,f4,f5,f34,f35,f36,rfl⟩;obtain⟨a,O⟩:=dD E;obtain⟨x,ab,hx⟩:=hys.get O;obtain⟨ax,aw⟩:=j8 O;have D:iu b sub=iu b (sub.take k)++(mR b a++iu b (sub.drop (k+1))):=by
     conv=>lhs;rw[<- eA k sub,fC E]
     rw[rJ,(lGs O).2];rfl
    have J:=aa;rw[D] at J;have G:=IH a (lMg O) x hx g fi ca aj ac I S _ b (λs=>by have:=ak s;simp only[Fm.size] at this;omega) (YOk.left gl (YOk.right gl J)) m st hst;obtain⟨o2,n2,u2,s2⟩:=a;obtain⟨t3,x3,t4,x4,rfl,_⟩:=hx.mk;simp only[go_sem,zE,zB,zA,zL,f4,f5,f34,f35,f36,lt_i E,dB ag,iNn,ab,fits];refine G.mono ?_;rintro _ st (⟨rfl,h⟩|⟨rfl,h⟩)
    ·simp only[go_sem,zE,f4,f5,f34,f35,f36,dL E (by omega)];rw[dM O,rJ,lLa,<- gO];simpa[iu] using h
    ·simp only[go_sem];exact c_ (.inr ⟨rfl,h⟩)
   ·rintro fr st ds ⟨hst,f4,f5,f34,f35,f36,rfl⟩;simp only[go_sem,f35,f36,dS (nLi _)];rw[lTl] at hst;refine c_ (.inl ⟨rfl,?_⟩);rw[lLa,<- gO];exact hst
  ·rw[hq] at aa;simp only[dJ] at aa ⊢;have aA:=ak n;simp only[Fm.size] at aA;have hw:IntKind.i64.wrap (((b n:Nat):Int)+1)=((b n+1:Nat):Int):=by rw[w64]<;>omega
   simp only[go_sem,zE,reduceCtorEq,f3,f4,fits,hys.len,b_,hc.look n,hw,eN];intro ai;have az:=hc.inc n;refine dt sub.length (λk fr st' ds=>nQ m (incB b n) (I (k0+(gG b (fI us)).length+(iu (incB b n) (sub.take k)).length)) st'/\fr 4=.iv (.cptr (.raw (.map (some m)))) /\
    fr 5=.iv (.cptr (.fn g fi ca))/\fr 34=.iv (.sl af ys)/\fr 35=sub.length/\fr 36=.iv (.raw (.int .i64 k)) /\
    ds=[.call (.func 223) [.cptr (.raw (.map (some m))),.cptr (.agg [.raw (.int .u8 op),.raw (.string n),.sl tg xs,.sl af ys])] []]) ?_ ?_ ?_
   ·simp only[go_sem,zE,f4,f5];exact⟨⟨stu,_,hm,az,rfl,by simpa[iu] using hI⟩,rfl⟩
   ·rintro k fr st ds E ⟨hst,f4,f5,f34,f35,f36,rfl⟩;obtain⟨a,O⟩:=dD E;obtain⟨x,ab,hx⟩:=hys.get O;obtain⟨ax,aw⟩:=j8 O;have D:iu (incB b n) sub=iu (incB b n) (sub.take k)++(mR (incB b n) a++iu (incB b n) (sub.drop (k+1))):=by
     conv=>lhs;rw[<- eA k sub,fC E]
     rw[rJ,(lGs O).2];rfl
    have J:=aa;rw[D] at J;have G:=IH a (lMg O) x hx g fi ca aj ac I S _ (incB b n) (λs=>by have:=ak s;simp only[Fm.size] at this;simp only[incB];split<;>omega) (YOk.left gl (YOk.right gl J)) m st hst;obtain⟨o2,n2,u2,s2⟩:=a;obtain⟨t3,x3,t4,x4,rfl,_⟩:=hx.mk;simp only[go_sem,zE,zB,zA,zL,f4,f5,f34,f35,f36,lt_i E,dB ag,iNn,ab,fits];refine G.mono ?_;rintro _ st (⟨rfl,h⟩|⟨rfl,h⟩)
    ·simp only[go_sem,zE,f4,f5,f34,f35,f36,dL E (by omega)];rw[dM O,rJ,lLa,<- gO];simpa[iu] using h
    ·obtain⟨stu,es,hm,hc,rfl,hS⟩:=h;simp only[go_sem];refine (CG gl .junk op n _ _ _ _ m es b hc (by omega) _ (b_ _ _ _)).mono ?_;rintro _ _ rfl;simp only[go_sem,eN];exact c_ (.inr ⟨rfl,stu,_,hm,hc.dec,rfl,hS⟩)
   ·rintro fr st ds ⟨hst,f4,f5,f34,f35,f36,rfl⟩;rw[lTl] at hst;obtain⟨stu,es,hm,hc,rfl,hI⟩:=hst;simp only[go_sem,f35,f36,dS (nLi _)];refine (CG gl .junk op n _ _ _ _ m es b hc (by omega) _ (b_ _ _ _)).mono ?_;rintro _ _ rfl;simp only[go_sem,eN];refine c_ (.inl ⟨rfl,stu,_,hm,hc.dec,rfl,?_⟩);rw[lLa,<- gO];exact hI
def CH:∀(k:Nat)(t:Fm),SizeOf.sizeOf t<k->VF gl t
 | 0,f,h=>by omega
 | k+1,.mk o n us sub,h=>Kv gl o n us sub (λa D=>CH k a (by
   have:=lSm D;simp at h;omega))
def Kw (t:Fm):VF gl t:=CH gl _ t (eS _)
def oI (f:Fm):List ByteArray:=mR (λ_=>0) f
def uo (f:Fm)(x:IV)(hx:IsFm f x)(hs:f.size<=4611686018427387904)(I:Nat->ISt->Prop):IterC prog gl 194 [] [.cptr x] (seqX (lT (oI f))) (oI f).length I:=by
 obtain⟨o,n,us,sub⟩:=f;obtain⟨t1,x1,t2,x2,rfl,_⟩:=hx.mk;rintro y I' S' st ⟨g,fi,ca,rfl,J,G⟩ _ hy h0;change ICall prog gl _ [.fn g fi ca,_] st _;refine iI func194 ?_;simp only[go_sem,zE,zA,reduceCtorEq,fits];refine λm=>d_ λhm=>?_;refine (Kw gl _ _ hx g fi ca J G I' S' 0 (λ_=>0) (λs=>by omega) (YOk.of gl hy) m _ ⟨st,[],hm,CntOk.nil,rfl,h0⟩).mono ?_;rintro _ st' h;simp only[go_sem];have D:∀(stu:ISt) (es:List (Value×IV)),stu m=none->subSt stu (stu.put m (some (.map .str es))):=λstu es h=>fb h;rw[dY] at h;rcases h with⟨_,stu,es,E,_,rfl,O⟩|⟨_,stu,es,E,_,rfl,O⟩
 ·exact eI (D stu es E) (.inl O)
 ·exact eI (D stu es E) (.inr O)
