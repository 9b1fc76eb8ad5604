/- Walks: iterators over names; sets. -/
import Derived.Test.YtdbmgeebmfpmpaaGreatDoorJN
set_option linter.all false
open Nat renaming reduceEqDiff → zE,reduceBEq → zB,reduceAdd → zA,reduceLeDiff → zL
namespace Go.Proofs.Tryz
open Go Go.Iv
set_option maxRecDepth 4000
variable (gl:Nat->Option IV)
def isQ (op:Nat):Bool:=decide (op=8) || decide (op=9)
theorem yJ2 (op:Nat)(n:ByteArray)(t t':Tag)(xs ys:List IV)(st:ISt) :
  ICall prog gl 170 [.agg [.raw (.int .u8 op),.raw (.string n),.sl t xs,.sl t' ys]] st (λx st'=>x=.raw (.bool (isQ op))/\st'=st):=by
 refine iI func170 ?_;by_cases h8:op=8
 ·simp only[go_sem,zE,zA,show decide ((op:Int)=8)=true from dEt (by omega)];exact yQ0 ⟨by simp[isQ,h8],rfl⟩
 ·simp only[go_sem,zE,zA,show decide ((op:Int)=8)=false from dEf (by omega)];exact yQ0 ⟨by
   congr 2;by_cases h9:op=9
   ·simp[isQ,h9]
   ·rw[dEf (by omega)];simp[isQ,h8,h9],rfl⟩
theorem xZw (t:Tm)(x:IV)(hx:IsTm t x)(st:ISt):ICall prog gl 221 [x] st (λr st'=>r=.fn (.func 250) [] [.cptr x]/\st'=st):=by
 obtain⟨v,n,us⟩:=t;obtain⟨tg,xs,rfl,htg,hxs⟩:=hx.mk;refine ICall.intro (c:=cf prog gl [] [] [1]) func221 rfl (by show _<=4;simp) (by kernel_rfl) ?_;simp only[go_sem,zE];exact yQ0 ⟨rfl,rfl⟩
theorem yWr (f:Fm)(x:IV)(hx:IsFm f x)(st:ISt):ICall prog gl 162 [x] st (λr st'=>r=.fn (.func 190) [] [.cptr x]/\st'=st):=by
 obtain⟨o,n,us,sub⟩:=f;obtain⟨t1,x1,t2,x2,rfl,_⟩:=hx.mk;refine ICall.intro (c:=cf prog gl [] [] [1]) func162 rfl (by show _<=4;simp) (by kernel_rfl) ?_;simp only[go_sem,zE];exact yQ0 ⟨rfl,rfl⟩
def zKz (l:List ByteArray):List (List IV):=l.map λs=>[.raw (.string s)]
theorem YOk.of {y:IV}{I:Nat->ISt->Prop}{S:ISt->Prop}{l:List ByteArray}(h:wKc prog gl y (seqX (zKz l)) I S):YOk gl y I S 0 l:=λi nm stu hi hI=>by
 have:=h i [.raw (.string nm)] stu (by simp[seqX,zKz,hi]) (by simpa using hI);rw[Nat.zero_add];exact this
theorem zUf (t:Tm)(x:IV)(hx:IsTm t x)(I:Nat->ISt->Prop):IterC prog gl 250 [] [.cptr x] (seqX (zKz (yZ1 t))) (yZ1 t).length I:=by
 obtain⟨v,n,us⟩:=t;obtain⟨tg,xs,rfl,htg,hxs⟩:=hx.mk;rintro y I' S' st ⟨f,fi,ca,rfl,hfn,hent⟩ _ hy h0;change ICall prog gl _ [.fn f fi ca,_] st _;refine iI func250 ?_;simp only[go_sem,zE,zA,reduceCtorEq,fits];refine (zJ0 gl _ _ hx f fi ca hfn hent I' S' 0 (YOk.of gl hy) st h0).mono ?_;rintro _ st' h;simp only[go_sem];refine yQ0 ?_;rw[Nat.zero_add] at h;exact h.imp And.right And.right
def setE (l:List ByteArray):List (Value×IV):=l.foldl (λes s=>updI (.string s) (.raw (.bool true)) es) []
theorem wV5 (g:FuncId)(caps:List IV)(l:List ByteArray)(st:ISt)(he:entI prog g=true)(hi:∀I,IterC prog gl g [] caps (seqX (zKz l)) l.length I) :
  ICall prog gl 161 [.fn (.func g) [] caps] st (λr st'=>∃m,st m=none/\r=.raw (.map (some m))/\st'=st.put m (some (.map .str (setE l)))):=by
 refine ICall.intro (c:=cf prog gl [3] []) func161 rfl (by show _<=11;simp) (by kernel_rfl) ?_;simp only[go_sem,zE,zL,reduceCtorEq];refine λm=>yQ9 λhm=>λb=>yQ9 λhb=>?_;have hbm:b≠m:=by rintro rfl;rw[ISt.put_same] at hb;cases hb
 have key:∀k,((st.put m (some (.map .str (setE (l.take k))))).put b (some (.box [.raw (.map (some m))]))) m=some (.map .str (setE (l.take k))):=λk=>by
  rw[yQ7 (λh=>hbm h.symm),ISt.put_same]
 refine RangeC.intro (seqX (zKz l)) l.length (λk st'=>st'=(st.put m (some (.map .str (setE (l.take k))))).put b (some (.box [.raw (.map (some m))]))) (λ_ _=>False) he ?_ ?_ ?_ (hi _) ?_ (λ_ _ _ h=>h.elim)
 ·intro k a ha;simp only[seqX,zKz,List.getElem?_map,Option.map_eq_some_iff] at ha;obtain⟨s,_,rfl⟩:=ha;rfl
 ·rw[yQ6];rfl
 ·rintro k a _ hk rfl;simp only[seqX,zKz,List.getElem?_map,Option.map_eq_some_iff] at hk;obtain⟨s,hs,rfl⟩:=hk;simp only[go_sem,zE,ISt.put_same,key k];have hst:∀es',((st.put m (some (.map .str (setE (l.take k))))).put b (some (.box [.raw (.map (some m))]))).put m (some (.map .str es'))=(st.put m (some (.map .str es'))).put b (some (.box [.raw (.map (some m))])):=λes'=>by
   funext c;simp only[ISt.put_apply];by_cases h1:c=m
   ·rw[if_pos h1,if_neg (λh=>hbm (by rw[<- h,h1])),if_pos h1]
   ·rw[if_neg h1,if_neg h1,if_neg h1]
  rw[hst,yQ8 hs];simp only[setE,List.foldl_append,List.foldl_cons,List.foldl_nil]
 ·rintro _ r rfl;simp only[go_sem,zE,ISt.put_same];refine yQg (st':=st.put m (some (.map .str (setE l)))) ?_ ⟨m,hm,rfl,rfl⟩;simp only[lTl];exact yQh (by rw[yQ7 hbm];rw[yQ7 hbm] at hb;exact hb)
end Go.Proofs.Tryz
namespace Go.Proofs.Tryz
open Go Go.Iv
set_option maxRecDepth 4000
def incB (b:ByteArray->Nat)(n:ByteArray):ByteArray->Nat:=λs=>if s=n then b s+1 else b s
def yK0 (b:ByteArray->Nat)(l:List ByteArray):List ByteArray:=l.filter λs=>b s == 0
mutual
def zQa (b:ByteArray->Nat):Fm->List ByteArray
 | .mk op n l sub=>yK0 b (yQr l)++yZu (if isQ op then incB b n else b) sub
def yZu (b:ByteArray->Nat):List Fm->List ByteArray
 | []=>[]
 | a::l=>zQa b a++yZu b l
end
theorem yXx (b:ByteArray->Nat):∀(l m:List Fm),yZu b (l++m)=yZu b l++yZu b m
 | [],m=>by simp[yZu]
 | a::l,m=>by simp only[List.cons_append,yZu,yXx b l m,List.append_assoc]
theorem yXe (b:ByteArray->Nat)(l m:List ByteArray):yK0 b (l++m)=yK0 b l++yK0 b m:=by simp[yK0]
theorem wXs {b:ByteArray->Nat}{l:List ByteArray}{i:Nat}{nm:ByteArray}(h:l[i]?=some nm)(hb:b nm=0):(yK0 b l)[(yK0 b (l.take i)).length]?=some nm:=by
 have:l=l.take i++(nm::l.drop (i+1)):=by
  have hlt:=(lGs h).1
  conv=>lhs;rw[<- List.take_append_drop i l,List.drop_eq_getElem_cons hlt]
  rw[(lGs h).2]
 conv=>lhs;arg 1;rw[this]
 rw[yXe,List.getElem?_append_right (Nat.le_refl _)];simp[yK0,hb]
def CntOk (es:List (Value×IV))(b:ByteArray->Nat):Prop:=∀s,(yXy (.string s) es).getD (.raw (.int .i64 0))=.raw (.int .i64 (b s))
theorem CntOk.nil:CntOk [] (λ_=>0):=λ_=>rfl
theorem yGc (s n:ByteArray)(v:IV):∀es:List (Value×IV),yXy (.string s) (updI (.string n) v es)=if s=n then some v else yXy (.string s) es
 | []=>by
  simp only[updI,yXy,yKt];by_cases h:s=n<;>simp[h]
 | (x,u)::es=>by
  simp only[updI];by_cases hk:yKt (.string n) x=true
  ·have hx:x=.string n:=by
    cases x<;>simp[yKt] at hk;rw[hk]
   subst hx;rw[if_pos hk];simp only[yXy,yKt];by_cases h:s=n<;>simp[h]
  ·rw[if_neg hk];simp only[yXy];rw[yGc s n v es];by_cases h:s=n
   ·subst h;simp[hk]
   ·simp[h]
theorem CntOk.inc {es:List (Value×IV)}{b:ByteArray->Nat}(h:CntOk es b)(n:ByteArray):CntOk (updI (.string n) (.raw (.int .i64 ((b n+1:Nat):Int))) es) (incB b n):=λs=>by
 rw[yGc];unfold incB;by_cases hs:s=n
 ·subst hs;simp
 ·simp only[if_neg hs];exact h s
theorem CntOk.dec {es:List (Value×IV)}{b:ByteArray->Nat}{n:ByteArray}(h:CntOk es (incB b n)):CntOk (updI (.string n) (.raw (.int .i64 (b n))) es) b:=λs=>by
 rw[yGc];by_cases hs:s=n
 ·subst hs;simp
 ·have:=h s;simp only[incB,if_neg hs] at this;simp only[if_neg hs];exact this
theorem CntOk.look {es:List (Value×IV)}{b:ByteArray->Nat}(h:CntOk es b)(s:ByteArray):zX3 false (yXy (.string s) es) (.raw (.int .i64 0))=some (.raw (.int .i64 (b s))):=by
 rw[<- h s];rfl
variable (gl:Nat->Option IV)
theorem ICallV.put {y:IV}{args:List IV}{stu:ISt}{K:IV->ISt->Prop}(h:ICallV prog gl y args stu K){m:Nat}(hm:stu m=none)(o:IObj) :
  ICallV prog gl y args (stu.put m (some o)) (λx st'=>∃stu',stu' m=none/\st'=stu'.put m (some o)/\K x stu'):=by
 have hj:∀s:ISt,join s (λc=>if c=m then some o else none)=s.put m (some o):=λs=>by
  funext c;simp only[join,ISt.put_apply];by_cases hc:c=m
  ·simp[hc]
  ·simp[hc]
 have hd:disj stu (λc=>if c=m then some o else none):=λc hc=>by
  by_cases h1:c=m
  ·rw[h1];exact hm
  ·simp[h1] at hc
 have:=h.frame hd;rw[hj] at this;refine this.mono ?_;rintro x st' ⟨stu',hd',rfl,hK⟩;exact⟨stu',hd' m (by simp),hj _,hK⟩
theorem zU8 (nm:ByteArray)(m:Nat)(es:List (Value×IV))(b:ByteArray->Nat)(hc:CntOk es b)(f:Fn)(fi ca:List IV)(hfn:fnOk f=true)(hent:∀g,f=.func g->entI prog g=true)(st:ISt)(hm:st m=some (.map .str es))
  (K:IV->ISt->Prop) (h1:0<b nm->K (.raw (.bool true)) st) (h2:b nm=0->ICallV prog gl (.fn f fi ca) [.raw (.string nm)] st (λr st'=>(r=.raw (.bool true)\/r=.raw (.bool false))/\K r st')) :
  ICall prog gl 231 [.raw (.string nm),.cptr (.raw (.map (some m))),.cptr (.fn f fi ca)] st K:=by
 refine iI func231 ?_;by_cases hb:b nm=0
 ·simp only[go_sem,zE,reduceCtorEq,fits,hm,hc.look nm,hb,show decide ((0:Int)<((0:Nat):Int))=false from rfl];refine yZ2 hent ((h2 hb).mono ?_);rintro _ st (⟨rfl|rfl,hK⟩)
  ·simp only[go_sem,zE];exact yQ0 hK
  ·simp only[go_sem,zE];exact yQ0 hK
 ·simp only[go_sem,zE,reduceCtorEq,fits,hm,hc.look nm,show decide ((0:Int)<((b nm:Nat):Int))=true from dEt (by omega)];exact yQ0 (h1 (by omega))
theorem zZn (x:IV)(op:Nat)(n:ByteArray)(t t':Tag)(xs ys:List IV)(m:Nat)(es:List (Value×IV))(b:ByteArray->Nat)(hc:CntOk es (incB b n))(hbd:b n<=4611686018427387904)(st:ISt)(hm:st m=some (.map .str es)) :
  ICallD prog gl 233 [.cptr (.raw (.map (some m))),.cptr (.agg [.raw (.int .u8 op),.raw (.string n),.sl t xs,.sl t' ys])] st
   (λ_ st'=>st'=st.put m (some (.map .str (updI (.string n) (.raw (.int .i64 (b n))) es)))):=by
 refine ICallD.intro (c:=cf prog gl [] []) func233 rfl (by show _<=7;simp) (by kernel_rfl) ?_;have hw:IntKind.i64.wrap (((incB b n n:Nat):Int)-1)=(b n:Int):=by rw[w64]<;>simp[incB]<;>omega
 simp only[go_sem,zE,fits,hm,hc.look n,hw];exact yQ0 rfl
end Go.Proofs.Tryz
namespace Go.Proofs.Tryz
open Go Go.Iv
set_option maxRecDepth 4000
variable (gl:Nat->Option IV)
def yY3 (m:Nat)(b:ByteArray->Nat)(P:ISt->Prop)(st:ISt):Prop:=∃stu es,stu m=none/\CntOk es b/\st=stu.put m (some (.map .str es))/\P stu
def uWp (I:Nat->ISt->Prop)(S:ISt->Prop)(m:Nat)(b:ByteArray->Nat)(k:Nat)(r:IV)(st':ISt):Prop:=(r=.raw (.bool true)/\yY3 m b (I k) st')\/(r=.raw (.bool false)/\yY3 m b S st')
theorem vQk {f:Fn}{fi ca:List IV}(hfn:fnOk f=true)(hent:∀g,f=.func g->entI prog g=true){I:Nat->ISt->Prop}{S:ISt->Prop}{k1:Nat}{b:ByteArray->Nat}{l:List ByteArray}(hy:YOk gl (.fn f fi ca) I S k1 (yK0 b l))(m:Nat) :
  YOk gl (.fn (.func 231) [] [.cptr (.raw (.map (some m))),.cptr (.fn f fi ca)]) (λi=>yY3 m b (I (k1+(yK0 b (l.take i)).length))) (yY3 m b S) 0 l:=by
 rintro i nm st hi ⟨stu,es,hm,hc,rfl,hI⟩;simp only[Nat.zero_add] at hI ⊢;refine ICallV.of_ICall (by simp only[go_sem]) (zU8 gl nm m es b hc f fi ca hfn hent _ (ISt.put_same _ _ _) _ (λhb=>?_) (λhb=>?_))
 ·refine .inl ⟨rfl,stu,es,hm,hc,rfl,?_⟩;rw[yQ8 hi,yXe];have:yK0 b [nm]=[]:=by simp[yK0];omega
  rw[this,List.append_nil];exact hI
 ·refine (ICallV.put gl (hy _ nm stu (wXs hi hb) hI) hm _).mono ?_;rintro r st' ⟨stu',hm',rfl,h|h⟩
  ·refine⟨.inl h.1,.inl ⟨h.1,stu',es,hm',hc,rfl,?_⟩⟩;rw[yQ8 hi,yXe];have:yK0 b [nm]=[nm]:=by simp[yK0,hb]
   rw[this,lLa,<- Nat.add_assoc];exact h.2
  ·exact⟨.inr h.1,.inr ⟨h.1,stu',es,hm',hc,rfl,h.2⟩⟩
def VF (f:Fm):Prop:=∀(x:IV) (_:IsFm f x) (g:Fn) (fi ca:List IV) (_:fnOk g=true) (_:∀i,g=.func i->entI prog i=true) (I:Nat->ISt->Prop) (S:ISt->Prop) (k0:Nat) (b:ByteArray->Nat)
  (_:∀s,b s+f.size<=4611686018427387904) (_:YOk gl (.fn g fi ca) I S k0 (zQa b f)) (m:Nat) (st:ISt) (_:yY3 m b (I k0) st),
  ICall prog gl 191 [x,.raw (.map (some m)),.fn g fi ca] st (uWp I S m b (k0+(zQa b f).length))
theorem zVa (op:Nat)(n:ByteArray)(us:List Tm)(sub:List Fm)(IH:∀a∈sub,VF gl a):VF gl (.mk op n us sub):=by
 intro x hx g fi ca hfn hent I S k0 b hbd hy m st hst;obtain⟨tg,xs,tg',ys,rfl,hop,htg,hxs,htg',hys⟩:=hx.mk;obtain⟨stu,es,hm,hc,rfl,hI⟩:=hst;simp only[zQa] at hy ⊢;have hy1:=YOk.left gl hy;have hy2:=YOk.right gl hy;refine ICall.intro (c:=cf prog gl [] [] [3,4,5]) func191 rfl (by show _<=46;simp) (by kernel_rfl) ?_;simp only[go_sem,zE,hxs.len,fits];intro hlen;refine LoopC.ctr us.length (λk fr st' ds=>yY3 m b (I (k0+(yK0 b (yQr (us.take k))).length)) st'/\fr 3=.iv (.cptr (.agg [.raw (.int .u8 op),.raw (.string n),.sl tg xs,.sl tg' ys]))/\fr 4=.iv (.cptr (.raw (.map (some m)))) /\
  fr 5=.iv (.cptr (.fn g fi ca))/\fr 7=.iv (.fn (.func 231) [] [.cptr (.raw (.map (some m))),.cptr (.fn g fi ca)])/\fr 14=.iv (.sl tg xs)/\fr 15=.iv (.raw (.int .i64 us.length))/\fr 16=.iv (.raw (.int .i64 k))/\ds=[]) ?_ ?_ ?_
 ·simp only[go_sem,zE];exact⟨⟨stu,es,hm,hc,rfl,by simpa[yQr,yK0] using hI⟩,rfl⟩
 ·rintro k fr st ds hlt ⟨hst,f3,f4,f5,f7,f14,f15,f16,rfl⟩;obtain⟨a,ha⟩:=yQ1 hlt;obtain⟨x,hkx,hx⟩:=hxs.get ha;have hsplit:yQr us=yQr (us.take k)++(yZ1 a++yQr (us.drop (k+1))):=by
   conv=>lhs;rw[<- List.take_append_drop k us,List.drop_eq_getElem_cons hlt]
   rw[yXo,(lGs ha).2];rfl
  have hya:=hy1;rw[hsplit,yXe,yXe] at hya;have hfo:=vQk gl hfn hent (YOk.left gl (YOk.right gl hya)) m;have hcall:=zJ0 gl a x hx _ _ _ rfl (λi hi=>by cases hi;simp only[go_sem]) _ _ 0 hfo st (by simpa[yK0] using hst);obtain⟨v2,n2,m2⟩:=a;obtain⟨tx,cx,rfl,_⟩:=hx.mk;simp only[go_sem,zE,zA,zL,f7,f14,f15,f16,lt_i hlt,yQ4 htg,iNn,hkx];refine hcall.mono ?_;rintro _ st (⟨rfl,h⟩|⟨rfl,h⟩)
  ·simp only[go_sem,zE,f3,f4,f5,f7,f14,f15,f16,yQd hlt (show us.length<=281474976710656 by omega)];rw[yQ8 ha,yXo,yXe,lLa,<- Nat.add_assoc];simpa[yQr,lTl] using h
  ·simp only[go_sem];exact yQ0 (.inr ⟨rfl,h⟩)
 ·rintro fr st ds ⟨hst,f3,f4,f5,f7,f14,f15,f16,rfl⟩;rw[lTl] at hst;obtain⟨stu,es,hm,hc,rfl,hI⟩:=hst;simp only[go_sem,zE,zA,f3,f15,f16,yQl (nLi _),fits];refine (yJ2 gl op n _ _ _ _ _).mono ?_;rintro _ _ ⟨rfl,rfl⟩;cases hq:isQ op
  ·rw[hq] at hy2;simp only[bFt,if_false] at hy2 ⊢;simp only[go_sem,zE,f3,fits,hys.len];intro hlen2;refine LoopC.ctr sub.length (λk fr st' ds=>yY3 m b (I (k0+(yK0 b (yQr us)).length+(yZu b (sub.take k)).length)) st'/\fr 4=.iv (.cptr (.raw (.map (some m)))) /\
    fr 5=.iv (.cptr (.fn g fi ca))/\fr 34=.iv (.sl tg' ys)/\fr 35=.iv (.raw (.int .i64 sub.length))/\fr 36=.iv (.raw (.int .i64 k))/\ds=[]) ?_ ?_ ?_
   ·simp only[go_sem,zE,f4,f5];exact⟨⟨stu,es,hm,hc,rfl,by simpa[yZu] using hI⟩,rfl⟩
   ·rintro k fr st ds hlt ⟨hst,f4,f5,f34,f35,f36,rfl⟩;obtain⟨a,ha⟩:=yQ1 hlt;obtain⟨x,hkx,hx⟩:=hys.get ha;obtain⟨hs1,hs2⟩:=yZ6 ha;have hsplit:yZu b sub=yZu b (sub.take k)++(zQa b a++yZu b (sub.drop (k+1))):=by
     conv=>lhs;rw[<- List.take_append_drop k sub,List.drop_eq_getElem_cons hlt]
     rw[yXx,(lGs ha).2];rfl
    have hya:=hy2;rw[hsplit] at hya;have hcall:=IH a (lMg ha) x hx g fi ca hfn hent I S _ b (λs=>by have:=hbd s;simp only[Fm.size] at this;omega) (YOk.left gl (YOk.right gl hya)) m st hst;obtain⟨o2,n2,u2,s2⟩:=a;obtain⟨t3,x3,t4,x4,rfl,_⟩:=hx.mk;simp only[go_sem,zE,zB,zA,zL,f4,f5,f34,f35,f36,lt_i hlt,yQ4 htg',iNn,hkx,fits];refine hcall.mono ?_;rintro _ st (⟨rfl,h⟩|⟨rfl,h⟩)
    ·simp only[go_sem,zE,f4,f5,f34,f35,f36,yQd hlt (show sub.length<=281474976710656 by omega)];rw[yQ8 ha,yXx,lLa,<- Nat.add_assoc];simpa[yZu] using h
    ·simp only[go_sem];exact yQ0 (.inr ⟨rfl,h⟩)
   ·rintro fr st ds ⟨hst,f4,f5,f34,f35,f36,rfl⟩;simp only[go_sem,f35,f36,yQl (nLi _)];rw[lTl] at hst;refine yQ0 (.inl ⟨rfl,?_⟩);rw[lLa,<- Nat.add_assoc];exact hst
  ·rw[hq] at hy2;simp only[if_true] at hy2 ⊢;have hbn:=hbd n;simp only[Fm.size] at hbn;have hw:IntKind.i64.wrap (((b n:Nat):Int)+1)=((b n+1:Nat):Int):=by rw[w64]<;>omega
   simp only[go_sem,zE,reduceCtorEq,f3,f4,fits,hys.len,ISt.put_same,hc.look n,hw,yQ6];intro hlen2;have hc':=hc.inc n;refine LoopC.ctr sub.length (λk fr st' ds=>yY3 m (incB b n) (I (k0+(yK0 b (yQr us)).length+(yZu (incB b n) (sub.take k)).length)) st'/\fr 4=.iv (.cptr (.raw (.map (some m)))) /\
    fr 5=.iv (.cptr (.fn g fi ca))/\fr 34=.iv (.sl tg' ys)/\fr 35=.iv (.raw (.int .i64 sub.length))/\fr 36=.iv (.raw (.int .i64 k)) /\
    ds=[.call (.func 233) [.cptr (.raw (.map (some m))),.cptr (.agg [.raw (.int .u8 op),.raw (.string n),.sl tg xs,.sl tg' ys])] []]) ?_ ?_ ?_
   ·simp only[go_sem,zE,f4,f5];exact⟨⟨stu,_,hm,hc',rfl,by simpa[yZu] using hI⟩,rfl⟩
   ·rintro k fr st ds hlt ⟨hst,f4,f5,f34,f35,f36,rfl⟩;obtain⟨a,ha⟩:=yQ1 hlt;obtain⟨x,hkx,hx⟩:=hys.get ha;obtain⟨hs1,hs2⟩:=yZ6 ha;have hsplit:yZu (incB b n) sub=yZu (incB b n) (sub.take k)++(zQa (incB b n) a++yZu (incB b n) (sub.drop (k+1))):=by
     conv=>lhs;rw[<- List.take_append_drop k sub,List.drop_eq_getElem_cons hlt]
     rw[yXx,(lGs ha).2];rfl
    have hya:=hy2;rw[hsplit] at hya;have hcall:=IH a (lMg ha) x hx g fi ca hfn hent I S _ (incB b n) (λs=>by have:=hbd s;simp only[Fm.size] at this;simp only[incB];split<;>omega) (YOk.left gl (YOk.right gl hya)) m st hst;obtain⟨o2,n2,u2,s2⟩:=a;obtain⟨t3,x3,t4,x4,rfl,_⟩:=hx.mk;simp only[go_sem,zE,zB,zA,zL,f4,f5,f34,f35,f36,lt_i hlt,yQ4 htg',iNn,hkx,fits];refine hcall.mono ?_;rintro _ st (⟨rfl,h⟩|⟨rfl,h⟩)
    ·simp only[go_sem,zE,f4,f5,f34,f35,f36,yQd hlt (show sub.length<=281474976710656 by omega)];rw[yQ8 ha,yXx,lLa,<- Nat.add_assoc];simpa[yZu] using h
    ·obtain⟨stu,es,hm,hc,rfl,hS⟩:=h;simp only[go_sem];refine (zZn gl .junk op n _ _ _ _ m es b hc (by omega) _ (ISt.put_same _ _ _)).mono ?_;rintro _ _ rfl;simp only[go_sem,yQ6];exact yQ0 (.inr ⟨rfl,stu,_,hm,hc.dec,rfl,hS⟩)
   ·rintro fr st ds ⟨hst,f4,f5,f34,f35,f36,rfl⟩;rw[lTl] at hst;obtain⟨stu,es,hm,hc,rfl,hI⟩:=hst;simp only[go_sem,f35,f36,yQl (nLi _)];refine (zZn gl .junk op n _ _ _ _ m es b hc (by omega) _ (ISt.put_same _ _ _)).mono ?_;rintro _ _ rfl;simp only[go_sem,yQ6];refine yQ0 (.inl ⟨rfl,stu,_,hm,hc.dec,rfl,?_⟩);rw[lLa,<- Nat.add_assoc];exact hI
theorem yUk:∀(k:Nat)(t:Fm),SizeOf.sizeOf t<k->VF gl t
 | 0,f,h=>by omega
 | k+1,.mk o n us sub,h=>zVa gl o n us sub (λa ha=>yUk k a (by
   have:=lSm ha;simp at h;omega))
theorem xZr (t:Fm):VF gl t:=yUk gl _ t (Nat.lt_succ_self _)
def xJh (f:Fm):List ByteArray:=zQa (λ_=>0) f
theorem yVc (f:Fm)(x:IV)(hx:IsFm f x)(hs:f.size<=4611686018427387904)(I:Nat->ISt->Prop):IterC prog gl 190 [] [.cptr x] (seqX (zKz (xJh f))) (xJh f).length I:=by
 obtain⟨o,n,us,sub⟩:=f;obtain⟨t1,x1,t2,x2,rfl,_⟩:=hx.mk;rintro y I' S' st ⟨g,fi,ca,rfl,hfn,hent⟩ _ hy h0;change ICall prog gl _ [.fn g fi ca,_] st _;refine iI func190 ?_;simp only[go_sem,zE,zA,reduceCtorEq,fits];refine λm=>yQ9 λhm=>?_;refine (xZr gl _ _ hx g fi ca hfn hent I' S' 0 (λ_=>0) (λs=>by omega) (YOk.of gl hy) m _ ⟨st,[],hm,CntOk.nil,rfl,h0⟩).mono ?_;rintro _ st' h;simp only[go_sem];have hsub:∀(stu:ISt) (es:List (Value×IV)),stu m=none->subSt stu (stu.put m (some (.map .str es))):=λstu es h=>yQh h;rw[Nat.zero_add] at h;rcases h with⟨_,stu,es,hm',_,rfl,hI⟩|⟨_,stu,es,hm',_,rfl,hI⟩
 ·exact yQg (hsub stu es hm') (.inl hI)
 ·exact yQg (hsub stu es hm') (.inr hI)
