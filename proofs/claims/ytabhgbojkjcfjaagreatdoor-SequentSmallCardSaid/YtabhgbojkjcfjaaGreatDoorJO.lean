/- Walks: iterators over names; sets. -/
import Derived.Test.YtabhgbojkjcfjaaGreatDoorJN
set_option linter.all false
open Nat renaming reduceEqDiff → zE,reduceBEq → zB,reduceAdd → zA,reduceLeDiff → zL
namespace Go.Proofs.Tryz
open Go Go.Iv
set_option maxRecDepth 4000
variable (gl:Nat->Option IV)
def isQ (op:Nat):Bool:=decide (op=8) || decide (op=9)
theorem yJs (op:Nat)(n:ByteArray)(t F:Tag)(E ys:List IV)(st:ISt) :
  ICall prog gl 236 [.agg [.raw (.int .u8 op),.raw (.string n),.sl t E,.sl F ys]] st (λx st'=>x=.raw (.bool (isQ op))/\st'=st):=by
 refine iI func236 ?_;by_cases D:op=8
 ·simp only[go_sem,zE,zA,show decide ((op:Int)=8)=true from dEt (by omega)];exact yQ0 ⟨by simp[isQ,D],rfl⟩
 ·simp only[go_sem,zE,zA,show decide ((op:Int)=8)=false from dEf (by omega)];exact yQ0 ⟨by
   congr 2;by_cases A:op=9
   ·simp[isQ,A]
   ·rw[dEf (by omega)];simp[isQ,D,A],rfl⟩
theorem xKg (t:Tm)(x:IV)(D:IsTm t x)(st:ISt):ICall prog gl 292 [x] st (λr st'=>r=.fn (.func 318) [] [.cptr x]/\st'=st):=by
 obtain⟨v,n,us⟩:=t;obtain⟨G,F,rfl,E,A⟩:=D.mk;refine ICall.intro (c:=cf prog gl [] [] [1]) func292 rfl (by show _<=4;simp) (by kernel_rfl) ?_;simp only[go_sem,zE];exact yQ0 ⟨rfl,rfl⟩
theorem yG2 (f:Fm)(x:IV)(A:IsFm f x)(st:ISt):ICall prog gl 172 [x] st (λr st'=>r=.fn (.func 231) [] [.cptr x]/\st'=st):=by
 obtain⟨o,n,us,sub⟩:=f;obtain⟨t1,E,t2,D,rfl,_⟩:=A.mk;refine ICall.intro (c:=cf prog gl [] [] [1]) func172 rfl (by show _<=4;simp) (by kernel_rfl) ?_;simp only[go_sem,zE];exact yQ0 ⟨rfl,rfl⟩
def zWi (l:List ByteArray):List (List IV):=l.map λs=>[.raw (.string s)]
theorem YOk.of {y:IV}{I:Nat->ISt->Prop}{S:ISt->Prop}{l:List ByteArray}(h:wVg prog gl y (seqX (zWi l)) I S):YOk gl y I S 0 l:=λi nm stu A D=>by
 have:=h i [.raw (.string nm)] stu (by simp[seqX,zWi,A]) (by simpa using D);rw[Nat.zero_add];exact this
theorem xZj (t:Tm)(x:IV)(E:IsTm t x)(I:Nat->ISt->Prop):IterC prog gl 318 [] [.cptr x] (seqX (zWi (yQo t))) (yQo t).length I:=by
 obtain⟨v,n,us⟩:=t;obtain⟨tg,W,rfl,O,J⟩:=E.mk;rintro y I' S' st ⟨f,F,ca,rfl,D,A⟩ _ G U;change ICall prog gl _ [.fn f F ca,_] st _;refine iI func318 ?_;simp only[go_sem,zE,zA,reduceCtorEq,fits];refine (zKj gl _ _ E f F ca D A I' S' 0 (YOk.of gl G) st U).mono ?_;rintro _ st' h;simp only[go_sem];refine yQ0 ?_;rw[Nat.zero_add] at h;exact h.imp And.right And.right
def setE (l:List ByteArray):List (Value×IV):=l.foldl (λes s=>updI (.string s) (.raw (.bool true)) es) []
theorem wW2 (g:FuncId)(D:List IV)(l:List ByteArray)(st:ISt)(he:entI prog g=true)(hi:∀I,IterC prog gl g [] D (seqX (zWi l)) l.length I) :
  ICall prog gl 171 [.fn (.func g) [] D] st (λr st'=>∃m,st m=none/\r=.raw (.map (some m))/\st'=st.put m (some (.map .str (setE l)))):=by
 refine ICall.intro (c:=cf prog gl [3] []) func171 rfl (by show _<=11;simp) (by kernel_rfl) ?_;simp only[go_sem,zE,zL,reduceCtorEq];refine λm=>yQd λW=>λb=>yQd λF=>?_;have A:b≠m:=by rintro rfl;rw[ISt.put_same] at F;cases F
 have key:∀k,((st.put m (some (.map .str (setE (l.take k))))).put b (some (.box [.raw (.map (some m))]))) m=some (.map .str (setE (l.take k))):=λk=>by
  rw[yZ7 (λh=>A h.symm),ISt.put_same]
 refine RangeC.intro (seqX (zWi l)) l.length (λk st'=>st'=(st.put m (some (.map .str (setE (l.take k))))).put b (some (.box [.raw (.map (some m))]))) (λ_ _=>False) he ?_ ?_ ?_ (hi _) ?_ (λ_ _ _ h=>h.elim)
 ·intro k a O;simp only[seqX,zWi,List.getElem?_map,Option.map_eq_some_iff] at O;obtain⟨s,_,rfl⟩:=O;rfl
 ·rw[yQg];rfl
 ·rintro k a _ J rfl;simp only[seqX,zWi,List.getElem?_map,Option.map_eq_some_iff] at J;obtain⟨s,U,rfl⟩:=J;simp only[go_sem,zE,ISt.put_same,key k];have G:∀E,((st.put m (some (.map .str (setE (l.take k))))).put b (some (.box [.raw (.map (some m))]))).put m (some (.map .str E))=(st.put m (some (.map .str E))).put b (some (.box [.raw (.map (some m))])):=λE=>by
   funext c;simp only[ISt.put_apply];by_cases h1:c=m
   ·rw[if_pos h1,if_neg (λh=>A (by rw[<- h,h1])),if_pos h1]
   ·rw[if_neg h1,if_neg h1,if_neg h1]
  rw[G,yQ4 U];simp only[setE,List.foldl_append,List.foldl_cons,List.foldl_nil]
 ·rintro _ r rfl;simp only[go_sem,zE,ISt.put_same];refine yQc (st':=st.put m (some (.map .str (setE l)))) ?_ ⟨m,W,rfl,rfl⟩;simp only[lTl];exact yQe (by rw[yZ7 A];rw[yZ7 A] at F;exact F)
end Go.Proofs.Tryz
namespace Go.Proofs.Tryz
open Go Go.Iv
set_option maxRecDepth 4000
def incB (b:ByteArray->Nat)(n:ByteArray):ByteArray->Nat:=λs=>if s=n then b s+1 else b s
def yVi (b:ByteArray->Nat)(l:List ByteArray):List ByteArray:=l.filter λs=>b s == 0
mutual
def zZk (b:ByteArray->Nat):Fm->List ByteArray
 | .mk op n l sub=>yVi b (yQk l)++yXo (if isQ op then incB b n else b) sub
def yXo (b:ByteArray->Nat):List Fm->List ByteArray
 | []=>[]
 | a::l=>zZk b a++yXo b l
end
theorem yKb (b:ByteArray->Nat):∀(l m:List Fm),yXo b (l++m)=yXo b l++yXo b m
 | [],m=>by simp[yXo]
 | a::l,m=>by simp only[List.cons_append,yXo,yKb b l m,List.append_assoc]
theorem yJ7 (b:ByteArray->Nat)(l m:List ByteArray):yVi b (l++m)=yVi b l++yVi b m:=by simp[yVi]
theorem wK3 {b:ByteArray->Nat}{l:List ByteArray}{i:Nat}{nm:ByteArray}(h:l[i]?=some nm)(D:b nm=0):(yVi b l)[(yVi b (l.take i)).length]?=some nm:=by
 have:l=l.take i++(nm::l.drop (i+1)):=by
  have A:=(lGs h).1
  conv=>lhs;rw[<- List.take_append_drop i l,List.drop_eq_getElem_cons A]
  rw[(lGs h).2]
 conv=>lhs;arg 1;rw[this]
 rw[yJ7,List.getElem?_append_right (Nat.le_refl _)];simp[yVi,D]
def CntOk (es:List (Value×IV))(b:ByteArray->Nat):Prop:=∀s,(yVj (.string s) es).getD (.raw (.int .i64 0))=.raw (.int .i64 (b s))
theorem CntOk.nil:CntOk [] (λ_=>0):=λ_=>rfl
theorem yUo (s n:ByteArray)(v:IV):∀es:List (Value×IV),yVj (.string s) (updI (.string n) v es)=if s=n then some v else yVj (.string s) es
 | []=>by
  simp only[updI,yVj,yYg];by_cases h:s=n<;>simp[h]
 | (x,u)::es=>by
  simp only[updI];by_cases A:yYg (.string n) x=true
  ·have D:x=.string n:=by
    cases x<;>simp[yYg] at A;rw[A]
   subst D;rw[if_pos A];simp only[yVj,yYg];by_cases h:s=n<;>simp[h]
  ·rw[if_neg A];simp only[yVj];rw[yUo s n v es];by_cases h:s=n
   ·subst h;simp[A]
   ·simp[h]
theorem CntOk.inc {es:List (Value×IV)}{b:ByteArray->Nat}(h:CntOk es b)(n:ByteArray):CntOk (updI (.string n) (.raw (.int .i64 ((b n+1:Nat):Int))) es) (incB b n):=λs=>by
 rw[yUo];unfold incB;by_cases A:s=n
 ·subst A;simp
 ·simp only[if_neg A];exact h s
theorem CntOk.dec {es:List (Value×IV)}{b:ByteArray->Nat}{n:ByteArray}(h:CntOk es (incB b n)):CntOk (updI (.string n) (.raw (.int .i64 (b n))) es) b:=λs=>by
 rw[yUo];by_cases A:s=n
 ·subst A;simp
 ·have:=h s;simp only[incB,if_neg A] at this;simp only[if_neg A];exact this
theorem CntOk.look {es:List (Value×IV)}{b:ByteArray->Nat}(h:CntOk es b)(s:ByteArray):zYa false (yVj (.string s) es) (.raw (.int .i64 0))=some (.raw (.int .i64 (b s))):=by
 rw[<- h s];rfl
variable (gl:Nat->Option IV)
theorem ICallV.put {y:IV}{args:List IV}{stu:ISt}{K:IV->ISt->Prop}(h:ICallV prog gl y args stu K){m:Nat}(F:stu m=none)(o:IObj) :
  ICallV prog gl y args (stu.put m (some o)) (λx st'=>∃A,A m=none/\st'=A.put m (some o)/\K x A):=by
 have E:∀s:ISt,join s (λc=>if c=m then some o else none)=s.put m (some o):=λs=>by
  funext c;simp only[join,ISt.put_apply];by_cases hc:c=m
  ·simp[hc]
  ·simp[hc]
 have hd:disj stu (λc=>if c=m then some o else none):=λc hc=>by
  by_cases h1:c=m
  ·rw[h1];exact F
  ·simp[h1] at hc
 have:=h.frame hd;rw[E] at this;refine this.mono ?_;rintro x st' ⟨A,D,rfl,G⟩;exact⟨A,D m (by simp),E _,G⟩
theorem xZc (nm:ByteArray)(m:Nat)(es:List (Value×IV))(b:ByteArray->Nat)(hc:CntOk es b)(f:Fn)(G ca:List IV)(J:fnOk f=true)(A:∀g,f=.func g->entI prog g=true)(st:ISt)(D:st m=some (.map .str es))
  (K:IV->ISt->Prop) (h1:0<b nm->K (.raw (.bool true)) st) (h2:b nm=0->ICallV prog gl (.fn f G ca) [.raw (.string nm)] st (λr st'=>(r=.raw (.bool true)\/r=.raw (.bool false))/\K r st')) :
  ICall prog gl 273 [.raw (.string nm),.cptr (.raw (.map (some m))),.cptr (.fn f G ca)] st K:=by
 refine iI func273 ?_;by_cases E:b nm=0
 ·simp only[go_sem,zE,reduceCtorEq,fits,D,hc.look nm,E,show decide ((0:Int)<((0:Nat):Int))=false from rfl];refine yJz A ((h2 E).mono ?_);rintro _ st (⟨rfl|rfl,F⟩)
  ·simp only[go_sem,zE];exact yQ0 F
  ·simp only[go_sem,zE];exact yQ0 F
 ·simp only[go_sem,zE,reduceCtorEq,fits,D,hc.look nm,show decide ((0:Int)<((b nm:Nat):Int))=true from dEt (by omega)];exact yQ0 (h1 (by omega))
theorem zJ2 (x:IV)(op:Nat)(n:ByteArray)(t D:Tag)(A ys:List IV)(m:Nat)(es:List (Value×IV))(b:ByteArray->Nat)(hc:CntOk es (incB b n))(G:b n<=4611686018427387904)(st:ISt)(F:st m=some (.map .str es)) :
  ICallD prog gl 275 [.cptr (.raw (.map (some m))),.cptr (.agg [.raw (.int .u8 op),.raw (.string n),.sl t A,.sl D ys])] st
   (λ_ st'=>st'=st.put m (some (.map .str (updI (.string n) (.raw (.int .i64 (b n))) es)))):=by
 refine ICallD.intro (c:=cf prog gl [] []) func275 rfl (by show _<=7;simp) (by kernel_rfl) ?_;have E:IntKind.i64.wrap (((incB b n n:Nat):Int)-1)=(b n:Int):=by rw[w64]<;>simp[incB]<;>omega
 simp only[go_sem,zE,fits,F,hc.look n,E];exact yQ0 rfl
end Go.Proofs.Tryz
namespace Go.Proofs.Tryz
open Go Go.Iv
set_option maxRecDepth 4000
variable (gl:Nat->Option IV)
def yGf (m:Nat)(b:ByteArray->Nat)(P:ISt->Prop)(st:ISt):Prop:=∃stu es,stu m=none/\CntOk es b/\st=stu.put m (some (.map .str es))/\P stu
def uWl (I:Nat->ISt->Prop)(S:ISt->Prop)(m:Nat)(b:ByteArray->Nat)(k:Nat)(r:IV)(st':ISt):Prop:=(r=.raw (.bool true)/\yGf m b (I k) st')\/(r=.raw (.bool false)/\yGf m b S st')
theorem vZz {f:Fn}{U ca:List IV}(G:fnOk f=true)(E:∀g,f=.func g->entI prog g=true){I:Nat->ISt->Prop}{S:ISt->Prop}{W:Nat}{b:ByteArray->Nat}{l:List ByteArray}(hy:YOk gl (.fn f U ca) I S W (yVi b l))(m:Nat) :
  YOk gl (.fn (.func 273) [] [.cptr (.raw (.map (some m))),.cptr (.fn f U ca)]) (λi=>yGf m b (I (W+(yVi b (l.take i)).length))) (yGf m b S) 0 l:=by
 rintro i nm st F ⟨stu,es,hm,hc,rfl,O⟩;simp only[Nat.zero_add] at O ⊢;refine ICallV.of_ICall (by simp only[go_sem]) (xZc gl nm m es b hc f U ca G E _ (ISt.put_same _ _ _) _ (λJ=>?_) (λJ=>?_))
 ·refine .inl ⟨rfl,stu,es,hm,hc,rfl,?_⟩;rw[yQ4 F,yJ7];have:yVi b [nm]=[]:=by simp[yVi];omega
  rw[this,List.append_nil];exact O
 ·refine (ICallV.put gl (hy _ nm stu (wK3 F J) O) hm _).mono ?_;rintro r st' ⟨A,D,rfl,h|h⟩
  ·refine⟨.inl h.1,.inl ⟨h.1,A,es,D,hc,rfl,?_⟩⟩;rw[yQ4 F,yJ7];have:yVi b [nm]=[nm]:=by simp[yVi,J]
   rw[this,lLa,<- Nat.add_assoc];exact h.2
  ·exact⟨.inr h.1,.inr ⟨h.1,A,es,D,hc,rfl,h.2⟩⟩
def VF (f:Fm):Prop:=∀(x:IV) (_:IsFm f x) (g:Fn) (A ca:List IV) (_:fnOk g=true) (_:∀i,g=.func i->entI prog i=true) (I:Nat->ISt->Prop) (S:ISt->Prop) (k0:Nat) (b:ByteArray->Nat)
  (_:∀s,b s+f.size<=4611686018427387904) (_:YOk gl (.fn g A ca) I S k0 (zZk b f)) (m:Nat) (st:ISt) (_:yGf m b (I k0) st),
  ICall prog gl 232 [x,.raw (.map (some m)),.fn g A ca] st (uWl I S m b (k0+(zZk b f).length))
theorem zY0 (op:Nat)(n:ByteArray)(us:List Tm)(sub:List Fm)(IH:∀a∈sub,VF gl a):VF gl (.mk op n us sub):=by
 intro x hx g fi ca ag W I S k0 b ah hy m st A;obtain⟨tg,xs,ab,ys,rfl,aJ,aq,ak,ac,hys⟩:=hx.mk;obtain⟨stu,es,hm,hc,rfl,hI⟩:=A;simp only[zZk] at hy ⊢;have an:=YOk.left gl hy;have O:=YOk.right gl hy;refine ICall.intro (c:=cf prog gl [] [] [3,4,5]) func232 rfl (by show _<=46;simp) (by kernel_rfl) ?_;simp only[go_sem,zE,ak.len,fits];intro aB;refine LoopC.ctr us.length (λk fr st' ds=>yGf m b (I (k0+(yVi b (yQk (us.take k))).length)) st'/\fr 3=.iv (.cptr (.agg [.raw (.int .u8 op),.raw (.string n),.sl tg xs,.sl ab ys]))/\fr 4=.iv (.cptr (.raw (.map (some m)))) /\
  fr 5=.iv (.cptr (.fn g fi ca))/\fr 7=.iv (.fn (.func 273) [] [.cptr (.raw (.map (some m))),.cptr (.fn g fi ca)])/\fr 14=.iv (.sl tg xs)/\fr 15=.iv (.raw (.int .i64 us.length))/\fr 16=.iv (.raw (.int .i64 k))/\ds=[]) ?_ ?_ ?_
 ·simp only[go_sem,zE];exact⟨⟨stu,es,hm,hc,rfl,by simpa[yQk,yVi] using hI⟩,rfl⟩
 ·rintro k fr st ds E ⟨A,f3,f4,f5,f7,f14,f15,f16,rfl⟩;obtain⟨a,J⟩:=yQ3 E;obtain⟨x,U,hx⟩:=ak.get J;have D:yQk us=yQk (us.take k)++(yQo a++yQk (us.drop (k+1))):=by
   conv=>lhs;rw[<- List.take_append_drop k us,List.drop_eq_getElem_cons E]
   rw[yX5,(lGs J).2];rfl
  have G:=an;rw[D,yJ7,yJ7] at G;have aw:=vZz gl ag W (YOk.left gl (YOk.right gl G)) m;have F:=zKj gl a x hx _ _ _ rfl (λi hi=>by cases hi;simp only[go_sem]) _ _ 0 aw st (by simpa[yVi] using A);obtain⟨v2,n2,m2⟩:=a;obtain⟨tx,cx,rfl,_⟩:=hx.mk;simp only[go_sem,zE,zA,zL,f7,f14,f15,f16,lt_i E,yQ2 aq,iNn,U];refine F.mono ?_;rintro _ st (⟨rfl,h⟩|⟨rfl,h⟩)
  ·simp only[go_sem,zE,f3,f4,f5,f7,f14,f15,f16,yQb E (show us.length<=281474976710656 by omega)];rw[yQ4 J,yX5,yJ7,lLa,<- Nat.add_assoc];simpa[yQk,lTl] using h
  ·simp only[go_sem];exact yQ0 (.inr ⟨rfl,h⟩)
 ·rintro fr st ds ⟨A,f3,f4,f5,f7,f14,f15,f16,rfl⟩;rw[lTl] at A;obtain⟨stu,es,hm,hc,rfl,hI⟩:=A;simp only[go_sem,zE,zA,f3,f15,f16,yQj (nLi _),fits];refine (yJs gl op n _ _ _ _ _).mono ?_;rintro _ _ ⟨rfl,rfl⟩;cases hq:isQ op
  ·rw[hq] at O;simp only[bFt,if_false] at O ⊢;simp only[go_sem,zE,f3,fits,hys.len];intro af;refine LoopC.ctr sub.length (λk fr st' ds=>yGf m b (I (k0+(yVi b (yQk us)).length+(yXo b (sub.take k)).length)) st'/\fr 4=.iv (.cptr (.raw (.map (some m)))) /\
    fr 5=.iv (.cptr (.fn g fi ca))/\fr 34=.iv (.sl ab ys)/\fr 35=.iv (.raw (.int .i64 sub.length))/\fr 36=.iv (.raw (.int .i64 k))/\ds=[]) ?_ ?_ ?_
   ·simp only[go_sem,zE,f4,f5];exact⟨⟨stu,es,hm,hc,rfl,by simpa[yXo] using hI⟩,rfl⟩
   ·rintro k fr st ds E ⟨A,f4,f5,f34,f35,f36,rfl⟩;obtain⟨a,J⟩:=yQ3 E;obtain⟨x,U,hx⟩:=hys.get J;obtain⟨av,au⟩:=yQq J;have D:yXo b sub=yXo b (sub.take k)++(zZk b a++yXo b (sub.drop (k+1))):=by
     conv=>lhs;rw[<- List.take_append_drop k sub,List.drop_eq_getElem_cons E]
     rw[yKb,(lGs J).2];rfl
    have G:=O;rw[D] at G;have F:=IH a (lMg J) x hx g fi ca ag W I S _ b (λs=>by have:=ah s;simp only[Fm.size] at this;omega) (YOk.left gl (YOk.right gl G)) m st A;obtain⟨o2,n2,u2,s2⟩:=a;obtain⟨t3,x3,t4,x4,rfl,_⟩:=hx.mk;simp only[go_sem,zE,zB,zA,zL,f4,f5,f34,f35,f36,lt_i E,yQ2 ac,iNn,U,fits];refine F.mono ?_;rintro _ st (⟨rfl,h⟩|⟨rfl,h⟩)
    ·simp only[go_sem,zE,f4,f5,f34,f35,f36,yQb E (show sub.length<=281474976710656 by omega)];rw[yQ4 J,yKb,lLa,<- Nat.add_assoc];simpa[yXo] using h
    ·simp only[go_sem];exact yQ0 (.inr ⟨rfl,h⟩)
   ·rintro fr st ds ⟨A,f4,f5,f34,f35,f36,rfl⟩;simp only[go_sem,f35,f36,yQj (nLi _)];rw[lTl] at A;refine yQ0 (.inl ⟨rfl,?_⟩);rw[lLa,<- Nat.add_assoc];exact A
  ·rw[hq] at O;simp only[if_true] at O ⊢;have ay:=ah n;simp only[Fm.size] at ay;have hw:IntKind.i64.wrap (((b n:Nat):Int)+1)=((b n+1:Nat):Int):=by rw[w64]<;>omega
   simp only[go_sem,zE,reduceCtorEq,f3,f4,fits,hys.len,ISt.put_same,hc.look n,hw,yQg];intro af;have ax:=hc.inc n;refine LoopC.ctr sub.length (λk fr st' ds=>yGf m (incB b n) (I (k0+(yVi b (yQk us)).length+(yXo (incB b n) (sub.take k)).length)) st'/\fr 4=.iv (.cptr (.raw (.map (some m)))) /\
    fr 5=.iv (.cptr (.fn g fi ca))/\fr 34=.iv (.sl ab ys)/\fr 35=.iv (.raw (.int .i64 sub.length))/\fr 36=.iv (.raw (.int .i64 k)) /\
    ds=[.call (.func 275) [.cptr (.raw (.map (some m))),.cptr (.agg [.raw (.int .u8 op),.raw (.string n),.sl tg xs,.sl ab ys])] []]) ?_ ?_ ?_
   ·simp only[go_sem,zE,f4,f5];exact⟨⟨stu,_,hm,ax,rfl,by simpa[yXo] using hI⟩,rfl⟩
   ·rintro k fr st ds E ⟨A,f4,f5,f34,f35,f36,rfl⟩;obtain⟨a,J⟩:=yQ3 E;obtain⟨x,U,hx⟩:=hys.get J;obtain⟨av,au⟩:=yQq J;have D:yXo (incB b n) sub=yXo (incB b n) (sub.take k)++(zZk (incB b n) a++yXo (incB b n) (sub.drop (k+1))):=by
     conv=>lhs;rw[<- List.take_append_drop k sub,List.drop_eq_getElem_cons E]
     rw[yKb,(lGs J).2];rfl
    have G:=O;rw[D] at G;have F:=IH a (lMg J) x hx g fi ca ag W I S _ (incB b n) (λs=>by have:=ah s;simp only[Fm.size] at this;simp only[incB];split<;>omega) (YOk.left gl (YOk.right gl G)) m st A;obtain⟨o2,n2,u2,s2⟩:=a;obtain⟨t3,x3,t4,x4,rfl,_⟩:=hx.mk;simp only[go_sem,zE,zB,zA,zL,f4,f5,f34,f35,f36,lt_i E,yQ2 ac,iNn,U,fits];refine F.mono ?_;rintro _ st (⟨rfl,h⟩|⟨rfl,h⟩)
    ·simp only[go_sem,zE,f4,f5,f34,f35,f36,yQb E (show sub.length<=281474976710656 by omega)];rw[yQ4 J,yKb,lLa,<- Nat.add_assoc];simpa[yXo] using h
    ·obtain⟨stu,es,hm,hc,rfl,hS⟩:=h;simp only[go_sem];refine (zJ2 gl .junk op n _ _ _ _ m es b hc (by omega) _ (ISt.put_same _ _ _)).mono ?_;rintro _ _ rfl;simp only[go_sem,yQg];exact yQ0 (.inr ⟨rfl,stu,_,hm,hc.dec,rfl,hS⟩)
   ·rintro fr st ds ⟨A,f4,f5,f34,f35,f36,rfl⟩;rw[lTl] at A;obtain⟨stu,es,hm,hc,rfl,hI⟩:=A;simp only[go_sem,f35,f36,yQj (nLi _)];refine (zJ2 gl .junk op n _ _ _ _ m es b hc (by omega) _ (ISt.put_same _ _ _)).mono ?_;rintro _ _ rfl;simp only[go_sem,yQg];refine yQ0 (.inl ⟨rfl,stu,_,hm,hc.dec,rfl,?_⟩);rw[lLa,<- Nat.add_assoc];exact hI
theorem zQw:∀(k:Nat)(t:Fm),SizeOf.sizeOf t<k->VF gl t
 | 0,f,h=>by omega
 | k+1,.mk o n us sub,h=>zY0 gl o n us sub (λa A=>zQw k a (by
   have:=lSm A;simp at h;omega))
theorem xKc (t:Fm):VF gl t:=zQw gl _ t (Nat.lt_succ_self _)
def xVu (f:Fm):List ByteArray:=zZk (λ_=>0) f
theorem yWs (f:Fm)(x:IV)(J:IsFm f x)(hs:f.size<=4611686018427387904)(I:Nat->ISt->Prop):IterC prog gl 231 [] [.cptr x] (seqX (zWi (xVu f))) (xVu f).length I:=by
 obtain⟨o,n,us,sub⟩:=f;obtain⟨t1,x1,t2,x2,rfl,_⟩:=J.mk;rintro y I' S' st ⟨g,O,ca,rfl,F,E⟩ _ U h0;change ICall prog gl _ [.fn g O ca,_] st _;refine iI func231 ?_;simp only[go_sem,zE,zA,reduceCtorEq,fits];refine λm=>yQd λW=>?_;refine (xKc gl _ _ J g O ca F E I' S' 0 (λ_=>0) (λs=>by omega) (YOk.of gl U) m _ ⟨st,[],W,CntOk.nil,rfl,h0⟩).mono ?_;rintro _ st' h;simp only[go_sem];have A:∀(stu:ISt) (es:List (Value×IV)),stu m=none->subSt stu (stu.put m (some (.map .str es))):=λstu es h=>yQe h;rw[Nat.zero_add] at h;rcases h with⟨_,stu,es,D,_,rfl,G⟩|⟨_,stu,es,D,_,rfl,G⟩
 ·exact yQc (A stu es D) (.inl G)
 ·exact yQc (A stu es D) (.inr G)
