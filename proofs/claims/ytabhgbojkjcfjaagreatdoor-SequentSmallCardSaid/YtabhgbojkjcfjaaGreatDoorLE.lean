/- Walks of the second program: level, term -/
import Derived.Test.YtabhgbojkjcfjaaGreatDoorMC
import Derived.Test.YtabhgbojkjcfjaaGreatDoorKM
set_option linter.all false
open Nat renaming reduceEqDiff → zE,reduceBEq → zB,reduceAdd → zA,reduceMul → zM,reduceLeDiff → zL
namespace Go.Proofs.Tryz
open Go Go.Iv
set_option maxRecDepth 4000
variable (gl:Nat->Option IV)
theorem xJ0 {a e:List ByteArray}{n:ByteArray}(h:n ∉ a):yGt (a++e) n=yGt e n:=by
 induction a with
 | nil=>rfl
 | cons m a A =>
  simp only[List.mem_cons,not_or] at h;rw[List.cons_append,yGt,if_neg h.1,A h.2]
theorem wY5 {p:List ByteArray}{i:Nat}{s:ByteArray}(h:p[i]?=some s)(D:∀q∈p.drop (i+1),q≠s):yGt p.reverse s=some i:=by
 have A:=(lGs h).1;have h1:p=p.take i++s::p.drop (i+1):=by
  conv=>lhs;rw[<- List.take_append_drop i p,List.drop_eq_getElem_cons A,(lGs h).2]
 rw[h1,List.reverse_append,List.reverse_cons,List.append_assoc,xJ0 λE=>D s (List.mem_reverse.1 E) rfl];simp only[List.cons_append,List.nil_append,yGt,if_true,List.length_reverse,List.length_take];congr 1;omega
theorem wY4 {p:List ByteArray}{s:ByteArray}(A:∀q∈p,q≠s):yGt p.reverse s=none:=by
 have:=xJ0 (a:=p.reverse) (e:=[]) (n:=s) λD=>A s (List.mem_reverse.1 D) rfl;rw[List.append_nil] at this;rw[this];rfl
def lvl (p:List ByteArray)(s:ByteArray):Nat:=match yGt p.reverse s with|some i=>p.length-i|none=>0
theorem vVe {p q:List ByteArray}(E:p.length=q.length)(x y:ByteArray):yKy p.reverse x=yKy q.reverse y↔lvl p x=lvl q y/\(lvl p x=0->x=y):=by
 have h1:∀i,yGt p.reverse x=some i->i<p.length:=λi h=>by have:=zK0 h;simpa using this
 have h2:∀i,yGt q.reverse y=some i->i<q.length:=λi h=>by have:=zK0 h;simpa using this
 unfold yKy lvl;cases D:yGt p.reverse x with
 | none =>
  cases A:yGt q.reverse y with
  | none=>simp
  | some j =>
   have:=h2 j A;simp only[reduceCtorEq,false_iff];rintro⟨h,_⟩;omega
 | some i =>
  have:=h1 i D;cases A:yGt q.reverse y with
  | none =>
   simp only[reduceCtorEq,false_iff];rintro⟨h,_⟩;omega
  | some j =>
   have:=h2 j A;simp only[NlT.bv.injEq];constructor
   ·rintro rfl;exact⟨by omega,λh=>by omega⟩
   ·rintro⟨h,_⟩;omega
theorem wJg (p:List ByteArray)(W:Tag)(G:okEs W 1)(hl:p.length<=1099511627776)(s:ByteArray)(st:ISt) :
  ICall prog gl 256 [.sl W (strI p),.raw (.string s)] st (λr st'=>r=.raw (.int .i64 (lvl p s))/\st'=st):=by
 have aa:IntKind.i64.wrap ((p.length:Int)-1)=(p.length:Int)-1:=by rw[w64]<;>omega
 refine iI func256 ?_;simp only[go_sem,reduceCtorEq,yQn,aa];intros;refine LoopC.ctr p.length (λk fr st' ds=>(∀q∈p.drop (p.length-k),q≠s)/\fr 0=.iv (.sl W (strI p))/\fr 1=.iv (.raw (.string s))/\fr 5=.iv (.raw (.int .i64 (((p.length-k:Nat):Int)-1)))/\st'=st/\ds=[]) ?_ ?_ ?_
 ·simp only[go_sem,zE,reduceCtorEq];intro q D;rw[List.drop_length] at D;cases D
 ·rintro k fr st _ ae ⟨A,f0,f1,f5,rfl,rfl⟩;obtain⟨o,J⟩:=yQ3 (show p.length-k-1<p.length by omega);have hi:(((p.length-k:Nat):Int)-1)=((p.length-k-1:Nat):Int):=by omega
  have U:decide ((0:Int)<=((p.length-k-1:Nat):Int))=true:=dEt (by omega);have ac:p.drop (p.length-k-1)=o::p.drop (p.length-k):=by
   have O:=(lGs J).1;rw[List.drop_eq_getElem_cons O,(lGs J).2,show p.length-k-1+1=p.length-k by omega]
  rw[hi] at f5;by_cases E:o=s
  ·subst E;have F:lvl p o=k+1:=by
    unfold lvl;rw[wY5 J (by rw[show p.length-k-1+1=p.length-k by omega];exact A)];simp only;omega
   have hw:IntKind.i64.wrap ((p.length:Int)-((p.length-k-1:Nat):Int))=((k+1:Nat):Int):=by rw[w64]<;>omega
   simp only[go_sem,zE,reduceCtorEq,f0,f1,f5,decide_true,yQ2 G,iNn,yK0 J,fits,decide_true,yQn,hw];intros;exact yQ0 ⟨by rw[F],rfl⟩
  ·have hw:IntKind.i64.wrap (((p.length-k-1:Nat):Int)-1)=((p.length-(k+1):Nat):Int)-1:=by rw[w64]<;>omega
   simp only[go_sem,zE,reduceCtorEq,f0,f1,f5,decide_true,yQ2 G,iNn,yK0 J,fits,dEf E,hw];intro q D;rw[show p.length-(k+1)=p.length-k-1 by omega,ac] at D;rcases List.mem_cons.1 D with rfl|D
   ·exact E
   ·exact A q D
 ·rintro fr st _ ⟨A,f0,f1,f5,rfl,rfl⟩;rw[Nat.sub_self,List.drop_zero] at A;have U:decide ((0:Int)<=((p.length-p.length:Nat):Int)-1)=false:=dEf (by omega);have F:lvl p s=0:=by unfold lvl;rw[wY4 A]
  simp only[go_sem,f5,U];exact yQ0 ⟨by rw[F];rfl,rfl⟩
theorem xW2 (e:List ByteArray):∀(l m:List Tm),dbs e (l++m)=dbs e l++dbs e m
 | [],m=>by simp[dbs]
 | a::l,m=>by simp only[List.cons_append,dbs,xW2 e l m]
theorem xW1 (e:List ByteArray):∀l:List Tm,(dbs e l).length=l.length
 | []=>rfl
 | a::l=>by simp only[dbs,List.length_cons,xW1 e l]
theorem zZr (e:List ByteArray):∀(l m:List Fm),dbFs e (l++m)=dbFs e l++dbFs e m
 | [],m=>by simp[dbFs]
 | a::l,m=>by simp only[List.cons_append,dbFs,zZr e l m]
theorem xQw (e:List ByteArray):∀l:List Fm,(dbFs e l).length=l.length
 | []=>rfl
 | a::l=>by simp only[dbFs,List.length_cons,xQw e l]
theorem xXo {v:Bool}{n:ByteArray}{m:List Tm}(h:(Tm.mk v n m).ok=true):yJt m=true/\(v=true->m=[]):=by
 cases v
 ·simp only[Tm.ok,bAt] at h;exact⟨h.2,λh=>by cases h⟩
 ·simp only[Tm.ok,bAt,List.isEmpty_iff] at h;exact⟨by rw[h.1];rfl,λ_=>h.1⟩
def RTe (us:List Tm):Prop:=∀(A:List Tm) (F E:Tag) (D ys:List IV) (_:okEs F 3) (_:okEs E 3) (_:IsTms us D) (_:IsTms A ys) (_:yJt us=true) (_:yJt A=true) (_:yQa us<=1099511627776) (p q:List ByteArray) (tp G:Tag)
 (_:okEs tp 1) (_:okEs G 1) (_:p.length=q.length) (_:p.length<=1099511627776) (st:ISt),
 ICall prog gl 194 [.sl F D,.sl E ys,.sl tp (strI p),.sl G (strI q)] st (λr st'=>r=.raw (.bool (eqB (dbs p.reverse us) (dbs q.reverse A)))/\st'=st)
theorem xU8 (us:List Tm)(IH:∀v n l,Tm.mk v n l∈us->RTe gl l):RTe gl us:=by
 intro ws tx ty xs ys E D J hys aC aB aV p q tp tq htp ai aj ak st;have aL:=yZu us;refine iI func194 ?_;by_cases af:us.length=ws.length
 case neg =>
  simp only[go_sem,zE,reduceCtorEq,J.len,hys.len,show decide ((us.length:Int)=(ws.length:Int))=false from dEf (by omega)];intros;exact yQ0 ⟨by rw[yQi.2 λh=>af (by have:=congrArg List.length h;rwa [xW1,xW1] at this)],rfl⟩
 simp only[go_sem,zE,reduceCtorEq,J.len,hys.len,show decide ((us.length:Int)=(ws.length:Int))=true from dEt (by omega)];intros;refine LoopC.ctr us.length (λk fr st' ds=>dbs p.reverse (us.take k)=dbs q.reverse (ws.take k)/\fr 0=.iv (.sl tx xs)/\fr 1=.iv (.sl ty ys)/\fr 2=.iv (.sl tp (strI p))/\fr 3=.iv (.sl tq (strI q))/\fr 9=.iv (.raw (.int .i64 k))/\st'=st/\ds=[]) ?_ ?_ ?_
 ·simp only[go_sem,zE,reduceCtorEq];exact⟨rfl,rfl⟩
 ·rintro k fr st _ O ⟨ae,f0,f1,f2,f3,f9,rfl,rfl⟩;obtain⟨a,ha⟩:=yQ3 O;obtain⟨b,hb⟩:=yQ3 (show k<ws.length by omega);obtain⟨y,G,hy⟩:=J.get ha;obtain⟨z,F,hz⟩:=hys.get hb;have ah:=lMg ha;have aG:=lMg hb;have aE:=yKn aC ah;have aD:=yKn aB aG;have aA:=yWm ah;have A:db p.reverse a≠db q.reverse b->eqB (dbs p.reverse us) (dbs q.reverse ws)=false:=λaF=>yQi.2 λh=>aF (by
   have h1:=yG3 (env:=p.reverse) ha;rw[h,yG3 hb] at h1;exact (Option.some.inj h1).symm)
  have U:db p.reverse a=db q.reverse b->dbs p.reverse (us.take (k+1))=dbs q.reverse (ws.take (k+1)):=λh=>by
   rw[yQ4 ha,yQ4 hb,xW2,xW2,ae];simp[dbs,h]
  obtain⟨v,n,m⟩:=a;obtain⟨v',n',m'⟩:=b;obtain⟨aI,aH⟩:=xXo aE;obtain⟨am,al⟩:=xXo aD;obtain⟨t3,x3,rfl,az,ax⟩:=hy.mk;obtain⟨t4,x4,rfl,ay,aw⟩:=hz.mk;simp only[Tm.size] at aA;have aa:=λst=>IH v n m ah m' t3 t4 x3 x4 az ay ax aw aI am (by omega) p q tp tq htp ai aj ak st;have bt:(true == false)=false:=rfl;have bf:(false == true)=false:=rfl;cases v<;>cases v'
  ·simp only[go_sem,zE,zA,reduceCtorEq,f0,f1,f2,f3,f9,J.len,lt_i O,yQ2 E,yQ2 D,iNn,G,F,fits];intros;refine (aa _).mono ?_;rintro _ st ⟨rfl,rfl⟩;cases he:eqB (dbs p.reverse m) (dbs q.reverse m')
   ·simp only[go_sem,zE];exact yQ0 ⟨by rw[A λh=>by simp only[db,NlT.ap.injEq] at h;exact yQi.1 he h.2],rfl⟩
   by_cases hn:n=n'
   ·simp only[go_sem,zE,reduceCtorEq,f0,f1,f2,f3,f9,yQ2 E,yQ2 D,iNn,G,F,fits,dEt hn,yQb O (show us.length<=281474976710656 by omega)];exact U (by simp only[db,hn,yQm.1 he])
   ·simp only[go_sem,zE,reduceCtorEq,f0,f1,f9,yQ2 E,yQ2 D,iNn,G,F,fits,dEf hn];exact yQ0 ⟨by rw[A λh=>by simp only[db,NlT.ap.injEq] at h;exact hn h.1],rfl⟩
  ·simp only[go_sem,zE,reduceCtorEq,f0,f1,f9,J.len,lt_i O,yQ2 E,yQ2 D,iNn,G,F,fits,bf];intros;exact yQ0 ⟨by rw[A λh=>by simp only[db,yKy] at h;split at h<;>cases h],rfl⟩
  ·simp only[go_sem,zE,reduceCtorEq,f0,f1,f9,J.len,lt_i O,yQ2 E,yQ2 D,iNn,G,F,fits,bt];intros;exact yQ0 ⟨by rw[A λh=>by simp only[db,yKy] at h;split at h<;>cases h],rfl⟩
  ·obtain rfl:=aH rfl;obtain rfl:=al rfl;simp only[go_sem,zE,zA,reduceCtorEq,f0,f1,f2,f3,f9,J.len,lt_i O,yQ2 E,yQ2 D,iNn,G,F,fits];intros;refine (aa _).mono ?_;rintro _ st ⟨rfl,rfl⟩;have he:eqB (dbs p.reverse []) (dbs q.reverse [])=true:=yQm.2 rfl;simp only[go_sem,zE,zA,reduceCtorEq,f0,f2,f9,he,yQ2 E,iNn,G,fits];refine (wJg gl p tp htp ak n _).mono ?_;rintro _ st ⟨rfl,rfl⟩;simp only[go_sem,zE,zA,f1,f3,f9,yQ2 D,iNn,F,fits];refine (wJg gl q tq ai (by omega) n' _).mono ?_;rintro _ st ⟨rfl,rfl⟩;have W:=vVe aj n n';by_cases hl:lvl p n=lvl q n'
   ·by_cases an:lvl p n=0
    ·by_cases hn:n=n'
     ·simp only[go_sem,zE,reduceCtorEq,f0,f1,f2,f3,f9,yQ2 E,yQ2 D,iNn,G,F,fits,dEt hn,show decide ((lvl p n:Int)=(lvl q n':Int))=true from dEt (by omega),show decide ((lvl p n:Int)=0)=true from dEt (by omega),yQb O (show us.length<=281474976710656 by omega)];exact U (by simp only[db];exact W.2 ⟨hl,λ_=>hn⟩)
     ·simp only[go_sem,zE,reduceCtorEq,f0,f1,f9,yQ2 E,yQ2 D,iNn,G,F,fits,dEf hn,show decide ((lvl p n:Int)=(lvl q n':Int))=true from dEt (by omega),show decide ((lvl p n:Int)=0)=true from dEt (by omega)];exact yQ0 ⟨by rw[A λh=>by simp only[db] at h;exact hn ((W.1 h).2 an)],rfl⟩
    ·simp only[go_sem,zE,reduceCtorEq,f0,f1,f2,f3,f9,show decide ((lvl p n:Int)=(lvl q n':Int))=true from dEt (by omega),show decide ((lvl p n:Int)=0)=false from dEf (by omega),yQb O (show us.length<=281474976710656 by omega)];exact U (by simp only[db];exact W.2 ⟨hl,λh=>absurd h an⟩)
   ·simp only[go_sem,zE,show decide ((lvl p n:Int)=(lvl q n':Int))=false from dEf (by omega)];exact yQ0 ⟨by rw[A λh=>by simp only[db] at h;exact hl (W.1 h).1],rfl⟩
 ·rintro fr st _ ⟨ae,f0,f1,f2,f3,f9,rfl,rfl⟩;rw[lTl,af,lTl] at ae;simp only[go_sem,zE,reduceCtorEq,f0,f9,J.len,yQj (nLi _)];intros;exact yQ0 ⟨by rw[yQm.2 ae],rfl⟩
theorem xZh:∀(k:Nat)(us:List Tm),SizeOf.sizeOf us<k->RTe gl us
 | 0,f,h=>by omega
 | k+1,us,h=>xU8 gl us (λv n l A=>xZh k l (by
   have:=lSm A;simp at this;omega))
theorem wW8 (us:List Tm):RTe gl us:=xZh gl _ us (Nat.lt_succ_self _)
theorem zGl:yJx 0 []=true:=rfl
def RSm (a:Fm):Prop:=∀(b:Fm) (x y:IV) (_:IsFm a x) (_:IsFm b y) (_:a.ok=true) (_:b.ok=true) (p q:List ByteArray) (tp A:Tag) (_:okEs tp 1) (_:okEs A 1) (_:p.length=q.length) (_:p.length+a.size<=1099511627776) (st:ISt),
 ICall prog gl 144 [x,y,.sl tp (strI p),.sl A (strI q)] st (λr st'=>r=.raw (.bool (eqB (dbF p.reverse a) (dbF q.reverse b)))/\st'=st)
theorem xUp (op:Nat)(n:ByteArray)(us:List Tm)(sub:List Fm)(IH:∀a∈sub,RSm gl a):RSm gl (.mk op n us sub):=by
 intro b x y hx hy bd aO p q tp tq htp aJ ax aM st;obtain⟨aH,J,aj,A⟩:=b;obtain⟨ta,xa,tb,xb,rfl,ho,ba,a7,aL,F⟩:=hx.mk;obtain⟨tc,xc,td,xd,rfl,bB,a8,a6,aK,al⟩:=hy.mk;obtain⟨be,aP,_⟩:=yY1 bd;obtain⟨aQ,ao,_⟩:=yY1 aO;simp only[Fm.size] at aM;have bD:=yZu us;have bC:=yV6 sub;have am:=λst=>wW8 gl us aj ta tc xa xc ba a8 a7 a6 be aQ (by omega) p q tp tq htp aJ ax (by omega) st;have G:∀ {X Y:NlF},X≠Y->eqB X Y=false:=λh=>yQi.2 h;refine ICall.intro (c:=cf prog gl [] [(4,[0,1,3,4,5,2,6,7]),(5,[0,1,3,4,5,2,6,7])]) func144 rfl (by show _<=76;simp) (by kernel_rfl) ?_;by_cases aN:op=aH
 case neg =>
  simp only[go_sem,zE,zA,show decide ((op:Int)=(aH:Int))=false from dEf (by omega)];exact yQ0 ⟨by rw[G λh=>by simp only[dbF,NlF.mk.injEq] at h;exact aN h.1],rfl⟩
 subst aN;by_cases af:sub.length=A.length
 case neg =>
  simp only[go_sem,zE,decide_true,F.len,al.len,show decide ((sub.length:Int)=(A.length:Int))=false from dEf (by omega)];intros;exact yQ0 ⟨by rw[G λh=>by
   simp only[dbF,NlF.mk.injEq] at h;have:=congrArg List.length h.2.2.2;rw[xQw,xQw] at this;exact af this],rfl⟩
 simp only[go_sem,zE,zA,decide_true,F.len,al.len,show decide ((sub.length:Int)=(A.length:Int))=true from dEt (by omega)];intros;refine (am _).mono ?_;rintro _ st ⟨rfl,rfl⟩;cases aS:eqB (dbs p.reverse us) (dbs q.reverse aj)
 ·simp only[go_sem,zE];exact yQ0 ⟨by rw[G λh=>by simp only[dbF,NlF.mk.injEq] at h;exact yQi.1 aS h.2.2.1],rfl⟩
 have aq:=yQm.1 aS;simp only[go_sem,zE,zA,zL];refine (xZ3 gl op n _ _ _ _ _).mono ?_;rintro _ st ⟨rfl,rfl⟩;cases hq:isQ op
 ·by_cases hn:n=J
  ·have ai:eqB (dbF p.reverse (.mk op n us sub)) (dbF q.reverse (.mk op J aj A))=eqB (dbFs p.reverse sub) (dbFs q.reverse A):=by
    rw[Bool.eq_iff_iff,yQm,yQm];simp only[dbF,hq,bFt,if_false,NlF.mk.injEq,true_and,hn,aq]
   have bk:p.length+(yQa us+yQ9 sub+1)<=1099511627776:=aM;have f4:True:=trivial;have f5:True:=trivial;simp only[go_sem,zE,dEt hn];refine LoopC.ctr sub.length (λk fr st' ds=>dbFs (p).reverse (sub.take k)=dbFs (q).reverse (A.take k)/\fr 2=.iv (.sl tp (strI (p)))/\fr 3=.iv (.sl tq (strI (q)))/\fr 4=.box [.raw (.int .u8 op),.raw (.string n),.sl ta xa,.sl tb xb] /\
    fr 5=.box [.raw (.int .u8 op),.raw (.string J),.sl tc xc,.sl td xd]/\fr 9=.iv (.raw (.int .i64 k))/\st'=st/\ds=[]) ?_ ?_ ?_
   ·simp only[go_sem,zE]
    first|rfl|exact⟨rfl,rfl⟩
   ·rintro k fr aa _ O ⟨E,f2,f3,f4,f5,f9,D,rfl⟩;obtain⟨a,ha⟩:=yQ3 O;obtain⟨b,hb⟩:=yQ3 (show k<A.length by omega);obtain⟨y,aE,hy⟩:=F.get ha;obtain⟨z,aD,hz⟩:=al.get hb;have ae:=lMg ha;have aC:=lMg hb;have bb:=(yX2 ha).2;have W:=λst=>IH a ae b y z hy hz (yZq aP ae) (yZq ao aC) (p) (q) tp tq htp aJ (by simp[ax]) (by first|omega|(simp only[lLa,List.length_cons,List.length_nil];omega)) st;have ag:eqB (dbF (p).reverse a) (dbF (q).reverse b)=false->eqB (dbFs (p).reverse sub) (dbFs (q).reverse A)=false:=λG=>yQi.2 λh=>yQi.1 G (by
     have h1:=yKu (env:=(p).reverse) ha;rw[h,yKu hb] at h1;exact (Option.some.inj h1).symm)
    have U:eqB (dbF (p).reverse a) (dbF (q).reverse b)=true->dbFs (p).reverse (sub.take (k+1))=dbFs (q).reverse (A.take (k+1)):=λh=>by
     rw[yQ4 ha,yQ4 hb,zZr,zZr,E];simp only[dbFs,yQm.1 h]
    obtain⟨o8,n8,t8,x8,t9,x9,rfl⟩:=hy.agg;obtain⟨o6,n6,t6,x6,t7,x7,rfl⟩:=hz.agg;simp only[go_sem,zE,zB,zA,f2,f3,f4,f5,f9,F.len,lt_i O,yQ2 aL,yQ2 aK,iNn,aE,aD,fits];intros;refine (W _).mono ?_;rintro _ aa ⟨rfl,rfl⟩;cases he:eqB (dbF (p).reverse a) (dbF (q).reverse b)
    ·simp only[go_sem];refine yQc (by rw[D];exact subSt.refl _) ⟨?_,rfl⟩;rw[ai,ag he]
    ·simp only[go_sem,zE,f2,f3,f4,f5,f9,yQb O (show sub.length<=281474976710656 by omega)];exact⟨U he,D⟩
   rintro fr aa _ ⟨E,f2,f3,f4,f5,f9,D,rfl⟩;rw[lTl,af,lTl] at E;simp only[go_sem,zE,f4,f9,F.len,yQj (nLi _)];intros;refine yQc (by rw[D];exact subSt.refl _) ⟨?_,rfl⟩;rw[ai,yQm.2 E]
  ·simp only[go_sem,zE,dEf hn];exact yQ0 ⟨by rw[G λh=>by simp only[dbF,hq,bFt,if_false,NlF.mk.injEq] at h;exact hn h.2.1],rfl⟩
 ·have ai:eqB (dbF p.reverse (.mk op n us sub)) (dbF q.reverse (.mk op J aj A))=eqB (dbFs (p++[n]).reverse sub) (dbFs (q++[J]).reverse A):=by
   rw[Bool.eq_iff_iff,yQm,yQm];simp only[dbF,hq,if_true,NlF.mk.injEq,true_and,aq,List.reverse_append,List.reverse_cons,List.reverse_nil,List.nil_append,List.cons_append]
  simp only[go_sem,zE,zA,zM,zL,fits,zGl,yQ1];refine yJ5 (s:=1) (S0:=st) (own.full st st 0 1) rfl (yQn p) (subSt.refl st) rfl (by simp[fits,IV.one,strI]) (by simp only;omega) (by omega) λbr bt aB aw _=>?_;simp only[go_sem,zE,zA];refine yZ1 aB (by simp[yQn]) aw rfl (by simp[fits,IV.one]) (by simp only;omega) (by omega) λaG ak aA ac _=>?_;have bf:strI p++[.raw (.string n)]=strI (p++[n]):=by rw[yJo];rfl
  have aU:strI q++[.raw (.string J)]=strI (q++[J]):=by rw[yJo];rfl
  try simp only[List.nil_append]
  rw[bf];simp only[go_sem,zE,zA,zM,zL,fits,zGl,yQ1];refine yJ5 (s:=1) (S0:=ak) (own.full ak ak 0 1) rfl (yQn q) (subSt.refl ak) rfl (by simp[fits,IV.one,strI]) (by simp only;omega) (by omega) λbq bs az av _=>?_;simp only[go_sem,zE,zA];refine yZ1 az (by simp[yQn]) av rfl (by simp[fits,IV.one]) (by simp only;omega) (by omega) λaF st4 ay ab _=>?_
  try simp only[List.nil_append]
  rw[aU];have f4:True:=trivial;have f5:True:=trivial;simp only[go_sem];refine LoopC.ctr sub.length (λk fr st' ds=>dbFs (p++[n]).reverse (sub.take k)=dbFs (q++[J]).reverse (A.take k)/\fr 2=.iv (.sl aG (strI (p++[n])))/\fr 3=.iv (.sl aF (strI (q++[J])))/\fr 4=.box [.raw (.int .u8 op),.raw (.string n),.sl ta xa,.sl tb xb] /\
   fr 5=.box [.raw (.int .u8 op),.raw (.string J),.sl tc xc,.sl td xd]/\fr 9=.iv (.raw (.int .i64 k))/\st'=st4/\ds=[]) ?_ ?_ ?_
  ·simp only[go_sem,zE]
   first|rfl|exact⟨rfl,rfl⟩
  ·rintro k fr aa _ O ⟨E,f2,f3,f4,f5,f9,D,rfl⟩;obtain⟨a,ha⟩:=yQ3 O;obtain⟨b,hb⟩:=yQ3 (show k<A.length by omega);obtain⟨y,aE,hy⟩:=F.get ha;obtain⟨z,aD,hz⟩:=al.get hb;have ae:=lMg ha;have aC:=lMg hb;have bb:=(yX2 ha).2;have W:=λst=>IH a ae b y z hy hz (yZq aP ae) (yZq ao aC) (p++[n]) (q++[J]) aG aF aA.es ay.es (by simp[ax]) (by first|omega|(simp only[lLa,List.length_cons,List.length_nil];omega)) st;have ag:eqB (dbF (p++[n]).reverse a) (dbF (q++[J]).reverse b)=false->eqB (dbFs (p++[n]).reverse sub) (dbFs (q++[J]).reverse A)=false:=λG=>yQi.2 λh=>yQi.1 G (by
    have h1:=yKu (env:=(p++[n]).reverse) ha;rw[h,yKu hb] at h1;exact (Option.some.inj h1).symm)
   have U:eqB (dbF (p++[n]).reverse a) (dbF (q++[J]).reverse b)=true->dbFs (p++[n]).reverse (sub.take (k+1))=dbFs (q++[J]).reverse (A.take (k+1)):=λh=>by
    rw[yQ4 ha,yQ4 hb,zZr,zZr,E];simp only[dbFs,yQm.1 h]
   obtain⟨o8,n8,t8,x8,t9,x9,rfl⟩:=hy.agg;obtain⟨o6,n6,t6,x6,t7,x7,rfl⟩:=hz.agg;simp only[go_sem,zE,zB,zA,f2,f3,f4,f5,f9,F.len,lt_i O,yQ2 aL,yQ2 aK,iNn,aE,aD,fits];intros;refine (W _).mono ?_;rintro _ aa ⟨rfl,rfl⟩;cases he:eqB (dbF (p++[n]).reverse a) (dbF (q++[J]).reverse b)
   ·simp only[go_sem];refine yQc (by rw[D];exact ac.trans ab) ⟨?_,rfl⟩;rw[ai,ag he]
   ·simp only[go_sem,zE,f2,f3,f4,f5,f9,yQb O (show sub.length<=281474976710656 by omega)];exact⟨U he,D⟩
  rintro fr aa _ ⟨E,f2,f3,f4,f5,f9,D,rfl⟩;rw[lTl,af,lTl] at E;simp only[go_sem,zE,f4,f9,F.len,yQj (nLi _)];intros;refine yQc (by rw[D];exact ac.trans ab) ⟨?_,rfl⟩;rw[ai,yQm.2 E]
theorem xX2:∀(k:Nat)(t:Fm),SizeOf.sizeOf t<k->RSm gl t
 | 0,f,h=>by omega
 | k+1,.mk o n us sub,h=>xUp gl o n us sub (λa A=>xX2 k a (by
   have:=lSm A;simp at h;omega))
theorem vQz (t:Fm):RSm gl t:=xX2 gl _ t (Nat.lt_succ_self _)
theorem xY8 (f g:Fm)(x y:IV)(F:IsFm f x)(E:IsFm g y)(hs:f.size<=1000000)(U:g.size<=1000000)(st:ISt) :
  ICall prog gl 99 [x,y] st (λr st'=>r=.raw (.bool (yKz f g))/\st'=st):=by
 have h1:=λst=>zZ6 gl f x F (by omega) st;have h2:=λst=>zZ6 gl g y E (by omega) st;have h3:=λhf W tp O htp G st=>vQz gl f g x y F E hf W [] [] tp O htp G rfl (by simp;omega) st;have D:yKz f g=(f.right&&g.right&&eqB (dbF [] f) (dbF [] g)):=rfl;obtain⟨o1,n1,t1,x1,t2,x2,rfl⟩:=F.agg;obtain⟨o3,n3,t3,x3,t4,x4,rfl⟩:=E.agg;refine iI func99 ?_;simp only[go_sem,zE,zA,zL];refine (h1 _).mono ?_;rintro _ st ⟨rfl,rfl⟩;cases J:f.right
 ·simp only[go_sem,zE];exact yQ0 ⟨by simp[D,J],rfl⟩
 simp only[go_sem,zE,zA,zL];refine (h2 _).mono ?_;rintro _ st ⟨rfl,rfl⟩;cases A:g.right
 ·simp only[go_sem,zE];exact yQ0 ⟨by simp[D,A],rfl⟩
 simp only[go_sem,zE,zA,zL];refine (h3 (yK1 J).1 (yK1 A).1 _ _ (.inl rfl) (.inl rfl) _).mono ?_;rintro _ st ⟨rfl,rfl⟩;simp only[go_sem,zE];exact yQ0 ⟨by rw[D,J,A];rfl,rfl⟩
