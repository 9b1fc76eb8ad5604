/- Walks: alikeTerm. -/
import Derived.Test.YtclkffdkahljeaaGreatDoorJU
set_option linter.all false
open Nat renaming reduceEqDiff → zE,reduceBEq → zB,reduceAdd → zA,reduceMul → zM,reduceLeDiff → zL
namespace Go.Proofs.Tryz
open Go Go.Iv
set_option maxRecDepth 4000
variable (gl:Nat->Option IV)
def arI (l:Ar):List IV:=l.map λp=>.agg [.raw (.string p.1),.raw (.string p.2)]
theorem yJa (l:Ar):(arI l).length=l.length:=by simp[arI]
theorem yUe {l:Ar}{k:Nat}{p:ByteArray×ByteArray}(h:l[k]?=some p):(arI l)[k]?=some (.agg [.raw (.string p.1),.raw (.string p.2)]):=by simp[arI,h]
theorem yGm (l m:Ar):arI (l++m)=arI l++arI m:=by simp[arI]
abbrev eL (l:Ar):List ByteArray:=l.reverse.map (·.1)
abbrev eR (l:Ar):List ByteArray:=l.reverse.map (·.2)
theorem vWt {l:Ar}{k:Nat}{p:ByteArray×ByteArray}(h:l[k]?=some p):eL (l.take (k+1))=p.1::eL (l.take k)/\eR (l.take (k+1))=p.2::eR (l.take k):=by
 rw[yQ7 h];simp
theorem kQ5 (l:Ar):(eL l).length=(eR l).length:=by simp
theorem yGf (env:List ByteArray):∀l:List Tm,(dbs env l).length=l.length
 | []=>rfl
 | a::l=>by simp only[dbs,List.length_cons,yGf env l]
theorem yXu (env:List ByteArray):∀(l:List Tm) (k:Nat),dbs env (l.take k)=(dbs env l).take k
 | [],k=>by simp[dbs]
 | a::l,0=>by simp[dbs]
 | a::l,k+1=>by simp only[List.take_succ_cons,dbs,yXu env l k]
theorem yUa {env:List ByteArray}:∀ {l:List Tm} {k:Nat} {a:Tm},l[k]?=some a->(dbs env l)[k]?=some (db env a)
 | [],k,a,h=>by simp at h
 | b::l,0,a,h=>by simp at h;subst h;rfl
 | b::l,k+1,a,h=>by simp only[dbs,List.getElem?_cons_succ];exact yUa (by simpa using h)
theorem yKx:∀ {l:List Tm}{a:Tm},yYi l=true->a∈l->a.ok=true
 | b::l,a,h,hm=>by
  rcases List.mem_cons.1 hm with rfl|hm
  ·exact (yKo h).1
  ·exact yKx (yKo h).2 hm
theorem yXz:∀ {l:List Fm}{a:Fm},yY5 l=true->a∈l->a.ok=true
 | b::l,a,h,hm=>by
  rcases List.mem_cons.1 hm with rfl|hm
  ·exact (yKp h).1
  ·exact yXz (yKp h).2 hm
section
variable (l:Ar)(tl:Tag)(htl:okEs tl 2)(hll:l.length<=1099511627776)
def AT (t:Tm):Prop:=∀(u:Tm) (x y:IV) (_:IsTm t x) (_:IsTm u y) (_:t.ok=true) (_:u.ok=true) (st:ISt),
 ICall prog gl 148 [x,y,.sl tl (arI l)] st (λr st'=>r=.raw (.bool (eqB (db (eL l) t) (db (eR l) u)))/\st'=st)
include htl hll in
theorem zVj (v:Bool)(n:ByteArray)(us:List Tm)(IH:∀a∈us,AT gl l tl a):AT gl l tl (.mk v n us):=by
 rintro⟨w,m,ws⟩ x y hx hy aj ae st;obtain⟨t1,x1,rfl,au,O⟩:=hx.mk;obtain⟨t2,y1,rfl,aq,J⟩:=hy.mk;refine iI func148 ?_;cases v<;>cases w
 ·by_cases aa:us.length=ws.length
  ·have A:decide ((us.length:Int)=(ws.length:Int))=true:=dEt (by omega);by_cases D:n=m
   ·subst D;simp only[go_sem,zE,O.len,J.len,A,decide_true,beq_self_eq_true];intros;refine LoopC.ctr us.length (λk fr st' ds=>dbs (eL l) (us.take k)=dbs (eR l) (ws.take k)/\fr 2=.iv (.sl tl (arI l))/\fr 3=.box [.raw (.bool false),.raw (.string n),.sl t1 x1]/\fr 4=.box [.raw (.bool false),.raw (.string n),.sl t2 y1] /\
     fr 34=.iv (.sl t1 x1)/\fr 35=.iv (.raw (.int .i64 us.length))/\fr 36=.iv (.raw (.int .i64 k))/\st'=st/\ds=[]) ?_ ?_ ?_
    ·simp only[go_sem,zE];exact⟨rfl,rfl⟩
    ·rintro k fr st _ U ⟨E,f2,f3,f4,f34,f35,f36,rfl,rfl⟩;obtain⟨a,ac⟩:=yQ1 U;obtain⟨b,ag⟩:=yQ1 (aa▸U);obtain⟨x,ax,hx⟩:=O.get ac;obtain⟨y,aw,hy⟩:=J.get ag;have ai:=IH a (lMg ac) b x y hx hy (yKx (xVe aj) (lMg ac)) (yKx (xVe ae) (lMg ag)) st;have ah:=yUa (env:=eL l) ac;have al:=yUa (env:=eR l) ag;have av:db (eL l) a≠db (eR l) b->eqB (db (eL l) (.mk false n us)) (db (eR l) (.mk false n ws))=false:=λh=>by
      rw[yQl];simp only[db];intro he;injection he with _ he;rw[he,al] at ah;exact h (Option.some.inj ah).symm
     have af:db (eL l) a=db (eR l) b->dbs (eL l) (us.take (k+1))=dbs (eR l) (ws.take (k+1)):=λh=>by
      rw[yXu,yXu,yQ7 ah,yQ7 al,<- yXu,<- yXu,E,h]
     obtain⟨v2,n2,u2⟩:=a;obtain⟨v3,n3,u3⟩:=b;obtain⟨t3,x3,rfl,_⟩:=hx.mk;obtain⟨t4,x4,rfl,_⟩:=hy.mk;simp only[go_sem,zE,zB,zA,zL,f2,f4,f34,f35,f36,lt_i U,yQ3 au,yQ3 aq,iNn,ax,aw,fits];refine ai.mono ?_;rintro _ st ⟨rfl,rfl⟩;by_cases hc:db (eL l) (.mk v2 n2 u2)=db (eR l) (.mk v3 n3 u3)
     ·simp only[go_sem,zE,f2,f3,f4,f34,f35,f36,yZ3.2 hc,yQc U (show us.length<=281474976710656 by omega)];exact af hc
     ·simp only[go_sem,yQl.2 hc];exact yQ0 ⟨by rw[av hc],rfl⟩
    ·rintro fr st _ ⟨E,f2,f3,f4,f34,f35,f36,rfl,rfl⟩;simp only[go_sem,f35,f36,yQi (nLi _)];refine yQ0 ⟨?_,rfl⟩;rw[lTl,aa,lTl] at E;rw[yZ3.2 (by simp only[db,E])]
   ·simp only[go_sem,zE,O.len,J.len,A,dEf D,beq_self_eq_true];intros;refine yQ0 ⟨?_,rfl⟩;rw[yQl.2];simp only[db];intro he;injection he with he;exact D he
  ·have A:decide ((us.length:Int)=(ws.length:Int))=false:=dEf (by omega);simp only[go_sem,zE,O.len,J.len,A,beq_self_eq_true];intros;refine yQ0 ⟨?_,rfl⟩;rw[yQl.2];simp only[db];intro he;injection he with _ he;have:=congrArg List.length he;rw[yGf,yGf] at this;exact aa this
 ·simp only[go_sem,zE,zA,show (false == true)=false from rfl];refine yQ0 ⟨?_,rfl⟩;rw[yQl.2];simp only[db];exact λh=>xVj h.symm
 ·simp only[go_sem,zE,zA,show (true == false)=false from rfl];refine yQ0 ⟨?_,rfl⟩;rw[yQl.2];simp only[db];exact λh=>xVj h
 ·obtain rfl:=xVd aj;obtain rfl:=xVd ae;have aI:decide (((([]:List Tm).length:Nat):Int)=((([]:List Tm).length:Nat):Int))=true:=dEt rfl;have ao:IntKind.i64.wrap ((l.length:Int)-1)=(l.length:Int)-1:=by rw[w64]<;>omega
  simp only[db];simp only[go_sem,zE,zL,O.len,J.len,decide_true,yJa,ao];intro aB;refine LoopC.ctr l.length (λk fr st' ds=>(yKy (eL l) n=yKy (eR l) m↔yKy (eL (l.take (l.length-k))) n=yKy (eR (l.take (l.length-k))) m)/\fr 2=.iv (.sl tl (arI l)) /\
   fr 3=.box [.raw (.bool true),.raw (.string n),.sl t1 x1]/\fr 4=.box [.raw (.bool true),.raw (.string m),.sl t2 y1]/\fr 9=.iv (.raw (.int .i64 (((l.length-k:Nat):Int)-1)))/\st'=st/\ds=[]) ?_ ?_ ?_
  ·simp only[go_sem,zE,lTl]
  ·rintro k fr st _ U ⟨E,f2,f3,f4,f9,rfl,rfl⟩;obtain⟨j,hj⟩:∃j,l.length-k=j+1:=⟨l.length-k-1,by omega⟩
   obtain⟨p,hp⟩:=yQ1 (show j<l.length by omega);obtain⟨e1,e2⟩:=vWt hp;rw[hj,e1,e2,xG7 (kQ5 _)] at E;rw[hj,show (((j+1:Nat):Int)-1)=(j:Int) by omega] at f9;have hw:IntKind.i64.wrap ((j:Int)-1)=(((l.length-(k+1):Nat):Int)-1):=by rw[w64]<;>omega
   have ay:l.length-(k+1)=j:=by omega
   by_cases h1:p.1=n
   ·by_cases h2:p.2=m
    ·have hi:=E.2 (by rw[if_pos (.inl h1.symm)];exact⟨h1.symm,h2.symm⟩);simp only[go_sem,zE,zB,zA,zL,f2,f3,f4,f9,decide_true,yQ3 htl,iNn,yUe hp,fits,dEt h1,dEt h2];exact yQ0 ⟨by rw[yZ3.2 hi],rfl⟩
    ·have hi:¬ yKy (eL l) n=yKy (eR l) m:=λh=>by
      have:=E.1 h;rw[if_pos (.inl h1.symm)] at this;exact h2 this.2.symm
     simp only[go_sem,zE,zB,zA,zL,f2,f3,f4,f9,decide_true,yQ3 htl,iNn,yUe hp,fits,dEt h1,dEf h2];exact yQ0 ⟨by rw[yQl.2 hi],rfl⟩
   ·by_cases h2:p.2=m
    ·have hi:¬ yKy (eL l) n=yKy (eR l) m:=λh=>by
      have:=E.1 h;rw[if_pos (.inr h2.symm)] at this;exact h1 this.1.symm
     simp only[go_sem,zE,zB,zA,zL,f2,f3,f4,f9,decide_true,yQ3 htl,iNn,yUe hp,fits,dEf h1,dEt h2];exact yQ0 ⟨by rw[yQl.2 hi],rfl⟩
    ·rw[if_neg (λh=>h.elim (λh=>h1 h.symm) (λh=>h2 h.symm))] at E;simp only[go_sem,zE,zB,zA,zL,f2,f3,f4,f9,decide_true,yQ3 htl,iNn,yUe hp,fits,dEf h1,dEf h2,hw];rw[ay];exact E
  ·rintro fr st _ ⟨E,f2,f3,f4,f9,rfl,rfl⟩;rw[Nat.sub_self,List.take_zero] at E;rw[Nat.sub_self] at f9;have hz:yKy (eL l) n=yKy (eR l) m↔n=m:=by rw[E];simp[wZo]
   simp only[go_sem,zE,f3,f4,f9,show decide ((0:Int)<=(((0:Nat):Int)-1))=false from rfl];refine yQ0 ⟨?_,rfl⟩;by_cases D:n=m
   ·rw[yZ3.2 (hz.2 D),dEt D]
   ·rw[yQl.2 (λh=>D (hz.1 h)),dEf D]
include htl hll in
theorem zQm:∀(k:Nat)(t:Tm),SizeOf.sizeOf t<k->AT gl l tl t
 | 0,f,h=>by omega
 | k+1,.mk v n us,h=>zVj gl l tl htl hll v n us (λa A=>zQm k a (by
   have:=lSm A;simp at h;omega))
include htl hll in
theorem zV0 (t:Tm):AT gl l tl t:=zQm gl l tl htl hll _ t (Nat.lt_succ_self _)
end
theorem xWy (l:Ar):List.take l.length (arI l)=arI l:=by rw[<- yJa,lTl]
theorem yG4 (n:Nat):yXl none (some (n:Int)) n=some (0,n):=by
 unfold yXl;simp
theorem yQ4 (x:Operand):yJx 1 [(0,x)]=true:=rfl
theorem yJw (x y:Operand):yJx 2 [(0,x),(1,y)]=true:=rfl
def arT (tl:Tag)(l:Ar):Prop:=(tl=⟨true,.nil,0⟩/\l=[])\/∃g,tl=⟨true,.app g,2⟩
theorem arT.es {tl:Tag}{l:Ar}(h:arT tl l):okEs tl 2:=by
 rcases h with⟨rfl,_⟩|⟨g,rfl⟩
 ·exact .inl rfl
 ·exact .inr rfl
theorem zKj (env:List ByteArray):∀l:List Fm,(dbFs env l).length=l.length
 | []=>rfl
 | a::l=>by simp only[dbFs,List.length_cons,zKj env l]
theorem yXd (env:List ByteArray):∀(l:List Fm) (k:Nat),dbFs env (l.take k)=(dbFs env l).take k
 | [],k=>by simp[dbFs]
 | a::l,0=>by simp[dbFs]
 | a::l,k+1=>by simp only[List.take_succ_cons,dbFs,yXd env l k]
theorem yWw {env:List ByteArray}:∀ {l:List Fm} {k:Nat} {a:Fm},l[k]?=some a->(dbFs env l)[k]?=some (dbF env a)
 | [],k,a,h=>by simp at h
 | b::l,0,a,h=>by simp at h;subst h;rfl
 | b::l,k+1,a,h=>by simp only[dbFs,List.getElem?_cons_succ];exact yWw (by simpa using h)
def AK (f:Fm):Prop:=∀(g:Fm) (l:Ar) (tl:Tag) (_:arT tl l) (_:l.length+f.size<=1099511627776) (x y:IV) (_:IsFm f x) (_:IsFm g y) (_:f.ok=true) (_:g.ok=true) (st:ISt),
 ICall prog gl 116 [x,y,.sl tl (arI l)] st (λr st'=>r=.raw (.bool (eqB (dbF (eL l) f) (dbF (eR l) g)))/\st'=st)
theorem xU2 (op:Nat)(n:ByteArray)(us:List Tm)(sub:List Fm)(IH:∀a∈sub,AK gl a):AK gl (.mk op n us sub):=by
 rintro⟨au,A,ac,D⟩ l tl htl hll x y hx hy be a7 st;obtain⟨t1,x1,t2,x2,rfl,bw,aZ,an,aH,al⟩:=hx.mk;obtain⟨t3,y1,t4,y2,rfl,bu,aY,aw,aG,av⟩:=hy.mk;obtain⟨aF,ay,_⟩:=zJp be;obtain⟨aE,ax,_⟩:=zJp a7;simp only[Fm.size] at hll;have aC:∀(P:Prop),(op=au->(if isQ op then (⟨#[]⟩:ByteArray) else n)=(if isQ op then ⟨#[]⟩ else A)->dbs (eL l) us=dbs (eR l) ac->dbFs (if isQ op then n::eL l else eL l) sub=dbFs (if isQ op then A::eR l else eR l) D->P)->¬ P →
   eqB (dbF (eL l) (.mk op n us sub)) (dbF (eR l) (.mk au A ac D))=false:=λP h hP=>by
  rw[yQl];intro he;simp only[dbF] at he;injection he with h1 h2 h3 h4;subst h1;exact hP (h rfl h2 h3 h4)
 refine iI func116 ?_;by_cases h1:op=au
 case neg =>
  simp only[go_sem,zE,zA,show decide ((op:Int)=(au:Int))=false from dEf (by omega)];intros;exact yQ0 ⟨by rw[aC (op=au) (λh _ _ _=>h) h1],rfl⟩
 subst h1;by_cases h2:us.length=ac.length
 case neg =>
  simp only[go_sem,zE,decide_true,an.len,aw.len,show decide ((us.length:Int)=(ac.length:Int))=false from dEf (by omega)];intros;exact yQ0 ⟨by rw[aC (us.length=ac.length) (λ_ _ h _=>by have:=congrArg List.length h;simpa[yGf] using this) h2],rfl⟩
 by_cases h3:sub.length=D.length
 case neg =>
  simp only[go_sem,zE,decide_true,an.len,aw.len,show decide ((us.length:Int)=(ac.length:Int))=true from dEt (by omega),al.len,av.len,show decide ((sub.length:Int)=(D.length:Int))=false from dEf (by omega)];intros;exact yQ0 ⟨by rw[aC (sub.length=D.length) (λ_ _ _ h=>by have:=congrArg List.length h;simpa[zKj] using this) h3],rfl⟩
 have F2:decide ((us.length:Int)=(ac.length:Int))=true:=dEt (by omega);have F3:decide ((sub.length:Int)=(D.length:Int))=true:=dEt (by omega);have bo:=yJv us;have bn:=yZk sub;simp only[go_sem,zE,zA,zL,decide_true,an.len,aw.len,F2,al.len,av.len,F3];intros;refine (yXp gl op n _ _ _ _ _).mono ?_;rintro _ st ⟨rfl,rfl⟩;by_cases h4:isQ op=true\/n=A
 case neg =>
  have h5:isQ op=false:=by simpa using λh=>h4 (.inl h)
  have h6:n≠A:=λh=>h4 (.inr h);simp only[go_sem,zE,zA,h5,dEf h6];exact yQ0 ⟨by rw[aC (n=A) (λ_ h _ _=>by simpa[h5] using h) h6],rfl⟩
 have ah:∀r:Bool,(r=true↔dbs (eL l) us=dbs (eR l) ac/\dbFs (if isQ op then n::eL l else eL l) sub=dbFs (if isQ op then A::eR l else eR l) D) →
   IV.raw (.bool r)=.raw (.bool (eqB (dbF (eL l) (.mk op n us sub)) (dbF (eR l) (.mk op A ac D)))):=λr hr=>by
  congr 2;rw[Bool.eq_iff_iff,hr,yZ3];simp only[dbF];constructor
  ·rintro⟨e1,e2⟩;rw[e1,e2];congr 1;rcases h4 with h|h
   ·simp[h]
   ·rw[h]
  ·intro h;injection h with _ _ e1 e2;exact⟨e1,e2⟩
 cases hq:isQ op
 ·have bf:n=A:=h4.resolve_left (by simp[hq]);rw[hq] at ah;simp only[bFt,if_false] at ah;simp only[go_sem,zE,zA,dEt bf,an.len];intros;refine LoopC.ctr us.length (λk fr st' ds=>dbs (eL l) (us.take k)=dbs (eR l) (ac.take k)/\fr 2=.iv (.sl tl (arI l))/\fr 3=.box [.raw (.int .u8 op),.raw (.string n),.sl t1 x1,.sl t2 x2]/\fr 4=.box [.raw (.int .u8 op),.raw (.string A),.sl t3 y1,.sl t4 y2] /\
   fr 45=.iv (.sl t1 x1)/\fr 46=.iv (.raw (.int .i64 us.length))/\fr 47=.iv (.raw (.int .i64 k))/\st'=st/\ds=[]) ?_ ?_ ?_
  ·simp only[go_sem,zE];exact⟨rfl,rfl⟩
  ·rintro k fr st _ J ⟨hn,f2,f3,f4,f45,f46,f47,rfl,rfl⟩;obtain⟨a,E⟩:=yQ1 J;obtain⟨b,U⟩:=yQ1 (h2▸J);obtain⟨x,ak,hx⟩:=an.get E;obtain⟨y,aj,hy⟩:=aw.get U;have ab:=zV0 gl l tl htl.es (by omega) a b x y hx hy (yKx aF (lMg E)) (yKx aE (lMg U)) st;have aa:=yUa (env:=eL l) E;have ae:=yUa (env:=eR l) U;have af:db (eL l) a≠db (eR l) b->dbs (eL l) us≠dbs (eR l) ac:=λh he=>by
    rw[he,ae] at aa;exact h (Option.some.inj aa).symm
   have O:db (eL l) a=db (eR l) b->dbs (eL l) (us.take (k+1))=dbs (eR l) (ac.take (k+1)):=λh=>by
    rw[yXu,yXu,yQ7 aa,yQ7 ae,<- yXu,<- yXu,hn,h]
   obtain⟨v2,n2,u2⟩:=a;obtain⟨v3,n3,u3⟩:=b;obtain⟨t3,x3,rfl,_⟩:=hx.mk;obtain⟨t4,x4,rfl,_⟩:=hy.mk;simp only[go_sem,zE,zB,zA,zL,f2,f4,f45,f46,f47,lt_i J,yQ3 aZ,yQ3 aY,iNn,ak,aj,fits];refine ab.mono ?_;rintro _ st ⟨rfl,rfl⟩;by_cases hc:db (eL l) (.mk v2 n2 u2)=db (eR l) (.mk v3 n3 u3)
   ·simp only[go_sem,zE,f2,f3,f4,f45,f46,f47,yZ3.2 hc,yQc J (show us.length<=281474976710656 by omega)];exact O hc
   ·simp only[go_sem,yQl.2 hc];exact yQ0 ⟨ah false (by simp only[bFt,false_iff];exact λh=>af hc h.1),rfl⟩
  rintro fr st _ ⟨ag,f2,f3,f4,f45,f46,f47,rfl,rfl⟩;rw[lTl,h2,lTl] at ag;simp only[go_sem,zE,zA,zL,f3,f46,f47,yQi (nLi _)];refine (yXp gl op n _ _ _ _ _).mono ?_;rintro _ st ⟨rfl,rfl⟩;simp only[go_sem,zE,f3,hq,al.len];intros;refine LoopC.ctr sub.length (λk fr st' ds=>dbFs (eL (l)) (sub.take k)=dbFs (eR (l)) (D.take k)/\fr 2=.iv (.sl tl (arI (l)))/\fr 4=.box [.raw (.int .u8 op),.raw (.string A),.sl t3 y1,.sl t4 y2] /\
   fr 78=.iv (.sl t2 x2)/\fr 79=.iv (.raw (.int .i64 sub.length))/\fr 80=.iv (.raw (.int .i64 k))/\st'=st/\ds=[]) ?_ ?_ ?_
  ·simp only[go_sem,zE,f2,f4];exact⟨rfl,rfl⟩
  ·rintro k fr st _ J ⟨hn,f2,f4,f78,f79,f80,rfl,rfl⟩;obtain⟨a,E⟩:=yQ1 J;obtain⟨b,U⟩:=yQ1 (h3▸J);obtain⟨x,ak,hx⟩:=al.get E;obtain⟨y,aj,hy⟩:=av.get U;obtain⟨a6,a1⟩:=yQv E;have ab:=IH a (lMg E) b (l) tl (htl) (by omega) x y hx hy (yXz ay (lMg E)) (yXz ax (lMg U)) st;have aa:=yWw (env:=eL (l)) E;have ae:=yWw (env:=eR (l)) U;have af:dbF (eL (l)) a≠dbF (eR (l)) b->dbFs (eL (l)) sub≠dbFs (eR (l)) D:=λh he=>by
    rw[he,ae] at aa;exact h (Option.some.inj aa).symm
   have O:dbF (eL (l)) a=dbF (eR (l)) b->dbFs (eL (l)) (sub.take (k+1))=dbFs (eR (l)) (D.take (k+1)):=λh=>by
    rw[yXd,yXd,yQ7 aa,yQ7 ae,<- yXd,<- yXd,hn,h]
   obtain⟨o5,n5,u5,s5⟩:=a;obtain⟨o6,n6,u6,s6⟩:=b;obtain⟨t5,x5,t6,x6,rfl,_⟩:=hx.mk;obtain⟨t7,x7,t8,x8,rfl,_⟩:=hy.mk;simp only[go_sem,zE,zB,zA,zL,f2,f4,f78,f79,f80,lt_i J,yQ3 aH,yQ3 aG,iNn,ak,aj,fits];refine ab.mono ?_;rintro _ st ⟨rfl,rfl⟩;by_cases hc:dbF (eL (l)) (.mk o5 n5 u5 s5)=dbF (eR (l)) (.mk o6 n6 u6 s6)
   ·simp only[go_sem,zE,f2,f4,f78,f79,f80,yZ3.2 hc,yQc J (show sub.length<=281474976710656 by omega)];exact O hc
   ·simp only[go_sem,yQl.2 hc];exact yQ0 ⟨ah false (by simp only[bFt,false_iff];exact λh=>af hc h.2),rfl⟩
  rintro fr st _ ⟨hn,f2,f4,f78,f79,f80,rfl,rfl⟩;rw[lTl,h3,lTl] at hn;simp only[go_sem,f79,f80,yQi (nLi _)];exact yQ0 ⟨ah true ⟨λ_=>⟨ag,hn⟩,λ_=>rfl⟩,rfl⟩
 ·rw[hq] at ah;simp only[if_true] at ah;simp only[go_sem,zE,an.len];intros;refine LoopC.ctr us.length (λk fr st' ds=>dbs (eL l) (us.take k)=dbs (eR l) (ac.take k)/\fr 2=.iv (.sl tl (arI l))/\fr 3=.box [.raw (.int .u8 op),.raw (.string n),.sl t1 x1,.sl t2 x2]/\fr 4=.box [.raw (.int .u8 op),.raw (.string A),.sl t3 y1,.sl t4 y2] /\
   fr 45=.iv (.sl t1 x1)/\fr 46=.iv (.raw (.int .i64 us.length))/\fr 47=.iv (.raw (.int .i64 k))/\st'=st/\ds=[]) ?_ ?_ ?_
  ·simp only[go_sem,zE];exact⟨rfl,rfl⟩
  ·rintro k fr st _ J ⟨hn,f2,f3,f4,f45,f46,f47,rfl,rfl⟩;obtain⟨a,E⟩:=yQ1 J;obtain⟨b,U⟩:=yQ1 (h2▸J);obtain⟨x,ak,hx⟩:=an.get E;obtain⟨y,aj,hy⟩:=aw.get U;have ab:=zV0 gl l tl htl.es (by omega) a b x y hx hy (yKx aF (lMg E)) (yKx aE (lMg U)) st;have aa:=yUa (env:=eL l) E;have ae:=yUa (env:=eR l) U;have af:db (eL l) a≠db (eR l) b->dbs (eL l) us≠dbs (eR l) ac:=λh he=>by
    rw[he,ae] at aa;exact h (Option.some.inj aa).symm
   have O:db (eL l) a=db (eR l) b->dbs (eL l) (us.take (k+1))=dbs (eR l) (ac.take (k+1)):=λh=>by
    rw[yXu,yXu,yQ7 aa,yQ7 ae,<- yXu,<- yXu,hn,h]
   obtain⟨v2,n2,u2⟩:=a;obtain⟨v3,n3,u3⟩:=b;obtain⟨t3,x3,rfl,_⟩:=hx.mk;obtain⟨t4,x4,rfl,_⟩:=hy.mk;simp only[go_sem,zE,zB,zA,zL,f2,f4,f45,f46,f47,lt_i J,yQ3 aZ,yQ3 aY,iNn,ak,aj,fits];refine ab.mono ?_;rintro _ st ⟨rfl,rfl⟩;by_cases hc:db (eL l) (.mk v2 n2 u2)=db (eR l) (.mk v3 n3 u3)
   ·simp only[go_sem,zE,f2,f3,f4,f45,f46,f47,yZ3.2 hc,yQc J (show us.length<=281474976710656 by omega)];exact O hc
   ·simp only[go_sem,yQl.2 hc];exact yQ0 ⟨ah false (by simp only[bFt,false_iff];exact λh=>af hc h.1),rfl⟩
  rintro fr st _ ⟨ag,f2,f3,f4,f45,f46,f47,rfl,rfl⟩;rw[lTl,h2,lTl] at ag;simp only[go_sem,zE,zA,zL,f3,f46,f47,yQi (nLi _)];refine (yXp gl op n _ _ _ _ _).mono ?_;rintro _ st ⟨rfl,rfl⟩;rcases htl with⟨rfl,rfl⟩|⟨g0,rfl⟩
  ·simp only[go_sem,zE,zA,zM,zL,f2,f3,f4,hq,fits,al.len,yW0,yJa,yG4,yQ4]
   first
    | refine λg=>yQ8 λhg=>?_
    | refine yQj ⟨by omega,by omega⟩ λg=>yQ8 λhg=>?_
   intros;have aB:arI []++[.agg [.raw (.string n),.raw (.string A)]]=arI ([(n,A)]):=by first|rfl|(rw[yGm];rfl)
   have aA:eL ([(n,A)])=n::eL []:=by simp
   have az:eR ([(n,A)])=A::eR []:=by simp
   try simp only[List.nil_append] at aB
   try rw[aB]
   refine LoopC.ctr sub.length (λk fr st' ds=>dbFs (eL ([(n,A)])) (sub.take k)=dbFs (eR ([(n,A)])) (D.take k)/\fr 2=.iv (.sl ⟨true,.app g,2⟩ (arI ([(n,A)])))/\fr 4=.box [.raw (.int .u8 op),.raw (.string A),.sl t3 y1,.sl t4 y2] /\
    fr 78=.iv (.sl t2 x2)/\fr 79=.iv (.raw (.int .i64 sub.length))/\fr 80=.iv (.raw (.int .i64 k))/\st'=(st.put g (some (.front 1 2)))/\ds=[]) ?_ ?_ ?_
   ·simp only[go_sem,zE,f4]
    first|exact⟨rfl,rfl⟩|exact⟨rfl,rfl,rfl⟩
   ·rintro k fr aq _ J ⟨hn,f2,f4,f78,f79,f80,rfl,rfl⟩;obtain⟨a,E⟩:=yQ1 J;obtain⟨b,U⟩:=yQ1 (h3▸J);obtain⟨x,ak,hx⟩:=al.get E;obtain⟨y,aj,hy⟩:=av.get U;obtain⟨a6,a1⟩:=yQv E;have ab:=IH a (lMg E) b ([(n,A)]) ⟨true,.app g,2⟩ (.inr ⟨g,rfl⟩) (by simp;omega) x y hx hy (yXz ay (lMg E)) (yXz ax (lMg U)) (st.put g (some (.front 1 2)));have aa:=yWw (env:=eL ([(n,A)])) E;have ae:=yWw (env:=eR ([(n,A)])) U;have af:dbF (eL ([(n,A)])) a≠dbF (eR ([(n,A)])) b->dbFs (eL ([(n,A)])) sub≠dbFs (eR ([(n,A)])) D:=λh he=>by
     rw[he,ae] at aa;exact h (Option.some.inj aa).symm
    have O:dbF (eL ([(n,A)])) a=dbF (eR ([(n,A)])) b->dbFs (eL ([(n,A)])) (sub.take (k+1))=dbFs (eR ([(n,A)])) (D.take (k+1)):=λh=>by
     rw[yXd,yXd,yQ7 aa,yQ7 ae,<- yXd,<- yXd,hn,h]
    obtain⟨o5,n5,u5,s5⟩:=a;obtain⟨o6,n6,u6,s6⟩:=b;obtain⟨t5,x5,t6,x6,rfl,_⟩:=hx.mk;obtain⟨t7,x7,t8,x8,rfl,_⟩:=hy.mk;simp only[go_sem,zE,zB,zA,zL,f2,f4,f78,f79,f80,lt_i J,yQ3 aH,yQ3 aG,iNn,ak,aj,fits];refine ab.mono ?_;rintro _ aq ⟨rfl,rfl⟩;by_cases hc:dbF (eL ([(n,A)])) (.mk o5 n5 u5 s5)=dbF (eR ([(n,A)])) (.mk o6 n6 u6 s6)
    ·simp only[go_sem,zE,f2,f4,f78,f79,f80,yZ3.2 hc,yQc J (show sub.length<=281474976710656 by omega)];exact O hc
    ·simp only[go_sem,yQl.2 hc];exact yQf (yQa hg) ⟨ah false (by simp only[bFt,false_iff];exact λh=>af hc (by rw[aA,az];exact h.2)),rfl⟩
   rintro fr aq _ ⟨hn,f2,f4,f78,f79,f80,rfl,rfl⟩;rw[lTl,h3,lTl] at hn;simp only[go_sem,f79,f80,yQi (nLi _)];rw[aA,az] at hn;exact yQf (yQa hg) ⟨ah true ⟨λ_=>⟨ag,hn⟩,λ_=>rfl⟩,rfl⟩
  ·simp only[go_sem,zE,zA,zM,zL,reduceCtorEq,f2,f3,f4,hq,fits,al.len,yW0,yJa,yG4,yQ4,xWy]
   first
    | refine λg=>yQ8 λhg=>?_
    | refine yQj ⟨by omega,by omega⟩ λg=>yQ8 λhg=>?_
   intros;have aB:arI l++[.agg [.raw (.string n),.raw (.string A)]]=arI (l++[(n,A)]):=by first|rfl|(rw[yGm];rfl)
   have aA:eL (l++[(n,A)])=n::eL l:=by simp
   have az:eR (l++[(n,A)])=A::eR l:=by simp
   try simp only[List.nil_append] at aB
   try rw[aB]
   refine LoopC.ctr sub.length (λk fr st' ds=>dbFs (eL (l++[(n,A)])) (sub.take k)=dbFs (eR (l++[(n,A)])) (D.take k)/\fr 2=.iv (.sl ⟨true,.app g,2⟩ (arI (l++[(n,A)])))/\fr 4=.box [.raw (.int .u8 op),.raw (.string A),.sl t3 y1,.sl t4 y2] /\
    fr 78=.iv (.sl t2 x2)/\fr 79=.iv (.raw (.int .i64 sub.length))/\fr 80=.iv (.raw (.int .i64 k))/\st'=(st.put g (some (.front (l.length+1) 2)))/\ds=[]) ?_ ?_ ?_
   ·simp only[go_sem,zE,f4]
    first|exact⟨rfl,rfl⟩|exact⟨rfl,rfl,rfl⟩
   ·rintro k fr aq _ J ⟨hn,f2,f4,f78,f79,f80,rfl,rfl⟩;obtain⟨a,E⟩:=yQ1 J;obtain⟨b,U⟩:=yQ1 (h3▸J);obtain⟨x,ak,hx⟩:=al.get E;obtain⟨y,aj,hy⟩:=av.get U;obtain⟨a6,a1⟩:=yQv E;have ab:=IH a (lMg E) b (l++[(n,A)]) ⟨true,.app g,2⟩ (.inr ⟨g,rfl⟩) (by simp;omega) x y hx hy (yXz ay (lMg E)) (yXz ax (lMg U)) (st.put g (some (.front (l.length+1) 2)));have aa:=yWw (env:=eL (l++[(n,A)])) E;have ae:=yWw (env:=eR (l++[(n,A)])) U;have af:dbF (eL (l++[(n,A)])) a≠dbF (eR (l++[(n,A)])) b->dbFs (eL (l++[(n,A)])) sub≠dbFs (eR (l++[(n,A)])) D:=λh he=>by
     rw[he,ae] at aa;exact h (Option.some.inj aa).symm
    have O:dbF (eL (l++[(n,A)])) a=dbF (eR (l++[(n,A)])) b->dbFs (eL (l++[(n,A)])) (sub.take (k+1))=dbFs (eR (l++[(n,A)])) (D.take (k+1)):=λh=>by
     rw[yXd,yXd,yQ7 aa,yQ7 ae,<- yXd,<- yXd,hn,h]
    obtain⟨o5,n5,u5,s5⟩:=a;obtain⟨o6,n6,u6,s6⟩:=b;obtain⟨t5,x5,t6,x6,rfl,_⟩:=hx.mk;obtain⟨t7,x7,t8,x8,rfl,_⟩:=hy.mk;simp only[go_sem,zE,zB,zA,zL,f2,f4,f78,f79,f80,lt_i J,yQ3 aH,yQ3 aG,iNn,ak,aj,fits];refine ab.mono ?_;rintro _ aq ⟨rfl,rfl⟩;by_cases hc:dbF (eL (l++[(n,A)])) (.mk o5 n5 u5 s5)=dbF (eR (l++[(n,A)])) (.mk o6 n6 u6 s6)
    ·simp only[go_sem,zE,f2,f4,f78,f79,f80,yZ3.2 hc,yQc J (show sub.length<=281474976710656 by omega)];exact O hc
    ·simp only[go_sem,yQl.2 hc];exact yQf (yQa hg) ⟨ah false (by simp only[bFt,false_iff];exact λh=>af hc (by rw[aA,az];exact h.2)),rfl⟩
   rintro fr aq _ ⟨hn,f2,f4,f78,f79,f80,rfl,rfl⟩;rw[lTl,h3,lTl] at hn;simp only[go_sem,f79,f80,yQi (nLi _)];rw[aA,az] at hn;exact yQf (yQa hg) ⟨ah true ⟨λ_=>⟨ag,hn⟩,λ_=>rfl⟩,rfl⟩
theorem xZj:∀(k:Nat)(t:Fm),SizeOf.sizeOf t<k->AK gl t
 | 0,f,h=>by omega
 | k+1,.mk o n us sub,h=>xU2 gl o n us sub (λa A=>xZj k a (by
   have:=lSm A;simp at h;omega))
theorem vZh (t:Fm):AK gl t:=xZj gl _ t (Nat.lt_succ_self _)
