/- Walks: alikeTerm. -/
import Derived.Test.YtabhgbojkjcfjaaGreatDoorJU
set_option linter.all false
open Nat renaming reduceEqDiff → zE,reduceBEq → zB,reduceAdd → zA,reduceMul → zM,reduceLeDiff → zL
namespace Go.Proofs.Tryz
open Go Go.Iv
set_option maxRecDepth 4000
variable (gl:Nat->Option IV)
def arI (l:Ar):List IV:=l.map λp=>.agg [.raw (.string p.1),.raw (.string p.2)]
theorem yKk (l:Ar):(arI l).length=l.length:=by simp[arI]
theorem zQr {l:Ar}{k:Nat}{p:ByteArray×ByteArray}(h:l[k]?=some p):(arI l)[k]?=some (.agg [.raw (.string p.1),.raw (.string p.2)]):=by simp[arI,h]
theorem yUu (l m:Ar):arI (l++m)=arI l++arI m:=by simp[arI]
abbrev eL (l:Ar):List ByteArray:=l.reverse.map (·.1)
abbrev eR (l:Ar):List ByteArray:=l.reverse.map (·.2)
theorem vWr {l:Ar}{k:Nat}{p:ByteArray×ByteArray}(h:l[k]?=some p):eL (l.take (k+1))=p.1::eL (l.take k)/\eR (l.take (k+1))=p.2::eR (l.take k):=by
 rw[yQ4 h];simp
theorem kQt (l:Ar):(eL l).length=(eR l).length:=by simp
theorem yUr (env:List ByteArray):∀l:List Tm,(dbs env l).length=l.length
 | []=>rfl
 | a::l=>by simp only[dbs,List.length_cons,yUr env l]
theorem yK4 (env:List ByteArray):∀(l:List Tm) (k:Nat),dbs env (l.take k)=(dbs env l).take k
 | [],k=>by simp[dbs]
 | a::l,0=>by simp[dbs]
 | a::l,k+1=>by simp only[List.take_succ_cons,dbs,yK4 env l k]
theorem yG3 {env:List ByteArray}:∀ {l:List Tm} {k:Nat} {a:Tm},l[k]?=some a->(dbs env l)[k]?=some (db env a)
 | [],k,a,h=>by simp at h
 | b::l,0,a,h=>by simp at h;subst h;rfl
 | b::l,k+1,a,h=>by simp only[dbs,List.getElem?_cons_succ];exact yG3 (by simpa using h)
theorem yKn:∀ {l:List Tm}{a:Tm},yJt l=true->a∈l->a.ok=true
 | b::l,a,h,hm=>by
  rcases List.mem_cons.1 hm with rfl|hm
  ·exact (yW1 h).1
  ·exact yKn (yW1 h).2 hm
theorem yZq:∀ {l:List Fm}{a:Fm},yVm l=true->a∈l->a.ok=true
 | b::l,a,h,hm=>by
  rcases List.mem_cons.1 hm with rfl|hm
  ·exact (yV3 h).1
  ·exact yZq (yV3 h).2 hm
section
variable (l:Ar)(tl:Tag)(htl:okEs tl 2)(hll:l.length<=1099511627776)
def AT (t:Tm):Prop:=∀(u:Tm) (x y:IV) (_:IsTm t x) (_:IsTm u y) (_:t.ok=true) (_:u.ok=true) (st:ISt),
 ICall prog gl 255 [x,y,.sl tl (arI l)] st (λr st'=>r=.raw (.bool (eqB (db (eL l) t) (db (eR l) u)))/\st'=st)
include htl hll in
theorem zYf (v:Bool)(n:ByteArray)(us:List Tm)(IH:∀a∈us,AT gl l tl a):AT gl l tl (.mk v n us):=by
 rintro⟨w,m,ws⟩ x y hx hy ah aa st;obtain⟨t1,x1,rfl,aq,G⟩:=hx.mk;obtain⟨t2,y1,rfl,ao,F⟩:=hy.mk;refine iI func255 ?_;cases v<;>cases w
 ·by_cases O:us.length=ws.length
  ·have A:decide ((us.length:Int)=(ws.length:Int))=true:=dEt (by omega);by_cases D:n=m
   ·subst D;simp only[go_sem,zE,G.len,F.len,A,decide_true,beq_self_eq_true];intros;refine LoopC.ctr us.length (λk fr st' ds=>dbs (eL l) (us.take k)=dbs (eR l) (ws.take k)/\fr 2=.iv (.sl tl (arI l))/\fr 3=.box [.raw (.bool false),.raw (.string n),.sl t1 x1]/\fr 4=.box [.raw (.bool false),.raw (.string n),.sl t2 y1] /\
     fr 34=.iv (.sl t1 x1)/\fr 35=.iv (.raw (.int .i64 us.length))/\fr 36=.iv (.raw (.int .i64 k))/\st'=st/\ds=[]) ?_ ?_ ?_
    ·simp only[go_sem,zE];exact⟨rfl,rfl⟩
    ·rintro k fr st _ J ⟨E,f2,f3,f4,f34,f35,f36,rfl,rfl⟩;obtain⟨a,W⟩:=yQ3 J;obtain⟨b,ac⟩:=yQ3 (O▸J);obtain⟨x,aw,hx⟩:=G.get W;obtain⟨y,av,hy⟩:=F.get ac;have af:=IH a (lMg W) b x y hx hy (yKn (xYl ah) (lMg W)) (yKn (xYl aa) (lMg ac)) st;have ae:=yG3 (env:=eL l) W;have aj:=yG3 (env:=eR l) ac;have au:db (eL l) a≠db (eR l) b->eqB (db (eL l) (.mk false n us)) (db (eR l) (.mk false n ws))=false:=λh=>by
      rw[yQi];simp only[db];intro U;injection U with _ U;rw[U,aj] at ae;exact h (Option.some.inj ae).symm
     have ab:db (eL l) a=db (eR l) b->dbs (eL l) (us.take (k+1))=dbs (eR l) (ws.take (k+1)):=λh=>by
      rw[yK4,yK4,yQ4 ae,yQ4 aj,<- yK4,<- yK4,E,h]
     obtain⟨v2,n2,u2⟩:=a;obtain⟨v3,n3,u3⟩:=b;obtain⟨t3,x3,rfl,_⟩:=hx.mk;obtain⟨t4,x4,rfl,_⟩:=hy.mk;simp only[go_sem,zE,zB,zA,zL,f2,f4,f34,f35,f36,lt_i J,yQ2 aq,yQ2 ao,iNn,aw,av,fits];refine af.mono ?_;rintro _ st ⟨rfl,rfl⟩;by_cases hc:db (eL l) (.mk v2 n2 u2)=db (eR l) (.mk v3 n3 u3)
     ·simp only[go_sem,zE,f2,f3,f4,f34,f35,f36,yQm.2 hc,yQb J (show us.length<=281474976710656 by omega)];exact ab hc
     ·simp only[go_sem,yQi.2 hc];exact yQ0 ⟨by rw[au hc],rfl⟩
    ·rintro fr st _ ⟨E,f2,f3,f4,f34,f35,f36,rfl,rfl⟩;simp only[go_sem,f35,f36,yQj (nLi _)];refine yQ0 ⟨?_,rfl⟩;rw[lTl,O,lTl] at E;rw[yQm.2 (by simp only[db,E])]
   ·simp only[go_sem,zE,G.len,F.len,A,dEf D,beq_self_eq_true];intros;refine yQ0 ⟨?_,rfl⟩;rw[yQi.2];simp only[db];intro U;injection U with U;exact D U
  ·have A:decide ((us.length:Int)=(ws.length:Int))=false:=dEf (by omega);simp only[go_sem,zE,G.len,F.len,A,beq_self_eq_true];intros;refine yQ0 ⟨?_,rfl⟩;rw[yQi.2];simp only[db];intro U;injection U with _ U;have:=congrArg List.length U;rw[yUr,yUr] at this;exact O this
 ·simp only[go_sem,zE,zA,show (false == true)=false from rfl];refine yQ0 ⟨?_,rfl⟩;rw[yQi.2];simp only[db];exact λh=>xYt h.symm
 ·simp only[go_sem,zE,zA,show (true == false)=false from rfl];refine yQ0 ⟨?_,rfl⟩;rw[yQi.2];simp only[db];exact λh=>xYt h
 ·obtain rfl:=xYj ah;obtain rfl:=xYj aa;have aH:decide (((([]:List Tm).length:Nat):Int)=((([]:List Tm).length:Nat):Int))=true:=dEt rfl;have an:IntKind.i64.wrap ((l.length:Int)-1)=(l.length:Int)-1:=by rw[w64]<;>omega
  simp only[db];simp only[go_sem,zE,zL,G.len,F.len,decide_true,yKk,an];intro aA;refine LoopC.ctr l.length (λk fr st' ds=>(yKy (eL l) n=yKy (eR l) m↔yKy (eL (l.take (l.length-k))) n=yKy (eR (l.take (l.length-k))) m)/\fr 2=.iv (.sl tl (arI l)) /\
   fr 3=.box [.raw (.bool true),.raw (.string n),.sl t1 x1]/\fr 4=.box [.raw (.bool true),.raw (.string m),.sl t2 y1]/\fr 9=.iv (.raw (.int .i64 (((l.length-k:Nat):Int)-1)))/\st'=st/\ds=[]) ?_ ?_ ?_
  ·simp only[go_sem,zE,lTl]
  ·rintro k fr st _ J ⟨E,f2,f3,f4,f9,rfl,rfl⟩;obtain⟨j,hj⟩:∃j,l.length-k=j+1:=⟨l.length-k-1,by omega⟩
   obtain⟨p,hp⟩:=yQ3 (show j<l.length by omega);obtain⟨e1,e2⟩:=vWr hp;rw[hj,e1,e2,wQ5 (kQt _)] at E;rw[hj,show (((j+1:Nat):Int)-1)=(j:Int) by omega] at f9;have hw:IntKind.i64.wrap ((j:Int)-1)=(((l.length-(k+1):Nat):Int)-1):=by rw[w64]<;>omega
   have ax:l.length-(k+1)=j:=by omega
   by_cases h1:p.1=n
   ·by_cases h2:p.2=m
    ·have hi:=E.2 (by rw[if_pos (.inl h1.symm)];exact⟨h1.symm,h2.symm⟩);simp only[go_sem,zE,zB,zA,zL,f2,f3,f4,f9,decide_true,yQ2 htl,iNn,zQr hp,fits,dEt h1,dEt h2];exact yQ0 ⟨by rw[yQm.2 hi],rfl⟩
    ·have hi:¬ yKy (eL l) n=yKy (eR l) m:=λh=>by
      have:=E.1 h;rw[if_pos (.inl h1.symm)] at this;exact h2 this.2.symm
     simp only[go_sem,zE,zB,zA,zL,f2,f3,f4,f9,decide_true,yQ2 htl,iNn,zQr hp,fits,dEt h1,dEf h2];exact yQ0 ⟨by rw[yQi.2 hi],rfl⟩
   ·by_cases h2:p.2=m
    ·have hi:¬ yKy (eL l) n=yKy (eR l) m:=λh=>by
      have:=E.1 h;rw[if_pos (.inr h2.symm)] at this;exact h1 this.1.symm
     simp only[go_sem,zE,zB,zA,zL,f2,f3,f4,f9,decide_true,yQ2 htl,iNn,zQr hp,fits,dEf h1,dEt h2];exact yQ0 ⟨by rw[yQi.2 hi],rfl⟩
    ·rw[if_neg (λh=>h.elim (λh=>h1 h.symm) (λh=>h2 h.symm))] at E;simp only[go_sem,zE,zB,zA,zL,f2,f3,f4,f9,decide_true,yQ2 htl,iNn,zQr hp,fits,dEf h1,dEf h2,hw];rw[ax];exact E
  ·rintro fr st _ ⟨E,f2,f3,f4,f9,rfl,rfl⟩;rw[Nat.sub_self,List.take_zero] at E;rw[Nat.sub_self] at f9;have hz:yKy (eL l) n=yKy (eR l) m↔n=m:=by rw[E];simp[wJ3]
   simp only[go_sem,zE,f3,f4,f9,show decide ((0:Int)<=(((0:Nat):Int)-1))=false from rfl];refine yQ0 ⟨?_,rfl⟩;by_cases D:n=m
   ·rw[yQm.2 (hz.2 D),dEt D]
   ·rw[yQi.2 (λh=>D (hz.1 h)),dEf D]
include htl hll in
theorem zZz:∀(k:Nat)(t:Tm),SizeOf.sizeOf t<k->AT gl l tl t
 | 0,f,h=>by omega
 | k+1,.mk v n us,h=>zYf gl l tl htl hll v n us (λa A=>zZz k a (by
   have:=lSm A;simp at h;omega))
include htl hll in
theorem zWl (t:Tm):AT gl l tl t:=zZz gl l tl htl hll _ t (Nat.lt_succ_self _)
end
theorem xGr (l:Ar):List.take l.length (arI l)=arI l:=by rw[<- yKk,lTl]
theorem yUe (n:Nat):yXm none (some (n:Int)) n=some (0,n):=by
 unfold yXm;simp
theorem yQ1 (x:Operand):yJx 1 [(0,x)]=true:=rfl
theorem xVn (x y:Operand):yJx 2 [(0,x),(1,y)]=true:=rfl
def arT (tl:Tag)(l:Ar):Prop:=(tl=⟨true,.nil,0⟩/\l=[])\/∃g,tl=⟨true,.app g,2⟩
theorem arT.es {tl:Tag}{l:Ar}(h:arT tl l):okEs tl 2:=by
 rcases h with⟨rfl,_⟩|⟨g,rfl⟩
 ·exact .inl rfl
 ·exact .inr rfl
theorem zW7 (env:List ByteArray):∀l:List Fm,(dbFs env l).length=l.length
 | []=>rfl
 | a::l=>by simp only[dbFs,List.length_cons,zW7 env l]
theorem yJ4 (env:List ByteArray):∀(l:List Fm) (k:Nat),dbFs env (l.take k)=(dbFs env l).take k
 | [],k=>by simp[dbFs]
 | a::l,0=>by simp[dbFs]
 | a::l,k+1=>by simp only[List.take_succ_cons,dbFs,yJ4 env l k]
theorem yKu {env:List ByteArray}:∀ {l:List Fm} {k:Nat} {a:Fm},l[k]?=some a->(dbFs env l)[k]?=some (dbF env a)
 | [],k,a,h=>by simp at h
 | b::l,0,a,h=>by simp at h;subst h;rfl
 | b::l,k+1,a,h=>by simp only[dbFs,List.getElem?_cons_succ];exact yKu (by simpa using h)
def AK (f:Fm):Prop:=∀(g:Fm) (l:Ar) (tl:Tag) (_:arT tl l) (_:l.length+f.size<=1099511627776) (x y:IV) (_:IsFm f x) (_:IsFm g y) (_:f.ok=true) (_:g.ok=true) (st:ISt),
 ICall prog gl 193 [x,y,.sl tl (arI l)] st (λr st'=>r=.raw (.bool (eqB (dbF (eL l) f) (dbF (eR l) g)))/\st'=st)
theorem wQx (op:Nat)(n:ByteArray)(us:List Tm)(sub:List Fm)(IH:∀a∈sub,AK gl a):AK gl (.mk op n us sub):=by
 rintro⟨ao,A,W,D⟩ l tl htl hll x y hx hy bb aZ st;obtain⟨t1,x1,t2,x2,rfl,bs,aW,al,aF,ai⟩:=hx.mk;obtain⟨t3,y1,t4,y2,rfl,br,aV,au,aE,aq⟩:=hy.mk;obtain⟨aD,aw,_⟩:=yY1 bb;obtain⟨aC,av,_⟩:=yY1 aZ;simp only[Fm.size] at hll;have aA:∀(P:Prop),(op=ao->(if isQ op then (⟨#[]⟩:ByteArray) else n)=(if isQ op then ⟨#[]⟩ else A)->dbs (eL l) us=dbs (eR l) W->dbFs (if isQ op then n::eL l else eL l) sub=dbFs (if isQ op then A::eR l else eR l) D->P)->¬ P →
   eqB (dbF (eL l) (.mk op n us sub)) (dbF (eR l) (.mk ao A W D))=false:=λP h hP=>by
  rw[yQi];intro he;simp only[dbF] at he;injection he with h1 h2 h3 h4;subst h1;exact hP (h rfl h2 h3 h4)
 refine iI func193 ?_;by_cases h1:op=ao
 case neg =>
  simp only[go_sem,zE,zA,show decide ((op:Int)=(ao:Int))=false from dEf (by omega)];intros;exact yQ0 ⟨by rw[aA (op=ao) (λh _ _ _=>h) h1],rfl⟩
 subst h1;by_cases h2:us.length=W.length
 case neg =>
  simp only[go_sem,zE,decide_true,al.len,au.len,show decide ((us.length:Int)=(W.length:Int))=false from dEf (by omega)];intros;exact yQ0 ⟨by rw[aA (us.length=W.length) (λ_ _ h _=>by have:=congrArg List.length h;simpa[yUr] using this) h2],rfl⟩
 by_cases h3:sub.length=D.length
 case neg =>
  simp only[go_sem,zE,decide_true,al.len,au.len,show decide ((us.length:Int)=(W.length:Int))=true from dEt (by omega),ai.len,aq.len,show decide ((sub.length:Int)=(D.length:Int))=false from dEf (by omega)];intros;exact yQ0 ⟨by rw[aA (sub.length=D.length) (λ_ _ _ h=>by have:=congrArg List.length h;simpa[zW7] using this) h3],rfl⟩
 have F2:decide ((us.length:Int)=(W.length:Int))=true:=dEt (by omega);have F3:decide ((sub.length:Int)=(D.length:Int))=true:=dEt (by omega);have bl:=yX0 us;have bk:=yQs sub;simp only[go_sem,zE,zA,zL,decide_true,al.len,au.len,F2,ai.len,aq.len,F3];intros;refine (yJs gl op n _ _ _ _ _).mono ?_;rintro _ st ⟨rfl,rfl⟩;by_cases h4:isQ op=true\/n=A
 case neg =>
  have h5:isQ op=false:=by simpa using λh=>h4 (.inl h)
  have h6:n≠A:=λh=>h4 (.inr h);simp only[go_sem,zE,zA,h5,dEf h6];exact yQ0 ⟨by rw[aA (n=A) (λ_ h _ _=>by simpa[h5] using h) h6],rfl⟩
 have ae:∀r:Bool,(r=true↔dbs (eL l) us=dbs (eR l) W/\dbFs (if isQ op then n::eL l else eL l) sub=dbFs (if isQ op then A::eR l else eR l) D) →
   IV.raw (.bool r)=.raw (.bool (eqB (dbF (eL l) (.mk op n us sub)) (dbF (eR l) (.mk op A W D)))):=λr hr=>by
  congr 2;rw[Bool.eq_iff_iff,hr,yQm];simp only[dbF];constructor
  ·rintro⟨e1,e2⟩;rw[e1,e2];congr 1;rcases h4 with h|h
   ·simp[h]
   ·rw[h]
  ·intro h;injection h with _ _ e1 e2;exact⟨e1,e2⟩
 cases hq:isQ op
 ·have bc:n=A:=h4.resolve_left (by simp[hq]);rw[hq] at ae;simp only[bFt,if_false] at ae;simp only[go_sem,zE,zA,dEt bc,al.len];intros;refine LoopC.ctr us.length (λk fr st' ds=>dbs (eL l) (us.take k)=dbs (eR l) (W.take k)/\fr 2=.iv (.sl tl (arI l))/\fr 3=.box [.raw (.int .u8 op),.raw (.string n),.sl t1 x1,.sl t2 x2]/\fr 4=.box [.raw (.int .u8 op),.raw (.string A),.sl t3 y1,.sl t4 y2] /\
   fr 45=.iv (.sl t1 x1)/\fr 46=.iv (.raw (.int .i64 us.length))/\fr 47=.iv (.raw (.int .i64 k))/\st'=st/\ds=[]) ?_ ?_ ?_
  ·simp only[go_sem,zE];exact⟨rfl,rfl⟩
  ·rintro k fr st _ F ⟨hn,f2,f3,f4,f45,f46,f47,rfl,rfl⟩;obtain⟨a,E⟩:=yQ3 F;obtain⟨b,J⟩:=yQ3 (h2▸F);obtain⟨x,ah,hx⟩:=al.get E;obtain⟨y,ag,hy⟩:=au.get J;have U:=zWl gl l tl htl.es (by omega) a b x y hx hy (yKn aD (lMg E)) (yKn aC (lMg J)) st;have O:=yG3 (env:=eL l) E;have aa:=yG3 (env:=eR l) J;have ab:db (eL l) a≠db (eR l) b->dbs (eL l) us≠dbs (eR l) W:=λh he=>by
    rw[he,aa] at O;exact h (Option.some.inj O).symm
   have G:db (eL l) a=db (eR l) b->dbs (eL l) (us.take (k+1))=dbs (eR l) (W.take (k+1)):=λh=>by
    rw[yK4,yK4,yQ4 O,yQ4 aa,<- yK4,<- yK4,hn,h]
   obtain⟨v2,n2,u2⟩:=a;obtain⟨v3,n3,u3⟩:=b;obtain⟨t3,x3,rfl,_⟩:=hx.mk;obtain⟨t4,x4,rfl,_⟩:=hy.mk;simp only[go_sem,zE,zB,zA,zL,f2,f4,f45,f46,f47,lt_i F,yQ2 aW,yQ2 aV,iNn,ah,ag,fits];refine U.mono ?_;rintro _ st ⟨rfl,rfl⟩;by_cases hc:db (eL l) (.mk v2 n2 u2)=db (eR l) (.mk v3 n3 u3)
   ·simp only[go_sem,zE,f2,f3,f4,f45,f46,f47,yQm.2 hc,yQb F (show us.length<=281474976710656 by omega)];exact G hc
   ·simp only[go_sem,yQi.2 hc];exact yQ0 ⟨ae false (by simp only[bFt,false_iff];exact λh=>ab hc h.1),rfl⟩
  rintro fr st _ ⟨ac,f2,f3,f4,f45,f46,f47,rfl,rfl⟩;rw[lTl,h2,lTl] at ac;simp only[go_sem,zE,zA,zL,f3,f46,f47,yQj (nLi _)];refine (yJs gl op n _ _ _ _ _).mono ?_;rintro _ st ⟨rfl,rfl⟩;simp only[go_sem,zE,f3,hq,ai.len];intros;refine LoopC.ctr sub.length (λk fr st' ds=>dbFs (eL (l)) (sub.take k)=dbFs (eR (l)) (D.take k)/\fr 2=.iv (.sl tl (arI (l)))/\fr 4=.box [.raw (.int .u8 op),.raw (.string A),.sl t3 y1,.sl t4 y2] /\
   fr 78=.iv (.sl t2 x2)/\fr 79=.iv (.raw (.int .i64 sub.length))/\fr 80=.iv (.raw (.int .i64 k))/\st'=st/\ds=[]) ?_ ?_ ?_
  ·simp only[go_sem,zE,f2,f4];exact⟨rfl,rfl⟩
  ·rintro k fr st _ F ⟨hn,f2,f4,f78,f79,f80,rfl,rfl⟩;obtain⟨a,E⟩:=yQ3 F;obtain⟨b,J⟩:=yQ3 (h3▸F);obtain⟨x,ah,hx⟩:=ai.get E;obtain⟨y,ag,hy⟩:=aq.get J;obtain⟨aY,aX⟩:=yQq E;have U:=IH a (lMg E) b (l) tl (htl) (by omega) x y hx hy (yZq aw (lMg E)) (yZq av (lMg J)) st;have O:=yKu (env:=eL (l)) E;have aa:=yKu (env:=eR (l)) J;have ab:dbF (eL (l)) a≠dbF (eR (l)) b->dbFs (eL (l)) sub≠dbFs (eR (l)) D:=λh he=>by
    rw[he,aa] at O;exact h (Option.some.inj O).symm
   have G:dbF (eL (l)) a=dbF (eR (l)) b->dbFs (eL (l)) (sub.take (k+1))=dbFs (eR (l)) (D.take (k+1)):=λh=>by
    rw[yJ4,yJ4,yQ4 O,yQ4 aa,<- yJ4,<- yJ4,hn,h]
   obtain⟨o5,n5,u5,s5⟩:=a;obtain⟨o6,n6,u6,s6⟩:=b;obtain⟨t5,x5,t6,x6,rfl,_⟩:=hx.mk;obtain⟨t7,x7,t8,x8,rfl,_⟩:=hy.mk;simp only[go_sem,zE,zB,zA,zL,f2,f4,f78,f79,f80,lt_i F,yQ2 aF,yQ2 aE,iNn,ah,ag,fits];refine U.mono ?_;rintro _ st ⟨rfl,rfl⟩;by_cases hc:dbF (eL (l)) (.mk o5 n5 u5 s5)=dbF (eR (l)) (.mk o6 n6 u6 s6)
   ·simp only[go_sem,zE,f2,f4,f78,f79,f80,yQm.2 hc,yQb F (show sub.length<=281474976710656 by omega)];exact G hc
   ·simp only[go_sem,yQi.2 hc];exact yQ0 ⟨ae false (by simp only[bFt,false_iff];exact λh=>ab hc h.2),rfl⟩
  rintro fr st _ ⟨hn,f2,f4,f78,f79,f80,rfl,rfl⟩;rw[lTl,h3,lTl] at hn;simp only[go_sem,f79,f80,yQj (nLi _)];exact yQ0 ⟨ae true ⟨λ_=>⟨ac,hn⟩,λ_=>rfl⟩,rfl⟩
 ·rw[hq] at ae;simp only[if_true] at ae;simp only[go_sem,zE,al.len];intros;refine LoopC.ctr us.length (λk fr st' ds=>dbs (eL l) (us.take k)=dbs (eR l) (W.take k)/\fr 2=.iv (.sl tl (arI l))/\fr 3=.box [.raw (.int .u8 op),.raw (.string n),.sl t1 x1,.sl t2 x2]/\fr 4=.box [.raw (.int .u8 op),.raw (.string A),.sl t3 y1,.sl t4 y2] /\
   fr 45=.iv (.sl t1 x1)/\fr 46=.iv (.raw (.int .i64 us.length))/\fr 47=.iv (.raw (.int .i64 k))/\st'=st/\ds=[]) ?_ ?_ ?_
  ·simp only[go_sem,zE];exact⟨rfl,rfl⟩
  ·rintro k fr st _ F ⟨hn,f2,f3,f4,f45,f46,f47,rfl,rfl⟩;obtain⟨a,E⟩:=yQ3 F;obtain⟨b,J⟩:=yQ3 (h2▸F);obtain⟨x,ah,hx⟩:=al.get E;obtain⟨y,ag,hy⟩:=au.get J;have U:=zWl gl l tl htl.es (by omega) a b x y hx hy (yKn aD (lMg E)) (yKn aC (lMg J)) st;have O:=yG3 (env:=eL l) E;have aa:=yG3 (env:=eR l) J;have ab:db (eL l) a≠db (eR l) b->dbs (eL l) us≠dbs (eR l) W:=λh he=>by
    rw[he,aa] at O;exact h (Option.some.inj O).symm
   have G:db (eL l) a=db (eR l) b->dbs (eL l) (us.take (k+1))=dbs (eR l) (W.take (k+1)):=λh=>by
    rw[yK4,yK4,yQ4 O,yQ4 aa,<- yK4,<- yK4,hn,h]
   obtain⟨v2,n2,u2⟩:=a;obtain⟨v3,n3,u3⟩:=b;obtain⟨t3,x3,rfl,_⟩:=hx.mk;obtain⟨t4,x4,rfl,_⟩:=hy.mk;simp only[go_sem,zE,zB,zA,zL,f2,f4,f45,f46,f47,lt_i F,yQ2 aW,yQ2 aV,iNn,ah,ag,fits];refine U.mono ?_;rintro _ st ⟨rfl,rfl⟩;by_cases hc:db (eL l) (.mk v2 n2 u2)=db (eR l) (.mk v3 n3 u3)
   ·simp only[go_sem,zE,f2,f3,f4,f45,f46,f47,yQm.2 hc,yQb F (show us.length<=281474976710656 by omega)];exact G hc
   ·simp only[go_sem,yQi.2 hc];exact yQ0 ⟨ae false (by simp only[bFt,false_iff];exact λh=>ab hc h.1),rfl⟩
  rintro fr st _ ⟨ac,f2,f3,f4,f45,f46,f47,rfl,rfl⟩;rw[lTl,h2,lTl] at ac;simp only[go_sem,zE,zA,zL,f3,f46,f47,yQj (nLi _)];refine (yJs gl op n _ _ _ _ _).mono ?_;rintro _ st ⟨rfl,rfl⟩;rcases htl with⟨rfl,rfl⟩|⟨g0,rfl⟩
  ·simp only[go_sem,zE,zA,zM,zL,f2,f3,f4,hq,fits,ai.len,yXn,yKk,yUe,yQ1]
   first
    | refine λg=>yQd λhg=>?_
    | refine yQv ⟨by omega,by omega⟩ λg=>yQd λhg=>?_
   intros;have az:arI []++[.agg [.raw (.string n),.raw (.string A)]]=arI ([(n,A)]):=by first|rfl|(rw[yUu];rfl)
   have ay:eL ([(n,A)])=n::eL []:=by simp
   have ax:eR ([(n,A)])=A::eR []:=by simp
   try simp only[List.nil_append] at az
   try rw[az]
   refine LoopC.ctr sub.length (λk fr st' ds=>dbFs (eL ([(n,A)])) (sub.take k)=dbFs (eR ([(n,A)])) (D.take k)/\fr 2=.iv (.sl ⟨true,.app g,2⟩ (arI ([(n,A)])))/\fr 4=.box [.raw (.int .u8 op),.raw (.string A),.sl t3 y1,.sl t4 y2] /\
    fr 78=.iv (.sl t2 x2)/\fr 79=.iv (.raw (.int .i64 sub.length))/\fr 80=.iv (.raw (.int .i64 k))/\st'=(st.put g (some (.front 1 2)))/\ds=[]) ?_ ?_ ?_
   ·simp only[go_sem,zE,f4]
    first|exact⟨rfl,rfl⟩|exact⟨rfl,rfl,rfl⟩
   ·rintro k fr an _ F ⟨hn,f2,f4,f78,f79,f80,rfl,rfl⟩;obtain⟨a,E⟩:=yQ3 F;obtain⟨b,J⟩:=yQ3 (h3▸F);obtain⟨x,ah,hx⟩:=ai.get E;obtain⟨y,ag,hy⟩:=aq.get J;obtain⟨aY,aX⟩:=yQq E;have U:=IH a (lMg E) b ([(n,A)]) ⟨true,.app g,2⟩ (.inr ⟨g,rfl⟩) (by simp;omega) x y hx hy (yZq aw (lMg E)) (yZq av (lMg J)) (st.put g (some (.front 1 2)));have O:=yKu (env:=eL ([(n,A)])) E;have aa:=yKu (env:=eR ([(n,A)])) J;have ab:dbF (eL ([(n,A)])) a≠dbF (eR ([(n,A)])) b->dbFs (eL ([(n,A)])) sub≠dbFs (eR ([(n,A)])) D:=λh he=>by
     rw[he,aa] at O;exact h (Option.some.inj O).symm
    have G:dbF (eL ([(n,A)])) a=dbF (eR ([(n,A)])) b->dbFs (eL ([(n,A)])) (sub.take (k+1))=dbFs (eR ([(n,A)])) (D.take (k+1)):=λh=>by
     rw[yJ4,yJ4,yQ4 O,yQ4 aa,<- yJ4,<- yJ4,hn,h]
    obtain⟨o5,n5,u5,s5⟩:=a;obtain⟨o6,n6,u6,s6⟩:=b;obtain⟨t5,x5,t6,x6,rfl,_⟩:=hx.mk;obtain⟨t7,x7,t8,x8,rfl,_⟩:=hy.mk;simp only[go_sem,zE,zB,zA,zL,f2,f4,f78,f79,f80,lt_i F,yQ2 aF,yQ2 aE,iNn,ah,ag,fits];refine U.mono ?_;rintro _ an ⟨rfl,rfl⟩;by_cases hc:dbF (eL ([(n,A)])) (.mk o5 n5 u5 s5)=dbF (eR ([(n,A)])) (.mk o6 n6 u6 s6)
    ·simp only[go_sem,zE,f2,f4,f78,f79,f80,yQm.2 hc,yQb F (show sub.length<=281474976710656 by omega)];exact G hc
    ·simp only[go_sem,yQi.2 hc];exact yQc (yQe hg) ⟨ae false (by simp only[bFt,false_iff];exact λh=>ab hc (by rw[ay,ax];exact h.2)),rfl⟩
   rintro fr an _ ⟨hn,f2,f4,f78,f79,f80,rfl,rfl⟩;rw[lTl,h3,lTl] at hn;simp only[go_sem,f79,f80,yQj (nLi _)];rw[ay,ax] at hn;exact yQc (yQe hg) ⟨ae true ⟨λ_=>⟨ac,hn⟩,λ_=>rfl⟩,rfl⟩
  ·simp only[go_sem,zE,zA,zM,zL,reduceCtorEq,f2,f3,f4,hq,fits,ai.len,yXn,yKk,yUe,yQ1,xGr]
   first
    | refine λg=>yQd λhg=>?_
    | refine yQv ⟨by omega,by omega⟩ λg=>yQd λhg=>?_
   intros;have az:arI l++[.agg [.raw (.string n),.raw (.string A)]]=arI (l++[(n,A)]):=by first|rfl|(rw[yUu];rfl)
   have ay:eL (l++[(n,A)])=n::eL l:=by simp
   have ax:eR (l++[(n,A)])=A::eR l:=by simp
   try simp only[List.nil_append] at az
   try rw[az]
   refine LoopC.ctr sub.length (λk fr st' ds=>dbFs (eL (l++[(n,A)])) (sub.take k)=dbFs (eR (l++[(n,A)])) (D.take k)/\fr 2=.iv (.sl ⟨true,.app g,2⟩ (arI (l++[(n,A)])))/\fr 4=.box [.raw (.int .u8 op),.raw (.string A),.sl t3 y1,.sl t4 y2] /\
    fr 78=.iv (.sl t2 x2)/\fr 79=.iv (.raw (.int .i64 sub.length))/\fr 80=.iv (.raw (.int .i64 k))/\st'=(st.put g (some (.front (l.length+1) 2)))/\ds=[]) ?_ ?_ ?_
   ·simp only[go_sem,zE,f4]
    first|exact⟨rfl,rfl⟩|exact⟨rfl,rfl,rfl⟩
   ·rintro k fr an _ F ⟨hn,f2,f4,f78,f79,f80,rfl,rfl⟩;obtain⟨a,E⟩:=yQ3 F;obtain⟨b,J⟩:=yQ3 (h3▸F);obtain⟨x,ah,hx⟩:=ai.get E;obtain⟨y,ag,hy⟩:=aq.get J;obtain⟨aY,aX⟩:=yQq E;have U:=IH a (lMg E) b (l++[(n,A)]) ⟨true,.app g,2⟩ (.inr ⟨g,rfl⟩) (by simp;omega) x y hx hy (yZq aw (lMg E)) (yZq av (lMg J)) (st.put g (some (.front (l.length+1) 2)));have O:=yKu (env:=eL (l++[(n,A)])) E;have aa:=yKu (env:=eR (l++[(n,A)])) J;have ab:dbF (eL (l++[(n,A)])) a≠dbF (eR (l++[(n,A)])) b->dbFs (eL (l++[(n,A)])) sub≠dbFs (eR (l++[(n,A)])) D:=λh he=>by
     rw[he,aa] at O;exact h (Option.some.inj O).symm
    have G:dbF (eL (l++[(n,A)])) a=dbF (eR (l++[(n,A)])) b->dbFs (eL (l++[(n,A)])) (sub.take (k+1))=dbFs (eR (l++[(n,A)])) (D.take (k+1)):=λh=>by
     rw[yJ4,yJ4,yQ4 O,yQ4 aa,<- yJ4,<- yJ4,hn,h]
    obtain⟨o5,n5,u5,s5⟩:=a;obtain⟨o6,n6,u6,s6⟩:=b;obtain⟨t5,x5,t6,x6,rfl,_⟩:=hx.mk;obtain⟨t7,x7,t8,x8,rfl,_⟩:=hy.mk;simp only[go_sem,zE,zB,zA,zL,f2,f4,f78,f79,f80,lt_i F,yQ2 aF,yQ2 aE,iNn,ah,ag,fits];refine U.mono ?_;rintro _ an ⟨rfl,rfl⟩;by_cases hc:dbF (eL (l++[(n,A)])) (.mk o5 n5 u5 s5)=dbF (eR (l++[(n,A)])) (.mk o6 n6 u6 s6)
    ·simp only[go_sem,zE,f2,f4,f78,f79,f80,yQm.2 hc,yQb F (show sub.length<=281474976710656 by omega)];exact G hc
    ·simp only[go_sem,yQi.2 hc];exact yQc (yQe hg) ⟨ae false (by simp only[bFt,false_iff];exact λh=>ab hc (by rw[ay,ax];exact h.2)),rfl⟩
   rintro fr an _ ⟨hn,f2,f4,f78,f79,f80,rfl,rfl⟩;rw[lTl,h3,lTl] at hn;simp only[go_sem,f79,f80,yQj (nLi _)];rw[ay,ax] at hn;exact yQc (yQe hg) ⟨ae true ⟨λ_=>⟨ac,hn⟩,λ_=>rfl⟩,rfl⟩
theorem xK3:∀(k:Nat)(t:Fm),SizeOf.sizeOf t<k->AK gl t
 | 0,f,h=>by omega
 | k+1,.mk o n us sub,h=>wQx gl o n us sub (λa A=>xK3 k a (by
   have:=lSm A;simp at h;omega))
theorem vXm (t:Fm):AK gl t:=xK3 gl _ t (Nat.lt_succ_self _)
