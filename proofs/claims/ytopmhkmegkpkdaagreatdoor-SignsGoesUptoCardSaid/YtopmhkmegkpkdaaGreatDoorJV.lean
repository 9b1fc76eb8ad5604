/- Walks: alikeTerm. -/
import Derived.Test.YtopmhkmegkpkdaaGreatDoorJU
set_option linter.all false
open Nat renaming reduceEqDiff → zE,reduceBEq → zB,reduceAdd → zA,reduceMul → zM,reduceLeDiff → zL
namespace Go.Proofs.Tryz
open Go Go.Iv
set_option maxRecDepth 4000
variable (gl:Nat->Option IV)
def arI (l:Ar):List IV:=l.map λp=>.agg [.raw (.string p.1),.raw (.string p.2)]
def wI (l:Ar):(arI l).length=l.length:=by simp[arI]
def tB {l:Ar}{k:Nat}{p:ByteArray×ByteArray}(h:l[k]?=some p):(arI l)[k]?=some (.agg [p.1,p.2]):=by simp[arI,h]
def KJ (l m:Ar):arI (l++m)=arI l++arI m:=by simp[arI]
abbrev eL (l:Ar):List ByteArray:=l.reverse.map (·.1)
abbrev eR (l:Ar):List ByteArray:=l.reverse.map (·.2)
def KK {l:Ar}{k:Nat}{p:ByteArray×ByteArray}(h:l[k]?=some p):eL (l.take (k+1))=p.1::eL (l.take k)/\eR (l.take (k+1))=p.2::eR (l.take k):=by
 rw[dK h];simp
def KL (l:Ar):(eL l).length=(eR l).length:=by simp
def tD (env:List ByteArray):∀l:List Tm,(dbs env l).length=l.length
 | []=>rfl
 | a::l=>by simp only[dbs,eG,tD env l]
def na (env:List ByteArray):∀(l:List Tm) (k:Nat),dbs env (l.take k)=(dbs env l).take k
 | [],k=>by simp[dbs]
 | a::l,0=>by simp[dbs]
 | a::l,k+1=>by simp only[kD,dbs,na env l k]
def rH {env:List ByteArray}:∀ {l:List Tm} {k:Nat} {a:Tm},l[k]?=some a->(dbs env l)[k]?=some (db env a)
 | [],k,a,h=>by simp at h
 | b::l,0,a,h=>by simp at h;subst h;rfl
 | b::l,k+1,a,h=>by simp only[dbs,iV];exact rH (by simpa using h)
def rI:∀ {l:List Tm}{a:Tm},fT l=true->a∈l->a.ok=true
 | b::l,a,h,hm=>by
  rcases dC.1 hm with rfl|hm
  ·exact (p8 h).1
  ·exact rI (p8 h).2 hm
def tE:∀ {l:List Fm}{a:Fm},gC l=true->a∈l->a.ok=true
 | b::l,a,h,hm=>by
  rcases dC.1 hm with rfl|hm
  ·exact (p9 h).1
  ·exact tE (p9 h).2 hm
section
variable (l:Ar)(tl:Tag)(htl:okEs tl 2)(hll:l.length<=1099511627776)
def AT (t:Tm):Prop:=∀(u:Tm) (x y:IV) (_:IsTm t x) (_:IsTm u y) (_:t.ok=true) (_:u.ok=true) (st:ISt),
 ICall prog gl 290 [x,y,.sl tl (arI l)] st (λr st'=>r=(eqB (db (eL l) t) (db (eR l) u):Bool)/\st'=st)
include htl hll in
def KM (v:Bool)(n:ByteArray)(us:List Tm)(IH:∀a∈us,AT gl l tl a):AT gl l tl (.mk v n us):=by
 rintro⟨w,m,ws⟩ x y hx hy ak ae st;obtain⟨t1,x1,rfl,av,U⟩:=hx.mk;obtain⟨t2,y1,rfl,au,O⟩:=hy.mk;refine iI func290 ?_;cases v<;>cases w
 ·by_cases aa:us.length=ws.length
  ·have A:decide ((us.length:Int)=(ws.length:Int))=true:=dEt (by omega);by_cases D:n=m
   ·subst D;simp only[go_sem,zE,U.len,O.len,A,dR,beq_self_eq_true];intros;refine cV us.length (λk fr st' ds=>dbs (eL l) (us.take k)=dbs (eR l) (ws.take k)/\fr 2=.iv (.sl tl (arI l))/\fr 3=.box [false,n,.sl t1 x1]/\fr 4=.box [false,n,.sl t2 y1] /\
     fr 34=.iv (.sl t1 x1)/\fr 35=us.length/\fr 36=.iv (.raw (.int .i64 k))/\st'=st/\ds=[]) ?_ ?_ ?_
    ·simp only[go_sem,zE];exact⟨rfl,rfl⟩
    ·rintro k fr st _ W ⟨E,f2,f3,f4,f34,f35,f36,rfl,rfl⟩;obtain⟨a,ac⟩:=dd W;obtain⟨b,ag⟩:=dd (aa▸W);obtain⟨x,ay,hx⟩:=U.get ac;obtain⟨y,ax,hy⟩:=O.get ag;have ai:=IH a (lMg ac) b x y hx hy (rI (ti ak) (lMg ac)) (rI (ti ae) (lMg ag)) st;have ah:=rH (env:=eL l) ac;have an:=rH (env:=eR l) ag;have aw:db (eL l) a≠db (eR l) b->eqB (db (eL l) (.mk false n us)) (db (eR l) (.mk false n ws))=false:=λh=>by
      rw[yQt];simp only[db];intro he;injection he with _ he;rw[he,an] at ah;exact h (eK ah).symm
     have af:db (eL l) a=db (eR l) b->dbs (eL l) (us.take (k+1))=dbs (eR l) (ws.take (k+1)):=λh=>by
      rw[na,na,dK ah,dK an,<- na,<- na,E,h]
     obtain⟨v2,n2,u2⟩:=a;obtain⟨v3,n3,u3⟩:=b;obtain⟨t3,x3,rfl,_⟩:=hx.mk;obtain⟨t4,x4,rfl,_⟩:=hy.mk;simp only[go_sem,zE,zB,zA,zL,f2,f4,f34,f35,f36,lt_i W,dc av,dc au,iNn,ay,ax,fits];refine ai.mono ?_;rintro _ st ⟨rfl,rfl⟩;by_cases hc:db (eL l) (.mk v2 n2 u2)=db (eR l) (.mk v3 n3 u3)
     ·simp only[go_sem,zE,f2,f3,f4,f34,f35,f36,yZ5.2 hc,df W (by omega)];exact af hc
     ·simp only[go_sem,yQt.2 hc];exact cO ⟨by rw[aw hc],rfl⟩
    ·rintro fr st _ ⟨E,f2,f3,f4,f34,f35,f36,rfl,rfl⟩;simp only[go_sem,f35,f36,dD (nLi _)];refine cO ⟨?_,rfl⟩;rw[lTl,aa,lTl] at E;rw[yZ5.2 (by simp only[db,E])]
   ·simp only[go_sem,zE,U.len,O.len,A,dEf D,beq_self_eq_true];intros;refine cO ⟨?_,rfl⟩;rw[yQt.2];simp only[db];intro he;injection he with he;exact D he
  ·have A:decide ((us.length:Int)=(ws.length:Int))=false:=dEf (by omega);simp only[go_sem,zE,U.len,O.len,A,beq_self_eq_true];intros;refine cO ⟨?_,rfl⟩;rw[yQt.2];simp only[db];intro he;injection he with _ he;have:=et List.length he;rw[tD,tD] at this;exact aa this
 ·simp only[go_sem,zE,zA,show (false == true)=false from rfl];refine cO ⟨?_,rfl⟩;rw[yQt.2];simp only[db];exact λh=>CC h.symm
 ·simp only[go_sem,zE,zA,show (true == false)=false from rfl];refine cO ⟨?_,rfl⟩;rw[yQt.2];simp only[db];exact λh=>CC h
 ·obtain rfl:=th ak;obtain rfl:=th ae;have aH:decide (((([]:List Tm).length:Nat):Int)=((([]:List Tm).length:Nat):Int))=true:=dEt rfl;have ar:IntKind.i64.wrap ((l.length:Int)-1)=(l.length:Int)-1:=by rw[w64]<;>omega
  simp only[db];simp only[go_sem,zE,zL,U.len,O.len,dR,wI,ar];intro aC;refine cV l.length (λk fr st' ds=>(gT (eL l) n=gT (eR l) m↔gT (eL (l.take (l.length-k))) n=gT (eR (l.take (l.length-k))) m)/\fr 2=.iv (.sl tl (arI l)) /\
   fr 3=.box [true,n,.sl t1 x1]/\fr 4=.box [true,m,.sl t2 y1]/\fr 9=(((l.length-k:Nat):Int)-1:Int)/\st'=st/\ds=[]) ?_ ?_ ?_
  ·simp only[go_sem,zE,lTl]
  ·rintro k fr st _ W ⟨E,f2,f3,f4,f9,rfl,rfl⟩;obtain⟨j,hj⟩:∃j,l.length-k=j+1:=⟨l.length-k-1,by omega⟩
   obtain⟨p,hp⟩:=dd (show j<l.length by omega);obtain⟨e1,e2⟩:=KK hp;rw[hj,e1,e2,KH (KL _)] at E;rw[hj,show (((j+1:Nat):Int)-1)=(j:Int) by omega] at f9;have hw:IntKind.i64.wrap ((j:Int)-1)=(((l.length-(k+1):Nat):Int)-1):=by rw[w64]<;>omega
   have az:l.length-(k+1)=j:=by omega
   by_cases h1:p.1=n
   ·by_cases h2:p.2=m
    ·have hi:=E.2 (by rw[b_ (.inl h1.symm)];exact⟨h1.symm,h2.symm⟩);simp only[go_sem,zE,zB,zA,zL,f2,f3,f4,f9,dR,dc htl,iNn,tB hp,fits,dEt h1,dEt h2];exact cO ⟨by rw[yZ5.2 hi],rfl⟩
    ·have hi:¬ gT (eL l) n=gT (eR l) m:=λh=>by
      have:=E.1 h;rw[b_ (.inl h1.symm)] at this;exact h2 this.2.symm
     simp only[go_sem,zE,zB,zA,zL,f2,f3,f4,f9,dR,dc htl,iNn,tB hp,fits,dEt h1,dEf h2];exact cO ⟨by rw[yQt.2 hi],rfl⟩
   ·by_cases h2:p.2=m
    ·have hi:¬ gT (eL l) n=gT (eR l) m:=λh=>by
      have:=E.1 h;rw[b_ (.inr h2.symm)] at this;exact h1 this.1.symm
     simp only[go_sem,zE,zB,zA,zL,f2,f3,f4,f9,dR,dc htl,iNn,tB hp,fits,dEf h1,dEt h2];exact cO ⟨by rw[yQt.2 hi],rfl⟩
    ·rw[a_ (λh=>h.elim (λh=>h1 h.symm) (λh=>h2 h.symm))] at E;simp only[go_sem,zE,zB,zA,zL,f2,f3,f4,f9,dR,dc htl,iNn,tB hp,fits,dEf h1,dEf h2,hw];rw[az];exact E
  ·rintro fr st _ ⟨E,f2,f3,f4,f9,rfl,rfl⟩;rw[jV,List.take_zero] at E;rw[jV] at f9;have hz:gT (eL l) n=gT (eR l) m↔n=m:=by rw[E];simp[KI]
   simp only[go_sem,zE,f3,f4,f9,show decide ((0:Int)<=(((0:Nat):Int)-1))=false from rfl];refine cO ⟨?_,rfl⟩;by_cases D:n=m
   ·rw[yZ5.2 (hz.2 D),dEt D]
   ·rw[yQt.2 (λh=>D (hz.1 h)),dEf D]
include htl hll in
def CD:∀(k:Nat)(t:Tm),SizeOf.sizeOf t<k->AT gl l tl t
 | 0,f,h=>by omega
 | k+1,.mk v n us,h=>KM gl l tl htl hll v n us (λa A=>CD k a (by
   have:=lSm A;simp at h;omega))
include htl hll in
def KN (t:Tm):AT gl l tl t:=CD gl l tl htl hll _ t (dM _)
end
def KO (l:Ar):List.take l.length (arI l)=arI l:=by rw[<- wI,lTl]
def KP (n:Nat):gK none (some (n:Int)) n=some (0,n):=by
 unfold gK;simp
def dP (x:Operand):jH 1 [(0,x)]=true:=rfl
def arT (tl:Tag)(l:Ar):Prop:=(tl=⟨true,.nil,0⟩/\l=[])\/∃g,tl=⟨true,.app g,2⟩
def arT.es {tl:Tag}{l:Ar}(h:arT tl l):okEs tl 2:=by
 rcases h with⟨rfl,_⟩|⟨g,rfl⟩
 ·exact .inl rfl
 ·exact .inr rfl
def CE (env:List ByteArray):∀l:List Fm,(dbFs env l).length=l.length
 | []=>rfl
 | a::l=>by simp only[dbFs,eG,CE env l]
def rJ (env:List ByteArray):∀(l:List Fm) (k:Nat),dbFs env (l.take k)=(dbFs env l).take k
 | [],k=>by simp[dbFs]
 | a::l,0=>by simp[dbFs]
 | a::l,k+1=>by simp only[kD,dbFs,rJ env l k]
def wJ {env:List ByteArray}:∀ {l:List Fm} {k:Nat} {a:Fm},l[k]?=some a->(dbFs env l)[k]?=some (dbF env a)
 | [],k,a,h=>by simp at h
 | b::l,0,a,h=>by simp at h;subst h;rfl
 | b::l,k+1,a,h=>by simp only[dbFs,iV];exact wJ (by simpa using h)
def AK (f:Fm):Prop:=∀(g:Fm) (l:Ar) (tl:Tag) (_:arT tl l) (_:l.length+f.size<=1099511627776) (x y:IV) (_:IsFm f x) (_:IsFm g y) (_:f.ok=true) (_:g.ok=true) (st:ISt),
 ICall prog gl 266 [x,y,.sl tl (arI l)] st (λr st'=>r=(eqB (dbF (eL l) f) (dbF (eR l) g):Bool)/\st'=st)
def KQ (op:Nat)(n:ByteArray)(us:List Tm)(sub:List Fm)(IH:∀a∈sub,AK gl a):AK gl (.mk op n us sub):=by
 rintro⟨ag,U,D,A⟩ l tl htl hll x y hx hy aR aH st;obtain⟨t1,x1,t2,x2,rfl,bo,aO,af,aN,ah⟩:=hx.mk;obtain⟨t3,y1,t4,y2,rfl,bn,aM,an,aL,aq⟩:=hy.mk;obtain⟨aG,aF,_⟩:=tj aR;obtain⟨aE,aD,_⟩:=tj aH;simp only[Fm.size] at hll;have ao:∀(P:Prop),(op=ag->(if isQ op then (⟨#[]⟩:ByteArray) else n)=(if isQ op then ⟨#[]⟩ else U)->dbs (eL l) us=dbs (eR l) D->dbFs (if isQ op then n::eL l else eL l) sub=dbFs (if isQ op then U::eR l else eR l) A->P)->¬ P →
   eqB (dbF (eL l) (.mk op n us sub)) (dbF (eR l) (.mk ag U D A))=false:=λP h hP=>by
  rw[yQt];intro he;simp only[dbF] at he;injection he with h1 h2 h3 h4;subst h1;exact hP (h rfl h2 h3 h4)
 refine iI func266 ?_;by_cases h1:op=ag
 case neg =>
  simp only[go_sem,zE,zA,show decide ((op:Int)=(ag:Int))=false from dEf (by omega)];intros;exact cO ⟨by rw[ao (op=ag) (λh _ _ _=>h) h1],rfl⟩
 subst h1;by_cases h2:us.length=D.length
 case neg =>
  simp only[go_sem,zE,dR,af.len,an.len,show decide ((us.length:Int)=(D.length:Int))=false from dEf (by omega)];intros;exact cO ⟨by rw[ao (us.length=D.length) (λ_ _ h _=>by have:=et List.length h;simpa[tD] using this) h2],rfl⟩
 by_cases h3:sub.length=A.length
 case neg =>
  simp only[go_sem,zE,dR,af.len,an.len,show decide ((us.length:Int)=(D.length:Int))=true from dEt (by omega),ah.len,aq.len,show decide ((sub.length:Int)=(A.length:Int))=false from dEf (by omega)];intros;exact cO ⟨by rw[ao (sub.length=A.length) (λ_ _ _ h=>by have:=et List.length h;simpa[CE] using this) h3],rfl⟩
 have F2:decide ((us.length:Int)=(D.length:Int))=true:=dEt (by omega);have F3:decide ((sub.length:Int)=(A.length:Int))=true:=dEt (by omega);have a7:=mv us;have a6:=h_ sub;simp only[go_sem,zE,zA,zL,dR,af.len,an.len,F2,ah.len,aq.len,F3];intros;refine (rC gl op n _ _ _ _ _).q ?_;by_cases h4:isQ op=true\/n=U
 case neg =>
  have h5:isQ op=false:=by simpa using λh=>h4 (.inl h)
  have h6:n≠U:=λh=>h4 (.inr h);simp only[go_sem,zE,zA,h5,dEf h6];exact cO ⟨by rw[ao (n=U) (λ_ h _ _=>by simpa[h5] using h) h6],rfl⟩
 have ae:∀r:Bool,(r=true↔dbs (eL l) us=dbs (eR l) D/\dbFs (if isQ op then n::eL l else eL l) sub=dbFs (if isQ op then U::eR l else eR l) A) →
   IV.raw (.bool r)=(eqB (dbF (eL l) (.mk op n us sub)) (dbF (eR l) (.mk op U D A)):Bool):=λr hr=>by
  congr 2;rw[mf,hr,yZ5];simp only[dbF];constructor
  ·rintro⟨e1,e2⟩;rw[e1,e2];congr 1;rcases h4 with h|h
   ·simp[h]
   ·rw[h]
  ·intro h;injection h with _ _ e1 e2;exact⟨e1,e2⟩
 have hD:isQ op=false->decide (n=U)=true:=λh=>dEt (h4.resolve_left (by simp[h]));cases hq:isQ op
 all_goals
  rw[hq] at ae;simp only[bFt,dJ,dB] at ae
  first|have hd:=hD hq|have hd:=af.len
  simp only[go_sem,zE,zA,hd,af.len];intros;refine cV us.length (λk fr st' ds=>dbs (eL l) (us.take k)=dbs (eR l) (D.take k)/\fr 2=.iv (.sl tl (arI l))/\fr 3=.box [.raw (.int .u8 op),n,.sl t1 x1,.sl t2 x2]/\fr 4=.box [.raw (.int .u8 op),U,.sl t3 y1,.sl t4 y2] /\
   fr 45=.iv (.sl t1 x1)/\fr 46=us.length/\fr 47=.iv (.raw (.int .i64 k))/\st'=st/\ds=[]) ?_ ?_ ?_
  ·simp only[go_sem,zE];exact⟨rfl,rfl⟩
  ·rintro k fr st _ E ⟨hn,f2,f3,f4,f45,f46,f47,rfl,rfl⟩;obtain⟨a,O⟩:=dd E;obtain⟨b,aa⟩:=dd (h2▸E);obtain⟨x,ay,hx⟩:=af.get O;obtain⟨y,ax,hy⟩:=an.get aa;have ac:=KN gl l tl htl.es (by omega) a b x y hx hy (rI aG (lMg O)) (rI aE (lMg aa)) st;have ab:=rH (env:=eL l) O;have ai:=rH (env:=eR l) aa;have aj:db (eL l) a≠db (eR l) b->dbs (eL l) us≠dbs (eR l) D:=λh he=>by
    rw[he,ai] at ab;exact h (eK ab).symm
   have W:db (eL l) a=db (eR l) b->dbs (eL l) (us.take (k+1))=dbs (eR l) (D.take (k+1)):=λh=>by
    rw[na,na,dK ab,dK ai,<- na,<- na,hn,h]
   obtain⟨v2,n2,u2⟩:=a;obtain⟨v3,n3,u3⟩:=b;obtain⟨t3,x3,rfl,_⟩:=hx.mk;obtain⟨t4,x4,rfl,_⟩:=hy.mk;simp only[go_sem,zE,zB,zA,zL,f2,f4,f45,f46,f47,lt_i E,dc aO,dc aM,iNn,ay,ax,fits];refine ac.mono ?_;rintro _ st ⟨rfl,rfl⟩;by_cases hc:db (eL l) (.mk v2 n2 u2)=db (eR l) (.mk v3 n3 u3)
   ·simp only[go_sem,zE,f2,f3,f4,f45,f46,f47,yZ5.2 hc,df E (by omega)];exact W hc
   ·simp only[go_sem,yQt.2 hc];exact cO ⟨ae false (by simp only[bFt,false_iff];exact λh=>aj hc h.1),rfl⟩
  rintro fr st _ ⟨ak,f2,f3,f4,f45,f46,f47,rfl,rfl⟩;rw[lTl,h2,lTl] at ak;simp only[go_sem,zE,zA,zL,f3,f46,f47,dD (nLi _)];refine (rC gl op n _ _ _ _ _).q ?_
 simp only[go_sem,zE,f3,hq,ah.len];intros;obtain⟨m,tm,sm,hm,aC,au⟩:∃m tm sm,m=l/\tm=tl/\sm=st:=⟨_,_,_,rfl,rfl,rfl⟩
 have av:arT tm m:=by rw[hm,aC];exact htl
 have aS:m.length<=l.length+1:=by rw[hm];omega
 have aw:=subSt.refl sm;rw[<- hm,<- aC] at f2;rw[<- au];rw[show dbFs (eL l) sub=dbFs (eL m) sub by rw[hm],show dbFs (eR l) A=dbFs (eR m) A by rw[hm]] at ae
 rotate_left
 obtain⟨m,hm⟩:∃m,m=l++[(n,U)]:=⟨_,rfl⟩
 have aJ:arI l++[.agg [n,U]]=arI m:=by rw[hm,KJ];rfl
 have aU:eL m=n::eL l:=by rw[hm];simp
 have aT:eR m=U::eR l:=by rw[hm];simp
 have aS:m.length<=l.length+1:=by rw[hm];simp
 rw[<- aU,<- aT] at ae;rcases htl with⟨rfl,rfl⟩|⟨g0,rfl⟩
 all_goals try
  simp only[go_sem,zE,zA,zM,zL,reduceCtorEq,f2,f3,f4,hq,fits,ah.len,k_,wI,KP,dP,KO]
  first
   | refine λg=>eB λhg=>?_
   | refine gv ⟨by omega,by omega⟩ λg=>eB λhg=>?_
  intros
  first
   | rw[aJ]
   | rw[show[IV.agg [n,U]]=arI m from aJ]
  have av:arT ⟨true,.app g,2⟩ m:=.inr ⟨g,rfl⟩;generalize (⟨true,.app g,2⟩:Tag)=tm at av ⊢;generalize au:ISt.put st g _=sm;have aw:subSt st sm:=by rw[<- au];exact fj hg
 all_goals
  refine cV sub.length (λk fr st' ds=>dbFs (eL m) (sub.take k)=dbFs (eR m) (A.take k)/\fr 2=.iv (.sl tm (arI m))/\fr 4=.box [.raw (.int .u8 op),U,.sl t3 y1,.sl t4 y2] /\
   fr 78=.iv (.sl t2 x2)/\fr 79=sub.length/\fr 80=.iv (.raw (.int .i64 k))/\st'=sm/\ds=[]) ?_ ?_ ?_
  ·simp only[go_sem,zE,f2,f4];exact⟨rfl,rfl⟩
  ·rintro k fr sm _ E ⟨hn,f2,f4,f78,f79,f80,rfl,rfl⟩;obtain⟨a,O⟩:=dd E;obtain⟨b,aa⟩:=dd (h3▸E);obtain⟨x,ay,hx⟩:=ah.get O;obtain⟨y,ax,hy⟩:=aq.get aa;obtain⟨hs1,hs2⟩:=jK O;have ac:=IH a (lMg O) b m tm av (by omega) x y hx hy (tE aF (lMg O)) (tE aD (lMg aa)) sm;have ab:=wJ (env:=eL m) O;have ai:=wJ (env:=eR m) aa;have aj:dbF (eL m) a≠dbF (eR m) b->dbFs (eL m) sub≠dbFs (eR m) A:=λh he=>by
    rw[he,ai] at ab;exact h (eK ab).symm
   have W:dbF (eL m) a=dbF (eR m) b->dbFs (eL m) (sub.take (k+1))=dbFs (eR m) (A.take (k+1)):=λh=>by
    rw[rJ,rJ,dK ab,dK ai,<- rJ,<- rJ,hn,h]
   obtain⟨o5,n5,u5,s5⟩:=a;obtain⟨o6,n6,u6,s6⟩:=b;obtain⟨t5,x5,t6,x6,rfl,_⟩:=hx.mk;obtain⟨t7,x7,t8,x8,rfl,_⟩:=hy.mk;simp only[go_sem,zE,zB,zA,zL,f2,f4,f78,f79,f80,lt_i E,dc aN,dc aL,iNn,ay,ax,fits];refine ac.mono ?_;rintro _ sm ⟨rfl,rfl⟩;by_cases hc:dbF (eL m) (.mk o5 n5 u5 s5)=dbF (eR m) (.mk o6 n6 u6 s6)
   ·simp only[go_sem,zE,f2,f4,f78,f79,f80,yZ5.2 hc,df E (by omega)];exact W hc
   ·simp only[go_sem,yQt.2 hc];exact dZ aw ⟨ae false (by simp only[bFt,false_iff];exact λh=>aj hc h.2),rfl⟩
  rintro fr sm _ ⟨hn,f2,f4,f78,f79,f80,rfl,rfl⟩;rw[lTl,h3,lTl] at hn;simp only[go_sem,f79,f80,dD (nLi _)];exact dZ aw ⟨ae true ⟨λ_=>⟨ak,hn⟩,λ_=>rfl⟩,rfl⟩
def CF:∀(k:Nat)(t:Fm),SizeOf.sizeOf t<k->AK gl t
 | 0,f,h=>by omega
 | k+1,.mk o n us sub,h=>KQ gl o n us sub (λa A=>CF k a (by
   have:=lSm A;simp at h;omega))
def KR (t:Fm):AK gl t:=CF gl _ t (dM _)
