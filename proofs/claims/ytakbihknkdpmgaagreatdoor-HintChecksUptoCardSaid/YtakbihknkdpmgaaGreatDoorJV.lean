/- Walks: alikeTerm. -/
import Derived.Test.YtakbihknkdpmgaaGreatDoorJU
set_option linter.all false
open Nat renaming reduceEqDiff → zE,reduceBEq → zB,reduceAdd → zA,reduceMul → zM,reduceLeDiff → zL
namespace Go.Proofs.Tryz
open Go Go.Iv
set_option maxRecDepth 4000
variable (gl:Nat->Option IV)
def arI (l:Ar):List IV:=l.map λp=>.agg [.raw (.string p.1),.raw (.string p.2)]
def pP (l:Ar):(arI l).length=l.length:=by simp[arI]
def oD {l:Ar}{k:Nat}{p:ByteArray×ByteArray}(h:l[k]?=some p):(arI l)[k]?=some (.agg [p.1,p.2]):=by simp[arI,h]
def C5 (l m:Ar):arI (l++m)=arI l++arI m:=by simp[arI]
abbrev eL (l:Ar):List ByteArray:=l.reverse.map (·.1)
abbrev eR (l:Ar):List ByteArray:=l.reverse.map (·.2)
def K8 {l:Ar}{k:Nat}{p:ByteArray×ByteArray}(h:l[k]?=some p):eL (l.take (k+1))=p.1::eL (l.take k)/\eR (l.take (k+1))=p.2::eR (l.take k):=by
 rw[dE h];simp
def K9 (l:Ar):(eL l).length=(eR l).length:=by simp
def uq (env:List ByteArray):∀l:List Tm,(dbs env l).length=l.length
 | []=>rfl
 | a::l=>by simp only[dbs,dV,uq env l]
def mR (env:List ByteArray):∀(l:List Tm) (k:Nat),dbs env (l.take k)=(dbs env l).take k
 | [],k=>by simp[dbs]
 | a::l,0=>by simp[dbs]
 | a::l,k+1=>by simp only[ko,dbs,mR env l k]
def rH {env:List ByteArray}:∀ {l:List Tm} {k:Nat} {a:Tm},l[k]?=some a->(dbs env l)[k]?=some (db env a)
 | [],k,a,h=>by simp at h
 | b::l,0,a,h=>by simp at h;subst h;rfl
 | b::l,k+1,a,h=>by simp only[dbs,gJ];exact rH (by simpa using h)
def rI:∀ {l:List Tm}{a:Tm},jf l=true->a∈l->a.ok=true
 | b::l,a,h,hm=>by
  rcases dN.1 hm with rfl|hm
  ·exact (pN h).1
  ·exact rI (pN h).2 hm
def ur:∀ {l:List Fm}{a:Fm},gj l=true->a∈l->a.ok=true
 | b::l,a,h,hm=>by
  rcases dN.1 hm with rfl|hm
  ·exact (pO h).1
  ·exact ur (pO h).2 hm
section
variable (l:Ar)(tl:Tag)(htl:okEs tl 2)(hll:l.length<=1099511627776)
def AT (t:Tm):Prop:=∀(u:Tm) (x y:IV) (_:IsTm t x) (_:IsTm u y) (_:t.ok=true) (_:u.ok=true) (st:ISt),
 ICall prog gl 199 [x,y,.sl tl (arI l)] st (λr st'=>r=(eqB (db (eL l) t) (db (eR l) u):Bool)/\st'=st)
include htl hll in
def K_ (v:Bool)(n:ByteArray)(us:List Tm)(IH:∀a∈us,AT gl l tl a):AT gl l tl (.mk v n us):=by
 rintro⟨w,m,ws⟩ x y hx hy ai ac st;obtain⟨t1,x1,rfl,au,J⟩:=hx.mk;obtain⟨t2,y1,rfl,aq,G⟩:=hy.mk;refine iI func199 ?_;cases v<;>cases w
 ·by_cases U:us.length=ws.length
  ·have A:decide ((us.length:Int)=(ws.length:Int))=true:=dEt (by omega);by_cases D:n=m
   ·subst D;simp only[go_sem,zE,J.len,G.len,A,dA,beq_self_eq_true];intros;refine dj us.length (λk fr st' ds=>dbs (eL l) (us.take k)=dbs (eR l) (ws.take k)/\fr 2=.iv (.sl tl (arI l))/\fr 3=.box [false,n,.sl t1 x1]/\fr 4=.box [false,n,.sl t2 y1] /\
     fr 34=.iv (.sl t1 x1)/\fr 35=us.length/\fr 36=.iv (.raw (.int .i64 k))/\st'=st/\ds=[]) ?_ ?_ ?_
    ·simp only[go_sem,zE];exact⟨rfl,rfl⟩
    ·rintro k fr st _ O ⟨E,f2,f3,f4,f34,f35,f36,rfl,rfl⟩;obtain⟨a,ab⟩:=dB O;obtain⟨b,af⟩:=dB (U▸O);obtain⟨x,ax,hx⟩:=J.get ab;obtain⟨y,aw,hy⟩:=G.get af;have ah:=IH a (lMg ab) b x y hx hy (rI (uj ai) (lMg ab)) (rI (uj ac) (lMg af)) st;have ag:=rH (env:=eL l) ab;have ak:=rH (env:=eR l) af;have av:db (eL l) a≠db (eR l) b->eqB (db (eL l) (.mk false n us)) (db (eR l) (.mk false n ws))=false:=λh=>by
      rw[yQo];simp only[db];intro he;injection he with _ he;rw[he,ak] at ag;exact h (eE ag).symm
     have ae:db (eL l) a=db (eR l) b->dbs (eL l) (us.take (k+1))=dbs (eR l) (ws.take (k+1)):=λh=>by
      rw[mR,mR,dE ag,dE ak,<- mR,<- mR,E,h]
     obtain⟨v2,n2,u2⟩:=a;obtain⟨v3,n3,u3⟩:=b;obtain⟨t3,x3,rfl,_⟩:=hx.mk;obtain⟨t4,x4,rfl,_⟩:=hy.mk;simp only[go_sem,zE,zB,zA,zL,f2,f4,f34,f35,f36,lt_i O,dz au,dz aq,iNn,ax,aw,fits];refine ah.mono ?_;rintro _ st ⟨rfl,rfl⟩;by_cases hc:db (eL l) (.mk v2 n2 u2)=db (eR l) (.mk v3 n3 u3)
     ·simp only[go_sem,zE,f2,f3,f4,f34,f35,f36,yQx.2 hc,dC O (by omega)];exact ae hc
     ·simp only[go_sem,yQo.2 hc];exact c_ ⟨by rw[av hc],rfl⟩
    ·rintro fr st _ ⟨E,f2,f3,f4,f34,f35,f36,rfl,rfl⟩;simp only[go_sem,f35,f36,dF (nLi _)];refine c_ ⟨?_,rfl⟩;rw[lTl,U,lTl] at E;rw[yQx.2 (by simp only[db,E])]
   ·simp only[go_sem,zE,J.len,G.len,A,dEf D,beq_self_eq_true];intros;refine c_ ⟨?_,rfl⟩;rw[yQo.2];simp only[db];intro he;injection he with he;exact D he
  ·have A:decide ((us.length:Int)=(ws.length:Int))=false:=dEf (by omega);simp only[go_sem,zE,J.len,G.len,A,beq_self_eq_true];intros;refine c_ ⟨?_,rfl⟩;rw[yQo.2];simp only[db];intro he;injection he with _ he;have:=dX List.length he;rw[uq,uq] at this;exact U this
 ·simp only[go_sem,zE,zA,show (false == true)=false from rfl];refine c_ ⟨?_,rfl⟩;rw[yQo.2];simp only[db];exact λh=>C3 h.symm
 ·simp only[go_sem,zE,zA,show (true == false)=false from rfl];refine c_ ⟨?_,rfl⟩;rw[yQo.2];simp only[db];exact λh=>C3 h
 ·obtain rfl:=ui ai;obtain rfl:=ui ac;have aI:decide (((([]:List Tm).length:Nat):Int)=((([]:List Tm).length:Nat):Int))=true:=dEt rfl;have ao:IntKind.i64.wrap ((l.length:Int)-1)=(l.length:Int)-1:=by rw[w64]<;>omega
  simp only[db];simp only[go_sem,zE,zL,J.len,G.len,dA,pP,ao];intro aB;refine dj l.length (λk fr st' ds=>(gP (eL l) n=gP (eR l) m↔gP (eL (l.take (l.length-k))) n=gP (eR (l.take (l.length-k))) m)/\fr 2=.iv (.sl tl (arI l)) /\
   fr 3=.box [true,n,.sl t1 x1]/\fr 4=.box [true,m,.sl t2 y1]/\fr 9=(((l.length-k:Nat):Int)-1:Int)/\st'=st/\ds=[]) ?_ ?_ ?_
  ·simp only[go_sem,zE,lTl]
  ·rintro k fr st _ O ⟨E,f2,f3,f4,f9,rfl,rfl⟩;obtain⟨j,hj⟩:∃j,l.length-k=j+1:=⟨l.length-k-1,by omega⟩
   obtain⟨p,hp⟩:=dB (show j<l.length by omega);obtain⟨e1,e2⟩:=K8 hp;rw[hj,e1,e2,K5 (K9 _)] at E;rw[hj,show (((j+1:Nat):Int)-1)=(j:Int) by omega] at f9;have hw:IntKind.i64.wrap ((j:Int)-1)=(((l.length-(k+1):Nat):Int)-1):=by rw[w64]<;>omega
   have ay:l.length-(k+1)=j:=by omega
   by_cases h1:p.1=n
   ·by_cases h2:p.2=m
    ·have hi:=E.2 (by rw[cV (.inl h1.symm)];exact⟨h1.symm,h2.symm⟩);simp only[go_sem,zE,zB,zA,zL,f2,f3,f4,f9,dA,dz htl,iNn,oD hp,fits,dEt h1,dEt h2];exact c_ ⟨by rw[yQx.2 hi],rfl⟩
    ·have hi:¬ gP (eL l) n=gP (eR l) m:=λh=>by
      have:=E.1 h;rw[cV (.inl h1.symm)] at this;exact h2 this.2.symm
     simp only[go_sem,zE,zB,zA,zL,f2,f3,f4,f9,dA,dz htl,iNn,oD hp,fits,dEt h1,dEf h2];exact c_ ⟨by rw[yQo.2 hi],rfl⟩
   ·by_cases h2:p.2=m
    ·have hi:¬ gP (eL l) n=gP (eR l) m:=λh=>by
      have:=E.1 h;rw[cV (.inr h2.symm)] at this;exact h1 this.1.symm
     simp only[go_sem,zE,zB,zA,zL,f2,f3,f4,f9,dA,dz htl,iNn,oD hp,fits,dEf h1,dEt h2];exact c_ ⟨by rw[yQo.2 hi],rfl⟩
    ·rw[a_ (λh=>h.elim (λh=>h1 h.symm) (λh=>h2 h.symm))] at E;simp only[go_sem,zE,zB,zA,zL,f2,f3,f4,f9,dA,dz htl,iNn,oD hp,fits,dEf h1,dEf h2,hw];rw[ay];exact E
  ·rintro fr st _ ⟨E,f2,f3,f4,f9,rfl,rfl⟩;rw[fS,List.take_zero] at E;rw[fS] at f9;have hz:gP (eL l) n=gP (eR l) m↔n=m:=by rw[E];simp[K6]
   simp only[go_sem,zE,f3,f4,f9,show decide ((0:Int)<=(((0:Nat):Int)-1))=false from rfl];refine c_ ⟨?_,rfl⟩;by_cases D:n=m
   ·rw[yQx.2 (hz.2 D),dEt D]
   ·rw[yQo.2 (λh=>D (hz.1 h)),dEf D]
include htl hll in
def C6:∀(k:Nat)(t:Tm),SizeOf.sizeOf t<k->AT gl l tl t
 | 0,f,h=>by omega
 | k+1,.mk v n us,h=>K_ gl l tl htl hll v n us (λa A=>C6 k a (by
   have:=lSm A;simp at h;omega))
include htl hll in
def La (t:Tm):AT gl l tl t:=C6 gl l tl htl hll _ t (ew _)
end
def C7 (l:Ar):List.take l.length (arI l)=arI l:=by rw[<- pP,lTl]
def C8 (n:Nat):fT none (some (n:Int)) n=some (0,n):=by
 unfold fT;simp
def dW (x:Operand):kB 1 [(0,x)]=true:=rfl
def pQ (x y:Operand):kB 2 [(0,x),(1,y)]=true:=rfl
def arT (tl:Tag)(l:Ar):Prop:=(tl=⟨true,.nil,0⟩/\l=[])\/∃g,tl=⟨true,.app g,2⟩
def arT.es {tl:Tag}{l:Ar}(h:arT tl l):okEs tl 2:=by
 rcases h with⟨rfl,_⟩|⟨g,rfl⟩
 ·exact .inl rfl
 ·exact .inr rfl
def C9 (env:List ByteArray):∀l:List Fm,(dbFs env l).length=l.length
 | []=>rfl
 | a::l=>by simp only[dbFs,dV,C9 env l]
def rJ (env:List ByteArray):∀(l:List Fm) (k:Nat),dbFs env (l.take k)=(dbFs env l).take k
 | [],k=>by simp[dbFs]
 | a::l,0=>by simp[dbFs]
 | a::l,k+1=>by simp only[ko,dbFs,rJ env l k]
def xF {env:List ByteArray}:∀ {l:List Fm} {k:Nat} {a:Fm},l[k]?=some a->(dbFs env l)[k]?=some (dbF env a)
 | [],k,a,h=>by simp at h
 | b::l,0,a,h=>by simp at h;subst h;rfl
 | b::l,k+1,a,h=>by simp only[dbFs,gJ];exact xF (by simpa using h)
def AK (f:Fm):Prop:=∀(g:Fm) (l:Ar) (tl:Tag) (_:arT tl l) (_:l.length+f.size<=1099511627776) (x y:IV) (_:IsFm f x) (_:IsFm g y) (_:f.ok=true) (_:g.ok=true) (st:ISt),
 ICall prog gl 146 [x,y,.sl tl (arI l)] st (λr st'=>r=(eqB (dbF (eL l) f) (dbF (eR l) g):Bool)/\st'=st)
def Lb (op:Nat)(n:ByteArray)(us:List Tm)(sub:List Fm)(IH:∀a∈sub,AK gl a):AK gl (.mk op n us sub):=by
 rintro⟨af,J,D,A⟩ l tl htl hll x y hx hy aO aG st;obtain⟨t1,x1,t2,x2,rfl,br,aN,ae,aM,ag⟩:=hx.mk;obtain⟨t3,y1,t4,y2,rfl,bq,aL,al,aK,an⟩:=hy.mk;obtain⟨aF,aE,_⟩:=rG aO;obtain⟨aD,aC,_⟩:=rG aG;simp only[Fm.size] at hll;have am:∀(P:Prop),(op=af->(if isQ op then (⟨#[]⟩:ByteArray) else n)=(if isQ op then ⟨#[]⟩ else J)->dbs (eL l) us=dbs (eR l) D->dbFs (if isQ op then n::eL l else eL l) sub=dbFs (if isQ op then J::eR l else eR l) A->P)->¬ P →
   eqB (dbF (eL l) (.mk op n us sub)) (dbF (eR l) (.mk af J D A))=false:=λP h hP=>by
  rw[yQo];intro he;simp only[dbF] at he;injection he with h1 h2 h3 h4;subst h1;exact hP (h rfl h2 h3 h4)
 refine iI func146 ?_;by_cases h1:op=af
 case neg =>
  simp only[go_sem,zE,zA,show decide ((op:Int)=(af:Int))=false from dEf (by omega)];intros;exact c_ ⟨by rw[am (op=af) (λh _ _ _=>h) h1],rfl⟩
 subst h1;by_cases h2:us.length=D.length
 case neg =>
  simp only[go_sem,zE,dA,ae.len,al.len,show decide ((us.length:Int)=(D.length:Int))=false from dEf (by omega)];intros;exact c_ ⟨by rw[am (us.length=D.length) (λ_ _ h _=>by have:=dX List.length h;simpa[uq] using this) h2],rfl⟩
 by_cases h3:sub.length=A.length
 case neg =>
  simp only[go_sem,zE,dA,ae.len,al.len,show decide ((us.length:Int)=(D.length:Int))=true from dEt (by omega),ag.len,an.len,show decide ((sub.length:Int)=(A.length:Int))=false from dEf (by omega)];intros;exact c_ ⟨by rw[am (sub.length=A.length) (λ_ _ _ h=>by have:=dX List.length h;simpa[C9] using this) h3],rfl⟩
 have F2:decide ((us.length:Int)=(D.length:Int))=true:=dEt (by omega);have F3:decide ((sub.length:Int)=(A.length:Int))=true:=dEt (by omega);have a6:=nM us;have a1:=kX sub;simp only[go_sem,zE,zA,zL,dA,ae.len,al.len,F2,ag.len,an.len,F3];intros;refine (pH gl op n _ _ _ _ _).q ?_;by_cases h4:isQ op=true\/n=J
 case neg =>
  have h5:isQ op=false:=by simpa using λh=>h4 (.inl h)
  have h6:n≠J:=λh=>h4 (.inr h);simp only[go_sem,zE,zA,h5,dEf h6];exact c_ ⟨by rw[am (n=J) (λ_ h _ _=>by simpa[h5] using h) h6],rfl⟩
 have ac:∀r:Bool,(r=true↔dbs (eL l) us=dbs (eR l) D/\dbFs (if isQ op then n::eL l else eL l) sub=dbFs (if isQ op then J::eR l else eR l) A) →
   IV.raw (.bool r)=(eqB (dbF (eL l) (.mk op n us sub)) (dbF (eR l) (.mk op J D A)):Bool):=λr hr=>by
  congr 2;rw[kN,hr,yQx];simp only[dbF];constructor
  ·rintro⟨e1,e2⟩;rw[e1,e2];congr 1;rcases h4 with h|h
   ·simp[h]
   ·rw[h]
  ·intro h;injection h with _ _ e1 e2;exact⟨e1,e2⟩
 have hD:isQ op=false->decide (n=J)=true:=λh=>dEt (h4.resolve_left (by simp[h]));cases hq:isQ op
 all_goals
  rw[hq] at ac;simp only[bFt,dI,dD] at ac
  first|have hd:=hD hq|have hd:=ae.len
  simp only[go_sem,zE,zA,hd,ae.len];intros;refine dj us.length (λk fr st' ds=>dbs (eL l) (us.take k)=dbs (eR l) (D.take k)/\fr 2=.iv (.sl tl (arI l))/\fr 3=.box [.raw (.int .u8 op),n,.sl t1 x1,.sl t2 x2]/\fr 4=.box [.raw (.int .u8 op),J,.sl t3 y1,.sl t4 y2] /\
   fr 45=.iv (.sl t1 x1)/\fr 46=us.length/\fr 47=.iv (.raw (.int .i64 k))/\st'=st/\ds=[]) ?_ ?_ ?_
  ·simp only[go_sem,zE];exact⟨rfl,rfl⟩
  ·rintro k fr st _ E ⟨hn,f2,f3,f4,f45,f46,f47,rfl,rfl⟩;obtain⟨a,G⟩:=dB E;obtain⟨b,U⟩:=dB (h2▸E);obtain⟨x,ay,hx⟩:=ae.get G;obtain⟨y,ax,hy⟩:=al.get U;have ab:=La gl l tl htl.es (by omega) a b x y hx hy (rI aF (lMg G)) (rI aD (lMg U)) st;have aa:=rH (env:=eL l) G;have ah:=rH (env:=eR l) U;have ai:db (eL l) a≠db (eR l) b->dbs (eL l) us≠dbs (eR l) D:=λh he=>by
    rw[he,ah] at aa;exact h (eE aa).symm
   have O:db (eL l) a=db (eR l) b->dbs (eL l) (us.take (k+1))=dbs (eR l) (D.take (k+1)):=λh=>by
    rw[mR,mR,dE aa,dE ah,<- mR,<- mR,hn,h]
   obtain⟨v2,n2,u2⟩:=a;obtain⟨v3,n3,u3⟩:=b;obtain⟨t3,x3,rfl,_⟩:=hx.mk;obtain⟨t4,x4,rfl,_⟩:=hy.mk;simp only[go_sem,zE,zB,zA,zL,f2,f4,f45,f46,f47,lt_i E,dz aN,dz aL,iNn,ay,ax,fits];refine ab.mono ?_;rintro _ st ⟨rfl,rfl⟩;by_cases hc:db (eL l) (.mk v2 n2 u2)=db (eR l) (.mk v3 n3 u3)
   ·simp only[go_sem,zE,f2,f3,f4,f45,f46,f47,yQx.2 hc,dC E (by omega)];exact O hc
   ·simp only[go_sem,yQo.2 hc];exact c_ ⟨ac false (by simp only[bFt,false_iff];exact λh=>ai hc h.1),rfl⟩
  rintro fr st _ ⟨aj,f2,f3,f4,f45,f46,f47,rfl,rfl⟩;rw[lTl,h2,lTl] at aj;simp only[go_sem,zE,zA,zL,f3,f46,f47,dF (nLi _)];refine (pH gl op n _ _ _ _ _).q ?_
 simp only[go_sem,zE,f3,hq,ag.len];intros;obtain⟨m,tm,sm,hm,htm,au⟩:∃m tm sm,m=l/\tm=tl/\sm=st:=⟨_,_,_,rfl,rfl,rfl⟩
 have av:arT tm m:=by rw[hm,htm];exact htl
 have aQ:m.length<=l.length+1:=by rw[hm];omega
 have aw:=subSt.refl sm;rw[<- hm,<- htm] at f2;rw[<- au];rw[show dbFs (eL l) sub=dbFs (eL m) sub by rw[hm],show dbFs (eR l) A=dbFs (eR m) A by rw[hm]] at ac
 rotate_left
 obtain⟨m,hm⟩:∃m,m=l++[(n,J)]:=⟨_,rfl⟩
 have aI:arI l++[.agg [n,J]]=arI m:=by rw[hm,C5];rfl
 have aT:eL m=n::eL l:=by rw[hm];simp
 have aS:eR m=J::eR l:=by rw[hm];simp
 have aQ:m.length<=l.length+1:=by rw[hm];simp
 rw[<- aT,<- aS] at ac;rcases htl with⟨rfl,rfl⟩|⟨g0,rfl⟩
 all_goals try
  simp only[go_sem,zE,zA,zM,zL,reduceCtorEq,f2,f3,f4,hq,fits,ag.len,jm,pP,C8,dW,C7]
  first
   | refine λg=>d_ λhg=>?_
   | refine fJ ⟨by omega,by omega⟩ λg=>d_ λhg=>?_
  intros
  first
   | rw[aI]
   | rw[show[IV.agg [n,J]]=arI m from aI]
  have av:arT ⟨true,.app g,2⟩ m:=.inr ⟨g,rfl⟩;generalize (⟨true,.app g,2⟩:Tag)=tm at av ⊢;generalize au:ISt.put st g _=sm;have aw:subSt st sm:=by rw[<- au];exact ff hg
 all_goals
  refine dj sub.length (λk fr st' ds=>dbFs (eL m) (sub.take k)=dbFs (eR m) (A.take k)/\fr 2=.iv (.sl tm (arI m))/\fr 4=.box [.raw (.int .u8 op),J,.sl t3 y1,.sl t4 y2] /\
   fr 78=.iv (.sl t2 x2)/\fr 79=sub.length/\fr 80=.iv (.raw (.int .i64 k))/\st'=sm/\ds=[]) ?_ ?_ ?_
  ·simp only[go_sem,zE,f2,f4];exact⟨rfl,rfl⟩
  ·rintro k fr sm _ E ⟨hn,f2,f4,f78,f79,f80,rfl,rfl⟩;obtain⟨a,G⟩:=dB E;obtain⟨b,U⟩:=dB (h3▸E);obtain⟨x,ay,hx⟩:=ag.get G;obtain⟨y,ax,hy⟩:=an.get U;obtain⟨bo,bn⟩:=jr G;have ab:=IH a (lMg G) b m tm av (by omega) x y hx hy (ur aE (lMg G)) (ur aC (lMg U)) sm;have aa:=xF (env:=eL m) G;have ah:=xF (env:=eR m) U;have ai:dbF (eL m) a≠dbF (eR m) b->dbFs (eL m) sub≠dbFs (eR m) A:=λh he=>by
    rw[he,ah] at aa;exact h (eE aa).symm
   have O:dbF (eL m) a=dbF (eR m) b->dbFs (eL m) (sub.take (k+1))=dbFs (eR m) (A.take (k+1)):=λh=>by
    rw[rJ,rJ,dE aa,dE ah,<- rJ,<- rJ,hn,h]
   obtain⟨o5,n5,u5,s5⟩:=a;obtain⟨o6,n6,u6,s6⟩:=b;obtain⟨t5,x5,t6,x6,rfl,_⟩:=hx.mk;obtain⟨t7,x7,t8,x8,rfl,_⟩:=hy.mk;simp only[go_sem,zE,zB,zA,zL,f2,f4,f78,f79,f80,lt_i E,dz aM,dz aK,iNn,ay,ax,fits];refine ab.mono ?_;rintro _ sm ⟨rfl,rfl⟩;by_cases hc:dbF (eL m) (.mk o5 n5 u5 s5)=dbF (eR m) (.mk o6 n6 u6 s6)
   ·simp only[go_sem,zE,f2,f4,f78,f79,f80,yQx.2 hc,dC E (by omega)];exact O hc
   ·simp only[go_sem,yQo.2 hc];exact ez aw ⟨ac false (by simp only[bFt,false_iff];exact λh=>ai hc h.2),rfl⟩
  rintro fr sm _ ⟨hn,f2,f4,f78,f79,f80,rfl,rfl⟩;rw[lTl,h3,lTl] at hn;simp only[go_sem,f79,f80,dF (nLi _)];exact ez aw ⟨ac true ⟨λ_=>⟨aj,hn⟩,λ_=>rfl⟩,rfl⟩
def C_:∀(k:Nat)(t:Fm),SizeOf.sizeOf t<k->AK gl t
 | 0,f,h=>by omega
 | k+1,.mk o n us sub,h=>Lb gl o n us sub (λa A=>C_ k a (by
   have:=lSm A;simp at h;omega))
def Lc (t:Fm):AK gl t:=C_ gl _ t (ew _)
