/- Walks: alikeTerm. -/
import Derived.Test.YtigeiecfkoimpaaGreatDoorJU
set_option linter.all false
open Nat renaming reduceEqDiff → zE,reduceBEq → zB,reduceAdd → zA,reduceMul → zM,reduceLeDiff → zL
namespace Go.Proofs.Tryz
open Go Go.Iv
set_option maxRecDepth 4000
variable (gl:Nat->Option IV)
def arI (l:Ar):List IV:=l.map λp=>.agg [.raw (.string p.1),.raw (.string p.2)]
def pW (l:Ar):(arI l).length=l.length:=by simp[arI]
def oK {l:Ar}{k:Nat}{p:ByteArray×ByteArray}(h:l[k]?=some p):(arI l)[k]?=some (.agg [p.1,p.2]):=by simp[arI,h]
def Dh (l m:Ar):arI (l++m)=arI l++arI m:=by simp[arI]
abbrev eL (l:Ar):List ByteArray:=l.reverse.map (·.1)
abbrev eR (l:Ar):List ByteArray:=l.reverse.map (·.2)
def Lh {l:Ar}{k:Nat}{p:ByteArray×ByteArray}(h:l[k]?=some p):eL (l.take (k+1))=p.1::eL (l.take k)/\eR (l.take (k+1))=p.2::eR (l.take k):=by
 rw[dM h];simp
def Li (l:Ar):(eL l).length=(eR l).length:=by simp
def uD (env:List ByteArray):∀l:List Tm,(dbs env l).length=l.length
 | []=>rfl
 | a::l=>by simp only[dbs,dX,uD env l]
def mW (env:List ByteArray):∀(l:List Tm) (k:Nat),dbs env (l.take k)=(dbs env l).take k
 | [],k=>by simp[dbs]
 | a::l,0=>by simp[dbs]
 | a::l,k+1=>by simp only[kF,dbs,mW env l k]
def rP {env:List ByteArray}:∀ {l:List Tm} {k:Nat} {a:Tm},l[k]?=some a->(dbs env l)[k]?=some (db env a)
 | [],k,a,h=>by simp at h
 | b::l,0,a,h=>by simp at h;subst h;rfl
 | b::l,k+1,a,h=>by simp only[dbs,gY];exact rP (by simpa using h)
def rQ:∀ {l:List Tm}{a:Tm},jq l=true->a∈l->a.ok=true
 | b::l,a,h,hm=>by
  rcases dF.1 hm with rfl|hm
  ·exact (pU h).1
  ·exact rQ (pU h).2 hm
def uE:∀ {l:List Fm}{a:Fm},iU l=true->a∈l->a.ok=true
 | b::l,a,h,hm=>by
  rcases dF.1 hm with rfl|hm
  ·exact (pV h).1
  ·exact uE (pV h).2 hm
section
variable (l:Ar)(tl:Tag)(htl:okEs tl 2)(hll:l.length<=1099511627776)
def AT (t:Tm):Prop:=∀(u:Tm) (x y:IV) (_:IsTm t x) (_:IsTm u y) (_:t.ok=true) (_:u.ok=true) (st:ISt),
 ICall prog gl 110 [x,y,.sl tl (arI l)] st (λr st'=>r=(eqB (db (eL l) t) (db (eR l) u):Bool)/\st'=st)
include htl hll in
def Lj (v:Bool)(n:ByteArray)(us:List Tm)(IH:∀a∈us,AT gl l tl a):AT gl l tl (.mk v n us):=by
 rintro⟨w,m,ws⟩ x y hx hy ak af st;obtain⟨t1,x1,rfl,aw,O⟩:=hx.mk;obtain⟨t2,y1,rfl,av,J⟩:=hy.mk;refine iI func110 ?_;cases v<;>cases w
 ·by_cases ab:us.length=ws.length
  ·have D:decide ((us.length:Int)=(ws.length:Int))=true:=dEt (by omega);by_cases E:n=m
   ·subst E;simp only[go_sem,zE,O.len,J.len,D,dC,beq_self_eq_true];intros;refine dt us.length (λk fr st' ds=>dbs (eL l) (us.take k)=dbs (eR l) (ws.take k)/\fr 2=.iv (.sl tl (arI l))/\fr 3=.box [false,n,.sl t1 x1]/\fr 4=.box [false,n,.sl t2 y1] /\
     fr 34=.iv (.sl t1 x1)/\fr 35=us.length/\fr 36=.iv (.raw (.int .i64 k))/\st'=st/\ds=[]) ?_ ?_ ?_
    ·simp only[go_sem,zE];exact⟨rfl,rfl⟩
    ·rintro k fr st _ aa ⟨G,f2,f3,f4,f34,f35,f36,rfl,rfl⟩;obtain⟨a,ae⟩:=dD aa;obtain⟨b,ah⟩:=dD (ab▸aa);obtain⟨x,az,hx⟩:=O.get ae;obtain⟨y,ay,hy⟩:=J.get ah;have aj:=IH a (lMg ae) b x y hx hy (rQ (uz ak) (lMg ae)) (rQ (uz af) (lMg ah)) st;have ai:=rP (env:=eL l) ae;have am:=rP (env:=eR l) ah;have ax:db (eL l) a≠db (eR l) b->eqB (db (eL l) (.mk false n us)) (db (eR l) (.mk false n ws))=false:=λh=>by
      rw[yQq];simp only[db];intro he;injection he with _ he;rw[he,am] at ai;exact h (eC ai).symm
     have ag:db (eL l) a=db (eR l) b->dbs (eL l) (us.take (k+1))=dbs (eR l) (ws.take (k+1)):=λh=>by
      rw[mW,mW,dM ai,dM am,<- mW,<- mW,G,h]
     obtain⟨v2,n2,u2⟩:=a;obtain⟨v3,n3,u3⟩:=b;obtain⟨t3,x3,rfl,_⟩:=hx.mk;obtain⟨t4,x4,rfl,_⟩:=hy.mk;simp only[go_sem,zE,zB,zA,zL,f2,f4,f34,f35,f36,lt_i aa,dB aw,dB av,iNn,az,ay,fits];refine aj.mono ?_;rintro _ st ⟨rfl,rfl⟩;by_cases hc:db (eL l) (.mk v2 n2 u2)=db (eR l) (.mk v3 n3 u3)
     ·simp only[go_sem,zE,f2,f3,f4,f34,f35,f36,yZ1.2 hc,dL aa (by omega)];exact ag hc
     ·simp only[go_sem,yQq.2 hc];exact c_ ⟨by rw[ax hc],rfl⟩
    ·rintro fr st _ ⟨G,f2,f3,f4,f34,f35,f36,rfl,rfl⟩;simp only[go_sem,f35,f36,dS (nLi _)];refine c_ ⟨?_,rfl⟩;rw[lTl,ab,lTl] at G;rw[yZ1.2 (by simp only[db,G])]
   ·simp only[go_sem,zE,O.len,J.len,D,dEf E,beq_self_eq_true];intros;refine c_ ⟨?_,rfl⟩;rw[yQq.2];simp only[db];intro he;injection he with he;exact E he
  ·have D:decide ((us.length:Int)=(ws.length:Int))=false:=dEf (by omega);simp only[go_sem,zE,O.len,J.len,D,beq_self_eq_true];intros;refine c_ ⟨?_,rfl⟩;rw[yQq.2];simp only[db];intro he;injection he with _ he;have:=dZ List.length he;rw[uD,uD] at this;exact ab this
 ·simp only[go_sem,zE,zA,show (false == true)=false from rfl];refine c_ ⟨?_,rfl⟩;rw[yQq.2];simp only[db];exact λh=>Df h.symm
 ·simp only[go_sem,zE,zA,show (true == false)=false from rfl];refine c_ ⟨?_,rfl⟩;rw[yQq.2];simp only[db];exact λh=>Df h
 ·obtain rfl:=uy ak;obtain rfl:=uy af;have aK:decide (((([]:List Tm).length:Nat):Int)=((([]:List Tm).length:Nat):Int))=true:=dEt rfl;have au:IntKind.i64.wrap ((l.length:Int)-1)=(l.length:Int)-1:=by rw[w64]<;>omega
  simp only[db];simp only[go_sem,zE,zL,O.len,J.len,dC,pW,au];intro aD;refine dt l.length (λk fr st' ds=>(ig (eL l) n=ig (eR l) m↔ig (eL (l.take (l.length-k))) n=ig (eR (l.take (l.length-k))) m)/\fr 2=.iv (.sl tl (arI l)) /\
   fr 3=.box [true,n,.sl t1 x1]/\fr 4=.box [true,m,.sl t2 y1]/\fr 9=(((l.length-k:Nat):Int)-1:Int)/\st'=st/\ds=[]) ?_ ?_ ?_
  ·simp only[go_sem,zE,lTl]
  ·rintro k fr st _ aa ⟨G,f2,f3,f4,f9,rfl,rfl⟩;obtain⟨j,hj⟩:∃j,l.length-k=j+1:=⟨l.length-k-1,by omega⟩
   obtain⟨p,hp⟩:=dD (show j<l.length by omega);obtain⟨e1,e2⟩:=Lh hp;rw[hj,e1,e2,Le (Li _)] at G;rw[hj,show (((j+1:Nat):Int)-1)=(j:Int) by omega] at f9;have hw:IntKind.i64.wrap ((j:Int)-1)=(((l.length-(k+1):Nat):Int)-1):=by rw[w64]<;>omega
   have aA:l.length-(k+1)=j:=by omega
   by_cases h1:p.1=n
   ·by_cases h2:p.2=m
    ·have hi:=G.2 (by rw[cX (.inl h1.symm)];exact⟨h1.symm,h2.symm⟩);simp only[go_sem,zE,zB,zA,zL,f2,f3,f4,f9,dC,dB htl,iNn,oK hp,fits,dEt h1,dEt h2];exact c_ ⟨by rw[yZ1.2 hi],rfl⟩
    ·have hi:¬ ig (eL l) n=ig (eR l) m:=λh=>by
      have:=G.1 h;rw[cX (.inl h1.symm)] at this;exact h2 this.2.symm
     simp only[go_sem,zE,zB,zA,zL,f2,f3,f4,f9,dC,dB htl,iNn,oK hp,fits,dEt h1,dEf h2];exact c_ ⟨by rw[yQq.2 hi],rfl⟩
   ·by_cases h2:p.2=m
    ·have hi:¬ ig (eL l) n=ig (eR l) m:=λh=>by
      have:=G.1 h;rw[cX (.inr h2.symm)] at this;exact h1 this.1.symm
     simp only[go_sem,zE,zB,zA,zL,f2,f3,f4,f9,dC,dB htl,iNn,oK hp,fits,dEf h1,dEt h2];exact c_ ⟨by rw[yQq.2 hi],rfl⟩
    ·rw[a_ (λh=>h.elim (λh=>h1 h.symm) (λh=>h2 h.symm))] at G;simp only[go_sem,zE,zB,zA,zL,f2,f3,f4,f9,dC,dB htl,iNn,oK hp,fits,dEf h1,dEf h2,hw];rw[aA];exact G
  ·rintro fr st _ ⟨G,f2,f3,f4,f9,rfl,rfl⟩;rw[fc,List.take_zero] at G;rw[fc] at f9;have hz:ig (eL l) n=ig (eR l) m↔n=m:=by rw[G];simp[Lf]
   simp only[go_sem,zE,f3,f4,f9,show decide ((0:Int)<=(((0:Nat):Int)-1))=false from rfl];refine c_ ⟨?_,rfl⟩;by_cases E:n=m
   ·rw[yZ1.2 (hz.2 E),dEt E]
   ·rw[yQq.2 (λh=>E (hz.1 h)),dEf E]
include htl hll in
def Di:∀(k:Nat)(t:Tm),SizeOf.sizeOf t<k->AT gl l tl t
 | 0,f,h=>by omega
 | k+1,.mk v n us,h=>Lj gl l tl htl hll v n us (λa D=>Di k a (by
   have:=lSm D;simp at h;omega))
include htl hll in
def Ll (t:Tm):AT gl l tl t:=Di gl l tl htl hll _ t (eS _)
end
def Dj (l:Ar):List.take l.length (arI l)=arI l:=by rw[<- pW,lTl]
def Dk (n:Nat):gq none (some (n:Int)) n=some (0,n):=by
 unfold gq;simp
def eh (x:Operand):la 1 [(0,x)]=true:=rfl
def pX (x y:Operand):la 2 [(0,x),(1,y)]=true:=rfl
def arT (tl:Tag)(l:Ar):Prop:=(tl=⟨true,.nil,0⟩/\l=[])\/∃g,tl=⟨true,.app g,2⟩
def arT.es {tl:Tag}{l:Ar}(h:arT tl l):okEs tl 2:=by
 rcases h with⟨rfl,_⟩|⟨g,rfl⟩
 ·exact .inl rfl
 ·exact .inr rfl
def Dl (env:List ByteArray):∀l:List Fm,(dbFs env l).length=l.length
 | []=>rfl
 | a::l=>by simp only[dbFs,dX,Dl env l]
def rR (env:List ByteArray):∀(l:List Fm) (k:Nat),dbFs env (l.take k)=(dbFs env l).take k
 | [],k=>by simp[dbFs]
 | a::l,0=>by simp[dbFs]
 | a::l,k+1=>by simp only[kF,dbFs,rR env l k]
def xT {env:List ByteArray}:∀ {l:List Fm} {k:Nat} {a:Fm},l[k]?=some a->(dbFs env l)[k]?=some (dbF env a)
 | [],k,a,h=>by simp at h
 | b::l,0,a,h=>by simp at h;subst h;rfl
 | b::l,k+1,a,h=>by simp only[dbFs,gY];exact xT (by simpa using h)
def AK (f:Fm):Prop:=∀(g:Fm) (l:Ar) (tl:Tag) (_:arT tl l) (_:l.length+f.size<=1099511627776) (x y:IV) (_:IsFm f x) (_:IsFm g y) (_:f.ok=true) (_:g.ok=true) (st:ISt),
 ICall prog gl 82 [x,y,.sl tl (arI l)] st (λr st'=>r=(eqB (dbF (eL l) f) (dbF (eR l) g):Bool)/\st'=st)
def Lm (op:Nat)(n:ByteArray)(us:List Tm)(sub:List Fm)(IH:∀a∈sub,AK gl a):AK gl (.mk op n us sub):=by
 rintro⟨ah,O,E,D⟩ l tl htl hll x y hx hy aS aI st;obtain⟨t1,x1,t2,x2,rfl,bt,aQ,ag,aO,ai⟩:=hx.mk;obtain⟨t3,y1,t4,y2,rfl,bs,aN,an,aM,aq⟩:=hy.mk;obtain⟨aH,aG,_⟩:=rO aS;obtain⟨aF,aE,_⟩:=rO aI;simp only[Fm.size] at hll;have ao:∀(P:Prop),(op=ah->(if isQ op then (⟨#[]⟩:ByteArray) else n)=(if isQ op then ⟨#[]⟩ else O)->dbs (eL l) us=dbs (eR l) E->dbFs (if isQ op then n::eL l else eL l) sub=dbFs (if isQ op then O::eR l else eR l) D->P)->¬ P →
   eqB (dbF (eL l) (.mk op n us sub)) (dbF (eR l) (.mk ah O E D))=false:=λP h hP=>by
  rw[yQq];intro he;simp only[dbF] at he;injection he with h1 h2 h3 h4;subst h1;exact hP (h rfl h2 h3 h4)
 refine iI func82 ?_;by_cases h1:op=ah
 case neg =>
  simp only[go_sem,zE,zA,show decide ((op:Int)=(ah:Int))=false from dEf (by omega)];intros;exact c_ ⟨by rw[ao (op=ah) (λh _ _ _=>h) h1],rfl⟩
 subst h1;by_cases h2:us.length=E.length
 case neg =>
  simp only[go_sem,zE,dC,ag.len,an.len,show decide ((us.length:Int)=(E.length:Int))=false from dEf (by omega)];intros;exact c_ ⟨by rw[ao (us.length=E.length) (λ_ _ h _=>by have:=dZ List.length h;simpa[uD] using this) h2],rfl⟩
 by_cases h3:sub.length=D.length
 case neg =>
  simp only[go_sem,zE,dC,ag.len,an.len,show decide ((us.length:Int)=(E.length:Int))=true from dEt (by omega),ai.len,aq.len,show decide ((sub.length:Int)=(D.length:Int))=false from dEf (by omega)];intros;exact c_ ⟨by rw[ao (sub.length=D.length) (λ_ _ _ h=>by have:=dZ List.length h;simpa[Dl] using this) h3],rfl⟩
 have F2:decide ((us.length:Int)=(E.length:Int))=true:=dEt (by omega);have F3:decide ((sub.length:Int)=(D.length:Int))=true:=dEt (by omega);have a8:=oJ us;have a7:=mS sub;simp only[go_sem,zE,zA,zL,dC,ag.len,an.len,F2,ai.len,aq.len,F3];intros;refine (pO gl op n _ _ _ _ _).q ?_;by_cases h4:isQ op=true\/n=O
 case neg =>
  have h5:isQ op=false:=by simpa using λh=>h4 (.inl h)
  have h6:n≠O:=λh=>h4 (.inr h);simp only[go_sem,zE,zA,h5,dEf h6];exact c_ ⟨by rw[ao (n=O) (λ_ h _ _=>by simpa[h5] using h) h6],rfl⟩
 have af:∀r:Bool,(r=true↔dbs (eL l) us=dbs (eR l) E/\dbFs (if isQ op then n::eL l else eL l) sub=dbFs (if isQ op then O::eR l else eR l) D) →
   IV.raw (.bool r)=(eqB (dbF (eL l) (.mk op n us sub)) (dbF (eR l) (.mk op O E D)):Bool):=λr hr=>by
  congr 2;rw[ma,hr,yZ1];simp only[dbF];constructor
  ·rintro⟨e1,e2⟩;rw[e1,e2];congr 1;rcases h4 with h|h
   ·simp[h]
   ·rw[h]
  ·intro h;injection h with _ _ e1 e2;exact⟨e1,e2⟩
 have hD:isQ op=false->decide (n=O)=true:=λh=>dEt (h4.resolve_left (by simp[h]));cases hq:isQ op
 all_goals
  rw[hq] at af;simp only[bFt,dE,dJ] at af
  first|have hd:=hD hq|have hd:=ag.len
  simp only[go_sem,zE,zA,hd,ag.len];intros;refine dt us.length (λk fr st' ds=>dbs (eL l) (us.take k)=dbs (eR l) (E.take k)/\fr 2=.iv (.sl tl (arI l))/\fr 3=.box [.raw (.int .u8 op),n,.sl t1 x1,.sl t2 x2]/\fr 4=.box [.raw (.int .u8 op),O,.sl t3 y1,.sl t4 y2] /\
   fr 45=.iv (.sl t1 x1)/\fr 46=us.length/\fr 47=.iv (.raw (.int .i64 k))/\st'=st/\ds=[]) ?_ ?_ ?_
  ·simp only[go_sem,zE];exact⟨rfl,rfl⟩
  ·rintro k fr st _ G ⟨hn,f2,f3,f4,f45,f46,f47,rfl,rfl⟩;obtain⟨a,J⟩:=dD G;obtain⟨b,ab⟩:=dD (h2▸G);obtain⟨x,aA,hx⟩:=ag.get J;obtain⟨y,az,hy⟩:=an.get ab;have ae:=Ll gl l tl htl.es (by omega) a b x y hx hy (rQ aH (lMg J)) (rQ aF (lMg ab)) st;have ac:=rP (env:=eL l) J;have aj:=rP (env:=eR l) ab;have ak:db (eL l) a≠db (eR l) b->dbs (eL l) us≠dbs (eR l) E:=λh he=>by
    rw[he,aj] at ac;exact h (eC ac).symm
   have aa:db (eL l) a=db (eR l) b->dbs (eL l) (us.take (k+1))=dbs (eR l) (E.take (k+1)):=λh=>by
    rw[mW,mW,dM ac,dM aj,<- mW,<- mW,hn,h]
   obtain⟨v2,n2,u2⟩:=a;obtain⟨v3,n3,u3⟩:=b;obtain⟨t3,x3,rfl,_⟩:=hx.mk;obtain⟨t4,x4,rfl,_⟩:=hy.mk;simp only[go_sem,zE,zB,zA,zL,f2,f4,f45,f46,f47,lt_i G,dB aQ,dB aN,iNn,aA,az,fits];refine ae.mono ?_;rintro _ st ⟨rfl,rfl⟩;by_cases hc:db (eL l) (.mk v2 n2 u2)=db (eR l) (.mk v3 n3 u3)
   ·simp only[go_sem,zE,f2,f3,f4,f45,f46,f47,yZ1.2 hc,dL G (by omega)];exact aa hc
   ·simp only[go_sem,yQq.2 hc];exact c_ ⟨af false (by simp only[bFt,false_iff];exact λh=>ak hc h.1),rfl⟩
  rintro fr st _ ⟨al,f2,f3,f4,f45,f46,f47,rfl,rfl⟩;rw[lTl,h2,lTl] at al;simp only[go_sem,zE,zA,zL,f3,f46,f47,dS (nLi _)];refine (pO gl op n _ _ _ _ _).q ?_
 simp only[go_sem,zE,f3,hq,ai.len];intros;obtain⟨m,tm,sm,hm,htm,aw⟩:∃m tm sm,m=l/\tm=tl/\sm=st:=⟨_,_,_,rfl,rfl,rfl⟩
 have ax:arT tm m:=by rw[hm,htm];exact htl
 have aT:m.length<=l.length+1:=by rw[hm];omega
 have ay:=subSt.refl sm;rw[<- hm,<- htm] at f2;rw[<- aw];rw[show dbFs (eL l) sub=dbFs (eL m) sub by rw[hm],show dbFs (eR l) D=dbFs (eR m) D by rw[hm]] at af
 rotate_left
 obtain⟨m,hm⟩:∃m,m=l++[(n,O)]:=⟨_,rfl⟩
 have aK:arI l++[.agg [n,O]]=arI m:=by rw[hm,Dh];rfl
 have aV:eL m=n::eL l:=by rw[hm];simp
 have aU:eR m=O::eR l:=by rw[hm];simp
 have aT:m.length<=l.length+1:=by rw[hm];simp
 rw[<- aV,<- aU] at af;rcases htl with⟨rfl,rfl⟩|⟨g0,rfl⟩
 all_goals try
  simp only[go_sem,zE,zA,zM,zL,reduceCtorEq,f2,f3,f4,hq,fits,ai.len,kL,pW,Dk,eh,Dj]
  first
   | refine λg=>d_ λhg=>?_
   | refine fO ⟨by omega,by omega⟩ λg=>d_ λhg=>?_
  intros
  first
   | rw[aK]
   | rw[show[IV.agg [n,O]]=arI m from aK]
  have ax:arT ⟨true,.app g,2⟩ m:=.inr ⟨g,rfl⟩;generalize (⟨true,.app g,2⟩:Tag)=tm at ax ⊢;generalize aw:ISt.put st g _=sm;have ay:subSt st sm:=by rw[<- aw];exact fb hg
 all_goals
  refine dt sub.length (λk fr st' ds=>dbFs (eL m) (sub.take k)=dbFs (eR m) (D.take k)/\fr 2=.iv (.sl tm (arI m))/\fr 4=.box [.raw (.int .u8 op),O,.sl t3 y1,.sl t4 y2] /\
   fr 78=.iv (.sl t2 x2)/\fr 79=sub.length/\fr 80=.iv (.raw (.int .i64 k))/\st'=sm/\ds=[]) ?_ ?_ ?_
  ·simp only[go_sem,zE,f2,f4];exact⟨rfl,rfl⟩
  ·rintro k fr sm _ G ⟨hn,f2,f4,f78,f79,f80,rfl,rfl⟩;obtain⟨a,J⟩:=dD G;obtain⟨b,ab⟩:=dD (h3▸G);obtain⟨x,aA,hx⟩:=ai.get J;obtain⟨y,az,hy⟩:=aq.get ab;obtain⟨bq,bp⟩:=j8 J;have ae:=IH a (lMg J) b m tm ax (by omega) x y hx hy (uE aG (lMg J)) (uE aE (lMg ab)) sm;have ac:=xT (env:=eL m) J;have aj:=xT (env:=eR m) ab;have ak:dbF (eL m) a≠dbF (eR m) b->dbFs (eL m) sub≠dbFs (eR m) D:=λh he=>by
    rw[he,aj] at ac;exact h (eC ac).symm
   have aa:dbF (eL m) a=dbF (eR m) b->dbFs (eL m) (sub.take (k+1))=dbFs (eR m) (D.take (k+1)):=λh=>by
    rw[rR,rR,dM ac,dM aj,<- rR,<- rR,hn,h]
   obtain⟨o5,n5,u5,s5⟩:=a;obtain⟨o6,n6,u6,s6⟩:=b;obtain⟨t5,x5,t6,x6,rfl,_⟩:=hx.mk;obtain⟨t7,x7,t8,x8,rfl,_⟩:=hy.mk;simp only[go_sem,zE,zB,zA,zL,f2,f4,f78,f79,f80,lt_i G,dB aO,dB aM,iNn,aA,az,fits];refine ae.mono ?_;rintro _ sm ⟨rfl,rfl⟩;by_cases hc:dbF (eL m) (.mk o5 n5 u5 s5)=dbF (eR m) (.mk o6 n6 u6 s6)
   ·simp only[go_sem,zE,f2,f4,f78,f79,f80,yZ1.2 hc,dL G (by omega)];exact aa hc
   ·simp only[go_sem,yQq.2 hc];exact eI ay ⟨af false (by simp only[bFt,false_iff];exact λh=>ak hc h.2),rfl⟩
  rintro fr sm _ ⟨hn,f2,f4,f78,f79,f80,rfl,rfl⟩;rw[lTl,h3,lTl] at hn;simp only[go_sem,f79,f80,dS (nLi _)];exact eI ay ⟨af true ⟨λ_=>⟨al,hn⟩,λ_=>rfl⟩,rfl⟩
def Dm:∀(k:Nat)(t:Fm),SizeOf.sizeOf t<k->AK gl t
 | 0,f,h=>by omega
 | k+1,.mk o n us sub,h=>Lm gl o n us sub (λa D=>Dm k a (by
   have:=lSm D;simp at h;omega))
def Lo (t:Fm):AK gl t:=Dm gl _ t (eS _)
