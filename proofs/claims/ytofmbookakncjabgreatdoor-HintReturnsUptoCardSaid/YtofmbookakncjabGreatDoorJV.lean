/- Walks: alikeTerm. -/
import Derived.Test.YtofmbookakncjabGreatDoorJU
set_option linter.all false
open Nat renaming reduceEqDiff → zE,reduceBEq → zB,reduceAdd → zA,reduceMul → zM,reduceLeDiff → zL
namespace Go.Proofs.Tryz
open Go Go.Iv
set_option maxRecDepth 4000
variable (gl:Nat->Option IV)
def arI (l:Ar):List IV:=l.map λp=>.agg [.raw (.string p.1),.raw (.string p.2)]
def rk (l:Ar):(arI l).length=l.length:=by simp[arI]
def p_ {l:Ar}{k:Nat}{p:ByteArray×ByteArray}(h:l[k]?=some p):(arI l)[k]?=some (.agg [p.1,p.2]):=by simp[arI,h]
def E5 (l m:Ar):arI (l++m)=arI l++arI m:=by simp[arI]
abbrev eL (l:Ar):List ByteArray:=l.reverse.map (·.1)
abbrev eR (l:Ar):List ByteArray:=l.reverse.map (·.2)
def MJ {l:Ar}{k:Nat}{p:ByteArray×ByteArray}(h:l[k]?=some p):eL (l.take (k+1))=p.1::eL (l.take k)/\eR (l.take (k+1))=p.2::eR (l.take k):=by
 rw[en h];simp
def MK (l:Ar):(eL l).length=(eR l).length:=by simp
def wo (env:List ByteArray):∀l:List Tm,(dbs env l).length=l.length
 | []=>rfl
 | a::l=>by simp only[dbs,fa,wo env l]
def ot (env:List ByteArray):∀(l:List Tm) (k:Nat),dbs env (l.take k)=(dbs env l).take k
 | [],k=>by simp[dbs]
 | a::l,0=>by simp[dbs]
 | a::l,k+1=>by simp only[lv,dbs,ot env l k]
def uv {env:List ByteArray}:∀ {l:List Tm} {k:Nat} {a:Tm},l[k]?=some a->(dbs env l)[k]?=some (db env a)
 | [],k,a,h=>by simp at h
 | b::l,0,a,h=>by simp at h;subst h;rfl
 | b::l,k+1,a,h=>by simp only[dbs,i_];exact uv (by simpa using h)
def uw:∀ {l:List Tm}{a:Tm},ka l=true->a∈l->a.ok=true
 | b::l,a,h,hm=>by
  rcases eK.1 hm with rfl|hm
  ·exact (ri h).1
  ·exact uw (ri h).2 hm
def wq:∀ {l:List Fm}{a:Fm},jR l=true->a∈l->a.ok=true
 | b::l,a,h,hm=>by
  rcases eK.1 hm with rfl|hm
  ·exact (rj h).1
  ·exact wq (rj h).2 hm
section
variable (l:Ar)(tl:Tag)(htl:okEs tl 2)(hll:l.length<=1099511627776)
def AT (t:Tm):Prop:=∀(u:Tm) (x y:IV) (_:IsTm t x) (_:IsTm u y) (_:t.ok=true) (_:u.ok=true) (st:ISt),
 ICall prog gl 186 [x,y,.sl tl (arI l)] st (λr st'=>r=(eqB (db (eL l) t) (db (eR l) u):Bool)/\st'=st)
include htl hll in
def ML (v:Bool)(n:ByteArray)(us:List Tm)(IH:∀a∈us,AT gl l tl a):AT gl l tl (.mk v n us):=by
 rintro⟨w,m,ws⟩ x y hx hy ai ac st;obtain⟨t1,x1,rfl,au,J⟩:=hx.mk;obtain⟨t2,y1,rfl,aq,G⟩:=hy.mk;refine iI func186 ?_;cases v<;>cases w
 ·by_cases U:us.length=ws.length
  ·have A:decide ((us.length:Int)=(ws.length:Int))=true:=dEt (by omega);by_cases D:n=m
   ·subst D;simp only[go_sem,zE,J.len,G.len,A,d_,beq_self_eq_true];intros;refine dC us.length (λk fr st' ds=>dbs (eL l) (us.take k)=dbs (eR l) (ws.take k)/\fr 2=.iv (.sl tl (arI l))/\fr 3=.box [false,n,.sl t1 x1]/\fr 4=.box [false,n,.sl t2 y1] /\
     fr 34=.iv (.sl t1 x1)/\fr 35=us.length/\fr 36=.iv (.raw (.int .i64 k))/\st'=st/\ds=[]) ?_ ?_ ?_
    ·simp only[go_sem,zE];exact⟨rfl,rfl⟩
    ·rintro k fr st _ O ⟨E,f2,f3,f4,f34,f35,f36,rfl,rfl⟩;obtain⟨a,ab⟩:=ed O;obtain⟨b,af⟩:=ed (U▸O);obtain⟨x,ax,hx⟩:=J.get ab;obtain⟨y,aw,hy⟩:=G.get af;have ah:=IH a (lMg ab) b x y hx hy (uw (wi ai) (lMg ab)) (uw (wi ac) (lMg af)) st;have ag:=uv (env:=eL l) ab;have ak:=uv (env:=eR l) af;have av:db (eL l) a≠db (eR l) b->eqB (db (eL l) (.mk false n us)) (db (eR l) (.mk false n ws))=false:=λh=>by
      rw[yQq];simp only[db];intro he;injection he with _ he;rw[he,ak] at ag;exact h (fA ag).symm
     have ae:db (eL l) a=db (eR l) b->dbs (eL l) (us.take (k+1))=dbs (eR l) (ws.take (k+1)):=λh=>by
      rw[ot,ot,en ag,en ak,<- ot,<- ot,E,h]
     obtain⟨v2,n2,u2⟩:=a;obtain⟨v3,n3,u3⟩:=b;obtain⟨t3,x3,rfl,_⟩:=hx.mk;obtain⟨t4,x4,rfl,_⟩:=hy.mk;simp only[go_sem,zE,zB,zA,zL,f2,f4,f34,f35,f36,lt_i O,ec au,ec aq,iNn,ax,aw,fits];refine ah.mono ?_;rintro _ st ⟨rfl,rfl⟩;by_cases hc:db (eL l) (.mk v2 n2 u2)=db (eR l) (.mk v3 n3 u3)
     ·simp only[go_sem,zE,f2,f3,f4,f34,f35,f36,yZ2.2 hc,ek O (by omega)];exact ae hc
     ·simp only[go_sem,yQq.2 hc];exact dw ⟨by rw[av hc],rfl⟩
    ·rintro fr st _ ⟨E,f2,f3,f4,f34,f35,f36,rfl,rfl⟩;simp only[go_sem,f35,f36,eI (nLi _)];refine dw ⟨?_,rfl⟩;rw[lTl,U,lTl] at E;rw[yZ2.2 (by simp only[db,E])]
   ·simp only[go_sem,zE,J.len,G.len,A,dEf D,beq_self_eq_true];intros;refine dw ⟨?_,rfl⟩;rw[yQq.2];simp only[db];intro he;injection he with he;exact D he
  ·have A:decide ((us.length:Int)=(ws.length:Int))=false:=dEf (by omega);simp only[go_sem,zE,J.len,G.len,A,beq_self_eq_true];intros;refine dw ⟨?_,rfl⟩;rw[yQq.2];simp only[db];intro he;injection he with _ he;have:=eZ List.length he;rw[wo,wo] at this;exact U this
 ·simp only[go_sem,zE,zA,show (false == true)=false from rfl];refine dw ⟨?_,rfl⟩;rw[yQq.2];simp only[db];exact λh=>E3 h.symm
 ·simp only[go_sem,zE,zA,show (true == false)=false from rfl];refine dw ⟨?_,rfl⟩;rw[yQq.2];simp only[db];exact λh=>E3 h
 ·obtain rfl:=wh ai;obtain rfl:=wh ac;have aI:decide (((([]:List Tm).length:Nat):Int)=((([]:List Tm).length:Nat):Int))=true:=dEt rfl;have ao:IntKind.i64.wrap ((l.length:Int)-1)=(l.length:Int)-1:=by rw[w64]<;>omega
  simp only[db];simp only[go_sem,zE,zL,J.len,G.len,d_,rk,ao];intro aB;refine dC l.length (λk fr st' ds=>(jd (eL l) n=jd (eR l) m↔jd (eL (l.take (l.length-k))) n=jd (eR (l.take (l.length-k))) m)/\fr 2=.iv (.sl tl (arI l)) /\
   fr 3=.box [true,n,.sl t1 x1]/\fr 4=.box [true,m,.sl t2 y1]/\fr 9=(((l.length-k:Nat):Int)-1:Int)/\st'=st/\ds=[]) ?_ ?_ ?_
  ·simp only[go_sem,zE,lTl]
  ·rintro k fr st _ O ⟨E,f2,f3,f4,f9,rfl,rfl⟩;obtain⟨j,hj⟩:∃j,l.length-k=j+1:=⟨l.length-k-1,by omega⟩
   obtain⟨p,hp⟩:=ed (show j<l.length by omega);obtain⟨e1,e2⟩:=MJ hp;rw[hj,e1,e2,MG (MK _)] at E;rw[hj,show (((j+1:Nat):Int)-1)=(j:Int) by omega] at f9;have hw:IntKind.i64.wrap ((j:Int)-1)=(((l.length-(k+1):Nat):Int)-1):=by rw[w64]<;>omega
   have ay:l.length-(k+1)=j:=by omega
   by_cases h1:p.1=n
   ·by_cases h2:p.2=m
    ·have hi:=E.2 (by rw[c_ (.inl h1.symm)];exact⟨h1.symm,h2.symm⟩);simp only[go_sem,zE,zB,zA,zL,f2,f3,f4,f9,d_,ec htl,iNn,p_ hp,fits,dEt h1,dEt h2];exact dw ⟨by rw[yZ2.2 hi],rfl⟩
    ·have hi:¬ jd (eL l) n=jd (eR l) m:=λh=>by
      have:=E.1 h;rw[c_ (.inl h1.symm)] at this;exact h2 this.2.symm
     simp only[go_sem,zE,zB,zA,zL,f2,f3,f4,f9,d_,ec htl,iNn,p_ hp,fits,dEt h1,dEf h2];exact dw ⟨by rw[yQq.2 hi],rfl⟩
   ·by_cases h2:p.2=m
    ·have hi:¬ jd (eL l) n=jd (eR l) m:=λh=>by
      have:=E.1 h;rw[c_ (.inr h2.symm)] at this;exact h1 this.1.symm
     simp only[go_sem,zE,zB,zA,zL,f2,f3,f4,f9,d_,ec htl,iNn,p_ hp,fits,dEf h1,dEt h2];exact dw ⟨by rw[yQq.2 hi],rfl⟩
    ·rw[a_ (λh=>h.elim (λh=>h1 h.symm) (λh=>h2 h.symm))] at E;simp only[go_sem,zE,zB,zA,zL,f2,f3,f4,f9,d_,ec htl,iNn,p_ hp,fits,dEf h1,dEf h2,hw];rw[ay];exact E
  ·rintro fr st _ ⟨E,f2,f3,f4,f9,rfl,rfl⟩;rw[gg,List.take_zero] at E;rw[gg] at f9;have hz:jd (eL l) n=jd (eR l) m↔n=m:=by rw[E];simp[MH]
   simp only[go_sem,zE,f3,f4,f9,show decide ((0:Int)<=(((0:Nat):Int)-1))=false from rfl];refine dw ⟨?_,rfl⟩;by_cases D:n=m
   ·rw[yZ2.2 (hz.2 D),dEt D]
   ·rw[yQq.2 (λh=>D (hz.1 h)),dEf D]
include htl hll in
def E6:∀(k:Nat)(t:Tm),SizeOf.sizeOf t<k->AT gl l tl t
 | 0,f,h=>by omega
 | k+1,.mk v n us,h=>ML gl l tl htl hll v n us (λa A=>E6 k a (by
   have:=lSm A;simp at h;omega))
include htl hll in
def MM (t:Tm):AT gl l tl t:=E6 gl l tl htl hll _ t (fP _)
end
def E7 (l:Ar):List.take l.length (arI l)=arI l:=by rw[<- rk,lTl]
def E8 (n:Nat):ic none (some (n:Int)) n=some (0,n):=by
 unfold ic;simp
def fg (x:Operand):mA 1 [(0,x)]=true:=rfl
def rm (x y:Operand):mA 2 [(0,x),(1,y)]=true:=rfl
def arT (tl:Tag)(l:Ar):Prop:=(tl=⟨true,.nil,0⟩/\l=[])\/∃g,tl=⟨true,.app g,2⟩
def arT.es {tl:Tag}{l:Ar}(h:arT tl l):okEs tl 2:=by
 rcases h with⟨rfl,_⟩|⟨g,rfl⟩
 ·exact .inl rfl
 ·exact .inr rfl
def E9 (env:List ByteArray):∀l:List Fm,(dbFs env l).length=l.length
 | []=>rfl
 | a::l=>by simp only[dbFs,fa,E9 env l]
def ux (env:List ByteArray):∀(l:List Fm) (k:Nat),dbFs env (l.take k)=(dbFs env l).take k
 | [],k=>by simp[dbFs]
 | a::l,0=>by simp[dbFs]
 | a::l,k+1=>by simp only[lv,dbFs,ux env l k]
def Aj {env:List ByteArray}:∀ {l:List Fm} {k:Nat} {a:Fm},l[k]?=some a->(dbFs env l)[k]?=some (dbF env a)
 | [],k,a,h=>by simp at h
 | b::l,0,a,h=>by simp at h;subst h;rfl
 | b::l,k+1,a,h=>by simp only[dbFs,i_];exact Aj (by simpa using h)
def AK (f:Fm):Prop:=∀(g:Fm) (l:Ar) (tl:Tag) (_:arT tl l) (_:l.length+f.size<=1099511627776) (x y:IV) (_:IsFm f x) (_:IsFm g y) (_:f.ok=true) (_:g.ok=true) (st:ISt),
 ICall prog gl 145 [x,y,.sl tl (arI l)] st (λr st'=>r=(eqB (dbF (eL l) f) (dbF (eR l) g):Bool)/\st'=st)
def MN (op:Nat)(n:ByteArray)(us:List Tm)(sub:List Fm)(IH:∀a∈sub,AK gl a):AK gl (.mk op n us sub):=by
 rintro⟨af,J,D,A⟩ l tl htl hll x y hx hy aO aG st;obtain⟨t1,x1,t2,x2,rfl,br,aN,ae,aM,ag⟩:=hx.mk;obtain⟨t3,y1,t4,y2,rfl,bq,aL,al,aK,an⟩:=hy.mk;obtain⟨aF,aE,_⟩:=ur aO;obtain⟨aD,aC,_⟩:=ur aG;simp only[Fm.size] at hll;have am:∀(P:Prop),(op=af->(if isQ op then (⟨#[]⟩:ByteArray) else n)=(if isQ op then ⟨#[]⟩ else J)->dbs (eL l) us=dbs (eR l) D->dbFs (if isQ op then n::eL l else eL l) sub=dbFs (if isQ op then J::eR l else eR l) A->P)->¬ P →
   eqB (dbF (eL l) (.mk op n us sub)) (dbF (eR l) (.mk af J D A))=false:=λP h hP=>by
  rw[yQq];intro he;simp only[dbF] at he;injection he with h1 h2 h3 h4;subst h1;exact hP (h rfl h2 h3 h4)
 refine iI func145 ?_;by_cases h1:op=af
 case neg =>
  simp only[go_sem,zE,zA,show decide ((op:Int)=(af:Int))=false from dEf (by omega)];intros;exact dw ⟨by rw[am (op=af) (λh _ _ _=>h) h1],rfl⟩
 subst h1;by_cases h2:us.length=D.length
 case neg =>
  simp only[go_sem,zE,d_,ae.len,al.len,show decide ((us.length:Int)=(D.length:Int))=false from dEf (by omega)];intros;exact dw ⟨by rw[am (us.length=D.length) (λ_ _ h _=>by have:=eZ List.length h;simpa[wo] using this) h2],rfl⟩
 by_cases h3:sub.length=A.length
 case neg =>
  simp only[go_sem,zE,d_,ae.len,al.len,show decide ((us.length:Int)=(D.length:Int))=true from dEt (by omega),ag.len,an.len,show decide ((sub.length:Int)=(A.length:Int))=false from dEf (by omega)];intros;exact dw ⟨by rw[am (sub.length=A.length) (λ_ _ _ h=>by have:=eZ List.length h;simpa[E9] using this) h3],rfl⟩
 have F2:decide ((us.length:Int)=(D.length:Int))=true:=dEt (by omega);have F3:decide ((sub.length:Int)=(A.length:Int))=true:=dEt (by omega);have a6:=p7 us;have a1:=oj sub;simp only[go_sem,zE,zA,zL,d_,ae.len,al.len,F2,ag.len,an.len,F3];intros;refine (qZ gl op n _ _ _ _ _).q ?_;by_cases h4:isQ op=true\/n=J
 case neg =>
  have h5:isQ op=false:=by simpa using λh=>h4 (.inl h)
  have h6:n≠J:=λh=>h4 (.inr h);simp only[go_sem,zE,zA,h5,dEf h6];exact dw ⟨by rw[am (n=J) (λ_ h _ _=>by simpa[h5] using h) h6],rfl⟩
 have ac:∀r:Bool,(r=true↔dbs (eL l) us=dbs (eR l) D/\dbFs (if isQ op then n::eL l else eL l) sub=dbFs (if isQ op then J::eR l else eR l) A) →
   IV.raw (.bool r)=(eqB (dbF (eL l) (.mk op n us sub)) (dbF (eR l) (.mk op J D A)):Bool):=λr hr=>by
  congr 2;rw[m_,hr,yZ2];simp only[dbF];constructor
  ·rintro⟨e1,e2⟩;rw[e1,e2];congr 1;rcases h4 with h|h
   ·simp[h]
   ·rw[h]
  ·intro h;injection h with _ _ e1 e2;exact⟨e1,e2⟩
 have hD:isQ op=false->decide (n=J)=true:=λh=>dEt (h4.resolve_left (by simp[h]));cases hq:isQ op
 all_goals
  rw[hq] at ac;simp only[bFt,et,el] at ac
  first|have hd:=hD hq|have hd:=ae.len
  simp only[go_sem,zE,zA,hd,ae.len];intros;refine dC us.length (λk fr st' ds=>dbs (eL l) (us.take k)=dbs (eR l) (D.take k)/\fr 2=.iv (.sl tl (arI l))/\fr 3=.box [.raw (.int .u8 op),n,.sl t1 x1,.sl t2 x2]/\fr 4=.box [.raw (.int .u8 op),J,.sl t3 y1,.sl t4 y2] /\
   fr 45=.iv (.sl t1 x1)/\fr 46=us.length/\fr 47=.iv (.raw (.int .i64 k))/\st'=st/\ds=[]) ?_ ?_ ?_
  ·simp only[go_sem,zE];exact⟨rfl,rfl⟩
  ·rintro k fr st _ E ⟨hn,f2,f3,f4,f45,f46,f47,rfl,rfl⟩;obtain⟨a,G⟩:=ed E;obtain⟨b,U⟩:=ed (h2▸E);obtain⟨x,ay,hx⟩:=ae.get G;obtain⟨y,ax,hy⟩:=al.get U;have ab:=MM gl l tl htl.es (by omega) a b x y hx hy (uw aF (lMg G)) (uw aD (lMg U)) st;have aa:=uv (env:=eL l) G;have ah:=uv (env:=eR l) U;have ai:db (eL l) a≠db (eR l) b->dbs (eL l) us≠dbs (eR l) D:=λh he=>by
    rw[he,ah] at aa;exact h (fA aa).symm
   have O:db (eL l) a=db (eR l) b->dbs (eL l) (us.take (k+1))=dbs (eR l) (D.take (k+1)):=λh=>by
    rw[ot,ot,en aa,en ah,<- ot,<- ot,hn,h]
   obtain⟨v2,n2,u2⟩:=a;obtain⟨v3,n3,u3⟩:=b;obtain⟨t3,x3,rfl,_⟩:=hx.mk;obtain⟨t4,x4,rfl,_⟩:=hy.mk;simp only[go_sem,zE,zB,zA,zL,f2,f4,f45,f46,f47,lt_i E,ec aN,ec aL,iNn,ay,ax,fits];refine ab.mono ?_;rintro _ st ⟨rfl,rfl⟩;by_cases hc:db (eL l) (.mk v2 n2 u2)=db (eR l) (.mk v3 n3 u3)
   ·simp only[go_sem,zE,f2,f3,f4,f45,f46,f47,yZ2.2 hc,ek E (by omega)];exact O hc
   ·simp only[go_sem,yQq.2 hc];exact dw ⟨ac false (by simp only[bFt,false_iff];exact λh=>ai hc h.1),rfl⟩
  rintro fr st _ ⟨aj,f2,f3,f4,f45,f46,f47,rfl,rfl⟩;rw[lTl,h2,lTl] at aj;simp only[go_sem,zE,zA,zL,f3,f46,f47,eI (nLi _)];refine (qZ gl op n _ _ _ _ _).q ?_
 simp only[go_sem,zE,f3,hq,ag.len];intros;obtain⟨m,tm,sm,hm,htm,au⟩:∃m tm sm,m=l/\tm=tl/\sm=st:=⟨_,_,_,rfl,rfl,rfl⟩
 have av:arT tm m:=by rw[hm,htm];exact htl
 have aQ:m.length<=l.length+1:=by rw[hm];omega
 have aw:=subSt.refl sm;rw[<- hm,<- htm] at f2;rw[<- au];rw[show dbFs (eL l) sub=dbFs (eL m) sub by rw[hm],show dbFs (eR l) A=dbFs (eR m) A by rw[hm]] at ac
 rotate_left
 obtain⟨m,hm⟩:∃m,m=l++[(n,J)]:=⟨_,rfl⟩
 have aI:arI l++[.agg [n,J]]=arI m:=by rw[hm,E5];rfl
 have aT:eL m=n::eL l:=by rw[hm];simp
 have aS:eR m=J::eR l:=by rw[hm];simp
 have aQ:m.length<=l.length+1:=by rw[hm];simp
 rw[<- aT,<- aS] at ac;rcases htl with⟨rfl,rfl⟩|⟨g0,rfl⟩
 all_goals try
  simp only[go_sem,zE,zA,zM,zL,reduceCtorEq,f2,f3,f4,hq,fits,ag.len,lD,rk,E8,fg,E7]
  first
   | refine λg=>fc λhg=>?_
   | refine gp ⟨by omega,by omega⟩ λg=>fc λhg=>?_
  intros
  first
   | rw[aI]
   | rw[show[IV.agg [n,J]]=arI m from aI]
  have av:arT ⟨true,.app g,2⟩ m:=.inr ⟨g,rfl⟩;generalize (⟨true,.app g,2⟩:Tag)=tm at av ⊢;generalize au:ISt.put st g _=sm;have aw:subSt st sm:=by rw[<- au];exact gj hg
 all_goals
  refine dC sub.length (λk fr st' ds=>dbFs (eL m) (sub.take k)=dbFs (eR m) (A.take k)/\fr 2=.iv (.sl tm (arI m))/\fr 4=.box [.raw (.int .u8 op),J,.sl t3 y1,.sl t4 y2] /\
   fr 78=.iv (.sl t2 x2)/\fr 79=sub.length/\fr 80=.iv (.raw (.int .i64 k))/\st'=sm/\ds=[]) ?_ ?_ ?_
  ·simp only[go_sem,zE,f2,f4];exact⟨rfl,rfl⟩
  ·rintro k fr sm _ E ⟨hn,f2,f4,f78,f79,f80,rfl,rfl⟩;obtain⟨a,G⟩:=ed E;obtain⟨b,U⟩:=ed (h3▸E);obtain⟨x,ay,hx⟩:=ag.get G;obtain⟨y,ax,hy⟩:=an.get U;obtain⟨bo,bn⟩:=kW G;have ab:=IH a (lMg G) b m tm av (by omega) x y hx hy (wq aE (lMg G)) (wq aC (lMg U)) sm;have aa:=Aj (env:=eL m) G;have ah:=Aj (env:=eR m) U;have ai:dbF (eL m) a≠dbF (eR m) b->dbFs (eL m) sub≠dbFs (eR m) A:=λh he=>by
    rw[he,ah] at aa;exact h (fA aa).symm
   have O:dbF (eL m) a=dbF (eR m) b->dbFs (eL m) (sub.take (k+1))=dbFs (eR m) (A.take (k+1)):=λh=>by
    rw[ux,ux,en aa,en ah,<- ux,<- ux,hn,h]
   obtain⟨o5,n5,u5,s5⟩:=a;obtain⟨o6,n6,u6,s6⟩:=b;obtain⟨t5,x5,t6,x6,rfl,_⟩:=hx.mk;obtain⟨t7,x7,t8,x8,rfl,_⟩:=hy.mk;simp only[go_sem,zE,zB,zA,zL,f2,f4,f78,f79,f80,lt_i E,ec aM,ec aK,iNn,ay,ax,fits];refine ab.mono ?_;rintro _ sm ⟨rfl,rfl⟩;by_cases hc:dbF (eL m) (.mk o5 n5 u5 s5)=dbF (eR m) (.mk o6 n6 u6 s6)
   ·simp only[go_sem,zE,f2,f4,f78,f79,f80,yZ2.2 hc,ek E (by omega)];exact O hc
   ·simp only[go_sem,yQq.2 hc];exact fN aw ⟨ac false (by simp only[bFt,false_iff];exact λh=>ai hc h.2),rfl⟩
  rintro fr sm _ ⟨hn,f2,f4,f78,f79,f80,rfl,rfl⟩;rw[lTl,h3,lTl] at hn;simp only[go_sem,f79,f80,eI (nLi _)];exact fN aw ⟨ac true ⟨λ_=>⟨aj,hn⟩,λ_=>rfl⟩,rfl⟩
def E_:∀(k:Nat)(t:Fm),SizeOf.sizeOf t<k->AK gl t
 | 0,f,h=>by omega
 | k+1,.mk o n us sub,h=>MN gl o n us sub (λa A=>E_ k a (by
   have:=lSm A;simp at h;omega))
def MO (t:Fm):AK gl t:=E_ gl _ t (fP _)
