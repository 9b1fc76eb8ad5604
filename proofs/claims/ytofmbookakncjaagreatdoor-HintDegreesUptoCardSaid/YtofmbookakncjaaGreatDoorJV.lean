/- Walks: alikeTerm. -/
import Derived.Test.YtofmbookakncjaaGreatDoorJU
set_option linter.all false
open Nat renaming reduceEqDiff → zE,reduceBEq → zB,reduceAdd → zA,reduceMul → zM,reduceLeDiff → zL
namespace Go.Proofs.Tryz
open Go Go.Iv
set_option maxRecDepth 4000
variable (gl:Nat->Option IV)
def arI (l:Ar):List IV:=l.map λp=>.agg [.raw (.string p.1),.raw (.string p.2)]
theorem yKm (l:Ar):(arI l).length=l.length:=by simp[arI]
theorem yUn {l:Ar}{k:Nat}{p:ByteArray×ByteArray}(h:l[k]?=some p):(arI l)[k]?=some (.agg [.raw (.string p.1),.raw (.string p.2)]):=by simp[arI,h]
theorem zYn (l m:Ar):arI (l++m)=arI l++arI m:=by simp[arI]
abbrev eL (l:Ar):List ByteArray:=l.reverse.map (·.1)
abbrev eR (l:Ar):List ByteArray:=l.reverse.map (·.2)
theorem vGc {l:Ar}{k:Nat}{p:ByteArray×ByteArray}(h:l[k]?=some p):eL (l.take (k+1))=p.1::eL (l.take k)/\eR (l.take (k+1))=p.2::eR (l.take k):=by
 rw[yQ6 h];simp
theorem kZy (l:Ar):(eL l).length=(eR l).length:=by simp
theorem yGj (env:List ByteArray):∀l:List Tm,(dbs env l).length=l.length
 | []=>rfl
 | a::l=>by simp only[dbs,List.length_cons,yGj env l]
theorem yKg (env:List ByteArray):∀(l:List Tm) (k:Nat),dbs env (l.take k)=(dbs env l).take k
 | [],k=>by simp[dbs]
 | a::l,0=>by simp[dbs]
 | a::l,k+1=>by simp only[List.take_succ_cons,dbs,yKg env l k]
theorem zV4 {env:List ByteArray}:∀ {l:List Tm} {k:Nat} {a:Tm},l[k]?=some a->(dbs env l)[k]?=some (db env a)
 | [],k,a,h=>by simp at h
 | b::l,0,a,h=>by simp at h;subst h;rfl
 | b::l,k+1,a,h=>by simp only[dbs,List.getElem?_cons_succ];exact zV4 (by simpa using h)
theorem yYi:∀ {l:List Tm}{a:Tm},yYj l=true->a∈l->a.ok=true
 | b::l,a,h,hm=>by
  rcases List.mem_cons.1 hm with rfl|hm
  ·exact (yKk h).1
  ·exact yYi (yKk h).2 hm
theorem zQ8:∀ {l:List Fm}{a:Fm},yY4 l=true->a∈l->a.ok=true
 | b::l,a,h,hm=>by
  rcases List.mem_cons.1 hm with rfl|hm
  ·exact (yKl h).1
  ·exact zQ8 (yKl h).2 hm
section
variable (l:Ar)(tl:Tag)(htl:okEs tl 2)(hll:l.length<=1099511627776)
def AT (t:Tm):Prop:=∀(u:Tm) (x y:IV) (_:IsTm t x) (_:IsTm u y) (_:t.ok=true) (_:u.ok=true) (st:ISt),
 ICall prog gl 139 [x,y,.sl tl (arI l)] st (λr st'=>r=.raw (.bool (eqB (db (eL l) t) (db (eR l) u)))/\st'=st)
include htl hll in
theorem zW5 (v:Bool)(n:ByteArray)(us:List Tm)(IH:∀a∈us,AT gl l tl a):AT gl l tl (.mk v n us):=by
 rintro⟨w,m,ws⟩ x y hx hy ai ac st;obtain⟨t1,x1,rfl,au,J⟩:=hx.mk;obtain⟨t2,y1,rfl,aq,G⟩:=hy.mk;refine iI func139 ?_;cases v<;>cases w
 ·by_cases U:us.length=ws.length
  ·have A:decide ((us.length:Int)=(ws.length:Int))=true:=dEt (by omega);by_cases D:n=m
   ·subst D;simp only[go_sem,zE,J.len,G.len,A,decide_true,beq_self_eq_true];intros;refine LoopC.ctr us.length (λk fr st' ds=>dbs (eL l) (us.take k)=dbs (eR l) (ws.take k)/\fr 2=.iv (.sl tl (arI l))/\fr 3=.box [.raw (.bool false),.raw (.string n),.sl t1 x1]/\fr 4=.box [.raw (.bool false),.raw (.string n),.sl t2 y1] /\
     fr 34=.iv (.sl t1 x1)/\fr 35=.iv (.raw (.int .i64 us.length))/\fr 36=.iv (.raw (.int .i64 k))/\st'=st/\ds=[]) ?_ ?_ ?_
    ·simp only[go_sem,zE];exact⟨rfl,rfl⟩
    ·rintro k fr st _ O ⟨E,f2,f3,f4,f34,f35,f36,rfl,rfl⟩;obtain⟨a,ab⟩:=yQ1 O;obtain⟨b,af⟩:=yQ1 (U▸O);obtain⟨x,ax,hx⟩:=J.get ab;obtain⟨y,aw,hy⟩:=G.get af;have ah:=IH a (lMg ab) b x y hx hy (yYi (xWd ai) (lMg ab)) (yYi (xWd ac) (lMg af)) st;have ag:=zV4 (env:=eL l) ab;have ak:=zV4 (env:=eR l) af;have av:db (eL l) a≠db (eR l) b->eqB (db (eL l) (.mk false n us)) (db (eR l) (.mk false n ws))=false:=λh=>by
      rw[yQo];simp only[db];intro he;injection he with _ he;rw[he,ak] at ag;exact h (Option.some.inj ag).symm
     have ae:db (eL l) a=db (eR l) b->dbs (eL l) (us.take (k+1))=dbs (eR l) (ws.take (k+1)):=λh=>by
      rw[yKg,yKg,yQ6 ag,yQ6 ak,<- yKg,<- yKg,E,h]
     obtain⟨v2,n2,u2⟩:=a;obtain⟨v3,n3,u3⟩:=b;obtain⟨t3,x3,rfl,_⟩:=hx.mk;obtain⟨t4,x4,rfl,_⟩:=hy.mk;simp only[go_sem,zE,zB,zA,zL,f2,f4,f34,f35,f36,lt_i O,yQ3 au,yQ3 aq,iNn,ax,aw,fits];refine ah.mono ?_;rintro _ st ⟨rfl,rfl⟩;by_cases hc:db (eL l) (.mk v2 n2 u2)=db (eR l) (.mk v3 n3 u3)
     ·simp only[go_sem,zE,f2,f3,f4,f34,f35,f36,yZ0.2 hc,yQc O (show us.length<=281474976710656 by omega)];exact ae hc
     ·simp only[go_sem,yQo.2 hc];exact yQ0 ⟨by rw[av hc],rfl⟩
    ·rintro fr st _ ⟨E,f2,f3,f4,f34,f35,f36,rfl,rfl⟩;simp only[go_sem,f35,f36,yQl (nLi _)];refine yQ0 ⟨?_,rfl⟩;rw[lTl,U,lTl] at E;rw[yZ0.2 (by simp only[db,E])]
   ·simp only[go_sem,zE,J.len,G.len,A,dEf D,beq_self_eq_true];intros;refine yQ0 ⟨?_,rfl⟩;rw[yQo.2];simp only[db];intro he;injection he with he;exact D he
  ·have A:decide ((us.length:Int)=(ws.length:Int))=false:=dEf (by omega);simp only[go_sem,zE,J.len,G.len,A,beq_self_eq_true];intros;refine yQ0 ⟨?_,rfl⟩;rw[yQo.2];simp only[db];intro he;injection he with _ he;have:=congrArg List.length he;rw[yGj,yGj] at this;exact U this
 ·simp only[go_sem,zE,zA,show (false == true)=false from rfl];refine yQ0 ⟨?_,rfl⟩;rw[yQo.2];simp only[db];exact λh=>xWm h.symm
 ·simp only[go_sem,zE,zA,show (true == false)=false from rfl];refine yQ0 ⟨?_,rfl⟩;rw[yQo.2];simp only[db];exact λh=>xWm h
 ·obtain rfl:=xWc ai;obtain rfl:=xWc ac;have aI:decide (((([]:List Tm).length:Nat):Int)=((([]:List Tm).length:Nat):Int))=true:=dEt rfl;have ao:IntKind.i64.wrap ((l.length:Int)-1)=(l.length:Int)-1:=by rw[w64]<;>omega
  simp only[db];simp only[go_sem,zE,zL,J.len,G.len,decide_true,yKm,ao];intro aB;refine LoopC.ctr l.length (λk fr st' ds=>(yKy (eL l) n=yKy (eR l) m↔yKy (eL (l.take (l.length-k))) n=yKy (eR (l.take (l.length-k))) m)/\fr 2=.iv (.sl tl (arI l)) /\
   fr 3=.box [.raw (.bool true),.raw (.string n),.sl t1 x1]/\fr 4=.box [.raw (.bool true),.raw (.string m),.sl t2 y1]/\fr 9=.iv (.raw (.int .i64 (((l.length-k:Nat):Int)-1)))/\st'=st/\ds=[]) ?_ ?_ ?_
  ·simp only[go_sem,zE,lTl]
  ·rintro k fr st _ O ⟨E,f2,f3,f4,f9,rfl,rfl⟩;obtain⟨j,hj⟩:∃j,l.length-k=j+1:=⟨l.length-k-1,by omega⟩
   obtain⟨p,hp⟩:=yQ1 (show j<l.length by omega);obtain⟨e1,e2⟩:=vGc hp;rw[hj,e1,e2,xUi (kZy _)] at E;rw[hj,show (((j+1:Nat):Int)-1)=(j:Int) by omega] at f9;have hw:IntKind.i64.wrap ((j:Int)-1)=(((l.length-(k+1):Nat):Int)-1):=by rw[w64]<;>omega
   have ay:l.length-(k+1)=j:=by omega
   by_cases h1:p.1=n
   ·by_cases h2:p.2=m
    ·have hi:=E.2 (by rw[if_pos (.inl h1.symm)];exact⟨h1.symm,h2.symm⟩);simp only[go_sem,zE,zB,zA,zL,f2,f3,f4,f9,decide_true,yQ3 htl,iNn,yUn hp,fits,dEt h1,dEt h2];exact yQ0 ⟨by rw[yZ0.2 hi],rfl⟩
    ·have hi:¬ yKy (eL l) n=yKy (eR l) m:=λh=>by
      have:=E.1 h;rw[if_pos (.inl h1.symm)] at this;exact h2 this.2.symm
     simp only[go_sem,zE,zB,zA,zL,f2,f3,f4,f9,decide_true,yQ3 htl,iNn,yUn hp,fits,dEt h1,dEf h2];exact yQ0 ⟨by rw[yQo.2 hi],rfl⟩
   ·by_cases h2:p.2=m
    ·have hi:¬ yKy (eL l) n=yKy (eR l) m:=λh=>by
      have:=E.1 h;rw[if_pos (.inr h2.symm)] at this;exact h1 this.1.symm
     simp only[go_sem,zE,zB,zA,zL,f2,f3,f4,f9,decide_true,yQ3 htl,iNn,yUn hp,fits,dEf h1,dEt h2];exact yQ0 ⟨by rw[yQo.2 hi],rfl⟩
    ·rw[if_neg (λh=>h.elim (λh=>h1 h.symm) (λh=>h2 h.symm))] at E;simp only[go_sem,zE,zB,zA,zL,f2,f3,f4,f9,decide_true,yQ3 htl,iNn,yUn hp,fits,dEf h1,dEf h2,hw];rw[ay];exact E
  ·rintro fr st _ ⟨E,f2,f3,f4,f9,rfl,rfl⟩;rw[Nat.sub_self,List.take_zero] at E;rw[Nat.sub_self] at f9;have hz:yKy (eL l) n=yKy (eR l) m↔n=m:=by rw[E];simp[wXw]
   simp only[go_sem,zE,f3,f4,f9,show decide ((0:Int)<=(((0:Nat):Int)-1))=false from rfl];refine yQ0 ⟨?_,rfl⟩;by_cases D:n=m
   ·rw[yZ0.2 (hz.2 D),dEt D]
   ·rw[yQo.2 (λh=>D (hz.1 h)),dEf D]
include htl hll in
theorem zQw:∀(k:Nat)(t:Tm),SizeOf.sizeOf t<k->AT gl l tl t
 | 0,f,h=>by omega
 | k+1,.mk v n us,h=>zW5 gl l tl htl hll v n us (λa A=>zQw k a (by
   have:=lSm A;simp at h;omega))
include htl hll in
theorem xKz (t:Tm):AT gl l tl t:=zQw gl l tl htl hll _ t (Nat.lt_succ_self _)
end
theorem xGb (l:Ar):List.take l.length (arI l)=arI l:=by rw[<- yKm,lTl]
theorem zWi (n:Nat):yXb none (some (n:Int)) n=some (0,n):=by
 unfold yXb;simp
theorem yQ4 (x:Operand):yV1 1 [(0,x)]=true:=rfl
theorem yJs (x y:Operand):yV1 2 [(0,x),(1,y)]=true:=rfl
def arT (tl:Tag)(l:Ar):Prop:=(tl=⟨true,.nil,0⟩/\l=[])\/∃g,tl=⟨true,.app g,2⟩
theorem arT.es {tl:Tag}{l:Ar}(h:arT tl l):okEs tl 2:=by
 rcases h with⟨rfl,_⟩|⟨g,rfl⟩
 ·exact .inl rfl
 ·exact .inr rfl
theorem zV5 (env:List ByteArray):∀l:List Fm,(dbFs env l).length=l.length
 | []=>rfl
 | a::l=>by simp only[dbFs,List.length_cons,zV5 env l]
theorem yG0 (env:List ByteArray):∀(l:List Fm) (k:Nat),dbFs env (l.take k)=(dbFs env l).take k
 | [],k=>by simp[dbFs]
 | a::l,0=>by simp[dbFs]
 | a::l,k+1=>by simp only[List.take_succ_cons,dbFs,yG0 env l k]
theorem zUj {env:List ByteArray}:∀ {l:List Fm} {k:Nat} {a:Fm},l[k]?=some a->(dbFs env l)[k]?=some (dbF env a)
 | [],k,a,h=>by simp at h
 | b::l,0,a,h=>by simp at h;subst h;rfl
 | b::l,k+1,a,h=>by simp only[dbFs,List.getElem?_cons_succ];exact zUj (by simpa using h)
def AK (f:Fm):Prop:=∀(g:Fm) (l:Ar) (tl:Tag) (_:arT tl l) (_:l.length+f.size<=1099511627776) (x y:IV) (_:IsFm f x) (_:IsFm g y) (_:f.ok=true) (_:g.ok=true) (st:ISt),
 ICall prog gl 109 [x,y,.sl tl (arI l)] st (λr st'=>r=.raw (.bool (eqB (dbF (eL l) f) (dbF (eR l) g)))/\st'=st)
theorem wQf (op:Nat)(n:ByteArray)(us:List Tm)(sub:List Fm)(IH:∀a∈sub,AK gl a):AK gl (.mk op n us sub):=by
 rintro⟨af,J,D,A⟩ l tl htl hll x y hx hy aO aG st;obtain⟨t1,x1,t2,x2,rfl,br,aN,ae,aM,ag⟩:=hx.mk;obtain⟨t3,y1,t4,y2,rfl,bq,aL,al,aK,an⟩:=hy.mk;obtain⟨aF,aE,_⟩:=zK7 aO;obtain⟨aD,aC,_⟩:=zK7 aG;simp only[Fm.size] at hll;have am:∀(P:Prop),(op=af->(if isQ op then (⟨#[]⟩:ByteArray) else n)=(if isQ op then ⟨#[]⟩ else J)->dbs (eL l) us=dbs (eR l) D->dbFs (if isQ op then n::eL l else eL l) sub=dbFs (if isQ op then J::eR l else eR l) A->P)->¬ P →
   eqB (dbF (eL l) (.mk op n us sub)) (dbF (eR l) (.mk af J D A))=false:=λP h hP=>by
  rw[yQo];intro he;simp only[dbF] at he;injection he with h1 h2 h3 h4;subst h1;exact hP (h rfl h2 h3 h4)
 refine iI func109 ?_;by_cases h1:op=af
 case neg =>
  simp only[go_sem,zE,zA,show decide ((op:Int)=(af:Int))=false from dEf (by omega)];intros;exact yQ0 ⟨by rw[am (op=af) (λh _ _ _=>h) h1],rfl⟩
 subst h1;by_cases h2:us.length=D.length
 case neg =>
  simp only[go_sem,zE,decide_true,ae.len,al.len,show decide ((us.length:Int)=(D.length:Int))=false from dEf (by omega)];intros;exact yQ0 ⟨by rw[am (us.length=D.length) (λ_ _ h _=>by have:=congrArg List.length h;simpa[yGj] using this) h2],rfl⟩
 by_cases h3:sub.length=A.length
 case neg =>
  simp only[go_sem,zE,decide_true,ae.len,al.len,show decide ((us.length:Int)=(D.length:Int))=true from dEt (by omega),ag.len,an.len,show decide ((sub.length:Int)=(A.length:Int))=false from dEf (by omega)];intros;exact yQ0 ⟨by rw[am (sub.length=A.length) (λ_ _ _ h=>by have:=congrArg List.length h;simpa[zV5] using this) h3],rfl⟩
 have F2:decide ((us.length:Int)=(D.length:Int))=true:=dEt (by omega);have F3:decide ((sub.length:Int)=(A.length:Int))=true:=dEt (by omega);have a6:=yJ7 us;have a1:=yX4 sub;simp only[go_sem,zE,zA,zL,decide_true,ae.len,al.len,F2,ag.len,an.len,F3];intros;refine (yJ8 gl op n _ _ _ _ _).mono ?_;rintro _ st ⟨rfl,rfl⟩;by_cases h4:isQ op=true\/n=J
 case neg =>
  have h5:isQ op=false:=by simpa using λh=>h4 (.inl h)
  have h6:n≠J:=λh=>h4 (.inr h);simp only[go_sem,zE,zA,h5,dEf h6];exact yQ0 ⟨by rw[am (n=J) (λ_ h _ _=>by simpa[h5] using h) h6],rfl⟩
 have ac:∀r:Bool,(r=true↔dbs (eL l) us=dbs (eR l) D/\dbFs (if isQ op then n::eL l else eL l) sub=dbFs (if isQ op then J::eR l else eR l) A) →
   IV.raw (.bool r)=.raw (.bool (eqB (dbF (eL l) (.mk op n us sub)) (dbF (eR l) (.mk op J D A)))):=λr hr=>by
  congr 2;rw[Bool.eq_iff_iff,hr,yZ0];simp only[dbF];constructor
  ·rintro⟨e1,e2⟩;rw[e1,e2];congr 1;rcases h4 with h|h
   ·simp[h]
   ·rw[h]
  ·intro h;injection h with _ _ e1 e2;exact⟨e1,e2⟩
 have hD:isQ op=false->decide (n=J)=true:=λh=>dEt (h4.resolve_left (by simp[h]));cases hq:isQ op
 all_goals
  rw[hq] at ac;simp only[bFt,if_false,if_true] at ac
  first|have hd:=hD hq|have hd:=ae.len
  simp only[go_sem,zE,zA,hd,ae.len];intros;refine LoopC.ctr us.length (λk fr st' ds=>dbs (eL l) (us.take k)=dbs (eR l) (D.take k)/\fr 2=.iv (.sl tl (arI l))/\fr 3=.box [.raw (.int .u8 op),.raw (.string n),.sl t1 x1,.sl t2 x2]/\fr 4=.box [.raw (.int .u8 op),.raw (.string J),.sl t3 y1,.sl t4 y2] /\
   fr 45=.iv (.sl t1 x1)/\fr 46=.iv (.raw (.int .i64 us.length))/\fr 47=.iv (.raw (.int .i64 k))/\st'=st/\ds=[]) ?_ ?_ ?_
  ·simp only[go_sem,zE];exact⟨rfl,rfl⟩
  ·rintro k fr st _ E ⟨hn,f2,f3,f4,f45,f46,f47,rfl,rfl⟩;obtain⟨a,G⟩:=yQ1 E;obtain⟨b,U⟩:=yQ1 (h2▸E);obtain⟨x,ay,hx⟩:=ae.get G;obtain⟨y,ax,hy⟩:=al.get U;have ab:=xKz gl l tl htl.es (by omega) a b x y hx hy (yYi aF (lMg G)) (yYi aD (lMg U)) st;have aa:=zV4 (env:=eL l) G;have ah:=zV4 (env:=eR l) U;have ai:db (eL l) a≠db (eR l) b->dbs (eL l) us≠dbs (eR l) D:=λh he=>by
    rw[he,ah] at aa;exact h (Option.some.inj aa).symm
   have O:db (eL l) a=db (eR l) b->dbs (eL l) (us.take (k+1))=dbs (eR l) (D.take (k+1)):=λh=>by
    rw[yKg,yKg,yQ6 aa,yQ6 ah,<- yKg,<- yKg,hn,h]
   obtain⟨v2,n2,u2⟩:=a;obtain⟨v3,n3,u3⟩:=b;obtain⟨t3,x3,rfl,_⟩:=hx.mk;obtain⟨t4,x4,rfl,_⟩:=hy.mk;simp only[go_sem,zE,zB,zA,zL,f2,f4,f45,f46,f47,lt_i E,yQ3 aN,yQ3 aL,iNn,ay,ax,fits];refine ab.mono ?_;rintro _ st ⟨rfl,rfl⟩;by_cases hc:db (eL l) (.mk v2 n2 u2)=db (eR l) (.mk v3 n3 u3)
   ·simp only[go_sem,zE,f2,f3,f4,f45,f46,f47,yZ0.2 hc,yQc E (show us.length<=281474976710656 by omega)];exact O hc
   ·simp only[go_sem,yQo.2 hc];exact yQ0 ⟨ac false (by simp only[bFt,false_iff];exact λh=>ai hc h.1),rfl⟩
  rintro fr st _ ⟨aj,f2,f3,f4,f45,f46,f47,rfl,rfl⟩;rw[lTl,h2,lTl] at aj;simp only[go_sem,zE,zA,zL,f3,f46,f47,yQl (nLi _)];refine (yJ8 gl op n _ _ _ _ _).mono ?_;rintro _ st ⟨rfl,rfl⟩
 simp only[go_sem,zE,f3,hq,ag.len];intros;obtain⟨m,tm,sm,hm,htm,au⟩:∃m tm sm,m=l/\tm=tl/\sm=st:=⟨_,_,_,rfl,rfl,rfl⟩
 have av:arT tm m:=by rw[hm,htm];exact htl
 have aQ:m.length<=l.length+1:=by rw[hm];omega
 have aw:=subSt.refl sm;rw[<- hm,<- htm] at f2;rw[<- au];rw[show dbFs (eL l) sub=dbFs (eL m) sub by rw[hm],show dbFs (eR l) A=dbFs (eR m) A by rw[hm]] at ac
 rotate_left
 obtain⟨m,hm⟩:∃m,m=l++[(n,J)]:=⟨_,rfl⟩
 have aI:arI l++[.agg [.raw (.string n),.raw (.string J)]]=arI m:=by rw[hm,zYn];rfl
 have aT:eL m=n::eL l:=by rw[hm];simp
 have aS:eR m=J::eR l:=by rw[hm];simp
 have aQ:m.length<=l.length+1:=by rw[hm];simp
 rw[<- aT,<- aS] at ac;rcases htl with⟨rfl,rfl⟩|⟨g0,rfl⟩
 all_goals try
  simp only[go_sem,zE,zA,zM,zL,reduceCtorEq,f2,f3,f4,hq,fits,ag.len,yW2,yKm,zWi,yQ4,xGb]
  first
   | refine λg=>yQ8 λhg=>?_
   | refine yQp ⟨by omega,by omega⟩ λg=>yQ8 λhg=>?_
  intros
  first
   | rw[aI]
   | rw[show[IV.agg [.raw (.string n),.raw (.string J)]]=arI m from aI]
  have av:arT ⟨true,.app g,2⟩ m:=.inr ⟨g,rfl⟩;generalize (⟨true,.app g,2⟩:Tag)=tm at av ⊢;generalize au:ISt.put st g _=sm;have aw:subSt st sm:=by rw[<- au];exact yQh hg
 all_goals
  refine LoopC.ctr sub.length (λk fr st' ds=>dbFs (eL m) (sub.take k)=dbFs (eR m) (A.take k)/\fr 2=.iv (.sl tm (arI m))/\fr 4=.box [.raw (.int .u8 op),.raw (.string J),.sl t3 y1,.sl t4 y2] /\
   fr 78=.iv (.sl t2 x2)/\fr 79=.iv (.raw (.int .i64 sub.length))/\fr 80=.iv (.raw (.int .i64 k))/\st'=sm/\ds=[]) ?_ ?_ ?_
  ·simp only[go_sem,zE,f2,f4];exact⟨rfl,rfl⟩
  ·rintro k fr sm _ E ⟨hn,f2,f4,f78,f79,f80,rfl,rfl⟩;obtain⟨a,G⟩:=yQ1 E;obtain⟨b,U⟩:=yQ1 (h3▸E);obtain⟨x,ay,hx⟩:=ag.get G;obtain⟨y,ax,hy⟩:=an.get U;obtain⟨bo,bn⟩:=yZ7 G;have ab:=IH a (lMg G) b m tm av (by omega) x y hx hy (zQ8 aE (lMg G)) (zQ8 aC (lMg U)) sm;have aa:=zUj (env:=eL m) G;have ah:=zUj (env:=eR m) U;have ai:dbF (eL m) a≠dbF (eR m) b->dbFs (eL m) sub≠dbFs (eR m) A:=λh he=>by
    rw[he,ah] at aa;exact h (Option.some.inj aa).symm
   have O:dbF (eL m) a=dbF (eR m) b->dbFs (eL m) (sub.take (k+1))=dbFs (eR m) (A.take (k+1)):=λh=>by
    rw[yG0,yG0,yQ6 aa,yQ6 ah,<- yG0,<- yG0,hn,h]
   obtain⟨o5,n5,u5,s5⟩:=a;obtain⟨o6,n6,u6,s6⟩:=b;obtain⟨t5,x5,t6,x6,rfl,_⟩:=hx.mk;obtain⟨t7,x7,t8,x8,rfl,_⟩:=hy.mk;simp only[go_sem,zE,zB,zA,zL,f2,f4,f78,f79,f80,lt_i E,yQ3 aM,yQ3 aK,iNn,ay,ax,fits];refine ab.mono ?_;rintro _ sm ⟨rfl,rfl⟩;by_cases hc:dbF (eL m) (.mk o5 n5 u5 s5)=dbF (eR m) (.mk o6 n6 u6 s6)
   ·simp only[go_sem,zE,f2,f4,f78,f79,f80,yZ0.2 hc,yQc E (show sub.length<=281474976710656 by omega)];exact O hc
   ·simp only[go_sem,yQo.2 hc];exact yQg aw ⟨ac false (by simp only[bFt,false_iff];exact λh=>ai hc h.2),rfl⟩
  rintro fr sm _ ⟨hn,f2,f4,f78,f79,f80,rfl,rfl⟩;rw[lTl,h3,lTl] at hn;simp only[go_sem,f79,f80,yQl (nLi _)];exact yQg aw ⟨ac true ⟨λ_=>⟨aj,hn⟩,λ_=>rfl⟩,rfl⟩
theorem xXa:∀(k:Nat)(t:Fm),SizeOf.sizeOf t<k->AK gl t
 | 0,f,h=>by omega
 | k+1,.mk o n us sub,h=>wQf gl o n us sub (λa A=>xXa k a (by
   have:=lSm A;simp at h;omega))
theorem vXx (t:Fm):AK gl t:=xXa gl _ t (Nat.lt_succ_self _)
