/- Walks: alikeTerm. -/
import Derived.Test.YtdbmgeebmfpmpaaGreatDoorJU
set_option linter.all false
open Nat renaming reduceEqDiff → zE,reduceBEq → zB,reduceAdd → zA,reduceMul → zM,reduceLeDiff → zL
namespace Go.Proofs.Tryz
open Go Go.Iv
set_option maxRecDepth 4000
variable (gl:Nat->Option IV)
def arI (l:Ar):List IV:=l.map λp=>.agg [.raw (.string p.1),.raw (.string p.2)]
theorem yKk (l:Ar):(arI l).length=l.length:=by simp[arI]
theorem yUf {l:Ar}{k:Nat}{p:ByteArray×ByteArray}(h:l[k]?=some p):(arI l)[k]?=some (.agg [.raw (.string p.1),.raw (.string p.2)]):=by simp[arI,h]
theorem zY2 (l m:Ar):arI (l++m)=arI l++arI m:=by simp[arI]
abbrev eL (l:Ar):List ByteArray:=l.reverse.map (·.1)
abbrev eR (l:Ar):List ByteArray:=l.reverse.map (·.2)
theorem vWm {l:Ar}{k:Nat}{p:ByteArray×ByteArray}(h:l[k]?=some p):eL (l.take (k+1))=p.1::eL (l.take k)/\eR (l.take (k+1))=p.2::eR (l.take k):=by
 rw[yQ8 h];simp
theorem uUu (l:Ar):(eL l).length=(eR l).length:=by simp
theorem yGf (env:List ByteArray):∀l:List Tm,(dbs env l).length=l.length
 | []=>rfl
 | a::l=>by simp only[dbs,List.length_cons,yGf env l]
theorem yKd (env:List ByteArray):∀(l:List Tm) (k:Nat),dbs env (l.take k)=(dbs env l).take k
 | [],k=>by simp[dbs]
 | a::l,0=>by simp[dbs]
 | a::l,k+1=>by simp only[List.take_succ_cons,dbs,yKd env l k]
theorem zKk {env:List ByteArray}:∀ {l:List Tm} {k:Nat} {a:Tm},l[k]?=some a->(dbs env l)[k]?=some (db env a)
 | [],k,a,h=>by simp at h
 | b::l,0,a,h=>by simp at h;subst h;rfl
 | b::l,k+1,a,h=>by simp only[dbs,List.getElem?_cons_succ];exact zKk (by simpa using h)
theorem yYd:∀ {l:List Tm}{a:Tm},yYe l=true->a∈l->a.ok=true
 | b::l,a,h,hm=>by
  rcases List.mem_cons.1 hm with rfl|hm
  ·exact (yKh h).1
  ·exact yYd (yKh h).2 hm
theorem yUz:∀ {l:List Fm}{a:Fm},yY0 l=true->a∈l->a.ok=true
 | b::l,a,h,hm=>by
  rcases List.mem_cons.1 hm with rfl|hm
  ·exact (yKi h).1
  ·exact yUz (yKi h).2 hm
section
variable (l:Ar)(tl:Tag)(htl:okEs tl 2)(hll:l.length<=1099511627776)
def AT (t:Tm):Prop:=∀(u:Tm) (x y:IV) (_:IsTm t x) (_:IsTm u y) (_:t.ok=true) (_:u.ok=true) (st:ISt),
 ICall prog gl 171 [x,y,.sl tl (arI l)] st (λr st'=>r=.raw (.bool (eqB (db (eL l) t) (db (eR l) u)))/\st'=st)
include htl hll in
theorem zVn (v:Bool)(n:ByteArray)(us:List Tm)(IH:∀a∈us,AT gl l tl a):AT gl l tl (.mk v n us):=by
 rintro⟨w,m,ws⟩ x y hx hy hok hok' st;obtain⟨t1,x1,rfl,ht1,hx1⟩:=hx.mk;obtain⟨t2,y1,rfl,ht2,hy1⟩:=hy.mk;refine iI func171 ?_;cases v<;>cases w
 ·by_cases hlen:us.length=ws.length
  ·have hlen':decide ((us.length:Int)=(ws.length:Int))=true:=dEt (by omega);by_cases hnm:n=m
   ·subst hnm;simp only[go_sem,zE,hx1.len,hy1.len,hlen',decide_true,beq_self_eq_true];intros;refine LoopC.ctr us.length (λk fr st' ds=>dbs (eL l) (us.take k)=dbs (eR l) (ws.take k)/\fr 2=.iv (.sl tl (arI l))/\fr 3=.box [.raw (.bool false),.raw (.string n),.sl t1 x1]/\fr 4=.box [.raw (.bool false),.raw (.string n),.sl t2 y1] /\
     fr 34=.iv (.sl t1 x1)/\fr 35=.iv (.raw (.int .i64 us.length))/\fr 36=.iv (.raw (.int .i64 k))/\st'=st/\ds=[]) ?_ ?_ ?_
    ·simp only[go_sem,zE];exact⟨rfl,rfl⟩
    ·rintro k fr st _ hlt ⟨hn,f2,f3,f4,f34,f35,f36,rfl,rfl⟩;obtain⟨a,hka⟩:=yQ1 hlt;obtain⟨b,hkb⟩:=yQ1 (hlen▸hlt);obtain⟨x,hkx,hx⟩:=hx1.get hka;obtain⟨y,hky,hy⟩:=hy1.get hkb;have hcall:=IH a (lMg hka) b x y hx hy (yYd (xVj hok) (lMg hka)) (yYd (xVj hok') (lMg hkb)) st;have hg1:=zKk (env:=eL l) hka;have hg2:=zKk (env:=eR l) hkb;have hne:db (eL l) a≠db (eR l) b->eqB (db (eL l) (.mk false n us)) (db (eR l) (.mk false n ws))=false:=λh=>by
      rw[yQp];simp only[db];intro he;injection he with _ he;rw[he,hg2] at hg1;exact h (Option.some.inj hg1).symm
     have hnext:db (eL l) a=db (eR l) b->dbs (eL l) (us.take (k+1))=dbs (eR l) (ws.take (k+1)):=λh=>by
      rw[yKd,yKd,yQ8 hg1,yQ8 hg2,<- yKd,<- yKd,hn,h]
     obtain⟨v2,n2,u2⟩:=a;obtain⟨v3,n3,u3⟩:=b;obtain⟨t3,x3,rfl,_⟩:=hx.mk;obtain⟨t4,x4,rfl,_⟩:=hy.mk;simp only[go_sem,zE,zB,zA,zL,f2,f4,f34,f35,f36,lt_i hlt,yQ4 ht1,yQ4 ht2,iNn,hkx,hky,fits];refine hcall.mono ?_;rintro _ st ⟨rfl,rfl⟩;by_cases hc:db (eL l) (.mk v2 n2 u2)=db (eR l) (.mk v3 n3 u3)
     ·simp only[go_sem,zE,f2,f3,f4,f34,f35,f36,yZ7.2 hc,yQd hlt (show us.length<=281474976710656 by omega)];exact hnext hc
     ·simp only[go_sem,yQp.2 hc];exact yQ0 ⟨by rw[hne hc],rfl⟩
    ·rintro fr st _ ⟨hn,f2,f3,f4,f34,f35,f36,rfl,rfl⟩;simp only[go_sem,f35,f36,yQl (nLi _)];refine yQ0 ⟨?_,rfl⟩;rw[lTl,hlen,lTl] at hn;rw[yZ7.2 (by simp only[db,hn])]
   ·simp only[go_sem,zE,hx1.len,hy1.len,hlen',dEf hnm,beq_self_eq_true];intros;refine yQ0 ⟨?_,rfl⟩;rw[yQp.2];simp only[db];intro he;injection he with he;exact hnm he
  ·have hlen':decide ((us.length:Int)=(ws.length:Int))=false:=dEf (by omega);simp only[go_sem,zE,hx1.len,hy1.len,hlen',beq_self_eq_true];intros;refine yQ0 ⟨?_,rfl⟩;rw[yQp.2];simp only[db];intro he;injection he with _ he;have:=congrArg List.length he;rw[yGf,yGf] at this;exact hlen this
 ·simp only[go_sem,zE,zA,show (false == true)=false from rfl];refine yQ0 ⟨?_,rfl⟩;rw[yQp.2];simp only[db];exact λh=>xVt h.symm
 ·simp only[go_sem,zE,zA,show (true == false)=false from rfl];refine yQ0 ⟨?_,rfl⟩;rw[yQp.2];simp only[db];exact λh=>xVt h
 ·obtain rfl:=xVi hok;obtain rfl:=xVi hok';have h00:decide (((([]:List Tm).length:Nat):Int)=((([]:List Tm).length:Nat):Int))=true:=dEt rfl;have hwl:IntKind.i64.wrap ((l.length:Int)-1)=(l.length:Int)-1:=by rw[w64]<;>omega
  simp only[db];simp only[go_sem,zE,zL,hx1.len,hy1.len,decide_true,yKk,hwl];intro hll2;refine LoopC.ctr l.length (λk fr st' ds=>(yKs (eL l) n=yKs (eR l) m↔yKs (eL (l.take (l.length-k))) n=yKs (eR (l.take (l.length-k))) m)/\fr 2=.iv (.sl tl (arI l)) /\
   fr 3=.box [.raw (.bool true),.raw (.string n),.sl t1 x1]/\fr 4=.box [.raw (.bool true),.raw (.string m),.sl t2 y1]/\fr 9=.iv (.raw (.int .i64 (((l.length-k:Nat):Int)-1)))/\st'=st/\ds=[]) ?_ ?_ ?_
  ·simp only[go_sem,zE,lTl]
  ·rintro k fr st _ hlt ⟨hn,f2,f3,f4,f9,rfl,rfl⟩;obtain⟨j,hj⟩:∃j,l.length-k=j+1:=⟨l.length-k-1,by omega⟩
   obtain⟨p,hp⟩:=yQ1 (show j<l.length by omega);obtain⟨e1,e2⟩:=vWm hp;rw[hj,e1,e2,xGh (uUu _)] at hn;rw[hj,show (((j+1:Nat):Int)-1)=(j:Int) by omega] at f9;have hw:IntKind.i64.wrap ((j:Int)-1)=(((l.length-(k+1):Nat):Int)-1):=by rw[w64]<;>omega
   have hjk:l.length-(k+1)=j:=by omega
   by_cases h1:p.1=n
   ·by_cases h2:p.2=m
    ·have hi:=hn.2 (by rw[if_pos (.inl h1.symm)];exact⟨h1.symm,h2.symm⟩);simp only[go_sem,zE,zB,zA,zL,f2,f3,f4,f9,decide_true,yQ4 htl,iNn,yUf hp,fits,dEt h1,dEt h2];exact yQ0 ⟨by rw[yZ7.2 hi],rfl⟩
    ·have hi:¬ yKs (eL l) n=yKs (eR l) m:=λh=>by
      have:=hn.1 h;rw[if_pos (.inl h1.symm)] at this;exact h2 this.2.symm
     simp only[go_sem,zE,zB,zA,zL,f2,f3,f4,f9,decide_true,yQ4 htl,iNn,yUf hp,fits,dEt h1,dEf h2];exact yQ0 ⟨by rw[yQp.2 hi],rfl⟩
   ·by_cases h2:p.2=m
    ·have hi:¬ yKs (eL l) n=yKs (eR l) m:=λh=>by
      have:=hn.1 h;rw[if_pos (.inr h2.symm)] at this;exact h1 this.1.symm
     simp only[go_sem,zE,zB,zA,zL,f2,f3,f4,f9,decide_true,yQ4 htl,iNn,yUf hp,fits,dEf h1,dEt h2];exact yQ0 ⟨by rw[yQp.2 hi],rfl⟩
    ·rw[if_neg (λh=>h.elim (λh=>h1 h.symm) (λh=>h2 h.symm))] at hn;simp only[go_sem,zE,zB,zA,zL,f2,f3,f4,f9,decide_true,yQ4 htl,iNn,yUf hp,fits,dEf h1,dEf h2,hw];rw[hjk];exact hn
  ·rintro fr st _ ⟨hn,f2,f3,f4,f9,rfl,rfl⟩;rw[Nat.sub_self,List.take_zero] at hn;rw[Nat.sub_self] at f9;have hz:yKs (eL l) n=yKs (eR l) m↔n=m:=by rw[hn];simp[wZt]
   simp only[go_sem,zE,f3,f4,f9,show decide ((0:Int)<=(((0:Nat):Int)-1))=false from rfl];refine yQ0 ⟨?_,rfl⟩;by_cases hnm:n=m
   ·rw[yZ7.2 (hz.2 hnm),dEt hnm]
   ·rw[yQp.2 (λh=>hnm (hz.1 h)),dEf hnm]
include htl hll in
theorem zQl:∀(k:Nat)(t:Tm),SizeOf.sizeOf t<k->AT gl l tl t
 | 0,f,h=>by omega
 | k+1,.mk v n us,h=>zVn gl l tl htl hll v n us (λa ha=>zQl k a (by
   have:=lSm ha;simp at h;omega))
include htl hll in
theorem xK4 (t:Tm):AT gl l tl t:=zQl gl l tl htl hll _ t (Nat.lt_succ_self _)
end
theorem xYa (l:Ar):List.take l.length (arI l)=arI l:=by rw[<- yKk,lTl]
theorem zVx (n:Nat):yX6 none (some (n:Int)) n=some (0,n):=by
 unfold yX6;simp
theorem yQ3 (x:Operand):yKv 1 [(0,x)]=true:=rfl
theorem yJs (x y:Operand):yKv 2 [(0,x),(1,y)]=true:=rfl
def arT (tl:Tag)(l:Ar):Prop:=(tl=⟨true,.nil,0⟩/\l=[])\/∃g,tl=⟨true,.app g,2⟩
theorem arT.es {tl:Tag}{l:Ar}(h:arT tl l):okEs tl 2:=by
 rcases h with⟨rfl,_⟩|⟨g,rfl⟩
 ·exact .inl rfl
 ·exact .inr rfl
theorem zKl (env:List ByteArray):∀l:List Fm,(dbFs env l).length=l.length
 | []=>rfl
 | a::l=>by simp only[dbFs,List.length_cons,zKl env l]
theorem yYu (env:List ByteArray):∀(l:List Fm) (k:Nat),dbFs env (l.take k)=(dbFs env l).take k
 | [],k=>by simp[dbFs]
 | a::l,0=>by simp[dbFs]
 | a::l,k+1=>by simp only[List.take_succ_cons,dbFs,yYu env l k]
theorem zGw {env:List ByteArray}:∀ {l:List Fm} {k:Nat} {a:Fm},l[k]?=some a->(dbFs env l)[k]?=some (dbF env a)
 | [],k,a,h=>by simp at h
 | b::l,0,a,h=>by simp at h;subst h;rfl
 | b::l,k+1,a,h=>by simp only[dbFs,List.getElem?_cons_succ];exact zGw (by simpa using h)
def AK (f:Fm):Prop:=∀(g:Fm) (l:Ar) (tl:Tag) (_:arT tl l) (_:l.length+f.size<=1099511627776) (x y:IV) (_:IsFm f x) (_:IsFm g y) (_:f.ok=true) (_:g.ok=true) (st:ISt),
 ICall prog gl 125 [x,y,.sl tl (arI l)] st (λr st'=>r=.raw (.bool (eqB (dbF (eL l) f) (dbF (eR l) g)))/\st'=st)
theorem xUc (op:Nat)(n:ByteArray)(us:List Tm)(sub:List Fm)(IH:∀a∈sub,AK gl a):AK gl (.mk op n us sub):=by
 rintro⟨op',n',us',sub'⟩ l tl htl hll x y hx hy hok hok' st;obtain⟨t1,x1,t2,x2,rfl,ho1,ht1,hx1,ht2,hx2⟩:=hx.mk;obtain⟨t3,y1,t4,y2,rfl,ho2,ht3,hy1,ht4,hy2⟩:=hy.mk;obtain⟨hok1,hok2,_⟩:=zJo hok;obtain⟨hok3,hok4,_⟩:=zJo hok';simp only[Fm.size] at hll;have hno:∀(P:Prop),(op=op'->(if isQ op then (⟨#[]⟩:ByteArray) else n)=(if isQ op then ⟨#[]⟩ else n')->dbs (eL l) us=dbs (eR l) us'->dbFs (if isQ op then n::eL l else eL l) sub=dbFs (if isQ op then n'::eR l else eR l) sub'->P)->¬ P →
   eqB (dbF (eL l) (.mk op n us sub)) (dbF (eR l) (.mk op' n' us' sub'))=false:=λP h hP=>by
  rw[yQp];intro he;simp only[dbF] at he;injection he with h1 h2 h3 h4;subst h1;exact hP (h rfl h2 h3 h4)
 refine iI func125 ?_;by_cases h1:op=op'
 case neg =>
  simp only[go_sem,zE,zA,show decide ((op:Int)=(op':Int))=false from dEf (by omega)];intros;exact yQ0 ⟨by rw[hno (op=op') (λh _ _ _=>h) h1],rfl⟩
 subst h1;by_cases h2:us.length=us'.length
 case neg =>
  simp only[go_sem,zE,decide_true,hx1.len,hy1.len,show decide ((us.length:Int)=(us'.length:Int))=false from dEf (by omega)];intros;exact yQ0 ⟨by rw[hno (us.length=us'.length) (λ_ _ h _=>by have:=congrArg List.length h;simpa[yGf] using this) h2],rfl⟩
 by_cases h3:sub.length=sub'.length
 case neg =>
  simp only[go_sem,zE,decide_true,hx1.len,hy1.len,show decide ((us.length:Int)=(us'.length:Int))=true from dEt (by omega),hx2.len,hy2.len,show decide ((sub.length:Int)=(sub'.length:Int))=false from dEf (by omega)];intros;exact yQ0 ⟨by rw[hno (sub.length=sub'.length) (λ_ _ _ h=>by have:=congrArg List.length h;simpa[zKl] using this) h3],rfl⟩
 have F2:decide ((us.length:Int)=(us'.length:Int))=true:=dEt (by omega);have F3:decide ((sub.length:Int)=(sub'.length:Int))=true:=dEt (by omega);have hsl1:=yJr us;have hsl2:=yXf sub;simp only[go_sem,zE,zA,zL,decide_true,hx1.len,hy1.len,F2,hx2.len,hy2.len,F3];intros;refine (yJ2 gl op n _ _ _ _ _).mono ?_;rintro _ st ⟨rfl,rfl⟩;by_cases h4:isQ op=true\/n=n'
 case neg =>
  have h5:isQ op=false:=by simpa using λh=>h4 (.inl h)
  have h6:n≠n':=λh=>h4 (.inr h);simp only[go_sem,zE,zA,h5,dEf h6];exact yQ0 ⟨by rw[hno (n=n') (λ_ h _ _=>by simpa[h5] using h) h6],rfl⟩
 have fin:∀r:Bool,(r=true↔dbs (eL l) us=dbs (eR l) us'/\dbFs (if isQ op then n::eL l else eL l) sub=dbFs (if isQ op then n'::eR l else eR l) sub') →
   IV.raw (.bool r)=.raw (.bool (eqB (dbF (eL l) (.mk op n us sub)) (dbF (eR l) (.mk op n' us' sub')))):=λr hr=>by
  congr 2;rw[Bool.eq_iff_iff,hr,yZ7];simp only[dbF];constructor
  ·rintro⟨e1,e2⟩;rw[e1,e2];congr 1;rcases h4 with h|h
   ·simp[h]
   ·rw[h]
  ·intro h;injection h with _ _ e1 e2;exact⟨e1,e2⟩
 have hD:isQ op=false->decide (n=n')=true:=λh=>dEt (h4.resolve_left (by simp[h]));cases hq:isQ op
 all_goals
  rw[hq] at fin;simp only[bFt,if_false,if_true] at fin
  first|have hd:=hD hq|have hd:=hx1.len
  simp only[go_sem,zE,zA,hd,hx1.len];intros;refine LoopC.ctr us.length (λk fr st' ds=>dbs (eL l) (us.take k)=dbs (eR l) (us'.take k)/\fr 2=.iv (.sl tl (arI l))/\fr 3=.box [.raw (.int .u8 op),.raw (.string n),.sl t1 x1,.sl t2 x2]/\fr 4=.box [.raw (.int .u8 op),.raw (.string n'),.sl t3 y1,.sl t4 y2] /\
   fr 45=.iv (.sl t1 x1)/\fr 46=.iv (.raw (.int .i64 us.length))/\fr 47=.iv (.raw (.int .i64 k))/\st'=st/\ds=[]) ?_ ?_ ?_
  ·simp only[go_sem,zE];exact⟨rfl,rfl⟩
  ·rintro k fr st _ hlt ⟨hn,f2,f3,f4,f45,f46,f47,rfl,rfl⟩;obtain⟨a,hka⟩:=yQ1 hlt;obtain⟨b,hkb⟩:=yQ1 (h2▸hlt);obtain⟨x,hkx,hx⟩:=hx1.get hka;obtain⟨y,hky,hy⟩:=hy1.get hkb;have hcall:=xK4 gl l tl htl.es (by omega) a b x y hx hy (yYd hok1 (lMg hka)) (yYd hok3 (lMg hkb)) st;have hg1:=zKk (env:=eL l) hka;have hg2:=zKk (env:=eR l) hkb;have hbad:db (eL l) a≠db (eR l) b->dbs (eL l) us≠dbs (eR l) us':=λh he=>by
    rw[he,hg2] at hg1;exact h (Option.some.inj hg1).symm
   have hnext:db (eL l) a=db (eR l) b->dbs (eL l) (us.take (k+1))=dbs (eR l) (us'.take (k+1)):=λh=>by
    rw[yKd,yKd,yQ8 hg1,yQ8 hg2,<- yKd,<- yKd,hn,h]
   obtain⟨v2,n2,u2⟩:=a;obtain⟨v3,n3,u3⟩:=b;obtain⟨t3,x3,rfl,_⟩:=hx.mk;obtain⟨t4,x4,rfl,_⟩:=hy.mk;simp only[go_sem,zE,zB,zA,zL,f2,f4,f45,f46,f47,lt_i hlt,yQ4 ht1,yQ4 ht3,iNn,hkx,hky,fits];refine hcall.mono ?_;rintro _ st ⟨rfl,rfl⟩;by_cases hc:db (eL l) (.mk v2 n2 u2)=db (eR l) (.mk v3 n3 u3)
   ·simp only[go_sem,zE,f2,f3,f4,f45,f46,f47,yZ7.2 hc,yQd hlt (show us.length<=281474976710656 by omega)];exact hnext hc
   ·simp only[go_sem,yQp.2 hc];exact yQ0 ⟨fin false (by simp only[bFt,false_iff];exact λh=>hbad hc h.1),rfl⟩
  rintro fr st _ ⟨hargs,f2,f3,f4,f45,f46,f47,rfl,rfl⟩;rw[lTl,h2,lTl] at hargs;simp only[go_sem,zE,zA,zL,f3,f46,f47,yQl (nLi _)];refine (yJ2 gl op n _ _ _ _ _).mono ?_;rintro _ st ⟨rfl,rfl⟩
 simp only[go_sem,zE,f3,hq,hx2.len];intros;obtain⟨m,tm,sm,hm,htm,hsm⟩:∃m tm sm,m=l/\tm=tl/\sm=st:=⟨_,_,_,rfl,rfl,rfl⟩
 have hmT:arT tm m:=by rw[hm,htm];exact htl
 have hmL:m.length<=l.length+1:=by rw[hm];omega
 have hmS:=subSt.refl sm;rw[<- hm,<- htm] at f2;rw[<- hsm];rw[show dbFs (eL l) sub=dbFs (eL m) sub by rw[hm],show dbFs (eR l) sub'=dbFs (eR m) sub' by rw[hm]] at fin
 rotate_left
 obtain⟨m,hm⟩:∃m,m=l++[(n,n')]:=⟨_,rfl⟩
 have eap:arI l++[.agg [.raw (.string n),.raw (.string n')]]=arI m:=by rw[hm,zY2];rfl
 have eel:eL m=n::eL l:=by rw[hm];simp
 have eer:eR m=n'::eR l:=by rw[hm];simp
 have hmL:m.length<=l.length+1:=by rw[hm];simp
 rw[<- eel,<- eer] at fin;rcases htl with⟨rfl,rfl⟩|⟨g0,rfl⟩
 all_goals try
  simp only[go_sem,zE,zA,zM,zL,reduceCtorEq,f2,f3,f4,hq,fits,hx2.len,yVw,yKk,zVx,yQ3,xYa]
  first
   | refine λg=>yQ9 λhg=>?_
   | refine yQm ⟨by omega,by omega⟩ λg=>yQ9 λhg=>?_
  intros
  first
   | rw[eap]
   | rw[show[IV.agg [.raw (.string n),.raw (.string n')]]=arI m from eap]
  have hmT:arT ⟨true,.app g,2⟩ m:=.inr ⟨g,rfl⟩;generalize (⟨true,.app g,2⟩:Tag)=tm at hmT ⊢;generalize hsm:ISt.put st g _=sm;have hmS:subSt st sm:=by rw[<- hsm];exact yQh hg
 all_goals
  refine LoopC.ctr sub.length (λk fr st' ds=>dbFs (eL m) (sub.take k)=dbFs (eR m) (sub'.take k)/\fr 2=.iv (.sl tm (arI m))/\fr 4=.box [.raw (.int .u8 op),.raw (.string n'),.sl t3 y1,.sl t4 y2] /\
   fr 78=.iv (.sl t2 x2)/\fr 79=.iv (.raw (.int .i64 sub.length))/\fr 80=.iv (.raw (.int .i64 k))/\st'=sm/\ds=[]) ?_ ?_ ?_
  ·simp only[go_sem,zE,f2,f4];exact⟨rfl,rfl⟩
  ·rintro k fr sm _ hlt ⟨hn,f2,f4,f78,f79,f80,rfl,rfl⟩;obtain⟨a,hka⟩:=yQ1 hlt;obtain⟨b,hkb⟩:=yQ1 (h3▸hlt);obtain⟨x,hkx,hx⟩:=hx2.get hka;obtain⟨y,hky,hy⟩:=hy2.get hkb;obtain⟨hs1,hs2⟩:=yZ6 hka;have hcall:=IH a (lMg hka) b m tm hmT (by omega) x y hx hy (yUz hok2 (lMg hka)) (yUz hok4 (lMg hkb)) sm;have hg1:=zGw (env:=eL m) hka;have hg2:=zGw (env:=eR m) hkb;have hbad:dbF (eL m) a≠dbF (eR m) b->dbFs (eL m) sub≠dbFs (eR m) sub':=λh he=>by
    rw[he,hg2] at hg1;exact h (Option.some.inj hg1).symm
   have hnext:dbF (eL m) a=dbF (eR m) b->dbFs (eL m) (sub.take (k+1))=dbFs (eR m) (sub'.take (k+1)):=λh=>by
    rw[yYu,yYu,yQ8 hg1,yQ8 hg2,<- yYu,<- yYu,hn,h]
   obtain⟨o5,n5,u5,s5⟩:=a;obtain⟨o6,n6,u6,s6⟩:=b;obtain⟨t5,x5,t6,x6,rfl,_⟩:=hx.mk;obtain⟨t7,x7,t8,x8,rfl,_⟩:=hy.mk;simp only[go_sem,zE,zB,zA,zL,f2,f4,f78,f79,f80,lt_i hlt,yQ4 ht2,yQ4 ht4,iNn,hkx,hky,fits];refine hcall.mono ?_;rintro _ sm ⟨rfl,rfl⟩;by_cases hc:dbF (eL m) (.mk o5 n5 u5 s5)=dbF (eR m) (.mk o6 n6 u6 s6)
   ·simp only[go_sem,zE,f2,f4,f78,f79,f80,yZ7.2 hc,yQd hlt (show sub.length<=281474976710656 by omega)];exact hnext hc
   ·simp only[go_sem,yQp.2 hc];exact yQg hmS ⟨fin false (by simp only[bFt,false_iff];exact λh=>hbad hc h.2),rfl⟩
  rintro fr sm _ ⟨hn,f2,f4,f78,f79,f80,rfl,rfl⟩;rw[lTl,h3,lTl] at hn;simp only[go_sem,f79,f80,yQl (nLi _)];exact yQg hmS ⟨fin true ⟨λ_=>⟨hargs,hn⟩,λ_=>rfl⟩,rfl⟩
theorem xZg:∀(k:Nat)(t:Fm),SizeOf.sizeOf t<k->AK gl t
 | 0,f,h=>by omega
 | k+1,.mk o n us sub,h=>xUc gl o n us sub (λa ha=>xZg k a (by
   have:=lSm ha;simp at h;omega))
theorem vZc (t:Fm):AK gl t:=xZg gl _ t (Nat.lt_succ_self _)
