/- Walks of the second program: level, term -/
import Derived.Test.YtnknaopjcifoaaaGreatDoorMC
import Derived.Test.YtnknaopjcifoaaaGreatDoorKM
set_option linter.all false
open Nat renaming reduceEqDiff → zE,reduceBEq → zB,reduceAdd → zA,reduceMul → zM,reduceLeDiff → zL
namespace Go.Proofs.Tryz
open Go Go.Iv
set_option maxRecDepth 4000
variable (gl:Nat->Option IV)
theorem xQ8 {a e:List ByteArray}{n:ByteArray}(h:n ∉ a):yYv (a++e) n=yYv e n:=by
 induction a with
 | nil=>rfl
 | cons m a ih =>
  simp only[List.mem_cons,not_or] at h;rw[List.cons_append,yYv,if_neg h.1,ih h.2]
theorem wKh {p:List ByteArray}{i:Nat}{s:ByteArray}(h:p[i]?=some s)(hn:∀q∈p.drop (i+1),q≠s):yYv p.reverse s=some i:=by
 have hlt:=(lGs h).1;have h1:p=p.take i++s::p.drop (i+1):=by
  conv=>lhs;rw[<- List.take_append_drop i p,List.drop_eq_getElem_cons hlt,(lGs h).2]
 rw[h1,List.reverse_append,List.reverse_cons,List.append_assoc,xQ8 λhm=>hn s (List.mem_reverse.1 hm) rfl];simp only[List.cons_append,List.nil_append,yYv,if_true,List.length_reverse,List.length_take];congr 1;omega
theorem wKg {p:List ByteArray}{s:ByteArray}(hn:∀q∈p,q≠s):yYv p.reverse s=none:=by
 have:=xQ8 (a:=p.reverse) (e:=[]) (n:=s) λhm=>hn s (List.mem_reverse.1 hm) rfl;rw[List.append_nil] at this;rw[this];rfl
def lvl (p:List ByteArray)(s:ByteArray):Nat:=match yYv p.reverse s with|some i=>p.length-i|none=>0
theorem vXd {p q:List ByteArray}(hl:p.length=q.length)(x y:ByteArray):yKd p.reverse x=yKd q.reverse y↔lvl p x=lvl q y/\(lvl p x=0->x=y):=by
 have h1:∀i,yYv p.reverse x=some i->i<p.length:=λi h=>by have:=zXg h;simpa using this
 have h2:∀i,yYv q.reverse y=some i->i<q.length:=λi h=>by have:=zXg h;simpa using this
 unfold yKd lvl;cases hx:yYv p.reverse x with
 | none =>
  cases hy:yYv q.reverse y with
  | none=>simp
  | some j =>
   have:=h2 j hy;simp only[reduceCtorEq,false_iff];rintro⟨h,_⟩;omega
 | some i =>
  have:=h1 i hx;cases hy:yYv q.reverse y with
  | none =>
   simp only[reduceCtorEq,false_iff];rintro⟨h,_⟩;omega
  | some j =>
   have:=h2 j hy;simp only[NlT.bv.injEq];constructor
   ·rintro rfl;exact⟨by omega,λh=>by omega⟩
   ·rintro⟨h,_⟩;omega
theorem wZ3 (p:List ByteArray)(tg:Tag)(htg:okEs tg 1)(hl:p.length<=1099511627776)(s:ByteArray)(st:ISt) :
  ICall prog gl 246 [.sl tg (strI p),.raw (.string s)] st (λr st'=>r=.raw (.int .i64 (lvl p s))/\st'=st):=by
 have hwl:IntKind.i64.wrap ((p.length:Int)-1)=(p.length:Int)-1:=by rw[w64]<;>omega
 refine iI func246 ?_;simp only[go_sem,reduceCtorEq,yQs,hwl];intros;refine LoopC.ctr p.length (λk fr st' ds=>(∀q∈p.drop (p.length-k),q≠s)/\fr 0=.iv (.sl tg (strI p))/\fr 1=.iv (.raw (.string s))/\fr 5=.iv (.raw (.int .i64 (((p.length-k:Nat):Int)-1)))/\st'=st/\ds=[]) ?_ ?_ ?_
 ·simp only[go_sem,zE,reduceCtorEq];intro q hq;rw[List.drop_length] at hq;cases hq
 ·rintro k fr st _ hlt ⟨hno,f0,f1,f5,rfl,rfl⟩;obtain⟨o,ho⟩:=yQ3 (show p.length-k-1<p.length by omega);have hi:(((p.length-k:Nat):Int)-1)=((p.length-k-1:Nat):Int):=by omega
  have hge:decide ((0:Int)<=((p.length-k-1:Nat):Int))=true:=dEt (by omega);have hdr:p.drop (p.length-k-1)=o::p.drop (p.length-k):=by
   have hlt2:=(lGs ho).1;rw[List.drop_eq_getElem_cons hlt2,(lGs ho).2,show p.length-k-1+1=p.length-k by omega]
  rw[hi] at f5;by_cases hos:o=s
  ·subst hos;have hlv:lvl p o=k+1:=by
    unfold lvl;rw[wKh ho (by rw[show p.length-k-1+1=p.length-k by omega];exact hno)];simp only;omega
   have hw:IntKind.i64.wrap ((p.length:Int)-((p.length-k-1:Nat):Int))=((k+1:Nat):Int):=by rw[w64]<;>omega
   simp only[go_sem,zE,reduceCtorEq,f0,f1,f5,decide_true,yQ1 htg,iNn,yK1 ho,fits,decide_true,yQs,hw];intros;exact yQ0 ⟨by rw[hlv],rfl⟩
  ·have hw:IntKind.i64.wrap (((p.length-k-1:Nat):Int)-1)=((p.length-(k+1):Nat):Int)-1:=by rw[w64]<;>omega
   simp only[go_sem,zE,reduceCtorEq,f0,f1,f5,decide_true,yQ1 htg,iNn,yK1 ho,fits,dEf hos,hw];intro q hq;rw[show p.length-(k+1)=p.length-k-1 by omega,hdr] at hq;rcases List.mem_cons.1 hq with rfl|hq
   ·exact hos
   ·exact hno q hq
 ·rintro fr st _ ⟨hno,f0,f1,f5,rfl,rfl⟩;rw[Nat.sub_self,List.drop_zero] at hno;have hge:decide ((0:Int)<=((p.length-p.length:Nat):Int)-1)=false:=dEf (by omega);have hlv:lvl p s=0:=by unfold lvl;rw[wKg hno]
  simp only[go_sem,f5,hge];exact yQ0 ⟨by rw[hlv];rfl,rfl⟩
theorem xJi (e:List ByteArray):∀(l m:List Tm),dbs e (l++m)=dbs e l++dbs e m
 | [],m=>by simp[dbs]
 | a::l,m=>by simp only[List.cons_append,dbs,xJi e l m]
theorem xJh (e:List ByteArray):∀l:List Tm,(dbs e l).length=l.length
 | []=>rfl
 | a::l=>by simp only[dbs,List.length_cons,xJh e l]
theorem zQo (e:List ByteArray):∀(l m:List Fm),dbFs e (l++m)=dbFs e l++dbFs e m
 | [],m=>by simp[dbFs]
 | a::l,m=>by simp only[List.cons_append,dbFs,zQo e l m]
theorem zGi (e:List ByteArray):∀l:List Fm,(dbFs e l).length=l.length
 | []=>rfl
 | a::l=>by simp only[dbFs,List.length_cons,zGi e l]
theorem zUy {v:Bool}{n:ByteArray}{m:List Tm}(h:(Tm.mk v n m).ok=true):yJd m=true/\(v=true->m=[]):=by
 cases v
 ·simp only[Tm.ok,bAt] at h;exact⟨h.2,λh=>by cases h⟩
 ·simp only[Tm.ok,bAt,List.isEmpty_iff] at h;exact⟨by rw[h.1];rfl,λ_=>h.1⟩
def RTe (us:List Tm):Prop:=∀(ws:List Tm) (tx ty:Tag) (xs ys:List IV) (_:okEs tx 3) (_:okEs ty 3) (_:IsTms us xs) (_:IsTms ws ys) (_:yJd us=true) (_:yJd ws=true) (_:yQ8 us<=1099511627776) (p q:List ByteArray) (tp tq:Tag)
 (_:okEs tp 1) (_:okEs tq 1) (_:p.length=q.length) (_:p.length<=1099511627776) (st:ISt),
 ICall prog gl 221 [.sl tx xs,.sl ty ys,.sl tp (strI p),.sl tq (strI q)] st (λr st'=>r=.raw (.bool (eqB (dbs p.reverse us) (dbs q.reverse ws)))/\st'=st)
theorem xWo (us:List Tm)(IH:∀v n l,Tm.mk v n l∈us->RTe gl l):RTe gl us:=by
 intro ws tx ty xs ys htx hty hxs hys hou how hsz p q tp tq htp htq hpq hpl st;have hlsz:=yZx us;refine iI func221 ?_;by_cases hlen:us.length=ws.length
 case neg =>
  simp only[go_sem,zE,reduceCtorEq,hxs.len,hys.len,show decide ((us.length:Int)=(ws.length:Int))=false from dEf (by omega)];intros;exact yQ0 ⟨by rw[yQh.2 λh=>hlen (by have:=congrArg List.length h;rwa [xJh,xJh] at this)],rfl⟩
 simp only[go_sem,zE,reduceCtorEq,hxs.len,hys.len,show decide ((us.length:Int)=(ws.length:Int))=true from dEt (by omega)];intros;refine LoopC.ctr us.length (λk fr st' ds=>dbs p.reverse (us.take k)=dbs q.reverse (ws.take k)/\fr 0=.iv (.sl tx xs)/\fr 1=.iv (.sl ty ys)/\fr 2=.iv (.sl tp (strI p))/\fr 3=.iv (.sl tq (strI q))/\fr 9=.iv (.raw (.int .i64 k))/\st'=st/\ds=[]) ?_ ?_ ?_
 ·simp only[go_sem,zE,reduceCtorEq];exact⟨rfl,rfl⟩
 ·rintro k fr st _ hlt ⟨heq,f0,f1,f2,f3,f9,rfl,rfl⟩;obtain⟨a,ha⟩:=yQ3 hlt;obtain⟨b,hb⟩:=yQ3 (show k<ws.length by omega);obtain⟨y,hky,hy⟩:=hxs.get ha;obtain⟨z,hkz,hz⟩:=hys.get hb;have hma:=lMg ha;have hmb:=lMg hb;have hoa:=yK3 hou hma;have hob:=yK3 how hmb;have hsa:=yY0 hma;have hbad:db p.reverse a≠db q.reverse b->eqB (dbs p.reverse us) (dbs q.reverse ws)=false:=λhne=>yQh.2 λh=>hne (by
   have h1:=yYb (env:=p.reverse) ha;rw[h,yYb hb] at h1;exact (Option.some.inj h1).symm)
  have hgood:db p.reverse a=db q.reverse b->dbs p.reverse (us.take (k+1))=dbs q.reverse (ws.take (k+1)):=λh=>by
   rw[yQ5 ha,yQ5 hb,xJi,xJi,heq];simp[dbs,h]
  obtain⟨v,n,m⟩:=a;obtain⟨v',n',m'⟩:=b;obtain⟨hm1,hm2⟩:=zUy hoa;obtain⟨hm1',hm2'⟩:=zUy hob;obtain⟨t3,x3,rfl,ht3,hx3⟩:=hy.mk;obtain⟨t4,x4,rfl,ht4,hx4⟩:=hz.mk;simp only[Tm.size] at hsa;have hcall:=λst=>IH v n m hma m' t3 t4 x3 x4 ht3 ht4 hx3 hx4 hm1 hm1' (by omega) p q tp tq htp htq hpq hpl st;have bt:(true == false)=false:=rfl;have bf:(false == true)=false:=rfl;cases v<;>cases v'
  ·simp only[go_sem,zE,zA,reduceCtorEq,f0,f1,f2,f3,f9,hxs.len,lt_i hlt,yQ1 htx,yQ1 hty,iNn,hky,hkz,fits];intros;refine (hcall _).mono ?_;rintro _ st ⟨rfl,rfl⟩;cases he:eqB (dbs p.reverse m) (dbs q.reverse m')
   ·simp only[go_sem,zE];exact yQ0 ⟨by rw[hbad λh=>by simp only[db,NlT.ap.injEq] at h;exact yQh.1 he h.2],rfl⟩
   by_cases hn:n=n'
   ·simp only[go_sem,zE,reduceCtorEq,f0,f1,f2,f3,f9,yQ1 htx,yQ1 hty,iNn,hky,hkz,fits,dEt hn,yQ9 hlt (show us.length<=281474976710656 by omega)];exact hgood (by simp only[db,hn,yQm.1 he])
   ·simp only[go_sem,zE,reduceCtorEq,f0,f1,f9,yQ1 htx,yQ1 hty,iNn,hky,hkz,fits,dEf hn];exact yQ0 ⟨by rw[hbad λh=>by simp only[db,NlT.ap.injEq] at h;exact hn h.1],rfl⟩
  ·simp only[go_sem,zE,reduceCtorEq,f0,f1,f9,hxs.len,lt_i hlt,yQ1 htx,yQ1 hty,iNn,hky,hkz,fits,bf];intros;exact yQ0 ⟨by rw[hbad λh=>by simp only[db,yKd] at h;split at h<;>cases h],rfl⟩
  ·simp only[go_sem,zE,reduceCtorEq,f0,f1,f9,hxs.len,lt_i hlt,yQ1 htx,yQ1 hty,iNn,hky,hkz,fits,bt];intros;exact yQ0 ⟨by rw[hbad λh=>by simp only[db,yKd] at h;split at h<;>cases h],rfl⟩
  ·obtain rfl:=hm2 rfl;obtain rfl:=hm2' rfl;simp only[go_sem,zE,zA,reduceCtorEq,f0,f1,f2,f3,f9,hxs.len,lt_i hlt,yQ1 htx,yQ1 hty,iNn,hky,hkz,fits];intros;refine (hcall _).mono ?_;rintro _ st ⟨rfl,rfl⟩;have he:eqB (dbs p.reverse []) (dbs q.reverse [])=true:=yQm.2 rfl;simp only[go_sem,zE,zA,reduceCtorEq,f0,f2,f9,he,yQ1 htx,iNn,hky,fits];refine (wZ3 gl p tp htp hpl n _).mono ?_;rintro _ st ⟨rfl,rfl⟩;simp only[go_sem,zE,zA,f1,f3,f9,yQ1 hty,iNn,hkz,fits];refine (wZ3 gl q tq htq (by omega) n' _).mono ?_;rintro _ st ⟨rfl,rfl⟩;have hiff:=vXd hpq n n';by_cases hl:lvl p n=lvl q n'
   ·by_cases hl0:lvl p n=0
    ·by_cases hn:n=n'
     ·simp only[go_sem,zE,reduceCtorEq,f0,f1,f2,f3,f9,yQ1 htx,yQ1 hty,iNn,hky,hkz,fits,dEt hn,show decide ((lvl p n:Int)=(lvl q n':Int))=true from dEt (by omega),show decide ((lvl p n:Int)=0)=true from dEt (by omega),yQ9 hlt (show us.length<=281474976710656 by omega)];exact hgood (by simp only[db];exact hiff.2 ⟨hl,λ_=>hn⟩)
     ·simp only[go_sem,zE,reduceCtorEq,f0,f1,f9,yQ1 htx,yQ1 hty,iNn,hky,hkz,fits,dEf hn,show decide ((lvl p n:Int)=(lvl q n':Int))=true from dEt (by omega),show decide ((lvl p n:Int)=0)=true from dEt (by omega)];exact yQ0 ⟨by rw[hbad λh=>by simp only[db] at h;exact hn ((hiff.1 h).2 hl0)],rfl⟩
    ·simp only[go_sem,zE,reduceCtorEq,f0,f1,f2,f3,f9,show decide ((lvl p n:Int)=(lvl q n':Int))=true from dEt (by omega),show decide ((lvl p n:Int)=0)=false from dEf (by omega),yQ9 hlt (show us.length<=281474976710656 by omega)];exact hgood (by simp only[db];exact hiff.2 ⟨hl,λh=>absurd h hl0⟩)
   ·simp only[go_sem,zE,show decide ((lvl p n:Int)=(lvl q n':Int))=false from dEf (by omega)];exact yQ0 ⟨by rw[hbad λh=>by simp only[db] at h;exact hl (hiff.1 h).1],rfl⟩
 ·rintro fr st _ ⟨heq,f0,f1,f2,f3,f9,rfl,rfl⟩;rw[lTl,hlen,lTl] at heq;simp only[go_sem,zE,reduceCtorEq,f0,f9,hxs.len,yQj (nLi _)];intros;exact yQ0 ⟨by rw[yQm.2 heq],rfl⟩
theorem zGw:∀(k:Nat)(us:List Tm),SizeOf.sizeOf us<k->RTe gl us
 | 0,f,h=>by omega
 | k+1,us,h=>xWo gl us (λv n l hm=>zGw k l (by
   have:=lSm hm;simp at this;omega))
theorem wJp (us:List Tm):RTe gl us:=zGw gl _ us (Nat.lt_succ_self _)
theorem zWh:yV6 0 []=true:=rfl
def RSm (a:Fm):Prop:=∀(b:Fm) (x y:IV) (_:IsFm a x) (_:IsFm b y) (_:a.ok=true) (_:b.ok=true) (p q:List ByteArray) (tp tq:Tag) (_:okEs tp 1) (_:okEs tq 1) (_:p.length=q.length) (_:p.length+a.size<=1099511627776) (st:ISt),
 ICall prog gl 188 [x,y,.sl tp (strI p),.sl tq (strI q)] st (λr st'=>r=.raw (.bool (eqB (dbF p.reverse a) (dbF q.reverse b)))/\st'=st)
theorem xY6 (op:Nat)(n:ByteArray)(us:List Tm)(sub:List Fm)(IH:∀a∈sub,RSm gl a):RSm gl (.mk op n us sub):=by
 intro b x y hx hy hok hok' p q tp tq htp htq hpq hpl st;obtain⟨op',n',us',sub'⟩:=b;obtain⟨ta,xa,tb,xb,rfl,ho,hta,hxa,htb,hxb⟩:=hx.mk;obtain⟨tc,xc,td,xd,rfl,ho',htc,hxc,htd,hxd⟩:=hy.mk;obtain⟨hk1,hk2,_⟩:=yY3 hok;obtain⟨hk1',hk2',_⟩:=yY3 hok';simp only[Fm.size] at hpl;have hl1:=yZx us;have hl2:=yVj sub;have hterms:=λst=>wJp gl us us' ta tc xa xc hta htc hxa hxc hk1 hk1' (by omega) p q tp tq htp htq hpq (by omega) st;have hne:∀ {X Y:NlF},X≠Y->eqB X Y=false:=λh=>yQh.2 h;refine ICall.intro (c:=cf prog gl [] [(4,[0,1,3,4,5,2,6,7]),(5,[0,1,3,4,5,2,6,7])]) func188 rfl (by show _<=76;simp) (by kernel_rfl) ?_;by_cases hop:op=op'
 case neg =>
  simp only[go_sem,zE,zA,show decide ((op:Int)=(op':Int))=false from dEf (by omega)];exact yQ0 ⟨by rw[hne λh=>by simp only[dbF,NlF.mk.injEq] at h;exact hop h.1],rfl⟩
 subst hop;by_cases hlen:sub.length=sub'.length
 case neg =>
  simp only[go_sem,zE,decide_true,hxb.len,hxd.len,show decide ((sub.length:Int)=(sub'.length:Int))=false from dEf (by omega)];intros;exact yQ0 ⟨by rw[hne λh=>by
   simp only[dbF,NlF.mk.injEq] at h;have:=congrArg List.length h.2.2.2;rw[zGi,zGi] at this;exact hlen this],rfl⟩
 simp only[go_sem,zE,zA,decide_true,hxb.len,hxd.len,show decide ((sub.length:Int)=(sub'.length:Int))=true from dEt (by omega)];intros;refine (hterms _).mono ?_;rintro _ st ⟨rfl,rfl⟩;cases het:eqB (dbs p.reverse us) (dbs q.reverse us')
 ·simp only[go_sem,zE];exact yQ0 ⟨by rw[hne λh=>by simp only[dbF,NlF.mk.injEq] at h;exact yQh.1 het h.2.2.1],rfl⟩
 have het':=yQm.1 het;simp only[go_sem,zE,zA,zL];refine (xJm gl op n _ _ _ _ _).mono ?_;rintro _ st ⟨rfl,rfl⟩;cases hq:isQ op
 ·by_cases hn:n=n'
  ·have fin:eqB (dbF p.reverse (.mk op n us sub)) (dbF q.reverse (.mk op n' us' sub'))=eqB (dbFs p.reverse sub) (dbFs q.reverse sub'):=by
    rw[Bool.eq_iff_iff,yQm,yQm];simp only[dbF,hq,bFt,if_false,NlF.mk.injEq,true_and,hn,het']
   have hpl2:p.length+(yQ8 us+yQ7 sub+1)<=1099511627776:=hpl;have f4:True:=trivial;have f5:True:=trivial;simp only[go_sem,zE,dEt hn];refine LoopC.ctr sub.length (λk fr st' ds=>dbFs (p).reverse (sub.take k)=dbFs (q).reverse (sub'.take k)/\fr 2=.iv (.sl tp (strI (p)))/\fr 3=.iv (.sl tq (strI (q)))/\fr 4=.box [.raw (.int .u8 op),.raw (.string n),.sl ta xa,.sl tb xb] /\
    fr 5=.box [.raw (.int .u8 op),.raw (.string n'),.sl tc xc,.sl td xd]/\fr 9=.iv (.raw (.int .i64 k))/\st'=st/\ds=[]) ?_ ?_ ?_
   ·simp only[go_sem,zE]
    first|rfl|exact⟨rfl,rfl⟩
   ·rintro k fr stk _ hlt ⟨heq,f2,f3,f4,f5,f9,hst,rfl⟩;obtain⟨a,ha⟩:=yQ3 hlt;obtain⟨b,hb⟩:=yQ3 (show k<sub'.length by omega);obtain⟨y,hky,hy⟩:=hxb.get ha;obtain⟨z,hkz,hz⟩:=hxd.get hb;have hma:=lMg ha;have hmb:=lMg hb;have hsa:=(yXe ha).2;have hcall:=λst=>IH a hma b y z hy hz (yZu hk2 hma) (yZu hk2' hmb) (p) (q) tp tq htp htq (by simp[hpq]) (by first|omega|(simp only[lLa,List.length_cons,List.length_nil];omega)) st;have hbad:eqB (dbF (p).reverse a) (dbF (q).reverse b)=false->eqB (dbFs (p).reverse sub) (dbFs (q).reverse sub')=false:=λhne=>yQh.2 λh=>yQh.1 hne (by
     have h1:=yKa (env:=(p).reverse) ha;rw[h,yKa hb] at h1;exact (Option.some.inj h1).symm)
    have hgood:eqB (dbF (p).reverse a) (dbF (q).reverse b)=true->dbFs (p).reverse (sub.take (k+1))=dbFs (q).reverse (sub'.take (k+1)):=λh=>by
     rw[yQ5 ha,yQ5 hb,zQo,zQo,heq];simp only[dbFs,yQm.1 h]
    obtain⟨o8,n8,t8,x8,t9,x9,rfl⟩:=hy.agg;obtain⟨o6,n6,t6,x6,t7,x7,rfl⟩:=hz.agg;simp only[go_sem,zE,zB,zA,f2,f3,f4,f5,f9,hxb.len,lt_i hlt,yQ1 htb,yQ1 htd,iNn,hky,hkz,fits];intros;refine (hcall _).mono ?_;rintro _ stk ⟨rfl,rfl⟩;cases he:eqB (dbF (p).reverse a) (dbF (q).reverse b)
    ·simp only[go_sem];refine yQa (by rw[hst];exact subSt.refl _) ⟨?_,rfl⟩;rw[fin,hbad he]
    ·simp only[go_sem,zE,f2,f3,f4,f5,f9,yQ9 hlt (show sub.length<=281474976710656 by omega)];exact⟨hgood he,hst⟩
   rintro fr stk _ ⟨heq,f2,f3,f4,f5,f9,hst,rfl⟩;rw[lTl,hlen,lTl] at heq;simp only[go_sem,zE,f4,f9,hxb.len,yQj (nLi _)];intros;refine yQa (by rw[hst];exact subSt.refl _) ⟨?_,rfl⟩;rw[fin,yQm.2 heq]
  ·simp only[go_sem,zE,dEf hn];exact yQ0 ⟨by rw[hne λh=>by simp only[dbF,hq,bFt,if_false,NlF.mk.injEq] at h;exact hn h.2.1],rfl⟩
 ·have fin:eqB (dbF p.reverse (.mk op n us sub)) (dbF q.reverse (.mk op n' us' sub'))=eqB (dbFs (p++[n]).reverse sub) (dbFs (q++[n']).reverse sub'):=by
   rw[Bool.eq_iff_iff,yQm,yQm];simp only[dbF,hq,if_true,NlF.mk.injEq,true_and,het',List.reverse_append,List.reverse_cons,List.reverse_nil,List.nil_append,List.cons_append]
  simp only[go_sem,zE,zA,zM,zL,fits,zWh,yQ2];refine yG7 (s:=1) (S0:=st) (own.full st st 0 1) rfl (yQs p) (subSt.refl st) rfl (by simp[fits,IV.one,strI]) (by simp only;omega) (by omega) λtg1 st1 hown1 hsub1 _=>?_;simp only[go_sem,zE,zA];refine yX9 hown1 (by simp[yQs]) hsub1 rfl (by simp[fits,IV.one]) (by simp only;omega) (by omega) λtg2 st2 hown2 hsub2 _=>?_;have eap:strI p++[.raw (.string n)]=strI (p++[n]):=by rw[yVm];rfl
  have eap2:strI q++[.raw (.string n')]=strI (q++[n']):=by rw[yVm];rfl
  try simp only[List.nil_append]
  rw[eap];simp only[go_sem,zE,zA,zM,zL,fits,zWh,yQ2];refine yG7 (s:=1) (S0:=st2) (own.full st2 st2 0 1) rfl (yQs q) (subSt.refl st2) rfl (by simp[fits,IV.one,strI]) (by simp only;omega) (by omega) λtg3 st3 hown3 hsub3 _=>?_;simp only[go_sem,zE,zA];refine yX9 hown3 (by simp[yQs]) hsub3 rfl (by simp[fits,IV.one]) (by simp only;omega) (by omega) λtg4 st4 hown4 hsub4 _=>?_
  try simp only[List.nil_append]
  rw[eap2];have f4:True:=trivial;have f5:True:=trivial;simp only[go_sem];refine LoopC.ctr sub.length (λk fr st' ds=>dbFs (p++[n]).reverse (sub.take k)=dbFs (q++[n']).reverse (sub'.take k)/\fr 2=.iv (.sl tg2 (strI (p++[n])))/\fr 3=.iv (.sl tg4 (strI (q++[n'])))/\fr 4=.box [.raw (.int .u8 op),.raw (.string n),.sl ta xa,.sl tb xb] /\
   fr 5=.box [.raw (.int .u8 op),.raw (.string n'),.sl tc xc,.sl td xd]/\fr 9=.iv (.raw (.int .i64 k))/\st'=st4/\ds=[]) ?_ ?_ ?_
  ·simp only[go_sem,zE]
   first|rfl|exact⟨rfl,rfl⟩
  ·rintro k fr stk _ hlt ⟨heq,f2,f3,f4,f5,f9,hst,rfl⟩;obtain⟨a,ha⟩:=yQ3 hlt;obtain⟨b,hb⟩:=yQ3 (show k<sub'.length by omega);obtain⟨y,hky,hy⟩:=hxb.get ha;obtain⟨z,hkz,hz⟩:=hxd.get hb;have hma:=lMg ha;have hmb:=lMg hb;have hsa:=(yXe ha).2;have hcall:=λst=>IH a hma b y z hy hz (yZu hk2 hma) (yZu hk2' hmb) (p++[n]) (q++[n']) tg2 tg4 hown2.es hown4.es (by simp[hpq]) (by first|omega|(simp only[lLa,List.length_cons,List.length_nil];omega)) st;have hbad:eqB (dbF (p++[n]).reverse a) (dbF (q++[n']).reverse b)=false->eqB (dbFs (p++[n]).reverse sub) (dbFs (q++[n']).reverse sub')=false:=λhne=>yQh.2 λh=>yQh.1 hne (by
    have h1:=yKa (env:=(p++[n]).reverse) ha;rw[h,yKa hb] at h1;exact (Option.some.inj h1).symm)
   have hgood:eqB (dbF (p++[n]).reverse a) (dbF (q++[n']).reverse b)=true->dbFs (p++[n]).reverse (sub.take (k+1))=dbFs (q++[n']).reverse (sub'.take (k+1)):=λh=>by
    rw[yQ5 ha,yQ5 hb,zQo,zQo,heq];simp only[dbFs,yQm.1 h]
   obtain⟨o8,n8,t8,x8,t9,x9,rfl⟩:=hy.agg;obtain⟨o6,n6,t6,x6,t7,x7,rfl⟩:=hz.agg;simp only[go_sem,zE,zB,zA,f2,f3,f4,f5,f9,hxb.len,lt_i hlt,yQ1 htb,yQ1 htd,iNn,hky,hkz,fits];intros;refine (hcall _).mono ?_;rintro _ stk ⟨rfl,rfl⟩;cases he:eqB (dbF (p++[n]).reverse a) (dbF (q++[n']).reverse b)
   ·simp only[go_sem];refine yQa (by rw[hst];exact hsub2.trans hsub4) ⟨?_,rfl⟩;rw[fin,hbad he]
   ·simp only[go_sem,zE,f2,f3,f4,f5,f9,yQ9 hlt (show sub.length<=281474976710656 by omega)];exact⟨hgood he,hst⟩
  rintro fr stk _ ⟨heq,f2,f3,f4,f5,f9,hst,rfl⟩;rw[lTl,hlen,lTl] at heq;simp only[go_sem,zE,f4,f9,hxb.len,yQj (nLi _)];intros;refine yQa (by rw[hst];exact hsub2.trans hsub4) ⟨?_,rfl⟩;rw[fin,yQm.2 heq]
theorem zUh:∀(k:Nat)(t:Fm),SizeOf.sizeOf t<k->RSm gl t
 | 0,f,h=>by omega
 | k+1,.mk o n us sub,h=>xY6 gl o n us sub (λa ha=>zUh k a (by
   have:=lSm ha;simp at h;omega))
theorem wG5 (t:Fm):RSm gl t:=zUh gl _ t (Nat.lt_succ_self _)
theorem xKt (f g:Fm)(x y:IV)(hx:IsFm f x)(hy:IsFm g y)(hs:f.size<=1000000)(hs':g.size<=1000000)(st:ISt) :
  ICall prog gl 153 [x,y] st (λr st'=>r=.raw (.bool (yKg f g))/\st'=st):=by
 have h1:=λst=>zXc gl f x hx (by omega) st;have h2:=λst=>zXc gl g y hy (by omega) st;have h3:=λhf hg tp tq htp htq st=>wG5 gl f g x y hx hy hf hg [] [] tp tq htp htq rfl (by simp;omega) st;have hal:yKg f g=(f.right&&g.right&&eqB (dbF [] f) (dbF [] g)):=rfl;obtain⟨o1,n1,t1,x1,t2,x2,rfl⟩:=hx.agg;obtain⟨o3,n3,t3,x3,t4,x4,rfl⟩:=hy.agg;refine iI func153 ?_;simp only[go_sem,zE,zA,zL];refine (h1 _).mono ?_;rintro _ st ⟨rfl,rfl⟩;cases hr:f.right
 ·simp only[go_sem,zE];exact yQ0 ⟨by simp[hal,hr],rfl⟩
 simp only[go_sem,zE,zA,zL];refine (h2 _).mono ?_;rintro _ st ⟨rfl,rfl⟩;cases hr':g.right
 ·simp only[go_sem,zE];exact yQ0 ⟨by simp[hal,hr'],rfl⟩
 simp only[go_sem,zE,zA,zL];refine (h3 (yJu hr).1 (yJu hr').1 _ _ (.inl rfl) (.inl rfl) _).mono ?_;rintro _ st ⟨rfl,rfl⟩;simp only[go_sem,zE];exact yQ0 ⟨by rw[hal,hr,hr'];rfl,rfl⟩
