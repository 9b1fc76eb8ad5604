/- Walks: termsSize. -/
import Derived.Test.YtigeiecfkoimpaaGreatDoorJQ
set_option linter.all false
open Nat renaming reduceEqDiff → zE,reduceBEq → zB,reduceAdd → zA,reduceLeDiff → zL
namespace Go.Proofs.Tryz
open Go Go.Iv
set_option maxRecDepth 4000
variable (gl:Nat->Option IV)
def kU (ps:List Pc)(nm:ByteArray)(z:Nat×Nat):Nat×Nat:=ps.foldl (λz p=>if p.nm=nm then (p.tm.size,p.tm.deep) else z) z
mutual
def psz (ps:List Pc)(b:ByteArray->Nat):Tm->Nat×Nat
 | .mk v n l=>if v=true/\b n=0 then kU ps n ((pszs ps b l).1+1,(pszs ps b l).2+1) else ((pszs ps b l).1+1,(pszs ps b l).2+1)
def pszs (ps:List Pc)(b:ByteArray->Nat):List Tm->Nat×Nat
 | []=>(0,0)
 | a::l=>((psz ps b a).1+(pszs ps b l).1,max (psz ps b a).2 (pszs ps b l).2)
end
def CT (ps:List Pc)(b:ByteArray->Nat):∀l m:List Tm,pszs ps b (l++m)=((pszs ps b l).1+(pszs ps b m).1,max (pszs ps b l).2 (pszs ps b m).2)
 | [],m=>by simp[pszs]
 | a::l,m=>by simp only[eu,pszs,CT ps b l m];simp only[Prod.mk.injEq];omega
def KS {ps:List Pc}{b:ByteArray->Nat}{l:List Tm}{k:Nat}{a:Tm}(h:l[k]?=some a) :
  pszs ps b (l.take (k+1))=((pszs ps b (l.take k)).1+(psz ps b a).1,max (pszs ps b (l.take k)).2 (psz ps b a).2):=by
 rw[dM h,CT];simp[pszs]
def CU (N:Nat):∀(ps:List Pc) (_:∀p∈ps,p.tm.size<=N) (nm:ByteArray) (z:Nat×Nat),z.1<=N->z.2<=N->(kU ps nm z).1<=N/\(kU ps nm z).2<=N
 | [],_,nm,z,h1,h2=>⟨h1,h2⟩
 | p::ps,h,nm,z,h1,h2=>by
  have hp:=h p (List.mem_cons_self ..);have hd:=p.tm.deep_le;refine CU N ps (λq D=>h q (List.mem_cons_of_mem _ D)) nm _ ?_ ?_
  ·show (if p.nm=nm then (p.tm.size,p.tm.deep) else z).1<=N;split<;>omega
  ·show (if p.nm=nm then (p.tm.size,p.tm.deep) else z).2<=N;split
   ·show p.tm.deep<=N;omega
   ·exact h2
mutual
def KT (M:Nat)(hM:1<=M)(ps:List Pc)(hp:∀p∈ps,p.tm.size<=M)(b:ByteArray->Nat):∀t:Tm,(psz ps b t).1<=t.size*M/\(psz ps b t).2<=t.size*M
 | .mk v n l=>by
  have hl:=pR M hM ps hp b l;have h1:(pszs ps b l).1+1<=(Tm.mk v n l).size*M:=by simp only[Tm.size,ff,g_];omega
  have h2:(pszs ps b l).2+1<=(Tm.mk v n l).size*M:=by simp only[Tm.size,ff,g_];omega
  have D:M<=(Tm.mk v n l).size*M:=by simp only[Tm.size,ff,g_];omega
  simp only[psz];split
  ·exact CU _ ps (λp h=>dN (hp p h) D) n _ h1 h2
  ·exact⟨h1,h2⟩
def pR (M:Nat)(hM:1<=M)(ps:List Pc)(hp:∀p∈ps,p.tm.size<=M)(b:ByteArray->Nat):∀l:List Tm,(pszs ps b l).1<=el l*M/\(pszs ps b l).2<=el l*M
 | []=>⟨ed _,ed _⟩
 | a::l=>by
  have h1:=KT M hM ps hp b a;have h2:=pR M hM ps hp b l;simp only[pszs,el,ff];omega
end
def KU {ps:List Pc}{k:Nat}{p:Pc}(h:ps[k]?=some p)(nm:ByteArray)(z:Nat×Nat):kU (ps.take (k+1)) nm z=if p.nm=nm then (p.tm.size,p.tm.deep) else kU (ps.take k) nm z:=by
 rw[dM h];simp only[kU,List.foldl_append,jH,List.foldl_nil]
section
variable (ps:List Pc)(tp:Tag)(ys:List IV)(htp:okEs tp 7)(hys:IsPcs ps ys)(m:Nat)(es:List (Value×IV))(b:ByteArray->Nat)(hc:CntOk es b)(M:Nat)(hM:1<=M)(hp:∀p∈ps,p.tm.size<=M)
def TS (us:List Tm):Prop:=∀(D:Tag) (xs:List IV) (_:okEs D 3) (_:IsTms us xs) (_:el us*M<=1152921504606846976) (st:ISt) (_:st m=some (.map .str es)),
 ICall prog gl 214 [.sl tp ys,.sl D xs,.raw (.map (some m))] st (λr st'=>r=.tup [.raw (.int .i64 (pszs ps b us).1),.raw (.int .i64 (pszs ps b us).2)]/\st'=st)
include htp hys hc hM hp in
def KV (us:List Tm)(IH:∀v n l,Tm.mk v n l∈us->TS gl ps tp ys m es b M l):TS gl ps tp ys m es b M us:=by
 intro tg xs aD au aN st hm;refine iI func214 ?_;simp only[go_sem,zE,au.len];intro aL;refine dt us.length (λk fr st' ds=>fr 8=.iv (.raw (.int .i64 (pszs ps b (us.take k)).1))/\fr 9=.iv (.raw (.int .i64 (pszs ps b (us.take k)).2))/\fr 0=.iv (.sl tp ys)/\fr 2=.iv (.raw (.map (some m))) /\
  fr 16=.iv (.sl tg xs)/\fr 17=us.length/\fr 18=.iv (.raw (.int .i64 k))/\st'=st/\ds=[]) ?_ ?_ ?_
 ·simp only[go_sem,zE,reduceCtorEq];exact⟨rfl,rfl,rfl⟩
 ·rintro k fr st _ ae ⟨f8,f9,f0,f2,f16,f17,f18,rfl,rfl⟩;obtain⟨a,ha⟩:=dD ae;obtain⟨x,aH,hx⟩:=au.get ha;obtain⟨aO,aE⟩:=mP ha;have D:=KS (ps:=ps) (b:=b) ha;have J:=pR M hM ps hp b (us.take (k+1));have aS:el (us.take (k+1))*M<=el us*M:=fE _ (by omega);obtain⟨v2,n2,E⟩:=a;obtain⟨tx,cx,rfl,aC,aI⟩:=hx.mk;have aQ:el E*M<=el us*M:=fE _ (by simp only[Tm.size] at aE;omega);have hll:=pR M hM ps hp b E;simp only[go_sem,zE,zA,zL,reduceCtorEq,f0,f2,f16,f17,f18,lt_i ae,dB aD,iNn,aH];refine (IH _ _ _ (lMg ha) tx cx aC aI (by omega) _ hm).q ?_;have am:IntKind.i64.wrap ((((pszs ps b E).1:Nat):Int)+1)=(((pszs ps b E).1+1:Nat):Int):=by rw[w64]<;>omega
  have al:IntKind.i64.wrap ((((pszs ps b E).2:Nat):Int)+1)=(((pszs ps b E).2+1:Nat):Int):=by rw[w64]<;>omega
  simp only[psz] at D;cases v2
  ·simp only[bFt,false_and,dE] at D;rw[D] at J;simp only at J;have ab:IntKind.i64.wrap ((((pszs ps b (us.take k)).1:Nat):Int)+(((pszs ps b E).1+1:Nat):Int))=(((pszs ps b (us.take k)).1+((pszs ps b E).1+1):Nat):Int):=by rw[w64]<;>omega
   have ac:max (((pszs ps b (us.take k)).2:Nat):Int) (((pszs ps b E).2+1:Nat):Int)=((max (pszs ps b (us.take k)).2 ((pszs ps b E).2+1):Nat):Int):=by omega
   simp only[go_sem,zE,zA,reduceCtorEq,f0,f2,f8,f9,f16,f17,f18,am,al,ab,ac,D,dL ae (by omega)]
  ·by_cases aw:b n2=0
   ·simp only[aw,and_self,dJ] at D;have af:decide (((b n2:Nat):Int)=0)=true:=dEt (by omega);rw[D] at J;simp only at J;simp only[go_sem,zE,reduceCtorEq,f0,f2,am,al,hm,hc.look n2,af,hys.len];intro aG;refine dt ps.length (λj fr st' ds=>fr 12=.iv (.raw (.int .i64 (kU (ps.take j) n2 ((pszs ps b E).1+1,(pszs ps b E).2+1)).1))/\fr 13=.iv (.raw (.int .i64 (kU (ps.take j) n2 ((pszs ps b E).1+1,(pszs ps b E).2+1)).2)) /\
     fr 11=.box [true,n2,.sl tx cx]/\fr 43=.iv (.sl tp ys)/\fr 44=ps.length/\fr 45=.iv (.raw (.int .i64 j)) /\
     fr 8=.iv (.raw (.int .i64 (pszs ps b (us.take k)).1))/\fr 9=.iv (.raw (.int .i64 (pszs ps b (us.take k)).2))/\fr 0=.iv (.sl tp ys)/\fr 2=.iv (.raw (.map (some m))) /\
     fr 16=.iv (.sl tg xs)/\fr 17=us.length/\fr 18=.iv (.raw (.int .i64 k))/\st'=st/\ds=[]) ?_ ?_ ?_
    ·simp only[go_sem,zE,reduceCtorEq,f0,f2,f8,f9,f16,f17,f18];exact⟨rfl,rfl,rfl⟩
    ·rintro j fr st _ G ⟨ah,ag,aq,ao,aj,ai,g8,g9,g0,g2,ak,g17,g18,rfl,rfl⟩;obtain⟨p,av⟩:=dD G;obtain⟨y,an,v3,n3,t3,x3,rfl,hy⟩:=hys.get av;have O:=KU av n2 ((pszs ps b E).1+1,(pszs ps b E).2+1);unfold kT at an;cases hq:decide (p.nm=n2)
     ·rw[a_ (gE hq)] at O;simp only[go_sem,zE,zB,zA,zL,reduceCtorEq,ah,ag,aq,ao,aj,ai,g8,g9,g0,g2,ak,g17,g18,lt_i G,dB htp,iNn,an,fits,hq,O,dL G (by omega)]
     ·rw[cX (fe hq)] at O;simp only[go_sem,zE,zB,zA,zL,reduceCtorEq,aq,ao,aj,ai,g8,g9,g0,g2,ak,g17,g18,lt_i G,dB htp,iNn,an,fits,hq,O,dL G (by omega)]
    ·rintro fr st _ ⟨ah,ag,aq,ao,aj,ai,g8,g9,g0,g2,ak,g17,g18,rfl,rfl⟩;rw[lTl] at ah ag;generalize kU ps n2 ((pszs ps b E).1+1,(pszs ps b E).2+1)=z at J D ah ag;have ab:IntKind.i64.wrap ((((pszs ps b (us.take k)).1:Nat):Int)+((z.1:Nat):Int))=(((pszs ps b (us.take k)).1+z.1:Nat):Int):=by rw[w64]<;>omega
     have ac:max (((pszs ps b (us.take k)).2:Nat):Int) ((z.2:Nat):Int)=((max (pszs ps b (us.take k)).2 z.2:Nat):Int):=by omega
     simp only[go_sem,zE,reduceCtorEq,ah,ag,aj,ai,g8,g9,g0,g2,ak,g17,g18,dS (nLi _),ab,ac,D,dL ae (by omega)]
   ·simp only[aw,and_false,dE] at D;rw[D] at J;simp only at J;have ab:IntKind.i64.wrap ((((pszs ps b (us.take k)).1:Nat):Int)+(((pszs ps b E).1+1:Nat):Int))=(((pszs ps b (us.take k)).1+((pszs ps b E).1+1):Nat):Int):=by rw[w64]<;>omega
    have ac:max (((pszs ps b (us.take k)).2:Nat):Int) (((pszs ps b E).2+1:Nat):Int)=((max (pszs ps b (us.take k)).2 ((pszs ps b E).2+1):Nat):Int):=by omega
    have af:decide (((b n2:Nat):Int)=0)=false:=dEf (by omega);simp only[go_sem,zE,reduceCtorEq,f0,f2,f8,f9,f16,f17,f18,am,al,ab,ac,D,hm,hc.look n2,af,dL ae (by omega)]
 ·rintro fr st _ ⟨f8,f9,f0,f2,f16,f17,f18,rfl,rfl⟩;rw[lTl] at f8 f9;simp only[go_sem,zE,f8,f9,f17,f18,dS (nLi _)];exact c_ ⟨rfl,rfl⟩
include htp hys hc hM hp in
def CV:∀(k:Nat)(us:List Tm),SizeOf.sizeOf us<k->TS gl ps tp ys m es b M us
 | 0,f,h=>by omega
 | k+1,us,h=>KV gl ps tp ys htp hys m es b hc M hM hp us (λv n l D=>CV k l (by
   have:=lSm D;simp at this;omega))
include htp hys hc hM hp in
def KW (us:List Tm):TS gl ps tp ys m es b M us:=CV gl ps tp ys htp hys m es b hc M hM hp _ us (eS _)
end
def KX (op:Nat)(n:ByteArray)(t D:Tag)(xs ys:List IV)(m:Nat)(es:List (Value×IV))(b:ByteArray->Nat)(hc:CntOk es (incB b n))(J:b n<=4611686018427387904)(st:ISt)(G:st m=some (.map .str es)) :
  ICallD prog gl 215 [.cptr (.raw (.map (some m))),.cptr (.agg [.raw (.int .u8 op),n,.sl t xs,.sl D ys])] st
   (λ_ st'=>st'=st.put m (some (.map .str (updI (.string n) (b n:Int) es)))):=by
 refine ICallD.intro (c:=cf prog gl [] []) func215 rfl (by show _<=7;simp) (by kernel_rfl) ?_;have E:IntKind.i64.wrap (((incB b n n:Nat):Int)-1)=(b n:Int):=by rw[w64]<;>simp[incB]<;>omega
 simp only[go_sem,zE,fits,G,hc.look n,E];exact c_ rfl
mutual
def fsz (ps:List Pc)(b:ByteArray->Nat):Fm->Nat×Nat
 | .mk op n us sub=>((pszs ps b us).1+(fszs ps (if isQ op then incB b n else b) sub).1+1,max (pszs ps b us).2 (fszs ps (if isQ op then incB b n else b) sub).2+1)
def fszs (ps:List Pc)(b:ByteArray->Nat):List Fm->Nat×Nat
 | []=>(0,0)
 | a::l=>((fsz ps b a).1+(fszs ps b l).1,max (fsz ps b a).2 (fszs ps b l).2)
end
def CW (ps:List Pc)(b:ByteArray->Nat):∀l m:List Fm,fszs ps b (l++m)=((fszs ps b l).1+(fszs ps b m).1,max (fszs ps b l).2 (fszs ps b m).2)
 | [],m=>by simp[fszs]
 | a::l,m=>by simp only[eu,fszs,CW ps b l m];simp only[Prod.mk.injEq];omega
def CX {ps:List Pc}{b:ByteArray->Nat}{l:List Fm}{k:Nat}{a:Fm}(h:l[k]?=some a) :
  fszs ps b (l.take (k+1))=((fszs ps b (l.take k)).1+(fsz ps b a).1,max (fszs ps b (l.take k)).2 (fsz ps b a).2):=by
 rw[dM h,CW];simp[fszs]
mutual
def CY (M:Nat)(hM:1<=M)(ps:List Pc)(hp:∀p∈ps,p.tm.size<=M):∀(t:Fm) (b:ByteArray->Nat),(fsz ps b t).1<=t.size*M/\(fsz ps b t).2<=t.size*M
 | .mk op n us sub,b=>by
  have h1:=pR M hM ps hp b us;have h2:=uw M hM ps hp sub (if isQ op then incB b n else b);simp only[fsz,Fm.size,ff,g_];omega
def uw (M:Nat)(hM:1<=M)(ps:List Pc)(hp:∀p∈ps,p.tm.size<=M):∀(l:List Fm) (b:ByteArray->Nat),(fszs ps b l).1<=dV l*M/\(fszs ps b l).2<=dV l*M
 | [],b=>⟨ed _,ed _⟩
 | a::l,b=>by
  have h1:=CY M hM ps hp a b;have h2:=uw M hM ps hp l b;simp only[fszs,dV,ff];omega
end
section
variable (ps:List Pc)(tp:Tag)(zs:List IV)(htp:okEs tp 7)(hzs:IsPcs ps zs)(m:Nat)(M:Nat)(hM:1<=M)(hp:∀p∈ps,p.tm.size<=M)
def FmS (f:Fm):Prop:=∀(x:IV) (_:IsFm f x) (b:ByteArray->Nat) (es:List (Value×IV)) (_:CntOk es b) (_:∀s,b s+f.size<=4611686018427387904) (_:f.size*M<=1152921504606846976) (st:ISt) (_:st m=some (.map .str es)),
 ICall prog gl 189 [.sl tp zs,x,.raw (.map (some m))] st (λr st'=>∃D,CntOk D b/\r=.tup [.raw (.int .i64 (fsz ps b f).1),.raw (.int .i64 (fsz ps b f).2)]/\st'=st.put m (some (.map .str D)))
include htp hzs hM hp in
def KY (op:Nat)(n:ByteArray)(us:List Tm)(sub:List Fm)(IH:∀a∈sub,FmS gl ps tp zs m M a):FmS gl ps tp zs m M (.mk op n us sub):=by
 intro x hx b es hc ae az st hm;obtain⟨tg,xs,ah,ys,rfl,aQ,ay,aw,ag,hys⟩:=hx.mk;have aE:=ae n;have ab:=CY M hM ps hp (.mk op n us sub) b;simp only[Fm.size,ff,g_] at az ae aE ab;have hts:=pR M hM ps hp b us;refine ICall.intro (c:=cf prog gl [] [] [4,5]) func189 rfl (by show _<=55;simp) (by kernel_rfl) ?_;simp only[go_sem,zE,zA,reduceCtorEq,fits];refine (KW gl ps tp zs htp hzs m es b hc M hM hp us tg xs ay aw (by omega) _ hm).q ?_;simp only[go_sem,zE,zA,fits];refine (pO gl op n _ _ _ _ _).q ?_;cases hq:isQ op
 ·simp only[fsz,hq,bFt,dE] at ab ⊢;simp only[go_sem,zE,fits,hys.len];intro au;refine dt sub.length (λk fr st' ds=>(∃ac,CntOk ac b/\st'=st.put m (some (.map .str ac)))/\fr 8=((pszs ps b us).1+(fszs ps b (sub.take k)).1:Nat)/\fr 9=(max (pszs ps b us).2 (fszs ps b (sub.take k)).2:Nat)/\fr 0=.iv (.sl tp zs)/\fr 5=.iv (.cptr (.raw (.map (some m)))) /\
   fr 31=.iv (.sl ah ys)/\fr 32=sub.length/\fr 33=.iv (.raw (.int .i64 k))/\ds=[]) ?_ ?_ ?_
  ·simp only[go_sem,zE,reduceCtorEq];exact⟨⟨es,hc,(jy hm).symm⟩,by simp[fszs],by simp[fszs],rfl⟩
  ·rintro k fr _ _ G ⟨⟨aa,E,rfl⟩,f8,f9,f0,f5,f31,f32,f33,rfl⟩;obtain⟨a,ha⟩:=dD G;obtain⟨x,an,hx⟩:=hys.get ha;obtain⟨aB,aA⟩:=j8 ha;have O:=CX (ps:=ps) (b:=b) ha;have J:=uw M hM ps hp (sub.take (k+1)) b;have av:dV (sub.take (k+1))*M<=dV sub*M:=fE _ (by omega);have aF:a.size*M<=dV sub*M:=fE _ (by omega);have D:=IH a (lMg ha) x hx b aa E (λs=>by have:=ae s;omega) (by omega) _ (b_ st m _);rw[O] at J;simp only at J;generalize fsz ps b a=z at O J D;obtain⟨o2,n2,u2,s2⟩:=a;obtain⟨t3,x3,t4,x4,rfl,_⟩:=hx.mk;simp only[go_sem,zE,zB,zA,zL,reduceCtorEq,f0,f5,f31,f32,f33,lt_i G,dB ag,iNn,an,fits];refine D.mono ?_;rintro _ _ ⟨aq,ao,rfl,rfl⟩;have aj:IntKind.i64.wrap ((((pszs ps b us).1+(fszs ps b (sub.take k)).1:Nat):Int)+((z.1:Nat):Int))=(((pszs ps b us).1+((fszs ps b (sub.take k)).1+z.1):Nat):Int):=by rw[w64]<;>omega
   have am:max ((max (pszs ps b us).2 (fszs ps b (sub.take k)).2:Nat):Int) ((z.2:Nat):Int)=((max (pszs ps b us).2 (max (fszs ps b (sub.take k)).2 z.2):Nat):Int):=by omega
   simp only[go_sem,zE,reduceCtorEq,f0,f5,f8,f9,f31,f32,f33,aj,am,O,eN,dL G (by omega)];exact⟨aq,ao,rfl⟩
  ·rintro fr _ _ ⟨⟨aa,E,rfl⟩,f8,f9,f0,f5,f31,f32,f33,rfl⟩;rw[lTl] at f8 f9;have al:IntKind.i64.wrap ((((pszs ps b us).1+(fszs ps b sub).1:Nat):Int)+1)=(((pszs ps b us).1+(fszs ps b sub).1+1:Nat):Int):=by rw[w64]<;>omega
   have ak:IntKind.i64.wrap (((max (pszs ps b us).2 (fszs ps b sub).2:Nat):Int)+1)=((max (pszs ps b us).2 (fszs ps b sub).2+1:Nat):Int):=by rw[w64]<;>omega
   simp only[go_sem,zE,f8,f9,f32,f33,dS (nLi _),al,ak];exact c_ ⟨aa,E,rfl,rfl⟩
 ·have ax:IntKind.i64.wrap (((b n:Nat):Int)+1)=((b n+1:Nat):Int):=by rw[w64]<;>omega
  have aD:=hc.inc n;simp only[fsz,hq,dJ] at ab ⊢;simp only[go_sem,zE,reduceCtorEq,fits,hys.len,hm,hc.look n,ax];intro au;refine dt sub.length (λk fr st' ds=>(∃ac,CntOk ac (incB b n)/\st'=st.put m (some (.map .str ac)))/\fr 8=((pszs ps b us).1+(fszs ps (incB b n) (sub.take k)).1:Nat)/\fr 9=(max (pszs ps b us).2 (fszs ps (incB b n) (sub.take k)).2:Nat)/\fr 0=.iv (.sl tp zs)/\fr 5=.iv (.cptr (.raw (.map (some m)))) /\
   fr 31=.iv (.sl ah ys)/\fr 32=sub.length/\fr 33=.iv (.raw (.int .i64 k))/\ds=[.call (.func 215) [.cptr (.raw (.map (some m))),.cptr (.agg [.raw (.int .u8 op),.raw (.string n),.sl tg xs,.sl ah ys])] []]) ?_ ?_ ?_
  ·simp only[go_sem,zE,reduceCtorEq];exact⟨⟨_,aD,rfl⟩,by simp[fszs],by simp[fszs],rfl⟩
  ·rintro k fr _ _ G ⟨⟨aa,E,rfl⟩,f8,f9,f0,f5,f31,f32,f33,rfl⟩;obtain⟨a,ha⟩:=dD G;obtain⟨x,an,hx⟩:=hys.get ha;obtain⟨aB,aA⟩:=j8 ha;have O:=CX (ps:=ps) (b:=incB b n) ha;have J:=uw M hM ps hp (sub.take (k+1)) (incB b n);have av:dV (sub.take (k+1))*M<=dV sub*M:=fE _ (by omega);have aF:a.size*M<=dV sub*M:=fE _ (by omega);have D:=IH a (lMg ha) x hx (incB b n) aa E (λs=>by have:=ae s;simp only[incB];split<;>omega) (by omega) _ (b_ st m _);rw[O] at J;simp only at J;generalize fsz ps (incB b n) a=z at O J D;obtain⟨o2,n2,u2,s2⟩:=a;obtain⟨t3,x3,t4,x4,rfl,_⟩:=hx.mk;simp only[go_sem,zE,zB,zA,zL,reduceCtorEq,f0,f5,f31,f32,f33,lt_i G,dB ag,iNn,an,fits];refine D.mono ?_;rintro _ _ ⟨aq,ao,rfl,rfl⟩;have aj:IntKind.i64.wrap ((((pszs ps b us).1+(fszs ps (incB b n) (sub.take k)).1:Nat):Int)+((z.1:Nat):Int))=(((pszs ps b us).1+((fszs ps (incB b n) (sub.take k)).1+z.1):Nat):Int):=by rw[w64]<;>omega
   have am:max ((max (pszs ps b us).2 (fszs ps (incB b n) (sub.take k)).2:Nat):Int) ((z.2:Nat):Int)=((max (pszs ps b us).2 (max (fszs ps (incB b n) (sub.take k)).2 z.2):Nat):Int):=by omega
   simp only[go_sem,zE,reduceCtorEq,f0,f5,f8,f9,f31,f32,f33,aj,am,O,eN,dL G (by omega)];exact⟨aq,ao,rfl⟩
  ·rintro fr _ _ ⟨⟨aa,E,rfl⟩,f8,f9,f0,f5,f31,f32,f33,rfl⟩;rw[lTl] at f8 f9;have al:IntKind.i64.wrap ((((pszs ps b us).1+(fszs ps (incB b n) sub).1:Nat):Int)+1)=(((pszs ps b us).1+(fszs ps (incB b n) sub).1+1:Nat):Int):=by rw[w64]<;>omega
   have ak:IntKind.i64.wrap (((max (pszs ps b us).2 (fszs ps (incB b n) sub).2:Nat):Int)+1)=((max (pszs ps b us).2 (fszs ps (incB b n) sub).2+1:Nat):Int):=by rw[w64]<;>omega
   simp only[go_sem,zE,f8,f9,f32,f33,dS (nLi _),al,ak];refine (KX gl op n _ _ _ _ m aa b E (by omega) _ (b_ _ _ _)).mono ?_;rintro _ _ rfl;simp only[go_sem,eN];exact c_ ⟨_,E.dec,rfl,rfl⟩
include htp hzs hM hp in
def CZ:∀(k:Nat)(t:Fm),SizeOf.sizeOf t<k->FmS gl ps tp zs m M t
 | 0,f,h=>by omega
 | k+1,.mk o n us sub,h=>KY gl ps tp zs htp hzs m M hM hp o n us sub (λa D=>CZ k a (by
   have:=lSm D;simp at h;omega))
include htp hzs hM hp in
def KZ (t:Fm):FmS gl ps tp zs m M t:=CZ gl ps tp zs htp hzs m M hM hp _ t (eS _)
end
