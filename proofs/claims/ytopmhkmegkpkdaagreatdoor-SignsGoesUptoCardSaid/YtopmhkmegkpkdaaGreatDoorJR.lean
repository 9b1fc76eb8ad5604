/- Walks: termsSize. -/
import Derived.Test.YtopmhkmegkpkdaaGreatDoorJQ
set_option linter.all false
open Nat renaming reduceEqDiff → zE,reduceBEq → zB,reduceAdd → zA,reduceLeDiff → zL
namespace Go.Proofs.Tryz
open Go Go.Iv
set_option maxRecDepth 4000
variable (gl:Nat->Option IV)
def kU (ps:List Pc)(nm:ByteArray)(z:Nat×Nat):Nat×Nat:=ps.foldl (λz p=>if p.nm=nm then (p.tm.size,p.tm.deep) else z) z
mutual
def psz (ps:List Pc)(b:ByteArray->Nat):Tm->Nat×Nat
 | .mk v n l=>if v=true/\b n=0 then kU ps n ((pszs ps b l).1+1,(pszs ps b l).2+1) else ((pszs ps b l).1+1,(pszs ps b l).2+1)
def pszs (ps:List Pc)(b:ByteArray->Nat):List Tm->Nat×Nat
 | []=>(0,0)
 | a::l=>((psz ps b a).1+(pszs ps b l).1,max (psz ps b a).2 (pszs ps b l).2)
end
def Ca (ps:List Pc)(b:ByteArray->Nat):∀l m:List Tm,pszs ps b (l++m)=((pszs ps b l).1+(pszs ps b m).1,max (pszs ps b l).2 (pszs ps b m).2)
 | [],m=>by simp[pszs]
 | a::l,m=>by simp only[dX,pszs,Ca ps b l m];simp only[Prod.mk.injEq];omega
def Kl {ps:List Pc}{b:ByteArray->Nat}{l:List Tm}{k:Nat}{a:Tm}(h:l[k]?=some a) :
  pszs ps b (l.take (k+1))=((pszs ps b (l.take k)).1+(psz ps b a).1,max (pszs ps b (l.take k)).2 (psz ps b a).2):=by
 rw[dK h,Ca];simp[pszs]
def Cb (N:Nat):∀(ps:List Pc) (_:∀p∈ps,p.tm.size<=N) (nm:ByteArray) (z:Nat×Nat),z.1<=N->z.2<=N->(kU ps nm z).1<=N/\(kU ps nm z).2<=N
 | [],_,nm,z,h1,h2=>⟨h1,h2⟩
 | p::ps,h,nm,z,h1,h2=>by
  have hp:=h p (List.mem_cons_self ..);have hd:=p.tm.deep_le;refine Cb N ps (λq A=>h q (List.mem_cons_of_mem _ A)) nm _ ?_ ?_
  ·show (if p.nm=nm then (p.tm.size,p.tm.deep) else z).1<=N;split<;>omega
  ·show (if p.nm=nm then (p.tm.size,p.tm.deep) else z).2<=N;split
   ·show p.tm.deep<=N;omega
   ·exact h2
mutual
def Km (M:Nat)(hM:1<=M)(ps:List Pc)(hp:∀p∈ps,p.tm.size<=M)(b:ByteArray->Nat):∀t:Tm,(psz ps b t).1<=t.size*M/\(psz ps b t).2<=t.size*M
 | .mk v n l=>by
  have D:=p5 M hM ps hp b l;have h1:(pszs ps b l).1+1<=(Tm.mk v n l).size*M:=by simp only[Tm.size,ek,jt];omega
  have h2:(pszs ps b l).2+1<=(Tm.mk v n l).size*M:=by simp only[Tm.size,ek,jt];omega
  have A:M<=(Tm.mk v n l).size*M:=by simp only[Tm.size,ek,jt];omega
  simp only[psz];split
  ·exact Cb _ ps (λp h=>eh (hp p h) A) n _ h1 h2
  ·exact⟨h1,h2⟩
def p5 (M:Nat)(hM:1<=M)(ps:List Pc)(hp:∀p∈ps,p.tm.size<=M)(b:ByteArray->Nat):∀l:List Tm,(pszs ps b l).1<=dN l*M/\(pszs ps b l).2<=dN l*M
 | []=>⟨fQ _,fQ _⟩
 | a::l=>by
  have h1:=Km M hM ps hp b a;have h2:=p5 M hM ps hp b l;simp only[pszs,dN,ek];omega
end
def Kn {ps:List Pc}{k:Nat}{p:Pc}(h:ps[k]?=some p)(nm:ByteArray)(z:Nat×Nat):kU (ps.take (k+1)) nm z=if p.nm=nm then (p.tm.size,p.tm.deep) else kU (ps.take k) nm z:=by
 rw[dK h];simp only[kU,List.foldl_append,jS,List.foldl_nil]
section
variable (ps:List Pc)(tp:Tag)(ys:List IV)(htp:okEs tp 7)(hys:IsPcs ps ys)(m:Nat)(es:List (Value×IV))(b:ByteArray->Nat)(hc:CntOk es b)(M:Nat)(hM:1<=M)(hp:∀p∈ps,p.tm.size<=M)
def TS (us:List Tm):Prop:=∀(D:Tag) (A:List IV) (_:okEs D 3) (_:IsTms us A) (_:dN us*M<=1152921504606846976) (st:ISt) (_:st m=some (.map .str es)),
 ICall prog gl 282 [.sl tp ys,.sl D A,.raw (.map (some m))] st (λr st'=>r=.tup [.raw (.int .i64 (pszs ps b us).1),.raw (.int .i64 (pszs ps b us).2)]/\st'=st)
include htp hys hc hM hp in
def Ko (us:List Tm)(IH:∀v n l,Tm.mk v n l∈us->TS gl ps tp ys m es b M l):TS gl ps tp ys m es b M us:=by
 intro tg xs aB aq aK st hm;refine iI func282 ?_;simp only[go_sem,zE,aq.len];intro aJ;refine cV us.length (λk fr st' ds=>fr 8=.iv (.raw (.int .i64 (pszs ps b (us.take k)).1))/\fr 9=.iv (.raw (.int .i64 (pszs ps b (us.take k)).2))/\fr 0=.iv (.sl tp ys)/\fr 2=.iv (.raw (.map (some m))) /\
  fr 16=.iv (.sl tg xs)/\fr 17=us.length/\fr 18=.iv (.raw (.int .i64 k))/\st'=st/\ds=[]) ?_ ?_ ?_
 ·simp only[go_sem,zE,reduceCtorEq];exact⟨rfl,rfl,rfl⟩
 ·rintro k fr st _ ab ⟨f8,f9,f0,f2,f16,f17,f18,rfl,rfl⟩;obtain⟨a,ha⟩:=dd ab;obtain⟨x,aE,hx⟩:=aq.get ha;obtain⟨hs1,hs2⟩:=mr ha;have A:=Kl (ps:=ps) (b:=b) ha;have O:=p5 M hM ps hp b (us.take (k+1));have aM:dN (us.take (k+1))*M<=dN us*M:=ec _ (by omega);obtain⟨v2,n2,D⟩:=a;obtain⟨tx,cx,rfl,aA,aF⟩:=hx.mk;have aL:dN D*M<=dN us*M:=ec _ (by simp only[Tm.size] at hs2;omega);have hll:=p5 M hM ps hp b D;simp only[go_sem,zE,zA,zL,reduceCtorEq,f0,f2,f16,f17,f18,lt_i ab,dc aB,iNn,aE];refine (IH _ _ _ (lMg ha) tx cx aA aF (by omega) _ hm).q ?_;have ak:IntKind.i64.wrap ((((pszs ps b D).1:Nat):Int)+1)=(((pszs ps b D).1+1:Nat):Int):=by rw[w64]<;>omega
  have aj:IntKind.i64.wrap ((((pszs ps b D).2:Nat):Int)+1)=(((pszs ps b D).2+1:Nat):Int):=by rw[w64]<;>omega
  simp only[psz] at A;cases v2
  ·simp only[bFt,false_and,dJ] at A;rw[A] at O;simp only at O;have W:IntKind.i64.wrap ((((pszs ps b (us.take k)).1:Nat):Int)+(((pszs ps b D).1+1:Nat):Int))=(((pszs ps b (us.take k)).1+((pszs ps b D).1+1):Nat):Int):=by rw[w64]<;>omega
   have aa:max (((pszs ps b (us.take k)).2:Nat):Int) (((pszs ps b D).2+1:Nat):Int)=((max (pszs ps b (us.take k)).2 ((pszs ps b D).2+1):Nat):Int):=by omega
   simp only[go_sem,zE,zA,reduceCtorEq,f0,f2,f8,f9,f16,f17,f18,ak,aj,W,aa,A,df ab (by omega)]
  ·by_cases au:b n2=0
   ·simp only[au,and_self,dB] at A;have ac:decide (((b n2:Nat):Int)=0)=true:=dEt (by omega);rw[A] at O;simp only at O;simp only[go_sem,zE,reduceCtorEq,f0,f2,ak,aj,hm,hc.look n2,ac,hys.len];intro aD;refine cV ps.length (λj fr st' ds=>fr 12=.iv (.raw (.int .i64 (kU (ps.take j) n2 ((pszs ps b D).1+1,(pszs ps b D).2+1)).1))/\fr 13=.iv (.raw (.int .i64 (kU (ps.take j) n2 ((pszs ps b D).1+1,(pszs ps b D).2+1)).2)) /\
     fr 11=.box [true,n2,.sl tx cx]/\fr 43=.iv (.sl tp ys)/\fr 44=ps.length/\fr 45=.iv (.raw (.int .i64 j)) /\
     fr 8=.iv (.raw (.int .i64 (pszs ps b (us.take k)).1))/\fr 9=.iv (.raw (.int .i64 (pszs ps b (us.take k)).2))/\fr 0=.iv (.sl tp ys)/\fr 2=.iv (.raw (.map (some m))) /\
     fr 16=.iv (.sl tg xs)/\fr 17=us.length/\fr 18=.iv (.raw (.int .i64 k))/\st'=st/\ds=[]) ?_ ?_ ?_
    ·simp only[go_sem,zE,reduceCtorEq,f0,f2,f8,f9,f16,f17,f18];exact⟨rfl,rfl,rfl⟩
    ·rintro j fr st _ E ⟨af,ae,ao,an,ah,ag,g8,g9,g0,g2,ai,g17,g18,rfl,rfl⟩;obtain⟨p,ar⟩:=dd E;obtain⟨y,am,v3,n3,t3,x3,rfl,hy⟩:=hys.get ar;have U:=Kn ar n2 ((pszs ps b D).1+1,(pszs ps b D).2+1);unfold kT at am;cases hq:decide (p.nm=n2)
     ·rw[a_ (ft hq)] at U;simp only[go_sem,zE,zB,zA,zL,reduceCtorEq,af,ae,ao,an,ah,ag,g8,g9,g0,g2,ai,g17,g18,lt_i E,dc htp,iNn,am,fits,hq,U,df E (by omega)]
     ·rw[b_ (eI hq)] at U;simp only[go_sem,zE,zB,zA,zL,reduceCtorEq,ao,an,ah,ag,g8,g9,g0,g2,ai,g17,g18,lt_i E,dc htp,iNn,am,fits,hq,U,df E (by omega)]
    ·rintro fr st _ ⟨af,ae,ao,an,ah,ag,g8,g9,g0,g2,ai,g17,g18,rfl,rfl⟩;rw[lTl] at af ae;generalize kU ps n2 ((pszs ps b D).1+1,(pszs ps b D).2+1)=z at O A af ae;have W:IntKind.i64.wrap ((((pszs ps b (us.take k)).1:Nat):Int)+((z.1:Nat):Int))=(((pszs ps b (us.take k)).1+z.1:Nat):Int):=by rw[w64]<;>omega
     have aa:max (((pszs ps b (us.take k)).2:Nat):Int) ((z.2:Nat):Int)=((max (pszs ps b (us.take k)).2 z.2:Nat):Int):=by omega
     simp only[go_sem,zE,reduceCtorEq,af,ae,ah,ag,g8,g9,g0,g2,ai,g17,g18,dD (nLi _),W,aa,A,df ab (by omega)]
   ·simp only[au,and_false,dJ] at A;rw[A] at O;simp only at O;have W:IntKind.i64.wrap ((((pszs ps b (us.take k)).1:Nat):Int)+(((pszs ps b D).1+1:Nat):Int))=(((pszs ps b (us.take k)).1+((pszs ps b D).1+1):Nat):Int):=by rw[w64]<;>omega
    have aa:max (((pszs ps b (us.take k)).2:Nat):Int) (((pszs ps b D).2+1:Nat):Int)=((max (pszs ps b (us.take k)).2 ((pszs ps b D).2+1):Nat):Int):=by omega
    have ac:decide (((b n2:Nat):Int)=0)=false:=dEf (by omega);simp only[go_sem,zE,reduceCtorEq,f0,f2,f8,f9,f16,f17,f18,ak,aj,W,aa,A,hm,hc.look n2,ac,df ab (by omega)]
 ·rintro fr st _ ⟨f8,f9,f0,f2,f16,f17,f18,rfl,rfl⟩;rw[lTl] at f8 f9;simp only[go_sem,zE,f8,f9,f17,f18,dD (nLi _)];exact cO ⟨rfl,rfl⟩
include htp hys hc hM hp in
def Cc:∀(k:Nat)(us:List Tm),SizeOf.sizeOf us<k->TS gl ps tp ys m es b M us
 | 0,f,h=>by omega
 | k+1,us,h=>Ko gl ps tp ys htp hys m es b hc M hM hp us (λv n l A=>Cc k l (by
   have:=lSm A;simp at this;omega))
include htp hys hc hM hp in
def Kp (us:List Tm):TS gl ps tp ys m es b M us:=Cc gl ps tp ys htp hys m es b hc M hM hp _ us (dM _)
end
def Kq (op:Nat)(n:ByteArray)(t D:Tag)(A ys:List IV)(m:Nat)(es:List (Value×IV))(b:ByteArray->Nat)(hc:CntOk es (incB b n))(U:b n<=4611686018427387904)(st:ISt)(O:st m=some (.map .str es)) :
  ICallD prog gl 284 [.cptr (.raw (.map (some m))),.cptr (.agg [.raw (.int .u8 op),n,.sl t A,.sl D ys])] st
   (λ_ st'=>st'=st.put m (some (.map .str (updI (.string n) (b n:Int) es)))):=by
 refine ICallD.intro (c:=cf prog gl [] []) func284 rfl (by show _<=7;simp) (by kernel_rfl) ?_;have E:IntKind.i64.wrap (((incB b n n:Nat):Int)-1)=(b n:Int):=by rw[w64]<;>simp[incB]<;>omega
 simp only[go_sem,zE,fits,O,hc.look n,E];exact cO rfl
mutual
def fsz (ps:List Pc)(b:ByteArray->Nat):Fm->Nat×Nat
 | .mk op n us sub=>((pszs ps b us).1+(fszs ps (if isQ op then incB b n else b) sub).1+1,max (pszs ps b us).2 (fszs ps (if isQ op then incB b n else b) sub).2+1)
def fszs (ps:List Pc)(b:ByteArray->Nat):List Fm->Nat×Nat
 | []=>(0,0)
 | a::l=>((fsz ps b a).1+(fszs ps b l).1,max (fsz ps b a).2 (fszs ps b l).2)
end
def Cd (ps:List Pc)(b:ByteArray->Nat):∀l m:List Fm,fszs ps b (l++m)=((fszs ps b l).1+(fszs ps b m).1,max (fszs ps b l).2 (fszs ps b m).2)
 | [],m=>by simp[fszs]
 | a::l,m=>by simp only[dX,fszs,Cd ps b l m];simp only[Prod.mk.injEq];omega
def Ce {ps:List Pc}{b:ByteArray->Nat}{l:List Fm}{k:Nat}{a:Fm}(h:l[k]?=some a) :
  fszs ps b (l.take (k+1))=((fszs ps b (l.take k)).1+(fsz ps b a).1,max (fszs ps b (l.take k)).2 (fsz ps b a).2):=by
 rw[dK h,Cd];simp[fszs]
mutual
def Cg (M:Nat)(hM:1<=M)(ps:List Pc)(hp:∀p∈ps,p.tm.size<=M):∀(t:Fm) (b:ByteArray->Nat),(fsz ps b t).1<=t.size*M/\(fsz ps b t).2<=t.size*M
 | .mk op n us sub,b=>by
  have h1:=p5 M hM ps hp b us;have h2:=td M hM ps hp sub (if isQ op then incB b n else b);simp only[fsz,Fm.size,ek,jt];omega
def td (M:Nat)(hM:1<=M)(ps:List Pc)(hp:∀p∈ps,p.tm.size<=M):∀(l:List Fm) (b:ByteArray->Nat),(fszs ps b l).1<=dt l*M/\(fszs ps b l).2<=dt l*M
 | [],b=>⟨fQ _,fQ _⟩
 | a::l,b=>by
  have h1:=Cg M hM ps hp a b;have h2:=td M hM ps hp l b;simp only[fszs,dt,ek];omega
end
section
variable (ps:List Pc)(tp:Tag)(zs:List IV)(htp:okEs tp 7)(hzs:IsPcs ps zs)(m:Nat)(M:Nat)(hM:1<=M)(hp:∀p∈ps,p.tm.size<=M)
def FmS (f:Fm):Prop:=∀(x:IV) (_:IsFm f x) (b:ByteArray->Nat) (es:List (Value×IV)) (_:CntOk es b) (_:∀s,b s+f.size<=4611686018427387904) (_:f.size*M<=1152921504606846976) (st:ISt) (_:st m=some (.map .str es)),
 ICall prog gl 258 [.sl tp zs,x,.raw (.map (some m))] st (λr st'=>∃A,CntOk A b/\r=.tup [.raw (.int .i64 (fsz ps b f).1),.raw (.int .i64 (fsz ps b f).2)]/\st'=st.put m (some (.map .str A)))
include htp hzs hM hp in
def Kr (op:Nat)(n:ByteArray)(us:List Tm)(sub:List Fm)(IH:∀a∈sub,FmS gl ps tp zs m M a):FmS gl ps tp zs m M (.mk op n us sub):=by
 intro x hx b es hc ac ax st hm;obtain⟨tg,xs,ag,ys,rfl,aM,aw,au,af,hys⟩:=hx.mk;have aA:=ac n;have aa:=Cg M hM ps hp (.mk op n us sub) b;simp only[Fm.size,ek,jt] at ax ac aA aa;have aL:=p5 M hM ps hp b us;refine ICall.intro (c:=cf prog gl [] [] [4,5]) func258 rfl (by show _<=55;simp) (by kernel_rfl) ?_;simp only[go_sem,zE,zA,reduceCtorEq,fits];refine (Kp gl ps tp zs htp hzs m es b hc M hM hp us tg xs aw au (by omega) _ hm).q ?_;simp only[go_sem,zE,zA,fits];refine (rC gl op n _ _ _ _ _).q ?_;cases hq:isQ op
 ·simp only[fsz,hq,bFt,dJ] at aa ⊢;simp only[go_sem,zE,fits,hys.len];intro aq;refine cV sub.length (λk fr st' ds=>(∃ab,CntOk ab b/\st'=st.put m (some (.map .str ab)))/\fr 8=((pszs ps b us).1+(fszs ps b (sub.take k)).1:Nat)/\fr 9=(max (pszs ps b us).2 (fszs ps b (sub.take k)).2:Nat)/\fr 0=.iv (.sl tp zs)/\fr 5=.iv (.cptr (.raw (.map (some m)))) /\
   fr 31=.iv (.sl ag ys)/\fr 32=sub.length/\fr 33=.iv (.raw (.int .i64 k))/\ds=[]) ?_ ?_ ?_
  ·simp only[go_sem,zE,reduceCtorEq];exact⟨⟨es,hc,(lj hm).symm⟩,by simp[fszs],by simp[fszs],rfl⟩
  ·rintro k fr _ _ E ⟨⟨W,D,rfl⟩,f8,f9,f0,f5,f31,f32,f33,rfl⟩;obtain⟨a,ha⟩:=dd E;obtain⟨x,am,hx⟩:=hys.get ha;obtain⟨hs1,hs2⟩:=jK ha;have U:=Ce (ps:=ps) (b:=b) ha;have O:=td M hM ps hp (sub.take (k+1)) b;have ar:dt (sub.take (k+1))*M<=dt sub*M:=ec _ (by omega);have aB:a.size*M<=dt sub*M:=ec _ (by omega);have A:=IH a (lMg ha) x hx b W D (λs=>by have:=ac s;omega) (by omega) _ (cT st m _);rw[U] at O;simp only at O;generalize fsz ps b a=z at U O A;obtain⟨o2,n2,u2,s2⟩:=a;obtain⟨t3,x3,t4,x4,rfl,_⟩:=hx.mk;simp only[go_sem,zE,zB,zA,zL,reduceCtorEq,f0,f5,f31,f32,f33,lt_i E,dc af,iNn,am,fits];refine A.mono ?_;rintro _ _ ⟨ao,an,rfl,rfl⟩;have ah:IntKind.i64.wrap ((((pszs ps b us).1+(fszs ps b (sub.take k)).1:Nat):Int)+((z.1:Nat):Int))=(((pszs ps b us).1+((fszs ps b (sub.take k)).1+z.1):Nat):Int):=by rw[w64]<;>omega
   have ak:max ((max (pszs ps b us).2 (fszs ps b (sub.take k)).2:Nat):Int) ((z.2:Nat):Int)=((max (pszs ps b us).2 (max (fszs ps b (sub.take k)).2 z.2):Nat):Int):=by omega
   simp only[go_sem,zE,reduceCtorEq,f0,f5,f8,f9,f31,f32,f33,ah,ak,U,eZ,df E (by omega)];exact⟨ao,an,rfl⟩
  ·rintro fr _ _ ⟨⟨W,D,rfl⟩,f8,f9,f0,f5,f31,f32,f33,rfl⟩;rw[lTl] at f8 f9;have aj:IntKind.i64.wrap ((((pszs ps b us).1+(fszs ps b sub).1:Nat):Int)+1)=(((pszs ps b us).1+(fszs ps b sub).1+1:Nat):Int):=by rw[w64]<;>omega
   have ai:IntKind.i64.wrap (((max (pszs ps b us).2 (fszs ps b sub).2:Nat):Int)+1)=((max (pszs ps b us).2 (fszs ps b sub).2+1:Nat):Int):=by rw[w64]<;>omega
   simp only[go_sem,zE,f8,f9,f32,f33,dD (nLi _),aj,ai];exact cO ⟨W,D,rfl,rfl⟩
 ·have av:IntKind.i64.wrap (((b n:Nat):Int)+1)=((b n+1:Nat):Int):=by rw[w64]<;>omega
  have az:=hc.inc n;simp only[fsz,hq,dB] at aa ⊢;simp only[go_sem,zE,reduceCtorEq,fits,hys.len,hm,hc.look n,av];intro aq;refine cV sub.length (λk fr st' ds=>(∃ab,CntOk ab (incB b n)/\st'=st.put m (some (.map .str ab)))/\fr 8=((pszs ps b us).1+(fszs ps (incB b n) (sub.take k)).1:Nat)/\fr 9=(max (pszs ps b us).2 (fszs ps (incB b n) (sub.take k)).2:Nat)/\fr 0=.iv (.sl tp zs)/\fr 5=.iv (.cptr (.raw (.map (some m)))) /\
   fr 31=.iv (.sl ag ys)/\fr 32=sub.length/\fr 33=.iv (.raw (.int .i64 k))/\ds=[.call (.func 284) [.cptr (.raw (.map (some m))),.cptr (.agg [.raw (.int .u8 op),.raw (.string n),.sl tg xs,.sl ag ys])] []]) ?_ ?_ ?_
  ·simp only[go_sem,zE,reduceCtorEq];exact⟨⟨_,az,rfl⟩,by simp[fszs],by simp[fszs],rfl⟩
  ·rintro k fr _ _ E ⟨⟨W,D,rfl⟩,f8,f9,f0,f5,f31,f32,f33,rfl⟩;obtain⟨a,ha⟩:=dd E;obtain⟨x,am,hx⟩:=hys.get ha;obtain⟨hs1,hs2⟩:=jK ha;have U:=Ce (ps:=ps) (b:=incB b n) ha;have O:=td M hM ps hp (sub.take (k+1)) (incB b n);have ar:dt (sub.take (k+1))*M<=dt sub*M:=ec _ (by omega);have aB:a.size*M<=dt sub*M:=ec _ (by omega);have A:=IH a (lMg ha) x hx (incB b n) W D (λs=>by have:=ac s;simp only[incB];split<;>omega) (by omega) _ (cT st m _);rw[U] at O;simp only at O;generalize fsz ps (incB b n) a=z at U O A;obtain⟨o2,n2,u2,s2⟩:=a;obtain⟨t3,x3,t4,x4,rfl,_⟩:=hx.mk;simp only[go_sem,zE,zB,zA,zL,reduceCtorEq,f0,f5,f31,f32,f33,lt_i E,dc af,iNn,am,fits];refine A.mono ?_;rintro _ _ ⟨ao,an,rfl,rfl⟩;have ah:IntKind.i64.wrap ((((pszs ps b us).1+(fszs ps (incB b n) (sub.take k)).1:Nat):Int)+((z.1:Nat):Int))=(((pszs ps b us).1+((fszs ps (incB b n) (sub.take k)).1+z.1):Nat):Int):=by rw[w64]<;>omega
   have ak:max ((max (pszs ps b us).2 (fszs ps (incB b n) (sub.take k)).2:Nat):Int) ((z.2:Nat):Int)=((max (pszs ps b us).2 (max (fszs ps (incB b n) (sub.take k)).2 z.2):Nat):Int):=by omega
   simp only[go_sem,zE,reduceCtorEq,f0,f5,f8,f9,f31,f32,f33,ah,ak,U,eZ,df E (by omega)];exact⟨ao,an,rfl⟩
  ·rintro fr _ _ ⟨⟨W,D,rfl⟩,f8,f9,f0,f5,f31,f32,f33,rfl⟩;rw[lTl] at f8 f9;have aj:IntKind.i64.wrap ((((pszs ps b us).1+(fszs ps (incB b n) sub).1:Nat):Int)+1)=(((pszs ps b us).1+(fszs ps (incB b n) sub).1+1:Nat):Int):=by rw[w64]<;>omega
   have ai:IntKind.i64.wrap (((max (pszs ps b us).2 (fszs ps (incB b n) sub).2:Nat):Int)+1)=((max (pszs ps b us).2 (fszs ps (incB b n) sub).2+1:Nat):Int):=by rw[w64]<;>omega
   simp only[go_sem,zE,f8,f9,f32,f33,dD (nLi _),aj,ai];refine (Kq gl op n _ _ _ _ m W b D (by omega) _ (cT _ _ _)).mono ?_;rintro _ _ rfl;simp only[go_sem,eZ];exact cO ⟨_,D.dec,rfl,rfl⟩
include htp hzs hM hp in
def Ch:∀(k:Nat)(t:Fm),SizeOf.sizeOf t<k->FmS gl ps tp zs m M t
 | 0,f,h=>by omega
 | k+1,.mk o n us sub,h=>Kr gl ps tp zs htp hzs m M hM hp o n us sub (λa A=>Ch k a (by
   have:=lSm A;simp at h;omega))
include htp hzs hM hp in
def Ks (t:Fm):FmS gl ps tp zs m M t:=Ch gl ps tp zs htp hzs m M hM hp _ t (dM _)
end
