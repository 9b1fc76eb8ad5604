/- Walks: termsSize. -/
import Derived.Test.YtakbihknkdpmgaaGreatDoorJQ
set_option linter.all false
open Nat renaming reduceEqDiff → zE,reduceBEq → zB,reduceAdd → zA,reduceLeDiff → zL
namespace Go.Proofs.Tryz
open Go Go.Iv
set_option maxRecDepth 4000
variable (gl:Nat->Option IV)
def kJ (ps:List Pc)(nm:ByteArray)(z:Nat×Nat):Nat×Nat:=ps.foldl (λz p=>if p.nm=nm then (p.tm.size,p.tm.deep) else z) z
mutual
def psz (ps:List Pc)(b:ByteArray->Nat):Tm->Nat×Nat
 | .mk v n l=>if v=true/\b n=0 then kJ ps n ((pszs ps b l).1+1,(pszs ps b l).2+1) else ((pszs ps b l).1+1,(pszs ps b l).2+1)
def pszs (ps:List Pc)(b:ByteArray->Nat):List Tm->Nat×Nat
 | []=>(0,0)
 | a::l=>((psz ps b a).1+(pszs ps b l).1,max (psz ps b a).2 (pszs ps b l).2)
end
def CE (ps:List Pc)(b:ByteArray->Nat):∀l m:List Tm,pszs ps b (l++m)=((pszs ps b l).1+(pszs ps b m).1,max (pszs ps b l).2 (pszs ps b m).2)
 | [],m=>by simp[pszs]
 | a::l,m=>by simp only[ed,pszs,CE ps b l m];simp only[Prod.mk.injEq];omega
def KI {ps:List Pc}{b:ByteArray->Nat}{l:List Tm}{k:Nat}{a:Tm}(h:l[k]?=some a) :
  pszs ps b (l.take (k+1))=((pszs ps b (l.take k)).1+(psz ps b a).1,max (pszs ps b (l.take k)).2 (psz ps b a).2):=by
 rw[dE h,CE];simp[pszs]
def CF (N:Nat):∀(ps:List Pc) (_:∀p∈ps,p.tm.size<=N) (nm:ByteArray) (z:Nat×Nat),z.1<=N->z.2<=N->(kJ ps nm z).1<=N/\(kJ ps nm z).2<=N
 | [],_,nm,z,h1,h2=>⟨h1,h2⟩
 | p::ps,h,nm,z,h1,h2=>by
  have hp:=h p (List.mem_cons_self ..);have hd:=p.tm.deep_le;refine CF N ps (λq A=>h q (List.mem_cons_of_mem _ A)) nm _ ?_ ?_
  ·show (if p.nm=nm then (p.tm.size,p.tm.deep) else z).1<=N;split<;>omega
  ·show (if p.nm=nm then (p.tm.size,p.tm.deep) else z).2<=N;split
   ·show p.tm.deep<=N;omega
   ·exact h2
mutual
def KJ (M:Nat)(hM:1<=M)(ps:List Pc)(hp:∀p∈ps,p.tm.size<=M)(b:ByteArray->Nat):∀t:Tm,(psz ps b t).1<=t.size*M/\(psz ps b t).2<=t.size*M
 | .mk v n l=>by
  have hl:=pK M hM ps hp b l;have h1:(pszs ps b l).1+1<=(Tm.mk v n l).size*M:=by simp only[Tm.size,fp,Nat.one_mul];omega
  have h2:(pszs ps b l).2+1<=(Tm.mk v n l).size*M:=by simp only[Tm.size,fp,Nat.one_mul];omega
  have A:M<=(Tm.mk v n l).size*M:=by simp only[Tm.size,fp,Nat.one_mul];omega
  simp only[psz];split
  ·exact CF _ ps (λp h=>dT (hp p h) A) n _ h1 h2
  ·exact⟨h1,h2⟩
def pK (M:Nat)(hM:1<=M)(ps:List Pc)(hp:∀p∈ps,p.tm.size<=M)(b:ByteArray->Nat):∀l:List Tm,(pszs ps b l).1<=dP l*M/\(pszs ps b l).2<=dP l*M
 | []=>⟨fq _,fq _⟩
 | a::l=>by
  have h1:=KJ M hM ps hp b a;have h2:=pK M hM ps hp b l;simp only[pszs,dP,fp];omega
end
def KK {ps:List Pc}{k:Nat}{p:Pc}(h:ps[k]?=some p)(nm:ByteArray)(z:Nat×Nat):kJ (ps.take (k+1)) nm z=if p.nm=nm then (p.tm.size,p.tm.deep) else kJ (ps.take k) nm z:=by
 rw[dE h];simp only[kJ,List.foldl_append,jB,List.foldl_nil]
section
variable (ps:List Pc)(tp:Tag)(ys:List IV)(htp:okEs tp 7)(hys:IsPcs ps ys)(m:Nat)(es:List (Value×IV))(b:ByteArray->Nat)(hc:CntOk es b)(M:Nat)(hM:1<=M)(hp:∀p∈ps,p.tm.size<=M)
def TS (us:List Tm):Prop:=∀(D:Tag) (A:List IV) (_:okEs D 3) (_:IsTms us A) (_:dP us*M<=1152921504606846976) (st:ISt) (_:st m=some (.map .str es)),
 ICall prog gl 274 [.sl tp ys,.sl D A,.raw (.map (some m))] st (λr st'=>r=.tup [.raw (.int .i64 (pszs ps b us).1),.raw (.int .i64 (pszs ps b us).2)]/\st'=st)
include htp hys hc hM hp in
def KL (us:List Tm)(IH:∀v n l,Tm.mk v n l∈us->TS gl ps tp ys m es b M l):TS gl ps tp ys m es b M us:=by
 intro tg xs aB ao aM st hm;refine iI func274 ?_;simp only[go_sem,zE,ao.len];intro aK;refine dj us.length (λk fr st' ds=>fr 8=.iv (.raw (.int .i64 (pszs ps b (us.take k)).1))/\fr 9=.iv (.raw (.int .i64 (pszs ps b (us.take k)).2))/\fr 0=.iv (.sl tp ys)/\fr 2=.iv (.raw (.map (some m))) /\
  fr 16=.iv (.sl tg xs)/\fr 17=us.length/\fr 18=.iv (.raw (.int .i64 k))/\st'=st/\ds=[]) ?_ ?_ ?_
 ·simp only[go_sem,zE,reduceCtorEq];exact⟨rfl,rfl,rfl⟩
 ·rintro k fr st _ ab ⟨f8,f9,f0,f2,f16,f17,f18,rfl,rfl⟩;obtain⟨a,ha⟩:=dB ab;obtain⟨x,aF,hx⟩:=ao.get ha;obtain⟨aN,aC⟩:=mc ha;have A:=KI (ps:=ps) (b:=b) ha;have G:=pK M hM ps hp b (us.take (k+1));have aQ:dP (us.take (k+1))*M<=dP us*M:=fz _ (by omega);obtain⟨v2,O,D⟩:=a;obtain⟨tx,cx,rfl,aA,aG⟩:=hx.mk;have aO:dP D*M<=dP us*M:=fz _ (by simp only[Tm.size] at aC;omega);have hll:=pK M hM ps hp b D;simp only[go_sem,zE,zA,zL,reduceCtorEq,f0,f2,f16,f17,f18,lt_i ab,dz aB,iNn,aF];refine (IH _ _ _ (lMg ha) tx cx aA aG (by omega) _ hm).q ?_;have ak:IntKind.i64.wrap ((((pszs ps b D).1:Nat):Int)+1)=(((pszs ps b D).1+1:Nat):Int):=by rw[w64]<;>omega
  have aj:IntKind.i64.wrap ((((pszs ps b D).2:Nat):Int)+1)=(((pszs ps b D).2+1:Nat):Int):=by rw[w64]<;>omega
  simp only[psz] at A;cases v2
  ·simp only[bFt,false_and,dI] at A;rw[A] at G;simp only at G;have U:IntKind.i64.wrap ((((pszs ps b (us.take k)).1:Nat):Int)+(((pszs ps b D).1+1:Nat):Int))=(((pszs ps b (us.take k)).1+((pszs ps b D).1+1):Nat):Int):=by rw[w64]<;>omega
   have aa:max (((pszs ps b (us.take k)).2:Nat):Int) (((pszs ps b D).2+1:Nat):Int)=((max (pszs ps b (us.take k)).2 ((pszs ps b D).2+1):Nat):Int):=by omega
   simp only[go_sem,zE,zA,reduceCtorEq,f0,f2,f8,f9,f16,f17,f18,ak,aj,U,aa,A,dC ab (by omega)]
  ·by_cases au:b O=0
   ·simp only[au,and_self,dD] at A;have ac:decide (((b O:Nat):Int)=0)=true:=dEt (by omega);rw[A] at G;simp only at G;simp only[go_sem,zE,reduceCtorEq,f0,f2,ak,aj,hm,hc.look O,ac,hys.len];intro aE;refine dj ps.length (λj fr st' ds=>fr 12=.iv (.raw (.int .i64 (kJ (ps.take j) O ((pszs ps b D).1+1,(pszs ps b D).2+1)).1))/\fr 13=.iv (.raw (.int .i64 (kJ (ps.take j) O ((pszs ps b D).1+1,(pszs ps b D).2+1)).2)) /\
     fr 11=.box [true,O,.sl tx cx]/\fr 43=.iv (.sl tp ys)/\fr 44=ps.length/\fr 45=.iv (.raw (.int .i64 j)) /\
     fr 8=.iv (.raw (.int .i64 (pszs ps b (us.take k)).1))/\fr 9=.iv (.raw (.int .i64 (pszs ps b (us.take k)).2))/\fr 0=.iv (.sl tp ys)/\fr 2=.iv (.raw (.map (some m))) /\
     fr 16=.iv (.sl tg xs)/\fr 17=us.length/\fr 18=.iv (.raw (.int .i64 k))/\st'=st/\ds=[]) ?_ ?_ ?_
    ·simp only[go_sem,zE,reduceCtorEq,f0,f2,f8,f9,f16,f17,f18];exact⟨rfl,rfl,rfl⟩
    ·rintro j fr st _ E ⟨af,ae,an,am,ah,ag,g8,g9,g0,g2,ai,g17,g18,rfl,rfl⟩;obtain⟨p,aq⟩:=dB E;obtain⟨y,al,v3,n3,t3,x3,rfl,hy⟩:=hys.get aq;have J:=KK aq O ((pszs ps b D).1+1,(pszs ps b D).2+1);unfold kI at al;cases hq:decide (p.nm=O)
     ·rw[a_ (fX hq)] at J;simp only[go_sem,zE,zB,zA,zL,reduceCtorEq,af,ae,an,am,ah,ag,g8,g9,g0,g2,ai,g17,g18,lt_i E,dz htp,iNn,al,fits,hq,J,dC E (by omega)]
     ·rw[cV (fc hq)] at J;simp only[go_sem,zE,zB,zA,zL,reduceCtorEq,an,am,ah,ag,g8,g9,g0,g2,ai,g17,g18,lt_i E,dz htp,iNn,al,fits,hq,J,dC E (by omega)]
    ·rintro fr st _ ⟨af,ae,an,am,ah,ag,g8,g9,g0,g2,ai,g17,g18,rfl,rfl⟩;rw[lTl] at af ae;generalize kJ ps O ((pszs ps b D).1+1,(pszs ps b D).2+1)=z at G A af ae;have U:IntKind.i64.wrap ((((pszs ps b (us.take k)).1:Nat):Int)+((z.1:Nat):Int))=(((pszs ps b (us.take k)).1+z.1:Nat):Int):=by rw[w64]<;>omega
     have aa:max (((pszs ps b (us.take k)).2:Nat):Int) ((z.2:Nat):Int)=((max (pszs ps b (us.take k)).2 z.2:Nat):Int):=by omega
     simp only[go_sem,zE,reduceCtorEq,af,ae,ah,ag,g8,g9,g0,g2,ai,g17,g18,dF (nLi _),U,aa,A,dC ab (by omega)]
   ·simp only[au,and_false,dI] at A;rw[A] at G;simp only at G;have U:IntKind.i64.wrap ((((pszs ps b (us.take k)).1:Nat):Int)+(((pszs ps b D).1+1:Nat):Int))=(((pszs ps b (us.take k)).1+((pszs ps b D).1+1):Nat):Int):=by rw[w64]<;>omega
    have aa:max (((pszs ps b (us.take k)).2:Nat):Int) (((pszs ps b D).2+1:Nat):Int)=((max (pszs ps b (us.take k)).2 ((pszs ps b D).2+1):Nat):Int):=by omega
    have ac:decide (((b O:Nat):Int)=0)=false:=dEf (by omega);simp only[go_sem,zE,reduceCtorEq,f0,f2,f8,f9,f16,f17,f18,ak,aj,U,aa,A,hm,hc.look O,ac,dC ab (by omega)]
 ·rintro fr st _ ⟨f8,f9,f0,f2,f16,f17,f18,rfl,rfl⟩;rw[lTl] at f8 f9;simp only[go_sem,zE,f8,f9,f17,f18,dF (nLi _)];exact c_ ⟨rfl,rfl⟩
include htp hys hc hM hp in
def CG:∀(k:Nat)(us:List Tm),SizeOf.sizeOf us<k->TS gl ps tp ys m es b M us
 | 0,f,h=>by omega
 | k+1,us,h=>KL gl ps tp ys htp hys m es b hc M hM hp us (λv n l A=>CG k l (by
   have:=lSm A;simp at this;omega))
include htp hys hc hM hp in
def KM (us:List Tm):TS gl ps tp ys m es b M us:=CG gl ps tp ys htp hys m es b hc M hM hp _ us (ew _)
end
def KN (op:Nat)(n:ByteArray)(t D:Tag)(A ys:List IV)(m:Nat)(es:List (Value×IV))(b:ByteArray->Nat)(hc:CntOk es (incB b n))(J:b n<=4611686018427387904)(st:ISt)(G:st m=some (.map .str es)) :
  ICallD prog gl 275 [.cptr (.raw (.map (some m))),.cptr (.agg [.raw (.int .u8 op),n,.sl t A,.sl D ys])] st
   (λ_ st'=>st'=st.put m (some (.map .str (updI (.string n) (b n:Int) es)))):=by
 refine ICallD.intro (c:=cf prog gl [] []) func275 rfl (by show _<=7;simp) (by kernel_rfl) ?_;have E:IntKind.i64.wrap (((incB b n n:Nat):Int)-1)=(b n:Int):=by rw[w64]<;>simp[incB]<;>omega
 simp only[go_sem,zE,fits,G,hc.look n,E];exact c_ rfl
mutual
def fsz (ps:List Pc)(b:ByteArray->Nat):Fm->Nat×Nat
 | .mk op n us sub=>((pszs ps b us).1+(fszs ps (if isQ op then incB b n else b) sub).1+1,max (pszs ps b us).2 (fszs ps (if isQ op then incB b n else b) sub).2+1)
def fszs (ps:List Pc)(b:ByteArray->Nat):List Fm->Nat×Nat
 | []=>(0,0)
 | a::l=>((fsz ps b a).1+(fszs ps b l).1,max (fsz ps b a).2 (fszs ps b l).2)
end
def CH (ps:List Pc)(b:ByteArray->Nat):∀l m:List Fm,fszs ps b (l++m)=((fszs ps b l).1+(fszs ps b m).1,max (fszs ps b l).2 (fszs ps b m).2)
 | [],m=>by simp[fszs]
 | a::l,m=>by simp only[ed,fszs,CH ps b l m];simp only[Prod.mk.injEq];omega
def CI {ps:List Pc}{b:ByteArray->Nat}{l:List Fm}{k:Nat}{a:Fm}(h:l[k]?=some a) :
  fszs ps b (l.take (k+1))=((fszs ps b (l.take k)).1+(fsz ps b a).1,max (fszs ps b (l.take k)).2 (fsz ps b a).2):=by
 rw[dE h,CH];simp[fszs]
mutual
def CJ (M:Nat)(hM:1<=M)(ps:List Pc)(hp:∀p∈ps,p.tm.size<=M):∀(t:Fm) (b:ByteArray->Nat),(fsz ps b t).1<=t.size*M/\(fsz ps b t).2<=t.size*M
 | .mk op n us sub,b=>by
  have h1:=pK M hM ps hp b us;have h2:=uf M hM ps hp sub (if isQ op then incB b n else b);simp only[fsz,Fm.size,fp,Nat.one_mul];omega
def uf (M:Nat)(hM:1<=M)(ps:List Pc)(hp:∀p∈ps,p.tm.size<=M):∀(l:List Fm) (b:ByteArray->Nat),(fszs ps b l).1<=dL l*M/\(fszs ps b l).2<=dL l*M
 | [],b=>⟨fq _,fq _⟩
 | a::l,b=>by
  have h1:=CJ M hM ps hp a b;have h2:=uf M hM ps hp l b;simp only[fszs,dL,fp];omega
end
section
variable (ps:List Pc)(tp:Tag)(zs:List IV)(htp:okEs tp 7)(hzs:IsPcs ps zs)(m:Nat)(M:Nat)(hM:1<=M)(hp:∀p∈ps,p.tm.size<=M)
def FmS (f:Fm):Prop:=∀(x:IV) (_:IsFm f x) (b:ByteArray->Nat) (es:List (Value×IV)) (_:CntOk es b) (_:∀s,b s+f.size<=4611686018427387904) (_:f.size*M<=1152921504606846976) (st:ISt) (_:st m=some (.map .str es)),
 ICall prog gl 224 [.sl tp zs,x,.raw (.map (some m))] st (λr st'=>∃A,CntOk A b/\r=.tup [.raw (.int .i64 (fsz ps b f).1),.raw (.int .i64 (fsz ps b f).2)]/\st'=st.put m (some (.map .str A)))
include htp hzs hM hp in
def KO (op:Nat)(n:ByteArray)(us:List Tm)(sub:List Fm)(IH:∀a∈sub,FmS gl ps tp zs m M a):FmS gl ps tp zs m M (.mk op n us sub):=by
 intro x hx b es hc ab ax st hm;obtain⟨tg,xs,af,ys,rfl,aO,aw,au,ae,hys⟩:=hx.mk;have aC:=ab n;have U:=CJ M hM ps hp (.mk op n us sub) b;simp only[Fm.size,fp,Nat.one_mul] at ax ab aC U;have hts:=pK M hM ps hp b us;refine ICall.intro (c:=cf prog gl [] [] [4,5]) func224 rfl (by show _<=55;simp) (by kernel_rfl) ?_;simp only[go_sem,zE,zA,reduceCtorEq,fits];refine (KM gl ps tp zs htp hzs m es b hc M hM hp us tg xs aw au (by omega) _ hm).q ?_;simp only[go_sem,zE,zA,fits];refine (pH gl op n _ _ _ _ _).q ?_;cases hq:isQ op
 ·simp only[fsz,hq,bFt,dI] at U ⊢;simp only[go_sem,zE,fits,hys.len];intro ao;refine dj sub.length (λk fr st' ds=>(∃aa,CntOk aa b/\st'=st.put m (some (.map .str aa)))/\fr 8=((pszs ps b us).1+(fszs ps b (sub.take k)).1:Nat)/\fr 9=(max (pszs ps b us).2 (fszs ps b (sub.take k)).2:Nat)/\fr 0=.iv (.sl tp zs)/\fr 5=.iv (.cptr (.raw (.map (some m)))) /\
   fr 31=.iv (.sl af ys)/\fr 32=sub.length/\fr 33=.iv (.raw (.int .i64 k))/\ds=[]) ?_ ?_ ?_
  ·simp only[go_sem,zE,reduceCtorEq];exact⟨⟨es,hc,(jo hm).symm⟩,by simp[fszs],by simp[fszs],rfl⟩
  ·rintro k fr _ _ E ⟨⟨O,D,rfl⟩,f8,f9,f0,f5,f31,f32,f33,rfl⟩;obtain⟨a,ha⟩:=dB E;obtain⟨x,al,hx⟩:=hys.get ha;obtain⟨az,ay⟩:=jr ha;have J:=CI (ps:=ps) (b:=b) ha;have G:=uf M hM ps hp (sub.take (k+1)) b;have aq:dL (sub.take (k+1))*M<=dL sub*M:=fz _ (by omega);have aD:a.size*M<=dL sub*M:=fz _ (by omega);have A:=IH a (lMg ha) x hx b O D (λs=>by have:=ab s;omega) (by omega) _ (b_ st m _);rw[J] at G;simp only at G;generalize fsz ps b a=z at J G A;obtain⟨o2,n2,u2,s2⟩:=a;obtain⟨t3,x3,t4,x4,rfl,_⟩:=hx.mk;simp only[go_sem,zE,zB,zA,zL,reduceCtorEq,f0,f5,f31,f32,f33,lt_i E,dz ae,iNn,al,fits];refine A.mono ?_;rintro _ _ ⟨an,am,rfl,rfl⟩;have ah:IntKind.i64.wrap ((((pszs ps b us).1+(fszs ps b (sub.take k)).1:Nat):Int)+((z.1:Nat):Int))=(((pszs ps b us).1+((fszs ps b (sub.take k)).1+z.1):Nat):Int):=by rw[w64]<;>omega
   have ak:max ((max (pszs ps b us).2 (fszs ps b (sub.take k)).2:Nat):Int) ((z.2:Nat):Int)=((max (pszs ps b us).2 (max (fszs ps b (sub.take k)).2 z.2):Nat):Int):=by omega
   simp only[go_sem,zE,reduceCtorEq,f0,f5,f8,f9,f31,f32,f33,ah,ak,J,eN,dC E (by omega)];exact⟨an,am,rfl⟩
  ·rintro fr _ _ ⟨⟨O,D,rfl⟩,f8,f9,f0,f5,f31,f32,f33,rfl⟩;rw[lTl] at f8 f9;have aj:IntKind.i64.wrap ((((pszs ps b us).1+(fszs ps b sub).1:Nat):Int)+1)=(((pszs ps b us).1+(fszs ps b sub).1+1:Nat):Int):=by rw[w64]<;>omega
   have ai:IntKind.i64.wrap (((max (pszs ps b us).2 (fszs ps b sub).2:Nat):Int)+1)=((max (pszs ps b us).2 (fszs ps b sub).2+1:Nat):Int):=by rw[w64]<;>omega
   simp only[go_sem,zE,f8,f9,f32,f33,dF (nLi _),aj,ai];exact c_ ⟨O,D,rfl,rfl⟩
 ·have av:IntKind.i64.wrap (((b n:Nat):Int)+1)=((b n+1:Nat):Int):=by rw[w64]<;>omega
  have aB:=hc.inc n;simp only[fsz,hq,dD] at U ⊢;simp only[go_sem,zE,reduceCtorEq,fits,hys.len,hm,hc.look n,av];intro ao;refine dj sub.length (λk fr st' ds=>(∃aa,CntOk aa (incB b n)/\st'=st.put m (some (.map .str aa)))/\fr 8=((pszs ps b us).1+(fszs ps (incB b n) (sub.take k)).1:Nat)/\fr 9=(max (pszs ps b us).2 (fszs ps (incB b n) (sub.take k)).2:Nat)/\fr 0=.iv (.sl tp zs)/\fr 5=.iv (.cptr (.raw (.map (some m)))) /\
   fr 31=.iv (.sl af ys)/\fr 32=sub.length/\fr 33=.iv (.raw (.int .i64 k))/\ds=[.call (.func 275) [.cptr (.raw (.map (some m))),.cptr (.agg [.raw (.int .u8 op),.raw (.string n),.sl tg xs,.sl af ys])] []]) ?_ ?_ ?_
  ·simp only[go_sem,zE,reduceCtorEq];exact⟨⟨_,aB,rfl⟩,by simp[fszs],by simp[fszs],rfl⟩
  ·rintro k fr _ _ E ⟨⟨O,D,rfl⟩,f8,f9,f0,f5,f31,f32,f33,rfl⟩;obtain⟨a,ha⟩:=dB E;obtain⟨x,al,hx⟩:=hys.get ha;obtain⟨az,ay⟩:=jr ha;have J:=CI (ps:=ps) (b:=incB b n) ha;have G:=uf M hM ps hp (sub.take (k+1)) (incB b n);have aq:dL (sub.take (k+1))*M<=dL sub*M:=fz _ (by omega);have aD:a.size*M<=dL sub*M:=fz _ (by omega);have A:=IH a (lMg ha) x hx (incB b n) O D (λs=>by have:=ab s;simp only[incB];split<;>omega) (by omega) _ (b_ st m _);rw[J] at G;simp only at G;generalize fsz ps (incB b n) a=z at J G A;obtain⟨o2,n2,u2,s2⟩:=a;obtain⟨t3,x3,t4,x4,rfl,_⟩:=hx.mk;simp only[go_sem,zE,zB,zA,zL,reduceCtorEq,f0,f5,f31,f32,f33,lt_i E,dz ae,iNn,al,fits];refine A.mono ?_;rintro _ _ ⟨an,am,rfl,rfl⟩;have ah:IntKind.i64.wrap ((((pszs ps b us).1+(fszs ps (incB b n) (sub.take k)).1:Nat):Int)+((z.1:Nat):Int))=(((pszs ps b us).1+((fszs ps (incB b n) (sub.take k)).1+z.1):Nat):Int):=by rw[w64]<;>omega
   have ak:max ((max (pszs ps b us).2 (fszs ps (incB b n) (sub.take k)).2:Nat):Int) ((z.2:Nat):Int)=((max (pszs ps b us).2 (max (fszs ps (incB b n) (sub.take k)).2 z.2):Nat):Int):=by omega
   simp only[go_sem,zE,reduceCtorEq,f0,f5,f8,f9,f31,f32,f33,ah,ak,J,eN,dC E (by omega)];exact⟨an,am,rfl⟩
  ·rintro fr _ _ ⟨⟨O,D,rfl⟩,f8,f9,f0,f5,f31,f32,f33,rfl⟩;rw[lTl] at f8 f9;have aj:IntKind.i64.wrap ((((pszs ps b us).1+(fszs ps (incB b n) sub).1:Nat):Int)+1)=(((pszs ps b us).1+(fszs ps (incB b n) sub).1+1:Nat):Int):=by rw[w64]<;>omega
   have ai:IntKind.i64.wrap (((max (pszs ps b us).2 (fszs ps (incB b n) sub).2:Nat):Int)+1)=((max (pszs ps b us).2 (fszs ps (incB b n) sub).2+1:Nat):Int):=by rw[w64]<;>omega
   simp only[go_sem,zE,f8,f9,f32,f33,dF (nLi _),aj,ai];refine (KN gl op n _ _ _ _ m O b D (by omega) _ (b_ _ _ _)).mono ?_;rintro _ _ rfl;simp only[go_sem,eN];exact c_ ⟨_,D.dec,rfl,rfl⟩
include htp hzs hM hp in
def CK:∀(k:Nat)(t:Fm),SizeOf.sizeOf t<k->FmS gl ps tp zs m M t
 | 0,f,h=>by omega
 | k+1,.mk o n us sub,h=>KO gl ps tp zs htp hzs m M hM hp o n us sub (λa A=>CK k a (by
   have:=lSm A;simp at h;omega))
include htp hzs hM hp in
def KP (t:Fm):FmS gl ps tp zs m M t:=CK gl ps tp zs htp hzs m M hM hp _ t (ew _)
end
