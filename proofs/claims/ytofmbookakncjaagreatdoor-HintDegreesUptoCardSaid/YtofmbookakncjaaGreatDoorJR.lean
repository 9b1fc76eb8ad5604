/- Walks: termsSize. -/
import Derived.Test.YtofmbookakncjaaGreatDoorJQ
set_option linter.all false
open Nat renaming reduceEqDiff → zE,reduceBEq → zB,reduceAdd → zA,reduceLeDiff → zL
namespace Go.Proofs.Tryz
open Go Go.Iv
set_option maxRecDepth 4000
variable (gl:Nat->Option IV)
def zZh (ps:List Pc)(nm:ByteArray)(z:Nat×Nat):Nat×Nat:=ps.foldl (λz p=>if p.nm=nm then (p.tm.size,p.tm.deep) else z) z
mutual
def psz (ps:List Pc)(b:ByteArray->Nat):Tm->Nat×Nat
 | .mk v n l=>if v=true/\b n=0 then zZh ps n ((pszs ps b l).1+1,(pszs ps b l).2+1) else ((pszs ps b l).1+1,(pszs ps b l).2+1)
def pszs (ps:List Pc)(b:ByteArray->Nat):List Tm->Nat×Nat
 | []=>(0,0)
 | a::l=>((psz ps b a).1+(pszs ps b l).1,max (psz ps b a).2 (pszs ps b l).2)
end
theorem zK5 (ps:List Pc)(b:ByteArray->Nat):∀l m:List Tm,pszs ps b (l++m)=((pszs ps b l).1+(pszs ps b m).1,max (pszs ps b l).2 (pszs ps b m).2)
 | [],m=>by simp[pszs]
 | a::l,m=>by simp only[List.cons_append,pszs,zK5 ps b l m];simp only[Prod.mk.injEq];omega
theorem wX8 {ps:List Pc}{b:ByteArray->Nat}{l:List Tm}{k:Nat}{a:Tm}(h:l[k]?=some a) :
  pszs ps b (l.take (k+1))=((pszs ps b (l.take k)).1+(psz ps b a).1,max (pszs ps b (l.take k)).2 (psz ps b a).2):=by
 rw[yQ6 h,zK5];simp[pszs]
theorem xWy (N:Nat):∀(ps:List Pc) (_:∀p∈ps,p.tm.size<=N) (nm:ByteArray) (z:Nat×Nat),z.1<=N->z.2<=N->(zZh ps nm z).1<=N/\(zZh ps nm z).2<=N
 | [],_,nm,z,h1,h2=>⟨h1,h2⟩
 | p::ps,h,nm,z,h1,h2=>by
  have hp:=h p (List.mem_cons_self ..);have hd:=p.tm.deep_le;refine xWy N ps (λq A=>h q (List.mem_cons_of_mem _ A)) nm _ ?_ ?_
  ·show (if p.nm=nm then (p.tm.size,p.tm.deep) else z).1<=N;split<;>omega
  ·show (if p.nm=nm then (p.tm.size,p.tm.deep) else z).2<=N;split
   ·show p.tm.deep<=N;omega
   ·exact h2
mutual
theorem vVh (M:Nat)(hM:1<=M)(ps:List Pc)(hp:∀p∈ps,p.tm.size<=M)(b:ByteArray->Nat):∀t:Tm,(psz ps b t).1<=t.size*M/\(psz ps b t).2<=t.size*M
 | .mk v n l=>by
  have hl:=zZ7 M hM ps hp b l;have h1:(pszs ps b l).1+1<=(Tm.mk v n l).size*M:=by simp only[Tm.size,Nat.add_mul,Nat.one_mul];omega
  have h2:(pszs ps b l).2+1<=(Tm.mk v n l).size*M:=by simp only[Tm.size,Nat.add_mul,Nat.one_mul];omega
  have A:M<=(Tm.mk v n l).size*M:=by simp only[Tm.size,Nat.add_mul,Nat.one_mul];omega
  simp only[psz];split
  ·exact xWy _ ps (λp h=>Nat.le_trans (hp p h) A) n _ h1 h2
  ·exact⟨h1,h2⟩
theorem zZ7 (M:Nat)(hM:1<=M)(ps:List Pc)(hp:∀p∈ps,p.tm.size<=M)(b:ByteArray->Nat):∀l:List Tm,(pszs ps b l).1<=yQf l*M/\(pszs ps b l).2<=yQf l*M
 | []=>⟨Nat.zero_le _,Nat.zero_le _⟩
 | a::l=>by
  have h1:=vVh M hM ps hp b a;have h2:=zZ7 M hM ps hp b l;simp only[pszs,yQf,Nat.add_mul];omega
end
theorem xUp {ps:List Pc}{k:Nat}{p:Pc}(h:ps[k]?=some p)(nm:ByteArray)(z:Nat×Nat):zZh (ps.take (k+1)) nm z=if p.nm=nm then (p.tm.size,p.tm.deep) else zZh (ps.take k) nm z:=by
 rw[yQ6 h];simp only[zZh,List.foldl_append,List.foldl_cons,List.foldl_nil]
section
variable (ps:List Pc)(tp:Tag)(ys:List IV)(htp:okEs tp 7)(hys:IsPcs ps ys)(m:Nat)(es:List (Value×IV))(b:ByteArray->Nat)(hc:CntOk es b)(M:Nat)(hM:1<=M)(hp:∀p∈ps,p.tm.size<=M)
def TS (us:List Tm):Prop:=∀(D:Tag) (A:List IV) (_:okEs D 3) (_:IsTms us A) (_:yQf us*M<=1152921504606846976) (st:ISt) (_:st m=some (.map .str es)),
 ICall prog gl 239 [.sl tp ys,.sl D A,.raw (.map (some m))] st (λr st'=>r=.tup [.raw (.int .i64 (pszs ps b us).1),.raw (.int .i64 (pszs ps b us).2)]/\st'=st)
include htp hys hc hM hp in
theorem zVu (us:List Tm)(IH:∀v n l,Tm.mk v n l∈us->TS gl ps tp ys m es b M l):TS gl ps tp ys m es b M us:=by
 intro tg xs aB ao aM st hm;refine iI func239 ?_;simp only[go_sem,zE,ao.len];intro aK;refine LoopC.ctr us.length (λk fr st' ds=>fr 8=.iv (.raw (.int .i64 (pszs ps b (us.take k)).1))/\fr 9=.iv (.raw (.int .i64 (pszs ps b (us.take k)).2))/\fr 0=.iv (.sl tp ys)/\fr 2=.iv (.raw (.map (some m))) /\
  fr 16=.iv (.sl tg xs)/\fr 17=.iv (.raw (.int .i64 us.length))/\fr 18=.iv (.raw (.int .i64 k))/\st'=st/\ds=[]) ?_ ?_ ?_
 ·simp only[go_sem,zE,reduceCtorEq];exact⟨rfl,rfl,rfl⟩
 ·rintro k fr st _ ab ⟨f8,f9,f0,f2,f16,f17,f18,rfl,rfl⟩;obtain⟨a,ha⟩:=yQ1 ab;obtain⟨x,aF,hx⟩:=ao.get ha;obtain⟨aN,aC⟩:=yZz ha;have A:=wX8 (ps:=ps) (b:=b) ha;have G:=zZ7 M hM ps hp b (us.take (k+1));have aQ:yQf (us.take (k+1))*M<=yQf us*M:=Nat.mul_le_mul_right _ (by omega);obtain⟨v2,O,D⟩:=a;obtain⟨tx,cx,rfl,aA,aG⟩:=hx.mk;have aO:yQf D*M<=yQf us*M:=Nat.mul_le_mul_right _ (by simp only[Tm.size] at aC;omega);have hll:=zZ7 M hM ps hp b D;simp only[go_sem,zE,zA,zL,reduceCtorEq,f0,f2,f16,f17,f18,lt_i ab,yQ3 aB,iNn,aF];refine (IH _ _ _ (lMg ha) tx cx aA aG (by omega) _ hm).mono ?_;rintro _ st ⟨rfl,rfl⟩;have ak:IntKind.i64.wrap ((((pszs ps b D).1:Nat):Int)+1)=(((pszs ps b D).1+1:Nat):Int):=by rw[w64]<;>omega
  have aj:IntKind.i64.wrap ((((pszs ps b D).2:Nat):Int)+1)=(((pszs ps b D).2+1:Nat):Int):=by rw[w64]<;>omega
  simp only[psz] at A;cases v2
  ·simp only[bFt,false_and,if_false] at A;rw[A] at G;simp only at G;have U:IntKind.i64.wrap ((((pszs ps b (us.take k)).1:Nat):Int)+(((pszs ps b D).1+1:Nat):Int))=(((pszs ps b (us.take k)).1+((pszs ps b D).1+1):Nat):Int):=by rw[w64]<;>omega
   have aa:max (((pszs ps b (us.take k)).2:Nat):Int) (((pszs ps b D).2+1:Nat):Int)=((max (pszs ps b (us.take k)).2 ((pszs ps b D).2+1):Nat):Int):=by omega
   simp only[go_sem,zE,zA,reduceCtorEq,f0,f2,f8,f9,f16,f17,f18,ak,aj,U,aa,A,yQc ab (show us.length<=281474976710656 by omega)]
  ·by_cases au:b O=0
   ·simp only[au,and_self,if_true] at A;have ac:decide (((b O:Nat):Int)=0)=true:=dEt (by omega);rw[A] at G;simp only at G;simp only[go_sem,zE,reduceCtorEq,f0,f2,ak,aj,hm,hc.look O,ac,hys.len];intro aE;refine LoopC.ctr ps.length (λj fr st' ds=>fr 12=.iv (.raw (.int .i64 (zZh (ps.take j) O ((pszs ps b D).1+1,(pszs ps b D).2+1)).1))/\fr 13=.iv (.raw (.int .i64 (zZh (ps.take j) O ((pszs ps b D).1+1,(pszs ps b D).2+1)).2)) /\
     fr 11=.box [.raw (.bool true),.raw (.string O),.sl tx cx]/\fr 43=.iv (.sl tp ys)/\fr 44=.iv (.raw (.int .i64 ps.length))/\fr 45=.iv (.raw (.int .i64 j)) /\
     fr 8=.iv (.raw (.int .i64 (pszs ps b (us.take k)).1))/\fr 9=.iv (.raw (.int .i64 (pszs ps b (us.take k)).2))/\fr 0=.iv (.sl tp ys)/\fr 2=.iv (.raw (.map (some m))) /\
     fr 16=.iv (.sl tg xs)/\fr 17=.iv (.raw (.int .i64 us.length))/\fr 18=.iv (.raw (.int .i64 k))/\st'=st/\ds=[]) ?_ ?_ ?_
    ·simp only[go_sem,zE,reduceCtorEq,f0,f2,f8,f9,f16,f17,f18];exact⟨rfl,rfl,rfl⟩
    ·rintro j fr st _ E ⟨af,ae,an,am,ah,ag,g8,g9,g0,g2,ai,g17,g18,rfl,rfl⟩;obtain⟨p,aq⟩:=yQ1 E;obtain⟨y,al,v3,n3,t3,x3,rfl,hy⟩:=hys.get aq;have J:=xUp aq O ((pszs ps b D).1+1,(pszs ps b D).2+1);unfold yW5 at al;cases hq:decide (p.nm=O)
     ·rw[if_neg (of_decide_eq_false hq)] at J;simp only[go_sem,zE,zB,zA,zL,reduceCtorEq,af,ae,an,am,ah,ag,g8,g9,g0,g2,ai,g17,g18,lt_i E,yQ3 htp,iNn,al,fits,hq,J,yQc E (show ps.length<=281474976710656 by omega)]
     ·rw[if_pos (of_decide_eq_true hq)] at J;simp only[go_sem,zE,zB,zA,zL,reduceCtorEq,an,am,ah,ag,g8,g9,g0,g2,ai,g17,g18,lt_i E,yQ3 htp,iNn,al,fits,hq,J,yQc E (show ps.length<=281474976710656 by omega)]
    ·rintro fr st _ ⟨af,ae,an,am,ah,ag,g8,g9,g0,g2,ai,g17,g18,rfl,rfl⟩;rw[lTl] at af ae;generalize zZh ps O ((pszs ps b D).1+1,(pszs ps b D).2+1)=z at G A af ae;have U:IntKind.i64.wrap ((((pszs ps b (us.take k)).1:Nat):Int)+((z.1:Nat):Int))=(((pszs ps b (us.take k)).1+z.1:Nat):Int):=by rw[w64]<;>omega
     have aa:max (((pszs ps b (us.take k)).2:Nat):Int) ((z.2:Nat):Int)=((max (pszs ps b (us.take k)).2 z.2:Nat):Int):=by omega
     simp only[go_sem,zE,reduceCtorEq,af,ae,ah,ag,g8,g9,g0,g2,ai,g17,g18,yQl (nLi _),U,aa,A,yQc ab (show us.length<=281474976710656 by omega)]
   ·simp only[au,and_false,if_false] at A;rw[A] at G;simp only at G;have U:IntKind.i64.wrap ((((pszs ps b (us.take k)).1:Nat):Int)+(((pszs ps b D).1+1:Nat):Int))=(((pszs ps b (us.take k)).1+((pszs ps b D).1+1):Nat):Int):=by rw[w64]<;>omega
    have aa:max (((pszs ps b (us.take k)).2:Nat):Int) (((pszs ps b D).2+1:Nat):Int)=((max (pszs ps b (us.take k)).2 ((pszs ps b D).2+1):Nat):Int):=by omega
    have ac:decide (((b O:Nat):Int)=0)=false:=dEf (by omega);simp only[go_sem,zE,reduceCtorEq,f0,f2,f8,f9,f16,f17,f18,ak,aj,U,aa,A,hm,hc.look O,ac,yQc ab (show us.length<=281474976710656 by omega)]
 ·rintro fr st _ ⟨f8,f9,f0,f2,f16,f17,f18,rfl,rfl⟩;rw[lTl] at f8 f9;simp only[go_sem,zE,f8,f9,f17,f18,yQl (nLi _)];exact yQ0 ⟨rfl,rfl⟩
include htp hys hc hM hp in
theorem yUx:∀(k:Nat)(us:List Tm),SizeOf.sizeOf us<k->TS gl ps tp ys m es b M us
 | 0,f,h=>by omega
 | k+1,us,h=>zVu gl ps tp ys htp hys m es b hc M hM hp us (λv n l A=>yUx k l (by
   have:=lSm A;simp at this;omega))
include htp hys hc hM hp in
theorem xXq (us:List Tm):TS gl ps tp ys m es b M us:=yUx gl ps tp ys htp hys m es b hc M hM hp _ us (Nat.lt_succ_self _)
end
theorem vQx (op:Nat)(n:ByteArray)(t D:Tag)(A ys:List IV)(m:Nat)(es:List (Value×IV))(b:ByteArray->Nat)(hc:CntOk es (incB b n))(J:b n<=4611686018427387904)(st:ISt)(G:st m=some (.map .str es)) :
  ICallD prog gl 240 [.cptr (.raw (.map (some m))),.cptr (.agg [.raw (.int .u8 op),.raw (.string n),.sl t A,.sl D ys])] st
   (λ_ st'=>st'=st.put m (some (.map .str (updI (.string n) (.raw (.int .i64 (b n))) es)))):=by
 refine ICallD.intro (c:=cf prog gl [] []) func240 rfl (by show _<=7;simp) (by kernel_rfl) ?_;have E:IntKind.i64.wrap (((incB b n n:Nat):Int)-1)=(b n:Int):=by rw[w64]<;>simp[incB]<;>omega
 simp only[go_sem,zE,fits,G,hc.look n,E];exact yQ0 rfl
mutual
def fsz (ps:List Pc)(b:ByteArray->Nat):Fm->Nat×Nat
 | .mk op n us sub=>((pszs ps b us).1+(fszs ps (if isQ op then incB b n else b) sub).1+1,max (pszs ps b us).2 (fszs ps (if isQ op then incB b n else b) sub).2+1)
def fszs (ps:List Pc)(b:ByteArray->Nat):List Fm->Nat×Nat
 | []=>(0,0)
 | a::l=>((fsz ps b a).1+(fszs ps b l).1,max (fsz ps b a).2 (fszs ps b l).2)
end
theorem zKt (ps:List Pc)(b:ByteArray->Nat):∀l m:List Fm,fszs ps b (l++m)=((fszs ps b l).1+(fszs ps b m).1,max (fszs ps b l).2 (fszs ps b m).2)
 | [],m=>by simp[fszs]
 | a::l,m=>by simp only[List.cons_append,fszs,zKt ps b l m];simp only[Prod.mk.injEq];omega
theorem xZm {ps:List Pc}{b:ByteArray->Nat}{l:List Fm}{k:Nat}{a:Fm}(h:l[k]?=some a) :
  fszs ps b (l.take (k+1))=((fszs ps b (l.take k)).1+(fsz ps b a).1,max (fszs ps b (l.take k)).2 (fsz ps b a).2):=by
 rw[yQ6 h,zKt];simp[fszs]
mutual
theorem wUp (M:Nat)(hM:1<=M)(ps:List Pc)(hp:∀p∈ps,p.tm.size<=M):∀(t:Fm) (b:ByteArray->Nat),(fsz ps b t).1<=t.size*M/\(fsz ps b t).2<=t.size*M
 | .mk op n us sub,b=>by
  have h1:=zZ7 M hM ps hp b us;have h2:=zU8 M hM ps hp sub (if isQ op then incB b n else b);simp only[fsz,Fm.size,Nat.add_mul,Nat.one_mul];omega
theorem zU8 (M:Nat)(hM:1<=M)(ps:List Pc)(hp:∀p∈ps,p.tm.size<=M):∀(l:List Fm) (b:ByteArray->Nat),(fszs ps b l).1<=yQb l*M/\(fszs ps b l).2<=yQb l*M
 | [],b=>⟨Nat.zero_le _,Nat.zero_le _⟩
 | a::l,b=>by
  have h1:=wUp M hM ps hp a b;have h2:=zU8 M hM ps hp l b;simp only[fszs,yQb,Nat.add_mul];omega
end
section
variable (ps:List Pc)(tp:Tag)(zs:List IV)(htp:okEs tp 7)(hzs:IsPcs ps zs)(m:Nat)(M:Nat)(hM:1<=M)(hp:∀p∈ps,p.tm.size<=M)
def FmS (f:Fm):Prop:=∀(x:IV) (_:IsFm f x) (b:ByteArray->Nat) (es:List (Value×IV)) (_:CntOk es b) (_:∀s,b s+f.size<=4611686018427387904) (_:f.size*M<=1152921504606846976) (st:ISt) (_:st m=some (.map .str es)),
 ICall prog gl 212 [.sl tp zs,x,.raw (.map (some m))] st (λr st'=>∃A,CntOk A b/\r=.tup [.raw (.int .i64 (fsz ps b f).1),.raw (.int .i64 (fsz ps b f).2)]/\st'=st.put m (some (.map .str A)))
include htp hzs hM hp in
theorem wZp (op:Nat)(n:ByteArray)(us:List Tm)(sub:List Fm)(IH:∀a∈sub,FmS gl ps tp zs m M a):FmS gl ps tp zs m M (.mk op n us sub):=by
 intro x hx b es hc ab ax st hm;obtain⟨tg,xs,af,ys,rfl,aO,aw,au,ae,hys⟩:=hx.mk;have aC:=ab n;have U:=wUp M hM ps hp (.mk op n us sub) b;simp only[Fm.size,Nat.add_mul,Nat.one_mul] at ax ab aC U;have hts:=zZ7 M hM ps hp b us;refine ICall.intro (c:=cf prog gl [] [] [4,5]) func212 rfl (by show _<=55;simp) (by kernel_rfl) ?_;simp only[go_sem,zE,zA,reduceCtorEq,fits];refine (xXq gl ps tp zs htp hzs m es b hc M hM hp us tg xs aw au (by omega) _ hm).mono ?_;rintro _ st ⟨rfl,rfl⟩;simp only[go_sem,zE,zA,fits];refine (yJ8 gl op n _ _ _ _ _).mono ?_;rintro _ st ⟨rfl,rfl⟩;cases hq:isQ op
 ·simp only[fsz,hq,bFt,if_false] at U ⊢;simp only[go_sem,zE,fits,hys.len];intro ao;refine LoopC.ctr sub.length (λk fr st' ds=>(∃aa,CntOk aa b/\st'=st.put m (some (.map .str aa)))/\fr 8=.iv (.raw (.int .i64 ((pszs ps b us).1+(fszs ps b (sub.take k)).1:Nat)))/\fr 9=.iv (.raw (.int .i64 (max (pszs ps b us).2 (fszs ps b (sub.take k)).2:Nat)))/\fr 0=.iv (.sl tp zs)/\fr 5=.iv (.cptr (.raw (.map (some m)))) /\
   fr 31=.iv (.sl af ys)/\fr 32=.iv (.raw (.int .i64 sub.length))/\fr 33=.iv (.raw (.int .i64 k))/\ds=[]) ?_ ?_ ?_
  ·simp only[go_sem,zE,reduceCtorEq];exact⟨⟨es,hc,(yXc hm).symm⟩,by simp[fszs],by simp[fszs],rfl⟩
  ·rintro k fr _ _ E ⟨⟨O,D,rfl⟩,f8,f9,f0,f5,f31,f32,f33,rfl⟩;obtain⟨a,ha⟩:=yQ1 E;obtain⟨x,al,hx⟩:=hys.get ha;obtain⟨az,ay⟩:=yZ7 ha;have J:=xZm (ps:=ps) (b:=b) ha;have G:=zU8 M hM ps hp (sub.take (k+1)) b;have aq:yQb (sub.take (k+1))*M<=yQb sub*M:=Nat.mul_le_mul_right _ (by omega);have aD:a.size*M<=yQb sub*M:=Nat.mul_le_mul_right _ (by omega);have A:=IH a (lMg ha) x hx b O D (λs=>by have:=ab s;omega) (by omega) _ (ISt.put_same st m _);rw[J] at G;simp only at G;generalize fsz ps b a=z at J G A;obtain⟨o2,n2,u2,s2⟩:=a;obtain⟨t3,x3,t4,x4,rfl,_⟩:=hx.mk;simp only[go_sem,zE,zB,zA,zL,reduceCtorEq,f0,f5,f31,f32,f33,lt_i E,yQ3 ae,iNn,al,fits];refine A.mono ?_;rintro _ _ ⟨an,am,rfl,rfl⟩;have ah:IntKind.i64.wrap ((((pszs ps b us).1+(fszs ps b (sub.take k)).1:Nat):Int)+((z.1:Nat):Int))=(((pszs ps b us).1+((fszs ps b (sub.take k)).1+z.1):Nat):Int):=by rw[w64]<;>omega
   have ak:max ((max (pszs ps b us).2 (fszs ps b (sub.take k)).2:Nat):Int) ((z.2:Nat):Int)=((max (pszs ps b us).2 (max (fszs ps b (sub.take k)).2 z.2):Nat):Int):=by omega
   simp only[go_sem,zE,reduceCtorEq,f0,f5,f8,f9,f31,f32,f33,ah,ak,J,yQ9,yQc E (show sub.length<=281474976710656 by omega)];exact⟨an,am,rfl⟩
  ·rintro fr _ _ ⟨⟨O,D,rfl⟩,f8,f9,f0,f5,f31,f32,f33,rfl⟩;rw[lTl] at f8 f9;have aj:IntKind.i64.wrap ((((pszs ps b us).1+(fszs ps b sub).1:Nat):Int)+1)=(((pszs ps b us).1+(fszs ps b sub).1+1:Nat):Int):=by rw[w64]<;>omega
   have ai:IntKind.i64.wrap (((max (pszs ps b us).2 (fszs ps b sub).2:Nat):Int)+1)=((max (pszs ps b us).2 (fszs ps b sub).2+1:Nat):Int):=by rw[w64]<;>omega
   simp only[go_sem,zE,f8,f9,f32,f33,yQl (nLi _),aj,ai];exact yQ0 ⟨O,D,rfl,rfl⟩
 ·have av:IntKind.i64.wrap (((b n:Nat):Int)+1)=((b n+1:Nat):Int):=by rw[w64]<;>omega
  have aB:=hc.inc n;simp only[fsz,hq,if_true] at U ⊢;simp only[go_sem,zE,reduceCtorEq,fits,hys.len,hm,hc.look n,av];intro ao;refine LoopC.ctr sub.length (λk fr st' ds=>(∃aa,CntOk aa (incB b n)/\st'=st.put m (some (.map .str aa)))/\fr 8=.iv (.raw (.int .i64 ((pszs ps b us).1+(fszs ps (incB b n) (sub.take k)).1:Nat)))/\fr 9=.iv (.raw (.int .i64 (max (pszs ps b us).2 (fszs ps (incB b n) (sub.take k)).2:Nat)))/\fr 0=.iv (.sl tp zs)/\fr 5=.iv (.cptr (.raw (.map (some m)))) /\
   fr 31=.iv (.sl af ys)/\fr 32=.iv (.raw (.int .i64 sub.length))/\fr 33=.iv (.raw (.int .i64 k))/\ds=[.call (.func 240) [.cptr (.raw (.map (some m))),.cptr (.agg [.raw (.int .u8 op),.raw (.string n),.sl tg xs,.sl af ys])] []]) ?_ ?_ ?_
  ·simp only[go_sem,zE,reduceCtorEq];exact⟨⟨_,aB,rfl⟩,by simp[fszs],by simp[fszs],rfl⟩
  ·rintro k fr _ _ E ⟨⟨O,D,rfl⟩,f8,f9,f0,f5,f31,f32,f33,rfl⟩;obtain⟨a,ha⟩:=yQ1 E;obtain⟨x,al,hx⟩:=hys.get ha;obtain⟨az,ay⟩:=yZ7 ha;have J:=xZm (ps:=ps) (b:=incB b n) ha;have G:=zU8 M hM ps hp (sub.take (k+1)) (incB b n);have aq:yQb (sub.take (k+1))*M<=yQb sub*M:=Nat.mul_le_mul_right _ (by omega);have aD:a.size*M<=yQb sub*M:=Nat.mul_le_mul_right _ (by omega);have A:=IH a (lMg ha) x hx (incB b n) O D (λs=>by have:=ab s;simp only[incB];split<;>omega) (by omega) _ (ISt.put_same st m _);rw[J] at G;simp only at G;generalize fsz ps (incB b n) a=z at J G A;obtain⟨o2,n2,u2,s2⟩:=a;obtain⟨t3,x3,t4,x4,rfl,_⟩:=hx.mk;simp only[go_sem,zE,zB,zA,zL,reduceCtorEq,f0,f5,f31,f32,f33,lt_i E,yQ3 ae,iNn,al,fits];refine A.mono ?_;rintro _ _ ⟨an,am,rfl,rfl⟩;have ah:IntKind.i64.wrap ((((pszs ps b us).1+(fszs ps (incB b n) (sub.take k)).1:Nat):Int)+((z.1:Nat):Int))=(((pszs ps b us).1+((fszs ps (incB b n) (sub.take k)).1+z.1):Nat):Int):=by rw[w64]<;>omega
   have ak:max ((max (pszs ps b us).2 (fszs ps (incB b n) (sub.take k)).2:Nat):Int) ((z.2:Nat):Int)=((max (pszs ps b us).2 (max (fszs ps (incB b n) (sub.take k)).2 z.2):Nat):Int):=by omega
   simp only[go_sem,zE,reduceCtorEq,f0,f5,f8,f9,f31,f32,f33,ah,ak,J,yQ9,yQc E (show sub.length<=281474976710656 by omega)];exact⟨an,am,rfl⟩
  ·rintro fr _ _ ⟨⟨O,D,rfl⟩,f8,f9,f0,f5,f31,f32,f33,rfl⟩;rw[lTl] at f8 f9;have aj:IntKind.i64.wrap ((((pszs ps b us).1+(fszs ps (incB b n) sub).1:Nat):Int)+1)=(((pszs ps b us).1+(fszs ps (incB b n) sub).1+1:Nat):Int):=by rw[w64]<;>omega
   have ai:IntKind.i64.wrap (((max (pszs ps b us).2 (fszs ps (incB b n) sub).2:Nat):Int)+1)=((max (pszs ps b us).2 (fszs ps (incB b n) sub).2+1:Nat):Int):=by rw[w64]<;>omega
   simp only[go_sem,zE,f8,f9,f32,f33,yQl (nLi _),aj,ai];refine (vQx gl op n _ _ _ _ m O b D (by omega) _ (ISt.put_same _ _ _)).mono ?_;rintro _ _ rfl;simp only[go_sem,yQ9];exact yQ0 ⟨_,D.dec,rfl,rfl⟩
include htp hzs hM hp in
theorem xVt:∀(k:Nat)(t:Fm),SizeOf.sizeOf t<k->FmS gl ps tp zs m M t
 | 0,f,h=>by omega
 | k+1,.mk o n us sub,h=>wZp gl ps tp zs htp hzs m M hM hp o n us sub (λa A=>xVt k a (by
   have:=lSm A;simp at h;omega))
include htp hzs hM hp in
theorem vV9 (t:Fm):FmS gl ps tp zs m M t:=xVt gl ps tp zs htp hzs m M hM hp _ t (Nat.lt_succ_self _)
end
