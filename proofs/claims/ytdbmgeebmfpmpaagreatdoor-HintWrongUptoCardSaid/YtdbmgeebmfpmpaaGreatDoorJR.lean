/- Walks: termsSize. -/
import Derived.Test.YtdbmgeebmfpmpaaGreatDoorJQ
set_option linter.all false
open Nat renaming reduceEqDiff → zE,reduceBEq → zB,reduceAdd → zA,reduceLeDiff → zL
namespace Go.Proofs.Tryz
open Go Go.Iv
set_option maxRecDepth 4000
variable (gl:Nat->Option IV)
def zZ5 (ps:List Pc)(nm:ByteArray)(z:Nat×Nat):Nat×Nat:=ps.foldl (λz p=>if p.nm=nm then (p.tm.size,p.tm.deep) else z) z
mutual
def psz (ps:List Pc)(b:ByteArray->Nat):Tm->Nat×Nat
 | .mk v n l=>if v=true/\b n=0 then zZ5 ps n ((pszs ps b l).1+1,(pszs ps b l).2+1) else ((pszs ps b l).1+1,(pszs ps b l).2+1)
def pszs (ps:List Pc)(b:ByteArray->Nat):List Tm->Nat×Nat
 | []=>(0,0)
 | a::l=>((psz ps b a).1+(pszs ps b l).1,max (psz ps b a).2 (pszs ps b l).2)
end
theorem zJm (ps:List Pc)(b:ByteArray->Nat):∀l m:List Tm,pszs ps b (l++m)=((pszs ps b l).1+(pszs ps b m).1,max (pszs ps b l).2 (pszs ps b m).2)
 | [],m=>by simp[pszs]
 | a::l,m=>by simp only[List.cons_append,pszs,zJm ps b l m];simp only[Prod.mk.injEq];omega
theorem wZ3 {ps:List Pc}{b:ByteArray->Nat}{l:List Tm}{k:Nat}{a:Tm}(h:l[k]?=some a) :
  pszs ps b (l.take (k+1))=((pszs ps b (l.take k)).1+(psz ps b a).1,max (pszs ps b (l.take k)).2 (psz ps b a).2):=by
 rw[yQ8 h,zJm];simp[pszs]
theorem xW1 (N:Nat):∀(ps:List Pc) (_:∀p∈ps,p.tm.size<=N) (nm:ByteArray) (z:Nat×Nat),z.1<=N->z.2<=N->(zZ5 ps nm z).1<=N/\(zZ5 ps nm z).2<=N
 | [],_,nm,z,h1,h2=>⟨h1,h2⟩
 | p::ps,h,nm,z,h1,h2=>by
  have hp:=h p (List.mem_cons_self ..);have hd:=p.tm.deep_le;refine xW1 N ps (λq hq=>h q (List.mem_cons_of_mem _ hq)) nm _ ?_ ?_
  ·show (if p.nm=nm then (p.tm.size,p.tm.deep) else z).1<=N;split<;>omega
  ·show (if p.nm=nm then (p.tm.size,p.tm.deep) else z).2<=N;split
   ·show p.tm.deep<=N;omega
   ·exact h2
mutual
theorem vJs (M:Nat)(hM:1<=M)(ps:List Pc)(hp:∀p∈ps,p.tm.size<=M)(b:ByteArray->Nat):∀t:Tm,(psz ps b t).1<=t.size*M/\(psz ps b t).2<=t.size*M
 | .mk v n l=>by
  have hl:=zQv M hM ps hp b l;have h1:(pszs ps b l).1+1<=(Tm.mk v n l).size*M:=by simp only[Tm.size,Nat.add_mul,Nat.one_mul];omega
  have h2:(pszs ps b l).2+1<=(Tm.mk v n l).size*M:=by simp only[Tm.size,Nat.add_mul,Nat.one_mul];omega
  have h3:M<=(Tm.mk v n l).size*M:=by simp only[Tm.size,Nat.add_mul,Nat.one_mul];omega
  simp only[psz];split
  ·exact xW1 _ ps (λp h=>Nat.le_trans (hp p h) h3) n _ h1 h2
  ·exact⟨h1,h2⟩
theorem zQv (M:Nat)(hM:1<=M)(ps:List Pc)(hp:∀p∈ps,p.tm.size<=M)(b:ByteArray->Nat):∀l:List Tm,(pszs ps b l).1<=yQf l*M/\(pszs ps b l).2<=yQf l*M
 | []=>⟨Nat.zero_le _,Nat.zero_le _⟩
 | a::l=>by
  have h1:=vJs M hM ps hp b a;have h2:=zQv M hM ps hp b l;simp only[pszs,yQf,Nat.add_mul];omega
end
theorem xGn {ps:List Pc}{k:Nat}{p:Pc}(h:ps[k]?=some p)(nm:ByteArray)(z:Nat×Nat):zZ5 (ps.take (k+1)) nm z=if p.nm=nm then (p.tm.size,p.tm.deep) else zZ5 (ps.take k) nm z:=by
 rw[yQ8 h];simp only[zZ5,List.foldl_append,List.foldl_cons,List.foldl_nil]
section
variable (ps:List Pc)(tp:Tag)(ys:List IV)(htp:okEs tp 7)(hys:IsPcs ps ys)(m:Nat)(es:List (Value×IV))(b:ByteArray->Nat)(hc:CntOk es b)(M:Nat)(hM:1<=M)(hp:∀p∈ps,p.tm.size<=M)
def TS (us:List Tm):Prop:=∀(tg:Tag) (xs:List IV) (_:okEs tg 3) (_:IsTms us xs) (_:yQf us*M<=1152921504606846976) (st:ISt) (_:st m=some (.map .str es)),
 ICall prog gl 224 [.sl tp ys,.sl tg xs,.raw (.map (some m))] st (λr st'=>r=.tup [.raw (.int .i64 (pszs ps b us).1),.raw (.int .i64 (pszs ps b us).2)]/\st'=st)
include htp hys hc hM hp in
theorem zVb (us:List Tm)(IH:∀v n l,Tm.mk v n l∈us->TS gl ps tp ys m es b M l):TS gl ps tp ys m es b M us:=by
 intro tg xs htg hxs hsz st hm;refine iI func224 ?_;simp only[go_sem,zE,hxs.len];intro hlen;refine LoopC.ctr us.length (λk fr st' ds=>fr 8=.iv (.raw (.int .i64 (pszs ps b (us.take k)).1))/\fr 9=.iv (.raw (.int .i64 (pszs ps b (us.take k)).2))/\fr 0=.iv (.sl tp ys)/\fr 2=.iv (.raw (.map (some m))) /\
  fr 16=.iv (.sl tg xs)/\fr 17=.iv (.raw (.int .i64 us.length))/\fr 18=.iv (.raw (.int .i64 k))/\st'=st/\ds=[]) ?_ ?_ ?_
 ·simp only[go_sem,zE,reduceCtorEq];exact⟨rfl,rfl,rfl⟩
 ·rintro k fr st _ hlt ⟨f8,f9,f0,f2,f16,f17,f18,rfl,rfl⟩;obtain⟨a,ha⟩:=yQ1 hlt;obtain⟨x,hkx,hx⟩:=hxs.get ha;obtain⟨hs1,hs2⟩:=yXd ha;have hpt:=wZ3 (ps:=ps) (b:=b) ha;have hle:=zQv M hM ps hp b (us.take (k+1));have hbd:yQf (us.take (k+1))*M<=yQf us*M:=Nat.mul_le_mul_right _ (by omega);obtain⟨v2,n2,l2⟩:=a;obtain⟨tx,cx,rfl,htx,hcx⟩:=hx.mk;have hbl:yQf l2*M<=yQf us*M:=Nat.mul_le_mul_right _ (by simp only[Tm.size] at hs2;omega);have hll:=zQv M hM ps hp b l2;simp only[go_sem,zE,zA,zL,reduceCtorEq,f0,f2,f16,f17,f18,lt_i hlt,yQ4 htg,iNn,hkx];refine (IH _ _ _ (lMg ha) tx cx htx hcx (by omega) _ hm).mono ?_;rintro _ st ⟨rfl,rfl⟩;have hw1:IntKind.i64.wrap ((((pszs ps b l2).1:Nat):Int)+1)=(((pszs ps b l2).1+1:Nat):Int):=by rw[w64]<;>omega
  have hw2:IntKind.i64.wrap ((((pszs ps b l2).2:Nat):Int)+1)=(((pszs ps b l2).2+1:Nat):Int):=by rw[w64]<;>omega
  simp only[psz] at hpt;cases v2
  ·simp only[bFt,false_and,if_false] at hpt;rw[hpt] at hle;simp only at hle;have hw3:IntKind.i64.wrap ((((pszs ps b (us.take k)).1:Nat):Int)+(((pszs ps b l2).1+1:Nat):Int))=(((pszs ps b (us.take k)).1+((pszs ps b l2).1+1):Nat):Int):=by rw[w64]<;>omega
   have hmx:max (((pszs ps b (us.take k)).2:Nat):Int) (((pszs ps b l2).2+1:Nat):Int)=((max (pszs ps b (us.take k)).2 ((pszs ps b l2).2+1):Nat):Int):=by omega
   simp only[go_sem,zE,zA,reduceCtorEq,f0,f2,f8,f9,f16,f17,f18,hw1,hw2,hw3,hmx,hpt,yQd hlt (show us.length<=281474976710656 by omega)]
  ·by_cases hbn:b n2=0
   ·simp only[hbn,and_self,if_true] at hpt;have hbn':decide (((b n2:Nat):Int)=0)=true:=dEt (by omega);rw[hpt] at hle;simp only at hle;simp only[go_sem,zE,reduceCtorEq,f0,f2,hw1,hw2,hm,hc.look n2,hbn',hys.len];intro hlen2;refine LoopC.ctr ps.length (λj fr st' ds=>fr 12=.iv (.raw (.int .i64 (zZ5 (ps.take j) n2 ((pszs ps b l2).1+1,(pszs ps b l2).2+1)).1))/\fr 13=.iv (.raw (.int .i64 (zZ5 (ps.take j) n2 ((pszs ps b l2).1+1,(pszs ps b l2).2+1)).2)) /\
     fr 11=.box [.raw (.bool true),.raw (.string n2),.sl tx cx]/\fr 43=.iv (.sl tp ys)/\fr 44=.iv (.raw (.int .i64 ps.length))/\fr 45=.iv (.raw (.int .i64 j)) /\
     fr 8=.iv (.raw (.int .i64 (pszs ps b (us.take k)).1))/\fr 9=.iv (.raw (.int .i64 (pszs ps b (us.take k)).2))/\fr 0=.iv (.sl tp ys)/\fr 2=.iv (.raw (.map (some m))) /\
     fr 16=.iv (.sl tg xs)/\fr 17=.iv (.raw (.int .i64 us.length))/\fr 18=.iv (.raw (.int .i64 k))/\st'=st/\ds=[]) ?_ ?_ ?_
    ·simp only[go_sem,zE,reduceCtorEq,f0,f2,f8,f9,f16,f17,f18];exact⟨rfl,rfl,rfl⟩
    ·rintro j fr st _ hlt2 ⟨g12,g13,g11,g43,g44,g45,g8,g9,g0,g2,g16,g17,g18,rfl,rfl⟩;obtain⟨p,hpk⟩:=yQ1 hlt2;obtain⟨y,hky,v3,n3,t3,x3,rfl,hy⟩:=hys.get hpk;have hlt3:=xGn hpk n2 ((pszs ps b l2).1+1,(pszs ps b l2).2+1);unfold yVy at hky;cases hq:decide (p.nm=n2)
     ·rw[if_neg (of_decide_eq_false hq)] at hlt3;simp only[go_sem,zE,zB,zA,zL,reduceCtorEq,g12,g13,g11,g43,g44,g45,g8,g9,g0,g2,g16,g17,g18,lt_i hlt2,yQ4 htp,iNn,hky,fits,hq,hlt3,yQd hlt2 (show ps.length<=281474976710656 by omega)]
     ·rw[if_pos (of_decide_eq_true hq)] at hlt3;simp only[go_sem,zE,zB,zA,zL,reduceCtorEq,g11,g43,g44,g45,g8,g9,g0,g2,g16,g17,g18,lt_i hlt2,yQ4 htp,iNn,hky,fits,hq,hlt3,yQd hlt2 (show ps.length<=281474976710656 by omega)]
    ·rintro fr st _ ⟨g12,g13,g11,g43,g44,g45,g8,g9,g0,g2,g16,g17,g18,rfl,rfl⟩;rw[lTl] at g12 g13;generalize zZ5 ps n2 ((pszs ps b l2).1+1,(pszs ps b l2).2+1)=z at hle hpt g12 g13;have hw3:IntKind.i64.wrap ((((pszs ps b (us.take k)).1:Nat):Int)+((z.1:Nat):Int))=(((pszs ps b (us.take k)).1+z.1:Nat):Int):=by rw[w64]<;>omega
     have hmx:max (((pszs ps b (us.take k)).2:Nat):Int) ((z.2:Nat):Int)=((max (pszs ps b (us.take k)).2 z.2:Nat):Int):=by omega
     simp only[go_sem,zE,reduceCtorEq,g12,g13,g44,g45,g8,g9,g0,g2,g16,g17,g18,yQl (nLi _),hw3,hmx,hpt,yQd hlt (show us.length<=281474976710656 by omega)]
   ·simp only[hbn,and_false,if_false] at hpt;rw[hpt] at hle;simp only at hle;have hw3:IntKind.i64.wrap ((((pszs ps b (us.take k)).1:Nat):Int)+(((pszs ps b l2).1+1:Nat):Int))=(((pszs ps b (us.take k)).1+((pszs ps b l2).1+1):Nat):Int):=by rw[w64]<;>omega
    have hmx:max (((pszs ps b (us.take k)).2:Nat):Int) (((pszs ps b l2).2+1:Nat):Int)=((max (pszs ps b (us.take k)).2 ((pszs ps b l2).2+1):Nat):Int):=by omega
    have hbn':decide (((b n2:Nat):Int)=0)=false:=dEf (by omega);simp only[go_sem,zE,reduceCtorEq,f0,f2,f8,f9,f16,f17,f18,hw1,hw2,hw3,hmx,hpt,hm,hc.look n2,hbn',yQd hlt (show us.length<=281474976710656 by omega)]
 ·rintro fr st _ ⟨f8,f9,f0,f2,f16,f17,f18,rfl,rfl⟩;rw[lTl] at f8 f9;simp only[go_sem,zE,f8,f9,f17,f18,yQl (nLi _)];exact yQ0 ⟨rfl,rfl⟩
include htp hys hc hM hp in
theorem yUp:∀(k:Nat)(us:List Tm),SizeOf.sizeOf us<k->TS gl ps tp ys m es b M us
 | 0,f,h=>by omega
 | k+1,us,h=>zVb gl ps tp ys htp hys m es b hc M hM hp us (λv n l ha=>yUp k l (by
   have:=lSm ha;simp at this;omega))
include htp hys hc hM hp in
theorem xZv (us:List Tm):TS gl ps tp ys m es b M us:=yUp gl ps tp ys htp hys m es b hc M hM hp _ us (Nat.lt_succ_self _)
end
theorem wUc (op:Nat)(n:ByteArray)(t t':Tag)(xs ys:List IV)(m:Nat)(es:List (Value×IV))(b:ByteArray->Nat)(hc:CntOk es (incB b n))(hbd:b n<=4611686018427387904)(st:ISt)(hm:st m=some (.map .str es)) :
  ICallD prog gl 225 [.cptr (.raw (.map (some m))),.cptr (.agg [.raw (.int .u8 op),.raw (.string n),.sl t xs,.sl t' ys])] st
   (λ_ st'=>st'=st.put m (some (.map .str (updI (.string n) (.raw (.int .i64 (b n))) es)))):=by
 refine ICallD.intro (c:=cf prog gl [] []) func225 rfl (by show _<=7;simp) (by kernel_rfl) ?_;have hw:IntKind.i64.wrap (((incB b n n:Nat):Int)-1)=(b n:Int):=by rw[w64]<;>simp[incB]<;>omega
 simp only[go_sem,zE,fits,hm,hc.look n,hw];exact yQ0 rfl
mutual
def fsz (ps:List Pc)(b:ByteArray->Nat):Fm->Nat×Nat
 | .mk op n us sub=>((pszs ps b us).1+(fszs ps (if isQ op then incB b n else b) sub).1+1,max (pszs ps b us).2 (fszs ps (if isQ op then incB b n else b) sub).2+1)
def fszs (ps:List Pc)(b:ByteArray->Nat):List Fm->Nat×Nat
 | []=>(0,0)
 | a::l=>((fsz ps b a).1+(fszs ps b l).1,max (fsz ps b a).2 (fszs ps b l).2)
end
theorem zKb (ps:List Pc)(b:ByteArray->Nat):∀l m:List Fm,fszs ps b (l++m)=((fszs ps b l).1+(fszs ps b m).1,max (fszs ps b l).2 (fszs ps b m).2)
 | [],m=>by simp[fszs]
 | a::l,m=>by simp only[List.cons_append,fszs,zKb ps b l m];simp only[Prod.mk.injEq];omega
theorem xQv {ps:List Pc}{b:ByteArray->Nat}{l:List Fm}{k:Nat}{a:Fm}(h:l[k]?=some a) :
  fszs ps b (l.take (k+1))=((fszs ps b (l.take k)).1+(fsz ps b a).1,max (fszs ps b (l.take k)).2 (fsz ps b a).2):=by
 rw[yQ8 h,zKb];simp[fszs]
mutual
theorem wG6 (M:Nat)(hM:1<=M)(ps:List Pc)(hp:∀p∈ps,p.tm.size<=M):∀(t:Fm) (b:ByteArray->Nat),(fsz ps b t).1<=t.size*M/\(fsz ps b t).2<=t.size*M
 | .mk op n us sub,b=>by
  have h1:=zQv M hM ps hp b us;have h2:=zGl M hM ps hp sub (if isQ op then incB b n else b);simp only[fsz,Fm.size,Nat.add_mul,Nat.one_mul];omega
theorem zGl (M:Nat)(hM:1<=M)(ps:List Pc)(hp:∀p∈ps,p.tm.size<=M):∀(l:List Fm) (b:ByteArray->Nat),(fszs ps b l).1<=yQb l*M/\(fszs ps b l).2<=yQb l*M
 | [],b=>⟨Nat.zero_le _,Nat.zero_le _⟩
 | a::l,b=>by
  have h1:=wG6 M hM ps hp a b;have h2:=zGl M hM ps hp l b;simp only[fszs,yQb,Nat.add_mul];omega
end
section
variable (ps:List Pc)(tp:Tag)(zs:List IV)(htp:okEs tp 7)(hzs:IsPcs ps zs)(m:Nat)(M:Nat)(hM:1<=M)(hp:∀p∈ps,p.tm.size<=M)
def FmS (f:Fm):Prop:=∀(x:IV) (_:IsFm f x) (b:ByteArray->Nat) (es:List (Value×IV)) (_:CntOk es b) (_:∀s,b s+f.size<=4611686018427387904) (_:f.size*M<=1152921504606846976) (st:ISt) (_:st m=some (.map .str es)),
 ICall prog gl 185 [.sl tp zs,x,.raw (.map (some m))] st (λr st'=>∃es',CntOk es' b/\r=.tup [.raw (.int .i64 (fsz ps b f).1),.raw (.int .i64 (fsz ps b f).2)]/\st'=st.put m (some (.map .str es')))
include htp hzs hM hp in
theorem wQm (op:Nat)(n:ByteArray)(us:List Tm)(sub:List Fm)(IH:∀a∈sub,FmS gl ps tp zs m M a):FmS gl ps tp zs m M (.mk op n us sub):=by
 intro x hx b es hc hbd hsz st hm;obtain⟨tg,xs,tg',ys,rfl,hop,htg,hxs,htg',hys⟩:=hx.mk;have hbn:=hbd n;have hle0:=wG6 M hM ps hp (.mk op n us sub) b;simp only[Fm.size,Nat.add_mul,Nat.one_mul] at hsz hbd hbn hle0;have hts:=zQv M hM ps hp b us;refine ICall.intro (c:=cf prog gl [] [] [4,5]) func185 rfl (by show _<=55;simp) (by kernel_rfl) ?_;simp only[go_sem,zE,zA,reduceCtorEq,fits];refine (xZv gl ps tp zs htp hzs m es b hc M hM hp us tg xs htg hxs (by omega) _ hm).mono ?_;rintro _ st ⟨rfl,rfl⟩;simp only[go_sem,zE,zA,fits];refine (yJ2 gl op n _ _ _ _ _).mono ?_;rintro _ st ⟨rfl,rfl⟩;cases hq:isQ op
 ·simp only[fsz,hq,bFt,if_false] at hle0 ⊢;simp only[go_sem,zE,fits,hys.len];intro hlen;refine LoopC.ctr sub.length (λk fr st' ds=>(∃es',CntOk es' b/\st'=st.put m (some (.map .str es')))/\fr 8=.iv (.raw (.int .i64 ((pszs ps b us).1+(fszs ps b (sub.take k)).1:Nat)))/\fr 9=.iv (.raw (.int .i64 (max (pszs ps b us).2 (fszs ps b (sub.take k)).2:Nat)))/\fr 0=.iv (.sl tp zs)/\fr 5=.iv (.cptr (.raw (.map (some m)))) /\
   fr 31=.iv (.sl tg' ys)/\fr 32=.iv (.raw (.int .i64 sub.length))/\fr 33=.iv (.raw (.int .i64 k))/\ds=[]) ?_ ?_ ?_
  ·simp only[go_sem,zE,reduceCtorEq];exact⟨⟨es,hc,(yX7 hm).symm⟩,by simp[fszs],by simp[fszs],rfl⟩
  ·rintro k fr _ _ hlt ⟨⟨es1,hc1,rfl⟩,f8,f9,f0,f5,f31,f32,f33,rfl⟩;obtain⟨a,ha⟩:=yQ1 hlt;obtain⟨x,hkx,hx⟩:=hys.get ha;obtain⟨hs1,hs2⟩:=yZ6 ha;have hft:=xQv (ps:=ps) (b:=b) ha;have hle:=zGl M hM ps hp (sub.take (k+1)) b;have hbd2:yQb (sub.take (k+1))*M<=yQb sub*M:=Nat.mul_le_mul_right _ (by omega);have hba:a.size*M<=yQb sub*M:=Nat.mul_le_mul_right _ (by omega);have hcall:=IH a (lMg ha) x hx b es1 hc1 (λs=>by have:=hbd s;omega) (by omega) _ (ISt.put_same st m _);rw[hft] at hle;simp only at hle;generalize fsz ps b a=z at hft hle hcall;obtain⟨o2,n2,u2,s2⟩:=a;obtain⟨t3,x3,t4,x4,rfl,_⟩:=hx.mk;simp only[go_sem,zE,zB,zA,zL,reduceCtorEq,f0,f5,f31,f32,f33,lt_i hlt,yQ4 htg',iNn,hkx,fits];refine hcall.mono ?_;rintro _ _ ⟨es2,hc2,rfl,rfl⟩;have hw3:IntKind.i64.wrap ((((pszs ps b us).1+(fszs ps b (sub.take k)).1:Nat):Int)+((z.1:Nat):Int))=(((pszs ps b us).1+((fszs ps b (sub.take k)).1+z.1):Nat):Int):=by rw[w64]<;>omega
   have hmx:max ((max (pszs ps b us).2 (fszs ps b (sub.take k)).2:Nat):Int) ((z.2:Nat):Int)=((max (pszs ps b us).2 (max (fszs ps b (sub.take k)).2 z.2):Nat):Int):=by omega
   simp only[go_sem,zE,reduceCtorEq,f0,f5,f8,f9,f31,f32,f33,hw3,hmx,hft,yQ6,yQd hlt (show sub.length<=281474976710656 by omega)];exact⟨es2,hc2,rfl⟩
  ·rintro fr _ _ ⟨⟨es1,hc1,rfl⟩,f8,f9,f0,f5,f31,f32,f33,rfl⟩;rw[lTl] at f8 f9;have hw1:IntKind.i64.wrap ((((pszs ps b us).1+(fszs ps b sub).1:Nat):Int)+1)=(((pszs ps b us).1+(fszs ps b sub).1+1:Nat):Int):=by rw[w64]<;>omega
   have hw2:IntKind.i64.wrap (((max (pszs ps b us).2 (fszs ps b sub).2:Nat):Int)+1)=((max (pszs ps b us).2 (fszs ps b sub).2+1:Nat):Int):=by rw[w64]<;>omega
   simp only[go_sem,zE,f8,f9,f32,f33,yQl (nLi _),hw1,hw2];exact yQ0 ⟨es1,hc1,rfl,rfl⟩
 ·have hw0:IntKind.i64.wrap (((b n:Nat):Int)+1)=((b n+1:Nat):Int):=by rw[w64]<;>omega
  have hc':=hc.inc n;simp only[fsz,hq,if_true] at hle0 ⊢;simp only[go_sem,zE,reduceCtorEq,fits,hys.len,hm,hc.look n,hw0];intro hlen;refine LoopC.ctr sub.length (λk fr st' ds=>(∃es',CntOk es' (incB b n)/\st'=st.put m (some (.map .str es')))/\fr 8=.iv (.raw (.int .i64 ((pszs ps b us).1+(fszs ps (incB b n) (sub.take k)).1:Nat)))/\fr 9=.iv (.raw (.int .i64 (max (pszs ps b us).2 (fszs ps (incB b n) (sub.take k)).2:Nat)))/\fr 0=.iv (.sl tp zs)/\fr 5=.iv (.cptr (.raw (.map (some m)))) /\
   fr 31=.iv (.sl tg' ys)/\fr 32=.iv (.raw (.int .i64 sub.length))/\fr 33=.iv (.raw (.int .i64 k))/\ds=[.call (.func 225) [.cptr (.raw (.map (some m))),.cptr (.agg [.raw (.int .u8 op),.raw (.string n),.sl tg xs,.sl tg' ys])] []]) ?_ ?_ ?_
  ·simp only[go_sem,zE,reduceCtorEq];exact⟨⟨_,hc',rfl⟩,by simp[fszs],by simp[fszs],rfl⟩
  ·rintro k fr _ _ hlt ⟨⟨es1,hc1,rfl⟩,f8,f9,f0,f5,f31,f32,f33,rfl⟩;obtain⟨a,ha⟩:=yQ1 hlt;obtain⟨x,hkx,hx⟩:=hys.get ha;obtain⟨hs1,hs2⟩:=yZ6 ha;have hft:=xQv (ps:=ps) (b:=incB b n) ha;have hle:=zGl M hM ps hp (sub.take (k+1)) (incB b n);have hbd2:yQb (sub.take (k+1))*M<=yQb sub*M:=Nat.mul_le_mul_right _ (by omega);have hba:a.size*M<=yQb sub*M:=Nat.mul_le_mul_right _ (by omega);have hcall:=IH a (lMg ha) x hx (incB b n) es1 hc1 (λs=>by have:=hbd s;simp only[incB];split<;>omega) (by omega) _ (ISt.put_same st m _);rw[hft] at hle;simp only at hle;generalize fsz ps (incB b n) a=z at hft hle hcall;obtain⟨o2,n2,u2,s2⟩:=a;obtain⟨t3,x3,t4,x4,rfl,_⟩:=hx.mk;simp only[go_sem,zE,zB,zA,zL,reduceCtorEq,f0,f5,f31,f32,f33,lt_i hlt,yQ4 htg',iNn,hkx,fits];refine hcall.mono ?_;rintro _ _ ⟨es2,hc2,rfl,rfl⟩;have hw3:IntKind.i64.wrap ((((pszs ps b us).1+(fszs ps (incB b n) (sub.take k)).1:Nat):Int)+((z.1:Nat):Int))=(((pszs ps b us).1+((fszs ps (incB b n) (sub.take k)).1+z.1):Nat):Int):=by rw[w64]<;>omega
   have hmx:max ((max (pszs ps b us).2 (fszs ps (incB b n) (sub.take k)).2:Nat):Int) ((z.2:Nat):Int)=((max (pszs ps b us).2 (max (fszs ps (incB b n) (sub.take k)).2 z.2):Nat):Int):=by omega
   simp only[go_sem,zE,reduceCtorEq,f0,f5,f8,f9,f31,f32,f33,hw3,hmx,hft,yQ6,yQd hlt (show sub.length<=281474976710656 by omega)];exact⟨es2,hc2,rfl⟩
  ·rintro fr _ _ ⟨⟨es1,hc1,rfl⟩,f8,f9,f0,f5,f31,f32,f33,rfl⟩;rw[lTl] at f8 f9;have hw1:IntKind.i64.wrap ((((pszs ps b us).1+(fszs ps (incB b n) sub).1:Nat):Int)+1)=(((pszs ps b us).1+(fszs ps (incB b n) sub).1+1:Nat):Int):=by rw[w64]<;>omega
   have hw2:IntKind.i64.wrap (((max (pszs ps b us).2 (fszs ps (incB b n) sub).2:Nat):Int)+1)=((max (pszs ps b us).2 (fszs ps (incB b n) sub).2+1:Nat):Int):=by rw[w64]<;>omega
   simp only[go_sem,zE,f8,f9,f32,f33,yQl (nLi _),hw1,hw2];refine (wUc gl op n _ _ _ _ m es1 b hc1 (by omega) _ (ISt.put_same _ _ _)).mono ?_;rintro _ _ rfl;simp only[go_sem,yQ6];exact yQ0 ⟨_,hc1.dec,rfl,rfl⟩
include htp hzs hM hp in
theorem xKz:∀(k:Nat)(t:Fm),SizeOf.sizeOf t<k->FmS gl ps tp zs m M t
 | 0,f,h=>by omega
 | k+1,.mk o n us sub,h=>wQm gl ps tp zs htp hzs m M hM hp o n us sub (λa ha=>xKz k a (by
   have:=lSm ha;simp at h;omega))
include htp hzs hM hp in
theorem vJj (t:Fm):FmS gl ps tp zs m M t:=xKz gl ps tp zs htp hzs m M hM hp _ t (Nat.lt_succ_self _)
end
