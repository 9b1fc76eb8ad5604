/-  -/
import Derived.Test.YtebjhmlmdjnkgaaGreatDoorQH
set_option linter.all false
open Nat renaming reduceEqDiff → zE,reduceBEq → zB,reduceAdd → zA,reduceMul → zM,reduceSub → zS,reduceLeDiff → zL
namespace Go.Proofs.Tryz
open Go Go.Iv
set_option maxRecDepth 4000
variable (gl:Nat->Option IV)
theorem zKy {ca:Nat}{s:Sq}{rule:Nat}{main:Fm}{term:Tm}{name:ByteArray}(h:(yXt ca s rule main term name).2=0) :
  ∃r,yXs ca s=true/\rowS ca rule=some r/\(yJ6 ca rule r main term name).2=0/\yXt ca s rule main term name=((yJ6 ca rule r main term name).1,0):=by
 have hv:=zXo h;unfold yXt at h ⊢;rw[hv] at h ⊢;cases hr:rowS ca rule with
 | none=>rw[hr] at h;cases h
 | some r =>
  rw[hr] at h;simp only[Bool.not_true,bFt,if_false] at h ⊢;split at h
  ·cases h
  ·rename_i h1;split at h
   ·rename_i h2;exact absurd h h2
   ·rename_i h2;refine⟨r,?_,?_,Decidable.not_not.1 h2,?_⟩
    ·first|trivial|rfl
    ·first|trivial|rfl
    ·rw[if_neg h1,if_neg h2]
set_option maxHeartbeats 1000000 in
theorem wXh {ca:Nat}(hc:ca=1\/ca=2)(rule:Nat)(s:Sq)(m:Fm)(u:Tm)(n:ByteArray)(sub:List Tr)(x:IV)(hx:IsTr (.mk rule s m u n sub) x)(hn:NA (.mk rule s m u n sub))(hlen:∀a∈sub,a.sq.l.length<=1099511627776/\a.sq.r.length<=1099511627776)(hst:(Tr.mk rule s m u n sub).steps<=1099511627776)(st:ISt) :
  ICall prog gl 185 [.raw (.int .u8 ca),x] st (λr st'=>r=.raw (.int .i64 (yZh ca (.mk rule s m u n sub)))/\st'=st):=by
 have hc3:ca≠3:=by omega
 have hB:=λst=>xYm gl hc rule s m u n sub x hx hn st;obtain⟨tl,xl,tr,xr,op,fn,ta,xa,tb,xb,v,un,tu,xu,ts,xs,rfl,hru,e1,i1,e2,i2,hy,hz,e3,i3⟩:=hx.mk;simp only[NA] at hn;simp only[Tr.steps] at hst;have hls:=yZ7 sub;have hck:yZh ca (.mk rule s m u n sub)=if (yXt ca s rule m u n).2≠0 then (yXt ca s rule m u n).2 else if sub.length≠(yXt ca s rule m u n).1.length then 194 else if yXm s (yXt ca s rule m u n).1 sub then 0 else 195:=by simp only[yZh]
 rw[hck];have hsh:∀ad,yXt ca s rule m u n=(ad,0)->∀q∈ad,q.l.length<=2/\q.r.length<=2/\(∀f∈q.l,fmB ca f=true)/\∀f∈q.r,fmB ca f=true:=λad h=>by
  have h0:(yXt ca s rule m u n).2=0:=by rw[h]
  obtain⟨r,k1,k2,k3,k7⟩:=zKy h0;rw[h] at k7;exact xVh hc k2 (Prod.ext (Prod.mk.inj k7).1.symm k3)
 have hval:=λh=>zXo (ca:=ca) (s:=s) (rule:=rule) (main:=m) (term:=u) (name:=n) h;generalize yXt ca s rule m u n=q at hB hsh hval ⊢;obtain⟨ad,e⟩:=q;simp only at hB hval ⊢;refine iI func185 ?_;simp only[go_sem,zE,zB,zA,zM,zS,zL,reduceCtorEq,fits];refine (hB _).mono ?_;rintro _ st ⟨tga,za,rfl,hta,hza,rfl⟩;by_cases he:e=0
 case neg =>
  have k0:decide (((e:Nat):Int)=0)=false:=dEf (by omega);rw[if_pos he];simp only[go_sem,zE,zB,zA,zM,zS,zL,reduceCtorEq,fits,k0];exact yQ0 ⟨rfl,rfl⟩
 subst he;rw[if_neg (by simp)];have hsh:=hsh ad rfl;obtain⟨_,hl64,hr64,hfl,hfr⟩:=yVw.1 (hval rfl);by_cases hln:sub.length=ad.length
 case neg =>
  have k1:decide (((ad.length:Nat):Int)=((sub.length:Nat):Int))=false:=dEf (by omega);rw[if_pos hln];simp only[go_sem,zE,zB,zA,zM,zS,zL,reduceCtorEq,fits,hza.len,i3.len,k1,show decide (((0:Nat):Int)=0)=true from rfl];intros;exact yQ0 ⟨rfl,rfl⟩
 rw[if_neg (by simp[hln])];have k1:decide (((ad.length:Nat):Int)=((sub.length:Nat):Int))=true:=dEt (by omega);simp only[go_sem,zE,zB,zA,zM,zS,zL,reduceCtorEq,fits,hza.len,i3.len,k1,show decide (((0:Nat):Int)=0)=true from rfl];intros;refine LoopC.ctr ad.length (λk fr st' ds=>(∀(i:Nat) (m:Sq) (t:Tr),i<k->ad[i]?=some m->sub[i]?=some t->yXj t.sq (s.plus m)=true)/\fr 3=.box [.raw (.int .u8 rule),.sl tl xl,.sl tr xr,.raw (.int .u8 op),.raw (.string fn),.sl ta xa,.sl tb xb,.raw (.bool v),.raw (.string un),.sl tu xu,.raw (.string n),.sl ts xs] /\
  fr 5=.iv (.sl tga za)/\fr 7=.iv (.raw (.int .i64 k))/\st'=st/\ds=[]) ?_ ?_ ?_
 ·simp only[go_sem,zE,zB,zA,zM,zS,zL,reduceCtorEq];exact⟨λi m t h=>by omega,rfl⟩
 ·rintro k fr st1 _ hlt ⟨hk,f3,f5,f7,rfl,rfl⟩;obtain⟨q,hq⟩:=yQ3 hlt;have hqm:=lMg hq;obtain⟨aq,hka,haq⟩:=hza.get hq;obtain⟨b,hb⟩:=yQ3 (show k<sub.length by omega);have hbm:=lMg hb;obtain⟨zb,hkb,hzb⟩:=i3.get hb;have hbfit:=wVc (zYu hn.2.2.2 hbm);have hbl:=hlen b hbm;obtain⟨br,bs,bm,bu,bn,bsub⟩:=b;obtain⟨tl5,xl5,tr5,xr5,op5,fn5,ta5,xa5,tb5,xb5,v5,un5,tu5,xu5,ts5,xs5,rfl,_,e15,i15,e25,i25,_⟩:=hzb.mk;obtain⟨ta1,xa1,ta2,xa2,rfl,ea1,ia1,ea2,ia2⟩:=haq;simp only[Tr.sq] at hbfit hbl;obtain⟨hf3,hf4,hf1,hf2⟩:=hsh q hqm;have hI1:=λst=>vXb gl hc3 bs.l s.l q.l _ _ _ _ _ _ e15 i15 e1 i1 ea1 ia1 hbfit.1 hfl hf1 ⟨by omega,by omega,by omega⟩ st;have hI2:=λst=>vXb gl hc3 bs.r s.r q.r _ _ _ _ _ _ e25 i25 e2 i2 ea2 ia2 hbfit.2 (λf hf=>(hfr f hf).1) hf2 ⟨by omega,by omega,by omega⟩ st;have hw:yXj bs (s.plus q)=(allF bs.l (s.l++q.l)&&allF bs.r (s.r++q.r)):=rfl;have hno:yXj bs (s.plus q)=false->yXm s ad sub=false:=λh=>by
   cases hp:yXm s ad sub
   ·rfl
   ·have:=zUb s ad sub hp k q _ hq hb;simp only[Tr.sq] at this;rw[h] at this;cases this
  have hyes:yXj bs (s.plus q)=true->∀(i:Nat) (m:Sq) (t:Tr),i<k+1->ad[i]?=some m->sub[i]?=some t->yXj t.sq (s.plus m)=true:=λh i m t hi h1 h2=>by
   rcases Nat.lt_or_ge i k with hlt'|hge
   ·exact hk i m t hlt' h1 h2
   ·obtain rfl:i=k:=by omega
    rw[hq] at h1;rw[hb] at h2;cases h1;cases h2;exact h
  simp only[go_sem,zE,zB,zA,zM,zS,zL,reduceCtorEq,f3,f5,f7,hza.len,i3.len,lt_i hlt,yQ2 e3,yQ2 hta,iNn,hkb,hka,fits];intros;refine (hI1 _).mono ?_;rintro _ st2 ⟨rfl,rfl⟩;cases hb1:allF bs.l (s.l++q.l)
  ·rw[hb1] at hw;rw[hno (by rw[hw];rfl)];simp only[go_sem,zE,zB,zA,zM,zS,zL,reduceCtorEq,f3,f5,f7,fits];exact yQ0 ⟨rfl,rfl⟩
  ·simp only[go_sem,zE,zB,zA,zM,zS,zL,reduceCtorEq,f3,f5,f7,hza.len,yQ2 e3,yQ2 hta,iNn,hkb,hka,fits];intros;refine (hI2 _).mono ?_;rintro _ st2 ⟨rfl,rfl⟩;cases hb2:allF bs.r (s.r++q.r)
   ·rw[hb2,Bool.and_false] at hw;rw[hno hw];simp only[go_sem,zE,zB,zA,zM,zS,zL,reduceCtorEq,f3,f5,f7,fits];exact yQ0 ⟨rfl,rfl⟩
   ·rw[hb1,hb2] at hw;simp only[go_sem,zE,zB,zA,zM,zS,zL,reduceCtorEq,f3,f5,f7,fits,yQa hlt (show ad.length<=281474976710656 by omega)];exact hyes hw
 ·rintro fr st1 _ ⟨hk,f3,f5,f7,rfl,rfl⟩;have hp:yXm s ad sub=true:=zUa λi m t h1 h2=>hk i m t (lGs h1).1 h1 h2;simp only[go_sem,zE,zB,zA,zM,zS,zL,reduceCtorEq,f3,f5,f7,hza.len,yQk (nLi _)];intros;exact yQ0 ⟨by rw[hp];rfl,rfl⟩
theorem wXw {rule:Nat}{s:Sq}{m:Fm}{u:Tm}{n:ByteArray}{sub:List Tr}(h:smT (.mk rule s m u n sub)=true):∀a∈sub,a.sq.l.length<=1099511627776/\a.sq.r.length<=1099511627776:=λa ha=>by
 have:=xGa (yG2 (zQx h).2.2.2 ha);omega
def wstC (t:Tr):Prop:=∀(x:IV) (_:IsTr t x) (_:t.steps<=1099511627776) (st:ISt),ICall prog gl 123 [x] st (λr st'=>r=.raw (.int .i64 t.steps)/\st'=st)
theorem xQt (rule:Nat)(s:Sq)(f:Fm)(u:Tm)(n:ByteArray)(sub:List Tr)(IH:∀a∈sub,wstC gl a):wstC gl (.mk rule s f u n sub):=by
 intro x hx hst st;obtain⟨tl,xl,tr,xr,op,fn,ta,xa,tb,xb,v,un,tu,xu,ts,xs,rfl,hru,e1,i1,e2,i2,hy,hz,e3,i3⟩:=hx.mk;simp only[Tr.steps] at hst ⊢;have hlsub:=yZ7 sub;refine iI func123 ?_;simp only[go_sem,zE,zB,zA,zM,zS,zL,reduceCtorEq,fits];refine LoopC.ctr sub.length (λk fr st' ds=>fr 1=.box [.raw (.int .u8 rule),.sl tl xl,.sl tr xr,.raw (.int .u8 op),.raw (.string fn),.sl ta xa,.sl tb xb,.raw (.bool v),.raw (.string un),.sl tu xu,.raw (.string n),.sl ts xs]/\fr 3=.iv (.raw (.int .i64 ((1+yQm (sub.take k):Nat):Int)))/\fr 4=.iv (.raw (.int .i64 k))/\st'=st/\ds=[]) ?_ ?_ ?_
 ·simp only[go_sem,zE,zB,zA,zM,zS,zL,reduceCtorEq];simp[yQm]
 ·rintro k fr st1 _ hlt ⟨f1,f3,f4,rfl,rfl⟩;obtain⟨a,ha⟩:=yQ3 hlt;have ham:=lMg ha;obtain⟨z,hkz,hzz⟩:=i3.get ha;have h1:=xQx ha;have h2:=xG0 sub (k+1);have hcall:=λst=>IH a ham z hzz (by have:=yZ4 ham;omega) st;have w7:IntKind.i64.wrap (((1+yQm (sub.take k):Nat):Int)+((a.steps:Nat):Int))=((1+yQm (sub.take (k+1)):Nat):Int):=by rw[w64]<;>omega
  obtain⟨rule',tl',xl',tr',xr',op',fn',ta',xa',tb',xb',v',un',tu',xu',n',ts',xs',rfl⟩:=yX4 hzz;simp only[go_sem,zE,zB,zA,zM,zS,zL,reduceCtorEq,f1,f3,f4,i3.len,lt_i hlt,yQ2 e3,iNn,hkz,fits];intro _;refine (hcall _).mono ?_;rintro _ st2 ⟨rfl,rfl⟩;simp only[go_sem,zE,zB,zA,zM,zS,zL,reduceCtorEq,f1,f3,f4,fits,w7,yQa hlt (show sub.length<=281474976710656 by omega)]
 ·rintro fr st1 _ ⟨f1,f3,f4,rfl,rfl⟩;rw[lTl] at f3;simp only[go_sem,zE,zB,zA,zM,zS,zL,reduceCtorEq,f1,f3,f4,i3.len,yQk (nLi _)];intro _;exact yQ0 ⟨rfl,rfl⟩
theorem zKs:∀(k:Nat)(t:Tr),SizeOf.sizeOf t<k->wstC gl t
 | 0,t,h=>by omega
 | k+1,.mk r sq f u n sub,h=>xQt gl r sq f u n sub (λa ha=>zKs k a (by
   have:=lSm ha;simp at h;omega))
theorem wXj (t:Tr):wstC gl t:=zKs gl _ t (Nat.lt_succ_self _)
theorem yGo (p:List Nat):∀(i:Nat) (l m:List Tr),yQs p i (l++m)=yQs p i l++yQs p (i+l.length) m
 | i,[],m=>by simp[yQs]
 | i,a::l,m=>by
  simp only[List.cons_append,yQs,yGo p (i+1) l m,List.append_assoc,List.length_cons];rw[show i+1+l.length=i+(l.length+1) by omega]
theorem xVo {p:List Nat}{l:List Tr}{k:Nat}{a:Tr}(h:l[k]?=some a):yQs p 0 (l.take (k+1))=yQs p 0 (l.take k)++a.walk (p++[k]):=by
 have hk:=(lGs h).1;rw[yQ8 h,yGo];simp only[yQs,List.append_nil,List.length_take,Nat.zero_add];rw[Nat.min_eq_left (by omega)]
theorem zW6 (p:List Nat)(l:List Tr)(k:Nat):∃m,yQs p 0 l=yQs p 0 (l.take k)++m:=by
 refine⟨yQs p (0+(l.take k).length) (l.drop k),?_⟩;rw[<- yGo,List.take_append_drop]
def fiC (ca:Nat)(t:Tr):Prop:=∀(x:IV) (_:IsTr t x) (_:smT t=true) (_:t.steps<=1000) (p:List Nat) (tg:Tag) (_:okEs tg 1) (_:p.length+t.steps<=3000) (st:ISt),
 ICall prog gl 124 [.raw (.int .u8 ca),x,.sl tg (plI p)] st (λr st'=>(∃tg',r=.tup [.sl tg' (plI (yQr (yZh ca) (t.walk p)).1),.raw (.int .i64 (yQr (yZh ca) (t.walk p)).2)]/\okEs tg' 1)/\st'=st)
set_option maxHeartbeats 1000000 in
theorem wQv {ca:Nat}(hc:ca=1\/ca=2)(rule:Nat)(s:Sq)(f:Fm)(u:Tm)(n:ByteArray)(sub:List Tr)(IH:∀a∈sub,fiC gl ca a):fiC gl ca (.mk rule s f u n sub):=by
 intro x hx hok hst p tg htg hpl st;have hWr:=λst=>wXh gl hc rule s f u n sub x hx (zGo hok) (wXw hok) (by omega) st;obtain⟨tl,xl,tr,xr,op,fn,ta,xa,tb,xb,v,un,tu,xu,ts,xs,rfl,hru,e1,i1,e2,i2,hy,hz,e3,i3⟩:=hx.mk;have hok2:=(zQx hok).2.2.2;have hwalk:(Tr.mk rule s f u n sub).walk p=(p,.mk rule s f u n sub)::yQs p 0 sub:=by simp only[Tr.walk]
 rw[hwalk];simp only[Tr.steps] at hst hpl;have hlsub:=yZ7 sub;refine ICall.intro (c:=cf prog gl [] [(7,[0,1,2,3,4,5,6,7,9,10,8,11,12,13,14,15,16,17])]) func124 rfl (by show _<=46;simp) (by kernel_rfl) ?_;simp only[go_sem,zE,zB,zA,zM,zS,zL,reduceCtorEq,fits];refine (hWr _).mono ?_;rintro _ st ⟨rfl,rfl⟩;by_cases h0:yZh ca (.mk rule s f u n sub)=0
 case neg =>
  have k0:decide (((yZh ca (.mk rule s f u n sub):Nat):Int)=0)=false:=dEf (by omega);have hq:yQr (yZh ca) ((p,.mk rule s f u n sub)::yQs p 0 sub)=(p,yZh ca (.mk rule s f u n sub)):=by simp only[yQr,if_neg h0]
  rw[hq];simp only[go_sem,zE,zB,zA,zM,zS,zL,reduceCtorEq,fits,k0];exact yQ0 ⟨⟨_,rfl,htg⟩,rfl⟩
 have k0:decide (((yZh ca (.mk rule s f u n sub):Nat):Int)=0)=true:=dEt (by omega);have hq:yQr (yZh ca) ((p,.mk rule s f u n sub)::yQs p 0 sub)=yQr (yZh ca) (yQs p 0 sub):=by simp only[yQr,if_pos h0]
 rw[hq];simp only[go_sem,zE,zB,zA,zM,zS,zL,reduceCtorEq,fits,k0];refine LoopC.ctr sub.length (λk fr st' ds=>yQr (yZh ca) (yQs p 0 (sub.take k))=([],0)/\subSt st st'/\fr 0=.iv (.raw (.int .u8 ca))/\fr 2=.iv (.sl tg (plI p))/\fr 4=.box [.raw (.int .u8 rule),.sl tl xl,.sl tr xr,.raw (.int .u8 op),.raw (.string fn),.sl ta xa,.sl tb xb,.raw (.bool v),.raw (.string un),.sl tu xu,.raw (.string n),.sl ts xs]/\fr 9=.iv (.raw (.int .i64 k))/\ds=[]) ?_ ?_ ?_
 ·simp only[go_sem,zE,zB,zA,zM,zS,zL,reduceCtorEq];exact⟨rfl,subSt.refl _,rfl⟩
 ·rintro k fr st1 _ hlt ⟨hk,hsub,f0,f2,f4,f9,rfl⟩;obtain⟨a,ha⟩:=yQ3 hlt;have ham:=lMg ha;obtain⟨z,hkz,hzz⟩:=i3.get ha;have hsa:=yZ4 ham;have hIH:=λtg ht st=>IH a ham z hzz (yG2 hok2 ham) (by omega) (p++[k]) tg ht (by simp only[lLa,List.length_cons,List.length_nil];omega) st;have hat:=xVo (p:=p) ha;obtain⟨mm,hmm⟩:=zW6 p sub (k+1);have hpk:plI (p++[k])=plI p++[.raw (.int .i64 k)]:=by simp[plI]
  have hfit:(plI p).all (fits false 1)=true:=by
   rw[List.all_eq_true];intro y hy;obtain⟨i,_,rfl⟩:=List.mem_map.1 hy;rfl
  obtain⟨rule',tl',xl',tr',xr',op',fn',ta',xa',tb',xb',v',un',tu',xu',n',ts',xs',rfl⟩:=yX4 hzz;rw[hpk] at hIH;simp only[go_sem,zE,zB,zA,zM,zS,zL,reduceCtorEq,f0,f2,f4,f9,i3.len,lt_i hlt,yQ2 e3,iNn,hkz,fits,yQ1,show yZk 0 []=true from rfl];intros;refine yZz (n:=0) (own.full st1 st 0 1) rfl (yWj p) hsub rfl hfit (by simp only;omega) (by omega) λtg2 st4 hown2 hsub4 _=>?_;simp only[go_sem,zE,zB,zA,zM,zS,zL,reduceCtorEq,f0,f2,f4,f9,fits,yQ1];refine yZb hown2 (by simp[yWj]) hsub4 rfl (by simp[fits,IV.one]) (by simp only;omega) (by omega) λtg3 st5 hown3 hsub5 _ _=>?_;have hcall:=hIH tg3 hown3.es st5;simp only[go_sem,zE,zB,zA,zM,zS,zL,reduceCtorEq,f0,f2,f4,f9,fits];refine hcall.mono ?_;rintro _ _ ⟨⟨tg6,rfl,htg6⟩,rfl⟩;by_cases hz0:(yQr (yZh ca) (a.walk (p++[k]))).2=0
  ·have k2:decide ((((yQr (yZh ca) (a.walk (p++[k]))).2:Nat):Int)=0)=true:=dEt (by omega);simp only[go_sem,zE,zB,zA,zM,zS,zL,reduceCtorEq,f0,f2,f4,f9,fits,k2,yQa hlt (show sub.length<=281474976710656 by omega)];refine⟨?_,hsub5⟩;rw[hat,yX7,hk];simp only[if_true];exact yWt _ _ hz0
  ·have k2:decide ((((yQr (yZh ca) (a.walk (p++[k]))).2:Nat):Int)=0)=false:=dEf (by omega);have hres:yQr (yZh ca) (yQs p 0 sub)=yQr (yZh ca) (a.walk (p++[k])):=by
    rw[hmm,yX7,hat,yX7,hk];simp only[if_true,if_neg hz0]
   simp only[go_sem,zE,zB,zA,zM,zS,zL,reduceCtorEq,f0,f2,f4,f9,fits,k2];exact yQb (st':=st) hsub5 ⟨⟨_,by rw[hres],htg6⟩,rfl⟩
 ·rintro fr st1 _ ⟨hk,hsub,f0,f2,f4,f9,rfl⟩;rw[lTl] at hk;rw[hk];simp only[go_sem,zE,zB,zA,zM,zS,zL,reduceCtorEq,f0,f2,f4,f9,i3.len,yQk (nLi _)];intros;exact yQb (st':=st) hsub ⟨⟨_,rfl,.inl rfl⟩,rfl⟩
theorem xV8 {ca:Nat}(hc:ca=1\/ca=2):∀(k:Nat) (t:Tr),SizeOf.sizeOf t<k->fiC gl ca t
 | 0,t,h=>by omega
 | k+1,.mk r sq f u n sub,h=>wQv gl hc r sq f u n sub (λa ha=>xV8 hc k a (by
   have:=lSm ha;simp at h;omega))
theorem xXz {ca:Nat}(hc:ca=1\/ca=2)(t:Tr)(x:IV)(hx:IsTr t x)(hok:smT t=true)(hst:t.steps<=1000)(st:ISt) :
  ICall prog gl 79 [.raw (.int .u8 ca),x] st (λr st'=>(∃tg,r=.tup [.sl tg (plI (yXc ca t).1),.raw (.int .i64 (yXc ca t).2)]/\okEs tg 1)/\st'=st):=by
 have hF:=λst=>xV8 gl hc _ t (Nat.lt_succ_self _) x hx hok hst [] ⟨true,.nil,0⟩ (.inl rfl) (by simp only[List.length_nil];omega) st;have hS:=λst=>wXj gl t x hx (by omega) st;obtain⟨rule',tl',xl',tr',xr',op',fn',ta',xa',tb',xb',v',un',tu',xu',n',ts',xs',rfl⟩:=yX4 hx;have q1:decide (((ca:Nat):Int)<1)=false:=dEf (by omega);have q2:decide ((3:Int)<((ca:Nat):Int))=false:=dEf (by omega);have hk:yXo ca=true:=by
  simp only[yXo,bAt,dTe];omega
 refine iI func79 ?_;simp only[go_sem,zE,zB,zA,zM,zS,zL,reduceCtorEq,fits,q1,q2];intros;refine (hS _).mono ?_;rintro _ st ⟨rfl,rfl⟩;by_cases h3:300<t.steps
 ·have hC:yXc ca t=([],5):=by unfold yXc;rw[hk,if_pos h3];rfl
  rw[hC];simp only[go_sem,zE,zB,zA,zM,zS,zL,reduceCtorEq,fits,dEt (show (300:Int)<((t.steps:Nat):Int) by omega)];exact yQ0 ⟨⟨_,rfl,.inl rfl⟩,rfl⟩
 ·have hC:yXc ca t=yQr (yZh ca) (t.walk []):=by unfold yXc;rw[hk,if_neg h3];rfl
  rw[hC];simp only[go_sem,zE,zB,zA,zM,zS,zL,reduceCtorEq,fits,dEf (show ¬ (300:Int)<((t.steps:Nat):Int) by omega)];refine (hF _).mono ?_;rintro _ st ⟨⟨tg,rfl,htg⟩,rfl⟩;simp only[go_sem,zE,zB,zA,zM,zS,zL,reduceCtorEq,fits];exact yQ0 ⟨⟨_,rfl,htg⟩,rfl⟩
def cuC (t:Tr):Prop:=∀(x:IV) (_:IsTr t x) (_:t.steps<=1099511627776) (st:ISt),ICall prog gl 80 [x] st (λr st'=>r=.raw (.int .i64 t.cuts)/\st'=st)
theorem wY9 {l:List Tr}{k:Nat}{a:Tr}(h:l[k]?=some a):yZ8 (l.take (k+1))=yZ8 (l.take k)+a.cuts:=by
 rw[yQ8 h,yVu];simp[yZ8]
theorem cuLe (l:List Tr)(k:Nat):yZ8 (l.take k)<=yZ8 l:=by
 conv=>rhs;rw[<- List.take_append_drop k l]
 rw[yVu];omega
theorem xWc (rule:Nat)(s:Sq)(f:Fm)(u:Tm)(n:ByteArray)(sub:List Tr)(IH:∀a∈sub,cuC gl a):cuC gl (.mk rule s f u n sub):=by
 intro x hx hst st;have hhs:=wZ2 (.mk rule s f u n sub);obtain⟨tl,xl,tr,xr,op,fn,ta,xa,tb,xb,v,un,tu,xu,ts,xs,rfl,hru,e1,i1,e2,i2,hy,hz,e3,i3⟩:=hx.mk;simp only[Tr.steps,Tr.cuts] at hst hhs ⊢;have hlsub:=yZ7 sub;refine iI func80 ?_;by_cases h17:rule=17
 ·have d17:decide (((rule:Nat):Int)=17)=true:=dEt (by omega);have hc:(if rule=17 then 1 else 0)=1:=if_pos h17;rw[hc] at hhs;simp only[go_sem,zE,zB,zA,zM,zS,zL,reduceCtorEq,fits,d17];refine LoopC.ctr sub.length (λk fr st' ds=>fr 1=.box [.raw (.int .u8 rule),.sl tl xl,.sl tr xr,.raw (.int .u8 op),.raw (.string fn),.sl ta xa,.sl tb xb,.raw (.bool v),.raw (.string un),.sl tu xu,.raw (.string n),.sl ts xs]/\fr 3=.iv (.raw (.int .i64 ((1+yZ8 (sub.take k):Nat):Int)))/\fr 4=.iv (.raw (.int .i64 k))/\st'=st/\ds=[]) ?_ ?_ ?_
  ·simp only[go_sem,zE,zB,zA,zM,zS,zL,reduceCtorEq];simp[yZ8]
  ·rintro k fr st1 _ hlt ⟨f1,f3,f4,rfl,rfl⟩;obtain⟨a,ha⟩:=yQ3 hlt;have ham:=lMg ha;obtain⟨z,hkz,hzz⟩:=i3.get ha;have h1:=wY9 ha;have h2:=cuLe sub (k+1);have hcall:=λst=>IH a ham z hzz (by have:=yZ4 ham;omega) st;have w7:IntKind.i64.wrap (((1+yZ8 (sub.take k):Nat):Int)+((a.cuts:Nat):Int))=((1+yZ8 (sub.take (k+1)):Nat):Int):=by rw[w64]<;>omega
   have w8:IntKind.i64.wrap (((yZ8 (sub.take k):Nat):Int)+((a.cuts:Nat):Int))=((yZ8 (sub.take (k+1)):Nat):Int):=by rw[w64]<;>omega
   obtain⟨rule',tl',xl',tr',xr',op',fn',ta',xa',tb',xb',v',un',tu',xu',n',ts',xs',rfl⟩:=yX4 hzz;simp only[go_sem,zE,zB,zA,zM,zS,zL,reduceCtorEq,f1,f3,f4,i3.len,lt_i hlt,yQ2 e3,iNn,hkz,fits];intro _;refine (hcall _).mono ?_;rintro _ st2 ⟨rfl,rfl⟩;simp only[go_sem,zE,zB,zA,zM,zS,zL,reduceCtorEq,f1,f3,f4,fits,w7,w8,yQa hlt (show sub.length<=281474976710656 by omega)]
  ·rintro fr st1 _ ⟨f1,f3,f4,rfl,rfl⟩;rw[lTl] at f3;simp only[go_sem,zE,zB,zA,zM,zS,zL,reduceCtorEq,f1,f3,f4,i3.len,yQk (nLi _)];intro _;exact yQ0 ⟨by simp[h17],rfl⟩
 ·have d17:decide (((rule:Nat):Int)=17)=false:=dEf (by omega);have hc:(if rule=17 then 1 else 0)=0:=if_neg h17;rw[hc] at hhs;simp only[go_sem,zE,zB,zA,zM,zS,zL,reduceCtorEq,fits,d17];refine LoopC.ctr sub.length (λk fr st' ds=>fr 1=.box [.raw (.int .u8 rule),.sl tl xl,.sl tr xr,.raw (.int .u8 op),.raw (.string fn),.sl ta xa,.sl tb xb,.raw (.bool v),.raw (.string un),.sl tu xu,.raw (.string n),.sl ts xs]/\fr 3=.iv (.raw (.int .i64 ((0+yZ8 (sub.take k):Nat):Int)))/\fr 4=.iv (.raw (.int .i64 k))/\st'=st/\ds=[]) ?_ ?_ ?_
  ·simp only[go_sem,zE,zB,zA,zM,zS,zL,reduceCtorEq];simp[yZ8]
  ·rintro k fr st1 _ hlt ⟨f1,f3,f4,rfl,rfl⟩;obtain⟨a,ha⟩:=yQ3 hlt;have ham:=lMg ha;obtain⟨z,hkz,hzz⟩:=i3.get ha;have h1:=wY9 ha;have h2:=cuLe sub (k+1);have hcall:=λst=>IH a ham z hzz (by have:=yZ4 ham;omega) st;have w7:IntKind.i64.wrap (((0+yZ8 (sub.take k):Nat):Int)+((a.cuts:Nat):Int))=((0+yZ8 (sub.take (k+1)):Nat):Int):=by rw[w64]<;>omega
   have w8:IntKind.i64.wrap (((yZ8 (sub.take k):Nat):Int)+((a.cuts:Nat):Int))=((yZ8 (sub.take (k+1)):Nat):Int):=by rw[w64]<;>omega
   obtain⟨rule',tl',xl',tr',xr',op',fn',ta',xa',tb',xb',v',un',tu',xu',n',ts',xs',rfl⟩:=yX4 hzz;simp only[go_sem,zE,zB,zA,zM,zS,zL,reduceCtorEq,f1,f3,f4,i3.len,lt_i hlt,yQ2 e3,iNn,hkz,fits];intro _;refine (hcall _).mono ?_;rintro _ st2 ⟨rfl,rfl⟩;simp only[go_sem,zE,zB,zA,zM,zS,zL,reduceCtorEq,f1,f3,f4,fits,w7,w8,yQa hlt (show sub.length<=281474976710656 by omega)]
  ·rintro fr st1 _ ⟨f1,f3,f4,rfl,rfl⟩;rw[lTl] at f3;simp only[go_sem,zE,zB,zA,zM,zS,zL,reduceCtorEq,f1,f3,f4,i3.len,yQk (nLi _)];intro _;exact yQ0 ⟨by simp[h17],rfl⟩
theorem zU5:∀(k:Nat)(t:Tr),SizeOf.sizeOf t<k->cuC gl t
 | 0,t,h=>by omega
 | k+1,.mk r sq f u n sub,h=>xWc gl r sq f u n sub (λa ha=>zU5 k a (by
   have:=lSm ha;simp at h;omega))
theorem wGw (t:Tr):cuC gl t:=zU5 gl _ t (Nat.lt_succ_self _)
theorem xY4 {rule:Nat}{s:Sq}{m:Fm}{u:Tm}{n:ByteArray}{sub:List Tr}(h:yZh 1 (.mk rule s m u n sub)=0):(1<=rule/\(rule<=12\/rule=17))/\(addU rule m).length=sub.length/\fmB 1 m=true/\yXs 1 s=true:=by
 simp only[yZh] at h;by_cases h0:(yXt 1 s rule m u n).2=0
 case neg=>rw[if_pos h0] at h;exact absurd h h0
 rw[if_neg (by simpa using h0)] at h;obtain⟨r,k1,k2,k3,k4⟩:=zKy h0;by_cases hl:sub.length=(yXt 1 s rule m u n).1.length
 case neg=>rw[if_pos hl] at h;cases h
 have hf:fmB 1 m=true:=by
  unfold yJ6 at k3;cases hq:fmB 1 m
  ·simp[hq] at k3
  ·rfl
 refine⟨?_,?_,hf,k1⟩
 ·have:rule≠18:=by rintro rfl;unfold rowS rowK at k2;simp at k2
  cases xZd (.inl rfl) k2<;>first|omega|exact absurd rfl this
 ·rw[hl,k4,<- wZn rule m u n];unfold yVp;rw[k2];rfl
mutual
theorem zJ5:∀ {t:Tr},zWz 1 t=true->okUs t
 | .mk r s m u n sub,h=>by
  simp only[zWz,bAt,dTe] at h;obtain⟨h1,h2,h3,h4⟩:=xY4 h.1;obtain⟨_,k1,k2,k3,k4⟩:=yVw.1 h4;simp only[okUs];exact⟨h1,h2,h3,k3,λf hf=>(k4 f hf).1,k1,k2,zVf h.2⟩
theorem zVf:∀ {l:List Tr},yGi 1 l=true->zWy l
 | [],_=>trivial
 | a::l,h=>by
  simp only[yGi,bAt] at h;exact⟨zJ5 h.1,zVf h.2⟩
end
mutual
theorem xKc:∀ {t:Tr},okUs t->t.cuts=0->okRu t
 | .mk r s m u n sub,h,hc=>by
  simp only[okUs] at h;simp only[Tr.cuts] at hc;have:r≠17:=by rintro rfl;simp at hc
  simp only[okRu];exact⟨h.1.1,by have:=h.1.2;omega,zUi h.2.2.2.2.2.2.2 (by omega)⟩
theorem zUi:∀ {l:List Tr},zWy l->yZ8 l=0->xUb l
 | [],_,_=>trivial
 | a::l,h,hc=>by
  simp only[zWy] at h;simp only[yZ8] at hc;exact⟨xKc h.1 (by omega),zUi h.2 (by omega)⟩
end
theorem wVb (t:Tr)(x:IV)(hx:IsTr t x)(hok:smT t=true)(hst:t.steps<=1000)(st:ISt) :
  ICall prog gl 36 [x] st (λr st'=>(∃z,r=.tup [z,.raw (.int .i64 (yK2 t).2)]/\IsNd (yK2 t).1 z)/\st'=st):=by
 have hck:=λst=>xXz gl (.inl rfl) t x hx hok hst st;have hcu:=λst=>wGw gl t x hx (by omega) st;have hno:=λh st=>xJu gl _ t (Nat.lt_succ_self _) x hx h hst st;have hsq:=wVc (zGo hok);obtain⟨rule,s,mn,u,nm,sub⟩:=t;obtain⟨tl,xl,tr,xr,op,fn,ta,xa,tb,xb,v,un,tu,xu,ts,xs,rfl,hru,e1,i1,e2,i2,hy,hz,e3,i3⟩:=hx.mk;have hV:=λst=>zU3 gl s (.agg [.sl tl xl,.sl tr xr]) ⟨_,_,_,_,rfl,e1,i1,e2,i2⟩ hsq st;have hne:∀n:Nat,((n:Int)=0)=(n=0):=λn=>propext (by omega);refine iI func36 ?_;simp only[go_sem,zE,zB,zA,zM,zS,zL,reduceCtorEq,fits];refine (hck _).mono ?_;rintro _ st ⟨⟨tg,rfl,htg⟩,rfl⟩;by_cases h0:(yXc 1 (.mk rule s mn u nm sub)).2=0
 ·have hgt:((0:Int)<((Tr.mk rule s mn u nm sub).cuts:Int))=(0<(Tr.mk rule s mn u nm sub).cuts):=propext (by omega);simp only[go_sem,zE,zB,zA,zM,zS,zL,reduceCtorEq,fits,h0,decide_true,Bool.not_true,Int.natCast_zero];refine (hcu _).mono ?_;rintro _ st ⟨rfl,rfl⟩;by_cases h1:0<(Tr.mk rule s mn u nm sub).cuts
  ·simp only[go_sem,zE,zB,zA,zM,zS,zL,reduceCtorEq,fits,hgt,h1,decide_true];exact yQ0 ⟨⟨_,by rw[yK2,if_pos (.inr h1)];rfl,by rw[yK2,if_pos (.inr h1)];exact zJb⟩,rfl⟩
  ·simp only[go_sem,zE,zB,zA,zM,zS,zL,reduceCtorEq,fits,hgt,h1,decide_false];refine (hV _).mono ?_;rintro _ st ⟨rfl,rfl⟩;cases hv:yX9 s
   ·have he:yK2 (.mk rule s mn u nm sub)=(nd0,2):=by rw[yK2,if_neg (by rintro (h|h)<;>contradiction),if_pos (show yX9 (Tr.mk rule s mn u nm sub).sq=false from hv)]
    simp only[go_sem,zE,zB,zA,zM,zS,zL,reduceCtorEq,fits];exact yQ0 ⟨⟨_,by rw[he];rfl,by rw[he];exact zJb⟩,rfl⟩
   ·have he:yK2 (.mk rule s mn u nm sub)=(zQ7 (.mk rule s mn u nm sub),0):=by rw[yK2,if_neg (by rintro (h|h)<;>contradiction),if_neg (show ¬ yX9 (Tr.mk rule s mn u nm sub).sq=false by rw[show yX9 (Tr.mk rule s mn u nm sub).sq=true from hv];decide)]
    simp only[go_sem,zE,zB,zA,zM,zS,zL,reduceCtorEq,fits];refine (hno (xKc (zJ5 (zQs.1 h0).2.2) (by omega)) _).mono ?_;rintro r _ ⟨hr,rfl⟩;have hr0:=hr;obtain⟨v1,w1,o1,n1,t1,y1,t2,y2,c1,w2,t3,y3,rfl⟩:=yXq hr;simp only[go_sem,zE,zB,zA,zM,zS,zL,reduceCtorEq,fits];exact yQ0 ⟨⟨_,by rw[he];rfl,by rw[he];exact hr0⟩,rfl⟩
 ·simp only[go_sem,zE,zB,zA,zM,zS,zL,reduceCtorEq,fits,hne,h0,decide_false,Bool.not_false];exact yQ0 ⟨⟨_,by rw[yK2,if_pos (.inl h0)];rfl,by rw[yK2,if_pos (.inl h0)];exact zJb⟩,rfl⟩
theorem wV9 (t:Tr)(x:IV)(hx:IsTr t x)(hok:smT t=true)(hst:t.steps<=1000)(st:ISt) :
  ICall prog gl 38 [x] st (λr st'=>(∃z,r=.tup [z,.raw (.int .i64 (yVf t).2)]/\IsTr (yVf t).1 z)/\st'=st):=by
 have hck:=λst=>xXz gl (.inl rfl) t x hx hok hst st;have hus:=λh st=>wW4 gl _ t (Nat.lt_succ_self _) x hx h hst st;have hne:∀n:Nat,((n:Int)=0)=(n=0):=λn=>propext (by omega);have z0:=zGg;unfold trZ at z0;obtain⟨rule,tl,xl,tr,xr,op,fn,ta,xa,tb,xb,v,un,tu,xu,nm,ts,xs,rfl⟩:=yX4 hx;refine iI func38 ?_;simp only[go_sem,zE,zB,zA,zM,zS,zL,reduceCtorEq,fits];refine (hck _).mono ?_;rintro _ st ⟨⟨tg,rfl,htg⟩,rfl⟩;by_cases h0:(yXc 1 t).2=0
 ·have he:yVf t=(yVq t,0):=by rw[yVf,if_neg (by rw[h0];decide)]
  simp only[go_sem,zE,zB,zA,zM,zS,zL,reduceCtorEq,fits,h0,decide_true,Bool.not_true,Int.natCast_zero];refine (hus (zJ5 (zQs.1 h0).2.2) _).mono ?_;rintro r _ ⟨hr,rfl⟩;have hr0:=hr;obtain⟨rule9,tl9,xl9,tr9,xr9,op9,fn9,ta9,xa9,tb9,xb9,v9,un9,tu9,xu9,n9,ts9,xs9,rfl⟩:=yX4 hr;simp only[go_sem,zE,zB,zA,zM,zS,zL,reduceCtorEq,fits];exact yQ0 ⟨⟨_,by rw[he];rfl,by rw[he];exact hr0⟩,rfl⟩
 ·have he:yVf t=(tr0,231):=by rw[yVf,if_pos h0]
  simp only[go_sem,zE,zB,zA,zM,zS,zL,reduceCtorEq,fits,hne,h0,decide_false,Bool.not_false];exact yQ0 ⟨⟨_,by rw[he];rfl,by rw[he];exact z0⟩,rfl⟩
set_option maxRecDepth 8000
mutual
theorem xJk:∀ {t:Tr},smT t=true->TB t
 | .mk _ s m u _ sub,h=>by
  obtain⟨h1,h2,h3,h4⟩:=zQx h;simp only[TB];exact⟨by omega,by omega,by omega,by omega,xJi h4⟩
theorem xJi:∀ {l:List Tr},smTs l=true->TBs l
 | [],_=>trivial
 | a::l,h=>by
  simp only[smTs,bAt] at h;exact⟨xJk h.1,xJi h.2⟩
end
mutual
theorem xUg:∀t:Tr,(zQ7 t).nodes=t.steps
 | .mk _ _ _ _ _ sub=>by simp only[zQ7,Nd.nodes,Tr.steps,xKe sub]
theorem xKe:∀l:List Tr,yQg (yV6 l)=yQm l
 | []=>rfl
 | a::l=>by simp only[yV6,yQg,yQm,xUg a,xKe l]
end
mutual
theorem xKf:∀ {t:Tr},smT t=true->NB (zQ7 t)
 | .mk _ s m u _ sub,h=>by
  obtain⟨h1,h2,h3,h4⟩:=zQx h;simp only[zQ7,NB];exact⟨by omega,zUl h4⟩
theorem zUl:∀ {l:List Tr},smTs l=true->NBs (yV6 l)
 | [],_=>trivial
 | a::l,h=>by
  simp only[smTs,bAt] at h;exact⟨xKf h.1,zUl h.2⟩
end
mutual
theorem xYp:∀t:Tr,(yVq t).steps<=t.steps
 | .mk _ _ _ _ _ sub=>by
  simp only[yVq,zXj,Tr.steps];have h:=xJ4 sub;refine yGp (P:=λt=>t.steps<=1+yQm sub) (λq=>by simp only[Tr.steps];omega) λa ha=>?_;have:=yZ4 ha;omega
theorem xJ4:∀l:List Tr,yQm (yZr l)<=yQm l
 | []=>Nat.le_refl _
 | a::l=>by
  have:=xYp a;have:=xJ4 l;simp only[yZr,yQm];omega
end
theorem vQz {t:Tr}(h:smT t=true):NB (yK2 t).1/\(yK2 t).1.nodes<=t.steps+1:=by
 have h0:NB nd0/\nd0.nodes<=t.steps+1:=⟨by simp[nd0,NB,NBs,fm0,Fm.size,yQy,yQ7],by simp[nd0,Nd.nodes,yQg]⟩
 unfold yK2;split
 ·exact h0
 split
 ·exact h0
 ·exact⟨xKf h,by rw[xUg];omega⟩
theorem vQx {t:Tr}(h:smT t=true):smT (yVf t).1=true/\(yVf t).1.steps<=t.steps+1:=by
 unfold yVf;split
 ·exact⟨by decide,by simp[tr0,Tr.steps,yQm]⟩
 ·exact⟨xJ5 h,by have:=xYp t;show (yVq t).steps<=_;omega⟩
set_option maxHeartbeats 2000000 in
theorem xXc (G:Gl gl)(hgl:∀g x,gl g=some x->age x=x)(t:Tr)(x:IV)(hx:IsTr t x)(hok:smT t=true)(hst:t.steps<=300)(st:ISt)(hfl:flatSt st) :
  ICall prog gl 12 [x] st (λr st'=>r=.raw (.bool true)/\st'=st):=by
 have hG:=λst=>wVu gl _ t (Nat.lt_succ_self _) x hx (xJk hok) (by omega) st;have hx0:=hx;obtain⟨hNB,hNn⟩:=vQz hok;obtain⟨hUsm,hUn⟩:=vQx hok;obtain⟨rule',tl',xl',tr',xr',op',fn',ta',xa',tb',xb',v',un',tu',xu',n',ts',xs',rfl⟩:=yX4 hx;refine iI func12 ?_;simp only[go_sem,zE,zB,zA,zM,zS,zL,reduceCtorEq,fits];refine (hG _).mono ?_;rintro r st ⟨hr,rfl⟩;have hr0:=hr;have hT:=λst=>xJb gl _ t (Nat.lt_succ_self _) r hr (xJk hok) (by omega) st;have hRN:=λst=>wVb gl t r hr hok (by omega) st;have hRU:=λst=>wV9 gl t r hr hok (by omega) st;obtain⟨_,_,_,_,_,_,_,_,_,_,_,_,_,_,_,_,_,_,rfl⟩:=yX4 hr;simp only[go_sem,zE,zB,zA,zM,zS,zL,reduceCtorEq,fits];refine (hT _).mono ?_;rintro i st ⟨hi,rfl⟩;have hi0:=hi;have hN:=λst hfl=>ICall.lentOwn (f:=35) (args:=[i]) (args':=[i]) (st:=st) hfl hgl ⟨_,_,rfl,.inl rfl,rfl⟩ (K:=λr=>∃y,r=.tup [y,.raw (.int .i64 (yK2 t).2)]/\IsNd (yK2 t).1 y/\dfr y)
  ((wYj gl G t (age i) (zXl hi) (zGo hok) (by omega) (yKk st)).mono λr st' ⟨⟨y,h1,h2,h3⟩,h4⟩=>⟨h4,by rw[h1];exact⟨h3,trivial,trivial⟩,y,h1,h2,h3⟩)
 have hU:=λst hfl=>ICall.lentOwn (f:=37) (args:=[i]) (args':=[i]) (st:=st) hfl hgl ⟨_,_,rfl,.inl rfl,rfl⟩ (K:=λr=>∃y,r=.tup [y,.raw (.int .i64 (yVf t).2)]/\IsTr (yVf t).1 y/\dfr y)
  ((wYh gl G t (age i) (zXl hi) hok hst (yKk st)).mono λr st' ⟨⟨y,h1,h2,h3⟩,h4⟩=>⟨h4,by rw[h1];exact⟨h3,trivial,trivial⟩,y,h1,h2,h3⟩)
 have hSe:=λst=>yKz gl t i _ hi0 hx0 (by omega) st;obtain⟨_,_,_,_,_,_,_,_,_,_,_,_,_,_,_,_,_,_,rfl⟩:=yX4 hi;simp only[go_sem,zE,zB,zA,zM,zS,zL,reduceCtorEq,fits];refine (hN _ hfl).mono ?_;rintro _ st1 ⟨hs1,hf1,_,N1,⟨yn,rfl,hyn,hynd⟩,hoN,hrY,hrN,hN1,hNd1⟩;obtain⟨y,rfl,hoy,hry⟩:=zWt hoN hrY;obtain⟨ys,d,rfl,hO⟩:=wJi hrN hyn hynd hoy hry;obtain⟨p0,p1,p2,p3,p4,p5,p6,p7,p8,rfl,hpr,n1,n2,n3⟩:=hO;have hch:=λst (h:subSt N1 st)=>wKr gl _ d p0 p1 p2 p3 p4 p5 p6 p7 p8 st hpr (n1.mono h) (n2.mono h) (n3.mono h);simp only[List.forall_mem_cons] at hpr;obtain⟨⟨v0,rfl,s0⟩,⟨v1,rfl,s1⟩,⟨v2,rfl,s2⟩,⟨v3,rfl,s3⟩,⟨v4,rfl,s4⟩,⟨v5,rfl,s5⟩,⟨v6,rfl,s6⟩,⟨v7,rfl,s7⟩,⟨v8,rfl,s8⟩,_⟩:=hpr;simp only[go_sem,zE,zB,zA,zM,zS,zL,reduceCtorEq,fits,s0,s1,s2,s3,s4,s5,s6,s7,s8];refine (hRN _).mono ?_;rintro _ st1 ⟨⟨m,rfl,hm⟩,rfl⟩;have hTk:=λst=>xYu gl _ _ (Nat.lt_succ_self _) m hm hNB (by omega) st;obtain⟨_,_,_,_,_,_,_,_,_,_,_,_,rfl⟩:=yXq hm;simp only[go_sem,zE,zB,zA,zM,zS,zL,reduceCtorEq,fits,s0,s1,s2,s3,s4,s5,s6,s7,s8];refine (hU _ hf1).mono ?_;rintro _ st2 ⟨hs2,hf2,_,N2,⟨yu,rfl,hyu,hyud⟩,hoN2,hrY2,hrN2,hN2,hNd2⟩;obtain⟨y2,rfl,hoy2,hry2⟩:=zWt hoN2 hrY2;obtain⟨zs,e,rfl,hO2⟩:=xK4 hrN2 hyu hyud hoy2 hry2;obtain⟨q0,q1,q2,q3,q4,q5,q6,q7,q8,q9,q10,q11,rfl,hqr,k1,k2,k3,k4,k5⟩:=hO2;have hov:=wWg gl _ e q0 q1 q2 q3 q4 q5 q6 q7 q8 q9 q10 q11 st2 hqr (k1.mono hN2) (k2.mono hN2) (k3.mono hN2) (k4.mono hN2) (k5.mono hN2);simp only[List.forall_mem_cons] at hqr;obtain⟨⟨w0,rfl,r0⟩,⟨w1,rfl,r1⟩,⟨w2,rfl,r2⟩,⟨w3,rfl,r3⟩,⟨w4,rfl,r4⟩,⟨w5,rfl,r5⟩,⟨w6,rfl,r6⟩,⟨w7,rfl,r7⟩,⟨w8,rfl,r8⟩,⟨w9,rfl,r9⟩,⟨w10,rfl,r10⟩,⟨w11,rfl,r11⟩,_⟩:=hqr;have hS1:subSt N1 st2:=hN1.trans hs2;simp only[go_sem,zE,zB,zA,zM,zS,zL,reduceCtorEq,fits,s0,s1,s2,s3,s4,s5,s6,s7,s8,r0,r1,r2,r3,r4,r5,r6,r7,r8,r9,r10,r11];refine (hRU _).mono ?_;rintro _ st2 ⟨⟨u,rfl,hu⟩,rfl⟩;have hTu:=λst=>xJb gl _ _ (Nat.lt_succ_self _) u hu (xJk hUsm) (by omega) st;obtain⟨_,_,_,_,_,_,_,_,_,_,_,_,_,_,_,_,_,_,rfl⟩:=yX4 hu;simp only[go_sem,zE,zB,zA,zM,zS,zL,reduceCtorEq,fits,s0,s1,s2,s3,s4,s5,s6,s7,s8,r0,r1,r2,r3,r4,r5,r6,r7,r8,r9,r10,r11,decide_true];refine (hTk _).mono ?_;rintro mm st2 ⟨hmm,rfl⟩;have hSm:=yUi gl hf2 hS1 hoy (λst=>yGd gl _ _ _ hyn.aged hmm (by omega) st);obtain⟨_,_,_,_,_,_,_,_,_,_,_,_,rfl⟩:=yXq hmm;simp only[go_sem,zE,zB,zA,zM,zS,zL,reduceCtorEq,fits,s0,s1,s2,s3,s4,s5,s6,s7,s8,r0,r1,r2,r3,r4,r5,r6,r7,r8,r9,r10,r11,decide_true];refine hSm.mono ?_;rintro _ st2 ⟨rfl,rfl⟩;simp only[go_sem,zE,zB,zA,zM,zS,zL,reduceCtorEq,fits,decide_true];refine (hTu _).mono ?_;rintro uu st2 ⟨huu,rfl⟩;have hSu:=yUi gl hf2 hN2 hoy2 (λst=>yKz gl _ _ _ (zXl hyu) huu (by omega) st);obtain⟨_,_,_,_,_,_,_,_,_,_,_,_,_,_,_,_,_,_,rfl⟩:=yX4 huu;simp only[go_sem,zE,zB,zA,zM,zS,zL,reduceCtorEq,fits,s0,s1,s2,s3,s4,s5,s6,s7,s8,r0,r1,r2,r3,r4,r5,r6,r7,r8,r9,r10,r11,decide_true];refine hSu.mono ?_;rintro _ st2 ⟨rfl,rfl⟩;simp only[go_sem,zE,zB,zA,zM,zS,zL,reduceCtorEq,fits,decide_true,r0,r1,r2,r3,r4,r5,r6,r7,r8,r9,r10,r11];refine hov.mono ?_;rintro _ st3 hov3;have hS3:∀S,subSt S st1->subSt S st3:=λS hS c o hc=>by
  have hc1:=hS c o hc;rw[hov3.dom c λhD=>by rw[hNd2 c hD] at hc1;cases hc1];exact hs2 _ _ hc1
 simp only[go_sem,zE,zB,zA,zM,zS,zL,reduceCtorEq,fits,s0,s1,s2,s3,s4,s5,s6,s7,s8];refine (hch _ (hS3 _ hN1)).mono ?_;rintro _ st4 hov4;have hS4:subSt st st4:=λc o hc=>by
  rw[hov4.dom c λhD=>by rw[hNd1 c hD.1] at hc;cases hc];exact hS3 _ hs1 c o hc
 simp only[go_sem,zE,zB,zA,zM,zS,zL,reduceCtorEq,fits];refine (hSe _).mono ?_;rintro _ st4 ⟨rfl,rfl⟩;simp only[go_sem,zE,zB,zA,zM,zS,zL,reduceCtorEq,fits];exact yQb hS4 ⟨rfl,rfl⟩
end Go.Proofs.Tryz
namespace Go.Proofs.Tryz
open Go Go.Iv
set_option maxRecDepth 100000
mutual
noncomputable def xX5:Nat->List Mk->Option Nd
 | 0,_=>none
 | k+1,l=>match yGe l with
  | none=>none
  | some (m,true)=>some (.mk m true 0 [])
  | some (m,false)=>match zJp k l (yQi m 0) with
   | none=>none
   | some ns=>some (.mk m false 0 ns)
noncomputable def zJp:Nat->List Mk->List (List Mk)->Option (List Nd)
 | _,_,[]=>some []
 | 0,_,_::_=>none
 | k+1,l,q::qs=>match xX5 k (yQu l q) with
  | none=>none
  | some n=>match zJp k l qs with
   | none=>none
   | some ns=>some (n::ns)
end
def fP:Fm:=.mk 1 ⟨#[80]⟩ [] []
def fF:Fm:=.mk 2 bE [] []
def opsW (x y:Fm):List Fm:=[.mk 4 bE [] [x,y],.mk 5 bE [] [x,y],.mk 6 bE [] [x,y],.mk 7 bE [] [x,y]]
def yV1 (a b:List Fm):List Fm:=a.flatMap λx=>.mk 3 bE [] [x]::b.flatMap (opsW x)
theorem zWv (x:Fm):∀l:List Fm,(l.flatMap (opsW x)).length=4*l.length
 | []=>rfl
 | y::l=>by
  rw[List.flatMap_cons,lLa,zWv x l,List.length_cons,show (opsW x y).length=4 from rfl];omega
theorem yU3 (b:List Fm):∀a:List Fm,(yV1 a b).length=a.length*(4*b.length+1)
 | []=>by simp[yV1]
 | x::a=>by
  rw[yV1,List.flatMap_cons,lLa,List.length_cons,zWv,<- yV1,yU3 b a,List.length_cons,Nat.add_mul a.length 1];omega
def oneF:List Fm:=yV1 [fP,fF] [fP,fF]
def allFs:List Fm:=[fP,fF]++oneF++yV1 oneF [fP]
def xGj (i:Nat):List Sq :=
 let f:=(allFs[i]?).getD fm0
 [⟨[],[f]⟩,⟨[f],[]⟩,⟨[f],[(allFs[(i*5+3)%allFs.length]?).getD fm0]⟩,⟨[f,fP],[f]⟩]
theorem wWp (n:Nd):1<=n.nodes:=by
 cases n;rw[Nd.nodes];omega
mutual
theorem xV3:∀ {n:Nd}{k:Nat}{l:List Mk},Grows n l->2*n.nodes<=k+1->xX5 k l=some n
 | .mk m c w sub,0,l,h,hk=>by
  rw[Nd.nodes] at hk;omega
 | .mk m c w sub,k+1,l,h,hk=>by
  rw[Nd.nodes] at hk;rw[Grows] at h;obtain⟨rfl,h1,h2⟩:=h;rw[xX5,h1];cases c
  ·have h3:=zUw (k:=k) h2.2 (by omega);simp only[h3]
  ·have h3:sub=[]:=h2;subst h3;rfl
theorem zUw:∀ {ns:List Nd}{k:Nat}{l:List Mk}{qs:List (List Mk)},GrowsL ns l qs->2*yQg ns<=k->zJp k l qs=some ns
 | [],k,l,[],_,_=>by cases k<;>rfl
 | n::ns,0,l,q::qs,_,hk=>by
  rw[yQg] at hk;have:=wWp n;omega
 | n::ns,k+1,l,q::qs,h,hk=>by
  rw[yQg] at hk;have:=wWp n;rw[GrowsL] at h;rw[zJp,xV3 (k:=k) h.1 (by omega)];simp only[zUw (k:=k) h.2 (by omega)]
 | [],_,_,_::_,h,_=>by rw[GrowsL] at h;exact h.elim
 | _::_,_,_,[],h,_=>by rw[GrowsL] at h;exact h.elim
end
theorem zVs:∀k:Nat,(∀l n,xX5 k l=some n->Grows n l)/\∀l qs ns,zJp k l qs=some ns->GrowsL ns l qs
 | 0=>⟨λl n h=>(by cases h),λl qs ns h=>by
  cases qs with
  | nil=>cases h;rw[GrowsL];exact trivial
  | cons q qs=>cases h⟩
 | k+1=>by
  have IH:=zVs k;refine⟨λl n h=>?_,λl qs ns h=>?_⟩
  ·rw[xX5] at h;split at h
   ·cases h
   ·rename_i m hm;cases h;rw[Grows];exact⟨rfl,hm,rfl⟩
   ·rename_i m hm;split at h
    ·cases h
    ·rename_i ns hns;cases h;rw[Grows];exact⟨rfl,hm,(xKi hm).2 rfl,IH.2 _ _ _ hns⟩
  ·cases qs with
   | nil=>rw[zJp] at h;cases h;rw[GrowsL];exact trivial
   | cons q qs =>
    rw[zJp] at h;split at h
    ·cases h
    ·rename_i n hn;split at h
     ·cases h
     ·rename_i ns' hns;cases h;rw[GrowsL];exact⟨IH.1 _ _ hn,IH.2 _ _ _ hns⟩
noncomputable def vKa (s:Sq):Bool:=match xX5 600 (yQp s) with
 | none=>true
 | some n=>okN n&&decide (n.nodes<=60)&&decide ((yK3 s n).2=0)&&!bigT (yQp s) n&&smT (yJc (yQp s) n)
noncomputable def wK8 (s:Sq):Bool:=yX9 s&&decide (wFms s.l+wFms s.r<=300)&&vKa s
theorem wQo {s:Sq}(h:wK8 s=true):yX9 s=true/\wFms s.l+wFms s.r<=300/\∀n,Grows n (yQp s)->n.nodes<=300->okN n=true/\n.nodes<=60/\yKo s n=(yJc (yQp s) n,0)/\smT (yJc (yQp s) n)=true/\(yJc (yQp s) n).steps<=300:=by
 unfold wK8 at h;simp only[bAt,dTe] at h;refine⟨h.1.1,h.1.2,λn hn h3=>?_⟩;have h4:=h.2;unfold vKa at h4;rw[xV3 hn (by omega)] at h4;simp only[bAt,dTe,Bool.not_eq_true'] at h4;obtain⟨⟨⟨⟨h5,h6⟩,h7⟩,h8⟩,h9⟩:=h4;refine⟨h5,h6,by rw[yKo,if_neg (by rw[h7];decide),if_neg (by rw[h8];decide)],h9,?_⟩;unfold yK3 at h7;rw[h.1.1,Bool.not_true,if_neg (by decide),if_neg (by omega)] at h7;rw[(yG1 n _ [] h7).1];omega
theorem zYs:allFs.length=110:=by decide +kernel
theorem wKy:((List.range 110).all λi=>(xGj i).all wK8)=true:=by decide +kernel
def nmA (i:Nat):ByteArray:=⟨#[65,UInt8.ofNat (97+i / 8),UInt8.ofNat (97+i%8)]⟩
def fA (i:Nat):Fm:=.mk 1 (nmA i) [] []
def fC:Nat->Fm
 | 0=>fA 0
 | i+1=>.mk 4 bE [] [fC i,fA (i+1)]
noncomputable def vKb (i:Nat):Bool:=yX9 ⟨[fC i],[fA 0]⟩&&decide (wFms [fC i]+wFms [fA 0]<=300)&&(decide (i<=28) || match xX5 600 (yQp ⟨[fC i],[fA 0]⟩) with
 | none=>false
 | some n=>okN n&&decide (n.nodes<=60))
theorem wQq:((List.range 36).all vKb)=true:=by decide +kernel
theorem wQp {i:Nat}(hi:i<36):yX9 ⟨[fC i],[fA 0]⟩=true/\wFms [fC i]+wFms [fA 0]<=300/\(28<i->∃n,Grows n (yQp ⟨[fC i],[fA 0]⟩)/\okN n=true/\n.nodes<=60):=by
 have h:=List.all_eq_true.1 wQq i (List.mem_range.2 hi);unfold vKb at h;simp only[bAt,Bool.or_eq_true,dTe] at h;refine⟨h.1.1,h.1.2,λh3=>?_⟩;have h4:=h.2.resolve_left (by omega);split at h4
 ·cases h4
 ·rename_i n hn;simp only[bAt,dTe] at h4;exact⟨n,(zVs 600).1 _ _ hn,h4.1,h4.2⟩
theorem wJ0 {i k:Nat}{s:Sq}(hi:i<110)(hs:(xGj i)[k]?=some s):wK8 s=true :=
 List.all_eq_true.1 (List.all_eq_true.1 wKy i (List.mem_range.2 hi)) s (lMg hs)
end Go.Proofs.Tryz
namespace Go.Proofs.Tryz
open Go Go.Iv
set_option maxRecDepth 4000
variable (gl:Nat->Option IV)
theorem yWp {o:Nat}(ho:o<=7){t:Tag}{fs:List Fm}{xs:List IV}(ht:okEs t 4)(h:IsFms fs xs):IsFm (.mk o bE [] fs) (.agg [.raw (.int .u8 o),.raw (.string ⟨#[]⟩),.sl ⟨true,.nil,0⟩ [],.sl t xs]) :=
 ⟨_,_,_,_,rfl,ho,.inl rfl,rfl,ht,h⟩
theorem yY3 (n:ByteArray):IsFm (.mk 1 n [] []) (.agg [.raw (.int .u8 1),.raw (.string n),.sl ⟨true,.nil,0⟩ [],.sl ⟨true,.nil,0⟩ []]) :=
 ⟨_,_,_,_,rfl,by decide,.inl rfl,rfl,.inl rfl,rfl⟩
theorem wJl (x y:Fm){m:Nat}(hm:m<4):(opsW x y)[m]?=some (.mk (4+m) bE [] [x,y]):=by
 rcases (by omega:m=0\/m=1\/m=2\/m=3) with rfl|rfl|rfl|rfl<;>rfl
theorem xUo (us vs:List Fm)(t t':Tag)(xs ys:List IV)(ht:okEs t 4)(hxs:IsFms us xs)(ht':okEs t' 4)(hys:IsFms vs ys)(ha:us.length<=1000)(hb:vs.length<=1000)(st:ISt) :
  ICall prog gl 7 [.sl t xs,.sl t' ys] st (λr st'=>(∃tg zs,r=.sl tg zs/\okEs tg 4/\IsFms (yV1 us vs) zs)/\st'=st):=by
 have hK:∀k,(yV1 (us.take k) vs).length<=4001000:=λk=>by
  rw[yU3];exact Nat.le_trans (Nat.mul_le_mul (show (us.take k).length<=1000 by rw[List.length_take];omega) (show 4*vs.length+1<=4001 by omega)) (by decide)
 refine iI func7 ?_;simp only[go_sem,zE,zB,zA,zM,zS,zL,reduceCtorEq];refine LoopC.ctr us.length (λk fr st' ds=>(∃tg zs,fr 5=.iv (.sl tg zs)/\IsFms (yV1 (us.take k) vs) zs/\own st' tg (yV1 (us.take k) vs).length 4 st/\subSt st st')/\fr 0=.iv (.sl t xs)/\fr 1=.iv (.sl t' ys)/\fr 6=.iv (.raw (.int .i64 k))/\ds=[]) ?_ ?_ ?_
 ·simp only[go_sem,zE,zB,zA,zM,zS,zL,reduceCtorEq];exact⟨⟨_,_,rfl,rfl,.inl ⟨rfl,rfl⟩,subSt.refl _⟩,rfl⟩
 ·rintro k fr st1 _ hlt ⟨⟨tg,zs,f5,hzs,hown,hsub⟩,f0,f1,f6,rfl⟩;obtain⟨a,hka⟩:=yQ3 hlt;obtain⟨x,hkx,hx⟩:=hxs.get hka;have hk:=hK k;have ho:=λt l st=>s_of gl 3 t l st;have ho':=λ(o:Nat) t l st=>s_of gl o t l st;have hx0:=hx;obtain⟨o7,n7,t7,x7,t8,x8,rfl⟩:=hx.agg;simp only[go_sem,zE,zB,zA,zM,zS,zL,reduceCtorEq,f0,f5,f6,hxs.len,lt_i hlt,yQ2 ht,iNn,hkx,fits,yQ1];intro _;refine (ho _ _ _).mono ?_;rintro _ _ ⟨rfl,rfl⟩;simp only[go_sem,zE,zB,zA,zM,zS,zL,reduceCtorEq,f5,fits,yQ1];refine yZw hown hzs.len hsub rfl (by simp[fits,IV.one]) (by simp only;omega) (by omega) λtg3 st2 hown2 hsub2 _=>?_;have hz2:=hzs.append (IsFms.one (yWp (o:=3) (t:=⟨true,.full,4⟩) (by decide) (.inr rfl) (IsFms.one hx0)));have hW:∀j,(yV1 (us.take k) vs++[Fm.mk 3 bE [] [a]]++(vs.take j).flatMap (opsW a)).length<=4005001:=λj=>by
   simp only[lLa,zWv,List.length_take,List.length_singleton];omega
  simp only[go_sem,zE,zB,zA,zM,zS,zL,reduceCtorEq];refine LoopC.ctr vs.length (λj fr st' ds=>(∃tg zs,fr 5=.iv (.sl tg zs)/\IsFms (yV1 (us.take k) vs++[Fm.mk 3 bE [] [a]]++(vs.take j).flatMap (opsW a)) zs/\own st' tg (yV1 (us.take k) vs++[Fm.mk 3 bE [] [a]]++(vs.take j).flatMap (opsW a)).length 4 st/\subSt st st')/\fr 0=.iv (.sl t xs)/\fr 1=.iv (.sl t' ys)/\fr 6=.iv (.raw (.int .i64 k))/\fr 7=.iv (.raw (.int .i64 j))/\ds=[]) ?_ ?_ ?_
  ·simp only[go_sem,zE,zB,zA,zM,zS,zL,reduceCtorEq,f0,f1,f6];exact⟨⟨_,_,rfl,by rw[List.flatMap_nil,List.append_nil];exact hz2,by rw[List.flatMap_nil,List.append_nil,lLa];exact hown2,hsub2⟩,rfl⟩
  ·rintro j fr st1 _ hlj ⟨⟨tg,zs,f5,hzs,hown,hsub⟩,f0,f1,f6,f7,rfl⟩;obtain⟨b,hkb⟩:=yQ3 hlj;obtain⟨y,hky,hy⟩:=hys.get hkb;have hj:=hW j;have hy0:=hy;obtain⟨o9,n9,t9,x9,t10,x10,rfl⟩:=hy.agg;simp only[go_sem,zE,zB,zA,zM,zS,zL,reduceCtorEq,f1,f7,hys.len,lt_i hlj];intro _;refine LoopC.ctr 4 (λm fr st' ds=>(∃tg zs,fr 5=.iv (.sl tg zs)/\IsFms (yV1 (us.take k) vs++[Fm.mk 3 bE [] [a]]++(vs.take j).flatMap (opsW a)++(opsW a b).take m) zs/\own st' tg (yV1 (us.take k) vs++[Fm.mk 3 bE [] [a]]++(vs.take j).flatMap (opsW a)++(opsW a b).take m).length 4 st/\subSt st st')/\fr 0=.iv (.sl t xs)/\fr 1=.iv (.sl t' ys)/\fr 6=.iv (.raw (.int .i64 k))/\fr 7=.iv (.raw (.int .i64 j))/\fr 8=.iv (.raw (.int .u8 (4+m:Nat)))/\ds=[]) ?_ ?_ ?_
   ·simp only[go_sem,zE,zB,zA,zM,zS,zL,reduceCtorEq,f0,f1,f6,f7,f5];exact⟨⟨_,_,rfl,hzs,hown,hsub⟩,rfl⟩
   ·rintro m fr st1 _ hlm ⟨⟨tg,zs,f5,hzs,hown,hsub⟩,f0,f1,f6,f7,f8,rfl⟩;have hm7:decide (((4+m:Nat):Int)<=7)=true:=dEt (by omega);have hlen:=hzs.len;have hb4:(yV1 (us.take k) vs++[Fm.mk 3 bE [] [a]]++(vs.take j).flatMap (opsW a)++(opsW a b).take m).length<=4005005:=by
     rw[lLa,List.length_take];omega
    simp only[go_sem,zE,zB,zA,zM,zS,zL,reduceCtorEq,f0,f1,f5,f6,f7,f8,hm7,fits,yQ2 ht,yQ2 ht',iNn,hkx,hky,hxs.len,hys.len,show ∀a b,yZk 2 [(0,a),(1,b)]=true from λ_ _=>rfl];refine (ho' _ _ _ _).mono ?_;rintro _ _ ⟨rfl,rfl⟩;simp only[go_sem,zE,zB,zA,zM,zS,zL,reduceCtorEq,f0,f1,f5,f6,f7,f8,fits,yQ1];refine yZw hown hlen hsub rfl (by simp[fits,IV.one]) (by simp only;omega) (by omega) λtg4 st5 hown4 hsub4 _=>?_;simp only[go_sem,zE,zB,zA,zM,zS,zL,reduceCtorEq,f0,f1,f5,f6,f7,f8];have e:IntKind.u8.wrap (((4+m:Nat):Int)+1)=((4+(m+1):Nat):Int):=by
     rcases (by omega:m=0\/m=1\/m=2\/m=3) with rfl|rfl|rfl|rfl<;>rfl
    rw[e,yQ8 (wJl a b hlm),<- List.append_assoc];exact⟨⟨_,_,rfl,hzs.append (IsFms.one (yWp (t:=⟨true,.full,4⟩) (by omega) (.inr rfl) ⟨_,_,rfl,hx0,IsFms.one hy0⟩)),by rw[lLa];exact hown4,hsub4⟩,rfl⟩
   ·rintro fr st1 _ ⟨⟨tg,zs,f5,hzs,hown,hsub⟩,f0,f1,f6,f7,f8,rfl⟩;rw[show (opsW a b).take 4=opsW a b from rfl] at hzs hown;simp only[go_sem,zE,zB,zA,zM,zS,zL,reduceCtorEq,f0,f1,f5,f6,f7,f8,show decide (((8:Nat):Int)<=7)=false from rfl,yQa hlj (show vs.length<=281474976710656 by omega)];rw[yQ8 hkb,List.flatMap_append,List.flatMap_singleton,<- List.append_assoc];exact⟨_,_,rfl,hzs,hown,hsub⟩
  ·rintro fr st1 _ ⟨⟨tg,zs,f5,hzs,hown,hsub⟩,f0,f1,f6,f7,rfl⟩;rw[lTl] at hzs hown;simp only[go_sem,zE,zB,zA,zM,zS,zL,reduceCtorEq,f0,f1,f5,f6,f7,hys.len,yQk (nLi _),yQa hlt (show us.length<=281474976710656 by omega)];intro _;have e:yV1 (us.take (k+1)) vs=yV1 (us.take k) vs++[Fm.mk 3 bE [] [a]]++vs.flatMap (opsW a):=by
    rw[yQ8 hka];simp[yV1]
   exact⟨tg,zs,rfl,by rw[e];exact hzs,by rw[e];exact hown,hsub⟩
 ·rintro fr st1 _ ⟨⟨tg,zs,f5,hzs,hown,hsub⟩,f0,f1,f6,rfl⟩;rw[lTl] at hzs;simp only[go_sem,zE,zB,zA,zM,zS,zL,reduceCtorEq,f0,f5,f6,hxs.len,yQk (nLi _)];intro _;exact yQb hsub ⟨⟨tg,zs,rfl,hown.es,hzs⟩,rfl⟩
set_option maxRecDepth 8000
def fR:Fm:=.mk 1 ⟨#[82]⟩ [] []
def fS:Fm:=.mk 1 ⟨#[83]⟩ [] []
noncomputable def wK9 (rule:Nat)(m:Fm):Bool:=decide (m.size<=20)&&decide ((yVp 1 rule m tm0 bE).1.length<=2)&&(yVp 1 rule m tm0 bE).1.all λq=>decide (yQ7 q.l+yQ7 q.r<=60)&&(!q.l.isEmpty || !q.r.isEmpty)
theorem vXy {k w:Nat}(hk:k<2)(hw:w<16):(if 0<=IntKind.i64.wrap (2*(k:Int)) then some (Value.int IntKind.i64 ((w:Int).fdiv (2 ^ min (IntKind.i64.wrap (2*(k:Int))).toNat 64))) else none)=some (Value.int .i64 ((w / 4 ^ k:Nat):Int)):=by
 have h:∀(k:Fin 2) (w:Fin 16),0<=IntKind.i64.wrap (2*(k.val:Int))/\(w.val:Int).fdiv (2 ^ min (IntKind.i64.wrap (2*(k.val:Int))).toNat 64)=((w.val / 4 ^ k.val:Nat):Int):=by decide
 obtain⟨h1,h2⟩:=h ⟨k,hk⟩ ⟨w,hw⟩;rw[if_pos h1,h2]
theorem vW1:∀i,fldI prog 107 i=none:=λi=>by
 cases h:fldI prog 107 i with
 | none=>rfl
 | some f =>
  obtain⟨fs,_,h1,_⟩:=zX6 (fo:=f.1) (ag:=f.2.1) (n:=f.2.2) h;have h2:(match prog.underlying 107 with|some (.struct _)=>true|_=>false)=false:=by kernel_rfl
  rw[h1] at h2;cases h2
theorem vW0:yZ9 prog 107=true:=by kernel_rfl
theorem vW3 {v:Nat}(hv:v<16):(BitVec.ofInt 64 (v:Int) &&& BitVec.ofInt 64 3).toNat=0\/(BitVec.ofInt 64 (v:Int) &&& BitVec.ofInt 64 3).toNat=1\/(BitVec.ofInt 64 (v:Int) &&& BitVec.ofInt 64 3).toNat=2\/(BitVec.ofInt 64 (v:Int) &&& BitVec.ofInt 64 3).toNat=3:=by
 have h:∀v:Fin 16,(BitVec.ofInt 64 (v.val:Int) &&& BitVec.ofInt 64 3).toNat=0\/(BitVec.ofInt 64 (v.val:Int) &&& BitVec.ofInt 64 3).toNat=1\/(BitVec.ofInt 64 (v.val:Int) &&& BitVec.ofInt 64 3).toNat=2\/(BitVec.ofInt 64 (v.val:Int) &&& BitVec.ofInt 64 3).toNat=3:=by decide
 exact h ⟨v,hv⟩
theorem wVs:IsTm tm0 (.agg [.raw (.bool false),.raw (.string ⟨#[]⟩),.sl ⟨true,.nil,0⟩ []]):=by
 simp only[tm0,IsTm];exact⟨_,_,rfl,.inl rfl,rfl⟩
theorem yGy {rule:Nat}(hr:rule<256){s:Sq}{tl tr t t' tS:Tag}{xl xr x x' yS:List IV}{o:Nat}{n:ByteArray}{ts:List Tr}{c:Fm}(e1:okEs tl 4)(i1:IsFms s.l xl)(e2:okEs tr 4)(i2:IsFms s.r xr)(hc:IsFm c (.agg [.raw (.int .u8 o),.raw (.string n),.sl t x,.sl t' x']))(he:okEs tS 12)(hts:IsTrs ts yS) :
  IsTr (.mk rule s c tm0 bE ts) (.agg [.raw (.int .u8 rule),.sl tl xl,.sl tr xr,.raw (.int .u8 o),.raw (.string n),.sl t x,.sl t' x',.raw (.bool false),.raw (.string ⟨#[]⟩),.sl ⟨true,.nil,0⟩ [],.raw (.string ⟨#[]⟩),.sl tS yS]):=by
 simp only[IsTr];exact⟨_,_,_,_,_,_,_,_,_,_,_,_,_,_,_,_,rfl,hr,e1,i1,e2,i2,hc,wVs,he,hts⟩
theorem yUx:IsTrs [] []:=rfl
theorem zQe {l r:List Fm}{c:Fm}(h:yQ7 l+yQ7 r<=900)(hc:c.size<=900):smT (.mk 1 ⟨l,r⟩ c tm0 bE [])=true:=by
 simp only[smT,smTs,Bool.and_true,bAt,dTe];exact⟨⟨by omega,by omega⟩,by decide⟩
theorem yG9:∀(ts:List Tr)(a:Tr),smTs ts=true->smT a=true->smTs (ts++[a])=true/\yQm (ts++[a])=yQm ts+a.steps
 | [],a,_,h=>by simp[smTs,yQm,h]
 | b::ts,a,h,ha=>by
  simp only[smTs,bAt] at h;have:=yG9 ts a h.2 ha;simp only[List.cons_append,smTs,yQm,h.1,this.1,this.2,Bool.and_self,true_and];omega
theorem wUi (G:Gl gl)(rule:Nat)(hr:rule<256)(main:Fm)(y:IV)(hy:IsFm main y)(hA:wK9 rule main=true)(w:Nat)(hw:w<16)(st:ISt) :
  ICall prog gl 13 [.raw (.int .u8 rule),y,.raw (.int .i64 w)] st (λr st'=>(∃t,IsTr t r/\smT t=true/\t.steps<=300)/\st'=st):=by
 unfold wK9 at hA;simp only[bAt,dTe,List.all_eq_true] at hA;obtain⟨⟨hm,hlen⟩,hall⟩:=hA;have hC:=λst=>(wXc gl G 1 rule main y hy (by omega) tm0 _ wVs (by decide) bE st).mono AdRD.w;have hP:=λn st=>s_p gl n st;have hF:=λt l st=>s_fs gl t l st;have hS:=λt l t' l' st=>s_sq gl t l t' l' st;have hy0:=hy;obtain⟨o3,n3,t3,x3,t4,x4,rfl⟩:=hy.agg;have hN:=λru o n t x t' x' tl xl tr xr ts xs st=>zV5 gl ru o n t x t' x' tl xl tr xr ts xs st;have ip2:∀a b,yZk 2 [(0,a),(1,b)]=true:=λ_ _=>rfl;have io0:yZk 0 []=true:=rfl;have ip3:∀a b c,yZk 3 [(0,a),(1,b),(2,c)]=true:=λ_ _ _=>rfl;refine ICall.intro (c:=cf prog gl [] [(1,[1,5,10,0,2,3,4,6,7,8,9,11]),(7,[0,1,2,3,4,5,7,8,10,11,12,14,15,16,17,18,21,6,9,13,19,20,22]),(8,[1,3,5,6,7,8,9,11,0,2,4,10,12]),(13,[0,1,2,3,5,6,8,9,10,11,13,14,4,7,12,15,16,17,18])]) func13 rfl (by show _<=151;simp) (by kernel_rfl) ?_;simp only[go_sem,zE,zB,zA,zM,zS,zL,reduceCtorEq,fits,ip2,ip3,List.size_toArray];refine (hP _ _).mono ?_;rintro _ st ⟨rfl,rfl⟩;simp only[go_sem,zE,zB,zA,zM,zS,zL,reduceCtorEq,fits,ip2,ip3,List.size_toArray];refine (hP _ _).mono ?_;rintro _ st ⟨rfl,rfl⟩;simp only[go_sem,zE,zB,zA,zM,zS,zL,reduceCtorEq,fits,ip2,ip3,List.size_toArray];refine (hF _ _ _).mono ?_;rintro _ st ⟨rfl,rfl⟩;simp only[go_sem,zE,zB,zA,zM,zS,zL,reduceCtorEq,fits,ip2,ip3,List.size_toArray];refine (hP _ _).mono ?_;rintro _ st ⟨rfl,rfl⟩;simp only[go_sem,zE,zB,zA,zM,zS,zL,reduceCtorEq,fits,ip2,ip3,List.size_toArray];refine (hF _ _ _).mono ?_;rintro _ st ⟨rfl,rfl⟩;simp only[go_sem,zE,zB,zA,zM,zS,zL,reduceCtorEq,fits,ip2,ip3,List.size_toArray];refine (hS _ _ _ _ _).mono ?_;rintro _ st ⟨rfl,rfl⟩;simp only[go_sem,zE,zB,zA,zM,zS,zL,reduceCtorEq,fits,ip2,ip3,List.size_toArray];refine (hC _).mono ?_;rintro _ st ⟨tg,xs,rfl,htg,hxs,rfl⟩;generalize (yVp 1 rule main tm0 bE).1=ad at *;simp only[go_sem,zE,zB,zA,zM,zS,zL,reduceCtorEq,fits,ip2,ip3];refine (hN _ _ _ _ _ _ _ _ _ _ _ _ _ _).mono ?_;rintro _ st ⟨rfl,rfl⟩;simp only[go_sem,zE,zB,zA,zM,zS,zL,reduceCtorEq,fits];have hz1:IsFms [fR,main,fS] [.agg [.raw (.int .u8 1),.raw (.string ⟨#[82]⟩),.sl ⟨true,.nil,0⟩ [],.sl ⟨true,.nil,0⟩ []],.agg [.raw (.int .u8 o3),.raw (.string n3),.sl t3 x3,.sl t4 x4],.agg [.raw (.int .u8 1),.raw (.string ⟨#[83]⟩),.sl ⟨true,.nil,0⟩ [],.sl ⟨true,.nil,0⟩ []]]:=⟨_,_,rfl,yY3 _,_,_,rfl,hy0,IsFms.one (yY3 _)⟩
 have hz2:IsFms [main,fR] [.agg [.raw (.int .u8 o3),.raw (.string n3),.sl t3 x3,.sl t4 x4],.agg [.raw (.int .u8 1),.raw (.string ⟨#[82]⟩),.sl ⟨true,.nil,0⟩ [],.sl ⟨true,.nil,0⟩ []]]:=⟨_,_,rfl,hy0,IsFms.one (yY3 _)⟩
 revert hz1 hz2;generalize ([.agg [.raw (.int .u8 1),.raw (.string ⟨#[82]⟩),.sl ⟨true,.nil,0⟩ [],.sl ⟨true,.nil,0⟩ []],.agg [.raw (.int .u8 o3),.raw (.string n3),.sl t3 x3,.sl t4 x4],.agg [.raw (.int .u8 1),.raw (.string ⟨#[83]⟩),.sl ⟨true,.nil,0⟩ [],.sl ⟨true,.nil,0⟩ []]]:List IV)=z1;generalize ([.agg [.raw (.int .u8 o3),.raw (.string n3),.sl t3 x3,.sl t4 x4],.agg [.raw (.int .u8 1),.raw (.string ⟨#[82]⟩),.sl ⟨true,.nil,0⟩ [],.sl ⟨true,.nil,0⟩ []]]:List IV)=z2;intro hz1 hz2;have l1:z1.length=3:=hz1.len;have l2:z2.length=2:=hz2.len;refine LoopC.ctr ad.length (λk fr st' ds=>(∃t1 x1 t2 x2 tS yS,∃q:Sq,∃ts:List Tr,fr 10=.box [.raw (.int .u8 rule),.sl t1 x1,.sl t2 x2,.raw (.int .u8 o3),.raw (.string n3),.sl t3 x3,.sl t4 x4,.raw (.bool false),.raw (.string ⟨#[]⟩),.sl ⟨true,.nil,0⟩ [],.raw (.string ⟨#[]⟩),.sl tS yS]/\okEs t1 4/\IsFms q.l x1/\okEs t2 4/\IsFms q.r x2/\yQ7 q.l+yQ7 q.r<=100+200*k/\IsTrs ts yS/\smTs ts=true/\ts.length=k/\yQm ts=k/\own st' tS k 12 st/\subSt st st')/\fr 4=.box [.raw (.int .u8 o3),.raw (.string n3),.sl t3 x3,.sl t4 x4]/\fr 7=.box [.sl ⟨true,.full,4⟩ z1,.sl ⟨true,.full,4⟩ z2]/\fr 8=.iv (.sl tg xs)/\fr 6=.box [.raw (.int .u8 0),.sl ⟨true,.nil,0⟩ [],.sl ⟨true,.nil,0⟩ [],.raw (.int .u8 0),.raw (.string ⟨#[]⟩),.sl ⟨true,.nil,0⟩ [],.sl ⟨true,.nil,0⟩ [],.raw (.bool false),.raw (.string ⟨#[]⟩),.sl ⟨true,.nil,0⟩ [],.raw (.string ⟨#[]⟩),.sl ⟨true,.nil,0⟩ []]/\fr 2=.iv (.raw (.int .i64 w))/\fr 11=.iv (.raw (.int .i64 k))/\ds=[]) ?_ ?_ ?_
 ·simp only[go_sem,zE,zB,zA,zM,zS,zL,reduceCtorEq];exact⟨⟨_,_,_,_,_,_,⟨[fR,main,fS],[main,fR]⟩,[],rfl,.inr rfl,hz1,.inr rfl,hz2,by simp only[yQ7,yQy,fR,fS,Fm.size];omega,rfl,rfl,rfl,rfl,own.nil _ _ _ _ _,subSt.refl _⟩,rfl⟩
 ·rintro k fr st1 _ hlt ⟨⟨t1,x1,t2,x2,tS,yS,q,ts,f10,e1,i1,e2,i2,hq,hts,hsm,htl,hst,hown,hsub⟩,f4,f7,f8,f6,f2,f11,rfl⟩;obtain⟨a,hka⟩:=yQ3 hlt;obtain⟨x,hkx,hx⟩:=hxs.get hka;obtain⟨ta1,xa1,ta2,xa2,rfl,ea1,ia1,ea2,ia2⟩:=hx;obtain⟨hq1,hne⟩:=hall a (lMg hka);have g1:=yQj a.l;have g2:=yQj a.r;simp only[go_sem,zE,zB,zA,zM,zS,zL,reduceCtorEq,f2,f4,f7,f8,f11,hxs.len,lt_i hlt,yQ2 htg,iNn,hkx,fits,io0];intro _;refine yZz (m:=a.l.length) (own.full st1 st1 0 4) rfl ia1.len (subSt.refl _) rfl (yX6 ia1) (by simp only;omega) (by omega) λu1 st2 hw2 hs2 _=>?_;rw[Nat.zero_add] at hw2;simp only[go_sem,zE,zB,zA,zM,zS,zL,reduceCtorEq,f2,f4,f7,f8,f11,hxs.len,yQ2 htg,iNn,hkx,fits,io0];refine yZz (m:=3) hw2 ia1.len l1 hs2 rfl (yX6 hz1) (by simp only;omega) (by omega) λu2 st3 hw3 hs3 _=>?_;simp only[go_sem,zE,zB,zA,zM,zS,zL,reduceCtorEq,f2,f4,f7,f8,f11,hxs.len,yQ2 htg,iNn,hkx,fits,io0];refine yZz (m:=2) (own.full st3 st3 0 4) rfl l2 (subSt.refl _) rfl (yX6 hz2) (by simp only;omega) (by omega) λu3 st4 hw4 hs4 _=>?_;rw[Nat.zero_add] at hw4;simp only[go_sem,zE,zB,zA,zM,zS,zL,reduceCtorEq,f2,f4,f7,f8,f11,hxs.len,yQ2 htg,iNn,hkx,fits,io0];intros;refine yZz (m:=a.r.length) hw4 l2 ia2.len hs4 rfl (yX6 ia2) (by simp only;omega) (by omega) λu4 st5 hw5 hs5 _=>?_;simp only[go_sem,zE,zB,zA,zM,zS,zL,reduceCtorEq,f2,f4,f7,f8,f11,hxs.len,yQ2 htg,iNn,hkx,fits,io0];refine (hS _ _ _ _ _).mono ?_;rintro _ st ⟨rfl,rfl⟩;simp only[go_sem,zE,zB,zA,zM,zS,zL,reduceCtorEq,f2,f4,f7,f8,f11,hxs.len,yQ2 htg,iNn,hkx,fits,io0];have hv:w / 4 ^ k<16:=Nat.lt_of_le_of_lt (Nat.div_le_self _ _) hw;have eW:=vXy (show k<2 by omega) hw;generalize w / 4 ^ k=v at *;simp only[go_sem,zE,zB,zA,zM,zS,zL,reduceCtorEq,eW,List.size_toArray];refine (hP _ _).mono ?_;rintro _ st ⟨rfl,rfl⟩;simp only[go_sem,zE,zB,zA,zM,zS,zL,reduceCtorEq,fits,f4,List.size_toArray];refine (hP _ _).mono ?_;rintro _ st ⟨rfl,rfl⟩;simp only[go_sem,zE,zB,zA,zM,zS,zL,reduceCtorEq,fits,f4,vW1,vW0,show ∀b:Option (Nat×Bool×Nat),orO none b=b from λ_=>rfl,Option.map_some];have ha2:=vW3 hv;have hu2:=hw3.es;have hu4:=hw5.es;have hLR:yQ7 (a.l++[fR,main,fS])+yQ7 ([main,fR]++a.r)<=900:=by
   simp only[yZs,yQ7,yQy,fR,fS,Fm.size];omega
  have g3:=yQj q.l;have g4:=yQj q.r;have hyl:yS.length=k:=by rw[hts.len,htl]
  have hown5:own st tS k 12 _:=hown.mono λg hg _=>hs5 _ _ (hs3 _ _ hg);have hsub5:=(hsub.trans hs3).trans hs5;generalize hvj:(@HAnd.hAnd (BitVec 64) (BitVec 64) (BitVec 64) (@instHAndOfAndOp (BitVec IntKind.i64.bits) _) (BitVec.ofInt 64 (v:Int)) (BitVec.ofInt 64 3)).toNat=vj;replace ha2:vj=0\/vj=1\/vj=2\/vj=3:=by rw[<- hvj];exact ha2
  have i00:((0:Int)<=0)=True:=eq_true (by decide);have j00:Int.toNat 0=0:=rfl;have w0:IntKind.i64.wrap ((0:Nat):Int)=0:=rfl;have w1:IntKind.i64.wrap ((1:Nat):Int)=1:=rfl;have w2:IntKind.i64.wrap ((2:Nat):Int)=2:=rfl;have w3:IntKind.i64.wrap ((3:Nat):Int)=3:=rfl;rcases ha2 with rfl|rfl|rfl|rfl
  ·simp only[go_sem,zE,zB,zA,zM,zS,zL,reduceCtorEq,eW,w0,hvj,fits,f2,f4,f8,f10,f11,hkx,yQ2 htg,iNn,hxs.len,show (0<=(0:Int)/\(0:Int)<((4:Nat):Int))=True from eq_true (by decide),show Int.toNat 0=0 from rfl,List.take_succ_cons,List.drop_succ_cons,List.take_zero,List.drop_zero,List.drop_nil,decide_true,show decide ((0:Int)=2)=false from rfl];have hc9:fR.size<=900:=by decide
   refine (hN _ _ _ _ _ _ _ _ _ _ _ _ _ _).mono ?_;rintro _ st ⟨rfl,rfl⟩;simp only[go_sem,zE,zB,zA,zM,zS,zL,reduceCtorEq,fits,yQ1,f10];refine yZw hown5 hyl hsub5 rfl (by simp[fits,IV.one]) (by simp only;omega) (by omega) λtg9 st9 hown9 hsub9 _=>?_;simp only[go_sem,zE,zB,zA,zM,zS,zL,reduceCtorEq,f2,f4,f6,f7,f8,f10,f11,yQa hlt (show ad.length<=281474976710656 by omega)];have hlf:=yG9 ts (.mk 1 ⟨(a.l++[fR,main,fS]),([main,fR]++a.r)⟩ fR tm0 bE []) hsm (zQe hLR hc9);exact⟨_,_,_,_,_,_,q,ts++[.mk 1 ⟨(a.l++[fR,main,fS]),([main,fR]++a.r)⟩ fR tm0 bE []],rfl,e1,i1,e2,i2,by omega,hts.append ⟨_,_,rfl,yGy (by decide) hu2 (ia1.append hz1) hu4 (hz2.append ia2) (yY3 _) (.inl rfl) yUx,rfl⟩,hlf.1,by rw[lLa,htl];rfl,by rw[hlf.2,hst];rfl,hown9,hsub9⟩
  ·simp only[go_sem,zE,zB,zA,zM,zS,zL,reduceCtorEq,eW,w1,hvj,fits,f2,f4,f8,f10,f11,hkx,yQ2 htg,iNn,hxs.len,show (0<=(1:Int)/\(1:Int)<((4:Nat):Int))=True from eq_true (by decide),show Int.toNat 1=1 from rfl,List.take_succ_cons,List.drop_succ_cons,List.take_zero,List.drop_zero,List.drop_nil,decide_true,show decide ((1:Int)=2)=false from rfl];have hc9:main.size<=900:=by omega
   refine (hN _ _ _ _ _ _ _ _ _ _ _ _ _ _).mono ?_;rintro _ st ⟨rfl,rfl⟩;simp only[go_sem,zE,zB,zA,zM,zS,zL,reduceCtorEq,fits,yQ1,f10];refine yZw hown5 hyl hsub5 rfl (by simp[fits,IV.one]) (by simp only;omega) (by omega) λtg9 st9 hown9 hsub9 _=>?_;simp only[go_sem,zE,zB,zA,zM,zS,zL,reduceCtorEq,f2,f4,f6,f7,f8,f10,f11,yQa hlt (show ad.length<=281474976710656 by omega)];have hlf:=yG9 ts (.mk 1 ⟨(a.l++[fR,main,fS]),([main,fR]++a.r)⟩ main tm0 bE []) hsm (zQe hLR hc9);exact⟨_,_,_,_,_,_,q,ts++[.mk 1 ⟨(a.l++[fR,main,fS]),([main,fR]++a.r)⟩ main tm0 bE []],rfl,e1,i1,e2,i2,by omega,hts.append ⟨_,_,rfl,yGy (by decide) hu2 (ia1.append hz1) hu4 (hz2.append ia2) hy0 (.inl rfl) yUx,rfl⟩,hlf.1,by rw[lLa,htl];rfl,by rw[hlf.2,hst];rfl,hown9,hsub9⟩
  ·simp only[go_sem,zE,zB,zA,zM,zS,zL,reduceCtorEq,eW,w2,hvj,fits,f2,f4,f8,f10,f11,hkx,yQ2 htg,iNn,hxs.len,show (0<=(2:Int)/\(2:Int)<((4:Nat):Int))=True from eq_true (by decide),show Int.toNat 2=2 from rfl,List.take_succ_cons,List.drop_succ_cons,List.take_zero,List.drop_zero,List.drop_nil,decide_true,show decide ((2:Int)=2)=true from rfl];have hz5:own st u2 (a.l.length+3) 4 st1:=hw3.mono λg hg _=>hs5 _ _ hg;rcases hla:a.l with _|⟨f0,l0⟩
   ·have hpos:decide ((0:Int)<(a.l.length:Int))=false:=by rw[hla];rfl
    rcases hra:a.r with _|⟨f0,l0⟩
    ·rw[hla,hra] at hne;cases hne
    obtain⟨y0,hk0,hy1⟩:=ia2.get (k:=0) (a:=f0) (by rw[hra];rfl);have hf0:f0.size<=60:=by
     rw[hra,yQ7] at hq1;omega
    obtain⟨o6,n6,t6,x6,t7,x7,rfl⟩:=hy1.agg;simp only[go_sem,zE,zB,zA,zM,zS,zL,reduceCtorEq,ia1.len,hpos,hk0,f8,f11,hkx,yQ2 htg,yQ2 ea2,iNn,fits,i00,j00,yQ1];intros;refine yZw hz5 (by rw[lLa,l1,ia1.len]) ((hs3.trans hs5)) rfl (by simp[fits,IV.one]) (by simp only;omega) (by omega) λu6 st6 hw6 hs16 _=>?_;simp only[go_sem,zE,zB,zA,zM,zS,zL,reduceCtorEq,f10,yQ1,io0,fits];refine yZz (m:=q.l.length) (own.full st6 st6 0 4) rfl i1.len (subSt.refl _) rfl (yX6 i1) (by simp only;omega) (by omega) λv1 st7 hv1 hs7 _=>?_;rw[Nat.zero_add] at hv1;simp only[go_sem,zE,zB,zA,zM,zS,zL,reduceCtorEq,f10,yQ1,io0,fits];refine yZw hv1 i1.len hs7 rfl (by simp[fits,IV.one]) (by simp only;omega) (by omega) λv2 st8 hv2 hs8 _=>?_;simp only[go_sem,zE,zB,zA,zM,zS,zL,reduceCtorEq,f10,yQ1,io0,fits];refine yZz (m:=q.r.length) (own.full st8 st8 0 4) rfl i2.len (subSt.refl _) rfl (yX6 i2) (by simp only;omega) (by omega) λv3 st9 hv3 hs9 _=>?_;rw[Nat.zero_add] at hv3;simp only[go_sem,zE,zB,zA,zM,zS,zL,reduceCtorEq,f10,yQ1,io0,fits];refine yZw hv3 i2.len hs9 rfl (by simp[fits,IV.one]) (by simp only;omega) (by omega) λv4 st10 hv4 hs10 _=>?_;simp only[go_sem,zE,zB,zA,zM,zS,zL,reduceCtorEq,f10,yQ1,io0,fits];refine (hS _ _ _ _ _).mono ?_;rintro _ st ⟨rfl,rfl⟩;simp only[go_sem,zE,zB,zA,zM,zS,zL,reduceCtorEq,fits,f10];have hs1:=(hs16.trans hs8).trans hs10;have hown1:own st tS k 12 _:=hown.mono λg hg _=>hs1 _ _ hg;have hc9:f0.size<=900:=by omega
    have hLR:yQ7 (a.l++[fR,main,fS]++[f0])+yQ7 ([main,fR]++a.r)<=900:=by
     simp only[yZs,yQ7,yQy,fR,fS,Fm.size];omega
    refine (hN _ _ _ _ _ _ _ _ _ _ _ _ _ _).mono ?_;rintro _ st ⟨rfl,rfl⟩;simp only[go_sem,zE,zB,zA,zM,zS,zL,reduceCtorEq,fits,yQ1,f10];refine yZw hown1 hyl (hsub.trans hs1) rfl (by simp[fits,IV.one]) (by simp only;omega) (by omega) λtg9 st9 hown9 hsub9 _=>?_;simp only[go_sem,zE,zB,zA,zM,zS,zL,reduceCtorEq,f2,f4,f6,f7,f8,f10,f11,yQa hlt (show ad.length<=281474976710656 by omega)];have hlf:=yG9 ts (.mk 1 ⟨(a.l++[fR,main,fS]++[f0]),([main,fR]++a.r)⟩ f0 tm0 bE []) hsm (zQe hLR hc9);exact⟨_,_,_,_,_,_,⟨q.l++[f0],q.r++[f0]⟩,ts++[.mk 1 ⟨(a.l++[fR,main,fS]++[f0]),([main,fR]++a.r)⟩ f0 tm0 bE []],rfl,hv2.es,i1.append (IsFms.one hy1),hv4.es,i2.append (IsFms.one hy1),by simp only[yZs,yQ7];omega,hts.append ⟨_,_,rfl,yGy (by decide) hw6.es ((ia1.append hz1).append (IsFms.one hy1)) hu4 (hz2.append ia2) hy1 (.inl rfl) yUx,rfl⟩,hlf.1,by rw[lLa,htl];rfl,by rw[hlf.2,hst];rfl,hown9,hsub9⟩
   ·have hpos:decide ((0:Int)<(a.l.length:Int))=true:=dEt (by rw[hla,List.length_cons];omega);obtain⟨y0,hk0,hy1⟩:=ia1.get (k:=0) (a:=f0) (by rw[hla];rfl);have hf0:f0.size<=60:=by
     rw[hla,yQ7] at hq1;omega
    obtain⟨o6,n6,t6,x6,t7,x7,rfl⟩:=hy1.agg;simp only[go_sem,zE,zB,zA,zM,zS,zL,reduceCtorEq,ia1.len,hpos,hk0,f8,f11,hkx,yQ2 htg,yQ2 ea1,iNn,fits,i00,j00,yQ1];intros;refine yZw hw5 (by rw[lLa,l2,ia2.len]) hs5 rfl (by simp[fits,IV.one]) (by simp only;omega) (by omega) λu6 st6 hw6 hs6 _=>?_;have hs16:=hs3.trans hs6;simp only[go_sem,zE,zB,zA,zM,zS,zL,reduceCtorEq,f10,yQ1,io0,fits];refine yZz (m:=q.l.length) (own.full st6 st6 0 4) rfl i1.len (subSt.refl _) rfl (yX6 i1) (by simp only;omega) (by omega) λv1 st7 hv1 hs7 _=>?_;rw[Nat.zero_add] at hv1;simp only[go_sem,zE,zB,zA,zM,zS,zL,reduceCtorEq,f10,yQ1,io0,fits];refine yZw hv1 i1.len hs7 rfl (by simp[fits,IV.one]) (by simp only;omega) (by omega) λv2 st8 hv2 hs8 _=>?_;simp only[go_sem,zE,zB,zA,zM,zS,zL,reduceCtorEq,f10,yQ1,io0,fits];refine yZz (m:=q.r.length) (own.full st8 st8 0 4) rfl i2.len (subSt.refl _) rfl (yX6 i2) (by simp only;omega) (by omega) λv3 st9 hv3 hs9 _=>?_;rw[Nat.zero_add] at hv3;simp only[go_sem,zE,zB,zA,zM,zS,zL,reduceCtorEq,f10,yQ1,io0,fits];refine yZw hv3 i2.len hs9 rfl (by simp[fits,IV.one]) (by simp only;omega) (by omega) λv4 st10 hv4 hs10 _=>?_;simp only[go_sem,zE,zB,zA,zM,zS,zL,reduceCtorEq,f10,yQ1,io0,fits];refine (hS _ _ _ _ _).mono ?_;rintro _ st ⟨rfl,rfl⟩;simp only[go_sem,zE,zB,zA,zM,zS,zL,reduceCtorEq,fits,f10];have hs1:=(hs16.trans hs8).trans hs10;have hown1:own st tS k 12 _:=hown.mono λg hg _=>hs1 _ _ hg;have hc9:f0.size<=900:=by omega
    have hLR:yQ7 (a.l++[fR,main,fS])+yQ7 ([main,fR]++a.r++[f0])<=900:=by
     simp only[yZs,yQ7,yQy,fR,fS,Fm.size];omega
    refine (hN _ _ _ _ _ _ _ _ _ _ _ _ _ _).mono ?_;rintro _ st ⟨rfl,rfl⟩;simp only[go_sem,zE,zB,zA,zM,zS,zL,reduceCtorEq,fits,yQ1,f10];refine yZw hown1 hyl (hsub.trans hs1) rfl (by simp[fits,IV.one]) (by simp only;omega) (by omega) λtg9 st9 hown9 hsub9 _=>?_;simp only[go_sem,zE,zB,zA,zM,zS,zL,reduceCtorEq,f2,f4,f6,f7,f8,f10,f11,yQa hlt (show ad.length<=281474976710656 by omega)];have hlf:=yG9 ts (.mk 1 ⟨(a.l++[fR,main,fS]),([main,fR]++a.r++[f0])⟩ f0 tm0 bE []) hsm (zQe hLR hc9);exact⟨_,_,_,_,_,_,⟨q.l++[f0],q.r++[f0]⟩,ts++[.mk 1 ⟨(a.l++[fR,main,fS]),([main,fR]++a.r++[f0])⟩ f0 tm0 bE []],rfl,hv2.es,i1.append (IsFms.one hy1),hv4.es,i2.append (IsFms.one hy1),by simp only[yZs,yQ7];omega,hts.append ⟨_,_,rfl,yGy (by decide) hu2 (ia1.append hz1) hw6.es ((hz2.append ia2).append (IsFms.one hy1)) hy1 (.inl rfl) yUx,rfl⟩,hlf.1,by rw[lLa,htl];rfl,by rw[hlf.2,hst];rfl,hown9,hsub9⟩
  ·simp only[go_sem,zE,zB,zA,zM,zS,zL,reduceCtorEq,eW,w3,hvj,fits,f2,f4,f8,f10,f11,hkx,yQ2 htg,iNn,hxs.len,show (0<=(3:Int)/\(3:Int)<((4:Nat):Int))=True from eq_true (by decide),show Int.toNat 3=3 from rfl,List.take_succ_cons,List.drop_succ_cons,List.take_zero,List.drop_zero,List.drop_nil,decide_true,show decide ((3:Int)=2)=false from rfl];have hc9:main.size<=900:=by omega
   refine (hN _ _ _ _ _ _ _ _ _ _ _ _ _ _).mono ?_;rintro _ st ⟨rfl,rfl⟩;simp only[go_sem,zE,zB,zA,zM,zS,zL,reduceCtorEq,fits,yQ1,f10];refine yZw hown5 hyl hsub5 rfl (by simp[fits,IV.one]) (by simp only;omega) (by omega) λtg9 st9 hown9 hsub9 _=>?_;simp only[go_sem,zE,zB,zA,zM,zS,zL,reduceCtorEq,f2,f4,f6,f7,f8,f10,f11,yQa hlt (show ad.length<=281474976710656 by omega)];have hlf:=yG9 ts (.mk 1 ⟨(a.l++[fR,main,fS]),([main,fR]++a.r)⟩ main tm0 bE []) hsm (zQe hLR hc9);exact⟨_,_,_,_,_,_,q,ts++[.mk 1 ⟨(a.l++[fR,main,fS]),([main,fR]++a.r)⟩ main tm0 bE []],rfl,e1,i1,e2,i2,by omega,hts.append ⟨_,_,rfl,yGy (by decide) hu2 (ia1.append hz1) hu4 (hz2.append ia2) hy0 (.inl rfl) yUx,rfl⟩,hlf.1,by rw[lLa,htl];rfl,by rw[hlf.2,hst];rfl,hown9,hsub9⟩
 ·rintro fr st1 _ ⟨⟨t1,x1,t2,x2,tS,yS,q,ts,f10,e1,i1,e2,i2,hq,hts,hsm,htl,hst,hown,hsub⟩,f4,f7,f8,f6,f2,f11,rfl⟩;simp only[go_sem,zE,zB,zA,zM,zS,zL,reduceCtorEq,f6,f8,f10,f11,hxs.len,yQk (nLi _)];intro _;refine yQb hsub ⟨⟨.mk rule q main tm0 bE ts,yGy hr e1 i1 e2 i2 hy0 hown.es hts,?_,?_⟩,rfl⟩
  ·simp only[smT,hsm,Bool.and_true,bAt,dTe];exact⟨⟨by omega,by omega⟩,by decide⟩
  ·rw[Tr.steps,hst];omega
theorem wZg {esc:List Nat}{dst:Option Nat}{e:TypeId×Bool×Nat×Nat}{tg:Tag}{zs:List IV}{y:IV}{R:Rt}{st S0:ISt}{ds:List Dfd}{n s:Nat}(h:own st tg n s S0)(hlen:zs.length=n)(hsub:subSt S0 st)(hfl:flatSt st)(he:e.2.2.1=s)
  (hf:fits e.2.1 e.2.2.1 y=true) (hcap:(n+1)*e.2.2.2<=140737488355328) (hcap2:n+1<=140737488355328)
  (k:∀tg' st',own st' tg' (n+1) s S0->subSt S0 st'->flatSt st'->R (.val (.sl tg' (zs++[y]))) st' ds)
  (hesc:yKm esc dst=false:=by first|rfl|simp[yKm]):appV esc dst e tg zs [y] R st ds:=by
 subst hlen he;unfold appV;refine⟨by simp[hf],⟨hcap,hcap2⟩,?_⟩;have hfp:∀(s:ISt) g m,flatSt s->flatSt (s.put g (some (.front m e.2.2.1))):=λs g m h=>h.put λx hx=>by cases hx;trivial
 rcases h with⟨h0,hc⟩|rfl|⟨g0,rfl,h1,h2⟩
 ·have hz:zs=[]:=List.eq_nil_of_length_eq_zero h0;subst hz;rw[hc];simp only[hesc,bFt,if_false];intro g hg;exact k _ _ (.inr (.inr ⟨g,rfl,ISt.put_same _ _ _,yXx hsub hg⟩)) (yQq hsub (yXx hsub hg)) (hfp _ _ _ hfl)
 ·refine⟨rfl,λg hg=>?_⟩;exact k _ _ (.inr (.inr ⟨g,rfl,ISt.put_same _ _ _,yXx hsub hg⟩)) (yQq hsub (yXx hsub hg)) (hfp _ _ _ hfl)
 ·refine⟨rfl,h1,λg hg=>?_⟩;have hgn:S0 g=none:=by
   rcases hg with rfl|hg
   ·exact h2
   ·exact yXx hsub hg
  exact k _ _ (.inr (.inr ⟨g,rfl,ISt.put_same _ _ _,hgn⟩)) (yQq (yQq hsub h2) hgn) (hfp _ _ _ (hfl.put nofun))
theorem vJo (a b:UInt8):(⟨#[65]⟩++⟨#[a,b]⟩:ByteArray)=⟨#[65,a,b]⟩:=by rfl
theorem vJy (i:Nat)(hi:i<36)(st:ISt):ICall prog gl 42 [.raw (.int .i64 i)] st (λr st'=>r=.agg [.raw (.int .u8 1),.raw (.string (nmA i)),.sl ⟨true,.nil,0⟩ [],.sl ⟨true,.nil,0⟩ []]/\st'=st):=by
 have hP:=λn st=>s_p gl n st;have ip2:∀a b,yZk 2 [(0,a),(1,b)]=true:=λ_ _=>rfl;have hf:∀i:Fin 36,IntKind.i64.wrap ((i.val:Int).tdiv 8)=((i.val / 8:Nat):Int)/\(i.val:Int).tmod 8=((i.val%8:Nat):Int)/\IntKind.i64.wrap (97+((i.val / 8:Nat):Int))=((97+i.val / 8:Nat):Int)/\IntKind.i64.wrap (97+((i.val%8:Nat):Int))=((97+i.val%8:Nat):Int)/\IntKind.u8.wrap ((97+i.val / 8:Nat):Int)=((UInt8.ofNat (97+i.val / 8)).toNat:Int)/\IntKind.u8.wrap ((97+i.val%8:Nat):Int)=((UInt8.ofNat (97+i.val%8)).toNat:Int):=by decide
 obtain⟨h1,h2,h3,h4,h5,h6⟩:=hf ⟨i,hi⟩;simp only at h1 h2 h3 h4 h5 h6;have hcv:=λn:Int=>zJw prog 3 5 wUv wUu .i64 n;have hby:∀a b:UInt8,yY5 [.raw (.int .u8 (a.toNat:Int)),.raw (.int .u8 (b.toNat:Int))]=some [a,b]:=λa b=>by simp only[zK2,zVy,Option.map_some]
 refine iI func42 ?_;simp only[go_sem,zE,zB,zA,zM,zS,zL,reduceCtorEq,fits,ip2,show ((8:Int)=0)=False from eq_false (by decide),h1,h2,h3,h4,h5,h6,hcv,hby,Option.bind_some,List.size_toArray];rw[vJo];refine (hP _ _).mono ?_;rintro _ st ⟨rfl,rfl⟩;simp only[go_sem,zE,zB,zA,zM,zS,zL,reduceCtorEq,fits];exact yQ0 ⟨rfl,rfl⟩
def csF (k:Nat):List Fm:=(List.range k).map fA
theorem kQq (k:Nat):csF (k+1)=csF k++[fA k]:=by simp[csF,List.range_succ]
theorem vQg (k:Nat):(csF k).length=k:=by simp[csF]
theorem vVd:∀k:Fin 18,yQ7 (csF (k.val+1))+yQ7 [fA 0]<=900:=by decide +kernel
theorem zJk {t t':Tag}{l r:List Fm}{x x':List IV}(e1:okEs t 4)(h1:IsFms l x)(e2:okEs t' 4)(h2:IsFms r x'):IsSq ⟨l,r⟩ (.agg [.sl t x,.sl t' x']):=⟨_,_,_,_,rfl,e1,h1,e2,h2⟩
theorem wK0 (G:Gl gl)(hgl:∀g x,gl g=some x->age x=x)(st:ISt)(hfl:flatSt st):ICall prog gl 14 [] st (λr st'=>r=.raw (.bool true)/\st'=st):=by
 have hP:=λi hi st=>vJy gl i hi st;have hF:=λt l st=>s_fs gl t l st;have hO:=λt l st=>s_of gl 4 t l st;have hS:=λt l t' l' st=>s_sq gl t l t' l' st;have hN:=λru o n t x t' x' tl xl tr xr ts xs st=>zV5 gl ru o n t x t' x' tl xl tr xr ts xs st;have ip2:∀a b,yZk 2 [(0,a),(1,b)]=true:=λ_ _=>rfl;have n0:(0:Int)=((0:Nat):Int):=rfl;refine iI func14 ?_;simp only[go_sem,zE,zB,zA,zM,zS,zL,reduceCtorEq];refine LoopC.ctr 18 (λk fr st' ds=>(∃tg zs,fr 2=.iv (.sl tg zs)/\IsFms (csF k) zs/\own st' tg k 4 st/\subSt st st'/\flatSt st')/\fr 1=.iv (.fn (.func 42) [] [])/\fr 3=.iv (.raw (.int .i64 k))/\ds=[]) ?_ ?_ ?_
 ·simp only[go_sem,zE,zB,zA,zM,zS,zL,reduceCtorEq];exact⟨⟨_,_,rfl,rfl,own.nil _ _ _ _ _,subSt.refl _,hfl⟩,rfl⟩
 ·rintro k fr st1 _ hlt ⟨⟨tg,zs,f2,hzs,hown,hsub,hfl1⟩,f1,f3,rfl⟩;have hzl:zs.length=k:=by rw[hzs.len,vQg]
  simp only[go_sem,zE,zB,zA,zM,zS,zL,reduceCtorEq,f1,f2,f3,show decide ((k:Int)<18)=true from dEt (by omega)];refine (hP k (by omega) _).mono ?_;rintro _ _ ⟨rfl,rfl⟩;simp only[go_sem,zE,zB,zA,zM,zS,zL,reduceCtorEq,f1,f2,f3,yQ1,fits];refine wZg hown hzl hsub hfl1 rfl (by simp[fits,IV.one]) (by simp only;omega) (by omega) λtg3 st2 hown2 hsub2 hfl2=>?_;have hz2:IsFms (csF (k+1)) (zs++[.agg [.raw (.int .u8 1),.raw (.string (nmA k)),.sl ⟨true,.nil,0⟩ [],.sl ⟨true,.nil,0⟩ []]]):=by
   rw[kQq];exact hzs.append (IsFms.one (yY3 _))
  have hz3:IsFms [fA 0] [.agg [.raw (.int .u8 1),.raw (.string (nmA 0)),.sl ⟨true,.nil,0⟩ [],.sl ⟨true,.nil,0⟩ []]]:=IsFms.one (yY3 _);by_cases h14:14<=k
  ·simp only[go_sem,zE,zB,zA,zM,zS,zL,reduceCtorEq,f1,f2,f3,show decide ((14:Int)<=(k:Int))=true from dEt (by omega),yQ1,fits];refine (hP 0 (by omega) _).mono ?_;rintro _ _ ⟨rfl,rfl⟩;simp only[go_sem,zE,zB,zA,zM,zS,zL,reduceCtorEq,f1,f2,f3,yQ1,fits];refine (hP 0 (by omega) _).mono ?_;rintro _ _ ⟨rfl,rfl⟩;simp only[go_sem,zE,zB,zA,zM,zS,zL,reduceCtorEq,f1,f2,f3,yQ1,fits];refine (hF _ _ _).mono ?_;rintro _ _ ⟨rfl,rfl⟩;simp only[go_sem,zE,zB,zA,zM,zS,zL,reduceCtorEq,f1,f2,f3,yQ1,fits];refine (hS _ _ _ _ _).mono ?_;rintro _ _ ⟨rfl,rfl⟩;simp only[go_sem,zE,zB,zA,zM,zS,zL,reduceCtorEq,f1,f2,f3,yQ1,fits];refine (hN _ _ _ _ _ _ _ _ _ _ _ _ _ _).mono ?_;rintro _ _ ⟨rfl,rfl⟩;simp only[go_sem,zE,zB,zA,zM,zS,zL,reduceCtorEq,f1,f2,f3,yQ1,fits];refine (xXc gl G hgl (.mk 1 ⟨csF (k+1),[fA 0]⟩ (fA 0) tm0 bE []) _ (yGy (by decide) hown2.es hz2 (.inr rfl) hz3 (yY3 _) (.inl rfl) yUx) (zQe (vVd ⟨k,hlt⟩) (by decide)) (by simp[Tr.steps,yQm]) _ hfl2).mono ?_;rintro _ _ ⟨rfl,rfl⟩;simp only[go_sem,zE,zB,zA,zM,zS,zL,reduceCtorEq,f1,f2,f3,yQa hlt (show 18<=281474976710656 by omega)];exact⟨_,_,rfl,hz2,hown2,hsub2,hfl2⟩
  ·simp only[go_sem,zE,zB,zA,zM,zS,zL,reduceCtorEq,f1,f2,f3,show decide ((14:Int)<=(k:Int))=false from dEf (by omega),yQa hlt (show 18<=281474976710656 by omega)];exact⟨_,_,rfl,hz2,hown2,hsub2,hfl2⟩
 ·rintro fr st1 _ ⟨⟨tg,zs,f2,hzs,hown,hsub,hfl1⟩,f1,f3,rfl⟩;simp only[go_sem,zE,zB,zA,zM,zS,zL,reduceCtorEq,f1,f3,show decide (((18:Nat):Int)<18)=false from rfl];refine (hP 0 (by omega) _).mono ?_;rintro _ st1 ⟨rfl,rfl⟩;simp only[go_sem,zE,zB,zA,zM,zS,zL,reduceCtorEq,f1,fits];refine LoopC.ctr 35 (λk fr st' ds=>(∃(o:Nat) (n:ByteArray) (t:Tag) (x:List IV) (t':Tag) (x':List IV),fr 4=.box [.raw (.int .u8 o),.raw (.string n),.sl t x,.sl t' x']/\IsFm (fC k) (.agg [.raw (.int .u8 o),.raw (.string n),.sl t x,.sl t' x']))/\fr 1=.iv (.fn (.func 42) [] [])/\fr 5=.iv (.raw (.int .i64 (k+1:Nat)))/\st'=st1/\ds=[]) ?_ ?_ ?_
  ·simp only[go_sem,zE,zB,zA,zM,zS,zL,reduceCtorEq,f1];exact⟨⟨_,_,_,_,_,_,rfl,yY3 _⟩,rfl⟩
  ·rintro k fr _ _ hlt ⟨⟨o,n,t,x,t',x',f4,hc⟩,f1,f5,rfl,rfl⟩;have h36:decide (((k+1:Nat):Int)<36)=true:=dEt (by omega);obtain⟨gv,gw,gn⟩:=wQp (i:=k+1) (by omega);simp only[go_sem,zE,zB,zA,zM,zS,zL,reduceCtorEq,f1,f4,f5,h36];refine (hP (k+1) (by omega) _).mono ?_;rintro _ st1 ⟨rfl,rfl⟩;simp only[go_sem,zE,zB,zA,zM,zS,zL,reduceCtorEq,f1,f4,f5,ip2,yQ1,fits];refine (hO _ _ _).mono ?_;rintro _ st1 ⟨rfl,rfl⟩;simp only[go_sem,zE,zB,zA,zM,zS,zL,reduceCtorEq,f1,f4,f5,ip2,yQ1,fits];refine (hF _ _ _).mono ?_;rintro _ st1 ⟨rfl,rfl⟩;simp only[go_sem,zE,zB,zA,zM,zS,zL,reduceCtorEq,f1,f4,f5,ip2,yQ1,fits];refine (hP 0 (by omega) _).mono ?_;rintro _ st1 ⟨rfl,rfl⟩;simp only[go_sem,zE,zB,zA,zM,zS,zL,reduceCtorEq,f1,f4,f5,ip2,yQ1,fits];refine (hF _ _ _).mono ?_;rintro _ st1 ⟨rfl,rfl⟩;simp only[go_sem,zE,zB,zA,zM,zS,zL,reduceCtorEq,f1,f4,f5,ip2,yQ1,fits];refine (hS _ _ _ _ _).mono ?_;rintro _ st1 ⟨rfl,rfl⟩;simp only[go_sem,zE,zB,zA,zM,zS,zL,reduceCtorEq,f1,f4,f5,ip2,yQ1,fits];have hfc:IsFm (fC (k+1)) (.agg [.raw (.int .u8 4),.raw (.string ⟨#[]⟩),.sl ⟨true,.nil,0⟩ [],.sl ⟨true,.full,4⟩ [.agg [.raw (.int .u8 o),.raw (.string n),.sl t x,.sl t' x'],.agg [.raw (.int .u8 1),.raw (.string (nmA (k+1))),.sl ⟨true,.nil,0⟩ [],.sl ⟨true,.nil,0⟩ []]]]):=yWp (o:=4) (by decide) (.inr rfl) ⟨_,_,rfl,hc,IsFms.one (yY3 _)⟩;have hsq:=zJk (.inr rfl:okEs ⟨true,.full,4⟩ 4) (IsFms.one hfc) (.inr rfl:okEs ⟨true,.full,4⟩ 4) (IsFms.one (yY3 (nmA 0)));refine (xXv gl G ⟨[fC (k+1)],[fA 0]⟩ _ hsq gw gv _).mono ?_;rintro _ st1 ⟨⟨e,z,rfl,hbz⟩,rfl⟩;have hk1:IntKind.i64.wrap (((k+1:Nat):Int)+1)=((k+1+1:Nat):Int):=yQa (n:=36) (by omega) (by omega);rcases hbz with⟨rfl,n',hz,_,hg,_⟩|⟨he,rfl,hbig⟩
   ·have hz0:=hz;obtain⟨_,_,_,_,_,_,_,_,_,_,_,_,rfl⟩:=yXq hz;by_cases h28:28<k+1
    ·obtain⟨n'',g1,g2,g3⟩:=gn h28;obtain rfl:=hg.one g1;have hGo:=wY4 gl G hgl _ _ hsq gw n' _ hz0 g2 g3 _ hfl1;simp only[go_sem,zE,zB,zA,zM,zS,zL,reduceCtorEq,f1,f4,f5,fits,show decide ((28:Int)<((k+1:Nat):Int))=true from dEt (by omega),decide_true,decide_false];refine hGo.mono ?_;rintro _ st1 ⟨rfl,rfl⟩;simp only[go_sem,zE,zB,zA,zM,zS,zL,reduceCtorEq,f1,f4,f5,hk1];exact⟨_,_,_,_,_,_,rfl,hfc⟩
    ·simp only[go_sem,zE,zB,zA,zM,zS,zL,reduceCtorEq,f1,f4,f5,fits,show decide ((28:Int)<((k+1:Nat):Int))=false from dEf (by omega),hk1];exact⟨_,_,_,_,_,_,rfl,hfc⟩
   ·have h28:¬ 28<k+1:=λh=>by
     obtain⟨n'',g1,_,g3⟩:=gn h;have:=hbig _ g1;omega
    simp only[go_sem,zE,zB,zA,zM,zS,zL,reduceCtorEq,f1,f4,f5,fits,ndZ,show decide ((28:Int)<((k+1:Nat):Int))=false from dEf (by omega),hk1];exact⟨_,_,_,_,_,_,rfl,hfc⟩
  ·rintro fr _ _ ⟨⟨o,n,t,x,t',x',f4,hc⟩,f1,f5,rfl,rfl⟩;simp only[go_sem,zE,zB,zA,zM,zS,zL,reduceCtorEq,f5,show decide (((35+1:Nat):Int)<36)=false from rfl];exact yQb hsub ⟨rfl,rfl⟩
def fQ:Fm:=.mk 1 ⟨#[81]⟩ [] []
def mainsF:List Fm:=[fP,fF,.mk 3 bE [] [fP],.mk 4 bE [] [fP,fQ],.mk 5 bE [] [fP,fQ],.mk 6 bE [] [fP,fQ],.mk 7 bE [] [fP,fQ]]
theorem wZk:((List.range 18).all λr=>mainsF.all (wK9 r))=true:=by decide +kernel
theorem wQr {r:Nat}(hr:r<18){m:Fm}(hm:m∈mainsF):wK9 r m=true:=List.all_eq_true.1 (List.all_eq_true.1 wZk r (List.mem_range.2 hr)) m hm
theorem wYy (r:Nat)(hr:r<17):IntKind.u8.wrap (((1+r:Nat):Int)+1)=((1+(r+1):Nat):Int):=by
 have h:∀r:Fin 17,IntKind.u8.wrap (((1+r.val:Nat):Int)+1)=((1+(r.val+1):Nat):Int):=by decide
 exact h ⟨r,hr⟩
theorem xQo (G:Gl gl)(hgl:∀g x,gl g=some x->age x=x)(st:ISt)(h0:∀b,st b=none):ICall prog gl 3 [] st (λr st'=>r=.raw (.bool true)/\st'=st):=by
 have hfl:flatSt st:=λb o hb=>by rw[h0] at hb;cases hb
 have hP:=λn st=>s_p gl n st;have hF:=λt l st=>s_fs gl t l st;have hO:=λo t l st=>s_of gl o t l st;have hS:=λt l t' l' st=>s_sq gl t l t' l' st;have h112:IntKind.i64.wrap (((7:Nat):Int)*16)=((112:Nat):Int):=rfl;have io0:yZk 0 []=true:=rfl;have ip2:∀a b,yZk 2 [(0,a),(1,b)]=true:=λ_ _=>rfl;have ip7:∀a b c d e f g,yZk 7 [(0,a),(1,b),(2,c),(3,d),(4,e),(5,f),(6,g)]=true:=λ_ _ _ _ _ _ _=>rfl;have ip4:∀a b c d,yZk 4 [(0,a),(1,b),(2,c),(3,d)]=true:=λ_ _ _ _=>rfl;have iP:=yY3 ⟨#[80]⟩;have iF:=yWp (o:=2) (fs:=[]) (xs:=[]) (t:=⟨true,.nil,0⟩) (by decide) (.inl rfl) rfl;refine ICall.intro (c:=cf prog gl [] [(7,[0,1,2,3,4,7,8,9,10,11,14,15,16,17,18,20,21,22,23,24,25,26,27,28,29,32,33,34,35,39,40,41,42,43,5,6,12,13,19,30,31,36,37,38,44,45,46,47]),(15,[0,1,2,3,4,9,5,6,7,8,10,11]),(19,[6,10,14,18,0,1,2,3,4,5,7,8,9,11,12,13,15,16,17,19,20,21,22,23])]) func3 rfl (by show _<=179;simp) (by kernel_rfl) ?_;simp only[go_sem,zE,zB,zA,zM,zS,zL,reduceCtorEq,fits,List.size_toArray];refine (hP _ _).mono ?_;rintro _ st ⟨rfl,rfl⟩;simp only[go_sem,zE,zB,zA,zM,zS,zL,reduceCtorEq,fits,ip2];refine (hO _ _ _ _).mono ?_;rintro _ st ⟨rfl,rfl⟩;simp only[go_sem,zE,zB,zA,zM,zS,zL,reduceCtorEq,fits,ip2];refine (hF _ _ _).mono ?_;rintro _ st ⟨rfl,rfl⟩;simp only[go_sem,zE,zB,zA,zM,zS,zL,reduceCtorEq,fits,ip2];have hat:IsFms [fP,fF] [.agg [.raw (.int .u8 1),.raw (.string ⟨#[80]⟩),.sl ⟨true,.nil,0⟩ [],.sl ⟨true,.nil,0⟩ []],.agg [.raw (.int .u8 2),.raw (.string ⟨#[]⟩),.sl ⟨true,.nil,0⟩ [],.sl ⟨true,.nil,0⟩ []]]:=⟨_,_,rfl,iP,IsFms.one iF⟩
 revert hat;generalize ([.agg [.raw (.int .u8 1),.raw (.string ⟨#[80]⟩),.sl ⟨true,.nil,0⟩ [],.sl ⟨true,.nil,0⟩ []],.agg [.raw (.int .u8 2),.raw (.string ⟨#[]⟩),.sl ⟨true,.nil,0⟩ [],.sl ⟨true,.nil,0⟩ []]]:List IV)=za;intro hat;have hal:za.length=2:=hat.len;refine (xUo gl _ _ _ _ _ _ (.inr rfl) hat (.inr rfl) hat (by decide) (by decide) _).mono ?_;rintro _ st ⟨⟨tg1,zs1,rfl,eg1,ig1⟩,rfl⟩;have e1:(yV1 [fP,fF] [fP,fF]).length=18:=by rw[yU3];rfl
 have l1:zs1.length=18:=by rw[ig1.len,e1]
 simp only[go_sem,zE,zB,zA,zM,zS,zL,reduceCtorEq,fits,ip2,io0,List.size_toArray];refine yZz (m:=2) (own.full st st 0 4) rfl hal (subSt.refl _) rfl (yX6 hat) (by simp only;omega) (by omega) λu1 st1 hw1 hs1 _=>?_;rw[Nat.zero_add] at hw1;simp only[go_sem,zE,zB,zA,zM,zS,zL,reduceCtorEq,fits,ip2,io0,List.size_toArray];refine yZz (m:=18) hw1 hal l1 hs1 rfl (yX6 ig1) (by simp only;omega) (by omega) λu2 st2 hw2 hs2 _=>?_;simp only[go_sem,zE,zB,zA,zM,zS,zL,reduceCtorEq,fits,ip2,io0,yQ1,List.size_toArray];refine (hP _ _).mono ?_;rintro _ st2 ⟨rfl,rfl⟩;simp only[go_sem,zE,zB,zA,zM,zS,zL,reduceCtorEq,fits,ip2,io0,yQ1];refine (hF _ _ _).mono ?_;rintro _ st2 ⟨rfl,rfl⟩;simp only[go_sem,zE,zB,zA,zM,zS,zL,reduceCtorEq,fits,ip2,io0,yQ1];refine (xUo gl (yV1 [fP,fF] [fP,fF]) [fP] _ _ _ _ eg1 ig1 (.inr rfl) (IsFms.one iP) (by rw[e1];decide) (by decide) _).mono ?_;rintro _ st2 ⟨⟨tg2,zs2,rfl,eg2,ig2⟩,rfl⟩;have e2:(yV1 (yV1 [fP,fF] [fP,fF]) [fP]).length=90:=by rw[yU3,e1];rfl
 have l2:zs2.length=90:=by rw[ig2.len,e2]
 simp only[go_sem,zE,zB,zA,zM,zS,zL,reduceCtorEq,fits,ip2,io0,List.size_toArray];refine yZz (m:=90) hw2 (by rw[lLa,hal,l1]) l2 hs2 rfl (yX6 ig2) (by simp only;omega) (by omega) λu3 st3 hw3 hs3 _=>?_;have hall:IsFms allFs (za++zs1++zs2):=(hat.append ig1).append ig2;have hlen:(za++zs1++zs2).length=110:=by rw[hall.len,zYs]
 have hu3:=hw3.es;generalize za++zs1++zs2=xs at *;simp only[go_sem,zE,zB,zA,zM,zS,zL,reduceCtorEq,hlen];refine LoopC.ctr 110 (λk fr st' ds=>fr 3=.iv (.sl u3 xs)/\fr 4=.iv (.raw (.int .i64 k))/\subSt st st'/\ds=[]) ?_ ?_ ?_
 ·simp only[go_sem,zE,zB,zA,zM,zS,zL,reduceCtorEq];exact⟨rfl,hs3⟩
 ·rintro k fr st' _ hlt ⟨f3,f4,hsub,rfl⟩;obtain⟨a,hka⟩:=yQ3 (show k<allFs.length by rw[zYs];exact hlt);obtain⟨y,hky,hy⟩:=hall.get hka;obtain⟨b,hkb⟩:=yQ3 (show (k*5+3)%110<allFs.length by rw[zYs];omega);obtain⟨z,hkz,hz⟩:=hall.get hkb;have hw1:IntKind.i64.wrap ((k:Int)*5)=((k*5:Nat):Int):=by rw[w64]<;>omega
  have hw2:IntKind.i64.wrap (((k*5:Nat):Int)+3)=((k*5+3:Nat):Int):=by rw[w64]<;>omega
  have hw3:((k*5+3:Nat):Int).tmod ((110:Nat):Int)=(((k*5+3)%110:Nat):Int):=by rw[Int.tmod_eq_emod_of_nonneg (by omega)];rfl
  have hy0:=hy;have hz0:=hz;obtain⟨o5,n5,t5,x5,t6,x6,rfl⟩:=hy.agg;obtain⟨o7,n7,t7,x7,t8,x8,rfl⟩:=hz.agg;simp only[go_sem,zE,zB,zA,zM,zS,zL,reduceCtorEq,f3,f4,hlen,lt_i hlt,yQ2 hu3,iNn,hky,hkz,hw1,hw2,hw3,fits,yQ1,ip2,show (((110:Nat):Int)=0)=False from eq_false (by decide)];refine (hF _ _ _).mono ?_;rintro _ st' ⟨rfl,rfl⟩;simp only[go_sem,zE,zB,zA,zM,zS,zL,reduceCtorEq,fits,yQ1,ip2,ip4,List.size_toArray];refine (hS _ _ _ _ _).mono ?_;rintro _ st' ⟨rfl,rfl⟩;simp only[go_sem,zE,zB,zA,zM,zS,zL,reduceCtorEq,fits,yQ1,ip2,ip4,List.size_toArray];refine (hF _ _ _).mono ?_;rintro _ st' ⟨rfl,rfl⟩;simp only[go_sem,zE,zB,zA,zM,zS,zL,reduceCtorEq,fits,yQ1,ip2,ip4,List.size_toArray];refine (hS _ _ _ _ _).mono ?_;rintro _ st' ⟨rfl,rfl⟩;simp only[go_sem,zE,zB,zA,zM,zS,zL,reduceCtorEq,fits,yQ1,ip2,ip4,List.size_toArray];refine (hF _ _ _).mono ?_;rintro _ st' ⟨rfl,rfl⟩;simp only[go_sem,zE,zB,zA,zM,zS,zL,reduceCtorEq,fits,yQ1,ip2,ip4,List.size_toArray];refine (hF _ _ _).mono ?_;rintro _ st' ⟨rfl,rfl⟩;simp only[go_sem,zE,zB,zA,zM,zS,zL,reduceCtorEq,fits,yQ1,ip2,ip4,List.size_toArray];refine (hS _ _ _ _ _).mono ?_;rintro _ st' ⟨rfl,rfl⟩;simp only[go_sem,zE,zB,zA,zM,zS,zL,reduceCtorEq,fits,yQ1,ip2,ip4,List.size_toArray];refine (hP _ _).mono ?_;rintro _ st' ⟨rfl,rfl⟩;simp only[go_sem,zE,zB,zA,zM,zS,zL,reduceCtorEq,fits,yQ1,ip2,ip4,List.size_toArray];refine (hF _ _ _).mono ?_;rintro _ st' ⟨rfl,rfl⟩;simp only[go_sem,zE,zB,zA,zM,zS,zL,reduceCtorEq,fits,yQ1,ip2,ip4,List.size_toArray];refine (hF _ _ _).mono ?_;rintro _ st' ⟨rfl,rfl⟩;simp only[go_sem,zE,zB,zA,zM,zS,zL,reduceCtorEq,fits,yQ1,ip2,ip4,List.size_toArray];refine (hS _ _ _ _ _).mono ?_;rintro _ st' ⟨rfl,rfl⟩;simp only[go_sem,zE,zB,zA,zM,zS,zL,reduceCtorEq,fits,yQ1,ip2,ip4,List.size_toArray];generalize hxq:([.agg [.sl _ [],.sl _ _],_,_,_]:List IV)=xq;have hqs:IsSqs (xGj k) xq:=by
   rw[<- hxq];unfold xGj;rw[zYs,hka,hkb];exact⟨_,_,rfl,zJk (.inl rfl) rfl (.inr rfl) (IsFms.one hy0),_,_,rfl,zJk (.inr rfl) (IsFms.one hy0) (.inl rfl) rfl,_,_,rfl,zJk (.inr rfl) (IsFms.one hy0) (.inr rfl) (IsFms.one hz0),_,_,rfl,zJk (.inr rfl) ⟨_,_,rfl,hy0,IsFms.one iP⟩ (.inr rfl) (IsFms.one hy0),rfl⟩
  have hql:xq.length=4:=hqs.len;clear hxq;refine LoopC.ctr 4 (λj fr st' ds=>fr 5=.iv (.sl ⟨true,.full,2⟩ xq)/\fr 3=.iv (.sl u3 xs)/\fr 4=.iv (.raw (.int .i64 k))/\fr 6=.iv (.raw (.int .i64 j))/\subSt st st'/\ds=[]) ?_ ?_ ?_
  ·simp only[go_sem,zE,zB,zA,zM,zS,zL,reduceCtorEq,f3,f4];exact⟨rfl,hsub⟩
  ·rintro j fr st' _ hlj ⟨f5,f3,f4,f6,hsub,rfl⟩;obtain⟨s,hks⟩:=yQ3 (show j<(xGj k).length from hlj);obtain⟨q,hkq,hq⟩:=hqs.get hks;obtain⟨gv,gw,gn⟩:=wQo (wJ0 hlt hks);have hB:=λst=>xXv gl G s q hq gw gv st;have hGo:=λn z hz ho hn=>wY4 gl G hgl s q hq gw n z hz ho hn st hfl;have hT:=λn z hz hn st=>wX0 gl G s q hq gw n z hz hn st;obtain⟨ta,xa,tb,xb,rfl,_⟩:=hq;simp only[go_sem,zE,zB,zA,zM,zS,zL,reduceCtorEq,f5,f6,hql,lt_i hlj,iNn,hkq,fits];refine (hB _).mono ?_;rintro _ st' ⟨⟨e,z,rfl,hbz⟩,rfl⟩;have hj1:=yQa hlj (show 4<=281474976710656 by omega);rcases hbz with⟨rfl,n,hz,_,hg,hn3⟩|⟨he,rfl,_⟩
   ·obtain⟨g1,g2,g3,g4,g5⟩:=gn n hg hn3;have hGo1:=hGo n z hz g1 g2;have hT1:=hT n z hz (by omega);rw[g3] at hT1;simp only at hT1;obtain⟨_,_,_,_,_,_,_,_,_,_,_,_,rfl⟩:=yXq hz;simp only[go_sem,zE,zB,zA,zM,zS,zL,reduceCtorEq,f5,f6,iNn,hkq,fits];refine (ICall.sub hGo1 hsub).mono ?_;rintro _ _ ⟨rfl,rfl⟩;simp only[go_sem,zE,zB,zA,zM,zS,zL,reduceCtorEq,f5,f6,iNn,hkq,fits,decide_true];refine (hT1 _).mono ?_;rintro _ _ ⟨⟨yt,rfl,hyt,_⟩,rfl⟩;have hyt0:=hyt;obtain⟨_,_,_,_,_,_,_,_,_,_,_,_,_,_,_,_,_,_,rfl⟩:=yX4 hyt;simp only[go_sem,zE,zB,zA,zM,zS,zL,reduceCtorEq,f5,f6,fits,decide_true,decide_false,show decide (((0:Nat):Int)=0)=true from rfl];refine (xXc gl G hgl _ _ hyt0 g4 g5 _ hfl).mono ?_;rintro _ _ ⟨rfl,rfl⟩;simp only[go_sem,zE,zB,zA,zM,zS,zL,reduceCtorEq,f3,f4,f5,f6,hj1];exact subSt.refl _
   ·have hGo1:=hGo nd0 _ zJb (by decide) (by decide);simp only[go_sem,zE,zB,zA,zM,zS,zL,reduceCtorEq,f5,f6,iNn,hkq,fits,ndZ];refine (ICall.sub hGo1 hsub).mono ?_;rintro _ _ ⟨rfl,rfl⟩;simp only[go_sem,zE,zB,zA,zM,zS,zL,reduceCtorEq,f3,f4,f5,f6,hj1,show decide (e=0)=false from dEf he];exact subSt.refl _
  ·rintro fr st' _ ⟨f5,f3,f4,f6,hsub,rfl⟩;simp only[go_sem,zE,zB,zA,zM,zS,zL,reduceCtorEq,f5,f3,f4,f6,hql,yQk (nLi _),yQa hlt (show 110<=281474976710656 by omega)];exact hsub
 ·rintro fr st' _ ⟨f3,f4,hsub,rfl⟩;simp only[go_sem,zE,zB,zA,zM,zS,zL,reduceCtorEq,f3,f4,hlen,yQk (nLi _),fits,List.size_toArray];refine (hP _ _).mono ?_;rintro _ st' ⟨rfl,rfl⟩;simp only[go_sem,zE,zB,zA,zM,zS,zL,reduceCtorEq,fits,ip2,io0,ip7,yQ1,List.size_toArray];refine (hP _ _).mono ?_;rintro _ st' ⟨rfl,rfl⟩;simp only[go_sem,zE,zB,zA,zM,zS,zL,reduceCtorEq,fits,ip2,io0,ip7,yQ1,List.size_toArray];refine (hO _ _ _ _).mono ?_;rintro _ st' ⟨rfl,rfl⟩;simp only[go_sem,zE,zB,zA,zM,zS,zL,reduceCtorEq,fits,ip2,io0,ip7,yQ1,List.size_toArray];refine (hP _ _).mono ?_;rintro _ st' ⟨rfl,rfl⟩;simp only[go_sem,zE,zB,zA,zM,zS,zL,reduceCtorEq,fits,ip2,io0,ip7,yQ1,List.size_toArray];refine (hO _ _ _ _).mono ?_;rintro _ st' ⟨rfl,rfl⟩;simp only[go_sem,zE,zB,zA,zM,zS,zL,reduceCtorEq,fits,ip2,io0,ip7,yQ1,List.size_toArray];refine (hP _ _).mono ?_;rintro _ st' ⟨rfl,rfl⟩;simp only[go_sem,zE,zB,zA,zM,zS,zL,reduceCtorEq,fits,ip2,io0,ip7,yQ1,List.size_toArray];refine (hO _ _ _ _).mono ?_;rintro _ st' ⟨rfl,rfl⟩;simp only[go_sem,zE,zB,zA,zM,zS,zL,reduceCtorEq,fits,ip2,io0,ip7,yQ1,List.size_toArray];refine (hP _ _).mono ?_;rintro _ st' ⟨rfl,rfl⟩;simp only[go_sem,zE,zB,zA,zM,zS,zL,reduceCtorEq,fits,ip2,io0,ip7,yQ1,List.size_toArray];refine (hO _ _ _ _).mono ?_;rintro _ st' ⟨rfl,rfl⟩;simp only[go_sem,zE,zB,zA,zM,zS,zL,reduceCtorEq,fits,ip2,io0,ip7,yQ1,List.size_toArray];refine (hP _ _).mono ?_;rintro _ st' ⟨rfl,rfl⟩;simp only[go_sem,zE,zB,zA,zM,zS,zL,reduceCtorEq,fits,ip2,io0,ip7,yQ1,List.size_toArray];refine (hO _ _ _ _).mono ?_;rintro _ st' ⟨rfl,rfl⟩;simp only[go_sem,zE,zB,zA,zM,zS,zL,reduceCtorEq,fits,ip2,io0,ip7,yQ1,List.size_toArray];refine (hP _ _).mono ?_;rintro _ st' ⟨rfl,rfl⟩;simp only[go_sem,zE,zB,zA,zM,zS,zL,reduceCtorEq,fits,ip2,io0,ip7,yQ1,List.size_toArray];refine (hO _ _ _ _).mono ?_;rintro _ st' ⟨rfl,rfl⟩;simp only[go_sem,zE,zB,zA,zM,zS,zL,reduceCtorEq,fits,ip2,io0,ip7,yQ1,List.size_toArray];refine (hF _ _ _).mono ?_;rintro _ st' ⟨rfl,rfl⟩;simp only[go_sem,zE,zB,zA,zM,zS,zL,reduceCtorEq,fits,ip2,io0,ip7,yQ1,List.size_toArray];generalize hxq:([.agg [_,_,_,.sl _ []],.agg [_,_,_,.sl _ []],_,_,_,_,_]:List IV)=xq;have hq2:IsFms [fP,fQ] [.agg [.raw (.int .u8 1),.raw (.string ⟨#[80]⟩),.sl ⟨true,.nil,0⟩ [],.sl ⟨true,.nil,0⟩ []],.agg [.raw (.int .u8 1),.raw (.string ⟨#[81]⟩),.sl ⟨true,.nil,0⟩ [],.sl ⟨true,.nil,0⟩ []]]:=⟨_,_,rfl,iP,IsFms.one (yY3 _)⟩
  have hqs:IsFms mainsF xq:=by
   rw[<- hxq];exact⟨_,_,rfl,iP,_,_,rfl,iF,_,_,rfl,yWp (o:=3) (by decide) (.inr rfl) (IsFms.one iP),_,_,rfl,yWp (o:=4) (by decide) (.inr rfl) hq2,_,_,rfl,yWp (o:=5) (by decide) (.inr rfl) hq2,_,_,rfl,yWp (o:=6) (by decide) (.inr rfl) hq2,_,_,rfl,yWp (o:=7) (by decide) (.inr rfl) hq2,rfl⟩
  have hql:xq.length=7:=hqs.len;clear hxq;refine LoopC.ctr 17 (λr fr st' ds=>fr 12=.iv (.sl ⟨true,.full,4⟩ xq)/\fr 13=.iv (.raw (.int .u8 (1+r:Nat)))/\subSt st st'/\ds=[]) ?_ ?_ ?_
  ·simp only[go_sem,zE,zB,zA,zM,zS,zL,reduceCtorEq];exact⟨rfl,hsub⟩
  ·rintro r fr st' _ hlr ⟨f12,f13,hsub,rfl⟩;simp only[go_sem,zE,zB,zA,zM,zS,zL,reduceCtorEq,f12,f13,show decide (((1+r:Nat):Int)<=17)=true from dEt (by omega)];refine LoopC.ctr 112 (λi fr st' ds=>fr 12=.iv (.sl ⟨true,.full,4⟩ xq)/\fr 13=.iv (.raw (.int .u8 (1+r:Nat)))/\fr 14=.iv (.raw (.int .i64 i))/\subSt st st'/\ds=[]) ?_ ?_ ?_
   ·simp only[go_sem,zE,zB,zA,zM,zS,zL,reduceCtorEq,f12,f13];exact⟨rfl,hsub⟩
   ·rintro i fr st' _ hli ⟨f12,f13,f14,hsub,rfl⟩;obtain⟨m,hkm⟩:=yQ3 (show i%7<mainsF.length from Nat.mod_lt _ (by decide));obtain⟨y,hky,hy⟩:=hqs.get hkm;have hm1:(i:Int).tmod ((7:Nat):Int)=((i%7:Nat):Int):=by rw[Int.tmod_eq_emod_of_nonneg (by omega)];rfl
    have hm2:IntKind.i64.wrap ((i:Int).tdiv ((7:Nat):Int))=((i / 7:Nat):Int):=by rw[Int.tdiv_eq_ediv_of_nonneg (by omega),w64]<;>omega
    have hst:=λst=>wUi gl G (1+r) (by omega) m y hy (wQr (by omega) (lMg hkm)) (i / 7) (by omega) st;obtain⟨_,_,_,_,_,_,rfl⟩:=hy.agg;simp only[go_sem,zE,zB,zA,zM,zS,zL,reduceCtorEq,f12,f13,f14,hql,h112,lt_i hli,show (((7:Nat):Int)=0)=False from eq_false (by decide),hm1,hm2,iNn,hky,fits];refine (hst _).mono ?_;rintro _ _ ⟨⟨t,ht,hsm,hts⟩,rfl⟩;have ht0:=ht;obtain⟨_,_,_,_,_,_,_,_,_,_,_,_,_,_,_,_,_,_,rfl⟩:=yX4 ht;simp only[go_sem,zE,zB,zA,zM,zS,zL,reduceCtorEq,fits];refine (ICall.sub (xXc gl G hgl _ _ ht0 hsm hts _ hfl) hsub).mono ?_;rintro _ _ ⟨rfl,rfl⟩;simp only[go_sem,zE,zB,zA,zM,zS,zL,reduceCtorEq,f12,f13,f14,yQa hli (show 112<=281474976710656 by omega)];exact subSt.refl _
   ·rintro fr st' _ ⟨f12,f13,f14,hsub,rfl⟩;have e:IntKind.u8.wrap (((1+r:Nat):Int)+1)=((1+(r+1):Nat):Int):=wYy r hlr;simp only[go_sem,zE,zB,zA,zM,zS,zL,reduceCtorEq,f12,f13,f14,hql,h112,yQk (nLi _),e];exact hsub
  ·rintro fr st' _ ⟨f12,f13,hsub,rfl⟩;simp only[go_sem,zE,zB,zA,zM,zS,zL,reduceCtorEq,f12,f13,show decide (((18:Nat):Int)<=17)=false from rfl];refine (ICall.sub (wK0 gl G hgl _ hfl) hsub).mono ?_;rintro _ _ ⟨rfl,rfl⟩;simp only[go_sem,zE,zB,zA,zM,zS,zL,reduceCtorEq];refine (wJ1 gl G hgl _ h0).mono ?_;rintro _ _ ⟨rfl,rfl⟩;simp only[go_sem,zE,zB,zA,zM,zS,zL,reduceCtorEq];exact yQ0 ⟨rfl,rfl⟩
