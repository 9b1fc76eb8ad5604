/-  -/
import Derived.Test.YtebjhmlmdjnkgaaGreatDoorQC
import Derived.Test.YtebjhmlmdjnkgaaGreatDoorMC
set_option linter.all false
open Nat renaming reduceEqDiff → zE,reduceBEq → zB,reduceAdd → zA,reduceMul → zM,reduceSub → zS,reduceLeDiff → zL
namespace Go.Proofs.Tryz
open Go Go.Iv
set_option maxRecDepth 4000
variable (gl:Nat->Option IV)
def RBrs:List (List Mk)->List IV->Prop
 | [],xs=>xs=[]
 | a::l,xs=>∃y ys,xs=y::ys/\RBr a y/\RBrs l ys
theorem RBrs.len:∀ {l:List (List Mk)}{xs:List IV},RBrs l xs->xs.length=l.length
 | [],_,rfl=>rfl
 | a::l,_,⟨_,ys,rfl,_,h⟩=>by simp[RBrs.len h]
theorem RBrs.get:∀ {l:List (List Mk)}{xs:List IV}{k:Nat}{a:List Mk},RBrs l xs->l[k]?=some a->∃x,xs[k]?=some x/\RBr a x
 | [],xs,k,a,h,hk=>by simp at hk
 | b::l,_,0,a,⟨y,ys,rfl,hy,h⟩,hk=>by simp at hk;subst hk;exact⟨y,rfl,hy⟩
 | b::l,_,k+1,a,⟨y,ys,rfl,hy,h⟩,hk=>by simpa using RBrs.get h (by simpa using hk)
theorem RBrs.append:∀ {l m:List (List Mk)}{xs ys:List IV},RBrs l xs->RBrs m ys->RBrs (l++m) (xs++ys)
 | [],m,_,ys,rfl,k=>k
 | a::l,m,_,ys,⟨y,zs,rfl,hy,h⟩,k=>⟨y,zs++ys,rfl,hy,RBrs.append h k⟩
theorem RBrs.one {a:List Mk}{x:IV}(h:RBr a x):RBrs [a] [x]:=⟨_,_,rfl,h,rfl⟩
noncomputable def belT (l:List Mk)(m:Mk)(c:Bool)(w:Int):List (List Mk):=if c then [] else (yQi m w).map (yQu l)
theorem xJy (l:List Mk)(x:IV)(hx:RBr l x)(m:Mk)(c:Bool)(w:Int)(sub:List Nd)(z:IV)(hz:IsNd (.mk m c w sub) z)(hop:m.f.op<=7)(hl:l.length<=900000)(st:ISt) :
  ICall prog gl 173 [x,z] st (λr st'=>(∃tg ys,r=.sl tg ys/\okEs tg 3/\RBrs (belT l m c w) ys)/\st'=st):=by
 have hx0:=hx;obtain⟨t,xs,t',vs,rfl,ht,hxs⟩:=hx;obtain⟨o,n,t1,x1,t2,x2,ts,zs,rfl,hf,hts,hzs⟩:=hz.mk;have hy:IsMk m _:=⟨_,_,_,_,_,_,rfl,hf⟩
 have hA:=λst=>xU1 gl m _ hy hop w st;have hK:=λst=>xZg gl m _ hy st;have hk2:=xZz hop;have d4:decide (((yZd m).1:Int)=4)=false:=dEf (by omega);have hsh:=yXz m w;refine ICall.intro (c:=cf prog gl [] [(8,[0,1,2,4,5,6,7,3,8,9,10])]) func173 rfl (by show _<=50;simp) (by kernel_rfl) ?_;simp only[go_sem,zE,zA,zL];refine (hA _).mono ?_;rintro _ st ⟨tg,ls,rfl,htg,hls,rfl⟩;cases c
 case true =>
  simp only[go_sem];refine LoopC.ctr 0 (λk fr st' ds=>fr 2=.box [.raw (.int .u8 1),.sl t xs,.sl t' vs]/\fr 3=.box [.raw (.bool m.is),.raw (.int .i64 m.w),.raw (.int .u8 o),.raw (.string n),.sl t1 x1,.sl t2 x2,.raw (.bool true),.raw (.int .i64 w),.sl ts zs]/\fr 5=.iv (.sl ⟨true,.nil,0⟩ [])/\fr 6=.iv (.sl tg ls)/\fr 7=.iv (.raw (.int .i64 0))/\st'=st/\ds=[]) ?_ ?_ ?_
  ·simp only[go_sem,zE]
  ·intro k fr st1 _ hlt;omega
  ·rintro fr st1 _ ⟨f2,f3,f5,f6,f7,rfl,rfl⟩;cases hd:decide ((0:Int)<((yQi m w).length:Int)) <;>
   ·simp only[go_sem,zE,zA,f3,f5,f6,f7,hls.len,hd];intros;exact yQ0 ⟨⟨_,_,rfl,.inl rfl,rfl⟩,rfl⟩
 simp only[go_sem];refine LoopC.ctr (yQi m w).length (λk fr st' ds=>(∃tg' ys,fr 5=.iv (.sl tg' ys)/\RBrs (((yQi m w).take k).map (yQu l)) ys/\own st' tg' k 3 st/\subSt st st')/\fr 2=.box [.raw (.int .u8 1),.sl t xs,.sl t' vs]/\fr 3=.box [.raw (.bool m.is),.raw (.int .i64 m.w),.raw (.int .u8 o),.raw (.string n),.sl t1 x1,.sl t2 x2,.raw (.bool false),.raw (.int .i64 w),.sl ts zs]/\fr 6=.iv (.sl tg ls)/\fr 7=.iv (.raw (.int .i64 k))/\ds=[]) ?_ ?_ ?_
 ·simp only[go_sem,zE];exact⟨⟨_,_,rfl,rfl,own.nil _ _ _ _ _,subSt.refl _⟩,rfl⟩
 ·rintro k fr st1 _ hlt ⟨⟨tg',ys,f5,hys,hown,hsub⟩,f2,f3,f6,f7,rfl⟩;obtain⟨q,hq⟩:=yQ3 hlt;obtain⟨tq,zq,hkq,htq,hzq⟩:=hls.get hq;have hq2:=yJr m w q (lMg hq);have hlen2:ys.length=k:=by rw[hys.len,List.length_map,List.length_take];omega
  have hW:=λst=>zXz gl l _ hx0 q tq zq htq hzq (by omega) st;simp only[go_sem,zE,zA,zL,f2,f3,f6,f7,hls.len,lt_i hlt];intros;refine (hK _).mono ?_;rintro _ _ ⟨rfl,rfl⟩;simp only[go_sem,zE,zA,zL,f5,f6,f7,d4,yQ2 htg,iNn,hkq,fits];refine (hW _).mono ?_;rintro r _ ⟨hr,rfl⟩;have hn:RBrs (((yQi m w).take (k+1)).map (yQu l)) (ys++[r]):=by
   rw[yQ8 hq,List.map_append];exact hys.append (RBrs.one hr)
  obtain⟨t5,x5,t6,x6,rfl,_⟩:=hr;simp only[go_sem,zE,zA,zM,zL,fits,yQ1];refine yZb hown hlen2 hsub rfl (by simp[fits,IV.one]) (by simp only;omega) (by omega) λtg2 st4 hown2 hsub4 _ hap2=>?_;simp only[go_sem,zE,f2,f3,f6,f7,yQa hlt (show (yQi m w).length<=281474976710656 by omega)];exact⟨tg2,_,rfl,hn,hown2,hsub4⟩
 ·rintro fr st1 _ ⟨⟨tg',ys,f5,hys,hown,hsub⟩,f2,f3,f6,f7,rfl⟩;rw[lTl] at hys;simp only[go_sem,zE,f5,f6,f7,hls.len,yQk (nLi _)];intros;exact yQb hsub ⟨⟨tg',ys,rfl,hown.es,hys⟩,rfl⟩
theorem xVc (l:List Mk)(m:Mk)(c:Bool)(w:Int):(belT l m c w).length=if c then 0 else (yQi m w).length:=by
 unfold belT;cases c
 ·exact List.length_map ..
 ·rfl
theorem xGx (l:List Mk)(hl:GoodT l)(hll:l.length<=900000)(x:IV)(hx:RBr l x)(m:Mk)(c:Bool)(w:Int)(sub:List Nd)(z:IV)(hz:IsNd (.mk m c w sub) z)(st:ISt) :
  ICall prog gl 172 [x,z] st (λr st'=>r=.raw (.int .i64 (yV0 l m c w sub.length))/\st'=st):=by
 have hB:=λh st=>xJy gl l x hx m c w sub z hz h hll st;have hlen:=xVc l m c w;have hsh:=yXz m w;obtain⟨o,n,t1,x1,t2,x2,ts,zs,rfl,hf,hts,hzs⟩:=hz.mk;have hy:IsMk m _:=⟨_,_,_,_,_,_,rfl,hf⟩
 have hK:=λst=>xZg gl m _ hy st;have hH:=λst=>zWo gl l x hx m _ hy st;have hC:=λst=>xGz gl l x hx m _ hy st;obtain⟨t,xs,t',vs,rfl,ht,hxs⟩:=hx;unfold yV0;refine ICall.intro (c:=cf prog gl [] [(10,[0,1,4,5,6,2,3,7])]) func172 rfl (by show _<=103;simp) (by kernel_rfl) ?_;simp only[go_sem,zE,zA,zL];refine (hK _).mono ?_;rintro _ st ⟨rfl,rfl⟩;simp only[go_sem,zE,zA,zL];refine (hH _).mono ?_;rintro _ st ⟨rfl,rfl⟩;cases hh:hasT l m
 ·have hx0:decide (((yZd m).1:Int)=0)=decide ((yZd m).1=0):=by rw[decide_eq_decide];omega
  cases c
  ·simp only[go_sem,zE,reduceCtorEq];exact yQ0 ⟨by simp,rfl⟩
  ·simp only[go_sem,zE];exact yQ0 ⟨by simp,rfl⟩
 have hop:=xUa hl (yUn.1 hh);have hk2:=xZz hop;have d3:decide (((yZd m).1:Int)=3)=false:=dEf (by omega);have d4:decide (((yZd m).1:Int)=4)=false:=dEf (by omega);have dle:decide (((yZd m).1:Int)<=2)=true:=dEt (by omega);cases c
 ·by_cases hk:(yZd m).1=0
  ·have d0:decide (((yZd m).1:Int)=0)=true:=dEt (by omega);simp only[go_sem,zE,zA,reduceCtorEq,d0];exact yQ0 ⟨by simp[hk],rfl⟩
  have d0:decide (((yZd m).1:Int)=0)=false:=dEf (by omega);by_cases hw:w=0
  ·subst hw;simp only[go_sem,zE,zA,zL,reduceCtorEq,d0,d3,d4,dle,decide_true];refine (hB hop _).mono ?_;rintro _ st ⟨⟨tg,ys,rfl,htg,hys⟩,rfl⟩;rw[if_neg (by decide)] at hlen;by_cases hq:sub.length=(yQi m 0).length
   ·have dl:decide (((yQi m 0).length:Int)=(sub.length:Int))=true:=dEt (by omega);simp only[go_sem,zE,hys.len,hlen,hzs.len,dl];intros;exact yQ0 ⟨by simp[hk,hq],rfl⟩
   ·have dl:decide (((yQi m 0).length:Int)=(sub.length:Int))=false:=dEf (by omega);simp only[go_sem,zE,hys.len,hlen,hzs.len,dl];intros;exact yQ0 ⟨by simp[hk,hq],rfl⟩
  ·simp only[go_sem,zE,zA,reduceCtorEq,d0,dle,dEf hw];exact yQ0 ⟨by simp[hk,hw],rfl⟩
 ·simp only[go_sem,zE,zA,zL];refine (hC _).mono ?_;rintro _ st ⟨rfl,rfl⟩;cases hcl:yKn l m
  ·simp only[go_sem,zE];exact yQ0 ⟨by simp,rfl⟩
  by_cases hw:w=0
  ·subst hw;simp only[go_sem,zE,zA,zL,decide_true];refine (hB hop _).mono ?_;rintro _ st ⟨⟨tg,ys,rfl,htg,hys⟩,rfl⟩;rw[if_pos rfl] at hlen;by_cases hq:sub.length=0
   ·have dl:decide (((0:Nat):Int)=(sub.length:Int))=true:=dEt (by omega);simp only[go_sem,zE,hys.len,hlen,hzs.len,dl];intros;exact yQ0 ⟨by simp[hq],rfl⟩
   ·have dl:decide (((0:Nat):Int)=(sub.length:Int))=false:=dEf (by omega);simp only[go_sem,zE,hys.len,hlen,hzs.len,dl];intros;exact yQ0 ⟨by simp[hq],rfl⟩
  ·simp only[go_sem,zE,zA,dEf hw];exact yQ0 ⟨by simp[hw],rfl⟩
def roC (f:Fm):Prop:=∀(ca:Nat) (_:ca<256) (_:True) (x:IV) (_:IsFm f x) (_:f.size<=1099511627776) (st:ISt),ICall prog gl 239 [.raw (.int .u8 ca),x] st (λr st'=>r=.raw (.bool true)/\st'=st)
theorem wJk (o:Nat)(n:ByteArray)(us:List Tm)(sub:List Fm)(IH:∀a∈sub,roC gl a):roC gl (.mk o n us sub):=by
 intro ca hca h6 x hx hs st;obtain⟨t1,x1,t2,x2,rfl,ho,e1,i1,e2,i2⟩:=hx.mk;obtain⟨rfl,rfl⟩:=i1.z;simp only[Fm.size,yQy] at hs;have hlsz:=yQj sub;have d9:decide ((9:Int)<((o:Nat):Int))=false:=dEf (by omega);have d7:decide ((7:Int)<((o:Nat):Int))=false:=dEf (by omega);have d10:decide (((o:Nat):Int)=10)=false:=dEf (by omega);have d11:decide (((o:Nat):Int)=11)=false:=dEf (by omega);have du:decide ((0:Int)<((0:Nat):Int))=false:=rfl;refine iI func239 ?_;cases q1:decide (((o:Nat):Int)=1)
 all_goals
  simp only[go_sem,zE,zB,zA,zM,zS,zL,reduceCtorEq,fits,List.length_nil,d9,d7,d10,d11,du,q1];intros;refine LoopC.ctr sub.length (λk fr st' ds=>fr 0=.iv (.raw (.int .u8 ca))/\fr 3=.box [.raw (.int .u8 o),.raw (.string n),.sl t1 [],.sl t2 x2]/\fr 5=.iv (.raw (.int .i64 k))/\st'=st/\ds=[]) ?_ ?_ ?_
  ·simp only[go_sem,zE,zB,zA,zM,zS,zL,reduceCtorEq]
   first|rfl|exact⟨rfl,rfl⟩
  ·rintro k fr st1 _ hlt ⟨f0,f3,f5,rfl,rfl⟩;obtain⟨a,ha⟩:=yQ3 hlt;obtain⟨z,hkz,hzz⟩:=i2.get ha;obtain⟨h1,h2⟩:=yZ5 ha;have hcall:=λst=>IH a (lMg ha) ca hca h6 z hzz (by omega) st;obtain⟨o5,n5,t5,x5,t6,x6,rfl⟩:=hzz.agg;simp only[go_sem,zE,zB,zA,zM,zS,zL,reduceCtorEq,f0,f3,f5,i2.len,lt_i hlt,yQ2 e2,iNn,hkz,fits];intro _;refine (hcall _).mono ?_;rintro _ st2 ⟨rfl,rfl⟩;simp only[go_sem,zE,zB,zA,zM,zS,zL,reduceCtorEq,f0,f3,f5,fits,yQa hlt (show sub.length<=281474976710656 by omega)]
  ·rintro fr st1 _ ⟨f0,f3,f5,rfl,rfl⟩;simp only[go_sem,zE,zB,zA,zM,zS,zL,reduceCtorEq,f0,f3,f5,i2.len,yQk (nLi _)];intro _;exact yQ0 ⟨rfl,rfl⟩
theorem xU6:∀(k:Nat)(f:Fm),SizeOf.sizeOf f<k->roC gl f
 | 0,f,h=>by omega
 | k+1,.mk o n us sub,h=>wJk gl o n us sub (λa ha=>xU6 k a (by
   have:=lSm ha;simp only[Fm.mk.sizeOf_spec] at h;omega))
def rmoC (f:Fm):Prop:=∀(ca:Nat) (_:ca<256) (_:ca=1) (x:IV) (_:IsFm f x) (_:f.size<=1099511627776) (st:ISt),ICall prog gl 187 [.raw (.int .u8 ca),x] st (λr st'=>r=.raw (.bool true)/\st'=st)
theorem wGp (o:Nat)(n:ByteArray)(us:List Tm)(sub:List Fm)(IH:∀a∈sub,rmoC gl a):rmoC gl (.mk o n us sub):=by
 intro ca hca h6 x hx hs st;obtain⟨t1,x1,t2,x2,rfl,ho,e1,i1,e2,i2⟩:=hx.mk;obtain⟨rfl,rfl⟩:=i1.z;simp only[Fm.size,yQy] at hs;have hlsz:=yQj sub;have d9:decide ((9:Int)<((o:Nat):Int))=false:=dEf (by omega);have d7:decide ((7:Int)<((o:Nat):Int))=false:=dEf (by omega);have d10:decide (((o:Nat):Int)=10)=false:=dEf (by omega);have d11:decide (((o:Nat):Int)=11)=false:=dEf (by omega);have du:decide ((0:Int)<((0:Nat):Int))=false:=rfl;refine iI func187 ?_;cases q1:decide (((o:Nat):Int)=1)
 all_goals
  simp only[go_sem,zE,zB,zA,zM,zS,zL,reduceCtorEq,fits,List.length_nil,d9,d7,d10,d11,du,q1];intros;refine LoopC.ctr sub.length (λk fr st' ds=>fr 0=.iv (.raw (.int .u8 ca))/\fr 3=.box [.raw (.int .u8 o),.raw (.string n),.sl t1 [],.sl t2 x2]/\fr 6=.iv (.raw (.int .i64 k))/\st'=st/\ds=[]) ?_ ?_ ?_
  ·simp only[go_sem,zE,zB,zA,zM,zS,zL,reduceCtorEq]
   first|rfl|exact⟨rfl,rfl⟩
  ·rintro k fr st1 _ hlt ⟨f0,f3,f5,rfl,rfl⟩;obtain⟨a,ha⟩:=yQ3 hlt;obtain⟨z,hkz,hzz⟩:=i2.get ha;obtain⟨h1,h2⟩:=yZ5 ha;have hcall:=λst=>IH a (lMg ha) ca hca h6 z hzz (by omega) st;obtain⟨o5,n5,t5,x5,t6,x6,rfl⟩:=hzz.agg;simp only[go_sem,zE,zB,zA,zM,zS,zL,reduceCtorEq,f0,f3,f5,i2.len,lt_i hlt,yQ2 e2,iNn,hkz,fits];intro _;refine (hcall _).mono ?_;rintro _ st2 ⟨rfl,rfl⟩;simp only[go_sem,zE,zB,zA,zM,zS,zL,reduceCtorEq,f0,f3,f5,fits,yQa hlt (show sub.length<=281474976710656 by omega)]
  ·rintro fr st1 _ ⟨f0,f3,f5,rfl,rfl⟩;simp only[go_sem,zE,zB,zA,zM,zS,zL,reduceCtorEq,f0,f3,f5,i2.len,yQk (nLi _)];intro _;exact yQ0 ⟨rfl,rfl⟩
theorem wW8:∀(k:Nat)(f:Fm),SizeOf.sizeOf f<k->rmoC gl f
 | 0,f,h=>by omega
 | k+1,.mk o n us sub,h=>wGp gl o n us sub (λa ha=>wW8 k a (by
   have:=lSm ha;simp only[Fm.mk.sizeOf_spec] at h;omega))
theorem xYl (ca:Nat)(hca:ca<256)(f:Fm)(x:IV)(hx:IsFm f x)(hs:f.size<=1099511627776)(st:ISt):ICall prog gl 190 [.raw (.int .u8 ca),x] st (λr st'=>r=.raw (.bool (fmB ca f))/\st'=st):=by
 have h1:=λst=>zZr gl f x hx hs st;have h2:=λst=>xU6 gl _ f (Nat.lt_succ_self _) ca hca trivial x hx hs st;rw[hx.fmB];obtain⟨o5,n5,t5,x5,t6,x6,rfl⟩:=hx.agg;refine iI func190 ?_;simp only[go_sem,zE,zB,zA,zM,zS,zL,reduceCtorEq,fits];refine (h1 _).mono ?_;rintro _ st ⟨rfl,rfl⟩;cases hr:f.right
 ·simp only[go_sem,zE,zB,zA,zM,zS,zL,reduceCtorEq,fits];exact yQ0 ⟨rfl,rfl⟩
 simp only[go_sem,zE,zB,zA,zM,zS,zL,reduceCtorEq,fits];refine (h2 _).mono ?_;rintro _ st ⟨rfl,rfl⟩;simp only[go_sem,zE,zB,zA,zM,zS,zL,reduceCtorEq,fits];exact yQ0 ⟨rfl,rfl⟩
end Go.Proofs.Tryz
namespace Go.Proofs.Tryz
open Go Go.Iv
mutual
def Tr.leaves:Tr->Nat
 | .mk _ _ _ _ _ sub=>if sub.isEmpty then 1 else yUk sub
def yUk:List Tr->Nat
 | []=>0
 | a::l=>Tr.leaves a+yUk l
end
mutual
def Nd.branches:Nd->Nat
 | .mk _ _ _ sub=>if sub.isEmpty then 1 else yQl sub
def yQl:List Nd->Nat
 | []=>0
 | a::l=>Nd.branches a+yQl l
end
theorem zGz (l:List Mk)(m:Mk)(c:Bool):¬ yY7 l m c=17:=by
 unfold yY7 yJm
 repeat' split
 all_goals decide
mutual
theorem yG1:∀(n:Nd)(l:List Mk)(p:List Nat),(yZi l p n).2=0->(yJc l n).steps=n.nodes/\Tr.leaves (yJc l n)=n.branches/\(yJc l n).cuts=0
 | .mk m c w sub,l,p,h=>by
  unfold yZi at h;split at h
  ·rename_i h1;exact absurd h h1
  rename_i h1;obtain⟨hm,hcl,hfind,rfl,hk⟩:=yJj (Decidable.not_not.1 h1);unfold yJc;cases c
  ·simp only[bFt,if_false] at h hk;obtain⟨h2,h3,h4⟩:=zXk sub (yQi m 0) l p 0 hk.symm h;have he:(yXa l (yQi m 0) sub).isEmpty=sub.isEmpty:=by
    have:=yVx l (yQi m 0) sub hk.symm;rw[Bool.eq_iff_iff,List.isEmpty_iff,List.isEmpty_iff,<- List.length_eq_zero_iff,<- List.length_eq_zero_iff,this,hk]
   simp only[bFt,if_false,Tr.steps,Nd.nodes,Tr.leaves,Nd.branches,Tr.cuts,h2,h3,h4,he,if_neg (zGz _ _ _),Nat.zero_add,and_self]
  ·simp only[if_true] at hk;obtain rfl:=List.eq_nil_of_length_eq_zero hk;simp only[if_true,Tr.steps,Nd.nodes,Tr.leaves,Nd.branches,Tr.cuts,yQm,yQg,yZ8,if_neg (zGz _ _ _),Nat.zero_add,and_self,List.isEmpty_nil,if_true]
theorem zXk:∀(ns:List Nd)(qs:List (List Mk))(l:List Mk)(p:List Nat)(i:Nat),qs.length=ns.length->(yX2 l p i qs ns).2=0->yQm (yXa l qs ns)=yQg ns/\yUk (yXa l qs ns)=yQl ns/\yZ8 (yXa l qs ns)=0
 | [],[],l,p,i,_,_=>⟨rfl,rfl,rfl⟩
 | [],_::_,l,p,i,h,_=>by simp at h
 | _::_,[],l,p,i,h,_=>by simp at h
 | n::ns,q::qs,l,p,i,hl,h=>by
  unfold yX2 at h;split at h
  ·rename_i h1;exact absurd h h1
  rename_i h1;obtain⟨a1,a2,a3⟩:=yG1 n _ _ (Decidable.not_not.1 h1);obtain⟨b1,b2,b3⟩:=zXk ns qs l p _ (by simpa using hl) h;simp only[yXa,yQm,yQg,yUk,yQl,yZ8,a1,a2,a3,b1,b2,b3,Nat.zero_add,and_self]
end
theorem zKa {s:Sq}{n:Nd}(h:(yK3 s n).2=0):yX9 s=true/\n.nodes<=300/\(yZi (yQp s) [] n).2=0:=by
 unfold yK3 at h;split at h
 ·cases h
 rename_i h1;split at h
 ·cases h
 rename_i h2;exact⟨by simpa using h1,by omega,h⟩
theorem yKd {s:Sq}{m:Mk}:m∈yQp s↔m.w=0/\((m.is=true/\m.f∈s.l)\/(m.is=false/\m.f∈s.r)):=by
 unfold yQp yJe;rw[yV7,List.mem_append,List.mem_map,List.mem_map];constructor
 ·rintro (h|⟨f,hf,rfl⟩|⟨f,hf,rfl⟩)
  ·cases h
  ·exact⟨rfl,.inl ⟨rfl,hf⟩⟩
  ·exact⟨rfl,.inr ⟨rfl,hf⟩⟩
 ·obtain⟨is,w,f⟩:=m;rintro⟨rfl,⟨rfl,h⟩|⟨rfl,h⟩⟩
  ·exact .inr (.inl ⟨f,h,rfl⟩)
  ·exact .inr (.inr ⟨f,h,rfl⟩)
theorem yVv {s:Sq}(h:yX9 s=true):s.l.length<=16/\s.r.length<=16/\(∀f∈s.l,fmB 1 f=true)/\∀f∈s.r,fmB 1 f=true:=by
 unfold yX9 at h;simp only[bAt,dTe,List.all_append,List.all_eq_true] at h;exact⟨h.1.1,h.1.2,h.2.1,h.2.2⟩
theorem yJl {s:Sq}(h:yX9 s=true):GoodT (yQp s):=λm hm=>by
 obtain⟨_,_,h1,h2⟩:=yVv h;obtain⟨hw,h|h⟩:=yKd.1 hm
 ·exact⟨h1 _ h.2,hw⟩
 ·exact⟨h2 _ h.2,hw⟩
theorem yG3 {s:Sq}{f:Fm}:(f∈yZ6 true (yQp s)↔f∈s.l)/\(f∈yZ6 false (yQp s)↔f∈s.r):=by
 constructor
 ·rw[yJ7];constructor
  ·rintro⟨m,hm,hi,rfl⟩;obtain⟨_,h|h⟩:=yKd.1 hm
   ·exact h.2
   ·rw[hi] at h;cases h.1
  ·exact λh=>⟨⟨true,0,f⟩,yKd.2 ⟨rfl,.inl ⟨rfl,h⟩⟩,rfl,rfl⟩
 ·rw[yJ7];constructor
  ·rintro⟨m,hm,hi,rfl⟩;obtain⟨_,h|h⟩:=yKd.1 hm
   ·rw[hi] at h;cases h.1
   ·exact h.2
  ·exact λh=>⟨⟨false,0,f⟩,yKd.2 ⟨rfl,.inr ⟨rfl,h⟩⟩,rfl,rfl⟩
theorem xW3 {s:Sq}(h:yX9 s=true):yXj (sqT (yQp s)) s=true/\yXj s (sqT (yQp s))=true:=by
 have hg:=yJl h;obtain⟨_,_,h1,h2⟩:=yVv h;exact⟨xQs (yW7 (yG4 hg true)) (yW7 (yG4 hg false)) (λf hf=>yG3.1.1 hf) (λf hf=>yG3.2.1 hf),
  xQs (yW7 (List.all_eq_true.2 h1)) (yW7 (List.all_eq_true.2 h2)) (λf hf=>yG3.1.2 hf) (λf hf=>yG3.2.2 hf)⟩
theorem yWd (b:Bool)(l q:List Mk):yZ6 b (l++q)=yZ6 b l++yZ6 b q:=by simp[yZ6]
theorem zGv (b:Bool):∀(q l:List Mk),(yZ6 b (yQu l q)).length<=(yZ6 b l).length+(yZ6 b q).length
 | [],l=>by simp[yQu,yZ6]
 | m::q,l=>by
  have h:=zGv b q (addT l m);have h1:(yZ6 b (addT l m)).length<=(yZ6 b l).length+(yZ6 b [m]).length:=by
   unfold addT;split
   ·omega
   ·rw[yWd,lLa];omega
  have h2:yZ6 b (m::q)=yZ6 b [m]++yZ6 b q:=yWd b [m] q;rw[h2,lLa];show (yZ6 b (yQu (addT l m) q)).length<=_;omega
theorem xW1 (s:Sq):yZ6 true (yJe s)=s.l/\yZ6 false (yJe s)=s.r:=by
 have h1:∀(b c:Bool) (l:List Fm),yZ6 b (l.map (⟨c,0,·⟩))=if c=b then l else []:=λb c l=>by
  induction l with
  | nil=>cases b<;>cases c<;>rfl
  | cons a l ih =>
   cases b<;>cases c
   all_goals simp only[yZ6,List.map_cons] at ih ⊢
   all_goals simp at ih ⊢
   all_goals exact ih
 unfold yJe;rw[yWd,yWd,h1,h1,h1,h1];simp
theorem xQi {s:Sq}(h:yX9 s=true)(b:Bool):(yZ6 b (yQp s)).length<=16:=by
 obtain⟨h1,h2,_⟩:=yVv h;have:=zGv b (yJe s) [];have h0:(yZ6 b []).length=0:=rfl;obtain⟨e1,e2⟩:=xW1 s;unfold yQp;cases b
 ·rw[e2] at this;omega
 ·rw[e1] at this;omega
theorem uWf {s:Sq}{n:Nd}(h:(yK3 s n).2=0)(hb:bigT (yQp s) n=false) :
  yXc 1 (yJc (yQp s) n)=([],0)/\(yJc (yQp s) n).cuts=0/\(yXj (yJc (yQp s) n).sq s&&yXj s (yJc (yQp s) n).sq)=true/\(yJc (yQp s) n).steps=n.nodes/\Tr.leaves (yJc (yQp s) n)=n.branches:=by
 obtain⟨h1,h2,h3⟩:=zKa h;obtain⟨a1,a2,a3⟩:=yG1 n _ _ h3;obtain⟨w1,w2⟩:=xW3 h1;have hc:(yXc 1 (yJc (yQp s) n)).2=0:=zQs.2 ⟨rfl,by omega,xKu n _ _ (yJl h1) h3 hb⟩;refine⟨?_,a3,by rw[xJe,w1,w2];rfl,a1,a2⟩;unfold yXc at hc ⊢;rw[show yXo 1=true from rfl] at hc ⊢;simp only[Bool.not_true,bFt,if_false] at hc ⊢;split
 ·omega
 ·rename_i h';rw[if_neg h'] at hc;exact yWt _ _ hc
end Go.Proofs.Tryz
namespace Go.Proofs.Tryz
open Go Go.Iv
set_option maxRecDepth 4000
variable (gl:Nat->Option IV)
theorem xQb:∀(k:Nat)(n:Nd),SizeOf.sizeOf n<k->CkOk gl n
 | 0,n,h=>by omega
 | k+1,.mk m c w sub,h=>xY3 gl m c w sub λa ha=>xQb k a (by
   have:=lSm ha;simp only[Nd.mk.sizeOf_spec] at h;omega)
theorem vQl (n:Nd):CkOk gl n:=xQb gl _ n (Nat.lt_succ_self _)
def mOp (f:Fm):Prop:=∀(x:IV) (_:IsFm f x) (st:ISt),ICall prog gl 91 [.raw (.int .u8 1),x] st (λr st'=>r=.raw (.bool (opsB 1 f))/\st'=st)
theorem wJu (o:Nat)(n:ByteArray)(us:List Tm)(sub:List Fm)(IH:∀a∈sub,mOp gl a):mOp gl (.mk o n us sub):=by
 intro x hx st;obtain⟨t1,x1,t2,x2,rfl,ho,ht1,hx1,ht2,hx2⟩:=hx.mk;refine iI func91 ?_;by_cases hu:us=[]
 case neg =>
  have hpos:0<us.length:=List.length_pos_iff.2 hu;have e4:decide ((0:Int)<(us.length:Int))=true:=dEt (by omega);simp only[go_sem,zE,reduceCtorEq,e4,hx1.len,decide_true];intros;exact yQ0 ⟨by simp[opsB,hu],rfl⟩
 subst hu;have e4:decide ((0:Int)<((0:Nat):Int))=false:=rfl;by_cases h1:1<=o
 case neg =>
  have e1:decide ((o:Int)<1)=true:=dEt (by omega);simp only[go_sem,zE,zA,zL,reduceCtorEq,e1,e4,hx1.len,decide_true];intros;exact yQ0 ⟨by simp[opsB,h1],rfl⟩
 have e1:decide ((o:Int)<1)=false:=dEf (by omega);by_cases h2:o<=7
 case neg =>
  have e2:decide ((7:Int)<(o:Int))=true:=dEt (by omega);simp only[go_sem,zE,zA,zL,reduceCtorEq,e1,e2,e4,hx1.len,decide_true];intros;exact yQ0 ⟨by simp[opsB,h2],rfl⟩
 have e2:decide ((7:Int)<(o:Int))=false:=dEf (by omega);have hq:opsB 1 (.mk o n [] sub)=yJn 1 sub:=by simp[opsB,h1,h2]
 rw[hq];simp only[go_sem,zE,zA,zL,reduceCtorEq,e1,e2,e4,hx1.len,hx2.len,decide_true];intros;refine LoopC.ctr sub.length (λk fr st' ds=>yJn 1 (sub.take k)=true/\fr 0=.iv (.raw (.int .u8 1))/\fr 39=.iv (.sl t2 x2)/\fr 40=.iv (.raw (.int .i64 sub.length))/\fr 41=.iv (.raw (.int .i64 k))/\st'=st/\ds=[]) ?_ ?_ ?_
 ·simp only[go_sem,zE,reduceCtorEq];simp[yJn]
 ·rintro k fr st1 _ hlt ⟨hn,f0,f39,f40,f41,rfl,rfl⟩;obtain⟨a,ha⟩:=yQ3 hlt;obtain⟨y,hky,hy⟩:=hx2.get ha;have hcall:=IH a (lMg ha) y hy st1;obtain⟨o5,n5,t5,x5,t6,x6,rfl⟩:=hy.agg;simp only[go_sem,zE,zB,zA,zL,reduceCtorEq,f0,f39,f40,f41,lt_i hlt,yQ2 ht2,iNn,hky,fits];refine hcall.mono ?_;rintro _ _ ⟨rfl,rfl⟩;cases hr:opsB 1 a
  ·simp only[go_sem];exact yQ0 ⟨by rw[zJ2 (lMg ha) hr],rfl⟩
  ·simp only[go_sem,zE,reduceCtorEq,f0,f39,f40,f41,yQa hlt (show sub.length<=281474976710656 by omega)];rw[yQ8 ha,yKb,hn];simp[yJn,hr]
 ·rintro fr st1 _ ⟨hn,f0,f39,f40,f41,rfl,rfl⟩;rw[lTl] at hn;simp only[go_sem,f40,f41,yQk (nLi _)];exact yQ0 ⟨by rw[hn],rfl⟩
theorem xUn:∀(k:Nat)(f:Fm),SizeOf.sizeOf f<k->mOp gl f
 | 0,f,h=>by omega
 | k+1,.mk o n us sub,h=>wJu gl o n us sub (λa ha=>xUn k a (by
   have:=lSm ha;simp only[Fm.mk.sizeOf_spec] at h;omega))
theorem wUd (f:Fm):mOp gl f:=xUn gl _ f (Nat.lt_succ_self _)
theorem zW7 (st:ISt):ICall prog gl 43 [.raw (.int .u8 1)] st (λr st'=>r=.raw (.bool true)/\st'=st):=by
 refine iI func43 ?_;simp only[go_sem,zE,reduceCtorEq,show decide ((1:Int)<=1)=true from rfl,show decide ((1:Int)<=5)=true from rfl];exact yQ0 ⟨rfl,rfl⟩
theorem zW8 (G:Gl gl)(s:Sq)(x:IV)(hx:IsSq s x)(hs:yVt s)(st:ISt):ICall prog gl 44 [.raw (.int .u8 1),x] st (λr st'=>r=.raw (.bool (yX9 s))/\st'=st):=by
 obtain⟨t1,x1,t2,x2,rfl,e1,i1,e2,i2⟩:=hx;have hk:=λst=>zW7 gl st;unfold yX9;refine iI func44 ?_;simp only[go_sem,zA,reduceCtorEq];refine (hk _).mono ?_;rintro _ st ⟨rfl,rfl⟩;by_cases h1:s.l.length<=16
 case neg =>
  have e:decide ((16:Int)<(s.l.length:Int))=true:=dEt (by omega);simp only[go_sem,zE,i1.len,e];intros;exact yQ0 ⟨by simp[h1],rfl⟩
 by_cases h2:s.r.length<=16
 case neg =>
  have e:decide ((16:Int)<(s.l.length:Int))=false:=dEf (by omega);have e':decide ((16:Int)<(s.r.length:Int))=true:=dEt (by omega);simp only[go_sem,zE,i1.len,i2.len,e,e'];intros;exact yQ0 ⟨by simp[h2],rfl⟩
 have e:decide ((16:Int)<(s.l.length:Int))=false:=dEf (by omega);have e':decide ((16:Int)<(s.r.length:Int))=false:=dEf (by omega);simp only[go_sem,zE,zA,zM,zL,i1.len,i2.len,e,e',fits,yQe];intros;refine (zYx gl s.l s.r t1 t2 _ x1 x2 (.inr rfl) i1 i2 (by omega) _).mono ?_;rintro _ st ⟨t,ys,rfl,ht,hys,rfl⟩;rw[dEt h1,dEt h2,Bool.true_and,Bool.true_and];have hfit:∀f∈s.l++s.r,f.size<=1000000:=λf hf=>(List.mem_append.1 hf).elim (hs.1 f) (hs.2 f);have hlen:(s.l++s.r).length<=281474976710656:=by rw[lLa];omega
 generalize s.l++s.r=L at hys hfit hlen ⊢;simp only[go_sem,hys.len];intro _;refine LoopC.ctr L.length (λk fr st' ds=>(L.take k).all (fmB 1)=true/\fr 0=.iv (.raw (.int .u8 1))/\fr 27=.iv (.sl t ys)/\fr 28=.iv (.raw (.int .i64 L.length))/\fr 29=.iv (.raw (.int .i64 k))/\st'=st/\ds=[]) ?_ ?_ ?_
 ·simp only[go_sem,zE,reduceCtorEq]
  first|rfl|exact⟨rfl,rfl⟩
 ·rintro k fr st1 _ hlt ⟨hn,f0,f27,f28,f29,rfl,rfl⟩;obtain⟨a,ha⟩:=yQ3 hlt;obtain⟨y,hky,hy⟩:=hys.get ha;have hm:=lMg ha;have hR:=λst=>zYt gl G a y hy st (hfit a hm);have hM:=λst=>wUd gl a y hy st;have hout:fmB 1 a=false->L.all (fmB 1)=false:=λhb=>List.all_eq_false.2 ⟨a,hm,by simp[hb]⟩;obtain⟨o5,n5,t5,x5,t6,x6,rfl⟩:=hy.agg;simp only[go_sem,zE,zB,zA,zL,f27,f28,f29,lt_i hlt,yQ2 ht,iNn,hky,fits];refine (hR _).mono ?_;rintro _ _ ⟨rfl,rfl⟩;cases hr:a.right
  ·simp only[go_sem,zE];exact yQ0 ⟨by rw[hout (by simp[fmB,hr])],rfl⟩
  ·simp only[go_sem,zE,zA,zL,reduceCtorEq,f0];refine (hM _).mono ?_;rintro _ _ ⟨rfl,rfl⟩;cases ho:opsB 1 a
   ·simp only[go_sem,zE];exact yQ0 ⟨by rw[hout (by simp[fmB,ho])],rfl⟩
   ·simp only[go_sem,zE,reduceCtorEq,f0,f27,f28,f29,yQa hlt hlen];rw[yQ8 ha,List.all_append,hn];simp[fmB,hr,ho]
 ·rintro fr st1 _ ⟨hn,f0,f27,f28,f29,rfl,rfl⟩;rw[lTl] at hn;simp only[go_sem,f28,f29,yQk (nLi _)];exact yQ0 ⟨by rw[hn],rfl⟩
def NdOk (n:Nd):Prop:=∀(z:IV) (s:Nat) (lim:Int) (st:ISt),IsNd n z->s+n.nodes<=1099511627776->ICall prog gl 65 [.cptr z,.raw (.int .i64 s),.raw (.int .i64 lim)] st
 (λr st'=>(∃q:Nat,r=.raw (.int .i64 q)/\q<=s+n.nodes/\(lim<0\/((s+n.nodes:Nat):Int)<=lim->q=s+n.nodes)/\(0<=lim->lim<((s+n.nodes:Nat):Int)->lim<(q:Int)))/\st'=st)
theorem yXk:∀l m:List Nd,yQg (l++m)=yQg l+yQg m
 | [],m=>by simp[yQg]
 | a::l,m=>by simp only[List.cons_append,yQg,yXk l m];omega
theorem yJq (l:List Nd)(k:Nat):yQg (l.take k)<=yQg l:=by
 conv=>rhs;rw[<- List.take_append_drop k l]
 rw[yXk];omega
theorem yJt:∀l:List Nd,l.length<=yQg l
 | []=>by simp[yQg]
 | .mk _ _ _ _::l=>by have:=yJt l;simp only[List.length_cons,yQg,Nd.nodes];omega
theorem xWf (m:Mk)(c:Bool)(w:Int)(sub:List Nd)(IH:∀a∈sub,NdOk gl a):NdOk gl (.mk m c w sub):=by
 intro z s lim st hz hb;obtain⟨o,n,t1,x1,t2,x2,ts,zs,rfl,hf,hts,hzs⟩:=hz.mk;simp only[Nd.nodes] at hb ⊢;have hlen:=yJt sub;have hw:IntKind.i64.wrap ((s:Int)+1)=((s+1:Nat):Int):=by rw[w64]<;>omega
 refine iI func65 ?_;simp only[go_sem,zE,reduceCtorEq,hw,hzs.len,fits];intro _;refine LoopC.ctr sub.length (λk fr st' ds=>(∃q:Nat,fr 1=.iv (.raw (.int .i64 q))/\q<=s+(1+yQg (sub.take k))/\(lim<0\/((s+(1+yQg (sub.take k)):Nat):Int)<=lim->q=s+(1+yQg (sub.take k)))/\(0<=lim->lim<((s+(1+yQg (sub.take k)):Nat):Int)->lim<(q:Int))) /\
  fr 0=.iv (.cptr (.agg [.raw (.bool m.is),.raw (.int .i64 m.w),.raw (.int .u8 o),.raw (.string n),.sl t1 x1,.sl t2 x2,.raw (.bool c),.raw (.int .i64 w),.sl ts zs]))/\fr 2=.iv (.raw (.int .i64 lim))/\fr 14=.iv (.raw (.int .i64 sub.length))/\fr 15=.iv (.raw (.int .i64 k))/\st'=st/\ds=[]) ?_ ?_ ?_
 ·simp only[go_sem,zE,reduceCtorEq];exact⟨⟨s+1,by rfl,by simp[yQg],λ_=>by simp[yQg],λ_ h=>by simpa[yQg] using h⟩,rfl⟩
 ·rintro k fr st1 _ hlt ⟨⟨q,f1,hq1,hq2,hq3⟩,f0,f2,f14,f15,rfl,rfl⟩;have htk:=yJq sub k;have htk1:=yJq sub (k+1);obtain⟨a,ha⟩:=yQ3 hlt;obtain⟨y,hky,hy⟩:=hzs.get ha;have hsum:yQg (sub.take (k+1))=yQg (sub.take k)+a.nodes:=by rw[yQ8 ha,yXk];simp[yQg]
  by_cases hbr:0<=lim/\lim<(q:Int)
  ·have e1:decide ((0:Int)<=lim)=true:=dEt hbr.1;have e2:decide (lim<(q:Int))=true:=dEt hbr.2;simp only[go_sem,zE,reduceCtorEq,f1,f2,f14,f15,lt_i hlt,e1,e2];exact yQ0 ⟨⟨q,rfl,by omega,λh=>by omega,λ_ _=>hbr.2⟩,rfl⟩
  ·have hcall:=IH a (lMg ha) y q lim st1 hy (by omega);have fin:∀q':Nat,q'<=q+a.nodes->(lim<0\/((q+a.nodes:Nat):Int)<=lim->q'=q+a.nodes)->(0<=lim->lim<((q+a.nodes:Nat):Int)->lim<(q':Int)) →
     q'<=s+(1+yQg (sub.take (k+1)))/\(lim<0\/((s+(1+yQg (sub.take (k+1))):Nat):Int)<=lim->q'=s+(1+yQg (sub.take (k+1))))/\(0<=lim->lim<((s+(1+yQg (sub.take (k+1))):Nat):Int)->lim<(q':Int)):=λq' h1 h2 h3=>by
    rw[hsum];have hqe:q=s+(1+yQg (sub.take k)):=by
     by_cases hl:lim<0
     ·exact hq2 (.inl hl)
     ·by_cases hc:((s+(1+yQg (sub.take k)):Nat):Int)<=lim
      ·exact hq2 (.inr hc)
      ·exact absurd ⟨by omega,hq3 (by omega) (by omega)⟩ hbr
    subst hqe;refine⟨by omega,λh=>?_,λh0 h=>h3 h0 (by omega)⟩;rw[h2 (by omega)];omega
   by_cases h0:0<=lim
   ·have e1:decide ((0:Int)<=lim)=true:=dEt h0;have e2:decide (lim<(q:Int))=false:=dEf (λh=>hbr ⟨h0,h⟩);simp only[go_sem,zE,zA,reduceCtorEq,f0,f1,f2,f14,f15,lt_i hlt,e1,e2,yQ2 hts,iNn,hky,fits];refine hcall.mono ?_;rintro _ _ ⟨⟨q',rfl,h1,h2,h3⟩,rfl⟩;simp only[go_sem,zE,reduceCtorEq,f0,f2,f14,f15,yQa hlt (show sub.length<=281474976710656 by omega)];exact⟨q',rfl,fin q' h1 h2 h3⟩
   ·have e1:decide ((0:Int)<=lim)=false:=dEf h0;simp only[go_sem,zE,zA,reduceCtorEq,f0,f1,f2,f14,f15,lt_i hlt,e1,yQ2 hts,iNn,hky,fits];refine hcall.mono ?_;rintro _ _ ⟨⟨q',rfl,h1,h2,h3⟩,rfl⟩;simp only[go_sem,zE,reduceCtorEq,f0,f2,f14,f15,yQa hlt (show sub.length<=281474976710656 by omega)];exact⟨q',rfl,fin q' h1 h2 h3⟩
 ·rintro fr st1 _ ⟨⟨q,f1,hq1,hq2,hq3⟩,f0,f2,f14,f15,rfl,rfl⟩;rw[lTl] at hq1 hq2 hq3;simp only[go_sem,zE,f1,f14,f15,yQk (nLi _)];exact yQ0 ⟨⟨q,rfl,hq1,hq2,hq3⟩,rfl⟩
theorem zUk:∀(k:Nat)(n:Nd),SizeOf.sizeOf n<k->NdOk gl n
 | 0,n,h=>by omega
 | k+1,.mk m c w sub,h=>xWf gl m c w sub λa ha=>zUk k a (by
   have:=lSm ha;simp only[Nd.mk.sizeOf_spec] at h;omega)
theorem yXq {n:Nd}{z:IV}(h:IsNd n z):∃(v:Bool) (w':Int) (o:Int) (n:ByteArray) (t:Tag) (xs:List IV) (t':Tag) (ys:List IV) (c:Bool) (w:Int) (ts:Tag) (zs:List IV),z=.agg [.raw (.bool v),.raw (.int .i64 w'),.raw (.int .u8 o),.raw (.string n),.sl t xs,.sl t' ys,.raw (.bool c),.raw (.int .i64 w),.sl ts zs]:=by
 obtain⟨m,c,w,sub⟩:=n;obtain⟨_,_,_,_,_,_,_,_,h,_⟩:=h.mk;exact⟨_,_,_,_,_,_,_,_,_,_,_,_,h⟩
theorem wXq (G:Gl gl)(s:Sq)(x:IV)(hx:IsSq s x)(hs:yVt s)(n:Nd)(z:IV)(hz:IsNd n z)(hb:n.nodes<=1000000000)(st:ISt) :
  ICall prog gl 28 [.raw (.int .u8 1),x,z] st (λr st'=>(∃tg,r=.tup [.sl tg (plI (yK3 s n).1),.raw (.int .i64 (yK3 s n).2)]/\okEs tg 1)/\st'=st):=by
 have hk:=λst=>zW7 gl st;have hV:=λst=>zW8 gl G s x hx hs st;have hN:=λst=>zUk gl _ n (Nat.lt_succ_self _) z 0 300 st hz (by omega);have hB:=λh st=>wZd gl s x hx h st;have hC:=λa=>vQl gl n a;obtain⟨t1,x1,t2,x2,rfl,_⟩:=hx;have hz0:=hz;obtain⟨_,_,_,_,_,_,_,_,_,_,_,_,rfl⟩:=yXq hz;unfold yK3;refine ICall.intro (c:=cf prog gl [8] [] [5]) func28 rfl (by show _<=24;simp) (by kernel_rfl) ?_;simp only[go_sem,zE,zA,reduceCtorEq];refine (hk _).mono ?_;rintro _ st ⟨rfl,rfl⟩;simp only[go_sem,zE,zA,zL,reduceCtorEq];refine (hV _).mono ?_;rintro _ st ⟨rfl,rfl⟩;cases hv:yX9 s
 ·simp only[go_sem,zE];exact yQ0 ⟨⟨_,rfl,.inl rfl⟩,rfl⟩
 simp only[go_sem,zE,zA,reduceCtorEq];refine (hN _).mono ?_;rintro _ st ⟨⟨q,rfl,hq1,hq2,hq3⟩,rfl⟩;rw[Nat.zero_add] at hq1 hq2 hq3;by_cases hn:300<n.nodes
 ·have d:decide ((300:Int)<(q:Int))=true:=dEt (hq3 (by decide) (by omega));simp only[go_sem,zE,d];rw[if_pos hn];exact yQ0 ⟨⟨_,rfl,.inl rfl⟩,rfl⟩
 have d:decide ((300:Int)<(q:Int))=false:=dEf (by rw[hq2 (.inr (by omega))];omega);obtain⟨v1,v2,_⟩:=yVv hv;rw[if_neg hn];simp only[go_sem,zE,zA,zL,reduceCtorEq,d];refine (hB (by omega) _).mono ?_;rintro _ _ ⟨tb,es,htb,hes,hbr,rfl⟩;obtain⟨t4,x4,t5,v5,rfl,_⟩:=id hbr;unfold brI;simp only[go_sem,zE,zA,zL];refine λb=>yQf λhbn=>?_;have hbt:tb≠b:=λhq=>by rw[<- hq,ISt.put_same] at hbn;cases hbn
 simp only[go_sem,yQh];have hbl:=xQi hv;have hlen:(yQp s).length<=40:=by
  have h1:=yZc (yJe s) [];unfold yJe at h1;rw[lLa,List.length_map,List.length_map,List.length_nil] at h1;unfold yQp yJe;omega
 refine (ICall.frz1 (ISt.put_same ..) (hC (yQp s) tb _ [] _ _ _ es (yJl hv) hbr.aged hz0 (by omega) (by simp only[List.length_nil];omega) (.inl ⟨⟨true,.nil,0⟩,rfl,rfl,rfl⟩) ?_ hes)).mono ?_
 ·show (((st.put tb _).put b _).put b none) tb=_;rw[yQ9 hbt,yQ9 hbt,ISt.put_same]
 rintro _ st5 ⟨⟨tg5,rfl,htg5⟩,hsub5,_⟩;simp only[go_sem,zE];refine yQb (st':=st) (λc o hc=>hsub5 c o ?_) ⟨⟨tg5,rfl,htg5⟩,rfl⟩;have h1:c≠tb:=λhq=>by rw[hq,htb] at hc;cases hc
 have h2:c≠b:=λhq=>by rw[hq] at hc;rw[yQ9 (by exact hbt.symm)] at hbn;rw[hbn] at hc;cases hc
 show (((st.put tb _).put b _).put b none) c=_;rw[yQ9 h2,yQ9 h2,yQ9 h1];exact hc
theorem xGy (l:List Fm)(t:Tag)(xs:List IV)(ht:okEs t 4)(hxs:IsFms l xs)(hl:fitL l)(st:ISt) :
  ICall prog gl 125 [.raw (.int .u8 1),.sl t xs] st (λr st'=>r=.raw (.bool (decide (l.length<=16)&&l.all (fmB 1)))/\st'=st):=by
 refine iI func125 ?_;simp only[go_sem,zE,zB,zA,zM,zS,zL,reduceCtorEq,fits];refine LoopC.ctr l.length (λk fr st' ds=>(l.take k).all (fmB 1)=true/\fr 0=.iv (.raw (.int .u8 1))/\fr 1=.iv (.sl t xs)/\fr 5=.iv (.raw (.int .i64 k))/\st'=st/\ds=[]) ?_ ?_ ?_
 ·simp only[go_sem,zE,zB,zA,zM,zS,zL,reduceCtorEq];exact rfl
 ·rintro k fr st1 _ hlt ⟨hk,f0,f1,f5,rfl,rfl⟩;obtain⟨a,ha⟩:=yQ3 hlt;obtain⟨z,hkz,hzz⟩:=hxs.get ha;have ham:=lMg ha;have hsz:=hl a ham;have h1:=λst=>zZr gl a z hzz (by omega) st;have h2:=λst=>wW8 gl _ a (Nat.lt_succ_self _) 1 (by decide) rfl z hzz (by omega) st;have hno:fmB 1 a=false->(decide (l.length<=16)&&l.all (fmB 1))=false:=λh=>by
   rw[List.all_eq_false.2 ⟨a,ham,by simp[h]⟩,Bool.and_false]
  obtain⟨o5,n5,t5,x5,t6,x6,rfl⟩:=hzz.agg;simp only[go_sem,zE,zB,zA,zM,zS,zL,reduceCtorEq,f0,f1,f5,hxs.len,lt_i hlt,yQ2 ht,iNn,hkz,fits];intros;refine (h1 _).mono ?_;rintro _ _ ⟨rfl,rfl⟩;have hfb:=hzz.fmB (ca:=1);cases hr:a.right
  ·simp only[go_sem,zE,zB,zA,zM,zS,zL,reduceCtorEq,fits];exact yQ0 ⟨by rw[hno (hfb.trans hr)],rfl⟩
  simp only[go_sem,zE,zB,zA,zM,zS,zL,reduceCtorEq,f0,f1,f5,yQ2 ht,iNn,hkz,fits];refine (h2 _).mono ?_;rintro _ _ ⟨rfl,rfl⟩;simp only[go_sem,zE,zB,zA,zM,zS,zL,reduceCtorEq,f0,f1,f5,fits,yQa hlt (show l.length<=281474976710656 by have:=hxs.len;omega)];rw[yQ8 ha,List.all_append,hk];simp[hfb,hr]
 ·rintro fr st1 _ ⟨hk,f0,f1,f5,rfl,rfl⟩;rw[lTl] at hk;have dl:decide ((l.length:Int)<=16)=decide (l.length<=16):=by rw[decide_eq_decide];omega
  simp only[go_sem,zE,zB,zA,zM,zS,zL,reduceCtorEq,f0,f1,f5,hxs.len,yQk (nLi _),dl,fits];intros;exact yQ0 ⟨by rw[hk,Bool.and_true],rfl⟩
theorem zU3 (s:Sq)(x:IV)(hx:IsSq s x)(hs:yVt s)(st:ISt):ICall prog gl 81 [.raw (.int .u8 1),x] st (λr st'=>r=.raw (.bool (yX9 s))/\st'=st):=by
 obtain⟨t1,x1,t2,x2,rfl,e1,i1,e2,i2⟩:=hx;have h1:=λst=>xGy gl s.l t1 x1 e1 i1 hs.1 st;have h2:=λst=>xGy gl s.r t2 x2 e2 i2 hs.2 st;have hv:yX9 s=((decide (s.l.length<=16)&&s.l.all (fmB 1))&&(decide (s.r.length<=16)&&s.r.all (fmB 1))):=by
  unfold yX9;rw[List.all_append];cases decide (s.l.length<=16)<;>cases decide (s.r.length<=16)<;>cases s.l.all (fmB 1)<;>rfl
 rw[hv];refine iI func81 ?_;simp only[go_sem,zE,zB,zA,zM,zS,zL,reduceCtorEq,fits,show decide ((1:Int)<=1)=true from rfl,show decide ((1:Int)<=5)=true from rfl];refine (h1 _).mono ?_;rintro _ _ ⟨rfl,rfl⟩;cases decide (s.l.length<=16)&&s.l.all (fmB 1)
 ·simp only[go_sem,zE,zB,zA,zM,zS,zL,reduceCtorEq,fits];exact yQ0 ⟨rfl,rfl⟩
 simp only[go_sem,zE,zB,zA,zM,zS,zL,reduceCtorEq,fits];refine (h2 _).mono ?_;rintro _ _ ⟨rfl,rfl⟩;simp only[go_sem,zE,zB,zA,zM,zS,zL,reduceCtorEq,fits];exact yQ0 ⟨rfl,rfl⟩
def rnC (n:Nd):Prop:=∀(z:IV) (_:IsNd n z) (_:n.nodes<=1000000000) (st:ISt),ICall prog gl 100 [z] st (λr st'=>r=.raw (.int .i64 n.nodes)/\st'=st)
theorem wGn (m:Mk)(c:Bool)(w:Int)(sub:List Nd)(IH:∀a∈sub,rnC gl a):rnC gl (.mk m c w sub):=by
 intro z hz hb st;obtain⟨o,n,t1,x1,t2,x2,ts,zs,rfl,hf,hts,hzs⟩:=hz.mk;simp only[Nd.nodes] at hb ⊢;have hlen:=yJt sub;refine iI func100 ?_;simp only[go_sem,zE,zB,zA,zM,zS,zL,reduceCtorEq,fits];refine LoopC.ctr sub.length (λk fr st' ds=>fr 1=.box [.raw (.bool m.is),.raw (.int .i64 m.w),.raw (.int .u8 o),.raw (.string n),.sl t1 x1,.sl t2 x2,.raw (.bool c),.raw (.int .i64 w),.sl ts zs]/\fr 3=.iv (.raw (.int .i64 ((1+yQg (sub.take k):Nat):Int)))/\fr 4=.iv (.raw (.int .i64 k))/\st'=st/\ds=[]) ?_ ?_ ?_
 ·simp only[go_sem,zE,zB,zA,zM,zS,zL,reduceCtorEq];exact⟨rfl,rfl⟩
 ·rintro k fr st1 _ hlt ⟨f1,f3,f4,rfl,rfl⟩;have htk1:=yJq sub (k+1);obtain⟨a,ha⟩:=yQ3 hlt;obtain⟨y,hky,hy⟩:=hzs.get ha;have hsum:yQg (sub.take (k+1))=yQg (sub.take k)+a.nodes:=by rw[yQ8 ha,yXk];simp[yQg]
  have hcall:=λst=>IH a (lMg ha) y hy (by omega) st;have hw:IntKind.i64.wrap (((1+yQg (sub.take k):Nat):Int)+(a.nodes:Int))=((1+yQg (sub.take (k+1)):Nat):Int):=by rw[w64]<;>omega
  obtain⟨_,_,_,_,_,_,_,_,_,_,_,_,rfl⟩:=yXq hy;simp only[go_sem,zE,zB,zA,zM,zS,zL,reduceCtorEq,f1,f3,f4,hzs.len,lt_i hlt,yQ2 hts,iNn,hky,fits];intros;refine (hcall _).mono ?_;rintro _ _ ⟨rfl,rfl⟩;simp only[go_sem,zE,zB,zA,zM,zS,zL,reduceCtorEq,f1,f3,f4,fits,hw,yQa hlt (show sub.length<=281474976710656 by omega)]
 ·rintro fr st1 _ ⟨f1,f3,f4,rfl,rfl⟩;rw[lTl] at f3;simp only[go_sem,zE,zB,zA,zM,zS,zL,reduceCtorEq,f1,f3,f4,hzs.len,yQk (nLi _),fits];intros;exact yQ0 ⟨rfl,rfl⟩
theorem wW7:∀(k:Nat)(n:Nd),SizeOf.sizeOf n<k->rnC gl n
 | 0,n,h=>by omega
 | k+1,.mk m c w sub,h=>wGn gl m c w sub λa ha=>wW7 k a (by
   have:=lSm ha;simp only[Nd.mk.sizeOf_spec] at h;omega)
def rkC (n:Nd):Prop:=∀(l:List Mk) (x:IV) (p:List Nat) (tp:Tag) (z:IV) (st:ISt),GoodT l->RBr l x->IsNd n z->okEs tp 1->l.length+2*n.nodes<=800000->p.length+n.nodes<=800000 →
 ICall prog gl 101 [x,z,.sl tp (plI p)] st (λr st'=>(∃tg,r=.tup [.sl tg (plI (yZi l p n).1),.raw (.int .i64 (yZi l p n).2)]/\okEs tg 1)/\st'=st)
theorem xK1:∀p:List Nat,(plI p).all (fits false 1)=true
 | []=>rfl
 | a::p=>by simp only[plI,List.map_cons,List.all_cons,bAt];exact⟨by simp[fits,IV.one],xK1 p⟩
theorem wGq (m:Mk)(c:Bool)(w:Int)(sub:List Nd)(IH:∀a∈sub,rkC gl a):rkC gl (.mk m c w sub):=by
 intro l x p tp z st hl hx hz htp hb1 hb2;have hW:=λst=>xGx gl l hl (by omega) x hx m c w sub z hz st;have hB:=λh st=>xJy gl l x hx m c w sub z hz h (by omega) st;obtain⟨o,n,t1,x1,t2,x2,ts,zs,rfl,hf,hts,hzs⟩:=hz.mk;simp only[Nd.nodes] at hb1 hb2;have hplen:(plI p).length=p.length:=by simp[plI]
 obtain⟨t,xs,t',vs,hxe,hxr⟩:=id hx;subst hxe;unfold yZi;refine ICall.intro (c:=cf prog gl [] [(8,[0,1,2,3,4,5,6,7,8,9,10,12,13,11,14,15,16,17,18,19,20])]) func101 rfl (by show _<=52;simp) (by kernel_rfl) ?_;simp only[go_sem,zE,zB,zA,zM,zS,zL,reduceCtorEq,fits];refine (hW _).mono ?_;rintro _ st ⟨rfl,rfl⟩;by_cases h0:yV0 l m c w sub.length=0
 case neg =>
  have d0:decide (((yV0 l m c w sub.length:Nat):Int)=0)=false:=dEf (by omega);simp only[go_sem,zE,zB,zA,zM,zS,zL,reduceCtorEq,d0,fits];rw[if_pos h0];exact yQ0 ⟨⟨_,rfl,htp⟩,rfl⟩
 have d0:decide (((yV0 l m c w sub.length:Nat):Int)=0)=true:=dEt (by omega);rw[if_neg (by simpa using h0)];obtain⟨hm,_,hfi,rfl,hlen⟩:=yJj h0;have hop:=xUa hl hm;simp only[go_sem,zE,zB,zA,zM,zS,zL,reduceCtorEq,d0,fits];refine (hB hop _).mono ?_;rintro _ st ⟨⟨tg,ys,rfl,htg,hys⟩,rfl⟩;have hbl:=xVc l m c 0;have hsh:=yXz m 0;simp only[go_sem,zE,zB,zA,zM,zS,zL,reduceCtorEq,fits];refine LoopC.ctr (belT l m c 0).length (λk fr st' ds=>(c=false->yX2 l p 0 (yQi m 0) sub=yX2 l p k ((yQi m 0).drop k) (sub.drop k))/\fr 2=.iv (.sl tp (plI p))/\fr 4=.box [.raw (.bool m.is),.raw (.int .i64 m.w),.raw (.int .u8 o),.raw (.string n),.sl t1 x1,.sl t2 x2,.raw (.bool c),.raw (.int .i64 0),.sl ts zs]/\fr 9=.iv (.sl tg ys)/\fr 10=.iv (.raw (.int .i64 k))/\subSt st st'/\ds=[]) ?_ ?_ ?_
 ·simp only[go_sem,zE,zB,zA,zM,zS,zL,reduceCtorEq];exact⟨λ_=>trivial,rfl,subSt.refl _⟩
 ·rintro k fr st1 _ hlt ⟨hck,f2,f4,f9,f10,hsub,rfl⟩;cases c
  case true=>rw[hbl,if_pos rfl] at hlt;omega
  rw[hbl,if_neg (by decide)] at hlt;simp only[bFt,if_false] at hlen;obtain⟨_,_,hgood,_⟩:=yWy (hl m hm).1 (hfi rfl) 0;have hmw:=(hl m hm).2;obtain⟨q,hq⟩:=yQ3 hlt;have hq2:=yJr m 0 q (lMg hq);obtain⟨nk,hnk⟩:=yQ3 (l:=sub) (k:=k) (by omega);obtain⟨zk,hkk,hzk⟩:=hzs.get hnk;obtain⟨yk,hky,hyk⟩:=hys.get (k:=k) (a:=yQu l q) (by unfold belT;rw[if_neg (by decide),List.getElem?_map,hq];rfl);have h8:=yZc q l;have h9:=yXg (lMg hnk);have hcall:=λtp' htp' st=>IH nk (lMg hnk) (yQu l q) yk (p++[k]) tp' zk st (hl.adds λy hy=>⟨(hgood q (lMg hq) y hy).1,(hgood q (lMg hq) y hy).2.trans hmw⟩) hyk hzk htp' (by omega) (by rw[lLa,List.length_singleton];omega);simp only[zWr] at hcall;obtain⟨t5,x5,t6,x6,rfl,_⟩:=hyk;obtain⟨_,_,_,_,_,_,_,_,_,_,_,_,rfl⟩:=yXq hzk;have hkl:k<(belT l m false 0).length:=by rw[hbl,if_neg (by decide)];omega
  simp only[go_sem,zE,zB,zA,zM,zS,zL,reduceCtorEq,f2,f4,f9,f10,hys.len,lt_i hkl,yQ2 htg,yQ2 hts,iNn,hky,hkk,fits,yQ1,show yZk 0 []=true from rfl];intros;refine yGc (m:=p.length) (own.full st1 st1 0 1) rfl hplen (subSt.refl _) rfl (xK1 p) (by simp only;omega) (by omega) λtg2 st4 hown2 hsub4 _ _=>?_;rw[Nat.zero_add] at hown2;simp only[go_sem,zE,zB,zA,zM,zS,zL,reduceCtorEq,f2,f4,f9,f10,hys.len,lt_i hkl,yQ2 htg,yQ2 hts,iNn,hky,hkk,fits,yQ1];refine yZb hown2 (by simp[hplen]) hsub4 rfl (by simp[fits,IV.one]) (by simp only;omega) (by omega) λtg3 st5 hown3 hsub5 _ _=>?_;simp only[go_sem,zE,zB,zA,zM,zS,zL,reduceCtorEq,f2,f4,f9,f10,hys.len,lt_i hkl,yQ2 htg,yQ2 hts,iNn,hky,hkk,fits,yQ1];refine (hcall tg3 hown3.es _).mono ?_;rintro _ _ ⟨⟨tg6,rfl,htg6⟩,rfl⟩;have hkey:yX2 l p k ((yQi m 0).drop k) (sub.drop k)=if (yZi (yQu l q) (p++[k]) nk).2≠0 then yZi (yQu l q) (p++[k]) nk else yX2 l p (k+1) ((yQi m 0).drop (k+1)) (sub.drop (k+1)):=by
   rw[List.drop_eq_getElem_cons hlt,List.drop_eq_getElem_cons (show k<sub.length by omega),(lGs hq).2,(lGs hnk).2];simp only[yX2]
  by_cases he:(yZi (yQu l q) (p++[k]) nk).2=0
  ·have d:decide (((yZi (yQu l q) (p++[k]) nk).2:Int)=0)=true:=dEt (by omega);simp only[go_sem,zE,zB,zA,zM,zS,zL,reduceCtorEq,f2,f4,f9,f10,d,fits,yQa hkl (show (belT l m false 0).length<=281474976710656 by rw[hbl,if_neg (by decide)];omega)];exact⟨by rw[hck rfl,hkey,if_neg (by simpa using he)],hsub.trans hsub5⟩
  ·have d:decide (((yZi (yQu l q) (p++[k]) nk).2:Int)=0)=false:=dEf (by omega);simp only[go_sem,zE,zB,zA,zM,zS,zL,reduceCtorEq,f2,f4,f9,f10,d,fits];rw[hck rfl,hkey,if_pos he];exact yQb (hsub.trans hsub5) ⟨⟨tg6,rfl,htg6⟩,rfl⟩
 ·rintro fr st1 _ ⟨hck,f2,f4,f9,f10,hsub,rfl⟩;simp only[go_sem,zE,zB,zA,zM,zS,zL,reduceCtorEq,f2,f4,f9,f10,hys.len,yQk (nLi _),fits];intros;refine yQb hsub ⟨⟨⟨true,.nil,0⟩,?_,.inl rfl⟩,rfl⟩;cases c
  ·rw[if_neg (by decide),hck rfl,hbl,if_neg (by decide),List.drop_length,List.drop_eq_nil_of_le (by simp only[bFt,if_false] at hlen;omega)];rfl
  ·rfl
theorem wW9:∀(k:Nat)(n:Nd),SizeOf.sizeOf n<k->rkC gl n
 | 0,n,h=>by omega
 | k+1,.mk m c w sub,h=>wGq gl m c w sub λa ha=>wW9 k a (by
   have:=lSm ha;simp only[Nd.mk.sizeOf_spec] at h;omega)
theorem xU0 (s:Sq)(x:IV)(hx:IsSq s x)(hs:yVt s)(n:Nd)(z:IV)(hz:IsNd n z)(hb:n.nodes<=100000)(st:ISt) :
  ICall prog gl 49 [.raw (.int .u8 1),x,z] st (λr st'=>(∃tg,r=.tup [.sl tg (plI (yK3 s n).1),.raw (.int .i64 (yK3 s n).2)]/\okEs tg 1)/\st'=st):=by
 have hV:=λst=>zU3 gl s x hx hs st;have hN:=λst=>wW7 gl _ n (Nat.lt_succ_self _) z hz (by omega) st;have hB:=λh st=>xJz gl s x hx h st;obtain⟨t1,x1,t2,x2,rfl,_⟩:=hx;have hz0:=hz;obtain⟨_,_,_,_,_,_,_,_,_,_,_,_,rfl⟩:=yXq hz;unfold yK3;refine ICall.intro (c:=cf prog gl [] [(7,[0,1,3,2,4,5,6,7,8])]) func49 rfl (by show _<=28;simp) (by kernel_rfl) ?_;simp only[go_sem,zE,zB,zA,zM,zS,zL,reduceCtorEq,show decide ((1:Int)<1)=false from rfl,show decide ((5:Int)<1)=false from rfl,fits];refine (hV _).mono ?_;rintro _ st ⟨rfl,rfl⟩;cases hv:yX9 s
 ·simp only[go_sem,zE,zB,zA,zM,zS,zL,reduceCtorEq,fits];exact yQ0 ⟨⟨⟨true,.nil,0⟩,rfl,.inl rfl⟩,rfl⟩
 simp only[go_sem,zE,zB,zA,zM,zS,zL,reduceCtorEq,fits];refine (hN _).mono ?_;rintro _ st ⟨rfl,rfl⟩;by_cases hn:300<n.nodes
 ·have d:decide ((300:Int)<(n.nodes:Int))=true:=dEt (by omega);simp only[go_sem,zE,zB,zA,zM,zS,zL,reduceCtorEq,d,fits];rw[if_pos hn];exact yQ0 ⟨⟨⟨true,.nil,0⟩,rfl,.inl rfl⟩,rfl⟩
 have d:decide ((300:Int)<(n.nodes:Int))=false:=dEf (by omega);obtain⟨v1,v2,_⟩:=yVv hv;rw[if_neg hn];have hbl:=xQi hv;have hlen:(yQp s).length<=40:=by
  have h1:=yZc (yJe s) [];unfold yJe at h1;rw[lLa,List.length_map,List.length_map,List.length_nil] at h1;unfold yQp yJe;omega
 simp only[go_sem,zE,zB,zA,zM,zS,zL,reduceCtorEq,d,fits];refine (hB (by omega) _).mono ?_;rintro _ st ⟨hr,rfl⟩;have hC:=λst=>wW9 gl _ n (Nat.lt_succ_self _) (yQp s) _ [] ⟨true,.nil,0⟩ _ st (yJl hv) hr hz0 (.inl rfl) (by omega) (by simp only[List.length_nil];omega);obtain⟨t5,x5,t6,x6,rfl,_⟩:=hr;simp only[go_sem,zE,zB,zA,zM,zS,zL,reduceCtorEq,fits];refine (hC _).mono ?_;rintro _ st ⟨⟨tg,rfl,htg⟩,rfl⟩;simp only[go_sem,zE,zB,zA,zM,zS,zL,reduceCtorEq,fits];exact yQ0 ⟨⟨tg,rfl,htg⟩,rfl⟩
end Go.Proofs.Tryz
namespace Go.Iv
open Go
section
variable {P:Program}{gl:Nat->Option IV}{f:FuncId}{args args':List IV}{st:ISt}
theorem ICall.fixA {K:IV->ISt->Prop}(h:ICall P gl f args st (λy st'=>K y st'\/∃pre g n cap cs es zs S,st g=none/\S g=none/\y=.agg (pre++[.raw (.slice (some ⟨g,0,none⟩) n cap)])/\st'=S.put g (some (.box cs)) /\
   zs.length=n/\n<=140737488355328/\n<=cap/\cap*es<=cs.length/\cs.take (n*es)=zs.flatMap IV.cells/\(∀z∈zs,z.cells.length=es)/\K (.agg (pre++[.sl ⟨true,.app g,es⟩ zs])) S)) :
  ICall P gl f args st K:=by
 intro B X rs hg hst hv;subst hst;refine (h B X rs hg rfl hv).mono ?_;rintro e w' ⟨v,rfl,X',y,rfl,h2,h3,h4,hK|⟨pre,g,n,cap,cs,es,zs,S,h0,hS,rfl,hst',rfl,hn,hcap,hroom,htk,hz,hK⟩⟩
 ·exact⟨v,rfl,X',y,rfl,h2,h3,h4,hK⟩
 have hgn:=wWn h3 h0 (by rw[hst'];exact ISt.put_same ..);have hk:=zY1 hS hst';refine⟨v,rfl,X'.lendS _ S,_,rfl,h2.lendS hk,h3.trans (h2.lendS_ext hk),?_,hK⟩;obtain⟨rr,rfl,hr⟩:=V.agg_inv h4;refine .agg rr _ (by have:=hr.1;simpa using this) λi r x h1 h2x=>?_;by_cases hi:i<pre.length
 ·rw[List.getElem?_append_left hi] at h2x;exact (h2.lendS_ext hk).v (hr.2 i r x h1 (by rw[List.getElem?_append_left hi];exact h2x))
 ·have hi2:i=pre.length:=by
   have:=(lGs h2x).1;simp at this;omega
  subst hi2;simp only[Nat.le_refl,List.getElem?_append_right,Nat.sub_self,List.getElem?_cons_zero,Option.some.injEq] at h2x;subst h2x;obtain rfl:=V.raw_inv (hr.2 pre.length r (.raw (.slice (some ⟨g,0,none⟩) zs.length cap)) h1 (by simp));exact wWm h2 hS hst' (Nat.le_trans hg.B hgn) hn hcap hroom htk hz
theorem ICall.lentFix {K:IV->Prop}(hf:flatSt st)(hgl:∀g x,gl g=some x->age x=x)(hl:Lents st args args')(h:ICall P gl f (ages args') (yKk st) (λr st'=>st'=yKk st/\dfr r/\K (age r))) :
  ICall P gl f args st (λy st'=>st'=st/\K y) :=
 ICall.fix ((ICall.lentOwn (K:=λr=>K (age r)) hf hgl hl h).mono λy st' ⟨hs,_,x,N,hK,hO,_,_,hN,hd⟩=>⟨x,N,st,⟨hN,hs,λb cs hb=>hd b (by rw[hb];exact Option.some_ne_none _)⟩,hO,rfl,hK⟩)
end
end Go.Iv
namespace Go.Proofs.Tryz
open Go Go.Iv
set_option maxRecDepth 4000
variable (gl:Nat->Option IV)
theorem wU0 {p:List Nat}{k a:Nat}(h:p[k]?=some a):(plI p)[k]?=some (.raw (.int .i64 (a:Int))):=by simp[plI,List.getElem?_map,h]
theorem xWe (p q:List Nat):plI (p++q)=plI p++plI q:=by simp[plI]
def sumN:List Nat->Nat
 | []=>0
 | a::l=>a+sumN l
theorem yGr:∀l m:List Nat,sumN (l++m)=sumN l+sumN m
 | [],m=>by simp[sumN]
 | a::l,m=>by simp only[List.cons_append,sumN,yGr l m];omega
theorem xYy (l:List Nat)(k:Nat):sumN (l.take k)<=sumN l:=by
 conv=>rhs;rw[<- List.take_append_drop k l]
 rw[yGr];omega
theorem uZ8 (tg:Tag)(l:List Nat)(htg:okEs tg 1)(hs:sumN l<=4611686018427387904)(st:ISt):ICall prog gl 122 [.sl tg (plI l)] st (λr st'=>r=.raw (.int .i64 (sumN l))/\st'=st):=by
 refine iI func122 ?_;simp only[go_sem,reduceCtorEq,yWj];intro _;refine LoopC.ctr l.length (λk fr st' ds=>fr 3=.iv (.raw (.int .i64 (sumN (l.take k))))/\fr 6=.iv (.sl tg (plI l))/\fr 7=.iv (.raw (.int .i64 l.length))/\fr 8=.iv (.raw (.int .i64 k))/\st'=st/\ds=[]) ?_ ?_ ?_
 ·simp only[go_sem,zE];simp[sumN]
 ·rintro k fr st1 _ hlt ⟨f3,f6,f7,f8,rfl,rfl⟩;obtain⟨a,ha⟩:=yQ3 hlt;have h1:=xYy l (k+1);have h2:sumN (l.take (k+1))=sumN (l.take k)+a:=by rw[yQ8 ha,yGr];rfl
  have h3:IntKind.i64.wrap (((sumN (l.take k):Nat):Int)+(a:Int))=((sumN (l.take (k+1)):Nat):Int):=by rw[w64]<;>omega
  simp only[go_sem,zE,f3,f6,f7,f8,lt_i hlt,yQ2 htg,iNn,wU0 ha,fits,h3,yQa hlt (show l.length<=281474976710656 by omega)]
 ·rintro fr st1 _ ⟨f3,f6,f7,f8,rfl,rfl⟩;rw[lTl] at f3;simp only[go_sem,zE,f3,f7,f8,yQk (nLi _)];exact yQ0 ⟨rfl,rfl⟩
def xYz:Tr->List Tr
 | .mk _ _ _ _ _ sub=>sub
def xVl (g:Nat)(v:Tr->Nat):Prop:=∀(t:Tr) (l:List Nat) (x:IV) (tg:Tag) (st0 st:ISt),IsTr t x->t.steps<=1099511627776->l=(xYz t).map v->own st tg l.length 1 st0->subSt st0 st →
 ICall prog gl g [x,.sl tg (plI l)] st (λr st'=>r=.raw (.int .i64 (v t))/\subSt st0 st')
theorem yU7:∀ {l:List Tr}{t:Tr},t∈l->t.steps<=yQm l
 | a::l,t,h=>by
  simp only[yQm];rcases List.mem_cons.1 h with rfl|h
  ·omega
  ·have:=yU7 h;omega
theorem yZ7:∀l:List Tr,l.length<=yQm l
 | []=>Nat.le_refl _
 | .mk _ _ _ _ _ s::l=>by
  have:=yZ7 l;simp only[List.length_cons,yQm,Tr.steps];omega
def wVf (v:Tr->Nat)(g:Nat)(t:Tr):Prop:=∀(x:IV) (_:IsTr t x) (_:t.steps<=1099511627776) (st:ISt),ICall prog gl 120 [x,.fn (.func g) [] []] st (λr st'=>r=.raw (.int .i64 (v t))/\st'=st)
theorem wQt (v:Tr->Nat)(g:Nat)(hent:entI prog g=true)(hg:xVl gl g v)(rule:Nat)(sq:Sq)(f:Fm)(u:Tm)(n:ByteArray)(sub:List Tr)(IH:∀a∈sub,wVf gl v g a):wVf gl v g (.mk rule sq f u n sub):=by
 intro x hx hs st;have hx0:=hx;obtain⟨tl,xl,tr,xr,op,fn,ta,xa,tb,xb,vb,un,tu,xu,ts,xs,rfl,hru,_,_,_,_,_,_,e3,i3⟩:=hx.mk;have hs0:=hs;simp only[Tr.steps] at hs;have hll:=yZ7 sub;refine iI func120 ?_;simp only[go_sem,zE,i3.len];intro _;refine LoopC.ctr sub.length (λk fr st' ds=>(∃tg',fr 5=.iv (.sl tg' (plI ((sub.take k).map v)))/\own st' tg' k 1 st/\subSt st st')/\fr 1=.iv (.fn (.func g) [] [])/\fr 2=.box [.raw (.int .u8 rule),.sl tl xl,.sl tr xr,.raw (.int .u8 op),.raw (.string fn),.sl ta xa,.sl tb xb,.raw (.bool vb),.raw (.string un),.sl tu xu,.raw (.string n),.sl ts xs] /\
  fr 9=.iv (.sl ts xs)/\fr 10=.iv (.raw (.int .i64 sub.length))/\fr 11=.iv (.raw (.int .i64 k))/\ds=[]) ?_ ?_ ?_
 ·simp only[go_sem,zE];exact⟨⟨_,rfl,.inl ⟨rfl,rfl⟩,subSt.refl _⟩,rfl⟩
 ·rintro k fr st1 _ hlt ⟨⟨tg',f5,hown,hsub⟩,f1,f2,f9,f10,f11,rfl⟩;obtain⟨a,ha⟩:=yQ3 hlt;obtain⟨z,hkz,hz⟩:=i3.get ha;have hst:=yU7 (lMg ha);have hcall:=IH a (lMg ha) z hz (by omega) st1;obtain⟨rule',tl',xl',tr',xr',op',fn',ta',xa',tb',xb',v',un',tu',xu',n',ts',xs',rfl⟩:=yX4 hz;simp only[go_sem,zE,zB,zA,zL,f1,f5,f9,f10,f11,lt_i hlt,yQ2 e3,iNn,hkz,fits];refine hcall.mono ?_;rintro _ _ ⟨rfl,rfl⟩;simp only[go_sem,zE,zA,zM,zL,fits,zJm];refine yZb hown (by rw[yWj,List.length_map,List.length_take];omega) hsub rfl (by simp[fits,IV.one]) (by simp only;omega) (by omega) λtg2 st4 hown2 hsub4 _ _=>?_;simp only[go_sem,zE,f1,f2,f9,f10,f11,yQa hlt (show sub.length<=281474976710656 by omega)];exact⟨tg2,by rw[yQ8 ha,List.map_append,xWe];rfl,hown2,hsub4⟩
 ·rintro fr st1 _ ⟨⟨tg',f5,hown,hsub⟩,f1,f2,f9,f10,f11,rfl⟩;rw[lTl] at f5;have hcall:=hg _ (sub.map v) _ tg' st st1 hx0 hs0 rfl (by rw[List.length_map];exact hown) hsub;simp only[go_sem,zE,zA,zL,f1,f2,f5,f10,f11,yQk (nLi _),hent];refine hcall.mono ?_;rintro _ st2 ⟨rfl,hsub2⟩;simp only[go_sem];exact yQb hsub2 ⟨rfl,rfl⟩
theorem xV5 (v:Tr->Nat)(g:Nat)(hent:entI prog g=true)(hg:xVl gl g v):∀(k:Nat) (t:Tr),SizeOf.sizeOf t<k->wVf gl v g t
 | 0,t,h=>by omega
 | k+1,.mk r sq f u n sub,h=>wQt gl v g hent hg r sq f u n sub (λa ha=>xV5 v g hent hg k a (by
   have:=lSm ha;simp at h;omega))
theorem vKg (v:Tr->Nat)(g:Nat)(hent:entI prog g=true)(hg:xVl gl g v)(t:Tr):wVf gl v g t:=xV5 gl v g hent hg _ t (Nat.lt_succ_self _)
theorem zWa:∀l:List Tr,sumN (l.map Tr.cuts)=yZ8 l
 | []=>rfl
 | a::l=>by simp only[List.map_cons,sumN,yZ8,zWa l]
mutual
theorem wZ2:∀t:Tr,t.cuts<=t.steps
 | .mk _ _ _ _ _ sub=>by
  have:=zQk sub;simp only[Tr.cuts,Tr.steps];split<;>omega
theorem zQk:∀l:List Tr,yZ8 l<=yQm l
 | []=>Nat.le_refl _
 | a::l=>by
  have:=wZ2 a;have:=zQk l;simp only[yZ8,yQm];omega
end
theorem wKb:xVl gl 121 Tr.cuts:=by
 rintro⟨rule,s,m,u,n,sub⟩ l x tg st0 st hx hs rfl hown hsub;simp only[xYz] at hown ⊢;simp only[Tr.steps] at hs;have hcs:=zQk sub;have hsum:=λst=>uZ8 gl tg (sub.map Tr.cuts) hown.es (by rw[zWa];omega) st;have hw:IntKind.i64.wrap (1+((yZ8 sub:Nat):Int))=((1+yZ8 sub:Nat):Int):=by rw[w64]<;>omega
 rw[zWa] at hsum;obtain⟨tl',xl',tr',xr',op',fn',ta',xa',tb',xb',v',un',tu',xu',ts',xs',rfl,_⟩:=hx.mk;refine iI func121 ?_;by_cases h:rule=17
 ·have d:decide ((rule:Int)=17)=true:=dEt (by omega);simp only[go_sem,zE,zA,d];refine (hsum _).mono ?_;rintro _ _ ⟨rfl,rfl⟩;simp only[go_sem,hw];exact yQ0 ⟨by simp only[Tr.cuts,if_pos h],hsub⟩
 ·have d:decide ((rule:Int)=17)=false:=dEf (by omega);simp only[go_sem,zE,zA,d];refine (hsum _).mono ?_;rintro _ _ ⟨rfl,rfl⟩;simp only[go_sem];exact yQ0 ⟨by simp only[Tr.cuts,if_neg h,Nat.zero_add],hsub⟩
theorem vWf (t:Tr)(x:IV)(hx:IsTr t x)(hs:t.steps<=1099511627776)(st:ISt):ICall prog gl 74 [x] st (λr st'=>r=.raw (.int .i64 (t.cuts))/\st'=st):=by
 have hf:=λst=>vKg gl Tr.cuts 121 (by simp only[go_sem]) (wKb gl) t x hx hs st;obtain⟨rule',tl',xl',tr',xr',op',fn',ta',xa',tb',xb',v',un',tu',xu',n',ts',xs',rfl⟩:=yX4 hx;refine iI func74 ?_;simp only[go_sem,zE,zA,zL];refine (hf _).mono ?_;rintro _ _ ⟨rfl,rfl⟩;simp only[go_sem];exact yQ0 ⟨rfl,rfl⟩
noncomputable def yVp (ca rule:Nat)(main:Fm)(term:Tm)(name:ByteArray):List Sq×Nat :=
 if !yXo ca then ([],2) else match rowS ca rule with
  | none=>([],191)
  | some r=>yJ6 ca rule r main term name
theorem wXc (G:Gl gl)(ca rule:Nat)(main:Fm)(y:IV)(hy:IsFm main y)(hm:main.size<=1000000)(term:Tm)(z:IV)(hz:IsTm term z)(ht:term.size<=1000000)(name:ByteArray)(st:ISt) :
  ICall prog gl 40 [.raw (.int .u8 ca),.raw (.int .u8 rule),y,z,.raw (.string name)] st (AdRD st (yVp ca rule main term name)):=by
 have hA:=λr hr st=>wYe gl G ca rule r hr main y hy hm term z hz name st;have hkn:=λst=>xZy gl ca st;obtain⟨o3,n3,t3,x3,t4,x4,rfl⟩:=hy.agg;obtain⟨v,un,tz,xz,rfl⟩:=uZ7 hz;unfold yVp;refine iI func40 ?_;simp only[go_sem,zE,zB,zA,zM,zS,zL,reduceCtorEq,fits];refine (hkn _).mono ?_;rintro _ st ⟨rfl,rfl⟩;cases hk:yXo ca
 ·simp only[go_sem,zE,zB,zA,zM,zS,zL,reduceCtorEq,fits];exact yQ0 ⟨_,_,rfl,.inl rfl,.inl rfl,rfl,rfl⟩
 simp only[go_sem,zE,zB,zA,zM,zS,zL,reduceCtorEq,fits];refine (xGn gl ca _).mono ?_;rintro _ _ ⟨b,hb,rfl,rfl⟩;cases hr:rowS ca rule with
 | none =>
  simp only[go_sem,zE,zB,zA,zM,zS,zL,reduceCtorEq,ISt.put_same,yWf,hr,Option.map_none,zQb,fits];exact yQb (yQz hb) ⟨_,_,rfl,.inl rfl,.inl rfl,rfl,rfl⟩
 | some r =>
  have hcall:=hA r hr;obtain⟨rl,rr,op,asks⟩:=r;simp only[go_sem,zE,zB,zA,zM,zS,zL,reduceCtorEq,ISt.put_same,yWf,hr,Option.map_some,yG8,rwI,fits];refine (hcall _).mono ?_;rintro _ _ ⟨tg,xs,rfl,he,hap,hxs,rfl⟩;simp only[go_sem,zE,zB,zA,zM,zS,zL,reduceCtorEq,fits];exact yQb (yQz hb) ⟨_,_,rfl,he,hap,hxs,rfl⟩
mutual
def wTm:Tm->Nat
 | .mk _ n us=>1+n.size / 20+wTms us
def wTms:List Tm->Nat
 | []=>0
 | a::l=>wTm a+wTms l
end
mutual
def wFm:Fm->Nat
 | .mk _ n us sub=>1+n.size / 20+wTms us+wFms sub
def wFms:List Fm->Nat
 | []=>0
 | a::l=>wFm a+wFms l
end
def wU6 (s:Sq)(f:Fm)(u:Tm)(n:ByteArray):Bool:=decide (wFms s.l+wFms s.r<=300)&&!decide (300<wFm f)&&!decide (300<wTm u)&&!decide (100<n.size)
mutual
def okT:Tr->Bool
 | .mk _ s f u n sub=>wU6 s f u n&&okTs sub
def okTs:List Tr->Bool
 | []=>true
 | a::l=>okT a&&okTs l
end
theorem xQx {l:List Tr}{k:Nat}{a:Tr}(h:l[k]?=some a):yQm (l.take (k+1))=yQm (l.take k)+a.steps:=by
 rw[yQ8 h,yV2];simp[yQm]
theorem xG0 (l:List Tr)(k:Nat):yQm (l.take k)<=yQm l:=by
 conv=>rhs;rw[<- List.take_append_drop k l]
 rw[yV2];omega
end Go.Proofs.Tryz
namespace Go.Proofs.Tryz
open Go Go.Iv
mutual
theorem xJn:∀t:Tm,t.size<=wTm t
 | .mk _ n us=>by have:=zXt us;simp only[wTm,Tm.size];omega
theorem zXt:∀l:List Tm,yQy l<=wTms l
 | []=>Nat.le_refl _
 | a::l=>by have:=xJn a;have:=zXt l;simp only[wTms,yQy];omega
end
mutual
theorem zWj:∀f:Fm,f.size<=wFm f
 | .mk _ n us sub=>by have:=zXt us;have:=yZy sub;simp only[wFm,Fm.size];omega
theorem yZy:∀l:List Fm,yQ7 l<=wFms l
 | []=>Nat.le_refl _
 | a::l=>by have:=zWj a;have:=yZy l;simp only[wFms,yQ7];omega
end
theorem zVi {s:Sq}{f:Fm}{u:Tm}{n:ByteArray}(h:wU6 s f u n=true):wFms s.l+wFms s.r<=300/\wFm f<=300/\wTm u<=300/\n.size<=100:=by
 unfold wU6 at h;grind
theorem yUr {s:Sq}(h:wFms s.l+wFms s.r<=300):yVt s:=by
 have:=yZy s.l;have:=yZy s.r;exact⟨λf hf=>by have:=yXe hf;omega,λf hf=>by have:=yXe hf;omega⟩
theorem xKa:∀ {l:List Tr}{a:Tr},okTs l=true->a∈l->okT a=true
 | b::l,a,h,ha=>by
  simp only[okTs,bAt] at h;rcases List.mem_cons.1 ha with rfl|ha
  ·exact h.1
  ·exact xKa h.2 ha
theorem wJn:∀ {t:Tr},okT t=true->xKg t
 | .mk rule s m u n sub,h=>by
  simp only[okT,bAt] at h;obtain⟨h1,h2,h3,_⟩:=zVi h.1;have:=zWj m;have:=xJn u;refine⟨yUr h1,by omega,by omega,λa ha=>?_⟩;have:=xKa h.2 ha;obtain⟨rule',s',m',u',n',sub'⟩:=a;simp only[okT,bAt] at this;exact yUr (zVi this.1).1
mutual
def NA:Tr->Prop
 | .mk _ s m u _ sub=>yVt s/\m.size<=1000000/\u.size<=1000000/\NAs sub
def NAs:List Tr->Prop
 | []=>True
 | a::l=>NA a/\NAs l
end
theorem wVc:∀ {t:Tr},NA t->yVt t.sq
 | .mk _ _ _ _ _ _,h=>by simp only[NA] at h;exact h.1
theorem zYu:∀ {l:List Tr}{a:Tr},NAs l->a∈l->NA a
 | b::l,a,h,ha=>by
  simp only[NAs] at h;rcases List.mem_cons.1 ha with rfl|ha
  ·exact h.1
  ·exact zYu h.2 ha
theorem vZ0:∀ {t:Tr},NA t->xKg t
 | .mk _ _ _ _ _ _,h=>by
  simp only[NA] at h;exact⟨h.1,h.2.1,h.2.2.1,λa ha=>wVc (zYu h.2.2.2 ha)⟩
mutual
theorem wX4:∀(p:List Nat)(t:Tr),NA t->∀q∈t.walk p,NA q.2
 | p,.mk rule s m u n sub,h,q,hq=>by
  simp only[Tr.walk,List.mem_cons] at hq;rcases hq with rfl|hq
  ·exact h
  ·simp only[NA] at h;exact xVk p 0 sub h.2.2.2 q hq
theorem xVk:∀(p:List Nat)(i:Nat)(l:List Tr),NAs l->∀q∈yQs p i l,NA q.2
 | _,_,[],_,q,hq=>by cases hq
 | p,i,a::l,h,q,hq=>by
  simp only[NAs] at h;simp only[yQs,List.mem_append] at hq;rcases hq with hq|hq
  ·exact wX4 _ a h.1 q hq
  ·exact xVk p (i+1) l h.2 q hq
end
theorem wYk {t:Tr}(h:NA t)(hs:t.steps<=1099511627776):vVa t:=⟨λq hq=>vZ0 (wX4 [] t h q hq),Nat.le_trans t.height_le_steps hs⟩
mutual
theorem wWh:∀ {t:Tr},okT t=true->NA t
 | .mk _ s m u n sub,h=>by
  have hn:=wJn h;simp only[okT,bAt] at h;exact⟨hn.1,hn.2.1,hn.2.2.1,xKb h.2⟩
theorem xKb:∀ {l:List Tr},okTs l=true->NAs l
 | [],_=>trivial
 | a::l,h=>by
  simp only[okTs,bAt] at h;exact⟨wWh h.1,xKb h.2⟩
end
end Go.Proofs.Tryz
namespace Go.Iv
open Go
def ndO:List (Option Nat)->Bool
 | []=>true
 | none::l=>ndO l
 | some d::l=>!l.contains (some d)&&ndO l
theorem zUo:∀ {l:List (Option Nat)}{i j d d':Nat},ndO l=true->l[i]?=some (some d)->l[j]?=some (some d')->i≠j->d≠d'
 | [],i,j,d,d',_,h,_,_=>by simp at h
 | none::l,0,j,d,d',hn,h,h',hne=>by simp at h
 | none::l,i+1,0,d,d',hn,h,h',hne=>by simp at h'
 | none::l,i+1,j+1,d,d',hn,h,h',hne=>zUo (l:=l) hn (by simpa using h) (by simpa using h') (by omega)
 | some x::l,0,0,d,d',hn,h,h',hne=>absurd rfl hne
 | some x::l,0,j+1,d,d',hn,h,h',hne=>by
  simp only[ndO,bAt,Bool.not_eq_true'] at hn;simp only[List.getElem?_cons_zero,Option.some.injEq] at h;subst h;rintro rfl;have:=lMg (show l[j]?=some (some x) by simpa using h');have h2:l.contains (some x)=true:=List.contains_iff_mem.2 this;rw[hn.1] at h2;cases h2
 | some x::l,i+1,0,d,d',hn,h,h',hne=>by
  simp only[ndO,bAt,Bool.not_eq_true'] at hn;simp only[List.getElem?_cons_zero,Option.some.injEq] at h';subst h';rintro rfl;have:=lMg (show l[i]?=some (some d) by simpa using h);have h2:l.contains (some d)=true:=List.contains_iff_mem.2 this;rw[hn.1] at h2;cases h2
 | some x::l,i+1,j+1,d,d',hn,h,h',hne=>by
  simp only[ndO,bAt] at hn;exact zUo (l:=l) hn.2 (by simpa using h) (by simpa using h') (by omega)
def SlotsOk (L:List (Option (Nat×IV)))(listed:Array Bool)(fr:Fr):Prop:=∀i,listed.getD i false=true->∀d z,L[i]?=some (some (d,z))->fr d=.iv z
theorem SlotsOk.step {L L':List (Option (Nat×IV))}{D:List (Option Nat)}(hD:L'.map (·.map (·.1))=D)(hn:ndO D=true){i d:Nat}{z:IV}{listed:Array Bool}{fr:Fr}(hi:i<listed.size)(hs:L'[i]?=some (some (d,z)))
  (hk:∀j,j≠i->listed.getD j false=true->L'[j]?=L[j]?) (h:SlotsOk L listed fr):SlotsOk L' (listed.setIfInBounds i true) (fr.put d (.iv z)):=by
 intro j hl d' z' hs';rw[Fr.put_apply];by_cases hij:i=j
 ·subst hij;rw[hs] at hs';cases hs';rw[if_pos rfl]
 ·have g1:D[i]?=some (some d):=by rw[<- hD,List.getElem?_map,hs];rfl
  have g2:D[j]?=some (some d'):=by rw[<- hD,List.getElem?_map,hs'];rfl
  rw[if_neg (zUo hn g1 g2 hij).symm];rw[getD_set_ne false hij] at hl;exact h j hl d' z' (by rw[<- hk j (Ne.symm hij) hl];exact hs')
theorem SlotsOk.skip {L:List (Option (Nat×IV))}{i:Nat}{listed:Array Bool}{fr:Fr}(hs:L[i]?=some none\/L.length<=i)(h:SlotsOk L listed fr):SlotsOk L (listed.setIfInBounds i true) fr:=by
 intro j hl d' z' hs';have hij:i≠j:=by
  rintro rfl;rcases hs with hs|hs
  ·rw[hs] at hs';cases hs'
  ·rw[List.getElem?_eq_none hs] at hs';cases hs'
 rw[getD_set_ne false hij] at hl;exact h j hl d' z' hs'
theorem SlotsOk.start (L:List (Option (Nat×IV)))(n:Nat)(fr:Fr):SlotsOk L (Array.replicate n false) fr:=by
 intro j hl;rw[Array.getD_eq_getD_getElem?,Array.getElem?_replicate] at hl;split at hl<;>cases hl
def kQs (ops:Array Oper):Bool:=(List.range ops.size).all λi=>(opAt ops i).after.toList.all λe=>Region.binds .any e&&decide (e.on<i)
def uWd (ops:Array Oper)(n:Nat):Bool:=(List.range n).all λi=>(opAt ops n).after.toList.any λe=>e.on == i
def zZl (ops:Array Oper):List (Option Nat):=ops.toList.map (·.dst)
def AnyJ (ops:Array Oper)(n:Nat)(Rel:Nat->IV->Prop)(F G:Fr->Prop)(st:ISt)(listed:Array Bool):Kt:=λad fr st1 ds=>(∀s,ad s=none)/\ds=[]/\st1=st /\
 (listed.getD n false=true->∀i,i<ops.size->listed.getD i false=true) /\
 (∀i,listed.getD i false=true->∀d,(opAt ops i).dst=some d->∃v,fr d=.iv v/\Rel i v)/\(listed.getD n false=false->F fr)/\(listed.getD n false=true->G fr)
structure AnyS (ops:Array Oper)(n:Nat)(F:Fr->Prop):Prop where
 size:ops.size=n+1
 bind:kQs ops=true
 last:uWd ops n=true
 nd:ndO (zZl ops)=true
 keep:∀fr d z,some d∈zZl ops->F fr->F (fr.put d z)
theorem yYl {ad:Ad}(h:∀s,ad s=none)(d:Nat):∀s,ad.put d none s=none:=λs=>by
 rw[Ad.put_apply,h s];split<;>rfl
theorem zU8 {L:List (Option Nat)}{d k:Nat}{fr:Fr}{z:SV}(hd:some d∈L)(hk:L.contains (some k)=false):(fr.put d z) k=fr k:=by
 rw[Fr.put_apply,if_neg];rintro rfl;rw[List.contains_iff_mem.2 hd] at hk;cases hk
theorem wWd {L:List (Option Nat)}{d k:Nat}{fr:Fr}{z:SV}(hk:L.contains (some k)=false):some d∈L->(fr.put k z) d=fr d:=λhd=>by
 rw[Fr.put_apply,if_neg];rintro rfl;rw[List.contains_iff_mem.2 hd] at hk;cases hk
theorem zWc {c:Cf}{ops:List Oper}{dst:Option Nat}{op:Op}{ty:TypeId}{pos:String}{aft:Array Edge}{j:Nat}{want b:Bool}{d d':Nat}{K:Kt}{ad:Ad}{fr:Fr}{st:ISt}{ds:List Dfd}(hd:dst=some d')(hj:yVb ops j=some d)(hf:fr d=.iv (.raw (.bool b)))(had:∀s,ad s=none)
  (h1:b=want->vcOp c dst op K ad fr st ds) (h2:b≠want->K (ad.put d' none) (fr.put d' (.iv (.raw undef))) st ds):yY6 c ops ⟨dst,op,ty,pos,aft,some (j,want)⟩ K ad fr st ds:=by
 subst hd;unfold yY6 yX5;simp only[hj,hf];split
 ·exact h1 ‹_›
 ·exact h2 ‹_›
def wX1 (c:Cf)(ops:Array Oper)(n:Nat)(Rel:Nat->IV->Prop)(F G:Fr->Prop)(st:ISt)(o:Oper)(i:Nat):Prop:=∀(ad:Ad) (fr:Fr) (K:Kt),(∀s,ad s=none)->F fr →
 (∀k d,(o.after.toList.any λe=>e.on == k)=true->(opAt ops k).dst=some d->∃v,fr d=.iv v/\Rel k v) →
 (∀d v,o.dst=some d->(i=n->G (fr.put d (.iv v)))->Rel i v->K (ad.put d none) (fr.put d (.iv v)) st [])->(∀fr',o.dst=none->i=n->G fr'->(∀d,some d∈zZl ops->fr' d=fr d)->K ad fr' st [])->yY6 c ops.toList o K ad fr st []
def AllOk (c:Cf)(ops:Array Oper)(n:Nat)(Rel:Nat->IV->Prop)(F G:Fr->Prop)(st:ISt):List Oper->Nat->Prop
 | [],_=>True
 | o::l,i=>wX1 c ops n Rel F G st o i/\AllOk c ops n Rel F G st l (i+1)
theorem AllOk.cons {c:Cf}{ops:Array Oper}{n:Nat}{Rel:Nat->IV->Prop}{F G:Fr->Prop}{st:ISt}{o:Oper}{l:List Oper}{i:Nat}(h:wX1 c ops n Rel F G st o i)(h':AllOk c ops n Rel F G st l (i+1)):AllOk c ops n Rel F G st (o::l) i:=⟨h,h'⟩
theorem AllOk.get {c:Cf}{ops:Array Oper}{n:Nat}{Rel:Nat->IV->Prop}{F G:Fr->Prop}{st:ISt}:∀ {l:List Oper} {i k:Nat} {o:Oper},AllOk c ops n Rel F G st l i->l[k]?=some o->wX1 c ops n Rel F G st o (i+k)
 | [],i,k,o,_,hk=>by simp at hk
 | a::l,i,0,o,h,hk=>by simp at hk;subst hk;exact h.1
 | a::l,i,k+1,o,h,hk=>by
  have:=AllOk.get (k:=k) h.2 (by simpa using hk);rw[show i+1+k=i+(k+1) by omega] at this;exact this
theorem anyS {ops:Array Oper}{n:Nat}{Rel:Nat->IV->Prop}{F G:Fr->Prop}(h:AnyS ops n F){c:Cf}{Q:Fr->ISt->List Dfd->Prop}{st:ISt}(hs:AllOk c ops n Rel F G st ops.toList 0)
  (he:∀fr,G fr->(∀i,i<ops.size->∀d,(opAt ops i).dst=some d->∃v,fr d=.iv v/\Rel i v)->Q fr st []) {ad:Ad} {fr:Fr} (had:∀s,ad s=none) (hF:F fr):anyV c ops Q ops.size (Array.replicate ops.size false) ad fr st []:=by
 have hsz:=h.size;have hrep:∀i,(Array.replicate ops.size false).getD i false=false:=λi=>by
  rw[Array.getD_eq_getD_getElem?,Array.getElem?_replicate];split<;>rfl
 have gset:∀ {l:Array Bool} {i j:Nat},i<l.size->(l.setIfInBounds i true).getD j false=if i=j then true else l.getD j false:=λ{l i j} hi=>by
  by_cases h:i=j
  ·subst h;rw[if_pos rfl];simp[hi]
  ·rw[if_neg h,getD_set_ne false h]
 refine yJ9 (AnyJ ops n Rel F G st) (λlisted ad fr st1 ds hz hJ i hi=>?_) (λlisted ad fr st1 ds hz hr hJ=>?_) _ _ _ _ _ _ (by simp) ⟨had,rfl,rfl,λhl=>?_,λi hl=>?_,λ_=>hF,λhl=>?_⟩
 ·obtain⟨j0,o,ho,hdep⟩:=mem_ready.1 hi;have his:i<ops.size:=(Array.getElem?_eq_some_iff.1 ho).1;obtain rfl:opAt ops i=o:=by rw[yZu his] at ho;exact Option.some.inj ho
  have hfl:listed.getD i false=false:=by
   rw[Array.getD_eq_getD_getElem?,Array.getElem?_eq_getElem (by omega)] at j0 ⊢;exact j0
  obtain⟨had,rfl,rfl,hall,hsl,hF',hG'⟩:=hJ;have hdep':∀e∈(opAt ops i).after.toList,listed.getD e.on false=true:=λe hem=>hdep e (by simpa using hem) ((bAt _ _).mp (List.all_eq_true.1 (List.all_eq_true.1 h.bind i (List.mem_range.2 his)) e hem)).1;have hlf:listed.getD (n) false=false:=by
   cases hl:listed.getD (n) false
   ·rfl
   ·rw[hall hl i his] at hfl;cases hfl
  have hget:∀d,(opAt ops i).dst=some d->(zZl ops)[i]?=some (some d):=λd hd=>by
   rw[zZl,List.getElem?_map,Array.getElem?_toList,yZu his];exact congrArg some hd
  have hget':∀j d,(opAt ops j).dst=some d->j<ops.size->(zZl ops)[j]?=some (some d):=λj d hd hj=>by
   rw[zZl,List.getElem?_map,Array.getElem?_toList,yZu hj];exact congrArg some hd
  have hdflt:∀j d,(opAt ops j).dst=some d->j<ops.size:=λj d hd=>by
   refine Decidable.byContradiction λhc=>?_;unfold opAt at hd;rw[Array.getD_eq_getD_getElem?,Array.getElem?_eq_none (by omega)] at hd;cases hd
  have hallset:(listed.setIfInBounds i true).getD (n) false=true->∀j,j<ops.size->(listed.setIfInBounds i true).getD j false=true:=λhl j hj=>by
   rw[gset (by omega)] at hl ⊢;by_cases hil:i=n
   ·by_cases hij:i=j
    ·rw[if_pos hij]
    ·rw[if_neg hij];obtain⟨e,he1,he2⟩:=List.any_eq_true.1 (List.all_eq_true.1 h.last j (List.mem_range.2 (by omega)));rw[<- hil] at he1;have:=hdep' e he1;rw[show e.on=j by simpa using he2] at this;exact this
   ·rw[if_neg hil,hlf] at hl;cases hl
  have hst:=hs.get (k:=i) (by rw[Array.getElem?_toList,yZu his]);rw[Nat.zero_add] at hst;refine hst ad fr _ had (hF' hlf) (λk d hk hd=>?_) (λd v hd hg hR=>?_) (λfr' hd hil hg hsame=>?_)
  ·obtain⟨e,he1,he2⟩:=List.any_eq_true.1 hk;rw[<- show e.on=k by simpa using he2] at hd ⊢;exact hsl e.on (hdep' e he1) d hd
  ·refine⟨yYl had d,rfl,rfl,hallset,λj hl d' hd'=>?_,λhl=>?_,λhl=>?_⟩
   ·rw[gset (by omega)] at hl;by_cases hij:i=j
    ·subst hij;rw[hd] at hd';cases hd';exact⟨v,by rw[Fr.put_apply,if_pos rfl],hR⟩
    ·rw[if_neg hij] at hl;obtain⟨v',e',r'⟩:=hsl j hl d' hd';exact⟨v',by rw[Fr.put_apply,if_neg (zUo h.nd (hget d hd) (hget' j d' hd' (hdflt j d' hd')) hij).symm];exact e',r'⟩
   ·exact h.keep _ _ _ (lMg (hget d hd)) (hF' hlf)
   ·rw[gset (by omega)] at hl;by_cases hil:i=n
    ·exact hg hil
    ·rw[if_neg hil,hlf] at hl;cases hl
  ·refine⟨had,rfl,rfl,hallset,λj hl d' hd'=>?_,λhl=>?_,λhl=>hg⟩
   ·rw[gset (by omega)] at hl;by_cases hij:i=j
    ·subst hij;rw[hd] at hd';cases hd'
    ·rw[if_neg hij] at hl;obtain⟨v',e',r'⟩:=hsl j hl d' hd';exact⟨v',by rw[hsame d' (lMg (hget' j d' hd' (hdflt j d' hd')))];exact e',r'⟩
   ·rw[gset (by omega),if_pos hil] at hl;cases hl
 ·obtain⟨had,rfl,rfl,hall,hsl,hF',hG'⟩:=hJ;have hl:listed.getD (n) false=true:=by
   refine Classical.byContradiction λhc=>?_;have hnr:∀i,i<ops.size->listed.getD i false=true:=by
    intro i
    induction i using Nat.strongRecOn with
    | _ i ih =>
     intro hi;refine Classical.byContradiction λhc=>?_;have h4:listed.getD i true=false:=by
      rw[Array.getD_eq_getD_getElem?,Array.getElem?_eq_getElem (by omega)] at hc ⊢;simpa using hc
     have:i∈Region.ready .any ops listed:=mem_ready.2 ⟨h4,_,yZu hi,λe hem _=>by
      have h5:=of_decide_eq_true ((bAt _ _).mp (List.all_eq_true.1 (List.all_eq_true.1 h.bind i (List.mem_range.2 hi)) e (by simpa using hem))).2;exact ih e.on h5 (Nat.lt_trans h5 hi)⟩
     rw[hr] at this;cases this
   exact hc (hnr _ (by omega))
  exact he fr (hG' hl) λi hi d hd=>hsl i (hall hl i hi) d hd
 ·rw[hrep] at hl;cases hl
 ·rw[hrep] at hl;cases hl
 ·rw[hrep] at hl;cases hl
def kZ1 (ops:Array Oper)(n:Nat)(Rel:Nat->IV->Prop)(F G:Fr->Prop)(S:Array Bool->ISt)(listed:Array Bool):Kt:=λad fr st1 ds=>(∀s,ad s=none)/\ds=[]/\st1=S listed /\
 (listed.getD n false=true->∀i,i<ops.size->listed.getD i false=true) /\
 (∀i,listed.getD i false=true->∀d,(opAt ops i).dst=some d->∃v,fr d=.iv v/\Rel i v)/\(listed.getD n false=false->F fr)/\(listed.getD n false=true->G fr)
def allB (n:Nat):Array Bool:=Array.replicate n true
def xXp (c:Cf)(ops:Array Oper)(n:Nat)(Rel:Nat->IV->Prop)(F G:Fr->Prop)(S:Array Bool->ISt)(o:Oper)(i:Nat):Prop:=∀(listed:Array Bool) (ad:Ad) (fr:Fr) (K:Kt),listed.size=ops.size->listed.getD i false=false->(∀s,ad s=none)->F fr →
 (∀k d,(o.after.toList.any λe=>e.on == k)=true->(opAt ops k).dst=some d->∃v,fr d=.iv v/\Rel k v) →
 (∀d v,o.dst=some d->(i=n->G (fr.put d (.iv v)))->Rel i v->K (ad.put d none) (fr.put d (.iv v)) (S (listed.setIfInBounds i true)) [])->(∀fr',o.dst=none->i=n->G fr'->(∀d,some d∈zZl ops->fr' d=fr d)->K ad fr' (S (listed.setIfInBounds i true)) [])->yY6 c ops.toList o K ad fr (S listed) []
def AllOkS (c:Cf)(ops:Array Oper)(n:Nat)(Rel:Nat->IV->Prop)(F G:Fr->Prop)(S:Array Bool->ISt):List Oper->Nat->Prop
 | [],_=>True
 | o::l,i=>xXp c ops n Rel F G S o i/\AllOkS c ops n Rel F G S l (i+1)
theorem AllOkS.cons {c:Cf}{ops:Array Oper}{n:Nat}{Rel:Nat->IV->Prop}{F G:Fr->Prop}{S:Array Bool->ISt}{o:Oper}{l:List Oper}{i:Nat}(h:xXp c ops n Rel F G S o i)(h':AllOkS c ops n Rel F G S l (i+1)):AllOkS c ops n Rel F G S (o::l) i:=⟨h,h'⟩
theorem AllOkS.get {c:Cf}{ops:Array Oper}{n:Nat}{Rel:Nat->IV->Prop}{F G:Fr->Prop}{S:Array Bool->ISt}:∀ {l:List Oper} {i k:Nat} {o:Oper},AllOkS c ops n Rel F G S l i->l[k]?=some o->xXp c ops n Rel F G S o (i+k)
 | [],i,k,o,_,hk=>by simp at hk
 | a::l,i,0,o,h,hk=>by simp at hk;subst hk;exact h.1
 | a::l,i,k+1,o,h,hk=>by
  have:=AllOkS.get (k:=k) h.2 (by simpa using hk);rw[show i+1+k=i+(k+1) by omega] at this;exact this
theorem anyT {ops:Array Oper}{n:Nat}{Rel:Nat->IV->Prop}{F G:Fr->Prop}(h:AnyS ops n F){c:Cf}{Q:Fr->ISt->List Dfd->Prop}{S:Array Bool->ISt}(hs:AllOkS c ops n Rel F G S ops.toList 0)
  (he:∀fr,G fr->(∀i,i<ops.size->∀d,(opAt ops i).dst=some d->∃v,fr d=.iv v/\Rel i v)->Q fr (S (allB ops.size)) []) {ad:Ad} {fr:Fr} (had:∀s,ad s=none) (hF:F fr):anyV c ops Q ops.size (Array.replicate ops.size false) ad fr (S (Array.replicate ops.size false)) []:=by
 have hsz:=h.size;have hrep:∀i,(Array.replicate ops.size false).getD i false=false:=λi=>by
  rw[Array.getD_eq_getD_getElem?,Array.getElem?_replicate];split<;>rfl
 have gset:∀ {l:Array Bool} {i j:Nat},i<l.size->(l.setIfInBounds i true).getD j false=if i=j then true else l.getD j false:=λ{l i j} hi=>by
  by_cases h:i=j
  ·subst h;rw[if_pos rfl];simp[hi]
  ·rw[if_neg h,getD_set_ne false h]
 refine yJ9 (kZ1 ops n Rel F G S) (λlisted ad fr st1 ds hz hJ i hi=>?_) (λlisted ad fr st1 ds hz hr hJ=>?_) _ _ _ _ _ _ (by simp) ⟨had,rfl,rfl,λhl=>?_,λi hl=>?_,λ_=>hF,λhl=>?_⟩
 ·obtain⟨j0,o,ho,hdep⟩:=mem_ready.1 hi;have his:i<ops.size:=(Array.getElem?_eq_some_iff.1 ho).1;obtain rfl:opAt ops i=o:=by rw[yZu his] at ho;exact Option.some.inj ho
  have hfl:listed.getD i false=false:=by
   rw[Array.getD_eq_getD_getElem?,Array.getElem?_eq_getElem (by omega)] at j0 ⊢;exact j0
  obtain⟨had,rfl,rfl,hall,hsl,hF',hG'⟩:=hJ;have hdep':∀e∈(opAt ops i).after.toList,listed.getD e.on false=true:=λe hem=>hdep e (by simpa using hem) ((bAt _ _).mp (List.all_eq_true.1 (List.all_eq_true.1 h.bind i (List.mem_range.2 his)) e hem)).1;have hlf:listed.getD (n) false=false:=by
   cases hl:listed.getD (n) false
   ·rfl
   ·rw[hall hl i his] at hfl;cases hfl
  have hget:∀d,(opAt ops i).dst=some d->(zZl ops)[i]?=some (some d):=λd hd=>by
   rw[zZl,List.getElem?_map,Array.getElem?_toList,yZu his];exact congrArg some hd
  have hget':∀j d,(opAt ops j).dst=some d->j<ops.size->(zZl ops)[j]?=some (some d):=λj d hd hj=>by
   rw[zZl,List.getElem?_map,Array.getElem?_toList,yZu hj];exact congrArg some hd
  have hdflt:∀j d,(opAt ops j).dst=some d->j<ops.size:=λj d hd=>by
   refine Decidable.byContradiction λhc=>?_;unfold opAt at hd;rw[Array.getD_eq_getD_getElem?,Array.getElem?_eq_none (by omega)] at hd;cases hd
  have hallset:(listed.setIfInBounds i true).getD (n) false=true->∀j,j<ops.size->(listed.setIfInBounds i true).getD j false=true:=λhl j hj=>by
   rw[gset (by omega)] at hl ⊢;by_cases hil:i=n
   ·by_cases hij:i=j
    ·rw[if_pos hij]
    ·rw[if_neg hij];obtain⟨e,he1,he2⟩:=List.any_eq_true.1 (List.all_eq_true.1 h.last j (List.mem_range.2 (by omega)));rw[<- hil] at he1;have:=hdep' e he1;rw[show e.on=j by simpa using he2] at this;exact this
   ·rw[if_neg hil,hlf] at hl;cases hl
  have hst:=hs.get (k:=i) (by rw[Array.getElem?_toList,yZu his]);rw[Nat.zero_add] at hst;refine hst listed ad fr _ hz hfl had (hF' hlf) (λk d hk hd=>?_) (λd v hd hg hR=>?_) (λfr' hd hil hg hsame=>?_)
  ·obtain⟨e,he1,he2⟩:=List.any_eq_true.1 hk;rw[<- show e.on=k by simpa using he2] at hd ⊢;exact hsl e.on (hdep' e he1) d hd
  ·refine⟨yYl had d,rfl,rfl,hallset,λj hl d' hd'=>?_,λhl=>?_,λhl=>?_⟩
   ·rw[gset (by omega)] at hl;by_cases hij:i=j
    ·subst hij;rw[hd] at hd';cases hd';exact⟨v,by rw[Fr.put_apply,if_pos rfl],hR⟩
    ·rw[if_neg hij] at hl;obtain⟨v',e',r'⟩:=hsl j hl d' hd';exact⟨v',by rw[Fr.put_apply,if_neg (zUo h.nd (hget d hd) (hget' j d' hd' (hdflt j d' hd')) hij).symm];exact e',r'⟩
   ·exact h.keep _ _ _ (lMg (hget d hd)) (hF' hlf)
   ·rw[gset (by omega)] at hl;by_cases hil:i=n
    ·exact hg hil
    ·rw[if_neg hil,hlf] at hl;cases hl
  ·refine⟨had,rfl,rfl,hallset,λj hl d' hd'=>?_,λhl=>?_,λhl=>hg⟩
   ·rw[gset (by omega)] at hl;by_cases hij:i=j
    ·subst hij;rw[hd] at hd';cases hd'
    ·rw[if_neg hij] at hl;obtain⟨v',e',r'⟩:=hsl j hl d' hd';exact⟨v',by rw[hsame d' (lMg (hget' j d' hd' (hdflt j d' hd')))];exact e',r'⟩
   ·rw[gset (by omega),if_pos hil] at hl;cases hl
 ·obtain⟨had,rfl,rfl,hall,hsl,hF',hG'⟩:=hJ;have hl:listed.getD (n) false=true:=by
   refine Classical.byContradiction λhc=>?_;have hnr:∀i,i<ops.size->listed.getD i false=true:=by
    intro i
    induction i using Nat.strongRecOn with
    | _ i ih =>
     intro hi;refine Classical.byContradiction λhc=>?_;have h4:listed.getD i true=false:=by
      rw[Array.getD_eq_getD_getElem?,Array.getElem?_eq_getElem (by omega)] at hc ⊢;simpa using hc
     have:i∈Region.ready .any ops listed:=mem_ready.2 ⟨h4,_,yZu hi,λe hem _=>by
      have h5:=of_decide_eq_true ((bAt _ _).mp (List.all_eq_true.1 (List.all_eq_true.1 h.bind i (List.mem_range.2 hi)) e (by simpa using hem))).2;exact ih e.on h5 (Nat.lt_trans h5 hi)⟩
     rw[hr] at this;cases this
   exact hc (hnr _ (by omega))
  have hlq:listed=allB ops.size:=by
   refine Array.ext (by rw[hz];simp[allB]) λi h1 h2=>?_;have:=hall hl i (by omega);rw[Array.getD_eq_getD_getElem?,Array.getElem?_eq_getElem h1] at this;simpa[allB] using this
  rw[hlq];exact he fr (hG' hl) λi hi d hd=>hsl i (hall hl i hi) d hd
 ·rw[hrep] at hl;cases hl
 ·rw[hrep] at hl;cases hl
 ·rw[hrep] at hl;cases hl
end Go.Iv
namespace Go.Proofs.Tryz
open Go Go.Iv
def yV8 (rule:Nat):Bool:=decide (rule=1) || decide (rule=2) || decide (rule=3) || decide (rule=5) || decide (rule=7) || decide (rule=9) || decide (rule=11)
mutual
def zQ7:Tr->Nd
 | .mk rule _ m _ _ sub=>.mk ⟨yV8 rule,0,m⟩ (decide (rule=1) || decide (rule=2)) 0 (yV6 sub)
def yV6:List Tr->List Nd
 | []=>[]
 | a::l=>zQ7 a::yV6 l
end
theorem zQ5:∀l:List Tr,(yV6 l).length=l.length
 | []=>rfl
 | a::l=>by simp only[yV6,List.length_cons,zQ5 l]
end Go.Proofs.Tryz
namespace Go.Proofs.Tryz
open Go Go.Iv
set_option maxRecDepth 4000
variable (gl:Nat->Option IV)
theorem zUq (ents:Array MapEntry):yY9 ents #[]=ents.toList:=by
 unfold yY9;rw[List.filter_eq_self];intro e _;simp
theorem xUl {ents:Array MapEntry}{seen:Array Nat}{e:MapEntry}(h:e∈yY9 ents seen):e∈ents.toList:=(List.mem_filter.1 h).1
theorem xWq {ents:Array MapEntry}(hn:(ents.toList.map (·.born)).Nodup)(seen:Array Nat){e:MapEntry}(h:e∈ents.toList):wQ7 ents (seen.push e.born)=keyI e.key:=by
 have hf:ents.toList.find? (λx=>x.born == e.born)=some e:=find_born e ents.toList hn h;unfold wQ7;rw[Array.back?_push,Option.bind_some,hf,Option.bind_some]
theorem xWn {ents:Array MapEntry}(hn:(ents.toList.map (·.born)).Nodup){seen:Array Nat}{e:MapEntry}(h:e∈yY9 ents seen):(yY9 ents (seen.push e.born)).length+1=(yY9 ents seen).length:=by
 unfold yY9 at h ⊢;generalize ents.toList=l at h hn
 induction l with
 | nil=>cases h
 | cons a l ih =>
  rw[List.map_cons,List.nodup_cons] at hn;by_cases hae:a=e
  ·subst hae;have h1:seen.contains a.born=false:=by simpa using (List.mem_filter.1 h).2
   have h2:(seen.push a.born).contains a.born=true:=by simp
   rw[List.filter_cons_of_neg (by rw[h2];simp),List.filter_cons_of_pos (by rw[h1];rfl),List.length_cons];congr 2;apply List.filter_congr;intro x hx;have hne:x.born≠a.born:=λhq=>hn.1 (hq▸List.mem_map_of_mem hx);simp[hne]
  ·have hm:e∈l.filter λe=>!seen.contains e.born:=by
    have h':=List.mem_filter.1 h;rcases List.mem_cons.1 h'.1 with hq|hq
    ·exact absurd hq.symm hae
    ·exact List.mem_filter.2 ⟨hq,h'.2⟩
   have hel:e∈l:=(List.mem_filter.1 hm).1;have hne:a.born≠e.born:=λhq=>hn.1 (hq▸List.mem_map_of_mem hel);have hi:=ih hm hn.2;have hc:(seen.push e.born).contains a.born=seen.contains a.born:=by
    simp[hne]
   rw[List.filter_cons,List.filter_cons,hc];split
   ·rw[List.length_cons,List.length_cons,<- hi]
   ·exact hi
theorem wVz (l:List Mk)(t:Tag)(xs:List IV)(ht:okEs t 6)(hxs:IsMks l xs)(m:Mk)(y:IV)(hy:IsMk m y)(st:ISt):ICall prog gl 114 [.sl t xs,y] st (λr st'=>r=.raw (.bool (hasT l m))/\st'=st):=by
 have hy0:=hy;obtain⟨i',w',f'⟩:=m;obtain⟨o7,n7,t7,x7,t8,x8,rfl,h2⟩:=hy;refine iI func114 ?_;simp only[go_sem,reduceCtorEq,hxs.len];intro _;refine LoopC.ctr l.length (λk fr st' ds=>hasT (l.take k) ⟨i',w',f'⟩=false/\fr 3=.box [.raw (.bool i'),.raw (.int .i64 w'),.raw (.int .u8 o7),.raw (.string n7),.sl t7 x7,.sl t8 x8]/\fr 7=.iv (.sl t xs)/\fr 8=.iv (.raw (.int .i64 l.length))/\fr 9=.iv (.raw (.int .i64 k))/\st'=st/\ds=[]) ?_ ?_ ?_
 ·simp only[go_sem,zE];exact⟨rfl,rfl⟩
 ·rintro k fr st1 _ hlt ⟨hn,f3,f7,f8,f9,rfl,rfl⟩;obtain⟨⟨i,w,f⟩,ha⟩:=yQ3 hlt;obtain⟨y,hky,hy⟩:=hxs.get ha;obtain⟨o5,n5,t5,x5,t6,x6,rfl,h1⟩:=hy;have hs:=λst=>xZb gl f f' _ _ h1 h2 st;have next:mkB ⟨i,w,f⟩ ⟨i',w',f'⟩=false->hasT (l.take (k+1)) ⟨i',w',f'⟩=false:=λhb=>by
   unfold hasT at hn ⊢;rw[yQ8 ha,List.any_append,hn];simp[hb]
  have found:mkB ⟨i,w,f⟩ ⟨i',w',f'⟩=true->hasT l ⟨i',w',f'⟩=true:=λhb=>List.any_eq_true.2 ⟨_,lMg ha,hb⟩;by_cases hi:i=i'
  ·subst hi;by_cases hw:w=w'
   ·subst hw;simp only[go_sem,zE,zB,zA,zL,f3,f7,f8,f9,lt_i hlt,yQ2 ht,iNn,hky,fits,decide_true];refine (hs _).mono ?_;rintro _ _ ⟨rfl,rfl⟩;cases hc:decide (yVc f f'=0)
    ·simp only[go_sem,zE,f3,f7,f8,f9,yQa hlt (show l.length<=281474976710656 by have:=hxs.len;omega)];exact next (by simp[mkB,hc])
    ·simp only[go_sem,zE];exact yQ0 ⟨by rw[found (by simp[mkB,hc])],rfl⟩
   ·simp only[go_sem,zE,zB,zA,zL,f3,f7,f8,f9,lt_i hlt,yQ2 ht,iNn,hky,fits,dEf hw,yQa hlt (show l.length<=281474976710656 by have:=hxs.len;omega)];exact next (by simp[mkB,hw])
  ·have hb:(i == i')=false:=by simp[hi]
   simp only[go_sem,zE,zB,zA,zL,f3,f7,f8,f9,lt_i hlt,yQ2 ht,iNn,hky,fits,hb,yQa hlt (show l.length<=281474976710656 by have:=hxs.len;omega)];exact next (by simp[mkB,hb])
 ·rintro fr st1 _ ⟨hn,f3,f7,f8,f9,rfl,rfl⟩;rw[lTl] at hn;simp only[go_sem,f8,f9,yQk (nLi _)];exact yQ0 ⟨by rw[hn],rfl⟩
theorem wVj (l:List Mk)(t:Tag)(xs:List IV)(hxs:IsMks l xs)(q:List Mk)(tq:Tag)(zs:List IV)(htq:okEs tq 6)(hzs:IsMks q zs)(hl:l.length+q.length<=1000000)(st:ISt) :
  ICall prog gl 67 [.sl t xs,.sl tq zs] st (λr st'=>∃t' ys,r=.sl t' ys/\okEs t' 6/\IsMks (yQu l q) ys/\st'=st):=by
 refine iI func67 ?_;simp only[go_sem,zE,zA,zM,zL,reduceCtorEq,show yZk 0 []=true from rfl];refine yGc (m:=l.length) (own.full st st 0 6) rfl hxs.len (subSt.refl _) rfl (zZx hxs) (by simp only;omega) (by omega) λtg2 st4 hown2 hsub4 _ _=>?_;rw[Nat.zero_add] at hown2;simp only[go_sem,zE,hzs.len];intro _;refine LoopC.ctr q.length (λk fr st' ds=>(∃t' ys,fr 5=.iv (.sl t' ys)/\IsMks (yQu l (q.take k)) ys/\own st' t' (yQu l (q.take k)).length 6 st/\subSt st st')/\fr 11=.iv (.sl tq zs)/\fr 12=.iv (.raw (.int .i64 q.length))/\fr 13=.iv (.raw (.int .i64 k))/\ds=[]) ?_ ?_ ?_
 ·simp only[go_sem,zE];exact⟨⟨_,_,rfl,hxs,hown2,hsub4⟩,rfl⟩
 ·rintro k fr st1 _ hlt ⟨⟨t',ys,f5,hys,hown,hsub⟩,f11,f12,f13,rfl⟩;obtain⟨a,ha⟩:=yQ3 hlt;obtain⟨y,hky,hy⟩:=hzs.get ha;have hlen:=yZc (q.take k) l;rw[List.length_take] at hlen;have hh:=λst=>wVz gl _ t' ys hown.es hys a y hy st;have hy0:=hy;obtain⟨o5,n5,t5,x5,t6,x6,rfl,h1⟩:=hy;rw[yQ8 ha,zQp];simp only[go_sem,zE,zB,zA,zL,f5,f11,f12,f13,lt_i hlt,yQ2 htq,iNn,hky,fits];refine (hh _).mono ?_;rintro _ _ ⟨rfl,rfl⟩;unfold addT;cases hq:hasT (yQu l (q.take k)) a
  ·simp only[go_sem,zE,zA,zM,zL,reduceCtorEq,f5,fits,yQ1];refine yZw hown hys.len hsub rfl (by simp[fits,IV.one]) (by simp only;omega) (by omega) λtg3 st5 hown3 hsub5 _=>?_;simp only[go_sem,zE,f11,f12,f13,yQa hlt (show q.length<=281474976710656 by omega)];exact⟨tg3,_,rfl,hys.append (IsMks.one hy0),by rw[lLa];exact hown3,hsub5⟩
  ·simp only[go_sem,zE,f5,f11,f12,f13,yQa hlt (show q.length<=281474976710656 by omega)];exact⟨t',ys,rfl,hys,hown,hsub⟩
 ·rintro fr st1 _ ⟨⟨t',ys,f5,hys,hown,hsub⟩,f11,f12,f13,rfl⟩;rw[lTl] at hys;simp only[go_sem,zE,f5,f12,f13,yQk (nLi _)];exact yQb hsub ⟨t',ys,rfl,hown.es,hys,rfl⟩
theorem wG9 (s:Sq)(x:IV)(hx:IsSq s x)(hl:s.l.length+s.r.length<=1000000)(st:ISt):ICall prog gl 31 [x] st (λr st'=>∃t' ys,r=.sl t' ys/\okEs t' 6/\IsMks (yQp s) ys/\st'=st):=by
 obtain⟨t1,x1,t2,x2,rfl,e1,i1,e2,i2⟩:=hx;refine iI func31 ?_;simp only[go_sem,zE,i1.len];intro _;refine LoopC.ctr s.l.length (λk fr st' ds=>(∃t' ys,fr 3=.iv (.sl t' ys)/\IsMks ((s.l.take k).map (⟨true,0,·⟩)) ys/\own st' t' ((s.l.take k).map (⟨true,0,·⟩:Fm->Mk)).length 6 st/\subSt st st')/\fr 1=.box [.sl t1 x1,.sl t2 x2]/\fr 9=.iv (.sl t1 x1)/\fr 10=.iv (.raw (.int .i64 s.l.length))/\fr 11=.iv (.raw (.int .i64 k))/\ds=[]) ?_ ?_ ?_
 ·simp only[go_sem,zE];exact⟨⟨_,_,rfl,rfl,.inl ⟨rfl,rfl⟩,subSt.refl _⟩,rfl⟩
 ·rintro k fr st1 _ hlt ⟨⟨t',ys,f3,hys,hown,hsub⟩,f1,f9,f10,f11,rfl⟩;obtain⟨a,ha⟩:=yQ3 hlt;obtain⟨y,hky,hy⟩:=i1.get ha;have hy0:=hy;obtain⟨o5,n5,t5,x5,t6,x6,rfl⟩:=hy.agg;simp only[go_sem,zE,zB,zA,zM,zL,f3,f9,f10,f11,lt_i hlt,yQ2 e1,iNn,hky,fits,yQ1];refine yZw hown hys.len hsub rfl (by simp[fits,IV.one]) (by simp only[List.length_map,List.length_take];omega) (by simp only[List.length_map,List.length_take];omega) λtg3 st5 hown3 hsub5 _=>?_;simp only[go_sem,zE,f1,f9,f10,f11,yQa hlt (show s.l.length<=281474976710656 by omega)];refine⟨tg3,_,rfl,?_,?_,hsub5⟩
  ·rw[yQ8 ha,List.map_append,List.map_singleton];exact hys.append (IsMks.one ⟨_,_,_,_,_,_,rfl,hy0⟩)
  ·rw[yQ8 ha,List.map_append,List.map_singleton,lLa];exact hown3
 ·rintro fr st1 _ ⟨⟨t',ys,f3,hys,hown,hsub⟩,f1,f9,f10,f11,rfl⟩;rw[lTl] at hys hown;simp only[go_sem,zE,f1,f10,f11,yQk (nLi _),i2.len];intro _;refine LoopC.ctr s.r.length (λk fr st' ds=>(∃t' ys,fr 3=.iv (.sl t' ys)/\IsMks (s.l.map (⟨true,0,·⟩:Fm->Mk)++(s.r.take k).map (⟨false,0,·⟩:Fm->Mk)) ys/\own st' t' (s.l.map (⟨true,0,·⟩:Fm->Mk)++(s.r.take k).map (⟨false,0,·⟩:Fm->Mk)).length 6 st/\subSt st st')/\fr 22=.iv (.sl t2 x2)/\fr 23=.iv (.raw (.int .i64 s.r.length))/\fr 24=.iv (.raw (.int .i64 k))/\ds=[]) ?_ ?_ ?_
  ·simp only[go_sem,zE,f3];exact⟨⟨_,_,rfl,hys,hown,hsub⟩,rfl⟩
  ·rintro k fr st1 _ hlt ⟨⟨t',ys,f3,hys,hown,hsub⟩,f22,f23,f24,rfl⟩;obtain⟨a,ha⟩:=yQ3 hlt;obtain⟨y,hky,hy⟩:=i2.get ha;have hy0:=hy;obtain⟨o5,n5,t5,x5,t6,x6,rfl⟩:=hy.agg;simp only[go_sem,zE,zB,zA,zM,zL,f3,f22,f23,f24,lt_i hlt,yQ2 e2,iNn,hky,fits,yQ1];refine yZw hown hys.len hsub rfl (by simp[fits,IV.one]) (by simp only[lLa,List.length_map,List.length_take];omega) (by simp only[lLa,List.length_map,List.length_take];omega) λtg3 st5 hown3 hsub5 _=>?_;simp only[go_sem,zE,f22,f23,f24,yQa hlt (show s.r.length<=281474976710656 by omega)];refine⟨tg3,_,rfl,?_,?_,hsub5⟩
   ·rw[yQ8 ha,List.map_append,List.map_singleton,<- List.append_assoc];exact hys.append (IsMks.one ⟨_,_,_,_,_,_,rfl,hy0⟩)
   ·rw[yQ8 ha,List.map_append,List.map_singleton,<- List.append_assoc,lLa];exact hown3
  ·rintro fr st1 _ ⟨⟨t',ys,f3,hys,hown,hsub⟩,f22,f23,f24,rfl⟩;rw[lTl] at hys hown;simp only[go_sem,zE,zA,zM,zL,f3,f23,f24,yQk (nLi _),show yZk 0 []=true from rfl];refine (wVj gl [] _ [] rfl _ t' ys hown.es hys (by simp only[lLa,List.length_map,List.length_nil];omega) _).mono ?_;rintro _ _ ⟨t'',zs,rfl,h1,h2,rfl⟩;simp only[go_sem];exact yQb hsub ⟨t'',zs,rfl,h1,h2,rfl⟩
@[go_sem] theorem uW0:mapI prog 88=some (.sg,.raw (.int .u8 0)):=by kernel_rfl
def vR (k:Nat):IV:=.raw (.int .u8 (yJm (kB k) (kO k)))
def opR (i:Nat):Oper :=
 if i=0 then ⟨some 1,.makeMap 88 none,88, "signs.go:25",#[],none⟩
 else if i=21 then ⟨some 12,.move (.tmp 1),88, "signs.go:25",⟨(List.range 21).map λj=>⟨j,.data⟩⟩,none⟩
 else if i=22 then ⟨some 0,.assign (.tmp 12),88, "signs.go:25",⟨⟨21,.data⟩::(List.range 22).map λj=>⟨j,.phase⟩⟩,none⟩
 else if i%2=1 then ⟨some (2+i / 2),.build 143 ⟨[(0,.const (.bool (kB (i / 2)))),(1,.const (.int .u8 (kO (i / 2))))]⟩,143, "signs.go:25",#[],none⟩
 else ⟨none,.insert 88 (.tmp 1) (.tmp (2+(i / 2-1))) (.const (.int .u8 (yJm (kB (i / 2-1)) (kO (i / 2-1))))),0, "signs.go:25",⟨[⟨0,.data⟩,⟨i-1,.data⟩]⟩,none⟩
def opsR:Array Oper:=⟨(List.range 23).map opR⟩
def zGq (b i:Nat):Option (Nat×IV) :=
 if i=0 then some (1,.raw (.map (some b))) else if i=21 then some (12,.raw (.map (some b))) else if i=22 then some (0,.raw (.map (some b))) else if i%2=1 then some (2+i / 2,kIV (i / 2)) else none
def RulP (p:Value×IV):Prop:=∃k,k<10/\p=(sgV (kB k) (kO k),vR k)
def RulE (listed:Array Bool)(es:List (Value×IV)):Prop:=(∀p∈es,RulP p)/\(∀k,k<10->listed.getD (2+2*k) false=true->(sgV (kB k) (kO k),vR k)∈es)/\∀k,k<10->yXl (sgV (kB k) (kO k)) es=if listed.getD (2+2*k) false=true then some (vR k) else none
def RulJ (st:ISt)(listed:Array Bool):Kt:=λ_ fr st' ds=>ds=[]/\∃b es,
 ((listed.getD 0 false=true/\st b=none/\st'=st.put b (some (.map .sg es))/\RulE listed es) \/
  (listed.getD 0 false=false/\st'=st/\listed.getD 21 false=false/\listed.getD 22 false=false/\∀k,k<10->listed.getD (2+2*k) false=false)) /\
 ∀i,i<23->listed.getD i false=true->∀d v,zGq b i=some (d,v)->fr d=.iv v
theorem xKm {k:Value}{v:IV}{p:Value×IV}:∀ {es:List (Value×IV)},p∈updI k v es->p=(k,v)\/p∈es
 | [],h=>by simpa[updI] using h
 | (x,u)::es,h=>by
  simp only[updI] at h;split at h
  ·rcases List.mem_cons.1 h with h|h
   ·exact .inl h
   ·exact .inr (List.mem_cons_of_mem _ h)
  ·rcases List.mem_cons.1 h with rfl|h
   ·exact .inr (by simp)
   ·exact (xKm h).imp id (List.mem_cons_of_mem _)
theorem xJa (k:Value)(v:IV):∀es:List (Value×IV),(k,v)∈updI k v es
 | []=>by simp[updI]
 | (x,u)::es=>by
  simp only[updI];split
  ·simp
  ·exact List.mem_cons_of_mem _ (xJa k v es)
theorem xJ9 {k:Value}{v:IV}{p:Value×IV}(hp:yKs k p.1=false):∀ {es:List (Value×IV)},p∈es->p∈updI k v es
 | (x,u)::es,h=>by
  simp only[updI];split
  ·rename_i hk;rcases List.mem_cons.1 h with rfl|h
   ·rw[hp] at hk;cases hk
   ·exact List.mem_cons_of_mem _ h
  ·rcases List.mem_cons.1 h with rfl|h
   ·simp
   ·exact List.mem_cons_of_mem _ (xJ9 hp h)
theorem zZp {b i j d d':Nat}{v v':IV}(hi:i<23)(hj:j<23)(h:zGq b i=some (d,v))(h':zGq b j=some (d',v'))(hne:i≠j):d≠d':=by
 unfold zGq at h h'
 repeat' split at h
 all_goals first|(cases h;done)|skip
 all_goals (repeat' split at h')
 all_goals first|(cases h';done)|skip
 all_goals (cases h;cases h';omega)
theorem zGp {b k:Nat}(hk:k<10):zGq b (1+2*k)=some (2+k,kIV k):=by
 unfold zGq;rw[if_neg (by omega),if_neg (by omega),if_neg (by omega),if_pos (by omega),show (1+2*k) / 2=k by omega]
theorem xU8 {i:Nat}(hi:i<23):opAt opsR i=opR i:=by
 unfold opAt opsR;rw[Array.getD_eq_getD_getElem?];simp[hi]
def wX2 (es:List (Value×IV)):Prop:=(∀p∈es,RulP p)/\(∀k,k<10->(sgV (kB k) (kO k),vR k)∈es)/\∀k,k<10->yXl (sgV (kB k) (kO k)) es=some (vR k)
theorem xKt {k j:Nat}(hk:k<10)(hj:j<10)(h:k≠j):yKs (sgV (kB k) (kO k)) (sgV (kB j) (kO j))=false:=by
 show (decide (kB k=kB j)&&decide ((kO k:Int)=kO j))=false;rw[Bool.eq_false_iff,ne_eq,bAt,dTe,dTe];exact λhc=>h (wUr (by omega) (by omega) hc.1 (by have:=hc.2;omega))
theorem xJh (st:ISt):ICall prog gl 29 [] st (λr st'=>∃b es,st b=none/\r=.raw (.map (some b))/\wX2 es/\st'=st.put b (some (.map .sg es))):=by
 refine ICall.intro (c:=cf prog gl [] [(1,[])]) func29 rfl (by show _<=13;simp) (by kernel_rfl) ?_;simp only[go_sem];rw[yKg];refine yJ9 (ops:=opsR) (RulJ st) ?_ ?_ _ _ _ _ _ _ rfl ?_
 ·intro listed ad fr st1 ds hz hJ i hi;replace hz:listed.size=23:=hz;obtain⟨h0,o,ho,hdep⟩:=mem_ready.1 hi;have his:i<23:=(Array.getElem?_eq_some_iff.1 ho).1;have hoi:o=opR i:=by
   have:=yZu (ops:=opsR) (i:=i) his;rw[ho,xU8 his] at this;exact Option.some.inj this
  subst hoi;rw[xU8 his];have hfl:listed.getD i false=false:=by
   rw[Array.getD_eq_getD_getElem?,Array.getElem?_eq_getElem (by omega)] at h0 ⊢;exact h0
  obtain⟨rfl,b,es,hst,hsl⟩:=hJ;have st':∀j,i≠j->(listed.setIfInBounds i true).getD j false=listed.getD j false:=λj hj=>by rw[yQo (by omega),if_neg hj]
  have sti:(listed.setIfInBounds i true).getD i false=true:=by rw[yQo (by omega),if_pos rfl]
  have keepE:(∀k,k<10->i≠2+2*k)->RulE listed es->RulE (listed.setIfInBounds i true) es:=λhn h=>⟨h.1,λk hk hl=>h.2.1 k hk (by rw[st' _ (hn k hk)] at hl;exact hl),λk hk=>by rw[st' _ (hn k hk)];exact h.2.2 k hk⟩
  by_cases i0:i=0
  ·subst i0;rw[show opR 0=⟨some 1,.makeMap 88 none,88, "signs.go:25",#[],none⟩ from rfl,yQ5];obtain⟨l0,_⟩|⟨_,rfl,l21,l22,lk⟩:=hst
   ·rw[hfl] at l0;cases l0
   simp only[go_sem];refine λb'=>yQf λhb'=>⟨rfl,b',[],.inl ⟨sti,hb',rfl,λp hp=>(by cases hp),λk hk hl=>?_,λk hk=>?_⟩,yJo zZp hz his rfl λj hj hl d v hs=>hsl j hj hl d v ?_⟩
   ·rw[st' _ (by omega),lk k hk] at hl;cases hl
   ·rw[st' _ (by omega),lk k hk];rfl
   ·have j0:j≠0:=λh=>by rw[h,hfl] at hl;cases hl
    have j43:j≠21:=λh=>by rw[h,l21] at hl;cases hl
    have j44:j≠22:=λh=>by rw[h,l22] at hl;cases hl
    unfold zGq at hs ⊢;rw[if_neg j0,if_neg j43,if_neg j44] at hs ⊢;exact hs
  by_cases i21:i=21
  ·subst i21;rw[show opR 21=⟨some 12,.move (.tmp 1),88, "signs.go:25",⟨(List.range 21).map λj=>⟨j,.data⟩⟩,none⟩ from rfl] at hdep ⊢;have d0:listed.getD 0 false=true:=hdep ⟨0,.data⟩ (by simp) rfl;have f1:=hsl 0 (by omega) d0 _ _ rfl;rw[yQ5];simp only[go_sem,f1];refine⟨rfl,b,es,?_,yJo zZp hz his rfl hsl⟩;obtain⟨l0,hb,hs,hE⟩|⟨l0,_⟩:=hst
   ·exact .inl ⟨by rw[st' 0 (by omega)];exact l0,hb,hs,keepE (λk hk=>by omega) hE⟩
   ·rw[d0] at l0;cases l0
  by_cases i22:i=22
  ·subst i22;rw[show opR 22=⟨some 0,.assign (.tmp 12),88, "signs.go:25",⟨⟨21,.data⟩::(List.range 22).map λj=>⟨j,.phase⟩⟩,none⟩ from rfl] at hdep ⊢;have d0:listed.getD 21 false=true:=hdep ⟨21,.data⟩ (by simp) rfl;have f1:=hsl 21 (by omega) d0 _ _ rfl;rw[yQ5];simp only[go_sem,f1];refine⟨rfl,b,es,?_,yJo zZp hz his rfl hsl⟩;obtain⟨l0,hb,hs,hE⟩|⟨_,_,l21,_⟩:=hst
   ·exact .inl ⟨by rw[st' 0 (by omega)];exact l0,hb,hs,keepE (λk hk=>by omega) hE⟩
   ·rw[d0] at l21;cases l21
  rcases (show i%2=1\/i%2=0 by omega) with h3|h3
  ·obtain⟨k,hk,rfl⟩:∃k,k<10/\i=1+2*k:=⟨i / 2,by omega,by omega⟩
   have he:opR (1+2*k)=⟨some (2+k),.build 143 ⟨[(0,.const (.bool (kB k))),(1,.const (.int .u8 (kO k)))]⟩,143, "signs.go:25",#[],none⟩:=by
    unfold opR;rw[if_neg (by omega),if_neg (by omega),if_neg (by omega),if_pos (by omega),show (1+2*k) / 2=k by omega]
   rw[he,yQ5];simp only[go_sem,zA,zL,fits];refine⟨rfl,b,es,?_,yJo zZp hz his (zGp hk) hsl⟩;rcases hst with⟨l0,hb,hs,hE⟩|⟨l0,hs,l21,l22,lk⟩
   ·exact .inl ⟨by rw[st' 0 (by omega)];exact l0,hb,hs,keepE (λk hk=>by omega) hE⟩
   ·exact .inr ⟨by rw[st' 0 (by omega)];exact l0,hs,by rw[st' 21 (by omega)];exact l21,by rw[st' 22 (by omega)];exact l22,λk' hk'=>by rw[st' _ (by omega)];exact lk k' hk'⟩
  ·obtain⟨k,hk,rfl⟩:∃k,k<10/\i=2+2*k:=⟨i / 2-1,by omega,by omega⟩
   have he:opR (2+2*k)=⟨none,.insert 88 (.tmp 1) (.tmp (2+k)) (.const (.int .u8 (yJm (kB k) (kO k)))),0, "signs.go:25",⟨[⟨0,.data⟩,⟨1+2*k,.data⟩]⟩,none⟩:=by
    unfold opR;rw[if_neg (by omega),if_neg (by omega),if_neg (by omega),if_neg (by omega),show (2+2*k) / 2-1=k by omega,show 2+2*k-1=1+2*k by omega]
   rw[he] at hdep ⊢;have d0:listed.getD 0 false=true:=hdep ⟨0,.data⟩ (by simp) rfl;have d1:listed.getD (1+2*k) false=true:=hdep ⟨1+2*k,.data⟩ (by simp) rfl;have f0:=hsl 0 (by omega) d0 _ _ rfl;have f1:=hsl _ (by omega) d1 _ _ (zGp hk);obtain⟨_,hb,rfl,hE1,hE2,hE3⟩|⟨l0,_⟩:=hst
   case inr=>rw[d0] at l0;cases l0
   unfold kIV at f1;have e1:decide ((0:Int)<=(kO k:Int))=true:=dEt (by omega);have e2:decide ((kO k:Int)<=255)=true:=dEt (by have:=k_lt (show k<14 by omega);omega);rw[yQ5];simp only[go_sem,f0,f1,e1,e2,ISt.put_same,yQh];refine⟨rfl,b,updI (sgV (kB k) (kO k)) (vR k) es,.inl ⟨by rw[st' 0 (by omega)];exact d0,hb,rfl,λp hp=>?_,λk' hk' hl=>?_,λk' hk'=>?_⟩,λj hj hl d v hs=>?_⟩
   ·rcases xKm hp with rfl|hp
    ·exact⟨k,hk,rfl⟩
    ·exact hE1 p hp
   ·by_cases hkk:k=k'
    ·subst hkk;exact xJa ..
    ·rw[st' _ (by omega)] at hl;exact xJ9 (xKt hk hk' hkk) (hE2 k' hk' hl)
   ·rw[zX8];by_cases hkk:k'=k
    ·subst hkk;rw[if_pos ⟨rfl,rfl⟩,if_pos sti]
    ·rw[if_neg (λhc=>hkk (wUr (by omega) (by omega) hc.1 (by have:=hc.2;omega))),hE3 k' hk',st' _ (by omega)]
   ·by_cases hjk:2+2*k=j
    ·subst hjk;unfold zGq at hs;rw[if_neg (by omega),if_neg (by omega),if_neg (by omega),if_neg (by omega)] at hs;cases hs
    ·rw[st' j hjk] at hl;exact hsl j hj hl d v hs
 ·intro listed ad fr st1 ds hz hr hJ;have hl:=zXy (ops:=opsR) (by decide +kernel) hz hr;obtain⟨rfl,b,es,hst,hsl⟩:=hJ;obtain⟨_,hb,rfl,hE1,hE2,hE3⟩|⟨l0,_⟩:=hst
  case inr=>rw[hl 0 (by decide)] at l0;cases l0
  have f0:=hsl 22 (by decide) (hl 22 (by decide)) _ _ rfl;simp only[go_sem,f0];have hlk:∀k,k<10->listed.getD (2+2*k) false=true:=λk hk=>hl _ (by show 2+2*k<23;omega);exact yQ0 ⟨b,es,hb,rfl,⟨hE1,λk hk=>hE2 k hk (hlk k hk),λk hk=>by rw[hE3 k hk,if_pos (hlk k hk)]⟩,rfl⟩
 ·refine⟨rfl,0,[],.inr ⟨yXw _ _,rfl,yXw _ _,yXw _ _,λk hk=>yXw _ _⟩,λi hi hl=>?_⟩;have:=yXw 23 i;rw[show (Array.replicate 23 false).getD i false=true from hl] at this;cases this
structure RulX (ents:Array MapEntry)(clock:Nat):Prop where
 all:∀e∈ents.toList,∃k,k<10/\e.key=sgV (kB k) (kO k)/\e.val=.int .u8 (yJm (kB k) (kO k))
 has:∀k,k<10->∃e∈ents.toList,e.key=sgV (kB k) (kO k)
 born:∀e∈ents.toList,e.born<clock
 nd:(ents.toList.map (·.born)).Nodup
theorem wGf {es:List (Value×IV)}{ents:Array MapEntry}{clock:Nat}(h:wX2 es)(hg:wWu .sg es ents clock):RulX ents clock:=by
 obtain⟨h1,h2,_⟩:=h;obtain⟨g1,g2,g3,g4,g5⟩:=hg;have hlen:ents.toList.length=es.length:=by have:=congrArg List.length g1;simpa using this
 refine⟨λe he=>?_,λk hk=>?_,g3,?_⟩
 ·obtain⟨i,hi⟩:=List.mem_iff_getElem?.1 he;obtain⟨p,hp⟩:=yQ3 (l:=es) (k:=i) (by rw[<- hlen];exact (lGs hi).1);have hkey:e.key=p.1:=by
   have:=congrArg (λl=>l[i]?) g1;simp only[List.getElem?_map,hi,hp,Option.map_some,Option.some.injEq] at this;exact this
  obtain⟨k,hk,rfl⟩:=h1 p (lMg hp);exact⟨k,hk,hkey,g5 i e _ hi hp _ rfl⟩
 ·obtain⟨i,hi⟩:=List.mem_iff_getElem?.1 (h2 k hk);obtain⟨e,he⟩:=yQ3 (l:=ents.toList) (k:=i) (by rw[hlen];exact (lGs hi).1);refine⟨e,lMg he,?_⟩;have:=congrArg (λl=>l[i]?) g1;simp only[List.getElem?_map,hi,he,Option.map_some,Option.some.injEq] at this;exact this
 ·rw[List.Nodup,List.pairwise_map];exact g4.imp λh=>Nat.ne_of_lt h
theorem xG1 (st:ISt):ICall prog gl 29 [] st (λr st'=>∃b ents clock,st b=none/\r=.raw (.map (some b))/\RulX ents clock/\st'=st.put b (some (.mapx ents clock))) :=
 ICall.mapxR ((xJh gl st).mono λr st' ⟨b,es,hb,hr,hok,hs⟩=>⟨b,.sg,es,by rw[hs];exact ISt.put_same ..,λents clock hg=>⟨b,ents,clock,hb,hr,wGf hok hg,by rw[hs,yQh]⟩⟩)
theorem xWo {ents:Array MapEntry}(hn:(ents.toList.map (·.born)).Nodup)(seen:Array Nat){e:MapEntry}(h:e∈ents.toList):xWp ents (seen.push e.born)=valI e.val:=by
 have hf:ents.toList.find? (λx=>x.born == e.born)=some e:=find_born e ents.toList hn h;unfold xWp;rw[Array.back?_push,Option.bind_some,hf]
def zW1 (es:List (Value×IV)):Prop:=∀rule:Nat,yXl (.int .u8 rule) es=if yV8 rule=true then some (.raw (.bool true)) else none
def vZ1 (ents:Array MapEntry)(seen:Array Nat)(es:List (Value×IV)):Prop :=
 (∀(rule:Nat) v,yXl (.int .u8 rule) es=some v->v=.raw (.bool true)/\yV8 rule=true)/\yXl (.int .u8 1) es=some (.raw (.bool true))/\yXl (.int .u8 2) es=some (.raw (.bool true)) /\
 ∀e∈ents.toList,e ∉ yY9 ents seen->∀k,k<10->e.key=sgV (kB k) (kO k)->kB k=true->yXl (.int .u8 (yJm true (kO k))) es=some (.raw (.bool true))
theorem wUs {k:Nat}(hk:k<10)(hb:kB k=true):yV8 (yJm true (kO k))=true:=by
 rcases (show k=0\/k=1\/k=2\/k=3\/k=4\/k=5\/k=6\/k=7\/k=8\/k=9 by omega) with rfl|rfl|rfl|rfl|rfl|rfl|rfl|rfl|rfl|rfl<;>revert hb<;>decide
theorem wK2 {ents:Array MapEntry}{clock:Nat}{seen:Array Nat}{es:List (Value×IV)}(hX:RulX ents clock)(hn:yY9 ents seen=[])(h:vZ1 ents seen es):zW1 es:=by
 intro rule;cases hl:yV8 rule
 ·cases hf:yXl (.int .u8 rule) es with
  | none=>rfl
  | some v=>rw[(h.1 rule v hf).2] at hl;cases hl
 ·rw[if_pos rfl];have key:∀k,k<10->kB k=true->yXl (.int .u8 (yJm true (kO k))) es=some (.raw (.bool true)):=λk hk hb=>by
   obtain⟨e,he,hek⟩:=hX.has k hk;exact h.2.2.2 e he (by rw[hn];simp) k hk hek hb
  have hc:rule=1\/rule=2\/rule=3\/rule=5\/rule=7\/rule=9\/rule=11:=by
   simp only[yV8,Bool.or_eq_true,dTe] at hl;omega
  rcases hc with rfl|rfl|rfl|rfl|rfl|rfl|rfl
  ·exact h.2.1
  ·exact h.2.2.1
  ·exact key 0 (by decide) rfl
  ·exact key 2 (by decide) rfl
  ·exact key 4 (by decide) rfl
  ·exact key 6 (by decide) rfl
  ·exact key 8 (by decide) rfl
theorem wQ8 (b:Bool)(o:Int):keyI (sgV b o)=some (.agg [.raw (.bool b),.raw (.int .u8 o)]):=rfl
theorem zJ9 (st:ISt):ICall prog gl 75 [] st (λr st'=>∃m es,st m=none/\r=.agg [.raw (.map (some m))]/\zW1 es/\st'=st.put m (some (.map (.int .u8) es))):=by
 refine iI func75 ?_;simp only[go_sem,zE,zA,zL,fits];refine λm=>yQf λhm=>?_;simp only[go_sem,yQh];refine (xG1 gl _).mono ?_;rintro _ _ ⟨b,ents,clock,hb,rfl,hX,rfl⟩;have hbm:b≠m:=λh=>by rw[h,ISt.put_same] at hb;cases hb
 simp only[go_sem,reduceCtorEq,ISt.put_same];refine λr=>yQf λhr=>?_;have hrb:r≠b:=λh=>by rw[h,ISt.put_same] at hr;cases hr
 have hrm:r≠m:=λh=>by rw[h,yQ9 hbm.symm,ISt.put_same] at hr;cases hr
 have hb0:st b=none:=by rw[yQ9 hbm] at hb;exact hb
 have hr0:st r=none:=by rw[yQ9 hrb,yQ9 hrm] at hr;exact hr
 have hchk:((∀e∈ents.toList,e.born<clock/\(keyI e.key).isSome=true)/\clock<=clock)=True:=eq_true ⟨λe he=>⟨hX.born e he,by obtain⟨k,_,hk,_⟩:=hX.all e he;rw[hk];rfl⟩,Nat.le_refl _⟩;have hnd:(ents.toList.map (·.born)).Nodup=True:=eq_true hX.nd;refine LoopC.dec ents.toList.length (λk fr st' ds=>(∃seen es,(yY9 ents seen).length=k/\vZ1 ents seen es/\st' m=some (.map (.int .u8) es)/\st' b=some (.mapx ents clock)/\st' r=some (.iter b clock seen clock)/\∀c,c≠m->c≠b->c≠r->st' c=st c) /\
  fr 0=.box [.raw (.map none)]/\fr 1=.box [.raw (.map (some m))]/\fr 8=.iv (.raw (.pointer (some ⟨r,0,none⟩)))/\ds=[]) ?_ ?_
 ·simp only[go_sem,zE,reduceCtorEq];refine⟨#[],_,by rw[zUq],⟨λrule v h=>?_,rfl,rfl,λe he hn=>absurd (by rw[zUq];exact he) hn⟩,by rw[yQ9 hrm.symm,yQ9 hbm.symm,ISt.put_same],by rw[yQ9 hrb.symm,ISt.put_same],rfl,λc h1 h2 h3=>by rw[yQ9 h3,yQ9 h2,yQ9 h1]⟩;rw[yJx,yJx] at h;have h2:rule=1\/rule=2:=by
   refine Classical.byContradiction λhc=>?_;rw[if_neg (by omega),if_neg (by omega)] at h;cases h
  have hv:v=.raw (.bool true):=by
   rcases h2 with rfl|rfl
   ·exact (Option.some.inj h).symm
   ·exact (Option.some.inj h).symm
  exact⟨hv,by rcases h2 with rfl|rfl<;>rfl⟩
 ·rintro k fr st1 _ ⟨⟨seen,es,hlen,hP,hm1,hb1,hr1,hrest⟩,f0,f1,f8,rfl⟩;simp only[go_sem,reduceCtorEq,f8,hr1,hb1,hchk];refine⟨λhnil=>?_,λe he x hx=>?_⟩
  ·simp only[go_sem,zE,zL,reduceCtorEq,f0,f1];refine yQb (st':=st.put m (some (.map (.int .u8) es))) (λc o hc=>?_) ⟨m,es,hm,rfl,wK2 hX hnil hP,rfl⟩;by_cases hcm:c=m
   ·subst hcm;rw[ISt.put_same] at hc;rw[hm1];exact hc
   ·rw[yQ9 hcm] at hc;rw[hrest c hcm (λh=>by rw[h,hb0] at hc;cases hc) (λh=>by rw[h,hr0] at hc;cases hc)];exact hc
  ·have hem:=xUl he;obtain⟨j,hj,hek,hev⟩:=hX.all e hem;rw[hek] at hx;cases hx;have hlast:=xWq hX.nd seen hem;rw[hek] at hlast;have hlw:=xWo hX.nd seen hem;rw[hev] at hlw;have hpush:=xWn hX.nd he;have hother:∀(o1 o2:IObj) c,c≠m->c≠b->c≠r->((st1.put r (some o1)).put m (some o2)) c=st c:=λo1 o2 c h1 h2 h3=>by rw[yQ9 h1,yQ9 h3];exact hrest c h1 h2 h3
   have hnew:∀es',(∀(rule:Nat) v,yXl (.int .u8 rule) es'=some v->v=.raw (.bool true)/\yV8 rule=true)->(∀rule:Nat,yXl (.int .u8 rule) es=some (.raw (.bool true))->yXl (.int .u8 rule) es'=some (.raw (.bool true)))->(kB j=true->yXl (.int .u8 (yJm true (kO j))) es'=some (.raw (.bool true)))->vZ1 ents (seen.push e.born) es':=λes' h1 h2 h3=>by
    refine⟨h1,h2 1 hP.2.1,h2 2 hP.2.2.1,λe' he' hn' k' hk' hek' hb'=>?_⟩;by_cases hl:e'∈yY9 ents seen
    ·have hee:e'.born=e.born:=by
      refine Classical.byContradiction λhc=>hn' ?_;unfold yY9 at hl ⊢;rw[List.mem_filter] at hl ⊢;refine⟨he',?_⟩;have:=hl.2;simp only[Array.contains_push,Bool.not_or,bAt,Bool.not_eq_true'] at this ⊢;exact⟨this,by simpa using hc⟩
     have heq:e'=e:=by
      have h5:=find_born e ents.toList hX.nd hem;have h6:=find_born e' ents.toList hX.nd he';rw[hee] at h6;exact Option.some.inj (h6.symm.trans h5)
     subst heq;rw[hek] at hek';have hjk:j=k':=by
      refine Classical.byContradiction λhc=>?_;have:=xKt hj hk' hc;rw[hek'] at this;have h9:yKs (sgV (kB k') (kO k')) (sgV (kB k') (kO k'))=true:=by
       show (decide (kB k'=kB k')&&decide ((kO k':Int)=kO k'))=true;simp
      rw[h9] at this;cases this
     subst hjk;exact h3 hb'
    ·exact h2 _ (hP.2.2.2 e' he' hl k' hk' hek' hb')
   cases hkb:kB j
   ·rw[hkb] at hnew;simp only[go_sem,zE,zA,zL,reduceCtorEq,f0,f1,f8,ISt.put_same,yQ9 hrb.symm,yQ9 hrm.symm,hb1,hm1,hnd,hlast,hlw,valI,wQ8,hkb];refine⟨(yY9 ents (seen.push e.born)).length,by omega,⟨seen.push e.born,es,rfl,hnew es hP.1 (λ_ h=>h) (λh=>by cases h),rfl,rfl,λc h1 h2 h3=>by rw[yQ9 h3];exact hrest c h1 h2 h3⟩⟩
   ·rw[hkb] at hnew hlw;simp only[go_sem,zE,zA,zL,reduceCtorEq,f0,f1,f8,ISt.put_same,yQ9 hrb.symm,yQ9 hrm.symm,hb1,hm1,hnd,hlast,hlw,valI,wQ8,hkb];have hlk:=wUs hj hkb;refine⟨(yY9 ents (seen.push e.born)).length,by omega,⟨seen.push e.born,updI (.int .u8 (yJm true (kO j))) (.raw (.bool true)) es,rfl,hnew _ (λrule v h=>?_) (λrule h=>?_) (λ_=>by rw[yJx,if_pos rfl]),rfl,by rw[yQ9 hbm,yQ9 hrb.symm];exact hb1,by rw[yQ9 hrm,ISt.put_same],hother _ _⟩⟩
    ·rw[yJx] at h;by_cases hr:(rule:Int)=(yJm true (kO j):Nat)
     ·rw[if_pos hr] at h;have:rule=yJm true (kO j):=by omega
      rw[this];exact⟨(Option.some.inj h).symm,hlk⟩
     ·rw[if_neg hr] at h;exact hP.1 rule v h
    ·rw[yJx];split
     ·rfl
     ·exact h
