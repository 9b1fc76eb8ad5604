/- Walks: the makers of lyceumlaw27; what t -/
import Derived.Test.YtdbmgeebmfpmpaaGreatDoorQG
import Derived.Test.YtdbmgeebmfpmpaaGreatDoorKE
import Derived.Deep.DeepHandedRow
set_option linter.all false
open Nat renaming reduceEqDiff → zE,reduceBEq → zB,reduceAdd → zA,reduceMul → zM,reduceSub → zS,reduceLeDiff → zL
namespace Go.Proofs.Tryz
open Go Go.Iv
set_option maxRecDepth 8000
variable (gl:Nat->Option IV)
theorem k_p (n:ByteArray)(st:ISt):ICall prog gl 8 [.raw (.string n)] st (λr st'=>r=.agg [.raw (.int .u8 1),.raw (.string n),nlS,nlS]/\st'=st):=by
 refine iI func8 ?_;simp only[go_sem,zE,zB,zA,zM,zS,zL,reduceCtorEq,fits];exact yQ0 ⟨rfl,rfl⟩
theorem k_of (op:Int)(t:Tag)(xs:List IV)(st:ISt):ICall prog gl 7 [.raw (.int .u8 op),.sl t xs] st (λr st'=>r=.agg [.raw (.int .u8 op),.raw (.string ⟨#[]⟩),nlS,.sl t xs]/\st'=st):=by
 refine iI func7 ?_;simp only[go_sem,zE,zB,zA,zM,zS,zL,reduceCtorEq,fits];exact yQ0 ⟨rfl,rfl⟩
theorem k_fs (t:Tag)(xs:List IV)(st:ISt):ICall prog gl 10 [.sl t xs] st (λr st'=>r=.sl t xs/\st'=st):=by
 refine iI func10 ?_;simp only[go_sem,zE,zB,zA,zM,zS,zL,reduceCtorEq,fits];exact yQ0 ⟨rfl,rfl⟩
theorem k_sq (t:Tag)(xs:List IV)(t':Tag)(ys:List IV)(st:ISt):ICall prog gl 9 [.sl t xs,.sl t' ys] st (λr st'=>r=.agg [.sl t xs,.sl t' ys]/\st'=st):=by
 refine iI func9 ?_;simp only[go_sem,zE,zB,zA,zM,zS,zL,reduceCtorEq,fits];exact yQ0 ⟨rfl,rfl⟩
def gI (t:Tag)(xs:List IV)(t':Tag)(ys:List IV):IV:=.agg [.raw (.int .u8 0),.sl t xs,.sl t' ys,.raw (.int .u8 0),.raw (.string ⟨#[]⟩),nlS,nlS,.raw (.bool false),.raw (.string ⟨#[]⟩),nlS,.raw (.string ⟨#[]⟩),nlS]
theorem zK2 (t:Tag)(xs:List IV)(t':Tag)(ys:List IV)(st:ISt):ICall prog gl 14 [.agg [.sl t xs,.sl t' ys]] st (λr st'=>r=gI t xs t' ys/\st'=st):=by
 refine iI func14 ?_;simp only[go_sem,zE,zB,zA,zM,zS,zL,reduceCtorEq,fits];exact yQ0 ⟨rfl,rfl⟩
theorem zK1 (r o:Int)(n:ByteArray)(t1:Tag)(x1:List IV)(t2:Tag)(x2:List IV)(t:Tag)(xs:List IV)(t':Tag)(ys:List IV)(ts:Tag)(zs:List IV)(st:ISt) :
  ICall prog gl 6 [.raw (.int .u8 r),.agg [.raw (.int .u8 o),.raw (.string n),.sl t1 x1,.sl t2 x2],.agg [.sl t xs,.sl t' ys],.sl ts zs] st
   (λy st'=>y=.agg [.raw (.int .u8 r),.sl t xs,.sl t' ys,.raw (.int .u8 o),.raw (.string n),.sl t1 x1,.sl t2 x2,.raw (.bool false),.raw (.string ⟨#[]⟩),nlS,.raw (.string ⟨#[]⟩),.sl ts zs]/\st'=st):=by
 refine iI func6 ?_;simp only[go_sem,zE,zB,zA,zM,zS,zL,reduceCtorEq,fits];exact yQ0 ⟨rfl,rfl⟩
theorem zGk {s:Sq}{t:Tag}{xs:List IV}{t':Tag}{ys:List IV}(h:IsSq s (.agg [.sl t xs,.sl t' ys])):IsTr (goalT s) (gI t xs t' ys):=by
 obtain⟨t1,x1,t2,x2,he,e1,i1,e2,i2⟩:=h;cases he;exact⟨_,_,_,_,_,_,_,_,_,_,_,_,_,_,_,_,rfl,by decide,e1,i1,e2,i2,xGy,zUd,.inl rfl,rfl⟩
theorem zKf (G:Gl gl)(T:Gt gl)(hgl:∀g x,gl g=some x->age x=x){ca:Nat}(hc:ca=1\/ca=2){t:Tr}{x:IV}(hx:IsTr t x)(hok:okT t=true)(hs:t.steps<=300){p:List Nat}(hgs:yJ7 t=[p]){s:Sq}(hsq:(atT t p).sq=s)(hv:yQv ca s=true){h:Nat}{K:List Sn}(hK:hF (calJ ca) (s.l,s.r)=h/\ReachOk (calJ ca) (nf (s.l,s.r)) K)(hfs:yJm s)(m:Nat×Fm×List Sn)
  (hB:0<h->∀y st,IsSq s y->ICall prog gl 55 [.raw (.int .u8 (ca:Int)),y,.raw (.int .i64 (h:Int))] st (λr st'=>(∃z,yWb m z/\r=.tup [z,.raw (.int .i64 0)])/\st'=st)) (st:ISt) :
  ICall prog gl 30 [.raw (.int .u8 (ca:Int)),x] st (λr st'=>xZk ca t h m r/\st'=st):=by
 refine xJp gl G T hgl ca t x hx (zJp hok (by omega)) (by omega) h m (λq qs _ hq y st hy=>?_) (λq qs hh _ hq y st hy=>?_) st
 ·rw[hgs] at hq;cases hq;rw[hsq] at hy;exact yU4 gl G T ca s hc hv hK y hy hfs st
 ·rw[hgs] at hq;cases hq;rw[hsq] at hy;exact hB hh y st hy
theorem uUz (G:Gl gl)(T:Gt gl)(y:IV)(st:ISt)(hy:IsSq sM y):ICall prog gl 55 [.raw (.int .u8 ((2:Nat):Int)),y,.raw (.int .i64 ((3:Nat):Int))] st (λr st'=>(∃z,yWb mv1 z/\r=.tup [z,.raw (.int .i64 0)])/\st'=st):=by
 refine zGi gl G T 2 sM (.inr rfl) hvM 3 mv1 y hy (yJw (by decide)) (λh=>(nclM h).elim) (λ_=>⟨sd2.2.top (by rw[nfM];exact nclM),?_,?_,?_⟩) st
 ·rw[show nf (sM.l,sM.r)=([],[mnF]) from nfM,show mvF (calJ 2) ([],[mnF])=_ from mvM];have e1:lowB (calJ 2) 3 [(([]:List Fm),[faP])]=false:=by unfold lowB;simp only[List.all_cons,List.all_nil];rw[show Tryz.hF (calJ 2) ([],[faP])=0 from sd1.1];rfl
  have e2:lowB (calJ 2) 3 [(([]:List Fm),[qqF])]=true:=by unfold lowB;simp only[List.all_cons,List.all_nil];rw[show Tryz.hF (calJ 2) ([],[qqF])=2 from sd3.1];rfl
  rw[List.find?_cons,e1,List.find?_cons,e2]
 ·rw[show nf (sM.l,sM.r)=([],[mnF]) from nfM,show mvF (calJ 2) ([],[mnF])=_ from mvM];decide
 ·rw[show nf (sM.l,sM.r)=([],[mnF]) from nfM,show mvF (calJ 2) ([],[mnF])=_ from mvM];intro v hv;simp only[List.mem_cons,List.not_mem_nil,or_false] at hv;rcases hv with rfl|rfl
  ·refine⟨by show 1<=1000000;decide,λp hp y st hy=>?_⟩;rw[List.mem_singleton.1 hp] at hy ⊢;rw[show Tryz.hF (calJ 2) ([],[faP])=0 from sd1.1];exact yU4 gl G T 2 sP (.inr rfl) hvP sd1 y hy (yJw (by decide)) st
  ·refine⟨by show 1<=1000000;decide,λp hp y st hy=>?_⟩;rw[List.mem_singleton.1 hp] at hy ⊢;rw[show Tryz.hF (calJ 2) ([],[qqF])=2 from sd3.1];exact yU4 gl G T 2 sQ (.inr rfl) hvQ sd3 y hy (yJw (by decide)) st
theorem uUx (G:Gl gl)(T:Gt gl)(y:IV)(st:ISt)(hy:IsSq sQ y):ICall prog gl 55 [.raw (.int .u8 ((2:Nat):Int)),y,.raw (.int .i64 ((2:Nat):Int))] st (λr st'=>(∃z,yWb mv2 z/\r=.tup [z,.raw (.int .i64 0)])/\st'=st):=by
 refine zGi gl G T 2 sQ (.inr rfl) hvQ 2 mv2 y hy (yJw (by decide)) (λh=>(nclQ h).elim) (λ_=>⟨sd3.2.top (by rw[nfQ];exact nclQ),?_,?_,?_⟩) st
 ·rw[show nf (sQ.l,sQ.r)=([],[qqF]) from nfQ,show mvF (calJ 2) ([],[qqF])=_ from mvQ];have e2:lowB (calJ 2) 2 [([faQ],[faQ])]=true:=by unfold lowB;simp only[List.all_cons,List.all_nil];rw[show Tryz.hF (calJ 2) ([faQ],[faQ])=1 from sd4.1];rfl
  rw[List.find?_cons,e2]
 ·rw[show nf (sQ.l,sQ.r)=([],[qqF]) from nfQ,show mvF (calJ 2) ([],[qqF])=_ from mvQ];decide
 ·rw[show nf (sQ.l,sQ.r)=([],[qqF]) from nfQ,show mvF (calJ 2) ([],[qqF])=_ from mvQ];intro v hv;rw[List.mem_singleton.1 hv];refine⟨by show 1<=1000000;decide,λp hp y st hy=>?_⟩;rw[List.mem_singleton.1 hp] at hy ⊢;rw[show Tryz.hF (calJ 2) ([faQ],[faQ])=1 from sd4.1];exact yU4 gl G T 2 sA (.inr rfl) hvA sd4 y hy (yJw (by decide)) st
theorem uUy (G:Gl gl)(T:Gt gl)(y:IV)(st:ISt)(hy:IsSq sO y):ICall prog gl 55 [.raw (.int .u8 ((1:Nat):Int)),y,.raw (.int .i64 ((3:Nat):Int))] st (λr st'=>(∃z,yWb mv4 z/\r=.tup [z,.raw (.int .i64 0)])/\st'=st):=by
 refine zGi gl G T 1 sO (.inl rfl) awv2 3 mv4 y hy (yJw (by decide)) (λh=>(nclO h).elim) (λ_=>⟨aw2.2.top (by rw[nfO];exact nclO),?_,?_,?_⟩) st
 ·rw[show nf (sO.l,sO.r)=([],[orP]) from nfO,show mvF (calJ 1) ([],[orP])=_ from mvO];have e2:lowB (calJ 1) 3 [([],[faP,fno faP,orP])]=true:=by unfold lowB;simp only[List.all_cons,List.all_nil];rw[show Tryz.hF (calJ 1) ([],[faP,fno faP,orP])=2 from sd5.1];rfl
  rw[List.find?_cons,e2]
 ·rw[show nf (sO.l,sO.r)=([],[orP]) from nfO,show mvF (calJ 1) ([],[orP])=_ from mvO];decide
 ·rw[show nf (sO.l,sO.r)=([],[orP]) from nfO,show mvF (calJ 1) ([],[orP])=_ from mvO];intro v hv;rw[List.mem_singleton.1 hv];refine⟨by show 1<=1000000;decide,λp hp y st hy=>?_⟩;rw[List.mem_singleton.1 hp] at hy ⊢;rw[show Tryz.hF (calJ 1) ([],[faP,fno faP,orP])=2 from sd5.1];exact yU4 gl G T 1 ⟨[],[faP,fno faP,orP]⟩ (.inl rfl) hvE sd5 y hy (yJw (by decide)) st
theorem kQ1 (G:Gl gl)(T:Gt gl)(y:IV)(st:ISt)(hy:IsSq sA y):ICall prog gl 55 [.raw (.int .u8 ((2:Nat):Int)),y,.raw (.int .i64 ((1:Nat):Int))] st (λr st'=>(∃z,yWb mv3 z/\r=.tup [z,.raw (.int .i64 0)])/\st'=st):=by
 have hS:SetS sA=(sA,0):=by rw[vJk (.inr rfl) hvA,show nf (sA.l,sA.r)=([faQ],[faQ]) from nfA];rfl
 have hh:sA.l.find? (hasF sA.r)=some faQ:=by
  have:hasF [faQ] faQ=true:=by simp only[hasF,List.any_cons,xY0 (show faQ.right=true by kernel_rfl),Bool.true_or]
  simp only[List.find?_cons,this]
 exact zGi gl G T 2 sA (.inr rfl) hvA 1 mv3 y hy (yJw (by decide)) (λ_ st=>wJo gl G T sA sA faQ y hy (yJw (by decide)) (by decide) hS (yJw (by decide)) (by decide) hh st) (λh=>(h clA).elim) st
set_option maxRecDepth 4000
def wV8 (t:Tr):Prop:=∀(x y:IV) (_:IsTr t x) (_:IsTr t y) (_:t.steps<=1099511627776) (st:ISt),ICall prog gl 20 [x,y] st (λr st'=>r=.raw (.bool true)/\st'=st)
theorem wQr (rule:Nat)(s:Sq)(f:Fm)(u:Tm)(n:ByteArray)(sub:List Tr)(IH:∀a∈sub,wV8 gl a):wV8 gl (.mk rule s f u n sub):=by
 intro x y hx hy hst st;obtain⟨tl,xl,tr,xr,op,fn,ta,xa,tb,xb,v,un,tu,xu,ts,xs,rfl,hru,e1,i1,e2,i2,hyf,hz,e3,i3⟩:=hx.mk;obtain⟨tl2,xl2,tr2,xr2,op2,fn2,ta2,xa2,tb2,xb2,v2,un2,tu2,xu2,ts2,xs2,rfl,hru2,e12,i12,e22,i22,hyf2,hz2,e32,i32⟩:=hy.mk;simp only[Tr.steps] at hst;have hlsub:=yVa sub;have h1:=λst=>zWk gl s s (.agg [.sl tl xl,.sl tr xr]) (.agg [.sl tl2 xl2,.sl tr2 xr2]) ⟨_,_,_,_,rfl,e1,i1,e2,i2⟩ ⟨_,_,_,_,rfl,e12,i12,e22,i22⟩ st;have h2:=λst=>yU6 gl f f _ _ hyf hyf2 st;have h3:=λst=>xJ8 gl u u _ _ hz hz2 st;have hs1:eqB s s=true:=yZ7.2 rfl;have hs2:eqB f f=true:=yZ7.2 rfl;have hs3:eqB u u=true:=yZ7.2 rfl;refine iI func20 ?_;simp only[go_sem,zE,zA,zL,decide_true];refine (h1 _).mono ?_;rintro _ st ⟨rfl,rfl⟩;simp only[go_sem,zE,zA,zL,hs1];refine (h2 _).mono ?_;rintro _ st ⟨rfl,rfl⟩;simp only[go_sem,zE,zA,zL,hs2];refine (h3 _).mono ?_;rintro _ st ⟨rfl,rfl⟩;simp only[go_sem,zE,zA,hs3,decide_true,i3.len,i32.len];intros;refine LoopC.ctr sub.length (λk fr st' ds=>fr 2=.box [.raw (.int .u8 rule),.sl tl xl,.sl tr xr,.raw (.int .u8 op),.raw (.string fn),.sl ta xa,.sl tb xb,.raw (.bool v),.raw (.string un),.sl tu xu,.raw (.string n),.sl ts xs] /\
  fr 3=.box [.raw (.int .u8 rule),.sl tl2 xl2,.sl tr2 xr2,.raw (.int .u8 op2),.raw (.string fn2),.sl ta2 xa2,.sl tb2 xb2,.raw (.bool v2),.raw (.string un2),.sl tu2 xu2,.raw (.string n),.sl ts2 xs2]/\fr 5=.iv (.raw (.int .i64 k))/\st'=st/\ds=[]) ?_ ?_ ?_
 ·simp only[go_sem,zE];rfl
 ·rintro k fr st1 _ hlt ⟨f2,f3,f5,rfl,rfl⟩;obtain⟨a,ha⟩:=yQ1 hlt;have ham:=lMg ha;obtain⟨z,hkz,hzz⟩:=i3.get ha;obtain⟨z2,hkz2,hzz2⟩:=i32.get ha;have hcall:=λst=>IH a ham z z2 hzz hzz2 (by have:=yY7 ham;omega) st;obtain⟨rule',tl',xl',tr',xr',op',fn',ta',xa',tb',xb',v',un',tu',xu',n',ts',xs',rfl⟩:=yX8 hzz;obtain⟨rule',tl',xl',tr',xr',op',fn',ta',xa',tb',xb',v',un',tu',xu',n',ts',xs',rfl⟩:=yX8 hzz2;simp only[go_sem,zE,zB,zA,f2,f3,f5,i3.len,lt_i hlt,yQ4 e3,yQ4 e32,iNn,hkz,hkz2,fits];intros;refine (hcall _).mono ?_;rintro _ st2 ⟨rfl,rfl⟩;simp only[go_sem,zE,f2,f3,f5,yQd hlt (show sub.length<=281474976710656 by omega)]
 ·rintro fr st1 _ ⟨f2,f3,f5,rfl,rfl⟩;simp only[go_sem,zE,f2,f5,i3.len,yQl (nLi _)];intros;exact yQ0 ⟨rfl,rfl⟩
theorem xV3:∀(k:Nat)(t:Tr),SizeOf.sizeOf t<k->wV8 gl t
 | 0,t,h=>by omega
 | k+1,.mk r sq f u n sub,h=>wQr gl r sq f u n sub (λa ha=>xV3 k a (by
   have:=lSm ha;simp at h;omega))
theorem xUg (t:Tr):wV8 gl t:=xV3 gl _ t (Nat.lt_succ_self _)
set_option maxRecDepth 8000
theorem wZd {r:Nat}(hr:r<256){s:Sq}{m:Fm}{sub:List Tr}{t t' t1 t2 ts:Tag}{xs ys x1 x2 zs:List IV}{o:Int}{n:ByteArray}(h1:IsSq s (.agg [.sl t xs,.sl t' ys]))(h2:IsFm m (.agg [.raw (.int .u8 o),.raw (.string n),.sl t1 x1,.sl t2 x2]))(h3:okEs ts 12)(h4:IsTrs sub zs) :
  IsTr (.mk r s m tmZ noN sub) (.agg [.raw (.int .u8 (r:Int)),.sl t xs,.sl t' ys,.raw (.int .u8 o),.raw (.string n),.sl t1 x1,.sl t2 x2,.raw (.bool false),.raw (.string ⟨#[]⟩),nlS,.raw (.string ⟨#[]⟩),.sl ts zs]):=by
 obtain⟨a1,b1,a2,b2,he,e1,i1,e2,i2⟩:=h1;cases he;exact⟨_,_,_,_,_,_,_,_,_,_,_,_,_,_,_,_,rfl,hr,e1,i1,e2,i2,h2,zUd,h3,h4⟩
theorem vQn {t res:Tr}{x:IV}(hx:IsTr t x)(hs:t.steps<=200){h:Nat}{m:Nat×Fm×List Sn}(hr:m.1<256)(hm:m.2.2.length<=100)(hck:hCk 2 t=([],0)){p:List Nat}(hg:yJ7 t=[p])(hh:0<h)
  (hF:∀st,ICall prog gl 30 [.raw (.int .u8 ((2:Nat):Int)),x] st (λr st'=>xZk 2 t h m r/\st'=st)) (n:Nat) (hv:visF (folF m) n t true p=some res) (st:ISt) :
  ICall prog gl 15 [.raw (.int .u8 ((2:Nat):Int)),x] st (λr st'=>(∃z,IsTr res z/\r=.tup [z,.raw (.int .i64 0)])/\st'=st):=by
 refine (zK7 gl 2 t res x hx (by omega) h m hr hF n (λq qs _ hq=>by rw[hg] at hq;cases hq;exact⟨by omega,hv⟩) st).mono ?_;rintro r st' ⟨⟨h0,_⟩|⟨_,h0,_⟩|⟨_,h0⟩|⟨_,_,h0⟩,h1⟩
 ·rw[hck] at h0;exact absurd rfl h0
 ·rw[hg] at h0;cases h0
 ·omega
 ·exact⟨h0,h1⟩
def skK:Nat->Tr
 | 0=>goalT sM
 | 1=>sk1
 | 2=>sk2
 | _=>sk3
theorem uWf (G:Gl gl)(T:Gt gl)(hgl:∀g x,gl g=some x->age x=x)(k:Nat)(hk:k<3)(x:IV)(hx:IsTr (skK k) x)(st:ISt) :
  ICall prog gl 15 [.raw (.int .u8 ((2:Nat):Int)),x] st (λr st'=>(∃z,IsTr (skK (k+1)) z/\r=.tup [z,.raw (.int .i64 0)])/\st'=st):=by
 rcases (show k=0\/k=1\/k=2 by omega) with rfl|rfl|rfl
 ·exact vQn gl hx (by decide) (m:=mv1) (by decide) (by decide) ckM (p:=[]) rfl (by decide) (λst=>zKf gl G T hgl (.inr rfl) hx (by decide) (by decide) (p:=[]) rfl rfl hvM sd2 (yJw (by decide)) mv1 (λ_ y st hy=>uUz gl G T y st hy) st) 3 (by kernel_rfl) st
 ·exact vQn gl hx (by decide) (m:=mv2) (by decide) (by decide) ck1 (p:=[0]) rfl (by decide) (λst=>zKf gl G T hgl (.inr rfl) hx (by decide) (by decide) (p:=[0]) rfl rfl hvQ sd3 (yJw (by decide)) mv2 (λ_ y st hy=>uUx gl G T y st hy) st) 4 (by kernel_rfl) st
 ·exact vQn gl hx (by decide) (m:=mv3) (by decide) (by decide) ck2 (p:=[0,0]) rfl (by decide) (λst=>zKf gl G T hgl (.inr rfl) hx (by decide) (by decide) (p:=[0,0]) rfl rfl hvA sd4 (yJw (by decide)) mv3 (λ_ y st hy=>kQ1 gl G T y st hy) st) 5 (by kernel_rfl) st
theorem vV2 (G:Gl gl)(T:Gt gl)(hgl:∀g x,gl g=some x->age x=x)(x:IV)(hx:IsTr sk3 x)(st:ISt) :
  ICall prog gl 15 [.raw (.int .u8 ((2:Nat):Int)),x] st (λr st'=>r=.tup [.agg z12,.raw (.int .i64 271)]/\st'=st):=by
 have hg:yJ7 sk3=[]:=rfl;refine (zK7 gl 2 sk3 sk3 x hx (by decide) 1 mv3 (by decide) (λst=>xJp gl G T hgl 2 sk3 x hx (zJp (by decide) (by decide)) (by decide) 1 mv3 (λp ps _ h=>by rw[hg] at h;cases h) (λp ps _ _ h=>by rw[hg] at h;cases h) st) 0 (λq qs _ hq=>by rw[hg] at hq;cases hq) st).mono ?_;rintro r st' ⟨⟨h0,_⟩|⟨_,_,h0⟩|⟨_,h0⟩|⟨_,h0,_⟩,h1⟩
 ·rw[ck3] at h0;exact absurd rfl h0
 ·exact⟨h0,h1⟩
 ·omega
 ·exact absurd hg h0
theorem ckS3:yXl 2 sk3=([],0):=by
 have c1:yXb 2 sk3=0:=wZe (s:=([],[mnF])) hvM rfl fmM (m:=mv1) (by rw[mvM];exact .tail _ (.head _)) rfl;have c2:yXb 2 (.mk 10 sQ qqF tmZ noN [.mk 1 sA faQ tmZ noN []])=0:=wZe (s:=([],[qqF])) hvQ rfl fmQ (m:=mv2) (by rw[mvQ];exact .head _) rfl;have c3:yXb 2 (.mk 1 sA faQ tmZ noN [])=0:=(xY9 (.inr rfl) (s:=([faQ],[faQ])) hvA (λf hf=>by rw[List.mem_singleton.1 hf];kernel_rfl) (by simp[axF])).1;have e:yXl 2 sk3=yQx (yXb 2) (sk3.walk []):=by
  unfold yXl;rw[show yJ5 2=true from rfl];simp only[Bool.not_true,bFt,if_false];rw[if_neg (by decide)]
 rw[e];refine yU8 λq hq=>?_;simp only[Tr.walk,yQn,List.append_nil,List.nil_append,List.mem_cons,List.not_mem_nil,or_false] at hq;rcases hq with rfl|rfl|rfl
 ·exact c1
 ·exact c2
 ·exact c3
theorem wKn (G:Gl gl)(T:Gt gl)(hgl:∀g x,gl g=some x->age x=x)(st:ISt):ICall prog gl 4 [] st (λr st'=>r=.raw (.bool true)/\st'=st):=by
 have hO:=zGk (xG2 sO (by decide));have hH1:=λst=>zGj gl 1 (goalT sO) _ hO 3 mv4 4 (λ_ _ _ _=>rfl) (λ_ st=>zKf gl G T hgl (.inl rfl) hO (by decide) (by decide) (p:=[]) rfl rfl awv2 aw2 (yJw (by decide)) mv4 (λ_ y st hy=>uUy gl G T y st hy) st) st;have hH2:=λst=>zGj gl 2 (goalT sO) _ hO 0 mv4 4 (λ_ h _ _=>absurd h (by decide)) (λ_ st=>zKf gl G T hgl (.inr rfl) hO (by decide) (by decide) (p:=[]) rfl rfl awv3 aw3 (yJw (by decide)) mv4 (λh=>absurd h (by decide)) st) st;have hWr:IsTr skW _:=wZd (r:=8) (ts:=⟨true,.full,12⟩) (by decide) (xG2 sM (by decide)) (xWu mnF (by decide)) (.inr rfl) ⟨_,[],rfl,zGk (xG2 sP (by decide)),rfl⟩;have hBk:=λst=>wXq gl G T hgl 2 skW _ hWr (zJp (by decide) (by decide)) (by decide) 3 (λ_=>⟨⟨0,rfl,λy st hy=>yU4 gl G T 2 sP (.inr rfl) hvP sd1 y hy (yJw (by decide)) st⟩,by decide,λy st hy=>yU4 gl G T 2 sM (.inr rfl) hvM sd2 y hy (yJw (by decide)) st⟩) st;have hUd:=λst=>wXn gl 2 skW (goalT sM) _ hWr (hCk 2 skW).2 hBk 3 (λ_=>by kernel_rfl) st;refine ICall.intro (c:=cf prog gl [] [(9,[0,1,2,3,7,4,5,6,8]),(10,[0,1,2,5,6,12,3,4,7,8,9,10,11,13])]) func4 rfl (by show _<=179;simp) (by kernel_rfl) ?_;simp only[go_sem,zE,zB,zA,zM,zS,zL,reduceCtorEq,fits,yXi]
 repeat ((first|refine (k_p gl _ _).mono ?_|refine (k_of gl _ _ _ _).mono ?_|refine (k_fs gl _ _ _).mono ?_|refine (k_sq gl _ _ _ _ _).mono ?_|refine (zK2 gl _ _ _ _ _).mono ?_|refine (zK1 gl _ _ _ _ _ _ _ _ _ _ _ _ _ _).mono ?_);rintro _ st ⟨rfl,rfl⟩;simp only[go_sem,zE,zB,zA,zM,zS,zL,reduceCtorEq,fits,yQ3,yZk,xQr,yXi,decide_true,gI])
 refine (hH1 _).mono ?_;rintro r st ⟨hr,rfl⟩;obtain⟨tg,htg,o,n,t1,x1,t2,x2,t3,x3,hm,rfl⟩:∃tg,okEs tg 1/\∃o n t1 x1 t2 x2 t3 x3,yWb mv4 (.agg [.raw (.int .u8 ((8:Nat):Int)),.raw (.int .u8 o),.raw (.string n),.sl t1 x1,.sl t2 x2,.sl t3 x3]) /\
   r=.tup [.agg [.sl tg [],.raw (.int .i64 ((3:Nat):Int)),.raw (.bool true),.raw (.int .u8 o),.raw (.string n),.sl t1 x1,.sl t2 x2,.raw (.int .u8 ((8:Nat):Int)),.sl t3 x3],.raw (.int .i64 0)]:=by
  rcases hr with⟨h,_⟩|⟨_,⟨h,_⟩|⟨_,h,_⟩|⟨_,p,ps,tg,hgs,htg,⟨h,_⟩|⟨_,o,n,t1,x1,t2,x2,t3,x3,hm,rfl⟩⟩⟩
  ·omega
  ·rw[ckO1] at h;exact absurd rfl h
  ·cases h
  ·cases h
  ·cases hgs;exact⟨tg,htg,o,n,t1,x1,t2,x2,t3,x3,hm,rfl⟩
 simp only[go_sem,zE,zB,zA,zM,zS,zL,reduceCtorEq,fits];refine (hH2 _).mono ?_;rintro r st ⟨hr,rfl⟩;obtain⟨tg2,htg2,rfl⟩:∃tg,okEs tg 1/\r=.tup [.agg (.sl tg []::advZ.tail),.raw (.int .i64 272)]:=by
  rcases hr with⟨h,_⟩|⟨_,⟨h,_⟩|⟨_,h,_⟩|⟨_,p,ps,tg,hgs,htg,⟨_,rfl⟩|⟨h,_⟩⟩⟩
  ·omega
  ·rw[ckO2] at h;exact absurd rfl h
  ·cases h
  ·cases hgs;exact⟨tg,htg,rfl⟩
  ·omega
 obtain⟨o',n',q1,z1,q2,z2,q3,z3,he,hf,e3,h3⟩:=hm;cases he;have hp1:IsSqs [⟨[],[faP,fno faP,orP]⟩] [sI ⟨[],[faP,fno faP,orP]⟩]:=⟨_,_,rfl,xG2 _ (by decide),rfl⟩
 have hSF:=λst=>yU6 gl orP orP _ _ hf (xWu orP (by decide)) st;have hSS:=λst=>xUh gl _ _ t3 ⟨true,.full,2⟩ x3 [sI ⟨[],[faP,fno faP,orP]⟩] e3 (by simp[okEs]) (wQb h3) hp1 st;simp only[go_sem,zE,zB,zA,zM,zS,zL,reduceCtorEq,fits,show advZ.tail=[.raw (.int .i64 0),.raw (.bool false),.raw (.int .u8 0),.raw (.string ⟨#[]⟩),nlS,nlS,.raw (.int .u8 0),nlS] from rfl,decide_true,show decide (((3:Nat):Int)=3)=true from rfl,show decide (((8:Nat):Int)=8)=true from rfl,show decide (((0:Nat):Int)=0)=true from rfl];refine (hSF _).mono ?_;rintro _ st ⟨rfl,rfl⟩;have hq:eqB orP orP=true:=yZ7.2 rfl;simp only[go_sem,zE,zB,zA,zM,zS,zL,reduceCtorEq,fits,hq,yQ3,yZk,xQr]
 repeat ((first|refine (k_p gl _ _).mono ?_|refine (k_of gl _ _ _ _).mono ?_|refine (k_fs gl _ _ _).mono ?_|refine (k_sq gl _ _ _ _ _).mono ?_|refine (zK2 gl _ _ _ _ _).mono ?_|refine (zK1 gl _ _ _ _ _ _ _ _ _ _ _ _ _ _).mono ?_);rintro _ st ⟨rfl,rfl⟩;simp only[go_sem,zE,zB,zA,zM,zS,zL,reduceCtorEq,fits,yQ3,yZk,xQr,yXi,decide_true,gI])
 refine (hSS _).mono ?_;rintro _ st ⟨rfl,rfl⟩;have hq2:eqB ([⟨[],[faP,fno faP,orP]⟩]:List Sq) [⟨[],[faP,fno faP,orP]⟩]=true:=yZ7.2 rfl;simp only[go_sem,zE,zB,zA,zM,zS,zL,reduceCtorEq,fits,hq2,yQ3,yZk]
 repeat ((first|refine (k_p gl _ _).mono ?_|refine (k_of gl _ _ _ _).mono ?_|refine (k_fs gl _ _ _).mono ?_|refine (k_sq gl _ _ _ _ _).mono ?_|refine (zK2 gl _ _ _ _ _).mono ?_|refine (zK1 gl _ _ _ _ _ _ _ _ _ _ _ _ _ _).mono ?_);rintro _ st ⟨rfl,rfl⟩;simp only[go_sem,zE,zB,zA,zM,zS,zL,reduceCtorEq,fits,yQ3,yZk,xQr,yXi,decide_true,gI])
 refine (hBk _).mono ?_;rintro r st ⟨hr,rfl⟩;obtain⟨tg3,htg3,rfl⟩:∃tg,okEs tg 1/\r=.tup [.sl tg [],.raw (.int .i64 0)]:=by
  rcases hr with⟨h,_⟩|⟨_,tg,h1,h2⟩
  ·rw[ckW] at h;exact absurd rfl h
  ·exact⟨tg,h1,h2⟩
 simp only[go_sem,zE,zB,zA,zM,zS,zL,reduceCtorEq,fits];refine (hUd _).mono ?_;rintro r st ⟨hr,rfl⟩;obtain⟨u,hu,rfl⟩:∃z,IsTr (goalT sM) z/\r=.tup [z,.raw (.int .i64 0)]:=by
  rcases hr with⟨h,_⟩|⟨_,h⟩
  ·rw[ckW] at h;exact absurd rfl h
  ·exact h
 have hu0:=hu;obtain⟨r1,a1,b1,a2,b2,o1,n1,a3,b3,a4,b4,v1,n2,a5,b5,n3,a6,b6,rfl⟩:=yX8 hu;have hST:=λst=>xUg gl (goalT sM) _ _ hu0 (zGk (xG2 sM (by decide))) (by decide) st;simp only[go_sem,zE,zB,zA,zM,zS,zL,reduceCtorEq,fits,decide_true,show decide (((0:Nat):Int)=0)=true from rfl,yQ3,yZk]
 repeat ((first|refine (k_p gl _ _).mono ?_|refine (k_of gl _ _ _ _).mono ?_|refine (k_fs gl _ _ _).mono ?_|refine (k_sq gl _ _ _ _ _).mono ?_|refine (zK2 gl _ _ _ _ _).mono ?_|refine (zK1 gl _ _ _ _ _ _ _ _ _ _ _ _ _ _).mono ?_);rintro _ st ⟨rfl,rfl⟩;simp only[go_sem,zE,zB,zA,zM,zS,zL,reduceCtorEq,fits,yQ3,yZk,xQr,yXi,decide_true,gI])
 refine (hST _).mono ?_;rintro _ st ⟨rfl,rfl⟩;simp only[go_sem,zE,zB,zA,zM,zS,zL,reduceCtorEq,fits];refine LoopC.ctr 3 (λk fr st' ds=>(∃c,fr 14=.box c/\IsTr (skK k) (.agg c))/\st'=st/\fr 16=.iv (.raw (.int .i64 (k:Int)))/\ds=[]) ?_ ?_ ?_
 ·simp only[go_sem,zE,zB,zA,zM,zS,zL,reduceCtorEq];exact⟨⟨_,rfl,hu0⟩,rfl⟩
 ·rintro k fr st1 _ hlk ⟨⟨c,f14,hc⟩,rfl,f16,rfl⟩;have hfo:=λst=>uWf gl G T hgl k hlk _ hc st;obtain⟨r1,a1,b1,a2,b2,o1,n1,a3,b3,a4,b4,v1,n2,a5,b5,n3,a6,b6,hce⟩:=yX8 hc;injection hce with hce;subst hce;simp only[go_sem,zE,zB,zA,zM,zS,zL,reduceCtorEq,f14,f16,fits,show decide ((k:Int)<3)=true from dEt (by omega)];refine (hfo _).mono ?_;rintro _ st1 ⟨⟨z,hz,rfl⟩,rfl⟩;have hz0:=hz;obtain⟨r2,c1,e1,c2,e2,o2,m1,c3,e3',c4,e4,v2,m2,c5,e5,m3,c6,e6,rfl⟩:=yX8 hz;simp only[go_sem,zE,zB,zA,zM,zS,zL,reduceCtorEq,f14,f16,fits,decide_true,yQd hlk (show 3<=281474976710656 by omega)];exact⟨_,rfl,hz0⟩
 ·rintro fr st1 _ ⟨⟨c,f14,hc⟩,rfl,f16,rfl⟩;have hC:=λst=>wKl gl G T 2 sk3 _ hc (zJp (by decide) (by decide)) st;have hF3:=λst=>vV2 gl G T hgl _ hc st;obtain⟨a1,b1,a2,b2,o1,n1,a3,b3,a4,b4,v1,n2,a5,b5,a6,b6,hce,_⟩:=IsTr.mk hc;injection hce with hce;subst hce;rw[ckS3] at hC;simp only[go_sem,zE,zB,zA,zM,zS,zL,reduceCtorEq,f14,f16,fits,show decide (((3:Nat):Int)<3)=false from rfl];refine (hC _).mono ?_;rintro _ st1 ⟨⟨tg,rfl,_⟩,rfl⟩;simp only[go_sem,zE,zB,zA,zM,zS,zL,reduceCtorEq,f14,fits];refine (hF3 _).mono ?_;rintro _ st1 ⟨rfl,rfl⟩;simp only[go_sem,zE,zB,zA,zM,zS,zL,reduceCtorEq,f14,fits,decide_true,show decide (((0:Nat):Int)=0)=true from rfl,show decide (((18:Nat):Int)=18)=true from rfl];exact yQ0 ⟨rfl,rfl⟩
theorem and3 (x:Int):∃a:Nat,IntKind.i64.wrap ((BitVec.ofInt 64 x &&& BitVec.ofInt 64 3).toNat:Int)=(a:Int)/\a<=3:=by
 have h:(BitVec.ofInt 64 x &&& BitVec.ofInt 64 3).toNat<=3:=by
  rw[BitVec.toNat_and];exact Nat.le_trans Nat.and_le_right (by decide)
 exact⟨_,w64 (by omega) (by omega),h⟩
theorem zUh (t:Tr)(h:okT t=true):okT (badT t)=true:=by
 simp only[badT,okT,okTs,h,Bool.and_true];decide
set_option maxHeartbeats 4000000 in
theorem xKe (G:Gl gl)(T:Gt gl)(hgl:∀g x,gl g=some x->age x=x)(ca:Nat)(t:Tr)(x:IV)(hx:IsTr t x)(hw:wTr t<=1099511627776)(lv:Int)(st:ISt) :
  ICall prog gl 3 [.raw (.int .u8 (ca:Int)),x,.raw (.int .i64 lv)] st (λr st'=>r=.raw (.bool true)/\st'=st):=by
 have hAw:=λst=>wKn gl G T hgl st;have hSm:=λst=>wY5 gl t x hx hw st;have hx0:=hx;obtain⟨rule,tl,xl,tr,xr,op,fn,ta,xa,tb,xb,v,un,tu,xu,n,ts,xs,rfl⟩:=yX8 hx;refine ICall.intro (c:=cf prog gl [] [(8,[7,8,10,0,1,2,3,4,5,6,9,11])]) func3 rfl (by show _<=184;simp) (by kernel_rfl) ?_;simp only[go_sem,zE,zB,zA,zM,zS,zL,reduceCtorEq,fits];refine (hAw _).mono ?_;rintro _ st ⟨rfl,rfl⟩;simp only[go_sem,zE,zB,zA,zM,zS,zL,reduceCtorEq,fits];refine (hSm _).mono ?_;rintro _ st ⟨rfl,rfl⟩;cases hs:(okT t&&decide (t.steps<=60))
 ·simp only[go_sem,zE,zB,zA,zM,zS,zL,reduceCtorEq,fits];exact yQ0 ⟨rfl,rfl⟩
 simp only[bAt,dTe] at hs;obtain⟨hok,hst⟩:=hs;have hbok:=zUh t hok;have hbst:(badT t).steps<=300:=by simp only[badT,Tr.steps,yQq];omega
 have hbf:=zJp hbok (by omega);have hck:=vY5 ca t (by omega);have hPb:IsSq sP (.agg [nlS,.sl ⟨true,.full,4⟩ [fmI faP]]):=xG2 sP (by decide);have hbx:IsTr (badT t) _:=wZd (r:=4) (ts:=⟨true,.full,12⟩) (by decide) hPb (xWu (fno faP) (by decide)) (.inr rfl) ⟨_,[],rfl,hx0,rfl⟩;obtain⟨w,hw0,hwn⟩:∃w:Nat,hCk ca (badT t)=([],w)/\(if ca=1\/ca=2 then 270 else 2)=w:=⟨_,hck,rfl⟩
 have hwp:w≠0:=by rw[<- hwn];split<;>decide
 have hw2:(hCk ca (badT t)).2=w:=by rw[hw0]
 have hwz:¬ (hCk ca (badT t)).2=0:=by rw[hw2];exact hwp
 have hC:=λst=>zXn gl G T ca (badT t) _ hbx hbf (by omega) st;have hLf:=λst=>vQg gl G T ca (badT t) _ hbx hbf (by omega) hwz st;have hF:=λst=>xJp gl G T hgl ca (badT t) _ hbx hbf (by omega) 0 mv4 (λ_ _ h=>absurd h hwz) (λ_ _ _ h=>absurd h hwz) st;have hH:=λlv st=>zGj gl ca (badT t) _ hbx 0 mv4 lv (λh=>absurd h hwz) (λ_=>hF) st;have hFo:=λst=>zK7 gl ca (badT t) trZ0 _ hbx (by omega) 0 mv4 (by decide) hF 0 (λ_ _ h=>absurd h (by decide)) st;have hBk:=λst=>wXq gl G T hgl ca (badT t) _ hbx hbf (by omega) 0 (λh=>absurd h hwz) st;have hUd:=λst=>wXn gl ca (badT t) trZ0 _ hbx (hCk ca (badT t)).2 hBk 0 (λh=>absurd h hwz) st;have hgo:IsTr (goalT ⟨[],[]⟩) (gI ⟨true,.nil,0⟩ [] ⟨true,.nil,0⟩ []):=zGk ⟨_,_,_,_,rfl,.inl rfl,rfl,.inl rfl,rfl⟩;have hG:=λlv (h:lv<1\/4<lv) st=>zGj gl ca (goalT ⟨[],[]⟩) _ hgo 0 mv4 lv (λ_ _ _ hn=>absurd h hn) (λhn=>absurd h hn) st;rw[hw2] at hLf hUd;rw[hw0] at hC;simp only[go_sem,zE,zB,zA,zM,zS,zL,reduceCtorEq,fits];have hbr:∀P:Prop,(ca=1->P)->(ca=2->P)->(¬ (ca=1\/ca=2)->P)->P:=λP h1 h2 h3=>by
  by_cases c1:ca=1
  ·exact h1 c1
  ·by_cases c2:ca=2
   ·exact h2 c2
   ·exact h3 (by omega)
 refine hbr _ (λhc=>?_) (λhc=>?_) (λhc=>?_)
 all_goals first
  | (have d1:decide ((ca:Int)=1)=true:=dEt (by omega)
     have dw:decide ((w:Int)=270)=true:=dEt (by rw[<- hwn,if_pos (.inl hc)];rfl);simp only[go_sem,zE,zB,zA,zM,zS,zL,reduceCtorEq,fits,d1,yXi,yQ3])
  | (have d1:decide ((ca:Int)=1)=false:=dEf (by omega)
     have d2:decide ((ca:Int)=2)=true:=dEt (by omega);have dw:decide ((w:Int)=270)=true:=dEt (by rw[<- hwn,if_pos (.inr hc)];rfl);simp only[go_sem,zE,zB,zA,zM,zS,zL,reduceCtorEq,fits,d1,d2,yXi,yQ3])
  | (have d1:decide ((ca:Int)=1)=false:=dEf (by omega)
     have d2:decide ((ca:Int)=2)=false:=dEf (by omega);have dw:decide ((w:Int)=2)=true:=dEt (by rw[<- hwn,if_neg hc];rfl);simp only[go_sem,zE,zB,zA,zM,zS,zL,reduceCtorEq,fits,d1,d2,yXi,yQ3])
 all_goals
  repeat ((first|refine (k_p gl _ _).mono ?_|refine (k_of gl _ _ _ _).mono ?_|refine (k_fs gl _ _ _).mono ?_|refine (k_sq gl _ _ _ _ _).mono ?_|refine (zK2 gl _ _ _ _ _).mono ?_|refine (zK1 gl _ _ _ _ _ _ _ _ _ _ _ _ _ _).mono ?_);rintro _ st ⟨rfl,rfl⟩;simp only[go_sem,zE,zB,zA,zM,zS,zL,reduceCtorEq,fits,yQ3,yXi,decide_true,gI])
  refine (hC _).mono ?_;rintro _ st ⟨⟨tg,rfl,htg⟩,rfl⟩;simp only[go_sem,zE,zB,zA,zM,zS,zL,reduceCtorEq,fits];refine (hLf _).mono ?_;rintro _ st ⟨rfl,rfl⟩;obtain⟨a3,ha3,hl3⟩:=and3 lv;have hw3:IntKind.i64.wrap ((1:Int)+(a3:Int))=((1+a3:Nat):Int):=by rw[w64 (by omega) (by omega)];omega
  simp only[go_sem,zE,zB,zA,zM,zS,zL,reduceCtorEq,fits,ha3,hw3];refine (hH _ _).mono ?_;rintro r st ⟨hr,rfl⟩;obtain rfl:r=.tup [.agg advZ,.raw (.int .i64 (w:Int))]:=by
   rcases hr with⟨h,_⟩|⟨_,⟨_,h⟩|⟨h,_⟩|⟨h,_⟩⟩
   ·exact absurd (show ((1+a3:Nat):Int)<1\/4<((1+a3:Nat):Int) from by rw[<- hw3,<- ha3];exact h) (by omega)
   ·rw[hw2] at h;exact h
   ·exact absurd h hwz
   ·exact absurd h hwz
  simp only[go_sem,zE,zB,zA,zM,zS,zL,reduceCtorEq,fits]
  repeat ((first|refine (k_p gl _ _).mono ?_|refine (k_of gl _ _ _ _).mono ?_|refine (k_fs gl _ _ _).mono ?_|refine (k_sq gl _ _ _ _ _).mono ?_|refine (zK2 gl _ _ _ _ _).mono ?_|refine (zK1 gl _ _ _ _ _ _ _ _ _ _ _ _ _ _).mono ?_);rintro _ st ⟨rfl,rfl⟩;simp only[go_sem,zE,zB,zA,zM,zS,zL,reduceCtorEq,fits,yQ3,yXi,decide_true,gI])
  have hmi:min lv 0<1:=by omega
  have hma:4<max lv 5:=by omega
  refine (hG (min lv 0) (.inl hmi) _).mono ?_;rintro r st ⟨hr,rfl⟩;obtain rfl:r=.tup [.agg advZ,.raw (.int .i64 2)]:=by
   rcases hr with⟨_,h⟩|⟨h,_⟩
   ·exact h
   ·exact absurd (.inl hmi) h
  simp only[go_sem,zE,zB,zA,zM,zS,zL,reduceCtorEq,fits]
  repeat ((first|refine (k_p gl _ _).mono ?_|refine (k_of gl _ _ _ _).mono ?_|refine (k_fs gl _ _ _).mono ?_|refine (k_sq gl _ _ _ _ _).mono ?_|refine (zK2 gl _ _ _ _ _).mono ?_|refine (zK1 gl _ _ _ _ _ _ _ _ _ _ _ _ _ _).mono ?_);rintro _ st ⟨rfl,rfl⟩;simp only[go_sem,zE,zB,zA,zM,zS,zL,reduceCtorEq,fits,yQ3,yXi,decide_true,gI])
  refine (hG (max lv 5) (.inr hma) _).mono ?_;rintro r st ⟨hr,rfl⟩;obtain rfl:r=.tup [.agg advZ,.raw (.int .i64 2)]:=by
   rcases hr with⟨_,h⟩|⟨h,_⟩
   ·exact h
   ·exact absurd (.inr hma) h
  simp only[go_sem,zE,zB,zA,zM,zS,zL,reduceCtorEq,fits];refine (hFo _).mono ?_;rintro r st ⟨hr,rfl⟩;obtain rfl:r=.tup [.agg z12,.raw (.int .i64 (w:Int))]:=by
   rcases hr with⟨_,h⟩|⟨h,_⟩|⟨h,_⟩|⟨h,_⟩
   ·rw[hw2] at h;exact h
   ·exact absurd h hwz
   ·exact absurd h hwz
   ·exact absurd h hwz
  simp only[go_sem,zE,zB,zA,zM,zS,zL,reduceCtorEq,fits];refine (hBk _).mono ?_;rintro r st ⟨hr,rfl⟩;obtain rfl:r=.tup [nlS,.raw (.int .i64 (w:Int))]:=by
   rcases hr with⟨_,h⟩|⟨h,_⟩
   ·rw[hw2] at h;exact h
   ·exact absurd h hwz
  simp only[go_sem,zE,zB,zA,zM,zS,zL,reduceCtorEq,fits];refine (hUd _).mono ?_;rintro r st ⟨hr,rfl⟩;obtain rfl:r=.tup [.agg z12,.raw (.int .i64 (w:Int))]:=by
   rcases hr with⟨_,h⟩|⟨h,_⟩
   ·exact h
   ·exact absurd h hwp
  have y1:IntKind.i64.wrap (((0:Nat):Int)+0)=0:=rfl;have y2:IntKind.i64.wrap ((0:Int)+((0:Nat):Int))=0:=rfl;have y3:IntKind.i64.wrap ((0:Int)+0)=0:=rfl;have y6:IntKind.u8.wrap ((0:Int)+0)=0:=rfl;have y7:IntKind.u8.wrap (((0:Nat):Int)+0)=0:=rfl;simp only[go_sem,zE,zB,zA,zM,zS,zL,reduceCtorEq,fits,show plI []=[] from rfl,dw,y1,y2,y3,decide_true,Bool.not_true,y6,y7];exact yQ0 ⟨rfl,rfl⟩
end Go.Proofs.Tryz
namespace Go.Proofs.Tryz
open Go Go.Iv Go.ChangeShapes
open Go.Proofs.YtdbmgeebmfpmpaaGreatDoor.Rows (uptoBulk uptoBulkAll)
set_option maxRecDepth 4000
theorem uSeq:prog.underlying 24=some (.struct #[⟨ "Left",22,0,false, "", "",0⟩,⟨ "Right",22,1,false, "", "",24⟩]):=by kernel_rfl
theorem vJ6:prog.underlying 32=some (.struct #[⟨ "Rule",5,0,false, "", "",0⟩,⟨ "Seq",24,1,false, "", "",8⟩,⟨ "Main",27,3,false, "", "",56⟩,⟨ "Term",29,7,false, "", "",128⟩,⟨ "Name",9,10,false, "", "",176⟩,⟨ "Sub",30,11,false, "", "",192⟩]):=by kernel_rfl
theorem vJ5:prog.underlying 30=some (.slice 32):=by kernel_rfl
theorem nSeq:prog.cellsOf 24=2:=by kernel_rfl
theorem vK8:prog.cellsOf 32=12:=by kernel_rfl
mutual
theorem xKl:∀t:Tm,wTm t<=2*xU7 t
 | .mk _ n us=>by have:=zXy us;simp only[wTm,xU7];omega
theorem zXy:∀l:List Tm,wTms l<=2*yGu l
 | []=>Nat.le_refl _
 | a::l=>by have:=xKl a;have:=zXy l;simp only[wTms,yGu];omega
end
mutual
theorem xKm:∀f:Fm,wFm f<=2*xU8 f
 | .mk _ n us sub=>by have:=zXy us;have:=yUi sub;simp only[wFm,xU8];omega
theorem yUi:∀l:List Fm,wFms l<=2*zQk l
 | []=>Nat.le_refl _
 | a::l=>by have:=xKm a;have:=yUi l;simp only[wFms,zQk];omega
end
section
variable {H:Type}{enc:TypeId×Value->H}{w:World}{spare:Nat->Bool}{held:Bool}
def RQ (d:DataW H)(s:Sq)(x:IV):Prop:=IsSq s x/\wFms s.l+wFms s.r<=2*uptoBulk d
theorem vJl (fuel:Nat)(cs:List Value)(y:DataW H×List MemPlace)(h:DataW.trod enc prog w 0 spare held fuel 24 cs=some y)(hb:uptoBulk y.1<=1048576):∃s x,VL 0 (L0 w) w cs x.cells/\RQ y.1 s x:=by
 obtain⟨ys,n,rfl,rfl,hl,hlen,hf⟩:=DataW.trod_struct uSeq h
 match ys,hlen with
 | [y0,y1],_ =>
  rw[nSeq] at hl
  match cs,hl with
  | [c0,c1],_ =>
   have h0:=hf 0 _ rfl;have h1:=hf 1 _ rfl;simp only[List.getElem?_cons_zero,List.getElem?_cons_succ] at h0 h1;simp only[List.map_cons,List.map_nil,uptoBulk,uptoBulkAll] at hb;obtain⟨v0,tg0,xs0,l0,e0,hv0,ht0,hl0,hb0⟩:=zGn h0 (by omega) (λm _=>xJk m);obtain⟨v1,tg1,xs1,l1,e1,hv1,ht1,hl1,hb1⟩:=zGn h1 (by omega) (λm _=>xJk m);cases e0;cases e1;refine⟨⟨l0,l1⟩,.agg [.sl tg0 xs0,.sl tg1 xs1],VL.cons hv0 (VL.cons hv1 VL.nil),⟨tg0,xs0,tg1,xs1,rfl,ht0,hl0,ht1,hl1⟩,?_⟩;have:=yUi l0;have:=yUi l1;simp only[List.map_cons,List.map_nil,uptoBulk,uptoBulkAll];omega
theorem xQj:∀ {us:List Tr}{xs:List IV},us.length=xs.length->(∀(i:Nat)(a:Tr)(x:IV),us[i]?=some a->xs[i]?=some x->IsTr a x)->IsTrs us xs
 | [],xs,h,_=>by simpa[IsTrs] using h.symm
 | a::us,[],h,_=>by simp at h
 | a::us,x::xs,h,hh=>⟨x,xs,rfl,hh 0 a x rfl rfl,xQj (by simpa using h) (λi b y hb hy=>hh (i+1) b y (by simpa using hb) (by simpa using hy))⟩
theorem xKj:∀ {us:List Tr}{ds:List (DataW H)},us.length=ds.length->(∀(i:Nat)(a:Tr)(d:DataW H),us[i]?=some a->ds[i]?=some d->wTr a+a.steps<=2*uptoBulk d)->wTrs us+yQq us<=2*uptoBulkAll ds
 | [],ds,h,_=>by simp[wTrs,yQq]
 | a::us,[],h,_=>by simp at h
 | a::us,x::xs,h,hh=>by
  have h1:=hh 0 a x rfl rfl;have h2:=xKj (us:=us) (ds:=xs) (by simpa using h) (λi b y hb hy=>hh (i+1) b y (by simpa using hb) (by simpa using hy));simp only[wTrs,yQq,uptoBulkAll];omega
def RR (d:DataW H)(t:Tr)(x:IV):Prop:=IsTr t x/\wTr t+t.steps<=2*uptoBulk d
theorem RR.cells {d:DataW H}{t:Tr}{x:IV}(h:RR d t x):x.cells.length=12:=by
 obtain⟨_,_,_,_,_,_,_,_,_,_,_,_,_,_,_,_,_,_,rfl⟩:=yX8 h.1;rfl
theorem wKs {fuel:Nat}{cs:List Value}{y:DataW H×List MemPlace}(h:DataW.trod enc prog w 0 spare held fuel 30 cs=some y)(hb:uptoBulk y.1<=1048576)
  (IH:∀(n:Nat),n<fuel->∀(cs:List Value) (y:DataW H×List MemPlace),DataW.trod enc prog w 0 spare held n 32 cs=some y->uptoBulk y.1<=1048576->∃t x,VL 0 (L0 w) w cs x.cells/\RR y.1 t x) :
  ∃v tg xs ts,cs=[v]/\V 0 (L0 w) w v (.sl tg xs)/\okEs tg 12/\IsTrs ts xs/\wTrs ts+yQq ts+1<=2*uptoBulk y.1:=by
 obtain⟨v,tg,xs,ts,rfl,hv,htg,hl,hc⟩:=xXp (H:=H) (P:=prog) (d:=y.1) (p:=y.2) RR vJ5 vK8 (by decide) h (λelems sp e=>by
   have:=yK9 elems sp;have:=zQ5 elems;rw[<- e] at *;omega) (λd t x h=>h.cells) (λn hn cs' z q ⟨elems,sp,he,hm⟩ hz=>by
   have:=yK9 elems sp;have:=zYt hm;rw[he] at hb;exact IH n (by omega) cs' (z,q) hz (show uptoBulk z<=1048576 by omega))
 refine⟨v,tg,xs,ts,rfl,hv,htg,?_⟩;rcases hc with⟨hd,rfl⟩|⟨elems,sp,hd,hel,hr⟩
 ·obtain rfl:ts=[]:=List.length_eq_zero_iff.1 (by simpa using hl);exact⟨rfl,by rw[hd];simp[wTrs,yQq,uptoBulk]⟩
 ·have hi:∀(i:Nat) (a:Tr),ts[i]?=some a->∃x d,xs[i]?=some x/\elems[i]?=some d/\RR d a x:=λi a ha=>by
   have hi:=(lGs ha).1;exact⟨_,_,List.getElem?_eq_getElem (by omega),List.getElem?_eq_getElem (by omega),hr i _ _ _ (List.getElem?_eq_getElem (by omega)) ha (List.getElem?_eq_getElem (by omega))⟩
  refine⟨xQj hl (λi a x ha hx=>?_),?_⟩
  ·obtain⟨x',d,h1,h2,h3⟩:=hi i a ha;rw[hx] at h1;cases h1;exact h3.1
  ·have:=xKj (us:=ts) (ds:=elems) (by omega) (λi a d ha hd'=>by
    obtain⟨x',d',h1,h2,h3⟩:=hi i a ha;rw[hd'] at h2;cases h2;exact h3.2)
   have:=yK9 elems sp;grind
theorem cs12 {cs:List Value}(h:cs.length=12):∃a b c d e f g h i j k l,cs=[a,b,c,d,e,f,g,h,i,j,k,l]:=by
 match cs,h with
 | [a,b,c,d,e,f,g,h,i,j,k,l],_=>exact⟨a,b,c,d,e,f,g,h,i,j,k,l,rfl⟩
theorem wU3:∀(fuel:Nat)(cs:List Value)(y:DataW H×List MemPlace),DataW.trod enc prog w 0 spare held fuel 32 cs=some y->uptoBulk y.1<=1048576->∃t x,VL 0 (L0 w) w cs x.cells/\RR y.1 t x:=by
 intro fuel
 induction fuel using Nat.strongRecOn with
 | ind fuel IH =>
  intro cs y h hb;obtain⟨ys,n,rfl,rfl,hl,hlen,hf⟩:=DataW.trod_struct vJ6 h
  match ys,hlen with
  | [y0,y1,y2,y3,y4,y5],_ =>
   rw[vK8] at hl;obtain⟨c0,c1,c2,c3,c4,c5,c6,c7,c8,c9,c10,c11,rfl⟩:=cs12 hl;have h0:=hf 0 _ rfl;have h1:=hf 1 _ rfl;have h2:=hf 2 _ rfl;have h3:=hf 3 _ rfl;have h4:=hf 4 _ rfl;have h5:=hf 5 _ rfl;simp only[List.getElem?_cons_zero,List.getElem?_cons_succ] at h0 h1 h2 h3 h4 h5;simp only[List.map_cons,List.map_nil,uptoBulk,uptoBulkAll] at hb;obtain⟨op,e0,rfl,hop⟩:=DataW.trod_int uU8 h0;obtain⟨s,xs,hvs,hs1,hs2⟩:=vJl n _ _ h1 (by omega);obtain⟨f,xf,hvf,hf1,hf2⟩:=xJk n _ _ h2 (by omega);obtain⟨t,xt,hvt,ht1,ht2⟩:=wQ4 n _ _ h3 (by omega);obtain⟨nm,e4,hn,hn2⟩:=wQ9 h4 (by omega);obtain⟨v,tg,xb,ts,e5,hv,htg,hts,hbk⟩:=wKs h5 (by omega) (λm hm=>IH m (by omega));cases e0;cases e4;cases e5;have hop:0<=op/\op<256:=by
    simp only[Lit.wf,IntKind.min,IntKind.max,IntKind.signed,IntKind.bits,bAt] at hop;grind
   obtain⟨k,rfl⟩:=Int.eq_ofNat_of_zero_le hop.1;obtain⟨tl,xl,tr,xr,rfl,k1,k2,k3,k4⟩:=hs1;have hf0:=hf1;have ht0:=ht1;obtain⟨o,fn,us,sub⟩:=f;obtain⟨ta,xa,tb,xb',rfl,_⟩:=hf1.mk;obtain⟨b,un,uu⟩:=t;obtain⟨tu,xu,rfl,_⟩:=ht1.mk;refine⟨.mk k s (.mk o fn us sub) (.mk b un uu) nm ts,.agg [.raw (.int .u8 k),.sl tl xl,.sl tr xr,.raw (.int .u8 o),.raw (.string fn),.sl ta xa,.sl tb xb',.raw (.bool b),.raw (.string un),.sl tu xu,.raw (.string nm),.sl tg xb],
    VL.cons (.raw _ trivial) (hvs.append (hvf.append (hvt.append (VL.cons hn (VL.cons hv VL.nil))))),?_,?_⟩
   ·simp only[IsTr];grind
   ·have:=xKm (.mk o fn us sub);have:=xKl (.mk b un uu);simp only[List.map_cons,List.map_nil,uptoBulk,uptoBulkAll,wTr,Tr.steps];omega
end
end Go.Proofs.Tryz
namespace Go.Proofs.Tryz
open Go Go.Iv Go.ChangeShapes Go.RowKit
open Go.Proofs.YtdbmgeebmfpmpaaGreatDoor
set_option maxRecDepth 8000
theorem uRow:prog.underlying 243=some (.struct #[⟨ "right",4,0,false, "", "lyceum/syntax",0⟩,⟨ "schema",4,1,false, "", "lyceum/syntax",1⟩,⟨ "name",5,2,false, "", "lyceum/syntax",2⟩,⟨ "args",3,3,false, "", "lyceum/syntax",8⟩,⟨ "subs",3,4,false, "", "lyceum/syntax",16⟩]):=by kernel_rfl
theorem uZy:prog.underlying 244=some (.array 17 243):=by kernel_rfl
theorem uInt:prog.underlying 3=some (.int .i64):=by kernel_rfl
theorem nRow:prog.cellsOf 243=5:=by kernel_rfl
theorem uVj:prog.cellsOf 244=85:=by kernel_rfl
theorem gRows:prog.globalNamed "lyceum/syntax.rows" = some 0:=by kernel_rfl
theorem gRowsT:(prog.globals[0]?).map (·.type)=some 244:=by kernel_rfl
theorem gPow:prog.globalNamed "internal/strconv.uint64pow10" = some 2:=by kernel_rfl
theorem gPowT:(prog.globals[2]?).map (·.type)=some 340:=by kernel_rfl
theorem uPow:prog.underlying 340=some (.array 20 282):=by kernel_rfl
theorem uU64:prog.underlying 282=some (.int .u64):=by kernel_rfl
theorem nPow:prog.cellsOf 340=20:=by kernel_rfl
theorem nU64:prog.cellsOf 282=1:=by kernel_rfl
section
variable {H:Type}{enc:TypeId×Value->H}{w:World}{spare:Nat->Bool}{held:Bool}
def rowD (op:Nat):DataW H:=.agg [.lit (.bool (yZ8 op)),.lit (.bool (zJh op)),.lit (.int .u8 (yX9 op)),.lit (.int .i64 (yX4 op)),.lit (.int .i64 (yX3 op))]
def rowV (op:Nat):List Value:=[.bool (yZ8 op),.bool (zJh op),.int .u8 (yX9 op),.int .i64 (yX4 op),.int .i64 (yX3 op)]
theorem wQx {fuel:Nat}{cs:List Value}{op:Nat}{p:List MemPlace}(h:DataW.trod enc prog w 0 spare held fuel 243 cs=some (rowD op,p)):cs=rowV op:=by
 obtain⟨ys,n,rfl,he,hl,hlen,hf⟩:=DataW.trod_struct uRow h
 match ys,hlen with
 | [y0,y1,y2,y3,y4],_ =>
  rw[nRow] at hl
  match cs,hl with
  | [c0,c1,c2,c3,c4],_ =>
   have h0:=hf 0 _ rfl;have h1:=hf 1 _ rfl;have h2:=hf 2 _ rfl;have h3:=hf 3 _ rfl;have h4:=hf 4 _ rfl;simp only[List.getElem?_cons_zero,List.getElem?_cons_succ] at h0 h1 h2 h3 h4;obtain⟨b0,e0,rfl⟩:=DataW.trod_bool wQ0 h0;obtain⟨b1,e1,rfl⟩:=DataW.trod_bool wQ0 h1;obtain⟨b2,e2,rfl,_⟩:=DataW.trod_int uU8 h2;obtain⟨b3,e3,rfl,_⟩:=DataW.trod_int uInt h3;obtain⟨b4,e4,rfl,_⟩:=DataW.trod_int uInt h4;cases e0;cases e1;cases e2;cases e3;cases e4;have he1:=congrArg Prod.fst he;simp only[rowD,List.map_cons,List.map_nil,DataW.agg.injEq,List.cons.injEq,DataW.lit.injEq,Lit.bool.injEq,Lit.int.injEq,true_and,and_true] at he1;obtain⟨rfl,rfl,rfl,rfl,rfl⟩:=he1;rfl
theorem wQw:(Rows.laid_lyceum_syntax_rows:DataW H)=.agg ((List.range 17).map rowD):=by rfl
theorem xG4 {fuel:Nat}{cs:List Value}{p:List MemPlace}(h:DataW.trod enc prog w 0 spare held fuel 244 cs=some (Rows.laid_lyceum_syntax_rows,p)) :
  cs.length=85/\∀op,op<17->(cs.drop (op*5)).take 5=rowV op:=by
 obtain⟨ys,n,rfl,he,hl,hlen,hf⟩:=DataW.trod_array uZy h;rw[uVj] at hl;refine⟨hl,λop hop=>?_⟩;have h1:=hf op hop;rw[nRow] at h1;have he1:=congrArg Prod.fst he;rw[wQw] at he1;simp only[DataW.agg.injEq] at he1;have h2:(ys.map (·.1))[op]?=some (rowD op):=by
  rw[<- he1,List.getElem?_map,List.getElem?_range hop];rfl
 rw[List.getElem?_map] at h2;obtain⟨y,hy,hy2⟩:=Option.map_eq_some_iff.1 h2;rw[hy] at h1;obtain⟨y1,y2⟩:=y;simp only at hy2;subst hy2;exact wQx h1
end
def gl0:Nat->Option IV
 | 0=>some (.agg rowsL)
 | 2=>some (.agg pow10L)
 | _=>none
theorem G0:Gl gl0:=⟨rfl⟩
theorem T0:Gt gl0:=⟨rfl⟩
def X0 (w:World):WS:={ w:=w,L:=L0 w,st:=λ_=>none,d:=0 }
theorem xXi {cs:List Value}(hl:cs.length=85)(h:∀op,op<17->(cs.drop (op*5)).take 5=rowV op)(i:Nat)(r:Value)(c:IV)(hr:cs[i]?=some r)(hc:rowsL[i]?=some c):c=.raw r/\zYn r:=by
 have hi:i<85:=by have:=(lGs hr).1;omega
 have hop:i / 5<17:=by omega
 have e:i=i / 5*5+i%5:=by omega
 have hm:i%5<5:=Nat.mod_lt _ (by decide);have h1:(rowV (i / 5))[i%5]?=some r:=by
  rw[<- h _ hop,List.getElem?_take,if_pos hm,List.getElem?_drop,<- e];exact hr
 have h2:(rowI (i / 5))[i%5]?=some c:=by
  rw[<- (zW0 _ hop).2,List.getElem?_take,if_pos hm,List.getElem?_drop,<- e];exact hc
 generalize i%5=k at h1 h2 hm
 match k,hm with
 | 0,_=>cases h1;cases h2;exact⟨rfl,trivial⟩
 | 1,_=>cases h1;cases h2;exact⟨rfl,trivial⟩
 | 2,_=>cases h1;cases h2;exact⟨rfl,trivial⟩
 | 3,_=>cases h1;cases h2;exact⟨rfl,trivial⟩
 | 4,_=>cases h1;cases h2;exact⟨rfl,trivial⟩
theorem uWe {W:World}(hL:laidMetH prog Rows.hintWrongUptoRow.laid W):Go.Iv.Good ⟨prog,gl0,0⟩ (X0 W):=by
 obtain⟨ps,hlv,_⟩:=(show laidMet prog _ W from hL)
 obtain⟨_,_,_,_,_,_,_,_,_,_,hlv,_⟩:=hlv;obtain⟨_,_,_,_,_,_,_,_,_,_,hlv,_⟩:=hlv;obtain⟨g1,t1,cs1,f1,p1,q1,hg1,ht1,hv1,hd1,hlv,_⟩:=hlv;obtain⟨g2,t2,cs2,f2,p2,q2,hg2,ht2,hv2,hd2,_,_⟩:=hlv;obtain rfl:=Option.some.inj (gPow.symm.trans hg1);obtain rfl:=Option.some.inj (gPowT.symm.trans ht1);obtain rfl:=Option.some.inj (gRows.symm.trans hg2);obtain rfl:=Option.some.inj (gRowsT.symm.trans ht2);have hc1:=Lib.cells_of_tab (zs:=Lib.pow10Tab) uPow uU64 nU64 nPow hd1;have hc2:=xG4 hd2;have hb:∀(n:String) (g:Nat) (cs:Array Value),prog.globalNamed n=some g->W.var? prog n=some cs->∃T f,W.heap[g]?=some (.cells cs T f):=by
  intro n g cs hn hv;unfold World.var? at hv;rw[hn,Option.bind_some] at hv;split at hv
  ·rename_i c t f hh;cases hv;exact⟨_,_,hh⟩
  ·cases hv
 obtain⟨T1,fr1,hh1⟩:=hb _ _ _ gPow hv1;obtain⟨T2,fr2,hh2⟩:=hb _ _ _ gRows hv2;have row:∀(g:Nat) (cs:Array Value) (T:TypeId) (f:Nat×Nat) (xs:List IV),W.heap[g]?=some (.cells cs T f)->cs.size=xs.length->(∀(i:Nat) (r:Value) (c:IV),cs.toList[i]?=some r->xs[i]?=some c->c=.raw r/\zYn r) →
   V 0 (L0 W) W (.pointer (some ⟨g,0,none⟩)) (.cptr (.agg xs)):=by
  intro g cs T f xs hh hl h;refine .cptr _ _ cs.toList rfl (by simpa[IV.cells] using hl) ?_ (λi r hr=>?_) (λi r c hr hc=>?_)
  ·show 0+cs.toList.length<=L0 W g;simp[L0,hh]
  ·show W.cell? ⟨g,0+i,none⟩=some r;simp only[World.cell?,hh,Nat.zero_add];simpa using hr
  ·obtain⟨rfl,hk⟩:=h i r c hr hc;exact .raw _ hk
 have hp:∀(i:Nat) (r:Value) (c:IV),cs1.toList[i]?=some r->pow10L[i]?=some c->c=.raw r/\zYn r:=by
  intro i r c hr hc;rw[hc1,List.getElem?_map] at hr;unfold pow10L at hc;rw[List.getElem?_map] at hc;obtain⟨z,hz,rfl⟩:=Option.map_eq_some_iff.1 hr;rw[hz] at hc;cases hc;exact⟨rfl,trivial⟩
 have hs1:cs1.size=pow10L.length:=by
  rw[<- Array.length_toList,hc1];simp[pow10L]
 have hs2:cs2.size=rowsL.length:=by
  rw[<- Array.length_toList,hc2.1];rfl
 refine⟨λb o h=>(by cases h),λg x hx=>?_,Nat.zero_le _,λb hb=>?_,λg x hx=>?_,λ_=>Nat.zero_le _⟩
 ·match g,hx with
  | 0,hx=>cases hx;exact row 0 cs2 T2 fr2 _ hh2 hs2 (λi r c hr hc=>xXi hc2.1 hc2.2 i r c hr hc)
  | 2,hx=>cases hx;exact row 2 cs1 T1 fr1 _ hh1 hs1 hp
 ·show L0 W b=0;unfold L0;rw[Array.getElem?_eq_none (show W.heap.size<=b from hb)]
 ·match g,hx with
  | 0,hx=>cases hx;exact⟨T2,fr2 == (0,0),by show shq W 0=_;simp[shq,hh2,hs2,IV.cells]⟩
  | 2,hx=>cases hx;exact⟨T1,fr1 == (0,0),by show shq W 2=_;simp[shq,hh1,hs1,IV.cells]⟩
theorem xZd {W:World}{X':WS}(h:Ext (X0 W) X'):Below W.heap.size W X'.w :=
 ⟨h.os,h.tape,h.output,h.size,λk hk=>(h.keep k hk rfl).1⟩
theorem vQ8:laidOutB prog=true:=by kernel_rfl
theorem yUn {H:Type}{enc:TypeId×Value->H}{W W':World}(hb:Below W.heap.size W W')(sp:Nat->Bool):∀ {ts:List TypeId} {vs:List Value} {ds:List (DataW H)} {ps:List MemPlace},
  (∀t∈ts,prog.readableRec t=true/\t<prog.types.size)->DataW.TrodAll enc prog W 0 (λ_=>true) true ts vs ds ps->(∀p∈ps,p.block<W.heap.size)->(∀p∈ps,sp p.block=true) →
  DataW.TrodAll enc prog W' 0 sp true ts vs ds ps
 | [],vs,ds,ps,_,h,_,_=>by
  obtain⟨rfl,rfl,rfl⟩:=trodAll_nil h;rfl
 | t::ts,vs,ds,ps,ht,h,hlt,hsp=>by
  obtain⟨v,vs1,d,ds1,a,b,rfl,rfl,rfl,h1,h2⟩:=trodAll_cons h;refine⟨a,b,WideElems.Trod_stays vQ8 (ht t (by simp)).1 (ht t (by simp)).2 h1 (λp hp=>hb.same (hlt p (by simp[hp]))) (λp hp=>hsp p (by simp[hp])),?_,rfl⟩;exact yUn hb sp (λt h=>ht t (by simp[h])) h2 (λp hp=>hlt p (by simp[hp])) (λp hp=>hsp p (by simp[hp]))
theorem wW5 {H:Type}{enc:TypeId×Value->H}{f:Func}{s:ChangeSpec}{fid:FuncId}{W:World}{args:Array Value}{ds gs:List (DataW H)}{before:List MemPlace}{ivs:List IV}
  (hvars:s.vars=[]) (hW:DataW.Whole enc prog f.params.toList s.vars false W args.toList ds gs before) (hfn:s.fn H (ds++gs)={ results:=[.lit (.bool true)],args:=ds })
  (hres:f.resultTypes=#[4]) (hread:∀t∈f.params.toList,prog.readableRec t=true/\t<prog.types.size) (hg:Go.Iv.Good ⟨prog,gl0,0⟩ (X0 W)) (hv:VL 0 (L0 W) W args.toList ivs)
  (hc:ICall prog gl0 fid ivs (λ_=>none) (λr st'=>r=.raw (.bool true)/\st'=λ_=>none)) :
  Calls prog fid args W λe W'=>∃v,e=.returned v/\s.post enc prog f false true false false W args v W':=by
 refine (hc 0 (X0 W) args.toList hg rfl hv).mono ?_;rintro e W' ⟨v,rfl,X',x,rfl,hg',he,hx,rfl,_⟩;obtain rfl:=V.raw_inv hx;have hb:=xZd he;refine⟨_,rfl,?_⟩;have hW':=hW;obtain⟨p,q,hA,hV,rfl,hz,_⟩:=hW;rw[hvars] at hV;have hgs:gs=[]/\q=[]:=by
  cases gs with
  | nil=>exact⟨rfl,hV⟩
  | cons _ _=>exact absurd hV (by simp[DataW.TrodVars])
 obtain⟨rfl,rfl⟩:=hgs;have hlt:∀x∈p,x.block<W.heap.size:=λx hx=>by simpa using hW'.lt x (by simpa using hx)
 have hargs:∀sp:Nat->Bool,(∀x∈p,sp x.block=true)->DataW.TrodAll enc prog X'.w 0 sp true f.params.toList args.toList (s.fn H (ds++[])).args p:=λsp hsp=>by
  rw[hfn];exact yUn hb sp hread hA hlt hsp
 have hr:∀(b:Nat) (sp:Nat->Bool) (hd:Bool),DataW.TrodAll enc prog X'.w b sp hd f.resultTypes.toList ((Value.bool true).resultList f.resultTypes.size) (s.fn H (ds++[])).results []:=λ_ _ _=>by
  rw[hfn,hres];exact trodAll_cons_mk (shut_bool wQ0 _) trodAll_mk0
 have hvs:∀sp:Nat->Bool,DataW.TrodVars enc prog X'.w sp s.vars (s.fn H (ds++[])).vars []:=λ_=>by
  rw[hvars,hfn];rfl
 have hsz:∀x∈p,(λb=>decide (b<W.heap.size)) x.block=true:=λx hx=>by simpa using hlt x hx
 refine⟨ds,[],p++[],[],p,[],hW',hr _ _ _,hargs _ hsz,hvs _,World.keptBut_mono (λx hx=>⟨hx,Or.inr (by simpa using hx)⟩) (hb.frame (·∈p++[])),λ_=>⟨ok_one hres rfl (okWide_bool_mk wQ0 _),_,_,([]++p)++[],
  ⟨[]++p,[],trodAll_append (hargs _ (λ_ _=>rfl)) (hr _ _ _),hvs _,rfl,?_,λh=>by cases h⟩,λx hx _=>by simpa using hx⟩⟩
 intro b off hp;rw[hb.frozen (p:=⟨b,off,none⟩) (hlt (.cell b off) (by simpa using hp))];exact hz b off (by simpa using hp)
theorem wKt {W:World}{base:Nat}{v:Value}{t:Tr}{x:IV}(h:Value.okWide prog W .any base 32 v)(hx:VL 0 (L0 W) W v.cells.toList x.cells)(hf:IsTr t x):V 0 (L0 W) W v x:=by
 obtain⟨cs,rfl,_⟩:=WideShapes.okWide_struct vJ6 h;obtain⟨_,_,_,_,_,_,_,_,_,_,_,_,_,_,_,_,_,_,rfl⟩:=yX8 hf;cases cs;exact hx.agg
theorem wWx {α:Prop}{W:World}{base:Nat}{v:Value}(h:Value.okWide prog W .any base 5 v)(_:α):∃b:Nat,v=.int .u8 b/\V 0 (L0 W) W (.int .u8 b) (.raw (.int .u8 b))/\b<256:=by
 simp only[Value.okWide,uU8,Cell.okWide] at h;cases v<;>simp_all [Cell.ok];rename_i k n;obtain⟨rfl,h1,h2⟩:=h;have e1:IntKind.u8.min=0:=by decide
 have e2:IntKind.u8.max=255:=by decide
 rw[e1] at h1;rw[e2] at h2;refine⟨n.toNat,?_,?_,?_⟩
 ·omega
 ·exact .raw _ trivial
 ·omega
def tab32:List Int:=[0,1,28,2,29,14,24,3,30,22,20,15,25,17,4,8,31,27,13,23,21,19,16,7,26,12,18,6,11,5,10,9]
def tab64:List Int:=[0,1,56,2,57,49,28,3,61,58,42,50,38,29,17,4,62,47,59,36,45,43,51,22,53,39,33,30,24,18,12,5,63,55,48,27,60,41,37,16,46,35,44,21,52,32,23,11,54,26,40,15,34,20,31,10,25,14,19,9,13,8,7,6]
def lay (cs:List Value):Obj->Obj
 | .cells _ t frozen=>.cells cs.toArray t frozen
 | o=>o
noncomputable def zJz (os:Os):World :=
 { World.holding prog os ⟨#[],#[],[]⟩ with heap:=((((World.holding prog os ⟨#[],#[],[]⟩).heap.modify 0 (lay ((List.range 17).flatMap rowV))).modify 2 (lay (Lib.pow10Tab.map λz=>.int .u64 z))).modify 3 (lay (tab32.map λz=>.int .u8 z))).modify 4 (lay (tab64.map λz=>.int .u8 z)) }
theorem wW6 (os:Os)(args:Array Value):laidMet prog Rows.hintWrongUptoRow.laid ((zJz os).forCall (λ_ _=>0) ⟨#[],args,[]⟩).memory :=
 laidMet_of_run' 8 (by kernel_rfl) (by kernel_rfl)
end Go.Proofs.Tryz
namespace Go.Proofs.Tryz
open Go Go.Iv
set_option maxRecDepth 4000
theorem zV3:∀l:List IV,(∀x∈l,∃v,x=.raw v)->ages l=l
 | [],_=>rfl
 | x::l,h=>by
  obtain⟨v,rfl⟩:=h x (by simp);simp only[ages,age,zV3 l λy hy=>h y (by simp[hy])]
theorem wY1:∀g x,gl0 g=some x->age x=x:=by
 intro g x hx
 match g,hx with
 | 0,hx =>
  cases hx;simp only[age];rw[zV3 _ λy hy=>?_];obtain⟨op,_,hy⟩:=List.mem_flatMap.1 hy;unfold rowI at hy;simp only[List.mem_cons,List.not_mem_nil,or_false] at hy;rcases hy with rfl|rfl|rfl|rfl|rfl<;>exact⟨_,rfl⟩
 | 2,hx =>
  cases hx;simp only[age];rw[zV3 _ λy hy=>?_];obtain⟨z,_,rfl⟩:=List.mem_map.1 hy;exact⟨_,rfl⟩
theorem vQd {W:World}{base:Nat}{v:Value}(h:Value.okWide prog W .any base 3 v):∃b:Int,v=.int .i64 b/\V 0 (L0 W) W (.int .i64 b) (.raw (.int .i64 b)):=by
 simp only[Value.okWide,uInt,Cell.okWide] at h;cases v<;>simp_all [Cell.ok];exact .raw _ trivial
