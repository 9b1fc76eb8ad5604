/- Walks: steps, height and cuts of a tree. -/
import Derived.Test.YtddfdpbibloljaaGreatDoorQD
import Derived.Shelf.SlSortCmp.NoneTotal
set_option linter.all false
open Nat renaming reduceEqDiff → zE,reduceBEq → zB,reduceAdd → zA,reduceMul → zM,reduceSub → zS,reduceLeDiff → zL
namespace Go.Proofs.Tryz
open Go Go.Iv
set_option maxRecDepth 4000
variable (gl:Nat->Option IV)
theorem xJl {p:List Nat}{k a:Nat}(h:p[k]?=some a):(plI p)[k]?=some (.raw (.int .i64 (a:Int))):=by simp[plI,List.getElem?_map,h]
theorem zY1 (p q:List Nat):plI (p++q)=plI p++plI q:=by simp[plI]
def sumN:List Nat->Nat
 | []=>0
 | a::l=>a+sumN l
theorem yUi:∀l m:List Nat,sumN (l++m)=sumN l+sumN m
 | [],m=>by simp[sumN]
 | a::l,m=>by simp only[List.cons_append,sumN,yUi l m];omega
theorem wZ0 (l:List Nat)(k:Nat):sumN (l.take k)<=sumN l:=by
 conv=>rhs;rw[<- List.take_append_drop k l]
 rw[yUi];omega
def maxN:List Nat->Nat
 | []=>0
 | a::l=>max a (maxN l)
theorem yUn:∀l m:List Nat,maxN (l++m)=max (maxN l) (maxN m)
 | [],m=>by simp[maxN]
 | a::l,m=>by simp only[List.cons_append,maxN,yUn l m];omega
theorem vKf (tg:Tag)(l:List Nat)(htg:okEs tg 1)(hs:sumN l<=4611686018427387904)(st:ISt):ICall prog gl 65 [.sl tg (plI l)] st (λr st'=>r=.raw (.int .i64 (sumN l))/\st'=st):=by
 refine iI func65 ?_;simp only[go_sem,reduceCtorEq,yVh];intro _;refine LoopC.ctr l.length (λk fr st' ds=>fr 3=.iv (.raw (.int .i64 (sumN (l.take k))))/\fr 6=.iv (.sl tg (plI l))/\fr 7=.iv (.raw (.int .i64 l.length))/\fr 8=.iv (.raw (.int .i64 k))/\st'=st/\ds=[]) ?_ ?_ ?_
 ·simp only[go_sem,zE];simp[sumN]
 ·rintro k fr st1 _ hlt ⟨f3,f6,f7,f8,rfl,rfl⟩;obtain⟨a,ha⟩:=yQ4 hlt;have h1:=wZ0 l (k+1);have h2:sumN (l.take (k+1))=sumN (l.take k)+a:=by rw[yQ7 ha,yUi];rfl
  have h3:IntKind.i64.wrap (((sumN (l.take k):Nat):Int)+(a:Int))=((sumN (l.take (k+1)):Nat):Int):=by rw[w64]<;>omega
  simp only[go_sem,zE,f3,f6,f7,f8,lt_i hlt,yQ3 htg,iNn,xJl ha,fits,h3,yQf hlt (show l.length<=281474976710656 by omega)]
 ·rintro fr st1 _ ⟨f3,f6,f7,f8,rfl,rfl⟩;rw[lTl] at f3;simp only[go_sem,zE,f3,f7,f8,yQo (nLi _)];exact yQ0 ⟨rfl,rfl⟩
theorem uWo (a b:Nat):max (a:Int) (b:Int)=((max a b:Nat):Int):=by omega
theorem kZb (tg:Tag)(l:List Nat)(htg:okEs tg 1)(hl:0<l.length)(st:ISt):ICall prog gl 79 [.sl tg (plI l)] st (λr st'=>r=.raw (.int .i64 (maxN l))/\st'=st):=by
 obtain⟨a0,ha0⟩:=yQ4 hl;have d1:decide (((l.length:Nat):Int)<1)=false:=dEf (by omega);have t1:l.take 1=[a0]:=by
  have:=yQ7 ha0;simpa using this
 refine iI func79 ?_;simp only[go_sem,reduceCtorEq,yVh];intro hlen;simp only[go_sem,reduceCtorEq,d1,yQ3 htg,Int.le_refl,Int.toNat_zero,xJl ha0,fits];refine LoopC.ctr (l.length-1) (λk fr st' ds=>fr 3=.iv (.raw (.int .i64 (maxN (l.take (k+1)))))/\fr 0=.iv (.sl tg (plI l))/\fr 4=.iv (.raw (.int .i64 ((k+1:Nat):Int)))/\st'=st/\ds=[]) ?_ ?_ ?_
 ·simp only[go_sem,zE,reduceCtorEq,t1];simp[maxN]
 ·rintro k fr st1 _ hlt ⟨f3,f0,f4,rfl,rfl⟩;obtain⟨a,ha⟩:=yQ4 (l:=l) (k:=k+1) (by omega);have h2:maxN (l.take (k+1+1))=max (maxN (l.take (k+1))) a:=by rw[yQ7 ha,yUn];simp[maxN]
  simp only[go_sem,zE,reduceCtorEq,f3,f0,f4,yVh,lt_i (show k+1<l.length by omega),yQ3 htg,iNn,xJl ha,fits,uWo,yQf (show k+1<l.length by omega) (show l.length<=281474976710656 by omega)];intro _;rw[h2]
 ·rintro fr st1 _ ⟨f3,f0,f4,rfl,rfl⟩;rw[show l.length-1+1=l.length by omega] at f3 f4;rw[lTl] at f3;simp only[go_sem,zE,reduceCtorEq,f3,f0,f4,yVh,yQo (nLi _)];intro _;exact yQ0 ⟨rfl,rfl⟩
def xXu:Tr->List Tr
 | .mk _ _ _ _ _ sub=>sub
def zG1 (g:Nat)(v:Tr->Nat):Prop:=∀(t:Tr) (l:List Nat) (x:IV) (tg:Tag) (st0 st:ISt),IsTr t x->t.steps<=1099511627776->l=(xXu t).map v->own st tg l.length 1 st0->subSt st0 st →
 ICall prog gl g [x,.sl tg (plI l)] st (λr st'=>r=.raw (.int .i64 (v t))/\subSt st0 st')
theorem zQ5:∀ {l:List Tr}{t:Tr},t∈l->t.steps<=yQj l
 | a::l,t,h=>by
  simp only[yQj];rcases List.mem_cons.1 h with rfl|h
  ·omega
  ·have:=zQ5 h;omega
theorem yXa:∀l:List Tr,l.length<=yQj l
 | []=>Nat.le_refl _
 | .mk _ _ _ _ _ s::l=>by
  have:=yXa l;simp only[List.length_cons,yQj,Tr.steps];omega
def wG3 (v:Tr->Nat)(g:Nat)(t:Tr):Prop:=∀(x:IV) (_:IsTr t x) (_:t.steps<=1099511627776) (st:ISt),ICall prog gl 63 [x,.fn (.func g) [] []] st (λr st'=>r=.raw (.int .i64 (v t))/\st'=st)
theorem wJq (v:Tr->Nat)(g:Nat)(hent:entI prog g=true)(hg:zG1 gl g v)(rule:Nat)(sq:Sq)(f:Fm)(u:Tm)(n:ByteArray)(sub:List Tr)(IH:∀a∈sub,wG3 gl v g a):wG3 gl v g (.mk rule sq f u n sub):=by
 intro x hx hs st;have hx0:=hx;obtain⟨tl,xl,tr,xr,op,fn,ta,xa,tb,xb,vb,un,tu,xu,ts,xs,rfl,hru,_,_,_,_,_,_,e3,i3⟩:=hx.mk;have hs0:=hs;simp only[Tr.steps] at hs;have hll:=yXa sub;refine iI func63 ?_;simp only[go_sem,zE,i3.len];intro _;refine LoopC.ctr sub.length (λk fr st' ds=>(∃tg',fr 5=.iv (.sl tg' (plI ((sub.take k).map v)))/\own st' tg' k 1 st/\subSt st st')/\fr 1=.iv (.fn (.func g) [] [])/\fr 2=.box [.raw (.int .u8 rule),.sl tl xl,.sl tr xr,.raw (.int .u8 op),.raw (.string fn),.sl ta xa,.sl tb xb,.raw (.bool vb),.raw (.string un),.sl tu xu,.raw (.string n),.sl ts xs] /\
  fr 9=.iv (.sl ts xs)/\fr 10=.iv (.raw (.int .i64 sub.length))/\fr 11=.iv (.raw (.int .i64 k))/\ds=[]) ?_ ?_ ?_
 ·simp only[go_sem,zE];exact⟨⟨_,rfl,.inl ⟨rfl,rfl⟩,subSt.refl _⟩,rfl⟩
 ·rintro k fr st1 _ hlt ⟨⟨tg',f5,hown,hsub⟩,f1,f2,f9,f10,f11,rfl⟩;obtain⟨a,ha⟩:=yQ4 hlt;obtain⟨z,hkz,hz⟩:=i3.get ha;have hst:=zQ5 (lMg ha);have hcall:=IH a (lMg ha) z hz (by omega) st1;obtain⟨rule',tl',xl',tr',xr',op',fn',ta',xa',tb',xb',v',un',tu',xu',n',ts',xs',rfl⟩:=yJk hz;simp only[go_sem,zE,zB,zA,zL,f1,f5,f9,f10,f11,lt_i hlt,yQ3 e3,iNn,hkz,fits];refine hcall.mono ?_;rintro _ _ ⟨rfl,rfl⟩;simp only[go_sem,zE,zA,zM,zL,fits,zKv];refine yXb hown (by rw[yVh,List.length_map,List.length_take];omega) hsub rfl (by simp[fits,IV.one]) (by simp only;omega) (by omega) λtg2 st4 hown2 hsub4 _ _=>?_;simp only[go_sem,zE,f1,f2,f9,f10,f11,yQf hlt (show sub.length<=281474976710656 by omega)];exact⟨tg2,by rw[yQ7 ha,List.map_append,zY1];rfl,hown2,hsub4⟩
 ·rintro fr st1 _ ⟨⟨tg',f5,hown,hsub⟩,f1,f2,f9,f10,f11,rfl⟩;rw[lTl] at f5;have hcall:=hg _ (sub.map v) _ tg' st st1 hx0 hs0 rfl (by rw[List.length_map];exact hown) hsub;simp only[go_sem,zE,zA,zL,f1,f2,f5,f10,f11,yQo (nLi _),hent];refine hcall.mono ?_;rintro _ st2 ⟨rfl,hsub2⟩;simp only[go_sem];exact yQa hsub2 ⟨rfl,rfl⟩
theorem xYh (v:Tr->Nat)(g:Nat)(hent:entI prog g=true)(hg:zG1 gl g v):∀(k:Nat) (t:Tr),SizeOf.sizeOf t<k->wG3 gl v g t
 | 0,t,h=>by omega
 | k+1,.mk r sq f u n sub,h=>wJq gl v g hent hg r sq f u n sub (λa ha=>xYh v g hent hg k a (by
   have:=lSm ha;simp at h;omega))
theorem wJr (v:Tr->Nat)(g:Nat)(hent:entI prog g=true)(hg:zG1 gl g v)(t:Tr):wG3 gl v g t:=xYh gl v g hent hg _ t (Nat.lt_succ_self _)
theorem zJv:∀l:List Tr,sumN (l.map Tr.steps)=yQj l
 | []=>rfl
 | a::l=>by simp only[List.map_cons,sumN,yQj,zJv l]
theorem zGc:∀l:List Tr,sumN (l.map Tr.cuts)=yJa l
 | []=>rfl
 | a::l=>by simp only[List.map_cons,sumN,yJa,zGc l]
theorem zKl:∀l:List Tr,maxN (l.map Tr.height)=yZc l
 | []=>rfl
 | a::l=>by simp only[List.map_cons,maxN,yZc,zKl l]
mutual
theorem vZx:∀t:Tr,t.cuts<=t.steps
 | .mk _ _ _ _ _ sub=>by
  have:=zZr sub;simp only[Tr.cuts,Tr.steps];split<;>omega
theorem zZr:∀l:List Tr,yJa l<=yQj l
 | []=>Nat.le_refl _
 | a::l=>by
  have:=vZx a;have:=zZr l;simp only[yJa,yQj];omega
end
mutual
theorem wJh:∀t:Tr,t.height<=t.steps
 | .mk _ _ _ _ _ sub=>by
  have:=yG8 sub;simp only[Tr.height,Tr.steps];omega
theorem yG8:∀l:List Tr,yZc l<=yQj l
 | []=>Nat.le_refl _
 | a::l=>by
  have:=wJh a;have:=yG8 l;simp only[yZc,yQj];omega
end
theorem wJs:zG1 gl 73 Tr.steps:=by
 rintro⟨rule,s,m,u,n,sub⟩ l x tg st0 st hx hs rfl hown hsub;simp only[xXu] at hown ⊢;simp only[Tr.steps] at hs;have hsum:=λst=>vKf gl tg (sub.map Tr.steps) hown.es (by rw[zJv];omega) st;have hw:IntKind.i64.wrap (1+((yQj sub:Nat):Int))=((1+yQj sub:Nat):Int):=by rw[w64]<;>omega
 rw[zJv] at hsum;obtain⟨rule',tl',xl',tr',xr',op',fn',ta',xa',tb',xb',v',un',tu',xu',n',ts',xs',rfl⟩:=yJk hx;refine iI func73 ?_;simp only[go_sem,zE,zA];refine (hsum _).mono ?_;rintro _ _ ⟨rfl,rfl⟩;simp only[go_sem,hw];exact yQ0 ⟨by simp only[Tr.steps],hsub⟩
theorem wY2:zG1 gl 64 Tr.cuts:=by
 rintro⟨rule,s,m,u,n,sub⟩ l x tg st0 st hx hs rfl hown hsub;simp only[xXu] at hown ⊢;simp only[Tr.steps] at hs;have hcs:=zZr sub;have hsum:=λst=>vKf gl tg (sub.map Tr.cuts) hown.es (by rw[zGc];omega) st;have hw:IntKind.i64.wrap (1+((yJa sub:Nat):Int))=((1+yJa sub:Nat):Int):=by rw[w64]<;>omega
 rw[zGc] at hsum;obtain⟨tl',xl',tr',xr',op',fn',ta',xa',tb',xb',v',un',tu',xu',ts',xs',rfl,_⟩:=hx.mk;refine iI func64 ?_;by_cases h:rule=17
 ·have d:decide ((rule:Int)=17)=true:=dEt (by omega);simp only[go_sem,zE,zA,d];refine (hsum _).mono ?_;rintro _ _ ⟨rfl,rfl⟩;simp only[go_sem,hw];exact yQ0 ⟨by simp only[Tr.cuts,if_pos h],hsub⟩
 ·have d:decide ((rule:Int)=17)=false:=dEf (by omega);simp only[go_sem,zE,zA,d];refine (hsum _).mono ?_;rintro _ _ ⟨rfl,rfl⟩;simp only[go_sem];exact yQ0 ⟨by simp only[Tr.cuts,if_neg h,Nat.zero_add],hsub⟩
theorem xUm:zG1 gl 78 Tr.height:=by
 rintro⟨rule,s,m,u,n,sub⟩ l x tg st0 st hx hs rfl hown hsub;simp only[xXu] at hown ⊢;simp only[Tr.steps] at hs;have hcs:=yG8 sub;have hll:=yXa sub;have hw:IntKind.i64.wrap (1+((yZc sub:Nat):Int))=((1+yZc sub:Nat):Int):=by rw[w64]<;>omega
 have hm:maxN (sub.map Tr.height++[0])=yZc sub:=by rw[yUn,zKl];simp[maxN]
 obtain⟨rule',tl',xl',tr',xr',op',fn',ta',xa',tb',xb',v',un',tu',xu',n',ts',xs',rfl⟩:=yJk hx;refine iI func78 ?_;simp only[go_sem,zE,zA,zM,zL,fits,yQ1];refine yXb hown (by rw[yVh]) hsub rfl (by simp[fits,IV.one]) (by simp only[List.length_map];omega) (by simp only[List.length_map];omega) λtg2 st4 hown2 hsub4 _ _=>?_;have hmax:=λst=>kZb gl tg2 (sub.map Tr.height++[0]) hown2.es (by simp) st;rw[hm,zY1] at hmax;simp only[go_sem,zA];refine (hmax _).mono ?_;rintro _ _ ⟨rfl,rfl⟩;simp only[go_sem,hw];exact yQ0 ⟨by simp only[Tr.height],hsub4⟩
theorem wV6 (t:Tr)(x:IV)(hx:IsTr t x)(hs:t.steps<=1099511627776)(st:ISt):ICall prog gl 30 [x] st (λr st'=>r=.raw (.int .i64 (t.steps))/\st'=st):=by
 have hf:=λst=>wJr gl Tr.steps 73 (by simp only[go_sem]) (wJs gl) t x hx hs st;obtain⟨rule',tl',xl',tr',xr',op',fn',ta',xa',tb',xb',v',un',tu',xu',n',ts',xs',rfl⟩:=yJk hx;refine iI func30 ?_;simp only[go_sem,zE,zA,zL];refine (hf _).mono ?_;rintro _ _ ⟨rfl,rfl⟩;simp only[go_sem];exact yQ0 ⟨rfl,rfl⟩
theorem xG1 (t:Tr)(x:IV)(hx:IsTr t x)(hs:t.steps<=1099511627776)(st:ISt):ICall prog gl 35 [x] st (λr st'=>r=.raw (.int .i64 (t.height))/\st'=st):=by
 have hf:=λst=>wJr gl Tr.height 78 (by simp only[go_sem]) (xUm gl) t x hx hs st;obtain⟨rule',tl',xl',tr',xr',op',fn',ta',xa',tb',xb',v',un',tu',xu',n',ts',xs',rfl⟩:=yJk hx;refine iI func35 ?_;simp only[go_sem,zE,zA,zL];refine (hf _).mono ?_;rintro _ _ ⟨rfl,rfl⟩;simp only[go_sem];exact yQ0 ⟨rfl,rfl⟩
theorem wVd (t:Tr)(x:IV)(hx:IsTr t x)(hs:t.steps<=1099511627776)(st:ISt):ICall prog gl 26 [x] st (λr st'=>r=.raw (.int .i64 (t.cuts))/\st'=st):=by
 have hf:=λst=>wJr gl Tr.cuts 64 (by simp only[go_sem]) (wY2 gl) t x hx hs st;obtain⟨rule',tl',xl',tr',xr',op',fn',ta',xa',tb',xb',v',un',tu',xu',n',ts',xs',rfl⟩:=yJk hx;refine iI func26 ?_;simp only[go_sem,zE,zA,zL];refine (hf _).mono ?_;rintro _ _ ⟨rfl,rfl⟩;simp only[go_sem];exact yQ0 ⟨rfl,rfl⟩
theorem wV4 (rd:IV)(m:Nat)(hrd:rd=.agg [.raw (.map (some m))])(t:Tr)(x:IV)(hx:IsTr t x)(hl:(xXu t).length<=1000000)(st:ISt) :
  ICall prog gl 49 [rd,x,.agg []] st (λr st'=>∃ts xs,r=.tup [.sl ts xs,.sl ⟨false,.none,0⟩ (List.replicate (xXu t).length (.agg []))]/\okEs ts 12/\IsTrs (xXu t) xs/\st'=st):=by
 subst hrd;obtain⟨rule,s,mn,u,nm,sub⟩:=t;obtain⟨tl,xl,tr,xr,op,fn,ta,xa,tb,xb,v,un,tu,xu,ts,xs,rfl,hru,e1,i1,e2,i2,hy,hz,e3,i3⟩:=hx.mk;have hc:((sub.length:Int)*0<=140737488355328)=True:=eq_true (by omega);refine ICall.intro (c:=cf prog gl [] [(1,[0,1,2,3,4,6,5,7])]) func49 rfl (by show _<=14;simp) (by kernel_rfl) ?_;simp only[go_sem,zE,zB,zA,zM,zS,zL,reduceCtorEq,fits,i3.len];have hl':sub.length<=1000000:=hl;refine yQm ⟨by omega,by simp,by omega⟩ (yQ0 ⟨ts,xs,rfl,e3,i3,rfl⟩)
theorem vQi (rd:IV)(m:Nat)(hrd:rd=.agg [.raw (.map (some m))])(rule:Nat)(s:Sq)(mn:Fm)(u:Tm)(nm:ByteArray)(sb:List Tr)(x:IV)(hx:IsTr (.mk rule s mn u nm sb) x)(sub:List Nd)(tg:Tag)(zs:List IV)(htg:okEs tg 9)(hzs:IsNds sub zs)(hsz:mn.size<=1099511627776)(st:ISt)(es:List (Value×IV))(hm:st m=some (.map (.int .u8) es))(hl:zG0 es) :
  ICall prog gl 50 [rd,x,.agg [],.sl tg zs] st (λr st'=>IsNd (.mk ⟨yKa rule,0,mn⟩ (decide (rule=1) || decide (rule=2)) 0 sub) r/\st'=st):=by
 subst hrd;obtain⟨tl,xl,tr,xr,op,fn,ta,xa,tb,xb,v,un,tu,xu,ts,xs,rfl,hru,e1,i1,e2,i2,hy,hz,e3,i3⟩:=hx.mk;have hcopy:=zZ7 gl mn _ hy hsz st;have hlk:=hl rule;have hk8:((rule:Int)=1)=(rule=1):=by simp;omega
 have hk9:((rule:Int)=2)=(rule=2):=by simp;omega
 refine ICall.intro (c:=cf prog gl [] [(1,[])] [4,5]) func50 rfl (by show _<=28;simp) (by kernel_rfl) ?_;simp only[go_sem,zE,zB,zA,zM,zS,zL,reduceCtorEq,fits];rw[yKp];refine anyS (n:=19) (Rel:=λi z=>match i with
  | 0=>z=.cptr (.raw (.map (some m)))
  | 1=>z=.raw (.map (some m))
  | 2=>z=.cptr (.raw (.int .u8 rule))
  | 3=>z=.raw (.int .u8 rule)
  | 4=>z=.raw (.bool (yKa rule))
  | 5=>z=.cptr (.agg [.raw (.int .u8 op),.raw (.string fn),.sl ta xa,.sl tb xb])
  | 6=>z=.agg [.raw (.int .u8 op),.raw (.string fn),.sl ta xa,.sl tb xb]
  | 7=>IsFm mn z
  | 8=>IsMk ⟨yKa rule,0,mn⟩ z
  | 9=>z=.cptr (.raw (.int .u8 rule))
  | 10=>z=.raw (.int .u8 rule)
  | 11=>z=.raw (.bool (decide (rule=1)))
  | 12=>z=.raw (.bool (decide (rule=1)))
  | 13=>z=if rule=1 then .raw undef else .cptr (.raw (.int .u8 rule))
  | 14=>z=if rule=1 then .raw undef else .raw (.int .u8 rule)
  | 15=>z=if rule=1 then .raw undef else .raw (.bool (decide (rule=2)))
  | 16=>z=.raw (.bool (decide (rule=1) || decide (rule=2)))
  | 17=>z=.sl tg zs
  | 18=>IsNd (.mk ⟨yKa rule,0,mn⟩ (decide (rule=1) || decide (rule=2)) 0 sub) z
  | _=>True)
  (F:=λfr=>fr 3=.iv (.sl tg zs)/\fr 4=.iv (.cptr (.agg [.raw (.map (some m))]))/\fr 5=.iv (.cptr (.agg [.raw (.int .u8 rule),.sl tl xl,.sl tr xr,.raw (.int .u8 op),.raw (.string fn),.sl ta xa,.sl tb xb,.raw (.bool v),.raw (.string un),.sl tu xu,.raw (.string nm),.sl ts xs]))/\fr 8=.box [.raw (.bool false),.raw (.int .i64 0),.raw (.int .u8 0),.raw (.string ⟨#[]⟩),.sl ⟨true,.nil,0⟩ [],.sl ⟨true,.nil,0⟩ [],.raw (.bool false),.raw (.int .i64 0),.sl ⟨true,.nil,0⟩ []]) (G:=λfr=>∃l,IsNd (.mk ⟨yKa rule,0,mn⟩ (decide (rule=1) || decide (rule=2)) 0 sub) (.agg l)/\fr 8=.box l)
  ⟨rfl,by decide,by decide,by decide,λfr d z hd ⟨h3,h4,h5,h8⟩=>⟨(xQy hd rfl).trans h3,(xQy hd rfl).trans h4,(xQy hd rfl).trans h5,(xQy hd rfl).trans h8⟩⟩ ?_ ?_ (λ_=>rfl) ⟨rfl,rfl,rfl,rfl⟩
 ·repeat' apply AllOk.cons
  ·intro ad fr K had hF hd hK hS;obtain⟨f3,f4,f5,f8⟩:=hF;simp only[go_sem,zE,zB,zA,zM,zS,zL,reduceCtorEq,yQ5,had,f3,f4,f5,f8];exact hK _ _ rfl (λh=>absurd h (by decide)) rfl
  ·intro ad fr K had hF hd hK hS;obtain⟨f3,f4,f5,f8⟩:=hF;obtain⟨_,g0,rfl⟩:=hd 0 _ rfl rfl;simp only[go_sem,zE,zB,zA,zM,zS,zL,reduceCtorEq,yQ5,had,f3,f4,f5,f8,g0];exact hK _ _ rfl (λh=>absurd h (by decide)) rfl
  ·intro ad fr K had hF hd hK hS;obtain⟨f3,f4,f5,f8⟩:=hF;simp only[go_sem,zE,zB,zA,zM,zS,zL,reduceCtorEq,yQ5,had,f3,f4,f5,f8];exact hK _ _ rfl (λh=>absurd h (by decide)) rfl
  ·intro ad fr K had hF hd hK hS;obtain⟨f3,f4,f5,f8⟩:=hF;obtain⟨_,g2,rfl⟩:=hd 2 _ rfl rfl;simp only[go_sem,zE,zB,zA,zM,zS,zL,reduceCtorEq,yQ5,had,f3,f4,f5,f8,g2];exact hK _ _ rfl (λh=>absurd h (by decide)) rfl
  ·intro ad fr K had hF hd hK hS;obtain⟨f3,f4,f5,f8⟩:=hF;obtain⟨_,g1,rfl⟩:=hd 1 _ rfl rfl;obtain⟨_,g3,rfl⟩:=hd 3 _ rfl rfl;simp only[go_sem,zE,zB,zA,zM,zS,zL,reduceCtorEq,yQ5,had,f3,f4,f5,f8,g1,g3,hm,hlk];cases hlr:yKa rule
   ·simp only[go_sem,zE,zB,zA,zM,zS,zL,reduceCtorEq];exact hK _ _ rfl (λh=>absurd h (by decide)) (by show _=IV.raw (.bool (yKa rule));rw[hlr];rfl)
   ·simp only[go_sem,zE,zB,zA,zM,zS,zL,reduceCtorEq];exact hK _ _ rfl (λh=>absurd h (by decide)) (by show _=IV.raw (.bool (yKa rule));rw[hlr];rfl)
  ·intro ad fr K had hF hd hK hS;obtain⟨f3,f4,f5,f8⟩:=hF;simp only[go_sem,zE,zB,zA,zM,zS,zL,reduceCtorEq,yQ5,had,f3,f4,f5,f8];exact hK _ _ rfl (λh=>absurd h (by decide)) rfl
  ·intro ad fr K had hF hd hK hS;obtain⟨f3,f4,f5,f8⟩:=hF;obtain⟨_,g5,rfl⟩:=hd 5 _ rfl rfl;simp only[go_sem,zE,zB,zA,zM,zS,zL,reduceCtorEq,yQ5,had,f3,f4,f5,f8,g5];exact hK _ _ rfl (λh=>absurd h (by decide)) rfl
  ·intro ad fr K had hF hd hK hS;obtain⟨f3,f4,f5,f8⟩:=hF;obtain⟨_,g6,rfl⟩:=hd 6 _ rfl rfl;simp only[go_sem,zE,zB,zA,zM,zS,zL,reduceCtorEq,yQ5,had,f3,f4,f5,f8,g6];refine hcopy.mono ?_;rintro r _ ⟨hr,rfl⟩;exact hK _ _ rfl (λh=>absurd h (by decide)) hr.1
  ·intro ad fr K had hF hd hK hS;obtain⟨f3,f4,f5,f8⟩:=hF;obtain⟨_,g4,rfl⟩:=hd 4 _ rfl rfl;obtain⟨z7,g7,k7⟩:=hd 7 _ rfl rfl;obtain k7:=k7;replace k7:IsFm mn z7:=k7;obtain⟨o2,n2,t2,x2,t3,x3,rfl⟩:=k7.agg;simp only[go_sem,zE,zB,zA,zM,zS,zL,reduceCtorEq,yQ5,had,f3,f4,f5,f8,g4,g7,fits];exact hK _ _ rfl (λh=>absurd h (by decide)) ⟨_,_,_,_,_,_,rfl,k7⟩
  ·intro ad fr K had hF hd hK hS;obtain⟨f3,f4,f5,f8⟩:=hF;simp only[go_sem,zE,zB,zA,zM,zS,zL,reduceCtorEq,yQ5,had,f3,f4,f5,f8];exact hK _ _ rfl (λh=>absurd h (by decide)) rfl
  ·intro ad fr K had hF hd hK hS;obtain⟨f3,f4,f5,f8⟩:=hF;obtain⟨_,g9,rfl⟩:=hd 9 _ rfl rfl;simp only[go_sem,zE,zB,zA,zM,zS,zL,reduceCtorEq,yQ5,had,f3,f4,f5,f8,g9];exact hK _ _ rfl (λh=>absurd h (by decide)) rfl
  ·intro ad fr K had hF hd hK hS;obtain⟨f3,f4,f5,f8⟩:=hF;obtain⟨_,g10,rfl⟩:=hd 10 _ rfl rfl;simp only[go_sem,zE,zB,zA,zM,zS,zL,reduceCtorEq,yQ5,had,f3,f4,f5,f8,g10,hk8];exact hK _ _ rfl (λh=>absurd h (by decide)) (by simp[hk8])
  ·intro ad fr K had hF hd hK hS;obtain⟨f3,f4,f5,f8⟩:=hF;obtain⟨_,g11,rfl⟩:=hd 11 _ rfl rfl;simp only[go_sem,zE,zB,zA,zM,zS,zL,reduceCtorEq,yQ5,had,f3,f4,f5,f8,g11];exact hK _ _ rfl (λh=>absurd h (by decide)) rfl
  ·intro ad fr K had hF hd hK hS;obtain⟨f3,f4,f5,f8⟩:=hF;obtain⟨_,g12,rfl⟩:=hd 12 _ rfl rfl;refine zGd rfl rfl g12 had (λhb=>?_) (λhb=>hK _ _ rfl (λh=>absurd h (by decide)) (if_pos (by simpa using hb)).symm);have hb':¬ rule=1:=by simpa using hb
   simp only[go_sem,zE,zB,zA,zM,zS,zL,reduceCtorEq,yQ5,had,f3,f4,f5,f8,g12];exact hK _ _ rfl (λh=>absurd h (by decide)) (if_neg hb').symm
  ·intro ad fr K had hF hd hK hS;obtain⟨f3,f4,f5,f8⟩:=hF;obtain⟨_,g12,rfl⟩:=hd 12 _ rfl rfl;obtain⟨_,g13,rfl⟩:=hd 13 _ rfl rfl;refine zGd rfl rfl g12 had (λhb=>?_) (λhb=>hK _ _ rfl (λh=>absurd h (by decide)) (if_pos (by simpa using hb)).symm);have hb':¬ rule=1:=by simpa using hb
   rw[if_neg hb'] at g13;simp only[go_sem,zE,zB,zA,zM,zS,zL,reduceCtorEq,yQ5,had,f3,f4,f5,f8,g12,g13];exact hK _ _ rfl (λh=>absurd h (by decide)) (if_neg hb').symm
  ·intro ad fr K had hF hd hK hS;obtain⟨f3,f4,f5,f8⟩:=hF;obtain⟨_,g12,rfl⟩:=hd 12 _ rfl rfl;obtain⟨_,g14,rfl⟩:=hd 14 _ rfl rfl;refine zGd rfl rfl g12 had (λhb=>?_) (λhb=>hK _ _ rfl (λh=>absurd h (by decide)) (if_pos (by simpa using hb)).symm);have hb':¬ rule=1:=by simpa using hb
   rw[if_neg hb'] at g14;simp only[go_sem,zE,zB,zA,zM,zS,zL,reduceCtorEq,yQ5,had,f3,f4,f5,f8,g12,g14,hk9];exact hK _ _ rfl (λh=>absurd h (by decide)) (by show _=(if rule=1 then IV.raw undef else _);rw[if_neg hb'])
  ·intro ad fr K had hF hd hK hS;obtain⟨f3,f4,f5,f8⟩:=hF;obtain⟨_,g12,rfl⟩:=hd 12 _ rfl rfl;obtain⟨_,g15,rfl⟩:=hd 15 _ rfl rfl;by_cases hb:rule=1
   ·rw[if_pos hb] at g15;simp only[go_sem,zE,zB,zA,zM,zS,zL,reduceCtorEq,yQ5,had,f3,f4,f5,f8,g12,g15,hb,decide_true];exact hK _ _ rfl (λh=>absurd h (by decide)) (by simp[hb])
   ·rw[if_neg hb] at g15;simp only[go_sem,zE,zB,zA,zM,zS,zL,reduceCtorEq,yQ5,had,f3,f4,f5,f8,g12,g15,hb,decide_false];exact hK _ _ rfl (λh=>absurd h (by decide)) (by simp[hb])
  ·intro ad fr K had hF hd hK hS;obtain⟨f3,f4,f5,f8⟩:=hF;simp only[go_sem,zE,zB,zA,zM,zS,zL,reduceCtorEq,yQ5,had,f3,f4,f5,f8];exact hK _ _ rfl (λh=>absurd h (by decide)) rfl
  ·intro ad fr K had hF hd hK hS;obtain⟨f3,f4,f5,f8⟩:=hF;obtain⟨z8,g8,k8⟩:=hd 8 _ rfl rfl;obtain⟨o2,n2,t2,x2,t3,x3,rfl,k8'⟩:=k8;obtain⟨_,g16,rfl⟩:=hd 16 _ rfl rfl;obtain⟨_,g17,rfl⟩:=hd 17 _ rfl rfl;simp only[go_sem,zE,zB,zA,zM,zS,zL,reduceCtorEq,yQ5,had,f3,f4,f5,f8,g8,g16,g17,fits];exact hK _ _ rfl (λh=>absurd h (by decide)) (by simp only[IsNd];exact⟨_,_,_,_,_,_,_,_,rfl,k8',htg,hzs⟩)
  ·intro ad fr K had hF hd hK hS;obtain⟨f3,f4,f5,f8⟩:=hF;obtain⟨z18,g18,k18⟩:=hd 18 _ rfl rfl;obtain k18:=k18;obtain⟨o2,n2,t2,x2,t3,x3,t4,x4,rfl,k18a,k18b,k18c⟩:=IsNd.mk k18;simp only[go_sem,zE,zB,zA,zM,zS,zL,reduceCtorEq,yQ5,had,f3,f4,f5,f8,g18,fits];exact hS _ rfl rfl ⟨_,by simp only[IsNd];exact⟨_,_,_,_,_,_,_,_,rfl,k18a,k18b,k18c⟩,rfl⟩ (λ_=>wGo rfl)
  ·exact trivial
 ·rintro fr ⟨l,hl,h8⟩ hall;obtain⟨o2,n2,t2,x2,t3,x3,t4,x4,hl1,k18a,k18b,k18c⟩:=IsNd.mk hl;obtain rfl:=IV.agg.inj hl1;simp only[go_sem,zE,zB,zA,zM,zS,zL,reduceCtorEq,h8];exact yQ0 ⟨hl,rfl⟩
end Go.Proofs.Tryz
namespace Go.Proofs
open Go.Shelf
namespace Tryz
open Go Go.Iv
end Tryz
end Go.Proofs
namespace Go.Proofs.Tryz
set_option maxRecDepth 4000
open Go Go.Iv Go.Sort Go.Shelf Go.RowKit
variable (gl:Nat->Option IV)
section
variable {α:Type} [Inhabited α]{enc:α->List Value}{k:Nat}
end
section
variable {α:Type} [Inhabited α]{enc:α->List Value}{k:Nat}{w:World}{b m:Nat}{dk:Array α}{os:Array Obj}
end
end Go.Proofs.Tryz
namespace Go.Proofs.Tryz
open Go Go.Iv Go.Shelf Go.RowKit
set_option maxRecDepth 4000
variable (gl:Nat->Option IV)
theorem st4 {cs l:List IV}{k n:Nat}(hl:l.length=n)(h:k*4+n<=cs.length):(yZv cs (k*4) l).length=cs.length/\(yZv cs (k*4) l).take (k*4)=cs.take (k*4)/\(yZv cs (k*4) l).take (k*4+n)=cs.take (k*4)++l/\∀i,k*4+n<=i->(yZv cs (k*4) l)[i]?=cs[i]?:=by
 have h1:(cs.take (k*4)).length=k*4:=by rw[List.length_take];omega
 have h2:(cs.take (k*4)++l).length=k*4+n:=by rw[lLa,h1,hl]
 unfold yZv;refine⟨?_,?_,List.take_left' h2,λi hi=>?_⟩
 ·rw[lLa,h2,List.length_drop,hl];omega
 ·rw[List.append_assoc,List.take_left' h1]
 ·rw[List.getElem?_append_right (by omega),h2,List.getElem?_drop,hl];congr 1;omega
end Go.Proofs.Tryz
namespace Go.Proofs.Tryz
open Go Go.Iv
set_option maxRecDepth 4000
variable (gl:Nat->Option IV)
noncomputable def xG2 (ca rule:Nat)(main:Fm)(term:Tm)(name:ByteArray):List Sq×Nat :=
 if !yK4 ca then ([],2) else match rowS ca rule with
  | none=>([],191)
  | some r=>yJ7 ca rule r main term name
theorem vXo (G:Gl gl)(T:Gt gl)(ca rule:Nat)(main:Fm)(y:IV)(hy:IsFm main y)(hm:main.size<=1000000)(term:Tm)(z:IV)(hz:IsTm term z)(ht:term.size<=1000000)(name:ByteArray)(st:ISt) :
  ICall prog gl 99 [.raw (.int .u8 ca),.raw (.int .u8 rule),y,z,.raw (.string name)] st (AdRD st (xG2 ca rule main term name)):=by
 have hA:=λr hr st=>wUf gl G T ca rule r hr main y hy hm term z hz ht name st;have hkn:=λst=>xK6 gl ca st;obtain⟨o3,n3,t3,x3,t4,x4,rfl⟩:=hy.agg;obtain⟨v,un,tz,xz,rfl⟩:=vQ3 hz;unfold xG2;refine iI func99 ?_;simp only[go_sem,zE,zA,reduceCtorEq];refine (hkn _).mono ?_;rintro _ st ⟨rfl,rfl⟩;cases hk:yK4 ca
 ·simp only[go_sem,zE];exact yQ0 ⟨_,_,rfl,.inl rfl,.inl rfl,rfl,rfl⟩
 simp only[go_sem,zA,reduceCtorEq];refine (wZp gl ca _).mono ?_;rintro _ _ ⟨b,hb,rfl,rfl⟩;cases hr:rowS ca rule with
 | none =>
  simp only[go_sem,zE,zA,zL,ISt.put_same,yY0,hr,Option.map_none,zZg];exact yQa (yQg hb) ⟨_,_,rfl,.inl rfl,.inl rfl,rfl,rfl⟩
 | some r =>
  have hcall:=hA r hr;obtain⟨rl,rr,op,asks⟩:=r;simp only[go_sem,zE,zA,zL,reduceCtorEq,ISt.put_same,yY0,hr,Option.map_some,yGt,rwI];refine (hcall _).mono ?_;rintro _ _ ⟨tg,xs,rfl,he,hap,hxs,rfl⟩;simp only[go_sem,zE];exact yQa (yQg hb) ⟨_,_,rfl,he,hap,hxs,rfl⟩
mutual
def wTm:Tm->Nat
 | .mk _ n us=>1+n.size / 20+wTms us
def wTms:List Tm->Nat
 | []=>0
 | a::l=>wTm a+wTms l
end
mutual
def wFm:Fm->Nat
 | .mk _ n us sub=>1+n.size / 20+wTms us+wFms sub
def wFms:List Fm->Nat
 | []=>0
 | a::l=>wFm a+wFms l
end
theorem yUh:∀l m:List Tm,wTms (l++m)=wTms l+wTms m
 | [],m=>by simp[wTms]
 | a::l,m=>by simp only[List.cons_append,wTms,yUh l m];omega
theorem wQf {l:List Tm}{k:Nat}{a:Tm}(h:l[k]?=some a):wTms (l.take (k+1))=wTms (l.take k)+wTm a:=by
 rw[yQ7 h,yUh];simp[wTms]
theorem wQg (l:List Tm)(k:Nat):wTms (l.take k)<=wTms l:=by
 conv=>rhs;rw[<- List.take_append_drop k l]
 rw[yUh];omega
theorem yWw:∀l m:List Fm,wFms (l++m)=wFms l+wFms m
 | [],m=>by simp[wFms]
 | a::l,m=>by simp only[List.cons_append,wFms,yWw l m];omega
theorem wQh {l:List Fm}{k:Nat}{a:Fm}(h:l[k]?=some a):wFms (l.take (k+1))=wFms (l.take k)+wFm a:=by
 rw[yQ7 h,yWw];simp[wFms]
theorem wQi (l:List Fm)(k:Nat):wFms (l.take k)<=wFms l:=by
 conv=>rhs;rw[<- List.take_append_drop k l]
 rw[yWw];omega
def Sum (w:Nat)(lim:Int)(r:IV):Prop:=∃n:Nat,r=.raw (.int .i64 n)/\n<=w/\((n:Int)<=lim->n=w)
def tC (us:List Tm):Prop:=∀(t:Tag) (xs:List IV) (_:okEs t 3) (_:IsTms us xs) (lim:Int) (_:-1<=lim/\lim<=1000) (_:wTms us<=1099511627776) (st:ISt),
 ICall prog gl 85 [.sl t xs,.raw (.int .i64 lim)] st (λr st'=>Sum (wTms us) lim r/\st'=st)
theorem xJh (us:List Tm)(IH:∀v n l,Tm.mk v n l∈us->tC gl l):tC gl us:=by
 intro t xs ht hx lim hlim hw st;refine iI func85 ?_;simp only[go_sem];refine LoopC.ctr us.length (λk fr st' ds=>(∃n:Nat,fr 5=.iv (.raw (.int .i64 n))/\n<=wTms (us.take k)/\((n:Int)<=lim->n=wTms (us.take k)))/\fr 0=.iv (.sl t xs)/\fr 1=.iv (.raw (.int .i64 lim))/\fr 6=.iv (.raw (.int .i64 k))/\st'=st/\ds=[]) ?_ ?_ ?_
 ·simp only[go_sem,zE,reduceCtorEq];exact⟨⟨0,rfl,Nat.le_refl _,λ_=>rfl⟩,rfl⟩
 ·rintro k fr st1 _ hlt ⟨⟨n,f5,hn1,hn2⟩,f0,f1,f6,rfl,rfl⟩;obtain⟨a,ha⟩:=yQ4 hlt;obtain⟨x,hkx,hxa⟩:=hx.get ha;obtain⟨v2,n2,l2⟩:=a;obtain⟨tx,cx,rfl,htx,hcx⟩:=hxa.mk;have hwt:=wQf ha;have hwl:=wQg us (k+1);have hwk:=wQg us k;simp only[wTm] at hwt;by_cases hle:(n:Int)<=lim
  ·have hnk:=hn2 hle;have hcall:=λst=>IH _ _ _ (lMg ha) tx cx htx hcx (lim-n-1) ⟨by omega,by omega⟩ (by omega) st;have hq:IntKind.i64.wrap (((n2.size:Nat):Int).tdiv 20)=((n2.size / 20:Nat):Int):=by
    have:((n2.size:Nat):Int).tdiv 20=((n2.size / 20:Nat):Int):=rfl;rw[this,w64 (by omega) (by omega)]
   have hz:¬ ((20:Int)=0):=by decide
   generalize n2.size / 20=q at hq hwt;have w1:IntKind.i64.wrap (1+((q:Nat):Int))=((1+q:Nat):Int):=by rw[w64]<;>omega
   have w2:IntKind.i64.wrap (IntKind.i64.wrap (lim-(n:Int))-1)=lim-n-1:=by rw[w64 (n:=lim-n) (by omega) (by omega),w64 (by omega) (by omega)]
   simp only[go_sem,zE,zA,reduceCtorEq,f0,f1,f5,f6,hx.len,lt_i hlt,dEt hle,yQ3 ht,iNn,hkx,fits,hq,hz,w1,w2];intro _;refine (hcall _).mono ?_;rintro _ st2 ⟨⟨m,rfl,hm1,hm2⟩,rfl⟩;have w3:IntKind.i64.wrap (((1+q:Nat):Int)+(m:Int))=((1+q+m:Nat):Int):=by rw[w64]<;>omega
   have w4:IntKind.i64.wrap ((n:Int)+((1+q+m:Nat):Int))=((n+(1+q+m):Nat):Int):=by rw[w64]<;>omega
   simp only[go_sem,zE,reduceCtorEq,f0,f1,f6,w3,w4,yQf hlt (show us.length<=281474976710656 by omega)];exact⟨n+(1+q+m),rfl,by omega,λh=>by have:=hm2 (by omega);omega⟩
  ·simp only[go_sem,zE,reduceCtorEq,f0,f1,f5,f6,hx.len,lt_i hlt,dEf hle];intro _;exact yQ0 ⟨⟨n,rfl,by omega,λh=>absurd h hle⟩,rfl⟩
 ·rintro fr st1 _ ⟨⟨n,f5,hn1,hn2⟩,f0,f1,f6,rfl,rfl⟩;rw[lTl] at hn1 hn2;simp only[go_sem,zE,reduceCtorEq,f0,f5,f6,hx.len,yQo (nLi _)];intro _;exact yQ0 ⟨⟨n,rfl,hn1,hn2⟩,rfl⟩
theorem zWy:∀(k:Nat)(us:List Tm),SizeOf.sizeOf us<k->tC gl us
 | 0,f,h=>by omega
 | k+1,us,h=>xJh gl us (λv n l ha=>zWy k l (by
   have:=lSm ha;simp at this;omega))
theorem xW5 (us:List Tm):tC gl us:=zWy gl _ us (Nat.lt_succ_self _)
def zC (us:List Fm):Prop:=∀(t:Tag) (xs:List IV) (_:okEs t 4) (_:IsFms us xs) (lim:Int) (_:-1<=lim/\lim<=1000) (_:wFms us<=1099511627776) (st:ISt),
 ICall prog gl 40 [.sl t xs,.raw (.int .i64 lim)] st (λr st'=>Sum (wFms us) lim r/\st'=st)
theorem xGu (us:List Fm)(IH:∀o n l m,Fm.mk o n l m∈us->zC gl m):zC gl us:=by
 intro t xs ht hx lim hlim hw st;refine ICall.intro (c:=cf prog gl [] [(5,[0,1,2,3,4,5,6,7,8,9,10,11,12,13,14,15,16,19,20,21,22,23,24,25,26,27,17,18,28,29,30,31])]) func40 rfl (by show _<=50;simp) (by kernel_rfl) ?_;simp only[go_sem];refine LoopC.ctr us.length (λk fr st' ds=>(∃n:Nat,fr 5=.iv (.raw (.int .i64 n))/\n<=wFms (us.take k)/\((n:Int)<=lim->n=wFms (us.take k)))/\fr 0=.iv (.sl t xs)/\fr 1=.iv (.raw (.int .i64 lim))/\fr 6=.iv (.raw (.int .i64 k))/\st'=st/\ds=[]) ?_ ?_ ?_
 ·simp only[go_sem,zE,reduceCtorEq];exact⟨⟨0,rfl,Nat.le_refl _,λ_=>rfl⟩,rfl⟩
 ·rintro k fr st1 _ hlt ⟨⟨n,f5,hn1,hn2⟩,f0,f1,f6,rfl,rfl⟩;obtain⟨a,ha⟩:=yQ4 hlt;obtain⟨x,hkx,hxa⟩:=hx.get ha;obtain⟨o2,n2,l2,m2⟩:=a;obtain⟨tx,cx,ty,cy,rfl,_,htx,hcx,hty,hcy⟩:=hxa.mk;have hwt:=wQh ha;have hwl:=wQi us (k+1);have hwk:=wQi us k;simp only[wFm] at hwt;by_cases hle:(n:Int)<=lim
  ·have hnk:=hn2 hle;have hcall:=λst=>IH _ _ _ _ (lMg ha) ty cy hty hcy (lim-n-1) ⟨by omega,by omega⟩ (by omega) st;have hterm:=λst=>xW5 gl l2 tx cx htx hcx (lim-n) ⟨by omega,by omega⟩ (by omega) st;have hq:IntKind.i64.wrap (((n2.size:Nat):Int).tdiv 20)=((n2.size / 20:Nat):Int):=by
    have:((n2.size:Nat):Int).tdiv 20=((n2.size / 20:Nat):Int):=rfl;rw[this,w64 (by omega) (by omega)]
   have hz:¬ ((20:Int)=0):=by decide
   generalize n2.size / 20=q at hq hwt;have w1:IntKind.i64.wrap (1+((q:Nat):Int))=((1+q:Nat):Int):=by rw[w64]<;>omega
   have w0:IntKind.i64.wrap (lim-(n:Int))=lim-n:=w64 (by omega) (by omega);have w2:IntKind.i64.wrap (lim-(n:Int)-1)=lim-n-1:=w64 (by omega) (by omega);simp only[go_sem,zE,zA,reduceCtorEq,f0,f1,f5,f6,hx.len,lt_i hlt,dEt hle,yQ3 ht,iNn,hkx,fits,hq,hz,w1,w0,w2];intro _;refine (hterm _).mono ?_;rintro _ st2 ⟨⟨m1,rfl,hm1,hm1'⟩,rfl⟩;have w3:IntKind.i64.wrap (((1+q:Nat):Int)+(m1:Int))=((1+q+m1:Nat):Int):=by rw[w64]<;>omega
   simp only[go_sem,zE,zA,w3];refine (hcall _).mono ?_;rintro _ st2 ⟨⟨m,rfl,hm,hm'⟩,rfl⟩;have w4:IntKind.i64.wrap (((1+q+m1:Nat):Int)+(m:Int))=((1+q+m1+m:Nat):Int):=by rw[w64]<;>omega
   have w5:IntKind.i64.wrap ((n:Int)+((1+q+m1+m:Nat):Int))=((n+(1+q+m1+m):Nat):Int):=by rw[w64]<;>omega
   simp only[go_sem,zE,reduceCtorEq,f0,f1,f6,w4,w5,yQf hlt (show us.length<=281474976710656 by omega)];exact⟨n+(1+q+m1+m),rfl,by omega,λh=>by have:=hm1' (by omega);have:=hm' (by omega);omega⟩
  ·simp only[go_sem,zE,reduceCtorEq,f0,f1,f5,f6,hx.len,lt_i hlt,dEf hle];intro _;exact yQ0 ⟨⟨n,rfl,by omega,λh=>absurd h hle⟩,rfl⟩
 ·rintro fr st1 _ ⟨⟨n,f5,hn1,hn2⟩,f0,f1,f6,rfl,rfl⟩;rw[lTl] at hn1 hn2;simp only[go_sem,zE,reduceCtorEq,f0,f5,f6,hx.len,yQo (nLi _)];intro _;exact yQ0 ⟨⟨n,rfl,hn1,hn2⟩,rfl⟩
theorem xQv:∀(k:Nat)(us:List Fm),SizeOf.sizeOf us<k->zC gl us
 | 0,f,h=>by omega
 | k+1,us,h=>xGu gl us (λo n l m ha=>xQv k m (by
   have:=lSm ha;simp at this;omega))
theorem xJi (us:List Fm):zC gl us:=xQv gl _ us (Nat.lt_succ_self _)
theorem kZc (s:Sq)(x:IV)(hx:IsSq s x)(hw:wFms s.l<=1099511627776/\wFms s.r<=1099511627776)(st:ISt):ICall prog gl 10 [x] st (λr st'=>(r=.raw (.bool (decide (wFms s.l+wFms s.r<=300))))/\st'=st):=by
 obtain⟨t1,x1,t2,x2,rfl,e1,i1,e2,i2⟩:=hx;have h1:=λst=>xJi gl s.l t1 x1 e1 i1 300 ⟨by omega,by omega⟩ hw.1 st;have h2:=λst=>xJi gl s.r t2 x2 e2 i2 300 ⟨by omega,by omega⟩ hw.2 st;refine ICall.intro (c:=cf prog gl [] [(1,[0,1,3,4,2,5,6,7,8])]) func10 rfl (by show _<=11;simp) (by kernel_rfl) ?_;simp only[go_sem,zE,zA];refine (h1 _).mono ?_;rintro _ st2 ⟨⟨n,rfl,hn1,hn2⟩,rfl⟩;simp only[go_sem,zE,zA];refine (h2 _).mono ?_;rintro _ st2 ⟨⟨m,rfl,hm1,hm2⟩,rfl⟩;have w:IntKind.i64.wrap ((n:Int)+(m:Int))=((n+m:Nat):Int):=by rw[w64]<;>omega
 have hd:decide (((n+m:Nat):Int)<=300)=decide (wFms s.l+wFms s.r<=300):=by
  rw[decide_eq_decide];constructor
  ·intro h;have:=hn2 (by omega);have:=hm2 (by omega);omega
  ·intro h;omega
 simp only[go_sem,zE,w,hd];exact yQ0 ⟨rfl,rfl⟩
mutual
def wTr:Tr->Nat
 | .mk _ s f u n sub=>wFms s.l+wFms s.r+wFm f+wTm u+n.size+wTrs sub
def wTrs:List Tr->Nat
 | []=>0
 | a::l=>wTr a+wTrs l
end
def xZ8 (s:Sq)(f:Fm)(u:Tm)(n:ByteArray):Bool:=decide (wFms s.l+wFms s.r<=300)&&!decide (300<wFm f)&&!decide (300<wTm u)&&!decide (100<n.size)
mutual
def okT:Tr->Bool
 | .mk _ s f u n sub=>xZ8 s f u n&&okTs sub
def okTs:List Tr->Bool
 | []=>true
 | a::l=>okT a&&okTs l
end
theorem yUl:∀l m:List Tr,okTs (l++m)=(okTs l&&okTs m)
 | [],m=>by simp[okTs]
 | a::l,m=>by simp only[List.cons_append,okTs,yUl l m,Bool.and_assoc]
theorem wX5 {l:List Tr}{k:Nat}{a:Tr}(h:l[k]?=some a):okTs (l.take (k+1))=(okTs (l.take k)&&okT a):=by
 rw[yQ7 h,yUl];simp[okTs]
theorem vQt (l:List Tr)(k:Nat)(h:okTs l=true):okTs (l.take k)=true:=by
 rw[<- List.take_append_drop k l,yUl,bAt] at h;exact h.1
theorem xXy {l:List Tr}{k:Nat}{a:Tr}(h:l[k]?=some a):yQj (l.take (k+1))=yQj (l.take k)+a.steps:=by
 rw[yQ7 h,yVb];simp[yQj]
theorem wZ2 (l:List Tr)(k:Nat):yQj (l.take k)<=yQj l:=by
 conv=>rhs;rw[<- List.take_append_drop k l]
 rw[yVb];omega
theorem xV8:∀ {l:List Tr}{t:Tr},t∈l->wTr t<=wTrs l
 | a::l,t,h=>by
  simp only[wTrs];rcases List.mem_cons.1 h with rfl|h
  ·omega
  ·have:=xV8 h;omega
theorem Sum.gt {w:Nat}{r:IV}(h:Sum w 300 r):∃n:Nat,r=.raw (.int .i64 n)/\decide ((300:Int)<(n:Int))=decide (300<w):=by
 obtain⟨n,rfl,h1,h2⟩:=h;refine⟨n,rfl,?_⟩;rw[decide_eq_decide];constructor
 ·intro h;omega
 ·intro h;rcases Int.lt_or_le 300 (n:Int) with hn|hn
  ·exact hn
  ·have:=h2 hn;omega
def Left (t:Tr)(left:Int)(r:Int):Prop:=-1<=r/\r<=left/\(0<=r↔okT t=true/\(t.steps:Int)<=left)/\(0<=r->r=left-t.steps)
def sC (t:Tr):Prop:=∀(x:IV) (_:IsTr t x) (left:Int) (_:0<=left/\left<=1000) (_:wTr t<=1099511627776) (st:ISt),
 ICall prog gl 52 [x,.raw (.int .i64 left)] st (λr st'=>(∃n:Int,r=.raw (.int .i64 n)/\Left t left n)/\st'=st)
theorem xGi (rule:Nat)(s:Sq)(f:Fm)(u:Tm)(n:ByteArray)(sub:List Tr)(IH:∀a∈sub,sC gl a):sC gl (.mk rule s f u n sub):=by
 intro x hx left hl hw st;obtain⟨tl,xl,tr,xr,op,fn,ta,xa,tb,xb,v,un,tu,xu,ts,xs,rfl,hru,e1,i1,e2,i2,hy,hz,e3,i3⟩:=hx.mk;simp only[wTr] at hw;have hfew:=λst=>kZc gl s _ ⟨tl,xl,tr,xr,rfl,e1,i1,e2,i2⟩ ⟨by omega,by omega⟩ st;have hsz:=λst=>xJi gl [f] ⟨true,.full,4⟩ _ (.inr rfl) ⟨_,_,rfl,hy,rfl⟩ 300 ⟨by omega,by omega⟩ (by simp only[wFms];omega) st;have htm:=λst=>xW5 gl [u] ⟨true,.full,3⟩ _ (.inr rfl) ⟨_,_,rfl,hz,rfl⟩ 300 ⟨by omega,by omega⟩ (by simp only[wTms];omega) st;have hbad:xZ8 s f u n=false->Left (.mk rule s f u n sub) left (-1):=λh=>by
  refine⟨by omega,by omega,⟨λh=>by omega,λh'=>?_⟩,λh=>by omega⟩;simp only[okT,h,Bool.false_and,bFt,false_and] at h'
 refine iI func52 ?_;simp only[go_sem,zE,zA,zL];refine (hfew _).mono ?_;rintro _ st ⟨rfl,rfl⟩;unfold xZ8 at hbad;cases q1:decide (wFms s.l+wFms s.r<=300)
 ·simp only[go_sem,zE];exact yQ0 ⟨⟨-1,rfl,hbad (by rw[q1];rfl)⟩,rfl⟩
 simp only[go_sem,zE,zA,zM,zL,fits,yQ1];refine (hsz _).mono ?_;rintro _ st ⟨hS,rfl⟩;obtain⟨m,rfl,hd⟩:=hS.gt;rw[show wFms [f]=wFm f from by simp[wFms]] at hd;cases q2:decide (300<wFm f)
 case true =>
  rw[q2] at hd;simp only[go_sem,zE,hd];exact yQ0 ⟨⟨-1,rfl,hbad (by rw[q1,q2];rfl)⟩,rfl⟩
 rw[q2] at hd;simp only[go_sem,zE,zA,zM,zL,fits,hd,yQ1];refine (htm _).mono ?_;rintro _ st ⟨hS2,rfl⟩;obtain⟨m2,rfl,hd2⟩:=hS2.gt;rw[show wTms [u]=wTm u from by simp[wTms]] at hd2;cases q3:decide (300<wTm u)
 case true =>
  rw[q3] at hd2;simp only[go_sem,zE,hd2];exact yQ0 ⟨⟨-1,rfl,hbad (by rw[q1,q2,q3];rfl)⟩,rfl⟩
 rw[q3] at hd2;have hdn:decide ((100:Int)<((n.size:Nat):Int))=decide (100<n.size):=by rw[decide_eq_decide];omega
 cases q4:decide (100<n.size)
 case true =>
  rw[q4] at hdn;simp only[go_sem,zE,hd2,hdn];intro _;exact yQ0 ⟨⟨-1,rfl,hbad (by rw[q1,q2,q3,q4];rfl)⟩,rfl⟩
 rw[q4] at hdn;have hnode:xZ8 s f u n=true:=by unfold xZ8;rw[q1,q2,q3,q4];rfl
 have wl:IntKind.i64.wrap (left-1)=left-1:=w64 (by omega) (by omega);simp only[go_sem,zE,hd2,hdn,wl];intro _;refine LoopC.ctr sub.length (λk fr st' ds=>(∃l:Int,fr 1=.iv (.raw (.int .i64 l)) /\ -1<=l/\l<=left-1/\(0<=l↔okTs (sub.take k)=true/\((yQj (sub.take k):Nat):Int)+1<=left)/\(0<=l->l=left-1-(yQj (sub.take k):Nat))) /\
  fr 2=.box [.raw (.int .u8 rule),.sl tl xl,.sl tr xr,.raw (.int .u8 op),.raw (.string fn),.sl ta xa,.sl tb xb,.raw (.bool v),.raw (.string un),.sl tu xu,.raw (.string n),.sl ts xs]/\fr 5=.iv (.raw (.int .i64 k))/\st'=st/\ds=[]) ?_ ?_ ?_
 ·simp only[go_sem,zE];exact⟨⟨left-1,rfl,by omega,by omega,⟨λh=>⟨rfl,by simp only[yQj];omega⟩,λh=>by have:=h.2;simp only[yQj] at this;omega⟩,λ_=>by simp only[yQj];omega⟩,rfl⟩
 ·rintro k fr st1 _ hlt ⟨⟨l,f1,hl1,hl2,hl3,hl4⟩,f2,f5,rfl,rfl⟩;obtain⟨a,ha⟩:=yQ4 hlt;obtain⟨z,hkz,hzz⟩:=i3.get ha;have hoks:=wX5 ha;have hst:=xXy ha;by_cases hle:(0:Int)<=l
  ·have hcall:=λst=>IH a (lMg ha) z hzz l ⟨hle,by omega⟩ (by have:=xV8 (lMg ha);omega) st;obtain⟨rule',tl',xl',tr',xr',op',fn',ta',xa',tb',xb',v',un',tu',xu',n',ts',xs',rfl⟩:=yJk hzz;simp only[go_sem,zE,zB,zA,f1,f2,f5,i3.len,lt_i hlt,dEt hle,yQ3 e3,iNn,hkz,fits];intro _;refine (hcall _).mono ?_;rintro _ st2 ⟨⟨r,rfl,hr1,hr2,hr3,hr4⟩,rfl⟩;simp only[go_sem,zE,f2,f5,yQf hlt (show sub.length<=281474976710656 by omega)];have g3:=hl3.1 hle;have g4:=hl4 hle;refine⟨r,rfl,hr1,by omega,?_,λh=>by have:=hr4 h;rw[hst];omega⟩;rw[hoks,hst,g3.1,Bool.true_and];constructor
   ·intro h;have:=hr3.1 h;exact⟨this.1,by omega⟩
   ·intro h;exact hr3.2 ⟨h.1,by have:=h.2;omega⟩
  ·simp only[go_sem,zE,f1,f2,f5,i3.len,lt_i hlt,dEf hle];intro _;refine yQ0 ⟨⟨l,rfl,hl1,by omega,⟨λh=>absurd h hle,λh=>?_⟩,λh=>absurd h hle⟩,rfl⟩;have h1:=h.1;have h2:=h.2;simp only[okT,hnode,Bool.true_and] at h1;simp only[Tr.steps] at h2;have h3:=wZ2 sub k;exact absurd (hl3.2 ⟨vQt sub k h1,by omega⟩) hle
 ·rintro fr st1 _ ⟨⟨l,f1,hl1,hl2,hl3,hl4⟩,f2,f5,rfl,rfl⟩;rw[lTl] at hl3 hl4;simp only[go_sem,zE,f1,f2,f5,i3.len,yQo (nLi _)];intro _;refine yQ0 ⟨⟨l,rfl,hl1,by omega,?_,λh=>by have:=hl4 h;simp only[Tr.steps];omega⟩,rfl⟩;simp only[okT,hnode,Bool.true_and,Tr.steps];constructor
  ·intro h;have:=hl3.1 h;exact⟨this.1,by omega⟩
  ·intro h;exact hl3.2 ⟨h.1,by have:=h.2;omega⟩
theorem xQg:∀(k:Nat)(t:Tr),SizeOf.sizeOf t<k->sC gl t
 | 0,t,h=>by omega
 | k+1,.mk r sq f u n sub,h=>xGi gl r sq f u n sub (λa ha=>xQg k a (by
   have:=lSm ha;simp at h;omega))
theorem wWe (t:Tr):sC gl t:=xQg gl _ t (Nat.lt_succ_self _)
theorem wYx (t:Tr)(x:IV)(hx:IsTr t x)(hw:wTr t<=1099511627776)(st:ISt):ICall prog gl 15 [x] st (λr st'=>r=.raw (.bool (okT t&&decide (t.steps<=60)))/\st'=st):=by
 have hs:=λst=>wWe gl t x hx 60 ⟨by omega,by omega⟩ hw st;obtain⟨rule',tl',xl',tr',xr',op',fn',ta',xa',tb',xb',v',un',tu',xu',n',ts',xs',rfl⟩:=yJk hx;refine iI func15 ?_;simp only[go_sem,zE,zA,zL];refine (hs _).mono ?_;rintro _ st ⟨⟨r,rfl,h1,h2,h3,h4⟩,rfl⟩;have hd:decide ((0:Int)<=r)=(okT t&&decide (t.steps<=60)):=by
  rw[Bool.eq_iff_iff,dTe,h3,bAt,dTe];constructor<;>intro h<;>exact⟨h.1,by have:=h.2;omega⟩
 simp only[go_sem,hd];exact yQ0 ⟨rfl,rfl⟩
end Go.Proofs.Tryz
namespace Go.Proofs.Tryz
open Go Go.Iv
mutual
theorem xVu:∀t:Tm,t.size<=wTm t
 | .mk _ n us=>by have:=zK1 us;simp only[wTm,Tm.size];omega
theorem zK1:∀l:List Tm,yQh l<=wTms l
 | []=>Nat.le_refl _
 | a::l=>by have:=xVu a;have:=zK1 l;simp only[wTms,yQh];omega
end
mutual
theorem zGk:∀f:Fm,f.size<=wFm f
 | .mk _ n us sub=>by have:=zK1 us;have:=yZt sub;simp only[wFm,Fm.size];omega
theorem yZt:∀l:List Fm,yQ9 l<=wFms l
 | []=>Nat.le_refl _
 | a::l=>by have:=zGk a;have:=yZt l;simp only[wFms,yQ9];omega
end
theorem yV8 {s:Sq}{f:Fm}{u:Tm}{n:ByteArray}(h:xZ8 s f u n=true):wFms s.l+wFms s.r<=300/\wFm f<=300/\wTm u<=300/\n.size<=100:=by
 unfold xZ8 at h;grind
theorem zJ9 {s:Sq}(h:wFms s.l+wFms s.r<=300):yGd s:=by
 have:=yZt s.l;have:=yZt s.r;exact⟨λf hf=>by have:=yXh hf;omega,λf hf=>by have:=yXh hf;omega⟩
theorem zXy:∀ {l:List Tr}{a:Tr},okTs l=true->a∈l->okT a=true
 | b::l,a,h,ha=>by
  simp only[okTs,bAt] at h;rcases List.mem_cons.1 ha with rfl|ha
  ·exact h.1
  ·exact zXy h.2 ha
theorem xWj:∀ {t:Tr},okT t=true->xWm t
 | .mk rule s m u n sub,h=>by
  simp only[okT,bAt] at h;obtain⟨h1,h2,h3,_⟩:=yV8 h.1;have:=zGk m;have:=xVu u;refine⟨zJ9 h1,by omega,by omega,λa ha=>?_⟩;have:=zXy h.2 ha;obtain⟨rule',s',m',u',n',sub'⟩:=a;simp only[okT,bAt] at this;exact zJ9 (yV8 this.1).1
mutual
theorem xWi:∀(p:List Nat)(t:Tr),okT t=true->∀q∈t.walk p,okT q.2=true
 | p,.mk rule s m u n sub,h,q,hq=>by
  simp only[Tr.walk,List.mem_cons] at hq;rcases hq with rfl|hq
  ·exact h
  ·simp only[okT,bAt] at h;exact xZ4 p 0 sub h.2 q hq
theorem xZ4:∀(p:List Nat)(i:Nat)(l:List Tr),okTs l=true->∀q∈yZj p i l,okT q.2=true
 | _,_,[],_,q,hq=>by cases hq
 | p,i,a::l,h,q,hq=>by
  simp only[okTs,bAt] at h;simp only[yZj,List.mem_append] at hq;rcases hq with hq|hq
  ·exact xWi _ a h.1 q hq
  ·exact xZ4 p (i+1) l h.2 q hq
end
theorem xJr {t:Tr}(h:okT t=true)(hs:t.steps<=1099511627776):vZp t:=⟨λq hq=>xWj (xWi [] t h q hq),Nat.le_trans t.height_le_steps hs⟩
end Go.Proofs.Tryz
namespace Go.Proofs.Tryz
open Go Go.Iv
end Go.Proofs.Tryz
namespace Go.Proofs.Tryz
open Go Go.Iv
mutual
def NA:Tr->Prop
 | .mk _ s m u _ sub=>yGd s/\m.size<=1000000/\u.size<=1000000/\NAs sub
def NAs:List Tr->Prop
 | []=>True
 | a::l=>NA a/\NAs l
end
theorem wYy:∀ {t:Tr},NA t->yGd t.sq
 | .mk _ _ _ _ _ _,h=>by simp only[NA] at h;exact h.1
theorem xV1:∀ {l:List Tr}{a:Tr},NAs l->a∈l->NA a
 | b::l,a,h,ha=>by
  simp only[NAs] at h;rcases List.mem_cons.1 ha with rfl|ha
  ·exact h.1
  ·exact xV1 h.2 ha
theorem vXh:∀ {t:Tr},NA t->xWm t
 | .mk _ _ _ _ _ _,h=>by
  simp only[NA] at h;exact⟨h.1,h.2.1,h.2.2.1,λa ha=>wYy (xV1 h.2.2.2 ha)⟩
mutual
theorem wVa:∀(p:List Nat)(t:Tr),NA t->∀q∈t.walk p,NA q.2
 | p,.mk rule s m u n sub,h,q,hq=>by
  simp only[Tr.walk,List.mem_cons] at hq;rcases hq with rfl|hq
  ·exact h
  ·simp only[NA] at h;exact xG0 p 0 sub h.2.2.2 q hq
theorem xG0:∀(p:List Nat)(i:Nat)(l:List Tr),NAs l->∀q∈yZj p i l,NA q.2
 | _,_,[],_,q,hq=>by cases hq
 | p,i,a::l,h,q,hq=>by
  simp only[NAs] at h;simp only[yZj,List.mem_append] at hq;rcases hq with hq|hq
  ·exact wVa _ a h.1 q hq
  ·exact xG0 p (i+1) l h.2 q hq
end
theorem wUh {t:Tr}(h:NA t)(hs:t.steps<=1099511627776):vZp t:=⟨λq hq=>vXh (wVa [] t h q hq),Nat.le_trans t.height_le_steps hs⟩
mutual
theorem xZ5:∀ {t:Tr},okT t=true->NA t
 | .mk _ s m u n sub,h=>by
  have hn:=xWj h;simp only[okT,bAt] at h;exact⟨hn.1,hn.2.1,hn.2.2.1,xWh h.2⟩
theorem xWh:∀ {l:List Tr},okTs l=true->NAs l
 | [],_=>trivial
 | a::l,h=>by
  simp only[okTs,bAt] at h;exact⟨xZ5 h.1,xWh h.2⟩
end
end Go.Proofs.Tryz
namespace Go.Proofs.Tryz
open Go Go.Iv
set_option maxRecDepth 4000
variable (gl:Nat->Option IV)
mutual
theorem IsNd.aged:∀ {n:Nd}{x:IV},IsNd n x->IsNd n (age x)
 | .mk m c w sub,x,h=>by
  obtain⟨o,n,t,xs,t',ys,ts,zs,rfl,h1,h2,h3⟩:=h.mk;have:=h1.aged;simp only[age,ages,IsNd] at this ⊢;exact⟨_,_,_,_,_,_,_,_,rfl,this,yJq h2,IsNds.aged h3⟩
theorem IsNds.aged:∀ {l:List Nd}{xs:List IV},IsNds l xs->IsNds l (ages xs)
 | [],_,h=>by simp only[IsNds] at h;subst h;simp only[ages,IsNds]
 | a::l,_,h=>by
  simp only[IsNds] at h;obtain⟨y,ys,rfl,hy,h⟩:=h;simp only[ages,IsNds];exact⟨_,_,rfl,IsNd.aged hy,IsNds.aged h⟩
end
theorem yUj {cs new:List IV}{k n s:Nat}(hl:cs.length=n*s)(hk:k<n)(hn:new.length=s) :
  (cs.take (k*s)++new++cs.drop (k*s+s)).length=n*s/\(cs.take (k*s)++new++cs.drop (k*s+s)).take ((k+1)*s)=cs.take (k*s)++new:=by
 have h1:(k+1)*s<=n*s:=Nat.mul_le_mul_right _ hk;rw[Nat.add_mul,Nat.one_mul] at h1 ⊢;have h2:(cs.take (k*s)++new).length=k*s+s:=by rw[lLa,List.length_take,hn,Nat.min_eq_left (by omega)]
 refine⟨?_,?_⟩
 ·rw[lLa,h2,List.length_drop];omega
 ·rw[List.take_append_of_le_length (by omega),List.take_of_length_le (by omega)]
theorem xQx {st:ISt}{b:Nat}{o:IObj}(h:st b=none):(st.put b (some o)).put b none=st:=by
 funext c;simp only[ISt.put_apply];split
 ·subst_vars;exact h.symm
 ·rfl
theorem xZa:∀ {l:List Nd}{xs:List IV},IsNds l xs->∀x∈xs,x.cells.length=9
 | [],_,h,x,hx=>by simp only[IsNds] at h;subst h;cases hx
 | a::l,_,h,x,hx=>by
  simp only[IsNds] at h;obtain⟨y,ys,rfl,hy,h⟩:=h;rcases List.mem_cons.1 hx with rfl|hx
  ·obtain⟨v1,w1,o1,n1,t1,y1,t2,y2,c1,w2,t3,y3,rfl⟩:=yY6 hy;rfl
  ·exact xZa h x hx
theorem zYa:∀l m:List Tr,yUb (l++m)=yUb l++yUb m
 | [],m=>rfl
 | a::l,m=>by simp only[List.cons_append,yUb,zYa l m]
def ndZ:List IV:=[.raw (.bool false),.raw (.int .i64 0),.raw (.int .u8 0),.raw (.string ⟨#[]⟩),.sl ⟨true,.nil,0⟩ [],.sl ⟨true,.nil,0⟩ [],.raw (.bool false),.raw (.int .i64 0),.sl ⟨true,.nil,0⟩ []]
def wYu (t:Tr):Prop:=∀(x:IV) (_:IsTr t x) (_:t.steps<=1000000) (_:NA t) (st:ISt) (m:Nat) (es:List (Value×IV)) (_:st m=some (.map (.int .u8) es)) (_:zG0 es),
 ICall prog gl 48 [x,.agg [],.fn (.func 49) [.agg [.raw (.map (some m))]] [],.fn (.func 50) [.agg [.raw (.map (some m))]] []] st
  (λr st'=>IsNd (xGx t) r/\st'=st)
theorem xG5 (rule:Nat)(s:Sq)(mn:Fm)(u:Tm)(nm:ByteArray)(sub:List Tr)(IH:∀a∈sub,wYu gl a):wYu gl (.mk rule s mn u nm sub):=by
 intro x hx hst hw st m es hm hl;obtain⟨tl,xl,tr,xr,op,fn,ta,xa,tb,xb,v,un,tu,xu,ts,xs,rfl,hru,e1,i1,e2,i2,hy,hz,e3,i3⟩:=hx.mk;refine ICall.intro (c:=cf prog gl [23] []) func48 rfl (by show _<=48;simp) (by kernel_rfl) ?_;simp only[go_sem,zE,zB,zA,zM,zS,zL,reduceCtorEq,fits];refine (wV4 gl _ m rfl _ _ hx (by show sub.length<=_;simp only[Tr.steps] at hst;have:=yXa sub;omega) _).mono ?_;rintro _ st ⟨ts',xs',rfl,e3',i3',rfl⟩;have hln:=i3'.len;have hls:sub.length<=1000000:=by rw[Tr.steps] at hst;have:=yXa sub;omega
 change xs'.length=sub.length at hln;simp only[go_sem,zE,zB,zA,zM,zS,zL,reduceCtorEq,fits];intro _;refine yQm ⟨by omega,by omega,by omega⟩ λg=>yQc λhg=>?_;have hgm:g≠m:=λh=>by rw[h,hm] at hg;cases hg
 intro _;refine LoopC.ctr sub.length (λk fr st' ds=>(∃cs zs,st'=st.put g (some (.box cs))/\cs.length=sub.length*9/\cs.take (k*9)=zs.flatMap IV.cells/\IsNds (yUb (sub.take k)) zs) /\
  fr 2=.iv (.fn (.func 49) [.agg [.raw (.map (some m))]] [])/\fr 3=.iv (.fn (.func 50) [.agg [.raw (.map (some m))]] [])/\fr 4=.box [.raw (.int .u8 rule),.sl tl xl,.sl tr xr,.raw (.int .u8 op),.raw (.string fn),.sl ta xa,.sl tb xb,.raw (.bool v),.raw (.string un),.sl tu xu,.raw (.string nm),.sl ts xs]/\fr 5=.box []/\fr 8=.box ndZ /\
  fr 10=.iv (.sl ⟨false,.none,0⟩ (List.replicate sub.length (.agg [])))/\fr 11=.iv (.raw (.slice (some ⟨g,0,none⟩) sub.length sub.length))/\fr 24=.iv (.sl ts' xs')/\fr 25=.iv (.raw (.int .i64 sub.length))/\fr 26=.iv (.raw (.int .i64 k))/\ds=[]) ?_ ?_ ?_
 ·simp only[go_sem,zE,zB,zA,zM,zS,zL,reduceCtorEq,hln];exact⟨⟨_,[],rfl,by simp,rfl,rfl⟩,rfl,rfl,rfl⟩
 ·rintro k fr _ _ hlt ⟨⟨cs,zs,rfl,hcl,hct,hzs⟩,f2,f3,f4,f5,f8,f10,f11,f24,f25,f26,rfl⟩;obtain⟨a,ha⟩:=yQ4 hlt;obtain⟨z,hkz,hz⟩:=i3'.get ha;have ham:=lMg ha;have hsta:=zQ5 ham;simp only[Tr.steps] at hst;simp only[NA] at hw;have hcall:=λst1 hm=>IH a ham z hz (by omega) (xV1 hw.2.2.2 ham) st1 m es hm hl;have hrep:(List.replicate sub.length (IV.agg []))[k]?=some (.agg []):=by rw[List.getElem?_replicate,if_pos hlt]
  obtain⟨rule',tl',xl',tr',xr',op',fn',ta',xa',tb',xb',v',un',tu',xu',n',ts2,xs2,rfl⟩:=yJk hz;simp only[go_sem,zE,zB,zA,zM,zS,zL,reduceCtorEq,f2,f3,f4,f5,f8,f10,f11,f24,f25,f26,lt_i hlt,yQ3 e3',iNn,hkz,fits,hrep];refine (hcall _ (by rw[yQb hgm.symm];exact hm)).mono ?_;rintro r _ ⟨hr,rfl⟩;have hr0:=hr;obtain⟨v1,w1,o1,n1,t1,y1,t2,y2,c1,w2,t3,y3,rfl⟩:=yY6 hr;simp only[go_sem,zE,zB,zA,zM,zS,zL,reduceCtorEq,f2,f3,f4,f5,f8,f10,f11,f24,f25,f26,fits,ISt.put_same,yQ8,yQf hlt (show sub.length<=281474976710656 by omega)];have hkn:k*9+9<=sub.length*9:=by omega
  obtain⟨q1,q2⟩:=yUj (new:=[IV.raw (.bool v1),.raw (.int .i64 w1),.raw (.int .u8 o1),.raw (.string n1),.sl t1 y1,.sl t2 y2,.raw (.bool c1),.raw (.int .i64 w2),.sl t3 y3]) hcl hlt rfl;rw[if_pos ⟨by omega,hlt⟩,if_pos (by omega)];refine⟨_,zs++[.agg [.raw (.bool v1),.raw (.int .i64 w1),.raw (.int .u8 o1),.raw (.string n1),.sl t1 y1,.sl t2 y2,.raw (.bool c1),.raw (.int .i64 w2),.sl t3 y3]],rfl,q1,?_,?_⟩
  ·rw[q2,hct,List.flatMap_append,List.flatMap_singleton];rfl
  ·rw[yQ7 ha,zYa];exact hzs.append ⟨_,_,rfl,hr0,rfl⟩
 ·rintro fr _ _ ⟨⟨cs,zs,rfl,hcl,hct,hzs⟩,f2,f3,f4,f5,f8,f10,f11,f24,f25,f26,rfl⟩;rw[lTl] at hzs;have hzl:zs.length=sub.length:=by rw[hzs.len,zY9]
  simp only[go_sem,zE,zB,zA,zM,zS,zL,reduceCtorEq,f2,f3,f4,f5,f8,f10,f11,f24,f25,f26,yQo (nLi _)];refine ICall.frzSl (pre:=[_,_,_]) (es:=9) (zs:=zs) (ISt.put_same ..) hzl (Nat.le_refl _) (by omega) (xZa hzs) hct (by omega) ?_;rw[xQx hg];refine (vQi gl _ m rfl rule s mn u nm sub _ hx (yUb sub) _ _ (.inr rfl) hzs.aged (by simp only[NA] at hw;have:=hw.2.1;omega) _ es hm hl).mono ?_;rintro r _ ⟨hr,rfl⟩;have hr0:=hr;obtain⟨v1,w1,o1,n1,t1,y1,t2,y2,c1,w2,t3,y3,rfl⟩:=yY6 hr;simp only[go_sem,zE,zB,zA,zM,zS,zL,reduceCtorEq,f8,ndZ,fits];exact yQ0 ⟨by simpa only[xGx] using hr0,rfl⟩
theorem zUx:∀(k:Nat)(t:Tr),SizeOf.sizeOf t<k->wYu gl t
 | 0,_,h=>absurd h (by omega)
 | k+1,.mk rule s mn u nm sub,h=>xG5 gl rule s mn u nm sub λa ha=>zUx k a (by have:=lSm ha;simp only[Tr.mk.sizeOf_spec] at h;omega)
theorem wUo (t:Tr):wYu gl t:=zUx gl _ t (Nat.lt_succ_self _)
def nd0:Nd:=.mk ⟨false,0,fm0⟩ false 0 []
theorem wXd:IsNd nd0 (.agg ndZ):=by
 simp only[nd0,IsNd,ndZ];exact⟨_,_,_,_,_,_,_,_,rfl,vZm,.inl rfl,rfl⟩
noncomputable def zZ1 (t:Tr):Nd×Nat:=if (yZp 1 t).2≠0\/0<t.cuts then (nd0,231) else if yKu t.sq=false then (nd0,2) else (xGx t,0)
theorem vG0 (G:Gl gl)(T:Gt gl)(t:Tr)(x:IV)(hx:IsTr t x)(hok:NA t)(hst:t.steps<=1000000)(st:ISt) :
  ICall prog gl 13 [x] st (λr st'=>(∃z,r=.tup [z,.raw (.int .i64 (zZ1 t).2)]/\IsNd (zZ1 t).1 z)/\st'=st):=by
 have hck:=λst=>zVt gl G T 1 t x hx (wUh hok (by omega)) st;have hcu:=λst=>wVd gl t x hx (by omega) st;obtain⟨rule,s,mn,u,nm,sub⟩:=t;obtain⟨tl,xl,tr,xr,op,fn,ta,xa,tb,xb,v,un,tu,xu,ts,xs,rfl,hru,e1,i1,e2,i2,hy,hz,e3,i3⟩:=hx.mk;have hV:=λst=>zGa gl G s (.agg [.sl tl xl,.sl tr xr]) ⟨_,_,_,_,rfl,e1,i1,e2,i2⟩ (wYy hok) st;refine iI func13 ?_;simp only[go_sem,zE,zB,zA,zM,zS,zL,reduceCtorEq,fits];refine (hck _).mono ?_;rintro _ st ⟨⟨tg,rfl,htg⟩,rfl⟩;have hne:∀n:Nat,((n:Int)=0)=(n=0):=λn=>propext (by omega);have hsq:(Tr.mk rule s mn u nm sub).sq=s:=rfl;by_cases h0:(yZp 1 (.mk rule s mn u nm sub)).2=0
 ·have hgt:((0:Int)<((Tr.mk rule s mn u nm sub).cuts:Int))=(0<(Tr.mk rule s mn u nm sub).cuts):=propext (by omega);simp only[go_sem,zE,zB,zA,zM,zS,zL,reduceCtorEq,fits,h0,decide_true,Bool.not_true,Int.natCast_zero];refine (hcu _).mono ?_;rintro _ st ⟨rfl,rfl⟩;by_cases h1:0<(Tr.mk rule s mn u nm sub).cuts
  ·simp only[go_sem,zE,zB,zA,zM,zS,zL,reduceCtorEq,fits,hgt,h1,decide_true];exact yQ0 ⟨⟨_,by rw[zZ1,if_pos (.inr h1)];rfl,by rw[zZ1,if_pos (.inr h1)];exact wXd⟩,rfl⟩
  ·simp only[go_sem,zE,zB,zA,zM,zS,zL,reduceCtorEq,fits,hgt,h1,decide_false];refine (hV _).mono ?_;rintro _ st ⟨rfl,rfl⟩;cases hv:yKu s
   ·simp only[go_sem,zE,zB,zA,zM,zS,zL,reduceCtorEq,fits];have he:zZ1 (.mk rule s mn u nm sub)=(nd0,2):=by rw[zZ1,if_neg (by rintro (h|h)<;>contradiction),hsq,if_pos hv]
    exact yQ0 ⟨⟨_,by rw[he];rfl,by rw[he];exact wXd⟩,rfl⟩
   ·simp only[go_sem,zE,zB,zA,zM,zS,zL,reduceCtorEq,fits];refine (zKi gl st).mono ?_;rintro _ _ ⟨m,es,hm,rfl,hl,rfl⟩;simp only[go_sem,zE,zB,zA,zM,zS,zL,reduceCtorEq,fits];refine (wUo gl _ _ hx hst hok _ m es (ISt.put_same ..) hl).mono ?_;rintro r _ ⟨hr,rfl⟩;have hr0:=hr;obtain⟨v1,w1,o1,n1,t1,y1,t2,y2,c1,w2,t3,y3,rfl⟩:=yY6 hr;simp only[go_sem,zE,zB,zA,zM,zS,zL,reduceCtorEq,fits];have he:zZ1 (.mk rule s mn u nm sub)=(xGx (.mk rule s mn u nm sub),0):=by rw[zZ1,if_neg (by rintro (h|h)<;>contradiction),if_neg (by rw[hsq,hv];decide)]
    exact yQa (yQg hm) ⟨⟨_,by rw[he];rfl,by rw[he];exact hr0⟩,rfl⟩
 ·simp only[go_sem,zE,zB,zA,zM,zS,zL,reduceCtorEq,fits,hne,h0,decide_false,Bool.not_false];exact yQ0 ⟨⟨_,by rw[zZ1,if_pos (.inl h0)];rfl,by rw[zZ1,if_pos (.inl h0)];exact wXd⟩,rfl⟩
theorem vG1 (G:Gl gl)(T:Gt gl)(t:Tr)(x:IV)(hx:IsTr t x)(hok:okT t=true)(hst:t.steps<=1000000)(st:ISt) :
  ICall prog gl 13 [x] st (λr st'=>(∃z,r=.tup [z,.raw (.int .i64 (zZ1 t).2)]/\IsNd (zZ1 t).1 z)/\st'=st):=vG0 gl G T t x hx (xZ5 hok) hst st
def ptrI (c:Nat):IV:=.raw (.pointer (some ⟨c,0,none⟩))
def subN:Nd->List Nd
 | .mk _ _ _ sub=>sub
def zU3 (n:Nd):Nat:=if (subN n).isEmpty then 1 else 0
theorem wYg (n:Nd)(z:IV)(hz:IsNd n z)(hl:(subN n).length<=1000000)(c:Nat)(v:Nat)(hv:v<=1000000000)(st:ISt)(hc:st c=some (.box [.raw (.int .i64 v)])) :
  ICall prog gl 75 [ptrI c,z,.agg []] st (λr st'=>∃ts zs,r=.tup [.sl ts zs,.sl ⟨false,.none,0⟩ (List.replicate (subN n).length (.agg []))]/\okEs ts 9/\IsNds (subN n) zs/\st'=st.put c (some (.box [.raw (.int .i64 (v+zU3 n:Nat))]))):=by
 obtain⟨m,cl,w,sub⟩:=n;obtain⟨o,n,t,xs,t',ys,ts,zs,rfl,h1,h2,h3⟩:=hz.mk;have hls:sub.length<=1000000:=hl;have hw:IntKind.i64.wrap ((v:Int)+1)=((v+1:Nat):Int):=by rw[w64]<;>omega
 refine ICall.intro (c:=cf prog gl [] [(3,[0,1,2,3,4,6,5,7])]) func75 rfl (by show _<=25;simp) (by kernel_rfl) ?_;simp only[go_sem,zE,zB,zA,zM,zS,zL,reduceCtorEq,fits,ptrI,h3.len];intro _;have hrl:(subN (.mk m cl w sub)).length=sub.length:=rfl;by_cases h0:sub.length=0
 ·have he:zU3 (.mk m cl w sub)=1:=by rw[zU3,show subN (.mk m cl w sub)=sub from rfl,List.isEmpty_iff.2 (List.length_eq_zero_iff.1 h0)];rfl
  have hd:decide ((sub.length:Int)=0)=true:=dEt (by omega);simp only[go_sem,zE,zB,zA,zM,zS,zL,reduceCtorEq,hd,hc,hw,fits,h3.len,ISt.put_same];refine yQm ⟨by omega,by omega,by omega⟩ (yQ0 ⟨_,_,?_,h2,h3,?_⟩)
  ·rfl
  ·rw[he]
 ·have he:zU3 (.mk m cl w sub)=0:=by rw[zU3,show subN (.mk m cl w sub)=sub from rfl,if_neg (by rw[List.isEmpty_iff];exact λh=>h0 (by rw[h];rfl))]
  have hd:decide ((sub.length:Int)=0)=false:=dEf (by omega);simp only[go_sem,zE,zB,zA,zM,zS,zL,reduceCtorEq,hd,fits,h3.len];refine yQm ⟨by omega,by omega,by omega⟩ (yQ0 ⟨_,_,?_,h2,h3,?_⟩)
  ·rfl
  ·rw[he,Nat.add_zero,yJe hc]
theorem vX5 (z:IV)(n:Nd)(hz:IsNd n z)(c:Nat)(y:IV)(st:ISt):ICall prog gl 76 [ptrI c,z,.agg [],y] st (λr st'=>r=.agg []/\st'=st):=by
 obtain⟨v1,w1,o1,n1,t1,y1,t2,y2,c1,w2,t3,y3,rfl⟩:=yY6 hz;refine iI func76 ?_;simp only[go_sem,zE,zB,zA,zM,zS,zL,reduceCtorEq,fits];exact yQ0 ⟨rfl,rfl⟩
theorem yGi:∀l m:List Nd,yQv (l++m)=yQv l+yQv m
 | [],m=>by simp[yQv]
 | a::l,m=>by simp only[List.cons_append,yQv,yGi l m];omega
theorem zUm {l:List Nd}{k:Nat}{a:Nd}(h:l[k]?=some a):yQv (l.take (k+1))=yQv (l.take k)+a.branches:=by
 rw[yQ7 h,yGi];simp[yQv]
theorem xKp (l:List Nd)(k:Nat):yQv (l.take k)<=yQv l:=by
 conv=>rhs;rw[<- List.take_append_drop k l]
 rw[yGi];omega
theorem zXl (m:Mk)(c:Bool)(w:Int)(sub:List Nd):(Nd.mk m c w sub).branches=zU3 (.mk m c w sub)+yQv sub:=by
 cases sub<;>simp[Nd.branches,zU3,subN,yQv]
theorem zXw {st:ISt}{a b:Nat}(h:a≠b)(x y:Option IObj):(st.put a x).put b y=(st.put b y).put a x:=by
 funext c;simp only[ISt.put_apply];split<;>split<;>first|rfl|(subst_vars;exact absurd rfl h)
def wYv (n:Nd):Prop:=∀(z:IV) (_:IsNd n z) (_:n.nodes<=1000000) (c v:Nat) (_:v+n.branches<=1000000000) (st:ISt) (_:st c=some (.box [.raw (.int .i64 v)])),
 ICall prog gl 74 [z,.agg [],.fn (.func 75) [ptrI c] [],.fn (.func 76) [ptrI c] []] st
  (λr st'=>r=.agg []/\st'=st.put c (some (.box [.raw (.int .i64 (v+n.branches:Nat))])))
theorem xG6 (mm:Mk)(cl:Bool)(w:Int)(sub:List Nd)(IH:∀a∈sub,wYv gl a):wYv gl (.mk mm cl w sub):=by
 intro z hz hst c v hv st hc;have hz0:=hz;rw[zXl] at hv;have hlen:=yWh sub;simp only[Nd.nodes] at hst;obtain⟨v1,w1,o1,n1,t1,y1,t2,y2,c1,w2,t3,y3,rfl⟩:=yY6 hz;refine ICall.intro (c:=cf prog gl [23] []) func74 rfl (by show _<=48;simp) (by kernel_rfl) ?_;simp only[go_sem,zE,zB,zA,zM,zS,zL,reduceCtorEq,fits];refine (wYg gl _ _ hz0 (by show sub.length<=_;omega) c v (by omega) st hc).mono ?_;rintro _ _ ⟨ts,zs,rfl,e3,i3,rfl⟩;have hzl:=i3.len;change zs.length=sub.length at hzl;replace i3:IsNds sub zs:=i3;simp only[go_sem,zE,zB,zA,zM,zS,zL,reduceCtorEq,fits];intro _;refine yQm ⟨by omega,by omega,by omega⟩ λg=>yQc λhg=>?_;have hgc:g≠c:=λh=>by rw[h,ISt.put_same] at hg;cases hg
 have hg0:st g=none:=by rw[yQb hgc] at hg;exact hg
 intro _;refine LoopC.ctr sub.length (λk fr st' ds=>st'=(st.put c (some (.box [.raw (.int .i64 (v+zU3 (.mk mm cl w sub)+yQv (sub.take k):Nat))]))).put g (some (.box [])) /\
  fr 2=.iv (.fn (.func 75) [ptrI c] [])/\fr 3=.iv (.fn (.func 76) [ptrI c] [])/\fr 4=.box [.raw (.bool v1),.raw (.int .i64 w1),.raw (.int .u8 o1),.raw (.string n1),.sl t1 y1,.sl t2 y2,.raw (.bool c1),.raw (.int .i64 w2),.sl t3 y3]/\fr 5=.box []/\fr 8=.box [] /\
  fr 10=.iv (.sl ⟨false,.none,0⟩ (List.replicate sub.length (.agg [])))/\fr 11=.iv (.raw (.slice (some ⟨g,0,none⟩) sub.length sub.length))/\fr 24=.iv (.sl ts zs)/\fr 25=.iv (.raw (.int .i64 sub.length))/\fr 26=.iv (.raw (.int .i64 k))/\ds=[]) ?_ ?_ ?_
 ·simp only[go_sem,zE,zB,zA,zM,zS,zL,reduceCtorEq,hzl];exact⟨by simp only[Nat.mul_zero,List.replicate_zero,yQv,Nat.add_zero],rfl,rfl⟩
 ·rintro k fr _ _ hlt ⟨rfl,f2,f3,f4,f5,f8,f10,f11,f24,f25,f26,rfl⟩;obtain⟨a,ha⟩:=yQ4 hlt;obtain⟨z,hkz,hz⟩:=i3.get ha;have ham:=lMg ha;have hsta:=yJr ham;have hbt:=zUm ha;have hble:=xKp sub (k+1);have hcall:=λst1 hm=>IH a ham z hz (by omega) c (v+zU3 (.mk mm cl w sub)+yQv (sub.take k)) (by omega) st1 hm;have hrep:(List.replicate sub.length (IV.agg []))[k]?=some (.agg []):=by rw[List.getElem?_replicate,if_pos hlt]
  obtain⟨v3,w3,o3,n3,t4,y4,t5,y5,c5,w5,t6,y6,rfl⟩:=yY6 hz;simp only[go_sem,zE,zB,zA,zM,zS,zL,reduceCtorEq,f2,f3,f4,f5,f8,f10,f11,f24,f25,f26,lt_i hlt,yQ3 e3,iNn,hkz,fits,hrep];refine (hcall _ (by rw[yQb hgc.symm,ISt.put_same])).mono ?_;rintro r _ ⟨rfl,rfl⟩;simp only[go_sem,zE,zB,zA,zM,zS,zL,reduceCtorEq,f2,f3,f4,f5,f8,f10,f11,f24,f25,f26,fits,ISt.put_same,yQ8,yQb hgc,yQf hlt (show sub.length<=281474976710656 by omega)];rw[if_pos ⟨by omega,hlt⟩,if_pos (by omega),hbt,<- Nat.add_assoc,zXw hgc,yQ8,yQ8];simp only[List.take_nil,List.drop_nil,List.append_nil]
 ·rintro fr _ _ ⟨rfl,f2,f3,f4,f5,f8,f10,f11,f24,f25,f26,rfl⟩;rw[lTl];simp only[go_sem,zE,zB,zA,zM,zS,zL,reduceCtorEq,f2,f3,f4,f5,f8,f10,f11,f24,f25,f26,yQo (nLi _)];refine (vX5 gl _ _ hz0 c _ _).mono ?_;rintro r _ ⟨rfl,rfl⟩;simp only[go_sem,zE,zB,zA,zM,zS,zL,reduceCtorEq,f8,fits];refine yQa (yQg (by rw[yQb hgc];exact hg0)) ⟨rfl,?_⟩;rw[zXl,Nat.add_assoc]
theorem zUy:∀(k:Nat)(n:Nd),SizeOf.sizeOf n<k->wYv gl n
 | 0,_,h=>absurd h (by omega)
 | k+1,.mk m c w sub,h=>xG6 gl m c w sub λa ha=>zUy k a (by have:=lSm ha;simp only[Nd.mk.sizeOf_spec] at h;omega)
theorem wUp (n:Nd):wYv gl n:=zUy gl _ n (Nat.lt_succ_self _)
theorem zW9:∀n:Nd,n.branches<=n.nodes:=by
 have key:∀(k:Nat) (n:Nd),SizeOf.sizeOf n<k->n.branches<=n.nodes:=by
  intro k
  induction k with
  | zero=>intro n h;omega
  | succ k ih =>
   rintro⟨m,c,w,sub⟩ h;have hs:∀l:List Nd,(∀a∈l,a∈sub)->yQv l<=yQp l:=by
    intro l
    induction l with
    | nil=>intro _;exact Nat.le_refl _
    | cons a l ihl =>
     intro hl;have h1:=ih a (by have:=lSm (hl a (by simp));simp only[Nd.mk.sizeOf_spec] at h;omega);have h2:=ihl λb hb=>hl b (by simp[hb]);simp only[yQv,yQp];omega
   have:=hs sub λa ha=>ha;simp only[Nd.branches,Nd.nodes];split<;>omega
 exact λn=>key _ n (Nat.lt_succ_self _)
theorem wQ8 (n:Nd)(z:IV)(hz:IsNd n z)(hn:n.nodes<=1000000)(st:ISt):ICall prog gl 31 [z] st (λr st'=>r=.raw (.int .i64 n.branches)/\st'=st):=by
 have hb:=zW9 n;have hz0:=hz;obtain⟨v1,w1,o1,n1,t1,y1,t2,y2,c1,w2,t3,y3,rfl⟩:=yY6 hz;refine ICall.intro (c:=cf prog gl [5] []) func31 rfl (by show _<=17;simp) (by kernel_rfl) ?_;simp only[go_sem,zE,zB,zA,zM,zS,zL,reduceCtorEq,fits];refine λc=>yQc λhc=>?_;refine (wUp gl n _ hz0 hn c 0 (by omega) _ (ISt.put_same ..)).mono ?_;rintro _ _ ⟨rfl,rfl⟩;simp only[go_sem,zE,zB,zA,zM,zS,zL,reduceCtorEq,fits,ISt.put_same,yQ8,Nat.zero_add];exact yQa (yQg hc) ⟨rfl,rfl⟩
def SlO (s0 st:ISt)(s n:Nat)(cells:List IV)(g:Nat)(x:IV):Prop:=(n=0/\cells=[]/\∃f e,x=.sl ⟨f,.nil,e⟩ [])\/(0<n/\∃cap cs,x=.raw (.slice (some ⟨g,0,none⟩) n cap)/\st g=some (.box cs)/\n<=cap/\cap*s<=cs.length/\cs.take (n*s)=cells/\s0 g=none)
def MksO (st:ISt)(g:Nat)(L:List Mk)(x:IV):Prop:=∃cap cs zs,x=.raw (.slice (some ⟨g,0,none⟩) L.length cap)/\st g=some (.box cs)/\L.length<=cap/\cap*6<=cs.length/\cs.take (L.length*6)=zs.flatMap IV.cells/\IsMks L zs
def RowsO (s0 st:ISt):List Nat->List (List Mk)->List IV->Prop
 | [],[],xs=>xs=[]
 | g::gs,a::l,xs=>∃y ys,xs=y::ys/\MksO st g a y/\s0 g=none/\g ∉ gs/\RowsO s0 st gs l ys
 | [],_::_,_=>False
 | _::_,[],_=>False
theorem RowsO.mono {s0 st st':ISt}:∀ {gs:List Nat} {l:List (List Mk)} {xs:List IV},(∀g∈gs,st' g=st g)->RowsO s0 st gs l xs->RowsO s0 st' gs l xs
 | [],[],_,_,h=>h
 | g::gs,a::l,_,hs,⟨y,ys,rfl,⟨cap,cs,zs,h1,h2,h3⟩,h4,h5,h6⟩=>⟨y,ys,rfl,⟨cap,cs,zs,h1,by rw[hs g (by simp)];exact h2,h3⟩,h4,h5,RowsO.mono (λg hg=>hs g (by simp[hg])) h6⟩
theorem RowsO.new {s0 st:ISt}:∀ {gs:List Nat} {l:List (List Mk)} {xs:List IV},RowsO s0 st gs l xs->∀g∈gs,st g≠none/\s0 g=none
 | [],[],_,_,g,hg=>by cases hg
 | g::gs,a::l,_,⟨y,ys,rfl,⟨cap,cs,zs,h1,h2,h3⟩,h4,h5,h6⟩,g',hg'=>by
  rcases List.mem_cons.1 hg' with rfl|hg'
  ·exact⟨by rw[h2];simp,h4⟩
  ·exact RowsO.new h6 g' hg'
theorem RowsO.snoc {s0 st:ISt}{g:Nat}{a:List Mk}{y:IV}(hy:MksO st g a y)(h0:s0 g=none):∀ {gs:List Nat} {l:List (List Mk)} {xs:List IV},g ∉ gs->RowsO s0 st gs l xs->RowsO s0 st (gs++[g]) (l++[a]) (xs++[y])
 | [],[],xs,_,h=>by
  obtain rfl:xs=[]:=h;exact⟨y,[],rfl,hy,h0,by simp,rfl⟩
 | g'::gs,a'::l,_,hg,⟨z,ys,rfl,h1,h4,h5,h6⟩=>⟨z,ys++[y],rfl,h1,h4,by
   show g' ∉ gs++[g]
   simp only[List.mem_append,List.mem_singleton,not_or];exact⟨h5,λhc=>hg (by simp[hc])⟩,RowsO.snoc hy h0 (λhc=>hg (by simp[hc])) h6⟩
theorem RowsO.len {s0 st:ISt}:∀ {gs:List Nat} {l:List (List Mk)} {xs:List IV},RowsO s0 st gs l xs->xs.length=l.length
 | [],[],xs,h=>by obtain rfl:xs=[]:=h;rfl
 | g'::gs,a'::l,_,⟨z,ys,rfl,h1,h4,h5,h6⟩=>by simp[RowsO.len h6]
def LstO (s0 st:ISt)(g:Nat)(gs:List Nat)(L:List (List Mk))(x:IV):Prop:=∃xs,SlO s0 st 1 L.length xs g x/\0<L.length/\g ∉ gs/\RowsO s0 st gs L xs/\subSt s0 st
theorem zGs (a:Option Addr)(n c:Nat):IV.one (.raw (.slice a n c))=true:=rfl
theorem wKk (b:Bool)(o:Int)(x y:Fm):0<(askT b o x y).length/\∀q∈askT b o x y,0<q.length:=by
 unfold askT
 repeat' split
 all_goals simp
theorem vZ3 (m:Mk)(y:IV)(hy:IsMk m y)(hm:m.f.op<=7)(w:Int)(st:ISt)(b:Nat)(es:List (Value×IV))(hb:st b=some (.map .sg es))(ht:zXs es)(hk:(yZx m).1≠0) :
  ICall prog gl 111 [.raw (.map (some b)),y,.raw (.int .i64 w)] st (λr st'=>∃g gs,LstO st st' g gs (yQs m w) r):=by
 have hfind:=λst hb=>zJs gl m y hy st b es hb ht;obtain⟨is,mw,f⟩:=m;obtain⟨o',n',t1,x1,t2,x2,rfl,hf⟩:=hy;obtain⟨o,n,us,sub⟩:=f;obtain⟨_,_,_,_,he,ho,e1,i1,e2,i2⟩:=hf.mk;simp only[IV.agg.injEq,List.cons.injEq,IV.raw.injEq,Value.int.injEq,Value.string.injEq,IV.sl.injEq,true_and,and_true] at he;obtain⟨rfl,rfl,⟨rfl,rfl⟩,rfl,rfl⟩:=he;simp only[Fm.op] at hm;refine ICall.intro (c:=cf prog gl [67,72] [(10,[0,1,2,3,4,5,6,7,10,8,9])]) func111 rfl (by show _<=75;simp) (by kernel_rfl) ?_;simp only[go_sem,zE,zB,zA,zM,zS,zL,reduceCtorEq];refine (hfind _ hb).mono ?_;rintro _ st ⟨rfl,rfl⟩;obtain⟨⟨k,q⟩,hr,hq,hT⟩:=yWn hk;simp only[Fm.op,Fm.subs] at hr hq;obtain⟨hask,hent,hk12,hq12⟩:=zJc gl hr hm;simp only at hk12 hq12;rw[xZh hT hk12];simp only[Fm.op,Fm.subs];have hfn:fnF ⟨is,mw,.mk o n' us sub⟩=.fn (.func (zWa is o)) [] []:=by unfold fnF;rw[if_neg hk];rfl
 have dk:decide ((k:Int)=0)=false:=dEf (by omega);obtain⟨a,ha⟩:=yQ4 (show 0<sub.length by omega);obtain⟨ya,hka,hA⟩:=i2.get ha;have hA0:=hA;obtain⟨o5,n5,t5,x5,t6,x6,rfl⟩:=hA0.agg;rw[ha,Option.getD_some];rcases hq12 with rfl|rfl;rw[if_neg (by decide)];have hB:=wY5 ⟨true,.nil,0⟩ ⟨true,.nil,0⟩ (.inl rfl) (.inl rfl);generalize fm0=fB at hB ⊢;rcases hk12 with rfl|rfl;simp only[go_sem,zE,zB,zA,zM,zS,zL,reduceCtorEq,rowF,hfn,hT,hent,fits,yQ3 e2,Int.le_refl,Int.toNat_zero,hka,show decide (((1:Nat):Int)=0)=false from rfl,show decide (((1:Nat):Int)=2)=false from rfl,show decide (((1:Nat):Int)=1)=true from rfl]
 rotate_left
 simp only[go_sem,zE,zB,zA,zM,zS,zL,reduceCtorEq,rowF,hfn,hT,hent,fits,yQ3 e2,Int.le_refl,Int.toNat_zero,hka,show decide (((2:Nat):Int)=0)=false from rfl,show decide (((1:Nat):Int)=2)=false from rfl,show decide (((2:Nat):Int)=1)=false from rfl,show decide (((2:Nat):Int)=2)=true from rfl]
 rotate_left
 rw[if_pos rfl];obtain⟨fB,hb'⟩:=yQ4 (show 1<sub.length by omega);obtain⟨yb,hkb,hB⟩:=i2.get hb';have hB0:=hB;obtain⟨o7,n7,t7,x7,t8,x8,rfl⟩:=hB0.agg;rw[hb',Option.getD_some];rcases hk12 with rfl|rfl;simp only[go_sem,zE,zB,zA,zM,zS,zL,reduceCtorEq,rowF,hfn,hT,hent,fits,yQ3 e2,Int.le_refl,Int.toNat_zero,hka,Int.toNat_one,hkb,show decide (((1:Nat):Int)=0)=false from rfl,show decide (((2:Nat):Int)=2)=true from rfl,show decide (((1:Nat):Int)=1)=true from rfl]
 rotate_left
 simp only[go_sem,zE,zB,zA,zM,zS,zL,reduceCtorEq,rowF,hfn,hT,hent,fits,yQ3 e2,Int.le_refl,Int.toNat_zero,hka,Int.toNat_one,hkb,show decide (((2:Nat):Int)=0)=false from rfl,show decide (((2:Nat):Int)=1)=false from rfl,show decide (((2:Nat):Int)=2)=true from rfl]
 rotate_left
 all_goals
  refine (hask _ _ _ _ hA hB _).mono ?_;rintro _ st1 ⟨tg,xs,rfl,htg,hxs,rfl⟩;have hL1:=wKk is o a fB;generalize hL:askT is o a fB=L at hxs hL1 ⊢;have hL2:L.length<=2:=by rw[<- hL];exact zZz ..
  have hL3:∀q∈L,q.length<=2:=by rw[<- hL];exact zUn _ _ _ _
  simp only[go_sem,zE,zB,zA,zM,zS,zL,reduceCtorEq,hxs.len,fits];refine LoopC.ctr L.length (λk fr st' ds=>(∃g gs x xs,fr 9=.iv x/\SlO st1 st' 1 k xs g x/\(0<k->g ∉ gs)/\RowsO st1 st' gs ((L.take k).map λl=>l.map (mkH mw)) xs/\subSt st1 st')/\fr 2=.iv (.raw (.int .i64 mw))/\fr 47=.iv (.sl tg xs)/\fr 48=.iv (.raw (.int .i64 L.length))/\fr 49=.iv (.raw (.int .i64 k))/\ds=[]) ?_ ?_ ?_
  ·simp only[go_sem,zE,zB,zA,zM,zS,zL,reduceCtorEq];exact⟨⟨0,[],_,[],rfl,.inl ⟨rfl,rfl,_,_,rfl⟩,λh=>absurd h (by decide),rfl,subSt.refl _⟩,rfl⟩
  ·rintro k fr st2 _ hlt ⟨⟨g,gs,x,ys,f9,hsl,hgg,hrow,hsub⟩,f2,f47,f48,f49,rfl⟩;obtain⟨a,ha⟩:=yQ4 hlt;obtain⟨ta,za,hka,hta,hza⟩:=hxs.get ha;have ha2:=hL3 a (lMg ha);have ha1:=hL1.2 a (lMg ha);simp only[go_sem,zE,zB,zA,zM,zS,zL,reduceCtorEq,f2,f9,f47,f48,f49,lt_i hlt,yQ3 hta,iNn,hka,fits,hza.len,yQ3 htg];intro _;refine LoopC.ctr a.length (λj fr st' ds=>(∃g zs x2,fr 12=.iv x2/\SlO st2 st' 6 j (zs.flatMap IV.cells) g x2/\IsMks ((a.take j).map (mkH mw)) zs/\(∀c,c≠g->st' c=st2 c)/\(j=0->st'=st2))/\fr 2=.iv (.raw (.int .i64 mw))/\fr 9=.iv x/\fr 47=.iv (.sl tg xs)/\fr 48=.iv (.raw (.int .i64 L.length))/\fr 49=.iv (.raw (.int .i64 k))/\fr 53=.iv (.sl ta za)/\fr 54=.iv (.raw (.int .i64 a.length))/\fr 55=.iv (.raw (.int .i64 j))/\ds=[]) ?_ ?_ ?_
   ·simp only[go_sem,zE,zB,zA,zM,zS,zL,reduceCtorEq,f2,f9,f47,f48,f49];exact⟨⟨0,[],_,rfl,.inl ⟨rfl,rfl,_,_,rfl⟩,rfl,λ_ _=>trivial⟩,rfl⟩
   ·rintro j fr st3 _ hjt ⟨⟨gi,zs,x2,f12,hs2,hzs,hoff,hz0⟩,f2,f9,f47,f48,f49,f53,f54,f55,rfl⟩;obtain⟨h,hh⟩:=yQ4 hjt;obtain⟨y,hky,hy⟩:=hza.get hh;obtain⟨oh,nh,t5,x5,t6,x6,rfl,hfh⟩:=hy;have hzl:=hzs.len;rw[List.length_map,List.length_take,Nat.min_eq_left (by omega)] at hzl;rcases hs2 with⟨rfl,hcz,f,e,rfl⟩|⟨hj0,cap,cs,rfl,hg,hkc,hcc,htk,hgn⟩
    ·obtain rfl:=hz0 rfl;simp only[go_sem,zE,zB,zA,zM,zS,zL,reduceCtorEq,f2,f9,f12,f47,f48,f49,f53,f54,f55,lt_i hjt,yQ3 hta,iNn,hky,fits,yQ1,yQf hjt (show a.length<=281474976710656 by omega)];refine λg cap=>yQc λ⟨hg,hc⟩=>⟨g,zs++[.agg [.raw (.bool h.1),.raw (.int .i64 mw),.raw (.int .u8 oh),.raw (.string nh),.sl t5 x5,.sl t6 x6]],_,rfl,.inr ⟨Nat.zero_lt_one,cap,_,rfl,ISt.put_same ..,hc,?_,?_,hg⟩,?_,λc hc=>yQb hc,λh=>absurd h (by decide)⟩
     ·simp[IV.cells];omega
     ·rw[List.flatMap_append,hcz];simp[IV.cells]
     ·rw[yQ7 hh,List.map_append];exact hzs.append (IsMks.one ⟨_,_,_,_,_,_,rfl,hfh⟩)
    ·simp only[go_sem,zE,zB,zA,zM,zS,zL,reduceCtorEq,f2,f9,f12,f47,f48,f49,f53,f54,f55,lt_i hjt,yQ3 hta,iNn,hky,fits,yQ1];refine yKe _ _ _ (cs:=cs) hg (by simp[fits,IV.one]) ⟨by simp only[List.length_singleton];omega,by simp only[List.length_singleton];omega⟩ ⟨hkc,hcc⟩ (by simp[IV.cells]) ?_;rintro g cap' cs' hgn' hc1 hc2 htk';simp only[go_sem,zE,zB,zA,zM,zS,zL,reduceCtorEq,f2,f9,f47,f48,f49,f53,f54,f55,yQf hjt (show a.length<=281474976710656 by omega)];have hg2:st2 g=none:=by
      rcases hgn' with rfl|h
      ·exact hgn
      ·by_cases hq:g=gi
       ·rw[hq];exact hgn
       ·rw[<- hoff g hq];exact h
     refine⟨g,zs++[.agg [.raw (.bool h.1),.raw (.int .i64 mw),.raw (.int .u8 oh),.raw (.string nh),.sl t5 x5,.sl t6 x6]],_,rfl,.inr ⟨by omega,cap',cs',rfl,ISt.put_same ..,hc1,hc2,?_,hg2⟩,?_,λc hc=>?_,λh=>h.elim⟩
     ·rw[List.flatMap_append,<- htk];exact htk'
     ·rw[yQ7 hh,List.map_append];exact hzs.append (IsMks.one ⟨_,_,_,_,_,_,rfl,hfh⟩)
     ·rw[yQb hc,ISt.put_apply];split
      ·rename_i hq;rw[hq];exact hgn.symm
      ·rename_i hq;exact hoff c hq
   ·rintro fr st3 _ ⟨⟨gi,zs,x2,f12,hs2,hzs,hoff,hz0⟩,f2,f9,f47,f48,f49,f53,f54,f55,rfl⟩;rw[lTl] at hzs;rcases hs2 with⟨h0,_⟩|⟨hj0,cap,cs,rfl,hg,hkc,hcc,htk,hgn⟩
    ·omega
    have hal:(a.map (mkH mw)).length=a.length:=List.length_map ..;have keep:∀c,st2 c≠none->st3 c=st2 c:=λc hc=>hoff c λh=>hc (by rw[h];exact hgn);have hgi:gi ∉ gs:=λh=>(hrow.new gi h).1 hgn;have hgi1:st1 gi=none:=by
     cases hq:st1 gi with
     | none=>rfl
     | some o=>have:=hsub _ _ hq;rw[hgn] at this;cases this
    have new1:∀c,st3 c=none->st1 c=none:=λc hc=>by
     cases hq:st1 c with
     | none=>rfl
     | some o=>have:=hsub _ _ hq;rw[keep c (by rw[this];simp),this] at hc;cases hc
    have fin:∀(s':ISt) (g':Nat) (x':IV),(g'=g/\0<k\/st3 g'=none)->(∀c,c≠g'->(0<k->c≠g)->s' c=st3 c)->SlO st1 s' 1 (k+1) (ys++[.raw (.slice (some ⟨gi,0,none⟩) a.length cap)]) g' x'->(0<k->st1 g=none)->(0<k->st2 g≠none) →
      ∃g gs x xs,SV.iv x'=.iv x/\SlO st1 s' 1 (k+1) xs g x/\(0<k+1->g ∉ gs)/\RowsO st1 s' gs ((L.take (k+1)).map λl=>l.map (mkH mw)) xs/\subSt st1 s':=λs' g' x' h1 h2 h3 h4 h5=>by
     have hne:∀c,st2 c≠none->c ∉ gs\/c≠g'/\(0<k->c≠g):=λc hc=>by
      by_cases hcg:c∈gs
      ·refine .inr ⟨?_,λhk hcq=>hgg hk (hcq▸hcg)⟩;rintro rfl;rcases h1 with⟨rfl,hk⟩|h1
       ·exact hgg hk hcg
       ·rw[keep _ hc] at h1;exact hc h1
      ·exact .inl hcg
     have hs':∀c∈gs,s' c=st2 c:=λc hc=>by
      have h6:=(hrow.new c hc).1;rcases hne c h6 with h|⟨h7,h8⟩
      ·exact absurd hc h
      ·rw[h2 c h7 h8,keep c h6]
     have hgig:gi≠g':=λhq=>by
      rcases h1 with⟨rfl,hk⟩|h1
      ·exact h5 hk (by rw[<- hq];exact hgn)
      ·rw[<- hq,hg] at h1;cases h1
     have hgig0:0<k->gi≠g:=λhk hq=>h5 hk (by rw[<- hq];exact hgn);refine⟨g',gs++[gi],x',_,rfl,h3,λ_=>?_,?_,λc o hc=>?_⟩
     ·simp only[List.mem_append,List.mem_singleton,not_or];refine⟨λhm=>?_,hgig.symm⟩;rcases h1 with⟨rfl,hk⟩|h1
      ·exact hgg hk hm
      ·have h6:=(hrow.new g' hm).1;rw[keep _ h6] at h1;exact h6 h1
     ·rw[yQ7 ha,List.map_append];exact RowsO.snoc ⟨cap,cs,zs,by rw[hal],by rw[h2 gi hgig hgig0];exact hg,by rw[hal];exact hkc,hcc,by rw[hal];exact htk,hzs⟩ hgi1 hgi (hrow.mono hs')
     ·have h6:=hsub c o hc;have h7:st2 c≠none:=by rw[h6];simp
      have h8:c≠g':=by
       rintro rfl;rcases h1 with⟨rfl,hk⟩|h1
       ·rw[h4 hk] at hc;cases hc
       ·rw[keep _ h7,h6] at h1;cases h1
      rw[h2 c h8 λhk hq=>(by rw[hq,h4 hk] at hc;cases hc),keep c h7];exact h6
    rcases hsl with⟨rfl,hcz,f,e,rfl⟩|⟨hk0,cap9,cs9,rfl,hg9,hkc9,hcc9,htk9,hgn9⟩
    ·simp only[go_sem,zE,zB,zA,zM,zS,zL,reduceCtorEq,f2,f9,f12,f47,f48,f49,f54,f55,yQo (nLi _),fits,yQ1,zGs,yQf hlt (show L.length<=281474976710656 by omega)];refine λg' cap'=>yQc λ⟨hg',hc'⟩=>?_;exact fin _ g' _ (.inr hg') (λc hc _=>yQb hc) (.inr ⟨Nat.succ_pos _,cap',_,rfl,ISt.put_same ..,hc',by simp[IV.cells];omega,by rw[hcz];simp[IV.cells],new1 g' hg'⟩) (λh=>absurd h (by omega)) (λh=>absurd h (by omega))
    ·simp only[go_sem,zE,zB,zA,zM,zS,zL,reduceCtorEq,f2,f9,f12,f47,f48,f49,f54,f55,yQo (nLi _),fits,yQ1,zGs];refine yKe _ _ _ (cs:=cs9) (by rw[keep g (by rw[hg9];simp)];exact hg9) (by simp[fits,IV.one]) ⟨by simp only[List.length_singleton];omega,by simp only[List.length_singleton];omega⟩ ⟨hkc9,hcc9⟩ (by simp[IV.cells]) ?_;rintro g' cap' cs' hgn' hc1 hc2 htk';simp only[go_sem,zE,zB,zA,zM,zS,zL,reduceCtorEq,f2,f47,f48,f49,yQf hlt (show L.length<=281474976710656 by omega)];exact fin _ g' _ (hgn'.imp (λh=>⟨h,hk0⟩) id) (λc hc hc'=>by rw[yQb hc,yQb (hc' hk0)]) (.inr ⟨Nat.succ_pos _,cap',cs',rfl,ISt.put_same ..,hc1,hc2,by rw[<- htk9];exact htk',hgn'.elim (λh=>h▸hgn9) (new1 g')⟩) (λ_=>hgn9) (λ_=>by rw[hg9];simp)
  ·rintro fr st2 _ ⟨⟨g,gs,x,ys,f9,hsl,hgg,hrow,hsub⟩,f2,f47,f48,f49,rfl⟩;rw[lTl] at hrow;rcases hsl with⟨h0,_⟩|⟨hk0,cap9,cs9,rfl,hg9,hkc9,hcc9,htk9,hgn9⟩
   ·omega
   simp only[go_sem,zE,zB,zA,zM,zS,zL,reduceCtorEq,f9,f48,f49,yQo (nLi _)];refine yQ0 ⟨g,gs,ys,.inr ⟨?_,cap9,cs9,?_,hg9,?_,hcc9,?_,hgn9⟩,?_,hgg hk0,hrow,hsub⟩<;>rw[List.length_map]<;>assumption
noncomputable def xJt (l:List Mk):Option (Mk×Bool) :=
 match l.find? (yYf l) with
 | some m=>some (m,true)
 | none=>((yKn l 1).find? λm=>!allT l (((yQs m 0)[0]?).getD [])).map λm=>(m,false)
def IsN0 (m:Mk)(c:Bool)(z:IV):Prop:=∃(o:Int) (n:ByteArray) (t:Tag) (xs:List IV) (t':Tag) (ys:List IV),z=.agg [.raw (.bool m.is),.raw (.int .i64 m.w),.raw (.int .u8 o),.raw (.string n),.sl t xs,.sl t' ys,.raw (.bool c),.raw (.int .i64 0),.sl ⟨true,.nil,0⟩ []]/\IsFm m.f (.agg [.raw (.int .u8 o),.raw (.string n),.sl t xs,.sl t' ys])
theorem wJw {p:Mk->Bool}{l:List Mk}{k:Nat}{a:Mk}(ha:l[k]?=some a)(h:(l.take k).find? p=none)(hp:p a=false):(l.take (k+1)).find? p=none:=by
 rw[yQ7 ha,List.find?_append,h,Option.none_or];simp[hp]
theorem xYl {p:Mk->Bool}{l:List Mk}{k:Nat}{a:Mk}(ha:l[k]?=some a)(h:(l.take k).find? p=none)(hp:p a=true):l.find? p=some a:=by
 conv=>lhs;rw[<- List.take_append_drop (k+1) l]
 rw[List.find?_append,yQ7 ha,List.find?_append,h,Option.none_or];simp[hp]
theorem wXr {m:Mk}{w:Int}(h:(yZx m).1≠0):0<(yQs m w).length:=by
 unfold yQs;rw[if_neg h,List.length_map];exact (wKk _ _ _ _).1
theorem vVd (l:List Mk)(tb:Nat)(x:IV)(hx:IsBr l tb x)(hl:l.length<=1000000)(hg:∀m∈l,m.f.op<=7)(m:Mk)(c:Bool)(h:xJt l=some (m,c))(st:ISt)(es:List (Value×IV))(hb:st tb=some (.map .sg es))(ht:zXs es) :
  ICall prog gl 158 [.cptr x] st (λr st'=>∃z,r=.tup [z,.raw (.bool true)]/\IsN0 m c z/\st'=st):=by
 have hcl:=λm y hy st=>xXd gl l tb x hx m y hy st;have hus:=λst=>wVm gl x 1 (by decide) st;have hit:=wQo gl l tb x hx hl 1 (by decide) es ht;have hall:=λq tg zs htg hzs st=>wKe gl l tb x hx q tg zs htg hzs st;obtain⟨t,xs,t',v,rfl,ht6,hap,hxs,ht1,htc⟩:=hx;refine ICall.intro (c:=cf prog gl [2,3] [(19,[0,1,2,3,4,5,7,8,6,9,10])] [1]) func158 rfl (by show _<=118;simp) (by kernel_rfl) ?_;simp only[go_sem,zE,zB,zA,zM,zS,zL,reduceCtorEq,fits,brI];refine λb2=>yQc λhb2 b3=>yQc λhb3=>?_;have h23:b2≠b3:=λh=>by rw[<- h,ISt.put_same] at hb3;cases hb3
 have hb3':st b3=none:=by rw[yQb h23.symm] at hb3;exact hb3
 have ht2:tb≠b2:=λh=>by rw[<- h,hb] at hb2;cases hb2
 have ht3:tb≠b3:=λh=>by rw[<- h,hb] at hb3';cases hb3'
 rw[hxs.len];intro _;obtain⟨S,hS⟩:∃S,S=(st.put b2 (some (.box ndZ))).put b3 (some (.box [.raw (.bool false)])):=⟨_,rfl⟩
 have g2:S b2=some (.box ndZ):=by rw[hS,yQb h23,ISt.put_same]
 have g3:S b3=some (.box [.raw (.bool false)]):=by rw[hS,ISt.put_same]
 have gt:S tb=some (.map .sg es):=by rw[hS,yQb ht3,yQb ht2];exact hb
 have hsub:∀o o',subSt st ((S.put b2 o).put b3 o'):=λo o' c y hc=>by
  have c2:c≠b2:=λh=>by rw[h,hb2] at hc;cases hc
  have c3:c≠b3:=λh=>by rw[h,hb3'] at hc;cases hc
  rw[yQb c3,yQb c2,hS,yQb c3,yQb c2];exact hc
 refine LoopC.ctr l.length (λk fr st' ds=>(l.take k).find? (yYf l)=none/\fr 1=.iv (.cptr (.cptr (.agg (brI tb t xs t' v))))/\fr 2=.iv (ptrI b2)/\fr 3=.iv (ptrI b3)/\fr 16=.iv (.sl t xs)/\fr 17=.iv (.raw (.int .i64 l.length))/\fr 18=.iv (.raw (.int .i64 k))/\st'=S/\ds=[]) ?_ ?_ ?_
 ·simp only[go_sem,zE,zB,zA,zM,zS,zL,reduceCtorEq];exact⟨rfl,rfl,rfl,rfl,rfl,hS.symm⟩
 ·rintro k fr st1 _ hlt ⟨hno,f1,f2,f3,f16,f17,f18,rfl,rfl⟩;obtain⟨a,ha⟩:=yQ4 hlt;obtain⟨z,hkz,hz⟩:=hxs.get ha;have hc1:=λst=>hcl a z hz st;obtain⟨o5,n5,t5,x5,t6,x6,rfl,h1⟩:=hz;simp only[go_sem,zE,zB,zA,zM,zS,zL,reduceCtorEq,f1,f2,f3,f16,f17,f18,lt_i hlt,yQ3 ht6,iNn,hkz,fits];refine (hc1 _).mono ?_;rintro _ st1 ⟨rfl,rfl⟩;cases hb1:yYf l a
  ·simp only[go_sem,zE,zB,zA,zM,zS,zL,reduceCtorEq,f1,f2,f3,f16,f17,f18,yQf hlt (show l.length<=281474976710656 by omega)];exact wJw ha hno hb1
  ·have hm:xJt l=some (a,true):=by
    rw[xJt,xYl ha hno hb1]
   simp only[go_sem,zE,zB,zA,zM,zS,zL,reduceCtorEq,f1,f2,f3,f16,f17,f18,fits,ptrI,g2,g3,yQb h23,yQb h23.symm,ISt.put_same];rw[if_pos (by decide)];rw[hm] at h;cases h;exact yQa (hsub _ _) ⟨_,rfl,⟨_,_,_,_,_,_,rfl,h1⟩,rfl⟩
 ·rintro fr st1 _ ⟨hno,f1,f2,f3,f16,f17,f18,rfl,rfl⟩;rw[lTl] at hno;simp only[go_sem,zE,zB,zA,zM,zS,zL,reduceCtorEq,f1,f2,f3,f16,f17,f18,yQo (nLi _)];refine (hus _).mono ?_;rintro _ st1 ⟨rfl,rfl⟩;simp only[go_sem,zE,zB,zA,zM,zS,zL,reduceCtorEq,fits,useI];obtain⟨p,hp⟩:∃p:Mk->Bool,p=λm=>!allT l (((yQs m 0)[0]?).getD []):=⟨_,rfl⟩
  have hfm:(yKn l 1).find? p=some m/\c=false:=by
   rw[xJt,hno,<- hp] at h;cases hq:(yKn l 1).find? p with
   | none=>rw[hq] at h;cases h
   | some m'=>rw[hq] at h;cases h;exact⟨rfl,rfl⟩
  obtain⟨hfm,rfl⟩:=hfm;refine RangeC.intro (mkX (yKn l 1)) (yKn l 1).length (λk s=>s=st1/\((yKn l 1).take k).find? p=none) (λe s=>e=.ret/\∃nd,IsN0 m false (.agg nd)/\s=(st1.put b2 (some (.box nd))).put b3 (some (.box [.raw (.bool true)]))) rfl ?_ ?_ ?_ ?_ ?_ ?_
  ·rintro k a ⟨_,_,_,_,rfl⟩;rfl
  ·exact⟨rfl,rfl⟩
  ·rintro k _ st2 ⟨a,y,hka,hy,rfl⟩ ⟨rfl,hno2⟩;have ham:=lMg hka;rw[yKn,List.mem_filter] at ham;obtain⟨hal,hak⟩:=ham;have hak1:(yZx a).1=1:=by simpa using hak
   have hli:=λst hb=>zGz gl a y hy (hg a hal) 0 st tb es hb ht;have hy0:=hy;obtain⟨o5,n5,t5,x5,t6,x6,rfl,h1⟩:=hy;simp only[go_sem,zE,zB,zA,zM,zS,zL,reduceCtorEq,f1,f2,f3,fits,brI];refine (hli _ gt).mono ?_;rintro _ st2 ⟨tg,qs,rfl,htg,hqs,rfl⟩;obtain⟨q0,hq0⟩:=yQ4 (wXr (w:=0) (show (yZx a).1≠0 by omega));obtain⟨tq,zq,hkq,htq,hzq⟩:=hqs.get hq0;have hpa:p a=!allT l q0:=by rw[hp];simp only[hq0,Option.getD_some]
   simp only[go_sem,zE,zB,zA,zM,zS,zL,reduceCtorEq,yQ3 htg,Int.le_refl,Int.toNat_zero,hkq,fits];refine (hall q0 tq zq htq hzq _).mono ?_;rintro _ st2 ⟨rfl,rfl⟩;cases hb2:allT l q0
   ·rw[hb2] at hpa;have hma:a=m:=Option.some.inj ((xYl hka hno2 hpa).symm.trans hfm);subst hma;simp only[go_sem,zE,zB,zA,zM,zS,zL,reduceCtorEq,f1,f2,f3,fits,ptrI,g2,g3,yQb h23,yQb h23.symm,ISt.put_same];rw[if_pos (by decide)];exact⟨_,⟨_,_,_,_,_,_,rfl,h1⟩,rfl⟩
   ·rw[hb2] at hpa;simp only[go_sem,zE,zB,zA,zM,zS,zL,reduceCtorEq,f1,f2,f3,fits];exact wJw hka hno2 hpa
  ·exact λy I' S' st hfn hI hy h0=>hit y I' S' st hfn (λk stu h=>by obtain⟨s0,h1,rfl,_⟩:=hI k stu h;exact⟨_,h1,gt⟩) hy h0
  ·rintro st2 r ⟨_,hno2⟩;rw[lTl,hfm] at hno2;cases hno2
  ·rintro e st2 r ⟨rfl,nd,hnd,rfl⟩;have hnd0:=hnd;obtain⟨o1,n1,t1,y1,t2,y2,he,_⟩:=hnd;obtain rfl:=IV.agg.inj he;simp only[go_sem,zE,zB,zA,zM,zS,zL,reduceCtorEq,f2,f3,ptrI,yQb h23,ISt.put_same,resC,fits];exact yQa (hsub _ _) ⟨_,rfl,hnd0,rfl⟩
theorem RowsO.get {s0 st:ISt}:∀ {gs:List Nat} {l:List (List Mk)} {xs:List IV} {k:Nat} {a:List Mk},RowsO s0 st gs l xs->l[k]?=some a->∃g y,xs[k]?=some y/\g∈gs/\MksO st g a y/\s0 g=none/\∀st',(∀c,c≠g->st' c=st c)->MksO st' g a y->RowsO s0 st' gs l xs
 | [],[],xs,k,a,_,hk=>by simp at hk
 | g::gs,a::l,_,0,_,⟨y,ys,rfl,h1,h4,h5,h6⟩,hk=>by
  simp only[List.getElem?_cons_zero,Option.some.injEq] at hk;subst hk;exact⟨g,y,rfl,by simp,h1,h4,λst' h h'=>⟨y,ys,rfl,h',h4,h5,RowsO.mono (λc hc=>h c λhq=>h5 (hq▸hc)) h6⟩⟩
 | g::gs,a::l,_,k+1,b,⟨y,ys,rfl,h1,h4,h5,h6⟩,hk=>by
  obtain⟨g',y',e1,e2,e3,e0,e4⟩:=RowsO.get (k:=k) h6 (by simpa using hk);have hne:g≠g':=λhq=>h5 (hq▸e2);obtain⟨cap,cs,zs,q1,q2,q3⟩:=h1;exact⟨g',y',by simpa using e1,by simp[e2],e3,e0,λst' h h'=>⟨y,ys,rfl,⟨cap,cs,zs,q1,by rw[h g hne];exact q2,q3⟩,h4,h5,e4 st' h h'⟩⟩
theorem zQd:∀ {l:List Mk}{xs:List IV},IsMks l xs->∀x∈xs,x.cells.length=6
 | [],_,rfl,x,hx=>by cases hx
 | a::l,_,⟨y,ys,rfl,hy,h⟩,x,hx=>by
  rcases List.mem_cons.1 hx with rfl|hx
  ·obtain⟨o,n,t,xs,t',ys',rfl,hf⟩:=hy;rfl
  ·exact zQd h x hx
theorem wW0 {zs:List IV}{j:Nat}{z:IV}(hj:zs[j]?=some z):zs=zs.take j++z::zs.drop (j+1):=by
 obtain⟨h,rfl⟩:=lGs hj;rw[<- List.drop_eq_getElem_cons h,List.take_append_drop]
theorem zJ8 {s:Nat}:∀ {zs:List IV},(∀z∈zs,z.cells.length=s)->(zs.flatMap IV.cells).length=zs.length*s
 | [],_=>by simp
 | a::zs,h=>by
  rw[List.flatMap_cons,lLa,h a (by simp),zJ8 λz hz=>h z (by simp[hz]),List.length_cons,Nat.add_mul];omega
theorem wKa {zs cs:List IV}{n s j:Nat}{z:IV}(h:∀z∈zs,z.cells.length=s)(hc:cs.take (n*s)=zs.flatMap IV.cells)(hn:zs.length=n)(hj:zs[j]?=some z) :
  (cs.drop (j*s)).take s=z.cells/\j*s+s<=cs.length/\∀y:IV,y.cells.length=s->(cs.take (j*s)++y.cells++cs.drop (j*s+s)).take (n*s)=(zs.take j++[y]++zs.drop (j+1)).flatMap IV.cells/\(cs.take (j*s)++y.cells++cs.drop (j*s+s)).length=cs.length:=by
 have hjn:j<n:=by rw[<- hn];exact (lGs hj).1
 have h1:=zJ8 (zs:=zs.take j) λz hz=>h z (List.mem_of_mem_take hz);have h2:=zJ8 (zs:=zs.drop (j+1)) λz hz=>h z (List.mem_of_mem_drop hz);have hz:=h z (lMg hj);rw[List.length_take,Nat.min_eq_left (by omega)] at h1;rw[List.length_drop,hn] at h2;generalize hA:(zs.take j).flatMap IV.cells=A at h1;generalize hB:(zs.drop (j+1)).flatMap IV.cells=B at h2;have hf:zs.flatMap IV.cells=A++(z.cells++B):=by
  conv=>lhs;rw[wW0 hj]
  rw[List.flatMap_append,List.flatMap_cons,hA,hB]
 have hns:n*s=j*s+s+(n-(j+1))*s:=by
  have:n=j+1+(n-(j+1)):=by omega
  conv=>lhs;rw[this]
  rw[Nat.add_mul,Nat.add_mul,Nat.one_mul]
 have hcs:cs=A++(z.cells++(B++cs.drop (n*s))):=by
  conv=>lhs;rw[<- List.take_append_drop (n*s) cs,hc,hf]
  simp only[List.append_assoc]
 generalize cs.drop (n*s)=R at hcs;subst hcs;have e1:(A++(z.cells++(B++R))).take (j*s)=A:=by rw[<- h1,List.take_left]
 have e2:(A++(z.cells++(B++R))).drop (j*s)=z.cells++(B++R):=by rw[<- h1,List.drop_left]
 have e3:(A++(z.cells++(B++R))).drop (j*s+s)=B++R:=by rw[<- List.drop_drop,e2,<- hz,List.drop_left]
 refine⟨by rw[e2,<- hz,List.take_left],by simp only[lLa];omega,λy hy=>?_⟩;rw[e1,e3];refine⟨?_,by simp only[lLa];omega⟩;rw[List.flatMap_append,List.flatMap_append,List.flatMap_singleton,hA,hB,<- List.append_assoc (A++y.cells) B R,List.take_append_of_le_length (by simp only[lLa];omega),List.take_of_length_le (by simp only[lLa];omega)]
theorem wXe:∀ {l:List Mk}{zs:List IV}{j:Nat}{b:Mk}{y:IV},IsMks l zs->l[j]?=some b->IsMk b y->IsMks l (zs.take j++[y]++zs.drop (j+1))
 | a::l,_,0,b,y,⟨x,xs,rfl,hx,h⟩,hj,hy=>by
  simp only[List.getElem?_cons_zero,Option.some.injEq] at hj;subst hj;exact⟨y,xs,rfl,hy,h⟩
 | a::l,_,j+1,b,y,⟨x,xs,rfl,hx,h⟩,hj,hy=>⟨x,_,rfl,hx,wXe (j:=j) h (by simpa using hj) hy⟩
theorem size_pos (f:Fm):1<=f.size:=by
 cases f;simp only[Fm.size];omega
theorem xQ9 (f:Fm)(i:Nat):((f.subs[i]?).getD fm0).size<=f.size:=by
 obtain⟨o,n,us,sub⟩:=f;cases h:sub[i]? with
 | none =>
  simp only[Fm.subs,h,Option.getD_none];exact Nat.le_trans (by decide) (size_pos _)
 | some a =>
  have:=yXh (lMg h);simp only[Fm.subs,h,Option.getD_some,Fm.size];omega
theorem wYl (b:Bool)(o:Int)(x y:Fm){k:Nat}(hx:x.size<=k)(hy:y.size<=k):∀q∈askT b o x y,∀h∈q,h.2.size<=2*k+1:=by
 have h1:(impF x y).size<=2*k+1:=by simp only[impF,Fm.size,yQ9,yQh];omega
 have h2:(impF y x).size<=2*k+1:=by simp only[impF,Fm.size,yQ9,yQh];omega
 unfold askT
 repeat' split
 all_goals (simp only[List.mem_cons,List.not_mem_nil,or_false,forall_eq_or_imp,forall_eq];(repeat' apply And.intro)<;>omega)
theorem xU4 (m:Mk)(w:Int):∀q∈yQs m w,∀b∈q,b.f.size<=2*m.f.size+1:=by
 intro q hq b hb;unfold yQs at hq;split at hq
 ·cases hq
 ·obtain⟨l,hl,rfl⟩:=List.mem_map.1 hq;obtain⟨h,hh,rfl⟩:=List.mem_map.1 hb;refine wYl _ _ _ _ (k:=m.f.size) (xQ9 _ 0) ?_ l hl h hh;split
  ·exact xQ9 _ 1
  ·exact Nat.le_trans (by decide) (size_pos _)
theorem RowsO.oi {s0 st s1:ISt}:∀ {gs:List Nat} {l:List (List Mk)} {xs:List IV},RowsO s0 st gs l xs->(∀g∈gs,s1 g=st g)->(∀q∈l,q.length<=2) →
  ∃ys,ys.length=xs.length/\(∀(i:Nat) (r c:IV),xs[i]?=some r->ys[i]?=some c->OI s1 r c)/\IsMkss l (ages ys)/\∀y∈ys,y.cells=[y]
 | [],[],xs,h,_,_=>by
  obtain rfl:xs=[]:=h;exact⟨[],rfl,λi r c h=>by simp at h,rfl,λy hy=>by cases hy⟩
 | g::gs,a::l,_,⟨y,ys,rfl,hmo,h7,h8,h9⟩,hs,hq=>by
  obtain⟨cap,cs,zs,rfl,h2,h3,h4,h5,h6⟩:=hmo;obtain⟨zz,e1,e2,e3,e4⟩:=RowsO.oi h9 (λc hc=>hs c (by simp[hc])) λq hq'=>hq q (by simp[hq']);have hal:=hq a (by simp);refine⟨.sl ⟨true,.app g,6⟩ zs::zz,by simp[e1],λi r c hr hc=>?_,?_,λy hy=>?_⟩
  ·cases i with
   | zero =>
    simp only[List.getElem?_cons_zero,Option.some.injEq] at hr hc;subst hr;subst hc;rw[<- h6.len] at h3 h5 hal ⊢;refine .sl g cap ⟨true,.app g,6⟩ zs cs rfl (by omega) h3 (zQd h6) (by rw[hs g (by simp)];exact h2) h4 λi r c hr hc=>?_;have hi:i<zs.length*6:=by
     have:=(lGs hc).1
     rwa [zJ8 (zQd h6)] at this
    have:(cs.take (zs.length*6))[i]?=cs[i]?:=by rw[List.getElem?_take,if_pos hi]
    rw[h5,hc,hr] at this;cases this;exact .refl _
   | succ i=>exact e2 i r c (by simpa using hr) (by simpa using hc)
  ·simp only[ages,age];exact⟨_,_,_,rfl,.inr rfl,h6.aged,e3⟩
  ·rcases List.mem_cons.1 hy with rfl|hy
   ·rfl
   ·exact e4 y hy
theorem xZu:∀ {ys:List IV},(∀y∈ys,y.cells=[y])->ys.flatMap IV.cells=ys
 | [],_=>rfl
 | y::ys,h=>by rw[List.flatMap_cons,h y (by simp),xZu λz hz=>h z (by simp[hz])];rfl
theorem vZ2 {st S0 st2:ISt}{g cap:Nat}{gs:List Nat}{L:List (List Mk)}{xs cs:List IV}(hg:st2 g=some (.box cs))(hrow:RowsO S0 st2 gs L xs)(hq:∀q∈L,q.length<=2)(hL:L.length<=2)(hkc:L.length<=cap)(hcc:cap*1<=cs.length)(htk:cs.take (L.length*1)=xs)(hgn:S0 g=none)
  (h0:subSt st S0) (hsub:subSt S0 st2):∃x s1,LendOk st2 s1 st/\OI s1 (.raw (.slice (some ⟨g,0,none⟩) L.length cap)) x/\∃tg zs,age x=.sl tg zs/\okEs tg 1/\IsMkss L zs:=by
 obtain⟨ys,e1,e2,e3,e4⟩:=hrow.oi (s1:=λc=>if c=g\/c∈gs then st2 c else none) (λc hc=>if_pos (.inr hc)) hq;have hxl:=hrow.len;have hnone:∀c,S0 c=none->st c=none:=λc hc=>by
  cases hq:st c with
  | none=>rfl
  | some o=>have:=h0 _ _ hq;rw[hc] at this;cases this
 refine⟨.sl ⟨true,.app g,1⟩ ys,λc=>if c=g\/c∈gs then st2 c else none,⟨λc o hc=>?_,λc o hc=>hsub c o (h0 c o hc),λc cs' hc=>?_⟩,?_,⟨false,.app g,1⟩,ages ys,by simp only[age],.inr rfl,e3⟩
 ·split at hc
  ·exact hc
  ·cases hc
 ·split at hc
  ·rename_i h;rcases h with rfl|h
   ·exact hnone _ hgn
   ·exact hnone _ (hrow.new c h).2
  ·cases hc
 ·have hyl:ys.length=L.length:=by rw[e1,hxl]
  rw[<- hyl] at hkc htk ⊢;refine .sl g cap ⟨true,.app g,1⟩ ys cs rfl (by omega) hkc (λy hy=>by rw[e4 y hy];rfl) ((if_pos (.inl rfl)).trans hg) hcc λi r c hr hc=>?_;rw[xZu e4] at hc;have hi:=(lGs hc).1;refine e2 i r c ?_ hc;rw[<- htk,List.getElem?_take,if_pos (by omega)];exact hr
theorem vGc (m:Mk)(y:IV)(hy:IsMk m y)(hm:m.f.op<=7)(hk:(yZx m).1≠0)(hsz:m.f.size<=100000)(w:Int)(st:ISt) :
  ICall prog gl 89 [y,.raw (.int .i64 w)] st (λr st'=>∃tg xs,r=.sl tg xs/\okEs tg 1/\IsMkss (yQs m w) xs/\st'=st):=by
 refine ICall.fix ?_;have hls:=yY8 m w;have hll:=yG2 m w;have hLz:=xU4 m w;have hlo:=λst b es hb ht=>vZ3 gl m y hy hm w st b es hb ht hk;obtain⟨o5,n5,t5,x5,t6,x6,rfl,h1⟩:=hy;refine ICall.intro (c:=cf prog gl [] [(1,[1,2,0,3,4])]) func89 rfl (by show _<=35;simp) (by kernel_rfl) ?_;simp only[go_sem,zE,zB,zA,zM,zS,zL,reduceCtorEq,fits];refine (wQt gl _).mono ?_;rintro _ _ ⟨tb,es,htb,rfl,hok,rfl⟩;simp only[go_sem,zE,zB,zA,zM,zS,zL,reduceCtorEq,fits];refine (hlo _ _ _ (ISt.put_same ..) hok).mono ?_;rintro _ st1 ⟨g,gs,xs,hsl,h0,hgg,hrow,hsub⟩;obtain⟨S0,hS0⟩:∃S0,S0=st.put tb (some (.map .sg es)):=⟨_,rfl⟩
 rw[<- hS0] at hsl hrow hsub;rcases hsl with⟨hq,_⟩|⟨_,cap,cs,rfl,hg,hkc,hcc,htk,hgn⟩
 ·omega
 generalize hL:yQs m w=L at *;simp only[go_sem,zE,zB,zA,zM,zS,zL,reduceCtorEq,fits];refine LoopC.ctr L.length (λk fr st' ds=>(st' g=some (.box cs)/\RowsO S0 st' gs L xs/\subSt S0 st')/\fr 5=.iv (.raw (.slice (some ⟨g,0,none⟩) L.length cap))/\fr 14=.iv (.raw (.slice (some ⟨g,0,none⟩) L.length cap))/\fr 15=.iv (.raw (.int .i64 L.length))/\fr 16=.iv (.raw (.int .i64 k))/\ds=[]) ?_ ?_ ?_
 ·simp only[go_sem,zE,zB,zA,zM,zS,zL,reduceCtorEq];exact⟨⟨hg,hrow,hsub⟩,rfl⟩
 ·rintro k fr st2 _ hlt ⟨⟨hg2,hrow2,hsub2⟩,f5,f14,f15,f16,rfl⟩;obtain⟨a,ha⟩:=yQ4 hlt;obtain⟨gk,y,hyk,hgk,hmk,hgk0,hupd⟩:=hrow2.get ha;have hck:cs[k*1]?=some y:=by
   have:(cs.take (L.length*1))[k*1]?=cs[k*1]?:=by rw[List.getElem?_take,if_pos (by omega)]
   rw[<- this,htk,Nat.mul_one];exact hyk
  have hal:=hll a (lMg ha);have hggk:g≠gk:=λh=>hgg (h▸hgk);obtain⟨capk,csk,zsk,rfl,hrest⟩:=hmk;simp only[go_sem,zE,zB,zA,zM,zS,zL,reduceCtorEq,f5,f14,f15,f16,lt_i hlt,hg2,fits,hck,if_pos (show 0<=(k:Int)/\k<L.length from⟨by omega,hlt⟩)];refine LoopC.ctr a.length (λj fr st' ds=>((∀c,c≠gk->st' c=st2 c)/\MksO st' gk a (.raw (.slice (some ⟨gk,0,none⟩) a.length capk)))/\fr 5=.iv (.raw (.slice (some ⟨g,0,none⟩) L.length cap))/\fr 7=.iv (.raw (.slice (some ⟨gk,0,none⟩) a.length capk))/\fr 14=.iv (.raw (.slice (some ⟨g,0,none⟩) L.length cap))/\fr 15=.iv (.raw (.int .i64 L.length))/\fr 16=.iv (.raw (.int .i64 k)) /\
   fr 20=.iv (.raw (.slice (some ⟨gk,0,none⟩) a.length capk))/\fr 21=.iv (.raw (.int .i64 a.length))/\fr 22=.iv (.raw (.int .i64 j))/\ds=[]) ?_ ?_ ?_
  ·simp only[go_sem,zE,zB,zA,zM,zS,zL,reduceCtorEq,f5,f14,f15,f16];exact⟨⟨λ_ _=>trivial,capk,csk,zsk,rfl,hrest⟩,rfl⟩
  ·rintro j fr st3 _ hjt ⟨⟨hoff,capj,csj,zsj,hcap,hgj,hkj,hcj,htj,hzj⟩,f5,f7,f14,f15,f16,f20,f21,f22,rfl⟩;simp only[IV.raw.injEq,Value.slice.injEq,true_and] at hcap;subst hcap;simp only[go_sem,zE,zB,zA,zM,zS,zL,reduceCtorEq,f5,f7,f14,f15,f16,f20,f21,f22,lt_i hjt,hgj,fits,if_pos (show 0<=(j:Int)/\j<a.length from⟨by omega,hjt⟩)];obtain⟨b,hbj⟩:=yQ4 hjt;obtain⟨z,hkz,hz⟩:=hzj.get hbj;obtain⟨r1,r2,r3⟩:=wKa (n:=a.length) (s:=6) (zQd hzj) htj hzj.len hkz;have hz0:=hz;obtain⟨o7,n7,t7,x7,t8,x8,rfl,hf⟩:=hz;have hcp:=λst=>xYp gl b _ hz0 (by have:=hLz a (lMg ha) b (lMg hbj);omega) st;simp only[IV.cells] at r1;simp only[go_sem,zE,zB,zA,zM,zS,zL,reduceCtorEq,r1,if_pos r2,fits];refine (hcp _).mono ?_;rintro r _ ⟨⟨hr,_⟩,rfl⟩;have hr0:=hr;obtain⟨o9,n9,t9,x9,t10,x10,rfl,hf'⟩:=hr;simp only[go_sem,zE,zB,zA,zM,zS,zL,reduceCtorEq,f5,f7,f14,f15,f16,f20,f21,f22,hgj,fits,yQf hjt (show a.length<=281474976710656 by omega),if_pos (show 0<=(j:Int)/\j<a.length from⟨by omega,hjt⟩),if_pos r2];obtain⟨r4,r5⟩:=r3 (.agg [.raw (.bool b.is),.raw (.int .i64 b.w),.raw (.int .u8 o9),.raw (.string n9),.sl t9 x9,.sl t10 x10]) rfl;simp only[IV.cells] at r4 r5;exact⟨λc hc=>by rw[yQb hc];exact hoff c hc,capk,_,_,rfl,ISt.put_same ..,hkj,by rw[r5];exact hcj,r4,wXe hzj hbj hr0⟩
  ·rintro fr st3 _ ⟨⟨hoff,hmk3⟩,f5,f7,f14,f15,f16,f20,f21,f22,rfl⟩;simp only[go_sem,zE,zB,zA,zM,zS,zL,reduceCtorEq,f5,f7,f14,f15,f16,f21,f22,yQo (nLi _),yQf hlt (show L.length<=281474976710656 by omega)];exact⟨by rw[hoff g hggk];exact hg2,hupd _ hoff hmk3,λc o hc=>by rw[hoff c λh=>(by rw[h,hgk0] at hc;cases hc)];exact hsub2 c o hc⟩
 ·rintro fr st2 _ ⟨⟨hg2,hrow2,hsub2⟩,f5,f14,f15,f16,rfl⟩;simp only[go_sem,zE,zB,zA,zM,zS,zL,reduceCtorEq,f5,f15,f16,yQo (nLi _)];obtain⟨x,s1,q1,q2,tg,zs,q3,q4,q5⟩:=vZ2 hg2 hrow2 hll hls hkc hcc htk hgn (by rw[hS0];exact yQg htb) hsub2;exact yQ0 ⟨x,s1,st,q1,q2,tg,zs,q3,q4,q5,rfl⟩
theorem zKm {m:Mk}(hf:fmB 1 m.f=true)(h:(yZx m).1≠0)(w:Int):∀q∈yQs m w,∀b∈q,b.f.size<=m.f.size:=by
 rcases zYd hf h with⟨n,a,he,ha⟩|⟨o,n,a,b,ho,he,ha,hb⟩
 ·obtain⟨is,w',f⟩:=m;simp only at he;subst he;cases is
  ·show ∀q∈[[(⟨true,w',a⟩:Mk)]],_;simp only[List.mem_singleton,forall_eq,Fm.size,yQh,yQ9];omega
  ·show ∀q∈[[(⟨false,w',a⟩:Mk)]],_;simp only[List.mem_singleton,forall_eq,Fm.size,yQh,yQ9];omega
 ·obtain⟨is,w',f⟩:=m;simp only at he;subst he;have hi:(impF a b).size=(Fm.mk o n [] [a,b]).size:=by simp only[impF,Fm.size]
  have hi':(impF b a).size=(Fm.mk o n [] [a,b]).size:=by simp only[impF,Fm.size,yQ9];omega
  have h1:a.size<=(Fm.mk o n [] [a,b]).size:=by simp only[Fm.size,yQ9];omega
  have h2:b.size<=(Fm.mk o n [] [a,b]).size:=by simp only[Fm.size,yQ9];omega
  intro q hq x hx;have h6:∀q∈askT is o a b,∀h∈q,h.2.size<=(Fm.mk o n [] [a,b]).size:=by
   unfold askT
   repeat' split
   all_goals (simp only[List.mem_cons,List.not_mem_nil,or_false,forall_eq_or_imp,forall_eq];(repeat' apply And.intro)<;>omega)
  have h7:(yZx ⟨is,w',.mk o n [] [a,b]⟩).2=2:=by rcases ho with rfl|rfl|rfl|rfl<;>cases is<;>rfl
  unfold yQs at hq;rw[if_neg h,if_pos h7] at hq;obtain⟨l,hl,rfl⟩:=List.mem_map.1 hq;obtain⟨y,hy,rfl⟩:=List.mem_map.1 hx;exact h6 l hl y hy
theorem wX6 {tg:Tag}{es:Nat}(h:okEs tg es){len hh l:Nat}:okEs (yW9 (reTag es tg) len hh l none) es:=by
 have:=yQ3 h;unfold yW9;by_cases h1:(reTag es tg).cap=.nil
 ·rw[if_pos h1];exact .inr this
 ·rw[if_neg h1];by_cases h2:l=0/\hh=len
  ·simp only[if_pos h2];exact .inr this
  ·simp only[if_neg h2];exact .inr this
noncomputable def xXc (l:List Mk)(m:Mk)(c:Bool):List (List Mk):=if c then [] else (yQs m 0).map (yZg l)
theorem wVi (wp:IV)(l:List Mk)(t:Tag)(xs:List IV)(ht:okEs t 6)(hxs:IsMks l xs)(m:Mk)(c:Bool)(w:Int)(sub:List Nd)(z:IV)(hz:IsNd (.mk m c w sub) z)(hc:c=false->m.f.op<=7/\(yZx m).1≠0/\sub.length=(yQs m 0).length)(hs:c=true->sub=[])
  (hsz:m.f.size<=100000) (hl:l.length<=100000) (st:ISt) :
  ICall prog gl 45 [wp,z,.sl t xs] st (λr st'=>∃ts zs tq qs,r=.tup [.sl ts zs,.sl tq qs]/\okEs ts 9/\IsNds sub zs/\okEs tq 1/\IsMkss (xXc l m c) qs/\st'=st):=by
 have hls:=yY8 m 0;have hll:=yG2 m 0;obtain⟨o,n,t1,x1,t2,x2,ts,zs,rfl,h1,h2,h3⟩:=hz.mk;refine iI func45 ?_;cases c
 ·obtain⟨hm,hk,hlen⟩:=hc rfl;have hA:=λst=>vGc gl m _ ⟨_,_,_,_,_,_,rfl,h1⟩ hm hk hsz 0 st;simp only[go_sem,zE,zB,zA,zM,zS,zL,reduceCtorEq,fits];refine (hA _).mono ?_;rintro _ st ⟨tg,qs,rfl,htg,hqs,rfl⟩;have hsl:yXv none (some (min (sub.length:Int) ((yQs m 0).length:Int))) sub.length=some (0,sub.length):=by
   rw[hlen];simp[yXv]
  have htk:List.take sub.length zs=zs:=List.take_of_length_le (by rw[h3.len];exact Nat.le_refl _);simp only[go_sem,zE,zB,zA,zM,zS,zL,reduceCtorEq,fits,h3.len,hqs.len];intro _ _;refine yQm (yQ3 h2) ?_;rw[hsl];simp only[go_sem,zE,zB,zA,zM,zS,zL,reduceCtorEq,htk,h3.len];intro _;refine LoopC.ctr sub.length (λk fr st' ds=>(∃t' ys ts',fr 10=.iv (.sl t' ys)/\IsMkss (((yQs m 0).map (yZg l)).take k) ys/\own st' t' k 1 st/\subSt st st'/\fr 9=.iv (.sl ts' zs)/\okEs ts' 9)/\fr 2=.iv (.sl t xs)/\fr 8=.iv (.sl tg qs)/\fr 27=.iv (.raw (.int .i64 sub.length))/\fr 28=.iv (.raw (.int .i64 k))/\ds=[]) ?_ ?_ ?_
  ·simp only[go_sem,zE,zB,zA,zM,zS,zL,reduceCtorEq];exact⟨⟨_,_,_,rfl,rfl,.inl ⟨rfl,rfl⟩,subSt.refl _,rfl,wX6 h2⟩,rfl⟩
  ·rintro k fr st1 _ hlt ⟨⟨t',ys,ts',f10,hys,hown,hsub,f9,hts⟩,f2,f8,f27,f28,rfl⟩;obtain⟨q,hq⟩:=yQ4 (show k<(yQs m 0).length by omega);obtain⟨tq,zq,hkq,htq,hzq⟩:=hqs.get hq;have hq2:=hll q (lMg hq);have hyl:=hys.len;rw[List.length_take,List.length_map,Nat.min_eq_left (by omega)] at hyl;simp only[go_sem,zE,zB,zA,zM,zS,zL,reduceCtorEq,f2,f8,f9,f10,f27,f28,lt_i hlt,yQ3 htg,iNn,hkq,fits];refine (wG6 gl l t xs hxs q tq zq htq hzq (by omega) _).mono ?_;rintro _ _ ⟨t3,y3,rfl,e3,i3,rfl⟩;simp only[go_sem,zE,zB,zA,zM,zS,zL,reduceCtorEq,f2,f8,f9,f10,f27,f28,fits,yQ1];refine yJj hown hyl hsub rfl (by simp[fits,IV.one]) (by simp only;omega) (by omega) λtg3 st5 hown3 hsub5 _=>?_;simp only[go_sem,zE,zB,zA,zM,zS,zL,reduceCtorEq,f2,f8,f9,f27,f28,yQf hlt (show sub.length<=281474976710656 by omega)];refine⟨tg3,_,ts',rfl,?_,hown3,hsub5,rfl,hts⟩;rw[yQ7 (show ((yQs m 0).map (yZg l))[k]?=some (yZg l q) by rw[List.getElem?_map,hq];rfl)];exact hys.append (IsMkss.one e3 i3)
  ·rintro fr st1 _ ⟨⟨t',ys,ts',f10,hys,hown,hsub,f9,hts⟩,f2,f8,f27,f28,rfl⟩;rw[List.take_of_length_le (by rw[List.length_map];omega)] at hys;simp only[go_sem,zE,zB,zA,zM,zS,zL,reduceCtorEq,f9,f10,f27,f28,yQo (nLi _)];exact yQa hsub ⟨ts',zs,t',ys,rfl,hts,h3,hown.es,hys,rfl⟩
 ·simp only[go_sem,zE,zB,zA,zM,zS,zL,reduceCtorEq,fits];exact yQ0 ⟨_,_,_,_,rfl,.inl rfl,by rw[hs rfl];rfl,.inl rfl,rfl,rfl⟩
def wrI (rb:Nat)(many:Bool):List IV:=[.raw (.map (some rb)),.raw (.bool many)]
theorem wUk (c0 rb:Nat)(many:Bool)(l:List Mk)(t:Tag)(xs:List IV)(ht:okEs t 6)(hxs:IsMks l xs)(m:Mk)(c:Bool)(w:Int)(sub:List Nd)(z:IV)(hz:IsNd (.mk m c w sub) z)(hc:c=false->m.f.op<=7/\(yZx m).1≠0)(st:ISt)(es:List (Value×IV))
  (h0:st c0=some (.box (wrI rb many))) (hb:st rb=some (.map .sg es)) (hok:wV8 es) :
  ICall prog gl 91 [ptrI c0,z,.sl t xs] st (λr st'=>r=.raw (.int .u8 (yU1 l m c))/\st'=st):=by
 obtain⟨o,n,t1,x1,t2,x2,ts,zs,rfl,h1,h2,h3⟩:=hz.mk;unfold wrI at h0;unfold ptrI;have hh:=λst=>wGi gl l t xs ht hxs ⟨!m.is,m.w,m.f⟩ _ ⟨_,_,_,_,_,_,rfl,h1⟩ st;obtain⟨is,mw,⟨o',n',us,sb⟩⟩:=m;obtain⟨_,_,_,_,he,ho,_,_,_,_⟩:=h1.mk;simp only[IV.agg.injEq,List.cons.injEq,IV.raw.injEq,Value.int.injEq,Value.string.injEq,IV.sl.injEq,true_and,and_true] at he;obtain⟨rfl,rfl,⟨rfl,rfl⟩,rfl,rfl⟩:=he;refine ICall.intro (c:=cf prog gl [14] []) func91 rfl (by show _<=33;simp) (by kernel_rfl) ?_;cases c
 ·obtain⟨hm,hk⟩:=hc rfl;have hf:yZy (.agg #[.bool is,.int .u8 (o':Int)]) es=some (.raw (.int .u8 (yVg is o'))):=by
   obtain⟨r,hr,_⟩:=yWn hk;simp only[Fm.op] at hr hm;have ho':o'=3\/o'=4\/o'=5\/o'=6\/o'=7:=by
    refine Classical.byContradiction λhq=>?_;unfold rowT at hr
    repeat (rw[if_neg (by omega)] at hr)
    cases hr
   rcases ho' with rfl|rfl|rfl|rfl|rfl<;>cases is
   ·exact hok.2.2 1 (by decide)
   ·exact hok.2.2 0 (by decide)
   ·exact hok.2.2 3 (by decide)
   ·exact hok.2.2 2 (by decide)
   ·exact hok.2.2 5 (by decide)
   ·exact hok.2.2 4 (by decide)
   ·exact hok.2.2 7 (by decide)
   ·exact hok.2.2 6 (by decide)
   ·exact hok.2.2 9 (by decide)
   ·exact hok.2.2 8 (by decide)
  simp only[go_sem,zE,zB,zA,zM,zS,zL,reduceCtorEq,fits,h0,hb];refine yQm (by simp;omega) ?_;simp only[go_sem,zE,zB,zA,zM,zS,zL,reduceCtorEq,hf,show zZh false (some (IV.raw (.int .u8 (yVg is o')))) (IV.raw (.int .u8 0))=some (IV.raw (.int .u8 (yVg is o'))) from rfl];exact yQ0 ⟨rfl,rfl⟩
 ·simp only[go_sem,zE,zB,zA,zM,zS,zL,reduceCtorEq,fits];refine (hh _).mono ?_;rintro _ st ⟨rfl,rfl⟩;unfold yU1;cases hq:hasT l ⟨!is,mw,.mk o' n us sb⟩
  ·simp only[go_sem,zE,zB,zA,zM,zS,zL,reduceCtorEq];exact yQ0 ⟨rfl,rfl⟩
  ·simp only[go_sem,zE,zB,zA,zM,zS,zL,reduceCtorEq];exact yQ0 ⟨rfl,rfl⟩
