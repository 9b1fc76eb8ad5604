/- Walks: steps, height and cuts of a tree. -/
import Derived.Test.YtgiilhcddbhffaaGreatDoorQE
import Derived.Test.YtgiilhcddbhffaaGreatDoorQA
import Derived.Test.YtgiilhcddbhffaaGreatDoorQC
import Derived.Test.YtgiilhcddbhffaaGreatDoorQB
import Derived.Test.YtgiilhcddbhffaaGreatDoorKE
import Derived.Test.YtgiilhcddbhffaaGreatDoorJM
import Derived.Test.YtgiilhcddbhffaaGreatDoorJW
import Derived.OpenShut
import Derived.WalkKit
import Derived.ProofKit
import Derived.Deep.DeepHandedRow
import Derived.Lib.LaidTab
import Derived.Carry
import Derived.RowKit
import Derived.RowKitTokens
import Derived.FnData
set_option linter.all false
namespace Go.Proofs.Tryz
open Go Go.Iv
set_option maxRecDepth 4000
variable (gl:Nat→Option IV)
theorem xZg {p:List Nat}{k a:Nat}(h:p[k]?=some a):(plI p)[k]?=some (.raw (.int .i64 (a:Int))):=by simp[plI,List.getElem?_map,h]
theorem zV6 (p q:List Nat):plI (p++q)=plI p++plI q:=by simp[plI]
def sumN:List Nat→Nat
 | []=>0
 | a::l=>a+sumN l
theorem yGp:∀ l m:List Nat,sumN (l++m)=sumN l+sumN m
 | [],m=>by simp[sumN]
 | a::l,m=>by simp only[List.cons_append,sumN,yGp l m]; omega
theorem xGd (l:List Nat)(k:Nat):sumN (l.take k)≤sumN l:=by
 conv=>rhs; rw[← List.take_append_drop k l]
 rw[yGp]; omega
def maxN:List Nat→Nat
 | []=>0
 | a::l=>max a (maxN l)
theorem yGs:∀ l m:List Nat,maxN (l++m)=max (maxN l) (maxN m)
 | [],m=>by simp[maxN]
 | a::l,m=>by simp only[List.cons_append,maxN,yGs l m]; omega
theorem vZc (tg:Tag)(l:List Nat)(htg:okEs tg 1)(hs:sumN l≤4611686018427387904)(st:ISt):ICall prog gl 93 [.sl tg (plI l)] st (fun r st'=>r=.raw (.int .i64 (sumN l))∧st'=st):=by
 refine iI func93 rfl rfl (by kernel_rfl) ?_
 simp(config:=zzC)only[go_sem,yV1]
 intro _
 refine LoopC.ctr l.length (fun k fr st' ds=>fr 3=.iv (.raw (.int .i64 (sumN (l.take k))))∧fr 6=.iv (.sl tg (plI l))∧fr 7=.iv (.raw (.int .i64 l.length))∧fr 8=.iv (.raw (.int .i64 k))∧st'=st∧ds=[]) ?_ ?_ ?_
 ·simp(config:=zzC)only[go_sem]
  simp[sumN]
 ·rintro k fr st1 _ hlt ⟨f3,f6,f7,f8,rfl,rfl⟩
  obtain⟨a,ha⟩:=yQ5 hlt
  have h1:=xGd l (k+1)
  have h2:sumN (l.take (k+1))=sumN (l.take k)+a:=by rw[yQ6 ha,yGp]; rfl
  have h3:IntKind.i64.wrap (((sumN (l.take k):Nat):Int)+(a:Int))=((sumN (l.take (k+1)):Nat):Int):=by rw[w64]<;>omega
  simp(config:=zzC)only[go_sem,f3,f6,f7,f8,lt_i hlt,yQ1 htg,iNn,xZg ha,fits,h3,yQf hlt (show l.length≤281474976710656 by omega)]
 ·rintro fr st1 _ ⟨f3,f6,f7,f8,rfl,rfl⟩
  rw[lTl] at f3
  simp(config:=zzC)only[go_sem,f3,f6,f7,f8,yQt (nLi _)]
  exact yQ0 ⟨rfl,rfl⟩
theorem uX9 (a b:Nat):max (a:Int) (b:Int)=((max a b:Nat):Int):=by omega
theorem uWm (tg:Tag)(l:List Nat)(htg:okEs tg 1)(hl:0<l.length)(st:ISt):ICall prog gl 95 [.sl tg (plI l)] st (fun r st'=>r=.raw (.int .i64 (maxN l))∧st'=st):=by
 obtain⟨a0,ha0⟩:=yQ5 hl
 have d1:decide (((l.length:Nat):Int)<1)=false:=dEf (by omega)
 have t1:l.take 1=[a0]:=by
  have:=yQ6 ha0
  simpa using this
 refine iI func95 rfl rfl (by kernel_rfl) ?_
 simp(config:=zzC)only[go_sem,yV1]
 intro hlen
 simp(config:=zzC)only[go_sem,d1,yQ1 htg,Int.le_refl,Int.toNat_zero,xZg ha0,fits]
 refine LoopC.ctr (l.length - 1) (fun k fr st' ds=>fr 3=.iv (.raw (.int .i64 (maxN (l.take (k+1)))))∧fr 0=.iv (.sl tg (plI l))∧fr 4=.iv (.raw (.int .i64 ((k+1:Nat):Int)))∧st'=st∧ds=[]) ?_ ?_ ?_
 ·simp(config:=zzC)only[go_sem,t1]
  simp[maxN]
 ·rintro k fr st1 _ hlt ⟨f3,f0,f4,rfl,rfl⟩
  obtain⟨a,ha⟩:=yQ5 (l:=l) (k:=k+1) (by omega)
  have h2:maxN (l.take (k+1+1))=max (maxN (l.take (k+1))) a:=by rw[yQ6 ha,yGs]; simp[maxN]
  simp(config:=zzC)only[go_sem,f3,f0,f4,yV1,lt_i (show k+1<l.length by omega),yQ1 htg,iNn,xZg ha,fits,uX9,yQf (show k+1<l.length by omega) (show l.length≤281474976710656 by omega)]
  intro _
  rw[h2]
 ·rintro fr st1 _ ⟨f3,f0,f4,rfl,rfl⟩
  rw[show l.length - 1+1=l.length by omega] at f3 f4
  rw[lTl] at f3
  simp(config:=zzC)only[go_sem,f3,f0,f4,yV1,yQt (nLi _)]
  intro _
  exact yQ0 ⟨rfl,rfl⟩
def wJ3:Tr→List Tr
 | .mk _ _ _ _ _ sub=>sub
def zW5 (g:Nat)(v:Tr→Nat):Prop:=∀ (t:Tr) (l:List Nat) (x:IV) (tg:Tag) (st0 st:ISt),IsTr t x→t.steps≤1099511627776→l=(wJ3 t).map v→own st tg l.length 1 st0→subSt st0 st →
 ICall prog gl g [x,.sl tg (plI l)] st (fun r st'=>r=.raw (.int .i64 (v t))∧subSt st0 st')
theorem zGa:∀ {l:List Tr}{t:Tr},t∈l→t.steps≤yQp l
 | a::l,t,h=>by
  simp only[yQp]
  rcases List.mem_cons.1 h with rfl | h
  ·omega
  ·have:=zGa h; omega
theorem yYc:∀ l:List Tr,l.length≤yQp l
 | []=>Nat.le_refl _
 | .mk _ _ _ _ _ s::l=>by
  have:=yYc l
  simp only[List.length_cons,yQp,Tr.steps]; omega
def wVa (v:Tr→Nat)(g:Nat)(t:Tr):Prop:=∀ (x:IV) (_:IsTr t x) (_:t.steps≤1099511627776) (st:ISt),ICall prog gl 91 [x,.fn (.func g) [] []] st (fun r st'=>r=.raw (.int .i64 (v t))∧st'=st)
theorem wZ2 (v:Tr→Nat)(g:Nat)(hent:entI prog g=true)(hg:zW5 gl g v)(rule:Nat)(sq:Sq)(f:Fm)(u:Tm)(n:ByteArray)(sub:List Tr)(IH:∀ a∈sub,wVa gl v g a):wVa gl v g (.mk rule sq f u n sub):=by
 intro x hx hs st
 have hx0:=hx
 obtain⟨tl,xl,tr,xr,op,fn,ta,xa,tb,xb,vb,un,tu,xu,ts,xs,rfl,hru,_,_,_,_,_,_,e3,i3⟩:=hx.mk
 have hs0:=hs
 simp only[Tr.steps] at hs
 have hll:=yYc sub
 refine iI func91 rfl rfl (by kernel_rfl) ?_
 simp(config:=zzC)only[go_sem,fits,i3.len]
 intro _
 refine LoopC.ctr sub.length (fun k fr st' ds=>(∃ tg',fr 5=.iv (.sl tg' (plI ((sub.take k).map v)))∧own st' tg' k 1 st∧subSt st st')∧fr 1=.iv (.fn (.func g) [] [])∧fr 2=.box [.raw (.int .u8 rule),.sl tl xl,.sl tr xr,.raw (.int .u8 op),.raw (.string fn),.sl ta xa,.sl tb xb,.raw (.bool vb),.raw (.string un),.sl tu xu,.raw (.string n),.sl ts xs] ∧
  fr 9=.iv (.sl ts xs)∧fr 10=.iv (.raw (.int .i64 sub.length))∧fr 11=.iv (.raw (.int .i64 k))∧ds=[]) ?_ ?_ ?_
 ·simp(config:=zzC)only[go_sem]
  exact⟨⟨_,rfl,.inl ⟨rfl,rfl⟩,subSt.refl _⟩,rfl⟩
 ·rintro k fr st1 _ hlt ⟨⟨tg',f5,hown,hsub⟩,f1,f2,f9,f10,f11,rfl⟩
  obtain⟨a,ha⟩:=yQ5 hlt
  obtain⟨z,hkz,hz⟩:=i3.get ha
  have hst:=zGa (lMg ha)
  have hcall:=IH a (lMg ha) z hz (by omega) st1
  obtain⟨rule',tl',xl',tr',xr',op',fn',ta',xa',tb',xb',v',un',tu',xu',n',ts',xs',rfl⟩:=zZ7 hz
  simp(config:=zzC)only[go_sem,f1,f2,f5,f9,f10,f11,lt_i hlt,yQ1 e3,iNn,hkz,fits]
  refine hcall.mono ?_
  rintro _ _ ⟨rfl,rfl⟩
  simp(config:=zzC)only[go_sem,f1,f2,f5,f9,f10,f11,fits,zJ7]
  refine yXl hown (by rw[yV1,List.length_map,List.length_take]; omega) hsub rfl (by simp[fits,IV.one]) (by simp only; omega) (by omega) fun tg2 st4 hown2 hsub4 _ _=>?_
  simp(config:=zzC)only[go_sem,f1,f2,f5,f9,f10,f11,fits,yQf hlt (show sub.length≤281474976710656 by omega)]
  exact⟨tg2,by rw[yQ6 ha,List.map_append,zV6]; rfl,hown2,hsub4⟩
 ·rintro fr st1 _ ⟨⟨tg',f5,hown,hsub⟩,f1,f2,f9,f10,f11,rfl⟩
  rw[lTl] at f5
  have hcall:=hg _ (sub.map v) _ tg' st st1 hx0 hs0 rfl (by rw[List.length_map]; exact hown) hsub
  simp(config:=zzC)only[go_sem,f1,f2,f5,f10,f11,yQt (nLi _),fits,hent]
  refine hcall.mono ?_
  rintro _ st2 ⟨rfl,hsub2⟩
  simp(config:=zzC)only[go_sem,fits]
  exact yQb hsub2 ⟨rfl,rfl⟩
theorem xV0 (v:Tr→Nat)(g:Nat)(hent:entI prog g=true)(hg:zW5 gl g v):∀ (k:Nat) (t:Tr),SizeOf.sizeOf t<k→wVa gl v g t
 | 0,t,h=>by omega
 | k+1,.mk r sq f u n sub,h=>wZ2 gl v g hent hg r sq f u n sub (fun a ha=>xV0 v g hent hg k a (by
   have:=lSm ha
   simp at h; omega))
theorem wZ3 (v:Tr→Nat)(g:Nat)(hent:entI prog g=true)(hg:zW5 gl g v)(t:Tr):wVa gl v g t:=xV0 gl v g hent hg _ t (Nat.lt_succ_self _)
theorem zX9:∀ l:List Tr,sumN (l.map Tr.steps)=yQp l
 | []=>rfl
 | a::l=>by simp only[List.map_cons,sumN,yQp,zX9 l]
theorem zWg:∀ l:List Tr,sumN (l.map Tr.cuts)=yYk l
 | []=>rfl
 | a::l=>by simp only[List.map_cons,sumN,yYk,zWg l]
theorem zXz:∀ l:List Tr,maxN (l.map Tr.height)=yZm l
 | []=>rfl
 | a::l=>by simp only[List.map_cons,maxN,yZm,zXz l]
mutual
theorem wGy:∀ t:Tr,t.cuts≤t.steps
 | .mk _ _ _ _ _ sub=>by
  have:=zQo sub
  simp only[Tr.cuts,Tr.steps]
  split<;>omega
theorem zQo:∀ l:List Tr,yYk l≤yQp l
 | []=>Nat.le_refl _
 | a::l=>by
  have:=wGy a
  have:=zQo l
  simp only[yYk,yQp]; omega
end
mutual
theorem wQu:∀ t:Tr,t.height≤t.steps
 | .mk _ _ _ _ _ sub=>by
  have:=yYh sub
  simp only[Tr.height,Tr.steps]; omega
theorem yYh:∀ l:List Tr,yZm l≤yQp l
 | []=>Nat.le_refl _
 | a::l=>by
  have:=wQu a
  have:=yYh l
  simp only[yZm,yQp]; omega
end
theorem wZ4:zW5 gl 92 Tr.steps:=by
 rintro⟨rule,s,m,u,n,sub⟩ l x tg st0 st hx hs rfl hown hsub
 simp only[wJ3] at hown ⊢
 simp only[Tr.steps] at hs
 have hsum:=fun st=>vZc gl tg (sub.map Tr.steps) hown.es (by rw[zX9]; omega) st
 have hw:IntKind.i64.wrap (1+((yQp sub:Nat):Int))=((1+yQp sub:Nat):Int):=by rw[w64]<;>omega
 rw[zX9] at hsum
 obtain⟨rule',tl',xl',tr',xr',op',fn',ta',xa',tb',xb',v',un',tu',xu',n',ts',xs',rfl⟩:=zZ7 hx
 refine iI func92 rfl rfl (by kernel_rfl) ?_
 simp(config:=zzC)only[go_sem,fits]
 refine (hsum _).mono ?_
 rintro _ _ ⟨rfl,rfl⟩
 simp(config:=zzC)only[go_sem,hw,fits]
 exact yQ0 ⟨by simp only[Tr.steps],hsub⟩
theorem wK9:zW5 gl 96 Tr.cuts:=by
 rintro⟨rule,s,m,u,n,sub⟩ l x tg st0 st hx hs rfl hown hsub
 simp only[wJ3] at hown ⊢
 simp only[Tr.steps] at hs
 have hcs:=zQo sub
 have hsum:=fun st=>vZc gl tg (sub.map Tr.cuts) hown.es (by rw[zWg]; omega) st
 have hw:IntKind.i64.wrap (1+((yYk sub:Nat):Int))=((1+yYk sub:Nat):Int):=by rw[w64]<;>omega
 rw[zWg] at hsum
 obtain⟨tl',xl',tr',xr',op',fn',ta',xa',tb',xb',v',un',tu',xu',ts',xs',rfl,_⟩:=hx.mk
 refine iI func96 rfl rfl (by kernel_rfl) ?_
 by_cases h:rule=17
 ·have d:decide ((rule:Int)=17)=true:=dEt (by omega)
  simp(config:=zzC)only[go_sem,fits,d]
  refine (hsum _).mono ?_
  rintro _ _ ⟨rfl,rfl⟩
  simp(config:=zzC)only[go_sem,hw,fits]
  exact yQ0 ⟨by simp only[Tr.cuts,if_pos h],hsub⟩
 ·have d:decide ((rule:Int)=17)=false:=dEf (by omega)
  simp(config:=zzC)only[go_sem,fits,d]
  refine (hsum _).mono ?_
  rintro _ _ ⟨rfl,rfl⟩
  simp(config:=zzC)only[go_sem,fits]
  exact yQ0 ⟨by simp only[Tr.cuts,if_neg h,Nat.zero_add],hsub⟩
theorem xY6:zW5 gl 94 Tr.height:=by
 rintro⟨rule,s,m,u,n,sub⟩ l x tg st0 st hx hs rfl hown hsub
 simp only[wJ3] at hown ⊢
 simp only[Tr.steps] at hs
 have hcs:=yYh sub
 have hll:=yYc sub
 have hw:IntKind.i64.wrap (1+((yZm sub:Nat):Int))=((1+yZm sub:Nat):Int):=by rw[w64]<;>omega
 have hm:maxN (sub.map Tr.height++[0])=yZm sub:=by rw[yGs,zXz]; simp[maxN]
 obtain⟨rule',tl',xl',tr',xr',op',fn',ta',xa',tb',xb',v',un',tu',xu',n',ts',xs',rfl⟩:=zZ7 hx
 refine iI func94 rfl rfl (by kernel_rfl) ?_
 simp(config:=zzC)only[go_sem,fits,yQ2]
 refine yXl hown (by rw[yV1]) hsub rfl (by simp[fits,IV.one]) (by simp only[List.length_map]; omega) (by simp only[List.length_map]; omega) fun tg2 st4 hown2 hsub4 _ _=>?_
 have hmax:=fun st=>uWm gl tg2 (sub.map Tr.height++[0]) hown2.es (by simp) st
 rw[hm,zV6] at hmax
 simp(config:=zzC)only[go_sem,fits]
 refine (hmax _).mono ?_
 rintro _ _ ⟨rfl,rfl⟩
 simp(config:=zzC)only[go_sem,hw,fits]
 exact yQ0 ⟨by simp only[Tr.height],hsub4⟩
theorem wUe (t:Tr)(x:IV)(hx:IsTr t x)(hs:t.steps≤1099511627776)(st:ISt):ICall prog gl 41 [x] st (fun r st'=>r=.raw (.int .i64 (t.steps))∧st'=st):=by
 have hf:=fun st=>wZ3 gl Tr.steps 92 (by simp only[go_sem]) (wZ4 gl) t x hx hs st
 obtain⟨rule',tl',xl',tr',xr',op',fn',ta',xa',tb',xb',v',un',tu',xu',n',ts',xs',rfl⟩:=zZ7 hx
 refine iI func41 rfl rfl (by kernel_rfl) ?_
 simp(config:=zzC)only[go_sem,fits]
 refine (hf _).mono ?_
 rintro _ _ ⟨rfl,rfl⟩
 simp(config:=zzC)only[go_sem,fits]
 exact yQ0 ⟨rfl,rfl⟩
theorem wV9 (t:Tr)(x:IV)(hx:IsTr t x)(hs:t.steps≤1099511627776)(st:ISt):ICall prog gl 42 [x] st (fun r st'=>r=.raw (.int .i64 (t.height))∧st'=st):=by
 have hf:=fun st=>wZ3 gl Tr.height 94 (by simp only[go_sem]) (xY6 gl) t x hx hs st
 obtain⟨rule',tl',xl',tr',xr',op',fn',ta',xa',tb',xb',v',un',tu',xu',n',ts',xs',rfl⟩:=zZ7 hx
 refine iI func42 rfl rfl (by kernel_rfl) ?_
 simp(config:=zzC)only[go_sem,fits]
 refine (hf _).mono ?_
 rintro _ _ ⟨rfl,rfl⟩
 simp(config:=zzC)only[go_sem,fits]
 exact yQ0 ⟨rfl,rfl⟩
theorem vKp (t:Tr)(x:IV)(hx:IsTr t x)(hs:t.steps≤1099511627776)(st:ISt):ICall prog gl 43 [x] st (fun r st'=>r=.raw (.int .i64 (t.cuts))∧st'=st):=by
 have hf:=fun st=>wZ3 gl Tr.cuts 96 (by simp only[go_sem]) (wK9 gl) t x hx hs st
 obtain⟨rule',tl',xl',tr',xr',op',fn',ta',xa',tb',xb',v',un',tu',xu',n',ts',xs',rfl⟩:=zZ7 hx
 refine iI func43 rfl rfl (by kernel_rfl) ?_
 simp(config:=zzC)only[go_sem,fits]
 refine (hf _).mono ?_
 rintro _ _ ⟨rfl,rfl⟩
 simp(config:=zzC)only[go_sem,fits]
 exact yQ0 ⟨rfl,rfl⟩
mutual
def wTr:Tr→Nat
 | .mk _ s f u n sub=>wFms s.l+wFms s.r+wFm f+wTm u+n.size+wTrs sub
def wTrs:List Tr→Nat
 | []=>0
 | a::l=>wTr a+wTrs l
end
def xZp (s:Sq)(f:Fm)(u:Tm)(n:ByteArray):Bool:=decide (wFms s.l+wFms s.r≤300)&&!decide (300<wFm f)&&!decide (300<wTm u)&&!decide (100<n.size)
mutual
def okT:Tr→Bool
 | .mk _ s f u n sub=>xZp s f u n&&okTs sub
def okTs:List Tr→Bool
 | []=>true
 | a::l=>okT a&&okTs l
end
theorem yGr:∀ l m:List Tr,okTs (l++m)=(okTs l&&okTs m)
 | [],m=>by simp[okTs]
 | a::l,m=>by simp only[List.cons_append,okTs,yGr l m,Bool.and_assoc]
theorem xUd {l:List Tr}{k:Nat}{a:Tr}(h:l[k]?=some a):okTs (l.take (k+1))=(okTs (l.take k)&&okT a):=by
 rw[yQ6 h,yGr]; simp[okTs]
theorem wG0 (l:List Tr)(k:Nat)(h:okTs l=true):okTs (l.take k)=true:=by
 rw[← List.take_append_drop k l,yGr,bAt] at h
 exact h.1
theorem xQx {l:List Tr}{k:Nat}{a:Tr}(h:l[k]?=some a):yQp (l.take (k+1))=yQp (l.take k)+a.steps:=by
 rw[yQ6 h,yKy]; simp[yQp]
theorem xGf (l:List Tr)(k:Nat):yQp (l.take k)≤yQp l:=by
 conv=>rhs; rw[← List.take_append_drop k l]
 rw[yKy]; omega
theorem xJ5:∀ {l:List Tr}{t:Tr},t∈l→wTr t≤wTrs l
 | a::l,t,h=>by
  simp only[wTrs]
  rcases List.mem_cons.1 h with rfl | h
  ·omega
  ·have:=xJ5 h; omega
theorem Sum.gt {w:Nat}{r:IV}(h:Sum w 300 r):∃ n:Nat,r=.raw (.int .i64 n)∧decide ((300:Int)<(n:Int))=decide (300<w):=by
 obtain⟨n,rfl,h1,h2⟩:=h
 refine⟨n,rfl,?_⟩
 rw[decide_eq_decide]
 constructor
 ·intro h; omega
 ·intro h
  rcases Int.lt_or_le 300 (n:Int) with hn | hn
  ·exact hn
  ·have:=h2 hn; omega
def Left (t:Tr)(left:Int)(r:Int):Prop:=-1≤r∧r≤left∧(0≤r↔okT t=true∧(t.steps:Int)≤left)∧(0≤r→r=left - t.steps)
def sC (t:Tr):Prop:=∀ (x:IV) (_:IsTr t x) (left:Int) (_:0≤left∧left≤1000) (_:wTr t≤1099511627776) (st:ISt),
 ICall prog gl 46 [x,.raw (.int .i64 left)] st (fun r st'=>(∃ n:Int,r=.raw (.int .i64 n)∧Left t left n)∧st'=st)
theorem xW7 (rule:Nat)(s:Sq)(f:Fm)(u:Tm)(n:ByteArray)(sub:List Tr)(IH:∀ a∈sub,sC gl a):sC gl (.mk rule s f u n sub):=by
 intro x hx left hl hw st
 obtain⟨tl,xl,tr,xr,op,fn,ta,xa,tb,xb,v,un,tu,xu,ts,xs,rfl,hru,e1,i1,e2,i2,hy,hz,e3,i3⟩:=hx.mk
 simp only[wTr] at hw
 have hfew:=fun st=>uWn gl s _ ⟨tl,xl,tr,xr,rfl,e1,i1,e2,i2⟩ ⟨by omega,by omega⟩ st
 have hsz:=fun st=>zXo gl [f] ⟨true,.full,4⟩ _ (.inr rfl) ⟨_,_,rfl,hy,rfl⟩ 300 ⟨by omega,by omega⟩ (by simp only[wFms]; omega) st
 have htm:=fun st=>xJy gl [u] ⟨true,.full,3⟩ _ (.inr rfl) ⟨_,_,rfl,hz,rfl⟩ 300 ⟨by omega,by omega⟩ (by simp only[wTms]; omega) st
 have hbad:xZp s f u n=false→Left (.mk rule s f u n sub) left (-1):=fun h=>by
  refine⟨by omega,by omega,⟨fun h=>by omega,fun h'=>?_⟩,fun h=>by omega⟩
  simp only[okT,h,Bool.false_and,bFt,false_and] at h'
 refine iI func46 rfl rfl (by kernel_rfl) ?_
 simp(config:=zzC)only[go_sem,fits]
 refine (hfew _).mono ?_
 rintro _ st ⟨rfl,rfl⟩
 unfold xZp at hbad
 cases q1:decide (wFms s.l+wFms s.r≤300)
 ·simp(config:=zzC)only[go_sem,fits,q1]
  exact yQ0 ⟨⟨-1,rfl,hbad (by rw[q1]; rfl)⟩,rfl⟩
 simp(config:=zzC)only[go_sem,fits,q1,yQ2]
 refine (hsz _).mono ?_
 rintro _ st ⟨hS,rfl⟩
 obtain⟨m,rfl,hd⟩:=hS.gt
 rw[show wFms [f]=wFm f from by simp[wFms]] at hd
 cases q2:decide (300<wFm f)
 case true =>
  rw[q2] at hd
  simp(config:=zzC)only[go_sem,fits,hd]
  exact yQ0 ⟨⟨-1,rfl,hbad (by rw[q1,q2]; rfl)⟩,rfl⟩
 rw[q2] at hd
 simp(config:=zzC)only[go_sem,fits,hd,yQ2]
 refine (htm _).mono ?_
 rintro _ st ⟨hS2,rfl⟩
 obtain⟨m2,rfl,hd2⟩:=hS2.gt
 rw[show wTms [u]=wTm u from by simp[wTms]] at hd2
 cases q3:decide (300<wTm u)
 case true =>
  rw[q3] at hd2
  simp(config:=zzC)only[go_sem,fits,hd2]
  exact yQ0 ⟨⟨-1,rfl,hbad (by rw[q1,q2,q3]; rfl)⟩,rfl⟩
 rw[q3] at hd2
 have hdn:decide ((100:Int)<((n.size:Nat):Int))=decide (100<n.size):=by rw[decide_eq_decide]; omega
 cases q4:decide (100<n.size)
 case true =>
  rw[q4] at hdn
  simp(config:=zzC)only[go_sem,fits,hd2,hdn]
  intro _
  exact yQ0 ⟨⟨-1,rfl,hbad (by rw[q1,q2,q3,q4]; rfl)⟩,rfl⟩
 rw[q4] at hdn
 have hnode:xZp s f u n=true:=by unfold xZp; rw[q1,q2,q3,q4]; rfl
 have wl:IntKind.i64.wrap (left - 1)=left - 1:=w64 (by omega) (by omega)
 simp(config:=zzC)only[go_sem,fits,hd2,hdn,wl]
 intro _
 refine LoopC.ctr sub.length (fun k fr st' ds=>(∃ l:Int,fr 1=.iv (.raw (.int .i64 l)) ∧ -1≤l∧l≤left - 1∧(0≤l↔okTs (sub.take k)=true∧((yQp (sub.take k):Nat):Int)+1≤left)∧(0≤l→l=left - 1 - (yQp (sub.take k):Nat))) ∧
  fr 2=.box [.raw (.int .u8 rule),.sl tl xl,.sl tr xr,.raw (.int .u8 op),.raw (.string fn),.sl ta xa,.sl tb xb,.raw (.bool v),.raw (.string un),.sl tu xu,.raw (.string n),.sl ts xs]∧fr 5=.iv (.raw (.int .i64 k))∧st'=st∧ds=[]) ?_ ?_ ?_
 ·simp(config:=zzC)only[go_sem]
  exact⟨⟨left - 1,rfl,by omega,by omega,⟨fun h=>⟨rfl,by simp only[yQp]; omega⟩,fun h=>by have:=h.2; simp only[yQp] at this; omega⟩,fun _=>by simp only[yQp]; omega⟩,rfl⟩
 ·rintro k fr st1 _ hlt ⟨⟨l,f1,hl1,hl2,hl3,hl4⟩,f2,f5,rfl,rfl⟩
  obtain⟨a,ha⟩:=yQ5 hlt
  obtain⟨z,hkz,hzz⟩:=i3.get ha
  have hoks:=xUd ha
  have hst:=xQx ha
  by_cases hle:(0:Int)≤l
  ·have hcall:=fun st=>IH a (lMg ha) z hzz l ⟨hle,by omega⟩ (by have:=xJ5 (lMg ha); omega) st
   obtain⟨rule',tl',xl',tr',xr',op',fn',ta',xa',tb',xb',v',un',tu',xu',n',ts',xs',rfl⟩:=zZ7 hzz
   simp(config:=zzC)only[go_sem,f1,f2,f5,i3.len,lt_i hlt,dEt hle,yQ1 e3,iNn,hkz,fits]
   intro _
   refine (hcall _).mono ?_
   rintro _ st2 ⟨⟨r,rfl,hr1,hr2,hr3,hr4⟩,rfl⟩
   simp(config:=zzC)only[go_sem,f1,f2,f5,fits,yQf hlt (show sub.length≤281474976710656 by omega)]
   have g3:=hl3.1 hle
   have g4:=hl4 hle
   refine⟨r,rfl,hr1,by omega,?_,fun h=>by have:=hr4 h; rw[hst]; omega⟩
   rw[hoks,hst,g3.1,Bool.true_and]
   constructor
   ·intro h
    have:=hr3.1 h
    exact⟨this.1,by omega⟩
   ·intro h
    exact hr3.2 ⟨h.1,by have:=h.2; omega⟩
  ·simp(config:=zzC)only[go_sem,f1,f2,f5,i3.len,lt_i hlt,dEf hle]
   intro _
   refine yQ0 ⟨⟨l,rfl,hl1,by omega,⟨fun h=>absurd h hle,fun h=>?_⟩,fun h=>absurd h hle⟩,rfl⟩
   have h1:=h.1
   have h2:=h.2
   simp only[okT,hnode,Bool.true_and] at h1
   simp only[Tr.steps] at h2
   have h3:=xGf sub k
   exact absurd (hl3.2 ⟨wG0 sub k h1,by omega⟩) hle
 ·rintro fr st1 _ ⟨⟨l,f1,hl1,hl2,hl3,hl4⟩,f2,f5,rfl,rfl⟩
  rw[lTl] at hl3 hl4
  simp(config:=zzC)only[go_sem,f1,f2,f5,i3.len,yQt (nLi _)]
  intro _
  refine yQ0 ⟨⟨l,rfl,hl1,by omega,?_,fun h=>by have:=hl4 h; simp only[Tr.steps]; omega⟩,rfl⟩
  simp only[okT,hnode,Bool.true_and,Tr.steps]
  constructor
  ·intro h
   have:=hl3.1 h
   exact⟨this.1,by omega⟩
  ·intro h
   exact hl3.2 ⟨h.1,by have:=h.2; omega⟩
theorem zGi:∀ (k:Nat)(t:Tr),SizeOf.sizeOf t<k→sC gl t
 | 0,t,h=>by omega
 | k+1,.mk r sq f u n sub,h=>xW7 gl r sq f u n sub (fun a ha=>zGi k a (by
   have:=lSm ha
   simp at h; omega))
theorem wJj (t:Tr):sC gl t:=zGi gl _ t (Nat.lt_succ_self _)
theorem wV4 (t:Tr)(x:IV)(hx:IsTr t x)(hw:wTr t≤1099511627776)(st:ISt):ICall prog gl 12 [x] st (fun r st'=>r=.raw (.bool (okT t&&decide (t.steps≤60)))∧st'=st):=by
 have hs:=fun st=>wJj gl t x hx 60 ⟨by omega,by omega⟩ hw st
 obtain⟨rule',tl',xl',tr',xr',op',fn',ta',xa',tb',xb',v',un',tu',xu',n',ts',xs',rfl⟩:=zZ7 hx
 refine iI func12 rfl rfl (by kernel_rfl) ?_
 simp(config:=zzC)only[go_sem,fits]
 refine (hs _).mono ?_
 rintro _ st ⟨⟨r,rfl,h1,h2,h3,h4⟩,rfl⟩
 have hd:decide ((0:Int)≤r)=(okT t&&decide (t.steps≤60)):=by
  rw[Bool.eq_iff_iff,dTe,h3,bAt,dTe]
  constructor<;>intro h<;>exact⟨h.1,by have:=h.2; omega⟩
 simp(config:=zzC)only[go_sem,hd]
 exact yQ0 ⟨rfl,rfl⟩
end Go.Proofs.Tryz
namespace Go.Proofs.Tryz
open Go Go.Iv
set_option maxRecDepth 8000
theorem yK9 {ca:Nat}{s:Sq}{rule:Nat}{main:Fm}{term:Tm}{name:ByteArray}{r:Rw}{ad:List Sq}(h1:yXe ca s=true)(h2:rowS ca rule=some r)(h3:yXw ca rule r main term name=(ad,0))
  (h4:r.left=true→hasF s.l main=true) (h5:r.right=true→hasF s.r main=true) (h6:r.asks≠2):yZv ca s rule main term name=(ad,0):=by
 unfold yZv
 rw[h1,h2]
 simp only[Bool.not_true,bFt,if_false,h3]
 obtain⟨rl,rr,op,asks⟩:=r
 simp only at h4 h5 h6 ⊢
 have e1:(rl&&!hasF s.l main)=false:=by
  cases rl
  ·rfl
  ·rw[h4 rfl]; rfl
 have e2:(rr&&!hasF s.r main)=false:=by
  cases rr
  ·rfl
  ·rw[h5 rfl]; rfl
 rw[e1,e2,dEf h6]
 rfl
theorem yXm {l:List Fm}{f:Fm}(h:f∈l)(hr:f.right=true):hasF l f=true:=yKf.2 ⟨f,h,xV8 hr⟩
def zP:Fm:=.mk 1 ⟨#[80]⟩ [] []
def zQ:Fm:=.mk 1 ⟨#[81]⟩ [] []
def zI:Fm:=.mk 6 ⟨#[]⟩ [] [zP,zQ]
def tm0:Tm:=.mk false ⟨#[]⟩ []
def trP:Tr:=.mk 1 ⟨[zP,zI],[zP]⟩ zP tm0 ⟨#[]⟩ []
def trQ:Tr:=.mk 1 ⟨[zP,zQ],[zQ]⟩ zQ tm0 ⟨#[]⟩ []
def trA:Tr:=.mk 9 ⟨[zP,zI],[zQ]⟩ zI tm0 ⟨#[]⟩ [trP,trQ]
def row1:Rw:=⟨true,true,0,0⟩
def row9:Rw:=⟨true,false,6,0⟩
theorem yYz {f:Fm}(h:f.right=true):yWk [f]=true:=by simp[yWk,xV8 h]
theorem zQ2 {s:Sq}(h:(decide (s.l.length≤64)&&decide (s.r.length≤64)&&s.l.all (fmB 1)&&s.r.all (fmB 1))=true):yXe 1 s=true:=by
 unfold yXe
 rw[show yKe 1=true from rfl,Bool.true_and,h]; rfl
theorem zWb {s:Sq}(h:(decide (s.l.length≤64)&&decide (s.r.length≤64)&&s.l.all (fmB 2)&&s.r.all (fmB 2))=true)(h2:yWk s.r=true):yXe 2 s=true:=by
 unfold yXe
 rw[show yKe 2=true from rfl,Bool.true_and,h,h2]; rfl
theorem wYg:yZv 1 ⟨[zP,zI],[zP]⟩ 1 zP tm0 ⟨#[]⟩=([],0):=yK9 (r:=row1) (zQ2 (by decide)) rfl (by rfl) (fun _=>yXm (by simp) (by decide)) (fun _=>yXm (by simp) (by decide)) (by decide)
theorem wYf:yZv 2 ⟨[zP,zI],[zP]⟩ 1 zP tm0 ⟨#[]⟩=([],0):=yK9 (r:=row1) (zWb (by decide) (yYz (by decide))) rfl (by rfl) (fun _=>yXm (by simp) (by decide)) (fun _=>yXm (by simp) (by decide)) (by decide)
theorem wYe:yZv 1 ⟨[zP,zQ],[zQ]⟩ 1 zQ tm0 ⟨#[]⟩=([],0):=yK9 (r:=row1) (zQ2 (by decide)) rfl (by rfl) (fun _=>yXm (by simp) (by decide)) (fun _=>yXm (by simp) (by decide)) (by decide)
theorem wYd:yZv 2 ⟨[zP,zQ],[zQ]⟩ 1 zQ tm0 ⟨#[]⟩=([],0):=yK9 (r:=row1) (zWb (by decide) (yYz (by decide))) rfl (by rfl) (fun _=>yXm (by simp) (by decide)) (fun _=>yXm (by simp) (by decide)) (by decide)
theorem wYl:yZv 1 ⟨[zP,zI],[zQ]⟩ 9 zI tm0 ⟨#[]⟩=([⟨[],[zP]⟩,⟨[zQ],[]⟩],0):=yK9 (r:=row9) (zQ2 (by decide)) rfl (by rfl) (fun _=>yXm (by simp) (by decide)) (fun h=>by cases h) (by decide)
theorem wYk:yZv 2 ⟨[zP,zI],[zQ]⟩ 9 zI tm0 ⟨#[]⟩=([⟨[],[zP]⟩,⟨[zQ],[]⟩],0):=yK9 (r:=row9) (zWb (by decide) (yYz (by decide))) rfl (by rfl) (fun _=>yXm (by simp) (by decide)) (fun h=>by cases h) (by decide)
theorem yU5 {l m:List Fm}(h:∀ f∈l,f∈m∧f.right=true):allF l m=true:=List.all_eq_true.2 fun f hf=>yXm (h f hf).1 (h f hf).2
theorem yJx {ca rule:Nat}{s:Sq}{main:Fm}{term:Tm}{name:ByteArray}{sub:List Tr}{ad:List Sq}(h:yZv ca s rule main term name=(ad,0))(hl:sub.length=ad.length)(hp:yJ6 s ad sub=true):yZn ca (.mk rule s main term name sub)=0:=by
 simp only[yZn]
 rw[h]
 simp only[ne_eq,nTf,if_false,hl,hp,if_true]
theorem zQ7:zP.right=true:=by decide
theorem xGz:zQ.right=true:=by decide
theorem wYt:zI.right=true:=by decide
theorem xU6:yJ6 ⟨[zP,zI],[zQ]⟩ [⟨[],[zP]⟩,⟨[zQ],[]⟩] [trP,trQ]=true:=by
 have a1:allF [zP,zI] [zP,zI]=true:=yU5 fun f hf=>by
  simp only[List.mem_cons,List.not_mem_nil,or_false] at hf
  rcases hf with rfl | rfl
  ·exact⟨by simp,zQ7⟩
  ·exact⟨by simp,wYt⟩
 have a2:allF [zP] [zQ,zP]=true:=yU5 fun f hf=>by
  simp only[List.mem_cons,List.not_mem_nil,or_false] at hf
  subst hf
  exact⟨by simp,zQ7⟩
 have a3:allF [zP,zQ] [zP,zI,zQ]=true:=yU5 fun f hf=>by
  simp only[List.mem_cons,List.not_mem_nil,or_false] at hf
  rcases hf with rfl | rfl
  ·exact⟨by simp,zQ7⟩
  ·exact⟨by simp,xGz⟩
 have a4:allF [zQ] [zQ]=true:=yU5 fun f hf=>by
  simp only[List.mem_cons,List.not_mem_nil,or_false] at hf
  subst hf
  exact⟨by simp,xGz⟩
 simp only[yJ6,trP,trQ,Tr.sq,Sq.plus,yKk,List.append_nil,List.cons_append,List.nil_append,a1,a2,a3,a4,Bool.and_self]
theorem wKs:yZn 1 trA=0:=yJx wYl rfl xU6
theorem wKr:yZn 2 trA=0:=yJx wYk rfl xU6
theorem wKn:yZn 1 trP=0:=yJx wYg rfl rfl
theorem wKm:yZn 2 trP=0:=yJx wYf rfl rfl
theorem wKl:yZn 1 trQ=0:=yJx wYe rfl rfl
theorem wKk:yZn 2 trQ=0:=yJx wYd rfl rfl
theorem wVh:trA.walk []=[([],trA),([0],trP),([1],trQ)]:=rfl
theorem wVf:yXx 1 trA=([],0):=by
 unfold yXx
 rw[wVh]
 simp only[yZb,wKs,wKn,wKl,if_true]
 rfl
theorem wVe:yXx 2 trA=([],0):=by
 unfold yXx
 rw[wVh]
 simp only[yZb,wKr,wKm,wKk,if_true]
 rfl
theorem wYc:trA.steps=3:=rfl
theorem wK3:trA.height=2:=rfl
theorem vK1:trA.cuts=0:=rfl
def zN:Fm:=.mk 3 ⟨#[]⟩ [] [zP]
def zO:Fm:=.mk 5 ⟨#[]⟩ [] [zP,zN]
def trE1:Tr:=.mk 1 ⟨[zP],[zP]⟩ zP tm0 ⟨#[]⟩ []
def trE2:Tr:=.mk 4 ⟨[],[zP,zN]⟩ zN tm0 ⟨#[]⟩ [trE1]
def trE:Tr:=.mk 8 ⟨[],[zO]⟩ zO tm0 ⟨#[]⟩ [trE2]
theorem wYj:yZv 1 ⟨[zP],[zP]⟩ 1 zP tm0 ⟨#[]⟩=([],0):=yK9 (r:=row1) (zQ2 (by decide)) rfl (by rfl) (fun _=>yXm (by simp) (by decide)) (fun _=>yXm (by simp) (by decide)) (by decide)
theorem wYi:yZv 1 ⟨[],[zP,zN]⟩ 4 zN tm0 ⟨#[]⟩=([⟨[zP],[]⟩],0):=yK9 (r:=⟨false,true,3,0⟩) (zQ2 (by decide)) rfl (by rfl) (fun h=>by cases h) (fun _=>yXm (by simp) (by decide)) (by decide)
theorem vZf:yZv 1 ⟨[],[zO]⟩ 8 zO tm0 ⟨#[]⟩=([⟨[],[zP,zN]⟩],0):=yK9 (r:=⟨false,true,5,0⟩) (zQ2 (by decide)) rfl (by rfl) (fun h=>by cases h) (fun _=>yXm (by simp) (by decide)) (by decide)
theorem wYh:yZv 2 ⟨[],[zO]⟩ 8 zO tm0 ⟨#[]⟩=([⟨[],[zP]⟩],0):=yK9 (r:=⟨false,true,5,0⟩) (zWb (by decide) (yYz (by decide))) rfl (by rfl) (fun h=>by cases h) (fun _=>yXm (by simp) (by decide)) (by decide)
theorem wYs:zN.right=true:=by decide
theorem vKe (l:List Fm):allF [zP,zN] (l++[zP,zN])=true:=yU5 fun f hf=>by
 simp only[List.mem_cons,List.not_mem_nil,or_false] at hf
 rcases hf with rfl | rfl
 ·exact⟨by simp,zQ7⟩
 ·exact⟨by simp,wYs⟩
theorem wKq:yZn 1 trE1=0:=yJx wYj rfl rfl
theorem wKp:yZn 1 trE2=0:=yJx wYi rfl (by
 have a1:allF [zP] [zP]=true:=yU5 fun f hf=>by
  simp only[List.mem_cons,List.not_mem_nil,or_false] at hf
  subst hf
  exact⟨by simp,zQ7⟩
 have a2:allF [zP] [zP,zN]=true:=yU5 fun f hf=>by
  simp only[List.mem_cons,List.not_mem_nil,or_false] at hf
  subst hf
  exact⟨by simp,zQ7⟩
 simp only[yJ6,trE1,Tr.sq,Sq.plus,yKk,List.append_nil,List.nil_append,a1,a2,Bool.and_self])
theorem wU5:yZn 1 trE=0:=yJx vZf rfl (by
 have a1:allF [] []=true:=rfl
 simp only[yJ6,trE2,Tr.sq,Sq.plus,yKk,List.nil_append,a1,vKe [zO],Bool.and_self])
theorem wVg:trE.walk []=[([],trE),([0],trE2),([0,0],trE1)]:=rfl
theorem wVd:yXx 1 trE=([],0):=by
 unfold yXx
 rw[wVg]
 simp only[yZb,wU5,wKq,wKp,if_true]
 rfl
theorem wKo:yZn 2 trE=195:=by
 have h1:hasF [zO,zP] zN=false:=by
  simp[hasF,eqF,zN,zO,zP,Fm.op]
 have h2:yJ6 ⟨[],[zO]⟩ [⟨[],[zP]⟩] [trE2]=false:=by
  have h3:allF [zP,zN] [zO,zP]=false:=List.all_eq_false.2 ⟨zN,by simp,by rw[h1]; simp⟩
  simp only[yJ6,trE2,Tr.sq,Sq.plus,yKk,List.cons_append,List.nil_append,h3,Bool.and_false,Bool.false_and]
 unfold trE
 simp only[yZn]
 rw[wYh]
 simp only[h2]
 rfl
theorem wVc:yXx 2 trE=([],195):=by
 unfold yXx
 rw[wVg]
 simp only[yZb,wKo]
 rfl
theorem xJo {ca:Nat}{s:Sq}{rule:Nat}{main:Fm}{term:Tm}{name:ByteArray}{r:Rw}{ad:List Sq}(h1:yXe ca s=true)(h2:rowS ca rule=some r)(h3:yXw ca rule r main term name=(ad,0))
  (h4:r.left=true→hasF s.l main=true) (h5:r.right=true→hasF s.r main=true) (h6:r.asks=2):yZv ca s rule main term name=if yJt s name then ([],193) else (ad,0):=by
 unfold yZv
 rw[h1,h2]
 simp only[Bool.not_true,bFt,if_false,h3]
 obtain⟨rl,rr,op,asks⟩:=r
 simp only at h4 h5 h6 ⊢
 have e1:(rl&&!hasF s.l main)=false:=by
  cases rl
  ·rfl
  ·rw[h4 rfl]; rfl
 have e2:(rr&&!hasF s.r main)=false:=by
  cases rr
  ·rfl
  ·rw[h5 rfl]; rfl
 rw[e1,e2,dEt h6,Bool.true_and]
 rfl
def qx:ByteArray:=⟨#[120]⟩
def qy:ByteArray:=⟨#[121]⟩
def qu:ByteArray:=⟨#[117]⟩
def zX:Fm:=.mk 8 qx [] [.mk 1 ⟨#[81]⟩ [.mk true qx []] []]
def zY:Fm:=.mk 9 qy [] [.mk 1 ⟨#[82]⟩ [.mk true qy [],.mk true qu []] []]
def zU:Fm:=.mk 1 ⟨#[81]⟩ [.mk true qu []] []
theorem wWq:yXw 3 14 ⟨false,true,8,2⟩ zX tm0 qu=([⟨[],[zU]⟩],0):=rfl
theorem xG0 {s:Sq}(h:(decide (s.l.length≤64)&&decide (s.r.length≤64)&&s.l.all (fmB 3)&&s.r.all (fmB 3))=true):yXe 3 s=true:=by
 unfold yXe
 rw[show yKe 3=true from rfl,Bool.true_and,h]; rfl
theorem vKs:xJ1 3 ⟨[zP],[zX]⟩ 14 zX tm0 qu=([⟨[zP],[zX,zU]⟩],0):=by
 have h:=xJo (ca:=3) (s:=⟨[zP],[zX]⟩) (rule:=14) (main:=zX) (term:=tm0) (name:=qu) (xG0 (by decide)) rfl wWq (fun h=>by cases h) (fun _=>yXm (by simp) (by decide)) rfl
 have hf:yJt ⟨[zP],[zX]⟩ qu=false:=by decide
 rw[hf] at h
 unfold xJ1
 rw[h]
 rfl
theorem vKr:xJ1 3 ⟨[zY],[zX]⟩ 14 zX tm0 qu=([],193):=by
 have h:=xJo (ca:=3) (s:=⟨[zY],[zX]⟩) (rule:=14) (main:=zX) (term:=tm0) (name:=qu) (xG0 (by decide)) rfl wWq (fun h=>by cases h) (fun _=>yXm (by simp) (by decide)) rfl
 have hf:yJt ⟨[zY],[zX]⟩ qu=true:=by decide
 rw[hf] at h
 unfold xJ1
 rw[h]
 rfl
def zD:Fm:=.mk 4 ⟨#[]⟩ [] [zP,zQ]
theorem vX5:zZ9 zP=zP:=rfl
theorem vX6:zZ9 zD=zD:=rfl
theorem uWk:SetS ⟨[zD,zD,zP],[]⟩=(⟨[zP,zD],[]⟩,0):=by
 have hs:SetF [zD,zD,zP] [zP,zD]:=by
  refine⟨?_,fun f=>?_⟩
  ·refine List.pairwise_cons.2 ⟨fun f hf=>?_,List.pairwise_singleton ..⟩
   obtain rfl:=List.mem_singleton.1 hf
   simp[zP,zD,yXa,cmpN,lexI]
  ·simp only[List.mem_cons,List.not_mem_nil,or_false]
   constructor
   ·rintro (h | h)
    ·exact .inr (.inr h)
    ·exact .inl h
   ·rintro (h | h | h)
    ·exact .inr h
    ·exact .inr h
    ·exact .inl h
 have h1:yZt [zD,zD,zP]=([zP,zD],0):=by
  unfold yZt
  rw[show[zD,zD,zP].all Fm.right=true by decide]
  simp only[if_true,List.map_cons,List.map_nil,vX5,vX6,zXh hs]
 have h2:yZt []=([],0):=by
  unfold yZt
  simp only[List.all_nil,if_true,List.map_nil,xJt]
 unfold SetS
 simp only[h1,h2,ne_eq,nTf,if_false]
end Go.Proofs.Tryz
namespace Go.Proofs.Tryz
open Go Go.Iv
set_option maxRecDepth 4000
def tagR:List Tr→Tag
 | []=>⟨true,.nil,0⟩
 | _::_=>⟨true,.full,12⟩
theorem wY8 (l:List Tr):okEs (tagR l) 12:=by cases l<;>simp[tagR,okEs]
mutual
def trI:Tr→IV
 | .mk rule s (.mk o fn us fs) (.mk v un ts) n sub=>.agg [.raw (.int .u8 rule),.sl (tagF s.l) (fmsI s.l),.sl (tagF s.r) (fmsI s.r),.raw (.int .u8 o),.raw (.string fn),.sl (tagT us) (tmsI us),.sl (tagF fs) (fmsI fs),.raw (.bool v),.raw (.string un),.sl (tagT ts) (tmsI ts),.raw (.string n),.sl (tagR sub) (trsI sub)]
def trsI:List Tr→List IV
 | []=>[]
 | a::l=>trI a::trsI l
end
mutual
def bytT:Tr→Bool
 | .mk rule s f _ _ sub=>decide (rule<256)&&zVb s.l&&zVb s.r&&wJm f&&wKv sub
def wKv:List Tr→Bool
 | []=>true
 | a::l=>bytT a&&wKv l
end
mutual
theorem xG6:∀ t:Tr,bytT t=true→IsTr t (trI t)
 | .mk rule s (.mk o fn us fs) (.mk v un ts) n sub,h=>by
  simp only[bytT,bAt,dTe] at h
  obtain⟨⟨⟨⟨h1,h2⟩,h3⟩,h4⟩,h5⟩:=h
  have hf:=xV2 (.mk o fn us fs) h4
  have ht:=xJi (.mk v un ts)
  simp only[fmI] at hf
  simp only[tmI] at ht
  simp only[IsTr]
  exact⟨tagF s.l,fmsI s.l,tagF s.r,fmsI s.r,o,fn,tagT us,tmsI us,tagF fs,fmsI fs,v,un,tagT ts,tmsI ts,tagR sub,trsI sub,by simp only[trI],h1,yK1 _,yJv _ h2,yK1 _,yJv _ h3,hf,ht,wY8 _,xG5 sub h5⟩
theorem xG5:∀ l:List Tr,wKv l=true→IsTrs l (trsI l)
 | [],_=>rfl
 | a::l,h=>by
  simp only[wKv,bAt] at h
  exact⟨_,_,by simp only[trsI],xG6 a h.1,xG5 l h.2⟩
end
def fitB (l:List Fm):Bool:=l.all fun f=>decide (f.size≤1000000)
theorem zKl {l:List Fm}(h:fitB l=true):fitL l:=fun g hg=>of_decide_eq_true (List.all_eq_true.1 h g hg)
def xUg:Tr→Bool
 | .mk _ s m u _ sub=>fitB s.l&&fitB s.r&&decide (m.size≤1000000)&&decide (u.size≤1000000)&&sub.all fun a=>fitB a.sq.l&&fitB a.sq.r
theorem vX7 {t:Tr}(h:xUg t=true):xK8 t:=by
 obtain⟨rule,s,m,u,n,sub⟩:=t
 simp only[xUg,bAt,dTe,List.all_eq_true] at h
 obtain⟨⟨⟨⟨h1,h2⟩,h3⟩,h4⟩,h5⟩:=h
 exact⟨⟨zKl h1,zKl h2⟩,h3,h4,fun a ha=>⟨zKl (h5 a ha).1,zKl (h5 a ha).2⟩⟩
theorem wZc {t:Tr}(h:(t.walk []).all (fun q=>xUg q.2)=true)(hh:t.height≤1099511627776):wZd t:=⟨fun q hq=>vX7 (List.all_eq_true.1 h q hq),hh⟩
theorem vJx:wZd trA:=wZc (by decide) (by decide)
theorem vJw:wZd trE:=wZc (by decide) (by decide)
theorem is_A:IsTr trA (trI trA):=xG6 trA (by decide)
theorem is_E:IsTr trE (trI trE):=xG6 trE (by decide)
end Go.Proofs.Tryz
namespace Go.Proofs.Tryz
open Go Go.Iv
set_option maxRecDepth 4000
variable (gl:Nat→Option IV)
theorem yQi (x y z:Operand):yQl 3 [(0,x),(1,y),(2,z)]=true:=rfl
theorem wJk (G:Gl gl)(T:Gt gl)(st:ISt):ICall prog gl 11 [] st (fun r st'=>r=.raw (.bool true)∧st'=st):=by
 have hA1:=fun st=>zK8 gl G T 1 trA (trI trA) is_A vJx st
 have hA2:=fun st=>zK8 gl G T 2 trA (trI trA) is_A vJx st
 have hE1:=fun st=>zK8 gl G T 1 trE (trI trE) is_E vJw st
 have hE2:=fun st=>zK8 gl G T 2 trE (trI trE) is_E vJw st
 simp only[wVf] at hA1
 simp only[wVe] at hA2
 simp only[wVd] at hE1
 simp only[wVc] at hE2
 refine ICall.intro (c:=cf prog gl [] [(2,[2,10,0,1,3,4,5,6,7,8,9,11]),(4,[0,2,9,10,11,13,1,3,4,5,6,7,8,12,14]),(9,[8,9,11,0,1,2,3,4,5,6,7,10,12]),(10,[0,1,2,5,6,8,3,4,7,9]),(18,[3,4,7,8,0,1,2,5,6,9,10,11,12,13,14]),(19,[0,1,3,4,7,8,2,5,6,9,10,11,12,13,14]),(21,[0,1,10,2,3,4,5,6,7,8,9,11,12]),(22,[0,1,2,3,4,5,6,7,8,9,10,14,15,11,12,13,16,17,18,19,20,21,22,23,24,25,26,27,28,29,30,31,32,33,35,34,36,37,38,39,40,41])]) func11 rfl (by show _≤241; simp) (by kernel_rfl) ?_
 simp(config:=zzC)only[go_sem,fits,yQh]
 repeat (first
  | (refine (q_p gl _ _ _ _).mono ?_; rintro _ st ⟨rfl,rfl⟩; simp(config:=zzC)only[go_sem,fits,yQ2,yQ9,yQi,yQh,decide_true,fits])
  | (refine (q_no gl _ _ _ _ _ _ _).mono ?_; rintro _ st ⟨rfl,rfl⟩; simp(config:=zzC)only[go_sem,fits,yQ2,yQ9,yQi,yQh,decide_true,fits])
  | (refine (xZe gl _ _ _ _ _ _ _ _ _ _ _ _ _ _).mono ?_; rintro _ st ⟨rfl,rfl⟩; simp(config:=zzC)only[go_sem,fits,yQ2,yQ9,yQi,yQh,decide_true,fits])
  | (refine (q_fs gl _ _ _).mono ?_; rintro _ st ⟨rfl,rfl⟩; simp(config:=zzC)only[go_sem,fits,yQ2,yQ9,yQi,yQh,decide_true,fits])
  | (refine (q_sq gl _ _ _ _ _).mono ?_; rintro _ st ⟨rfl,rfl⟩; simp(config:=zzC)only[go_sem,fits,yQ2,yQ9,yQi,yQh,decide_true,fits])
  | (refine (q_v gl _ _).mono ?_; rintro _ st ⟨rfl,rfl⟩; simp(config:=zzC)only[go_sem,fits,yQ2,yQ9,yQi,yQh,decide_true,fits]))
 refine (hA1 _).mono ?_
 rintro _ st ⟨⟨tg1,rfl,ht1⟩,rfl⟩
 simp(config:=zzC)only[go_sem,fits,yQh]
 refine (hA2 _).mono ?_
 rintro _ st ⟨⟨tg2,rfl,ht2⟩,rfl⟩
 simp(config:=zzC)only[go_sem,fits,yQh]
 repeat (first
  | (refine (q_p gl _ _ _ _).mono ?_; rintro _ st ⟨rfl,rfl⟩; simp(config:=zzC)only[go_sem,fits,yQ2,yQ9,yQi,yQh,decide_true,fits])
  | (refine (q_no gl _ _ _ _ _ _ _).mono ?_; rintro _ st ⟨rfl,rfl⟩; simp(config:=zzC)only[go_sem,fits,yQ2,yQ9,yQi,yQh,decide_true,fits])
  | (refine (xZe gl _ _ _ _ _ _ _ _ _ _ _ _ _ _).mono ?_; rintro _ st ⟨rfl,rfl⟩; simp(config:=zzC)only[go_sem,fits,yQ2,yQ9,yQi,yQh,decide_true,fits])
  | (refine (q_fs gl _ _ _).mono ?_; rintro _ st ⟨rfl,rfl⟩; simp(config:=zzC)only[go_sem,fits,yQ2,yQ9,yQi,yQh,decide_true,fits])
  | (refine (q_sq gl _ _ _ _ _).mono ?_; rintro _ st ⟨rfl,rfl⟩; simp(config:=zzC)only[go_sem,fits,yQ2,yQ9,yQi,yQh,decide_true,fits])
  | (refine (q_v gl _ _).mono ?_; rintro _ st ⟨rfl,rfl⟩; simp(config:=zzC)only[go_sem,fits,yQ2,yQ9,yQi,yQh,decide_true,fits]))
 refine (hE1 _).mono ?_
 rintro _ st ⟨⟨tg3,rfl,ht3⟩,rfl⟩
 simp(config:=zzC)only[go_sem,fits,yQh]
 refine (hE2 _).mono ?_
 rintro _ st ⟨⟨tg4,rfl,ht4⟩,rfl⟩
 have hz1:IntKind.i64.wrap (((0:Nat):Int)+((0:Nat):Int))=0:=rfl
 have hz2:IntKind.i64.wrap ((0:Int)+((0:Nat):Int))=0:=rfl
 have hz3:decide ((0:Int)=0)=true:=rfl
 have hz4:decide (((195:Nat):Int)=195)=true:=rfl
 have hz5:plI []=[]:=rfl
 have hS:=fun st=>wUe gl trA (trI trA) is_A (by decide) st
 have hH:=fun st=>wV9 gl trA (trI trA) is_A (by decide) st
 have hC:=fun st=>vKp gl trA (trI trA) is_A (by decide) st
 simp only[wYc] at hS
 simp only[wK3] at hH
 simp only[vK1] at hC
 simp(config:=zzC)only[go_sem,fits,yQh,hz1,hz2,hz3,hz4,hz5,decide_true,show decide (((0:Nat):Int)=0)=true from rfl]
 intros
 refine (hS _).mono ?_
 rintro _ st ⟨rfl,rfl⟩
 simp(config:=zzC)only[go_sem,fits,yQh,decide_true,show decide (((3:Nat):Int)=3)=true from rfl]
 refine (hH _).mono ?_
 rintro _ st ⟨rfl,rfl⟩
 simp(config:=zzC)only[go_sem,fits,yQh,decide_true,show decide (((2:Nat):Int)=2)=true from rfl]
 refine (hC _).mono ?_
 rintro _ st ⟨rfl,rfl⟩
 simp(config:=zzC)only[go_sem,fits,yQh,decide_true,show decide (((0:Nat):Int)=0)=true from rfl]
 repeat (first
  | (refine (q_p gl _ _ _ _).mono ?_; rintro _ st ⟨rfl,rfl⟩; simp(config:=zzC)only[go_sem,fits,yQ2,yQ9,yQi,yQh,decide_true,fits])
  | (refine (q_no gl _ _ _ _ _ _ _).mono ?_; rintro _ st ⟨rfl,rfl⟩; simp(config:=zzC)only[go_sem,fits,yQ2,yQ9,yQi,yQh,decide_true,fits])
  | (refine (xZe gl _ _ _ _ _ _ _ _ _ _ _ _ _ _).mono ?_; rintro _ st ⟨rfl,rfl⟩; simp(config:=zzC)only[go_sem,fits,yQ2,yQ9,yQi,yQh,decide_true,fits])
  | (refine (q_fs gl _ _ _).mono ?_; rintro _ st ⟨rfl,rfl⟩; simp(config:=zzC)only[go_sem,fits,yQ2,yQ9,yQi,yQh,decide_true,fits])
  | (refine (q_sq gl _ _ _ _ _).mono ?_; rintro _ st ⟨rfl,rfl⟩; simp(config:=zzC)only[go_sem,fits,yQ2,yQ9,yQi,yQh,decide_true,fits])
  | (refine (q_v gl _ _).mono ?_; rintro _ st ⟨rfl,rfl⟩; simp(config:=zzC)only[go_sem,fits,yQ2,yQ9,yQi,yQh,decide_true,fits]))
 have hB1:=fun st=>wWu gl G T 3 ⟨[zP],[zX]⟩ (.agg [.sl (tagF [zP]) (fmsI [zP]),.sl (tagF [zX]) (fmsI [zX])]) ⟨_,_,_,_,rfl,yK1 _,yJv _ (by decide),yK1 _,yJv _ (by decide)⟩ ⟨zKl (by decide),zKl (by decide)⟩ 14 zX (fmI zX) (xV2 zX (by decide)) (by decide) tm0 (tmI tm0) (xJi tm0) (by decide) qu st
 simp only[vKs] at hB1
 refine (hB1 _).mono ?_
 rintro _ st ⟨tg5,xs5,rfl,ht5,hx5,rfl⟩
 obtain⟨w5,_,rfl,hw5,rfl⟩:=hx5
 simp(config:=zzC)only[go_sem,fits,yQ2,yQh,decide_true]
 repeat (first
  | (refine (q_p gl _ _ _ _).mono ?_; rintro _ st ⟨rfl,rfl⟩; simp(config:=zzC)only[go_sem,fits,yQ2,yQ9,yQi,yQh,decide_true,fits])
  | (refine (q_no gl _ _ _ _ _ _ _).mono ?_; rintro _ st ⟨rfl,rfl⟩; simp(config:=zzC)only[go_sem,fits,yQ2,yQ9,yQi,yQh,decide_true,fits])
  | (refine (xZe gl _ _ _ _ _ _ _ _ _ _ _ _ _ _).mono ?_; rintro _ st ⟨rfl,rfl⟩; simp(config:=zzC)only[go_sem,fits,yQ2,yQ9,yQi,yQh,decide_true,fits])
  | (refine (q_fs gl _ _ _).mono ?_; rintro _ st ⟨rfl,rfl⟩; simp(config:=zzC)only[go_sem,fits,yQ2,yQ9,yQi,yQh,decide_true,fits])
  | (refine (q_sq gl _ _ _ _ _).mono ?_; rintro _ st ⟨rfl,rfl⟩; simp(config:=zzC)only[go_sem,fits,yQ2,yQ9,yQi,yQh,decide_true,fits])
  | (refine (q_v gl _ _).mono ?_; rintro _ st ⟨rfl,rfl⟩; simp(config:=zzC)only[go_sem,fits,yQ2,yQ9,yQi,yQh,decide_true,fits]))
 have hB2:=fun st=>wWu gl G T 3 ⟨[zY],[zX]⟩ (.agg [.sl (tagF [zY]) (fmsI [zY]),.sl (tagF [zX]) (fmsI [zX])]) ⟨_,_,_,_,rfl,yK1 _,yJv _ (by decide),yK1 _,yJv _ (by decide)⟩ ⟨zKl (by decide),zKl (by decide)⟩ 14 zX (fmI zX) (xV2 zX (by decide)) (by decide) tm0 (tmI tm0) (xJi tm0) (by decide) qu st
 simp only[vKr] at hB2
 refine (hB2 _).mono ?_
 rintro _ st ⟨tg6,xs6,rfl,ht6,hx6,rfl⟩
 simp(config:=zzC)only[go_sem,fits,yQ2,yQh,decide_true]
 repeat (first
  | (refine (q_p gl _ _ _ _).mono ?_; rintro _ st ⟨rfl,rfl⟩; simp(config:=zzC)only[go_sem,fits,yQ2,yQ9,yQi,yQh,decide_true,fits])
  | (refine (q_no gl _ _ _ _ _ _ _).mono ?_; rintro _ st ⟨rfl,rfl⟩; simp(config:=zzC)only[go_sem,fits,yQ2,yQ9,yQi,yQh,decide_true,fits])
  | (refine (xZe gl _ _ _ _ _ _ _ _ _ _ _ _ _ _).mono ?_; rintro _ st ⟨rfl,rfl⟩; simp(config:=zzC)only[go_sem,fits,yQ2,yQ9,yQi,yQh,decide_true,fits])
  | (refine (q_fs gl _ _ _).mono ?_; rintro _ st ⟨rfl,rfl⟩; simp(config:=zzC)only[go_sem,fits,yQ2,yQ9,yQi,yQh,decide_true,fits])
  | (refine (q_sq gl _ _ _ _ _).mono ?_; rintro _ st ⟨rfl,rfl⟩; simp(config:=zzC)only[go_sem,fits,yQ2,yQ9,yQi,yQh,decide_true,fits])
  | (refine (q_v gl _ _).mono ?_; rintro _ st ⟨rfl,rfl⟩; simp(config:=zzC)only[go_sem,fits,yQ2,yQ9,yQi,yQh,decide_true,fits]))
 have hD:=fun st=>uWj gl G T ⟨[zD,zD,zP],[]⟩ (.agg [.sl (tagF [zD,zD,zP]) (fmsI [zD,zD,zP]),.sl (tagF []) (fmsI [])]) ⟨_,_,_,_,rfl,yK1 _,yJv _ (by decide),yK1 _,yJv _ (by decide)⟩ ⟨zKl (by decide),zKl (by decide)⟩ (by decide) st
 simp only[uWk] at hD
 refine (hD _).mono ?_
 rintro _ st ⟨⟨y,rfl,hy⟩,rfl⟩
 obtain⟨ty1,xy1,ty2,xy2,rfl,ey1,iy1,ey2,iy2⟩:=hy
 obtain⟨tw1,xw1,tw2,xw2,rfl,ew1,iw1,ew2,iw2⟩:=hw5
 have z1:decide (((1:Nat):Int)=1)=true:=rfl
 have z2:decide (((193:Nat):Int)=193)=true:=rfl
 have z3:decide (((0:Nat):Int)=0)=true:=rfl
 simp(config:=zzC)only[go_sem,fits,yQ2,yQh,decide_true,yQ1 ht5,Int.le_refl,Int.toNat_zero,z1,z2,z3]
 repeat (first
  | (refine (q_p gl _ _ _ _).mono ?_; rintro _ st ⟨rfl,rfl⟩; simp(config:=zzC)only[go_sem,fits,yQ2,yQ9,yQi,yQh,decide_true,fits])
  | (refine (q_no gl _ _ _ _ _ _ _).mono ?_; rintro _ st ⟨rfl,rfl⟩; simp(config:=zzC)only[go_sem,fits,yQ2,yQ9,yQi,yQh,decide_true,fits])
  | (refine (xZe gl _ _ _ _ _ _ _ _ _ _ _ _ _ _).mono ?_; rintro _ st ⟨rfl,rfl⟩; simp(config:=zzC)only[go_sem,fits,yQ2,yQ9,yQi,yQh,decide_true,fits])
  | (refine (q_fs gl _ _ _).mono ?_; rintro _ st ⟨rfl,rfl⟩; simp(config:=zzC)only[go_sem,fits,yQ2,yQ9,yQi,yQh,decide_true,fits])
  | (refine (q_sq gl _ _ _ _ _).mono ?_; rintro _ st ⟨rfl,rfl⟩; simp(config:=zzC)only[go_sem,fits,yQ2,yQ9,yQi,yQh,decide_true,fits])
  | (refine (q_v gl _ _).mono ?_; rintro _ st ⟨rfl,rfl⟩; simp(config:=zzC)only[go_sem,fits,yQ2,yQ9,yQi,yQh,decide_true,fits]))
 have hS1:=fun st=>zVm gl ⟨[zP],[zX,zU]⟩ ⟨[zP],[zX,zU]⟩ (.agg [.sl tw1 xw1,.sl tw2 xw2]) (.agg [.sl (tagF [zP]) (fmsI [zP]),.sl (tagF [zX,zU]) (fmsI [zX,zU])]) ⟨_,_,_,_,rfl,ew1,iw1,ew2,iw2⟩ ⟨_,_,_,_,rfl,yK1 _,yJv _ (by decide),yK1 _,yJv _ (by decide)⟩ st
 have hS2:=fun st=>zVm gl ⟨[zP,zD],[]⟩ ⟨[zP,zD],[]⟩ (.agg [.sl ty1 xy1,.sl ty2 xy2]) (.agg [.sl (tagF [zP,zD]) (fmsI [zP,zD]),.sl (tagF []) (fmsI [])]) ⟨_,_,_,_,rfl,ey1,iy1,ey2,iy2⟩ ⟨_,_,_,_,rfl,yK1 _,yJv _ (by decide),yK1 _,yJv _ (by decide)⟩ st
 refine (hS1 _).mono ?_
 rintro _ st ⟨rfl,rfl⟩
 simp(config:=zzC)only[go_sem,fits,yQ2,yQ9,yQh,decide_true,show ∀ s:Sq,eqB s s=true from fun s=>yZ7.2 rfl,z1,z2,z3]
 repeat (first
  | (refine (q_p gl _ _ _ _).mono ?_; rintro _ st ⟨rfl,rfl⟩; simp(config:=zzC)only[go_sem,fits,yQ2,yQ9,yQi,yQh,decide_true,fits])
  | (refine (q_no gl _ _ _ _ _ _ _).mono ?_; rintro _ st ⟨rfl,rfl⟩; simp(config:=zzC)only[go_sem,fits,yQ2,yQ9,yQi,yQh,decide_true,fits])
  | (refine (xZe gl _ _ _ _ _ _ _ _ _ _ _ _ _ _).mono ?_; rintro _ st ⟨rfl,rfl⟩; simp(config:=zzC)only[go_sem,fits,yQ2,yQ9,yQi,yQh,decide_true,fits])
  | (refine (q_fs gl _ _ _).mono ?_; rintro _ st ⟨rfl,rfl⟩; simp(config:=zzC)only[go_sem,fits,yQ2,yQ9,yQi,yQh,decide_true,fits])
  | (refine (q_sq gl _ _ _ _ _).mono ?_; rintro _ st ⟨rfl,rfl⟩; simp(config:=zzC)only[go_sem,fits,yQ2,yQ9,yQi,yQh,decide_true,fits])
  | (refine (q_v gl _ _).mono ?_; rintro _ st ⟨rfl,rfl⟩; simp(config:=zzC)only[go_sem,fits,yQ2,yQ9,yQi,yQh,decide_true,fits]))
 refine (hS2 _).mono ?_
 rintro _ st ⟨rfl,rfl⟩
 simp(config:=zzC)only[go_sem,fits,yQ2,yQ9,yQh,decide_true,show ∀ s:Sq,eqB s s=true from fun s=>yZ7.2 rfl,z1,z2,z3]
 exact yQ0 ⟨rfl,rfl⟩
end Go.Proofs.Tryz
namespace Go.Proofs.Tryz
open Go Go.Iv
mutual
theorem zWo:∀ t:Tm,t.size≤wTm t
 | .mk _ n us=>by have:=zXg us; simp only[wTm,Tm.size]; omega
theorem zXg:∀ l:List Tm,yQe l≤wTms l
 | []=>Nat.le_refl _
 | a::l=>by have:=zWo a; have:=zXg l; simp only[wTms,yQe]; omega
end
mutual
theorem xJr:∀ f:Fm,f.size≤wFm f
 | .mk _ n us sub=>by have:=zXg us; have:=yVx sub; simp only[wFm,Fm.size]; omega
theorem yVx:∀ l:List Fm,yQ7 l≤wFms l
 | []=>Nat.le_refl _
 | a::l=>by have:=xJr a; have:=yVx l; simp only[wFms,yQ7]; omega
end
theorem yYw {s:Sq}{f:Fm}{u:Tm}{n:ByteArray}(h:xZp s f u n=true):wFms s.l+wFms s.r≤300∧wFm f≤300∧wTm u≤300∧n.size≤100:=by
 unfold xZp at h
 simp only[bAt,dTe,Bool.not_eq_true',decide_eq_false_iff_not] at h
 omega
theorem xV3 {s:Sq}(h:wFms s.l+wFms s.r≤300):yYj s:=by
 have:=yVx s.l
 have:=yVx s.r
 exact⟨fun f hf=>by have:=yYu hf; omega,fun f hf=>by have:=yYu hf; omega⟩
theorem xK4:∀ {l:List Tr}{a:Tr},okTs l=true→a∈l→okT a=true
 | b::l,a,h,ha=>by
  simp only[okTs,bAt] at h
  rcases List.mem_cons.1 ha with rfl | ha
  ·exact h.1
  ·exact xK4 h.2 ha
theorem wJn:∀ {t:Tr},okT t=true→xK8 t
 | .mk rule s m u n sub,h=>by
  simp only[okT,bAt] at h
  obtain⟨h1,h2,h3,_⟩:=yYw h.1
  have:=xJr m
  have:=zWo u
  refine⟨xV3 h1,by omega,by omega,fun a ha=>?_⟩
  have:=xK4 h.2 ha
  obtain⟨rule',s',m',u',n',sub'⟩:=a
  simp only[okT,bAt] at this
  exact xV3 (yYw this.1).1
mutual
theorem xK5:∀ (p:List Nat)(t:Tr),okT t=true→∀ q∈t.walk p,okT q.2=true
 | p,.mk rule s m u n sub,h,q,hq=>by
  simp only[Tr.walk,List.mem_cons] at hq
  rcases hq with rfl | hq
  ·exact h
  ·simp only[okT,bAt] at h
   exact zU0 p 0 sub h.2 q hq
theorem zU0:∀ (p:List Nat)(i:Nat)(l:List Tr),okTs l=true→∀ q∈yZc p i l,okT q.2=true
 | _,_,[],_,q,hq=>by cases hq
 | p,i,a::l,h,q,hq=>by
  simp only[okTs,bAt] at h
  simp only[yZc,List.mem_append] at hq
  rcases hq with hq | hq
  ·exact xK5 _ a h.1 q hq
  ·exact zU0 p (i+1) l h.2 q hq
end
theorem wG1 {t:Tr}(h:okT t=true)(hs:t.steps≤1099511627776):wZd t:=⟨fun q hq=>wJn (xK5 [] t h q hq),Nat.le_trans t.height_le_steps hs⟩
end Go.Proofs.Tryz
namespace Go.Proofs.Tryz
open Go Go.Iv
set_option maxRecDepth 4000
variable (gl:Nat→Option IV)
theorem zQ1:∀ l:List IV,(∀ x∈l,∃ v,x=.raw v)→ages l=l
 | [],_=>rfl
 | x::l,h=>by
  obtain⟨v,rfl⟩:=h x (by simp)
  simp only[ages,age,zQ1 l fun y hy=>h y (by simp[hy])]
theorem IsSees.age:∀ {l:List (List Nat)}{xs:List IV},IsSees l xs→IsSees l (ages xs)
 | [],xs,h=>by simp only[IsSees] at h; subst h; rfl
 | a::l,xs,h=>by
  obtain⟨t,ys,rfl,ht,h⟩:=h
  refine⟨⟨false,t.cap,t.es⟩,ages ys,?_,ht,h.age⟩
  simp only[ages,Go.Iv.age]
  rw[zQ1 (yXk a) fun x hx=>by obtain⟨n,_,rfl⟩:=List.mem_map.1 hx; exact⟨_,rfl⟩]
theorem BoxMo.isMo {b:Nat}{M:Mo}{st:ISt}(h:BoxMo b M st):∃ cs,st b=some (.box cs)∧IsMo M (ages cs):=by
 obtain⟨t1,xs,t2,t3,o2,o3,hst,e1,hse,h2,h3,hne⟩:=h.ex
 refine⟨_,hst,⟨false,t1.cap,t1.es⟩,ages xs,⟨false,t2.cap,t2.es⟩,⟨false,t3.cap,t3.es⟩,?_,e1,hse.age,h2.es,h3.es⟩
 unfold yJ9
 simp only[ages,age]
 rw[zQ1 (M.syms.map fun p=>IV.raw (.string p.1)) fun x hx=>by obtain⟨n,_,rfl⟩:=List.mem_map.1 hx; exact⟨_,rfl⟩]
 rw[zQ1 (M.syms.map fun p=>IV.raw (.int .i64 (p.2:Int))) fun x hx=>by obtain⟨n,_,rfl⟩:=List.mem_map.1 hx; exact⟨_,rfl⟩]
theorem BoxMo.lentOk {b:Nat}{M:Mo}{st:ISt}(h:BoxMo b M st):∀ c o,st c=some o→(∃ cs,o=.box cs)∨wGq o:=fun c o hc=>by
 by_cases hcb:c=b
 ·subst hcb
  obtain⟨cs,hst,_⟩:=h.isMo
  rw[hst] at hc
  cases hc
  exact .inl ⟨_,rfl⟩
 ·rcases h.rest c hcb with h0 | ⟨n,s,h0⟩
  ·rw[h0] at hc; cases hc
  ·rw[h0] at hc; cases hc; exact .inr trivial
theorem xKi {b:Nat}{st:ISt}{cs:List IV}(hb:st b=some (.box cs)):Lent st (.raw (.pointer (some ⟨b,0,none⟩))) (.cptr (.agg (ages cs))) :=
 .inr ⟨.cptr (.agg cs),.ptr b (.agg cs) cs hb rfl fun i r c hr hc=>by
  rw[show (IV.agg cs).cells=cs from rfl,hr] at hc
  cases hc
  exact .refl _,rfl⟩
theorem xWg (b:Nat)(M:Mo)(hO:MoOk M)(hS:SeesOk M)(st:ISt)(h:BoxMo b M st) :
  ICall prog gl 76 [.raw (.pointer (some ⟨b,0,none⟩))] st (fun r st'=>st'=st∧∃ q:Bool,r=.raw (.bool q)∧(q=true→M.sees.length=1∨M.pers)):=by
 obtain⟨cs,hb,hM⟩:=h.isMo
 refine ICall.lent (K:=fun r=>∃ q:Bool,r=.raw (.bool q)∧(q=true→M.sees.length=1∨M.pers)) h.lentOk (args':=[.cptr (.agg (ages cs))]) ⟨_,[],rfl,xKi hb,rfl⟩ ?_
 refine (xWh gl M (ages cs) hM hO hS (yUg st)).mono ?_
 rintro _ _ ⟨⟨q,rfl,h⟩,rfl⟩
 exact⟨rfl,trivial,q,rfl,h⟩
theorem wQp (b:Nat)(M:Mo)(hO:MoOk M)(hS:SeesOk M)(f:Fm)(x:IV)(hx:IsFm f x)(hsh:shF f)(hsz:f.size≤1000)(w:Nat)(hw:w<M.sees.length)(st:ISt)(h:BoxMo b M st) :
  ICall prog gl 77 [.raw (.pointer (some ⟨b,0,none⟩)),x,.raw (.int .i64 (w:Int)),.sl ⟨true,.nil,0⟩ [],.sl ⟨true,.nil,0⟩ []] st (fun r st'=>st'=st∧r=.raw (.bool (hold (toMd M) f [] w))):=by
 obtain⟨cs,hb,hM⟩:=h.isMo
 refine ICall.lent (K:=fun r=>r=.raw (.bool (hold (toMd M) f [] w))) h.lentOk (args':=[.cptr (.agg (ages cs)),x,.raw (.int .i64 (w:Int)),.sl ⟨true,.nil,0⟩ [],.sl ⟨true,.nil,0⟩ []]) ⟨_,_,rfl,xKi hb,_,_,rfl,.inl rfl,_,_,rfl,.inl rfl,_,_,rfl,.inl rfl,_,_,rfl,.inl rfl,rfl⟩ ?_
 refine (wGj gl M hO hS f (ages cs) hM x hx hsh w hw [] _ _ ⟨⟨_,rfl,.inl rfl⟩,⟨_,rfl,.inl rfl⟩,(fun p hp=>by cases hp),by simp⟩ (by simp only[List.length_nil]; omega) (yUg st)).mono ?_
 rintro _ _ ⟨rfl,rfl⟩
 exact⟨rfl,trivial,rfl⟩
theorem Ft.put {st:ISt}{n:Nat}{t:Tag}{o:Option Nat}(h:Ft st n t o){b:Nat}{cs:List IV}(hb:st b=some (.box cs))(x:Option IObj):Ft (st.put b x) n t o:=by
 rcases h with h | ⟨g,rfl,rfl,h⟩
 ·exact .inl h
 ·refine .inr ⟨g,rfl,rfl,?_⟩
  rw[yQk]
  ·exact h
  ·rintro rfl; rw[hb] at h; cases h
theorem BoxMo.tab {b:Nat}{M:Mo}{st:ISt}(h:BoxMo b M st)(k:Nat){t1:Tag}{xs:List IV}{t2 t3:Tag}(hst:st b=some (.box (yJ9 t1 xs t2 t3 M))):BoxMo b { M with table:=k } (st.put b (some (.box (yJ9 t1 xs t2 t3 { M with table:=k })))):=by
 obtain⟨t1',xs',t2',t3',o2,o3,hst',e1,hse,h2,h3,hne⟩:=h.ex
 rw[hst'] at hst
 unfold yJ9 at hst
 simp only[Option.some.injEq,IObj.box.injEq,List.cons.injEq,IV.sl.injEq,and_true,true_and] at hst
 obtain⟨⟨rfl,rfl⟩,rfl,rfl⟩:=hst
 refine⟨⟨t1',xs',t2',t3',o2,o3,ISt.put_same ..,e1,hse,h2.put hst' _,h3.put hst' _,hne⟩,fun c hc=>?_⟩
 rw[yQk hc]
 exact h.rest c hc
theorem shl1 (n:Nat)(h:n≤10):IntKind.i64.wrap (1*2 ^ (min n 64))=((2 ^ n:Nat):Int):=by
 have:n=0∨n=1∨n=2∨n=3∨n=4∨n=5∨n=6∨n=7∨n=8∨n=9∨n=10:=by omega
 rcases this with rfl | rfl | rfl | rfl | rfl | rfl | rfl | rfl | rfl | rfl | rfl<;>rfl
theorem wZ1 (T:Gt gl)(s:Sq)(tl tr:Tag)(xl xr:List IV)(htl:okEs tl 4)(htr:okEs tr 4)(hxl:IsFms s.l xl)(hxr:IsFms s.r xr)(hw:wFms s.l+wFms s.r≤300)(hshl:shFs s.l)(hshr:shFs s.r)(hokl:yJy s.l=true)(hokr:yJy s.r=true)
  (sees:List (List Nat)) (elems ca:Nat) (hF:FrOk sees elems ca) (ts:Tag) (ys:List IV) (hts:okEs ts 1) (hys:IsSees sees ys) (hsd:∀ M:Md,MdOk M ca sees.length→∀ w<sees.length,tS M w s) :
  ICall prog gl 25 [.agg [.sl tl xl,.sl tr xr],.sl ts ys,.raw (.int .i64 (elems:Int))] (fun _=>none) (fun r st'=>r=.raw (.bool true)∧st'=fun _=>none):=by
 have hzl:=yVx s.l
 have hzr:=yVx s.r
 have hll:=yZj s.l
 have hlr:=yZj s.r
 have hz1:=fun st=>zXo gl s.l tl xl htl hxl 80 (by omega) (by omega) st
 have hz2:=fun st=>zXo gl s.r tr xr htr hxr 80 (by omega) (by omega) st
 have hk1:=fun st=>wVx gl s.l tl xl htl hxl (by omega) st
 have hk2:=fun st=>wVx gl s.r tr xr htr hxr (by omega) st
 have hFn:=hF.n
 have hFe:=hF.el
 refine ICall.intro (c:=cf prog gl [36,56,60] [(1,[0,1,3,4,2,5,6,7,8,9,10,11,12,13,14,15,16,17,18,19])]) func25 rfl (by show _≤120; simp) (by kernel_rfl) ?_
 simp(config:=zzC)only[go_sem,fits]
 refine (hz1 _).mono ?_
 rintro _ _ ⟨⟨n1,rfl,hn1,_⟩,rfl⟩
 simp(config:=zzC)only[go_sem,fits]
 refine (hz2 _).mono ?_
 rintro _ _ ⟨⟨n2,rfl,hn2,_⟩,rfl⟩
 have hadd:IntKind.i64.wrap ((n1:Int)+(n2:Int))=((n1+n2:Nat):Int):=by rw[w64]<;>omega
 by_cases h80:80<n1+n2
 ·simp(config:=zzC)only[go_sem,fits,hadd,show decide ((80:Int)<((n1+n2:Nat):Int))=true from dEt (by omega)]
  exact yQb (st':=fun _=>none) (fun _ _ h=>by cases h) ⟨rfl,rfl⟩
 simp(config:=zzC)only[go_sem,fits,hadd,show decide ((80:Int)<((n1+n2:Nat):Int))=false from dEf (by omega)]
 refine (hk1 _).mono ?_
 rintro _ _ ⟨⟨m1,rfl,_⟩,rfl⟩
 by_cases h4:4<m1
 ·simp(config:=zzC)only[go_sem,fits,hadd,show decide ((4:Int)<(m1:Int))=true from dEt (by omega)]
  exact yQb (st':=fun _=>none) (fun _ _ h=>by cases h) ⟨rfl,rfl⟩
 simp(config:=zzC)only[go_sem,fits,hadd,show decide ((4:Int)<(m1:Int))=false from dEf (by omega)]
 refine (hk2 _).mono ?_
 rintro _ _ ⟨⟨m2,rfl,_⟩,rfl⟩
 by_cases h4:4<m2
 ·simp(config:=zzC)only[go_sem,fits,hadd,show decide ((4:Int)<(m2:Int))=true from dEt (by omega)]
  exact yQb (st':=fun _=>none) (fun _ _ h=>by cases h) ⟨rfl,rfl⟩
 simp(config:=zzC)only[go_sem,fits,hadd,show decide ((4:Int)<(m2:Int))=false from dEf (by omega)]
 refine fun b=>?_
 have hB0:BoxMo b ⟨sees,elems,[],0,0⟩ (ISt.put (fun _=>none) b (some (.box [.sl ts ys,.raw (.int .i64 (elems:Int)),.sl ⟨true,.nil,0⟩ [],.sl ⟨true,.nil,0⟩ [],.raw (.int .i64 0),.raw (.int .i64 0)]))) :=
  ⟨⟨ts,ys,⟨true,.nil,0⟩,⟨true,.nil,0⟩,none,none,ISt.put_same _ _ _,hts,hys,.inl ⟨rfl,rfl,rfl⟩,.inl ⟨rfl,rfl,rfl⟩,fun g h=>by cases h⟩,fun c hc=>.inl (yQk hc)⟩
 have hbd:=wWp
 have hP1:=zGr gl T b _ ⟨hFe.2,hFn,by simp,by simp⟩ (fun p hp=>by cases hp) s.l tl xl htl hxl hshl hokl (by omega) _ hB0
 refine hP1.mono ?_
 rintro _ st1 ⟨M1,hB1,hL1⟩
 have hb1:=hL1.bits
 have hb2:3*yQ7 s.l*bdB≤900*bdB:=Nat.mul_le_mul_right _ (by omega)
 have hn1':=hL1.n
 simp only[List.length_nil] at hb1 hn1'
 have hP2:=zGr gl T b M1 ⟨by rw[hL1.elems]; exact hFe.2,by rw[hL1.sees]; exact hFn,by omega,by omega⟩ hL1.first s.r tr xr htr hxr hshr hokr (by omega) _ hB1
 simp(config:=zzC)only[go_sem,fits]
 refine hP2.mono ?_
 rintro _ st2 ⟨M2,hB2,hL2⟩
 have hse2:M2.sees=sees:=hL2.sees.trans hL1.sees
 have hel2:M2.elems=elems:=hL2.elems.trans hL1.elems
 have hn2':=hL2.n
 have hf2:=hL2.first
 obtain⟨t1,x1,t2,t3,o2,o3,hst2,_⟩:=hB2.ex
 have hst2':=hst2
 unfold yJ9 at hst2'
 by_cases h10:10<M2.bits
 ·simp(config:=zzC)only[go_sem,fits,hst2',show decide ((10:Int)<(M2.bits:Int))=true from dEt (by omega)]
  exact yQb (st':=fun _=>none) (fun _ _ h=>by cases h) ⟨rfl,rfl⟩
 simp(config:=zzC)only[go_sem,fits,hst2',show decide ((10:Int)<(M2.bits:Int))=false from dEf (by omega)]
 have hpw:2 ^ M2.bits≤1024:=Nat.pow_le_pow_right (show 0<2 by omega) (show M2.bits≤10 by omega)
 refine LoopC.ctr (2 ^ M2.bits) (fun k fr st' ds=>BoxMo b { M2 with table:=k } st'∧fr 1=.iv (.sl ts ys)∧fr 3=.box [.sl tl xl,.sl tr xr]∧fr 7=.iv (.raw (.pointer (some ⟨b,0,none⟩)))∧ds=[]) ?_ ?_ ?_
 ·simp(config:=zzC)only[go_sem]
  exact hB2.tab 0 hst2
 ·rintro k fr st3 _ hlt ⟨hB3,f1,f3,f7,rfl⟩
  obtain⟨M3,hM3⟩:∃ M3:Mo,M3={ M2 with table:=k }:=⟨_,rfl⟩
  rw[← hM3] at hB3
  have hs3:M3.sees=sees:=by rw[hM3]; exact hse2
  have he3:M3.elems=elems:=by rw[hM3]; exact hel2
  have hb3:M3.bits=M2.bits:=by rw[hM3]
  have ht3:M3.table=k:=by rw[hM3]
  have hO:MoOk M3:=⟨by rw[he3]; exact hFe,by rw[hM3]; simp only; omega,fun p hp=>by
   have:p.2≤M2.bits:=hf2 p (by rw[hM3] at hp; exact hp)
   omega,by rw[ht3]; omega⟩
  have hS:SeesOk M3:=⟨by rw[hs3]; omega,fun l hl=>by
   rw[hs3] at hl ⊢
   have:=hF.rows l hl
   exact⟨by omega,this.2⟩⟩
  obtain⟨t1,x1,t2,t3,o2,o3,hst3,_⟩:=hB3.ex
  have hst3':=hst3
  unfold yJ9 at hst3'
  rw[ht3] at hst3'
  have hsh:=shl1 M3.bits (by omega)
  have hlt':k<2 ^ M3.bits:=by rw[hb3]; exact hlt
  have hPe:=xWg gl b M3 hO hS st3 hB3
  have hnext:=hB3.tab (k+1) hst3
  have hM3':({ M2 with table:=k+1 }:Mo)={ M3 with table:=k+1 }:=by rw[hM3]
  unfold yJ9 at hnext
  dsimp only at hnext
  simp(config:=zzC)only[go_sem,f1,f3,f7,fits,hst3',hsh,lt_i hlt',Int.toNat_natCast,iNn]
  refine hPe.mono ?_
  rintro _ st3 ⟨rfl,q,rfl,hq⟩
  cases q
  ·simp(config:=zzC)only[go_sem,f1,f3,f7,fits,hst3',ISt.put_same,yQ8,yQf hlt (show 2 ^ M2.bits≤281474976710656 by omega)]
   rw[hM3']; exact hnext
  have hMd:=wY7 (M:=M3) (ca:=ca) (by rw[hs3,he3]; exact hF) (hq rfl)
  rw[hs3] at hMd
  have hT:=hsd (toMd M3) hMd
  simp(config:=zzC)only[go_sem,f1,f3,f7,fits]
  refine LoopC.ctr sees.length (fun w fr st' ds=>fr 1=.iv (.sl ts ys)∧fr 3=.box [.sl tl xl,.sl tr xr]∧fr 7=.iv (.raw (.pointer (some ⟨b,0,none⟩)))∧fr 8=.iv (.raw (.int .i64 (w:Int)))∧st'=st3∧ds=[]) ?_ ?_ ?_
  ·simp(config:=zzC)only[go_sem,f1,f3,f7]
   first | done | exact rfl | exact⟨rfl,rfl⟩
  ·rintro w fr st4 _ hltw ⟨f1,f3,f7,f8,rfl,rfl⟩
   simp(config:=zzC)only[go_sem,f1,f3,f7,f8,fits,hys.len,lt_i hltw]
   intros
   refine LoopC.ctr s.l.length (fun i fr st' ds=>fr 1=.iv (.sl ts ys)∧fr 3=.box [.sl tl xl,.sl tr xr]∧fr 7=.iv (.raw (.pointer (some ⟨b,0,none⟩)))∧fr 8=.iv (.raw (.int .i64 (w:Int)))∧fr 9=.iv (.raw (.bool ((s.l.take i).all fun f=>hold (toMd M3) f [] w)))∧fr 10=.iv (.raw (.bool false))∧fr 11=.iv (.raw (.int .i64 (i:Int)))∧st'=st4∧ds=[]) ?_ ?_ ?_
   ·simp(config:=zzC)only[go_sem,f1,f3,f7,f8]
    try simp
   ·rintro i fr st5 _ hlti ⟨f1,f3,f7,f8,f9,f10,f11,rfl,rfl⟩
    obtain⟨f,hf⟩:=yQ5 hlti
    obtain⟨x,hkx,hx⟩:=hxl.get hf
    have hfm:=lMg hf
    have hfz:=yJh hfm
    have hcall:=wQp gl b M3 hO hS f x hx (yJe hshl hfm) (by omega) w (by rw[hs3]; exact hltw) st5 hB3
    obtain⟨_,_,_,_,_,_,rfl⟩:=hx.agg
    have htk:(s.l.take (i+1)).all (fun f=>hold (toMd M3) f [] w)=((s.l.take i).all (fun f=>hold (toMd M3) f [] w)&&hold (toMd M3) f [] w):=by
     rw[yQ6 hf,List.all_append]; simp
    cases hL:(s.l.take i).all (fun f=>hold (toMd M3) f [] w)<;>rw[hL] at f9 htk
    ·simp(config:=zzC)only[go_sem,f1,f3,f7,f8,f9,f10,f11,fits,hxl.len,lt_i hlti,yQ1 htl,iNn,hkx,yQf hlti (show s.l.length≤281474976710656 by omega),htk]
     try intros
     try simp
    ·simp(config:=zzC)only[go_sem,f1,f3,f7,f8,f9,f10,f11,fits,hxl.len,lt_i hlti,yQ1 htl,iNn,hkx]
     intros
     refine hcall.mono ?_
     rintro _ _ ⟨rfl,rfl⟩
     simp(config:=zzC)only[go_sem,f1,f3,f7,f8,f9,f10,f11,fits,yQf hlti (show s.l.length≤281474976710656 by omega),htk]
   rintro fr st5 _ ⟨f1,f3,f7,f8,f9,f10,f11,rfl,rfl⟩
   rw[lTl] at f9
   simp(config:=zzC)only[go_sem,f1,f3,f7,f8,f9,f10,f11,fits,hxl.len,yQt (nLi _)]
   intros
   refine LoopC.ctr s.r.length (fun i fr st' ds=>fr 1=.iv (.sl ts ys)∧fr 3=.box [.sl tl xl,.sl tr xr]∧fr 7=.iv (.raw (.pointer (some ⟨b,0,none⟩)))∧fr 8=.iv (.raw (.int .i64 (w:Int)))∧fr 9=.iv (.raw (.bool (s.l.all fun f=>hold (toMd M3) f [] w)))∧fr 10=.iv (.raw (.bool ((s.r.take i).any fun f=>hold (toMd M3) f [] w)))∧fr 12=.iv (.raw (.int .i64 (i:Int)))∧st'=st5∧ds=[]) ?_ ?_ ?_
   ·simp(config:=zzC)only[go_sem,f1,f3,f7,f8,f9,f10]
    try simp
   ·rintro i fr st6 _ hlti ⟨f1,f3,f7,f8,f9,f10,f12,rfl,rfl⟩
    obtain⟨f,hf⟩:=yQ5 hlti
    obtain⟨x,hkx,hx⟩:=hxr.get hf
    have hfm:=lMg hf
    have hfz:=yJh hfm
    have hcall:=wQp gl b M3 hO hS f x hx (yJe hshr hfm) (by omega) w (by rw[hs3]; exact hltw) st6 hB3
    obtain⟨_,_,_,_,_,_,rfl⟩:=hx.agg
    have htk:(s.r.take (i+1)).any (fun f=>hold (toMd M3) f [] w)=((s.r.take i).any (fun f=>hold (toMd M3) f [] w) || hold (toMd M3) f [] w):=by
     rw[yQ6 hf,List.any_append]; simp
    cases hL:(s.r.take i).any (fun f=>hold (toMd M3) f [] w)<;>rw[hL] at f10 htk
    ·simp(config:=zzC)only[go_sem,f1,f3,f7,f8,f9,f10,f12,fits,hxr.len,lt_i hlti,yQ1 htr,iNn,hkx]
     intros
     refine hcall.mono ?_
     rintro _ _ ⟨rfl,rfl⟩
     simp(config:=zzC)only[go_sem,f1,f3,f7,f8,f9,f10,f12,fits,yQf hlti (show s.r.length≤281474976710656 by omega),htk]
     try rw[Bool.false_or]
    ·simp(config:=zzC)only[go_sem,f1,f3,f7,f8,f9,f10,f12,fits,hxr.len,lt_i hlti,yQ1 htr,iNn,hkx,yQf hlti (show s.r.length≤281474976710656 by omega),htk]
     try intros
     try simp
   rintro fr st6 _ ⟨f1,f3,f7,f8,f9,f10,f12,rfl,rfl⟩
   rw[lTl] at f10
   cases hA:s.l.all (fun f=>hold (toMd M3) f [] w)<;>rw[hA] at f9
   ·simp(config:=zzC)only[go_sem,f1,f3,f7,f8,f9,f10,f12,fits,hxr.len,yQt (nLi _),yQf hltw (show sees.length≤281474976710656 by omega)]
    try intros
    try trivial
   ·have hB:s.r.any (fun f=>hold (toMd M3) f [] w)=true:=by
     obtain⟨g,hg,hg2⟩:=hT w hltw fun f hf=>List.all_eq_true.1 hA f hf
     exact List.any_eq_true.2 ⟨g,hg,hg2⟩
    rw[hB] at f10
    simp(config:=zzC)only[go_sem,f1,f3,f7,f8,f9,f10,f12,fits,hxr.len,yQt (nLi _),yQf hltw (show sees.length≤281474976710656 by omega)]
    try intros
    try trivial
  ·rintro fr st4 _ ⟨f1,f3,f7,f8,rfl,rfl⟩
   simp(config:=zzC)only[go_sem,f1,f3,f7,f8,fits,hys.len,yQt (nLi _),hst3',ISt.put_same,yQ8,yQf hlt (show 2 ^ M2.bits≤281474976710656 by omega)]
   try intros
   rw[hM3']; exact hnext
 ·rintro fr st3 _ ⟨hB3,f1,f3,f7,rfl⟩
  obtain⟨t1,x1,t2,t3,o2,o3,hst3,_⟩:=hB3.ex
  unfold yJ9 at hst3
  dsimp only at hst3
  have hsh:=shl1 M2.bits (by omega)
  simp(config:=zzC)only[go_sem,f1,f3,f7,fits,hst3,hsh,yQt (nLi _),Int.toNat_natCast,iNn]
  exact yQb (st':=fun _=>none) (fun _ _ h=>by cases h) ⟨rfl,rfl⟩
mutual
theorem zVd:∀ {t:Tr},okT t=true→zX7 t=true
 | .mk rule s f u n sub,h=>by
  simp only[okT,bAt] at h
  have h1:=(yYw h.1).2.2.1
  have h2:=zWo u
  simp only[zX7,bAt,dTe]
  exact⟨by omega,zXt h.2⟩
theorem zXt:∀ {l:List Tr},okTs l=true→yYs l=true
 | [],_=>rfl
 | a::l,h=>by
  simp only[okTs,bAt] at h
  simp only[yYs,bAt]
  exact⟨zVd h.1,zXt h.2⟩
end
theorem wZ5 {ca:Nat}:∀ {l:List Fm},l.all (fmB ca)=true→shFs l∧yJy l=true
 | [],_=>⟨trivial,rfl⟩
 | a::l,h=>by
  simp only[List.all_cons,bAt] at h
  have h1:=wZ5 h.2
  exact⟨⟨vJ2 h.1,h1.1⟩,by simp only[yJy,bAt]; exact⟨(yXo.1 h.1).1,h1.2⟩⟩
theorem yGl (a:Operand):yQl 1 [(0,a)]=true:=rfl
theorem yGk (a b:Operand):yQl 2 [(0,a),(1,b)]=true:=rfl
theorem yGj (a b c:Operand):yQl 3 [(0,a),(1,b),(2,c)]=true:=rfl
theorem zKq (G:Gl gl)(T:Gt gl)(ca:Nat)(t:Tr)(x:IV)(hx:IsTr t x)(hw:wTr t≤1099511627776) :
  ICall prog gl 6 [.raw (.int .u8 ca),x] (fun _=>none) (fun r st'=>r=.raw (.bool true)∧st'=fun _=>none):=by
 have hA:=fun st=>wJk gl G T st
 have hS:=fun st=>wV4 gl t x hx hw st
 have hC:=fun hfit st=>zK8 gl G T ca t x hx hfit st
 obtain⟨rule,s,f,u,n,sub⟩:=t
 obtain⟨tl,xl,tr,xr,op,fn,ta,xa,tb,xb,v,un,tu,xu,ts,xs,rfl,hrule,htl,hxl,htr,hxr,_⟩:=hx.mk
 refine iI func6 rfl rfl (by kernel_rfl) ?_
 simp(config:=zzC)only[go_sem,fits]
 refine (hA _).mono ?_
 rintro _ _ ⟨rfl,rfl⟩
 simp(config:=zzC)only[go_sem,fits]
 refine (hS _).mono ?_
 rintro _ _ ⟨rfl,rfl⟩
 cases hsm:(okT (.mk rule s f u n sub)&&decide ((Tr.mk rule s f u n sub).steps≤60))
 ·simp(config:=zzC)only[go_sem,fits]
  exact yQ0 ⟨rfl,rfl⟩
 rw[bAt,dTe] at hsm
 have hok:=hsm.1
 have hC:=fun st=>hC (wG1 hok (by omega)) st
 simp(config:=zzC)only[go_sem,fits]
 refine (hC _).mono ?_
 rintro _ _ ⟨⟨tg,rfl,htg⟩,rfl⟩
 have hall:=xYs (ca:=ca) (t:=.mk rule s f u n sub)
 generalize yXx ca (.mk rule s f u n sub)=q at hall ⊢
 obtain⟨p,e⟩:=q
 simp only at hall ⊢
 by_cases he:e≠0
 ·simp(config:=zzC)only[go_sem,fits,show decide ((e:Int)=0)=false from dEf (by omega)]
  exact yQ0 ⟨rfl,rfl⟩
 obtain rfl:e=0:=by omega
 obtain⟨hk,hst,hoka⟩:=hall.1 rfl
 have hsd:∀ (N:Nat) (M:Md),MdOk M ca N→∀ w<N,tS M w s:=fun N M hM w hw=>vZg (.mk rule s f u n sub) (zVd hok) hoka M N hM w hw
 have hv:=zQy (xZm hoka)
 obtain⟨hsl,hol⟩:=wZ5 hv.1
 obtain⟨hsr,hor⟩:=wZ5 hv.2
 simp only[okT,bAt] at hok
 have hws:=(yYw hok.1).1
 have hF:=fun sees elems hF ts ys hts hys=>wZ1 gl T s tl tr xl xr htl htr hxl hxr hws hsl hsr hol hor sees elems ca hF ts ys hts hys (fun M hM w hw=>hsd _ M hM w hw)
 have hca:ca=1∨ca=2∨ca=3:=by
  unfold yKe at hk
  simp only[bAt,dTe] at hk
  omega
 have hS1:IsSees [[0]] [.sl ⟨true,.full,1⟩ [.raw (.int .i64 0)]]:=⟨_,_,rfl,.inr rfl,rfl⟩
 have hS3:IsSees [[0,1],[1]] [.sl ⟨true,.full,1⟩ [.raw (.int .i64 0),.raw (.int .i64 1)],.sl ⟨true,.full,1⟩ [.raw (.int .i64 1)]]:=⟨_,_,rfl,.inr rfl,_,_,rfl,.inr rfl,rfl⟩
 have hS4:IsSees [[0,1,2],[1,2],[2]] [.sl ⟨true,.full,1⟩ [.raw (.int .i64 0),.raw (.int .i64 1),.raw (.int .i64 2)],.sl ⟨true,.full,1⟩ [.raw (.int .i64 1),.raw (.int .i64 2)],.sl ⟨true,.full,1⟩ [.raw (.int .i64 2)]]:=⟨_,_,rfl,.inr rfl,_,_,rfl,.inr rfl,_,_,rfl,.inr rfl,rfl⟩
 have hS5:IsSees [[0,1,2],[1],[2]] [.sl ⟨true,.full,1⟩ [.raw (.int .i64 0),.raw (.int .i64 1),.raw (.int .i64 2)],.sl ⟨true,.full,1⟩ [.raw (.int .i64 1)],.sl ⟨true,.full,1⟩ [.raw (.int .i64 2)]]:=⟨_,_,rfl,.inr rfl,_,_,rfl,.inr rfl,_,_,rfl,.inr rfl,rfl⟩
 have hes:okEs ⟨true,.full,1⟩ 1:=.inr rfl
 rcases hca with rfl | rfl | rfl
 ·have de1:decide (((1:Nat):Int)=2)=false:=rfl
  have de2:decide (((1:Nat):Int)=3)=false:=rfl
  simp(config:=zzC)only[go_sem,fits,show decide (((0:Nat):Int)=0)=true from rfl,yGl,yGk,yGj,de1,de2]
  refine (hF [[0]] 1 (wGo _) _ _ hes hS1).mono ?_
  rintro _ _ ⟨rfl,rfl⟩
  simp(config:=zzC)only[go_sem,fits,show decide (((0:Nat):Int)=0)=true from rfl,yGl,yGk,yGj,de1,de2]
  exact yQ0 ⟨rfl,rfl⟩
 ·have de1:decide (((2:Nat):Int)=2)=true:=rfl
  have de2:decide (((2:Nat):Int)=3)=false:=rfl
  simp(config:=zzC)only[go_sem,fits,show decide (((0:Nat):Int)=0)=true from rfl,yGl,yGk,yGj,de1,de2]
  refine (hF [[0]] 1 (wGo _) _ _ hes hS1).mono ?_
  rintro _ _ ⟨rfl,rfl⟩
  simp(config:=zzC)only[go_sem,fits,show decide (((0:Nat):Int)=0)=true from rfl,yGl,yGk,yGj,de1,de2]
  refine (hF [[0,1],[1]] 1 uXt _ _ hes hS3).mono ?_
  rintro _ _ ⟨rfl,rfl⟩
  simp(config:=zzC)only[go_sem,fits,show decide (((0:Nat):Int)=0)=true from rfl,yGl,yGk,yGj,de1,de2]
  refine (hF [[0,1,2],[1,2],[2]] 1 uXs _ _ hes hS4).mono ?_
  rintro _ _ ⟨rfl,rfl⟩
  simp(config:=zzC)only[go_sem,fits,show decide (((0:Nat):Int)=0)=true from rfl,yGl,yGk,yGj,de1,de2]
  refine (hF [[0,1,2],[1],[2]] 1 uXr _ _ hes hS5).mono ?_
  rintro _ _ ⟨rfl,rfl⟩
  simp(config:=zzC)only[go_sem,fits,show decide (((0:Nat):Int)=0)=true from rfl,yGl,yGk,yGj,de1,de2]
  exact yQ0 ⟨rfl,rfl⟩
 ·have de1:decide (((3:Nat):Int)=2)=false:=rfl
  have de2:decide (((3:Nat):Int)=3)=true:=rfl
  simp(config:=zzC)only[go_sem,fits,show decide (((0:Nat):Int)=0)=true from rfl,yGl,yGk,yGj,de1,de2]
  refine (hF [[0]] 1 (wGo _) _ _ hes hS1).mono ?_
  rintro _ _ ⟨rfl,rfl⟩
  simp(config:=zzC)only[go_sem,fits,show decide (((0:Nat):Int)=0)=true from rfl,yGl,yGk,yGj,de1,de2]
  refine (hF [[0]] 2 (uXu _) _ _ hes hS1).mono ?_
  rintro _ _ ⟨rfl,rfl⟩
  simp(config:=zzC)only[go_sem,fits,show decide (((0:Nat):Int)=0)=true from rfl,yGl,yGk,yGj,de1,de2]
  exact yQ0 ⟨rfl,rfl⟩
end Go.Proofs.Tryz
namespace Go.Proofs.Tryz
open Go Go.Iv Go.ChangeShapes
open Go.Proofs.YtgiilhcddbhffaaGreatDoor.Rows (uptoBulk uptoBulkAll)
set_option maxRecDepth 4000
theorem uSeq:prog.underlying 24=some (.struct #[⟨ "Left",22,0,false, "", "",0⟩,⟨ "Right",22,1,false, "", "",24⟩]):=by kernel_rfl
theorem vZ2:prog.underlying 37=some (.struct #[⟨ "Rule",5,0,false, "", "",0⟩,⟨ "Seq",24,1,false, "", "",8⟩,⟨ "Main",27,3,false, "", "",56⟩,⟨ "Term",34,7,false, "", "",128⟩,⟨ "Name",9,10,false, "", "",176⟩,⟨ "Sub",35,11,false, "", "",192⟩]):=by kernel_rfl
theorem vZ1:prog.underlying 35=some (.slice 37):=by kernel_rfl
theorem nSeq:prog.cellsOf 24=2:=by kernel_rfl
theorem vXe:prog.cellsOf 37=12:=by kernel_rfl
theorem vXd:prog.cellsOf 35=1:=by kernel_rfl
mutual
theorem xJ6:∀ t:Tm,wTm t≤2*xYf t
 | .mk _ n us=>by have:=zZy us; simp only[wTm,xYf]; omega
theorem zZy:∀ l:List Tm,wTms l≤2*yGm l
 | []=>Nat.le_refl _
 | a::l=>by have:=xJ6 a; have:=zZy l; simp only[wTms,yGm]; omega
end
mutual
theorem xJ8:∀ f:Fm,wFm f≤2*xYg f
 | .mk _ n us sub=>by have:=zZy us; have:=yU6 sub; simp only[wFm,xYg]; omega
theorem yU6:∀ l:List Fm,wFms l≤2*yUy l
 | []=>Nat.le_refl _
 | a::l=>by have:=xJ8 a; have:=yU6 l; simp only[wFms,yUy]; omega
end
section
variable {H:Type}{enc:TypeId×Value→H}{w:World}{spare:Nat→Bool}{held:Bool}
def RQ (d:DataW H)(s:Sq)(x:IV):Prop:=IsSq s x∧wFms s.l+wFms s.r≤2*uptoBulk d
theorem vZk (fuel:Nat)(cs:List Value)(y:DataW H×List MemPlace)(h:DataW.trod enc prog w 0 spare held fuel 24 cs=some y)(hb:uptoBulk y.1≤1048576):∃ s x,VL 0 (L0 w) w cs x.cells∧RQ y.1 s x:=by
 obtain⟨ys,n,rfl,rfl,hl,hlen,hf⟩:=DataW.trod_struct uSeq h
 match ys,hlen with
 | [y0,y1],_ =>
  rw[nSeq] at hl
  match cs,hl with
  | [c0,c1],_ =>
   have h0:=hf 0 _ rfl
   have h1:=hf 1 _ rfl
   simp only[wW6,List.drop_zero,List.drop_succ_cons,List.take_succ_cons,List.take_zero,List.getElem?_cons_zero,List.getElem?_cons_succ] at h0 h1
   simp only[List.map_cons,List.map_nil,uptoBulk,uptoBulkAll] at hb
   obtain⟨v0,tg0,xs0,l0,e0,hv0,ht0,hl0,hb0⟩:=zYj h0 (by omega) (fun m _=>xXf m)
   obtain⟨v1,tg1,xs1,l1,e1,hv1,ht1,hl1,hb1⟩:=zYj h1 (by omega) (fun m _=>xXf m)
   cases e0; cases e1
   refine⟨⟨l0,l1⟩,.agg [.sl tg0 xs0,.sl tg1 xs1],VL.cons hv0 (VL.cons hv1 VL.nil),⟨tg0,xs0,tg1,xs1,rfl,ht0,hl0,ht1,hl1⟩,?_⟩
   have:=yU6 l0
   have:=yU6 l1
   simp only[List.map_cons,List.map_nil,uptoBulk,uptoBulkAll]
   omega
theorem zUc:∀ {us:List Tr}{xs:List IV},us.length=xs.length→(∀ (i:Nat)(a:Tr)(x:IV),us[i]?=some a→xs[i]?=some x→IsTr a x)→IsTrs us xs
 | [],xs,h,_=>by simpa[IsTrs] using h.symm
 | a::us,[],h,_=>by simp at h
 | a::us,x::xs,h,hh=>⟨x,xs,rfl,hh 0 a x rfl rfl,zUc (by simpa using h) (fun i b y hb hy=>hh (i+1) b y (by simpa using hb) (by simpa using hy))⟩
theorem xJ4:∀ {us:List Tr}{ds:List (DataW H)},us.length=ds.length→(∀ (i:Nat)(a:Tr)(d:DataW H),us[i]?=some a→ds[i]?=some d→wTr a+a.steps≤2*uptoBulk d)→wTrs us+yQp us≤2*uptoBulkAll ds
 | [],ds,h,_=>by simp[wTrs,yQp]
 | a::us,[],h,_=>by simp at h
 | a::us,x::xs,h,hh=>by
  have h1:=hh 0 a x rfl rfl
  have h2:=xJ4 (us:=us) (ds:=xs) (by simpa using h) (fun i b y hb hy=>hh (i+1) b y (by simpa using hb) (by simpa using hy))
  simp only[wTrs,yQp,uptoBulkAll]; omega
def RR (d:DataW H)(t:Tr)(x:IV):Prop:=IsTr t x∧wTr t+t.steps≤2*uptoBulk d
theorem RR.cells {d:DataW H}{t:Tr}{x:IV}(h:RR d t x):x.cells.length=12:=by
 obtain⟨_,_,_,_,_,_,_,_,_,_,_,_,_,_,_,_,_,_,rfl⟩:=zZ7 h.1; rfl
theorem wXy {fuel:Nat}{cs:List Value}{y:DataW H×List MemPlace}(h:DataW.trod enc prog w 0 spare held fuel 35 cs=some y)(hb:uptoBulk y.1≤1048576)
  (IH:∀ (n:Nat),n<fuel→∀ (cs:List Value) (y:DataW H×List MemPlace),DataW.trod enc prog w 0 spare held n 37 cs=some y→uptoBulk y.1≤1048576→∃ t x,VL 0 (L0 w) w cs x.cells∧RR y.1 t x) :
  ∃ v tg xs ts,cs=[v]∧V 0 (L0 w) w v (.sl tg xs)∧okEs tg 12∧IsTrs ts xs∧wTrs ts+yQp ts+1≤2*uptoBulk y.1:=by
 obtain⟨v,tg,xs,ts,rfl,hv,htg,hl,hc⟩:=xZi (H:=H) (P:=prog) (d:=y.1) (p:=y.2) RR vZ1 vXe (by decide) h (fun elems sp e=>by
   have:=yKq elems sp; have:=yUj elems; rw[← e] at *; omega) (fun d t x h=>h.cells) (fun n hn cs' z q ⟨elems,sp,he,hm⟩ hz=>by
   have:=yKq elems sp
   have:=zWz hm
   rw[he] at hb
   exact IH n (by omega) cs' (z,q) hz (show uptoBulk z≤1048576 by omega))
 refine⟨v,tg,xs,ts,rfl,hv,htg,?_⟩
 rcases hc with⟨hd,rfl⟩ | ⟨elems,sp,hd,hel,hr⟩
 ·obtain rfl:ts=[]:=List.length_eq_zero_iff.1 (by simpa using hl)
  exact⟨rfl,by rw[hd]; simp[wTrs,yQp,uptoBulk]⟩
 ·have hi:∀ (i:Nat) (a:Tr),ts[i]?=some a→∃ x d,xs[i]?=some x∧elems[i]?=some d∧RR d a x:=fun i a ha=>by
   have hi:=(lGs ha).1
   exact⟨_,_,List.getElem?_eq_getElem (by omega),List.getElem?_eq_getElem (by omega),hr i _ _ _ (List.getElem?_eq_getElem (by omega)) ha (List.getElem?_eq_getElem (by omega))⟩
  refine⟨zUc hl (fun i a x ha hx=>?_),?_⟩
  ·obtain⟨x',d,h1,h2,h3⟩:=hi i a ha
   rw[hx] at h1; cases h1
   exact h3.1
  ·have:=xJ4 (us:=ts) (ds:=elems) (by omega) (fun i a d ha hd'=>by
    obtain⟨x',d',h1,h2,h3⟩:=hi i a ha
    rw[hd'] at h2; cases h2
    exact h3.2)
   have:=yKq elems sp
   rw[hd]
   omega
theorem cs12 {cs:List Value}(h:cs.length=12):∃ a b c d e f g h i j k l,cs=[a,b,c,d,e,f,g,h,i,j,k,l]:=by
 match cs,h with
 | [a,b,c,d,e,f,g,h,i,j,k,l],_=>exact⟨a,b,c,d,e,f,g,h,i,j,k,l,rfl⟩
theorem wY5:∀ (fuel:Nat)(cs:List Value)(y:DataW H×List MemPlace),DataW.trod enc prog w 0 spare held fuel 37 cs=some y→uptoBulk y.1≤1048576→∃ t x,VL 0 (L0 w) w cs x.cells∧RR y.1 t x:=by
 intro fuel
 induction fuel using Nat.strongRecOn with
 | ind fuel IH =>
  intro cs y h hb
  obtain⟨ys,n,rfl,rfl,hl,hlen,hf⟩:=DataW.trod_struct vZ2 h
  match ys,hlen with
  | [y0,y1,y2,y3,y4,y5],_ =>
   rw[vXe] at hl
   obtain⟨c0,c1,c2,c3,c4,c5,c6,c7,c8,c9,c10,c11,rfl⟩:=cs12 hl
   have h0:=hf 0 _ rfl
   have h1:=hf 1 _ rfl
   have h2:=hf 2 _ rfl
   have h3:=hf 3 _ rfl
   have h4:=hf 4 _ rfl
   have h5:=hf 5 _ rfl
   simp only[nU8,xZr,nSeq,wG6,wG5,vXd,List.drop_zero,List.drop_succ_cons,List.take_succ_cons,List.take_zero,List.getElem?_cons_zero,List.getElem?_cons_succ] at h0 h1 h2 h3 h4 h5
   simp only[List.map_cons,List.map_nil,uptoBulk,uptoBulkAll] at hb
   obtain⟨op,e0,rfl,hop⟩:=DataW.trod_int uU8 h0
   obtain⟨s,xs,hvs,hs1,hs2⟩:=vZk n _ _ h1 (by omega)
   obtain⟨f,xf,hvf,hf1,hf2⟩:=xXf n _ _ h2 (by omega)
   obtain⟨t,xt,hvt,ht1,ht2⟩:=xG8 n _ _ h3 (by omega)
   obtain⟨nm,e4,hn,hn2⟩:=xGe h4 (by omega)
   obtain⟨v,tg,xb,ts,e5,hv,htg,hts,hbk⟩:=wXy h5 (by omega) (fun m hm=>IH m (by omega))
   cases e0; cases e4; cases e5
   have hop:0≤op∧op<256:=by
    simp only[Lit.wf,IntKind.min,IntKind.max,IntKind.signed,IntKind.bits,bAt,dTe] at hop
    exact⟨of_decide_eq_true hop.1,by have:=of_decide_eq_true hop.2; simp at this; omega⟩
   obtain⟨k,rfl⟩:=Int.eq_ofNat_of_zero_le hop.1
   obtain⟨tl,xl,tr,xr,rfl,k1,k2,k3,k4⟩:=hs1
   have hf0:=hf1
   have ht0:=ht1
   obtain⟨o,fn,us,sub⟩:=f
   obtain⟨ta,xa,tb,xb',rfl,_⟩:=hf1.mk
   obtain⟨b,un,uu⟩:=t
   obtain⟨tu,xu,rfl,_⟩:=ht1.mk
   refine⟨.mk k s (.mk o fn us sub) (.mk b un uu) nm ts,.agg [.raw (.int .u8 k),.sl tl xl,.sl tr xr,.raw (.int .u8 o),.raw (.string fn),.sl ta xa,.sl tb xb',.raw (.bool b),.raw (.string un),.sl tu xu,.raw (.string nm),.sl tg xb],
    VL.cons (.raw _ trivial) (hvs.append (hvf.append (hvt.append (VL.cons hn (VL.cons hv VL.nil))))),?_,?_⟩
   ·simp only[IsTr]
    exact⟨tl,xl,tr,xr,o,fn,ta,xa,tb,xb',b,un,tu,xu,tg,xb,rfl,by omega,k1,k2,k3,k4,hf0,ht0,htg,hts⟩
   ·have:=xJ8 (.mk o fn us sub)
    have:=xJ6 (.mk b un uu)
    simp only[List.map_cons,List.map_nil,uptoBulk,uptoBulkAll,wTr,Tr.steps]
    omega
end
end Go.Proofs.Tryz
namespace Go.Proofs.Tryz
open Go Go.Iv Go.ChangeShapes Go.RowKit
open Go.Proofs.YtgiilhcddbhffaaGreatDoor
set_option maxRecDepth 8000
theorem uRow:prog.underlying 250=some (.struct #[⟨ "right",4,0,false, "", "lyceum/syntax",0⟩,⟨ "schema",4,1,false, "", "lyceum/syntax",1⟩,⟨ "name",5,2,false, "", "lyceum/syntax",2⟩,⟨ "args",3,3,false, "", "lyceum/syntax",8⟩,⟨ "subs",3,4,false, "", "lyceum/syntax",16⟩]):=by kernel_rfl
theorem vGe:prog.underlying 251=some (.array 17 250):=by kernel_rfl
theorem uInt:prog.underlying 3=some (.int .i64):=by kernel_rfl
theorem nRow:prog.cellsOf 250=5:=by kernel_rfl
theorem uX8:prog.cellsOf 251=85:=by kernel_rfl
theorem nInt:prog.cellsOf 3=1:=by kernel_rfl
theorem gRows:prog.globalNamed "lyceum/syntax.rows" = some 0:=by kernel_rfl
theorem gRowsT:(prog.globals[0]?).map (·.type)=some 251:=by kernel_rfl
theorem gPow:prog.globalNamed "internal/strconv.uint64pow10" = some 2:=by kernel_rfl
theorem gPowT:(prog.globals[2]?).map (·.type)=some 314:=by kernel_rfl
theorem uPow:prog.underlying 314=some (.array 20 246):=by kernel_rfl
theorem uU64:prog.underlying 246=some (.int .u64):=by kernel_rfl
theorem nPow:prog.cellsOf 314=20:=by kernel_rfl
theorem nU64:prog.cellsOf 246=1:=by kernel_rfl
section
variable {H:Type}{enc:TypeId×Value→H}{w:World}{spare:Nat→Bool}{held:Bool}
def rowD (op:Nat):DataW H:=.agg [.lit (.bool (yZ5 op)),.lit (.bool (zXn op)),.lit (.int .u8 (yXb op)),.lit (.int .i64 (yX8 op)),.lit (.int .i64 (yX7 op))]
def rowV (op:Nat):List Value:=[.bool (yZ5 op),.bool (zXn op),.int .u8 (yXb op),.int .i64 (yX8 op),.int .i64 (yX7 op)]
theorem xGx {fuel:Nat}{cs:List Value}{op:Nat}{p:List MemPlace}(h:DataW.trod enc prog w 0 spare held fuel 250 cs=some (rowD op,p)):cs=rowV op:=by
 obtain⟨ys,n,rfl,he,hl,hlen,hf⟩:=DataW.trod_struct uRow h
 match ys,hlen with
 | [y0,y1,y2,y3,y4],_ =>
  rw[nRow] at hl
  match cs,hl with
  | [c0,c1,c2,c3,c4],_ =>
   have h0:=hf 0 _ rfl
   have h1:=hf 1 _ rfl
   have h2:=hf 2 _ rfl
   have h3:=hf 3 _ rfl
   have h4:=hf 4 _ rfl
   simp only[vXf,nU8,nInt,List.drop_zero,List.drop_succ_cons,List.take_succ_cons,List.take_zero,List.getElem?_cons_zero,List.getElem?_cons_succ] at h0 h1 h2 h3 h4
   obtain⟨b0,e0,rfl⟩:=DataW.trod_bool xG4 h0
   obtain⟨b1,e1,rfl⟩:=DataW.trod_bool xG4 h1
   obtain⟨b2,e2,rfl,_⟩:=DataW.trod_int uU8 h2
   obtain⟨b3,e3,rfl,_⟩:=DataW.trod_int uInt h3
   obtain⟨b4,e4,rfl,_⟩:=DataW.trod_int uInt h4
   cases e0; cases e1; cases e2; cases e3; cases e4
   have he1:=congrArg Prod.fst he
   simp only[rowD,List.map_cons,List.map_nil,DataW.agg.injEq,List.cons.injEq,DataW.lit.injEq,Lit.bool.injEq,Lit.int.injEq,true_and,and_true] at he1
   obtain⟨rfl,rfl,rfl,rfl,rfl⟩:=he1
   rfl
theorem xGw:(Rows.laid_lyceum_syntax_rows:DataW H)=.agg ((List.range 17).map rowD):=by rfl
theorem xWc {fuel:Nat}{cs:List Value}{p:List MemPlace}(h:DataW.trod enc prog w 0 spare held fuel 251 cs=some (Rows.laid_lyceum_syntax_rows,p)) :
  cs.length=85∧∀ op,op<17→(cs.drop (op*5)).take 5=rowV op:=by
 obtain⟨ys,n,rfl,he,hl,hlen,hf⟩:=DataW.trod_array vGe h
 rw[uX8] at hl
 refine⟨hl,fun op hop=>?_⟩
 have h1:=hf op hop
 rw[nRow] at h1
 have he1:=congrArg Prod.fst he
 rw[xGw] at he1
 simp only[DataW.agg.injEq] at he1
 have h2:(ys.map (·.1))[op]?=some (rowD op):=by
  rw[← he1,List.getElem?_map,List.getElem?_range hop]; rfl
 rw[List.getElem?_map] at h2
 obtain⟨y,hy,hy2⟩:=Option.map_eq_some_iff.1 h2
 rw[hy] at h1
 obtain⟨y1,y2⟩:=y
 simp only at hy2
 subst hy2
 exact xGx h1
end
def gl0:Nat→Option IV
 | 0=>some (.agg rowsL)
 | 2=>some (.agg pow10L)
 | _=>none
theorem G0:Gl gl0:=⟨rfl⟩
theorem T0:Gt gl0:=⟨rfl⟩
def X0 (w:World):WS:={ w:=w,L:=L0 w,st:=fun _=>none,d:=0 }
theorem xZc {cs:List Value}(hl:cs.length=85)(h:∀ op,op<17→(cs.drop (op*5)).take 5=rowV op)(i:Nat)(r:Value)(c:IV)(hr:cs[i]?=some r)(hc:rowsL[i]?=some c):c=.raw r∧zWt r:=by
 have hi:i<85:=by have:=(lGs hr).1; omega
 have hop:i / 5<17:=by omega
 have e:i=i / 5*5+i % 5:=by omega
 have hm:i % 5<5:=Nat.mod_lt _ (by decide)
 have h1:(rowV (i / 5))[i % 5]?=some r:=by
  rw[← h _ hop,List.getElem?_take,if_pos hm,List.getElem?_drop,← e]; exact hr
 have h2:(rowI (i / 5))[i % 5]?=some c:=by
  rw[← (zV1 _ hop).2,List.getElem?_take,if_pos hm,List.getElem?_drop,← e]; exact hc
 generalize i % 5=k at h1 h2 hm
 match k,hm with
 | 0,_=>cases h1; cases h2; exact⟨rfl,trivial⟩
 | 1,_=>cases h1; cases h2; exact⟨rfl,trivial⟩
 | 2,_=>cases h1; cases h2; exact⟨rfl,trivial⟩
 | 3,_=>cases h1; cases h2; exact⟨rfl,trivial⟩
 | 4,_=>cases h1; cases h2; exact⟨rfl,trivial⟩
theorem uXq {W:World}(hL:laidMetH prog Rows.sequentSetsUptoRow.laid W):Go.Iv.Good ⟨prog,gl0,0⟩ (X0 W):=by
 obtain⟨ps,hlv,_⟩:=(show laidMet prog _ W from hL)
 obtain⟨_,_,_,_,_,_,_,_,_,_,hlv,_⟩:=hlv
 obtain⟨_,_,_,_,_,_,_,_,_,_,hlv,_⟩:=hlv
 obtain⟨g1,t1,cs1,f1,p1,q1,hg1,ht1,hv1,hd1,hlv,_⟩:=hlv
 obtain⟨g2,t2,cs2,f2,p2,q2,hg2,ht2,hv2,hd2,_,_⟩:=hlv
 obtain rfl:=Option.some.inj (gPow.symm.trans hg1)
 obtain rfl:=Option.some.inj (gPowT.symm.trans ht1)
 obtain rfl:=Option.some.inj (gRows.symm.trans hg2)
 obtain rfl:=Option.some.inj (gRowsT.symm.trans ht2)
 have hc1:=Lib.cells_of_tab (zs:=Lib.pow10Tab) uPow uU64 nU64 nPow hd1
 have hc2:=xWc hd2
 have hb:∀ (n:String) (g:Nat) (cs:Array Value),prog.globalNamed n=some g→W.var? prog n=some cs→∃ T f,W.heap[g]?=some (.cells cs T f):=by
  intro n g cs hn hv
  unfold World.var? at hv
  rw[hn,Option.bind_some] at hv
  split at hv
  ·rename_i c t f hh
   cases hv
   exact⟨_,_,hh⟩
  ·cases hv
 obtain⟨T1,fr1,hh1⟩:=hb _ _ _ gPow hv1
 obtain⟨T2,fr2,hh2⟩:=hb _ _ _ gRows hv2
 have row:∀ (g:Nat) (cs:Array Value) (T:TypeId) (f:Nat×Nat) (xs:List IV),W.heap[g]?=some (.cells cs T f)→cs.size=xs.length→(∀ (i:Nat) (r:Value) (c:IV),cs.toList[i]?=some r→xs[i]?=some c→c=.raw r∧zWt r) →
   V 0 (L0 W) W (.pointer (some ⟨g,0,none⟩)) (.cptr (.agg xs)):=by
  intro g cs T f xs hh hl h
  refine .cptr _ _ cs.toList rfl (by simpa[IV.cells] using hl) ?_ (fun i r hr=>?_) (fun i r c hr hc=>?_)
  ·show 0+cs.toList.length≤L0 W g
   simp[L0,hh]
  ·show W.cell? ⟨g,0+i,none⟩=some r
   simp only[World.cell?,hh,Nat.zero_add]
   simpa using hr
  ·obtain⟨rfl,hk⟩:=h i r c hr hc
   exact .raw _ hk
 have hp:∀ (i:Nat) (r:Value) (c:IV),cs1.toList[i]?=some r→pow10L[i]?=some c→c=.raw r∧zWt r:=by
  intro i r c hr hc
  rw[hc1,List.getElem?_map] at hr
  unfold pow10L at hc
  rw[List.getElem?_map] at hc
  obtain⟨z,hz,rfl⟩:=Option.map_eq_some_iff.1 hr
  rw[hz] at hc
  cases hc
  exact⟨rfl,trivial⟩
 have hs1:cs1.size=pow10L.length:=by
  rw[← Array.length_toList,hc1]; simp[pow10L]
 have hs2:cs2.size=rowsL.length:=by
  rw[← Array.length_toList,hc2.1]; rfl
 refine⟨fun b o h=>(by cases h),fun g x hx=>?_,Nat.zero_le _,fun b hb=>?_,fun g x hx=>?_,fun _=>Nat.zero_le _⟩
 ·match g,hx with
  | 0,hx=>cases hx; exact row 0 cs2 T2 fr2 _ hh2 hs2 (fun i r c hr hc=>xZc hc2.1 hc2.2 i r c hr hc)
  | 2,hx=>cases hx; exact row 2 cs1 T1 fr1 _ hh1 hs1 hp
 ·show L0 W b=0
  unfold L0
  rw[Array.getElem?_eq_none (show W.heap.size≤b from hb)]
 ·match g,hx with
  | 0,hx=>cases hx; exact⟨T2,fr2 == (0,0),by show shq W 0=_; simp[shq,hh2,hs2,IV.cells]⟩
  | 2,hx=>cases hx; exact⟨T1,fr1 == (0,0),by show shq W 2=_; simp[shq,hh1,hs1,IV.cells]⟩
theorem xQ9 {W:World}{X':WS}(h:Ext (X0 W) X'):Below W.heap.size W X'.w :=
 ⟨h.os,h.tape,h.output,h.size,fun k hk=>(h.keep k hk rfl).1⟩
theorem wGb:laidOutB prog=true:=by kernel_rfl
theorem yU9 {H:Type}{enc:TypeId×Value→H}{W W':World}(hb:Below W.heap.size W W')(sp:Nat→Bool):∀ {ts:List TypeId} {vs:List Value} {ds:List (DataW H)} {ps:List MemPlace},
  (∀ t∈ts,prog.readableRec t=true∧t<prog.types.size)→DataW.TrodAll enc prog W 0 (fun _=>true) true ts vs ds ps→(∀ p∈ps,p.block<W.heap.size)→(∀ p∈ps,sp p.block=true) →
  DataW.TrodAll enc prog W' 0 sp true ts vs ds ps
 | [],vs,ds,ps,_,h,_,_=>by
  obtain⟨rfl,rfl,rfl⟩:=trodAll_nil h
  rfl
 | t::ts,vs,ds,ps,ht,h,hlt,hsp=>by
  obtain⟨v,vs1,d,ds1,a,b,rfl,rfl,rfl,h1,h2⟩:=trodAll_cons h
  refine⟨a,b,WideElems.Trod_stays wGb (ht t (by simp)).1 (ht t (by simp)).2 h1 (fun p hp=>hb.same (hlt p (by simp[hp]))) (fun p hp=>hsp p (by simp[hp])),?_,rfl⟩
  exact yU9 hb sp (fun t h=>ht t (by simp[h])) h2 (fun p hp=>hlt p (by simp[hp])) (fun p hp=>hsp p (by simp[hp]))
theorem wJy {H:Type}{enc:TypeId×Value→H}{f:Func}{s:ChangeSpec}{fid:FuncId}{W:World}{args:Array Value}{ds gs:List (DataW H)}{before:List MemPlace}{ivs:List IV}
  (hvars:s.vars=[]) (hW:DataW.Whole enc prog f.params.toList s.vars false W args.toList ds gs before) (hfn:s.fn H (ds++gs)={ results:=[.lit (.bool true)],args:=ds })
  (hres:f.resultTypes=#[4]) (hread:∀ t∈f.params.toList,prog.readableRec t=true∧t<prog.types.size) (hg:Go.Iv.Good ⟨prog,gl0,0⟩ (X0 W)) (hv:VL 0 (L0 W) W args.toList ivs)
  (hc:ICall prog gl0 fid ivs (fun _=>none) (fun r st'=>r=.raw (.bool true)∧st'=fun _=>none)) :
  Calls prog fid args W fun e W'=>∃ v,e=.returned v∧s.post enc prog f false true false false W args v W':=by
 refine (hc 0 (X0 W) args.toList hg rfl hv).mono ?_
 rintro e W' ⟨v,rfl,X',x,rfl,hg',he,hx,rfl,_⟩
 obtain rfl:=V.raw_inv hx
 have hb:=xQ9 he
 refine⟨_,rfl,?_⟩
 have hW':=hW
 obtain⟨p,q,hA,hV,rfl,hz,_⟩:=hW
 rw[hvars] at hV
 have hgs:gs=[]∧q=[]:=by
  cases gs with
  | nil=>exact⟨rfl,hV⟩
  | cons _ _=>exact absurd hV (by simp[DataW.TrodVars])
 obtain⟨rfl,rfl⟩:=hgs
 have hlt:∀ x∈p,x.block<W.heap.size:=fun x hx=>by simpa using hW'.lt x (by simpa using hx)
 have hargs:∀ sp:Nat→Bool,(∀ x∈p,sp x.block=true)→DataW.TrodAll enc prog X'.w 0 sp true f.params.toList args.toList (s.fn H (ds++[])).args p:=fun sp hsp=>by
  rw[hfn]
  exact yU9 hb sp hread hA hlt hsp
 have hr:∀ (b:Nat) (sp:Nat→Bool) (hd:Bool),DataW.TrodAll enc prog X'.w b sp hd f.resultTypes.toList ((Value.bool true).resultList f.resultTypes.size) (s.fn H (ds++[])).results []:=fun _ _ _=>by
  rw[hfn,hres]
  exact trodAll_cons_mk (shut_bool xG4 _) trodAll_mk0
 have hvs:∀ sp:Nat→Bool,DataW.TrodVars enc prog X'.w sp s.vars (s.fn H (ds++[])).vars []:=fun _=>by
  rw[hvars,hfn]; rfl
 have hsz:∀ x∈p,(fun b=>decide (b<W.heap.size)) x.block=true:=fun x hx=>by simpa using hlt x hx
 refine⟨ds,[],p++[],[],p,[],hW',hr _ _ _,hargs _ hsz,hvs _,World.keptBut_mono (fun x hx=>⟨hx,Or.inr (by simpa using hx)⟩) (hb.frame (·∈p++[])),fun _=>⟨ok_one hres rfl (okWide_bool_mk xG4 _),_,_,([]++p)++[],
  ⟨[]++p,[],trodAll_append (hargs _ (fun _ _=>rfl)) (hr _ _ _),hvs _,rfl,?_,fun h=>by cases h⟩,fun x hx _=>by simpa using hx⟩⟩
 intro b off hp
 rw[hb.frozen (p:=⟨b,off,none⟩) (hlt (.cell b off) (by simpa using hp))]
 exact hz b off (by simpa using hp)
theorem wXz {W:World}{base:Nat}{v:Value}{t:Tr}{x:IV}(h:Value.okWide prog W .any base 37 v)(hx:VL 0 (L0 W) W v.cells.toList x.cells)(hf:IsTr t x):V 0 (L0 W) W v x:=by
 obtain⟨cs,rfl,_⟩:=WideShapes.okWide_struct vZ2 h
 obtain⟨_,_,_,_,_,_,_,_,_,_,_,_,_,_,_,_,_,_,rfl⟩:=zZ7 hf
 cases cs
 exact hx.agg
theorem wKu {α:Prop}{W:World}{base:Nat}{v:Value}(h:Value.okWide prog W .any base 5 v)(_:α):∃ b:Nat,v=.int .u8 b∧V 0 (L0 W) W (.int .u8 b) (.raw (.int .u8 b))∧b<256:=by
 simp only[Value.okWide,uU8,Cell.okWide] at h
 cases v<;>simp_all [Cell.ok]
 rename_i k n
 obtain⟨rfl,h1,h2⟩:=h
 have e1:IntKind.u8.min=0:=by decide
 have e2:IntKind.u8.max=255:=by decide
 rw[e1] at h1
 rw[e2] at h2
 refine⟨n.toNat,?_,?_,?_⟩
 ·omega
 ·exact .raw _ trivial
 ·omega
def tab32:List Int:=[0,1,28,2,29,14,24,3,30,22,20,15,25,17,4,8,31,27,13,23,21,19,16,7,26,12,18,6,11,5,10,9]
def tab64:List Int:=[0,1,56,2,57,49,28,3,61,58,42,50,38,29,17,4,62,47,59,36,45,43,51,22,53,39,33,30,24,18,12,5,63,55,48,27,60,41,37,16,46,35,44,21,52,32,23,11,54,26,40,15,34,20,31,10,25,14,19,9,13,8,7,6]
def lay (cs:List Value):Obj→Obj
 | .cells _ t frozen=>.cells cs.toArray t frozen
 | o=>o
noncomputable def zJ2 (os:Os):World :=
 { World.holding prog os ⟨#[],#[],[]⟩ with heap:=((((World.holding prog os ⟨#[],#[],[]⟩).heap.modify 0 (lay ((List.range 17).flatMap rowV))).modify 2 (lay (Lib.pow10Tab.map fun z=>.int .u64 z))).modify 3 (lay (tab32.map fun z=>.int .u8 z))).modify 4 (lay (tab64.map fun z=>.int .u8 z)) }
theorem wJz (os:Os)(args:Array Value):laidMet prog Rows.sequentSetsUptoRow.laid ((zJ2 os).forCall (fun _ _=>0) ⟨#[],args,[]⟩).memory :=
 laidMet_of_run' 8 (by kernel_rfl) (by kernel_rfl)
end Go.Proofs.Tryz
