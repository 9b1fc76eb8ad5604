/- Walks: steps, height and cuts of a tree. -/
import Derived.Test.YtabhgbojkjcfjaaGreatDoorQD
import Derived.Test.YtabhgbojkjcfjaaGreatDoorLD
set_option linter.all false
open Nat renaming reduceEqDiff → zE,reduceBEq → zB,reduceAdd → zA,reduceMul → zM,reduceSub → zS,reduceLeDiff → zL
namespace Go.Proofs.Tryz
open Go Go.Iv
set_option maxRecDepth 4000
variable (gl:Nat->Option IV)
theorem xV7 {p:List Nat}{k a:Nat}(h:p[k]?=some a):(plI p)[k]?=some (.raw (.int .i64 (a:Int))):=by simp[plI,List.getElem?_map,h]
theorem zG2 (p q:List Nat):plI (p++q)=plI p++plI q:=by simp[plI]
def sumN:List Nat->Nat
 | []=>0
 | a::l=>a+sumN l
theorem zQc:∀l m:List Nat,sumN (l++m)=sumN l+sumN m
 | [],m=>by simp[sumN]
 | a::l,m=>by simp only[List.cons_append,sumN,zQc l m];omega
theorem wZm (l:List Nat)(k:Nat):sumN (l.take k)<=sumN l:=by
 conv=>rhs;rw[<- List.take_append_drop k l]
 rw[zQc];omega
def maxN:List Nat->Nat
 | []=>0
 | a::l=>max a (maxN l)
theorem zQj:∀l m:List Nat,maxN (l++m)=max (maxN l) (maxN m)
 | [],m=>by simp[maxN]
 | a::l,m=>by simp only[List.cons_append,maxN,zQj l m];omega
theorem vKf (D:Tag)(l:List Nat)(F:okEs D 1)(O:sumN l<=4611686018427387904)(st:ISt):ICall prog gl 84 [.sl D (plI l)] st (λr st'=>r=.raw (.int .i64 (sumN l))/\st'=st):=by
 refine iI func84 ?_;simp only[go_sem,reduceCtorEq,yV2];intro _;refine LoopC.ctr l.length (λk fr st' ds=>fr 3=.iv (.raw (.int .i64 (sumN (l.take k))))/\fr 6=.iv (.sl D (plI l))/\fr 7=.iv (.raw (.int .i64 l.length))/\fr 8=.iv (.raw (.int .i64 k))/\st'=st/\ds=[]) ?_ ?_ ?_
 ·simp only[go_sem,zE];simp[sumN]
 ·rintro k fr E _ A ⟨f3,f6,f7,f8,rfl,rfl⟩;obtain⟨a,G⟩:=yQ3 A;have h1:=wZm l (k+1);have h2:sumN (l.take (k+1))=sumN (l.take k)+a:=by rw[yQ4 G,zQc];rfl
  have J:IntKind.i64.wrap (((sumN (l.take k):Nat):Int)+(a:Int))=((sumN (l.take (k+1)):Nat):Int):=by rw[w64]<;>omega
  simp only[go_sem,zE,f3,f6,f7,f8,lt_i A,yQ2 F,iNn,xV7 G,fits,J,yQb A (show l.length<=281474976710656 by omega)]
 ·rintro fr E _ ⟨f3,f6,f7,f8,rfl,rfl⟩;rw[lTl] at f3;simp only[go_sem,zE,f3,f7,f8,yQj (nLi _)];exact yQ0 ⟨rfl,rfl⟩
theorem uVw (a b:Nat):max (a:Int) (b:Int)=((max a b:Nat):Int):=by omega
theorem kZ1 (E:Tag)(l:List Nat)(A:okEs E 1)(U:0<l.length)(st:ISt):ICall prog gl 86 [.sl E (plI l)] st (λr st'=>r=.raw (.int .i64 (maxN l))/\st'=st):=by
 obtain⟨a0,D⟩:=yQ3 U;have d1:decide (((l.length:Nat):Int)<1)=false:=dEf (by omega);have t1:l.take 1=[a0]:=by
  have:=yQ4 D;simpa using this
 refine iI func86 ?_;simp only[go_sem,reduceCtorEq,yV2];intro G;simp only[go_sem,reduceCtorEq,d1,yQ2 A,Int.le_refl,Int.toNat_zero,xV7 D,fits];refine LoopC.ctr (l.length-1) (λk fr st' ds=>fr 3=.iv (.raw (.int .i64 (maxN (l.take (k+1)))))/\fr 0=.iv (.sl E (plI l))/\fr 4=.iv (.raw (.int .i64 ((k+1:Nat):Int)))/\st'=st/\ds=[]) ?_ ?_ ?_
 ·simp only[go_sem,zE,reduceCtorEq,t1];simp[maxN]
 ·rintro k fr F _ O ⟨f3,f0,f4,rfl,rfl⟩;obtain⟨a,J⟩:=yQ3 (l:=l) (k:=k+1) (by omega);have h2:maxN (l.take (k+1+1))=max (maxN (l.take (k+1))) a:=by rw[yQ4 J,zQj];simp[maxN]
  simp only[go_sem,zE,reduceCtorEq,f3,f0,f4,yV2,lt_i (show k+1<l.length by omega),yQ2 A,iNn,xV7 J,fits,uVw,yQb (show k+1<l.length by omega) (show l.length<=281474976710656 by omega)];intro _;rw[h2]
 ·rintro fr F _ ⟨f3,f0,f4,rfl,rfl⟩;rw[show l.length-1+1=l.length by omega] at f3 f4;rw[lTl] at f3;simp only[go_sem,zE,reduceCtorEq,f3,f0,f4,yV2,yQj (nLi _)];intro _;exact yQ0 ⟨rfl,rfl⟩
def subsT:Tr->List Tr
 | .mk _ _ _ _ _ sub=>sub
def zU4 (g:Nat)(v:Tr->Nat):Prop:=∀(t:Tr) (l:List Nat) (x:IV) (D:Tag) (A st:ISt),IsTr t x->t.steps<=1099511627776->l=(subsT t).map v->own st D l.length 1 A->subSt A st →
 ICall prog gl g [x,.sl D (plI l)] st (λr st'=>r=.raw (.int .i64 (v t))/\subSt A st')
theorem xZo:∀ {l:List Tr}{t:Tr},t∈l->t.steps<=yQp l
 | a::l,t,h=>by
  simp only[yQp];rcases List.mem_cons.1 h with rfl|h
  ·omega
  ·have:=xZo h;omega
theorem yX6:∀l:List Tr,l.length<=yQp l
 | []=>Nat.le_refl _
 | .mk _ _ _ _ _ s::l=>by
  have:=yX6 l;simp only[List.length_cons,yQp,Tr.steps];omega
def wGi (v:Tr->Nat)(g:Nat)(t:Tr):Prop:=∀(x:IV) (_:IsTr t x) (_:t.steps<=1099511627776) (st:ISt),ICall prog gl 82 [x,.fn (.func g) [] []] st (λr st'=>r=.raw (.int .i64 (v t))/\st'=st)
theorem wK6 (v:Tr->Nat)(g:Nat)(aa:entI prog g=true)(hg:zU4 gl g v)(rule:Nat)(sq:Sq)(f:Fm)(u:Tm)(n:ByteArray)(sub:List Tr)(IH:∀a∈sub,wGi gl v g a):wGi gl v g (.mk rule sq f u n sub):=by
 intro x hx hs st;have af:=hx;obtain⟨tl,xl,tr,xr,op,fn,ta,xa,tb,xb,vb,un,tu,xu,ts,xs,rfl,aS,_,_,_,_,_,_,e3,i3⟩:=hx.mk;have ag:=hs;simp only[Tr.steps] at hs;have hll:=yX6 sub;refine iI func82 ?_;simp only[go_sem,zE,i3.len];intro _;refine LoopC.ctr sub.length (λk fr st' ds=>(∃D,fr 5=.iv (.sl D (plI ((sub.take k).map v)))/\own st' D k 1 st/\subSt st st')/\fr 1=.iv (.fn (.func g) [] [])/\fr 2=.box [.raw (.int .u8 rule),.sl tl xl,.sl tr xr,.raw (.int .u8 op),.raw (.string fn),.sl ta xa,.sl tb xb,.raw (.bool vb),.raw (.string un),.sl tu xu,.raw (.string n),.sl ts xs] /\
  fr 9=.iv (.sl ts xs)/\fr 10=.iv (.raw (.int .i64 sub.length))/\fr 11=.iv (.raw (.int .i64 k))/\ds=[]) ?_ ?_ ?_
 ·simp only[go_sem,zE];exact⟨⟨_,rfl,.inl ⟨rfl,rfl⟩,subSt.refl _⟩,rfl⟩
 ·rintro k fr G _ W ⟨⟨D,f5,F,E⟩,f1,f2,f9,f10,f11,rfl⟩;obtain⟨a,ha⟩:=yQ3 W;obtain⟨z,ah,hz⟩:=i3.get ha;have aQ:=xZo (lMg ha);have A:=IH a (lMg ha) z hz (by omega) G;obtain⟨ae,aJ,aw,aI,au,aP,aU,aM,aA,aK,ay,v',aD,aF,an,n',aH,aq,rfl⟩:=yW5 hz;simp only[go_sem,zE,zB,zA,zL,f1,f5,f9,f10,f11,lt_i W,yQ2 e3,iNn,ah,fits];refine A.mono ?_;rintro _ _ ⟨rfl,rfl⟩;simp only[go_sem,zE,zA,zM,zL,fits,zVn];refine yZy F (by rw[yV2,List.length_map,List.length_take];omega) E rfl (by simp[fits,IV.one]) (by simp only;omega) (by omega) λac st4 U J _ _=>?_;simp only[go_sem,zE,f1,f2,f9,f10,f11,yQb W (show sub.length<=281474976710656 by omega)];exact⟨ac,by rw[yQ4 ha,List.map_append,zG2];rfl,U,J⟩
 ·rintro fr G _ ⟨⟨D,f5,F,E⟩,f1,f2,f9,f10,f11,rfl⟩;rw[lTl] at f5;have A:=hg _ (sub.map v) _ D st G af ag rfl (by rw[List.length_map];exact F) E;simp only[go_sem,zE,zA,zL,f1,f2,f5,f10,f11,yQj (nLi _),aa];refine A.mono ?_;rintro _ aO ⟨rfl,O⟩;simp only[go_sem];exact yQc O ⟨rfl,rfl⟩
theorem xGe (v:Tr->Nat)(g:Nat)(A:entI prog g=true)(D:zU4 gl g v):∀(k:Nat) (t:Tr),SizeOf.sizeOf t<k->wGi gl v g t
 | 0,t,h=>by omega
 | k+1,.mk r sq f u n sub,h=>wK6 gl v g A D r sq f u n sub (λa E=>xGe v g A D k a (by
   have:=lSm E;simp at h;omega))
theorem wK7 (v:Tr->Nat)(g:Nat)(A:entI prog g=true)(D:zU4 gl g v)(t:Tr):wGi gl v g t:=xGe gl v g A D _ t (Nat.lt_succ_self _)
theorem zKo:∀l:List Tr,sumN (l.map Tr.steps)=yQp l
 | []=>rfl
 | a::l=>by simp only[List.map_cons,sumN,yQp,zKo l]
theorem zUf:∀l:List Tr,sumN (l.map Tr.cuts)=yZn l
 | []=>rfl
 | a::l=>by simp only[List.map_cons,sumN,yZn,zUf l]
theorem zVb:∀l:List Tr,maxN (l.map Tr.height)=yQz l
 | []=>rfl
 | a::l=>by simp only[List.map_cons,maxN,yQz,zVb l]
mutual
theorem wKr:∀t:Tr,t.cuts<=t.steps
 | .mk _ _ _ _ _ sub=>by
  have:=zXr sub;simp only[Tr.cuts,Tr.steps];split<;>omega
theorem zXr:∀l:List Tr,yZn l<=yQp l
 | []=>Nat.le_refl _
 | a::l=>by
  have:=wKr a;have:=zXr l;simp only[yZn,yQp];omega
end
mutual
theorem xJc:∀t:Tr,t.height<=t.steps
 | .mk _ _ _ _ _ sub=>by
  have:=yU3 sub;simp only[Tr.height,Tr.steps];omega
theorem yU3:∀l:List Tr,yQz l<=yQp l
 | []=>Nat.le_refl _
 | a::l=>by
  have:=xJc a;have:=yU3 l;simp only[yQz,yQp];omega
end
theorem wK8:zU4 gl 83 Tr.steps:=by
 rintro⟨rule,s,m,u,n,sub⟩ l x tg ak st hx hs rfl D E;simp only[subsT] at D ⊢;simp only[Tr.steps] at hs;have A:=λst=>vKf gl tg (sub.map Tr.steps) D.es (by rw[zKo];omega) st;have hw:IntKind.i64.wrap (1+((yQp sub:Nat):Int))=((1+yQp sub:Nat):Int):=by rw[w64]<;>omega
 rw[zKo] at A;obtain⟨F,ag,U,af,O,al,aq,aj,aa,ai,W,v',ab,ac,G,n',ae,J,rfl⟩:=yW5 hx;refine iI func83 ?_;simp only[go_sem,zE,zA];refine (A _).mono ?_;rintro _ _ ⟨rfl,rfl⟩;simp only[go_sem,hw];exact yQ0 ⟨by simp only[Tr.steps],E⟩
theorem wYk:zU4 gl 87 Tr.cuts:=by
 rintro⟨rule,s,m,u,n,sub⟩ l x tg aj st hx hs rfl E D;simp only[subsT] at E ⊢;simp only[Tr.steps] at hs;have ao:=zXr sub;have A:=λst=>vKf gl tg (sub.map Tr.cuts) E.es (by rw[zUf];omega) st;have hw:IntKind.i64.wrap (1+((yZn sub:Nat):Int))=((1+yZn sub:Nat):Int):=by rw[w64]<;>omega
 rw[zUf] at A;obtain⟨af,O,ae,J,ak,aq,ai,W,ah,U,v',aa,ab,F,ac,G,rfl,_⟩:=hx.mk;refine iI func87 ?_;by_cases h:rule=17
 ·have d:decide ((rule:Int)=17)=true:=dEt (by omega);simp only[go_sem,zE,zA,d];refine (A _).mono ?_;rintro _ _ ⟨rfl,rfl⟩;simp only[go_sem,hw];exact yQ0 ⟨by simp only[Tr.cuts,if_pos h],D⟩
 ·have d:decide ((rule:Int)=17)=false:=dEf (by omega);simp only[go_sem,zE,zA,d];refine (A _).mono ?_;rintro _ _ ⟨rfl,rfl⟩;simp only[go_sem];exact yQ0 ⟨by simp only[Tr.cuts,if_neg h,Nat.zero_add],D⟩
theorem wQl:zU4 gl 85 Tr.height:=by
 rintro⟨rule,s,m,u,n,sub⟩ l x tg am st hx hs rfl A G;simp only[subsT] at A ⊢;simp only[Tr.steps] at hs;have aw:=yU3 sub;have hll:=yX6 sub;have hw:IntKind.i64.wrap (1+((yQz sub:Nat):Int))=((1+yQz sub:Nat):Int):=by rw[w64]<;>omega
 have hm:maxN (sub.map Tr.height++[0])=yQz sub:=by rw[zQj,zVb];simp[maxN]
 obtain⟨O,aj,ab,ai,aa,an,ax,al,ae,ak,ac,v',af,ag,U,n',ah,W,rfl⟩:=yW5 hx;refine iI func85 ?_;simp only[go_sem,zE,zA,zM,zL,fits,yQ1];refine yZy A (by rw[yV2]) G rfl (by simp[fits,IV.one]) (by simp only[List.length_map];omega) (by simp only[List.length_map];omega) λJ st4 F E _ _=>?_;have D:=λst=>kZ1 gl J (sub.map Tr.height++[0]) F.es (by simp) st;rw[hm,zG2] at D;simp only[go_sem,zA];refine (D _).mono ?_;rintro _ _ ⟨rfl,rfl⟩;simp only[go_sem,hw];exact yQ0 ⟨by simp only[Tr.height],E⟩
theorem wVi (t:Tr)(x:IV)(D:IsTr t x)(hs:t.steps<=1099511627776)(st:ISt):ICall prog gl 32 [x] st (λr st'=>r=.raw (.int .i64 (t.steps))/\st'=st):=by
 have hf:=λst=>wK7 gl Tr.steps 83 (by simp only[go_sem]) (wK8 gl) t x D hs st;obtain⟨A,ae,J,ac,G,ah,ak,ag,U,af,O,v',W,aa,E,n',ab,F,rfl⟩:=yW5 D;refine iI func32 ?_;simp only[go_sem,zE,zA,zL];refine (hf _).mono ?_;rintro _ _ ⟨rfl,rfl⟩;simp only[go_sem];exact yQ0 ⟨rfl,rfl⟩
theorem xGz (t:Tr)(x:IV)(D:IsTr t x)(hs:t.steps<=1099511627776)(st:ISt):ICall prog gl 34 [x] st (λr st'=>r=.raw (.int .i64 (t.height))/\st'=st):=by
 have hf:=λst=>wK7 gl Tr.height 85 (by simp only[go_sem]) (wQl gl) t x D hs st;obtain⟨A,ae,J,ac,G,ah,ak,ag,U,af,O,v',W,aa,E,n',ab,F,rfl⟩:=yW5 D;refine iI func34 ?_;simp only[go_sem,zE,zA,zL];refine (hf _).mono ?_;rintro _ _ ⟨rfl,rfl⟩;simp only[go_sem];exact yQ0 ⟨rfl,rfl⟩
theorem wUz (t:Tr)(x:IV)(D:IsTr t x)(hs:t.steps<=1099511627776)(st:ISt):ICall prog gl 36 [x] st (λr st'=>r=.raw (.int .i64 (t.cuts))/\st'=st):=by
 have hf:=λst=>wK7 gl Tr.cuts 87 (by simp only[go_sem]) (wYk gl) t x D hs st;obtain⟨A,ae,J,ac,G,ah,ak,ag,U,af,O,v',W,aa,E,n',ab,F,rfl⟩:=yW5 D;refine iI func36 ?_;simp only[go_sem,zE,zA,zL];refine (hf _).mono ?_;rintro _ _ ⟨rfl,rfl⟩;simp only[go_sem];exact yQ0 ⟨rfl,rfl⟩
mutual
def wTr:Tr->Nat
 | .mk _ s f u n sub=>wFms s.l+wFms s.r+wFm f+wTm u+n.size+wTrs sub
def wTrs:List Tr->Nat
 | []=>0
 | a::l=>wTr a+wTrs l
end
def xQ6 (s:Sq)(f:Fm)(u:Tm)(n:ByteArray):Bool:=decide (wFms s.l+wFms s.r<=300)&&!decide (300<wFm f)&&!decide (300<wTm u)&&!decide (100<n.size)
mutual
def okT:Tr->Bool
 | .mk _ s f u n sub=>xQ6 s f u n&&okTs sub
def okTs:List Tr->Bool
 | []=>true
 | a::l=>okT a&&okTs l
end
theorem zQi:∀l m:List Tr,okTs (l++m)=(okTs l&&okTs m)
 | [],m=>by simp[okTs]
 | a::l,m=>by simp only[List.cons_append,okTs,zQi l m,Bool.and_assoc]
theorem xKi {l:List Tr}{k:Nat}{a:Tr}(h:l[k]?=some a):yQp (l.take (k+1))=yQp (l.take k)+a.steps:=by
 rw[yQ4 h,yJp];simp[yQp]
theorem wZn (l:List Tr)(k:Nat):yQp (l.take k)<=yQp l:=by
 conv=>rhs;rw[<- List.take_append_drop k l]
 rw[yJp];omega
end Go.Proofs.Tryz
namespace Go.Proofs.Tryz
open Go Go.Iv
set_option maxRecDepth 8000
theorem yVb {ca:Nat}{s:Sq}{rule:Nat}{main:Fm}{term:Tm}{name:ByteArray}{r:Rw}{ad:List Sq}(h1:yXl ca s=true)(h2:rowS ca rule=some r)(J:yZl ca rule r main term name=(ad,0))
  (G:r.left=true->hasF s.l main=true) (F:r.right=true->hasF s.r main=true) (E:r.asks≠2):yZt ca s rule main term name=(ad,0):=by
 unfold yZt;rw[h1,h2];simp only[Bool.not_true,bFt,if_false,J];obtain⟨D,A,op,asks⟩:=r;simp only at G F E ⊢;have U:(D&&!hasF s.l main)=false:=by
  cases D
  ·rfl
  ·rw[G rfl];rfl
 have O:(A&&!hasF s.r main)=false:=by
  cases A
  ·rfl
  ·rw[F rfl];rfl
 rw[U,O,dEf E];rfl
theorem yJj {l:List Fm}{f:Fm}(h:f∈l)(A:f.right=true):hasF l f=true:=xJd.2 ⟨f,h,xGm A⟩
def zP:Fm:=.mk 1 ⟨#[80]⟩ [] []
def zQ:Fm:=.mk 1 ⟨#[81]⟩ [] []
def zI:Fm:=.mk 6 ⟨#[]⟩ [] [zP,zQ]
def tm0:Tm:=.mk false ⟨#[]⟩ []
def trP:Tr:=.mk 1 ⟨[zP,zI],[zP]⟩ zP tm0 ⟨#[]⟩ []
def trQ:Tr:=.mk 1 ⟨[zP,zQ],[zQ]⟩ zQ tm0 ⟨#[]⟩ []
def trA:Tr:=.mk 9 ⟨[zP,zI],[zQ]⟩ zI tm0 ⟨#[]⟩ [trP,trQ]
def row1:Rw:=⟨true,true,0,0⟩
def row9:Rw:=⟨true,false,6,0⟩
theorem yUn {f:Fm}(h:f.right=true):zXo [f]=true:=by simp[zXo,xGm h]
theorem zX5 {s:Sq}(h:(decide (s.l.length<=64)&&decide (s.r.length<=64)&&s.l.all (fmB 1)&&s.r.all (fmB 1))=true):yXl 1 s=true:=by
 unfold yXl;rw[show yX7 1=true from rfl,Bool.true_and,h];rfl
theorem zUa {s:Sq}(h:(decide (s.l.length<=64)&&decide (s.r.length<=64)&&s.l.all (fmB 2)&&s.r.all (fmB 2))=true)(h2:zXo s.r=true):yXl 2 s=true:=by
 unfold yXl;rw[show yX7 2=true from rfl,Bool.true_and,h,h2];rfl
theorem vQl:yZt 1 ⟨[zP,zI],[zP]⟩ 1 zP tm0 ⟨#[]⟩=([],0):=yVb (r:=row1) (zX5 (by decide)) rfl (by rfl) (λ_=>yJj (by simp) (by decide)) (λ_=>yJj (by simp) (by decide)) (by decide)
theorem vQk:yZt 2 ⟨[zP,zI],[zP]⟩ 1 zP tm0 ⟨#[]⟩=([],0):=yVb (r:=row1) (zUa (by decide) (yUn (by decide))) rfl (by rfl) (λ_=>yJj (by simp) (by decide)) (λ_=>yJj (by simp) (by decide)) (by decide)
theorem vQj:yZt 1 ⟨[zP,zQ],[zQ]⟩ 1 zQ tm0 ⟨#[]⟩=([],0):=yVb (r:=row1) (zX5 (by decide)) rfl (by rfl) (λ_=>yJj (by simp) (by decide)) (λ_=>yJj (by simp) (by decide)) (by decide)
theorem vQi:yZt 2 ⟨[zP,zQ],[zQ]⟩ 1 zQ tm0 ⟨#[]⟩=([],0):=yVb (r:=row1) (zUa (by decide) (yUn (by decide))) rfl (by rfl) (λ_=>yJj (by simp) (by decide)) (λ_=>yJj (by simp) (by decide)) (by decide)
theorem vQq:yZt 1 ⟨[zP,zI],[zQ]⟩ 9 zI tm0 ⟨#[]⟩=([⟨[],[zP]⟩,⟨[zQ],[]⟩],0):=yVb (r:=row9) (zX5 (by decide)) rfl (by rfl) (λ_=>yJj (by simp) (by decide)) (λh=>by cases h) (by decide)
theorem vQp:yZt 2 ⟨[zP,zI],[zQ]⟩ 9 zI tm0 ⟨#[]⟩=([⟨[],[zP]⟩,⟨[zQ],[]⟩],0):=yVb (r:=row9) (zUa (by decide) (yUn (by decide))) rfl (by rfl) (λ_=>yJj (by simp) (by decide)) (λh=>by cases h) (by decide)
theorem zQs {l m:List Fm}(h:∀f∈l,f∈m/\f.right=true):allF l m=true:=List.all_eq_true.2 λf A=>yJj (h f A).1 (h f A).2
theorem yKv {ca rule:Nat}{s:Sq}{main:Fm}{term:Tm}{name:ByteArray}{sub:List Tr}{ad:List Sq}(h:yZt ca s rule main term name=(ad,0))(A:sub.length=ad.length)(hp:yJ2 s ad sub=true):yZj ca (.mk rule s main term name sub)=0:=by
 simp only[yZj];rw[h];simp only[ne_eq,nTf,if_false,A,hp,if_true]
theorem zXb:zP.right=true:=by decide
theorem wXd:zQ.right=true:=by decide
theorem vZ1:zI.right=true:=by decide
theorem wXn:yJ2 ⟨[zP,zI],[zQ]⟩ [⟨[],[zP]⟩,⟨[zQ],[]⟩] [trP,trQ]=true:=by
 have D:allF [zP,zI] [zP,zI]=true:=zQs λf A=>by
  simp only[List.mem_cons,List.not_mem_nil,or_false] at A;rcases A with rfl|rfl
  ·exact⟨by simp,zXb⟩
  ·exact⟨by simp,vZ1⟩
 have a2:allF [zP] [zQ,zP]=true:=zQs λf A=>by
  simp only[List.mem_cons,List.not_mem_nil,or_false] at A;subst A;exact⟨by simp,zXb⟩
 have a3:allF [zP,zQ] [zP,zI,zQ]=true:=zQs λf A=>by
  simp only[List.mem_cons,List.not_mem_nil,or_false] at A;rcases A with rfl|rfl
  ·exact⟨by simp,zXb⟩
  ·exact⟨by simp,wXd⟩
 have a4:allF [zQ] [zQ]=true:=zQs λf A=>by
  simp only[List.mem_cons,List.not_mem_nil,or_false] at A;subst A;exact⟨by simp,wXd⟩
 simp only[yJ2,trP,trQ,Tr.sq,Sq.plus,yXf,List.append_nil,List.cons_append,List.nil_append,D,a2,a3,a4,Bool.and_self]
theorem wG4:yZj 1 trA=0:=yKv vQq rfl wXn
theorem wG3:yZj 2 trA=0:=yKv vQp rfl wXn
theorem wYz:yZj 1 trP=0:=yKv vQl rfl rfl
theorem wYy:yZj 2 trP=0:=yKv vQk rfl rfl
theorem wYx:yZj 1 trQ=0:=yKv vQj rfl rfl
theorem wYw:yZj 2 trQ=0:=yKv vQi rfl rfl
theorem wGp:trA.walk []=[([],trA),([0],trP),([1],trQ)]:=rfl
theorem wGn:yXx 1 trA=([],0):=by
 unfold yXx;rw[wGp];simp only[yZ0,wG4,wYz,wYx,if_true];rfl
theorem wGm:yXx 2 trA=([],0):=by
 unfold yXx;rw[wGp];simp only[yZ0,wG3,wYy,wYw,if_true];rfl
theorem vQh:trA.steps=3:=rfl
theorem wYh:trA.height=2:=rfl
theorem vWs:trA.cuts=0:=rfl
def zN:Fm:=.mk 3 ⟨#[]⟩ [] [zP]
def zO:Fm:=.mk 5 ⟨#[]⟩ [] [zP,zN]
def trE1:Tr:=.mk 1 ⟨[zP],[zP]⟩ zP tm0 ⟨#[]⟩ []
def trE2:Tr:=.mk 4 ⟨[],[zP,zN]⟩ zN tm0 ⟨#[]⟩ [trE1]
def trE:Tr:=.mk 8 ⟨[],[zO]⟩ zO tm0 ⟨#[]⟩ [trE2]
theorem vQo:yZt 1 ⟨[zP],[zP]⟩ 1 zP tm0 ⟨#[]⟩=([],0):=yVb (r:=row1) (zX5 (by decide)) rfl (by rfl) (λ_=>yJj (by simp) (by decide)) (λ_=>yJj (by simp) (by decide)) (by decide)
theorem vQn:yZt 1 ⟨[],[zP,zN]⟩ 4 zN tm0 ⟨#[]⟩=([⟨[zP],[]⟩],0):=yVb (r:=⟨false,true,3,0⟩) (zX5 (by decide)) rfl (by rfl) (λh=>by cases h) (λ_=>yJj (by simp) (by decide)) (by decide)
theorem vKj:yZt 1 ⟨[],[zO]⟩ 8 zO tm0 ⟨#[]⟩=([⟨[],[zP,zN]⟩],0):=yVb (r:=⟨false,true,5,0⟩) (zX5 (by decide)) rfl (by rfl) (λh=>by cases h) (λ_=>yJj (by simp) (by decide)) (by decide)
theorem vQm:yZt 2 ⟨[],[zO]⟩ 8 zO tm0 ⟨#[]⟩=([⟨[],[zP]⟩],0):=yVb (r:=⟨false,true,5,0⟩) (zUa (by decide) (yUn (by decide))) rfl (by rfl) (λh=>by cases h) (λ_=>yJj (by simp) (by decide)) (by decide)
theorem vZ0:zN.right=true:=by decide
theorem vY8 (l:List Fm):allF [zP,zN] (l++[zP,zN])=true:=zQs λf A=>by
 simp only[List.mem_cons,List.not_mem_nil,or_false] at A;rcases A with rfl|rfl
 ·exact⟨by simp,zXb⟩
 ·exact⟨by simp,vZ0⟩
theorem wG2:yZj 1 trE1=0:=yKv vQo rfl rfl
theorem wG1:yZj 1 trE2=0:=yKv vQn rfl (by
 have D:allF [zP] [zP]=true:=zQs λf A=>by
  simp only[List.mem_cons,List.not_mem_nil,or_false] at A;subst A;exact⟨by simp,zXb⟩
 have a2:allF [zP] [zP,zN]=true:=zQs λf A=>by
  simp only[List.mem_cons,List.not_mem_nil,or_false] at A;subst A;exact⟨by simp,zXb⟩
 simp only[yJ2,trE1,Tr.sq,Sq.plus,yXf,List.append_nil,List.nil_append,D,a2,Bool.and_self])
theorem vXh:yZj 1 trE=0:=yKv vKj rfl (by
 have A:allF [] []=true:=rfl;simp only[yJ2,trE2,Tr.sq,Sq.plus,yXf,List.nil_append,A,vY8 [zO],Bool.and_self])
theorem wGo:trE.walk []=[([],trE),([0],trE2),([0,0],trE1)]:=rfl
theorem wGl:yXx 1 trE=([],0):=by
 unfold yXx;rw[wGo];simp only[yZ0,vXh,wG2,wG1,if_true];rfl
theorem wG0:yZj 2 trE=195:=by
 have h1:hasF [zO,zP] zN=false:=by
  simp[hasF,eqF,zN,zO,zP,Fm.op]
 have h2:yJ2 ⟨[],[zO]⟩ [⟨[],[zP]⟩] [trE2]=false:=by
  have A:allF [zP,zN] [zO,zP]=false:=List.all_eq_false.2 ⟨zN,by simp,by rw[h1];simp⟩;simp only[yJ2,trE2,Tr.sq,Sq.plus,yXf,List.cons_append,List.nil_append,A,Bool.and_false,Bool.false_and]
 unfold trE;simp only[yZj];rw[vQm];simp only[h2];rfl
theorem wGk:yXx 2 trE=([],195):=by
 unfold yXx;rw[wGo];simp only[yZ0,wG0];rfl
theorem xWp {ca:Nat}{s:Sq}{rule:Nat}{main:Fm}{term:Tm}{name:ByteArray}{r:Rw}{ad:List Sq}(h1:yXl ca s=true)(h2:rowS ca rule=some r)(J:yZl ca rule r main term name=(ad,0))
  (G:r.left=true->hasF s.l main=true) (F:r.right=true->hasF s.r main=true) (E:r.asks=2):yZt ca s rule main term name=if yKj s name then ([],193) else (ad,0):=by
 unfold yZt;rw[h1,h2];simp only[Bool.not_true,bFt,if_false,J];obtain⟨D,A,op,asks⟩:=r;simp only at G F E ⊢;have U:(D&&!hasF s.l main)=false:=by
  cases D
  ·rfl
  ·rw[G rfl];rfl
 have O:(A&&!hasF s.r main)=false:=by
  cases A
  ·rfl
  ·rw[F rfl];rfl
 rw[U,O,dEt E,Bool.true_and];rfl
def qx:ByteArray:=⟨#[120]⟩
def qy:ByteArray:=⟨#[121]⟩
def qu:ByteArray:=⟨#[117]⟩
def zX:Fm:=.mk 8 qx [] [.mk 1 ⟨#[81]⟩ [.mk true qx []] []]
def zY:Fm:=.mk 9 qy [] [.mk 1 ⟨#[82]⟩ [.mk true qy [],.mk true qu []] []]
def zU:Fm:=.mk 1 ⟨#[81]⟩ [.mk true qu []] []
theorem wUw:yZl 3 14 ⟨false,true,8,2⟩ zX tm0 qu=([⟨[],[zU]⟩],0):=rfl
theorem wZc {s:Sq}(h:(decide (s.l.length<=64)&&decide (s.r.length<=64)&&s.l.all (fmB 3)&&s.r.all (fmB 3))=true):yXl 3 s=true:=by
 unfold yXl;rw[show yX7 3=true from rfl,Bool.true_and,h];rfl
theorem vYk:xZ7 3 ⟨[zP],[zX]⟩ 14 zX tm0 qu=([⟨[zP],[zX,zU]⟩],0):=by
 have h:=xWp (ca:=3) (s:=⟨[zP],[zX]⟩) (rule:=14) (main:=zX) (term:=tm0) (name:=qu) (wZc (by decide)) rfl wUw (λh=>by cases h) (λ_=>yJj (by simp) (by decide)) rfl;have A:yKj ⟨[zP],[zX]⟩ qu=false:=by decide
 rw[A] at h;unfold xZ7;rw[h];rfl
theorem vYj:xZ7 3 ⟨[zY],[zX]⟩ 14 zX tm0 qu=([],193):=by
 have h:=xWp (ca:=3) (s:=⟨[zY],[zX]⟩) (rule:=14) (main:=zX) (term:=tm0) (name:=qu) (wZc (by decide)) rfl wUw (λh=>by cases h) (λ_=>yJj (by simp) (by decide)) rfl;have A:yKj ⟨[zY],[zX]⟩ qu=true:=by decide
 rw[A] at h;unfold xZ7;rw[h];rfl
def zD:Fm:=.mk 4 ⟨#[]⟩ [] [zP,zQ]
theorem vV8:yJb zP=zP:=rfl
theorem vV9:yJb zD=zD:=rfl
theorem kQz:SetS ⟨[zD,zD,zP],[]⟩=(⟨[zP,zD],[]⟩,0):=by
 have A:SetF [zD,zD,zP] [zP,zD]:=by
  refine⟨?_,λf=>?_⟩
  ·refine List.pairwise_cons.2 ⟨λf D=>?_,List.pairwise_singleton ..⟩;obtain rfl:=List.mem_singleton.1 D;simp[zP,zD,yZv,cmpN,lexI]
  ·simp only[List.mem_cons,List.not_mem_nil,or_false];constructor
   ·rintro (h|h)
    ·exact .inr (.inr h)
    ·exact .inl h
   ·rintro (h|h|h)
    ·exact .inr h
    ·exact .inr h
    ·exact .inl h
 have h1:yZm [zD,zD,zP]=([zP,zD],0):=by
  unfold yZm;rw[show[zD,zD,zP].all Fm.right=true by decide];simp only[if_true,List.map_cons,List.map_nil,vV8,vV9,zXa A]
 have h2:yZm []=([],0):=by
  unfold yZm;simp only[List.all_nil,if_true,List.map_nil,xWt]
 unfold SetS;simp only[h1,h2,ne_eq,nTf,if_false]
end Go.Proofs.Tryz
namespace Go.Proofs.Tryz
open Go Go.Iv
set_option maxRecDepth 4000
def tagR:List Tr->Tag
 | []=>⟨true,.nil,0⟩
 | _::_=>⟨true,.full,12⟩
theorem vQe (l:List Tr):okEs (tagR l) 12:=by cases l<;>simp[tagR,okEs]
mutual
def trI:Tr->IV
 | .mk rule s (.mk o fn us D) (.mk v E A) n sub=>.agg [.raw (.int .u8 rule),.sl (tagF s.l) (fmsI s.l),.sl (tagF s.r) (fmsI s.r),.raw (.int .u8 o),.raw (.string fn),.sl (tagT us) (tmsI us),.sl (tagF D) (fmsI D),.raw (.bool v),.raw (.string E),.sl (tagT A) (tmsI A),.raw (.string n),.sl (tagR sub) (trsI sub)]
def trsI:List Tr->List IV
 | []=>[]
 | a::l=>trI a::trsI l
end
mutual
def bytT:Tr->Bool
 | .mk rule s f _ _ sub=>decide (rule<256)&&zG6 s.l&&zG6 s.r&&wWr f&&wG6 sub
def wG6:List Tr->Bool
 | []=>true
 | a::l=>bytT a&&wG6 l
end
mutual
theorem wZg:∀t:Tr,bytT t=true->IsTr t (trI t)
 | .mk rule s (.mk o fn us D) (.mk v E A) n sub,h=>by
  simp only[bytT,bAt,dTe] at h;obtain⟨⟨⟨⟨h1,h2⟩,U⟩,O⟩,J⟩:=h;have G:=zZn (.mk o fn us D) O;have F:=xZg (.mk v E A);simp only[fmI] at G;simp only[tmI] at F;simp only[IsTr];exact⟨tagF s.l,fmsI s.l,tagF s.r,fmsI s.r,o,fn,tagT us,tmsI us,tagF D,fmsI D,v,E,tagT A,tmsI A,tagR sub,trsI sub,by simp only[trI],h1,yV0 _,yKe _ h2,yV0 _,yKe _ U,G,F,vQe _,wZf sub J⟩
theorem wZf:∀l:List Tr,wG6 l=true->IsTrs l (trsI l)
 | [],_=>rfl
 | a::l,h=>by
  simp only[wG6,bAt] at h;exact⟨_,_,by simp only[trsI],wZg a h.1,wZf l h.2⟩
end
def fitB (l:List Fm):Bool:=l.all λf=>decide (f.size<=1000000)
theorem zYd {l:List Fm}(h:fitB l=true):fitL l:=λg A=>of_decide_eq_true (List.all_eq_true.1 h g A)
def wXw:Tr->Bool
 | .mk _ s m u _ sub=>fitB s.l&&fitB s.r&&decide (m.size<=1000000)&&decide (u.size<=1000000)&&sub.all λa=>fitB a.sq.l&&fitB a.sq.r
theorem vVa {t:Tr}(h:wXw t=true):xXs t:=by
 obtain⟨rule,s,m,u,n,sub⟩:=t;simp only[wXw,bAt,dTe,List.all_eq_true] at h;obtain⟨⟨⟨⟨h1,h2⟩,F⟩,E⟩,D⟩:=h;exact⟨⟨zYd h1,zYd h2⟩,F,E,λa A=>⟨zYd (D a A).1,zYd (D a A).2⟩⟩
theorem wKd {t:Tr}(h:(t.walk []).all (λq=>wXw q.2)=true)(D:t.height<=1099511627776):wKe t:=⟨λq A=>vVa (List.all_eq_true.1 h q A),D⟩
theorem vWp:wKe trA:=wKd (by decide) (by decide)
theorem vWo:wKe trE:=wKd (by decide) (by decide)
theorem is_A:IsTr trA (trI trA):=wZg trA (by decide)
theorem is_E:IsTr trE (trI trE):=wZg trE (by decide)
end Go.Proofs.Tryz
namespace Go.Proofs.Tryz
open Go Go.Iv
set_option maxRecDepth 4000
variable (gl:Nat->Option IV)
theorem yX8 (x y z:Operand):yJx 3 [(0,x),(1,y),(2,z)]=true:=rfl
theorem wWl (G:Gl gl)(T:Gt gl)(st:ISt):ICall prog gl 10 [] st (λr st'=>r=.raw (.bool true)/\st'=st):=by
 have O:=λst=>zWy gl G T 1 trA (trI trA) is_A vWp st;have J:=λst=>zWy gl G T 2 trA (trI trA) is_A vWp st;have D:=λst=>zWy gl G T 1 trE (trI trE) is_E vWo st;have A:=λst=>zWy gl G T 2 trE (trI trE) is_E vWo st;simp only[wGn] at O;simp only[wGm] at J;simp only[wGl] at D;simp only[wGk] at A;refine ICall.intro (c:=cf prog gl [] [(2,[2,10,0,1,3,4,5,6,7,8,9,11]),(4,[0,2,9,10,11,13,1,3,4,5,6,7,8,12,14]),(9,[8,9,11,0,1,2,3,4,5,6,7,10,12]),(10,[0,1,2,5,6,8,3,4,7,9]),(18,[3,4,7,8,0,1,2,5,6,9,10,11,12,13,14]),(19,[0,1,3,4,7,8,2,5,6,9,10,11,12,13,14]),(21,[0,1,10,2,3,4,5,6,7,8,9,11,12]),(22,[0,1,2,3,4,5,6,7,8,9,10,14,15,11,12,13,16,17,18,19,20,21,22,23,24,25,26,27,28,29,30,31,32,33,35,34,36,37,38,39,40,41])]) func10 rfl (by show _<=241;simp) (by kernel_rfl) ?_;simp only[go_sem,zA,zL,yQ7]
 repeat (first
  | (refine (q_p gl _ _ _ _).mono ?_;rintro _ st ⟨rfl,rfl⟩;simp only[go_sem,zE,zA,zM,zL,fits,yQ1,yQ6,yQ7,fits])
  | (refine (q_no gl _ _ _ _ _ _ _).mono ?_;rintro _ st ⟨rfl,rfl⟩;simp only[go_sem,zE,zB,zA,zM,zS,zL,reduceCtorEq,fits,yQ1,yQ6,yX8,yQ7,decide_true,fits])
  | (refine (yG9 gl _ _ _ _ _ _ _ _ _ _ _ _ _ _).mono ?_;rintro _ st ⟨rfl,rfl⟩;simp only[go_sem,zE,zA,zL,yQ7])
  | (refine (q_fs gl _ _ _).mono ?_;rintro _ st ⟨rfl,rfl⟩;simp only[go_sem,zE,zA,zL,yQ7])
  | (refine (q_sq gl _ _ _ _ _).mono ?_;rintro _ st ⟨rfl,rfl⟩;simp only[go_sem,zE,zA,zM,zL,fits,yQ6,yQ7,fits])
  | (refine (q_v gl _ _).mono ?_;rintro _ st ⟨rfl,rfl⟩;simp only[go_sem,zE,zB,zA,zM,zS,zL,reduceCtorEq,fits,yQ1,yQ6,yX8,yQ7,decide_true,fits]))
 refine (O _).mono ?_;rintro _ st ⟨⟨aO,rfl,aX⟩,rfl⟩;simp only[go_sem,zE,zA,zL];refine (J _).mono ?_;rintro _ st ⟨⟨aN,rfl,aW⟩,rfl⟩;simp only[go_sem,zE,zA,zL,yQ7]
 repeat (first
  | (refine (q_p gl _ _ _ _).mono ?_;rintro _ st ⟨rfl,rfl⟩;simp only[go_sem,zA,zM,zL,fits,yQ1,yQ7,fits])
  | (refine (q_no gl _ _ _ _ _ _ _).mono ?_;rintro _ st ⟨rfl,rfl⟩;simp only[go_sem,zE,zA,zM,zL,fits,yQ6,yQ7,fits])
  | (refine (yG9 gl _ _ _ _ _ _ _ _ _ _ _ _ _ _).mono ?_;rintro _ st ⟨rfl,rfl⟩;simp only[go_sem,zE,zA,zL,yQ7])
  | (refine (q_fs gl _ _ _).mono ?_;rintro _ st ⟨rfl,rfl⟩;simp only[go_sem,zE,zA,zL,yQ7])
  | (refine (q_sq gl _ _ _ _ _).mono ?_;rintro _ st ⟨rfl,rfl⟩;simp only[go_sem,zE,zA,zM,zL,fits,yQ1,yQ7,fits])
  | (refine (q_v gl _ _).mono ?_;rintro _ st ⟨rfl,rfl⟩;simp only[go_sem,zE,zB,zA,zM,zS,zL,reduceCtorEq,fits,yQ1,yQ6,yX8,yQ7,decide_true,fits]))
 refine (D _).mono ?_;rintro _ st ⟨⟨aM,rfl,aV⟩,rfl⟩;simp only[go_sem,zE,zA,zL];refine (A _).mono ?_;rintro _ st ⟨⟨aL,rfl,aU⟩,rfl⟩;have ao:IntKind.i64.wrap (((0:Nat):Int)+((0:Nat):Int))=0:=rfl;have an:IntKind.i64.wrap ((0:Int)+((0:Nat):Int))=0:=rfl;have aP:decide ((0:Int)=0)=true:=rfl;have am:decide (((195:Nat):Int)=195)=true:=rfl;have al:plI []=[]:=rfl;have hS:=λst=>wVi gl trA (trI trA) is_A (by decide) st;have hH:=λst=>xGz gl trA (trI trA) is_A (by decide) st;have hC:=λst=>wUz gl trA (trI trA) is_A (by decide) st;simp only[vQh] at hS;simp only[wYh] at hH;simp only[vWs] at hC;simp only[go_sem,zE,zA,zL,ao,an,am,al,decide_true,show decide (((0:Nat):Int)=0)=true from rfl];intros;refine (hS _).mono ?_;rintro _ st ⟨rfl,rfl⟩;simp only[go_sem,zE,zA,zL,show decide (((3:Nat):Int)=3)=true from rfl];refine (hH _).mono ?_;rintro _ st ⟨rfl,rfl⟩;simp only[go_sem,zE,zA,zL,show decide (((2:Nat):Int)=2)=true from rfl];refine (hC _).mono ?_;rintro _ st ⟨rfl,rfl⟩;simp only[go_sem,zE,zL,yQ7,show decide (((0:Nat):Int)=0)=true from rfl]
 repeat (first
  | (refine (q_p gl _ _ _ _).mono ?_;rintro _ st ⟨rfl,rfl⟩;simp only[go_sem,zA,zM,zL,fits,yQ1,fits])
  | (refine (q_no gl _ _ _ _ _ _ _).mono ?_;rintro _ st ⟨rfl,rfl⟩;simp only[go_sem,zE,zB,zA,zM,zS,zL,reduceCtorEq,fits,yQ1,yQ6,yX8,yQ7,decide_true,fits])
  | (refine (yG9 gl _ _ _ _ _ _ _ _ _ _ _ _ _ _).mono ?_;rintro _ st ⟨rfl,rfl⟩;simp only[go_sem,zE,zB,zA,zM,zS,zL,reduceCtorEq,fits,yQ1,yQ6,yX8,yQ7,decide_true,fits])
  | (refine (q_fs gl _ _ _).mono ?_;rintro _ st ⟨rfl,rfl⟩;simp only[go_sem,zE,zA,zM,zL,fits,yQ1,yQ7,fits])
  | (refine (q_sq gl _ _ _ _ _).mono ?_;rintro _ st ⟨rfl,rfl⟩;simp only[go_sem,zE,zA,zL,yQ7])
  | (refine (q_v gl _ _).mono ?_;rintro _ st ⟨rfl,rfl⟩;simp only[go_sem,zE,zA,zM,zL,fits,yQ1,yQ6,yQ7,fits]))
 have F:=λst=>vQ1 gl G T 3 ⟨[zP],[zX]⟩ (.agg [.sl (tagF [zP]) (fmsI [zP]),.sl (tagF [zX]) (fmsI [zX])]) ⟨_,_,_,_,rfl,yV0 _,yKe _ (by decide),yV0 _,yKe _ (by decide)⟩ ⟨zYd (by decide),zYd (by decide)⟩ 14 zX (fmI zX) (zZn zX (by decide)) (by decide) tm0 (tmI tm0) (xZg tm0) (by decide) qu st;simp only[vYk] at F;refine (F _).mono ?_;rintro _ st ⟨aK,aI,rfl,av,aq,rfl⟩;obtain⟨w5,_,rfl,au,rfl⟩:=aq;simp only[go_sem,zE,zA,zM,zL,fits,yQ1]
 repeat (first
  | (refine (q_p gl _ _ _ _).mono ?_;rintro _ st ⟨rfl,rfl⟩;simp only[go_sem,zE,zB,zA,zM,zS,zL,reduceCtorEq,fits,yQ1,yQ6,yX8,yQ7,decide_true,fits])
  | (refine (q_no gl _ _ _ _ _ _ _).mono ?_;rintro _ st ⟨rfl,rfl⟩;simp only[go_sem,zE,zB,zA,zM,zS,zL,reduceCtorEq,fits,yQ1,yQ6,yX8,yQ7,decide_true,fits])
  | (refine (yG9 gl _ _ _ _ _ _ _ _ _ _ _ _ _ _).mono ?_;rintro _ st ⟨rfl,rfl⟩;simp only[go_sem,zE,zB,zA,zM,zS,zL,reduceCtorEq,fits,yQ1,yQ6,yX8,yQ7,decide_true,fits])
  | (refine (q_fs gl _ _ _).mono ?_;rintro _ st ⟨rfl,rfl⟩;simp only[go_sem,zE,zA])
  | (refine (q_sq gl _ _ _ _ _).mono ?_;rintro _ st ⟨rfl,rfl⟩;simp only[go_sem,zE,zA,zL,yQ7])
  | (refine (q_v gl _ _).mono ?_;rintro _ st ⟨rfl,rfl⟩;simp only[go_sem,zE,zB,zA,zM,zS,zL,reduceCtorEq,fits,yQ1,yQ6,yX8,yQ7,decide_true,fits]))
 have E:=λst=>vQ1 gl G T 3 ⟨[zY],[zX]⟩ (.agg [.sl (tagF [zY]) (fmsI [zY]),.sl (tagF [zX]) (fmsI [zX])]) ⟨_,_,_,_,rfl,yV0 _,yKe _ (by decide),yV0 _,yKe _ (by decide)⟩ ⟨zYd (by decide),zYd (by decide)⟩ 14 zX (fmI zX) (zZn zX (by decide)) (by decide) tm0 (tmI tm0) (xZg tm0) (by decide) qu st;simp only[vYj] at E;refine (E _).mono ?_;rintro _ st ⟨aJ,aH,rfl,aT,aS,rfl⟩;simp only[go_sem,zE,zA,zL,yQ7]
 repeat (first
  | (refine (q_p gl _ _ _ _).mono ?_;rintro _ st ⟨rfl,rfl⟩;simp only[go_sem,zE,zA,zM,zL,fits,yX8,yQ7,fits])
  | (refine (q_no gl _ _ _ _ _ _ _).mono ?_;rintro _ st ⟨rfl,rfl⟩;simp only[go_sem,zE,zB,zA,zM,zS,zL,reduceCtorEq,fits,yQ1,yQ6,yX8,yQ7,decide_true,fits])
  | (refine (yG9 gl _ _ _ _ _ _ _ _ _ _ _ _ _ _).mono ?_;rintro _ st ⟨rfl,rfl⟩;simp only[go_sem,zE,zA,zL,yQ7])
  | (refine (q_fs gl _ _ _).mono ?_;rintro _ st ⟨rfl,rfl⟩;simp only[go_sem,zA])
  | (refine (q_sq gl _ _ _ _ _).mono ?_;rintro _ st ⟨rfl,rfl⟩;simp only[go_sem,zA])
  | (refine (q_v gl _ _).mono ?_;rintro _ st ⟨rfl,rfl⟩;simp only[go_sem,zE,zB,zA,zM,zS,zL,reduceCtorEq,fits,yQ1,yQ6,yX8,yQ7,decide_true,fits]))
 have hD:=λst=>kQy gl G T ⟨[zD,zD,zP],[]⟩ (.agg [.sl (tagF [zD,zD,zP]) (fmsI [zD,zD,zP]),.sl (tagF []) (fmsI [])]) ⟨_,_,_,_,rfl,yV0 _,yKe _ (by decide),yV0 _,yKe _ (by decide)⟩ ⟨zYd (by decide),zYd (by decide)⟩ (by decide) st;simp only[kQz] at hD;refine (hD _).mono ?_;rintro _ st ⟨⟨y,rfl,hy⟩,rfl⟩;obtain⟨ae,W,ac,U,rfl,az,ai,ay,ah⟩:=hy;obtain⟨ag,ab,af,aa,rfl,aB,ak,aA,aj⟩:=au;have z1:decide (((1:Nat):Int)=1)=true:=rfl;have z2:decide (((193:Nat):Int)=193)=true:=rfl;have z3:decide (((0:Nat):Int)=0)=true:=rfl;simp only[go_sem,zE,zB,zA,zL,fits,yQ7,yQ2 av,Int.le_refl,Int.toNat_zero,z1,z3]
 repeat (first
  | (refine (q_p gl _ _ _ _).mono ?_;rintro _ st ⟨rfl,rfl⟩;simp only[go_sem,zE,zA,zM,zL,fits,yQ1,yQ6,fits])
  | (refine (q_no gl _ _ _ _ _ _ _).mono ?_;rintro _ st ⟨rfl,rfl⟩;simp only[go_sem,zE,zB,zA,zM,zS,zL,reduceCtorEq,fits,yQ1,yQ6,yX8,yQ7,decide_true,fits])
  | (refine (yG9 gl _ _ _ _ _ _ _ _ _ _ _ _ _ _).mono ?_;rintro _ st ⟨rfl,rfl⟩;simp only[go_sem,zE,zB,zA,zM,zS,zL,reduceCtorEq,fits,yQ1,yQ6,yX8,yQ7,decide_true,fits])
  | (refine (q_fs gl _ _ _).mono ?_;rintro _ st ⟨rfl,rfl⟩;simp only[go_sem,zE,zA,zL,yQ7])
  | (refine (q_sq gl _ _ _ _ _).mono ?_;rintro _ st ⟨rfl,rfl⟩;simp only[go_sem,zE,zA])
  | (refine (q_v gl _ _).mono ?_;rintro _ st ⟨rfl,rfl⟩;simp only[go_sem,zE,zA,zM,zL,fits,yQ1,yQ7,fits]))
 have ax:=λst=>yW2 gl ⟨[zP],[zX,zU]⟩ ⟨[zP],[zX,zU]⟩ (.agg [.sl ag ab,.sl af aa]) (.agg [.sl (tagF [zP]) (fmsI [zP]),.sl (tagF [zX,zU]) (fmsI [zX,zU])]) ⟨_,_,_,_,rfl,aB,ak,aA,aj⟩ ⟨_,_,_,_,rfl,yV0 _,yKe _ (by decide),yV0 _,yKe _ (by decide)⟩ st;have aw:=λst=>yW2 gl ⟨[zP,zD],[]⟩ ⟨[zP,zD],[]⟩ (.agg [.sl ae W,.sl ac U]) (.agg [.sl (tagF [zP,zD]) (fmsI [zP,zD]),.sl (tagF []) (fmsI [])]) ⟨_,_,_,_,rfl,az,ai,ay,ah⟩ ⟨_,_,_,_,rfl,yV0 _,yKe _ (by decide),yV0 _,yKe _ (by decide)⟩ st;refine (ax _).mono ?_;rintro _ st ⟨rfl,rfl⟩;simp only[go_sem,zE,zA,zL,yQ7,show ∀s:Sq,eqB s s=true from λs=>yQm.2 rfl,z2,z3]
 repeat (first
  | (refine (q_p gl _ _ _ _).mono ?_;rintro _ st ⟨rfl,rfl⟩;simp only[go_sem,zE,zA,zM,zL,fits,yQ6,fits])
  | (refine (q_no gl _ _ _ _ _ _ _).mono ?_;rintro _ st ⟨rfl,rfl⟩;simp only[go_sem,zE,zB,zA,zM,zS,zL,reduceCtorEq,fits,yQ1,yQ6,yX8,yQ7,decide_true,fits])
  | (refine (yG9 gl _ _ _ _ _ _ _ _ _ _ _ _ _ _).mono ?_;rintro _ st ⟨rfl,rfl⟩;simp only[go_sem,zE,zB,zA,zM,zS,zL,reduceCtorEq,fits,yQ1,yQ6,yX8,yQ7,decide_true,fits])
  | (refine (q_fs gl _ _ _).mono ?_;rintro _ st ⟨rfl,rfl⟩;simp only[go_sem,zE,zA])
  | (refine (q_sq gl _ _ _ _ _).mono ?_;rintro _ st ⟨rfl,rfl⟩;simp only[go_sem,zE,zA])
  | (refine (q_v gl _ _).mono ?_;rintro _ st ⟨rfl,rfl⟩;simp only[go_sem,zE,zB,zA,zM,zS,zL,reduceCtorEq,fits,yQ1,yQ6,yX8,yQ7,decide_true,fits]))
 refine (aw _).mono ?_;rintro _ st ⟨rfl,rfl⟩;simp only[go_sem,zE,show ∀s:Sq,eqB s s=true from λs=>yQm.2 rfl];exact yQ0 ⟨rfl,rfl⟩
end Go.Proofs.Tryz
namespace Go.Proofs.Tryz
open Go Go.Iv
mutual
theorem yWl:∀t:Tm,t.size<=wTm t
 | .mk _ n us=>by have:=zKv us;simp only[wTm,Tm.size];omega
theorem zKv:∀l:List Tm,yQa l<=wTms l
 | []=>Nat.le_refl _
 | a::l=>by have:=yWl a;have:=zKv l;simp only[wTms,yQa];omega
end
mutual
theorem yUf:∀f:Fm,f.size<=wFm f
 | .mk _ n us sub=>by have:=zKv us;have:=yXg sub;simp only[wFm,Fm.size];omega
theorem yXg:∀l:List Fm,yQ9 l<=wFms l
 | []=>Nat.le_refl _
 | a::l=>by have:=yUf a;have:=yXg l;simp only[wFms,yQ9];omega
end
theorem yXp {s:Sq}{f:Fm}{u:Tm}{n:ByteArray}(h:xQ6 s f u n=true):wFms s.l+wFms s.r<=300/\wFm f<=300/\wTm u<=300/\n.size<=100:=by
 unfold xQ6 at h;simp only[bAt,dTe,Bool.not_eq_true',decide_eq_false_iff_not] at h;omega
theorem xQr {s:Sq}(h:wFms s.l+wFms s.r<=300):yKm s:=by
 have:=yXg s.l;have:=yXg s.r;exact⟨λf A=>by have:=yUg A;omega,λf A=>by have:=yUg A;omega⟩
theorem yUi:∀ {l:List Tr}{a:Tr},okTs l=true->a∈l->okT a=true
 | b::l,a,h,A=>by
  simp only[okTs,bAt] at h;rcases List.mem_cons.1 A with rfl|A
  ·exact h.1
  ·exact yUi h.2 A
theorem wWt:∀ {t:Tr},okT t=true->xXs t
 | .mk rule s m u n sub,h=>by
  simp only[okT,bAt] at h;obtain⟨h1,h2,O,_⟩:=yXp h.1;have:=yUf m;have:=yWl u;refine⟨xQr h1,by omega,by omega,λa E=>?_⟩;have:=yUi h.2 E;obtain⟨A,s',J,F,G,D⟩:=a;simp only[okT,bAt] at this;exact xQr (yXp this.1).1
end Go.Proofs.Tryz
namespace Go.Proofs.Tryz
open Go Go.Iv
set_option maxRecDepth 4000
variable (gl:Nat->Option IV)
theorem Lents.nil (st:ISt):Lents st [] []:=rfl
theorem Lents.self {st:ISt}{y:IV}{ys A:List IV}(h:Lents st ys A):Lents st (y::ys) (y::A):=⟨_,_,rfl,.inl rfl,h⟩
theorem Lents.lent {st:ISt}{y A:IV}{ys D:List IV}(E:OI st y A)(h:Lents st ys D):Lents st (y::ys) (age A::D):=⟨_,_,rfl,.inr ⟨A,E,rfl⟩,h⟩
theorem _root_.Go.Iv.OI.sub {T st:ISt}{y x:IV}(h:OI T y x)(A:subSt T st):OI st y x:=h.mono λ_ _ k=>A _ _ k
variable {gl} in
theorem yWb {f:FuncId}{args args':List IV}{b:Bool}{st:ISt}(D:flatSt st)(A:Lents st args args')(h:∀st,ICall prog gl f args' st (λr st'=>r=.raw (.bool b)/\st'=st)) :
  ICall prog gl f args st (λr st'=>r=.raw (.bool b)/\st'=st) :=
 (ICall.lent (K:=λr=>r=.raw (.bool b)) (wJh D) A ((h (yY2 st)).mono λr st' k=>⟨k.2,by rw[k.1];trivial,k.1⟩)).mono λr st' k=>⟨k.2,k.1⟩
theorem vZd {N:ISt}(A:wXh N){s:Sq}{y x:IV}(W:IsSqD s x)(ho:OI N y x)(D:rawY y):∃u w d,y=.agg [u,w]/\u.one=true/\u.def_/\w.one=true/\w.def_/\OK (λb=>N b≠none) d 4 N u/\OK (λb=>N b≠none) d 4 N w:=by
 obtain⟨t1,x1,t2,x2,rfl,e1,a1,i1,e2,a2,i2⟩:=W;cases ho with
 | refl=>simp only[rawY,xV1] at D;exact D.1.elim
 | agg rs _ hl h =>
  simp only[rawY] at D
  match rs,hl with
  | [u,w],_ =>
   have J:=h 0 _ _ rfl rfl;have G:=h 1 _ _ rfl rfl;have U:=yGo D (show u∈[u,w] by simp);have O:=yGo D (show w∈[u,w] by simp);have F:(∃v,u=.raw v)/\u.one=true:=by cases J with|refl=>exact U.elim|nil=>exact⟨⟨_,rfl⟩,rfl⟩|sl=>exact⟨⟨_,rfl⟩,rfl⟩
   have E:(∃v,w=.raw v)/\w.one=true:=by cases G with|refl=>exact O.elim|nil=>exact⟨⟨_,rfl⟩,rfl⟩|sl=>exact⟨⟨_,rfl⟩,rfl⟩
   obtain⟨d,hd⟩:=zZ8 A _ s.l (Nat.lt_succ_self _) _ _ _ F.1 J e1 i1.1 (zYs a1 i1);obtain⟨e,he⟩:=zZ8 A _ s.r (Nat.lt_succ_self _) _ _ _ E.1 G e2 i2.1 (zYs a2 i2);refine⟨u,w,d+e,rfl,F.2,?_,E.2,?_,hd.le (by omega),he.le (by omega)⟩
   ·obtain⟨⟨v,rfl⟩,_⟩:=F;exact λh=>by cases h
   ·obtain⟨⟨v,rfl⟩,_⟩:=E;exact λh=>by cases h
theorem vKn (G:Gl gl)(T:Gt gl)(aT:wV3 gl)(ca:Nat)(a b:Sq)(x y:IV)(hx:IsSq a x)(hy:IsSq b y)(f:Fm)(z:IV)(hz:IsFm f z)(U:yKm a)(hb:yKm b)(hf:f.size<=1000000)
  (hs:yQ9 a.l<=1000000/\yQ9 a.r<=1000000/\yQ9 b.l<=1000000/\yQ9 b.r<=1000000) (st:ISt) (D:flatSt st) :
  ICall prog gl 14 [.raw (.int .u8 ca),x,y,z] st (λr st'=>r=.raw (.bool true)/\st'=st):=by
 have l1:=yQs a.l;have l2:=yQs a.r;have l3:=yQs b.l;have l4:=yQs b.r;have bc:=λst D=>zWs gl a x hx (by omega) (by omega) st D;have bb:=λst D=>zWs gl b y hy (by omega) (by omega) st D;have a1:=λst=>vKw gl a x hx U ⟨by omega,by omega⟩ st;have aX:=λst=>xX9 gl G a b x y hx hy U hb ⟨by omega,by omega,by omega,by omega⟩ st;have aW:=λst=>xX9 gl G b a y x hy hx hb U ⟨by omega,by omega,by omega,by omega⟩ st;have aZ:=λst=>xY1 gl ca a x hx U st;have be:=λw st D hw=>zWv gl a x w hx (by omega) (by omega) st D hw;have bd:=λw st D hw=>zWv gl b y w hy (by omega) (by omega) st D hw;have bB:=hx;have bA:=hy;have al:=hz;obtain⟨t1,x1,t2,x2,rfl,e1,i1,e2,i2⟩:=hx;obtain⟨t3,x3,t4,x4,rfl,e3,i3,e4,i4⟩:=hy;obtain⟨o5,n5,t5,x5,t6,x6,rfl⟩:=hz.agg;have a6:=λst=>xXc gl G a.l t1 x1 e1 i1 f _ al U.1 hf (by omega) st;refine ICall.intro (c:=cf prog gl [] [(1,[0,2,4,5,1,3,6,7]),(4,[0,1,3,4,2,5,6,7]),(5,[0,1,3,4,2,5,6,7,8,9,10,12,13,14,11,15,16,17,18,19,20,22,21,23,24,25,26,27,29,28,30,31,32,33,34,35,36,37,38,39,40,41,42,43,44,45])]) func14 rfl (by show _<=93;simp) (by kernel_rfl) ?_;simp only[go_sem,zE,zA,zL];refine (bc _ D).mono ?_;rintro xa bu ⟨af,aK,aU⟩;obtain⟨za,W,aQ⟩:=af.oi (by omega) (by omega);simp only[go_sem,zE,zA];refine (bb _ aU).mono ?_;rintro xb E ⟨ae,J,ah⟩;obtain⟨zb,ak,aP⟩:=ae.oi (by omega) (by omega);have bg:LSq E a xa:=af.mono λc o hc=>J _ _ (yJh hc).2;have bf:LSq E b xb:=ae.mono λc o hc=>(yJh hc).2;have ay:OI E xa za:=aQ.sub λc o hc=>J _ _ (yJh hc).2;have ax:OI E xb zb:=aP.sub λc o hc=>(yJh hc).2;have hS:=ICall.lentOwn ah aT (Lents.lent ay (Lents.nil _)) (K:=λr=>∃y,r=.tup [y,.raw (.int .i64 (SetS a).2)]/\IsSqD (SetS a).1 y)
  ((vYa gl G T a (age (age za)) W.aged.aged U ⟨by omega,by omega⟩ (yY2 E)).mono λr st' ⟨⟨y,h1,h2⟩,h3⟩=>⟨h3,by rw[h1];exact⟨h2.dfr,trivial,trivial⟩,y,h1,h2⟩)
 obtain⟨pa,aC,qa,da,rfl,bi,bh,bO,bN⟩:=af;obtain⟨pb,bQ,qb,db,rfl,bM,bL,bK,bJ⟩:=ae;simp only[go_sem,zE,zA,zL];refine hS.mono ?_;rintro _ A ⟨F,O,_,N,⟨yi,rfl,ao⟩,aS,aL,aM,ai,ba⟩;obtain⟨ys,rfl,ab,aw⟩:=xYd aS aL;obtain⟨u,w,d,rfl,av,aI,au,aG,a8,a7⟩:=vZd aM ao ab aw;simp only[go_sem,zE,zA,zL,av,au];refine (a1 _).mono ?_;rintro _ A ⟨⟨yr,rfl,an⟩,rfl⟩;have am:=an;obtain⟨t7,x7,t8,x8,rfl,_⟩:=an;simp only[go_sem,zE,zA,zL];refine (aX _).mono ?_;rintro _ A ⟨rfl,rfl⟩;simp only[go_sem,zE,zA];refine (aW _).mono ?_;rintro _ A ⟨rfl,rfl⟩;have ag:=ay.sub F;have ac:=ax.sub F;have hV:=yWb (gl:=gl) O (Lents.self (y:=.raw (.int .u8 ca)) (Lents.lent ag (Lents.nil _))) (λst=>wVh gl G ca a _ W.aged U st);have aq:LFc A a.l aC/\A pa=some (.box (aC++mksF 12)):=⟨bh.mono λc o hc=>F _ _ (J _ _ (yJh hc).2),F _ _ (J _ _ (yJh bi).2)⟩
 obtain⟨zl,aF,aO⟩:=aq.1.sl aq.2 (by omega);have hH:=yWb (gl:=gl) O (Lents.lent aO (Lents.self (y:=.agg [.raw (.int .u8 o5),.raw (.string n5),.sl t5 x5,.sl t6 x6]) (Lents.nil _))) (λst=>by
  simp only[age];exact xU0 gl G a.l f _ _ _ (.inr rfl) aF.aged al U.1 hf st)
 have aV:=yWb (gl:=gl) O (Lents.lent ag (Lents.lent ac (Lents.nil _))) (λst=>zKf gl G a b _ _ W.aged ak.aged U hb st);have aY:=yWb (gl:=gl) O (Lents.lent ag (Lents.lent ac (Lents.nil _))) (λst=>wGe gl G a b _ _ W.aged ak.aged U hb st);have az:=yWb (gl:=gl) O (Lents.lent (ab.sub ai) (Lents.self (y:=.agg [.sl t7 x7,.sl t8 x8]) (Lents.nil _))) (λst=>yW2 gl _ _ _ _ ao.w.aged am st);rw[yQm.2 rfl] at az;have hO:=zGi gl av aI au aG (a8.mono ai) (a7.mono ai);have aB:=be _ E ah bg;have aA:=bd _ E ah bf;simp only[go_sem,zE,zA,zL,reduceCtorEq];refine hV.mono ?_;rintro _ A ⟨rfl,rfl⟩;simp only[go_sem,zE,zA];refine (aZ _).mono ?_;rintro _ A ⟨rfl,rfl⟩;simp only[go_sem,zE,zA,zL];refine hH.mono ?_;rintro _ A ⟨rfl,rfl⟩;simp only[go_sem,zE,zA];refine (a6 _).mono ?_;rintro _ A ⟨rfl,rfl⟩;simp only[go_sem,zE,zA,zL];refine aV.mono ?_;rintro _ A ⟨rfl,rfl⟩;simp only[go_sem,zE,zA,zL];refine aY.mono ?_;rintro _ A ⟨rfl,rfl⟩;cases yXf a b<;>cases yXf b a
 all_goals
  simp only[go_sem,zE,zA,zL,decide_true];refine az.mono ?_;rintro _ A ⟨rfl,rfl⟩;simp only[go_sem,zE,zA,zL];refine hO.mono ?_;rintro _ st4 aN;have aJ:subSt E st4:=λc o hc=>by
   rw[aN.dom c λhD=>by rw[ba c hD] at hc;cases hc];exact F _ _ hc
  simp only[go_sem,zE,zA,zL];refine (ICall.sub aB aJ).mono ?_;rintro _ aE ⟨rfl,rfl⟩;simp only[go_sem,zE,zA,zL];refine aA.mono ?_;rintro _ aE ⟨rfl,rfl⟩;simp only[go_sem,zE];exact yQc (λc o hc=>J _ _ (aK _ _ hc)) ⟨rfl,rfl⟩
theorem yQw {A:Tag}{es:Nat}(h:okEs A es)(len D l:Nat):okEs (yXn (reTag es A) len D l none) es:=by
 have:=yQ2 h;unfold yXn;by_cases h1:(reTag es A).cap=.nil
 ·rw[if_pos h1];exact .inr this
 ·rw[if_neg h1];by_cases h2:l=0/\D=len
  ·simp only[if_pos h2];exact .inr this
  ·simp only[if_neg h2];exact .inr this
theorem yZx {n:Nat}(h:1<=n):yXm (some 1) none n=some (1,n):=by
 simp only[yXm,Option.getD_none,Option.getD_some];rw[if_pos (by omega)];rfl
theorem yZw {n:Nat}(h:1<=n):yXm none (some 1) n=some (0,1):=by
 simp only[yXm,Option.getD_none,Option.getD_some];rw[if_pos (by omega)];rfl
theorem yU2 (x y:Operand):yJx 2 [(0,x),(1,y)]=true:=rfl
theorem xGv {ca rule:Nat}{r:Rw}{main:Fm}{u:Tm}{n:ByteArray}(h:¬ (fmB ca main=true/\(r.op≠0->main.op=r.op))):yZl ca rule r main u n=([],192):=by
 unfold yZl;rw[if_pos];by_cases A:fmB ca main=true
 ·have D:r.op≠0:=λD=>h ⟨A,λq=>absurd D q⟩;have h1:main.op≠r.op:=λh1=>h ⟨A,λ_=>h1⟩;simp[D,h1]
 ·simp[A]
theorem yJm {ca rule:Nat}{r:Rw}{main:Fm}{u:Tm}{n:ByteArray}(D:fmB ca main=true)(h1:r.op≠0->main.op=r.op)(E:r.asks=0):yZl ca rule r main u n=(addS ca rule main ((main.subs[0]?).getD fm0) ((main.subs[1]?).getD fm0),0):=by
 unfold yZl;rw[if_neg (by rw[D];intro A;simp at A;first|exact A.2 (h1 A.1)|exact (of_decide_eq_true A.2) (h1 A.1))];simp only[if_pos E]
theorem zKe {ca rule:Nat}{r:Rw}{main:Fm}{u t:Tm}{n:ByteArray}(E:fmB ca main=true)(h1:r.op≠0->main.op=r.op)(F:r.asks≠0)(D:t=if r.asks=2 then .mk true n [] else u):yZl ca rule r main u n =
  (if t.ok=false then ([],193) else if (yZf ((main.subs[0]?).getD fm0) [(main.nm,t)]).2≠0 then ([],193) else (addS ca rule main (yZf ((main.subs[0]?).getD fm0) [(main.nm,t)]).1 ((main.subs[1]?).getD fm0),0)):=by
 unfold yZl;rw[if_neg (by rw[E];intro A;simp at A;first|exact A.2 (h1 A.1)|exact (of_decide_eq_true A.2) (h1 A.1))];simp only[if_neg F,<- D];cases t.ok<;>rfl
set_option maxHeartbeats 4000000 in
theorem zUv (ca rule:Nat)(main:Fm)(y:IV)(hy:IsFm main y)(hm:main.size<=1000000)(term:Tm)(z:IV)(hz:IsTm term z)(ht:term.size<=900000)(name:ByteArray)(st:ISt) :
  ICall prog gl 22 [.raw (.int .u8 ca),.raw (.int .u8 rule),y,z,.raw (.string name)] st (AdR st (yVr ca rule main term name)):=by
 have hW:=λst=>wZ9 gl ca rule st;have hF:=λst=>wXk gl ca main y hy (by omega) st;have aM:=hy;have aL:=hz;obtain⟨op,nm,us,sub⟩:=main;obtain⟨t1,x1,t4,x4,rfl,ho,e1,i1,e4,i4⟩:=hy.mk;obtain⟨v5,n5,t5,x5,rfl⟩:=hz.agg;have k1:decide (((ca:Nat):Int)<1)=decide (ca<1):=by rw[decide_eq_decide];omega
 have k2:decide ((3:Int)<((ca:Nat):Int))=decide (3<ca):=by rw[decide_eq_decide];omega
 refine ICall.intro (c:=cf prog gl [] [(39,[0,1,3,4,2,5,6,7,8]),(48,[0,1,2,3,4,5,10,6,7,8,9,11,12])]) func22 rfl (by show _<=197;simp) (by kernel_rfl) ?_;cases hk:yX7 ca
 ·have a1:yVr ca rule (.mk op nm us sub) term name=([],2):=by unfold yVr;rw[hk];rfl
  rw[a1];by_cases q1:ca<1
  ·have q1:=dEt q1;simp only[go_sem,zE,reduceCtorEq,k1,q1];intros;exact yQ0 ⟨_,_,rfl,.inl rfl,rfl,rfl⟩
  ·have q2:decide (3<ca)=true:=dEt (by simp only[yX7,Bool.and_eq_false_iff,decide_eq_false_iff_not] at hk;omega);have q1:=dEf q1;simp only[go_sem,zE,reduceCtorEq,k1,k2,q1,q2];intros;exact yQ0 ⟨_,_,rfl,.inl rfl,rfl,rfl⟩
 have bh:=hk;simp only[yX7,bAt,dTe] at bh;have q1:decide (ca<1)=false:=dEf (by omega);have q2:decide (3<ca)=false:=dEf (by omega);simp only[go_sem,zE,zA,reduceCtorEq,k1,k2,q1,q2];intros;refine (hW _).mono ?_;rintro w st ⟨hw,rfl⟩;unfold yV9 at hw;cases aD:rowS ca rule with
 | none =>
  rw[aD] at hw;obtain⟨o9,a9,b9,rfl⟩:=hw;have a1:yVr ca rule (.mk op nm us sub) term name=([],191):=by unfold yVr;rw[hk,aD];rfl
  rw[a1];simp only[go_sem,zE];exact yQ0 ⟨_,_,rfl,.inl rfl,rfl,rfl⟩
 | some r =>
  rw[aD] at hw;simp only at hw;subst hw;have bj:yVr ca rule (.mk op nm us sub) term name=yZl ca rule r (.mk op nm us sub) term name:=by unfold yVr;rw[hk,aD];rfl
  rw[bj];have k4:decide (((r.op:Nat):Int)=0)=decide (r.op=0):=by rw[decide_eq_decide];omega
  have k5:decide (((op:Nat):Int)=((r.op:Nat):Int))=decide (op=r.op):=by rw[decide_eq_decide];omega
  simp only[go_sem,zE,zA,zL,reduceCtorEq];refine (hF _).mono ?_;rintro _ st ⟨rfl,rfl⟩;cases hf:fmB ca (.mk op nm us sub)
  ·rw[xGv (λh=>by rw[h.1] at hf;cases hf)];simp only[go_sem,zE];exact yQ0 ⟨_,_,rfl,.inl rfl,rfl,rfl⟩
  have U:r.op≠0->op≠r.op->yZl ca rule r (.mk op nm us sub) term name=([],192):=λh1 h2=>xGv λh=>h2 (h.2 h1);have ag:=vZe (zZo.1 hf).1;have d2:∀h:Bool,decide (ca=2)=h->decide (((ca:Nat):Int)=2)=h:=λh hh=>by rw[<- hh,decide_eq_decide];omega
  rcases xX4 aD with⟨J,hr⟩|⟨J,hr⟩|⟨J,hr⟩|⟨J,hr⟩|⟨J,hr⟩|⟨J,hr⟩|⟨J,hr⟩|⟨J,hr⟩|⟨J,hr⟩|⟨J,hr⟩|⟨J,hr⟩|⟨J,hr⟩|⟨J,hr⟩|⟨J,hr⟩|⟨J,hr⟩|⟨J,hr⟩|⟨J,hr⟩|⟨J,hr⟩
  ·have dt:decide (((rule:Nat):Int)=1)=true:=dEt (by omega);have ds:∀j:Int,j≠1->decide (((rule:Nat):Int)=j)=false:=λj hj=>dEf (by omega);have W:r.op=0:=by rw[hr]
   have k6:decide (r.op=0)=true:=dEt W;rw[yJm hf (λh=>absurd W h) (by rw[hr]),show ∀A B,addS ca rule (.mk op nm us sub) A B=[] from λA B=>by rw[J];rfl];by_cases a7:sub.length=0
   ·have k8:decide ((0:Int)<((sub.length:Nat):Int))=false:=dEf (by omega);simp only[go_sem,zE,k4,k6,dt,i4.len,k8];intros
    repeat (refine (yJr gl _ _ _ _ _).mono ?_;rintro _ _ ⟨rfl,rfl⟩;simp only[go_sem,zE,zB,zA,zM,zS,zL,reduceCtorEq,fits,k4,k5,k6,dt,ds,Int.reduceNe,ne_eq,nFt,nTf,Int.reduceEq,yQ1,yU2])
    exact yQ0 ⟨_,_,rfl,.inl rfl,rfl,rfl⟩
   ·have k8:decide ((0:Int)<((sub.length:Nat):Int))=true:=dEt (by omega);simp only[go_sem,zE,k4,k6,dt,i4.len,k8,yZx (show 1<=sub.length by omega),yZw (show 1<=sub.length by omega),yQ2 e4];intros
    repeat (refine (yJr gl _ _ _ _ _).mono ?_;rintro _ _ ⟨rfl,rfl⟩;simp only[go_sem,zE,zB,zA,zM,zS,zL,reduceCtorEq,fits,k4,k5,k6,dt,ds,Int.reduceNe,ne_eq,nFt,nTf,Int.reduceEq,yQ1,yU2])
    exact yQ0 ⟨_,_,rfl,.inl rfl,rfl,rfl⟩
  ·have dt:decide (((rule:Nat):Int)=2)=true:=dEt (by omega);have ds:∀j:Int,j≠2->decide (((rule:Nat):Int)=j)=false:=λj hj=>dEf (by omega);have W:r.op=2:=by rw[hr]
   have k6:decide (r.op=0)=false:=dEf (by omega);by_cases D:op=r.op
   case neg =>
    rw[U (by omega) D];have O:decide (op=r.op)=false:=dEf D;simp only[go_sem,zE,zA,k4,k5,k6,O];intros;exact yQ0 ⟨_,_,rfl,.inl rfl,rfl,rfl⟩
   have O:decide (op=r.op)=true:=dEt D;rw[yJm hf (λh=>D) (by rw[hr]),show ∀A B,addS ca rule (.mk op nm us sub) A B=[] from λA B=>by rw[J];rfl];by_cases a7:sub.length=0
   ·have k8:decide ((0:Int)<((sub.length:Nat):Int))=false:=dEf (by omega);simp only[go_sem,zE,zA,k4,k5,k6,O,dt,ds,ne_eq,nFt,Int.reduceEq,i4.len,k8];intros
    repeat (refine (yJr gl _ _ _ _ _).mono ?_;rintro _ _ ⟨rfl,rfl⟩;simp only[go_sem,zE,zB,zA,zM,zS,zL,reduceCtorEq,fits,k4,k5,k6,O,dt,ds,Int.reduceNe,ne_eq,nFt,nTf,Int.reduceEq,yQ1,yU2])
    exact yQ0 ⟨_,_,rfl,.inl rfl,rfl,rfl⟩
   ·have k8:decide ((0:Int)<((sub.length:Nat):Int))=true:=dEt (by omega);simp only[go_sem,zE,zA,k4,k5,k6,O,dt,ds,ne_eq,nFt,Int.reduceEq,i4.len,k8,yZx (show 1<=sub.length by omega),yZw (show 1<=sub.length by omega),yQ2 e4];intros
    repeat (refine (yJr gl _ _ _ _ _).mono ?_;rintro _ _ ⟨rfl,rfl⟩;simp only[go_sem,zE,zB,zA,zM,zS,zL,reduceCtorEq,fits,k4,k5,k6,O,dt,ds,Int.reduceNe,ne_eq,nFt,nTf,Int.reduceEq,yQ1,yU2])
    exact yQ0 ⟨_,_,rfl,.inl rfl,rfl,rfl⟩
  ·have dt:decide (((rule:Nat):Int)=3)=true:=dEt (by omega);have ds:∀j:Int,j≠3->decide (((rule:Nat):Int)=j)=false:=λj hj=>dEf (by omega);have W:r.op=3:=by rw[hr]
   have k6:decide (r.op=0)=false:=dEf (by omega);by_cases D:op=r.op
   case neg =>
    rw[U (by omega) D];have O:decide (op=r.op)=false:=dEf D;simp only[go_sem,zE,zA,k4,k5,k6,O];intros;exact yQ0 ⟨_,_,rfl,.inl rfl,rfl,rfl⟩
   have O:decide (op=r.op)=true:=dEt D;obtain⟨a,rfl⟩:∃a,sub=[a]:=by
    have:=ag.1 (by omega)
    match sub,this with
    | [a],_=>exact⟨a,rfl⟩
   simp only[IsFms] at i4;obtain⟨ya,_,rfl,G,rfl⟩:=i4;obtain⟨oa,na,au,ao,aq,an,rfl⟩:=G.agg;have k8:decide ((0:Int)<((1:Nat):Int))=true:=rfl;have s1:=yZx (show 1<=1 by omega);have s2:=yZw (show 1<=1 by omega);have s3:∀a b c,(reTag 4 (yXn (reTag 4 t4) a b c none)).es=4:=λa b c=>yQ2 (yQw e4 a b c);generalize ab:yZl ca rule r (.mk op nm us [a]) term name=E;have F:E=(addS ca rule (.mk op nm us [a]) a fm0,0):=by rw[<- ab,yJm hf (λ_=>D) (by rw[hr])];rfl
   have hv:E=([⟨[],[a]⟩],0):=by rw[F,show addS ca rule (.mk op nm us [a]) a fm0=[⟨[],[a]⟩] from by rw[J];rfl]
   rw[hv];simp only[go_sem,zE,zA,zS,zL,k4,k5,k6,O,dt,ds,ne_eq,nFt,Int.reduceEq,k8,s1,s2,yQ2 e4];intros
   repeat (refine (yJr gl _ _ _ _ _).mono ?_;rintro _ _ ⟨rfl,rfl⟩;simp only[go_sem,zE,zA,zM,zL,fits,yQ1])
   exact yQ0 ⟨_,_,rfl,.inr rfl,⟨_,_,rfl,⟨_,_,_,_,rfl,.inl rfl,rfl,yQw e4 _ _ _,⟨_,_,rfl,G,rfl⟩⟩,rfl⟩,rfl⟩
  ·have dt:decide (((rule:Nat):Int)=4)=true:=dEt (by omega);have ds:∀j:Int,j≠4->decide (((rule:Nat):Int)=j)=false:=λj hj=>dEf (by omega);have W:r.op=3:=by rw[hr]
   have k6:decide (r.op=0)=false:=dEf (by omega);by_cases D:op=r.op
   case neg =>
    rw[U (by omega) D];have O:decide (op=r.op)=false:=dEf D;simp only[go_sem,zE,zA,k4,k5,k6,O];intros;exact yQ0 ⟨_,_,rfl,.inl rfl,rfl,rfl⟩
   have O:decide (op=r.op)=true:=dEt D;obtain⟨a,rfl⟩:∃a,sub=[a]:=by
    have:=ag.1 (by omega)
    match sub,this with
    | [a],_=>exact⟨a,rfl⟩
   simp only[IsFms] at i4;obtain⟨ya,_,rfl,G,rfl⟩:=i4;obtain⟨oa,na,au,ao,aq,an,rfl⟩:=G.agg;have k8:decide ((0:Int)<((1:Nat):Int))=true:=rfl;have s1:=yZx (show 1<=1 by omega);have s2:=yZw (show 1<=1 by omega);have s3:∀a b c,(reTag 4 (yXn (reTag 4 t4) a b c none)).es=4:=λa b c=>yQ2 (yQw e4 a b c);generalize ab:yZl ca rule r (.mk op nm us [a]) term name=E;have F:E=(addS ca rule (.mk op nm us [a]) a fm0,0):=by rw[<- ab,yJm hf (λ_=>D) (by rw[hr])];rfl
   have hv:E=([⟨[a],[]⟩],0):=by rw[F,show addS ca rule (.mk op nm us [a]) a fm0=[⟨[a],[]⟩] from by rw[J];rfl]
   rw[hv];simp only[go_sem,zE,zA,zS,zL,k4,k5,k6,O,dt,ds,ne_eq,nFt,Int.reduceEq,k8,s1,s2,yQ2 e4];intros
   repeat (refine (yJr gl _ _ _ _ _).mono ?_;rintro _ _ ⟨rfl,rfl⟩;simp only[go_sem,zE,zA,zM,zL,fits,yQ1])
   exact yQ0 ⟨_,_,rfl,.inr rfl,⟨_,_,rfl,⟨_,_,_,_,rfl,yQw e4 _ _ _,⟨_,_,rfl,G,rfl⟩,.inl rfl,rfl⟩,rfl⟩,rfl⟩
  ·have dt:decide (((rule:Nat):Int)=5)=true:=dEt (by omega);have ds:∀j:Int,j≠5->decide (((rule:Nat):Int)=j)=false:=λj hj=>dEf (by omega);have W:r.op=4:=by rw[hr]
   have k6:decide (r.op=0)=false:=dEf (by omega);by_cases D:op=r.op
   case neg =>
    rw[U (by omega) D];have O:decide (op=r.op)=false:=dEf D;simp only[go_sem,zE,zA,k4,k5,k6,O];intros;exact yQ0 ⟨_,_,rfl,.inl rfl,rfl,rfl⟩
   have O:decide (op=r.op)=true:=dEt D;obtain⟨a,b,rfl⟩:∃a b,sub=[a,b]:=by
    have:=ag.2 (by omega)
    match sub,this with
    | [a,b],_=>exact⟨a,b,rfl⟩
   simp only[IsFms] at i4;obtain⟨ya,_,rfl,G,yb,_,rfl,ac,rfl⟩:=i4;obtain⟨oa,na,au,ao,aq,an,rfl⟩:=G.agg;obtain⟨ob,nb,aC,aA,aB,az,rfl⟩:=ac.agg;have k8:decide ((0:Int)<((2:Nat):Int))=true:=rfl;have s1:=yZx (show 1<=2 by omega);have s2:=yZw (show 1<=2 by omega);have s3:∀a b c,(reTag 4 (yXn (reTag 4 t4) a b c none)).es=4:=λa b c=>yQ2 (yQw e4 a b c);generalize ab:yZl ca rule r (.mk op nm us [a,b]) term name=E;have F:E=(addS ca rule (.mk op nm us [a,b]) a b,0):=by rw[<- ab,yJm hf (λ_=>D) (by rw[hr])];rfl
   have hv:E=([⟨[a,b],[]⟩],0):=by rw[F,show addS ca rule (.mk op nm us [a,b]) a b=[⟨[a,b],[]⟩] from by rw[J];rfl]
   rw[hv];simp only[go_sem,zE,zA,zS,zL,k4,k5,k6,O,dt,ds,ne_eq,nFt,Int.reduceEq,k8,s1,s2,yQ2 e4];intros
   repeat (refine (yJr gl _ _ _ _ _).mono ?_;rintro _ _ ⟨rfl,rfl⟩;simp only[go_sem,zE,zA,zM,zL,fits,yQ1])
   exact yQ0 ⟨_,_,rfl,.inr rfl,⟨_,_,rfl,⟨_,_,_,_,rfl,e4,⟨_,_,rfl,G,_,_,rfl,ac,rfl⟩,.inl rfl,rfl⟩,rfl⟩,rfl⟩
  ·have dt:decide (((rule:Nat):Int)=6)=true:=dEt (by omega);have ds:∀j:Int,j≠6->decide (((rule:Nat):Int)=j)=false:=λj hj=>dEf (by omega);have W:r.op=4:=by rw[hr]
   have k6:decide (r.op=0)=false:=dEf (by omega);by_cases D:op=r.op
   case neg =>
    rw[U (by omega) D];have O:decide (op=r.op)=false:=dEf D;simp only[go_sem,zE,zA,k4,k5,k6,O];intros;exact yQ0 ⟨_,_,rfl,.inl rfl,rfl,rfl⟩
   have O:decide (op=r.op)=true:=dEt D;obtain⟨a,b,rfl⟩:∃a b,sub=[a,b]:=by
    have:=ag.2 (by omega)
    match sub,this with
    | [a,b],_=>exact⟨a,b,rfl⟩
   simp only[IsFms] at i4;obtain⟨ya,_,rfl,G,yb,_,rfl,ac,rfl⟩:=i4;obtain⟨oa,na,au,ao,aq,an,rfl⟩:=G.agg;obtain⟨ob,nb,aC,aA,aB,az,rfl⟩:=ac.agg;have k8:decide ((0:Int)<((2:Nat):Int))=true:=rfl;have s1:=yZx (show 1<=2 by omega);have s2:=yZw (show 1<=2 by omega);have s3:∀a b c,(reTag 4 (yXn (reTag 4 t4) a b c none)).es=4:=λa b c=>yQ2 (yQw e4 a b c);generalize ab:yZl ca rule r (.mk op nm us [a,b]) term name=E;have F:E=(addS ca rule (.mk op nm us [a,b]) a b,0):=by rw[<- ab,yJm hf (λ_=>D) (by rw[hr])];rfl
   have hv:E=([⟨[],[a]⟩,⟨[],[b]⟩],0):=by rw[F,show addS ca rule (.mk op nm us [a,b]) a b=[⟨[],[a]⟩,⟨[],[b]⟩] from by rw[J];rfl]
   rw[hv];simp only[go_sem,zE,zA,zS,zL,k4,k5,k6,O,dt,ds,ne_eq,nFt,Int.reduceEq,k8,s1,s2,yQ2 e4];intros
   repeat (refine (yJr gl _ _ _ _ _).mono ?_;rintro _ _ ⟨rfl,rfl⟩;simp only[go_sem,zE,zA,zM,zL,fits,yU2])
   exact yQ0 ⟨_,_,rfl,.inr rfl,⟨_,_,rfl,⟨_,_,_,_,rfl,.inl rfl,rfl,yQw e4 _ _ _,⟨_,_,rfl,G,rfl⟩⟩,⟨_,_,rfl,⟨_,_,_,_,rfl,.inl rfl,rfl,yQw e4 _ _ _,⟨_,_,rfl,ac,rfl⟩⟩,rfl⟩⟩,rfl⟩
  ·have dt:decide (((rule:Nat):Int)=7)=true:=dEt (by omega);have ds:∀j:Int,j≠7->decide (((rule:Nat):Int)=j)=false:=λj hj=>dEf (by omega);have W:r.op=5:=by rw[hr]
   have k6:decide (r.op=0)=false:=dEf (by omega);by_cases D:op=r.op
   case neg =>
    rw[U (by omega) D];have O:decide (op=r.op)=false:=dEf D;simp only[go_sem,zE,zA,k4,k5,k6,O];intros;exact yQ0 ⟨_,_,rfl,.inl rfl,rfl,rfl⟩
   have O:decide (op=r.op)=true:=dEt D;obtain⟨a,b,rfl⟩:∃a b,sub=[a,b]:=by
    have:=ag.2 (by omega)
    match sub,this with
    | [a,b],_=>exact⟨a,b,rfl⟩
   simp only[IsFms] at i4;obtain⟨ya,_,rfl,G,yb,_,rfl,ac,rfl⟩:=i4;obtain⟨oa,na,au,ao,aq,an,rfl⟩:=G.agg;obtain⟨ob,nb,aC,aA,aB,az,rfl⟩:=ac.agg;have k8:decide ((0:Int)<((2:Nat):Int))=true:=rfl;have s1:=yZx (show 1<=2 by omega);have s2:=yZw (show 1<=2 by omega);have s3:∀a b c,(reTag 4 (yXn (reTag 4 t4) a b c none)).es=4:=λa b c=>yQ2 (yQw e4 a b c);generalize ab:yZl ca rule r (.mk op nm us [a,b]) term name=E;have F:E=(addS ca rule (.mk op nm us [a,b]) a b,0):=by rw[<- ab,yJm hf (λ_=>D) (by rw[hr])];rfl
   have hv:E=([⟨[a],[]⟩,⟨[b],[]⟩],0):=by rw[F,show addS ca rule (.mk op nm us [a,b]) a b=[⟨[a],[]⟩,⟨[b],[]⟩] from by rw[J];rfl]
   rw[hv];simp only[go_sem,zE,zA,zS,zL,k4,k5,k6,O,dt,ds,ne_eq,nFt,Int.reduceEq,k8,s1,s2,yQ2 e4];intros
   repeat (refine (yJr gl _ _ _ _ _).mono ?_;rintro _ _ ⟨rfl,rfl⟩;simp only[go_sem,zE,zA,zM,zL,fits,yU2])
   exact yQ0 ⟨_,_,rfl,.inr rfl,⟨_,_,rfl,⟨_,_,_,_,rfl,yQw e4 _ _ _,⟨_,_,rfl,G,rfl⟩,.inl rfl,rfl⟩,⟨_,_,rfl,⟨_,_,_,_,rfl,yQw e4 _ _ _,⟨_,_,rfl,ac,rfl⟩,.inl rfl,rfl⟩,rfl⟩⟩,rfl⟩
  ·have dt:decide (((rule:Nat):Int)=8)=true:=dEt (by omega);have ds:∀j:Int,j≠8->decide (((rule:Nat):Int)=j)=false:=λj hj=>dEf (by omega);have W:r.op=5:=by rw[hr]
   have k6:decide (r.op=0)=false:=dEf (by omega);by_cases D:op=r.op
   case neg =>
    rw[U (by omega) D];have O:decide (op=r.op)=false:=dEf D;simp only[go_sem,zE,zA,k4,k5,k6,O];intros;exact yQ0 ⟨_,_,rfl,.inl rfl,rfl,rfl⟩
   have O:decide (op=r.op)=true:=dEt D;obtain⟨a,b,rfl⟩:∃a b,sub=[a,b]:=by
    have:=ag.2 (by omega)
    match sub,this with
    | [a,b],_=>exact⟨a,b,rfl⟩
   simp only[IsFms] at i4;obtain⟨ya,_,rfl,G,yb,_,rfl,ac,rfl⟩:=i4;obtain⟨oa,na,au,ao,aq,an,rfl⟩:=G.agg;obtain⟨ob,nb,aC,aA,aB,az,rfl⟩:=ac.agg;have k8:decide ((0:Int)<((2:Nat):Int))=true:=rfl;have s1:=yZx (show 1<=2 by omega);have s2:=yZw (show 1<=2 by omega);have s3:∀a b c,(reTag 4 (yXn (reTag 4 t4) a b c none)).es=4:=λa b c=>yQ2 (yQw e4 a b c);generalize ab:yZl ca rule r (.mk op nm us [a,b]) term name=E;have F:E=(addS ca rule (.mk op nm us [a,b]) a b,0):=by rw[<- ab,yJm hf (λ_=>D) (by rw[hr])];rfl
   by_cases aN:ca=2
   ·have dc:=d2 true (dEt aN);have hv:E=([⟨[],[a]⟩],0):=by rw[F,show addS ca rule (.mk op nm us [a,b]) a b=[⟨[],[a]⟩] from by rw[J,aN];rfl]
    rw[hv];simp only[go_sem,zE,zA,zS,zL,reduceCtorEq,k4,k5,k6,O,dt,ds,ne_eq,nFt,Int.reduceEq,k8,s1,s2,yQ2 e4,dc];intros
    repeat (refine (yJr gl _ _ _ _ _).mono ?_;rintro _ _ ⟨rfl,rfl⟩;simp only[go_sem,zE,zA,zM,zL,fits,yQ1])
    exact yQ0 ⟨_,_,rfl,.inr rfl,⟨_,_,rfl,⟨_,_,_,_,rfl,.inl rfl,rfl,yQw e4 _ _ _,⟨_,_,rfl,G,rfl⟩⟩,rfl⟩,rfl⟩
   ·have dc:=d2 false (dEf aN);have hv:E=([⟨[],[a,b]⟩],0):=by rw[F,show addS ca rule (.mk op nm us [a,b]) a b=[⟨[],[a,b]⟩] from by rw[J];unfold addS;simp[aN]]
    rw[hv];simp only[go_sem,zE,zA,zS,zL,reduceCtorEq,k4,k5,k6,O,dt,ds,ne_eq,nFt,Int.reduceEq,k8,s1,s2,yQ2 e4,dc];intros
    repeat (refine (yJr gl _ _ _ _ _).mono ?_;rintro _ _ ⟨rfl,rfl⟩;simp only[go_sem,zE,zA,zM,zL,fits,yQ1])
    exact yQ0 ⟨_,_,rfl,.inr rfl,⟨_,_,rfl,⟨_,_,_,_,rfl,.inl rfl,rfl,e4,⟨_,_,rfl,G,_,_,rfl,ac,rfl⟩⟩,rfl⟩,rfl⟩
  ·have dt:decide (((rule:Nat):Int)=9)=true:=dEt (by omega);have ds:∀j:Int,j≠9->decide (((rule:Nat):Int)=j)=false:=λj hj=>dEf (by omega);have W:r.op=6:=by rw[hr]
   have k6:decide (r.op=0)=false:=dEf (by omega);by_cases D:op=r.op
   case neg =>
    rw[U (by omega) D];have O:decide (op=r.op)=false:=dEf D;simp only[go_sem,zE,zA,k4,k5,k6,O];intros;exact yQ0 ⟨_,_,rfl,.inl rfl,rfl,rfl⟩
   have O:decide (op=r.op)=true:=dEt D;obtain⟨a,b,rfl⟩:∃a b,sub=[a,b]:=by
    have:=ag.2 (by omega)
    match sub,this with
    | [a,b],_=>exact⟨a,b,rfl⟩
   simp only[IsFms] at i4;obtain⟨ya,_,rfl,G,yb,_,rfl,ac,rfl⟩:=i4;obtain⟨oa,na,au,ao,aq,an,rfl⟩:=G.agg;obtain⟨ob,nb,aC,aA,aB,az,rfl⟩:=ac.agg;have k8:decide ((0:Int)<((2:Nat):Int))=true:=rfl;have s1:=yZx (show 1<=2 by omega);have s2:=yZw (show 1<=2 by omega);have s3:∀a b c,(reTag 4 (yXn (reTag 4 t4) a b c none)).es=4:=λa b c=>yQ2 (yQw e4 a b c);generalize ab:yZl ca rule r (.mk op nm us [a,b]) term name=E;have F:E=(addS ca rule (.mk op nm us [a,b]) a b,0):=by rw[<- ab,yJm hf (λ_=>D) (by rw[hr])];rfl
   have hv:E=([⟨[],[a]⟩,⟨[b],[]⟩],0):=by rw[F,show addS ca rule (.mk op nm us [a,b]) a b=[⟨[],[a]⟩,⟨[b],[]⟩] from by rw[J];rfl]
   rw[hv];simp only[go_sem,zE,zA,zS,zL,k4,k5,k6,O,dt,ds,ne_eq,nFt,Int.reduceEq,k8,s1,s2,yQ2 e4];intros
   repeat (refine (yJr gl _ _ _ _ _).mono ?_;rintro _ _ ⟨rfl,rfl⟩;simp only[go_sem,zE,zA,zM,zL,fits,yU2])
   exact yQ0 ⟨_,_,rfl,.inr rfl,⟨_,_,rfl,⟨_,_,_,_,rfl,.inl rfl,rfl,yQw e4 _ _ _,⟨_,_,rfl,G,rfl⟩⟩,⟨_,_,rfl,⟨_,_,_,_,rfl,yQw e4 _ _ _,⟨_,_,rfl,ac,rfl⟩,.inl rfl,rfl⟩,rfl⟩⟩,rfl⟩
  ·have dt:decide (((rule:Nat):Int)=10)=true:=dEt (by omega);have ds:∀j:Int,j≠10->decide (((rule:Nat):Int)=j)=false:=λj hj=>dEf (by omega);have W:r.op=6:=by rw[hr]
   have k6:decide (r.op=0)=false:=dEf (by omega);by_cases D:op=r.op
   case neg =>
    rw[U (by omega) D];have O:decide (op=r.op)=false:=dEf D;simp only[go_sem,zE,zA,k4,k5,k6,O];intros;exact yQ0 ⟨_,_,rfl,.inl rfl,rfl,rfl⟩
   have O:decide (op=r.op)=true:=dEt D;obtain⟨a,b,rfl⟩:∃a b,sub=[a,b]:=by
    have:=ag.2 (by omega)
    match sub,this with
    | [a,b],_=>exact⟨a,b,rfl⟩
   simp only[IsFms] at i4;obtain⟨ya,_,rfl,G,yb,_,rfl,ac,rfl⟩:=i4;obtain⟨oa,na,au,ao,aq,an,rfl⟩:=G.agg;obtain⟨ob,nb,aC,aA,aB,az,rfl⟩:=ac.agg;have k8:decide ((0:Int)<((2:Nat):Int))=true:=rfl;have s1:=yZx (show 1<=2 by omega);have s2:=yZw (show 1<=2 by omega);have s3:∀a b c,(reTag 4 (yXn (reTag 4 t4) a b c none)).es=4:=λa b c=>yQ2 (yQw e4 a b c);generalize ab:yZl ca rule r (.mk op nm us [a,b]) term name=E;have F:E=(addS ca rule (.mk op nm us [a,b]) a b,0):=by rw[<- ab,yJm hf (λ_=>D) (by rw[hr])];rfl
   have hv:E=([⟨[a],[b]⟩],0):=by rw[F,show addS ca rule (.mk op nm us [a,b]) a b=[⟨[a],[b]⟩] from by rw[J];rfl]
   rw[hv];simp only[go_sem,zE,zA,zS,zL,k4,k5,k6,O,dt,ds,ne_eq,nFt,Int.reduceEq,k8,s1,s2,yQ2 e4];intros
   repeat (refine (yJr gl _ _ _ _ _).mono ?_;rintro _ _ ⟨rfl,rfl⟩;simp only[go_sem,zE,zA,zM,zL,fits,yQ1])
   exact yQ0 ⟨_,_,rfl,.inr rfl,⟨_,_,rfl,⟨_,_,_,_,rfl,yQw e4 _ _ _,⟨_,_,rfl,G,rfl⟩,yQw e4 _ _ _,⟨_,_,rfl,ac,rfl⟩⟩,rfl⟩,rfl⟩
  ·have dt:decide (((rule:Nat):Int)=11)=true:=dEt (by omega);have ds:∀j:Int,j≠11->decide (((rule:Nat):Int)=j)=false:=λj hj=>dEf (by omega);have W:r.op=7:=by rw[hr]
   have k6:decide (r.op=0)=false:=dEf (by omega);by_cases D:op=r.op
   case neg =>
    rw[U (by omega) D];have O:decide (op=r.op)=false:=dEf D;simp only[go_sem,zE,zA,k4,k5,k6,O];intros;exact yQ0 ⟨_,_,rfl,.inl rfl,rfl,rfl⟩
   have O:decide (op=r.op)=true:=dEt D;obtain⟨a,b,rfl⟩:∃a b,sub=[a,b]:=by
    have:=ag.2 (by omega)
    match sub,this with
    | [a,b],_=>exact⟨a,b,rfl⟩
   simp only[IsFms] at i4;obtain⟨ya,_,rfl,G,yb,_,rfl,ac,rfl⟩:=i4;obtain⟨oa,na,au,ao,aq,an,rfl⟩:=G.agg;obtain⟨ob,nb,aC,aA,aB,az,rfl⟩:=ac.agg;have k8:decide ((0:Int)<((2:Nat):Int))=true:=rfl;have s1:=yZx (show 1<=2 by omega);have s2:=yZw (show 1<=2 by omega);have s3:∀a b c,(reTag 4 (yXn (reTag 4 t4) a b c none)).es=4:=λa b c=>yQ2 (yQw e4 a b c);generalize ab:yZl ca rule r (.mk op nm us [a,b]) term name=E;have F:E=(addS ca rule (.mk op nm us [a,b]) a b,0):=by rw[<- ab,yJm hf (λ_=>D) (by rw[hr])];rfl
   have hv:E=([⟨[impF a b,impF b a],[]⟩],0):=by rw[F,show addS ca rule (.mk op nm us [a,b]) a b=[⟨[impF a b,impF b a],[]⟩] from by rw[J];rfl]
   rw[hv];simp only[go_sem,zE,zB,zA,zM,zS,zL,fits,k4,k5,k6,O,dt,ds,ne_eq,nFt,Int.reduceEq,yU2,k8,s1,s2,s3,yQ2 e4,Int.le_refl,Int.toNat_zero];intros
   repeat (refine (yJr gl _ _ _ _ _).mono ?_;rintro _ _ ⟨rfl,rfl⟩;simp only[go_sem,zE,zA,zM,zL,fits,yQ1])
   refine yQ0 ⟨_,_,rfl,.inr rfl,⟨_,_,rfl,⟨_,_,_,_,rfl,.inr rfl,?_,.inl rfl,rfl⟩,rfl⟩,rfl⟩;simp only[IsFms,impF,IsFm];exact⟨_,_,rfl,⟨_,_,_,_,rfl,by omega,.inl rfl,rfl,e4,⟨_,_,rfl,G,_,_,rfl,ac,rfl⟩⟩,_,_,rfl,⟨_,_,_,_,rfl,by omega,.inl rfl,rfl,.inr rfl,⟨_,_,rfl,ac,_,_,rfl,G,rfl⟩⟩,rfl⟩
  ·have dt:decide (((rule:Nat):Int)=12)=true:=dEt (by omega);have ds:∀j:Int,j≠12->decide (((rule:Nat):Int)=j)=false:=λj hj=>dEf (by omega);have W:r.op=7:=by rw[hr]
   have k6:decide (r.op=0)=false:=dEf (by omega);by_cases D:op=r.op
   case neg =>
    rw[U (by omega) D];have O:decide (op=r.op)=false:=dEf D;simp only[go_sem,zE,zA,k4,k5,k6,O];intros;exact yQ0 ⟨_,_,rfl,.inl rfl,rfl,rfl⟩
   have O:decide (op=r.op)=true:=dEt D;obtain⟨a,b,rfl⟩:∃a b,sub=[a,b]:=by
    have:=ag.2 (by omega)
    match sub,this with
    | [a,b],_=>exact⟨a,b,rfl⟩
   simp only[IsFms] at i4;obtain⟨ya,_,rfl,G,yb,_,rfl,ac,rfl⟩:=i4;obtain⟨oa,na,au,ao,aq,an,rfl⟩:=G.agg;obtain⟨ob,nb,aC,aA,aB,az,rfl⟩:=ac.agg;have k8:decide ((0:Int)<((2:Nat):Int))=true:=rfl;have s1:=yZx (show 1<=2 by omega);have s2:=yZw (show 1<=2 by omega);have s3:∀a b c,(reTag 4 (yXn (reTag 4 t4) a b c none)).es=4:=λa b c=>yQ2 (yQw e4 a b c);generalize ab:yZl ca rule r (.mk op nm us [a,b]) term name=E;have F:E=(addS ca rule (.mk op nm us [a,b]) a b,0):=by rw[<- ab,yJm hf (λ_=>D) (by rw[hr])];rfl
   have hv:E=([⟨[a],[b]⟩,⟨[b],[a]⟩],0):=by rw[F,show addS ca rule (.mk op nm us [a,b]) a b=[⟨[a],[b]⟩,⟨[b],[a]⟩] from by rw[J];rfl]
   rw[hv];simp only[go_sem,zE,zA,zS,zL,k4,k5,k6,O,dt,ds,ne_eq,nFt,Int.reduceEq,k8,s1,s2,yQ2 e4];intros
   repeat (refine (yJr gl _ _ _ _ _).mono ?_;rintro _ _ ⟨rfl,rfl⟩;simp only[go_sem,zE,zA,zM,zL,fits,yU2])
   exact yQ0 ⟨_,_,rfl,.inr rfl,⟨_,_,rfl,⟨_,_,_,_,rfl,yQw e4 _ _ _,⟨_,_,rfl,G,rfl⟩,yQw e4 _ _ _,⟨_,_,rfl,ac,rfl⟩⟩,⟨_,_,rfl,⟨_,_,_,_,rfl,yQw e4 _ _ _,⟨_,_,rfl,ac,rfl⟩,yQw e4 _ _ _,⟨_,_,rfl,G,rfl⟩⟩,rfl⟩⟩,rfl⟩
  ·have dt:decide (((rule:Nat):Int)=13)=true:=dEt (by omega);have ds:∀j:Int,j≠13->decide (((rule:Nat):Int)=j)=false:=λj hj=>dEf (by omega);have W:r.op=8:=by rw[hr]
   have k6:decide (r.op=0)=false:=dEf (by omega);by_cases D:op=r.op
   case neg =>
    rw[U (by omega) D];have O:decide (op=r.op)=false:=dEf D;simp only[go_sem,zE,zA,k4,k5,k6,O];intros;exact yQ0 ⟨_,_,rfl,.inl rfl,rfl,rfl⟩
   have O:decide (op=r.op)=true:=dEt D;obtain⟨a,rfl⟩:∃a,sub=[a]:=by
    have:=ag.1 (by omega)
    match sub,this with
    | [a],_=>exact⟨a,rfl⟩
   simp only[IsFms] at i4;obtain⟨ya,_,rfl,G,rfl⟩:=i4;obtain⟨oa,na,au,ao,aq,an,rfl⟩:=G.agg;have k8:decide ((0:Int)<((1:Nat):Int))=true:=rfl;have s1:=yZx (show 1<=1 by omega);have s2:=yZw (show 1<=1 by omega);have s3:∀a b c,(reTag 4 (yXn (reTag 4 t4) a b c none)).es=4:=λa b c=>yQ2 (yQw e4 a b c);have hT:=λst=>zV2 gl term _ aL (by omega) st;have hP:=λst=>xY4 gl a _ G (by simp only[Fm.size,yQ9] at hm;have:=(zZo.1 hf).2.1;simp only[Fm.size,yQ9] at this;omega) nm term _ aL (by omega) st;generalize ab:yZl ca rule r (.mk op nm us [a]) term name=E;have F:=ab.symm.trans (zKe (t:=term) hf (λ_=>D) (by rw[hr];decide) (by rw[hr];rfl));simp only[Fm.subs,Fm.nm,List.getElem?_cons_zero,Option.getD_some] at F;simp only[go_sem,zE,zA,zS,zL,k4,k5,k6,O,ds,ne_eq,nFt,Int.reduceEq,k8,s1,s2,yQ2 e4];intros;refine (hT _).mono ?_;rintro _ st ⟨rfl,rfl⟩;cases ax:term.ok
   ·rw[ax] at F;rw[F];simp only[go_sem,zE,ne_eq];exact yQ0 ⟨_,_,rfl,.inl rfl,rfl,rfl⟩
   rw[ax] at F;rw[if_neg (by decide)] at F;simp only[go_sem,zE,zB,zA,zL,fits,s3,Int.le_refl,Int.toNat_zero];intros;refine (hP _).mono ?_;rintro _ st ⟨yg,rfl,hg,rfl⟩;obtain⟨og,ng,aX,aV,aW,aU,rfl⟩:=hg.agg;rcases wWn F.symm with⟨he,al⟩|⟨he,al⟩
   ·have k9:decide ((((yZf a [(nm,term)]).2:Nat):Int)=0)=false:=dEf (by omega);rw[<- al];simp only[go_sem,zE,zA,zL,k9];exact yQ0 ⟨_,_,rfl,.inl rfl,rfl,rfl⟩
   ·have k9:decide ((((yZf a [(nm,term)]).2:Nat):Int)=0)=true:=dEt (by omega);rw[<- al,show ∀A B,addS ca rule (.mk op nm us [a]) A B=[⟨[A],[]⟩] from λA B=>by rw[J];rfl];simp only[go_sem,zE,zA,zM,zL,fits,dt,yQ1,k9];intros
    repeat (refine (yJr gl _ _ _ _ _).mono ?_;rintro _ _ ⟨rfl,rfl⟩;simp only[go_sem,zE,zA,zM,zL,fits,yQ1])
    exact yQ0 ⟨_,_,rfl,.inr rfl,⟨_,_,rfl,⟨_,_,_,_,rfl,.inr rfl,⟨_,_,rfl,hg,rfl⟩,.inl rfl,rfl⟩,rfl⟩,rfl⟩
  ·have dt:decide (((rule:Nat):Int)=14)=true:=dEt (by omega);have ds:∀j:Int,j≠14->decide (((rule:Nat):Int)=j)=false:=λj hj=>dEf (by omega);have W:r.op=8:=by rw[hr]
   have k6:decide (r.op=0)=false:=dEf (by omega);by_cases D:op=r.op
   case neg =>
    rw[U (by omega) D];have O:decide (op=r.op)=false:=dEf D;simp only[go_sem,zE,zA,k4,k5,k6,O];intros;exact yQ0 ⟨_,_,rfl,.inl rfl,rfl,rfl⟩
   have O:decide (op=r.op)=true:=dEt D;obtain⟨a,rfl⟩:∃a,sub=[a]:=by
    have:=ag.1 (by omega)
    match sub,this with
    | [a],_=>exact⟨a,rfl⟩
   simp only[IsFms] at i4;obtain⟨ya,_,rfl,G,rfl⟩:=i4;obtain⟨oa,na,au,ao,aq,an,rfl⟩:=G.agg;have k8:decide ((0:Int)<((1:Nat):Int))=true:=rfl;have s1:=yZx (show 1<=1 by omega);have s2:=yZw (show 1<=1 by omega);have s3:∀a b c,(reTag 4 (yXn (reTag 4 t4) a b c none)).es=4:=λa b c=>yQ2 (yQw e4 a b c);have hT:=λst=>zV2 gl (Tm.mk true name []) (.agg [.raw (.bool true),.raw (.string name),.sl ⟨true,.nil,0⟩ []]) ⟨⟨true,.nil,0⟩,[],rfl,.inl rfl,rfl⟩ (by simp[Tm.size,yQa]) st;have hP:=λst=>xY4 gl a _ G (by simp only[Fm.size,yQ9] at hm;have:=(zZo.1 hf).2.1;simp only[Fm.size,yQ9] at this;omega) nm (Tm.mk true name []) (.agg [.raw (.bool true),.raw (.string name),.sl ⟨true,.nil,0⟩ []]) ⟨⟨true,.nil,0⟩,[],rfl,.inl rfl,rfl⟩ (by simp[Tm.size,yQa]) st;generalize ab:yZl ca rule r (.mk op nm us [a]) term name=E;have F:=ab.symm.trans (zKe (t:=(Tm.mk true name [])) hf (λ_=>D) (by rw[hr];decide) (by rw[hr];rfl));simp only[Fm.subs,Fm.nm,List.getElem?_cons_zero,Option.getD_some] at F;have hV:=λst=>yKd gl name st;simp only[go_sem,zE,zA,zS,zL,k4,k5,k6,O,dt,ds,ne_eq,nFt,Int.reduceEq,k8,s1,s2,yQ2 e4];intros;refine (hV _).mono ?_;rintro _ st ⟨rfl,rfl⟩;cases aJ:yV4 name
   ·rw[if_pos (show (Tm.mk true name []).ok=false from by simp[Tm.ok,aJ])] at F;rw[F];simp only[go_sem,zE];exact yQ0 ⟨_,_,rfl,.inl rfl,rfl,rfl⟩
   have ax:(Tm.mk true name []).ok=true:=by simp[Tm.ok,aJ]
   rw[ax] at hT;simp only[go_sem,zE,zA,zL,fits];refine (hT _).mono ?_;rintro _ st ⟨rfl,rfl⟩;rw[ax] at F;rw[if_neg (by decide)] at F;simp only[go_sem,zE,zB,zA,zL,fits,s3,Int.le_refl,Int.toNat_zero];intros;refine (hP _).mono ?_;rintro _ st ⟨yg,rfl,hg,rfl⟩;obtain⟨og,ng,aX,aV,aW,aU,rfl⟩:=hg.agg;rcases wWn F.symm with⟨he,al⟩|⟨he,al⟩
   ·have k9:decide ((((yZf a [(nm,(Tm.mk true name []))]).2:Nat):Int)=0)=false:=dEf (by omega);rw[<- al];simp only[go_sem,zE,zA,zL,k9];exact yQ0 ⟨_,_,rfl,.inl rfl,rfl,rfl⟩
   ·have k9:decide ((((yZf a [(nm,(Tm.mk true name []))]).2:Nat):Int)=0)=true:=dEt (by omega);rw[<- al,show ∀A B,addS ca rule (.mk op nm us [a]) A B=[⟨[],[A]⟩] from λA B=>by rw[J];rfl];simp only[go_sem,zE,zA,zM,zL,fits,ds,ne_eq,nFt,Int.reduceEq,yQ1,k9];intros
    repeat (refine (yJr gl _ _ _ _ _).mono ?_;rintro _ _ ⟨rfl,rfl⟩;simp only[go_sem,zE,zA,zM,zL,fits,yQ1])
    exact yQ0 ⟨_,_,rfl,.inr rfl,⟨_,_,rfl,⟨_,_,_,_,rfl,.inl rfl,rfl,.inr rfl,⟨_,_,rfl,hg,rfl⟩⟩,rfl⟩,rfl⟩
  ·have dt:decide (((rule:Nat):Int)=15)=true:=dEt (by omega);have ds:∀j:Int,j≠15->decide (((rule:Nat):Int)=j)=false:=λj hj=>dEf (by omega);have W:r.op=9:=by rw[hr]
   have k6:decide (r.op=0)=false:=dEf (by omega);by_cases D:op=r.op
   case neg =>
    rw[U (by omega) D];have O:decide (op=r.op)=false:=dEf D;simp only[go_sem,zE,zA,k4,k5,k6,O];intros;exact yQ0 ⟨_,_,rfl,.inl rfl,rfl,rfl⟩
   have O:decide (op=r.op)=true:=dEt D;obtain⟨a,rfl⟩:∃a,sub=[a]:=by
    have:=ag.1 (by omega)
    match sub,this with
    | [a],_=>exact⟨a,rfl⟩
   simp only[IsFms] at i4;obtain⟨ya,_,rfl,G,rfl⟩:=i4;obtain⟨oa,na,au,ao,aq,an,rfl⟩:=G.agg;have k8:decide ((0:Int)<((1:Nat):Int))=true:=rfl;have s1:=yZx (show 1<=1 by omega);have s2:=yZw (show 1<=1 by omega);have s3:∀a b c,(reTag 4 (yXn (reTag 4 t4) a b c none)).es=4:=λa b c=>yQ2 (yQw e4 a b c);have hT:=λst=>zV2 gl (Tm.mk true name []) (.agg [.raw (.bool true),.raw (.string name),.sl ⟨true,.nil,0⟩ []]) ⟨⟨true,.nil,0⟩,[],rfl,.inl rfl,rfl⟩ (by simp[Tm.size,yQa]) st;have hP:=λst=>xY4 gl a _ G (by simp only[Fm.size,yQ9] at hm;have:=(zZo.1 hf).2.1;simp only[Fm.size,yQ9] at this;omega) nm (Tm.mk true name []) (.agg [.raw (.bool true),.raw (.string name),.sl ⟨true,.nil,0⟩ []]) ⟨⟨true,.nil,0⟩,[],rfl,.inl rfl,rfl⟩ (by simp[Tm.size,yQa]) st;generalize ab:yZl ca rule r (.mk op nm us [a]) term name=E;have F:=ab.symm.trans (zKe (t:=(Tm.mk true name [])) hf (λ_=>D) (by rw[hr];decide) (by rw[hr];rfl));simp only[Fm.subs,Fm.nm,List.getElem?_cons_zero,Option.getD_some] at F;have hV:=λst=>yKd gl name st;simp only[go_sem,zE,zA,zS,zL,k4,k5,k6,O,dt,ds,ne_eq,nFt,Int.reduceEq,k8,s1,s2,yQ2 e4];intros;refine (hV _).mono ?_;rintro _ st ⟨rfl,rfl⟩;cases aJ:yV4 name
   ·rw[if_pos (show (Tm.mk true name []).ok=false from by simp[Tm.ok,aJ])] at F;rw[F];simp only[go_sem,zE];exact yQ0 ⟨_,_,rfl,.inl rfl,rfl,rfl⟩
   have ax:(Tm.mk true name []).ok=true:=by simp[Tm.ok,aJ]
   rw[ax] at hT;simp only[go_sem,zE,zA,zL,fits];refine (hT _).mono ?_;rintro _ st ⟨rfl,rfl⟩;rw[ax] at F;rw[if_neg (by decide)] at F;simp only[go_sem,zE,zB,zA,zL,fits,s3,Int.le_refl,Int.toNat_zero];intros;refine (hP _).mono ?_;rintro _ st ⟨yg,rfl,hg,rfl⟩;obtain⟨og,ng,aX,aV,aW,aU,rfl⟩:=hg.agg;rcases wWn F.symm with⟨he,al⟩|⟨he,al⟩
   ·have k9:decide ((((yZf a [(nm,(Tm.mk true name []))]).2:Nat):Int)=0)=false:=dEf (by omega);rw[<- al];simp only[go_sem,zE,zA,zL,k9];exact yQ0 ⟨_,_,rfl,.inl rfl,rfl,rfl⟩
   ·have k9:decide ((((yZf a [(nm,(Tm.mk true name []))]).2:Nat):Int)=0)=true:=dEt (by omega);rw[<- al,show ∀A B,addS ca rule (.mk op nm us [a]) A B=[⟨[A],[]⟩] from λA B=>by rw[J];rfl];simp only[go_sem,zE,zA,zM,zL,fits,dt,ds,ne_eq,nFt,Int.reduceEq,yQ1,k9];intros
    repeat (refine (yJr gl _ _ _ _ _).mono ?_;rintro _ _ ⟨rfl,rfl⟩;simp only[go_sem,zE,zA,zM,zL,fits,yQ1])
    exact yQ0 ⟨_,_,rfl,.inr rfl,⟨_,_,rfl,⟨_,_,_,_,rfl,.inr rfl,⟨_,_,rfl,hg,rfl⟩,.inl rfl,rfl⟩,rfl⟩,rfl⟩
  ·have dt:decide (((rule:Nat):Int)=16)=true:=dEt (by omega);have ds:∀j:Int,j≠16->decide (((rule:Nat):Int)=j)=false:=λj hj=>dEf (by omega);have W:r.op=9:=by rw[hr]
   have k6:decide (r.op=0)=false:=dEf (by omega);by_cases D:op=r.op
   case neg =>
    rw[U (by omega) D];have O:decide (op=r.op)=false:=dEf D;simp only[go_sem,zE,zA,k4,k5,k6,O];intros;exact yQ0 ⟨_,_,rfl,.inl rfl,rfl,rfl⟩
   have O:decide (op=r.op)=true:=dEt D;obtain⟨a,rfl⟩:∃a,sub=[a]:=by
    have:=ag.1 (by omega)
    match sub,this with
    | [a],_=>exact⟨a,rfl⟩
   simp only[IsFms] at i4;obtain⟨ya,_,rfl,G,rfl⟩:=i4;obtain⟨oa,na,au,ao,aq,an,rfl⟩:=G.agg;have k8:decide ((0:Int)<((1:Nat):Int))=true:=rfl;have s1:=yZx (show 1<=1 by omega);have s2:=yZw (show 1<=1 by omega);have s3:∀a b c,(reTag 4 (yXn (reTag 4 t4) a b c none)).es=4:=λa b c=>yQ2 (yQw e4 a b c);have hT:=λst=>zV2 gl term _ aL (by omega) st;have hP:=λst=>xY4 gl a _ G (by simp only[Fm.size,yQ9] at hm;have:=(zZo.1 hf).2.1;simp only[Fm.size,yQ9] at this;omega) nm term _ aL (by omega) st;generalize ab:yZl ca rule r (.mk op nm us [a]) term name=E;have F:=ab.symm.trans (zKe (t:=term) hf (λ_=>D) (by rw[hr];decide) (by rw[hr];rfl));simp only[Fm.subs,Fm.nm,List.getElem?_cons_zero,Option.getD_some] at F;simp only[go_sem,zE,zA,zS,zL,k4,k5,k6,O,ds,ne_eq,nFt,Int.reduceEq,k8,s1,s2,yQ2 e4];intros;refine (hT _).mono ?_;rintro _ st ⟨rfl,rfl⟩;cases ax:term.ok
   ·rw[ax] at F;rw[F];simp only[go_sem,zE,ne_eq];exact yQ0 ⟨_,_,rfl,.inl rfl,rfl,rfl⟩
   rw[ax] at F;rw[if_neg (by decide)] at F;simp only[go_sem,zE,zB,zA,zL,fits,s3,Int.le_refl,Int.toNat_zero];intros;refine (hP _).mono ?_;rintro _ st ⟨yg,rfl,hg,rfl⟩;obtain⟨og,ng,aX,aV,aW,aU,rfl⟩:=hg.agg;rcases wWn F.symm with⟨he,al⟩|⟨he,al⟩
   ·have k9:decide ((((yZf a [(nm,term)]).2:Nat):Int)=0)=false:=dEf (by omega);rw[<- al];simp only[go_sem,zE,zA,zL,k9];exact yQ0 ⟨_,_,rfl,.inl rfl,rfl,rfl⟩
   ·have k9:decide ((((yZf a [(nm,term)]).2:Nat):Int)=0)=true:=dEt (by omega);rw[<- al,show ∀A B,addS ca rule (.mk op nm us [a]) A B=[⟨[],[A]⟩] from λA B=>by rw[J];rfl];simp only[go_sem,zE,zA,zM,zL,fits,ds,ne_eq,nFt,Int.reduceEq,yQ1,k9];intros
    repeat (refine (yJr gl _ _ _ _ _).mono ?_;rintro _ _ ⟨rfl,rfl⟩;simp only[go_sem,zE,zA,zM,zL,fits,yQ1])
    exact yQ0 ⟨_,_,rfl,.inr rfl,⟨_,_,rfl,⟨_,_,_,_,rfl,.inl rfl,rfl,.inr rfl,⟨_,_,rfl,hg,rfl⟩⟩,rfl⟩,rfl⟩
  ·have dt:decide (((rule:Nat):Int)=17)=true:=dEt (by omega);have ds:∀j:Int,j≠17->decide (((rule:Nat):Int)=j)=false:=λj hj=>dEf (by omega);have W:r.op=0:=by rw[hr]
   have k6:decide (r.op=0)=true:=dEt W;rw[yJm hf (λh=>absurd W h) (by rw[hr]),show ∀A B,addS ca rule (.mk op nm us sub) A B=[⟨[],[.mk op nm us sub]⟩,⟨[.mk op nm us sub],[]⟩] from λA B=>by rw[J];rfl];by_cases a7:sub.length=0
   ·have k8:decide ((0:Int)<((sub.length:Nat):Int))=false:=dEf (by omega);simp only[go_sem,zE,zA,zM,zL,fits,k4,k6,dt,ds,ne_eq,nFt,Int.reduceEq,yQ1,i4.len,k8];intros
    repeat (refine (yJr gl _ _ _ _ _).mono ?_;rintro _ _ ⟨rfl,rfl⟩;simp only[go_sem,zE,zA,zM,zL,fits,yU2])
    exact yQ0 ⟨_,_,rfl,.inr rfl,⟨_,_,rfl,⟨_,_,_,_,rfl,.inl rfl,rfl,.inr rfl,⟨_,_,rfl,aM,rfl⟩⟩,⟨_,_,rfl,⟨_,_,_,_,rfl,.inr rfl,⟨_,_,rfl,aM,rfl⟩,.inl rfl,rfl⟩,rfl⟩⟩,rfl⟩
   ·have k8:decide ((0:Int)<((sub.length:Nat):Int))=true:=dEt (by omega);simp only[go_sem,zE,zA,zM,zL,fits,k4,k6,dt,ds,ne_eq,nFt,Int.reduceEq,yQ1,i4.len,k8,yZx (show 1<=sub.length by omega),yZw (show 1<=sub.length by omega),yQ2 e4];intros
    repeat (refine (yJr gl _ _ _ _ _).mono ?_;rintro _ _ ⟨rfl,rfl⟩;simp only[go_sem,zE,zA,zM,zL,fits,yU2])
    exact yQ0 ⟨_,_,rfl,.inr rfl,⟨_,_,rfl,⟨_,_,_,_,rfl,.inl rfl,rfl,.inr rfl,⟨_,_,rfl,aM,rfl⟩⟩,⟨_,_,rfl,⟨_,_,_,_,rfl,.inr rfl,⟨_,_,rfl,aM,rfl⟩,.inl rfl,rfl⟩,rfl⟩⟩,rfl⟩
  ·have dt:decide (((rule:Nat):Int)=18)=true:=dEt (by omega);have ds:∀j:Int,j≠18->decide (((rule:Nat):Int)=j)=false:=λj hj=>dEf (by omega);have W:r.op=5:=by rw[hr]
   have k6:decide (r.op=0)=false:=dEf (by omega);by_cases D:op=r.op
   case neg =>
    rw[U (by omega) D];have O:decide (op=r.op)=false:=dEf D;simp only[go_sem,zE,zA,k4,k5,k6,O];intros;exact yQ0 ⟨_,_,rfl,.inl rfl,rfl,rfl⟩
   have O:decide (op=r.op)=true:=dEt D;obtain⟨a,b,rfl⟩:∃a b,sub=[a,b]:=by
    have:=ag.2 (by omega)
    match sub,this with
    | [a,b],_=>exact⟨a,b,rfl⟩
   simp only[IsFms] at i4;obtain⟨ya,_,rfl,G,yb,_,rfl,ac,rfl⟩:=i4;obtain⟨oa,na,au,ao,aq,an,rfl⟩:=G.agg;obtain⟨ob,nb,aC,aA,aB,az,rfl⟩:=ac.agg;have k8:decide ((0:Int)<((2:Nat):Int))=true:=rfl;have s1:=yZx (show 1<=2 by omega);have s2:=yZw (show 1<=2 by omega);have s3:∀a b c,(reTag 4 (yXn (reTag 4 t4) a b c none)).es=4:=λa b c=>yQ2 (yQw e4 a b c);generalize ab:yZl ca rule r (.mk op nm us [a,b]) term name=E;have F:E=(addS ca rule (.mk op nm us [a,b]) a b,0):=by rw[<- ab,yJm hf (λ_=>D) (by rw[hr])];rfl
   have hv:E=([⟨[],[b]⟩],0):=by rw[F,show addS ca rule (.mk op nm us [a,b]) a b=[⟨[],[b]⟩] from by rw[J];rfl]
   rw[hv];simp only[go_sem,zE,zA,zS,zL,k4,k5,k6,O,dt,ds,ne_eq,nFt,Int.reduceEq,k8,s1,s2,yQ2 e4];intros
   repeat (refine (yJr gl _ _ _ _ _).mono ?_;rintro _ _ ⟨rfl,rfl⟩;simp only[go_sem,zE,zA,zM,zL,fits,yQ1])
   exact yQ0 ⟨_,_,rfl,.inr rfl,⟨_,_,rfl,⟨_,_,_,_,rfl,.inl rfl,rfl,yQw e4 _ _ _,⟨_,_,rfl,ac,rfl⟩⟩,rfl⟩,rfl⟩
end Go.Proofs.Tryz
namespace Go.Proofs.Tryz
open Go Go.Iv
end Go.Proofs.Tryz
namespace Go.Proofs.Tryz
open Go Go.Iv
mutual
def NA:Tr->Prop
 | .mk _ s m u _ sub=>yKm s/\m.size<=1000000/\u.size<=1000000/\NAs sub
def NAs:List Tr->Prop
 | []=>True
 | a::l=>NA a/\NAs l
end
theorem vYc:∀ {t:Tr},NA t->yKm t.sq
 | .mk _ _ _ _ _ _,h=>by simp only[NA] at h;exact h.1
theorem xWh:∀ {l:List Tr}{a:Tr},NAs l->a∈l->NA a
 | b::l,a,h,A=>by
  simp only[NAs] at h;rcases List.mem_cons.1 A with rfl|A
  ·exact h.1
  ·exact xWh h.2 A
theorem vXo:∀ {t:Tr},NA t->xXs t
 | .mk _ _ _ _ _ _,h=>by
  simp only[NA] at h;exact⟨h.1,h.2.1,h.2.2.1,λa A=>vYc (xWh h.2.2.2 A)⟩
mutual
theorem wVl:∀(p:List Nat)(t:Tr),NA t->∀q∈t.walk p,NA q.2
 | p,.mk rule s m u n sub,h,q,A=>by
  simp only[Tr.walk,List.mem_cons] at A;rcases A with rfl|A
  ·exact h
  ·simp only[NA] at h;exact xGy p 0 sub h.2.2.2 q A
theorem xGy:∀(p:List Nat)(i:Nat)(l:List Tr),NAs l->∀q∈yZ2 p i l,NA q.2
 | _,_,[],_,q,A=>by cases A
 | p,i,a::l,h,q,A=>by
  simp only[NAs] at h;simp only[yZ2,List.mem_append] at A;rcases A with A|A
  ·exact wVl _ a h.1 q A
  ·exact xGy p (i+1) l h.2 q A
end
theorem vYd {t:Tr}(h:NA t)(A:t.steps<=1099511627776):wKe t:=⟨λq D=>vXo (wVl [] t h q D),Nat.le_trans t.height_le_steps A⟩
mutual
theorem xYn:∀ {t:Tr},okT t=true->NA t
 | .mk _ s m u n sub,h=>by
  have A:=wWt h;simp only[okT,bAt] at h;exact⟨A.1,A.2.1,A.2.2.1,xYm h.2⟩
theorem xYm:∀ {l:List Tr},okTs l=true->NAs l
 | [],_=>trivial
 | a::l,h=>by
  simp only[okTs,bAt] at h;exact⟨xYn h.1,xYm h.2⟩
end
end Go.Proofs.Tryz
namespace Go.Proofs.Tryz
open Go Go.Iv
set_option maxRecDepth 4000
variable (gl:Nat->Option IV)
theorem zKc {ca rule:Nat}{r:Rw}(h:rowS ca rule=some r):r.asks=2↔rule=14\/rule=15:=by
 rcases xX4 h with⟨rfl,rfl⟩|⟨rfl,rfl⟩|⟨rfl,rfl⟩|⟨rfl,rfl⟩|⟨rfl,rfl⟩|⟨rfl,rfl⟩|⟨rfl,rfl⟩|⟨rfl,rfl⟩|⟨rfl,rfl⟩|⟨rfl,rfl⟩|⟨rfl,rfl⟩|⟨rfl,rfl⟩|⟨rfl,rfl⟩|⟨rfl,rfl⟩|⟨rfl,rfl⟩|⟨rfl,rfl⟩|⟨rfl,rfl⟩|⟨rfl,rfl⟩<;>simp
def yXa (q:List Sq×Nat)(D A bf:Bool)(r:Rw):List Sq×Nat :=
 if decide (q.2=192) || (r.left&&!D) || (r.right&&!A) then ([],192) else if q.2≠0 then ([],q.2) else if decide (r.asks=2)&&bf then ([],193) else (q.1,0)
theorem vQr {ca rule:Nat}{s:Sq}{m:Fm}{u:Tm}{n:ByteArray}{r:Rw}(A:yXl ca s=true)(D:rowS ca rule=some r) :
  yZt ca s rule m u n=yXa (yZl ca rule r m u n) (hasF s.l m) (hasF s.r m) (yKj s n) r:=by
 unfold yZt yXa;rw[A,D];rfl
set_option maxHeartbeats 4000000 in
theorem xXf (G:Gl gl)(ca:Nat)(t:Tr)(x:IV)(hx:IsTr t x)(hn:NA t)(hu:yWw t=true)(st:ISt) :
  ICall prog gl 108 [.raw (.int .u8 ca),x] st (AdR st (match t with|.mk rule s m u n _=>yZt ca s rule m u n)):=by
 obtain⟨rule,s,m,u,n,sub⟩:=t;obtain⟨tl,xl,tr,xr,op,fn,ta,xa,tb,xb,v,un,tu,xu,ts,xs,rfl,aN,e1,i1,e2,i2,hy,hz,e3,i3⟩:=hx.mk;simp only[NA] at hn;simp only[yWw,bAt,dTe] at hu;have hV:=λst=>xY1 gl ca s _ ⟨tl,xl,tr,xr,rfl,e1,i1,e2,i2⟩ hn.1 st;have hW:=λst=>wZ9 gl ca rule st;have hA:=λst=>zUv gl ca rule m _ hy hn.2.1 u _ hz hu.1 n st;refine iI func108 ?_;simp only[go_sem,zE,zA,zL,reduceCtorEq];refine (hV _).mono ?_;rintro _ st ⟨rfl,rfl⟩;cases hv:yXl ca s
 ·rw[show yZt ca s rule m u n=([],190) from by unfold yZt;rw[hv];rfl];simp only[go_sem,zE];exact yQ0 ⟨_,_,rfl,.inl rfl,rfl,rfl⟩
 obtain⟨hk,aI,aH,_⟩:=yUb.1 hv;have aw:=λst=>xXc gl G s.l tl xl e1 i1 m _ hy hn.1.1 hn.2.1 (by omega) st;have aq:=λst=>xXc gl G s.r tr xr e2 i2 m _ hy hn.1.2 hn.2.1 (by omega) st;have am:=λst=>wXe gl s.l tl xl e1 i1 n hn.1.1 (by omega) st;have al:=λst=>wXe gl s.r tr xr e2 i2 n hn.1.2 (by omega) st;simp only[go_sem,zE,zA,reduceCtorEq];refine (hW _).mono ?_;rintro w st ⟨hw,rfl⟩;unfold yV9 at hw;cases af:rowS ca rule with
 | none =>
  rw[af] at hw;obtain⟨o9,a9,b9,rfl⟩:=hw;rw[show yZt ca s rule m u n=([],191) from by unfold yZt;rw[hv,af];rfl];simp only[go_sem,zE];exact yQ0 ⟨_,_,rfl,.inl rfl,rfl,rfl⟩
 | some r =>
  rw[af] at hw;simp only at hw;subst hw;rw[vQr hv af];have aC:yVr ca rule m u n=yZl ca rule r m u n:=by unfold yVr;rw[hk,af];rfl
  rw[aC] at hA;have av:=wV4 ca rule r m u n;generalize yZl ca rule r m u n=q at hA av ⊢;have A:((s.l.any λf=>memB (frF f) n) || (s.r.any λf=>memB (frF f) n))=yKj s n:=rfl;generalize yKj s n=bf at A ⊢;generalize hasF s.l m=bl at aw ⊢;generalize hasF s.r m=br at aq ⊢;generalize O:yXa q bl br bf r=S;simp only[go_sem,zE,zA,zL,reduceCtorEq];refine (hA _).mono ?_;rintro _ st ⟨aK,za,rfl,ah,ag,rfl⟩;by_cases ax:q.2=192
  ·have an:decide (((q.2:Nat):Int)=192)=true:=dEt (by omega);obtain rfl:S=([],192):=by rw[<- O];unfold yXa;simp[ax]
   simp only[go_sem,zE,an];intros;exact yQ0 ⟨_,_,rfl,.inl rfl,rfl,rfl⟩
  have an:decide (((q.2:Nat):Int)=192)=false:=dEf (by omega);cases hl:r.left
  ·simp only[go_sem,zE,an];intros;cases U:r.right
   ·simp only[go_sem,zE];intros;by_cases h0:q.2=0
    case neg =>
     have k0:decide (((q.2:Nat):Int)=0)=false:=dEf (by omega);have ai:q.2=193:=by omega
     obtain rfl:S=([],193):=by rw[<- O];unfold yXa;simp[ai,U,hl]
     simp only[go_sem,zE,k0];intros;exact yQ0 ⟨_,_,rfl,.inl rfl,rfl,rfl⟩
    have k0:decide (((q.2:Nat):Int)=0)=true:=dEt (by omega);have ac:=zKc af;by_cases ak:rule=14
    ·have D:decide (((rule:Nat):Int)=14)=true:=dEt (by omega);have has:r.asks=2:=ac.2 (.inl ak);simp only[go_sem,zE,zA,k0,D];intros;refine (am _).mono ?_;rintro _ st ⟨rfl,rfl⟩;cases F:(s.l.any λf=>memB (frF f) n)
     ·rw[F,Bool.false_or] at A;simp only[go_sem,zE,zA];intros;refine (al _).mono ?_;rintro _ st ⟨rfl,rfl⟩;cases E:(s.r.any λf=>memB (frF f) n)
      ·rw[E] at A;obtain rfl:S=(q.1,0):=by rw[<- O];unfold yXa;simp[h0,<- A,U,hl]
       simp only[go_sem,zE];intros;exact yQ0 ⟨_,_,rfl,ah,ag,rfl⟩
      ·rw[E] at A;obtain rfl:S=([],193):=by rw[<- O];unfold yXa;simp[has,h0,<- A,U,hl]
       simp only[go_sem,zE];intros;exact yQ0 ⟨_,_,rfl,.inl rfl,rfl,rfl⟩
     ·rw[F,Bool.true_or] at A;obtain rfl:S=([],193):=by rw[<- O];unfold yXa;simp[has,h0,<- A,U,hl]
      simp only[go_sem,zE];intros;exact yQ0 ⟨_,_,rfl,.inl rfl,rfl,rfl⟩
    by_cases aj:rule=15
    ·have D:decide (((rule:Nat):Int)=14)=false:=dEf (by omega);have ab:decide (((rule:Nat):Int)=15)=true:=dEt (by omega);have has:r.asks=2:=ac.2 (.inr aj);simp only[go_sem,zE,zA,k0,D,ab];intros;refine (am _).mono ?_;rintro _ st ⟨rfl,rfl⟩;cases F:(s.l.any λf=>memB (frF f) n)
     ·rw[F,Bool.false_or] at A;simp only[go_sem,zE,zA];intros;refine (al _).mono ?_;rintro _ st ⟨rfl,rfl⟩;cases E:(s.r.any λf=>memB (frF f) n)
      ·rw[E] at A;obtain rfl:S=(q.1,0):=by rw[<- O];unfold yXa;simp[h0,<- A,U,hl]
       simp only[go_sem,zE];intros;exact yQ0 ⟨_,_,rfl,ah,ag,rfl⟩
      ·rw[E] at A;obtain rfl:S=([],193):=by rw[<- O];unfold yXa;simp[has,h0,<- A,U,hl]
       simp only[go_sem,zE];intros;exact yQ0 ⟨_,_,rfl,.inl rfl,rfl,rfl⟩
     ·rw[F,Bool.true_or] at A;obtain rfl:S=([],193):=by rw[<- O];unfold yXa;simp[has,h0,<- A,U,hl]
      simp only[go_sem,zE];intros;exact yQ0 ⟨_,_,rfl,.inl rfl,rfl,rfl⟩
    ·have D:decide (((rule:Nat):Int)=14)=false:=dEf (by omega);have ab:decide (((rule:Nat):Int)=15)=false:=dEf (by omega);have has:¬ r.asks=2:=λh=>(ac.1 h).elim ak aj;obtain rfl:S=(q.1,0):=by rw[<- O];unfold yXa;simp[has,h0,U,hl]
     simp only[go_sem,zE,zA,k0,D,ab];intros;exact yQ0 ⟨_,_,rfl,ah,ag,rfl⟩
   ·simp only[go_sem,zE,zA,zL];intros;refine (aq _).mono ?_;rintro _ st ⟨rfl,rfl⟩;cases J:br
    ·obtain rfl:S=([],192):=by rw[<- O];unfold yXa;simp[U,J]
     simp only[go_sem,zE];intros;exact yQ0 ⟨_,_,rfl,.inl rfl,rfl,rfl⟩
    ·simp only[go_sem,zE];intros;by_cases h0:q.2=0
     case neg =>
      have k0:decide (((q.2:Nat):Int)=0)=false:=dEf (by omega);have ai:q.2=193:=by omega
      obtain rfl:S=([],193):=by rw[<- O];unfold yXa;simp[ai,U,J,hl]
      simp only[go_sem,zE,k0];intros;exact yQ0 ⟨_,_,rfl,.inl rfl,rfl,rfl⟩
     have k0:decide (((q.2:Nat):Int)=0)=true:=dEt (by omega);have ac:=zKc af;by_cases ak:rule=14
     ·have D:decide (((rule:Nat):Int)=14)=true:=dEt (by omega);have has:r.asks=2:=ac.2 (.inl ak);simp only[go_sem,zE,zA,k0,D];intros;refine (am _).mono ?_;rintro _ st ⟨rfl,rfl⟩;cases F:(s.l.any λf=>memB (frF f) n)
      ·rw[F,Bool.false_or] at A;simp only[go_sem,zE,zA];intros;refine (al _).mono ?_;rintro _ st ⟨rfl,rfl⟩;cases E:(s.r.any λf=>memB (frF f) n)
       ·rw[E] at A;obtain rfl:S=(q.1,0):=by rw[<- O];unfold yXa;simp[h0,<- A,U,J,hl]
        simp only[go_sem,zE];intros;exact yQ0 ⟨_,_,rfl,ah,ag,rfl⟩
       ·rw[E] at A;obtain rfl:S=([],193):=by rw[<- O];unfold yXa;simp[has,h0,<- A,U,J,hl]
        simp only[go_sem,zE];intros;exact yQ0 ⟨_,_,rfl,.inl rfl,rfl,rfl⟩
      ·rw[F,Bool.true_or] at A;obtain rfl:S=([],193):=by rw[<- O];unfold yXa;simp[has,h0,<- A,U,J,hl]
       simp only[go_sem,zE];intros;exact yQ0 ⟨_,_,rfl,.inl rfl,rfl,rfl⟩
     by_cases aj:rule=15
     ·have D:decide (((rule:Nat):Int)=14)=false:=dEf (by omega);have ab:decide (((rule:Nat):Int)=15)=true:=dEt (by omega);have has:r.asks=2:=ac.2 (.inr aj);simp only[go_sem,zE,zA,k0,D,ab];intros;refine (am _).mono ?_;rintro _ st ⟨rfl,rfl⟩;cases F:(s.l.any λf=>memB (frF f) n)
      ·rw[F,Bool.false_or] at A;simp only[go_sem,zE,zA];intros;refine (al _).mono ?_;rintro _ st ⟨rfl,rfl⟩;cases E:(s.r.any λf=>memB (frF f) n)
       ·rw[E] at A;obtain rfl:S=(q.1,0):=by rw[<- O];unfold yXa;simp[h0,<- A,U,J,hl]
        simp only[go_sem,zE];intros;exact yQ0 ⟨_,_,rfl,ah,ag,rfl⟩
       ·rw[E] at A;obtain rfl:S=([],193):=by rw[<- O];unfold yXa;simp[has,h0,<- A,U,J,hl]
        simp only[go_sem,zE];intros;exact yQ0 ⟨_,_,rfl,.inl rfl,rfl,rfl⟩
      ·rw[F,Bool.true_or] at A;obtain rfl:S=([],193):=by rw[<- O];unfold yXa;simp[has,h0,<- A,U,J,hl]
       simp only[go_sem,zE];intros;exact yQ0 ⟨_,_,rfl,.inl rfl,rfl,rfl⟩
     ·have D:decide (((rule:Nat):Int)=14)=false:=dEf (by omega);have ab:decide (((rule:Nat):Int)=15)=false:=dEf (by omega);have has:¬ r.asks=2:=λh=>(ac.1 h).elim ak aj;obtain rfl:S=(q.1,0):=by rw[<- O];unfold yXa;simp[has,h0,U,J,hl]
      simp only[go_sem,zE,zA,k0,D,ab];intros;exact yQ0 ⟨_,_,rfl,ah,ag,rfl⟩
  ·simp only[go_sem,zE,zA,zL,an];intros;refine (aw _).mono ?_;rintro _ st ⟨rfl,rfl⟩;cases W:bl
   ·obtain rfl:S=([],192):=by rw[<- O];unfold yXa;simp[hl,W]
    simp only[go_sem,zE];intros;exact yQ0 ⟨_,_,rfl,.inl rfl,rfl,rfl⟩
   ·simp only[go_sem,zE];intros;cases U:r.right
    ·simp only[go_sem,zE];intros;by_cases h0:q.2=0
     case neg =>
      have k0:decide (((q.2:Nat):Int)=0)=false:=dEf (by omega);have ai:q.2=193:=by omega
      obtain rfl:S=([],193):=by rw[<- O];unfold yXa;simp[ai,U,hl,W]
      simp only[go_sem,zE,k0];intros;exact yQ0 ⟨_,_,rfl,.inl rfl,rfl,rfl⟩
     have k0:decide (((q.2:Nat):Int)=0)=true:=dEt (by omega);have ac:=zKc af;by_cases ak:rule=14
     ·have D:decide (((rule:Nat):Int)=14)=true:=dEt (by omega);have has:r.asks=2:=ac.2 (.inl ak);simp only[go_sem,zE,zA,k0,D];intros;refine (am _).mono ?_;rintro _ st ⟨rfl,rfl⟩;cases F:(s.l.any λf=>memB (frF f) n)
      ·rw[F,Bool.false_or] at A;simp only[go_sem,zE,zA];intros;refine (al _).mono ?_;rintro _ st ⟨rfl,rfl⟩;cases E:(s.r.any λf=>memB (frF f) n)
       ·rw[E] at A;obtain rfl:S=(q.1,0):=by rw[<- O];unfold yXa;simp[h0,<- A,U,hl,W]
        simp only[go_sem,zE];intros;exact yQ0 ⟨_,_,rfl,ah,ag,rfl⟩
       ·rw[E] at A;obtain rfl:S=([],193):=by rw[<- O];unfold yXa;simp[has,h0,<- A,U,hl,W]
        simp only[go_sem,zE];intros;exact yQ0 ⟨_,_,rfl,.inl rfl,rfl,rfl⟩
      ·rw[F,Bool.true_or] at A;obtain rfl:S=([],193):=by rw[<- O];unfold yXa;simp[has,h0,<- A,U,hl,W]
       simp only[go_sem,zE];intros;exact yQ0 ⟨_,_,rfl,.inl rfl,rfl,rfl⟩
     by_cases aj:rule=15
     ·have D:decide (((rule:Nat):Int)=14)=false:=dEf (by omega);have ab:decide (((rule:Nat):Int)=15)=true:=dEt (by omega);have has:r.asks=2:=ac.2 (.inr aj);simp only[go_sem,zE,zA,k0,D,ab];intros;refine (am _).mono ?_;rintro _ st ⟨rfl,rfl⟩;cases F:(s.l.any λf=>memB (frF f) n)
      ·rw[F,Bool.false_or] at A;simp only[go_sem,zE,zA];intros;refine (al _).mono ?_;rintro _ st ⟨rfl,rfl⟩;cases E:(s.r.any λf=>memB (frF f) n)
       ·rw[E] at A;obtain rfl:S=(q.1,0):=by rw[<- O];unfold yXa;simp[h0,<- A,U,hl,W]
        simp only[go_sem,zE];intros;exact yQ0 ⟨_,_,rfl,ah,ag,rfl⟩
       ·rw[E] at A;obtain rfl:S=([],193):=by rw[<- O];unfold yXa;simp[has,h0,<- A,U,hl,W]
        simp only[go_sem,zE];intros;exact yQ0 ⟨_,_,rfl,.inl rfl,rfl,rfl⟩
      ·rw[F,Bool.true_or] at A;obtain rfl:S=([],193):=by rw[<- O];unfold yXa;simp[has,h0,<- A,U,hl,W]
       simp only[go_sem,zE];intros;exact yQ0 ⟨_,_,rfl,.inl rfl,rfl,rfl⟩
     ·have D:decide (((rule:Nat):Int)=14)=false:=dEf (by omega);have ab:decide (((rule:Nat):Int)=15)=false:=dEf (by omega);have has:¬ r.asks=2:=λh=>(ac.1 h).elim ak aj;obtain rfl:S=(q.1,0):=by rw[<- O];unfold yXa;simp[has,h0,U,hl,W]
      simp only[go_sem,zE,zA,k0,D,ab];intros;exact yQ0 ⟨_,_,rfl,ah,ag,rfl⟩
    ·simp only[go_sem,zE,zA,zL];intros;refine (aq _).mono ?_;rintro _ st ⟨rfl,rfl⟩;cases J:br
     ·obtain rfl:S=([],192):=by rw[<- O];unfold yXa;simp[U,J]
      simp only[go_sem,zE];intros;exact yQ0 ⟨_,_,rfl,.inl rfl,rfl,rfl⟩
     ·simp only[go_sem,zE];intros;by_cases h0:q.2=0
      case neg =>
       have k0:decide (((q.2:Nat):Int)=0)=false:=dEf (by omega);have ai:q.2=193:=by omega
       obtain rfl:S=([],193):=by rw[<- O];unfold yXa;simp[ai,U,J,hl,W]
       simp only[go_sem,zE,k0];intros;exact yQ0 ⟨_,_,rfl,.inl rfl,rfl,rfl⟩
      have k0:decide (((q.2:Nat):Int)=0)=true:=dEt (by omega);have ac:=zKc af;by_cases ak:rule=14
      ·have D:decide (((rule:Nat):Int)=14)=true:=dEt (by omega);have has:r.asks=2:=ac.2 (.inl ak);simp only[go_sem,zE,zA,k0,D];intros;refine (am _).mono ?_;rintro _ st ⟨rfl,rfl⟩;cases F:(s.l.any λf=>memB (frF f) n)
       ·rw[F,Bool.false_or] at A;simp only[go_sem,zE,zA];intros;refine (al _).mono ?_;rintro _ st ⟨rfl,rfl⟩;cases E:(s.r.any λf=>memB (frF f) n)
        ·rw[E] at A;obtain rfl:S=(q.1,0):=by rw[<- O];unfold yXa;simp[h0,<- A,U,J,hl,W]
         simp only[go_sem,zE];intros;exact yQ0 ⟨_,_,rfl,ah,ag,rfl⟩
        ·rw[E] at A;obtain rfl:S=([],193):=by rw[<- O];unfold yXa;simp[has,h0,<- A,U,J,hl,W]
         simp only[go_sem,zE];intros;exact yQ0 ⟨_,_,rfl,.inl rfl,rfl,rfl⟩
       ·rw[F,Bool.true_or] at A;obtain rfl:S=([],193):=by rw[<- O];unfold yXa;simp[has,h0,<- A,U,J,hl,W]
        simp only[go_sem,zE];intros;exact yQ0 ⟨_,_,rfl,.inl rfl,rfl,rfl⟩
      by_cases aj:rule=15
      ·have D:decide (((rule:Nat):Int)=14)=false:=dEf (by omega);have ab:decide (((rule:Nat):Int)=15)=true:=dEt (by omega);have has:r.asks=2:=ac.2 (.inr aj);simp only[go_sem,zE,zA,k0,D,ab];intros;refine (am _).mono ?_;rintro _ st ⟨rfl,rfl⟩;cases F:(s.l.any λf=>memB (frF f) n)
       ·rw[F,Bool.false_or] at A;simp only[go_sem,zE,zA];intros;refine (al _).mono ?_;rintro _ st ⟨rfl,rfl⟩;cases E:(s.r.any λf=>memB (frF f) n)
        ·rw[E] at A;obtain rfl:S=(q.1,0):=by rw[<- O];unfold yXa;simp[h0,<- A,U,J,hl,W]
         simp only[go_sem,zE];intros;exact yQ0 ⟨_,_,rfl,ah,ag,rfl⟩
        ·rw[E] at A;obtain rfl:S=([],193):=by rw[<- O];unfold yXa;simp[has,h0,<- A,U,J,hl,W]
         simp only[go_sem,zE];intros;exact yQ0 ⟨_,_,rfl,.inl rfl,rfl,rfl⟩
       ·rw[F,Bool.true_or] at A;obtain rfl:S=([],193):=by rw[<- O];unfold yXa;simp[has,h0,<- A,U,J,hl,W]
        simp only[go_sem,zE];intros;exact yQ0 ⟨_,_,rfl,.inl rfl,rfl,rfl⟩
      ·have D:decide (((rule:Nat):Int)=14)=false:=dEf (by omega);have ab:decide (((rule:Nat):Int)=15)=false:=dEf (by omega);have has:¬ r.asks=2:=λh=>(ac.1 h).elim ak aj;obtain rfl:S=(q.1,0):=by rw[<- O];unfold yXa;simp[has,h0,U,J,hl,W]
       simp only[go_sem,zE,zA,k0,D,ab];intros;exact yQ0 ⟨_,_,rfl,ah,ag,rfl⟩
