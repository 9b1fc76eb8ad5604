/- Walks: slices.AppendSeq and Collect of s -/
import Derived.Test.YtclkffdkahljeaaGreatDoorQE
import Derived.Test.YtclkffdkahljeaaGreatDoorKE
import Derived.Deep.DeepHandedRow
set_option linter.all false
open Nat renaming reduceEqDiff → zE,reduceBEq → zB,reduceAdd → zA,reduceMul → zM,reduceSub → zS,reduceLeDiff → zL
namespace Go.Proofs.Tryz
open Go Go.Iv
set_option maxRecDepth 4000
variable (gl:Nat->Option IV)
theorem one_sl (a:Option Addr)(n c:Nat):IV.one (.raw (.slice a n c))=true:=rfl
end Go.Proofs.Tryz
namespace Go.Proofs
open Go.Shelf
namespace Tryz
open Go Go.Iv
end Tryz
end Go.Proofs
namespace Go.Proofs.Tryz
set_option maxRecDepth 4000
open Go Go.Iv Go.Sort Go.Shelf Go.RowKit
variable (gl:Nat->Option IV)
end Go.Proofs.Tryz
namespace Go.Proofs.Tryz
open Go Go.Iv Go.Sort Go.Shelf Go.RowKit
set_option maxRecDepth 4000
variable (gl:Nat->Option IV)
end Go.Proofs.Tryz
namespace Go.Proofs.Tryz
open Go Go.Iv Go.Sort Go.Shelf Go.RowKit
set_option maxRecDepth 4000
variable (gl:Nat->Option IV)
end Go.Proofs.Tryz
namespace Go.Proofs.Tryz
open Go Go.Iv
set_option maxRecDepth 4000
variable (gl:Nat->Option IV)
mutual
def wTm:Tm->Nat
 | .mk _ n us=>1+n.size / 20+wTms us
def wTms:List Tm->Nat
 | []=>0
 | a::l=>wTm a+wTms l
end
mutual
def wFm:Fm->Nat
 | .mk _ n us sub=>1+n.size / 20+wTms us+wFms sub
def wFms:List Fm->Nat
 | []=>0
 | a::l=>wFm a+wFms l
end
theorem yYe:∀l m:List Tm,wTms (l++m)=wTms l+wTms m
 | [],m=>by simp[wTms]
 | a::l,m=>by simp only[List.cons_append,wTms,yYe l m];omega
theorem xV0 {l:List Tm}{k:Nat}{a:Tm}(h:l[k]?=some a):wTms (l.take (k+1))=wTms (l.take k)+wTm a:=by
 rw[yQ7 h,yYe];simp[wTms]
theorem xV1 (l:List Tm)(k:Nat):wTms (l.take k)<=wTms l:=by
 conv=>rhs;rw[<- List.take_append_drop k l]
 rw[yYe];omega
theorem yYf:∀l m:List Fm,wFms (l++m)=wFms l+wFms m
 | [],m=>by simp[wFms]
 | a::l,m=>by simp only[List.cons_append,wFms,yYf l m];omega
theorem xV2 {l:List Fm}{k:Nat}{a:Fm}(h:l[k]?=some a):wFms (l.take (k+1))=wFms (l.take k)+wFm a:=by
 rw[yQ7 h,yYf];simp[wFms]
theorem xV3 (l:List Fm)(k:Nat):wFms (l.take k)<=wFms l:=by
 conv=>rhs;rw[<- List.take_append_drop k l]
 rw[yYf];omega
def Sum (w:Nat)(lim:Int)(r:IV):Prop:=∃n:Nat,r=.raw (.int .i64 n)/\n<=w/\((n:Int)<=lim->n=w)
def tC (us:List Tm):Prop:=∀(t:Tag) (xs:List IV) (_:okEs t 3) (_:IsTms us xs) (lim:Int) (_:-1<=lim/\lim<=1000) (_:wTms us<=1099511627776) (st:ISt),
 ICall prog gl 66 [.sl t xs,.raw (.int .i64 lim)] st (λr st'=>Sum (wTms us) lim r/\st'=st)
theorem zUc (us:List Tm)(IH:∀v n l,Tm.mk v n l∈us->tC gl l):tC gl us:=by
 intro t xs ht hx lim hlim hw st;refine iI func66 ?_;simp only[go_sem];refine LoopC.ctr us.length (λk fr st' ds=>(∃n:Nat,fr 5=.iv (.raw (.int .i64 n))/\n<=wTms (us.take k)/\((n:Int)<=lim->n=wTms (us.take k)))/\fr 0=.iv (.sl t xs)/\fr 1=.iv (.raw (.int .i64 lim))/\fr 6=.iv (.raw (.int .i64 k))/\st'=st/\ds=[]) ?_ ?_ ?_
 ·simp only[go_sem,zE,reduceCtorEq];exact⟨⟨0,rfl,Nat.le_refl _,λ_=>rfl⟩,rfl⟩
 ·rintro k fr st1 _ hlt ⟨⟨n,f5,hn1,hn2⟩,f0,f1,f6,rfl,rfl⟩;obtain⟨a,ha⟩:=yQ3 hlt;obtain⟨x,hkx,hxa⟩:=hx.get ha;obtain⟨v2,n2,l2⟩:=a;obtain⟨tx,cx,rfl,htx,hcx⟩:=hxa.mk;have hwt:=xV0 ha;have hwl:=xV1 us (k+1);have hwk:=xV1 us k;simp only[wTm] at hwt;by_cases hle:(n:Int)<=lim
  ·have hnk:=hn2 hle;have hcall:=λst=>IH _ _ _ (lMg ha) tx cx htx hcx (lim-n-1) ⟨by omega,by omega⟩ (by omega) st;have hq:IntKind.i64.wrap (((n2.size:Nat):Int).tdiv 20)=((n2.size / 20:Nat):Int):=by
    have:((n2.size:Nat):Int).tdiv 20=((n2.size / 20:Nat):Int):=rfl;rw[this,w64 (by omega) (by omega)]
   have hz:¬ ((20:Int)=0):=by decide
   generalize n2.size / 20=q at hq hwt;have w1:IntKind.i64.wrap (1+((q:Nat):Int))=((1+q:Nat):Int):=by rw[w64]<;>omega
   have w2:IntKind.i64.wrap (IntKind.i64.wrap (lim-(n:Int))-1)=lim-n-1:=by rw[w64 (n:=lim-n) (by omega) (by omega),w64 (by omega) (by omega)]
   simp only[go_sem,zE,zA,reduceCtorEq,f0,f1,f5,f6,hx.len,lt_i hlt,dEt hle,yQ5 ht,iNn,hkx,fits,hq,hz,w1,w2];intro _;refine (hcall _).mono ?_;rintro _ st2 ⟨⟨m,rfl,hm1,hm2⟩,rfl⟩;have w3:IntKind.i64.wrap (((1+q:Nat):Int)+(m:Int))=((1+q+m:Nat):Int):=by rw[w64]<;>omega
   have w4:IntKind.i64.wrap ((n:Int)+((1+q+m:Nat):Int))=((n+(1+q+m):Nat):Int):=by rw[w64]<;>omega
   simp only[go_sem,zE,reduceCtorEq,f0,f1,f6,w3,w4,yQh hlt (show us.length<=281474976710656 by omega)];exact⟨n+(1+q+m),rfl,by omega,λh=>by have:=hm2 (by omega);omega⟩
  ·simp only[go_sem,zE,reduceCtorEq,f0,f1,f5,f6,hx.len,lt_i hlt,dEf hle];intro _;exact yQ0 ⟨⟨n,rfl,by omega,λh=>absurd h hle⟩,rfl⟩
 ·rintro fr st1 _ ⟨⟨n,f5,hn1,hn2⟩,f0,f1,f6,rfl,rfl⟩;rw[lTl] at hn1 hn2;simp only[go_sem,zE,reduceCtorEq,f0,f5,f6,hx.len,yQo (nLi _)];intro _;exact yQ0 ⟨⟨n,rfl,hn1,hn2⟩,rfl⟩
theorem zJk:∀(k:Nat)(us:List Tm),SizeOf.sizeOf us<k->tC gl us
 | 0,f,h=>by omega
 | k+1,us,h=>zUc gl us (λv n l ha=>zJk k l (by
   have:=lSm ha;simp at this;omega))
theorem xUi (us:List Tm):tC gl us:=zJk gl _ us (Nat.lt_succ_self _)
def zC (us:List Fm):Prop:=∀(t:Tag) (xs:List IV) (_:okEs t 4) (_:IsFms us xs) (lim:Int) (_:-1<=lim/\lim<=1000) (_:wFms us<=1099511627776) (st:ISt),
 ICall prog gl 35 [.sl t xs,.raw (.int .i64 lim)] st (λr st'=>Sum (wFms us) lim r/\st'=st)
theorem xJo (us:List Fm)(IH:∀o n l m,Fm.mk o n l m∈us->zC gl m):zC gl us:=by
 intro t xs ht hx lim hlim hw st;refine ICall.intro (c:=cf prog gl [] [(5,[0,1,2,3,4,5,6,7,8,9,10,11,12,13,14,15,16,19,20,21,22,23,24,25,26,27,17,18,28,29,30,31])]) func35 rfl (by show _<=50;simp) (by kernel_rfl) ?_;simp only[go_sem];refine LoopC.ctr us.length (λk fr st' ds=>(∃n:Nat,fr 5=.iv (.raw (.int .i64 n))/\n<=wFms (us.take k)/\((n:Int)<=lim->n=wFms (us.take k)))/\fr 0=.iv (.sl t xs)/\fr 1=.iv (.raw (.int .i64 lim))/\fr 6=.iv (.raw (.int .i64 k))/\st'=st/\ds=[]) ?_ ?_ ?_
 ·simp only[go_sem,zE,reduceCtorEq];exact⟨⟨0,rfl,Nat.le_refl _,λ_=>rfl⟩,rfl⟩
 ·rintro k fr st1 _ hlt ⟨⟨n,f5,hn1,hn2⟩,f0,f1,f6,rfl,rfl⟩;obtain⟨a,ha⟩:=yQ3 hlt;obtain⟨x,hkx,hxa⟩:=hx.get ha;obtain⟨o2,n2,l2,m2⟩:=a;obtain⟨tx,cx,ty,cy,rfl,_,htx,hcx,hty,hcy⟩:=hxa.mk;have hwt:=xV2 ha;have hwl:=xV3 us (k+1);have hwk:=xV3 us k;simp only[wFm] at hwt;by_cases hle:(n:Int)<=lim
  ·have hnk:=hn2 hle;have hcall:=λst=>IH _ _ _ _ (lMg ha) ty cy hty hcy (lim-n-1) ⟨by omega,by omega⟩ (by omega) st;have hterm:=λst=>xUi gl l2 tx cx htx hcx (lim-n) ⟨by omega,by omega⟩ (by omega) st;have hq:IntKind.i64.wrap (((n2.size:Nat):Int).tdiv 20)=((n2.size / 20:Nat):Int):=by
    have:((n2.size:Nat):Int).tdiv 20=((n2.size / 20:Nat):Int):=rfl;rw[this,w64 (by omega) (by omega)]
   have hz:¬ ((20:Int)=0):=by decide
   generalize n2.size / 20=q at hq hwt;have w1:IntKind.i64.wrap (1+((q:Nat):Int))=((1+q:Nat):Int):=by rw[w64]<;>omega
   have w0:IntKind.i64.wrap (lim-(n:Int))=lim-n:=w64 (by omega) (by omega);have w2:IntKind.i64.wrap (lim-(n:Int)-1)=lim-n-1:=w64 (by omega) (by omega);simp only[go_sem,zE,zA,reduceCtorEq,f0,f1,f5,f6,hx.len,lt_i hlt,dEt hle,yQ5 ht,iNn,hkx,fits,hq,hz,w1,w0,w2];intro _;refine (hterm _).mono ?_;rintro _ st2 ⟨⟨m1,rfl,hm1,hm1'⟩,rfl⟩;have w3:IntKind.i64.wrap (((1+q:Nat):Int)+(m1:Int))=((1+q+m1:Nat):Int):=by rw[w64]<;>omega
   simp only[go_sem,zE,zA,w3];refine (hcall _).mono ?_;rintro _ st2 ⟨⟨m,rfl,hm,hm'⟩,rfl⟩;have w4:IntKind.i64.wrap (((1+q+m1:Nat):Int)+(m:Int))=((1+q+m1+m:Nat):Int):=by rw[w64]<;>omega
   have w5:IntKind.i64.wrap ((n:Int)+((1+q+m1+m:Nat):Int))=((n+(1+q+m1+m):Nat):Int):=by rw[w64]<;>omega
   simp only[go_sem,zE,reduceCtorEq,f0,f1,f6,w4,w5,yQh hlt (show us.length<=281474976710656 by omega)];exact⟨n+(1+q+m1+m),rfl,by omega,λh=>by have:=hm1' (by omega);have:=hm' (by omega);omega⟩
  ·simp only[go_sem,zE,reduceCtorEq,f0,f1,f5,f6,hx.len,lt_i hlt,dEf hle];intro _;exact yQ0 ⟨⟨n,rfl,by omega,λh=>absurd h hle⟩,rfl⟩
 ·rintro fr st1 _ ⟨⟨n,f5,hn1,hn2⟩,f0,f1,f6,rfl,rfl⟩;rw[lTl] at hn1 hn2;simp only[go_sem,zE,reduceCtorEq,f0,f5,f6,hx.len,yQo (nLi _)];intro _;exact yQ0 ⟨⟨n,rfl,hn1,hn2⟩,rfl⟩
theorem zWz:∀(k:Nat)(us:List Fm),SizeOf.sizeOf us<k->zC gl us
 | 0,f,h=>by omega
 | k+1,us,h=>xJo gl us (λo n l m ha=>zWz k m (by
   have:=lSm ha;simp at this;omega))
theorem xW2 (us:List Fm):zC gl us:=zWz gl _ us (Nat.lt_succ_self _)
theorem uZ4 (s:Sq)(x:IV)(hx:IsSq s x)(hw:wFms s.l<=1099511627776/\wFms s.r<=1099511627776)(st:ISt):ICall prog gl 11 [x] st (λr st'=>(r=.raw (.bool (decide (wFms s.l+wFms s.r<=300))))/\st'=st):=by
 obtain⟨t1,x1,t2,x2,rfl,e1,i1,e2,i2⟩:=hx;have h1:=λst=>xW2 gl s.l t1 x1 e1 i1 300 ⟨by omega,by omega⟩ hw.1 st;have h2:=λst=>xW2 gl s.r t2 x2 e2 i2 300 ⟨by omega,by omega⟩ hw.2 st;refine ICall.intro (c:=cf prog gl [] [(1,[0,1,3,4,2,5,6,7,8])]) func11 rfl (by show _<=11;simp) (by kernel_rfl) ?_;simp only[go_sem,zE,zA];refine (h1 _).mono ?_;rintro _ st2 ⟨⟨n,rfl,hn1,hn2⟩,rfl⟩;simp only[go_sem,zE,zA];refine (h2 _).mono ?_;rintro _ st2 ⟨⟨m,rfl,hm1,hm2⟩,rfl⟩;have w:IntKind.i64.wrap ((n:Int)+(m:Int))=((n+m:Nat):Int):=by rw[w64]<;>omega
 have hd:decide (((n+m:Nat):Int)<=300)=decide (wFms s.l+wFms s.r<=300):=by
  rw[decide_eq_decide];constructor
  ·intro h;have:=hn2 (by omega);have:=hm2 (by omega);omega
  ·intro h;omega
 simp only[go_sem,zE,w,hd];exact yQ0 ⟨rfl,rfl⟩
mutual
theorem wWp:∀t:Tm,t.size<=wTm t
 | .mk _ n us=>by have:=zGs us;simp only[wTm,Tm.size];omega
theorem zGs:∀l:List Tm,yQf l<=wTms l
 | []=>Nat.le_refl _
 | a::l=>by have:=wWp a;have:=zGs l;simp only[wTms,yQf];omega
end
mutual
theorem wWq:∀f:Fm,f.size<=wFm f
 | .mk _ n us sub=>by have:=zGs us;have:=yGw sub;simp only[wFm,Fm.size];omega
theorem yGw:∀l:List Fm,yQa l<=wFms l
 | []=>Nat.le_refl _
 | a::l=>by have:=wWq a;have:=yGw l;simp only[wFms,yQa];omega
end
theorem wK4 {s:Sq}(h:wFms s.l+wFms s.r<=300):yVm s:=by
 have:=yGw s.l;have:=yGw s.r;exact⟨λf hf=>by have:=yU0 hf;omega,λf hf=>by have:=yU0 hf;omega⟩
theorem zQ2 (us:List Fm)(tg:Tag)(xs:List IV)(htg:okEs tg 4)(hxs:IsFms us xs)(hsz:yQa us<=1099511627776)(st:ISt) :
  ICall prog gl 36 [.sl tg xs] st (λr st'=>∃tg' ys,r=.sl tg' ys/\own st' tg' us.length 4 st/\IsFmsD us ys/\subSt st st'):=by
 have hlsz:=yX8 us;refine iI func36 ?_;simp only[go_sem,zE,zB,zA,zM,zS,zL,reduceCtorEq];refine LoopC.ctr us.length (λk fr st' ds=>(∃tg' ys,fr 3=.iv (.sl tg' ys)/\IsFmsD (us.take k) ys/\appT k tg'/\own st' tg' k 4 st/\subSt st st')/\fr 0=.iv (.sl tg xs)/\fr 4=.iv (.raw (.int .i64 k))/\ds=[]) ?_ ?_ ?_
 ·simp only[go_sem,zE,zB,zA,zM,zS,zL,reduceCtorEq];exact⟨⟨_,_,rfl,IsFmsD.nil,.inl rfl,own.nil _ _ _ _ _,subSt.refl _⟩,rfl⟩
 ·rintro k fr st1 _ hlt ⟨⟨tg',ys,f3,hys,hap,hown,hsub⟩,f0,f4,rfl⟩;obtain⟨a,ha⟩:=yQ3 hlt;obtain⟨x,hkx,hx⟩:=hxs.get ha;obtain⟨h1,h2⟩:=yQx ha;have hlen2:ys.length=k:=by rw[hys.len,List.length_take];omega
  have hcall:=zUy gl a x hx (by omega) st1;obtain⟨o5,n5,t5,x5,t6,x6,rfl⟩:=hx.agg;simp only[go_sem,zE,zB,zA,zM,zS,zL,reduceCtorEq,f0,f3,f4,hxs.len,lt_i hlt,yQ5 htg,iNn,hkx,fits];intro _;refine hcall.mono ?_;rintro r _ ⟨hr,rfl⟩;have hn:IsFmsD (us.take (k+1)) (ys++[r]):=by
   rw[yQ7 ha];exact hys.append (IsFmsD.one hr)
  obtain⟨o7,n7,t7,x7,t8,x8,rfl⟩:=IsFmD.aggs hr;simp only[go_sem,zE,zB,zA,zM,zS,zL,reduceCtorEq,f0,f3,f4,fits,yQ1];refine yXq hown hlen2 hsub rfl (by simp[fits,IV.one]) (by simp only;omega) (by omega) λtg2 st4 hown2 hsub4 _ hap2=>?_;simp only[go_sem,zE,zB,zA,zM,zS,zL,reduceCtorEq,f0,f3,f4,fits,yQh hlt (show us.length<=281474976710656 by omega)];exact⟨tg2,_,rfl,hn,hap2,hown2,hsub4⟩
 ·rintro fr st1 _ ⟨⟨tg',ys,f3,hys,hap,hown,hsub⟩,f0,f4,rfl⟩;rw[lTl] at hys;simp only[go_sem,zE,zB,zA,zM,zS,zL,reduceCtorEq,f0,f3,f4,hxs.len,yQo (nLi _),fits];intro _;exact yQ0 ⟨tg',ys,rfl,hown,hys,hsub⟩
theorem wJa {st S0 S1:ISt}{tg:Tag}{n s:Nat}(h:own st tg n s S1)(hs:subSt S0 S1):own st tg n s S0:=by
 rcases h with h|h|⟨g,h1,h2,h3⟩
 ·exact .inl h
 ·exact .inr (.inl h)
 ·exact .inr (.inr ⟨g,h1,h2,yX9 hs h3⟩)
theorem xK3 (s:Sq)(x:IV)(hx:IsSq s x)(h1:yQa s.l<=1099511627776)(h2:yQa s.r<=1099511627776)(st:ISt):ICall prog gl 12 [x] st (λr st' =>
  ∃t1 x1 t2 x2,r=.agg [.sl t1 x1,.sl t2 x2]/\own st' t1 s.l.length 4 st/\IsFmsD s.l x1/\own st' t2 s.r.length 4 st/\IsFmsD s.r x2/\subSt st st'):=by
 obtain⟨t1,x1,t2,x2,rfl,e1,i1,e2,i2⟩:=hx;have hc1:=zQ2 gl s.l t1 x1 e1 i1 h1 st;have hc2:=λst=>zQ2 gl s.r t2 x2 e2 i2 h2 st;refine iI func12 ?_;simp only[go_sem,zE,zB,zA,zM,zS,zL,reduceCtorEq,fits];refine hc1.mono ?_;rintro _ st1 ⟨tg',ys,rfl,ho,hys,hs⟩;simp only[go_sem,zE,zB,zA,zM,zS,zL,reduceCtorEq,fits];refine (hc2 _).mono ?_;rintro _ st2 ⟨tg2,ys2,rfl,ho2,hys2,hs2⟩;simp only[go_sem,zE,zB,zA,zM,zS,zL,reduceCtorEq,fits];exact yQ0 ⟨_,_,_,_,rfl,ho.mono λg hg _=>hs2 g _ hg,hys,wJa ho2 hs,hys2,hs.trans hs2⟩
end Go.Proofs.Tryz
namespace Go.Proofs.Tryz
open Go Go.Iv
set_option maxRecDepth 8000
variable (gl:Nat->Option IV)
def yKe (ca:Nat):Nat:=if ca=1\/ca=2 then 190 else 2
theorem BadR.want {ca:Nat}{s:Sq}{e:Nat}(h:BadR ca s e)(hv:(ca=1\/ca=2)->yQz ca s=false):e=yKe ca:=by
 unfold yKe;rcases h with⟨h1,rfl⟩|⟨h1,_,rfl⟩|⟨h1,h2,_⟩
 ·rw[if_neg h1]
 ·rw[if_pos h1]
 ·rw[hv h1] at h2;cases h2
variable (G:Gl gl)(T:Gt gl)(ca:Nat)(s:Sq)(hv:(ca=1\/ca=2)->yQz ca s=false)(x:IV)(hx:IsSq s x)(hs:yVm s)
include G T hv hx hs
theorem zVl (st:ISt):ICall prog gl 18 [.raw (.int .u8 (ca:Int)),x] st (λr st'=>r=.tup [.raw (.int .i64 0),.raw (.int .i64 (yKe ca:Int))]/\st'=st) :=
 (xZy gl G T ca s x hx hs st).mono λr st' ⟨h1,h2⟩=>by
  rcases h2 with⟨e,hb,h3⟩|⟨hc,h,_⟩
  ·rw[hb.want hv] at h3;exact⟨h3,h1⟩
  ·rw[hv hc] at h;cases h
theorem zKy (st:ISt):ICall prog gl 17 [.raw (.int .u8 (ca:Int)),x] st (λr st'=>r=.tup [.raw (.int .i64 0),.raw (.int .i64 (yKe ca:Int))]/\st'=st) :=
 (xZb gl G T ca s x hx hs st).mono λr st' ⟨h1,h2⟩=>by
  rcases h2 with⟨e,hb,h3⟩|⟨hc,h,_⟩
  ·rw[hb.want hv] at h3;exact⟨h3,h1⟩
  ·rw[hv hc] at h;cases h
theorem zQt (st:ISt):ICall prog gl 15 [.raw (.int .u8 (ca:Int)),x] st (λr st'=>r=.tup [.raw (.bool false),.raw (.int .i64 (yKe ca:Int))]/\st'=st) :=
 (xXx gl G T ca s x hx hs st).mono λr st' ⟨h1,h2⟩=>by
  unfold yKe;rcases h2 with⟨h,h3⟩|⟨h,_,h3⟩|⟨hc,h,_⟩
  ·rw[if_neg h];exact⟨h3,h1⟩
  ·rw[if_pos h];exact⟨h3,h1⟩
  ·rw[hv hc] at h;cases h
theorem zVc (st:ISt):ICall prog gl 16 [.raw (.int .u8 (ca:Int)),x] st (λr st'=>r=.tup [.sl ⟨true,.nil,0⟩ [],.raw (.int .i64 (yKe ca:Int))]/\st'=st) :=
 (zY8 gl G T ca s x hx hs st).mono λr st' ⟨h1,h2⟩=>by
  unfold yKe;rcases h2 with⟨h,h3⟩|⟨h,_,h3⟩|⟨hc,h,_⟩
  ·rw[if_neg h];exact⟨h3,h1⟩
  ·rw[if_pos h];exact⟨h3,h1⟩
  ·rw[hv hc] at h;cases h
theorem zV4 (bound:Int)(st:ISt):ICall prog gl 19 [.raw (.int .u8 (ca:Int)),x,.raw (.int .i64 bound)] st (λr st'=>r=.tup [zT,.raw (.int .i64 (yKe ca:Int))]/\st'=st) :=
 (xZf gl G T ca s x hx hs bound (λhc h=>by rw[hv hc] at h;cases h) st).mono λr st' ⟨h1,h2⟩=>by
  rcases h2 with⟨e,hb,h3⟩|⟨hc,h,_⟩
  ·rw[hb.want hv] at h3;exact⟨h3,h1⟩
  ·rw[hv hc] at h;cases h
omit G T hv hx hs
def bd0:Fm:=.mk 11 noN [] [faP]
def bd1:Fm:=.mk 4 noN [] [faP]
def bd2:Fm:=.mk 1 ⟨#[80]⟩ [.mk false ⟨#[97]⟩ []] []
def bd3:Fm:=.mk 15 ⟨#[63,65]⟩ [] []
theorem zQu {ca:Nat}(hc:ca=1\/ca=2){b:Fm}(hb:b=bd0\/b=bd1\/b=bd2\/b=bd3)(s:Sq):yQz ca ⟨s.l++[b],s.r⟩=false:=by
 have h:fmB ca b=false:=by
  rcases hc with rfl|rfl<;>rcases hb with rfl|rfl|rfl|rfl<;>decide
 unfold yQz;rw[List.all_append];simp[h]
theorem xXz {b:Fm}(hb:b=bd0\/b=bd1\/b=bd2\/b=bd3){s:Sq}(h:yVm s):yVm ⟨s.l++[b],s.r⟩:=⟨λf hf=>by
 rcases List.mem_append.1 hf with hf|hf
 ·exact h.1 f hf
 ·rw[List.mem_singleton.1 hf];rcases hb with rfl|rfl|rfl|rfl<;>decide,h.2⟩
set_option maxHeartbeats 4000000 in
theorem zWd (G:Gl gl)(T:Gt gl)(ca:Nat)(hca:ca<256)(s:Sq)(x:IV)(hx:IsSq s x)(hw:wFms s.l<=1099511627776/\wFms s.r<=1099511627776)(w:Nat)(hw8:w<256)(bound:Int)(st:ISt) :
  ICall prog gl 3 [.raw (.int .u8 (ca:Int)),x,.raw (.int .u8 (w:Int)),.raw (.int .i64 bound)] st (λr st'=>r=.raw (.bool true)/\st'=st):=by
 have hA:=λst=>wQ7 gl G T st;have hF:=λst=>uZ4 gl s x hx hw st;have hx0:=hx;obtain⟨t1,x1,t2,x2,rfl,e1,i1,e2,i2⟩:=hx;refine iI func3 ?_;simp only[go_sem,zE,zB,zA,zM,zS,zL,reduceCtorEq,fits];refine (hA _).mono ?_;rintro _ st ⟨rfl,rfl⟩;simp only[go_sem,zE,zB,zA,zM,zS,zL,reduceCtorEq,fits];refine (hF _).mono ?_;rintro _ st ⟨rfl,rfl⟩;by_cases hfew:wFms s.l+wFms s.r<=300
 case neg =>
  simp only[go_sem,zE,zB,zA,zM,zS,zL,reduceCtorEq,fits,dEf hfew];exact yQ0 ⟨rfl,rfl⟩
 have hfit:=wK4 hfew;have hq1:=yGw s.l;have hq2:=yGw s.r;by_cases hl:s.l.length<64
 case neg =>
  simp only[go_sem,zE,zB,zA,zM,zS,zL,reduceCtorEq,fits,dEt hfew,i1.len,show decide (((s.l.length:Nat):Int) ≥ 64)=true from dEt (by omega)];intros;exact yQ0 ⟨rfl,rfl⟩
 have hCp:=λst=>xK3 gl s _ hx0 (by omega) (by omega) st;simp only[go_sem,zE,zB,zA,zM,zS,zL,reduceCtorEq,fits,dEt hfew,i1.len,show decide (((s.l.length:Nat):Int) ≥ 64)=false from dEf (by omega)];intros;refine (hCp _).mono ?_;rintro _ st3 ⟨c1,y1,c2,y2,rfl,ho1,hy1,ho2,hy2,hs3⟩;have hlen1:y1.length=s.l.length:=hy1.1.len;have hlen2:y2.length=s.r.length:=hy2.1.len;have hj4:((w:Nat):Int).tmod 4=((w%4:Nat):Int):=by rw[Int.tmod_eq_emod_of_nonneg (by omega)];omega
 have hz4:((4:Int)=0)=False:=by simp
 rcases (show w%4=0\/w%4=1\/w%4=2\/w%4=3 by omega) with h4|h4|h4|h4
 ·have hj:((w:Nat):Int).tmod 4=0:=by rw[hj4,h4];rfl
  simp only[go_sem,zE,zB,zA,zM,zS,zL,reduceCtorEq,fits,hj,hz4,Int.reduceEq,decide_true,decide_false,yQ1,yQg];intros
  repeat (first
   | (refine (h_p gl _ _).mono ?_;rintro _ st ⟨rfl,rfl⟩;simp only[go_sem,zE,zB,zA,zM,zS,zL,reduceCtorEq,fits,yQ1,yQb,yQy,yQg,decide_true,fits])
   | (refine (h_no gl _ _ _ _ _ _ _).mono ?_;rintro _ st ⟨rfl,rfl⟩;simp only[go_sem,zE,zB,zA,zM,zS,zL,reduceCtorEq,fits,yQ1,yQb,yQy,yQg,decide_true,fits])
   | (refine (zJ5 gl _ _ _ _ _ _ _ _ _ _ _ _ _ _).mono ?_;rintro _ st ⟨rfl,rfl⟩;simp only[go_sem,zE,zB,zA,zM,zS,zL,reduceCtorEq,fits,yQ1,yQb,yQy,yQg,decide_true,fits])
   | (refine (h_fs gl _ _ _).mono ?_;rintro _ st ⟨rfl,rfl⟩;simp only[go_sem,zE,zB,zA,zM,zS,zL,reduceCtorEq,fits,yQ1,yQb,yQy,yQg,decide_true,fits])
   | (refine (h_sq gl _ _ _ _ _).mono ?_;rintro _ st ⟨rfl,rfl⟩;simp only[go_sem,zE,zB,zA,zM,zS,zL,reduceCtorEq,fits,yQ1,yQb,yQy,yQg,decide_true,fits]))
  refine yZl ho1 hlen1 hs3 rfl (by simp[fits,IV.one]) (by simp only;omega) (by omega) λt4 st4 ho4 hs4 _=>?_;have hbx:IsSq ⟨s.l++[bd0],s.r⟩ (.agg [.sl t4 (y1++[fmI bd0]),.sl c2 y2]):=⟨_,_,_,_,rfl,ho4.es,hy1.1.append (.one (zYr bd0 (by decide))),ho2.es,hy2.1⟩
  have hbv:=λhc=>zQu (ca:=ca) hc (b:=bd0) (.inl rfl) s;have hbf:=xXz (b:=bd0) (.inl rfl) hfit;have hC:=λst=>zQt gl G T ca _ hbv _ hbx hbf st;have hM:=λst=>zVc gl G T ca _ hbv _ hbx hbf st;have hR:=λst=>zKy gl G T ca _ hbv _ hbx hbf st;have hL:=λst=>zVl gl G T ca _ hbv _ hbx hbf st;have hP:=λst=>zV4 gl G T ca _ hbv _ hbx hbf bound st;have hz:IntKind.i64.wrap ((0:Nat)+(0:Nat):Int)=0:=rfl;have hd:decide ((0:Int)=0)=true:=rfl;have hd':decide (((0:Nat):Int)=0)=true:=rfl;have he:∀w:Int,decide (w=w)=true:=λw=>dEt rfl;by_cases h1:ca=1
  ·have hw1:yKe ca=190:=if_pos (.inl h1);have h1':decide ((ca:Int)=1)=true:=dEt (by omega);rw[hw1] at hC hM hR hL hP;simp only[go_sem,zE,zB,zA,zM,zS,zL,reduceCtorEq,fits,h1'];refine (hC _).mono ?_;rintro _ st4 ⟨rfl,rfl⟩;simp only[go_sem,zE,zB,zA,zM,zS,zL,reduceCtorEq,fits,h1'];refine (hM _).mono ?_;rintro _ st4 ⟨rfl,rfl⟩;simp only[go_sem,zE,zB,zA,zM,zS,zL,reduceCtorEq,fits,h1'];refine (hR _).mono ?_;rintro _ st4 ⟨rfl,rfl⟩;simp only[go_sem,zE,zB,zA,zM,zS,zL,reduceCtorEq,fits,h1'];refine (hL _).mono ?_;rintro _ st4 ⟨rfl,rfl⟩;simp only[go_sem,zE,zB,zA,zM,zS,zL,reduceCtorEq,fits,h1'];refine (hP _).mono ?_;rintro _ st4 ⟨rfl,rfl⟩;simp only[go_sem,zE,zB,zA,zM,zS,zL,reduceCtorEq,fits,hz,hd,hd',show decide (((190:Nat):Int)=190)=true from rfl,decide_true,h1'];exact yQm hs4 ⟨rfl,rfl⟩
  have h1':decide ((ca:Int)=1)=false:=dEf (by omega);by_cases h2:ca=2
  ·have hw1:yKe ca=190:=if_pos (.inr h2);have h2':decide ((ca:Int)=2)=true:=dEt (by omega);rw[hw1] at hC hM hR hL hP;simp only[go_sem,zE,zB,zA,zM,zS,zL,reduceCtorEq,fits,h1',h2'];refine (hC _).mono ?_;rintro _ st4 ⟨rfl,rfl⟩;simp only[go_sem,zE,zB,zA,zM,zS,zL,reduceCtorEq,fits,h2'];refine (hM _).mono ?_;rintro _ st4 ⟨rfl,rfl⟩;simp only[go_sem,zE,zB,zA,zM,zS,zL,reduceCtorEq,fits,h2'];refine (hR _).mono ?_;rintro _ st4 ⟨rfl,rfl⟩;simp only[go_sem,zE,zB,zA,zM,zS,zL,reduceCtorEq,fits,h2'];refine (hL _).mono ?_;rintro _ st4 ⟨rfl,rfl⟩;simp only[go_sem,zE,zB,zA,zM,zS,zL,reduceCtorEq,fits,h2'];refine (hP _).mono ?_;rintro _ st4 ⟨rfl,rfl⟩;simp only[go_sem,zE,zB,zA,zM,zS,zL,reduceCtorEq,fits,hz,hd,hd',show decide (((190:Nat):Int)=190)=true from rfl,decide_true,h2'];exact yQm hs4 ⟨rfl,rfl⟩
  have h2':decide ((ca:Int)=2)=false:=dEf (by omega);have hw1:yKe ca=2:=if_neg (by omega);rw[hw1] at hC hM hR hL hP;simp only[go_sem,zE,zB,zA,zM,zS,zL,reduceCtorEq,fits,h1',h2'];refine (hC _).mono ?_;rintro _ st4 ⟨rfl,rfl⟩;simp only[go_sem,zE,zB,zA,zM,zS,zL,reduceCtorEq,fits,h2'];refine (hM _).mono ?_;rintro _ st4 ⟨rfl,rfl⟩;simp only[go_sem,zE,zB,zA,zM,zS,zL,reduceCtorEq,fits,h2'];refine (hR _).mono ?_;rintro _ st4 ⟨rfl,rfl⟩;simp only[go_sem,zE,zB,zA,zM,zS,zL,reduceCtorEq,fits,h2'];refine (hL _).mono ?_;rintro _ st4 ⟨rfl,rfl⟩;simp only[go_sem,zE,zB,zA,zM,zS,zL,reduceCtorEq,fits,h2'];refine (hP _).mono ?_;rintro _ st4 ⟨rfl,rfl⟩;simp only[go_sem,zE,zB,zA,zM,zS,zL,reduceCtorEq,fits,hz,hd,hd',show decide (((2:Nat):Int)=2)=true from rfl,decide_true,h2'];exact yQm hs4 ⟨rfl,rfl⟩
 ·have hj:((w:Nat):Int).tmod 4=1:=by rw[hj4,h4];rfl
  simp only[go_sem,zE,zB,zA,zM,zS,zL,reduceCtorEq,fits,hj,hz4,Int.reduceEq,decide_true,decide_false,yQ1,yQg];intros
  repeat (first
   | (refine (h_p gl _ _).mono ?_;rintro _ st ⟨rfl,rfl⟩;simp only[go_sem,zE,zB,zA,zM,zS,zL,reduceCtorEq,fits,yQ1,yQb,yQy,yQg,decide_true,fits])
   | (refine (h_no gl _ _ _ _ _ _ _).mono ?_;rintro _ st ⟨rfl,rfl⟩;simp only[go_sem,zE,zB,zA,zM,zS,zL,reduceCtorEq,fits,yQ1,yQb,yQy,yQg,decide_true,fits])
   | (refine (zJ5 gl _ _ _ _ _ _ _ _ _ _ _ _ _ _).mono ?_;rintro _ st ⟨rfl,rfl⟩;simp only[go_sem,zE,zB,zA,zM,zS,zL,reduceCtorEq,fits,yQ1,yQb,yQy,yQg,decide_true,fits])
   | (refine (h_fs gl _ _ _).mono ?_;rintro _ st ⟨rfl,rfl⟩;simp only[go_sem,zE,zB,zA,zM,zS,zL,reduceCtorEq,fits,yQ1,yQb,yQy,yQg,decide_true,fits])
   | (refine (h_sq gl _ _ _ _ _).mono ?_;rintro _ st ⟨rfl,rfl⟩;simp only[go_sem,zE,zB,zA,zM,zS,zL,reduceCtorEq,fits,yQ1,yQb,yQy,yQg,decide_true,fits]))
  refine yZl ho1 hlen1 hs3 rfl (by simp[fits,IV.one]) (by simp only;omega) (by omega) λt4 st4 ho4 hs4 _=>?_;have hbx:IsSq ⟨s.l++[bd1],s.r⟩ (.agg [.sl t4 (y1++[fmI bd1]),.sl c2 y2]):=⟨_,_,_,_,rfl,ho4.es,hy1.1.append (.one (zYr bd1 (by decide))),ho2.es,hy2.1⟩
  have hbv:=λhc=>zQu (ca:=ca) hc (b:=bd1) (.inr (.inl rfl)) s;have hbf:=xXz (b:=bd1) (.inr (.inl rfl)) hfit;have hC:=λst=>zQt gl G T ca _ hbv _ hbx hbf st;have hM:=λst=>zVc gl G T ca _ hbv _ hbx hbf st;have hR:=λst=>zKy gl G T ca _ hbv _ hbx hbf st;have hL:=λst=>zVl gl G T ca _ hbv _ hbx hbf st;have hP:=λst=>zV4 gl G T ca _ hbv _ hbx hbf bound st;have hz:IntKind.i64.wrap ((0:Nat)+(0:Nat):Int)=0:=rfl;have hd:decide ((0:Int)=0)=true:=rfl;have hd':decide (((0:Nat):Int)=0)=true:=rfl;have he:∀w:Int,decide (w=w)=true:=λw=>dEt rfl;by_cases h1:ca=1
  ·have hw1:yKe ca=190:=if_pos (.inl h1);have h1':decide ((ca:Int)=1)=true:=dEt (by omega);rw[hw1] at hC hM hR hL hP;simp only[go_sem,zE,zB,zA,zM,zS,zL,reduceCtorEq,fits,h1'];refine (hC _).mono ?_;rintro _ st4 ⟨rfl,rfl⟩;simp only[go_sem,zE,zB,zA,zM,zS,zL,reduceCtorEq,fits,h1'];refine (hM _).mono ?_;rintro _ st4 ⟨rfl,rfl⟩;simp only[go_sem,zE,zB,zA,zM,zS,zL,reduceCtorEq,fits,h1'];refine (hR _).mono ?_;rintro _ st4 ⟨rfl,rfl⟩;simp only[go_sem,zE,zB,zA,zM,zS,zL,reduceCtorEq,fits,h1'];refine (hL _).mono ?_;rintro _ st4 ⟨rfl,rfl⟩;simp only[go_sem,zE,zB,zA,zM,zS,zL,reduceCtorEq,fits,h1'];refine (hP _).mono ?_;rintro _ st4 ⟨rfl,rfl⟩;simp only[go_sem,zE,zB,zA,zM,zS,zL,reduceCtorEq,fits,hz,hd,hd',show decide (((190:Nat):Int)=190)=true from rfl,decide_true,h1'];exact yQm hs4 ⟨rfl,rfl⟩
  have h1':decide ((ca:Int)=1)=false:=dEf (by omega);by_cases h2:ca=2
  ·have hw1:yKe ca=190:=if_pos (.inr h2);have h2':decide ((ca:Int)=2)=true:=dEt (by omega);rw[hw1] at hC hM hR hL hP;simp only[go_sem,zE,zB,zA,zM,zS,zL,reduceCtorEq,fits,h1',h2'];refine (hC _).mono ?_;rintro _ st4 ⟨rfl,rfl⟩;simp only[go_sem,zE,zB,zA,zM,zS,zL,reduceCtorEq,fits,h2'];refine (hM _).mono ?_;rintro _ st4 ⟨rfl,rfl⟩;simp only[go_sem,zE,zB,zA,zM,zS,zL,reduceCtorEq,fits,h2'];refine (hR _).mono ?_;rintro _ st4 ⟨rfl,rfl⟩;simp only[go_sem,zE,zB,zA,zM,zS,zL,reduceCtorEq,fits,h2'];refine (hL _).mono ?_;rintro _ st4 ⟨rfl,rfl⟩;simp only[go_sem,zE,zB,zA,zM,zS,zL,reduceCtorEq,fits,h2'];refine (hP _).mono ?_;rintro _ st4 ⟨rfl,rfl⟩;simp only[go_sem,zE,zB,zA,zM,zS,zL,reduceCtorEq,fits,hz,hd,hd',show decide (((190:Nat):Int)=190)=true from rfl,decide_true,h2'];exact yQm hs4 ⟨rfl,rfl⟩
  have h2':decide ((ca:Int)=2)=false:=dEf (by omega);have hw1:yKe ca=2:=if_neg (by omega);rw[hw1] at hC hM hR hL hP;simp only[go_sem,zE,zB,zA,zM,zS,zL,reduceCtorEq,fits,h1',h2'];refine (hC _).mono ?_;rintro _ st4 ⟨rfl,rfl⟩;simp only[go_sem,zE,zB,zA,zM,zS,zL,reduceCtorEq,fits,h2'];refine (hM _).mono ?_;rintro _ st4 ⟨rfl,rfl⟩;simp only[go_sem,zE,zB,zA,zM,zS,zL,reduceCtorEq,fits,h2'];refine (hR _).mono ?_;rintro _ st4 ⟨rfl,rfl⟩;simp only[go_sem,zE,zB,zA,zM,zS,zL,reduceCtorEq,fits,h2'];refine (hL _).mono ?_;rintro _ st4 ⟨rfl,rfl⟩;simp only[go_sem,zE,zB,zA,zM,zS,zL,reduceCtorEq,fits,h2'];refine (hP _).mono ?_;rintro _ st4 ⟨rfl,rfl⟩;simp only[go_sem,zE,zB,zA,zM,zS,zL,reduceCtorEq,fits,hz,hd,hd',show decide (((2:Nat):Int)=2)=true from rfl,decide_true,h2'];exact yQm hs4 ⟨rfl,rfl⟩
 ·have hj:((w:Nat):Int).tmod 4=2:=by rw[hj4,h4];rfl
  simp only[go_sem,zE,zB,zA,zM,zS,zL,reduceCtorEq,fits,hj,hz4,Int.reduceEq,decide_true,decide_false,yQ1,yQg];intros;refine yZl ho1 hlen1 hs3 rfl (by simp[fits,IV.one]) (by simp only;omega) (by omega) λt4 st4 ho4 hs4 _=>?_;have hbx:IsSq ⟨s.l++[bd2],s.r⟩ (.agg [.sl t4 (y1++[fmI bd2]),.sl c2 y2]):=⟨_,_,_,_,rfl,ho4.es,hy1.1.append (.one (zYr bd2 (by decide))),ho2.es,hy2.1⟩
  have hbv:=λhc=>zQu (ca:=ca) hc (b:=bd2) (.inr (.inr (.inl rfl))) s;have hbf:=xXz (b:=bd2) (.inr (.inr (.inl rfl))) hfit;have hC:=λst=>zQt gl G T ca _ hbv _ hbx hbf st;have hM:=λst=>zVc gl G T ca _ hbv _ hbx hbf st;have hR:=λst=>zKy gl G T ca _ hbv _ hbx hbf st;have hL:=λst=>zVl gl G T ca _ hbv _ hbx hbf st;have hP:=λst=>zV4 gl G T ca _ hbv _ hbx hbf bound st;have hz:IntKind.i64.wrap ((0:Nat)+(0:Nat):Int)=0:=rfl;have hd:decide ((0:Int)=0)=true:=rfl;have hd':decide (((0:Nat):Int)=0)=true:=rfl;have he:∀w:Int,decide (w=w)=true:=λw=>dEt rfl;by_cases h1:ca=1
  ·have hw1:yKe ca=190:=if_pos (.inl h1);have h1':decide ((ca:Int)=1)=true:=dEt (by omega);rw[hw1] at hC hM hR hL hP;simp only[go_sem,zE,zB,zA,zM,zS,zL,reduceCtorEq,fits,h1'];refine (hC _).mono ?_;rintro _ st4 ⟨rfl,rfl⟩;simp only[go_sem,zE,zB,zA,zM,zS,zL,reduceCtorEq,fits,h1'];refine (hM _).mono ?_;rintro _ st4 ⟨rfl,rfl⟩;simp only[go_sem,zE,zB,zA,zM,zS,zL,reduceCtorEq,fits,h1'];refine (hR _).mono ?_;rintro _ st4 ⟨rfl,rfl⟩;simp only[go_sem,zE,zB,zA,zM,zS,zL,reduceCtorEq,fits,h1'];refine (hL _).mono ?_;rintro _ st4 ⟨rfl,rfl⟩;simp only[go_sem,zE,zB,zA,zM,zS,zL,reduceCtorEq,fits,h1'];refine (hP _).mono ?_;rintro _ st4 ⟨rfl,rfl⟩;simp only[go_sem,zE,zB,zA,zM,zS,zL,reduceCtorEq,fits,hz,hd,hd',show decide (((190:Nat):Int)=190)=true from rfl,decide_true,h1'];exact yQm hs4 ⟨rfl,rfl⟩
  have h1':decide ((ca:Int)=1)=false:=dEf (by omega);by_cases h2:ca=2
  ·have hw1:yKe ca=190:=if_pos (.inr h2);have h2':decide ((ca:Int)=2)=true:=dEt (by omega);rw[hw1] at hC hM hR hL hP;simp only[go_sem,zE,zB,zA,zM,zS,zL,reduceCtorEq,fits,h1',h2'];refine (hC _).mono ?_;rintro _ st4 ⟨rfl,rfl⟩;simp only[go_sem,zE,zB,zA,zM,zS,zL,reduceCtorEq,fits,h2'];refine (hM _).mono ?_;rintro _ st4 ⟨rfl,rfl⟩;simp only[go_sem,zE,zB,zA,zM,zS,zL,reduceCtorEq,fits,h2'];refine (hR _).mono ?_;rintro _ st4 ⟨rfl,rfl⟩;simp only[go_sem,zE,zB,zA,zM,zS,zL,reduceCtorEq,fits,h2'];refine (hL _).mono ?_;rintro _ st4 ⟨rfl,rfl⟩;simp only[go_sem,zE,zB,zA,zM,zS,zL,reduceCtorEq,fits,h2'];refine (hP _).mono ?_;rintro _ st4 ⟨rfl,rfl⟩;simp only[go_sem,zE,zB,zA,zM,zS,zL,reduceCtorEq,fits,hz,hd,hd',show decide (((190:Nat):Int)=190)=true from rfl,decide_true,h2'];exact yQm hs4 ⟨rfl,rfl⟩
  have h2':decide ((ca:Int)=2)=false:=dEf (by omega);have hw1:yKe ca=2:=if_neg (by omega);rw[hw1] at hC hM hR hL hP;simp only[go_sem,zE,zB,zA,zM,zS,zL,reduceCtorEq,fits,h1',h2'];refine (hC _).mono ?_;rintro _ st4 ⟨rfl,rfl⟩;simp only[go_sem,zE,zB,zA,zM,zS,zL,reduceCtorEq,fits,h2'];refine (hM _).mono ?_;rintro _ st4 ⟨rfl,rfl⟩;simp only[go_sem,zE,zB,zA,zM,zS,zL,reduceCtorEq,fits,h2'];refine (hR _).mono ?_;rintro _ st4 ⟨rfl,rfl⟩;simp only[go_sem,zE,zB,zA,zM,zS,zL,reduceCtorEq,fits,h2'];refine (hL _).mono ?_;rintro _ st4 ⟨rfl,rfl⟩;simp only[go_sem,zE,zB,zA,zM,zS,zL,reduceCtorEq,fits,h2'];refine (hP _).mono ?_;rintro _ st4 ⟨rfl,rfl⟩;simp only[go_sem,zE,zB,zA,zM,zS,zL,reduceCtorEq,fits,hz,hd,hd',show decide (((2:Nat):Int)=2)=true from rfl,decide_true,h2'];exact yQm hs4 ⟨rfl,rfl⟩
 ·have hj:((w:Nat):Int).tmod 4=3:=by rw[hj4,h4];rfl
  simp only[go_sem,zE,zB,zA,zM,zS,zL,reduceCtorEq,fits,hj,hz4,Int.reduceEq,decide_true,decide_false,yQ1,yQg];intros;refine yZl ho1 hlen1 hs3 rfl (by simp[fits,IV.one]) (by simp only;omega) (by omega) λt4 st4 ho4 hs4 _=>?_;have hbx:IsSq ⟨s.l++[bd3],s.r⟩ (.agg [.sl t4 (y1++[fmI bd3]),.sl c2 y2]):=⟨_,_,_,_,rfl,ho4.es,hy1.1.append (.one (zYr bd3 (by decide))),ho2.es,hy2.1⟩
  have hbv:=λhc=>zQu (ca:=ca) hc (b:=bd3) (.inr (.inr (.inr rfl))) s;have hbf:=xXz (b:=bd3) (.inr (.inr (.inr rfl))) hfit;have hC:=λst=>zQt gl G T ca _ hbv _ hbx hbf st;have hM:=λst=>zVc gl G T ca _ hbv _ hbx hbf st;have hR:=λst=>zKy gl G T ca _ hbv _ hbx hbf st;have hL:=λst=>zVl gl G T ca _ hbv _ hbx hbf st;have hP:=λst=>zV4 gl G T ca _ hbv _ hbx hbf bound st;have hz:IntKind.i64.wrap ((0:Nat)+(0:Nat):Int)=0:=rfl;have hd:decide ((0:Int)=0)=true:=rfl;have hd':decide (((0:Nat):Int)=0)=true:=rfl;have he:∀w:Int,decide (w=w)=true:=λw=>dEt rfl;by_cases h1:ca=1
  ·have hw1:yKe ca=190:=if_pos (.inl h1);have h1':decide ((ca:Int)=1)=true:=dEt (by omega);rw[hw1] at hC hM hR hL hP;simp only[go_sem,zE,zB,zA,zM,zS,zL,reduceCtorEq,fits,h1'];refine (hC _).mono ?_;rintro _ st4 ⟨rfl,rfl⟩;simp only[go_sem,zE,zB,zA,zM,zS,zL,reduceCtorEq,fits,h1'];refine (hM _).mono ?_;rintro _ st4 ⟨rfl,rfl⟩;simp only[go_sem,zE,zB,zA,zM,zS,zL,reduceCtorEq,fits,h1'];refine (hR _).mono ?_;rintro _ st4 ⟨rfl,rfl⟩;simp only[go_sem,zE,zB,zA,zM,zS,zL,reduceCtorEq,fits,h1'];refine (hL _).mono ?_;rintro _ st4 ⟨rfl,rfl⟩;simp only[go_sem,zE,zB,zA,zM,zS,zL,reduceCtorEq,fits,h1'];refine (hP _).mono ?_;rintro _ st4 ⟨rfl,rfl⟩;simp only[go_sem,zE,zB,zA,zM,zS,zL,reduceCtorEq,fits,hz,hd,hd',show decide (((190:Nat):Int)=190)=true from rfl,decide_true,h1'];exact yQm hs4 ⟨rfl,rfl⟩
  have h1':decide ((ca:Int)=1)=false:=dEf (by omega);by_cases h2:ca=2
  ·have hw1:yKe ca=190:=if_pos (.inr h2);have h2':decide ((ca:Int)=2)=true:=dEt (by omega);rw[hw1] at hC hM hR hL hP;simp only[go_sem,zE,zB,zA,zM,zS,zL,reduceCtorEq,fits,h1',h2'];refine (hC _).mono ?_;rintro _ st4 ⟨rfl,rfl⟩;simp only[go_sem,zE,zB,zA,zM,zS,zL,reduceCtorEq,fits,h2'];refine (hM _).mono ?_;rintro _ st4 ⟨rfl,rfl⟩;simp only[go_sem,zE,zB,zA,zM,zS,zL,reduceCtorEq,fits,h2'];refine (hR _).mono ?_;rintro _ st4 ⟨rfl,rfl⟩;simp only[go_sem,zE,zB,zA,zM,zS,zL,reduceCtorEq,fits,h2'];refine (hL _).mono ?_;rintro _ st4 ⟨rfl,rfl⟩;simp only[go_sem,zE,zB,zA,zM,zS,zL,reduceCtorEq,fits,h2'];refine (hP _).mono ?_;rintro _ st4 ⟨rfl,rfl⟩;simp only[go_sem,zE,zB,zA,zM,zS,zL,reduceCtorEq,fits,hz,hd,hd',show decide (((190:Nat):Int)=190)=true from rfl,decide_true,h2'];exact yQm hs4 ⟨rfl,rfl⟩
  have h2':decide ((ca:Int)=2)=false:=dEf (by omega);have hw1:yKe ca=2:=if_neg (by omega);rw[hw1] at hC hM hR hL hP;simp only[go_sem,zE,zB,zA,zM,zS,zL,reduceCtorEq,fits,h1',h2'];refine (hC _).mono ?_;rintro _ st4 ⟨rfl,rfl⟩;simp only[go_sem,zE,zB,zA,zM,zS,zL,reduceCtorEq,fits,h2'];refine (hM _).mono ?_;rintro _ st4 ⟨rfl,rfl⟩;simp only[go_sem,zE,zB,zA,zM,zS,zL,reduceCtorEq,fits,h2'];refine (hR _).mono ?_;rintro _ st4 ⟨rfl,rfl⟩;simp only[go_sem,zE,zB,zA,zM,zS,zL,reduceCtorEq,fits,h2'];refine (hL _).mono ?_;rintro _ st4 ⟨rfl,rfl⟩;simp only[go_sem,zE,zB,zA,zM,zS,zL,reduceCtorEq,fits,h2'];refine (hP _).mono ?_;rintro _ st4 ⟨rfl,rfl⟩;simp only[go_sem,zE,zB,zA,zM,zS,zL,reduceCtorEq,fits,hz,hd,hd',show decide (((2:Nat):Int)=2)=true from rfl,decide_true,h2'];exact yQm hs4 ⟨rfl,rfl⟩
end Go.Proofs.Tryz
namespace Go.Proofs.Tryz
open Go Go.Iv
set_option maxRecDepth 4000
variable (gl:Nat->Option IV)
section
variable {b2 b3 b4:Nat}{fy a:IV}
end
section
variable {gl}{y:IV}{I:Nat->ISt->Prop}{S:ISt->Prop}{k0:Nat}
end
section
variable {b2 b3 b4:Nat}{fy a a':IV}{p:List Nat}{s:ISt}{g:Nat}
end
end Go.Proofs.Tryz
namespace Go.Proofs.Tryz
open Go Go.Iv
end Go.Proofs.Tryz
namespace Go.Proofs.Tryz
open Go Go.Iv Go.ChangeShapes
open Go.Proofs.YtclkffdkahljeaaGreatDoor.Rows (uptoBulk uptoBulkAll)
set_option maxRecDepth 4000
theorem uSeq:prog.underlying 24=some (.struct #[⟨ "Left",22,0,false, "", "",0⟩,⟨ "Right",22,1,false, "", "",24⟩]):=by kernel_rfl
theorem nSeq:prog.cellsOf 24=2:=by kernel_rfl
mutual
theorem xGv:∀t:Tm,wTm t<=2*xKl t
 | .mk _ n us=>by have:=zQw us;simp only[wTm,xKl];omega
theorem zQw:∀l:List Tm,wTms l<=2*yYd l
 | []=>Nat.le_refl _
 | a::l=>by have:=xGv a;have:=zQw l;simp only[wTms,yYd];omega
end
mutual
theorem xGx:∀f:Fm,wFm f<=2*xKm f
 | .mk _ n us sub=>by have:=zQw us;have:=yYs sub;simp only[wFm,xKm];omega
theorem yYs:∀l:List Fm,wFms l<=2*yGr l
 | []=>Nat.le_refl _
 | a::l=>by have:=xGx a;have:=yYs l;simp only[wFms,yGr];omega
end
section
variable {H:Type}{enc:TypeId×Value->H}{w:World}{spare:Nat->Bool}{held:Bool}
def RQ (d:DataW H)(s:Sq)(x:IV):Prop:=IsSq s x/\wFms s.l+wFms s.r<=2*uptoBulk d
theorem wWv (fuel:Nat)(cs:List Value)(y:DataW H×List MemPlace)(h:DataW.trod enc prog w 0 spare held fuel 24 cs=some y)(hb:uptoBulk y.1<=1048576):∃s x,VL 0 (L0 w) w cs x.cells/\RQ y.1 s x:=by
 obtain⟨ys,n,rfl,rfl,hl,hlen,hf⟩:=DataW.trod_struct uSeq h
 match ys,hlen with
 | [y0,y1],_ =>
  rw[nSeq] at hl
  match cs,hl with
  | [c0,c1],_ =>
   have h0:=hf 0 _ rfl;have h1:=hf 1 _ rfl;simp only[List.getElem?_cons_zero,List.getElem?_cons_succ] at h0 h1;simp only[List.map_cons,List.map_nil,uptoBulk,uptoBulkAll] at hb;obtain⟨v0,tg0,xs0,l0,e0,hv0,ht0,hl0,hb0⟩:=zVx h0 (by omega) (λm _=>xYj m);obtain⟨v1,tg1,xs1,l1,e1,hv1,ht1,hl1,hb1⟩:=zVx h1 (by omega) (λm _=>xYj m);cases e0;cases e1;refine⟨⟨l0,l1⟩,.agg [.sl tg0 xs0,.sl tg1 xs1],VL.cons hv0 (VL.cons hv1 VL.nil),⟨tg0,xs0,tg1,xs1,rfl,ht0,hl0,ht1,hl1⟩,?_⟩;have:=yYs l0;have:=yYs l1;simp only[List.map_cons,List.map_nil,uptoBulk,uptoBulkAll];omega
end
end Go.Proofs.Tryz
namespace Go.Proofs.Tryz
open Go Go.Iv Go.ChangeShapes Go.RowKit
open Go.Proofs.YtclkffdkahljeaaGreatDoor
set_option maxRecDepth 8000
theorem uRow:prog.underlying 239=some (.struct #[⟨ "right",4,0,false, "", "lyceum/syntax",0⟩,⟨ "schema",4,1,false, "", "lyceum/syntax",1⟩,⟨ "name",5,2,false, "", "lyceum/syntax",2⟩,⟨ "args",3,3,false, "", "lyceum/syntax",8⟩,⟨ "subs",3,4,false, "", "lyceum/syntax",16⟩]):=by kernel_rfl
theorem vK2:prog.underlying 240=some (.array 17 239):=by kernel_rfl
theorem uInt:prog.underlying 3=some (.int .i64):=by kernel_rfl
theorem nRow:prog.cellsOf 239=5:=by kernel_rfl
theorem vY7:prog.cellsOf 240=85:=by kernel_rfl
theorem gRows:prog.globalNamed "lyceum/syntax.rows" = some 0:=by kernel_rfl
theorem gRowsT:(prog.globals[0]?).map (·.type)=some 240:=by kernel_rfl
theorem gPow:prog.globalNamed "internal/strconv.uint64pow10" = some 2:=by kernel_rfl
theorem gPowT:(prog.globals[2]?).map (·.type)=some 347:=by kernel_rfl
theorem uPow:prog.underlying 347=some (.array 20 264):=by kernel_rfl
theorem uU64:prog.underlying 264=some (.int .u64):=by kernel_rfl
theorem nPow:prog.cellsOf 347=20:=by kernel_rfl
theorem nU64:prog.cellsOf 264=1:=by kernel_rfl
section
variable {H:Type}{enc:TypeId×Value->H}{w:World}{spare:Nat->Bool}{held:Bool}
def rowD (op:Nat):DataW H:=.agg [.lit (.bool (yZ5 op)),.lit (.bool (zZe op)),.lit (.int .u8 (yX1 op)),.lit (.int .i64 (yZy op)),.lit (.int .i64 (yZx op))]
def rowV (op:Nat):List Value:=[.bool (yZ5 op),.bool (zZe op),.int .u8 (yX1 op),.int .i64 (yZy op),.int .i64 (yZx op)]
theorem xVx {fuel:Nat}{cs:List Value}{op:Nat}{p:List MemPlace}(h:DataW.trod enc prog w 0 spare held fuel 239 cs=some (rowD op,p)):cs=rowV op:=by
 obtain⟨ys,n,rfl,he,hl,hlen,hf⟩:=DataW.trod_struct uRow h
 match ys,hlen with
 | [y0,y1,y2,y3,y4],_ =>
  rw[nRow] at hl
  match cs,hl with
  | [c0,c1,c2,c3,c4],_ =>
   have h0:=hf 0 _ rfl;have h1:=hf 1 _ rfl;have h2:=hf 2 _ rfl;have h3:=hf 3 _ rfl;have h4:=hf 4 _ rfl;simp only[List.getElem?_cons_zero,List.getElem?_cons_succ] at h0 h1 h2 h3 h4;obtain⟨b0,e0,rfl⟩:=DataW.trod_bool xV7 h0;obtain⟨b1,e1,rfl⟩:=DataW.trod_bool xV7 h1;obtain⟨b2,e2,rfl,_⟩:=DataW.trod_int uU8 h2;obtain⟨b3,e3,rfl,_⟩:=DataW.trod_int uInt h3;obtain⟨b4,e4,rfl,_⟩:=DataW.trod_int uInt h4;cases e0;cases e1;cases e2;cases e3;cases e4;have he1:=congrArg Prod.fst he;simp only[rowD,List.map_cons,List.map_nil,DataW.agg.injEq,List.cons.injEq,DataW.lit.injEq,Lit.bool.injEq,Lit.int.injEq,true_and,and_true] at he1;obtain⟨rfl,rfl,rfl,rfl,rfl⟩:=he1;rfl
theorem xVw:(Rows.laid_lyceum_syntax_rows:DataW H)=.agg ((List.range 17).map rowD):=by rfl
theorem xJl {fuel:Nat}{cs:List Value}{p:List MemPlace}(h:DataW.trod enc prog w 0 spare held fuel 240 cs=some (Rows.laid_lyceum_syntax_rows,p)) :
  cs.length=85/\∀op,op<17->(cs.drop (op*5)).take 5=rowV op:=by
 obtain⟨ys,n,rfl,he,hl,hlen,hf⟩:=DataW.trod_array vK2 h;rw[vY7] at hl;refine⟨hl,λop hop=>?_⟩;have h1:=hf op hop;rw[nRow] at h1;have he1:=congrArg Prod.fst he;rw[xVw] at he1;simp only[DataW.agg.injEq] at he1;have h2:(ys.map (·.1))[op]?=some (rowD op):=by
  rw[<- he1,List.getElem?_map,List.getElem?_range hop];rfl
 rw[List.getElem?_map] at h2;obtain⟨y,hy,hy2⟩:=Option.map_eq_some_iff.1 h2;rw[hy] at h1;obtain⟨y1,y2⟩:=y;simp only at hy2;subst hy2;exact xVx h1
end
def gl0:Nat->Option IV
 | 0=>some (.agg rowsL)
 | 2=>some (.agg pow10L)
 | _=>none
theorem G0:Gl gl0:=⟨rfl⟩
theorem T0:Gt gl0:=⟨rfl⟩
def X0 (w:World):WS:={ w:=w,L:=L0 w,st:=λ_=>none,d:=0 }
theorem zUb {cs:List Value}(hl:cs.length=85)(h:∀op,op<17->(cs.drop (op*5)).take 5=rowV op)(i:Nat)(r:Value)(c:IV)(hr:cs[i]?=some r)(hc:rowsL[i]?=some c):c=.raw r/\zV0 r:=by
 have hi:i<85:=by have:=(lGs hr).1;omega
 have hop:i / 5<17:=by omega
 have e:i=i / 5*5+i%5:=by omega
 have hm:i%5<5:=Nat.mod_lt _ (by decide);have h1:(rowV (i / 5))[i%5]?=some r:=by
  rw[<- h _ hop,List.getElem?_take,if_pos hm,List.getElem?_drop,<- e];exact hr
 have h2:(rowI (i / 5))[i%5]?=some c:=by
  rw[<- (zJi _ hop).2,List.getElem?_take,if_pos hm,List.getElem?_drop,<- e];exact hc
 generalize i%5=k at h1 h2 hm
 match k,hm with
 | 0,_=>cases h1;cases h2;exact⟨rfl,trivial⟩
 | 1,_=>cases h1;cases h2;exact⟨rfl,trivial⟩
 | 2,_=>cases h1;cases h2;exact⟨rfl,trivial⟩
 | 3,_=>cases h1;cases h2;exact⟨rfl,trivial⟩
 | 4,_=>cases h1;cases h2;exact⟨rfl,trivial⟩
theorem vYx {W:World}(hL:laidMetH prog Rows.searchWrongUptoRow.laid W):Go.Iv.Good ⟨prog,gl0,0⟩ (X0 W):=by
 obtain⟨ps,hlv,_⟩:=(show laidMet prog _ W from hL)
 obtain⟨_,_,_,_,_,_,_,_,_,_,hlv,_⟩:=hlv;obtain⟨_,_,_,_,_,_,_,_,_,_,hlv,_⟩:=hlv;obtain⟨g1,t1,cs1,f1,p1,q1,hg1,ht1,hv1,hd1,hlv,_⟩:=hlv;obtain⟨g2,t2,cs2,f2,p2,q2,hg2,ht2,hv2,hd2,_,_⟩:=hlv;obtain rfl:=Option.some.inj (gPow.symm.trans hg1);obtain rfl:=Option.some.inj (gPowT.symm.trans ht1);obtain rfl:=Option.some.inj (gRows.symm.trans hg2);obtain rfl:=Option.some.inj (gRowsT.symm.trans ht2);have hc1:=Lib.cells_of_tab (zs:=Lib.pow10Tab) uPow uU64 nU64 nPow hd1;have hc2:=xJl hd2;have hb:∀(n:String) (g:Nat) (cs:Array Value),prog.globalNamed n=some g->W.var? prog n=some cs->∃T f,W.heap[g]?=some (.cells cs T f):=by
  intro n g cs hn hv;unfold World.var? at hv;rw[hn,Option.bind_some] at hv;split at hv
  ·rename_i c t f hh;cases hv;exact⟨_,_,hh⟩
  ·cases hv
 obtain⟨T1,fr1,hh1⟩:=hb _ _ _ gPow hv1;obtain⟨T2,fr2,hh2⟩:=hb _ _ _ gRows hv2;have row:∀(g:Nat) (cs:Array Value) (T:TypeId) (f:Nat×Nat) (xs:List IV),W.heap[g]?=some (.cells cs T f)->cs.size=xs.length->(∀(i:Nat) (r:Value) (c:IV),cs.toList[i]?=some r->xs[i]?=some c->c=.raw r/\zV0 r) →
   V 0 (L0 W) W (.pointer (some ⟨g,0,none⟩)) (.cptr (.agg xs)):=by
  intro g cs T f xs hh hl h;refine .cptr _ _ cs.toList rfl (by simpa[IV.cells] using hl) ?_ (λi r hr=>?_) (λi r c hr hc=>?_)
  ·show 0+cs.toList.length<=L0 W g;simp[L0,hh]
  ·show W.cell? ⟨g,0+i,none⟩=some r;simp only[World.cell?,hh,Nat.zero_add];simpa using hr
  ·obtain⟨rfl,hk⟩:=h i r c hr hc;exact .raw _ hk
 have hp:∀(i:Nat) (r:Value) (c:IV),cs1.toList[i]?=some r->pow10L[i]?=some c->c=.raw r/\zV0 r:=by
  intro i r c hr hc;rw[hc1,List.getElem?_map] at hr;unfold pow10L at hc;rw[List.getElem?_map] at hc;obtain⟨z,hz,rfl⟩:=Option.map_eq_some_iff.1 hr;rw[hz] at hc;cases hc;exact⟨rfl,trivial⟩
 have hs1:cs1.size=pow10L.length:=by
  rw[<- Array.length_toList,hc1];simp[pow10L]
 have hs2:cs2.size=rowsL.length:=by
  rw[<- Array.length_toList,hc2.1];rfl
 refine⟨λb o h=>(by cases h),λg x hx=>?_,Nat.zero_le _,λb hb=>?_,λg x hx=>?_,λ_=>Nat.zero_le _⟩
 ·match g,hx with
  | 0,hx=>cases hx;exact row 0 cs2 T2 fr2 _ hh2 hs2 (λi r c hr hc=>zUb hc2.1 hc2.2 i r c hr hc)
  | 2,hx=>cases hx;exact row 2 cs1 T1 fr1 _ hh1 hs1 hp
 ·show L0 W b=0;unfold L0;rw[Array.getElem?_eq_none (show W.heap.size<=b from hb)]
 ·match g,hx with
  | 0,hx=>cases hx;exact⟨T2,fr2 == (0,0),by show shq W 0=_;simp[shq,hh2,hs2,IV.cells]⟩
  | 2,hx=>cases hx;exact⟨T1,fr1 == (0,0),by show shq W 2=_;simp[shq,hh1,hs1,IV.cells]⟩
theorem zG8 {W:World}{X':WS}(h:Ext (X0 W) X'):Below W.heap.size W X'.w :=
 ⟨h.os,h.tape,h.output,h.size,λk hk=>(h.keep k hk rfl).1⟩
theorem wJp:laidOutB prog=true:=by kernel_rfl
theorem yYw {H:Type}{enc:TypeId×Value->H}{W W':World}(hb:Below W.heap.size W W')(sp:Nat->Bool):∀ {ts:List TypeId} {vs:List Value} {ds:List (DataW H)} {ps:List MemPlace},
  (∀t∈ts,prog.readableRec t=true/\t<prog.types.size)->DataW.TrodAll enc prog W 0 (λ_=>true) true ts vs ds ps->(∀p∈ps,p.block<W.heap.size)->(∀p∈ps,sp p.block=true) →
  DataW.TrodAll enc prog W' 0 sp true ts vs ds ps
 | [],vs,ds,ps,_,h,_,_=>by
  obtain⟨rfl,rfl,rfl⟩:=trodAll_nil h;rfl
 | t::ts,vs,ds,ps,ht,h,hlt,hsp=>by
  obtain⟨v,vs1,d,ds1,a,b,rfl,rfl,rfl,h1,h2⟩:=trodAll_cons h;refine⟨a,b,WideElems.Trod_stays wJp (ht t (by simp)).1 (ht t (by simp)).2 h1 (λp hp=>hb.same (hlt p (by simp[hp]))) (λp hp=>hsp p (by simp[hp])),?_,rfl⟩;exact yYw hb sp (λt h=>ht t (by simp[h])) h2 (λp hp=>hlt p (by simp[hp])) (λp hp=>hsp p (by simp[hp]))
theorem wQ1 {H:Type}{enc:TypeId×Value->H}{f:Func}{s:ChangeSpec}{fid:FuncId}{W:World}{args:Array Value}{ds gs:List (DataW H)}{before:List MemPlace}{ivs:List IV}
  (hvars:s.vars=[]) (hW:DataW.Whole enc prog f.params.toList s.vars false W args.toList ds gs before) (hfn:s.fn H (ds++gs)={ results:=[.lit (.bool true)],args:=ds })
  (hres:f.resultTypes=#[4]) (hread:∀t∈f.params.toList,prog.readableRec t=true/\t<prog.types.size) (hg:Go.Iv.Good ⟨prog,gl0,0⟩ (X0 W)) (hv:VL 0 (L0 W) W args.toList ivs)
  (hc:ICall prog gl0 fid ivs (λ_=>none) (λr st'=>r=.raw (.bool true)/\st'=λ_=>none)) :
  Calls prog fid args W λe W'=>∃v,e=.returned v/\s.post enc prog f false true false false W args v W':=by
 refine (hc 0 (X0 W) args.toList hg rfl hv).mono ?_;rintro e W' ⟨v,rfl,X',x,rfl,hg',he,hx,rfl,_⟩;obtain rfl:=V.raw_inv hx;have hb:=zG8 he;refine⟨_,rfl,?_⟩;have hW':=hW;obtain⟨p,q,hA,hV,rfl,hz,_⟩:=hW;rw[hvars] at hV;have hgs:gs=[]/\q=[]:=by
  cases gs with
  | nil=>exact⟨rfl,hV⟩
  | cons _ _=>exact absurd hV (by simp[DataW.TrodVars])
 obtain⟨rfl,rfl⟩:=hgs;have hlt:∀x∈p,x.block<W.heap.size:=λx hx=>by simpa using hW'.lt x (by simpa using hx)
 have hargs:∀sp:Nat->Bool,(∀x∈p,sp x.block=true)->DataW.TrodAll enc prog X'.w 0 sp true f.params.toList args.toList (s.fn H (ds++[])).args p:=λsp hsp=>by
  rw[hfn];exact yYw hb sp hread hA hlt hsp
 have hr:∀(b:Nat) (sp:Nat->Bool) (hd:Bool),DataW.TrodAll enc prog X'.w b sp hd f.resultTypes.toList ((Value.bool true).resultList f.resultTypes.size) (s.fn H (ds++[])).results []:=λ_ _ _=>by
  rw[hfn,hres];exact trodAll_cons_mk (shut_bool xV7 _) trodAll_mk0
 have hvs:∀sp:Nat->Bool,DataW.TrodVars enc prog X'.w sp s.vars (s.fn H (ds++[])).vars []:=λ_=>by
  rw[hvars,hfn];rfl
 have hsz:∀x∈p,(λb=>decide (b<W.heap.size)) x.block=true:=λx hx=>by simpa using hlt x hx
 refine⟨ds,[],p++[],[],p,[],hW',hr _ _ _,hargs _ hsz,hvs _,World.keptBut_mono (λx hx=>⟨hx,Or.inr (by simpa using hx)⟩) (hb.frame (·∈p++[])),λ_=>⟨ok_one hres rfl (okWide_bool_mk xV7 _),_,_,([]++p)++[],
  ⟨[]++p,[],trodAll_append (hargs _ (λ_ _=>rfl)) (hr _ _ _),hvs _,rfl,?_,λh=>by cases h⟩,λx hx _=>by simpa using hx⟩⟩
 intro b off hp;rw[hb.frozen (p:=⟨b,off,none⟩) (hlt (.cell b off) (by simpa using hp))];exact hz b off (by simpa using hp)
theorem wXx {W:World}{base:Nat}{v:Value}{s:Sq}{x:IV}(h:Value.okWide prog W .any base 24 v)(hx:VL 0 (L0 W) W v.cells.toList x.cells)(hf:IsSq s x):V 0 (L0 W) W v x:=by
 obtain⟨cs,rfl,_⟩:=WideShapes.okWide_struct uSeq h;obtain⟨_,_,_,_,rfl,_⟩:=hf;cases cs;exact hx.agg
theorem xXy {α:Prop}{W:World}{base:Nat}{v:Value}(h:Value.okWide prog W .any base 5 v)(_:α):∃b:Nat,v=.int .u8 b/\V 0 (L0 W) W (.int .u8 b) (.raw (.int .u8 b))/\b<256:=by
 simp only[Value.okWide,uU8,Cell.okWide] at h;cases v<;>simp_all [Cell.ok];rename_i k n;obtain⟨rfl,h1,h2⟩:=h;have e1:IntKind.u8.min=0:=by decide
 have e2:IntKind.u8.max=255:=by decide
 rw[e1] at h1;rw[e2] at h2;refine⟨n.toNat,?_,?_,?_⟩
 ·omega
 ·exact .raw _ trivial
 ·omega
def tab32:List Int:=[0,1,28,2,29,14,24,3,30,22,20,15,25,17,4,8,31,27,13,23,21,19,16,7,26,12,18,6,11,5,10,9]
def tab64:List Int:=[0,1,56,2,57,49,28,3,61,58,42,50,38,29,17,4,62,47,59,36,45,43,51,22,53,39,33,30,24,18,12,5,63,55,48,27,60,41,37,16,46,35,44,21,52,32,23,11,54,26,40,15,34,20,31,10,25,14,19,9,13,8,7,6]
def lay (cs:List Value):Obj->Obj
 | .cells _ t frozen=>.cells cs.toArray t frozen
 | o=>o
noncomputable def zZo (os:Os):World :=
 { World.holding prog os ⟨#[],#[],[]⟩ with heap:=((((World.holding prog os ⟨#[],#[],[]⟩).heap.modify 0 (lay ((List.range 17).flatMap rowV))).modify 2 (lay (Lib.pow10Tab.map λz=>.int .u64 z))).modify 3 (lay (tab32.map λz=>.int .u8 z))).modify 4 (lay (tab64.map λz=>.int .u8 z)) }
theorem wQ2 (os:Os)(args:Array Value):laidMet prog Rows.searchWrongUptoRow.laid ((zZo os).forCall (λ_ _=>0) ⟨#[],args,[]⟩).memory :=
 laidMet_of_run' 8 (by kernel_rfl) (by kernel_rfl)
end Go.Proofs.Tryz
namespace Go.Proofs.Tryz
open Go Go.Iv
theorem wJt {W:World}{base:Nat}{v:Value}(h:Value.okWide prog W .any base 3 v):∃b:Int,v=.int .i64 b/\V 0 (L0 W) W (.int .i64 b) (.raw (.int .i64 b)):=by
 simp only[Value.okWide,uInt,Cell.okWide] at h;cases v<;>simp_all [Cell.ok];exact .raw _ trivial
