/- Walks: models of SequentSound: holds. -/
import Derived.Test.YtabhgbojkjcfjaaGreatDoorQA
import Derived.Shelf.SlSortCmp.NoneTotal
set_option linter.all false
open Nat renaming reduceEqDiff → zE,reduceBEq → zB,reduceAdd → zA,reduceMul → zM,reduceSub → zS,reduceLeDiff → zL
namespace Go.Proofs.Tryz
open Go Go.Iv
set_option maxRecDepth 4000
variable (gl:Nat->Option IV)
def idxL (e:Nat)(vs:List Nat):Nat:=vs.foldl (λa v=>a*e+v) 0
def toMd (M:Mo):Md where
 sees w:=(M.sees[w]?).getD []
 E:=M.elems
 P n vs w:=decide (M.bit (keyB 80 vs.length n) (idxL M.elems vs*M.sees.length+w)=1)
 F n vs:=M.bit (keyB 102 vs.length n) (idxL M.elems vs)%M.elems
 V n:=M.bit (keyB 118 0 n) 0%M.elems
theorem z00:((0:Int)<=0)=True:=eq_true (Int.le_refl 0)
theorem z01:((0:Int)<=1)=True:=eq_true (by omega)
theorem zt0:Int.toNat 0=0:=rfl
theorem zt1:Int.toNat 1=1:=rfl
theorem wVt (M:Mo)(n:ByteArray)(vs:List Nat)(w:Nat):(toMd M).P n vs w=decide (M.bit (keyB 80 vs.length n) (vs.foldl (λa v=>a*M.elems+v) 0*M.sees.length+w)=1):=rfl
theorem zX7 (M:Md)(env:Env):∀l:List Tm,(yWx M env l).length=l.length
 | []=>rfl
 | a::l=>by simp only[yWx,List.length_cons,zX7 M env l]
mutual
theorem vQy (M:Mo)(env:Env):∀t:Tm,M.val env t=valT (toMd M) env t
 | .mk v n us=>by
  cases v
  ·simp only[Mo.val,valT,toMd,bFt,if_false,zX7];rw[wQr M env us 0];rfl
  ·simp only[Mo.val,valT,toMd,if_true];cases yVg env n<;>rfl
theorem wQr (M:Mo)(env:Env):∀(l:List Tm) (acc:Nat),M.idx env l acc=(yWx (toMd M) env l).foldl (λa v=>a*M.elems+v) acc
 | [],acc=>rfl
 | a::l,acc=>by
  simp only[Mo.idx,yWx,List.foldl_cons];rw[vQy M env a,wQr M env l]
end
mutual
def shF:Fm->Prop
 | .mk op n us sub=>n.size<=1000000000/\us.length<=40/\nmTs us/\(1<=op/\op<=9)/\(op=3\/op=8\/op=9->sub.length=1)/\(op=4\/op=5\/op=6\/op=7->sub.length=2)/\shFs sub
def shFs:List Fm->Prop
 | []=>True
 | a::l=>shF a/\shFs l
end
theorem yJe:∀ {l:List Fm}{a:Fm},shFs l->a∈l->shF a
 | b::l,a,h,ha=>by
  simp only[shFs] at h;rcases List.mem_cons.1 ha with rfl|ha
  ·exact h.1
  ·exact yJe h.2 ha
structure SeesOk (M:Mo):Prop where
 n:M.sees.length<=1000
 row:∀l∈M.sees,l.length<=1000/\∀v∈l,v<M.sees.length
def HOLD (M:Mo)(f:Fm):Prop:=∀(cs:List IV) (_:IsMo M cs) (x:IV) (_:IsFm f x) (_:shF f) (w:Nat) (_:w<M.sees.length) (E:Env) (y z:IV) (_:IsEnv M E y z) (_:E.length+f.size<=1000000000) (st:ISt),
 ICall prog gl 78 [.cptr (.agg cs),x,.raw (.int .i64 (w:Int)),y,z] st (λr st'=>r=.raw (.bool (hold (toMd M) f E.reverse w))/\st'=st)
theorem IsSees.len:∀ {l:List (List Nat)}{xs:List IV},IsSees l xs->xs.length=l.length
 | [],xs,h=>by simp only[IsSees] at h;subst h;rfl
 | a::l,xs,h=>by
  obtain⟨t,ys,rfl,_,h⟩:=h;simp[IsSees.len h]
theorem IsSees.get:∀ {l:List (List Nat)}{xs:List IV}{k:Nat}{a:List Nat},IsSees l xs->l[k]?=some a->∃t,xs[k]?=some (.sl t (yXk a))/\okEs t 1
 | a::l,xs,0,b,h,hk=>by
  obtain⟨t,ys,rfl,ht,h⟩:=h;simp only[List.getElem?_cons_zero,Option.some.injEq] at hk;subst hk;exact⟨t,rfl,ht⟩
 | a::l,xs,k+1,b,h,hk=>by
  obtain⟨t,ys,rfl,ht,h⟩:=h;exact IsSees.get (k:=k) h (by simpa using hk)
set_option maxHeartbeats 2000000 in
theorem xY4 (M:Mo)(hO:MoOk M)(hS:SeesOk M)(o:Nat)(n:ByteArray)(us:List Tm)(sub:List Fm)(IH:∀a∈sub,HOLD gl M a):HOLD gl M (.mk o n us sub):=by
 intro cs hM x hx hsh w hw E y z hE hEl st;simp only[shF] at hsh;obtain⟨hn,hul,hut,ho,h1s,h2s,hsub⟩:=hsh;simp only[Fm.size] at hEl;have hM0:=hM;have hIH:=λa (ha:a∈sub) x hx st=>IH a ha cs hM x hx (yJe hsub ha) w hw E y z hE (by have:=yJh ha;omega) st;obtain⟨tg,xs,tg',ys,rfl,hop,htg,hxs,htg',hys⟩:=hx.mk;have hIx:=λst=>wGi gl M hO us cs hM tg xs htg hxs hut hul E y z hE st;have hkf:=λst=>wK5 gl 80 us.length (by omega) n hn st;simp only[show (((80:UInt8).toNat:Nat):Int)=80 from rfl] at hkf;have hbi:=λk i hi st=>wU9 gl M cs hM hO k i hi st;have hil:=wQq M hO hE.lt us;have hpw:2 ^ us.length<=2 ^ 40:=Nat.pow_le_pow_right (by omega) hul;have h40:(2:Nat) ^ 40=1099511627776:=by decide
 have hsn:=hS.n;obtain⟨t1,x1,t2,t3,rfl,e1,hse,e2,e3⟩:=hM;obtain⟨t4,rfl,e4⟩:=hE.y;obtain⟨t5,rfl,e5⟩:=hE.z;refine ICall.intro (c:=cf prog gl [] [(3,[0,1,2,3,4,5,7,8,9,10,11,13,14,15,16,17,19,6,12,18,20,21,22,23]),(15,[0,1,2,3,4,5,6,7,9,10,11,13,14,16,17,20,21,22,8,12,15,18,19,23])]) func78 rfl (by show _<=192;simp) (by kernel_rfl) ?_;have hone:∀k,o=k->(k=1\/k=2\/k=3\/k=4\/k=5\/k=6\/k=7\/k=8\/k=9):=λk hk=>by omega
 rcases hone o rfl with rfl|rfl|rfl|rfl|rfl|rfl|rfl|rfl|rfl
 ·have hmul:IntKind.i64.wrap (((M.idx E.reverse us 0:Nat):Int)*(M.sees.length:Int))=((M.idx E.reverse us 0*M.sees.length:Nat):Int):=by
   have:=Nat.mul_le_mul_left (M.idx E.reverse us 0) hsn;rw[<- Int.natCast_mul,w64]<;>omega
  have hadd:IntKind.i64.wrap (((M.idx E.reverse us 0*M.sees.length:Nat):Int)+(w:Int))=((M.idx E.reverse us 0*M.sees.length+w:Nat):Int):=by
   have:=Nat.mul_le_mul_left (M.idx E.reverse us 0) hsn;rw[w64]<;>omega
  have hle:M.idx E.reverse us 0*M.sees.length+w<=4611686018427387904:=by
   have:=Nat.mul_le_mul_left (M.idx E.reverse us 0) hsn;omega
  simp only[go_sem,zE,zA,reduceCtorEq,fits,show decide (((1:Nat):Int)=1)=true from rfl,hxs.len];intros;refine (hkf _).mono ?_;rintro _ st ⟨rfl,rfl⟩;simp only[go_sem,zE,zA];refine (hIx _).mono ?_;rintro _ st ⟨rfl,rfl⟩;simp only[go_sem,zE,zA,hse.len,hmul,hadd];intros;refine (hbi _ _ hle _).mono ?_;rintro _ st ⟨rfl,rfl⟩;simp only[go_sem];refine yQ0 ⟨?_,rfl⟩;rw[hold,if_pos rfl];rw[wVt,zX7,<- wQr];congr 2;rw[decide_eq_decide];omega
 ·simp only[go_sem,zE,show decide (((2:Nat):Int)=1)=false from rfl,show decide (((2:Nat):Int)=2)=true from rfl];exact yQ0 ⟨by simp[hold],rfl⟩
 ·obtain⟨a,rfl⟩:∃a,sub=[a]:=by
   match sub,h1s (by omega) with
   | [a],_=>exact⟨a,rfl⟩
  obtain⟨xa,hka,hxa⟩:=hys.get (k:=0) rfl;obtain⟨l,hl⟩:=yQ4 hw;obtain⟨t6,hxl,e6⟩:=hse.get hl;have hrow:=hS.row l (lMg hl);have hA:=λv (hv:v∈l) st=>IH a (by simp) _ hM0 xa hxa (yJe hsub (by simp)) v (hrow.2 v hv) E _ _ hE (by simp only[yQ7] at hEl;omega) st;obtain⟨_,_,_,_,_,_,rfl⟩:=hxa.agg;have hfin:hold (toMd M) (.mk 3 n us [a]) E.reverse w=l.all λv=>!hold (toMd M) a E.reverse v:=by
   simp[hold,yJ0,toMd,hl]
  simp only[go_sem,zE,show decide (((3:Nat):Int)=1)=false from rfl,show decide (((3:Nat):Int)=2)=false from rfl,show decide (((3:Nat):Int)=4)=false from rfl,show decide (((3:Nat):Int)=5)=false from rfl,show decide (((3:Nat):Int)=8)=false from rfl,show decide (((3:Nat):Int)=9)=false from rfl];refine LoopC.ctr l.length (λk fr st' ds=>(l.take k).all (λv=>!hold (toMd M) a E.reverse v)=true/\fr 0=.iv (.cptr (.agg [.sl t1 x1,.raw (.int .i64 (M.elems:Int)),.sl t2 (M.syms.map λp=>.raw (.string p.1)),.sl t3 (M.syms.map λp=>.raw (.int .i64 (p.2:Int))),.raw (.int .i64 (M.bits:Int)),.raw (.int .i64 (M.table:Int))]))/\fr 2=.iv (.raw (.int .i64 (w:Int)))/\fr 3=.iv (.sl t4 (E.map λp=>.raw (.string p.1)))/\fr 4=.iv (.sl t5 (E.map λp=>.raw (.int .i64 (p.2:Int)))) /\
   fr 6=.box [.raw (.int .u8 ((3:Nat):Int)),.raw (.string n),.sl tg xs,.sl tg' ys]/\fr 12=.iv (.raw (.int .i64 (k:Int)))/\st'=st/\ds=[]) ?_ ?_ ?_
  ·simp only[go_sem,zE,reduceCtorEq];simp
  ·rintro k fr _ _ hlt ⟨hall,f0,f2,f3,f4,f6,f12,rfl,rfl⟩;obtain⟨v,hv⟩:=yQ4 hlt;have hvi:(yXk l)[k]?=some (.raw (.int .i64 (v:Int))):=by unfold yXk;rw[List.getElem?_map,hv];rfl
   have hll:(yXk l).length=l.length:=by simp[yXk]
   simp only[go_sem,zE,zB,zA,reduceCtorEq,f0,f2,f3,f4,f6,f12,fits,iNn,hxl,hll,lt_i hlt,yQ1 e1,yQ1 e6,hvi,hka,yQ1 htg',z00,zt0];intros;refine (hA v (lMg hv) _).mono ?_;rintro _ _ ⟨rfl,rfl⟩;cases hh:hold (toMd M) a E.reverse v
   ·simp only[go_sem,zE,zA,reduceCtorEq,f0,f2,f3,f4,f6,f12,show decide (((3:Nat):Int)=3)=true from rfl,show decide (((3:Nat):Int)=7)=false from rfl,yQf hlt (show l.length<=281474976710656 by omega)];rw[yQ6 hv,List.all_append,hall];simp[hh]
   ·simp only[go_sem,zE,zA,f6,show decide (((3:Nat):Int)=3)=true from rfl];refine yQ0 ⟨?_,rfl⟩;rw[hfin,List.all_eq_false.2 ⟨v,lMg hv,by rw[hh];simp⟩]
  ·rintro fr _ _ ⟨hall,f0,f2,f3,f4,f6,f12,rfl,rfl⟩;have hll:(yXk l).length=l.length:=by simp[yXk]
   rw[lTl] at hall;simp only[go_sem,zE,reduceCtorEq,f0,f2,f12,fits,iNn,hxl,hll,yQ1 e1,yQs (nLi _)];intros;exact yQ0 ⟨by rw[hfin,hall],rfl⟩
 ·obtain⟨a,b,rfl⟩:∃a b,sub=[a,b]:=by
   match sub,h2s (by omega) with
   | [a,b],_=>exact⟨a,b,rfl⟩
  obtain⟨xa,hka,hxa⟩:=hys.get (k:=0) rfl;obtain⟨xb,hkb,hxb⟩:=hys.get (k:=1) rfl;have hA:=λst=>hIH a (by simp) xa hxa st;have hB:=λst=>hIH b (by simp) xb hxb st;obtain⟨_,_,_,_,_,_,rfl⟩:=hxa.agg;obtain⟨_,_,_,_,_,_,rfl⟩:=hxb.agg;simp only[go_sem,zE,zB,zA,reduceCtorEq,fits,show decide (((4:Nat):Int)=1)=false from rfl,show decide (((4:Nat):Int)=2)=false from rfl,show decide (((4:Nat):Int)=4)=true from rfl,hka,yQ1 htg',z00,zt0];refine (hA _).mono ?_;rintro _ st ⟨rfl,rfl⟩;cases hh:hold (toMd M) a E.reverse w
  ·simp only[go_sem,zE];exact yQ0 ⟨by simp[hold,yJ0,hh],rfl⟩
  ·simp only[go_sem,zE,zB,zA,reduceCtorEq,fits,hkb,yQ1 htg',z01,zt1];refine (hB _).mono ?_;rintro _ st ⟨rfl,rfl⟩;simp only[go_sem,zE];exact yQ0 ⟨by simp[hold,yJ0,hh],rfl⟩
 ·obtain⟨a,b,rfl⟩:∃a b,sub=[a,b]:=by
   match sub,h2s (by omega) with
   | [a,b],_=>exact⟨a,b,rfl⟩
  obtain⟨xa,hka,hxa⟩:=hys.get (k:=0) rfl;obtain⟨xb,hkb,hxb⟩:=hys.get (k:=1) rfl;have hA:=λst=>hIH a (by simp) xa hxa st;have hB:=λst=>hIH b (by simp) xb hxb st;obtain⟨_,_,_,_,_,_,rfl⟩:=hxa.agg;obtain⟨_,_,_,_,_,_,rfl⟩:=hxb.agg;simp only[go_sem,zE,zB,zA,reduceCtorEq,fits,show decide (((5:Nat):Int)=1)=false from rfl,show decide (((5:Nat):Int)=2)=false from rfl,show decide (((5:Nat):Int)=4)=false from rfl,show decide (((5:Nat):Int)=5)=true from rfl,hka,yQ1 htg',z00,zt0];refine (hA _).mono ?_;rintro _ st ⟨rfl,rfl⟩;cases hh:hold (toMd M) a E.reverse w
  ·simp only[go_sem,zE,zB,zA,reduceCtorEq,fits,hkb,yQ1 htg',z01,zt1];refine (hB _).mono ?_;rintro _ st ⟨rfl,rfl⟩;simp only[go_sem,zE];exact yQ0 ⟨by simp[hold,yJ0,hh],rfl⟩
  ·simp only[go_sem,zE];exact yQ0 ⟨by simp[hold,yJ0,hh],rfl⟩
 ·obtain⟨a,b,rfl⟩:∃a b,sub=[a,b]:=by
   match sub,h2s (by omega) with
   | [a,b],_=>exact⟨a,b,rfl⟩
  obtain⟨xa,hka,hxa⟩:=hys.get (k:=0) rfl;obtain⟨xb,hkb,hxb⟩:=hys.get (k:=1) rfl;obtain⟨l,hl⟩:=yQ4 hw;obtain⟨t6,hxl,e6⟩:=hse.get hl;have hrow:=hS.row l (lMg hl);have hA:=λv (hv:v∈l) st=>IH a (by simp) _ hM0 xa hxa (yJe hsub (by simp)) v (hrow.2 v hv) E _ _ hE (by simp only[yQ7] at hEl;omega) st;have hB:=λv (hv:v∈l) st=>IH b (by simp) _ hM0 xb hxb (yJe hsub (by simp)) v (hrow.2 v hv) E _ _ hE (by simp only[yQ7] at hEl;omega) st;obtain⟨_,_,_,_,_,_,rfl⟩:=hxa.agg;obtain⟨_,_,_,_,_,_,rfl⟩:=hxb.agg;have hfin:hold (toMd M) (.mk 6 n us [a,b]) E.reverse w=l.all λv=>impB [hold (toMd M) a E.reverse v,hold (toMd M) b E.reverse v]:=by
   simp[hold,yJ0,toMd,hl]
  simp only[go_sem,zE,show decide (((6:Nat):Int)=1)=false from rfl,show decide (((6:Nat):Int)=2)=false from rfl,show decide (((6:Nat):Int)=4)=false from rfl,show decide (((6:Nat):Int)=5)=false from rfl,show decide (((6:Nat):Int)=8)=false from rfl,show decide (((6:Nat):Int)=9)=false from rfl];refine LoopC.ctr l.length (λk fr st' ds=>(l.take k).all (λv=>impB [hold (toMd M) a E.reverse v,hold (toMd M) b E.reverse v])=true/\fr 0=.iv (.cptr (.agg [.sl t1 x1,.raw (.int .i64 (M.elems:Int)),.sl t2 (M.syms.map λp=>.raw (.string p.1)),.sl t3 (M.syms.map λp=>.raw (.int .i64 (p.2:Int))),.raw (.int .i64 (M.bits:Int)),.raw (.int .i64 (M.table:Int))]))/\fr 2=.iv (.raw (.int .i64 (w:Int)))/\fr 3=.iv (.sl t4 (E.map λp=>.raw (.string p.1)))/\fr 4=.iv (.sl t5 (E.map λp=>.raw (.int .i64 (p.2:Int)))) /\
   fr 6=.box [.raw (.int .u8 ((6:Nat):Int)),.raw (.string n),.sl tg xs,.sl tg' ys]/\fr 12=.iv (.raw (.int .i64 (k:Int)))/\st'=st/\ds=[]) ?_ ?_ ?_
  ·simp only[go_sem,zE,reduceCtorEq];simp
  ·rintro k fr _ _ hlt ⟨hall,f0,f2,f3,f4,f6,f12,rfl,rfl⟩;obtain⟨v,hv⟩:=yQ4 hlt;have hvi:(yXk l)[k]?=some (.raw (.int .i64 (v:Int))):=by unfold yXk;rw[List.getElem?_map,hv];rfl
   have hll:(yXk l).length=l.length:=by simp[yXk]
   simp only[go_sem,zE,zB,zA,reduceCtorEq,f0,f2,f3,f4,f6,f12,fits,iNn,hxl,hll,lt_i hlt,yQ1 e1,yQ1 e6,hvi,hka,yQ1 htg',z00,zt0];intros;refine (hA v (lMg hv) _).mono ?_;rintro _ _ ⟨rfl,rfl⟩;have hB':=hB v (lMg hv);cases hh:hold (toMd M) a E.reverse v<;>cases hh':hold (toMd M) b E.reverse v<;>rw[hh'] at hB'
   ·simp only[go_sem,zE,zB,zA,reduceCtorEq,f0,f3,f4,f6,fits,show decide (((6:Nat):Int)=3)=false from rfl,hkb,yQ1 htg',z01,zt1];intros;refine (hB' _).mono ?_;rintro _ _ ⟨rfl,rfl⟩;simp only[go_sem,zE,zA,reduceCtorEq,f0,f2,f3,f4,f6,f12,show decide (((6:Nat):Int)=7)=false from rfl,yQf hlt (show l.length<=281474976710656 by omega)];rw[yQ6 hv,List.all_append,hall];simp[hh,hh',impB]
   ·simp only[go_sem,zE,zB,zA,reduceCtorEq,f0,f3,f4,f6,fits,show decide (((6:Nat):Int)=3)=false from rfl,hkb,yQ1 htg',z01,zt1];intros;refine (hB' _).mono ?_;rintro _ _ ⟨rfl,rfl⟩;simp only[go_sem,zE,zA,reduceCtorEq,f0,f2,f3,f4,f6,f12,show decide (((6:Nat):Int)=7)=false from rfl,yQf hlt (show l.length<=281474976710656 by omega)];rw[yQ6 hv,List.all_append,hall];simp[hh,hh',impB]
   ·simp only[go_sem,zE,zB,zA,reduceCtorEq,f0,f3,f4,f6,fits,show decide (((6:Nat):Int)=3)=false from rfl,hkb,yQ1 htg',z01,zt1];intros;refine (hB' _).mono ?_;rintro _ _ ⟨rfl,rfl⟩;simp only[go_sem,zE];refine yQ0 ⟨?_,rfl⟩;rw[hfin,List.all_eq_false.2 ⟨v,lMg hv,by rw[hh,hh'];simp[impB]⟩]
   ·simp only[go_sem,zE,zB,zA,reduceCtorEq,f0,f3,f4,f6,fits,show decide (((6:Nat):Int)=3)=false from rfl,hkb,yQ1 htg',z01,zt1];intros;refine (hB' _).mono ?_;rintro _ _ ⟨rfl,rfl⟩;simp only[go_sem,zE,zA,reduceCtorEq,f0,f2,f3,f4,f6,f12,show decide (((6:Nat):Int)=7)=false from rfl,yQf hlt (show l.length<=281474976710656 by omega)];rw[yQ6 hv,List.all_append,hall];simp[hh,hh',impB]
  ·rintro fr _ _ ⟨hall,f0,f2,f3,f4,f6,f12,rfl,rfl⟩;have hll:(yXk l).length=l.length:=by simp[yXk]
   rw[lTl] at hall;simp only[go_sem,zE,reduceCtorEq,f0,f2,f12,fits,iNn,hxl,hll,yQ1 e1,yQs (nLi _)];intros;exact yQ0 ⟨by rw[hfin,hall],rfl⟩
 ·obtain⟨a,b,rfl⟩:∃a b,sub=[a,b]:=by
   match sub,h2s (by omega) with
   | [a,b],_=>exact⟨a,b,rfl⟩
  obtain⟨xa,hka,hxa⟩:=hys.get (k:=0) rfl;obtain⟨xb,hkb,hxb⟩:=hys.get (k:=1) rfl;obtain⟨l,hl⟩:=yQ4 hw;obtain⟨t6,hxl,e6⟩:=hse.get hl;have hrow:=hS.row l (lMg hl);have hA:=λv (hv:v∈l) st=>IH a (by simp) _ hM0 xa hxa (yJe hsub (by simp)) v (hrow.2 v hv) E _ _ hE (by simp only[yQ7] at hEl;omega) st;have hB:=λv (hv:v∈l) st=>IH b (by simp) _ hM0 xb hxb (yJe hsub (by simp)) v (hrow.2 v hv) E _ _ hE (by simp only[yQ7] at hEl;omega) st;obtain⟨_,_,_,_,_,_,rfl⟩:=hxa.agg;obtain⟨_,_,_,_,_,_,rfl⟩:=hxb.agg;have hfin:hold (toMd M) (.mk 7 n us [a,b]) E.reverse w=l.all λv=>iffB [hold (toMd M) a E.reverse v,hold (toMd M) b E.reverse v]:=by
   simp[hold,yJ0,toMd,hl]
  simp only[go_sem,zE,show decide (((7:Nat):Int)=1)=false from rfl,show decide (((7:Nat):Int)=2)=false from rfl,show decide (((7:Nat):Int)=4)=false from rfl,show decide (((7:Nat):Int)=5)=false from rfl,show decide (((7:Nat):Int)=8)=false from rfl,show decide (((7:Nat):Int)=9)=false from rfl];refine LoopC.ctr l.length (λk fr st' ds=>(l.take k).all (λv=>iffB [hold (toMd M) a E.reverse v,hold (toMd M) b E.reverse v])=true/\fr 0=.iv (.cptr (.agg [.sl t1 x1,.raw (.int .i64 (M.elems:Int)),.sl t2 (M.syms.map λp=>.raw (.string p.1)),.sl t3 (M.syms.map λp=>.raw (.int .i64 (p.2:Int))),.raw (.int .i64 (M.bits:Int)),.raw (.int .i64 (M.table:Int))]))/\fr 2=.iv (.raw (.int .i64 (w:Int)))/\fr 3=.iv (.sl t4 (E.map λp=>.raw (.string p.1)))/\fr 4=.iv (.sl t5 (E.map λp=>.raw (.int .i64 (p.2:Int)))) /\
   fr 6=.box [.raw (.int .u8 ((7:Nat):Int)),.raw (.string n),.sl tg xs,.sl tg' ys]/\fr 12=.iv (.raw (.int .i64 (k:Int)))/\st'=st/\ds=[]) ?_ ?_ ?_
  ·simp only[go_sem,zE,reduceCtorEq];simp
  ·rintro k fr _ _ hlt ⟨hall,f0,f2,f3,f4,f6,f12,rfl,rfl⟩;obtain⟨v,hv⟩:=yQ4 hlt;have hvi:(yXk l)[k]?=some (.raw (.int .i64 (v:Int))):=by unfold yXk;rw[List.getElem?_map,hv];rfl
   have hll:(yXk l).length=l.length:=by simp[yXk]
   simp only[go_sem,zE,zB,zA,zM,zS,zL,reduceCtorEq,f0,f2,f3,f4,f6,f12,fits,iNn,hxl,hll,lt_i hlt,yQ1 e1,yQ1 e6,hvi,hka,yQ1 htg',z00,zt0];intros;refine (hA v (lMg hv) _).mono ?_;rintro _ _ ⟨rfl,rfl⟩;have hB':=hB v (lMg hv);cases hh:hold (toMd M) a E.reverse v<;>cases hh':hold (toMd M) b E.reverse v<;>rw[hh'] at hB'
   ·simp only[go_sem,zE,zB,zA,zM,zS,zL,reduceCtorEq,f0,f2,f3,f4,f6,f12,fits,show decide (((7:Nat):Int)=3)=false from rfl,show decide (((7:Nat):Int)=7)=true from rfl,decide_true,hka,hkb,yQ1 htg',z00,z01,zt0,zt1];intros;refine (hB' _).mono ?_;rintro _ _ ⟨rfl,rfl⟩;simp only[go_sem,zE,zB,zA,zM,zS,zL,reduceCtorEq,f0,f2,f3,f4,f6,f12,fits,show decide (((7:Nat):Int)=3)=false from rfl,show decide (((7:Nat):Int)=7)=true from rfl,decide_true,hka,hkb,yQ1 htg',z00,z01,zt0,zt1,yQf hlt (show l.length<=281474976710656 by omega)];rw[yQ6 hv,List.all_append,hall];simp[hh,hh',iffB]
   ·simp only[go_sem,zE,zB,zA,zM,zS,zL,reduceCtorEq,f0,f2,f3,f4,f6,f12,fits,show decide (((7:Nat):Int)=3)=false from rfl,show decide (((7:Nat):Int)=7)=true from rfl,decide_true,hka,hkb,yQ1 htg',z00,z01,zt0,zt1];intros;refine (hB' _).mono ?_;rintro _ _ ⟨rfl,rfl⟩;simp only[go_sem,zE,zB,zA,zM,zS,zL,reduceCtorEq,f0,f2,f3,f4,f6,f12,fits,show decide (((7:Nat):Int)=3)=false from rfl,show decide (((7:Nat):Int)=7)=true from rfl,decide_true,hka,hkb,yQ1 htg',z00,z01,zt0,zt1];refine yQ0 ⟨?_,rfl⟩;rw[hfin,List.all_eq_false.2 ⟨v,lMg hv,by rw[hh,hh'];simp[iffB]⟩]
   ·simp only[go_sem,zE,zB,zA,zM,zS,zL,reduceCtorEq,f0,f2,f3,f4,f6,f12,fits,show decide (((7:Nat):Int)=3)=false from rfl,show decide (((7:Nat):Int)=7)=true from rfl,decide_true,hka,hkb,yQ1 htg',z00,z01,zt0,zt1];intros;refine (hB' _).mono ?_;rintro _ _ ⟨rfl,rfl⟩;simp only[go_sem,zE,zB,zA,zM,zS,zL,reduceCtorEq,f0,f2,f3,f4,f6,f12,fits,show decide (((7:Nat):Int)=3)=false from rfl,show decide (((7:Nat):Int)=7)=true from rfl,decide_true,hka,hkb,yQ1 htg',z00,z01,zt0,zt1];refine yQ0 ⟨?_,rfl⟩;rw[hfin,List.all_eq_false.2 ⟨v,lMg hv,by rw[hh,hh'];simp[iffB]⟩]
   ·simp only[go_sem,zE,zB,zA,zM,zS,zL,reduceCtorEq,f0,f2,f3,f4,f6,f12,fits,show decide (((7:Nat):Int)=3)=false from rfl,show decide (((7:Nat):Int)=7)=true from rfl,decide_true,hka,hkb,yQ1 htg',z00,z01,zt0,zt1];intros;refine (hB' _).mono ?_;rintro _ _ ⟨rfl,rfl⟩;simp only[go_sem,zE,zB,zA,zM,zS,zL,reduceCtorEq,f0,f2,f3,f4,f6,f12,fits,show decide (((7:Nat):Int)=3)=false from rfl,show decide (((7:Nat):Int)=7)=true from rfl,decide_true,hka,hkb,yQ1 htg',z00,z01,zt0,zt1,yQf hlt (show l.length<=281474976710656 by omega)];rw[yQ6 hv,List.all_append,hall];simp[hh,hh',iffB]
  ·rintro fr _ _ ⟨hall,f0,f2,f3,f4,f6,f12,rfl,rfl⟩;have hll:(yXk l).length=l.length:=by simp[yXk]
   rw[lTl] at hall;simp only[go_sem,zE,zB,zA,zM,zS,zL,reduceCtorEq,f0,f2,f12,fits,iNn,hxl,hll,yQ1 e1,yQs (nLi _)];intros;exact yQ0 ⟨by rw[hfin,hall],rfl⟩
 ·obtain⟨a,rfl⟩:∃a,sub=[a]:=by
   match sub,h1s (by omega) with
   | [a],_=>exact⟨a,rfl⟩
  obtain⟨xa,hka,hxa⟩:=hys.get (k:=0) rfl;simp only[yQ7] at hEl;have hA:=λE' y z hE' hl' st=>IH a (by simp) _ hM0 xa hxa (yJe hsub (by simp)) w hw E' y z hE' hl' st;obtain⟨_,_,_,_,_,_,rfl⟩:=hxa.agg;have hfin:hold (toMd M) (.mk 8 n us [a]) E.reverse w=(List.range M.elems).all λe=>hold (toMd M) a ((n,e)::E.reverse) w:=by
   simp[hold,yJ0,toMd]
  have hEy:(E.map λp=>IV.raw (.string p.1)).length=E.length:=by simp
  have hEz:(E.map λp=>IV.raw (.int .i64 (p.2:Int))).length=E.length:=by simp
  have hEl2:E.length+1<=1000000000:=by omega
  have hOe:=hO.el;simp only[go_sem,zE,zB,zA,zM,zS,zL,reduceCtorEq,fits,show decide (((8:Nat):Int)=1)=false from rfl,show decide (((8:Nat):Int)=2)=false from rfl,show decide (((8:Nat):Int)=4)=false from rfl,show decide (((8:Nat):Int)=5)=false from rfl,show decide (((8:Nat):Int)=8)=true from rfl,show decide (((8:Nat):Int)=9)=false from rfl];refine LoopC.ctr M.elems (λk fr st' ds=>((List.range k).all λe=>hold (toMd M) a ((n,e)::E.reverse) w)=true/\fr 0=.iv (.cptr (.agg [.sl t1 x1,.raw (.int .i64 (M.elems:Int)),.sl t2 (M.syms.map λp=>.raw (.string p.1)),.sl t3 (M.syms.map λp=>.raw (.int .i64 (p.2:Int))),.raw (.int .i64 (M.bits:Int)),.raw (.int .i64 (M.table:Int))]))/\fr 2=.iv (.raw (.int .i64 (w:Int)))/\fr 3=.iv (.sl t4 (E.map λp=>.raw (.string p.1)))/\fr 4=.iv (.sl t5 (E.map λp=>.raw (.int .i64 (p.2:Int)))) /\
   fr 6=.box [.raw (.int .u8 ((8:Nat):Int)),.raw (.string n),.sl tg xs,.sl tg' ys]/\fr 11=.iv (.raw (.int .i64 (k:Int)))/\subSt st st'/\ds=[]) ?_ ?_ ?_
  ·simp only[go_sem,zE,zB,zA,zM,zS,zL,reduceCtorEq]
   first|exact⟨rfl,rfl,subSt.refl _⟩|exact⟨rfl,subSt.refl _⟩|(simp;exact subSt.refl _)
  ·rintro k fr st1 _ hlt ⟨hall,f0,f2,f3,f4,f6,f11,hsub1,rfl⟩;simp only[go_sem,zE,zB,zA,zM,zS,zL,reduceCtorEq,f0,f2,f3,f4,f6,f11,fits,show decide (((8:Nat):Int)=1)=false from rfl,show decide (((8:Nat):Int)=2)=false from rfl,show decide (((8:Nat):Int)=4)=false from rfl,show decide (((8:Nat):Int)=5)=false from rfl,show decide (((8:Nat):Int)=8)=true from rfl,show decide (((8:Nat):Int)=9)=false from rfl,lt_i hlt,hka,yQ1 htg',z00,zt0,show yQi 0 []=true from rfl,show yQi 1 [(0,Operand.tmp 110)]=true from rfl,show yQi 1 [(0,Operand.tmp 116)]=true from rfl];intros;refine zQ2 (S0:=st1) (n:=0) (s:=1) (own.full _ _ _ _) rfl hEy (subSt.refl _) rfl (List.all_eq_true.2 λz hz=>by obtain⟨p,_,rfl⟩:=List.mem_map.1 hz;rfl) (by show _*16<=_;omega) (by omega) λt7 st2 hown7 hsub7 _=>?_;simp only[go_sem,zE,zB,zA,zM,zS,zL,reduceCtorEq,f0,f2,f3,f4,f6,f11,fits,show decide (((8:Nat):Int)=1)=false from rfl,show decide (((8:Nat):Int)=2)=false from rfl,show decide (((8:Nat):Int)=4)=false from rfl,show decide (((8:Nat):Int)=5)=false from rfl,show decide (((8:Nat):Int)=8)=true from rfl,show decide (((8:Nat):Int)=9)=false from rfl,lt_i hlt,hka,yQ1 htg',z00,zt0,show yQi 0 []=true from rfl,show yQi 1 [(0,Operand.tmp 110)]=true from rfl,show yQi 1 [(0,Operand.tmp 116)]=true from rfl];intros;refine yVp hown7 (by rw[hEy,Nat.zero_add]) hsub7 rfl (by simp[fits,IV.one]) (by simp only;omega) (by omega) λt8 st3 hown8 hsub8 _=>?_;simp only[go_sem,zE,zB,zA,zM,zS,zL,reduceCtorEq,f0,f2,f3,f4,f6,f11,fits,show decide (((8:Nat):Int)=1)=false from rfl,show decide (((8:Nat):Int)=2)=false from rfl,show decide (((8:Nat):Int)=4)=false from rfl,show decide (((8:Nat):Int)=5)=false from rfl,show decide (((8:Nat):Int)=8)=true from rfl,show decide (((8:Nat):Int)=9)=false from rfl,lt_i hlt,hka,yQ1 htg',z00,zt0,show yQi 0 []=true from rfl,show yQi 1 [(0,Operand.tmp 110)]=true from rfl,show yQi 1 [(0,Operand.tmp 116)]=true from rfl];intros;refine zQ2 (S0:=st3) (n:=0) (s:=1) (own.full _ _ _ _) rfl hEz (subSt.refl _) rfl (List.all_eq_true.2 λz hz=>by obtain⟨p,_,rfl⟩:=List.mem_map.1 hz;rfl) (by show _*8<=_;omega) (by omega) λt9 st4 hown9 hsub9 _=>?_;simp only[go_sem,zE,zB,zA,zM,zS,zL,reduceCtorEq,f0,f2,f3,f4,f6,f11,fits,show decide (((8:Nat):Int)=1)=false from rfl,show decide (((8:Nat):Int)=2)=false from rfl,show decide (((8:Nat):Int)=4)=false from rfl,show decide (((8:Nat):Int)=5)=false from rfl,show decide (((8:Nat):Int)=8)=true from rfl,show decide (((8:Nat):Int)=9)=false from rfl,lt_i hlt,hka,yQ1 htg',z00,zt0,show yQi 0 []=true from rfl,show yQi 1 [(0,Operand.tmp 110)]=true from rfl,show yQi 1 [(0,Operand.tmp 116)]=true from rfl];intros;refine yVp hown9 (by rw[hEz,Nat.zero_add]) hsub9 rfl (by simp[fits,IV.one]) (by simp only;omega) (by omega) λt10 st5 hown10 hsub10 _=>?_;simp only[go_sem,zE,zB,zA,zM,zS,zL,reduceCtorEq,f0,f2,f3,f4,f6,f11,fits,show decide (((8:Nat):Int)=1)=false from rfl,show decide (((8:Nat):Int)=2)=false from rfl,show decide (((8:Nat):Int)=4)=false from rfl,show decide (((8:Nat):Int)=5)=false from rfl,show decide (((8:Nat):Int)=8)=true from rfl,show decide (((8:Nat):Int)=9)=false from rfl,lt_i hlt,hka,yQ1 htg',z00,zt0,show yQi 0 []=true from rfl,show yQi 1 [(0,Operand.tmp 110)]=true from rfl,show yQi 1 [(0,Operand.tmp 116)]=true from rfl];have hE':IsEnv M (E++[(n,k)]) (.sl t8 ((E.map λp=>.raw (.string p.1))++[.raw (.string n)])) (.sl t10 ((E.map λp=>.raw (.int .i64 (p.2:Int)))++[.raw (.int .i64 (k:Int))])) :=
    ⟨⟨t8,by simp,hown8.es⟩,⟨t10,by simp,hown10.es⟩,λp hp=>by
     rcases List.mem_append.1 hp with hp|hp
     ·exact hE.lt p hp
     ·rw[List.mem_singleton.1 hp];exact hlt,by rw[lLa];exact hEl2⟩
   have hcall:=hA (E++[(n,k)]) _ _ hE' (by rw[lLa];simp only[List.length_cons,List.length_nil];omega);simp only[List.reverse_append,List.reverse_cons,List.reverse_nil,List.nil_append,List.singleton_append] at hcall;refine (hcall _).mono ?_;rintro _ st6 ⟨rfl,rfl⟩;have hs6:=hsub1.trans (hsub8.trans hsub10);cases hh:hold (toMd M) a ((n,k)::E.reverse) w
   ·simp only[go_sem,zE,zB,zA,zM,zS,zL,reduceCtorEq,f0,f2,f3,f4,f6,f11,fits,show decide (((8:Nat):Int)=1)=false from rfl,show decide (((8:Nat):Int)=2)=false from rfl,show decide (((8:Nat):Int)=4)=false from rfl,show decide (((8:Nat):Int)=5)=false from rfl,show decide (((8:Nat):Int)=8)=true from rfl,show decide (((8:Nat):Int)=9)=false from rfl,lt_i hlt,hka,yQ1 htg',z00,zt0,show yQi 0 []=true from rfl,show yQi 1 [(0,Operand.tmp 110)]=true from rfl,show yQi 1 [(0,Operand.tmp 116)]=true from rfl,show (!(false == true))=true from rfl];refine yQa hs6 ⟨?_,rfl⟩;rw[hfin,List.all_eq_false.2 ⟨k,List.mem_range.2 hlt,by rw[hh];simp⟩]
   ·simp only[go_sem,zE,zB,zA,zM,zS,zL,reduceCtorEq,f0,f2,f3,f4,f6,f11,fits,show decide (((8:Nat):Int)=1)=false from rfl,show decide (((8:Nat):Int)=2)=false from rfl,show decide (((8:Nat):Int)=4)=false from rfl,show decide (((8:Nat):Int)=5)=false from rfl,show decide (((8:Nat):Int)=8)=true from rfl,show decide (((8:Nat):Int)=9)=false from rfl,lt_i hlt,hka,yQ1 htg',z00,zt0,show yQi 0 []=true from rfl,show yQi 1 [(0,Operand.tmp 110)]=true from rfl,show yQi 1 [(0,Operand.tmp 116)]=true from rfl,yQf hlt (show M.elems<=281474976710656 by omega)];exact⟨by rw[List.all_append,hall];simp[hh],hs6⟩
  ·rintro fr st1 _ ⟨hall,f0,f2,f3,f4,f6,f11,hsub1,rfl⟩;simp only[go_sem,zE,zB,zA,zM,zS,zL,reduceCtorEq,f0,f2,f3,f4,f6,f11,fits,show decide (((8:Nat):Int)=1)=false from rfl,show decide (((8:Nat):Int)=2)=false from rfl,show decide (((8:Nat):Int)=4)=false from rfl,show decide (((8:Nat):Int)=5)=false from rfl,show decide (((8:Nat):Int)=8)=true from rfl,show decide (((8:Nat):Int)=9)=false from rfl,yQs (nLi _)];intros;exact yQa hsub1 ⟨by rw[hfin,hall],rfl⟩
 ·obtain⟨a,rfl⟩:∃a,sub=[a]:=by
   match sub,h1s (by omega) with
   | [a],_=>exact⟨a,rfl⟩
  obtain⟨xa,hka,hxa⟩:=hys.get (k:=0) rfl;simp only[yQ7] at hEl;have hA:=λE' y z hE' hl' st=>IH a (by simp) _ hM0 xa hxa (yJe hsub (by simp)) w hw E' y z hE' hl' st;obtain⟨_,_,_,_,_,_,rfl⟩:=hxa.agg;have hfin:hold (toMd M) (.mk 9 n us [a]) E.reverse w=(List.range M.elems).any λe=>hold (toMd M) a ((n,e)::E.reverse) w:=by
   simp[hold,yJ0,toMd]
  have hEy:(E.map λp=>IV.raw (.string p.1)).length=E.length:=by simp
  have hEz:(E.map λp=>IV.raw (.int .i64 (p.2:Int))).length=E.length:=by simp
  have hEl2:E.length+1<=1000000000:=by omega
  have hOe:=hO.el;simp only[go_sem,zE,zB,zA,zM,zS,zL,reduceCtorEq,fits,show decide (((9:Nat):Int)=1)=false from rfl,show decide (((9:Nat):Int)=2)=false from rfl,show decide (((9:Nat):Int)=4)=false from rfl,show decide (((9:Nat):Int)=5)=false from rfl,show decide (((9:Nat):Int)=8)=false from rfl,show decide (((9:Nat):Int)=9)=true from rfl];refine LoopC.ctr M.elems (λk fr st' ds=>((List.range k).any λe=>hold (toMd M) a ((n,e)::E.reverse) w)=false/\fr 0=.iv (.cptr (.agg [.sl t1 x1,.raw (.int .i64 (M.elems:Int)),.sl t2 (M.syms.map λp=>.raw (.string p.1)),.sl t3 (M.syms.map λp=>.raw (.int .i64 (p.2:Int))),.raw (.int .i64 (M.bits:Int)),.raw (.int .i64 (M.table:Int))]))/\fr 2=.iv (.raw (.int .i64 (w:Int)))/\fr 3=.iv (.sl t4 (E.map λp=>.raw (.string p.1)))/\fr 4=.iv (.sl t5 (E.map λp=>.raw (.int .i64 (p.2:Int)))) /\
   fr 6=.box [.raw (.int .u8 ((9:Nat):Int)),.raw (.string n),.sl tg xs,.sl tg' ys]/\fr 11=.iv (.raw (.int .i64 (k:Int)))/\subSt st st'/\ds=[]) ?_ ?_ ?_
  ·simp only[go_sem,zE,zB,zA,zM,zS,zL,reduceCtorEq]
   first|exact⟨rfl,rfl,subSt.refl _⟩|exact⟨rfl,subSt.refl _⟩|(simp;exact subSt.refl _)
  ·rintro k fr st1 _ hlt ⟨hall,f0,f2,f3,f4,f6,f11,hsub1,rfl⟩;simp only[go_sem,zE,zB,zA,zM,zS,zL,reduceCtorEq,f0,f2,f3,f4,f6,f11,fits,show decide (((9:Nat):Int)=1)=false from rfl,show decide (((9:Nat):Int)=2)=false from rfl,show decide (((9:Nat):Int)=4)=false from rfl,show decide (((9:Nat):Int)=5)=false from rfl,show decide (((9:Nat):Int)=8)=false from rfl,show decide (((9:Nat):Int)=9)=true from rfl,lt_i hlt,hka,yQ1 htg',z00,zt0,show yQi 0 []=true from rfl,show yQi 1 [(0,Operand.tmp 110)]=true from rfl,show yQi 1 [(0,Operand.tmp 116)]=true from rfl];intros;refine zQ2 (S0:=st1) (n:=0) (s:=1) (own.full _ _ _ _) rfl hEy (subSt.refl _) rfl (List.all_eq_true.2 λz hz=>by obtain⟨p,_,rfl⟩:=List.mem_map.1 hz;rfl) (by show _*16<=_;omega) (by omega) λt7 st2 hown7 hsub7 _=>?_;simp only[go_sem,zE,zB,zA,zM,zS,zL,reduceCtorEq,f0,f2,f3,f4,f6,f11,fits,show decide (((9:Nat):Int)=1)=false from rfl,show decide (((9:Nat):Int)=2)=false from rfl,show decide (((9:Nat):Int)=4)=false from rfl,show decide (((9:Nat):Int)=5)=false from rfl,show decide (((9:Nat):Int)=8)=false from rfl,show decide (((9:Nat):Int)=9)=true from rfl,lt_i hlt,hka,yQ1 htg',z00,zt0,show yQi 0 []=true from rfl,show yQi 1 [(0,Operand.tmp 110)]=true from rfl,show yQi 1 [(0,Operand.tmp 116)]=true from rfl];intros;refine yVp hown7 (by rw[hEy,Nat.zero_add]) hsub7 rfl (by simp[fits,IV.one]) (by simp only;omega) (by omega) λt8 st3 hown8 hsub8 _=>?_;simp only[go_sem,zE,zB,zA,zM,zS,zL,reduceCtorEq,f0,f2,f3,f4,f6,f11,fits,show decide (((9:Nat):Int)=1)=false from rfl,show decide (((9:Nat):Int)=2)=false from rfl,show decide (((9:Nat):Int)=4)=false from rfl,show decide (((9:Nat):Int)=5)=false from rfl,show decide (((9:Nat):Int)=8)=false from rfl,show decide (((9:Nat):Int)=9)=true from rfl,lt_i hlt,hka,yQ1 htg',z00,zt0,show yQi 0 []=true from rfl,show yQi 1 [(0,Operand.tmp 110)]=true from rfl,show yQi 1 [(0,Operand.tmp 116)]=true from rfl];intros;refine zQ2 (S0:=st3) (n:=0) (s:=1) (own.full _ _ _ _) rfl hEz (subSt.refl _) rfl (List.all_eq_true.2 λz hz=>by obtain⟨p,_,rfl⟩:=List.mem_map.1 hz;rfl) (by show _*8<=_;omega) (by omega) λt9 st4 hown9 hsub9 _=>?_;simp only[go_sem,zE,zB,zA,zM,zS,zL,reduceCtorEq,f0,f2,f3,f4,f6,f11,fits,show decide (((9:Nat):Int)=1)=false from rfl,show decide (((9:Nat):Int)=2)=false from rfl,show decide (((9:Nat):Int)=4)=false from rfl,show decide (((9:Nat):Int)=5)=false from rfl,show decide (((9:Nat):Int)=8)=false from rfl,show decide (((9:Nat):Int)=9)=true from rfl,lt_i hlt,hka,yQ1 htg',z00,zt0,show yQi 0 []=true from rfl,show yQi 1 [(0,Operand.tmp 110)]=true from rfl,show yQi 1 [(0,Operand.tmp 116)]=true from rfl];intros;refine yVp hown9 (by rw[hEz,Nat.zero_add]) hsub9 rfl (by simp[fits,IV.one]) (by simp only;omega) (by omega) λt10 st5 hown10 hsub10 _=>?_;simp only[go_sem,zE,zB,zA,zM,zS,zL,reduceCtorEq,f0,f2,f3,f4,f6,f11,fits,show decide (((9:Nat):Int)=1)=false from rfl,show decide (((9:Nat):Int)=2)=false from rfl,show decide (((9:Nat):Int)=4)=false from rfl,show decide (((9:Nat):Int)=5)=false from rfl,show decide (((9:Nat):Int)=8)=false from rfl,show decide (((9:Nat):Int)=9)=true from rfl,lt_i hlt,hka,yQ1 htg',z00,zt0,show yQi 0 []=true from rfl,show yQi 1 [(0,Operand.tmp 110)]=true from rfl,show yQi 1 [(0,Operand.tmp 116)]=true from rfl];have hE':IsEnv M (E++[(n,k)]) (.sl t8 ((E.map λp=>.raw (.string p.1))++[.raw (.string n)])) (.sl t10 ((E.map λp=>.raw (.int .i64 (p.2:Int)))++[.raw (.int .i64 (k:Int))])) :=
    ⟨⟨t8,by simp,hown8.es⟩,⟨t10,by simp,hown10.es⟩,λp hp=>by
     rcases List.mem_append.1 hp with hp|hp
     ·exact hE.lt p hp
     ·rw[List.mem_singleton.1 hp];exact hlt,by rw[lLa];exact hEl2⟩
   have hcall:=hA (E++[(n,k)]) _ _ hE' (by rw[lLa];simp only[List.length_cons,List.length_nil];omega);simp only[List.reverse_append,List.reverse_cons,List.reverse_nil,List.nil_append,List.singleton_append] at hcall;refine (hcall _).mono ?_;rintro _ st6 ⟨rfl,rfl⟩;have hs6:=hsub1.trans (hsub8.trans hsub10);cases hh:hold (toMd M) a ((n,k)::E.reverse) w
   ·simp only[go_sem,zE,zB,zA,zM,zS,zL,reduceCtorEq,f0,f2,f3,f4,f6,f11,fits,show decide (((9:Nat):Int)=1)=false from rfl,show decide (((9:Nat):Int)=2)=false from rfl,show decide (((9:Nat):Int)=4)=false from rfl,show decide (((9:Nat):Int)=5)=false from rfl,show decide (((9:Nat):Int)=8)=false from rfl,show decide (((9:Nat):Int)=9)=true from rfl,lt_i hlt,hka,yQ1 htg',z00,zt0,show yQi 0 []=true from rfl,show yQi 1 [(0,Operand.tmp 110)]=true from rfl,show yQi 1 [(0,Operand.tmp 116)]=true from rfl,yQf hlt (show M.elems<=281474976710656 by omega)];exact⟨by rw[List.any_append,hall];simp[hh],hs6⟩
   ·simp only[go_sem,zE,zB,zA,zM,zS,zL,reduceCtorEq,f0,f2,f3,f4,f6,f11,fits,show decide (((9:Nat):Int)=1)=false from rfl,show decide (((9:Nat):Int)=2)=false from rfl,show decide (((9:Nat):Int)=4)=false from rfl,show decide (((9:Nat):Int)=5)=false from rfl,show decide (((9:Nat):Int)=8)=false from rfl,show decide (((9:Nat):Int)=9)=true from rfl,lt_i hlt,hka,yQ1 htg',z00,zt0,show yQi 0 []=true from rfl,show yQi 1 [(0,Operand.tmp 110)]=true from rfl,show yQi 1 [(0,Operand.tmp 116)]=true from rfl,show (!(true == false))=true from rfl];refine yQa hs6 ⟨?_,rfl⟩;rw[hfin,List.any_eq_true.2 ⟨k,List.mem_range.2 hlt,hh⟩]
  ·rintro fr st1 _ ⟨hall,f0,f2,f3,f4,f6,f11,hsub1,rfl⟩;simp only[go_sem,zE,zB,zA,zM,zS,zL,reduceCtorEq,f0,f2,f3,f4,f6,f11,fits,show decide (((9:Nat):Int)=1)=false from rfl,show decide (((9:Nat):Int)=2)=false from rfl,show decide (((9:Nat):Int)=4)=false from rfl,show decide (((9:Nat):Int)=5)=false from rfl,show decide (((9:Nat):Int)=8)=false from rfl,show decide (((9:Nat):Int)=9)=true from rfl,yQs (nLi _)];intros;exact yQa hsub1 ⟨by rw[hfin,hall],rfl⟩
theorem zUg (M:Mo)(hO:MoOk M)(hS:SeesOk M):∀(k:Nat) (f:Fm),SizeOf.sizeOf f<k->HOLD gl M f
 | 0,f,h=>by omega
 | k+1,.mk o n us sub,h=>xY4 gl M hO hS o n us sub λa ha=>zUg M hO hS k a (by
   have:=lSm ha;simp at h;omega)
theorem wGj (M:Mo)(hO:MoOk M)(hS:SeesOk M)(f:Fm):HOLD gl M f:=zUg gl M hO hS _ f (Nat.lt_succ_self _)
def RANK (l:List Fm):Prop:=∀(tg:Tag) (xs:List IV) (_:okEs tg 4) (_:IsFms l xs) (_:yQ7 l<=1000000000) (st:ISt),
 ICall prog gl 75 [.sl tg xs] st (λr st'=>(∃k:Nat,r=.raw (.int .i64 (k:Int))/\k<=yQ7 l)/\st'=st)
theorem xU5 (l:List Fm)(IH:∀o n us sub,Fm.mk o n us sub∈l->RANK gl sub):RANK gl l:=by
 intro tg xs htg hxs hsz st;have hlen:=yZj l;refine iI func75 ?_;simp only[go_sem,zE,zB,zA,zM,zS,zL,reduceCtorEq,fits];refine LoopC.ctr l.length (λk fr st' ds=>fr 0=.iv (.sl tg xs)/\(∃m:Nat,fr 3=.iv (.raw (.int .i64 (m:Int)))/\m<=yQ7 l)/\fr 4=.iv (.raw (.int .i64 (k:Int)))/\st'=st/\ds=[]) ?_ ?_ ?_
 ·simp only[go_sem,zE,zB,zA,zM,zS,zL,reduceCtorEq]
  first|exact⟨⟨0,rfl,Nat.zero_le _⟩,rfl⟩|exact⟨0,rfl,Nat.zero_le _⟩
 ·rintro k fr _ _ hlt ⟨f0,⟨m,f3,hm⟩,f4,rfl,rfl⟩;obtain⟨a,ha⟩:=yQ4 hlt;obtain⟨x,hkx,hx⟩:=hxs.get ha;have hsa:=yJh (lMg ha);obtain⟨o,n,us,sub⟩:=a;simp only[Fm.size] at hsa;obtain⟨t1,x1,t2,x2,rfl,ho,ht1,hx1,ht2,hx2⟩:=hx.mk;have hcall:=IH o n us sub (lMg ha) t2 x2 ht2 hx2 (by omega);simp only[go_sem,zE,zB,zA,zM,zS,zL,reduceCtorEq,f0,f3,f4,hxs.len,lt_i hlt,yQ1 htg,iNn,hkx,fits];intros;refine (hcall _).mono ?_;rintro _ _ ⟨⟨r,rfl,hr⟩,rfl⟩;have hw:IntKind.i64.wrap ((r:Int)+1)=((r+1:Nat):Int):=by rw[w64]<;>omega
  have hm1:max (m:Int) ((r+1:Nat):Int)=((max m (r+1):Nat):Int):=by omega
  have hm2:max (m:Int) (r:Int)=((max m r:Nat):Int):=by omega
  by_cases h8:o=8
  ·subst h8;simp only[go_sem,zE,zB,zA,zM,zS,zL,reduceCtorEq,f0,f3,f4,hxs.len,lt_i hlt,yQ1 htg,iNn,hkx,fits,show decide (((8:Nat):Int)=8)=true from rfl,hw,hm1,yQf hlt (show l.length<=281474976710656 by omega)];exact⟨_,rfl,by omega⟩
  ·by_cases h9:o=9
   ·subst h9;simp only[go_sem,zE,zB,zA,zM,zS,zL,reduceCtorEq,f0,f3,f4,hxs.len,lt_i hlt,yQ1 htg,iNn,hkx,fits,show decide (((9:Nat):Int)=8)=false from rfl,show decide (((9:Nat):Int)=9)=true from rfl,hw,hm1,yQf hlt (show l.length<=281474976710656 by omega)];exact⟨_,rfl,by omega⟩
   ·simp only[go_sem,zE,zB,zA,zM,zS,zL,reduceCtorEq,f0,f3,f4,hxs.len,lt_i hlt,yQ1 htg,iNn,hkx,fits,show decide (((o:Nat):Int)=8)=false from dEf (by omega),show decide (((o:Nat):Int)=9)=false from dEf (by omega),hm2,yQf hlt (show l.length<=281474976710656 by omega)];exact⟨_,rfl,by omega⟩
 ·rintro fr _ _ ⟨f0,⟨m,f3,hm⟩,f4,rfl,rfl⟩;simp only[go_sem,zE,zB,zA,zM,zS,zL,reduceCtorEq,f0,f3,f4,hxs.len,yQs (nLi _)];intros;exact yQ0 ⟨⟨m,rfl,hm⟩,rfl⟩
theorem xJz:∀(k:Nat)(l:List Fm),SizeOf.sizeOf l<k->RANK gl l
 | 0,l,h=>by omega
 | k+1,l,h=>xU5 gl l λo n us sub ha=>xJz k sub (by
   have:=lSm ha;simp at this;omega)
theorem wW1 (l:List Fm):RANK gl l:=xJz gl _ l (Nat.lt_succ_self _)
end Go.Proofs.Tryz
namespace Go.Proofs.Tryz
open Go Go.Iv
theorem yXp {α:Type}{c:Prop} [Decidable c]{a r:α}{x:Option α}(h:(if c then some a else x)=some r):(c/\r=a)\/(¬c/\x=some r):=by
 by_cases hc:c
 ·rw[if_pos hc] at h;exact .inl ⟨hc,(Option.some.inj h).symm⟩
 ·rw[if_neg hc] at h;exact .inr ⟨hc,h⟩
theorem vZw {α:Type}{c:Prop} [Decidable c]{a b r:α}(h:(if c then a else b)=r):(c/\a=r)\/(¬c/\b=r):=by
 by_cases hc:c
 ·rw[if_pos hc] at h;exact .inl ⟨hc,h⟩
 ·rw[if_neg hc] at h;exact .inr ⟨hc,h⟩
theorem yY6 {α:Type}{c:Prop} [Decidable c]{q:α}{A B:List α}(h:q∈if c then A else B):(c/\q∈A)\/(¬c/\q∈B):=by
 by_cases hc:c
 ·rw[if_pos hc] at h;exact .inl ⟨hc,h⟩
 ·rw[if_neg hc] at h;exact .inr ⟨hc,h⟩
theorem zXp {ca rule:Nat}{r:Rw}(h:rowS ca rule=some r):(rule=1/\r=⟨true,true,0,0⟩)\/(rule=2/\r=⟨true,false,2,0⟩)\/(rule=3/\r=⟨true,false,3,0⟩)\/(rule=4/\r=⟨false,true,3,0⟩)\/(rule=5/\r=⟨true,false,4,0⟩)\/(rule=6/\r=⟨false,true,4,0⟩) \/
  (rule=7/\r=⟨true,false,5,0⟩)\/(rule=8/\r=⟨false,true,5,0⟩)\/(rule=9/\r=⟨true,false,6,0⟩)\/(rule=10/\r=⟨false,true,6,0⟩)\/(rule=11/\r=⟨true,false,7,0⟩)\/(rule=12/\r=⟨false,true,7,0⟩) \/
  (rule=13/\r=⟨true,false,8,1⟩)\/(rule=14/\r=⟨false,true,8,2⟩)\/(rule=15/\r=⟨true,false,9,2⟩)\/(rule=16/\r=⟨false,true,9,1⟩)\/(rule=17/\r=⟨false,false,0,0⟩)\/(rule=18/\r=⟨false,true,5,0⟩):=by
 unfold rowS rowK at h;rcases yXp h with⟨⟨hc,hr⟩,hq⟩|⟨_,h⟩
 ·subst hr;subst hq;simp
 rcases yXp h with⟨⟨hc,hr⟩,hq⟩|⟨_,h⟩
 ·subst hr;subst hq;simp
 rcases yXp h with⟨⟨hc,hr⟩,hq⟩|⟨_,h⟩
 ·subst hr;subst hq;simp
 rcases yXp h with⟨⟨hc,hr⟩,hq⟩|⟨_,h⟩
 ·subst hr;subst hq;simp
 rcases yXp h with⟨⟨hc,hr⟩,hq⟩|⟨_,h⟩
 ·subst hr;subst hq;simp
 rcases yXp h with⟨hr,hq⟩|⟨_,h⟩
 ·subst hr;subst hq;simp
 rcases yXp h with⟨hr,hq⟩|⟨_,h⟩
 ·subst hr;subst hq;simp
 rcases yXp h with⟨hr,hq⟩|⟨_,h⟩
 ·subst hr;subst hq;simp
 rcases yXp h with⟨hr,hq⟩|⟨_,h⟩
 ·subst hr;subst hq;simp
 rcases yXp h with⟨hr,hq⟩|⟨_,h⟩
 ·subst hr;subst hq;simp
 rcases yXp h with⟨hr,hq⟩|⟨_,h⟩
 ·subst hr;subst hq;simp
 rcases yXp h with⟨hr,hq⟩|⟨_,h⟩
 ·subst hr;subst hq;simp
 rcases yXp h with⟨hr,hq⟩|⟨_,h⟩
 ·subst hr;subst hq;simp
 rcases yXp h with⟨hr,hq⟩|⟨_,h⟩
 ·subst hr;subst hq;simp
 rcases yXp h with⟨hr,hq⟩|⟨_,h⟩
 ·subst hr;subst hq;simp
 rcases yXp h with⟨hr,hq⟩|⟨_,h⟩
 ·subst hr;subst hq;simp
 rcases yXp h with⟨hr,hq⟩|⟨_,h⟩
 ·subst hr;subst hq;simp
 rcases yXp h with⟨hr,hq⟩|⟨_,h⟩
 ·subst hr;subst hq;simp
 cases h
theorem wVy {ca rule:Nat}{r:Rw}(h:rowS ca rule=some r):(rule=18->ca=2)/\(13<=rule->rule<=16->ca=3):=by
 unfold rowS rowK at h;rcases yXp h with⟨⟨hc,hr⟩,hq⟩|⟨_,h⟩
 ·omega
 rcases yXp h with⟨⟨hc,hr⟩,hq⟩|⟨_,h⟩
 ·omega
 rcases yXp h with⟨⟨hc,hr⟩,hq⟩|⟨_,h⟩
 ·omega
 rcases yXp h with⟨⟨hc,hr⟩,hq⟩|⟨_,h⟩
 ·omega
 rcases yXp h with⟨⟨hc,hr⟩,hq⟩|⟨_,h⟩
 ·omega
 rcases yXp h with⟨hr,hq⟩|⟨_,h⟩
 ·omega
 rcases yXp h with⟨hr,hq⟩|⟨_,h⟩
 ·omega
 rcases yXp h with⟨hr,hq⟩|⟨_,h⟩
 ·omega
 rcases yXp h with⟨hr,hq⟩|⟨_,h⟩
 ·omega
 rcases yXp h with⟨hr,hq⟩|⟨_,h⟩
 ·omega
 rcases yXp h with⟨hr,hq⟩|⟨_,h⟩
 ·omega
 rcases yXp h with⟨hr,hq⟩|⟨_,h⟩
 ·omega
 rcases yXp h with⟨hr,hq⟩|⟨_,h⟩
 ·omega
 rcases yXp h with⟨hr,hq⟩|⟨_,h⟩
 ·omega
 rcases yXp h with⟨hr,hq⟩|⟨_,h⟩
 ·omega
 rcases yXp h with⟨hr,hq⟩|⟨_,h⟩
 ·omega
 rcases yXp h with⟨hr,hq⟩|⟨_,h⟩
 ·omega
 rcases yXp h with⟨hr,hq⟩|⟨_,h⟩
 ·omega
 cases h
end Go.Proofs.Tryz
namespace Go.Proofs.Tryz
open Go Go.Iv
section
variable (nm:ByteArray)(g:Fm)
mutual
def repF:Fm->Fm
 | .mk o n us sub=>if o=1/\n=nm/\us.length=0 then g else .mk o n us (wJk sub)
def wJk:List Fm->List Fm
 | []=>[]
 | a::l=>repF a::wJk l
end
def repS (s:Sq):Sq:=⟨wJk nm g s.l,wJk nm g s.r⟩
mutual
def repT:Tr->Tr
 | .mk rule s f u n sub=>.mk rule (repS nm g s) (repF nm g f) u n (vZo sub)
def vZo:List Tr->List Tr
 | []=>[]
 | a::l=>repT a::vZo l
end
end
section
variable {nm:ByteArray}{g:Fm}{ca:Nat}
theorem zZ2 {s:Sq}(h:yXe ca s=true):s.l.all (fmB ca)=true/\s.r.all (fmB ca)=true:=by
 unfold yXe at h;simp only[bAt] at h;exact⟨h.1.1.2,h.1.2⟩
end
theorem vZn {ca rule:Nat}{r:Rw}(h:rowS ca rule=some r):(rule=3\/rule=4->r.op=3/\r.asks=0)/\(rule=5\/rule=6->r.op=4/\r.asks=0)/\(rule=7\/rule=8\/rule=18->r.op=5/\r.asks=0)/\(rule=9\/rule=10->r.op=6/\r.asks=0) /\
  (rule=11\/rule=12->r.op=7/\r.asks=0)/\(rule=13\/rule=14->r.op=8/\r.asks≠0/\ca=3)/\(rule=15\/rule=16->r.op=9/\r.asks≠0/\ca=3)/\(rule=1\/rule=2\/rule=17->r.asks=0)/\(r.op=0->rule=1\/rule=17):=by
 have hca:=wVy h;have hr:=zXp h;clear h;rcases hr with⟨rfl,rfl⟩|⟨rfl,rfl⟩|⟨rfl,rfl⟩|⟨rfl,rfl⟩|⟨rfl,rfl⟩|⟨rfl,rfl⟩|⟨rfl,rfl⟩|⟨rfl,rfl⟩|⟨rfl,rfl⟩|⟨rfl,rfl⟩|⟨rfl,rfl⟩|⟨rfl,rfl⟩|⟨rfl,rfl⟩|⟨rfl,rfl⟩|⟨rfl,rfl⟩|⟨rfl,rfl⟩|⟨rfl,rfl⟩|⟨rfl,rfl⟩
 all_goals simp at hca ⊢
 all_goals (try exact hca)
theorem xVo {p:Fm->Bool}{ca rule:Nat}{main a b:Fm}(ha:3<=rule->rule<=16->p a=true)(hb:5<=rule->rule<=12\/rule=18->p b=true)(hi:rule=11->p (impF a b)=true/\p (impF b a)=true)(hm:rule=17->p main=true) :
  ∀q∈addS ca rule main a b,q.l.all p=true/\q.r.all p=true:=by
 unfold addS;intro q hq;rcases yY6 hq with⟨hr,hq⟩|⟨_,hq⟩
 ·(first
    | (obtain rfl:=List.mem_singleton.1 hq
       simp only[List.all_cons,List.all_nil,Bool.and_true,true_and]
       first|exact ha (by omega) (by omega)|exact hb (by omega) (by omega)|exact⟨ha (by omega) (by omega),hb (by omega) (by omega)⟩|exact hi (by omega)|exact hm (by omega))
    | (simp only[List.mem_cons,List.not_mem_nil,or_false] at hq
       rcases hq with rfl|rfl <;>
       ·simp only[List.all_cons,List.all_nil,Bool.and_true,bAt,and_self,and_true,true_and]
        first|exact ha (by omega) (by omega)|exact hb (by omega) (by omega)|exact⟨ha (by omega) (by omega),hb (by omega) (by omega)⟩|exact⟨hb (by omega) (by omega),ha (by omega) (by omega)⟩|exact hm (by omega)))
 rcases yY6 hq with⟨hr,hq⟩|⟨_,hq⟩
 ·(first
    | (obtain rfl:=List.mem_singleton.1 hq
       simp only[List.all_cons,List.all_nil,Bool.and_true,and_true]
       first|exact ha (by omega) (by omega)|exact hb (by omega) (by omega)|exact⟨ha (by omega) (by omega),hb (by omega) (by omega)⟩|exact hi (by omega)|exact hm (by omega))
    | (simp only[List.mem_cons,List.not_mem_nil,or_false] at hq
       rcases hq with rfl|rfl <;>
       ·simp only[List.all_cons,List.all_nil,Bool.and_true,bAt,and_self,and_true,true_and]
        first|exact ha (by omega) (by omega)|exact hb (by omega) (by omega)|exact⟨ha (by omega) (by omega),hb (by omega) (by omega)⟩|exact⟨hb (by omega) (by omega),ha (by omega) (by omega)⟩|exact hm (by omega)))
 rcases yY6 hq with⟨hr,hq⟩|⟨_,hq⟩
 ·(first
    | (obtain rfl:=List.mem_singleton.1 hq
       simp only[List.all_cons,List.all_nil,Bool.and_true,bAt,and_true]
       first|exact ha (by omega) (by omega)|exact hb (by omega) (by omega)|exact⟨ha (by omega) (by omega),hb (by omega) (by omega)⟩|exact hi (by omega)|exact hm (by omega))
    | (simp only[List.mem_cons,List.not_mem_nil,or_false] at hq
       rcases hq with rfl|rfl <;>
       ·simp only[List.all_cons,List.all_nil,Bool.and_true,bAt,and_self,and_true,true_and]
        first|exact ha (by omega) (by omega)|exact hb (by omega) (by omega)|exact⟨ha (by omega) (by omega),hb (by omega) (by omega)⟩|exact⟨hb (by omega) (by omega),ha (by omega) (by omega)⟩|exact hm (by omega)))
 rcases yY6 hq with⟨hr,hq⟩|⟨_,hq⟩
 ·(first
    | (obtain rfl:=List.mem_singleton.1 hq
       simp only[List.all_cons,List.all_nil,Bool.and_true,bAt,and_self,and_true,true_and]
       first|exact ha (by omega) (by omega)|exact hb (by omega) (by omega)|exact⟨ha (by omega) (by omega),hb (by omega) (by omega)⟩|exact hi (by omega)|exact hm (by omega))
    | (simp only[List.mem_cons,List.not_mem_nil,or_false] at hq
       rcases hq with rfl|rfl <;>
       ·simp only[List.all_cons,List.all_nil,Bool.and_true,true_and]
        first|exact ha (by omega) (by omega)|exact hb (by omega) (by omega)|exact⟨ha (by omega) (by omega),hb (by omega) (by omega)⟩|exact⟨hb (by omega) (by omega),ha (by omega) (by omega)⟩|exact hm (by omega)))
 rcases yY6 hq with⟨hr,hq⟩|⟨_,hq⟩
 ·(first
    | (obtain rfl:=List.mem_singleton.1 hq
       simp only[List.all_cons,List.all_nil,Bool.and_true,bAt,and_self,and_true,true_and]
       first|exact ha (by omega) (by omega)|exact hb (by omega) (by omega)|exact⟨ha (by omega) (by omega),hb (by omega) (by omega)⟩|exact hi (by omega)|exact hm (by omega))
    | (simp only[List.mem_cons,List.not_mem_nil,or_false] at hq
       rcases hq with rfl|rfl <;>
       ·simp only[List.all_cons,List.all_nil,Bool.and_true,and_true]
        first|exact ha (by omega) (by omega)|exact hb (by omega) (by omega)|exact⟨ha (by omega) (by omega),hb (by omega) (by omega)⟩|exact⟨hb (by omega) (by omega),ha (by omega) (by omega)⟩|exact hm (by omega)))
 rcases yY6 hq with⟨hr,hq⟩|⟨_,hq⟩
 ·rcases yY6 hq with⟨_,hq⟩|⟨_,hq⟩
  ·(first
     | (obtain rfl:=List.mem_singleton.1 hq
        simp only[List.all_cons,List.all_nil,Bool.and_true,true_and]
        first|exact ha (by omega) (by omega)|exact hb (by omega) (by omega)|exact⟨ha (by omega) (by omega),hb (by omega) (by omega)⟩|exact hi (by omega)|exact hm (by omega))
     | (simp only[List.mem_cons,List.not_mem_nil,or_false] at hq
        rcases hq with rfl|rfl <;>
        ·simp only[List.all_cons,List.all_nil,Bool.and_true,bAt,and_self,and_true,true_and]
         first|exact ha (by omega) (by omega)|exact hb (by omega) (by omega)|exact⟨ha (by omega) (by omega),hb (by omega) (by omega)⟩|exact⟨hb (by omega) (by omega),ha (by omega) (by omega)⟩|exact hm (by omega)))
  ·(first
     | (obtain rfl:=List.mem_singleton.1 hq
        simp only[List.all_cons,List.all_nil,Bool.and_true,bAt,true_and]
        first|exact ha (by omega) (by omega)|exact hb (by omega) (by omega)|exact⟨ha (by omega) (by omega),hb (by omega) (by omega)⟩|exact hi (by omega)|exact hm (by omega))
     | (simp only[List.mem_cons,List.not_mem_nil,or_false] at hq
        rcases hq with rfl|rfl <;>
        ·simp only[List.all_cons,List.all_nil,Bool.and_true,bAt,and_self,and_true,true_and]
         first|exact ha (by omega) (by omega)|exact hb (by omega) (by omega)|exact⟨ha (by omega) (by omega),hb (by omega) (by omega)⟩|exact⟨hb (by omega) (by omega),ha (by omega) (by omega)⟩|exact hm (by omega)))
 rcases yY6 hq with⟨hr,hq⟩|⟨_,hq⟩
 ·(first
    | (obtain rfl:=List.mem_singleton.1 hq
       simp only[List.all_cons,List.all_nil,Bool.and_true,bAt,and_self,and_true,true_and]
       first|exact ha (by omega) (by omega)|exact hb (by omega) (by omega)|exact⟨ha (by omega) (by omega),hb (by omega) (by omega)⟩|exact hi (by omega)|exact hm (by omega))
    | (simp only[List.mem_cons,List.not_mem_nil,or_false] at hq
       rcases hq with rfl|rfl <;>
       ·simp only[List.all_cons,List.all_nil,Bool.and_true,and_true,true_and]
        first|exact ha (by omega) (by omega)|exact hb (by omega) (by omega)|exact⟨ha (by omega) (by omega),hb (by omega) (by omega)⟩|exact⟨hb (by omega) (by omega),ha (by omega) (by omega)⟩|exact hm (by omega)))
 rcases yY6 hq with⟨hr,hq⟩|⟨_,hq⟩
 ·(first
    | (obtain rfl:=List.mem_singleton.1 hq
       simp only[List.all_cons,List.all_nil,Bool.and_true]
       first|exact ha (by omega) (by omega)|exact hb (by omega) (by omega)|exact⟨ha (by omega) (by omega),hb (by omega) (by omega)⟩|exact hi (by omega)|exact hm (by omega))
    | (simp only[List.mem_cons,List.not_mem_nil,or_false] at hq
       rcases hq with rfl|rfl <;>
       ·simp only[List.all_cons,List.all_nil,Bool.and_true,bAt,and_self,and_true,true_and]
        first|exact ha (by omega) (by omega)|exact hb (by omega) (by omega)|exact⟨ha (by omega) (by omega),hb (by omega) (by omega)⟩|exact⟨hb (by omega) (by omega),ha (by omega) (by omega)⟩|exact hm (by omega)))
 rcases yY6 hq with⟨hr,hq⟩|⟨_,hq⟩
 ·(first
    | (obtain rfl:=List.mem_singleton.1 hq
       simp only[List.all_cons,List.all_nil,Bool.and_true,bAt,and_true]
       first|exact ha (by omega) (by omega)|exact hb (by omega) (by omega)|exact⟨ha (by omega) (by omega),hb (by omega) (by omega)⟩|exact hi (by omega)|exact hm (by omega))
    | (simp only[List.mem_cons,List.not_mem_nil,or_false] at hq
       rcases hq with rfl|rfl <;>
       ·simp only[List.all_cons,List.all_nil,Bool.and_true,bAt,and_self,and_true,true_and]
        first|exact ha (by omega) (by omega)|exact hb (by omega) (by omega)|exact⟨ha (by omega) (by omega),hb (by omega) (by omega)⟩|exact⟨hb (by omega) (by omega),ha (by omega) (by omega)⟩|exact hm (by omega)))
 rcases yY6 hq with⟨hr,hq⟩|⟨_,hq⟩
 ·(first
    | (obtain rfl:=List.mem_singleton.1 hq
       simp only[List.all_cons,List.all_nil,Bool.and_true,bAt,and_self,and_true,true_and]
       first|exact ha (by omega) (by omega)|exact hb (by omega) (by omega)|exact⟨ha (by omega) (by omega),hb (by omega) (by omega)⟩|exact hi (by omega)|exact hm (by omega))
    | (simp only[List.mem_cons,List.not_mem_nil,or_false] at hq
       rcases hq with rfl|rfl <;>
       ·simp only[List.all_cons,List.all_nil,Bool.and_true]
        first|exact ha (by omega) (by omega)|exact hb (by omega) (by omega)|exact⟨ha (by omega) (by omega),hb (by omega) (by omega)⟩|exact⟨hb (by omega) (by omega),ha (by omega) (by omega)⟩|exact hm (by omega)))
 rcases yY6 hq with⟨hr,hq⟩|⟨_,hq⟩
 ·(first
    | (obtain rfl:=List.mem_singleton.1 hq
       simp only[List.all_cons,List.all_nil,Bool.and_true,and_true]
       first|exact ha (by omega) (by omega)|exact hb (by omega) (by omega)|exact⟨ha (by omega) (by omega),hb (by omega) (by omega)⟩|exact hi (by omega)|exact hm (by omega))
    | (simp only[List.mem_cons,List.not_mem_nil,or_false] at hq
       rcases hq with rfl|rfl <;>
       ·simp only[List.all_cons,List.all_nil,Bool.and_true,bAt,and_self,and_true,true_and]
        first|exact ha (by omega) (by omega)|exact hb (by omega) (by omega)|exact⟨ha (by omega) (by omega),hb (by omega) (by omega)⟩|exact⟨hb (by omega) (by omega),ha (by omega) (by omega)⟩|exact hm (by omega)))
 rcases yY6 hq with⟨hr,hq⟩|⟨_,hq⟩
 ·(first
    | (obtain rfl:=List.mem_singleton.1 hq
       simp only[List.all_cons,List.all_nil,Bool.and_true,true_and]
       first|exact ha (by omega) (by omega)|exact hb (by omega) (by omega)|exact⟨ha (by omega) (by omega),hb (by omega) (by omega)⟩|exact hi (by omega)|exact hm (by omega))
    | (simp only[List.mem_cons,List.not_mem_nil,or_false] at hq
       rcases hq with rfl|rfl <;>
       ·simp only[List.all_cons,List.all_nil,Bool.and_true,bAt,and_self,and_true,true_and]
        first|exact ha (by omega) (by omega)|exact hb (by omega) (by omega)|exact⟨ha (by omega) (by omega),hb (by omega) (by omega)⟩|exact⟨hb (by omega) (by omega),ha (by omega) (by omega)⟩|exact hm (by omega)))
 rcases yY6 hq with⟨hr,hq⟩|⟨_,hq⟩
 ·(first
    | (obtain rfl:=List.mem_singleton.1 hq
       simp only[List.all_cons,List.all_nil,Bool.and_true,and_true]
       first|exact ha (by omega) (by omega)|exact hb (by omega) (by omega)|exact⟨ha (by omega) (by omega),hb (by omega) (by omega)⟩|exact hi (by omega)|exact hm (by omega))
    | (simp only[List.mem_cons,List.not_mem_nil,or_false] at hq
       rcases hq with rfl|rfl <;>
       ·simp only[List.all_cons,List.all_nil,Bool.and_true,bAt,and_self,and_true,true_and]
        first|exact ha (by omega) (by omega)|exact hb (by omega) (by omega)|exact⟨ha (by omega) (by omega),hb (by omega) (by omega)⟩|exact⟨hb (by omega) (by omega),ha (by omega) (by omega)⟩|exact hm (by omega)))
 rcases yY6 hq with⟨hr,hq⟩|⟨_,hq⟩
 ·(first
    | (obtain rfl:=List.mem_singleton.1 hq
       simp only[List.all_cons,List.all_nil,Bool.and_true,true_and]
       first|exact ha (by omega) (by omega)|exact hb (by omega) (by omega)|exact⟨ha (by omega) (by omega),hb (by omega) (by omega)⟩|exact hi (by omega)|exact hm (by omega))
    | (simp only[List.mem_cons,List.not_mem_nil,or_false] at hq
       rcases hq with rfl|rfl <;>
       ·simp only[List.all_cons,List.all_nil,Bool.and_true,bAt,and_self,and_true,true_and]
        first|exact ha (by omega) (by omega)|exact hb (by omega) (by omega)|exact⟨ha (by omega) (by omega),hb (by omega) (by omega)⟩|exact⟨hb (by omega) (by omega),ha (by omega) (by omega)⟩|exact hm (by omega)))
 rcases yY6 hq with⟨hr,hq⟩|⟨_,hq⟩
 ·(first
    | (obtain rfl:=List.mem_singleton.1 hq
       simp only[List.all_cons,List.all_nil,Bool.and_true,bAt,and_self,and_true,true_and]
       first|exact ha (by omega) (by omega)|exact hb (by omega) (by omega)|exact⟨ha (by omega) (by omega),hb (by omega) (by omega)⟩|exact hi (by omega)|exact hm (by omega))
    | (simp only[List.mem_cons,List.not_mem_nil,or_false] at hq
       rcases hq with rfl|rfl <;>
       ·simp only[List.all_cons,List.all_nil,Bool.and_true,and_true,true_and]
        first|exact ha (by omega) (by omega)|exact hb (by omega) (by omega)|exact⟨ha (by omega) (by omega),hb (by omega) (by omega)⟩|exact⟨hb (by omega) (by omega),ha (by omega) (by omega)⟩|exact hm (by omega)))
 rcases yY6 hq with⟨hr,hq⟩|⟨_,hq⟩
 ·(first
    | (obtain rfl:=List.mem_singleton.1 hq
       simp only[List.all_cons,List.all_nil,Bool.and_true,true_and]
       first|exact ha (by omega) (by omega)|exact hb (by omega) (by omega)|exact⟨ha (by omega) (by omega),hb (by omega) (by omega)⟩|exact hi (by omega)|exact hm (by omega))
    | (simp only[List.mem_cons,List.not_mem_nil,or_false] at hq
       rcases hq with rfl|rfl <;>
       ·simp only[List.all_cons,List.all_nil,Bool.and_true,bAt,and_self,and_true,true_and]
        first|exact ha (by omega) (by omega)|exact hb (by omega) (by omega)|exact⟨ha (by omega) (by omega),hb (by omega) (by omega)⟩|exact⟨hb (by omega) (by omega),ha (by omega) (by omega)⟩|exact hm (by omega)))
 cases hq
theorem xUf {op:Nat}{n:ByteArray}{us:List Tm}{sub:List Fm}(h:(Fm.mk op n us sub).ok=true):(op=3\/op=8\/op=9->sub.length=1)/\(op=4\/op=5\/op=6\/op=7->sub.length=2):=by
 simp only[Fm.ok,bAt] at h;have h:=h.1.1;constructor
 ·rintro (rfl|rfl|rfl)<;>simp only[yJp,bAt,dTe] at h<;>exact h.2
 ·rintro (rfl|rfl|rfl|rfl)<;>simp only[yJp,bAt,dTe] at h<;>exact h.2
theorem wV4 {ca rule:Nat}{r:Rw}{main:Fm}{term:Tm}{name:ByteArray}{ad:List Sq}(hr:rowS ca rule=some r)(ht:term.size<=900000)(h:yXw ca rule r main term name=(ad,0)) :
  ∀q∈ad,q.l.all (fmB ca)=true/\q.r.all (fmB ca)=true:=by
 obtain⟨w1,w2,w3,w4,w5,w6,w7,w8,w9⟩:=vZn hr;unfold yXw at h;by_cases hc:(!fmB ca main || (decide (r.op≠0)&&decide (main.op≠r.op)))=true
 ·rw[if_pos hc] at h;cases (Prod.mk.inj h).2
 rw[if_neg hc] at h;have hf:fmB ca main=true:=by
  cases hq:fmB ca main
  ·simp[hq] at hc
  ·rfl
 have hop:r.op≠0->main.op=r.op:=λh0=>by
  rw[hf] at hc;simpa[h0] using hc
 obtain⟨op,n,us,sub⟩:=main;simp only[Fm.op,Fm.subs,Fm.nm] at hop h;have hlen:=xUf (yXo.1 hf).1;have hg:∀k,k<sub.length->fmB ca ((sub[k]?).getD fm0)=true:=λk hk=>by
  rw[List.getElem?_eq_getElem hk];exact wKe hf (List.getElem_mem hk)
 by_cases h0:r.asks=0
 ·simp only[if_pos h0] at h;rw[<- (Prod.mk.inj h).1];refine xVo (λh1 h2=>hg 0 ?_) (λh1 h2=>hg 1 ?_) (λh1=>?_) (λ_=>hf)
  ·omega
  ·omega
  ·have:=w5 (.inl h1);have h7:op=7:=by omega
   subst h7;obtain⟨a,b,rfl⟩:∃a b,sub=[a,b]:=by
    have:=hlen.2 (by omega)
    match sub,this with
    | [a,b],_=>exact⟨a,b,rfl⟩
   exact wGp hf
 ·simp only[if_neg h0] at h;have hru:13<=rule/\rule<=16:=by
   rcases zXp hr with⟨rfl,rfl⟩|⟨rfl,rfl⟩|⟨rfl,rfl⟩|⟨rfl,rfl⟩|⟨rfl,rfl⟩|⟨rfl,rfl⟩|⟨rfl,rfl⟩|⟨rfl,rfl⟩|⟨rfl,rfl⟩|⟨rfl,rfl⟩|⟨rfl,rfl⟩|⟨rfl,rfl⟩|⟨rfl,rfl⟩|⟨rfl,rfl⟩|⟨rfl,rfl⟩|⟨rfl,rfl⟩|⟨rfl,rfl⟩|⟨rfl,rfl⟩
   all_goals first
    | exact⟨by decide,by decide⟩
    | exact absurd rfl h0
  have h3:ca=3:=(wVy hr).2 hru.1 hru.2;have htt:∀(t:Tm),t.size<=900000->(yZf ((sub[0]?).getD fm0) [(n,t)]).2=0->fmB ca (yZf ((sub[0]?).getD fm0) [(n,t)]).1=true:=λt hts hp=>by
   obtain⟨_,_,he,hrr,_⟩:=xU6 (by simp only[wS];omega) hp;unfold fmB;rw[hrr,he,h3,Bool.true_and,zU1];have:=(yXo.1 (hg 0 (by omega))).2.2.2
   rwa [h3] at this
  generalize hte:(if r.asks=2 then Tm.mk true name [] else term)=t at h;have hts:t.size<=900000:=by
   rw[<- hte];split
   ·simp[Tm.size,yQd]
   ·exact ht
  by_cases h1:(!t.ok)=true
  ·simp only[if_pos h1] at h;cases (Prod.mk.inj h).2
  simp only[if_neg h1] at h;rcases vZw h with⟨_,h⟩|⟨h2,h⟩
  ·cases (Prod.mk.inj h).2
  rw[<- (Prod.mk.inj h).1];exact xVo (λ_ _=>htt t hts (Decidable.not_not.1 h2)) (λh1 h2=>by omega) (λh1=>by omega) (λh1=>by omega)
section
variable {nm:ByteArray}{g:Fm}{ca:Nat}
theorem wZb {f:Fm}(h:fmB ca f=true):f.right=true:=by
 unfold fmB at h;simp only[bAt] at h;exact h.1
mutual
noncomputable def zU3 (ca:Nat):Tr->Bool
 | t@(.mk _ _ _ _ _ sub)=>decide (yZn ca t=0)&&zXy ca sub
noncomputable def zXy (ca:Nat):List Tr->Bool
 | []=>true
 | a::l=>zU3 ca a&&zXy ca l
end
mutual
theorem zVi (ca:Nat):∀(p:List Nat) (t:Tr),(yZa (yZn ca) (t.walk p)).2=0↔zU3 ca t=true
 | p,.mk rule s f u n sub=>by
  have ih:=zXx ca p 0 sub;simp only[Tr.walk,yZa,zU3,bAt,dTe];by_cases h:yZn ca (.mk rule s f u n sub)=0
  ·rw[if_pos h,ih];simp[h]
  ·rw[if_neg h];simp[h]
theorem zXx (ca:Nat):∀(p:List Nat) (i:Nat) (l:List Tr),(yZa (yZn ca) (yZb p i l)).2=0↔zXy ca l=true
 | _,_,[]=>by simp[yZb,yZa,zXy]
 | p,i,a::l=>by
  have i1:=zVi ca (p++[i]) a;have i2:=zXx ca p (i+1) l;simp only[yZb,yJx,zXy,bAt];rw[<- i1,<- i2];by_cases h:(yZa (yZn ca) (a.walk (p++[i]))).2=0
  ·rw[if_pos h];simp[h]
  ·rw[if_neg h];simp[h]
end
theorem xYu {t:Tr}:(yXx ca t).2=0↔yKf ca=true/\t.steps<=300/\zU3 ca t=true:=by
 unfold yXx;cases hk:yKf ca
 ·simp
 ·simp only[Bool.not_true,bFt,if_false,true_and];split
  ·simp;omega
  ·rename_i h;rw[zVi];exact⟨λq=>⟨by omega,q⟩,λq=>q.2⟩
theorem xZo {t:Tr}(h:zU3 ca t=true):yXe ca t.sq=true:=by
 obtain⟨rule,s,f,u,n,sub⟩:=t;simp only[zU3,bAt,dTe] at h;exact xQ6 h.1
mutual
def zXa:Tr->Bool
 | .mk _ _ _ u _ sub=>decide (u.size<=900000)&&yYv sub
def yYv:List Tr->Bool
 | []=>true
 | a::l=>zXa a&&yYv l
end
end
theorem zGu (s:Sq):∀(ad:List Sq) (ts:List Tr),yJ6 s ad ts=true->∀(i:Nat) (m:Sq) (t:Tr),ad[i]?=some m->ts[i]?=some t->yKm t.sq (s.plus m)=true
 | [],_,_,i,m,t,h,_=>by simp at h
 | _::_,[],_,i,m,t,_,h=>by simp at h
 | a::ad,b::ts,h,i,m,t,hm,ht=>by
  simp only[yJ6,bAt] at h;cases i with
  | zero =>
   simp only[List.getElem?_cons_zero,Option.some.injEq] at hm ht;subst hm;subst ht;exact h.1
  | succ i=>exact zGu s ad ts h.2 i m t (by simpa using hm) (by simpa using ht)
end Go.Proofs.Tryz
namespace Go.Proofs.Tryz
open Go Go.Iv
structure MdOk (M:Md)(ca W:Nat):Prop where
 refl:∀w<W,w∈M.sees w
 lt:∀w<W,∀v∈M.sees w,v<W
 trans:∀w<W,∀v∈M.sees w,∀u∈M.sees v,u∈M.sees w
 pers:∀n l,(∀e∈l,e<M.E)->∀w,w<W->∀v∈M.sees w,M.P n l w=true->M.P n l v=true
 one:ca≠2->∀w<W,∀v∈M.sees w,v=w
 ev:∀n,M.V n<M.E
 ef:∀n l,M.F n l<M.E
theorem MdOk.upd {M:Md}{ca W:Nat}(h:MdOk M ca W)(x:ByteArray){e:Nat}(he:e<M.E):MdOk (M.upd x e) ca W :=
 ⟨h.refl,h.lt,h.trans,h.pers,h.one,λn=>by
  show (if x=n then e else M.V n)<M.E;split
  ·exact he
  ·exact h.ev n,h.ef⟩
theorem xQp {M:Md}{ca W:Nat}(h:MdOk M ca W):∀t:Tm,valT M [] t<M.E
 | .mk true n us=>by simp only[valT,yVg,List.find?_nil,Option.map_none,Option.getD_none];exact h.ev n
 | .mk false n us=>h.ef _ _
theorem xJd {M:Md}{ca W:Nat}(h:MdOk M ca W):∀(l:List Tm),∀e∈yWx M [] l,e<M.E
 | [],e,he=>by simp[yWx] at he
 | a::l,e,he=>by
  simp only[yWx,List.mem_cons] at he;rcases he with rfl|he
  ·exact xQp h a
  ·exact xJd h l e he
mutual
theorem zUi {M:Md}{ca W:Nat}(h:MdOk M ca W)(hc:ca≠3):∀(f:Fm),opsB ca f=true->∀w<W,∀v∈M.sees w,hold M f [] w=true->hold M f [] v=true
 | .mk op n us sub,ho,w,hw,v,hv,hf=>by
  simp only[opsB,bAt,dTe,if_neg hc] at ho;have ih:=zVs h hc sub ho.2 w hw v hv;have h8:op≠8:=by omega
  have h9:op≠9:=by omega
  simp only[hold,if_neg h8,if_neg h9] at hf ⊢;by_cases h1:op=1
  ·simp only[if_pos h1] at hf ⊢;exact h.pers _ _ (xJd h us) _ hw _ hv hf
  simp only[if_neg h1] at hf ⊢;by_cases h3:op=3
  ·simp only[if_pos h3] at hf ⊢;exact List.all_eq_true.2 λu hu=>List.all_eq_true.1 hf u (h.trans w hw v hv u hu)
  simp only[if_neg h3] at hf ⊢;by_cases h4:op=4
  ·simp only[if_pos h4] at hf ⊢;exact ih.1 hf
  simp only[if_neg h4] at hf ⊢;by_cases h5:op=5
  ·simp only[if_pos h5] at hf ⊢;exact ih.2 hf
  simp only[if_neg h5] at hf ⊢;by_cases h6:op=6
  ·simp only[if_pos h6] at hf ⊢;exact List.all_eq_true.2 λu hu=>List.all_eq_true.1 hf u (h.trans w hw v hv u hu)
  simp only[if_neg h6] at hf ⊢;by_cases h7:op=7
  ·simp only[if_pos h7] at hf ⊢;exact List.all_eq_true.2 λu hu=>List.all_eq_true.1 hf u (h.trans w hw v hv u hu)
  simp only[if_neg h7] at hf;cases hf
theorem zVs {M:Md}{ca W:Nat}(h:MdOk M ca W)(hc:ca≠3):∀(l:List Fm),yK4 ca l=true->∀w<W,∀v∈M.sees w,((yJ0 M l [] w).all id=true->(yJ0 M l [] v).all id=true)/\((yJ0 M l [] w).any id=true->(yJ0 M l [] v).any id=true)
 | [],_,_,_,_,_=>⟨id,id⟩
 | a::l,ho,w,hw,v,hv=>by
  simp only[yK4,bAt] at ho;have h1:=zUi h hc a ho.1 w hw v hv;have h2:=zVs h hc l ho.2 w hw v hv;simp only[yJ0,List.all_cons,List.any_cons,id,bAt,Bool.or_eq_true];exact⟨λq=>⟨h1 q.1,h2.1 q.2⟩,λq=>q.imp h1 h2.2⟩
end
theorem wQt {M:Md}{ca W:Nat}(h:MdOk M ca W){f:Fm}(hf:fmB ca f=true){w v:Nat}(hw:w<W)(hv:v∈M.sees w)(ht:hold M f [] w=true):hold M f [] v=true:=by
 by_cases hc:ca=2
 ·exact zUi h (by omega) f (yXo.1 hf).2.2.2 w hw v hv ht
 ·rw[h.one hc w hw v hv];exact ht
def tS (M:Md)(w:Nat)(s:Sq):Prop:=(∀f∈s.l,hold M f [] w=true)->∃f∈s.r,hold M f [] w=true
theorem zQm (M:Md){f g:Fm}(h:eqF f g=true)(w:Nat):hold M f [] w=hold M g [] w:=xY5 M (yVo.1 h).2.2.2 w
theorem xGd {M:Md}{w:Nat}{q p:Sq}(h:yKm q p=true)(ht:tS M w q):tS M w p:=by
 unfold yKm at h;simp only[bAt] at h;intro hl;obtain⟨f,hf,hh⟩:=ht λf hf=>by
  obtain⟨g,hg,he⟩:=yKg.1 (xQc.1 h.1 f hf);rw[zQm M he];exact hl g hg
 obtain⟨g,hg,he⟩:=yKg.1 (xQc.1 h.2 f hf);exact⟨g,hg,by rw[<- zQm M he];exact hh⟩
section
variable (M:Md)(n:ByteArray)(us:List Tm)(a b:Fm)(w:Nat)
theorem vXp (sub:List Fm):hold M (.mk 2 n us sub) [] w=false:=by simp[hold]
theorem wQw:hold M (.mk 3 n us [a]) [] w=true↔∀v∈M.sees w,hold M a [] v=false:=by simp[hold,yJ0]
theorem wWh:hold M (.mk 4 n us [a,b]) [] w=true↔hold M a [] w=true/\hold M b [] w=true:=by simp[hold,yJ0]
theorem wQv:hold M (.mk 5 n us [a,b]) [] w=true↔hold M a [] w=true\/hold M b [] w=true:=by simp[hold,yJ0]
theorem zUj:hold M (.mk 6 n us [a,b]) [] w=true↔∀v∈M.sees w,hold M a [] v=true->hold M b [] v=true:=by
 simp only[hold,yJ0,impB];simp;constructor
 ·intro h v hv ha;rcases h v hv with k|k
  ·rw[ha] at k;cases k
  ·exact k
 ·intro h v hv;cases ha:hold M a [] v
  ·exact .inl rfl
  ·exact .inr (h v hv ha)
theorem wQu:hold M (.mk 7 n us [a,b]) [] w=true↔∀v∈M.sees w,hold M a [] v=hold M b [] v:=by simp[hold,yJ0,iffB]
theorem wWg:hold M (.mk 8 n us [a]) [] w=true↔∀e<M.E,hold (M.upd n e) a [] w=true:=by simp[hold,yJ0,xKx]
theorem wWf:hold M (.mk 9 n us [a]) [] w=true↔∃e,e<M.E/\hold (M.upd n e) a [] w=true:=by simp[hold,yJ0,xKx]
end
theorem wY1 (M:Md)(x:ByteArray)(e d:Nat):(M.upd x e).upd x d=M.upd x d:=by
 unfold Md.upd;simp only[Md.mk.injEq,true_and];funext n;by_cases h:x=n<;>simp[h]
theorem wXy (M:Md){x y:ByteArray}(h:x≠y)(e d:Nat):(M.upd x e).upd y d=(M.upd y d).upd x e:=by
 unfold Md.upd;simp only[Md.mk.injEq,true_and];funext n;by_cases h1:y=n
 ·subst h1;simp[h]
 ·simp[h1]
theorem wWk {a b:Fm}(h:eqF a b=true):frF a=frF b:=by
 obtain⟨_,h1,h2,h3⟩:=yVo.1 h;rw[<- zYl (yJo h1).1,<- zYl (yJo h2).1,h3]
theorem zG0 {b:Bool}(h:¬ b=true):b=false:=by simpa using h
theorem xVx {ca rule:Nat}{s:Sq}{main:Fm}{u:Tm}{n:ByteArray}{sub:List Tr}(hu:u.size<=900000)(hc:yZn ca (.mk rule s main u n sub)=0)
  (hsub:∀a∈sub,∀(M:Md) (W:Nat),MdOk M ca W->∀w<W,tS M w a.sq) (M:Md) (W:Nat) (hM:MdOk M ca W) (w:Nat) (hw:w<W):tS M w s:=by
 obtain⟨h1,h2,h3⟩:=xXm hc;obtain⟨r,k1,k2,k3,k4,k5,k6,k7⟩:=xVy h1;obtain⟨ad,had⟩:∃ad,yXw ca rule r main u n=(ad,0):=⟨_,Prod.ext rfl k3⟩
 have hfm:=wV4 k2 hu had;rw[k7,had] at h2 h3;simp only at h2 h3;have hp:=zZ2 k1
 -- what the premises say
 have hprem:∀(i:Nat) (m:Sq),ad[i]?=some m->∀(M:Md) (W:Nat),MdOk M ca W->∀v<W,tS M v (s.plus m):=λi m hi M W hM v hv=>by
  have hlt:i<sub.length:=by have:=(lGs hi).1;omega
  exact xGd (zGu s ad sub h3 i m _ hi (List.getElem?_eq_getElem hlt)) (hsub _ (List.getElem_mem hlt) M W hM v hv)
 have hnext:∀(i:Nat) (l rr:List Fm),ad[i]?=some ⟨l,rr⟩->∀(M:Md) (W:Nat),MdOk M ca W->∀v<W,(∀f∈s.l,hold M f [] v=true)->(∀f∈l,hold M f [] v=true)->(∃f∈s.r,hold M f [] v=true)\/∃f∈rr,hold M f [] v=true:=λi l rr hi M W hM v hv q1 q2=>by
  obtain⟨f,hf,hh⟩:=hprem i _ hi M W hM v hv (λf hf=>(List.mem_append.1 hf).elim (q1 f) (q2 f));rcases List.mem_append.1 hf with h|h
  ·exact .inl ⟨f,h,hh⟩
  ·exact .inr ⟨f,h,hh⟩
 intro hl;refine Classical.byContradiction λhno=>?_;have hr:∀f∈s.r,hold M f [] w=false:=λf hf=>zG0 λh=>hno ⟨f,hf,h⟩;have hml:r.left=true->hold M main [] w=true:=λh=>by
  obtain⟨g,hg,he⟩:=yKg.1 (k4 h);rw[zQm M he];exact hl g hg
 have hmr:r.right=true->hold M main [] w=false:=λh=>by
  obtain⟨g,hg,he⟩:=yKg.1 (k5 h);rw[zQm M he];exact hr g hg
 -- in the worlds that are seen: the left side stays,the right side is the main formula
 have hstay:∀v∈M.sees w,∀f∈s.l,hold M f [] v=true:=λv hv f hf=>wQt hM (List.all_eq_true.1 hp.1 f hf) hw hv (hl f hf);have hback:r.right=true->∀v∈M.sees w,(∃f∈s.r,hold M f [] v=true)->hold M main [] v=true:=λh v hv ⟨f,hf,hh⟩=>by
  by_cases hca:ca=2
  ·obtain⟨g,hg,he⟩:=yKg.1 (k5 h);have hfs:yWn s.r=true:=by
    unfold yXe at k1;simp only[bAt,Bool.or_eq_true,dTe] at k1;exact k1.2.resolve_left λh=>h hca
   have:=(zUs (λf hf=>wZb (List.all_eq_true.1 hp.2 f hf))).1 hfs g hg f hf;rw[zQm M he,zQm M this];exact hh
  ·rw[hM.one hca w hw v hv] at hh;rw[hr f hf] at hh;cases hh
 have hnow:∀(i:Nat) (l rr:List Fm),ad[i]?=some ⟨l,rr⟩->(∀f∈l,hold M f [] w=true)->∃f∈rr,hold M f [] w=true:=λi l rr hi hq=>by
  rcases hnext i l rr hi M W hM w hw hl hq with⟨f,hf,hh⟩|h
  ·rw[hr f hf] at hh;cases hh
  ·exact h
 have hww:=hM.refl w hw
 -- the main formula and its parts
 have hfma:fmB ca main=true/\(r.op≠0->main.op=r.op):=by
  unfold yXw at had;by_cases hq:(!fmB ca main || (decide (r.op≠0)&&decide (main.op≠r.op)))=true
  ·rw[if_pos hq] at had;cases (Prod.mk.inj had).2
  ·cases hq':fmB ca main
   ·rw[hq'] at hq;simp at hq
   ·rw[hq'] at hq;refine⟨rfl,λh0=>by simpa[h0] using hq⟩
 obtain⟨op,x,us,fs⟩:=main;have hlen:=xUf (yXo.1 hfma.1).1;simp only[Fm.op] at hfma;have one:r.op=3\/r.op=8\/r.op=9->∃a,op=r.op/\fs=[a]:=λh=>by
  have e:=hfma.2 (by omega);have:=hlen.1 (by omega)
  match fs,this with
  | [a],_=>exact⟨a,e,rfl⟩
 have two:r.op=4\/r.op=5\/r.op=6\/r.op=7->∃a b,op=r.op/\fs=[a,b]:=λh=>by
  have e:=hfma.2 (by omega);have:=hlen.2 (by omega)
  match fs,this with
  | [a,b],_=>exact⟨a,b,e,rfl⟩
 -- what is added,without and with a term
 have hadd:r.asks=0->addS ca rule (.mk op x us fs) ((fs[0]?).getD fm0) ((fs[1]?).getD fm0)=ad:=λh0=>by
  unfold yXw at had;rw[if_neg (by rw[hfma.1];intro hx;simp[Fm.op] at hx;exact (of_decide_eq_true hx.2) (hfma.2 hx.1))] at had;simp only[if_pos h0,Fm.subs] at had;exact (Prod.mk.inj had).1
 have hput:∀a,fs=[a]->r.asks≠0->∃t:Tm,t=(if r.asks=2 then Tm.mk true n [] else u)/\a.ok=true/\addS ca rule (.mk op x us fs) (yXr (yKh [(x,t)] (frF a)) a) fm0=ad:=λa ha h0=>by
  subst ha;unfold yXw at had;rw[if_neg (by rw[hfma.1];intro hx;simp[Fm.op] at hx;exact (of_decide_eq_true hx.2) (hfma.2 hx.1))] at had;simp only[if_neg h0,Fm.subs,Fm.nm,List.getElem?_cons_zero,Option.getD_some] at had;generalize hte:(if r.asks=2 then Tm.mk true n [] else u)=t at had;have hts:t.size<=900000:=by
   rw[<- hte];split
   ·simp[Tm.size,yQd]
   ·exact hu
  by_cases q1:(!t.ok)=true
  ·simp only[if_pos q1] at had;cases (Prod.mk.inj had).2
  simp only[if_neg q1] at had;rcases vZw had with⟨_,had⟩|⟨q2,had⟩
  ·cases (Prod.mk.inj had).2
  obtain⟨q3,_,q4,_⟩:=xU6 (by simp only[wS];omega) (Decidable.not_not.1 q2);refine⟨t,rfl,(yJo q3).1,?_⟩;rw[<- q4];exact (Prod.mk.inj had).1
 have hfree:∀(y:ByteArray) (e:Nat) (a:Fm),fs=[a]->isQ op=true->y ∉ frF (.mk op x us fs)->a.ok=true->hold ((M.upd y e).upd x e) a [] w=hold (M.upd x e) a [] w:=λy e a ha hq hy hao=>by
  by_cases hxy:y=x
  ·subst hxy;rw[wY1]
  ·rw[wXy M hxy];refine yYj _ _ _ hao (λh=>hy ?_) w;subst ha;simp only[frF,frFs,hq,if_true,List.append_nil,List.mem_append,List.mem_filter];right;exact⟨h,by simpa using hxy⟩
 have hq3:∀(P:Prop),(∃f∈([]:List Fm),P)->False:=λP ⟨f,hf,_⟩=>by cases hf
 rcases zXp k2 with⟨rfl,rfl⟩|⟨rfl,rfl⟩|⟨rfl,rfl⟩|⟨rfl,rfl⟩|⟨rfl,rfl⟩|⟨rfl,rfl⟩|⟨rfl,rfl⟩|⟨rfl,rfl⟩|⟨rfl,rfl⟩|⟨rfl,rfl⟩|⟨rfl,rfl⟩|⟨rfl,rfl⟩|⟨rfl,rfl⟩|⟨rfl,rfl⟩|⟨rfl,rfl⟩|⟨rfl,rfl⟩|⟨rfl,rfl⟩|⟨rfl,rfl⟩
 ·have:=hml rfl;rw[hmr rfl] at this;cases this
 ·obtain rfl:op=2:=hfma.2 (by decide);have:=hml rfl;rw[vXp] at this;cases this
 ·obtain⟨a,e,rfl⟩:=one (.inl rfl);obtain rfl:op=3:=e;have ha:=(wQw M x us a w).1 (hml rfl) w hww;have had:[⟨[],[a]⟩]=ad:=hadd rfl;obtain⟨f,hf,hh⟩:=hnow 0 [] [a] (by rw[<- had];rfl) (λf hf=>by cases hf);rw[List.mem_singleton.1 hf,ha] at hh;cases hh
 ·obtain⟨a,e,rfl⟩:=one (.inl rfl);obtain rfl:op=3:=e;have had:[⟨[a],[]⟩]=ad:=hadd rfl;obtain⟨v,hv,hav⟩:∃v,v∈M.sees w/\hold M a [] v=true:=Classical.byContradiction λh=>by
   have:=(wQw M x us a w).2 λv hv=>zG0 λq=>h ⟨v,hv,q⟩;rw[hmr rfl] at this;cases this
  rcases hnext 0 [a] [] (by rw[<- had];rfl) M W hM v (hM.lt w hw v hv) (hstay v hv) (λf hf=>by rw[List.mem_singleton.1 hf];exact hav) with h|⟨f,hf,_⟩
  ·have:=(wQw M x us a v).1 (hback rfl v hv h) v (hM.refl v (hM.lt w hw v hv));rw[hav] at this;cases this
  ·cases hf
 ·obtain⟨a,b,e,rfl⟩:=two (.inl rfl);obtain rfl:op=4:=e;have had:[⟨[a,b],[]⟩]=ad:=hadd rfl;have hab:=(wWh M x us a b w).1 (hml rfl);obtain⟨f,hf,hh⟩:=hnow 0 [a,b] [] (by rw[<- had];rfl) (λf hf=>by
   simp only[List.mem_cons,List.not_mem_nil,or_false] at hf;rcases hf with rfl|rfl
   ·exact hab.1
   ·exact hab.2)
  cases hf
 ·obtain⟨a,b,e,rfl⟩:=two (.inl rfl);obtain rfl:op=4:=e;have had:[⟨[],[a]⟩,⟨[],[b]⟩]=ad:=hadd rfl;obtain⟨f,hf,hh⟩:=hnow 0 [] [a] (by rw[<- had];rfl) (λf hf=>by cases hf);obtain⟨g,hg,hh'⟩:=hnow 1 [] [b] (by rw[<- had];rfl) (λf hf=>by cases hf);rw[List.mem_singleton.1 hf] at hh;rw[List.mem_singleton.1 hg] at hh';have:=(wWh M x us a b w).2 ⟨hh,hh'⟩;rw[hmr rfl] at this;cases this
 ·obtain⟨a,b,e,rfl⟩:=two (.inr (.inl rfl));obtain rfl:op=5:=e;have had:[⟨[a],[]⟩,⟨[b],[]⟩]=ad:=hadd rfl;rcases (wQv M x us a b w).1 (hml rfl) with h|h
  ·obtain⟨f,hf,hh⟩:=hnow 0 [a] [] (by rw[<- had];rfl) (λf hf=>by rw[List.mem_singleton.1 hf];exact h);cases hf
  ·obtain⟨f,hf,hh⟩:=hnow 1 [b] [] (by rw[<- had];rfl) (λf hf=>by rw[List.mem_singleton.1 hf];exact h);cases hf
 ·obtain⟨a,b,e,rfl⟩:=two (.inr (.inl rfl));obtain rfl:op=5:=e;have had:(if ca=2 then [⟨[],[a]⟩] else [⟨[],[a,b]⟩])=ad:=hadd rfl;have key:hold M a [] w=true\/hold M b [] w=true:=by
   by_cases hca:ca=2
   ·rw[if_pos hca] at had;obtain⟨f,hf,hh⟩:=hnow 0 [] [a] (by rw[<- had];rfl) (λf hf=>by cases hf);rw[List.mem_singleton.1 hf] at hh;exact .inl hh
   ·rw[if_neg hca] at had;obtain⟨f,hf,hh⟩:=hnow 0 [] [a,b] (by rw[<- had];rfl) (λf hf=>by cases hf);simp only[List.mem_cons,List.not_mem_nil,or_false] at hf;rcases hf with rfl|rfl
    ·exact .inl hh
    ·exact .inr hh
  have:=(wQv M x us a b w).2 key;rw[hmr rfl] at this;cases this
 ·obtain⟨a,b,e,rfl⟩:=two (.inr (.inr (.inl rfl)));obtain rfl:op=6:=e;have had:[⟨[],[a]⟩,⟨[b],[]⟩]=ad:=hadd rfl;obtain⟨f,hf,hh⟩:=hnow 0 [] [a] (by rw[<- had];rfl) (λf hf=>by cases hf);rw[List.mem_singleton.1 hf] at hh;have hb:=(zUj M x us a b w).1 (hml rfl) w hww hh;obtain⟨f,hf,hh⟩:=hnow 1 [b] [] (by rw[<- had];rfl) (λf hf=>by rw[List.mem_singleton.1 hf];exact hb);cases hf
 ·obtain⟨a,b,e,rfl⟩:=two (.inr (.inr (.inl rfl)));obtain rfl:op=6:=e;have had:[⟨[a],[b]⟩]=ad:=hadd rfl;obtain⟨v,hv,hav,hbv⟩:∃v,v∈M.sees w/\hold M a [] v=true/\hold M b [] v=false:=Classical.byContradiction λh=>by
   have:=(zUj M x us a b w).2 λv hv ha=>Classical.byContradiction λq=>h ⟨v,hv,ha,zG0 q⟩;rw[hmr rfl] at this;cases this
  have hvW:=hM.lt w hw v hv;rcases hnext 0 [a] [b] (by rw[<- had];rfl) M W hM v hvW (hstay v hv) (λf hf=>by rw[List.mem_singleton.1 hf];exact hav) with h|⟨f,hf,hh⟩
  ·have:=(zUj M x us a b v).1 (hback rfl v hv h) v (hM.refl v hvW) hav;rw[hbv] at this;cases this
  ·rw[List.mem_singleton.1 hf,hbv] at hh;cases hh
 ·obtain⟨a,b,e,rfl⟩:=two (.inr (.inr (.inr rfl)));obtain rfl:op=7:=e;have had:[⟨[impF a b,impF b a],[]⟩]=ad:=hadd rfl;have hab:=(wQu M x us a b w).1 (hml rfl);obtain⟨f,hf,hh⟩:=hnow 0 [impF a b,impF b a] [] (by rw[<- had];rfl) (λf hf=>by
   simp only[List.mem_cons,List.not_mem_nil,or_false] at hf;rcases hf with rfl|rfl
   ·exact (zUj M _ _ a b w).2 λv hv h=>by rw[<- hab v hv];exact h
   ·exact (zUj M _ _ b a w).2 λv hv h=>by rw[hab v hv];exact h)
  cases hf
 ·obtain⟨a,b,e,rfl⟩:=two (.inr (.inr (.inr rfl)));obtain rfl:op=7:=e;have had:[⟨[a],[b]⟩,⟨[b],[a]⟩]=ad:=hadd rfl;obtain⟨v,hv,hne⟩:∃v,v∈M.sees w/\hold M a [] v≠hold M b [] v:=Classical.byContradiction λh=>by
   have:=(wQu M x us a b w).2 λv hv=>Classical.byContradiction λq=>h ⟨v,hv,q⟩;rw[hmr rfl] at this;cases this
  have hvW:=hM.lt w hw v hv;have hmv:=λh=>(wQu M x us a b v).1 (hback rfl v hv h) v (hM.refl v hvW);cases hav:hold M a [] v
  ·have hbv:hold M b [] v=true:=by
    cases hb:hold M b [] v
    ·rw[hav,hb] at hne;exact absurd rfl hne
    ·rfl
   rcases hnext 1 [b] [a] (by rw[<- had];rfl) M W hM v hvW (hstay v hv) (λf hf=>by rw[List.mem_singleton.1 hf];exact hbv) with h|⟨f,hf,hh⟩
   ·exact hne (hmv h)
   ·rw[List.mem_singleton.1 hf,hav] at hh;cases hh
  ·rcases hnext 0 [a] [b] (by rw[<- had];rfl) M W hM v hvW (hstay v hv) (λf hf=>by rw[List.mem_singleton.1 hf];exact hav) with h|⟨f,hf,hh⟩
   ·exact hne (hmv h)
   ·rw[List.mem_singleton.1 hf] at hh;rw[hav,hh] at hne;exact hne rfl
 ·obtain⟨a,e,rfl⟩:=one (.inr (.inl rfl));obtain rfl:op=8:=e;obtain⟨t,ht,hao,had⟩:=hput a rfl (by decide);have had:[⟨[yXr (yKh [(x,t)] (frF a)) a],[]⟩]=ad:=had;obtain⟨f,hf,hh⟩:=hnow 0 [yXr (yKh [(x,t)] (frF a)) a] [] (by rw[<- had];rfl) (λf hf=>by
   rw[List.mem_singleton.1 hf,zZv M x t hao];exact (wWg M x us a w).1 (hml rfl) _ (xQp hM t))
  cases hf
 ·obtain⟨a,e,rfl⟩:=one (.inr (.inl rfl));obtain rfl:op=8:=e;obtain⟨t,ht,hao,had⟩:=hput a rfl (by decide);obtain rfl:t=.mk true n []:=ht;have had:[⟨[],[yXr (yKh [(x,.mk true n [])] (frF a)) a]⟩]=ad:=had;obtain⟨e,he,hea⟩:∃e,e<M.E/\hold (M.upd x e) a [] w=false:=Classical.byContradiction λh=>by
   have:=(wWg M x us a w).2 λe he=>Classical.byContradiction λq=>h ⟨e,he,zG0 q⟩;rw[hmr rfl] at this;cases this
  have hfr:=k6 rfl;unfold yJu at hfr;rw[Bool.or_eq_false_iff,List.any_eq_false,List.any_eq_false] at hfr;have hl':∀f∈s.l,hold (M.upd n e) f [] w=true:=λf hf=>by
   rw[yYj M n e (yXo.1 (List.all_eq_true.1 hp.1 f hf)).1 (λh=>hfr.1 f hf (yZo.2 h))];exact hl f hf
  have hnm:n ∉ frF (.mk 8 x us [a]):=λh=>by
   obtain⟨g,hg,hq⟩:=yKg.1 (k5 rfl);rw[wWk hq] at h;exact hfr.2 g hg (yZo.2 h)
  rcases hnext 0 [] [yXr (yKh [(x,.mk true n [])] (frF a)) a] (by rw[<- had];rfl) (M.upd n e) W (hM.upd n he) w hw hl' (λf hf=>by cases hf) with⟨f,hf,hh⟩|⟨f,hf,hh⟩
  ·rw[yYj M n e (yXo.1 (List.all_eq_true.1 hp.2 f hf)).1 (λh=>hfr.2 f hf (yZo.2 h)),hr f hf] at hh;cases hh
  ·rw[List.mem_singleton.1 hf,zZv (M.upd n e) x (.mk true n []) hao,show valT (M.upd n e) [] (.mk true n [])=e by simp[valT,yVg,Md.upd],hfree n e a rfl rfl hnm hao,hea] at hh;cases hh
 ·obtain⟨a,e,rfl⟩:=one (.inr (.inr rfl));obtain rfl:op=9:=e;obtain⟨t,ht,hao,had⟩:=hput a rfl (by decide);obtain rfl:t=.mk true n []:=ht;have had:[⟨[yXr (yKh [(x,.mk true n [])] (frF a)) a],[]⟩]=ad:=had;obtain⟨e,he,hea⟩:=(wWf M x us a w).1 (hml rfl);have hfr:=k6 rfl;unfold yJu at hfr;rw[Bool.or_eq_false_iff,List.any_eq_false,List.any_eq_false] at hfr;have hl':∀f∈s.l,hold (M.upd n e) f [] w=true:=λf hf=>by
   rw[yYj M n e (yXo.1 (List.all_eq_true.1 hp.1 f hf)).1 (λh=>hfr.1 f hf (yZo.2 h))];exact hl f hf
  have hnm:n ∉ frF (.mk 9 x us [a]):=λh=>by
   obtain⟨g,hg,hq⟩:=yKg.1 (k4 rfl);rw[wWk hq] at h;exact hfr.1 g hg (yZo.2 h)
  rcases hnext 0 [yXr (yKh [(x,.mk true n [])] (frF a)) a] [] (by rw[<- had];rfl) (M.upd n e) W (hM.upd n he) w hw hl' (λf hf=>by
   rw[List.mem_singleton.1 hf,zZv (M.upd n e) x (.mk true n []) hao,show valT (M.upd n e) [] (.mk true n [])=e by simp[valT,yVg,Md.upd],hfree n e a rfl rfl hnm hao];exact hea) with⟨f,hf,hh⟩|⟨f,hf,hh⟩
  ·rw[yYj M n e (yXo.1 (List.all_eq_true.1 hp.2 f hf)).1 (λh=>hfr.2 f hf (yZo.2 h)),hr f hf] at hh;cases hh
  ·cases hf
 ·obtain⟨a,e,rfl⟩:=one (.inr (.inr rfl));obtain rfl:op=9:=e;obtain⟨t,ht,hao,had⟩:=hput a rfl (by decide);have had:[⟨[],[yXr (yKh [(x,t)] (frF a)) a]⟩]=ad:=had;obtain⟨f,hf,hh⟩:=hnow 0 [] [yXr (yKh [(x,t)] (frF a)) a] (by rw[<- had];rfl) (λf hf=>by cases hf);rw[List.mem_singleton.1 hf,zZv M x t hao] at hh;have:=(wWf M x us a w).2 ⟨_,xQp hM t,hh⟩;rw[hmr rfl] at this;cases this
 ·have had:[⟨[],[.mk op x us fs]⟩,⟨[.mk op x us fs],[]⟩]=ad:=hadd rfl;obtain⟨f,hf,hh⟩:=hnow 0 [] [.mk op x us fs] (by rw[<- had];rfl) (λf hf=>by cases hf);rw[List.mem_singleton.1 hf] at hh;obtain⟨g,hg,_⟩:=hnow 1 [.mk op x us fs] [] (by rw[<- had];rfl) (λf hf=>by rw[List.mem_singleton.1 hf];exact hh);cases hg
 ·obtain⟨a,b,e,rfl⟩:=two (.inr (.inl rfl));obtain rfl:op=5:=e;have had:[⟨[],[b]⟩]=ad:=hadd rfl;obtain⟨f,hf,hh⟩:=hnow 0 [] [b] (by rw[<- had];rfl) (λf hf=>by cases hf);rw[List.mem_singleton.1 hf] at hh;have:=(wQv M x us a b w).2 (.inr hh);rw[hmr rfl] at this;cases this
mutual
theorem vZg {ca:Nat}:∀t:Tr,zXa t=true->zU3 ca t=true->∀(M:Md) (W:Nat),MdOk M ca W->∀w<W,tS M w t.sq
 | .mk rule s f u n sub,ht,h,M,W,hM,w,hw=>by
  simp only[zXa,bAt,dTe] at ht;simp only[zU3,bAt,dTe] at h;exact xVx ht.1 h.1 (wVv sub ht.2 h.2) M W hM w hw
theorem wVv {ca:Nat}:∀l:List Tr,yYv l=true->zXy ca l=true->∀a∈l,∀(M:Md) (W:Nat),MdOk M ca W->∀w<W,tS M w a.sq
 | [],_,_,a,ha=>by cases ha
 | b::l,ht,h,a,ha=>by
  simp only[yYv,bAt] at ht;simp only[zXy,bAt] at h;rcases List.mem_cons.1 ha with hab|ha
  ·rw[hab];exact vZg b ht.1 h.1
  ·exact wVv l ht.2 h.2 a ha
end
end Go.Proofs.Tryz
namespace Go.Proofs.Tryz
open Go Go.Iv
theorem yK5 {p q:UInt8->Bool}{s:ByteArray}(h:yV7 p q s=true):s.size<=17:=by
 unfold yV7 at h;split at h
 ·cases h
 ·rename_i c cs hs;simp only[bAt,dTe] at h;have:s.size=s.data.toList.length:=Array.length_toList.symm;rw[this,hs,List.length_cons];omega
mutual
theorem vX4:∀t:Tm,t.ok=true->nmT t
 | .mk true n us,h=>by
  simp only[Tm.ok,bAt] at h;have h1:=yK5 h.2;obtain rfl:us=[]:=List.isEmpty_iff.1 h.1;simp only[nmT,nmTs,List.length_nil];exact⟨by omega,by omega,trivial⟩
 | .mk false n us,h=>by
  simp only[Tm.ok,bAt,dTe] at h;have h1:=yK5 h.1.2;simp only[nmT];exact⟨by omega,by omega,xZn us h.2⟩
theorem xZn:∀l:List Tm,yKt l=true->nmTs l
 | [],_=>trivial
 | a::l,h=>by
  simp only[yKt,bAt] at h;exact⟨vX4 a h.1,xZn l h.2⟩
end
theorem vZm {op:Nat}{n:ByteArray}{la ls:Nat}(h:yJp op n la ls=true)(ho:1<=op/\op<=9):n.size<=17/\la<=4/\(op=3\/op=8\/op=9->ls=1)/\(op=4\/op=5\/op=6\/op=7->ls=2):=by
 have he:(⟨#[]⟩:ByteArray).size=0:=rfl;have hone:op=1\/op=2\/op=3\/op=4\/op=5\/op=6\/op=7\/op=8\/op=9:=by omega
 rcases hone with rfl|rfl|rfl|rfl|rfl|rfl|rfl|rfl|rfl<;>simp only[yJp,bAt,dTe] at h<;>obtain⟨⟨h1,h2⟩,h3⟩:=h
 ·have:=yK5 h1;omega
 ·subst h1;omega
 ·subst h1;omega
 ·subst h1;omega
 ·subst h1;omega
 ·subst h1;omega
 ·subst h1;omega
 ·have:=yK5 h1;omega
 ·have:=yK5 h1;omega
mutual
theorem vX3 {ca:Nat}:∀f:Fm,f.ok=true->opsB ca f=true->shF f
 | .mk op n us sub,h,ho=>by
  simp only[Fm.ok,bAt] at h;simp only[opsB,bAt,dTe] at ho;have ho9:1<=op/\op<=9:=⟨ho.1.1.1,by have:=ho.1.1.2;split at this<;>omega⟩
  obtain⟨h1,h2,h3,h4⟩:=vZm h.1.1 ho9;simp only[shF];exact⟨by omega,by omega,xZn us h.1.2,ho9,h3,h4,wW4 sub h.2 ho.2⟩
theorem wW4 {ca:Nat}:∀l:List Fm,yJz l=true->yK4 ca l=true->shFs l
 | [],_,_=>trivial
 | a::l,h,ho=>by
  simp only[yJz,bAt] at h;simp only[yK4,bAt] at ho;exact⟨vX3 a h.1 ho.1,wW4 l h.2 ho.2⟩
end
theorem vJ2 {ca:Nat}{f:Fm}(h:fmB ca f=true):shF f:=by
 obtain⟨h1,_,_,h4⟩:=yXo.1 h;exact vX3 f h1 h4
mutual
theorem zY1:∀f:Fm,shF f->∀p∈yZd f,shF p
 | .mk op n us sub,h,p,hp=>by
  simp only[yZd,List.mem_cons] at hp;rcases hp with rfl|hp
  ·exact h
  ·simp only[shF] at h;exact zGv sub h.2.2.2.2.2.2 p hp
theorem zGv:∀l:List Fm,shFs l->∀p∈yZ9 l,shF p
 | [],_,p,hp=>by simp[yZ9] at hp
 | a::l,h,p,hp=>by
  simp only[yZ9,List.mem_append] at hp;rcases hp with hp|hp
  ·exact zY1 a h.1 p hp
  ·exact zGv l h.2 p hp
end
def Mo.pers (M:Mo):Prop:=∀p∈M.syms,∀w,w<M.sees.length->∀v∈(M.sees[w]?).getD [],M.bit p.1 w<=M.bit p.1 v
theorem wZz (tb:Nat)(k:ByteArray)(i:Nat):∀l:List (ByteArray×Nat),bitL tb k i l<=1
 | []=>by simp[bitL]
 | p::l=>by
  simp only[bitL];split
  ·omega
  ·exact wZz tb k i l
theorem wZy (tb:Nat)(k:ByteArray)(i:Nat):∀l:List (ByteArray×Nat),(∀p∈l,p.1≠k)->bitL tb k i l=0
 | [],_=>rfl
 | p::l,h=>by
  simp only[bitL,if_neg (h p (List.mem_cons_self ..))];exact wZy tb k i l λq hq=>h q (List.mem_cons_of_mem _ hq)
structure FrOk (sees:List (List Nat))(elems ca:Nat):Prop where
 el:0<elems/\elems<=2
 n:sees.length<=3
 rows:∀l∈sees,l.length<=3/\∀v∈l,v<sees.length
 refl:∀w,w<sees.length->w∈(sees[w]?).getD []
 trans:∀w,w<sees.length->∀v∈(sees[w]?).getD [],∀u∈(sees[v]?).getD [],u∈(sees[w]?).getD []
 one:ca≠2->sees.length=1
 many:sees.length≠1->elems=1
theorem FrOk.lt {sees:List (List Nat)}{elems ca:Nat}(h:FrOk sees elems ca){w:Nat}(hw:w<sees.length){v:Nat}(hv:v∈(sees[w]?).getD []):v<sees.length:=by
 rw[List.getElem?_eq_getElem hw] at hv;exact (h.rows _ (List.getElem_mem hw)).2 v hv
theorem xKw:∀(l:List Nat)(acc:Nat),(∀e∈l,e<1)->l.foldl (λa v=>a*1+v) acc=acc
 | [],acc,_=>rfl
 | a::l,acc,h=>by
  have ha:=h a (List.mem_cons_self ..);rw[List.foldl_cons,xKw l _ λe he=>h e (List.mem_cons_of_mem _ he)];omega
theorem wY9 {M:Mo}{ca:Nat}(h:FrOk M.sees M.elems ca)(hp:M.sees.length=1\/M.pers):MdOk (toMd M) ca M.sees.length where
 refl w hw:=h.refl w hw
 lt w hw v hv:=h.lt hw hv
 trans w hw v hv u hu:=h.trans w hw v hv u hu
 pers n l hl w hw v hv ht:=by
  rcases hp with h1|hp
  ·have h2:=h.lt hw hv;have:v=w:=by omega
   rw[this];exact ht
  ·by_cases h1:M.sees.length=1
   ·have h2:=h.lt hw hv;have:v=w:=by omega
    rw[this];exact ht
   ·have he:=h.many h1;have hl':∀e∈l,e<1:=λe hl'=>by have:=hl e hl';rw[<- he];exact this
    rw[wVt,dTe] at ht ⊢;rw[he,xKw l 0 hl',Nat.zero_mul,Nat.zero_add] at ht ⊢;by_cases hk:∃p∈M.syms,p.1=keyB 80 l.length n
    ·obtain⟨p,hps,hpk⟩:=hk;have h3:=hp p hps w hw v hv;rw[hpk,ht] at h3;have h4:=wZz M.table (keyB 80 l.length n) v M.syms;unfold Mo.bit at h3 ⊢;omega
    ·have:M.bit (keyB 80 l.length n) w=0:=wZy _ _ _ _ λp hp hpk=>hk ⟨p,hp,hpk⟩;omega
 one hc w hw v hv:=by
  have h1:=h.one hc;have h2:=h.lt hw hv;omega
 ev n:=Nat.mod_lt _ h.el.1
 ef n l:=Nat.mod_lt _ h.el.1
theorem wGo (ca:Nat):FrOk [[0]] 1 ca:=⟨by omega,by decide,by decide,by decide,by decide,λ_=>rfl,λh=>absurd rfl h⟩
theorem uXv (ca:Nat):FrOk [[0]] 2 ca:=⟨by omega,by decide,by decide,by decide,by decide,λ_=>rfl,λh=>absurd rfl h⟩
theorem uXu:FrOk [[0,1],[1]] 1 2:=⟨by omega,by decide,by decide,by decide,by decide,λh=>absurd rfl h,λ_=>rfl⟩
theorem uXt:FrOk [[0,1,2],[1,2],[2]] 1 2:=⟨by omega,by decide,by decide,by decide,by decide,λh=>absurd rfl h,λ_=>rfl⟩
theorem uXs:FrOk [[0,1,2],[1],[2]] 1 2:=⟨by omega,by decide,by decide,by decide,by decide,λh=>absurd rfl h,λ_=>rfl⟩
end Go.Proofs.Tryz
namespace Go.Proofs.Tryz
open Go Go.Iv
set_option maxRecDepth 4000
variable (gl:Nat->Option IV)
theorem xWi (M:Mo)(cs:List IV)(hM:IsMo M cs)(hO:MoOk M)(hS:SeesOk M)(st:ISt) :
  ICall prog gl 77 [.cptr (.agg cs)] st (λr st'=>(∃b:Bool,r=.raw (.bool b)/\(b=true->M.sees.length=1\/M.pers))/\st'=st):=by
 have hbi:=λk i hi st=>wU9 gl M cs hM hO k i hi st;obtain⟨t1,x1,t2,t3,rfl,e1,hse,e2,e3⟩:=hM;have hsn:=hS.n;have hnn:=hO.n;refine ICall.intro (c:=cf prog gl [] [(12,[0,1,2,3,4,5,6,7,8,10,11,12,13,14,15,16,17,18,19,20,21,22,23,24,25,26,27,9,28,29])]) func77 rfl (by show _<=72;simp) (by kernel_rfl) ?_;by_cases h1:M.sees.length=1
 ·simp only[go_sem,zE,zB,zA,zM,zS,zL,reduceCtorEq,fits,hse.len,show decide ((M.sees.length:Int)=1)=true from dEt (by omega)];intros;exact yQ0 ⟨⟨true,rfl,λ_=>.inl h1⟩,rfl⟩
 ·simp only[go_sem,zE,zB,zA,zM,zS,zL,reduceCtorEq,fits,hse.len,show decide ((M.sees.length:Int)=1)=false from dEf (by omega)];intros;refine LoopC.ctr M.syms.length (λk fr st' ds=>(∀p∈M.syms.take k,∀w,w<M.sees.length->∀v∈(M.sees[w]?).getD [],M.bit p.1 w<=M.bit p.1 v)/\fr 0=.iv (.cptr (.agg [.sl t1 x1,.raw (.int .i64 (M.elems:Int)),.sl t2 (M.syms.map λp=>.raw (.string p.1)),.sl t3 (M.syms.map λp=>.raw (.int .i64 (p.2:Int))),.raw (.int .i64 (M.bits:Int)),.raw (.int .i64 (M.table:Int))]))/\fr 3=.iv (.raw (.int .i64 (k:Int)))/\st'=st/\ds=[]) ?_ ?_ ?_
  ·simp only[go_sem,zE,zB,zA,zM,zS,zL,reduceCtorEq];simp
  ·rintro k fr st1 _ hlt ⟨hp,f0,f3,rfl,rfl⟩;obtain⟨p,hps⟩:=yQ4 hlt;have hn1:(M.syms.map λp=>IV.raw (.string p.1))[k]?=some (.raw (.string p.1)):=by rw[List.getElem?_map,hps];rfl
   simp only[go_sem,zE,zB,zA,zM,zS,zL,reduceCtorEq,f0,f3,fits,List.length_map,lt_i hlt];intros;refine LoopC.ctr M.sees.length (λw fr st' ds=>(∀w',w'<w->∀v∈(M.sees[w']?).getD [],M.bit p.1 w'<=M.bit p.1 v)/\fr 0=.iv (.cptr (.agg [.sl t1 x1,.raw (.int .i64 (M.elems:Int)),.sl t2 (M.syms.map λp=>.raw (.string p.1)),.sl t3 (M.syms.map λp=>.raw (.int .i64 (p.2:Int))),.raw (.int .i64 (M.bits:Int)),.raw (.int .i64 (M.table:Int))]))/\fr 3=.iv (.raw (.int .i64 (k:Int)))/\fr 4=.iv (.raw (.int .i64 (w:Int)))/\st'=st1/\ds=[]) ?_ ?_ ?_
   ·simp only[go_sem,zE,zB,zA,zM,zS,zL,reduceCtorEq,f0,f3];simp
   ·rintro w fr st2 _ hltw ⟨hw,f0,f3,f4,rfl,rfl⟩;obtain⟨l,hl⟩:=yQ4 hltw;obtain⟨t6,hxl,e6⟩:=hse.get hl;have hrow:=hS.row l (lMg hl);have hll:(yXk l).length=l.length:=by simp[yXk]
    have hb1:=hbi p.1 w (by omega);simp only[go_sem,zE,zB,zA,zM,zS,zL,reduceCtorEq,f0,f3,f4,fits,hse.len,lt_i hltw];intros;refine LoopC.ctr l.length (λj fr st' ds=>(∀v∈l.take j,M.bit p.1 w<=M.bit p.1 v)/\fr 0=.iv (.cptr (.agg [.sl t1 x1,.raw (.int .i64 (M.elems:Int)),.sl t2 (M.syms.map λp=>.raw (.string p.1)),.sl t3 (M.syms.map λp=>.raw (.int .i64 (p.2:Int))),.raw (.int .i64 (M.bits:Int)),.raw (.int .i64 (M.table:Int))]))/\fr 3=.iv (.raw (.int .i64 (k:Int)))/\fr 4=.iv (.raw (.int .i64 (w:Int)))/\fr 5=.iv (.raw (.int .i64 (j:Int)))/\st'=st2/\ds=[]) ?_ ?_ ?_
    ·simp only[go_sem,zE,zB,zA,zM,zS,zL,reduceCtorEq,f0,f3,f4];simp
    ·rintro j fr st3 _ hltj ⟨hj,f0,f3,f4,f5,rfl,rfl⟩;obtain⟨v,hv⟩:=yQ4 hltj;have hvi:(yXk l)[j]?=some (.raw (.int .i64 (v:Int))):=by unfold yXk;rw[List.getElem?_map,hv];rfl
     have hvs:=hrow.2 v (lMg hv);have hb2:=hbi p.1 v (by omega);simp only[go_sem,zE,zB,zA,zM,zS,zL,reduceCtorEq,f0,f3,f4,f5,fits,List.length_map,iNn,hxl,hll,lt_i hltj,yQ1 e1,yQ1 e2,yQ1 e6,hvi,hn1];intros;refine (hb1 _).mono ?_;rintro _ _ ⟨rfl,rfl⟩;simp only[go_sem,zE,zB,zA,zM,zS,zL,reduceCtorEq,f0,f3,f4,f5,fits,List.length_map,iNn,hxl,hll,lt_i hltj,yQ1 e1,yQ1 e2,yQ1 e6,hvi,hn1];intros;refine (hb2 _).mono ?_;rintro _ _ ⟨rfl,rfl⟩;by_cases hle:M.bit p.1 w<=M.bit p.1 v
     ·simp only[go_sem,zE,zB,zA,zM,zS,zL,reduceCtorEq,f0,f3,f4,f5,fits,List.length_map,iNn,hxl,hll,lt_i hltj,yQ1 e1,yQ1 e2,yQ1 e6,hvi,hn1,show decide ((M.bit p.1 v:Int)<(M.bit p.1 w:Int))=false from dEf (by omega),yQf hltj (show l.length<=281474976710656 by omega)];rw[yQ6 hv];intro u hu;rcases List.mem_append.1 hu with hu|hu
      ·exact hj u hu
      ·rw[List.mem_singleton.1 hu];exact hle
     ·simp only[go_sem,zE,zB,zA,zM,zS,zL,reduceCtorEq,f0,f3,f4,f5,fits,List.length_map,iNn,hxl,hll,lt_i hltj,yQ1 e1,yQ1 e2,yQ1 e6,hvi,hn1,show decide ((M.bit p.1 v:Int)<(M.bit p.1 w:Int))=true from dEt (by omega)];exact yQ0 ⟨⟨false,rfl,λh=>by cases h⟩,rfl⟩
    ·rintro fr st3 _ ⟨hj,f0,f3,f4,f5,rfl,rfl⟩;rw[lTl] at hj;have key:∀w'<w+1,∀u∈(M.sees[w']?).getD [],M.bit p.1 w'<=M.bit p.1 u:=λw' hw' u hu=>by
      rcases Nat.lt_or_ge w' w with h|h
      ·exact hw w' h u hu
      ·obtain rfl:w'=w:=by omega
       rw[hl] at hu;exact hj u hu
     simp only[go_sem,zE,zB,zA,zM,zS,zL,reduceCtorEq,f0,f3,f4,f5,fits,iNn,hxl,hll,lt_i hltw,yQs (nLi _),yQ1 e1,yQf hltw (show M.sees.length<=281474976710656 by omega)]
     first|exact key|(intro _;exact key)|(intro _ _;exact key)|(intro _ _ _;exact key)
   ·rintro fr st2 _ ⟨hw,f0,f3,f4,rfl,rfl⟩;have key:∀q∈M.syms.take (k+1),∀w,w<M.sees.length->∀v∈(M.sees[w]?).getD [],M.bit q.1 w<=M.bit q.1 v:=λq hq=>by
     rw[yQ6 hps] at hq;rcases List.mem_append.1 hq with hq|hq
     ·exact hp q hq
     ·rw[List.mem_singleton.1 hq];exact hw
    simp only[go_sem,zE,zB,zA,zM,zS,zL,reduceCtorEq,f0,f3,f4,fits,hse.len,yQs (nLi _),yQf hlt (show M.syms.length<=281474976710656 by omega)]
    first|exact key|(intro _;exact key)|(intro _ _;exact key)|(intro _ _ _;exact key)
  ·rintro fr st1 _ ⟨hp,f0,f3,rfl,rfl⟩;rw[lTl] at hp;simp only[go_sem,zE,zB,zA,zM,zS,zL,reduceCtorEq,f0,f3,fits,List.length_map,yQs (nLi _)];intros;exact yQ0 ⟨⟨true,rfl,λ_=>.inr hp⟩,rfl⟩
def Ft (st:ISt)(n:Nat)(t:Tag)(o:Option Nat):Prop:=(o=none/\n=0/\t.cap=.nil)\/∃g,o=some g/\t=⟨true,.app g,1⟩/\st g=some (.front n 1)
theorem Ft.es {st:ISt}{n:Nat}{t:Tag}{o:Option Nat}(h:Ft st n t o):okEs t 1:=by
 rcases h with⟨_,_,h⟩|⟨g,_,rfl,_⟩
 ·exact .inl h
 ·exact .inr rfl
theorem wX1 {esc:List Nat}{dst:Option Nat}{e:TypeId×Bool×Nat×Nat}{t:Tag}{zs:List IV}{y:IV}{R:Rt}{st:ISt}{ds:List Dfd}{n:Nat}{o:Option Nat}(h:Ft st n t o)(hlen:zs.length=n)(he:e.2.2.1=1)
  (hf:fits e.2.1 e.2.2.1 y=true) (hcap:(n+1)*e.2.2.2<=140737488355328) (hcap2:n+1<=140737488355328)
  (k:∀g st',st' g=some (.front (n+1) 1)->(st g=none\/o=some g)->(∀c,c≠g->o≠some c->st' c=st c)->(∀c,c≠g->o=some c->st' c=none)->R (.val (.sl ⟨true,.app g,1⟩ (zs++[y]))) st' ds)
  (hesc:yVc esc dst=false:=by first|rfl|simp[yVc]):appV esc dst e t zs [y] R st ds:=by
 subst hlen;unfold appV;refine⟨by simp[hf],⟨hcap,hcap2⟩,?_⟩;rw[he];rcases h with⟨rfl,h0,hc⟩|⟨g0,rfl,rfl,h1⟩
 ·have hz:zs=[]:=List.eq_nil_of_length_eq_zero h0;subst hz;rw[hc];simp only[hesc,bFt,if_false];intro g hg;exact k g _ (ISt.put_same _ _ _) (.inl hg) (λc hc _=>yQh hc) (λc _ h=>by cases h)
 ·refine⟨rfl,h1,λg hg=>?_⟩;refine k g _ (ISt.put_same _ _ _) (hg.symm.imp id λh=>congrArg some h.symm) (λc hc hn=>?_) (λc hc hn=>?_)
  ·rw[yQh hc,yQh λh=>hn (congrArg some h.symm)]
  ·cases hn;rw[yQh hc,ISt.put_same]
def yJ9 (t1:Tag)(xs:List IV)(t2 t3:Tag)(M:Mo):List IV:=[.sl t1 xs,.raw (.int .i64 (M.elems:Int)),.sl t2 (M.syms.map λp=>.raw (.string p.1)),.sl t3 (M.syms.map λp=>.raw (.int .i64 (p.2:Int))),.raw (.int .i64 (M.bits:Int)),.raw (.int .i64 (M.table:Int))]
structure BoxMo (b:Nat)(M:Mo)(st:ISt):Prop where
 ex:∃t1 xs t2 t3 o2 o3,st b=some (.box (yJ9 t1 xs t2 t3 M))/\okEs t1 1/\IsSees M.sees xs/\Ft st M.syms.length t2 o2/\Ft st M.syms.length t3 o3/\(∀g,o2=some g->o3≠some g)
 rest:∀c,c≠b->st c=none\/∃n s,st c=some (.front n s)
def Mo.put (M:Mo)(k:ByteArray)(n:Nat):Mo:=if (M.syms.any λp=>decide (p.1=k))=true then M else { M with syms:=M.syms++[(k,M.bits)],bits:=M.bits+n }
theorem Ft.ne {st:ISt}{n b:Nat}{t:Tag}{o:Option Nat}{cs:List IV}(h:Ft st n t o)(hb:st b=some (.box cs)):o≠some b:=by
 rcases h with⟨rfl,_⟩|⟨g,rfl,_,h⟩
 ·exact λh=>by cases h
 ·intro he;cases he;rw[hb] at h;cases h
theorem uX3 (b:Nat)(M:Mo)(k:ByteArray)(n:Nat)(hn:M.syms.length<=1000000)(hb:M.bits+n<=4611686018427387904)(st:ISt)(hM:BoxMo b M st) :
  ICall prog gl 123 [.raw (.pointer (some ⟨b,0,none⟩)),.raw (.string k),.raw (.int .i64 (n:Int))] st (λ_ st'=>BoxMo b (M.put k n) st'):=by
 have hM0:=hM;obtain⟨t1,xs,t2,t3,o2,o3,hst,e1,hse,h2,h3,hne⟩:=hM.ex;unfold yJ9 at hst;refine ICall.intro (c:=cf prog gl [31,38,42,48,2000034,2000044] [(4,[0,1,2,3,4,5,7,8,10,11,12,14,15,16,20,21,22,24,6,13,17,18,23,25,9,19,26,27,28,29,30,31,32,33,34])]) func123 rfl (by show _<=57;simp) (by kernel_rfl) ?_;simp only[go_sem,zE,zB,zA,zM,zS,zL,reduceCtorEq,fits];refine LoopC.ctr M.syms.length (λi fr st' ds=>((M.syms.take i).any λp=>decide (p.1=k))=false/\fr 0=.iv (.raw (.pointer (some ⟨b,0,none⟩)))/\fr 1=.iv (.raw (.string k))/\fr 2=.iv (.raw (.int .i64 (n:Int)))/\fr 6=.iv (.raw (.int .i64 (i:Int)))/\st'=st/\ds=[]) ?_ ?_ ?_
 ·simp only[go_sem,zE,zB,zA,zM,zS,zL,reduceCtorEq];simp
 ·rintro i fr _ _ hlt ⟨hk,f0,f1,f2,f6,rfl,rfl⟩;obtain⟨p,hp⟩:=yQ4 hlt;have hn1:(M.syms.map λp=>IV.raw (.string p.1))[i]?=some (.raw (.string p.1)):=by rw[List.getElem?_map,hp];rfl
  simp only[go_sem,zE,zB,zA,zM,zS,zL,reduceCtorEq,f0,f1,f2,f6,fits,hst,List.length_map,lt_i hlt,yQ1 h2.es,iNn,hn1];intros;by_cases hpk:p.1=k
  ·simp only[go_sem,zE,zB,zA,zM,zS,zL,reduceCtorEq,f0,f1,f2,f6,fits,hst,List.length_map,lt_i hlt,yQ1 h2.es,iNn,hn1,dEt hpk];refine yQ0 ?_;have hmem:(M.syms.any λp=>decide (p.1=k))=true:=List.any_eq_true.2 ⟨p,lMg hp,dEt hpk⟩;unfold Mo.put;rw[if_pos hmem];exact hM0
  ·simp only[go_sem,zE,zB,zA,zM,zS,zL,reduceCtorEq,f0,f1,f2,f6,fits,hst,List.length_map,lt_i hlt,yQ1 h2.es,iNn,hn1,dEf hpk,yQf hlt (show M.syms.length<=281474976710656 by omega)];rw[yQ6 hp,List.any_append,hk];simp[hpk]
 ·rintro fr _ _ ⟨hk,f0,f1,f2,f6,rfl,rfl⟩;rw[lTl] at hk;simp only[go_sem,zE,zB,zA,zM,zS,zL,reduceCtorEq,f0,f1,f2,f6,fits,hst,List.length_map,yQs (nLi _)];intros;have hadd:IntKind.i64.wrap ((M.bits:Int)+(n:Int))=((M.bits+n:Nat):Int):=by rw[w64]<;>omega
  refine yQq rfl (yQq rfl ?_);refine wX1 h2 (by simp) rfl (by simp[fits,IV.one]) (by simp only;omega) (by omega) λg sa hg hgo hke hrm=>?_;have hgb:b≠g:=by
   rintro rfl;rcases hgo with h|h
   ·rw[hst] at h;cases h
   ·exact h2.ne hst h
  have hsab:sa b=some (.box (yJ9 t1 xs t2 t3 M)):=(hke b hgb (h2.ne hst)).trans hst;have h3':Ft sa M.syms.length t3 o3:=by
   rcases h3 with h3|⟨g3,rfl,rfl,h3⟩
   ·exact .inl h3
   ·refine .inr ⟨g3,rfl,rfl,?_⟩;rw[hke g3 ?_ ?_]
    ·exact h3
    ·rintro rfl;rcases hgo with h|h
     ·rw[h3] at h;cases h
     ·exact hne _ h rfl
    ·exact λh=>hne _ h rfl
  simp only[go_sem,zE,zB,zA,zM,zS,zL,reduceCtorEq,f0,f1,f2,f6,fits,hadd];refine wX1 h3' (by simp) rfl (by simp[fits,IV.one]) (by simp only;omega) (by omega) λg' sb hg' hgo' hke' hrm'=>?_;have hgb':b≠g':=by
   rintro rfl;rcases hgo' with h|h
   ·rw[hsab] at h;cases h
   ·exact h3'.ne hsab h
  have hsbb:sb b=some (.box (yJ9 t1 xs t2 t3 M)):=(hke' b hgb' (h3'.ne hsab)).trans hsab;have hgg:g≠g':=by
   rintro rfl;rcases hgo' with h|h
   ·rw[hg] at h;cases h
   ·rcases h3' with⟨h0,_⟩|⟨g3,h0,_,h3'⟩
    ·rw[h0] at h;cases h
    ·rw[h0] at h;cases h;rcases hgo with h|h
     ·rcases h3 with⟨h3,_⟩|⟨g4,h3,_,h4⟩
      ·rw[h3] at h0;cases h0
      ·rw[h3] at h0;cases h0;rw[h4] at h;cases h
     ·exact hne _ h h0
  have hsbg:sb g=some (.front (M.syms.length+1) 1):=by
   rw[hke' g hgg]
   ·exact hg
   ·intro h;rcases h3 with⟨h3,_⟩|⟨g4,h3,_,h4⟩
    ·rw[h3] at h;cases h
    ·rw[h3] at h;cases h;rcases hgo with h|h
     ·rw[h4] at h;cases h
     ·exact hne _ h h3
  unfold yJ9 at hsbb;simp only[go_sem,zE,zB,zA,zM,zS,zL,reduceCtorEq,f0,f1,f2,f6,fits,hadd,hsbb,ISt.put_same,yQ8];refine yQ0 ?_;unfold Mo.put;rw[if_neg (by rw[hk];simp)];have hrest:∀c,c≠b->sb c=none\/∃n s,sb c=some (.front n s):=λc hc=>by
   by_cases h1:c=g'
   ·subst h1;exact .inr ⟨_,_,hg'⟩
   ·by_cases h2:o3=some c
    ·exact .inl (hrm' c h1 h2)
    ·rw[hke' c h1 h2];by_cases h3:c=g
     ·subst h3;exact .inr ⟨_,_,hg⟩
     ·by_cases h4:o2=some c
      ·exact .inl (hrm c h3 h4)
      ·rw[hke c h3 h4];exact hM0.rest c hc
  refine⟨⟨t1,xs,⟨true,.app g,1⟩,⟨true,.app g',1⟩,some g,some g',?_,e1,hse,.inr ⟨g,rfl,rfl,?_⟩,.inr ⟨g',rfl,rfl,?_⟩,?_⟩,λc hc=>?_⟩
  ·rw[ISt.put_same];simp[yJ9]
  ·rw[yQh (λh=>hgb h.symm),hsbg];simp
  ·rw[yQh (λh=>hgb' h.symm),hg'];simp
  ·intro q h1 h2;cases h1;exact hgg (Option.some.inj h2).symm
  ·rw[yQh hc];exact hrest c hc
end Go.Proofs.Tryz
namespace Go.Proofs
open Go.Shelf
def Tryz.sortSL_ren:Go.Shelf.Ren:=⟨λ| 6=>268|15=>181|14=>300|28=>246|29=>247|20=>321|21=>322|22=>323|23=>324|24=>325|25=>326|26=>327|27=>328|46=>335|47=>279|48=>280|49=>336|50=>337|57=>343|n=>n,λ| 22=>141|24=>147|25=>225|3=>3|39=>194|0=>0|53=>245|55=>247|4=>4|46=>238|45=>237|50=>242|5=>5|9=>9|66=>274|70=>278|76=>293|77=>263|n=>n,λ| n=>n⟩
theorem Tryz.sortSL:Go.Proofs.SlLaysF0.n6 Tryz.prog Tryz.sortSL_ren:={
 mixed:=by kernel_rfl
 f6:=⟨Tryz.f268.name,by decide,Tryz.func268.trans (congrArg some (by kernel_rfl))⟩
 f14:=⟨Tryz.f300.name,by decide,Tryz.func300.trans (congrArg some (by kernel_rfl))⟩
 f15:=Tryz.func181.trans (congrArg some (by kernel_rfl))
 f20:=⟨Tryz.f321.name,by decide,Tryz.func321.trans (congrArg some (by kernel_rfl))⟩
 f21:=⟨Tryz.f322.name,by decide,Tryz.func322.trans (congrArg some (by kernel_rfl))⟩
 f22:=⟨Tryz.f323.name,by decide,Tryz.func323.trans (congrArg some (by kernel_rfl))⟩
 f23:=⟨Tryz.f324.name,by decide,Tryz.func324.trans (congrArg some (by kernel_rfl))⟩
 f24:=⟨Tryz.f325.name,by decide,Tryz.func325.trans (congrArg some (by kernel_rfl))⟩
 f25:=⟨Tryz.f326.name,by decide,Tryz.func326.trans (congrArg some (by kernel_rfl))⟩
 f26:=⟨Tryz.f327.name,by decide,Tryz.func327.trans (congrArg some (by kernel_rfl))⟩
 f27:=⟨Tryz.f328.name,by decide,Tryz.func328.trans (congrArg some (by kernel_rfl))⟩
 f28:=Tryz.func246.trans (congrArg some (by kernel_rfl))
 f29:=Tryz.func247.trans (congrArg some (by kernel_rfl))
 f46:=⟨Tryz.f335.name,by decide,Tryz.func335.trans (congrArg some (by kernel_rfl))⟩
 f47:=Tryz.func279.trans (congrArg some (by kernel_rfl))
 f48:=Tryz.func280.trans (congrArg some (by kernel_rfl))
 f49:=⟨Tryz.f336.name,by decide,Tryz.func336.trans (congrArg some (by kernel_rfl))⟩
 f50:=⟨Tryz.f337.name,by decide,Tryz.func337.trans (congrArg some (by kernel_rfl))⟩
 f57:=⟨Tryz.f343.name,by decide,Tryz.func343.trans (congrArg some (by kernel_rfl))⟩
 t0:=Tryz.underlying0
 a0:=Tryz.isAgg0
 z0:=Tryz.sizeOf0
 v0:=Tryz.zeroValue0
 t3:=Tryz.underlying3
 a3:=Tryz.isAgg3
 z3:=Tryz.sizeOf3
 v3:=Tryz.zeroValue3
 t4:=Tryz.underlying4
 a4:=Tryz.isAgg4
 z4:=Tryz.sizeOf4
 v4:=Tryz.zeroValue4
 t5:=Tryz.underlying5
 a5:=Tryz.isAgg5
 z5:=Tryz.sizeOf5
 v5:=Tryz.zeroValue5
 t9:=Tryz.underlying9
 a9:=Tryz.isAgg9
 z9:=Tryz.sizeOf9
 v9:=Tryz.zeroValue9
 t22:=Tryz.underlying141
 a22:=Tryz.isAgg141
 z22:=Tryz.sizeOf141
 v22:=Tryz.zeroValue141
 t25:=Tryz.underlying225
 a25:=Tryz.isAgg225
 z25:=Tryz.sizeOf225
 v25:=Tryz.zeroValue225
 t39:=Tryz.underlying194
 a39:=Tryz.isAgg194
 z39:=Tryz.sizeOf194
 v39:=Tryz.zeroValue194
 t45:=Tryz.underlying237
 a45:=Tryz.isAgg237
 z45:=Tryz.sizeOf237
 v45:=Tryz.zeroValue237
 t46:=Tryz.underlying238
 a46:=Tryz.isAgg238
 z46:=Tryz.sizeOf238
 v46:=Tryz.zeroValue238
 t50:=Tryz.underlying242
 a50:=Tryz.isAgg242
 z50:=Tryz.sizeOf242
 v50:=Tryz.zeroValue242
 t53:=Tryz.underlying245
 a53:=Tryz.isAgg245
 z53:=Tryz.sizeOf245
 v53:=Tryz.zeroValue245
 t55:=Tryz.underlying247
 a55:=Tryz.isAgg247
 z55:=Tryz.sizeOf247
 v55:=Tryz.zeroValue247
 t66:=Tryz.underlying274
 a66:=Tryz.isAgg274
 z66:=Tryz.sizeOf274
 v66:=Tryz.zeroValue274
 t70:=Tryz.underlying278
 a70:=Tryz.isAgg278
 z70:=Tryz.sizeOf278
 v70:=Tryz.zeroValue278
 t76:=Tryz.underlying293
 a76:=Tryz.isAgg293
 z76:=Tryz.sizeOf293
 v76:=Tryz.zeroValue293
 t77:=Tryz.underlying263
 a77:=Tryz.isAgg263
 z77:=Tryz.sizeOf263
 v77:=Tryz.zeroValue263 }
namespace Tryz
open Go Go.Iv
theorem xJq:tyI Tryz.prog (Tryz.sortSL_ren.t 24)=some (true,2):=by kernel_rfl
theorem xGp (w:World):(isAgg (Tryz.sortSL_ren.t 24)).run Tryz.prog w=.ok true w:=(yZs xJq w).1
theorem xW6 (w:World):(Go.sizeOf (Tryz.sortSL_ren.t 24)).run Tryz.prog w=.ok 2 w:=(yZs xJq w).2
end Tryz
end Go.Proofs
namespace Go.Proofs
open Go.Shelf
def Tryz.sortFL_ren:Go.Shelf.Ren:=⟨λ| 6=>134|15=>181|14=>180|28=>246|29=>247|20=>238|21=>239|22=>240|23=>241|24=>242|25=>243|26=>244|27=>245|46=>278|47=>279|48=>280|49=>281|50=>282|57=>312|n=>n,λ| 22=>22|24=>27|25=>156|3=>3|39=>194|0=>0|53=>245|55=>247|4=>4|46=>238|45=>237|50=>242|5=>5|9=>9|66=>274|70=>278|76=>293|77=>263|n=>n,λ| n=>n⟩
theorem Tryz.sortFL:Go.Proofs.SlLaysF0.n6 Tryz.prog Tryz.sortFL_ren:={
 mixed:=by kernel_rfl
 f6:=⟨Tryz.f134.name,by decide,Tryz.func134.trans (congrArg some (by kernel_rfl))⟩
 f14:=⟨Tryz.f180.name,by decide,Tryz.func180.trans (congrArg some (by kernel_rfl))⟩
 f15:=Tryz.func181.trans (congrArg some (by kernel_rfl))
 f20:=⟨Tryz.f238.name,by decide,Tryz.func238.trans (congrArg some (by kernel_rfl))⟩
 f21:=⟨Tryz.f239.name,by decide,Tryz.func239.trans (congrArg some (by kernel_rfl))⟩
 f22:=⟨Tryz.f240.name,by decide,Tryz.func240.trans (congrArg some (by kernel_rfl))⟩
 f23:=⟨Tryz.f241.name,by decide,Tryz.func241.trans (congrArg some (by kernel_rfl))⟩
 f24:=⟨Tryz.f242.name,by decide,Tryz.func242.trans (congrArg some (by kernel_rfl))⟩
 f25:=⟨Tryz.f243.name,by decide,Tryz.func243.trans (congrArg some (by kernel_rfl))⟩
 f26:=⟨Tryz.f244.name,by decide,Tryz.func244.trans (congrArg some (by kernel_rfl))⟩
 f27:=⟨Tryz.f245.name,by decide,Tryz.func245.trans (congrArg some (by kernel_rfl))⟩
 f28:=Tryz.func246.trans (congrArg some (by kernel_rfl))
 f29:=Tryz.func247.trans (congrArg some (by kernel_rfl))
 f46:=⟨Tryz.f278.name,by decide,Tryz.func278.trans (congrArg some (by kernel_rfl))⟩
 f47:=Tryz.func279.trans (congrArg some (by kernel_rfl))
 f48:=Tryz.func280.trans (congrArg some (by kernel_rfl))
 f49:=⟨Tryz.f281.name,by decide,Tryz.func281.trans (congrArg some (by kernel_rfl))⟩
 f50:=⟨Tryz.f282.name,by decide,Tryz.func282.trans (congrArg some (by kernel_rfl))⟩
 f57:=⟨Tryz.f312.name,by decide,Tryz.func312.trans (congrArg some (by kernel_rfl))⟩
 t0:=Tryz.underlying0
 a0:=Tryz.isAgg0
 z0:=Tryz.sizeOf0
 v0:=Tryz.zeroValue0
 t3:=Tryz.underlying3
 a3:=Tryz.isAgg3
 z3:=Tryz.sizeOf3
 v3:=Tryz.zeroValue3
 t4:=Tryz.underlying4
 a4:=Tryz.isAgg4
 z4:=Tryz.sizeOf4
 v4:=Tryz.zeroValue4
 t5:=Tryz.underlying5
 a5:=Tryz.isAgg5
 z5:=Tryz.sizeOf5
 v5:=Tryz.zeroValue5
 t9:=Tryz.underlying9
 a9:=Tryz.isAgg9
 z9:=Tryz.sizeOf9
 v9:=Tryz.zeroValue9
 t22:=Tryz.underlying22
 a22:=Tryz.isAgg22
 z22:=Tryz.sizeOf22
 v22:=Tryz.zeroValue22
 t25:=Tryz.underlying156
 a25:=Tryz.isAgg156
 z25:=Tryz.sizeOf156
 v25:=Tryz.zeroValue156
 t39:=Tryz.underlying194
 a39:=Tryz.isAgg194
 z39:=Tryz.sizeOf194
 v39:=Tryz.zeroValue194
 t45:=Tryz.underlying237
 a45:=Tryz.isAgg237
 z45:=Tryz.sizeOf237
 v45:=Tryz.zeroValue237
 t46:=Tryz.underlying238
 a46:=Tryz.isAgg238
 z46:=Tryz.sizeOf238
 v46:=Tryz.zeroValue238
 t50:=Tryz.underlying242
 a50:=Tryz.isAgg242
 z50:=Tryz.sizeOf242
 v50:=Tryz.zeroValue242
 t53:=Tryz.underlying245
 a53:=Tryz.isAgg245
 z53:=Tryz.sizeOf245
 v53:=Tryz.zeroValue245
 t55:=Tryz.underlying247
 a55:=Tryz.isAgg247
 z55:=Tryz.sizeOf247
 v55:=Tryz.zeroValue247
 t66:=Tryz.underlying274
 a66:=Tryz.isAgg274
 z66:=Tryz.sizeOf274
 v66:=Tryz.zeroValue274
 t70:=Tryz.underlying278
 a70:=Tryz.isAgg278
 z70:=Tryz.sizeOf278
 v70:=Tryz.zeroValue278
 t76:=Tryz.underlying293
 a76:=Tryz.isAgg293
 z76:=Tryz.sizeOf293
 v76:=Tryz.zeroValue293
 t77:=Tryz.underlying263
 a77:=Tryz.isAgg263
 z77:=Tryz.sizeOf263
 v77:=Tryz.zeroValue263 }
namespace Tryz
open Go Go.Iv
theorem xJr:tyI Tryz.prog (Tryz.sortFL_ren.t 24)=some (true,4):=by kernel_rfl
theorem xGq (w:World):(isAgg (Tryz.sortFL_ren.t 24)).run Tryz.prog w=.ok true w:=(yZs xJr w).1
theorem xW7 (w:World):(Go.sizeOf (Tryz.sortFL_ren.t 24)).run Tryz.prog w=.ok 4 w:=(yZs xJr w).2
end Tryz
