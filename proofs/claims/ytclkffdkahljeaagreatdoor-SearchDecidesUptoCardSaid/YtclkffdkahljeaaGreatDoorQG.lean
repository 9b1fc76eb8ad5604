/- Walks: truth in worlds (holds, refutes o -/
import Derived.Test.YtclkffdkahljeaaGreatDoorQF
import Derived.Test.YtclkffdkahljeaaGreatDoorKE
import Derived.Deep.DeepHandedRow
set_option linter.all false
open Nat renaming reduceEqDiff → zE,reduceBEq → zB,reduceAdd → zA,reduceMul → zM,reduceSub → zS,reduceLeDiff → zL
namespace Go.Proofs.Tryz
open Go Go.Iv
set_option maxRecDepth 8000
variable (gl:Nat->Option IV)
theorem wUh (tb s:Nat)(h:tb<=1000000):Int.fdiv (tb:Int) (2 ^ (min s 64))=((tb / 2 ^ s:Nat):Int):=by
 have h1:(2:Int) ^ min s 64=((2 ^ min s 64:Nat):Int):=by norm_cast
 rw[h1,<- Int.ofNat_fdiv];by_cases hs:s<=64
 ·rw[Nat.min_eq_left hs]
 ·rw[Nat.min_eq_right (by omega)];have h2:(2:Nat) ^ 64<=2 ^ s:=Nat.pow_le_pow_right (by omega) (by omega);have h3:(1000000:Nat)<2 ^ 64:=by decide
  rw[Nat.div_eq_of_lt (by omega),Nat.div_eq_of_lt (by omega)]
theorem vXr (x y:Nat)(h:x<=1000000)(hy:y<=1000000):IntKind.i64.wrap ((BitVec.ofInt IntKind.i64.bits ((x:Nat):Int) &&& BitVec.ofInt IntKind.i64.bits ((y:Nat):Int)).toNat:Int)=((x &&& y:Nat):Int):=by
 show IntKind.i64.wrap ((BitVec.ofInt 64 ((x:Nat):Int) &&& BitVec.ofInt 64 ((y:Nat):Int)).toNat:Int)=_;have h3:(1000000:Nat)<2 ^ 64:=by decide
 have h1:(BitVec.ofInt 64 ((x:Nat):Int) &&& BitVec.ofInt 64 ((y:Nat):Int)).toNat=x &&& y:=by
  rw[BitVec.toNat_and,BitVec.ofInt_natCast,BitVec.ofInt_natCast,BitVec.toNat_ofNat,BitVec.toNat_ofNat,Nat.mod_eq_of_lt (show x<2 ^ 64 by omega),Nat.mod_eq_of_lt (show y<2 ^ 64 by omega)]
 have h4:x &&& y<=x:=Nat.and_le_left;rw[h1,w64]<;>omega
def vB (l:List ByteArray)(ms:List Nat)(w:Nat)(n:ByteArray):Bool:=(List.range l.length).any λi=>decide (l[i]?=some n)&&((ms[w]?).getD 0).testBit i
theorem wU3 {l:List ByteArray}{ms:List Nat}{w i m:Nat}{n:ByteArray}(hnd:l.Nodup)(hi:l[i]?=some n)(hm:ms[w]?=some m):vB l ms w n=m.testBit i:=by
 have hlt:=(lGs hi).1;rw[Bool.eq_iff_iff];unfold vB;rw[List.any_eq_true,hm,Option.getD_some];constructor
 ·rintro⟨k,hk,h⟩;rw[bAt,dTe] at h;obtain⟨h1,h2⟩:=h;have e1:=lGs h1;have e2:=lGs hi;have:k=i:=by
   rcases Nat.lt_trichotomy k i with h|h|h
   ·exact (List.pairwise_iff_getElem.1 hnd k i e1.1 e2.1 h (e1.2.trans e2.2.symm)).elim
   ·exact h
   ·exact (List.pairwise_iff_getElem.1 hnd i k e2.1 e1.1 h (e2.2.trans e1.2.symm)).elim
  rw[<- this];exact h2
 ·intro h;exact⟨i,List.mem_range.2 hlt,by rw[hi,h];simp⟩
theorem vYb {l:List ByteArray}{ms:List Nat}{w:Nat}{n:ByteArray}(h:n ∉ l):vB l ms w n=false:=by
 unfold vB;rw[List.any_eq_false];intro i _ hi;rw[bAt,dTe] at hi;exact h (lMg hi.1)
def sF (S:List (List Nat))(w:Nat):List Nat:=(S[w]?).getD [w]
def xVs (r:List Nat)(x:IV):Prop:=∃t,x=.sl t (yQh r)/\okEs t 1
def wdI (tS:Tag)(xS:List IV)(ta tm:Tag)(l:List ByteArray)(ms:List Nat):IV:=.agg [.sl tS xS,.sl ta (nmsI l),.sl tm (yQh ms)]
def xJr (S:List (List Nat)):Prop:=S.length<=3/\∀r∈S,r.length<=3/\∀u∈r,u<S.length
theorem vQh {a:Fm}{xs:List IV}(h:IsFms [a] xs):∃x,xs=[x]/\IsFm a x:=by
 obtain⟨x,ys,rfl,h1,h2⟩:=h;obtain rfl:ys=[]:=h2;exact⟨x,rfl,h1⟩
theorem wX7 {a b:Fm}{xs:List IV}(h:IsFms [a,b] xs):∃x y,xs=[x,y]/\IsFm a x/\IsFm b y:=by
 obtain⟨x,ys,rfl,h1,h2⟩:=h;obtain⟨y,rfl,h3⟩:=vQh h2;exact⟨x,y,rfl,h1,h3⟩
section
variable (S:List (List Nat))(hS:xJr S)(tS:Tag)(xS:List IV)(htS:okEs tS 1)(hxS:AllR xVs S xS)(ta tm:Tag)(hta:okEs ta 1)(htm:okEs tm 1)(l:List ByteArray)(hnd:l.Nodup)(hl:l.length<=100)(ms:List Nat)(hml:ms.length=S.length)(hms:∀m∈ms,m<=1000000)
def holC (f:Fm):Prop:=∀(x:IV) (_:IsFm f x) (w:Nat) (_:w<S.length) (st:ISt),ICall prog gl 85 [wdI tS xS ta tm l ms,x,.raw (.int .i64 (w:Int))] st (λr st'=>r=.raw (.bool (hp (sF S) (vB l ms) f w))/\st'=st)
include hS htS hxS hta htm hnd hl hml hms
theorem xV6 (n:ByteArray):holC gl S tS xS ta tm l ms (.mk 1 n [] []):=by
 intro x hx w hw st;obtain⟨tx,cx,ty,cy,rfl,hop,htx,hcx,hty,hcy⟩:=hx.mk;obtain⟨m,hm⟩:=yQ2 (l:=ms) (k:=w) (by omega);have hmb:=hms m (lMg hm);rw[hp1];refine iI func85 ?_;simp only[go_sem,zE,zB,zA,zM,zS,zL,reduceCtorEq,wdI,fits,show decide (((1:Nat):Int)=1)=true from rfl];refine LoopC.ctr l.length (λk fr st' ds=>n ∉ l.take k/\fr 3=.box [.sl tS xS,.sl ta (nmsI l),.sl tm (yQh ms)]/\fr 4=.box [.raw (.int .u8 (1:Nat)),.raw (.string n),.sl tx cx,.sl ty cy]/\fr 2=.iv (.raw (.int .i64 (w:Int)))/\fr 7=.iv (.raw (.int .i64 k))/\st'=st/\ds=[]) ?_ ?_ ?_
 ·simp only[go_sem,zE,zB,zA,zM,zS,zL,reduceCtorEq];simp
 ·rintro k fr st1 _ hlt ⟨hno,f3,f4,f2,f7,rfl,rfl⟩;obtain⟨a,ha⟩:=yQ2 hlt;have hkl:k<=100:=by omega
  by_cases hc:a=n
  ·subst hc;have hdv:m / 2 ^ k<=1000000:=Nat.le_trans (Nat.div_le_self ..) hmb;have e:decide (((m / 2 ^ k &&& 1:Nat):Int)=1)=m.testBit k:=by
    rw[Nat.testBit_eq_decide_div_mod_eq,Nat.and_one_is_mod,decide_eq_decide];omega
   have h1:=vXr (m / 2 ^ k) 1 hdv (by decide);simp only[go_sem,zE,zB,zA,zM,zS,zL,reduceCtorEq,f2,f3,f4,f7,fits,yXz,lt_i hlt,yQ3 hta,yQ3 htm,iNn,zQx ha,decide_true,yZc hm,IV.one,wUh _ _ hmb];intros;have hz:decide (IntKind.i64.wrap ((BitVec.ofInt IntKind.i64.bits ((m / 2 ^ k:Nat):Int) &&& BitVec.ofInt IntKind.i64.bits ((1:Nat):Int)).toNat:Int)=1)=vB l ms w a:=by rw[h1,e,wU3 hnd ha hm]
   exact yQ0 ⟨congrArg (λb=>IV.raw (.bool b)) hz,rfl⟩
  ·simp only[go_sem,zE,zB,zA,zM,zS,zL,reduceCtorEq,f2,f3,f4,f7,fits,yXz,lt_i hlt,yQ3 hta,iNn,zQx ha,dEf hc,yQd hlt (show l.length<=281474976710656 by omega)];intros;rw[yQ7 ha,List.mem_append,List.mem_singleton];exact λh=>h.elim hno λh=>hc h.symm
 ·rintro fr st1 _ ⟨hno,f3,f4,f2,f7,rfl,rfl⟩;rw[lTl] at hno;simp only[go_sem,zE,zB,zA,zM,zS,zL,reduceCtorEq,f2,f3,f4,f7,fits,yXz,yQm (nLi _)];intros;exact yQ0 ⟨by rw[vYb hno],rfl⟩
theorem xGz:holC gl S tS xS ta tm l ms (.mk 2 noN [] []):=by
 intro x hx w hw st;obtain⟨tx,cx,ty,cy,rfl,hop,htx,hcx,hty,hcy⟩:=hx.mk;rw[hp2];refine iI func85 ?_;simp only[go_sem,zE,zB,zA,zM,zS,zL,reduceCtorEq,wdI,fits,show decide (((2:Nat):Int)=1)=false from rfl,show decide (((2:Nat):Int)=2)=true from rfl];exact yQ0 ⟨rfl,rfl⟩
theorem xGw {a:Fm}(ih:holC gl S tS xS ta tm l ms a):holC gl S tS xS ta tm l ms (.mk 3 noN [] [a]):=by
 intro x hx w hw st;obtain⟨tx,cx,ty,cy,rfl,hop,htx,hcx,hty,hcy⟩:=hx.mk;obtain⟨xa,rfl,hxa⟩:=vQh hcy;have hca:=λu hu st=>ih xa hxa u hu st;obtain⟨oa,na,p1,r1,p2,r2,rfl⟩:=hxa.agg;obtain⟨row,hrow⟩:=yQ2 hw;obtain⟨xr,hxr,tr,rfl,htr⟩:=hxS.2 w row hrow;have hro:=hS.2 row (lMg hrow);have hsf:sF S w=row:=by unfold sF;rw[hrow];rfl
 rw[hp3,hsf];have d1:decide (((3:Nat):Int)=1)=false:=rfl;have d2:decide (((3:Nat):Int)=2)=false:=rfl;have d4:decide (((3:Nat):Int)=4)=false:=rfl;have d5:decide (((3:Nat):Int)=5)=false:=rfl;have d3:decide (((3:Nat):Int)=3)=true:=rfl;have d7:decide (((3:Nat):Int)=7)=false:=rfl;have z0:((0:Int)<=0)=True:=eq_true (by decide);have z1:Int.toNat 0=0:=rfl;refine iI func85 ?_;simp only[go_sem,zE,zB,zA,zM,zS,zL,reduceCtorEq,wdI,fits,d1,d2,d4,d5];refine LoopC.ctr row.length (λk fr st' ds=>(row.take k).all (λu=>!hp (sF S) (vB l ms) a u)=true/\fr 3=.box [.sl tS xS,.sl ta (nmsI l),.sl tm (yQh ms)]/\fr 4=.box [.raw (.int .u8 (3:Nat)),.raw (.string noN),.sl tx cx,.sl ty [.agg [.raw (.int .u8 oa),.raw (.string na),.sl p1 r1,.sl p2 r2]]]/\fr 2=.iv (.raw (.int .i64 (w:Int)))/\fr 8=.iv (.raw (.int .i64 k))/\st'=st/\ds=[]) ?_ ?_ ?_
 ·simp only[go_sem,zE,zB,zA,zM,zS,zL,reduceCtorEq];simp
 ·rintro k fr st1 _ hlt ⟨hall,f3,f4,f2,f8,rfl,rfl⟩;obtain⟨u,hu⟩:=yQ2 hlt;have hul:=hro.2 u (lMg hu);simp only[go_sem,zE,zB,zA,zM,zS,zL,reduceCtorEq,f2,f3,f4,f8,fits,yQ3 hty,iNn,yQ3 htS,hxr,yQ3 htr,yQi,lt_i hlt,yZc hu,IV.one,z0,z1];intro _;refine (hca u hul _).mono ?_;rintro _ _ ⟨rfl,rfl⟩;cases hb:hp (sF S) (vB l ms) a u
  ·simp only[go_sem,zE,zB,zA,zM,zS,zL,reduceCtorEq,f2,f3,f4,f8,fits,d3,d7,decide_true,yQd hlt (show row.length<=281474976710656 by omega)];rw[yQ7 hu,List.all_append,hall];simp[hb]
  ·simp only[go_sem,zE,zB,zA,zM,zS,zL,reduceCtorEq,f2,f3,f4,f8,fits,d3,d7,decide_true];refine yQ0 ⟨?_,rfl⟩;have:(row.all λu=>!hp (sF S) (vB l ms) a u)=false:=List.all_eq_false.2 ⟨u,lMg hu,by simp[hb]⟩;rw[this]
 ·rintro fr st1 _ ⟨hall,f3,f4,f2,f8,rfl,rfl⟩;rw[lTl] at hall;simp only[go_sem,zE,zB,zA,zM,zS,zL,reduceCtorEq,f2,f3,f4,f8,fits,yQ3 htS,hxr,yQ3 htr,iNn,yQi,yQm (nLi _)];intro _;exact yQ0 ⟨by rw[hall],rfl⟩
theorem xU0 {a b:Fm}(iha:holC gl S tS xS ta tm l ms a)(ihb:holC gl S tS xS ta tm l ms b):holC gl S tS xS ta tm l ms (.mk 4 noN [] [a,b]):=by
 intro x hx w hw st;obtain⟨tx,cx,ty,cy,rfl,hop,htx,hcx,hty,hcy⟩:=hx.mk;obtain⟨xa,xb,rfl,hxa,hxb⟩:=wX7 hcy;have hca:=λu hu st=>iha xa hxa u hu st;have hcb:=λu hu st=>ihb xb hxb u hu st;obtain⟨oa,na,p1,r1,p2,r2,rfl⟩:=hxa.agg;obtain⟨ob,nb,p3,r3,p4,r4,rfl⟩:=hxb.agg;have d1:decide (((4:Nat):Int)=1)=false:=rfl;have d2:decide (((4:Nat):Int)=2)=false:=rfl;have z0:((0:Int)<=0)=True:=eq_true (by decide);have z1:Int.toNat 0=0:=rfl;have z2:((0:Int)<=1)=True:=eq_true (by decide);have z3:Int.toNat 1=1:=rfl;rw[hp4];refine iI func85 ?_;simp only[go_sem,zE,zB,zA,zM,zS,zL,reduceCtorEq,wdI,fits,d1,d2,show decide (((4:Nat):Int)=4)=true from rfl,yQ3 hty,z0,z1];refine (hca w hw _).mono ?_;rintro _ _ ⟨rfl,rfl⟩;cases hb:hp (sF S) (vB l ms) a w
 ·simp only[go_sem,zE,zB,zA,zM,zS,zL,reduceCtorEq,fits];exact yQ0 ⟨rfl,rfl⟩
 ·simp only[go_sem,zE,zB,zA,zM,zS,zL,reduceCtorEq,fits,yQ3 hty,z2,z3];refine (hcb w hw _).mono ?_;rintro _ _ ⟨rfl,rfl⟩;simp only[go_sem,zE,zB,zA,zM,zS,zL,reduceCtorEq,fits];exact yQ0 ⟨rfl,rfl⟩
theorem wXa {a b:Fm}(iha:holC gl S tS xS ta tm l ms a)(ihb:holC gl S tS xS ta tm l ms b):holC gl S tS xS ta tm l ms (.mk 5 noN [] [a,b]):=by
 intro x hx w hw st;obtain⟨tx,cx,ty,cy,rfl,hop,htx,hcx,hty,hcy⟩:=hx.mk;obtain⟨xa,xb,rfl,hxa,hxb⟩:=wX7 hcy;have hca:=λu hu st=>iha xa hxa u hu st;have hcb:=λu hu st=>ihb xb hxb u hu st;obtain⟨oa,na,p1,r1,p2,r2,rfl⟩:=hxa.agg;obtain⟨ob,nb,p3,r3,p4,r4,rfl⟩:=hxb.agg;have d1:decide (((5:Nat):Int)=1)=false:=rfl;have d2:decide (((5:Nat):Int)=2)=false:=rfl;have z0:((0:Int)<=0)=True:=eq_true (by decide);have z1:Int.toNat 0=0:=rfl;have z2:((0:Int)<=1)=True:=eq_true (by decide);have z3:Int.toNat 1=1:=rfl;rw[hp5];refine iI func85 ?_;simp only[go_sem,zE,zB,zA,zM,zS,zL,reduceCtorEq,wdI,fits,d1,d2,show decide (((5:Nat):Int)=4)=false from rfl,show decide (((5:Nat):Int)=5)=true from rfl,yQ3 hty,z0,z1];refine (hca w hw _).mono ?_;rintro _ _ ⟨rfl,rfl⟩;cases hb:hp (sF S) (vB l ms) a w
 ·simp only[go_sem,zE,zB,zA,zM,zS,zL,reduceCtorEq,fits,yQ3 hty,z2,z3];refine (hcb w hw _).mono ?_;rintro _ _ ⟨rfl,rfl⟩;simp only[go_sem,zE,zB,zA,zM,zS,zL,reduceCtorEq,fits];exact yQ0 ⟨rfl,rfl⟩
 ·simp only[go_sem,zE,zB,zA,zM,zS,zL,reduceCtorEq,fits];exact yQ0 ⟨rfl,rfl⟩
theorem xGx {a b:Fm}(iha:holC gl S tS xS ta tm l ms a)(ihb:holC gl S tS xS ta tm l ms b):holC gl S tS xS ta tm l ms (.mk 6 noN [] [a,b]):=by
 intro x hx w hw st;obtain⟨tx,cx,ty,cy,rfl,hop,htx,hcx,hty,hcy⟩:=hx.mk;obtain⟨xa,xb,rfl,hxa,hxb⟩:=wX7 hcy;have hca:=λu hu st=>iha xa hxa u hu st;have hcb:=λu hu st=>ihb xb hxb u hu st;obtain⟨oa,na,p1,r1,p2,r2,rfl⟩:=hxa.agg;obtain⟨ob,nb,p3,r3,p4,r4,rfl⟩:=hxb.agg;have d1:decide (((6:Nat):Int)=1)=false:=rfl;have d2:decide (((6:Nat):Int)=2)=false:=rfl;have z0:((0:Int)<=0)=True:=eq_true (by decide);have z1:Int.toNat 0=0:=rfl;have z2:((0:Int)<=1)=True:=eq_true (by decide);have z3:Int.toNat 1=1:=rfl;obtain⟨row,hrow⟩:=yQ2 hw;obtain⟨xr,hxr,tr,rfl,htr⟩:=hxS.2 w row hrow;have hro:=hS.2 row (lMg hrow);have hsf:sF S w=row:=by unfold sF;rw[hrow];rfl
 rw[hp6,hsf];have d3:decide (((6:Nat):Int)=3)=false:=rfl;refine iI func85 ?_;simp only[go_sem,zE,zB,zA,zM,zS,zL,reduceCtorEq,wdI,fits,d1,d2,show decide (((6:Nat):Int)=4)=false from rfl,show decide (((6:Nat):Int)=5)=false from rfl];refine LoopC.ctr row.length (λk fr st' ds=>(row.take k).all (λu=>or (!hp (sF S) (vB l ms) a u) (hp (sF S) (vB l ms) b u))=true/\fr 3=.box [.sl tS xS,.sl ta (nmsI l),.sl tm (yQh ms)]/\fr 4=.box [.raw (.int .u8 (6:Nat)),.raw (.string noN),.sl tx cx,.sl ty [.agg [.raw (.int .u8 oa),.raw (.string na),.sl p1 r1,.sl p2 r2],.agg [.raw (.int .u8 ob),.raw (.string nb),.sl p3 r3,.sl p4 r4]]]/\fr 2=.iv (.raw (.int .i64 (w:Int)))/\fr 8=.iv (.raw (.int .i64 k))/\st'=st/\ds=[]) ?_ ?_ ?_
 ·simp only[go_sem,zE,zB,zA,zM,zS,zL,reduceCtorEq];simp
 ·rintro k fr st1 _ hlt ⟨hall,f3,f4,f2,f8,rfl,rfl⟩;obtain⟨u,hu⟩:=yQ2 hlt;have hul:=hro.2 u (lMg hu);have hno:∀g:Nat->Bool,g u=false->row.all g=false:=λg h=>List.all_eq_false.2 ⟨u,lMg hu,by simp[h]⟩;simp only[go_sem,zE,zB,zA,zM,zS,zL,reduceCtorEq,f2,f3,f4,f8,fits,yQ3 hty,iNn,yQ3 htS,hxr,yQ3 htr,yQi,lt_i hlt,yZc hu,IV.one,z0,z1];intro _;refine (hca u hul _).mono ?_;rintro _ _ ⟨rfl,rfl⟩;simp only[go_sem,zE,zB,zA,zM,zS,zL,reduceCtorEq,f2,f3,f4,f8,fits,d3,yQ3 hty,z2,z3];refine (hcb u hul _).mono ?_;rintro _ _ ⟨rfl,rfl⟩;cases hb:hp (sF S) (vB l ms) a u<;>cases hb':hp (sF S) (vB l ms) b u
  all_goals simp only[go_sem,zE,zB,zA,zM,zS,zL,reduceCtorEq,f2,f3,f4,f8,fits,d3,show decide (((6:Nat):Int)=7)=false from rfl,decide_true,yQd hlt (show row.length<=281474976710656 by omega)]
  all_goals first
   | (rw[yQ7 hu,List.all_append,hall];simp[hb,hb'];done)
   | exact yQ0 ⟨by rw[hno _ (by simp[hb,hb'])],rfl⟩
 ·rintro fr st1 _ ⟨hall,f3,f4,f2,f8,rfl,rfl⟩;rw[lTl] at hall;simp only[go_sem,zE,zB,zA,zM,zS,zL,reduceCtorEq,f2,f3,f4,f8,fits,yQ3 htS,hxr,yQ3 htr,iNn,yQi,yQm (nLi _)];intro _;exact yQ0 ⟨by rw[hall],rfl⟩
theorem xGy {a b:Fm}(iha:holC gl S tS xS ta tm l ms a)(ihb:holC gl S tS xS ta tm l ms b):holC gl S tS xS ta tm l ms (.mk 7 noN [] [a,b]):=by
 intro x hx w hw st;obtain⟨tx,cx,ty,cy,rfl,hop,htx,hcx,hty,hcy⟩:=hx.mk;obtain⟨xa,xb,rfl,hxa,hxb⟩:=wX7 hcy;have hca:=λu hu st=>iha xa hxa u hu st;have hcb:=λu hu st=>ihb xb hxb u hu st;obtain⟨oa,na,p1,r1,p2,r2,rfl⟩:=hxa.agg;obtain⟨ob,nb,p3,r3,p4,r4,rfl⟩:=hxb.agg;have d1:decide (((7:Nat):Int)=1)=false:=rfl;have d2:decide (((7:Nat):Int)=2)=false:=rfl;have z0:((0:Int)<=0)=True:=eq_true (by decide);have z1:Int.toNat 0=0:=rfl;have z2:((0:Int)<=1)=True:=eq_true (by decide);have z3:Int.toNat 1=1:=rfl;obtain⟨row,hrow⟩:=yQ2 hw;obtain⟨xr,hxr,tr,rfl,htr⟩:=hxS.2 w row hrow;have hro:=hS.2 row (lMg hrow);have hsf:sF S w=row:=by unfold sF;rw[hrow];rfl
 rw[hp7,hsf];have d3:decide (((7:Nat):Int)=3)=false:=rfl;refine iI func85 ?_;simp only[go_sem,zE,zB,zA,zM,zS,zL,reduceCtorEq,wdI,fits,d1,d2,show decide (((7:Nat):Int)=4)=false from rfl,show decide (((7:Nat):Int)=5)=false from rfl];refine LoopC.ctr row.length (λk fr st' ds=>(row.take k).all (λu=>and (or (!hp (sF S) (vB l ms) a u) (hp (sF S) (vB l ms) b u)) (or (!hp (sF S) (vB l ms) b u) (hp (sF S) (vB l ms) a u)))=true/\fr 3=.box [.sl tS xS,.sl ta (nmsI l),.sl tm (yQh ms)]/\fr 4=.box [.raw (.int .u8 (7:Nat)),.raw (.string noN),.sl tx cx,.sl ty [.agg [.raw (.int .u8 oa),.raw (.string na),.sl p1 r1,.sl p2 r2],.agg [.raw (.int .u8 ob),.raw (.string nb),.sl p3 r3,.sl p4 r4]]]/\fr 2=.iv (.raw (.int .i64 (w:Int)))/\fr 8=.iv (.raw (.int .i64 k))/\st'=st/\ds=[]) ?_ ?_ ?_
 ·simp only[go_sem,zE,zB,zA,zM,zS,zL,reduceCtorEq];simp
 ·rintro k fr st1 _ hlt ⟨hall,f3,f4,f2,f8,rfl,rfl⟩;obtain⟨u,hu⟩:=yQ2 hlt;have hul:=hro.2 u (lMg hu);have hno:∀g:Nat->Bool,g u=false->row.all g=false:=λg h=>List.all_eq_false.2 ⟨u,lMg hu,by simp[h]⟩;simp only[go_sem,zE,zB,zA,zM,zS,zL,reduceCtorEq,f2,f3,f4,f8,fits,yQ3 hty,iNn,yQ3 htS,hxr,yQ3 htr,yQi,lt_i hlt,yZc hu,IV.one,z0,z1];intro _;refine (hca u hul _).mono ?_;rintro _ _ ⟨rfl,rfl⟩;simp only[go_sem,zE,zB,zA,zM,zS,zL,reduceCtorEq,f2,f3,f4,f8,fits,d3,yQ3 hty,z2,z3];refine (hcb u hul _).mono ?_;rintro _ _ ⟨rfl,rfl⟩;cases hb:hp (sF S) (vB l ms) a u<;>cases hb':hp (sF S) (vB l ms) b u
  all_goals simp only[go_sem,zE,zB,zA,zM,zS,zL,reduceCtorEq,f2,f3,f4,f8,fits,d3,show decide (((7:Nat):Int)=7)=true from rfl,decide_true,yQd hlt (show row.length<=281474976710656 by omega)]
  all_goals first
   | (rw[yQ7 hu,List.all_append,hall];simp[hb,hb'];done)
   | exact yQ0 ⟨by rw[hno _ (by simp[hb,hb'])],rfl⟩
 ·rintro fr st1 _ ⟨hall,f3,f4,f2,f8,rfl,rfl⟩;rw[lTl] at hall;simp only[go_sem,zE,zB,zA,zM,zS,zL,reduceCtorEq,f2,f3,f4,f8,fits,yQ3 htS,hxr,yQ3 htr,iNn,yQi,yQm (nLi _)];intro _;exact yQ0 ⟨by rw[hall],rfl⟩
theorem wWe {f:Fm}(hf:PF f):holC gl S tS xS ta tm l ms f:=by
 induction hf with
 | atom n=>exact xV6 gl S hS tS xS htS hxS ta tm hta htm l hnd hl ms hml hms n
 | fls=>exact xGz gl S hS tS xS htS hxS ta tm hta htm l hnd hl ms hml hms
 | neg _ ih=>exact xGw gl S hS tS xS htS hxS ta tm hta htm l hnd hl ms hml hms ih
 | @bin o a b h4 h7 _ _ iha ihb =>
  rcases (show o=4\/o=5\/o=6\/o=7 by omega) with rfl|rfl|rfl|rfl
  ·exact xU0 gl S hS tS xS htS hxS ta tm hta htm l hnd hl ms hml hms iha ihb
  ·exact wXa gl S hS tS xS htS hxS ta tm hta htm l hnd hl ms hml hms iha ihb
  ·exact xGx gl S hS tS xS htS hxS ta tm hta htm l hnd hl ms hml hms iha ihb
  ·exact xGy gl S hS tS xS htS hxS ta tm hta htm l hnd hl ms hml hms iha ihb
end
end Go.Proofs.Tryz
namespace Go.Proofs.Tryz
open Go Go.Iv
set_option maxRecDepth 8000
variable (gl:Nat->Option IV)
def refB (S:List (List Nat))(l:List ByteArray)(ms:List Nat)(s:Sq):Bool:=s.l.all (λf=>hp (sF S) (vB l ms) f 0)&&s.r.all (λf=>!hp (sF S) (vB l ms) f 0)
theorem xY5 (S:List (List Nat))(hS:xJr S)(tS:Tag)(xS:List IV)(htS:okEs tS 1)(hxS:AllR xVs S xS)(ta tm:Tag)(hta:okEs ta 1)(htm:okEs tm 1)(l:List ByteArray)(hnd:l.Nodup)(hl:l.length<=100)(ms:List Nat)(hml:ms.length=S.length)(hms:∀m∈ms,m<=1000000)
  (s:Sq) (x:IV) (hx:IsSq s x) (hpf:∀f∈s.l++s.r,PF f) (h0:0<S.length) (st:ISt):ICall prog gl 49 [wdI tS xS ta tm l ms,x] st (λr st'=>r=.raw (.bool (refB S l ms s))/\st'=st):=by
 have hH:=λf hf x hx st=>wWe gl S hS tS xS htS hxS ta tm hta htm l hnd hl ms hml hms (f:=f) hf x hx 0 h0 st;obtain⟨t1,x1,t2,x2,rfl,e1,i1,e2,i2⟩:=hx;refine iI func49 ?_;simp only[go_sem,zE,zB,zA,zM,zS,zL,reduceCtorEq,wdI,fits];refine LoopC.ctr s.l.length (λk fr st' ds=>(s.l.take k).all (λf=>hp (sF S) (vB l ms) f 0)=true/\fr 2=.box [.sl tS xS,.sl ta (nmsI l),.sl tm (yQh ms)]/\fr 3=.box [.sl t1 x1,.sl t2 x2]/\fr 5=.iv (.raw (.int .i64 k))/\st'=st/\ds=[]) ?_ ?_ ?_
 ·simp only[go_sem,zE,zB,zA,zM,zS,zL,reduceCtorEq];simp
 ·rintro k fr st1 _ hlt ⟨hall,f2,f3,f5,rfl,rfl⟩;obtain⟨f,hf⟩:=yQ2 hlt;have hfm:=lMg hf;obtain⟨z,hz,hfz⟩:=i1.get hf;have hc:=λst=>hH f (hpf f (List.mem_append_left _ hfm)) z hfz st;obtain⟨o1,n1,q1,z1,q2,z2,rfl⟩:=hfz.agg;simp only[go_sem,zE,zB,zA,zM,zS,zL,reduceCtorEq,f2,f3,f5,i1.len,lt_i hlt,yQ3 e1,iNn,hz,fits];intro _;refine (hc _).mono ?_;rintro _ _ ⟨rfl,rfl⟩;cases hb:hp (sF S) (vB l ms) f 0
  ·simp only[go_sem,zE,zB,zA,zM,zS,zL,reduceCtorEq,f2,f3,f5,fits];exact yQ0 ⟨by unfold refB;rw[List.all_eq_false.2 ⟨f,hfm,by simp[hb]⟩];rfl,rfl⟩
  ·simp only[go_sem,zE,zB,zA,zM,zS,zL,reduceCtorEq,f2,f3,f5,fits,yQd hlt (show s.l.length<=281474976710656 by omega)];rw[yQ7 hf,List.all_append,hall];simp[hb]
 ·rintro fr st1 _ ⟨hall,f2,f3,f5,rfl,rfl⟩;rw[lTl] at hall;simp only[go_sem,zE,zB,zA,zM,zS,zL,reduceCtorEq,f2,f3,f5,i1.len,yQm (nLi _),fits];intro _;refine LoopC.ctr s.r.length (λk fr st' ds=>(s.r.take k).all (λf=>!hp (sF S) (vB l ms) f 0)=true/\fr 2=.box [.sl tS xS,.sl ta (nmsI l),.sl tm (yQh ms)]/\fr 3=.box [.sl t1 x1,.sl t2 x2]/\fr 6=.iv (.raw (.int .i64 k))/\st'=st1/\ds=[]) ?_ ?_ ?_
  ·simp only[go_sem,zE,zB,zA,zM,zS,zL,reduceCtorEq,f2,f3];simp
  ·rintro k fr st1 _ hlt ⟨hall2,f2,f3,f6,rfl,rfl⟩;obtain⟨f,hf⟩:=yQ2 hlt;have hfm:=lMg hf;obtain⟨z,hz,hfz⟩:=i2.get hf;have hc:=λst=>hH f (hpf f (List.mem_append_right _ hfm)) z hfz st;obtain⟨o1,n1,q1,z1,q2,z2,rfl⟩:=hfz.agg;simp only[go_sem,zE,zB,zA,zM,zS,zL,reduceCtorEq,f2,f3,f6,i2.len,lt_i hlt,yQ3 e2,iNn,hz,fits];intro _;refine (hc _).mono ?_;rintro _ _ ⟨rfl,rfl⟩;cases hb:hp (sF S) (vB l ms) f 0
   ·simp only[go_sem,zE,zB,zA,zM,zS,zL,reduceCtorEq,f2,f3,f6,fits,yQd hlt (show s.r.length<=281474976710656 by omega)];rw[yQ7 hf,List.all_append,hall2];simp[hb]
   ·simp only[go_sem,zE,zB,zA,zM,zS,zL,reduceCtorEq,f2,f3,f6,fits];exact yQ0 ⟨by unfold refB;rw[List.all_eq_false (p:=λf=>!hp (sF S) (vB l ms) f 0) |>.2 ⟨f,hfm,by simp[hb]⟩,Bool.and_false],rfl⟩
  ·rintro fr st1 _ ⟨hall2,f2,f3,f6,rfl,rfl⟩;rw[lTl] at hall2;simp only[go_sem,zE,zB,zA,zM,zS,zL,reduceCtorEq,f2,f3,f6,i2.len,yQm (nLi _),fits];intro _;exact yQ0 ⟨by unfold refB;rw[hall,hall2];rfl,rfl⟩
end Go.Proofs.Tryz
namespace Go.Proofs.Tryz
open Go Go.Iv
theorem uQl {a:Fm}(ha:PF a):∀ {b:Fm},PF b->dbF [] a=dbF [] b->a=b:=by
 have hq:∀o,1<=o->o<=7->isQ o=false:=λo h1 h2=>by
  rcases (show o=1\/o=2\/o=3\/o=4\/o=5\/o=6\/o=7 by omega) with rfl|rfl|rfl|rfl|rfl|rfl|rfl<;>rfl
 have h1:=hq 1 (by decide) (by decide);have h2:=hq 2 (by decide) (by decide);have h3:=hq 3 (by decide) (by decide)
 induction ha with
 | atom n =>
  intro b hb h;cases hb<;>simp_all [dbF,dbFs,dbs]
  all_goals omega
 | fls =>
  intro b hb h;cases hb<;>simp_all [dbF,dbFs,dbs]
  all_goals omega
 | neg _ ih =>
  intro b hb h;cases hb with
  | neg hb' =>
   simp only[dbF,dbFs,h3,bFt,if_false,NlF.mk.injEq,List.cons.injEq,and_true,true_and] at h;rw[ih hb' h]
  | _=>simp_all [dbF,dbFs,dbs]<;>omega
 | @bin o a b h4 h7 _ _ iha ihb =>
  intro c hc h;cases hc with
  | @bin o' a' b' h4' h7' ha' hb' =>
   have e1:=hq o (by omega) h7;have e2:=hq o' (by omega) h7';simp only[dbF,dbFs,e1,e2,bFt,if_false,NlF.mk.injEq,List.cons.injEq,and_true,true_and] at h;obtain⟨rfl,h5,h6⟩:=h;rw[iha ha' h5,ihb hb' h6]
  | _=>simp_all [dbF,dbFs,dbs]<;>omega
theorem xJu {s:Sq}(h:yQx 2 s=true):∀f∈s.r,∀g∈s.r,f=g:=by
 have hpf:∀f∈s.r,PF f:=λf hf=>zYk (by decide) (yG9 h f (List.mem_append_right _ hf));unfold yQx at h;simp only[bAt] at h;have h1:zWj s.r=true:=by simpa using h.2
 cases hr:s.r with
 | nil=>intro f hf;cases hf
 | cons a l =>
  rw[hr] at h1 hpf;have key:∀f∈a::l,f=a:=λf hf=>by
   have:=List.all_eq_true.1 h1 f hf;unfold eqF zJ1 at this;simp only[bAt,dTe,yZ5] at this;exact uQl (hpf f hf) (hpf a (.head _)) this.2.2
  exact λf hf g hg=>(key f hf).trans (key g hg).symm
def mskA (n W k:Nat):List Nat:=(List.range W).map λw=>k / 2 ^ (n*w)%2 ^ n
def anZ (a b:Nat):Int:=IntKind.i64.wrap ((BitVec.ofInt IntKind.i64.bits ((a:Nat):Int) &&& ~~~(BitVec.ofInt IntKind.i64.bits ((b:Nat):Int))).toNat:Int)
def xJz (S:List (List Nat))(ms:List Nat):Bool:=(List.range S.length).all λw=>((S[w]?).getD []).all λu=>decide (anZ ((ms[w]?).getD 0) ((ms[u]?).getD 0)=0)
def cntB (S:List (List Nat))(l:List ByteArray)(s:Sq):Bool:=(List.range (2 ^ (l.length*S.length))).any λk=>xJz S (mskA l.length S.length k)&&refB S l (mskA l.length S.length k) s
theorem xJn {a b:Nat}(ha:a<=1000000)(hb:b<=1000000):anZ a b=0↔∀i,a.testBit i=true->b.testBit i=true:=by
 unfold anZ;show IntKind.i64.wrap ((BitVec.ofInt 64 ((a:Nat):Int) &&& ~~~(BitVec.ofInt 64 ((b:Nat):Int))).toNat:Int)=0↔_;rw[BitVec.ofInt_natCast,BitVec.ofInt_natCast];have h3:(1000000:Nat)<2 ^ 63:=by decide
 have h4:(2:Nat) ^ 63<2 ^ 64:=by decide
 have ea:(BitVec.ofNat 64 a).toNat=a:=by rw[BitVec.toNat_ofNat,Nat.mod_eq_of_lt (by omega)]
 have eb:(BitVec.ofNat 64 b).toNat=b:=by rw[BitVec.toNat_ofNat,Nat.mod_eq_of_lt (by omega)]
 have hle:(BitVec.ofNat 64 a &&& ~~~(BitVec.ofNat 64 b)).toNat<=a:=by
  rw[BitVec.toNat_and,ea];exact Nat.and_le_left
 rw[w64 (by omega) (by omega)];have hz:(((BitVec.ofNat 64 a &&& ~~~(BitVec.ofNat 64 b)).toNat:Nat):Int)=0↔BitVec.ofNat 64 a &&& ~~~(BitVec.ofNat 64 b)=0#64:=by
  constructor
  ·intro h;apply BitVec.eq_of_toNat_eq;simp at h ⊢;omega
  ·intro h;rw[h];rfl
 rw[hz];have hbit:∀i,(BitVec.ofNat 64 a).getLsbD i=a.testBit i:=λi=>by rw[BitVec.getLsbD,ea]
 have hbitb:∀i,(BitVec.ofNat 64 b).getLsbD i=b.testBit i:=λi=>by rw[BitVec.getLsbD,eb]
 constructor
 ·intro h i hi;have hi64:i<64:=by
   apply Classical.byContradiction;intro hn;have:a.testBit i=false:=Nat.testBit_lt_two_pow (by have:2 ^ 64<=2 ^ i:=Nat.pow_le_pow_right (by decide) (by omega);omega);rw[this] at hi;cases hi
  have h1:=congrArg (λx=>x.getLsbD i) h;simp only[BitVec.getLsbD_and,BitVec.getLsbD_not,hbit,hbitb,hi,hi64,decide_true,Bool.true_and,BitVec.getLsbD_zero] at h1;simpa using h1
 ·intro h;apply BitVec.eq_of_getLsbD_eq;intro i hi;simp only[BitVec.getLsbD_and,BitVec.getLsbD_not,hbit,hbitb,BitVec.getLsbD_zero];cases h1:a.testBit i
  ·simp
  ·simp[h i h1]
theorem wV5 {V:Nat->ByteArray->Bool}{f:Fm}(hf:PF f):hp (sF [[0]]) V f 0=tr (V 0) f:=by
 have h0:sF [[0]] 0=[0]:=rfl
 induction hf with
 | atom n=>rw[hp1,tr1]
 | fls=>rw[hp2,tr2]
 | neg _ ih=>rw[hp3,tr3,h0];simp[ih]
 | @bin o a b h4 h7 _ _ ia ib =>
  obtain rfl|rfl|rfl|rfl:o=4\/o=5\/o=6\/o=7:=by omega
  ·rw[hp4,tr4,ia,ib]
  ·rw[hp5,tr5,ia,ib]
  ·rw[hp6,tr6,h0];simp[ia,ib]
  ·rw[hp7,tr7,h0];simp[ia,ib]
theorem wQv {v v':ByteArray->Bool}{f:Fm}(hf:PF f):(∀n,symIn (yZg f) n 0->v n=v' n)->tr v f=tr v' f:=by
 induction hf with
 | atom n=>intro h;rw[tr1,tr1];exact h n ⟨[],[],by simp[yZg],rfl⟩
 | fls=>intro _;rw[tr2,tr2]
 | neg _ ih =>
  intro h;rw[tr3,tr3,ih λn ⟨us,sub,h1,h2⟩=>h n ⟨us,sub,by simp[yZg,yQy,h1],h2⟩]
 | @bin o a b h4 h7 _ _ ia ib =>
  intro h;have ea:=ia λn ⟨us,sub,h1,h2⟩=>h n ⟨us,sub,by simp[yZg,yQy,h1],h2⟩;have eb:=ib λn ⟨us,sub,h1,h2⟩=>h n ⟨us,sub,by simp[yZg,yQy,h1],h2⟩;obtain rfl|rfl|rfl|rfl:o=4\/o=5\/o=6\/o=7:=by omega
  ·rw[tr4,tr4,ea,eb]
  ·rw[tr5,tr5,ea,eb]
  ·rw[tr6,tr6,ea,eb]
  ·rw[tr7,tr7,ea,eb]
theorem xYw (v:ByteArray->Bool):∀l:List ByteArray,∃k,k<2 ^ l.length/\∀(i:Nat) (n:ByteArray),l[i]?=some n->k.testBit i=v n
 | []=>⟨0,by simp,by simp⟩
 | a::l=>by
  obtain⟨k,h1,h2⟩:=xYw v l;have hb:(v a).toNat<2:=Bool.toNat_lt _;refine⟨2*k+(v a).toNat,by rw[List.length_cons,Nat.pow_succ];omega,λi n h=>?_⟩;cases i with
  | zero =>
   simp only[List.getElem?_cons_zero,Option.some.injEq] at h;subst h;rw[Nat.testBit_zero];cases v a<;>simp[Nat.add_mod]
  | succ i =>
   rw[Nat.testBit_succ,show (2*k+(v a).toNat) / 2=k by omega];exact h2 i n h
theorem xUm {s:Sq}(hv:yQx 1 s=true){l:List ByteArray}(hnd:l.Nodup)(hat:∀n,n∈l↔atB (s.l++s.r) n)(hl:l.length<=12):0<hF false (s.l,s.r)↔cntB [[0]] l s=false:=by
 have hpf:∀f∈s.l++s.r,PF f:=λf hf=>zYk (by decide) (yG9 hv f hf);constructor
 ·intro h;unfold cntB;rw[List.any_eq_false];intro k _ hk;rw[bAt] at hk;have hr:=hk.2;unfold refB at hr;rw[bAt,List.all_eq_true,List.all_eq_true] at hr;obtain⟨f,hf,ht⟩:=wV1 hpf h (v:=vB l (mskA l.length 1 k) 0) λf hf=>by
   rw[<- wV5 (hpf f (List.mem_append_left _ hf))];exact hr.1 f hf
  have:=hr.2 f hf;rw[show ([[0]]:List (List Nat)).length=1 from rfl,wV5 (hpf f (List.mem_append_right _ hf)),ht] at this;cases this
 ·intro h;apply Nat.pos_of_ne_zero;intro h0;obtain⟨v,hv1,hv2⟩:=refuted hpf h0;obtain⟨k,hk1,hk2⟩:=xYw v l;have hms:mskA l.length 1 k=[k]:=by
   unfold mskA;simp[Nat.mod_eq_of_lt hk1]
  have hk3:k<=1000000:=by
   have:2 ^ l.length<=2 ^ 12:=Nat.pow_le_pow_right (by decide) hl;have:(2:Nat) ^ 12=4096:=rfl;omega
  have htr:∀f∈s.l++s.r,hp (sF [[0]]) (vB l [k]) f 0=tr v f:=λf hf=>by
   rw[wV5 (hpf f hf)];refine wQv (hpf f hf) λn hn=>?_;obtain⟨i,hi⟩:=List.mem_iff_getElem?.1 ((hat n).2 ⟨f,hf,0,hn⟩);rw[wU3 hnd hi rfl,hk2 i n hi]
  have:cntB [[0]] l s=true:=by
   unfold cntB;refine List.any_eq_true.2 ⟨k,List.mem_range.2 (by simpa using hk1),?_⟩;rw[show ([[0]]:List (List Nat)).length=1 from rfl,hms,bAt];refine⟨?_,?_⟩
   ·unfold xJz;simp[List.range_succ,(xJn hk3 hk3).2 λ_ h=>h]
   ·unfold refB;rw[bAt,List.all_eq_true,List.all_eq_true];exact⟨λf hf=>by rw[htr f (List.mem_append_left _ hf)];exact hv1 f hf,λf hf=>by rw[htr f (List.mem_append_right _ hf),hv2 f hf];rfl⟩
  rw[this] at h;cases h
def frB (S:List (List Nat)):Bool:=(List.range S.length).all λw=>((S[w]?).getD []).contains w&&((S[w]?).getD []).all λu=>decide (u<S.length)&&((S[u]?).getD []).all λx=>((S[w]?).getD []).contains x
theorem wWk {S:List (List Nat)}(h:frB S=true){ms:List Nat}(hms:∀m∈ms,m<=1000000)(hst:xJz S ms=true)(l:List ByteArray):Frc (sF S) (vB l ms):=by
 unfold frB at h;have h1:∀w,w<S.length->∀r,S[w]?=some r->w∈r/\∀u∈r,u<S.length/\∀q,S[u]?=some q->∀x∈q,x∈r:=λw hw r hr=>by
  have:=List.all_eq_true.1 h w (List.mem_range.2 hw);simp only[hr,Option.getD_some,bAt,List.contains_iff_mem,List.all_eq_true,dTe] at this;refine⟨this.1,λu hu=>⟨(this.2 u hu).1,λq hq x hx=>?_⟩⟩;have:=(this.2 u hu).2;rw[hq] at this;exact this x hx
 have hsF:∀w,(∃r,S[w]?=some r/\sF S w=r/\w<S.length)\/(S[w]?=none/\sF S w=[w]):=λw=>by
  unfold sF;cases hw:S[w]? with
  | none=>exact .inr ⟨rfl,rfl⟩
  | some r=>exact .inl ⟨r,rfl,rfl,(lGs hw).1⟩
 refine⟨λw=>?_,λw u hu x hx=>?_,λw u hu n hn=>?_⟩
 ·rcases hsF w with⟨r,h2,h3,h4⟩|⟨_,h3⟩
  ·rw[h3];exact (h1 w h4 r h2).1
  ·rw[h3];exact .head _
 ·rcases hsF w with⟨r,h2,h3,h4⟩|⟨_,h3⟩
  ·rw[h3] at hu ⊢;obtain⟨h5,h6⟩:=(h1 w h4 r h2).2 u hu;obtain⟨q,hq⟩:=yQ2 h5;rcases hsF u with⟨q',h7,h8,_⟩|⟨h7,_⟩
   ·rw[h8] at hx;exact h6 q' h7 x hx
   ·rw[hq] at h7;cases h7
  ·rw[h3] at hu ⊢;obtain rfl:=List.mem_singleton.1 hu;rw[h3] at hx;exact hx
 ·rcases hsF w with⟨r,h2,h3,h4⟩|⟨_,h3⟩
  ·rw[h3] at hu;unfold xJz at hst;have:=List.all_eq_true.1 hst w (List.mem_range.2 h4);rw[h2] at this;have:=of_decide_eq_true (List.all_eq_true.1 this u hu);have hb:∀k:Nat,((ms[k]?).getD 0)<=1000000:=λk=>by
    cases hk:ms[k]? with
    | none=>exact Nat.zero_le _
    | some m=>exact hms m (lMg hk)
   rw[xJn (hb w) (hb u)] at this;unfold vB at hn ⊢;rw[List.any_eq_true] at hn ⊢;obtain⟨i,hi,h7⟩:=hn;rw[bAt] at h7;exact⟨i,hi,by rw[bAt];exact⟨h7.1,this i h7.2⟩⟩
  ·rw[h3] at hu;obtain rfl:=List.mem_singleton.1 hu;exact hn
theorem xYq {n W k:Nat}(hn:n<=12):∀m∈mskA n W k,m<=1000000:=λm hm=>by
 obtain⟨w,_,rfl⟩:=List.mem_map.1 hm;have h1:k / 2 ^ (n*w)%2 ^ n<2 ^ n:=Nat.mod_lt _ (Nat.two_pow_pos n);have h2:2 ^ n<=2 ^ 12:=Nat.pow_le_pow_right (by decide) hn;have:(2:Nat) ^ 12=4096:=rfl;omega
theorem xUn {s:Sq}(hv:yQx 2 s=true)(h:0<hF true (s.l,s.r)){l:List ByteArray}(hl:l.length<=12){S:List (List Nat)}(hS:frB S=true):cntB S l s=false:=by
 have hpf:∀f∈s.l++s.r,PF f:=λf hf=>zYk (by decide) (yG9 hv f hf);unfold cntB;rw[List.any_eq_false];intro k _ hk;rw[bAt] at hk;have hr:=hk.2;unfold refB at hr;rw[bAt,List.all_eq_true,List.all_eq_true] at hr;obtain⟨f,hf,ht⟩:=HtF.forced (wWk hS (xYq hl) hk.1 l) (xU2 h) (λf hf=>hpf f (List.mem_append_left _ hf)) (λf hf=>hpf f (List.mem_append_right _ hf)) (xJu hv) 0 hr.1;have:=hr.2 f hf;rw[ht] at this;cases this
end Go.Proofs.Tryz
namespace Go.Iv
open Go
theorem zG8 {l:Array Bool}{i j:Nat}(hi:i<l.size):(l.setIfInBounds i true).getD j false=if i=j then true else l.getD j false:=by
 by_cases h:i=j
 ·subst h;rw[if_pos rfl];simp[hi]
 ·rw[if_neg h,getD_set_ne false h]
theorem yX0 (c:Cf)(ops:List Oper)(dst:Option Nat)(op:Op)(ty:TypeId)(pos:String)(aft:Array Edge)(K:Kt)(ad:Ad)(fr:Fr)(st:ISt)(ds:List Dfd):yVu c ops ⟨dst,op,ty,pos,aft,none⟩ K ad fr st ds=vcOp c dst op K ad fr st ds:=rfl
theorem yKm {ad:Ad}(h:∀s,ad s=none)(d:Nat):∀s,ad.put d none s=none:=λs=>by
 rw[Ad.put_apply,h s];split<;>rfl
theorem zUz {ops:Array Oper}{listed:Array Bool}(h:((List.range ops.size).all λi=>(opAt ops i).after.toList.all λe=>!Region.binds .any e || decide (e.on<i))=true)(hz:listed.size=ops.size)(hr:Region.ready .any ops listed=[]):∀i,i<ops.size->listed.getD i false=true:=by
 intro i
 induction i using Nat.strongRecOn with
 | _ i ih =>
  intro hi;refine Classical.byContradiction λhc=>?_;have h4:listed.getD i true=false:=by
   rw[Array.getD_eq_getD_getElem?,Array.getElem?_eq_getElem (by omega)] at hc ⊢;simpa using hc
  have:i∈Region.ready .any ops listed:=mem_ready.2 ⟨h4,_,yKi hi,λe hem hb=>by
   have h5:=List.all_eq_true.1 (List.all_eq_true.1 h i (List.mem_range.2 hi)) e (by simpa using hem);rw[hb] at h5;have h6:e.on<i:=by simpa using h5
   exact ih e.on h6 (Nat.lt_trans h6 hi)⟩
  rw[hr] at this;cases this
end Go.Iv
namespace Go.Proofs.Tryz
open Go Go.Iv
set_option maxRecDepth 8000
variable (gl:Nat->Option IV)
def wXc (S:List (List Nat))(l:List ByteArray)(s:Sq)(k:Nat):Bool:=xJz S (mskA l.length S.length k)&&refB S l (mskA l.length S.length k) s
theorem xY7 (f:Nat->Value)(l:List Nat):ages (l.map λn=>IV.raw (f n))=l.map λn=>IV.raw (f n):=by
 rw[yJ5,List.map_map];exact List.map_congr_left λn _=>by simp[age]
theorem zG3 (l:List Nat):ages (yQh l)=yQh l:=xY7 _ l
theorem xYl (l:List ByteArray):ages (nmsI l)=nmsI l:=by
 unfold nmsI;rw[yJ5,List.map_map];exact List.map_congr_left λn _=>by simp[age]
theorem xV1 {S:List (List Nat)}{xs:List IV}(h:AllR xVs S xs):AllR xVs S (ages xs):=⟨by rw[yZh];exact h.1,λi r hr=>by
 obtain⟨x,h1,t,rfl,h2⟩:=h.2 i r hr;exact⟨_,by rw[yJ5,List.getElem?_map,h1];rfl,⟨false,t.cap,t.es⟩,by simp only[age,zG3],yWx h2⟩⟩
theorem xY8 (l:List Nat):(yQh l).flatMap IV.cells=yQh l:=by
 unfold yQh;rw[List.flatMap_map]
 induction l with
 | nil=>rfl
 | cons a l ih=>rw[List.flatMap_cons,List.map_cons,ih];rfl
theorem wVz {n W k w:Nat}(h:w<W):(mskA n W k)[w]?=some (k / 2 ^ (n*w)%2 ^ n):=by
 unfold mskA;rw[List.getElem?_map,List.getElem?_range h];rfl
theorem wUi {l:List IV}{k:Nat}{y:IV}(h:k<l.length):List.take (k*1) l++[y]++List.drop (k*1+1) l=l.set k y:=by
 rw[Nat.mul_one,List.set_eq_take_append_cons_drop,if_pos h];simp
theorem xYp (n W k:Nat):(mskA n W k).length=W:=by simp[mskA]
def CtJ (W:Nat)(tS:Tag)(xS:List IV)(a b:IV)(P:Tag->List ByteArray->Prop)(st0:ISt)(listed:Array Bool):Kt:=λad fr st ds=>(∀s,ad s=none)/\ds=[]/\fr 1=.iv (.sl tS xS)/\fr 2=.box [a,b] /\
 (listed.getD 0 false=true->fr 12=.iv (.sl tS xS))/\(listed.getD 1 false=true->fr 13=.iv (.agg [a,b]))/\(listed.getD 2 false=true->∃ta l,fr 14=.iv (.sl ta (nmsI l))/\P ta l) /\
 (listed.getD 3 false=true->fr 15=.iv (.sl tS xS))/\(listed.getD 4 false=true->fr 16=.iv (.raw (.int .i64 (W:Int)))) /\
 ((listed.getD 5 false=false/\st=st0)\/listed.getD 5 false=true/\∃g,st0 g=none/\st=st0.put g (some (.box (List.replicate W (.raw (.int .i64 0)))))/\fr 17=.iv (slG g W)) /\
 (listed.getD 6 false=true->∃ta l g,P ta l/\st0 g=none/\st=st0.put g (some (.box (List.replicate W (.raw (.int .i64 0)))))/\fr 18=.iv (.agg [.sl tS xS,.sl ta (nmsI l),slG g W])) /\
 (listed.getD 7 false=true->listed.getD 8 false=false->fr 5=.box [.sl ⟨true,.nil,0⟩ [],.sl ⟨true,.nil,0⟩ [],.sl ⟨true,.nil,0⟩ []]) /\
 (listed.getD 8 false=true->listed.getD 7 false=true/\∃ta l g,P ta l/\st0 g=none/\st=st0.put g (some (.box (List.replicate W (.raw (.int .i64 0)))))/\fr 5=.box [.sl tS xS,.sl ta (nmsI l),slG g W])
set_option maxHeartbeats 4000000 in
theorem xQx (s:Sq)(x:IV)(hx:IsSq s x)(hpf:∀f∈s.l++s.r,PF f)(hw:wFms s.l+wFms s.r<=300)(S:List (List Nat))(hS:xJr S)(h0:0<S.length)(tS:Tag)(xS:List IV)(htS:okEs tS 1)(hxS:AllR xVs S xS)
  (hN:∀l:List ByteArray,l.Nodup->(∀n,n∈l↔atB (s.l++s.r) n)->l.length*S.length<=12) (st:ISt) (hst:∀b,st b=none) :
  ICall prog gl 21 [x,.sl tS xS] st (λr st'=>(∃l:List ByteArray,l.Nodup/\(∀n,n∈l↔atB (s.l++s.r) n)/\r=.raw (.bool (cntB S l s)))/\st'=st):=by
 have hNm:=λst=>xYn gl s x hx hw st;have hx0:=hx;obtain⟨t1,x1,t2,x2,rfl,e1,i1,e2,i2⟩:=hx;have hSl:xS.length=S.length:=hxS.1;have hS3:=hS.1;refine ICall.intro (c:=cf prog gl [71,82,3000017] [(1,[])]) func21 rfl (by show _<=92;simp) (by kernel_rfl) ?_;simp only[go_sem,zE,zB,zA,zM,zS,zL,reduceCtorEq,fits];rw[zGf];refine zKw (CtJ S.length tS xS (.sl t1 x1) (.sl t2 x2) (λta l=>okEs ta 1/\l.Nodup/\∀n,n∈l↔atB (s.l++s.r) n) st) ?_ ?_ _ _ _ _ _ _ rfl ?_
 ·intro listed ad fr st1 ds hz hJ i hi;replace hz:listed.size=9:=hz;obtain⟨h00,o,ho,hdep⟩:=mem_ready.1 hi;have his:i<9:=(Array.getElem?_eq_some_iff.1 ho).1;have hfl:listed.getD i false=false:=by
   rw[Array.getD_eq_getD_getElem?,Array.getElem?_eq_getElem (by omega)] at h00 ⊢;exact h00
  have e:∀j,i≠j->(listed.setIfInBounds i true).getD j false=listed.getD j false:=λj hj=>by rw[zG8 (by omega),if_neg hj]
  have ei:(listed.setIfInBounds i true).getD i false=true:=by rw[zG8 (by omega),if_pos rfl]
  obtain⟨had,rfl,f1,f2,g0,g1,g2,g3,g4,g5,g6,g7,g8⟩:=hJ;rcases (show i=0\/i=1\/i=2\/i=3\/i=4\/i=5\/i=6\/i=7\/i=8 by omega) with rfl|rfl|rfl|rfl|rfl|rfl|rfl|rfl|rfl
  all_goals obtain rfl:_=o:=Option.some.inj ho
  ·simp only[go_sem,zE,zB,zA,zM,zS,zL,reduceCtorEq,yX0,had,f1];exact⟨yKm had _,rfl,f1,f2,λ_=>rfl,λh=>g1 (by rwa [e 1 (by decide)] at h),λh=>g2 (by rwa [e 2 (by decide)] at h),λh=>g3 (by rwa [e 3 (by decide)] at h),λh=>g4 (by rwa [e 4 (by decide)] at h),by rw[e 5 (by decide)];exact g5,λh=>g6 (by rwa [e 6 (by decide)] at h),λh h'=>g7 (by rwa [e 7 (by decide)] at h) (by rwa [e 8 (by decide)] at h'),λh=>(g8 (by rwa [e 8 (by decide)] at h)).imp (λq=>by first|rw[e 7 (by decide)];exact q) id⟩
  ·simp only[go_sem,zE,zB,zA,zM,zS,zL,reduceCtorEq,yX0,had,f2];exact⟨yKm had _,rfl,f1,f2,λh=>g0 (by rwa [e 0 (by decide)] at h),λ_=>rfl,λh=>g2 (by rwa [e 2 (by decide)] at h),λh=>g3 (by rwa [e 3 (by decide)] at h),λh=>g4 (by rwa [e 4 (by decide)] at h),by rw[e 5 (by decide)];exact g5,λh=>g6 (by rwa [e 6 (by decide)] at h),λh h'=>g7 (by rwa [e 7 (by decide)] at h) (by rwa [e 8 (by decide)] at h'),λh=>(g8 (by rwa [e 8 (by decide)] at h)).imp (λq=>by first|rw[e 7 (by decide)];exact q) id⟩
  ·replace g1:=g1 (hdep ⟨1,.data⟩ (by simp) rfl);simp only[go_sem,zE,zB,zA,zM,zS,zL,reduceCtorEq,yX0,had,g1];refine (hNm _).mono ?_;rintro _ st1 ⟨⟨ta,l,rfl,hta,hnd,hat⟩,rfl⟩;simp only[go_sem,zE,zB,zA,zM,zS,zL,reduceCtorEq,yX0,had,g1];exact⟨yKm had _,rfl,f1,f2,λh=>g0 (by rwa [e 0 (by decide)] at h),λ_=>g1,λ_=>⟨ta,l,rfl,hta,hnd,hat⟩,λh=>g3 (by rwa [e 3 (by decide)] at h),λh=>g4 (by rwa [e 4 (by decide)] at h),by rw[e 5 (by decide)];exact g5,λh=>g6 (by rwa [e 6 (by decide)] at h),λh h'=>g7 (by rwa [e 7 (by decide)] at h) (by rwa [e 8 (by decide)] at h'),λh=>(g8 (by rwa [e 8 (by decide)] at h)).imp (λq=>by first|rw[e 7 (by decide)];exact q) id⟩
  ·simp only[go_sem,zE,zB,zA,zM,zS,zL,reduceCtorEq,yX0,had,f1];exact⟨yKm had _,rfl,f1,f2,λh=>g0 (by rwa [e 0 (by decide)] at h),λh=>g1 (by rwa [e 1 (by decide)] at h),λh=>g2 (by rwa [e 2 (by decide)] at h),λ_=>rfl,λh=>g4 (by rwa [e 4 (by decide)] at h),by rw[e 5 (by decide)];exact g5,λh=>g6 (by rwa [e 6 (by decide)] at h),λh h'=>g7 (by rwa [e 7 (by decide)] at h) (by rwa [e 8 (by decide)] at h'),λh=>(g8 (by rwa [e 8 (by decide)] at h)).imp (λq=>by first|rw[e 7 (by decide)];exact q) id⟩
  ·replace g3:=g3 (hdep ⟨3,.data⟩ (by simp) rfl);simp only[go_sem,zE,zB,zA,zM,zS,zL,reduceCtorEq,yX0,had,g3,hSl];exact⟨yKm had _,rfl,f1,f2,λh=>g0 (by rwa [e 0 (by decide)] at h),λh=>g1 (by rwa [e 1 (by decide)] at h),λh=>g2 (by rwa [e 2 (by decide)] at h),λ_=>g3,λ_=>rfl,by rw[e 5 (by decide)];exact g5,λh=>g6 (by rwa [e 6 (by decide)] at h),λh h'=>g7 (by rwa [e 7 (by decide)] at h) (by rwa [e 8 (by decide)] at h'),λh=>(g8 (by rwa [e 8 (by decide)] at h)).imp (λq=>by first|rw[e 7 (by decide)];exact q) id⟩
  ·replace g4:=g4 (hdep ⟨4,.data⟩ (by simp) rfl);simp only[go_sem,zE,zB,zA,zM,zS,zL,reduceCtorEq,yX0,had,g4];obtain rfl:st1=st:=by
    rcases g5 with⟨_,h⟩|⟨h,_⟩
    ·exact h
    ·rw[hfl] at h;cases h
   have hno:∀g o,st1 g=none->st1=st1.put g (some o)->False:=λg o h1 h2=>by
    have:=congrFun h2 g;rw[h1,ISt.put_same] at this;cases this
   refine yZ1 ⟨by omega,by omega,by omega⟩ λg=>yQ9 λhg=>?_;exact⟨yKm had _,rfl,f1,f2,λh=>g0 (by rwa [e 0 (by decide)] at h),λh=>g1 (by rwa [e 1 (by decide)] at h),λh=>g2 (by rwa [e 2 (by decide)] at h),λh=>g3 (by rwa [e 3 (by decide)] at h),λ_=>g4,by rw[ei];exact .inr ⟨rfl,g,hg,rfl,rfl⟩,λh=>by rw[e 6 (by decide)] at h;obtain⟨_,_,g',_,h1,h2,_⟩:=g6 h;exact (hno _ _ h1 h2).elim,λh h'=>g7 (by rwa [e 7 (by decide)] at h) (by rwa [e 8 (by decide)] at h'),λh=>by rw[e 8 (by decide)] at h;obtain⟨_,_,_,g',_,h1,h2,_⟩:=g8 h;exact (hno _ _ h1 h2).elim⟩
  ·replace g0:=g0 (hdep ⟨0,.data⟩ (by simp) rfl);obtain⟨ta,l,k2,hP⟩:=g2 (hdep ⟨2,.data⟩ (by simp) rfl);have k5:=hdep ⟨5,.data⟩ (by simp) rfl;obtain⟨g,hg,rfl,k17⟩:∃g,st g=none/\st1=st.put g (some (.box (List.replicate S.length (.raw (.int .i64 0)))))/\fr 17=.iv (slG g S.length):=by
    rcases g5 with⟨h,_⟩|⟨_,h⟩
    ·rw[k5] at h;cases h
    ·exact h
   simp only[go_sem,zE,zB,zA,zM,zS,zL,reduceCtorEq,yX0,had,g0,k2,k17,fits,IV.one];exact⟨yKm had _,rfl,f1,f2,λ_=>g0,λh=>g1 (by rwa [e 1 (by decide)] at h),λ_=>⟨ta,l,k2,hP⟩,λh=>g3 (by rwa [e 3 (by decide)] at h),λh=>g4 (by rwa [e 4 (by decide)] at h),by rw[e 5 (by decide)];exact g5,λ_=>⟨ta,l,g,hP,hg,rfl,rfl⟩,λh h'=>g7 (by rwa [e 7 (by decide)] at h) (by rwa [e 8 (by decide)] at h'),λh=>(g8 (by rwa [e 8 (by decide)] at h)).imp (λq=>by first|rw[e 7 (by decide)];exact q) id⟩
  ·simp only[go_sem,zE,zB,zA,zM,zS,zL,reduceCtorEq,yX0,had];exact⟨yKm had _,rfl,f1,f2,λh=>g0 (by rwa [e 0 (by decide)] at h),λh=>g1 (by rwa [e 1 (by decide)] at h),λh=>g2 (by rwa [e 2 (by decide)] at h),λh=>g3 (by rwa [e 3 (by decide)] at h),λh=>g4 (by rwa [e 4 (by decide)] at h),by rw[e 5 (by decide)];exact g5,λh=>g6 (by rwa [e 6 (by decide)] at h),λ_ _=>rfl,λh=>by rw[e 8 (by decide)] at h;rw[hfl] at g8;cases (g8 h).1⟩
  ·obtain⟨ta,l,g,hP,hg,rfl,k18⟩:=g6 (hdep ⟨6,.data⟩ (by simp) rfl);have k5:=g7 (hdep ⟨7,.data⟩ (by simp) rfl) hfl;simp only[go_sem,zE,zB,zA,zM,zS,zL,reduceCtorEq,yX0,had,k18,k5,fits,IV.one];exact⟨had,rfl,f1,f2,λh=>g0 (by rwa [e 0 (by decide)] at h),λh=>g1 (by rwa [e 1 (by decide)] at h),λh=>g2 (by rwa [e 2 (by decide)] at h),λh=>g3 (by rwa [e 3 (by decide)] at h),λh=>g4 (by rwa [e 4 (by decide)] at h),by rw[e 5 (by decide)];exact g5,λh=>⟨ta,l,g,hP,hg,rfl,k18⟩,(λ_ h'=>by rw[ei] at h';cases h'),λ_=>⟨by rw[e 7 (by decide)];exact hdep ⟨7,.data⟩ (by simp) rfl,ta,l,g,hP,hg,rfl,rfl⟩⟩
 ·intro listed ad fr st1 ds hz hr hJ;have hl:=zUz (by decide) hz hr;obtain⟨had,rfl,f1,f2,g0,g1,g2,g3,g4,g5,g6,g7,g8⟩:=hJ;obtain⟨_,ta,l,g,⟨hta,hnd,hat⟩,hg,rfl,f5⟩:=g8 (hl 8 (by decide));have hnW:=hN l hnd hat;have hn12:l.length<=12:=Nat.le_trans (Nat.le_mul_of_pos_right _ h0) hnW;have hpw:2 ^ (l.length*S.length)<=4096:=Nat.le_trans (Nat.pow_le_pow_right (by decide) hnW) (by decide);have hw12':∀m:Nat,m<=12->IntKind.i64.wrap ((m:Nat):Int)=(m:Nat):=λm hm=>w64 (by omega) (by omega);have hmul:IntKind.i64.wrap ((l.length:Int)*(S.length:Int))=((l.length*S.length:Nat):Int):=by rw[<- Int.natCast_mul];exact hw12' _ hnW
  have hshlN:∀m,m<=12->IntKind.i64.wrap ((1:Int)*2 ^ (min m 64))=((2 ^ m:Nat):Int):=λm hm=>by
   have h1:2 ^ m<=4096:=Nat.le_trans (Nat.pow_le_pow_right (by decide) hm) (by decide);rw[Nat.min_eq_left (by omega),Int.one_mul,show (2:Int) ^ m=((2 ^ m:Nat):Int) by norm_cast];exact (λ(x:Nat) (hx:x<=4096)=>(w64 (by omega) (by omega):IntKind.i64.wrap ((x:Nat):Int)=(x:Int))) _ h1
  have hshl:=hshlN _ hnW;have hshl1:=hshlN _ hn12;have hp1:2 ^ l.length<=4096:=Nat.le_trans (Nat.pow_le_pow_right (by decide) hn12) (by decide);have hp2:0<2 ^ l.length:=Nat.two_pow_pos _;have hsub1:IntKind.i64.wrap (((2 ^ l.length:Nat):Int)-1)=((2 ^ l.length-1:Nat):Int):=by rw[w64 (by omega) (by omega)];omega
  have hz0:List.replicate S.length (IV.raw (.int .i64 0))=yQh (List.replicate S.length 0):=by simp[yQh]
  have hzn:((0:Int)<=((l.length*S.length:Nat):Int))=True:=eq_true (by omega);simp only[go_sem,zE,zB,zA,zM,zS,zL,reduceCtorEq,f1,f2,f5,yXz];intro _;refine LoopC.ctr (2 ^ (l.length*S.length)) (λk fr st' ds=>(∃cs:List Nat,cs.length=S.length/\st'=st.put g (some (.box (yQh cs))))/\(∀k',k'<k->wXc S l s k'=false)/\fr 1=.iv (.sl tS xS)/\fr 2=.box [.sl t1 x1,.sl t2 x2]/\fr 5=.box [.sl tS xS,.sl ta (nmsI l),slG g S.length]/\fr 6=.iv (.raw (.int .i64 (l.length:Int)))/\fr 7=.iv (.raw (.int .i64 (k:Int)))/\ds=[]) ?_ ?_ ?_
  ·simp only[go_sem,zE,zB,zA,zM,zS,zL,reduceCtorEq,f1,f2,f5];exact⟨⟨List.replicate S.length 0,List.length_replicate,by rw[hz0]⟩,nofun,rfl⟩
  ·rintro k fr st2 _ hlt ⟨⟨cs,hcl,rfl⟩,hno,f1,f2,f5,f6,f7,rfl⟩;have hk6:k<=1000000:=by omega
   simp only[go_sem,zE,zB,zA,zM,zS,zL,reduceCtorEq,f1,f2,f5,f6,f7,hSl,hmul,hshl,hzn,Int.toNat_natCast,lt_i hlt];intro _;refine LoopC.ctr S.length (λw fr st' ds=>(∃cs:List Nat,cs.length=S.length/\cs.take w=(mskA l.length S.length k).take w/\st'=st.put g (some (.box (yQh cs))))/\fr 1=.iv (.sl tS xS)/\fr 2=.box [.sl t1 x1,.sl t2 x2]/\fr 5=.box [.sl tS xS,.sl ta (nmsI l),slG g S.length]/\fr 6=.iv (.raw (.int .i64 (l.length:Int)))/\fr 7=.iv (.raw (.int .i64 (k:Int)))/\fr 8=.iv (.raw (.bool true))/\fr 9=.iv (.raw (.int .i64 (w:Int)))/\ds=[]) ?_ ?_ ?_
   ·simp only[go_sem,zE,zB,zA,zM,zS,zL,reduceCtorEq,f1,f2,f5,f6,f7];exact⟨⟨cs,hcl,rfl⟩,rfl⟩
   ·rintro w fr st2 _ hwl ⟨⟨cs,hcl,htk,rfl⟩,f1,f2,f5,f6,f7,f8,f9,rfl⟩;have hw12:l.length*w<=12:=Nat.le_trans (Nat.mul_le_mul_left _ (Nat.le_of_lt hwl)) hnW;have hmw:IntKind.i64.wrap ((l.length:Int)*(w:Int))=((l.length*w:Nat):Int):=by rw[<- Int.natCast_mul];exact hw12' _ hw12
    have hzw:((0:Int)<=((l.length*w:Nat):Int))=True:=eq_true (by omega);have hzl:((0:Int)<=(l.length:Int))=True:=eq_true (by omega);simp only[go_sem,zE,zB,zA,zM,zS,zL,reduceCtorEq,f1,f2,f5,f6,f7,f8,f9,hSl,hmw,hzw,hzl,Int.toNat_natCast,lt_i hwl,wUh _ _ hk6,hshl1,hsub1,ISt.put_same];intro _;rw[if_pos ⟨by omega,hwl⟩,if_pos (by rw[yQi];omega)];have hmb:k / 2 ^ (l.length*w)<=1000000:=Nat.le_trans (Nat.div_le_self ..) hk6;have hX:=congrArg (λz:Int=>IV.raw (.int .i64 z)) (vXr (k / 2 ^ (l.length*w)) (2 ^ l.length-1) hmb (by omega));rw[Nat.and_two_pow_sub_one_eq_mod] at hX;refine⟨⟨cs.set w (k / 2 ^ (l.length*w)%2 ^ l.length),by rw[List.length_set,hcl],?_,?_⟩,?_⟩
    ·rw[yQ7 (x:=k / 2 ^ (l.length*w)%2 ^ l.length) (by rw[List.getElem?_set_self (by omega)]),yQ7 (wVz hwl),<- htk,List.take_set_of_le (Nat.le_refl _)]
    ·refine Eq.trans (congrArg (λz=>(st.put g (some (.box (yQh cs)))).put g (some (.box (List.take (w*1) (yQh cs)++[z]++List.drop (w*1+1) (yQh cs))))) hX) ?_;rw[yQ8,wUi (by rw[yQi];omega),zW0]
    ·rw[yQd hwl (by omega)]
   ·rintro fr st2 _ ⟨⟨cs,hcl,htk,rfl⟩,f1,f2,f5,f6,f7,f8,f9,rfl⟩;obtain rfl:cs=mskA l.length S.length k:=by
     have h1:cs.take S.length=cs:=by rw[<- hcl,lTl]
     have h2:(mskA l.length S.length k).take S.length=mskA l.length S.length k:=List.take_of_length_le (by rw[xYp];exact Nat.le_refl _);rw[<- h1,htk,h2]
    simp only[go_sem,zE,zB,zA,zM,zS,zL,reduceCtorEq,f1,f2,f5,f6,f7,f8,f9,hSl,yQm (nLi _)];intro _;generalize hms:mskA l.length S.length k=ms;have hml:ms.length=S.length:=by rw[<- hms,xYp]
    have hmb:∀m∈ms,m<=1000000:=by rw[<- hms];exact xYq hn12
    refine LoopC.ctr S.length (λw fr st' ds=>(∃b:Bool,fr 8=.iv (.raw (.bool b))/\b=(List.range w).all λw=>((S[w]?).getD []).all λu=>decide (anZ ((ms[w]?).getD 0) ((ms[u]?).getD 0)=0))/\st'=st.put g (some (.box (yQh ms)))/\fr 1=.iv (.sl tS xS)/\fr 2=.box [.sl t1 x1,.sl t2 x2]/\fr 5=.box [.sl tS xS,.sl ta (nmsI l),slG g S.length]/\fr 6=.iv (.raw (.int .i64 (l.length:Int)))/\fr 7=.iv (.raw (.int .i64 (k:Int)))/\fr 10=.iv (.raw (.int .i64 (w:Int)))/\ds=[]) ?_ ?_ ?_
    ·simp only[go_sem,zE,zB,zA,zM,zS,zL,reduceCtorEq,f1,f2,f5,f6,f7,f8];simp
    ·rintro w fr st2 _ hwl ⟨⟨b,f8,hb⟩,rfl,f1,f2,f5,f6,f7,f10,rfl⟩;obtain⟨row,hrow⟩:=yQ2 hwl;obtain⟨xr,hxr,tr,rfl,htr⟩:=hxS.2 w row hrow;have hro:=hS.2 row (lMg hrow);obtain⟨mw,hmw⟩:=yQ2 (l:=ms) (k:=w) (by omega);simp only[go_sem,zE,zB,zA,zM,zS,zL,reduceCtorEq,f1,f2,f5,f6,f7,f8,f10,hSl,lt_i hwl];intro _;refine LoopC.ctr row.length (λi fr st' ds=>(∃b':Bool,fr 8=.iv (.raw (.bool b'))/\b'=(b&&(row.take i).all λu=>decide (anZ ((ms[w]?).getD 0) ((ms[u]?).getD 0)=0)))/\st'=st.put g (some (.box (yQh ms)))/\fr 1=.iv (.sl tS xS)/\fr 2=.box [.sl t1 x1,.sl t2 x2]/\fr 5=.box [.sl tS xS,.sl ta (nmsI l),slG g S.length]/\fr 6=.iv (.raw (.int .i64 (l.length:Int)))/\fr 7=.iv (.raw (.int .i64 (k:Int)))/\fr 10=.iv (.raw (.int .i64 (w:Int)))/\fr 11=.iv (.raw (.int .i64 (i:Int)))/\ds=[]) ?_ ?_ ?_
     ·simp only[go_sem,zE,zB,zA,zM,zS,zL,reduceCtorEq,f1,f2,f5,f6,f7,f8,f10];simp
     ·rintro i fr st2 _ hil ⟨⟨b',f8,hb'⟩,rfl,f1,f2,f5,f6,f7,f10,f11,rfl⟩;obtain⟨u,hu⟩:=yQ2 hil;have hul:=hro.2 u (lMg hu);obtain⟨mu,hmu⟩:=yQ2 (l:=ms) (k:=u) (by omega);cases b'
      ·simp only[go_sem,zE,zB,zA,zM,zS,zL,reduceCtorEq,f1,f2,f5,f6,f7,f8,f10,f11,yQ3 htS,hxr,iNn,yQi,lt_i hil,yQd hil (show row.length<=281474976710656 by omega)];intro _;exact⟨_,rfl,by rw[yQ7 hu,List.all_append,<- Bool.and_assoc,<- hb'];rfl⟩
      ·simp only[go_sem,zE,zB,zA,zM,zS,zL,reduceCtorEq,f1,f2,f5,f6,f7,f8,f10,f11,yQ3 htS,hxr,iNn,yQi,lt_i hil,yQ3 htr,yZc hu,IV.one,ISt.put_same,Nat.mul_one,hwl,hul,yZc hmw,yZc hmu,yQd hil (show row.length<=281474976710656 by omega)];intro _;refine⟨_,rfl,?_⟩;rw[yQ7 hu,List.all_append,<- Bool.and_assoc,<- hb',Bool.true_and,List.all_cons,List.all_nil,Bool.and_true,hmw,hmu];rfl
     ·rintro fr st2 _ ⟨⟨b',f8,hb'⟩,rfl,f1,f2,f5,f6,f7,f10,f11,rfl⟩;rw[lTl] at hb';simp only[go_sem,zE,zB,zA,zM,zS,zL,reduceCtorEq,f1,f2,f5,f6,f7,f8,f10,f11,yQ3 htS,hxr,iNn,yQi,yQm (nLi _),yQd hwl (show S.length<=281474976710656 by omega)];intro _;exact⟨_,rfl,by rw[List.all_append,<- hb,hb'];simp[hrow]⟩
    ·rintro fr st2 _ ⟨⟨b,f8,hb⟩,rfl,f1,f2,f5,f6,f7,f10,rfl⟩;simp only[go_sem,zE,zB,zA,zM,zS,zL,reduceCtorEq,f1,f2,f5,f6,f7,f8,f10,hSl,yQm (nLi _)];intro _;have hsty:xJz S ms=b:=hb.symm;cases b
     ·simp only[go_sem,zE,zB,zA,zM,zS,zL,reduceCtorEq,f1,f2,f5,f6,f7,f8,yQd hlt (show 2 ^ (l.length*S.length)<=281474976710656 by omega)];refine⟨⟨ms,hml,rfl⟩,λk' hk'=>?_⟩;rcases Nat.lt_or_ge k' k with h|h
      ·exact hno k' h
      ·obtain rfl:k'=k:=by omega
       unfold wXc;rw[hms,hsty];rfl
     ·have hOI:OI (st.put g (some (.box (yQh ms)))) (.agg [.sl tS xS,.sl ta (nmsI l),slG g S.length]) (.agg [.sl tS xS,.sl ta (nmsI l),.sl ⟨true,.app g,1⟩ (yQh ms)]):=by
       refine .agg _ _ rfl λi r c hr hc=>?_
       match i,hr,hc with
       | 0,hr,hc=>cases hr;cases hc;exact .refl _
       | 1,hr,hc=>cases hr;cases hc;exact .refl _
       | 2,hr,hc =>
        cases hr;cases hc;have hl':(yQh ms).length=S.length:=by rw[yQi,hml]
        rw[show slG g S.length=IV.raw (.slice (some ⟨g,0,none⟩) (yQh ms).length S.length) by rw[hl']];exact .sl g S.length _ _ (yQh ms) rfl (by omega) (by omega) (λx hx=>by obtain⟨n,_,rfl⟩:=List.mem_map.1 hx;rfl) (ISt.put_same ..) (by rw[hl'];simp) (λi r c h1 h2=>by rw[xY8,h1] at h2;cases h2;exact .refl _)
       | i+3,hr,hc=>simp at hr
      have hRf:=ICall.lent (P:=prog) (gl:=gl) (f:=49) (st:=st.put g (some (.box (yQh ms)))) (K:=λr=>r=.raw (.bool (refB S l ms s))) (args:=[.agg [.sl tS xS,.sl ta (nmsI l),slG g S.length],.agg [.sl t1 x1,.sl t2 x2]])
       (λb o hb=>by
        rw[ISt.put_apply] at hb;split at hb
        ·cases hb;exact .inl ⟨_,rfl⟩
        ·rw[hst] at hb;cases hb) ⟨_,_,rfl,.inr ⟨_,hOI,rfl⟩,_,_,rfl,.inl rfl,rfl⟩
       (by
        rw[show age (.agg [.sl tS xS,.sl ta (nmsI l),.sl ⟨true,.app g,1⟩ (yQh ms)])=wdI ⟨false,tS.cap,tS.es⟩ (ages xS) ⟨false,ta.cap,ta.es⟩ ⟨false,.app g,1⟩ l ms by simp only[age,ages,xYl,zG3,wdI]];exact (xY5 gl S hS _ _ (yWx htS) (xV1 hxS) _ _ (yWx hta) (.inr rfl) l hnd (by omega) ms hml hmb s _ hx0 hpf h0 _).mono λr st' ⟨h1,h2⟩=>⟨h2,by rw[h1];trivial,h1⟩)
      simp only[go_sem,zE,zB,zA,zM,zS,zL,reduceCtorEq,f1,f2,f5,f6,f7,f8,fits];refine hRf.mono ?_;rintro _ _ ⟨rfl,rfl⟩;cases hrf:refB S l ms s
      ·simp only[go_sem,zE,zB,zA,zM,zS,zL,reduceCtorEq,f1,f2,f5,f6,f7,f8,fits,yQd hlt (show 2 ^ (l.length*S.length)<=281474976710656 by omega)];refine⟨⟨ms,hml,rfl⟩,λk' hk'=>?_⟩;rcases Nat.lt_or_ge k' k with h|h
       ·exact hno k' h
       ·obtain rfl:k'=k:=by omega
        unfold wXc;rw[hms,hrf,Bool.and_false]
      ·simp only[go_sem,zE,zB,zA,zM,zS,zL,reduceCtorEq,f1,f2,f5,f6,f7,f8,fits];refine yQs (λb o hb=>by rw[hst] at hb;cases hb) ⟨⟨l,hnd,hat,?_⟩,rfl⟩;have:cntB S l s=true:=List.any_eq_true.2 ⟨k,List.mem_range.2 hlt,by rw[hms,hsty,hrf];rfl⟩;rw[this]
  ·rintro fr st2 _ ⟨⟨cs,hcl,rfl⟩,hno,f1,f2,f5,f6,f7,rfl⟩;simp only[go_sem,zE,zB,zA,zM,zS,zL,reduceCtorEq,f1,f2,f5,f6,f7,hSl,hmul,hshl,hzn,Int.toNat_natCast,yQm (nLi _)];intro _;refine yQs (λb o hb=>by rw[hst] at hb;cases hb) ⟨⟨l,hnd,hat,?_⟩,rfl⟩;have:cntB S l s=false:=List.any_eq_false.2 λk hk=>by
    have:=hno k (List.mem_range.1 hk);unfold wXc at this;rw[this];decide
   rw[this]
 ·exact⟨λ_=>rfl,rfl,rfl,rfl,(λh=>nomatch h),(λh=>nomatch h),(λh=>nomatch h),(λh=>nomatch h),(λh=>nomatch h),.inl ⟨rfl,rfl⟩,(λh=>nomatch h),(λh=>nomatch h),(λh=>nomatch h)⟩
end Go.Proofs.Tryz
namespace Go.Proofs.Tryz
open Go Go.Iv
set_option maxRecDepth 8000
variable (gl:Nat->Option IV)
def wZa (S:List (List Nat)):List IV:=S.map λr=>.sl ⟨true,.full,1⟩ (yQh r)
theorem wZ9 (S:List (List Nat)):AllR xVs S (wZa S):=⟨List.length_map _,λi r hr=>⟨_,by unfold wZa;rw[List.getElem?_map,hr];rfl,_,rfl,.inr rfl⟩⟩
theorem FewS.names {ca:Nat}{s:Sq}{k:Nat}(h:FewS ca s k){l:List ByteArray}(hnd:l.Nodup)(hat:∀n,n∈l↔atB (s.l++s.r) n):l.length<=k:=by
 obtain⟨_,_,_,l0,h1,h2,h3⟩:=h;have:=yGo l l0 hnd λn hn=>(h2 n).2 ((hat n).1 hn);omega
theorem wKk (s:Sq)(x:IV)(hx:IsSq s x)(ca k:Nat)(hfew:FewS ca s k)(hk:k<=4)(S:List (List Nat))(hS:xJr S)(h0:0<S.length)(hkS:k*S.length<=12)(xS:IV)(hxS:xS=.sl ⟨true,.full,1⟩ (wZa S))(st:ISt)(hst:∀b,st b=none) :
  ICall prog gl 21 [x,xS] st (λr st'=>(∃l:List ByteArray,l.Nodup/\(∀n,n∈l↔atB (s.l++s.r) n)/\l.length<=12/\r=.raw (.bool (cntB S l s)))/\st'=st):=by
 subst hxS;have hc3:ca≠3:=by have:=hfew.1;omega
 refine (xQx gl s x hx (λf hf=>zYk hc3 (yG9 hfew.2.2.1 f hf)) hfew.w S hS h0 ⟨true,.full,1⟩ (wZa S) (.inr rfl) (wZ9 S) (λl h1 h2=>Nat.le_trans (Nat.mul_le_mul_right _ (hfew.names h1 h2)) hkS) st hst).mono ?_;rintro r st' ⟨⟨l,h1,h2,h3⟩,h4⟩;have:=hfew.names h1 h2;exact⟨⟨l,h1,h2,by omega,h3⟩,h4⟩
set_option maxHeartbeats 4000000 in
theorem zJ6 (G:Gl gl)(T:Gt gl)(b:Bool)(s:Sq)(x:IV)(hx:IsSq s x)(hw:wFms s.l<=1099511627776/\wFms s.r<=1099511627776)(st:ISt)(hst:∀b,st b=none) :
  ICall prog gl 4 [.raw (.bool b),x] st (λr st'=>r=.raw (.bool true)/\st'=st):=by
 have hA:=λst=>wXb gl G T st;have hx0:=hx;obtain⟨t1,x1,t2,x2,rfl,e1,i1,e2,i2⟩:=hx;have d0:decide (((0:Nat):Int)=0)=true:=rfl;cases b
 ·have hFw:=λst=>wJo gl G 1 s _ hx0 hw ((4:Nat):Int) st;refine iI func4 ?_;simp only[go_sem,zE,zB,zA,zM,zS,zL,reduceCtorEq,fits];refine (hA _).mono ?_;rintro _ st ⟨rfl,rfl⟩;simp only[go_sem,zE,zB,zA,zM,zS,zL,reduceCtorEq,fits];refine (hFw _).mono ?_;rintro _ st ⟨⟨p,rfl,hp⟩,rfl⟩;cases p
  ·simp only[go_sem,zE,zB,zA,zM,zS,zL,reduceCtorEq,fits];exact yQ0 ⟨rfl,rfl⟩
  have hfew:=hp rfl;have hL:=λst=>xGf gl G T 1 s _ hx0 (zWi hfew.w) st;have hC:=λxS hxS=>wKk gl s _ hx0 1 4 hfew (by decide) [[0]] ⟨by decide,by decide⟩ (by decide) (by decide) xS hxS st hst;simp only[go_sem,zE,zB,zA,zM,zS,zL,reduceCtorEq,fits];refine (hL _).mono ?_;rintro _ st ⟨⟨h,e,rfl,hh⟩,rfl⟩;rcases hh with⟨he,rfl,_⟩|⟨rfl,rfl⟩
  ·simp only[go_sem,zE,zB,zA,zM,zS,zL,reduceCtorEq,fits,dEf (show ¬ (e:Int)=0 by omega)];exact yQ0 ⟨rfl,rfl⟩
  ·simp only[go_sem,zE,zB,zA,zM,zS,zL,reduceCtorEq,fits,d0,decide_true,yQ1];refine (hC _ rfl).mono ?_;rintro _ _ ⟨⟨l,hnd,hat,hl,rfl⟩,rfl⟩;have hlaw:=xUm hfew.2.2.1 hnd hat hl;rw[show calJ 1=false from rfl];cases hcb:cntB [[0]] l s
   ·have hpos:=hlaw.2 hcb;simp only[go_sem,zE,zB,zA,zM,zS,zL,reduceCtorEq,fits,dEt (show ((hF false (s.l,s.r):Nat):Int) > 0 by omega)];exact yQ0 ⟨rfl,rfl⟩
   ·have hpos:¬ 0<hF false (s.l,s.r):=λh=>by rw[hlaw.1 h] at hcb;cases hcb
    simp only[go_sem,zE,zB,zA,zM,zS,zL,reduceCtorEq,fits,dEf (show ¬ ((hF false (s.l,s.r):Nat):Int) > 0 by omega)];exact yQ0 ⟨rfl,rfl⟩
 ·have hFw:=λst=>wJo gl G 2 s _ hx0 hw ((3:Nat):Int) st;refine iI func4 ?_;simp only[go_sem,zE,zB,zA,zM,zS,zL,reduceCtorEq,fits];refine (hA _).mono ?_;rintro _ st ⟨rfl,rfl⟩;simp only[go_sem,zE,zB,zA,zM,zS,zL,reduceCtorEq,fits];refine (hFw _).mono ?_;rintro _ st ⟨⟨p,rfl,hp⟩,rfl⟩;cases p
  ·simp only[go_sem,zE,zB,zA,zM,zS,zL,reduceCtorEq,fits];exact yQ0 ⟨rfl,rfl⟩
  have hfew:=hp rfl;have hL:=λst=>xGf gl G T 2 s _ hx0 (zWi hfew.w) st;have hC:=λS hS h1 h2 h3 xS hxS=>wKk gl s _ hx0 2 3 hfew (by decide) S ⟨hS,h1⟩ h2 h3 xS hxS st hst;simp only[go_sem,zE,zB,zA,zM,zS,zL,reduceCtorEq,fits];refine (hL _).mono ?_;rintro _ st ⟨⟨h,e,rfl,hh⟩,rfl⟩;rcases hh with⟨he,rfl,_⟩|⟨rfl,rfl⟩
  ·simp only[go_sem,zE,zB,zA,zM,zS,zL,reduceCtorEq,fits,dEf (show ¬ (e:Int)=0 by omega),d0,decide_true];exact yQ0 ⟨rfl,rfl⟩
  ·have hj:=λh l hl S hS=>xUn hfew.2.2.1 h (l:=l) hl (S:=S) hS;rw[show calJ 2=true from rfl];by_cases hz:hF true (s.l,s.r)=0
   ·rw[hz];simp only[go_sem,zE,zB,zA,zM,zS,zL,reduceCtorEq,fits,d0,decide_true];exact yQ0 ⟨rfl,rfl⟩
   have hpos:0<hF true (s.l,s.r):=Nat.pos_of_ne_zero hz;simp only[go_sem,zE,zB,zA,zM,zS,zL,reduceCtorEq,fits,d0,decide_true,dEf (show ¬ ((hF true (s.l,s.r):Nat):Int)=0 by omega),yQ1];refine (hC [[0]] (by decide) (by decide) (by decide) (by decide) _ rfl).mono ?_;rintro _ _ ⟨⟨l,hnd,hat,hl,rfl⟩,rfl⟩;rw[hj hpos l hl [[0]] (by decide)];simp only[go_sem,zE,zB,zA,zM,zS,zL,reduceCtorEq,fits,yQ1,yQf];refine (hC [[0,1],[1]] (by decide) (by decide) (by decide) (by decide) _ rfl).mono ?_;rintro _ _ ⟨⟨l,hnd,hat,hl,rfl⟩,rfl⟩;rw[hj hpos l hl [[0,1],[1]] (by decide)];simp only[go_sem,zE,zB,zA,zM,zS,zL,reduceCtorEq,fits,yQ1,yQf,yZ8];refine (hC [[0,1,2],[1,2],[2]] (by decide) (by decide) (by decide) (by decide) _ rfl).mono ?_;rintro _ _ ⟨⟨l,hnd,hat,hl,rfl⟩,rfl⟩;rw[hj hpos l hl [[0,1,2],[1,2],[2]] (by decide)];simp only[go_sem,zE,zB,zA,zM,zS,zL,reduceCtorEq,fits,yQ1,yQf,yZ8];refine (hC [[0,1,2],[1],[2]] (by decide) (by decide) (by decide) (by decide) _ rfl).mono ?_;rintro _ _ ⟨⟨l,hnd,hat,hl,rfl⟩,rfl⟩;rw[hj hpos l hl [[0,1,2],[1],[2]] (by decide)];simp only[go_sem,zE,zB,zA,zM,zS,zL,reduceCtorEq,fits];exact yQ0 ⟨rfl,rfl⟩
end Go.Proofs.Tryz
namespace Go.Proofs.Tryz
open Go Go.Iv
set_option maxRecDepth 4000
variable (gl:Nat->Option IV)
section
variable {b2 b3 b4:Nat}{fy a:IV}
end
section
variable {gl}{y:IV}{I:Nat->ISt->Prop}{S:ISt->Prop}{k0:Nat}
end
section
variable {b2 b3 b4:Nat}{fy a a':IV}{p:List Nat}{s:ISt}{g:Nat}
end
end Go.Proofs.Tryz
namespace Go.Proofs.Tryz
open Go Go.Iv
end Go.Proofs.Tryz
namespace Go.Proofs.Tryz
open Go Go.Iv Go.ChangeShapes
open Go.Proofs.YtclkffdkahljeaaGreatDoor.Rows (uptoBulk uptoBulkAll)
set_option maxRecDepth 4000
theorem uSeq:prog.underlying 24=some (.struct #[⟨ "Left",22,0,false, "", "",0⟩,⟨ "Right",22,1,false, "", "",24⟩]):=by kernel_rfl
theorem nSeq:prog.cellsOf 24=2:=by kernel_rfl
mutual
theorem wQq:∀t:Tm,wTm t<=2*xVi t
 | .mk _ n us=>by have:=zZb us;simp only[wTm,xVi];omega
theorem zZb:∀l:List Tm,wTms l<=2*yYp l
 | []=>Nat.le_refl _
 | a::l=>by have:=wQq a;have:=zZb l;simp only[wTms,yYp];omega
end
mutual
theorem wQs:∀f:Fm,wFm f<=2*xVj f
 | .mk _ n us sub=>by have:=zZb us;have:=yG5 sub;simp only[wFm,xVj];omega
theorem yG5:∀l:List Fm,wFms l<=2*yU5 l
 | []=>Nat.le_refl _
 | a::l=>by have:=wQs a;have:=yG5 l;simp only[wFms,yU5];omega
end
section
variable {H:Type}{enc:TypeId×Value->H}{w:World}{spare:Nat->Bool}{held:Bool}
def RQ (d:DataW H)(s:Sq)(x:IV):Prop:=IsSq s x/\wFms s.l+wFms s.r<=2*uptoBulk d
theorem wUk (fuel:Nat)(cs:List Value)(y:DataW H×List MemPlace)(h:DataW.trod enc prog w 0 spare held fuel 24 cs=some y)(hb:uptoBulk y.1<=1048576):∃s x,VL 0 (L0 w) w cs x.cells/\RQ y.1 s x:=by
 obtain⟨ys,n,rfl,rfl,hl,hlen,hf⟩:=DataW.trod_struct uSeq h
 match ys,hlen with
 | [y0,y1],_ =>
  rw[nSeq] at hl
  match cs,hl with
  | [c0,c1],_ =>
   have h0:=hf 0 _ rfl;have h1:=hf 1 _ rfl;simp only[List.getElem?_cons_zero,List.getElem?_cons_succ] at h0 h1;simp only[List.map_cons,List.map_nil,uptoBulk,uptoBulkAll] at hb;obtain⟨v0,tg0,xs0,l0,e0,hv0,ht0,hl0,hb0⟩:=zWc h0 (by omega) (λm _=>xU8 m);obtain⟨v1,tg1,xs1,l1,e1,hv1,ht1,hl1,hb1⟩:=zWc h1 (by omega) (λm _=>xU8 m);cases e0;cases e1;refine⟨⟨l0,l1⟩,.agg [.sl tg0 xs0,.sl tg1 xs1],VL.cons hv0 (VL.cons hv1 VL.nil),⟨tg0,xs0,tg1,xs1,rfl,ht0,hl0,ht1,hl1⟩,?_⟩;have:=yG5 l0;have:=yG5 l1;simp only[List.map_cons,List.map_nil,uptoBulk,uptoBulkAll];omega
end
end Go.Proofs.Tryz
namespace Go.Proofs.Tryz
open Go Go.Iv Go.ChangeShapes Go.RowKit
open Go.Proofs.YtclkffdkahljeaaGreatDoor
set_option maxRecDepth 8000
theorem uRow:prog.underlying 239=some (.struct #[⟨ "right",4,0,false, "", "lyceum/syntax",0⟩,⟨ "schema",4,1,false, "", "lyceum/syntax",1⟩,⟨ "name",5,2,false, "", "lyceum/syntax",2⟩,⟨ "args",3,3,false, "", "lyceum/syntax",8⟩,⟨ "subs",3,4,false, "", "lyceum/syntax",16⟩]):=by kernel_rfl
theorem vYe:prog.underlying 240=some (.array 17 239):=by kernel_rfl
theorem uInt:prog.underlying 3=some (.int .i64):=by kernel_rfl
theorem nRow:prog.cellsOf 239=5:=by kernel_rfl
theorem uQp:prog.cellsOf 240=85:=by kernel_rfl
theorem gRows:prog.globalNamed "lyceum/syntax.rows" = some 0:=by kernel_rfl
theorem gRowsT:(prog.globals[0]?).map (·.type)=some 240:=by kernel_rfl
theorem gPow:prog.globalNamed "internal/strconv.uint64pow10" = some 2:=by kernel_rfl
theorem gPowT:(prog.globals[2]?).map (·.type)=some 347:=by kernel_rfl
theorem uPow:prog.underlying 347=some (.array 20 264):=by kernel_rfl
theorem uU64:prog.underlying 264=some (.int .u64):=by kernel_rfl
theorem nPow:prog.cellsOf 347=20:=by kernel_rfl
theorem nU64:prog.cellsOf 264=1:=by kernel_rfl
section
variable {H:Type}{enc:TypeId×Value->H}{w:World}{spare:Nat->Bool}{held:Bool}
def rowD (op:Nat):DataW H:=.agg [.lit (.bool (yZ6 op)),.lit (.bool (zZt op)),.lit (.int .u8 (yX5 op)),.lit (.int .i64 (yX2 op)),.lit (.int .i64 (yX1 op))]
def rowV (op:Nat):List Value:=[.bool (yZ6 op),.bool (zZt op),.int .u8 (yX5 op),.int .i64 (yX2 op),.int .i64 (yX1 op)]
theorem xY1 {fuel:Nat}{cs:List Value}{op:Nat}{p:List MemPlace}(h:DataW.trod enc prog w 0 spare held fuel 239 cs=some (rowD op,p)):cs=rowV op:=by
 obtain⟨ys,n,rfl,he,hl,hlen,hf⟩:=DataW.trod_struct uRow h
 match ys,hlen with
 | [y0,y1,y2,y3,y4],_ =>
  rw[nRow] at hl
  match cs,hl with
  | [c0,c1,c2,c3,c4],_ =>
   have h0:=hf 0 _ rfl;have h1:=hf 1 _ rfl;have h2:=hf 2 _ rfl;have h3:=hf 3 _ rfl;have h4:=hf 4 _ rfl;simp only[List.getElem?_cons_zero,List.getElem?_cons_succ] at h0 h1 h2 h3 h4;obtain⟨b0,e0,rfl⟩:=DataW.trod_bool xJw h0;obtain⟨b1,e1,rfl⟩:=DataW.trod_bool xJw h1;obtain⟨b2,e2,rfl,_⟩:=DataW.trod_int uU8 h2;obtain⟨b3,e3,rfl,_⟩:=DataW.trod_int uInt h3;obtain⟨b4,e4,rfl,_⟩:=DataW.trod_int uInt h4;cases e0;cases e1;cases e2;cases e3;cases e4;have he1:=congrArg Prod.fst he;simp only[rowD,List.map_cons,List.map_nil,DataW.agg.injEq,List.cons.injEq,DataW.lit.injEq,Lit.bool.injEq,Lit.int.injEq,true_and,and_true] at he1;obtain⟨rfl,rfl,rfl,rfl,rfl⟩:=he1;rfl
theorem xY0:(Rows.laid_lyceum_syntax_rows:DataW H)=.agg ((List.range 17).map rowD):=by rfl
theorem xKd {fuel:Nat}{cs:List Value}{p:List MemPlace}(h:DataW.trod enc prog w 0 spare held fuel 240 cs=some (Rows.laid_lyceum_syntax_rows,p)) :
  cs.length=85/\∀op,op<17->(cs.drop (op*5)).take 5=rowV op:=by
 obtain⟨ys,n,rfl,he,hl,hlen,hf⟩:=DataW.trod_array vYe h;rw[uQp] at hl;refine⟨hl,λop hop=>?_⟩;have h1:=hf op hop;rw[nRow] at h1;have he1:=congrArg Prod.fst he;rw[xY0] at he1;simp only[DataW.agg.injEq] at he1;have h2:(ys.map (·.1))[op]?=some (rowD op):=by
  rw[<- he1,List.getElem?_map,List.getElem?_range hop];rfl
 rw[List.getElem?_map] at h2;obtain⟨y,hy,hy2⟩:=Option.map_eq_some_iff.1 h2;rw[hy] at h1;obtain⟨y1,y2⟩:=y;simp only at hy2;subst hy2;exact xY1 h1
end
def gl0:Nat->Option IV
 | 0=>some (.agg rowsL)
 | 2=>some (.agg pow10L)
 | _=>none
theorem G0:Gl gl0:=⟨rfl⟩
theorem T0:Gt gl0:=⟨rfl⟩
def X0 (w:World):WS:={ w:=w,L:=L0 w,st:=λ_=>none,d:=0 }
theorem zUy {cs:List Value}(hl:cs.length=85)(h:∀op,op<17->(cs.drop (op*5)).take 5=rowV op)(i:Nat)(r:Value)(c:IV)(hr:cs[i]?=some r)(hc:rowsL[i]?=some c):c=.raw r/\zVj r:=by
 have hi:i<85:=by have:=(lGs hr).1;omega
 have hop:i / 5<17:=by omega
 have e:i=i / 5*5+i%5:=by omega
 have hm:i%5<5:=Nat.mod_lt _ (by decide);have h1:(rowV (i / 5))[i%5]?=some r:=by
  rw[<- h _ hop,List.getElem?_take,if_pos hm,List.getElem?_drop,<- e];exact hr
 have h2:(rowI (i / 5))[i%5]?=some c:=by
  rw[<- (zJz _ hop).2,List.getElem?_take,if_pos hm,List.getElem?_drop,<- e];exact hc
 generalize i%5=k at h1 h2 hm
 match k,hm with
 | 0,_=>cases h1;cases h2;exact⟨rfl,trivial⟩
 | 1,_=>cases h1;cases h2;exact⟨rfl,trivial⟩
 | 2,_=>cases h1;cases h2;exact⟨rfl,trivial⟩
 | 3,_=>cases h1;cases h2;exact⟨rfl,trivial⟩
 | 4,_=>cases h1;cases h2;exact⟨rfl,trivial⟩
theorem uZj {W:World}(hL:laidMetH prog Rows.searchWrongUptoRow.laid W):Go.Iv.Good ⟨prog,gl0,0⟩ (X0 W):=by
 obtain⟨ps,hlv,_⟩:=(show laidMet prog _ W from hL)
 obtain⟨_,_,_,_,_,_,_,_,_,_,hlv,_⟩:=hlv;obtain⟨_,_,_,_,_,_,_,_,_,_,hlv,_⟩:=hlv;obtain⟨g1,t1,cs1,f1,p1,q1,hg1,ht1,hv1,hd1,hlv,_⟩:=hlv;obtain⟨g2,t2,cs2,f2,p2,q2,hg2,ht2,hv2,hd2,_,_⟩:=hlv;obtain rfl:=Option.some.inj (gPow.symm.trans hg1);obtain rfl:=Option.some.inj (gPowT.symm.trans ht1);obtain rfl:=Option.some.inj (gRows.symm.trans hg2);obtain rfl:=Option.some.inj (gRowsT.symm.trans ht2);have hc1:=Lib.cells_of_tab (zs:=Lib.pow10Tab) uPow uU64 nU64 nPow hd1;have hc2:=xKd hd2;have hb:∀(n:String) (g:Nat) (cs:Array Value),prog.globalNamed n=some g->W.var? prog n=some cs->∃T f,W.heap[g]?=some (.cells cs T f):=by
  intro n g cs hn hv;unfold World.var? at hv;rw[hn,Option.bind_some] at hv;split at hv
  ·rename_i c t f hh;cases hv;exact⟨_,_,hh⟩
  ·cases hv
 obtain⟨T1,fr1,hh1⟩:=hb _ _ _ gPow hv1;obtain⟨T2,fr2,hh2⟩:=hb _ _ _ gRows hv2;have row:∀(g:Nat) (cs:Array Value) (T:TypeId) (f:Nat×Nat) (xs:List IV),W.heap[g]?=some (.cells cs T f)->cs.size=xs.length->(∀(i:Nat) (r:Value) (c:IV),cs.toList[i]?=some r->xs[i]?=some c->c=.raw r/\zVj r) →
   V 0 (L0 W) W (.pointer (some ⟨g,0,none⟩)) (.cptr (.agg xs)):=by
  intro g cs T f xs hh hl h;refine .cptr _ _ cs.toList rfl (by simpa[IV.cells] using hl) ?_ (λi r hr=>?_) (λi r c hr hc=>?_)
  ·show 0+cs.toList.length<=L0 W g;simp[L0,hh]
  ·show W.cell? ⟨g,0+i,none⟩=some r;simp only[World.cell?,hh,Nat.zero_add];simpa using hr
  ·obtain⟨rfl,hk⟩:=h i r c hr hc;exact .raw _ hk
 have hp:∀(i:Nat) (r:Value) (c:IV),cs1.toList[i]?=some r->pow10L[i]?=some c->c=.raw r/\zVj r:=by
  intro i r c hr hc;rw[hc1,List.getElem?_map] at hr;unfold pow10L at hc;rw[List.getElem?_map] at hc;obtain⟨z,hz,rfl⟩:=Option.map_eq_some_iff.1 hr;rw[hz] at hc;cases hc;exact⟨rfl,trivial⟩
 have hs1:cs1.size=pow10L.length:=by
  rw[<- Array.length_toList,hc1];simp[pow10L]
 have hs2:cs2.size=rowsL.length:=by
  rw[<- Array.length_toList,hc2.1];rfl
 refine⟨λb o h=>(by cases h),λg x hx=>?_,Nat.zero_le _,λb hb=>?_,λg x hx=>?_,λ_=>Nat.zero_le _⟩
 ·match g,hx with
  | 0,hx=>cases hx;exact row 0 cs2 T2 fr2 _ hh2 hs2 (λi r c hr hc=>zUy hc2.1 hc2.2 i r c hr hc)
  | 2,hx=>cases hx;exact row 2 cs1 T1 fr1 _ hh1 hs1 hp
 ·show L0 W b=0;unfold L0;rw[Array.getElem?_eq_none (show W.heap.size<=b from hb)]
 ·match g,hx with
  | 0,hx=>cases hx;exact⟨T2,fr2 == (0,0),by show shq W 0=_;simp[shq,hh2,hs2,IV.cells]⟩
  | 2,hx=>cases hx;exact⟨T1,fr1 == (0,0),by show shq W 2=_;simp[shq,hh1,hs1,IV.cells]⟩
theorem zGt {W:World}{X':WS}(h:Ext (X0 W) X'):Below W.heap.size W X'.w :=
 ⟨h.os,h.tape,h.output,h.size,λk hk=>(h.keep k hk rfl).1⟩
theorem wW8:laidOutB prog=true:=by kernel_rfl
theorem yGa {H:Type}{enc:TypeId×Value->H}{W W':World}(hb:Below W.heap.size W W')(sp:Nat->Bool):∀ {ts:List TypeId} {vs:List Value} {ds:List (DataW H)} {ps:List MemPlace},
  (∀t∈ts,prog.readableRec t=true/\t<prog.types.size)->DataW.TrodAll enc prog W 0 (λ_=>true) true ts vs ds ps->(∀p∈ps,p.block<W.heap.size)->(∀p∈ps,sp p.block=true) →
  DataW.TrodAll enc prog W' 0 sp true ts vs ds ps
 | [],vs,ds,ps,_,h,_,_=>by
  obtain⟨rfl,rfl,rfl⟩:=trodAll_nil h;rfl
 | t::ts,vs,ds,ps,ht,h,hlt,hsp=>by
  obtain⟨v,vs1,d,ds1,a,b,rfl,rfl,rfl,h1,h2⟩:=trodAll_cons h;refine⟨a,b,WideElems.Trod_stays wW8 (ht t (by simp)).1 (ht t (by simp)).2 h1 (λp hp=>hb.same (hlt p (by simp[hp]))) (λp hp=>hsp p (by simp[hp])),?_,rfl⟩;exact yGa hb sp (λt h=>ht t (by simp[h])) h2 (λp hp=>hlt p (by simp[hp])) (λp hp=>hsp p (by simp[hp]))
theorem wX2 {H:Type}{enc:TypeId×Value->H}{f:Func}{s:ChangeSpec}{fid:FuncId}{W:World}{args:Array Value}{ds gs:List (DataW H)}{before:List MemPlace}{ivs:List IV}
  (hvars:s.vars=[]) (hW:DataW.Whole enc prog f.params.toList s.vars false W args.toList ds gs before) (hfn:s.fn H (ds++gs)={ results:=[.lit (.bool true)],args:=ds })
  (hres:f.resultTypes=#[4]) (hread:∀t∈f.params.toList,prog.readableRec t=true/\t<prog.types.size) (hg:Go.Iv.Good ⟨prog,gl0,0⟩ (X0 W)) (hv:VL 0 (L0 W) W args.toList ivs)
  (hc:ICall prog gl0 fid ivs (λ_=>none) (λr st'=>r=.raw (.bool true)/\st'=λ_=>none)) :
  Calls prog fid args W λe W'=>∃v,e=.returned v/\s.post enc prog f false true false false W args v W':=by
 refine (hc 0 (X0 W) args.toList hg rfl hv).mono ?_;rintro e W' ⟨v,rfl,X',x,rfl,hg',he,hx,rfl,_⟩;obtain rfl:=V.raw_inv hx;have hb:=zGt he;refine⟨_,rfl,?_⟩;have hW':=hW;obtain⟨p,q,hA,hV,rfl,hz,_⟩:=hW;rw[hvars] at hV;have hgs:gs=[]/\q=[]:=by
  cases gs with
  | nil=>exact⟨rfl,hV⟩
  | cons _ _=>exact absurd hV (by simp[DataW.TrodVars])
 obtain⟨rfl,rfl⟩:=hgs;have hlt:∀x∈p,x.block<W.heap.size:=λx hx=>by simpa using hW'.lt x (by simpa using hx)
 have hargs:∀sp:Nat->Bool,(∀x∈p,sp x.block=true)->DataW.TrodAll enc prog X'.w 0 sp true f.params.toList args.toList (s.fn H (ds++[])).args p:=λsp hsp=>by
  rw[hfn];exact yGa hb sp hread hA hlt hsp
 have hr:∀(b:Nat) (sp:Nat->Bool) (hd:Bool),DataW.TrodAll enc prog X'.w b sp hd f.resultTypes.toList ((Value.bool true).resultList f.resultTypes.size) (s.fn H (ds++[])).results []:=λ_ _ _=>by
  rw[hfn,hres];exact trodAll_cons_mk (shut_bool xJw _) trodAll_mk0
 have hvs:∀sp:Nat->Bool,DataW.TrodVars enc prog X'.w sp s.vars (s.fn H (ds++[])).vars []:=λ_=>by
  rw[hvars,hfn];rfl
 have hsz:∀x∈p,(λb=>decide (b<W.heap.size)) x.block=true:=λx hx=>by simpa using hlt x hx
 refine⟨ds,[],p++[],[],p,[],hW',hr _ _ _,hargs _ hsz,hvs _,World.keptBut_mono (λx hx=>⟨hx,Or.inr (by simpa using hx)⟩) (hb.frame (·∈p++[])),λ_=>⟨ok_one hres rfl (okWide_bool_mk xJw _),_,_,([]++p)++[],
  ⟨[]++p,[],trodAll_append (hargs _ (λ_ _=>rfl)) (hr _ _ _),hvs _,rfl,?_,λh=>by cases h⟩,λx hx _=>by simpa using hx⟩⟩
 intro b off hp;rw[hb.frozen (p:=⟨b,off,none⟩) (hlt (.cell b off) (by simpa using hp))];exact hz b off (by simpa using hp)
theorem wVh {W:World}{base:Nat}{v:Value}{s:Sq}{x:IV}(h:Value.okWide prog W .any base 24 v)(hx:VL 0 (L0 W) W v.cells.toList x.cells)(hf:IsSq s x):V 0 (L0 W) W v x:=by
 obtain⟨cs,rfl,_⟩:=WideShapes.okWide_struct uSeq h;obtain⟨_,_,_,_,rfl,_⟩:=hf;cases cs;exact hx.agg
theorem wXx {W:World}{base:Nat}{v:Value}(h:Value.okWide prog W .any base 4 v):∃b:Bool,v=.bool b/\V 0 (L0 W) W (.bool b) (.raw (.bool b)):=by
 simp only[Value.okWide,xJw,Cell.okWide] at h;cases v<;>simp_all [Cell.ok];exact .raw _ trivial
def tab32:List Int:=[0,1,28,2,29,14,24,3,30,22,20,15,25,17,4,8,31,27,13,23,21,19,16,7,26,12,18,6,11,5,10,9]
def tab64:List Int:=[0,1,56,2,57,49,28,3,61,58,42,50,38,29,17,4,62,47,59,36,45,43,51,22,53,39,33,30,24,18,12,5,63,55,48,27,60,41,37,16,46,35,44,21,52,32,23,11,54,26,40,15,34,20,31,10,25,14,19,9,13,8,7,6]
def lay (cs:List Value):Obj->Obj
 | .cells _ t frozen=>.cells cs.toArray t frozen
 | o=>o
noncomputable def zX4 (os:Os):World :=
 { World.holding prog os ⟨#[],#[],[]⟩ with heap:=((((World.holding prog os ⟨#[],#[],[]⟩).heap.modify 0 (lay ((List.range 17).flatMap rowV))).modify 2 (lay (Lib.pow10Tab.map λz=>.int .u64 z))).modify 3 (lay (tab32.map λz=>.int .u8 z))).modify 4 (lay (tab64.map λz=>.int .u8 z)) }
theorem wX4 (os:Os)(args:Array Value):laidMet prog Rows.searchWrongUptoRow.laid ((zX4 os).forCall (λ_ _=>0) ⟨#[],args,[]⟩).memory :=
 laidMet_of_run' 8 (by kernel_rfl) (by kernel_rfl)
