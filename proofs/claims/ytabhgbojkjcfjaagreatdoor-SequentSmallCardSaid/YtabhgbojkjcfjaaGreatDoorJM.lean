/- Walks: right formulas. -/
import Derived.Test.YtabhgbojkjcfjaaGreatDoorJL
set_option linter.all false
open Nat renaming reduceEqDiff → zE,reduceBEq → zB,reduceAdd → zA,reduceLeDiff → zL
namespace Go.Proofs.Tryz
open Go Go.Iv
set_option maxRecDepth 4000
def yZi (op:Nat):Bool:=decide (1<=op)&&decide (op<=14)
def zV0 (op:Nat):Bool:=decide (1<=op)
def yJ1 (op:Nat):Nat:=match op with|1=>1|8=>2|9=>2|15=>3|16=>3|_=>0
def yXz (op:Nat):Nat:=match op with|1=>4|16=>2|_=>0
def yXy (op:Nat):Nat:=match op with|3=>1|4=>2|5=>2|6=>2|7=>2|8=>1|9=>1|10=>1|11=>1|12=>1|13=>1|14=>2|_=>0
def rowI (op:Nat):List IV:=[.raw (.bool (yZi op)),.raw (.bool (zV0 op)),.raw (.int .u8 (yJ1 op)),.raw (.int .i64 (yXz op)),.raw (.int .i64 (yXy op))]
def rowsL:List IV:=(List.range 17).flatMap rowI
theorem zYv (op:Nat)(h:op<17):op*5+5<=rowsL.length/\(rowsL.drop (op*5)).take 5=rowI op:=by
 match op,h with
 | 0,_=>exact⟨by decide,rfl⟩|1,_=>exact⟨by decide,rfl⟩|2,_=>exact⟨by decide,rfl⟩|3,_=>exact⟨by decide,rfl⟩|4,_=>exact⟨by decide,rfl⟩|5,_=>exact⟨by decide,rfl⟩
 | 6,_=>exact⟨by decide,rfl⟩|7,_=>exact⟨by decide,rfl⟩|8,_=>exact⟨by decide,rfl⟩|9,_=>exact⟨by decide,rfl⟩|10,_=>exact⟨by decide,rfl⟩|11,_=>exact⟨by decide,rfl⟩
 | 12,_=>exact⟨by decide,rfl⟩|13,_=>exact⟨by decide,rfl⟩|14,_=>exact⟨by decide,rfl⟩|15,_=>exact⟨by decide,rfl⟩|16,_=>exact⟨by decide,rfl⟩
 | k+17,h=>omega
theorem yUj (op:Nat)(n:ByteArray)(A ls:Nat):yZc op n A ls=(((decide (op<17)&&yZi op)&&yVf (yJ1 op) n)&&decide (A<=yXz op)&&decide (ls=yXy op)):=by
 match op with
 | 0=>simp[yZc,yZi]
 | 1=>simp[yZc,yZi,yJ1,yXz,yXy,yVf]
 | 2=>simp[yZc,yZi,yJ1,yXz,yXy,yVf]
 | 3=>simp[yZc,yZi,yJ1,yXz,yXy,yVf]
 | 4=>simp[yZc,yZi,yJ1,yXz,yXy,yVf]
 | 5=>simp[yZc,yZi,yJ1,yXz,yXy,yVf]
 | 6=>simp[yZc,yZi,yJ1,yXz,yXy,yVf]
 | 7=>simp[yZc,yZi,yJ1,yXz,yXy,yVf]
 | 8=>simp[yZc,yZi,yJ1,yXz,yXy,yVf]
 | 9=>simp[yZc,yZi,yJ1,yXz,yXy,yVf]
 | 10=>simp[yZc,yZi,yJ1,yXz,yXy,yVf]
 | 11=>simp[yZc,yZi,yJ1,yXz,yXy,yVf]
 | 12=>simp[yZc,yZi,yJ1,yXz,yXy,yVf]
 | 13=>simp[yZc,yZi,yJ1,yXz,yXy,yVf]
 | 14=>simp[yZc,yZi,yJ1,yXz,yXy,yVf]
 | 15=>simp[yZc,yZi]
 | 16=>simp[yZc,yZi]
 | op+17=>simp[yZc,yZi]
structure Gl (gl:Nat->Option IV):Prop where
 rows:gl 0=some (.agg rowsL)
def fmR (f:Fm)(l d A:Int):Bool:=decide ((f.size:Int)<=l)&&decide (A+f.deep<=d+1)&&f.ok
def fmsR (f:List Fm)(l d A:Int):Bool:=decide ((yQ9 f:Int)<=l)&&decide (yQu f=0\/A+yQu f<=d+1)&&yVm f
theorem wYl (l d A:Int)(h:0<=l):fmsR [] l d A=true:=by simp[fmsR,yQ9,yQu,yVm,h]
theorem zZl (a:Fm)(m:List Fm)(l d A:Int):fmsR (a::m) l d A=(fmR a l d A&&fmsR m (l-a.size) d A):=by
 rw[Bool.eq_iff_iff];have h1:=a.deep_pos;simp only[fmsR,fmR,bAt,dTe];simp only[yQ9,yQu,yVm,bAt];constructor
 ·rintro⟨⟨h2,G⟩,D,E⟩;refine⟨⟨⟨by omega,by omega⟩,D⟩,⟨by omega,by omega⟩,E⟩
 ·rintro⟨⟨⟨h2,G⟩,D⟩,⟨E,J⟩,F⟩;exact⟨⟨by omega,by omega⟩,D,F⟩
theorem zVz (a m:List Fm)(l d A:Int)(F:0<=l):fmsR (a++m) l d A=(fmsR a l d A&&fmsR m (l-yQ9 a) d A):=by
 induction a generalizing l with
 | nil =>
  rw[wYl _ _ _ F];simp only[List.nil_append,yQ9,Int.natCast_zero,Int.sub_zero,Bool.true_and]
 | cons x a E =>
  rw[List.cons_append,zZl,zZl];by_cases D:fmR x l d A=true
  ·have:(x.size:Int)<=l:=by simp only[fmR,bAt,dTe] at D;exact D.1.1
   rw[E _ (by omega),Bool.and_assoc];congr 3;simp only[yQ9];omega
  ·rw[Bool.not_eq_true] at D;rw[D];rfl
theorem zZm (op:Nat)(n:ByteArray)(m:List Tm)(sub:List Fm)(l d A:Int):fmR (.mk op n m sub) l d A =
  ((decide (1<=l)&&decide (A<=d))&&yZc op n m.length sub.length&&tmsR m (l-1) d (A+1)&&fmsR sub (l-1-yQa m) d (A+1)):=by
 rw[Bool.eq_iff_iff];simp only[fmR,tmsR,fmsR,bAt,dTe];simp only[Fm.size,Fm.deep,Fm.ok,bAt];constructor
 ·rintro⟨⟨h2,W⟩,⟨F,E⟩,D⟩;exact⟨⟨⟨⟨by omega,by omega⟩,F⟩,⟨⟨by omega,by omega⟩,E⟩⟩,⟨by omega,by omega⟩,D⟩
 ·rintro⟨⟨⟨⟨h1,h2⟩,F⟩,⟨⟨U,O⟩,E⟩⟩,⟨J,G⟩,D⟩;exact⟨⟨by omega,by omega⟩,⟨F,E⟩,D⟩
variable (gl:Nat->Option IV)
def JF (f:Fm):Prop:=∀(x:IV) (_:IsFm f x) (b:Nat) (st:ISt) (l d A:Int) (_:st b=jBox l d) (_:0<=l) (_:l<=9223372036854775807) (_:0<=A) (_:A+f.size<=4611686018427387904),
  ICall prog gl 192 [.raw (.pointer (some ⟨b,0,none⟩)),x,.raw (.int .i64 A)] st (wJo b st l d (fmR f l d A) f.size)
theorem wQd (G:Gl gl)(op:Nat)(n:ByteArray)(us:List Tm)(sub:List Fm)(IH:∀a∈sub,JF gl a)(x:IV)(hx:IsFm (.mk op n us sub) x)(b:Nat)(st:ISt)(l d A:Int)(hb:st b=jBox l d)(h0:0<=l)(h1:l<=9223372036854775807)
  (h2:0<=A) (h3:A+(Fm.mk op n us sub).size<=4611686018427387904) :
  ICall prog gl 192 [.raw (.pointer (some ⟨b,0,none⟩)),x,.raw (.int .i64 A)] st (wJo b st l d (fmR (.mk op n us sub) l d A) (Fm.mk op n us sub).size):=by
 obtain⟨tg,xs,aA,ys,rfl,aQ,aC,aa,al,hys⟩:=hx.mk;have ax:=G.rows;refine iI func192 ?_;simp only[go_sem,zE,zA,reduceCtorEq];refine (wU7 gl b _ l d A hb h0 h1).mono ?_;rintro _ _ ⟨rfl,rfl⟩;have D:∀r,r=false->fmR (.mk op n us sub) l d A=r->∀l',outK (wJo b st l d (fmR (.mk op n us sub) l d A) (Fm.mk op n us sub).size) (.raw (.bool false)) (st.put b (jBox l' d)):=by
  rintro r rfl hr l';exact yQ0 ⟨by rw[hr],l',rfl,λh=>by rw[hr] at h;cases h⟩
 cases hn:(decide (1<=l)&&decide (A<=d))
 ·simp only[go_sem,zE];exact D _ rfl (by simp[zZm,hn]) _
 have aS:1<=l/\A<=d:=by simpa using hn
 have ai:=zW8 prog 5 3 vVm vVn .u8 op;have ae:IntKind.i64.wrap (op:Int)=(op:Int):=w64 (by omega) (by omega);by_cases ho:op<17
 ·have ab:decide ((17:Int)<=(op:Int))=false:=dEf (by omega);have W:(0:Int)<=(op:Int):=by omega
  obtain⟨an,am⟩:=zYv op ho;cases E:yZi op
  ·simp only[go_sem,zE,zB,zA,zL,reduceCtorEq,ai,ae,ab,ax,W,ho,an,am,rowI,E,fits,ISt.put_same,jBox];exact D _ rfl (by simp[zZm,yUj,E]) _
  have aF:yJ1 op<=2:=by
   simp only[yZi,bAt,dTe] at E
   match op,E with
   | 1,_=>decide|2,_=>decide|3,_=>decide|4,_=>decide|5,_=>decide|6,_=>decide|7,_=>decide|8,_=>decide|9,_=>decide|10,_=>decide|11,_=>decide|12,_=>decide|13,_=>decide|14,_=>decide
   | 0,h=>omega
   | k+15,h=>omega
  have aI:decide ((op:Int)=16)=false:=by
   simp only[yZi,bAt,dTe] at E;exact dEf (by omega)
  simp only[go_sem,zE,zB,zA,zL,ai,ae,ab,ax,W,ho,an,am,rowI,E,fits];refine (vZh gl _ aF n _).mono ?_;rintro _ _ ⟨rfl,rfl⟩;cases aq:yVf (yJ1 op) n
  ·simp only[go_sem,zE];exact D _ rfl (by simp[zZm,yUj,aq]) _
  by_cases av:us.length<=yXz op
  case neg =>
   have F:decide (((yXz op:Nat):Int)<((us.length:Nat):Int))=true:=dEt (by omega);simp only[go_sem,zE,zA,aa.len,F];intro _;exact D _ rfl (by simp[zZm,yUj,av]) _
  have F:decide (((yXz op:Nat):Int)<((us.length:Nat):Int))=false:=dEf (by omega);by_cases au:sub.length=yXy op
  case neg =>
   have U:decide (((sub.length:Nat):Int)=((yXy op:Nat):Int))=false:=dEf (by omega);simp only[go_sem,zE,zA,aa.len,F,hys.len,U];intro _ _;exact D _ rfl (by simp[zZm,yUj,au]) _
  have U:decide (((sub.length:Nat):Int)=((yXy op:Nat):Int))=true:=dEt (by omega);have aE:yZc op n us.length sub.length=true:=by simp[yUj,E,aq,av,au,ho]
  simp only[Fm.size] at h3;have hw:IntKind.i64.wrap (A+1)=A+1:=w64 (by omega) (by omega);simp only[go_sem,zE,zA,reduceCtorEq,aa.len,F,hys.len,U,aI,hw];intro _ aO;refine (xG0 gl us tg xs aC aa b _ (l-1) d (A+1) (ISt.put_same _ _ _) (by omega) (by omega) (by omega) (by omega)).mono ?_;rintro _ _ ⟨rfl,l',rfl,ah⟩;cases O:tmsR us (l-1) d (A+1)
  ·simp only[go_sem,yQg];exact D _ rfl (by simp[zZm,O]) _
  have ag:=ah O;subst ag;have aK:(yQa us:Int)<=l-1:=by simp only[tmsR,bAt,dTe] at O;exact O.1.1
  simp only[go_sem,zE,hys.len,yQg];intro _;refine LoopC.ctr sub.length (λk fr st' ds=>fmsR (sub.take k) (l-1-yQa us) d (A+1)=true/\fr 0=.iv (.raw (.pointer (some ⟨b,0,none⟩)))/\fr 2=.iv (.raw (.int .i64 A))/\fr 77=.iv (.sl aA ys) /\
   fr 78=.iv (.raw (.int .i64 sub.length))/\fr 79=.iv (.raw (.int .i64 k))/\st'=st.put b (jBox (l-1-yQa us-yQ9 (sub.take k)) d)/\ds=[]) ?_ ?_ ?_
  ·have:l-1-(yQa us:Int)-(yQ9 ([]:List Fm):Int)=l-1-yQa us:=by simp[yQ9]
   simp only[go_sem,zE,reduceCtorEq,this];simp[fmsR,yQ9,yQu,yVm];omega
  ·rintro k fr _ ds ac ⟨J,f0,f2,f77,f78,f79,rfl,rfl⟩;obtain⟨a,ha⟩:=yQ3 ac;obtain⟨x,aH,hx⟩:=hys.get ha;obtain⟨aD,aP⟩:=yQq ha;obtain⟨aB,n2,az,aj⟩:=a;obtain⟨t1,x1,t2,x2,rfl,_⟩:=hx.mk;have aT:(yQ9 (sub.take k):Int)<=l-1-yQa us:=by simp only[fmsR,bAt,dTe] at J;exact J.1.1
   simp only[go_sem,zE,zA,zL,reduceCtorEq,f0,f2,f77,f78,f79,lt_i ac,yQ2 al,iNn,aH,hw];refine (IH _ (lMg ha) _ hx b _ (l-1-yQa us-yQ9 (sub.take k)) d (A+1) (ISt.put_same _ _ _) (by omega) (by omega) (by omega) (by omega)).mono ?_;rintro _ _ ⟨rfl,l',rfl,ah⟩;cases hr:fmR (.mk aB n2 az aj) (l-1-yQa us-yQ9 (sub.take k)) d (A+1)
   ·simp only[go_sem,yQg];refine D _ rfl ?_ _;have hf:fmsR sub (l-1-yQa us) d (A+1)=false:=by
     rw[<- List.take_append_drop k sub,List.drop_eq_getElem_cons ac];rw[zVz _ _ _ _ _ (by omega),(lGs ha).2,zZl,hr];simp
    simp[zZm,hf]
   ·have ag:=ah hr;subst ag;simp only[go_sem,zE,reduceCtorEq,f0,f2,f77,f78,f79,yQb ac (by omega),yQg];refine⟨?_,?_⟩
    ·rw[yQ4 ha,zVz _ _ _ _ _ (by omega),J,zZl,hr];simp only[fmR,bAt,dTe] at hr;simp[fmsR,yQ9,yQu,yVm];omega
    ·rw[aD];congr 2;omega
  ·rintro fr _ ds ⟨J,f0,f2,f77,f78,f79,rfl,rfl⟩;simp only[go_sem,f78,f79,yQj (nLi _)];rw[lTl] at J;refine yQ0 ⟨by simp[zZm,hn,aE,O,J],_,rfl,?_⟩;intro _;rw[lTl];simp only[Fm.size];omega
 ·have ab:decide ((17:Int)<=(op:Int))=true:=dEt (by omega);simp only[go_sem,zE,zA,ai,ae,ab];exact D _ rfl (by simp[zZm,yUj,ho]) _
theorem xJ8 (G:Gl gl):∀(k:Nat) (f:Fm),SizeOf.sizeOf f<k->JF gl f
 | 0,f,h=>by omega
 | k+1,.mk op n us sub,h=>λx D b st l d A=>wQd gl G op n us sub (λa E=>xJ8 G k a (by
   have:=lSm E;simp at h;omega)) x D b st l d A
theorem vZv (G:Gl gl)(f:Fm):JF gl f:=xJ8 gl G _ f (Nat.lt_succ_self _)
end Go.Proofs.Tryz
namespace Go.Proofs.Tryz
open Go Go.Iv
set_option maxRecDepth 4000
variable (gl:Nat->Option IV)
theorem yYl (t:Tm)(x:IV)(A:IsTm t x)(J:t.size<=1000000)(st:ISt):ICall prog gl 155 [x] st (λx st'=>x=.raw (.bool t.ok)/\st'=st):=by
 obtain⟨v,n,us⟩:=t;obtain⟨F,E,rfl,_⟩:=A.mk;refine ICall.intro (c:=cf prog gl [3] []) func155 rfl (by show _<=7;simp) (by kernel_rfl) ?_;simp only[go_sem,zE,zA,zL,Nat.reduceLeDiff];refine λb=>yQd λD=>?_;simp only[go_sem,yQg];refine (wJm gl v n us _ A b _ 9223372036854775807 9223372036854775807 1 (ISt.put_same _ _ _) (by omega) (by omega) (by omega) (by omega)).mono ?_;rintro _ _ ⟨rfl,G,rfl,_⟩;simp only[go_sem];have hd:=Tm.deep_le (.mk v n us);refine yQc (st':=st) ?_ ⟨?_,rfl⟩
 ·intro c o hc;rw[ISt.put_apply,ISt.put_apply];split
  ·rename_i h;rw[h,D] at hc;cases hc
  ·exact hc
 ·simp only[tmR];rw[dEt (by omega),dEt (by omega)];simp
theorem zWq (G:Gl gl)(f:Fm)(x:IV)(D:IsFm f x)(st:ISt)(W:f.size<=1000000):ICall prog gl 141 [x] st (λx st'=>x=.raw (.bool f.right)/\st'=st):=by
 obtain⟨op,n,us,sub⟩:=f;obtain⟨O,J,E,ys,rfl,_⟩:=D.mk;refine ICall.intro (c:=cf prog gl [3] []) func141 rfl (by show _<=7;simp) (by kernel_rfl) ?_;simp only[go_sem,zE,zA,zL,Nat.reduceLeDiff];refine λb=>yQd λF=>?_;simp only[go_sem,yQg];refine (vZv gl G _ _ D b _ 400 40 1 (ISt.put_same _ _ _) (by omega) (by omega) (by omega) (by omega)).mono ?_;rintro _ _ ⟨rfl,U,rfl,_⟩;simp only[go_sem];refine yQc (st':=st) ?_ ⟨?_,rfl⟩
 ·intro c o hc;rw[ISt.put_apply,ISt.put_apply];split
  ·rename_i h;rw[h,F] at hc;cases hc
  ·exact hc
 ·congr 2;rw[Bool.eq_iff_iff];simp only[fmR,Fm.right,bAt,dTe];constructor
  ·rintro⟨⟨h1,h2⟩,A⟩;exact⟨⟨A,by omega⟩,by omega⟩
  ·rintro⟨⟨A,h1⟩,h2⟩;exact⟨⟨by omega,by omega⟩,A⟩
