/- Walks: right formulas. -/
import Derived.Test.YtofmbookakncjaaGreatDoorJL
set_option linter.all false
open Nat renaming reduceEqDiff → zE,reduceBEq → zB,reduceAdd → zA,reduceLeDiff → zL
namespace Go.Proofs.Tryz
open Go Go.Iv
set_option maxRecDepth 4000
def yZ8 (op:Nat):Bool:=decide (1<=op)&&decide (op<=14)
def zJz (op:Nat):Bool:=decide (1<=op)
def yXd (op:Nat):Nat:=match op with|1=>1|8=>2|9=>2|15=>3|16=>3|_=>0
def yX9 (op:Nat):Nat:=match op with|1=>4|16=>2|_=>0
def yX8 (op:Nat):Nat:=match op with|3=>1|4=>2|5=>2|6=>2|7=>2|8=>1|9=>1|10=>1|11=>1|12=>1|13=>1|14=>2|_=>0
def rowI (op:Nat):List IV:=[.raw (.bool (yZ8 op)),.raw (.bool (zJz op)),.raw (.int .u8 (yXd op)),.raw (.int .i64 (yX9 op)),.raw (.int .i64 (yX8 op))]
def rowsL:List IV:=(List.range 17).flatMap rowI
theorem zWl (op:Nat)(h:op<17):op*5+5<=rowsL.length/\(rowsL.drop (op*5)).take 5=rowI op:=by
 match op,h with
 | 0,_=>exact⟨by decide,rfl⟩|1,_=>exact⟨by decide,rfl⟩|2,_=>exact⟨by decide,rfl⟩|3,_=>exact⟨by decide,rfl⟩|4,_=>exact⟨by decide,rfl⟩|5,_=>exact⟨by decide,rfl⟩
 | 6,_=>exact⟨by decide,rfl⟩|7,_=>exact⟨by decide,rfl⟩|8,_=>exact⟨by decide,rfl⟩|9,_=>exact⟨by decide,rfl⟩|10,_=>exact⟨by decide,rfl⟩|11,_=>exact⟨by decide,rfl⟩
 | 12,_=>exact⟨by decide,rfl⟩|13,_=>exact⟨by decide,rfl⟩|14,_=>exact⟨by decide,rfl⟩|15,_=>exact⟨by decide,rfl⟩|16,_=>exact⟨by decide,rfl⟩
 | k+17,h=>omega
theorem yGa (op:Nat)(n:ByteArray)(A ls:Nat):yJr op n A ls=(((decide (op<17)&&yZ8 op)&&yK1 (yXd op) n)&&decide (A<=yX9 op)&&decide (ls=yX8 op)):=by
 match op with
 | 0=>simp[yJr,yZ8]
 | 1=>simp[yJr,yZ8,yXd,yX9,yX8,yK1]
 | 2=>simp[yJr,yZ8,yXd,yX9,yX8,yK1]
 | 3=>simp[yJr,yZ8,yXd,yX9,yX8,yK1]
 | 4=>simp[yJr,yZ8,yXd,yX9,yX8,yK1]
 | 5=>simp[yJr,yZ8,yXd,yX9,yX8,yK1]
 | 6=>simp[yJr,yZ8,yXd,yX9,yX8,yK1]
 | 7=>simp[yJr,yZ8,yXd,yX9,yX8,yK1]
 | 8=>simp[yJr,yZ8,yXd,yX9,yX8,yK1]
 | 9=>simp[yJr,yZ8,yXd,yX9,yX8,yK1]
 | 10=>simp[yJr,yZ8,yXd,yX9,yX8,yK1]
 | 11=>simp[yJr,yZ8,yXd,yX9,yX8,yK1]
 | 12=>simp[yJr,yZ8,yXd,yX9,yX8,yK1]
 | 13=>simp[yJr,yZ8,yXd,yX9,yX8,yK1]
 | 14=>simp[yJr,yZ8,yXd,yX9,yX8,yK1]
 | 15=>simp[yJr,yZ8]
 | 16=>simp[yJr,yZ8]
 | op+17=>simp[yJr,yZ8]
structure Gl (gl:Nat->Option IV):Prop where
 rows:gl 1=some (.agg rowsL)
def fmR (f:Fm)(l d A:Int):Bool:=decide ((f.size:Int)<=l)&&decide (A+f.deep<=d+1)&&f.ok
def fmsR (f:List Fm)(l d A:Int):Bool:=decide ((yQb f:Int)<=l)&&decide (yZ6 f=0\/A+yZ6 f<=d+1)&&yY4 f
theorem wYr (l d A:Int)(h:0<=l):fmsR [] l d A=true:=by simp[fmsR,yQb,yZ6,yY4,h]
theorem zQl (a:Fm)(m:List Fm)(l d A:Int):fmsR (a::m) l d A=(fmR a l d A&&fmsR m (l-a.size) d A):=by
 rw[Bool.eq_iff_iff];have h1:=a.deep_pos;simp only[fmsR,fmR,bAt,dTe];simp only[yQb,yZ6,yY4,bAt];constructor
 ·rintro⟨⟨h2,J⟩,D,E⟩;refine⟨⟨⟨by omega,by omega⟩,D⟩,⟨by omega,by omega⟩,E⟩
 ·rintro⟨⟨⟨h2,J⟩,D⟩,⟨E,O⟩,G⟩;exact⟨⟨by omega,by omega⟩,D,G⟩
theorem zKv (a m:List Fm)(l d A:Int)(h0:0<=l):fmsR (a++m) l d A=(fmsR a l d A&&fmsR m (l-yQb a) d A):=by
 induction a generalizing l with
 | nil =>
  rw[wYr _ _ _ h0];simp only[List.nil_append,yQb,Int.natCast_zero,Int.sub_zero,Bool.true_and]
 | cons x a E =>
  rw[List.cons_append,zQl,zQl];by_cases D:fmR x l d A=true
  ·have:(x.size:Int)<=l:=by simp only[fmR,bAt,dTe] at D;exact D.1.1
   rw[E _ (by omega),Bool.and_assoc];congr 3;simp only[yQb];omega
  ·rw[Bool.not_eq_true] at D;rw[D];rfl
theorem zQm (op:Nat)(n:ByteArray)(m:List Tm)(sub:List Fm)(l d A:Int):fmR (.mk op n m sub) l d A =
  ((decide (1<=l)&&decide (A<=d))&&yJr op n m.length sub.length&&tmsR m (l-1) d (A+1)&&fmsR sub (l-1-yQf m) d (A+1)):=by
 rw[Bool.eq_iff_iff];simp only[fmR,tmsR,fmsR,bAt,dTe];simp only[Fm.size,Fm.deep,Fm.ok,bAt];constructor
 ·rintro⟨⟨h2,h3⟩,⟨G,E⟩,D⟩;exact⟨⟨⟨⟨by omega,by omega⟩,G⟩,⟨⟨by omega,by omega⟩,E⟩⟩,⟨by omega,by omega⟩,D⟩
 ·rintro⟨⟨⟨⟨h1,h2⟩,G⟩,⟨⟨h7,U⟩,E⟩⟩,⟨O,J⟩,D⟩;exact⟨⟨by omega,by omega⟩,⟨G,E⟩,D⟩
variable (gl:Nat->Option IV)
def JF (f:Fm):Prop:=∀(x:IV) (_:IsFm f x) (b:Nat) (st:ISt) (l d A:Int) (_:st b=jBox l d) (_:0<=l) (_:l<=9223372036854775807) (_:0<=A) (_:A+f.size<=4611686018427387904),
  ICall prog gl 137 [.raw (.pointer (some ⟨b,0,none⟩)),x,.raw (.int .i64 A)] st (wJg b st l d (fmR f l d A) f.size)
theorem xUr (G:Gl gl)(op:Nat)(n:ByteArray)(us:List Tm)(sub:List Fm)(IH:∀a∈sub,JF gl a)(x:IV)(hx:IsFm (.mk op n us sub) x)(b:Nat)(st:ISt)(l d A:Int)(hb:st b=jBox l d)(h0:0<=l)(h1:l<=9223372036854775807)
  (h2:0<=A) (h3:A+(Fm.mk op n us sub).size<=4611686018427387904) :
  ICall prog gl 137 [.raw (.pointer (some ⟨b,0,none⟩)),x,.raw (.int .i64 A)] st (wJg b st l d (fmR (.mk op n us sub) l d A) (Fm.mk op n us sub).size):=by
 obtain⟨tg,xs,aB,ys,rfl,aT,aD,ab,am,hys⟩:=hx.mk;have ay:=G.rows;refine iI func137 ?_;simp only[go_sem,zE,zA,reduceCtorEq];refine (wU7 gl b _ l d A hb h0 h1).mono ?_;rintro _ _ ⟨rfl,rfl⟩;have D:∀r,r=false->fmR (.mk op n us sub) l d A=r->∀l',outK (wJg b st l d (fmR (.mk op n us sub) l d A) (Fm.mk op n us sub).size) (.raw (.bool false)) (st.put b (jBox l' d)):=by
  rintro r rfl hr l';exact yQ0 ⟨by rw[hr],l',rfl,λh=>by rw[hr] at h;cases h⟩
 cases hn:(decide (1<=l)&&decide (A<=d))
 ·simp only[go_sem,zE];exact D _ rfl (by simp[zQm,hn]) _
 have aU:1<=l/\A<=d:=by simpa using hn
 have aj:=yJ5 prog 5 3 vWe zW3 .u8 op;have af:IntKind.i64.wrap (op:Int)=(op:Int):=w64 (by omega) (by omega);by_cases ho:op<17
 ·have ac:decide ((17:Int)<=(op:Int))=false:=dEf (by omega);have aa:(0:Int)<=(op:Int):=by omega
  obtain⟨ao,an⟩:=zWl op ho;cases E:yZ8 op
  ·simp only[go_sem,zE,zB,zA,zL,reduceCtorEq,aj,af,ac,ay,aa,ho,ao,an,rowI,E,fits,ISt.put_same,jBox];exact D _ rfl (by simp[zQm,yGa,E]) _
  have aG:yXd op<=2:=by
   simp only[yZ8,bAt,dTe] at E
   match op,E with
   | 1,_=>decide|2,_=>decide|3,_=>decide|4,_=>decide|5,_=>decide|6,_=>decide|7,_=>decide|8,_=>decide|9,_=>decide|10,_=>decide|11,_=>decide|12,_=>decide|13,_=>decide|14,_=>decide
   | 0,h=>omega
   | k+15,h=>omega
  have aJ:decide ((op:Int)=16)=false:=by
   simp only[yZ8,bAt,dTe] at E;exact dEf (by omega)
  simp only[go_sem,zE,zB,zA,zL,aj,af,ac,ay,aa,ho,ao,an,rowI,E,fits];refine (vZh gl _ aG n _).mono ?_;rintro _ _ ⟨rfl,rfl⟩;cases au:yK1 (yXd op) n
  ·simp only[go_sem,zE];exact D _ rfl (by simp[zQm,yGa,au]) _
  by_cases aw:us.length<=yX9 op
  case neg =>
   have J:decide (((yX9 op:Nat):Int)<((us.length:Nat):Int))=true:=dEt (by omega);simp only[go_sem,zE,zA,ab.len,J];intro _;exact D _ rfl (by simp[zQm,yGa,aw]) _
  have J:decide (((yX9 op:Nat):Int)<((us.length:Nat):Int))=false:=dEf (by omega);by_cases av:sub.length=yX8 op
  case neg =>
   have U:decide (((sub.length:Nat):Int)=((yX8 op:Nat):Int))=false:=dEf (by omega);simp only[go_sem,zE,zA,ab.len,J,hys.len,U];intro _ _;exact D _ rfl (by simp[zQm,yGa,av]) _
  have U:decide (((sub.length:Nat):Int)=((yX8 op:Nat):Int))=true:=dEt (by omega);have aF:yJr op n us.length sub.length=true:=by simp[yGa,E,au,aw,av,ho]
  simp only[Fm.size] at h3;have hw:IntKind.i64.wrap (A+1)=A+1:=w64 (by omega) (by omega);simp only[go_sem,zE,zA,reduceCtorEq,ab.len,J,hys.len,U,aJ,hw];intro _ aQ;refine (xY1 gl us tg xs aD ab b _ (l-1) d (A+1) (ISt.put_same _ _ _) (by omega) (by omega) (by omega) (by omega)).mono ?_;rintro _ _ ⟨rfl,l',rfl,ai⟩;cases hts:tmsR us (l-1) d (A+1)
  ·simp only[go_sem,yQ9];exact D _ rfl (by simp[zQm,hts]) _
  have ah:=ai hts;subst ah;have aL:(yQf us:Int)<=l-1:=by simp only[tmsR,bAt,dTe] at hts;exact hts.1.1
  simp only[go_sem,zE,hys.len,yQ9];intro _;refine LoopC.ctr sub.length (λk fr st' ds=>fmsR (sub.take k) (l-1-yQf us) d (A+1)=true/\fr 0=.iv (.raw (.pointer (some ⟨b,0,none⟩)))/\fr 2=.iv (.raw (.int .i64 A))/\fr 77=.iv (.sl aB ys) /\
   fr 78=.iv (.raw (.int .i64 sub.length))/\fr 79=.iv (.raw (.int .i64 k))/\st'=st.put b (jBox (l-1-yQf us-yQb (sub.take k)) d)/\ds=[]) ?_ ?_ ?_
  ·have:l-1-(yQf us:Int)-(yQb ([]:List Fm):Int)=l-1-yQf us:=by simp[yQb]
   simp only[go_sem,zE,reduceCtorEq,this];simp[fmsR,yQb,yZ6,yY4];omega
  ·rintro k fr _ ds ae ⟨O,f0,f2,f77,f78,f79,rfl,rfl⟩;obtain⟨a,ha⟩:=yQ1 ae;obtain⟨x,aI,hx⟩:=hys.get ha;obtain⟨aE,aS⟩:=yZ7 ha;obtain⟨aC,n2,aA,ak⟩:=a;obtain⟨t1,x1,t2,x2,rfl,_⟩:=hx.mk;have aV:(yQb (sub.take k):Int)<=l-1-yQf us:=by simp only[fmsR,bAt,dTe] at O;exact O.1.1
   simp only[go_sem,zE,zA,zL,reduceCtorEq,f0,f2,f77,f78,f79,lt_i ae,yQ3 am,iNn,aI,hw];refine (IH _ (lMg ha) _ hx b _ (l-1-yQf us-yQb (sub.take k)) d (A+1) (ISt.put_same _ _ _) (by omega) (by omega) (by omega) (by omega)).mono ?_;rintro _ _ ⟨rfl,l',rfl,ai⟩;cases hr:fmR (.mk aC n2 aA ak) (l-1-yQf us-yQb (sub.take k)) d (A+1)
   ·simp only[go_sem,yQ9];refine D _ rfl ?_ _;have hf:fmsR sub (l-1-yQf us) d (A+1)=false:=by
     rw[<- List.take_append_drop k sub,List.drop_eq_getElem_cons ae];rw[zKv _ _ _ _ _ (by omega),(lGs ha).2,zQl,hr];simp
    simp[zQm,hf]
   ·have ah:=ai hr;subst ah;simp only[go_sem,zE,reduceCtorEq,f0,f2,f77,f78,f79,yQc ae (by omega),yQ9];refine⟨?_,?_⟩
    ·rw[yQ6 ha,zKv _ _ _ _ _ (by omega),O,zQl,hr];simp only[fmR,bAt,dTe] at hr;simp[fmsR,yQb,yZ6,yY4];omega
    ·rw[aE];congr 2;omega
  ·rintro fr _ ds ⟨O,f0,f2,f77,f78,f79,rfl,rfl⟩;simp only[go_sem,f78,f79,yQl (nLi _)];rw[lTl] at O;refine yQ0 ⟨by simp[zQm,hn,aF,hts,O],_,rfl,?_⟩;intro _;rw[lTl];simp only[Fm.size];omega
 ·have ac:decide ((17:Int)<=(op:Int))=true:=dEt (by omega);simp only[go_sem,zE,zA,aj,af,ac];exact D _ rfl (by simp[zQm,yGa,ho]) _
theorem xZ8 (G:Gl gl):∀(k:Nat) (f:Fm),SizeOf.sizeOf f<k->JF gl f
 | 0,f,h=>by omega
 | k+1,.mk op n us sub,h=>λx D b st l d A=>xUr gl G op n us sub (λa E=>xZ8 G k a (by
   have:=lSm E;simp at h;omega)) x D b st l d A
theorem vZx (G:Gl gl)(f:Fm):JF gl f:=xZ8 gl G _ f (Nat.lt_succ_self _)
end Go.Proofs.Tryz
namespace Go.Proofs.Tryz
open Go Go.Iv
set_option maxRecDepth 4000
variable (gl:Nat->Option IV)
theorem vQ6 (t:Tm)(x:IV)(A:IsTm t x)(hs:t.size<=1000000)(st:ISt):ICall prog gl 147 [x] st (λx st'=>x=.raw (.bool t.ok)/\st'=st):=by
 obtain⟨v,n,us⟩:=t;obtain⟨G,E,rfl,_⟩:=A.mk;refine ICall.intro (c:=cf prog gl [3] []) func147 rfl (by show _<=7;simp) (by kernel_rfl) ?_;simp only[go_sem,zE,zA,zL,Nat.reduceLeDiff];refine λb=>yQ8 λD=>?_;simp only[go_sem,yQ9];refine (wJf gl v n us _ A b _ 9223372036854775807 9223372036854775807 1 (ISt.put_same _ _ _) (by omega) (by omega) (by omega) (by omega)).mono ?_;rintro _ _ ⟨rfl,J,rfl,_⟩;simp only[go_sem];have hd:=Tm.deep_le (.mk v n us);refine yQg (st':=st) ?_ ⟨?_,rfl⟩
 ·intro c o hc;rw[ISt.put_apply,ISt.put_apply];split
  ·rename_i h;rw[h,D] at hc;cases hc
  ·exact hc
 ·simp only[tmR];rw[dEt (by omega),dEt (by omega)];simp
theorem zVq (G:Gl gl)(f:Fm)(x:IV)(D:IsFm f x)(st:ISt)(hs:f.size<=1000000):ICall prog gl 108 [x] st (λx st'=>x=.raw (.bool f.right)/\st'=st):=by
 obtain⟨op,n,us,sub⟩:=f;obtain⟨U,O,E,ys,rfl,_⟩:=D.mk;refine ICall.intro (c:=cf prog gl [3] []) func108 rfl (by show _<=7;simp) (by kernel_rfl) ?_;simp only[go_sem,zE,zA,zL,Nat.reduceLeDiff];refine λb=>yQ8 λJ=>?_;simp only[go_sem,yQ9];refine (vZx gl G _ _ D b _ 400 40 1 (ISt.put_same _ _ _) (by omega) (by omega) (by omega) (by omega)).mono ?_;rintro _ _ ⟨rfl,l',rfl,_⟩;simp only[go_sem];refine yQg (st':=st) ?_ ⟨?_,rfl⟩
 ·intro c o hc;rw[ISt.put_apply,ISt.put_apply];split
  ·rename_i h;rw[h,J] at hc;cases hc
  ·exact hc
 ·congr 2;rw[Bool.eq_iff_iff];simp only[fmR,Fm.right,bAt,dTe];constructor
  ·rintro⟨⟨h1,h2⟩,A⟩;exact⟨⟨A,by omega⟩,by omega⟩
  ·rintro⟨⟨A,h1⟩,h2⟩;exact⟨⟨by omega,by omega⟩,A⟩
