/- Walks: right formulas. -/
import Derived.Test.YtofmbookakncjabGreatDoorJL
set_option linter.all false
open Nat renaming reduceEqDiff → zE,reduceBEq → zB,reduceAdd → zA,reduceLeDiff → zL
namespace Go.Proofs.Tryz
open Go Go.Iv
set_option maxRecDepth 4000
def iS (op:Nat):Bool:=decide (1<=op)&&decide (op<=14)
def zY (op:Nat):Bool:=decide (1<=op)
def jz (op:Nat):Nat:=match op with|1=>1|8=>2|9=>2|15=>3|16=>3|_=>0
def jr (op:Nat):Nat:=match op with|1=>4|16=>2|_=>0
def js (op:Nat):Nat:=match op with|3=>1|4=>2|5=>2|6=>2|7=>2|8=>1|9=>1|10=>1|11=>1|12=>1|13=>1|14=>2|_=>0
def rowI (op:Nat):List IV:=[(iS op:Bool),(zY op:Bool),.raw (.int .u8 (jz op)),(jr op:Int),(js op:Int)]
def rowsL:List IV:=(List.range 17).flatMap rowI
def Ek (op:Nat)(h:op<17):op*5+5<=rowsL.length/\(rowsL.drop (op*5)).take 5=rowI op:=by
 match op,h with
 | 0,_=>exact⟨by decide,rfl⟩|1,_=>exact⟨by decide,rfl⟩|2,_=>exact⟨by decide,rfl⟩|3,_=>exact⟨by decide,rfl⟩|4,_=>exact⟨by decide,rfl⟩|5,_=>exact⟨by decide,rfl⟩
 | 6,_=>exact⟨by decide,rfl⟩|7,_=>exact⟨by decide,rfl⟩|8,_=>exact⟨by decide,rfl⟩|9,_=>exact⟨by decide,rfl⟩|10,_=>exact⟨by decide,rfl⟩|11,_=>exact⟨by decide,rfl⟩
 | 12,_=>exact⟨by decide,rfl⟩|13,_=>exact⟨by decide,rfl⟩|14,_=>exact⟨by decide,rfl⟩|15,_=>exact⟨by decide,rfl⟩|16,_=>exact⟨by decide,rfl⟩
 | k+17,h=>omega
def qY (op:Nat)(n:ByteArray)(A ls:Nat):iE op n A ls=(((decide (op<17)&&iS op)&&kb (jz op) n)&&decide (A<=jr op)&&decide (ls=js op)):=by
 match op with
 | 0=>simp[iE,iS]
 | 1=>simp[iE,iS,jz,jr,js,kb]
 | 2=>simp[iE,iS,jz,jr,js,kb]
 | 3=>simp[iE,iS,jz,jr,js,kb]
 | 4=>simp[iE,iS,jz,jr,js,kb]
 | 5=>simp[iE,iS,jz,jr,js,kb]
 | 6=>simp[iE,iS,jz,jr,js,kb]
 | 7=>simp[iE,iS,jz,jr,js,kb]
 | 8=>simp[iE,iS,jz,jr,js,kb]
 | 9=>simp[iE,iS,jz,jr,js,kb]
 | 10=>simp[iE,iS,jz,jr,js,kb]
 | 11=>simp[iE,iS,jz,jr,js,kb]
 | 12=>simp[iE,iS,jz,jr,js,kb]
 | 13=>simp[iE,iS,jz,jr,js,kb]
 | 14=>simp[iE,iS,jz,jr,js,kb]
 | 15=>simp[iE,iS]
 | 16=>simp[iE,iS]
 | op+17=>simp[iE,iS]
structure Gl (gl:Nat->Option IV):Prop where
 rows:gl 0=some (.agg rowsL)
def fmR (f:Fm)(l d A:Int):Bool:=decide ((f.size:Int)<=l)&&decide (A+f.deep<=d+1)&&f.ok
def fmsR (f:List Fm)(l d A:Int):Bool:=decide ((eS f:Int)<=l)&&decide (gZ f=0\/A+gZ f<=d+1)&&jR f
def LI (l d A:Int)(h:0<=l):fmsR [] l d A=true:=by simp[fmsR,eS,gZ,jR,h]
def vY (a:Fm)(m:List Fm)(l d A:Int):fmsR (a::m) l d A=(fmR a l d A&&fmsR m (l-a.size) d A):=by
 rw[m_];have h1:=a.deep_pos;simp only[fmsR,fmR,bAt,dTe];simp only[eS,gZ,jR,bAt];constructor
 ·rintro⟨⟨h2,J⟩,D,E⟩;refine⟨⟨⟨by omega,by omega⟩,D⟩,⟨by omega,by omega⟩,E⟩
 ·rintro⟨⟨⟨h2,J⟩,D⟩,⟨E,O⟩,G⟩;exact⟨⟨by omega,by omega⟩,D,G⟩
def El (a m:List Fm)(l d A:Int)(h0:0<=l):fmsR (a++m) l d A=(fmsR a l d A&&fmsR m (l-eS a) d A):=by
 induction a generalizing l with
 | nil =>
  rw[LI _ _ _ h0];simp only[f_,eS,Int.natCast_zero,Int.sub_zero,jV]
 | cons x a E =>
  rw[fq,vY,vY];by_cases D:fmR x l d A=true
  ·have:(x.size:Int)<=l:=by simp only[fmR,bAt,dTe] at D;exact D.1.1
   rw[E _ (by omega),qz];congr 3;simp only[eS];omega
  ·rw[Bool.not_eq_true] at D;rw[D];rfl
def oh (op:Nat)(n:ByteArray)(m:List Tm)(sub:List Fm)(l d A:Int):fmR (.mk op n m sub) l d A =
  ((decide (1<=l)&&decide (A<=d))&&iE op n m.length sub.length&&tmsR m (l-1) d (A+1)&&fmsR sub (l-1-fp m) d (A+1)):=by
 rw[m_];simp only[fmR,tmsR,fmsR,bAt,dTe];simp only[Fm.size,Fm.deep,Fm.ok,bAt];constructor
 ·rintro⟨⟨h2,h3⟩,⟨G,E⟩,D⟩;exact⟨⟨⟨⟨by omega,by omega⟩,G⟩,⟨⟨by omega,by omega⟩,E⟩⟩,⟨by omega,by omega⟩,D⟩
 ·rintro⟨⟨⟨⟨h1,h2⟩,G⟩,⟨⟨h7,U⟩,E⟩⟩,⟨O,J⟩,D⟩;exact⟨⟨by omega,by omega⟩,⟨G,E⟩,D⟩
variable (gl:Nat->Option IV)
def JF (f:Fm):Prop:=∀(x:IV) (_:IsFm f x) (b:Nat) (st:ISt) (l d A:Int) (_:st b=jBox l d) (_:0<=l) (_:l<=9223372036854775807) (_:0<=A) (_:A+f.size<=4611686018427387904),
  ICall prog gl 144 [.raw (.pointer (some ⟨b,0,none⟩)),x,A] st (ue b st l d (fmR f l d A) f.size)
def LJ (G:Gl gl)(op:Nat)(n:ByteArray)(us:List Tm)(sub:List Fm)(IH:∀a∈sub,JF gl a)(x:IV)(hx:IsFm (.mk op n us sub) x)(b:Nat)(st:ISt)(l d A:Int)(hb:st b=jBox l d)(h0:0<=l)(h1:l<=9223372036854775807)
  (h2:0<=A) (h3:A+(Fm.mk op n us sub).size<=4611686018427387904) :
  ICall prog gl 144 [.raw (.pointer (some ⟨b,0,none⟩)),x,A] st (ue b st l d (fmR (.mk op n us sub) l d A) (Fm.mk op n us sub).size):=by
 obtain⟨tg,xs,aB,ys,rfl,aT,aD,ab,am,hys⟩:=hx.mk;have ay:=G.rows;refine iI func144 ?_;simp only[go_sem,zE,zA,reduceCtorEq];refine (Eg gl b _ l d A hb h0 h1).q ?_;have D:∀r,r=false->fmR (.mk op n us sub) l d A=r->∀l',outK (ue b st l d (fmR (.mk op n us sub) l d A) (Fm.mk op n us sub).size) false (st.put b (jBox l' d)):=by
  rintro r rfl hr l';exact dw ⟨by rw[hr],l',rfl,λh=>by rw[hr] at h;cases h⟩
 cases hn:(decide (1<=l)&&decide (A<=d))
 ·simp only[go_sem,zE];exact D _ rfl (by simp[oh,hn]) _
 have aU:1<=l/\A<=d:=by simpa using hn
 have aj:=nc prog 5 3 D9 np .u8 op;have af:IntKind.i64.wrap (op:Int)=(op:Int):=w64 (by omega) (by omega);by_cases ho:op<17
 ·have ac:decide ((17:Int)<=(op:Int))=false:=dEf (by omega);have aa:(0:Int)<=(op:Int):=by omega
  obtain⟨ao,an⟩:=Ek op ho;cases E:iS op
  ·simp only[go_sem,zE,zB,zA,zL,reduceCtorEq,aj,af,ac,ay,aa,ho,ao,an,rowI,E,fits,b_,jBox];exact D _ rfl (by simp[oh,qY,E]) _
  have aG:jz op<=2:=by
   simp only[iS,bAt,dTe] at E
   match op,E with
   | 1,_=>decide|2,_=>decide|3,_=>decide|4,_=>decide|5,_=>decide|6,_=>decide|7,_=>decide|8,_=>decide|9,_=>decide|10,_=>decide|11,_=>decide|12,_=>decide|13,_=>decide|14,_=>decide
   | 0,h=>omega
   | k+15,h=>omega
  have aJ:decide ((op:Int)=16)=false:=by
   simp only[iS,bAt,dTe] at E;exact dEf (by omega)
  simp only[go_sem,zE,zB,zA,zL,aj,af,ac,ay,aa,ho,ao,an,rowI,E,fits];refine (LG gl _ aG n _).q ?_;cases au:kb (jz op) n
  ·simp only[go_sem,zE];exact D _ rfl (by simp[oh,qY,au]) _
  by_cases aw:us.length<=jr op
  case neg =>
   have J:decide (((jr op:Nat):Int)<((us.length:Nat):Int))=true:=dEt (by omega);simp only[go_sem,zE,zA,ab.len,J];intro _;exact D _ rfl (by simp[oh,qY,aw]) _
  have J:decide (((jr op:Nat):Int)<((us.length:Nat):Int))=false:=dEf (by omega);by_cases av:sub.length=js op
  case neg =>
   have U:decide (((sub.length:Nat):Int)=((js op:Nat):Int))=false:=dEf (by omega);simp only[go_sem,zE,zA,ab.len,J,hys.len,U];intro _ _;exact D _ rfl (by simp[oh,qY,av]) _
  have U:decide (((sub.length:Nat):Int)=((js op:Nat):Int))=true:=dEt (by omega);have aF:iE op n us.length sub.length=true:=by simp[qY,E,au,aw,av,ho]
  simp only[Fm.size] at h3;have hw:IntKind.i64.wrap (A+1)=A+1:=w64 (by omega) (by omega);simp only[go_sem,zE,zA,reduceCtorEq,ab.len,J,hys.len,U,aJ,hw];intro _ aQ;refine (Ej gl us tg xs aD ab b _ (l-1) d (A+1) (b_ _ _ _) (by omega) (by omega) (by omega) (by omega)).mono ?_;rintro _ _ ⟨rfl,l',rfl,ai⟩;cases hts:tmsR us (l-1) d (A+1)
  ·simp only[go_sem,fW];exact D _ rfl (by simp[oh,hts]) _
  have ah:=ai hts;subst ah;have aL:(fp us:Int)<=l-1:=by simp only[tmsR,bAt,dTe] at hts;exact hts.1.1
  simp only[go_sem,zE,hys.len,fW];intro _;refine dC sub.length (λk fr st' ds=>fmsR (sub.take k) (l-1-fp us) d (A+1)=true/\fr 0=.iv (.raw (.pointer (some ⟨b,0,none⟩)))/\fr 2=A/\fr 77=.iv (.sl aB ys) /\
   fr 78=sub.length/\fr 79=.iv (.raw (.int .i64 k))/\st'=st.put b (jBox (l-1-fp us-eS (sub.take k)) d)/\ds=[]) ?_ ?_ ?_
  ·have:l-1-(fp us:Int)-(eS ([]:List Fm):Int)=l-1-fp us:=by simp[eS]
   simp only[go_sem,zE,reduceCtorEq,this];simp[fmsR,eS,gZ,jR];omega
  ·rintro k fr _ ds ae ⟨O,f0,f2,f77,f78,f79,rfl,rfl⟩;obtain⟨a,ha⟩:=ed ae;obtain⟨x,aI,hx⟩:=hys.get ha;obtain⟨aE,aS⟩:=kW ha;obtain⟨aC,n2,aA,ak⟩:=a;obtain⟨t1,x1,t2,x2,rfl,_⟩:=hx.mk;have aV:(eS (sub.take k):Int)<=l-1-fp us:=by simp only[fmsR,bAt,dTe] at O;exact O.1.1
   simp only[go_sem,zE,zA,zL,reduceCtorEq,f0,f2,f77,f78,f79,lt_i ae,ec am,iNn,aI,hw];refine (IH _ (lMg ha) _ hx b _ (l-1-fp us-eS (sub.take k)) d (A+1) (b_ _ _ _) (by omega) (by omega) (by omega) (by omega)).mono ?_;rintro _ _ ⟨rfl,l',rfl,ai⟩;cases hr:fmR (.mk aC n2 aA ak) (l-1-fp us-eS (sub.take k)) d (A+1)
   ·simp only[go_sem,fW];refine D _ rfl ?_ _;have hf:fmsR sub (l-1-fp us) d (A+1)=false:=by
     rw[<- fh k sub,gB ae];rw[El _ _ _ _ _ (by omega),(lGs ha).2,vY,hr];simp
    simp[oh,hf]
   ·have ah:=ai hr;subst ah;simp only[go_sem,zE,reduceCtorEq,f0,f2,f77,f78,f79,ek ae (by omega),fW];refine⟨?_,?_⟩
    ·rw[en ha,El _ _ _ _ _ (by omega),O,vY,hr];simp only[fmR,bAt,dTe] at hr;simp[fmsR,eS,gZ,jR];omega
    ·rw[aE];congr 2;omega
  ·rintro fr _ ds ⟨O,f0,f2,f77,f78,f79,rfl,rfl⟩;simp only[go_sem,f78,f79,eI (nLi _)];rw[lTl] at O;refine dw ⟨by simp[oh,hn,aF,hts,O],_,rfl,?_⟩;intro _;rw[lTl];simp only[Fm.size];omega
 ·have ac:decide ((17:Int)<=(op:Int))=true:=dEt (by omega);simp only[go_sem,zE,zA,aj,af,ac];exact D _ rfl (by simp[oh,qY,ho]) _
def Em (G:Gl gl):∀(k:Nat) (f:Fm),SizeOf.sizeOf f<k->JF gl f
 | 0,f,h=>by omega
 | k+1,.mk op n us sub,h=>λx D b st l d A=>LJ gl G op n us sub (λa E=>Em G k a (by
   have:=lSm E;simp at h;omega)) x D b st l d A
def LK (G:Gl gl)(f:Fm):JF gl f:=Em gl G _ f (fP _)
end Go.Proofs.Tryz
namespace Go.Proofs.Tryz
open Go Go.Iv
set_option maxRecDepth 4000
variable (gl:Nat->Option IV)
def En (t:Tm)(x:IV)(A:IsTm t x)(hs:t.size<=1000000)(st:ISt):ICall prog gl 132 [x] st (λx st'=>x=t.ok/\st'=st):=by
 obtain⟨v,n,us⟩:=t;obtain⟨G,E,rfl,_⟩:=A.mk;refine ICall.intro (c:=cf prog gl [3] []) func132 rfl (by show _<=7;simp) (by kernel_rfl) ?_;simp only[go_sem,zE,zA,zL,Nat.reduceLeDiff];refine λb=>fc λD=>?_;simp only[go_sem,fW];refine (Ei gl v n us _ A b _ 9223372036854775807 9223372036854775807 1 (b_ _ _ _) (by omega) (by omega) (by omega) (by omega)).mono ?_;rintro _ _ ⟨rfl,J,rfl,_⟩;simp only[go_sem];have hd:=Tm.deep_le (.mk v n us);refine fN (st':=st) ?_ ⟨?_,rfl⟩
 ·intro c o hc;rw[ISt.put_apply,ISt.put_apply];split
  ·rename_i h;rw[h,D] at hc;cases hc
  ·exact hc
 ·simp only[tmR];rw[dEt (by omega),dEt (by omega)];simp
def uh (G:Gl gl)(f:Fm)(x:IV)(D:IsFm f x)(st:ISt)(hs:f.size<=1000000):ICall prog gl 107 [x] st (λx st'=>x=f.right/\st'=st):=by
 obtain⟨op,n,us,sub⟩:=f;obtain⟨U,O,E,ys,rfl,_⟩:=D.mk;refine ICall.intro (c:=cf prog gl [3] []) func107 rfl (by show _<=7;simp) (by kernel_rfl) ?_;simp only[go_sem,zE,zA,zL,Nat.reduceLeDiff];refine λb=>fc λJ=>?_;simp only[go_sem,fW];refine (LK gl G _ _ D b _ 400 40 1 (b_ _ _ _) (by omega) (by omega) (by omega) (by omega)).mono ?_;rintro _ _ ⟨rfl,l',rfl,_⟩;simp only[go_sem];refine fN (st':=st) ?_ ⟨?_,rfl⟩
 ·intro c o hc;rw[ISt.put_apply,ISt.put_apply];split
  ·rename_i h;rw[h,J] at hc;cases hc
  ·exact hc
 ·congr 2;rw[m_];simp only[fmR,Fm.right,bAt,dTe];constructor
  ·rintro⟨⟨h1,h2⟩,A⟩;exact⟨⟨A,by omega⟩,by omega⟩
  ·rintro⟨⟨A,h1⟩,h2⟩;exact⟨⟨by omega,by omega⟩,A⟩
