/- Walks: right formulas. -/
import Derived.Test.YtakbihknkdpmgaaGreatDoorJL
set_option linter.all false
open Nat renaming reduceEqDiff → zE,reduceBEq → zB,reduceAdd → zA,reduceLeDiff → zL
namespace Go.Proofs.Tryz
open Go Go.Iv
set_option maxRecDepth 4000
def gC (op:Nat):Bool:=decide (1<=op)&&decide (op<=14)
def xj (op:Nat):Bool:=decide (1<=op)
def iz (op:Nat):Nat:=match op with|1=>1|8=>2|9=>2|15=>3|16=>3|_=>0
def h_ (op:Nat):Nat:=match op with|1=>4|16=>2|_=>0
def ic (op:Nat):Nat:=match op with|3=>1|4=>2|5=>2|6=>2|7=>2|8=>1|9=>1|10=>1|11=>1|12=>1|13=>1|14=>2|_=>0
def rowI (op:Nat):List IV:=[(gC op:Bool),(xj op:Bool),.raw (.int .u8 (iz op)),(h_ op:Int),(ic op:Int)]
def rowsL:List IV:=(List.range 17).flatMap rowI
def Ck (op:Nat)(h:op<17):op*5+5<=rowsL.length/\(rowsL.drop (op*5)).take 5=rowI op:=by
 match op,h with
 | 0,_=>exact⟨by decide,rfl⟩|1,_=>exact⟨by decide,rfl⟩|2,_=>exact⟨by decide,rfl⟩|3,_=>exact⟨by decide,rfl⟩|4,_=>exact⟨by decide,rfl⟩|5,_=>exact⟨by decide,rfl⟩
 | 6,_=>exact⟨by decide,rfl⟩|7,_=>exact⟨by decide,rfl⟩|8,_=>exact⟨by decide,rfl⟩|9,_=>exact⟨by decide,rfl⟩|10,_=>exact⟨by decide,rfl⟩|11,_=>exact⟨by decide,rfl⟩
 | 12,_=>exact⟨by decide,rfl⟩|13,_=>exact⟨by decide,rfl⟩|14,_=>exact⟨by decide,rfl⟩|15,_=>exact⟨by decide,rfl⟩|16,_=>exact⟨by decide,rfl⟩
 | k+17,h=>omega
def pG (op:Nat)(n:ByteArray)(A ls:Nat):fV op n A ls=(((decide (op<17)&&gC op)&&jg (iz op) n)&&decide (A<=h_ op)&&decide (ls=ic op)):=by
 match op with
 | 0=>simp[fV,gC]
 | 1=>simp[fV,gC,iz,h_,ic,jg]
 | 2=>simp[fV,gC,iz,h_,ic,jg]
 | 3=>simp[fV,gC,iz,h_,ic,jg]
 | 4=>simp[fV,gC,iz,h_,ic,jg]
 | 5=>simp[fV,gC,iz,h_,ic,jg]
 | 6=>simp[fV,gC,iz,h_,ic,jg]
 | 7=>simp[fV,gC,iz,h_,ic,jg]
 | 8=>simp[fV,gC,iz,h_,ic,jg]
 | 9=>simp[fV,gC,iz,h_,ic,jg]
 | 10=>simp[fV,gC,iz,h_,ic,jg]
 | 11=>simp[fV,gC,iz,h_,ic,jg]
 | 12=>simp[fV,gC,iz,h_,ic,jg]
 | 13=>simp[fV,gC,iz,h_,ic,jg]
 | 14=>simp[fV,gC,iz,h_,ic,jg]
 | 15=>simp[fV,gC]
 | 16=>simp[fV,gC]
 | op+17=>simp[fV,gC]
structure Gl (gl:Nat->Option IV):Prop where
 rows:gl 0=some (.agg rowsL)
def fmR (f:Fm)(l d A:Int):Bool:=decide ((f.size:Int)<=l)&&decide (A+f.deep<=d+1)&&f.ok
def fmsR (f:List Fm)(l d A:Int):Bool:=decide ((dL f:Int)<=l)&&decide (eU f=0\/A+eU f<=d+1)&&gj f
def J_ (l d A:Int)(h:0<=l):fmsR [] l d A=true:=by simp[fmsR,dL,eU,gj,h]
def tW (a:Fm)(m:List Fm)(l d A:Int):fmsR (a::m) l d A=(fmR a l d A&&fmsR m (l-a.size) d A):=by
 rw[kN];have h1:=a.deep_pos;simp only[fmsR,fmR,bAt,dTe];simp only[dL,eU,gj,bAt];constructor
 ·rintro⟨⟨h2,J⟩,D,E⟩;refine⟨⟨⟨by omega,by omega⟩,D⟩,⟨by omega,by omega⟩,E⟩
 ·rintro⟨⟨⟨h2,J⟩,D⟩,⟨E,O⟩,G⟩;exact⟨⟨by omega,by omega⟩,D,G⟩
def Cm (a m:List Fm)(l d A:Int)(h0:0<=l):fmsR (a++m) l d A=(fmsR a l d A&&fmsR m (l-dL a) d A):=by
 induction a generalizing l with
 | nil =>
  rw[J_ _ _ _ h0];simp only[eY,dL,Int.natCast_zero,Int.sub_zero,g_]
 | cons x a E =>
  rw[ed,tW,tW];by_cases D:fmR x l d A=true
  ·have:(x.size:Int)<=l:=by simp only[fmR,bAt,dTe] at D;exact D.1.1
   rw[E _ (by omega),Bool.and_assoc];congr 3;simp only[dL];omega
  ·rw[Bool.not_eq_true] at D;rw[D];rfl
def mL (op:Nat)(n:ByteArray)(m:List Tm)(sub:List Fm)(l d A:Int):fmR (.mk op n m sub) l d A =
  ((decide (1<=l)&&decide (A<=d))&&fV op n m.length sub.length&&tmsR m (l-1) d (A+1)&&fmsR sub (l-1-dP m) d (A+1)):=by
 rw[kN];simp only[fmR,tmsR,fmsR,bAt,dTe];simp only[Fm.size,Fm.deep,Fm.ok,bAt];constructor
 ·rintro⟨⟨h2,h3⟩,⟨G,E⟩,D⟩;exact⟨⟨⟨⟨by omega,by omega⟩,G⟩,⟨⟨by omega,by omega⟩,E⟩⟩,⟨by omega,by omega⟩,D⟩
 ·rintro⟨⟨⟨⟨h1,h2⟩,G⟩,⟨⟨h7,U⟩,E⟩⟩,⟨O,J⟩,D⟩;exact⟨⟨by omega,by omega⟩,⟨G,E⟩,D⟩
variable (gl:Nat->Option IV)
def JF (f:Fm):Prop:=∀(x:IV) (_:IsFm f x) (b:Nat) (st:ISt) (l d A:Int) (_:st b=jBox l d) (_:0<=l) (_:l<=9223372036854775807) (_:0<=A) (_:A+f.size<=4611686018427387904),
  ICall prog gl 145 [.raw (.pointer (some ⟨b,0,none⟩)),x,A] st (rq b st l d (fmR f l d A) f.size)
def Ka (G:Gl gl)(op:Nat)(n:ByteArray)(us:List Tm)(sub:List Fm)(IH:∀a∈sub,JF gl a)(x:IV)(hx:IsFm (.mk op n us sub) x)(b:Nat)(st:ISt)(l d A:Int)(hb:st b=jBox l d)(h0:0<=l)(h1:l<=9223372036854775807)
  (h2:0<=A) (h3:A+(Fm.mk op n us sub).size<=4611686018427387904) :
  ICall prog gl 145 [.raw (.pointer (some ⟨b,0,none⟩)),x,A] st (rq b st l d (fmR (.mk op n us sub) l d A) (Fm.mk op n us sub).size):=by
 obtain⟨tg,xs,aB,ys,rfl,aT,aD,ab,am,hys⟩:=hx.mk;have ay:=G.rows;refine iI func145 ?_;simp only[go_sem,zE,zA,reduceCtorEq];refine (Cg gl b _ l d A hb h0 h1).q ?_;have D:∀r,r=false->fmR (.mk op n us sub) l d A=r->∀l',outK (rq b st l d (fmR (.mk op n us sub) l d A) (Fm.mk op n us sub).size) false (st.put b (jBox l' d)):=by
  rintro r rfl hr l';exact c_ ⟨by rw[hr],l',rfl,λh=>by rw[hr] at h;cases h⟩
 cases hn:(decide (1<=l)&&decide (A<=d))
 ·simp only[go_sem,zE];exact D _ rfl (by simp[mL,hn]) _
 have aU:1<=l/\A<=d:=by simpa using hn
 have aj:=l7 prog 5 3 B_ l_ .u8 op;have af:IntKind.i64.wrap (op:Int)=(op:Int):=w64 (by omega) (by omega);by_cases ho:op<17
 ·have ac:decide ((17:Int)<=(op:Int))=false:=dEf (by omega);have aa:(0:Int)<=(op:Int):=by omega
  obtain⟨ao,an⟩:=Ck op ho;cases E:gC op
  ·simp only[go_sem,zE,zB,zA,zL,reduceCtorEq,aj,af,ac,ay,aa,ho,ao,an,rowI,E,fits,b_,jBox];exact D _ rfl (by simp[mL,pG,E]) _
  have aG:iz op<=2:=by
   simp only[gC,bAt,dTe] at E
   match op,E with
   | 1,_=>decide|2,_=>decide|3,_=>decide|4,_=>decide|5,_=>decide|6,_=>decide|7,_=>decide|8,_=>decide|9,_=>decide|10,_=>decide|11,_=>decide|12,_=>decide|13,_=>decide|14,_=>decide
   | 0,h=>omega
   | k+15,h=>omega
  have aJ:decide ((op:Int)=16)=false:=by
   simp only[gC,bAt,dTe] at E;exact dEf (by omega)
  simp only[go_sem,zE,zB,zA,zL,aj,af,ac,ay,aa,ho,ao,an,rowI,E,fits];refine (J8 gl _ aG n _).q ?_;cases au:jg (iz op) n
  ·simp only[go_sem,zE];exact D _ rfl (by simp[mL,pG,au]) _
  by_cases aw:us.length<=h_ op
  case neg =>
   have J:decide (((h_ op:Nat):Int)<((us.length:Nat):Int))=true:=dEt (by omega);simp only[go_sem,zE,zA,ab.len,J];intro _;exact D _ rfl (by simp[mL,pG,aw]) _
  have J:decide (((h_ op:Nat):Int)<((us.length:Nat):Int))=false:=dEf (by omega);by_cases av:sub.length=ic op
  case neg =>
   have U:decide (((sub.length:Nat):Int)=((ic op:Nat):Int))=false:=dEf (by omega);simp only[go_sem,zE,zA,ab.len,J,hys.len,U];intro _ _;exact D _ rfl (by simp[mL,pG,av]) _
  have U:decide (((sub.length:Nat):Int)=((ic op:Nat):Int))=true:=dEt (by omega);have aF:fV op n us.length sub.length=true:=by simp[pG,E,au,aw,av,ho]
  simp only[Fm.size] at h3;have hw:IntKind.i64.wrap (A+1)=A+1:=w64 (by omega) (by omega);simp only[go_sem,zE,zA,reduceCtorEq,ab.len,J,hys.len,U,aJ,hw];intro _ aQ;refine (Cj gl us tg xs aD ab b _ (l-1) d (A+1) (b_ _ _ _) (by omega) (by omega) (by omega) (by omega)).mono ?_;rintro _ _ ⟨rfl,l',rfl,ai⟩;cases hts:tmsR us (l-1) d (A+1)
  ·simp only[go_sem,eN];exact D _ rfl (by simp[mL,hts]) _
  have ah:=ai hts;subst ah;have aL:(dP us:Int)<=l-1:=by simp only[tmsR,bAt,dTe] at hts;exact hts.1.1
  simp only[go_sem,zE,hys.len,eN];intro _;refine dj sub.length (λk fr st' ds=>fmsR (sub.take k) (l-1-dP us) d (A+1)=true/\fr 0=.iv (.raw (.pointer (some ⟨b,0,none⟩)))/\fr 2=A/\fr 77=.iv (.sl aB ys) /\
   fr 78=sub.length/\fr 79=.iv (.raw (.int .i64 k))/\st'=st.put b (jBox (l-1-dP us-dL (sub.take k)) d)/\ds=[]) ?_ ?_ ?_
  ·have:l-1-(dP us:Int)-(dL ([]:List Fm):Int)=l-1-dP us:=by simp[dL]
   simp only[go_sem,zE,reduceCtorEq,this];simp[fmsR,dL,eU,gj];omega
  ·rintro k fr _ ds ae ⟨O,f0,f2,f77,f78,f79,rfl,rfl⟩;obtain⟨a,ha⟩:=dB ae;obtain⟨x,aI,hx⟩:=hys.get ha;obtain⟨aE,aS⟩:=jr ha;obtain⟨aC,n2,aA,ak⟩:=a;obtain⟨t1,x1,t2,x2,rfl,_⟩:=hx.mk;have aV:(dL (sub.take k):Int)<=l-1-dP us:=by simp only[fmsR,bAt,dTe] at O;exact O.1.1
   simp only[go_sem,zE,zA,zL,reduceCtorEq,f0,f2,f77,f78,f79,lt_i ae,dz am,iNn,aI,hw];refine (IH _ (lMg ha) _ hx b _ (l-1-dP us-dL (sub.take k)) d (A+1) (b_ _ _ _) (by omega) (by omega) (by omega) (by omega)).mono ?_;rintro _ _ ⟨rfl,l',rfl,ai⟩;cases hr:fmR (.mk aC n2 aA ak) (l-1-dP us-dL (sub.take k)) d (A+1)
   ·simp only[go_sem,eN];refine D _ rfl ?_ _;have hf:fmsR sub (l-1-dP us) d (A+1)=false:=by
     rw[<- el k sub,fa ae];rw[Cm _ _ _ _ _ (by omega),(lGs ha).2,tW,hr];simp
    simp[mL,hf]
   ·have ah:=ai hr;subst ah;simp only[go_sem,zE,reduceCtorEq,f0,f2,f77,f78,f79,dC ae (by omega),eN];refine⟨?_,?_⟩
    ·rw[dE ha,Cm _ _ _ _ _ (by omega),O,tW,hr];simp only[fmR,bAt,dTe] at hr;simp[fmsR,dL,eU,gj];omega
    ·rw[aE];congr 2;omega
  ·rintro fr _ ds ⟨O,f0,f2,f77,f78,f79,rfl,rfl⟩;simp only[go_sem,f78,f79,dF (nLi _)];rw[lTl] at O;refine c_ ⟨by simp[mL,hn,aF,hts,O],_,rfl,?_⟩;intro _;rw[lTl];simp only[Fm.size];omega
 ·have ac:decide ((17:Int)<=(op:Int))=true:=dEt (by omega);simp only[go_sem,zE,zA,aj,af,ac];exact D _ rfl (by simp[mL,pG,ho]) _
def Cn (G:Gl gl):∀(k:Nat) (f:Fm),SizeOf.sizeOf f<k->JF gl f
 | 0,f,h=>by omega
 | k+1,.mk op n us sub,h=>λx D b st l d A=>Ka gl G op n us sub (λa E=>Cn G k a (by
   have:=lSm E;simp at h;omega)) x D b st l d A
def Kb (G:Gl gl)(f:Fm):JF gl f:=Cn gl G _ f (ew _)
end Go.Proofs.Tryz
namespace Go.Proofs.Tryz
open Go Go.Iv
set_option maxRecDepth 4000
variable (gl:Nat->Option IV)
def Co (t:Tm)(x:IV)(A:IsTm t x)(hs:t.size<=1000000)(st:ISt):ICall prog gl 133 [x] st (λx st'=>x=t.ok/\st'=st):=by
 obtain⟨v,n,us⟩:=t;obtain⟨G,E,rfl,_⟩:=A.mk;refine ICall.intro (c:=cf prog gl [3] []) func133 rfl (by show _<=7;simp) (by kernel_rfl) ?_;simp only[go_sem,zE,zA,zL,Nat.reduceLeDiff];refine λb=>d_ λD=>?_;simp only[go_sem,eN];refine (Ci gl v n us _ A b _ 9223372036854775807 9223372036854775807 1 (b_ _ _ _) (by omega) (by omega) (by omega) (by omega)).mono ?_;rintro _ _ ⟨rfl,J,rfl,_⟩;simp only[go_sem];have hd:=Tm.deep_le (.mk v n us);refine ez (st':=st) ?_ ⟨?_,rfl⟩
 ·intro c o hc;rw[ISt.put_apply,ISt.put_apply];split
  ·rename_i h;rw[h,D] at hc;cases hc
  ·exact hc
 ·simp only[tmR];rw[dEt (by omega),dEt (by omega)];simp
def rv (G:Gl gl)(f:Fm)(x:IV)(D:IsFm f x)(st:ISt)(hs:f.size<=1000000):ICall prog gl 112 [x] st (λx st'=>x=f.right/\st'=st):=by
 obtain⟨op,n,us,sub⟩:=f;obtain⟨U,O,E,ys,rfl,_⟩:=D.mk;refine ICall.intro (c:=cf prog gl [3] []) func112 rfl (by show _<=7;simp) (by kernel_rfl) ?_;simp only[go_sem,zE,zA,zL,Nat.reduceLeDiff];refine λb=>d_ λJ=>?_;simp only[go_sem,eN];refine (Kb gl G _ _ D b _ 400 40 1 (b_ _ _ _) (by omega) (by omega) (by omega) (by omega)).mono ?_;rintro _ _ ⟨rfl,l',rfl,_⟩;simp only[go_sem];refine ez (st':=st) ?_ ⟨?_,rfl⟩
 ·intro c o hc;rw[ISt.put_apply,ISt.put_apply];split
  ·rename_i h;rw[h,J] at hc;cases hc
  ·exact hc
 ·congr 2;rw[kN];simp only[fmR,Fm.right,bAt,dTe];constructor
  ·rintro⟨⟨h1,h2⟩,A⟩;exact⟨⟨A,by omega⟩,by omega⟩
  ·rintro⟨⟨A,h1⟩,h2⟩;exact⟨⟨by omega,by omega⟩,A⟩
