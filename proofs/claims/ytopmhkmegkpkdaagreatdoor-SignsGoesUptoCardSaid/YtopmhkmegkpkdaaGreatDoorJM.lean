/- Walks: right formulas. -/
import Derived.Test.YtopmhkmegkpkdaaGreatDoorJL
set_option linter.all false
open Nat renaming reduceEqDiff → zE,reduceBEq → zB,reduceAdd → zA,reduceLeDiff → zL
namespace Go.Proofs.Tryz
open Go Go.Iv
set_option maxRecDepth 4000
def gJ (op:Nat):Bool:=decide (1<=op)&&decide (op<=14)
def wo (op:Nat):Bool:=decide (1<=op)
def iO (op:Nat):Nat:=match op with|1=>1|8=>2|9=>2|15=>3|16=>3|_=>0
def iE (op:Nat):Nat:=match op with|1=>4|16=>2|_=>0
def iF (op:Nat):Nat:=match op with|3=>1|4=>2|5=>2|6=>2|7=>2|8=>1|9=>1|10=>1|11=>1|12=>1|13=>1|14=>2|_=>0
def rowI (op:Nat):List IV:=[(gJ op:Bool),(wo op:Bool),.raw (.int .u8 (iO op)),(iE op:Int),(iF op:Int)]
def rowsL:List IV:=(List.range 17).flatMap rowI
def BU (op:Nat)(h:op<17):op*5+5<=rowsL.length/\(rowsL.drop (op*5)).take 5=rowI op:=by
 match op,h with
 | 0,_=>exact⟨by decide,rfl⟩|1,_=>exact⟨by decide,rfl⟩|2,_=>exact⟨by decide,rfl⟩|3,_=>exact⟨by decide,rfl⟩|4,_=>exact⟨by decide,rfl⟩|5,_=>exact⟨by decide,rfl⟩
 | 6,_=>exact⟨by decide,rfl⟩|7,_=>exact⟨by decide,rfl⟩|8,_=>exact⟨by decide,rfl⟩|9,_=>exact⟨by decide,rfl⟩|10,_=>exact⟨by decide,rfl⟩|11,_=>exact⟨by decide,rfl⟩
 | 12,_=>exact⟨by decide,rfl⟩|13,_=>exact⟨by decide,rfl⟩|14,_=>exact⟨by decide,rfl⟩|15,_=>exact⟨by decide,rfl⟩|16,_=>exact⟨by decide,rfl⟩
 | k+17,h=>omega
def pX (op:Nat)(n:ByteArray)(A ls:Nat):el op n A ls=(((decide (op<17)&&gJ op)&&jz (iO op) n)&&decide (A<=iE op)&&decide (ls=iF op)):=by
 match op with
 | 0=>simp[el,gJ]
 | 1=>simp[el,gJ,iO,iE,iF,jz]
 | 2=>simp[el,gJ,iO,iE,iF,jz]
 | 3=>simp[el,gJ,iO,iE,iF,jz]
 | 4=>simp[el,gJ,iO,iE,iF,jz]
 | 5=>simp[el,gJ,iO,iE,iF,jz]
 | 6=>simp[el,gJ,iO,iE,iF,jz]
 | 7=>simp[el,gJ,iO,iE,iF,jz]
 | 8=>simp[el,gJ,iO,iE,iF,jz]
 | 9=>simp[el,gJ,iO,iE,iF,jz]
 | 10=>simp[el,gJ,iO,iE,iF,jz]
 | 11=>simp[el,gJ,iO,iE,iF,jz]
 | 12=>simp[el,gJ,iO,iE,iF,jz]
 | 13=>simp[el,gJ,iO,iE,iF,jz]
 | 14=>simp[el,gJ,iO,iE,iF,jz]
 | 15=>simp[el,gJ]
 | 16=>simp[el,gJ]
 | op+17=>simp[el,gJ]
structure Gl (gl:Nat->Option IV):Prop where
 rows:gl 0=some (.agg rowsL)
def fmR (f:Fm)(l d A:Int):Bool:=decide ((f.size:Int)<=l)&&decide (A+f.deep<=d+1)&&f.ok
def fmsR (f:List Fm)(l d A:Int):Bool:=decide ((dt f:Int)<=l)&&decide (eU f=0\/A+eU f<=d+1)&&gC f
def JN (l d A:Int)(h:0<=l):fmsR [] l d A=true:=by simp[fmsR,dt,eU,gC,h]
def s7 (a:Fm)(m:List Fm)(l d A:Int):fmsR (a::m) l d A=(fmR a l d A&&fmsR m (l-a.size) d A):=by
 rw[mf];have h1:=a.deep_pos;simp only[fmsR,fmR,bAt,dTe];simp only[dt,eU,gC,bAt];constructor
 ·rintro⟨⟨h2,U⟩,D,E⟩;refine⟨⟨⟨by omega,by omega⟩,D⟩,⟨by omega,by omega⟩,E⟩
 ·rintro⟨⟨⟨h2,U⟩,D⟩,⟨E,W⟩,O⟩;exact⟨⟨by omega,by omega⟩,D,O⟩
def BV (a m:List Fm)(l d A:Int)(E:0<=l):fmsR (a++m) l d A=(fmsR a l d A&&fmsR m (l-dt a) d A):=by
 induction a generalizing l with
 | nil =>
  rw[JN _ _ _ E];simp only[gz,dt,Int.natCast_zero,Int.sub_zero,eM]
 | cons x a D =>
  rw[dX,s7,s7];by_cases hx:fmR x l d A=true
  ·have:(x.size:Int)<=l:=by simp only[fmR,bAt,dTe] at hx;exact hx.1.1
   rw[D _ (by omega),me];congr 3;simp only[dt];omega
  ·rw[Bool.not_eq_true] at hx;rw[hx];rfl
def mX (op:Nat)(n:ByteArray)(m:List Tm)(sub:List Fm)(l d A:Int):fmR (.mk op n m sub) l d A =
  ((decide (1<=l)&&decide (A<=d))&&el op n m.length sub.length&&tmsR m (l-1) d (A+1)&&fmsR sub (l-1-dN m) d (A+1)):=by
 rw[mf];simp only[fmR,tmsR,fmsR,bAt,dTe];simp only[Fm.size,Fm.deep,Fm.ok,bAt];constructor
 ·rintro⟨⟨h2,h3⟩,⟨O,E⟩,D⟩;exact⟨⟨⟨⟨by omega,by omega⟩,O⟩,⟨⟨by omega,by omega⟩,E⟩⟩,⟨by omega,by omega⟩,D⟩
 ·rintro⟨⟨⟨⟨h1,h2⟩,O⟩,⟨⟨h7,h8⟩,E⟩⟩,⟨W,U⟩,D⟩;exact⟨⟨by omega,by omega⟩,⟨O,E⟩,D⟩
variable (gl:Nat->Option IV)
def JF (f:Fm):Prop:=∀(x:IV) (_:IsFm f x) (b:Nat) (st:ISt) (l d A:Int) (_:st b=jBox l d) (_:0<=l) (_:l<=9223372036854775807) (_:0<=A) (_:A+f.size<=4611686018427387904),
  ICall prog gl 134 [.raw (.pointer (some ⟨b,0,none⟩)),x,A] st (rv b st l d (fmR f l d A) f.size)
def JO (G:Gl gl)(op:Nat)(n:ByteArray)(us:List Tm)(sub:List Fm)(IH:∀a∈sub,JF gl a)(x:IV)(hx:IsFm (.mk op n us sub) x)(b:Nat)(st:ISt)(l d A:Int)(hb:st b=jBox l d)(h0:0<=l)(h1:l<=9223372036854775807)
  (h2:0<=A) (h3:A+(Fm.mk op n us sub).size<=4611686018427387904) :
  ICall prog gl 134 [.raw (.pointer (some ⟨b,0,none⟩)),x,A] st (rv b st l d (fmR (.mk op n us sub) l d A) (Fm.mk op n us sub).size):=by
 obtain⟨tg,xs,aB,ys,rfl,aO,aD,ac,ao,hys⟩:=hx.mk;have az:=G.rows;refine iI func134 ?_;simp only[go_sem,zE,zA,reduceCtorEq];refine (BP gl b _ l d A hb h0 h1).q ?_;have D:∀r,r=false->fmR (.mk op n us sub) l d A=r->∀l',outK (rv b st l d (fmR (.mk op n us sub) l d A) (Fm.mk op n us sub).size) false (st.put b (jBox l' d)):=by
  rintro r rfl hr l';exact cO ⟨by rw[hr],l',rfl,λh=>by rw[hr] at h;cases h⟩
 cases hn:(decide (1<=l)&&decide (A<=d))
 ·simp only[go_sem,zE];exact D _ rfl (by simp[mX,hn]) _
 have aR:1<=l/\A<=d:=by simpa using hn
 have ak:=z_ prog 5 3 BJ BI .u8 op;have ag:IntKind.i64.wrap (op:Int)=(op:Int):=w64 (by omega) (by omega);by_cases ho:op<17
 ·have ae:decide ((17:Int)<=(op:Int))=false:=dEf (by omega);have ab:(0:Int)<=(op:Int):=by omega
  obtain⟨ar,aq⟩:=BU op ho;cases E:gJ op
  ·simp only[go_sem,zE,zB,zA,zL,reduceCtorEq,ak,ag,ae,az,ab,ho,ar,aq,rowI,E,fits,cT,jBox];exact D _ rfl (by simp[mX,pX,E]) _
  have aF:iO op<=2:=by
   simp only[gJ,bAt,dTe] at E
   match op,E with
   | 1,_=>decide|2,_=>decide|3,_=>decide|4,_=>decide|5,_=>decide|6,_=>decide|7,_=>decide|8,_=>decide|9,_=>decide|10,_=>decide|11,_=>decide|12,_=>decide|13,_=>decide|14,_=>decide
   | 0,h=>omega
   | k+15,h=>omega
  have aI:decide ((op:Int)=16)=false:=by
   simp only[gJ,bAt,dTe] at E;exact dEf (by omega)
  simp only[go_sem,zE,zB,zA,zL,ak,ag,ae,az,ab,ho,ar,aq,rowI,E,fits];refine (JL gl _ aF n _).q ?_;cases av:jz (iO op) n
  ·simp only[go_sem,zE];exact D _ rfl (by simp[mX,pX,av]) _
  by_cases ax:us.length<=iE op
  case neg =>
   have O:decide (((iE op:Nat):Int)<((us.length:Nat):Int))=true:=dEt (by omega);simp only[go_sem,zE,zA,ac.len,O];intro _;exact D _ rfl (by simp[mX,pX,ax]) _
  have O:decide (((iE op:Nat):Int)<((us.length:Nat):Int))=false:=dEf (by omega);by_cases aw:sub.length=iF op
  case neg =>
   have aa:decide (((sub.length:Nat):Int)=((iF op:Nat):Int))=false:=dEf (by omega);simp only[go_sem,zE,zA,ac.len,O,hys.len,aa];intro _ _;exact D _ rfl (by simp[mX,pX,aw]) _
  have aa:decide (((sub.length:Nat):Int)=((iF op:Nat):Int))=true:=dEt (by omega);have aE:el op n us.length sub.length=true:=by simp[pX,E,av,ax,aw,ho]
  simp only[Fm.size] at h3;have hw:IntKind.i64.wrap (A+1)=A+1:=w64 (by omega) (by omega);simp only[go_sem,zE,zA,reduceCtorEq,ac.len,O,hys.len,aa,aI,hw];intro _ aN;refine (BS gl us tg xs aD ac b _ (l-1) d (A+1) (cT _ _ _) (by omega) (by omega) (by omega) (by omega)).mono ?_;rintro _ _ ⟨rfl,l',rfl,aj⟩;cases W:tmsR us (l-1) d (A+1)
  ·simp only[go_sem,eZ];exact D _ rfl (by simp[mX,W]) _
  have ai:=aj W;subst ai;have aK:(dN us:Int)<=l-1:=by simp only[tmsR,bAt,dTe] at W;exact W.1.1
  simp only[go_sem,zE,hys.len,eZ];intro _;refine cV sub.length (λk fr st' ds=>fmsR (sub.take k) (l-1-dN us) d (A+1)=true/\fr 0=.iv (.raw (.pointer (some ⟨b,0,none⟩)))/\fr 2=A/\fr 77=.iv (.sl aB ys) /\
   fr 78=sub.length/\fr 79=.iv (.raw (.int .i64 k))/\st'=st.put b (jBox (l-1-dN us-dt (sub.take k)) d)/\ds=[]) ?_ ?_ ?_
  ·have:l-1-(dN us:Int)-(dt ([]:List Fm):Int)=l-1-dN us:=by simp[dt]
   simp only[go_sem,zE,reduceCtorEq,this];simp[fmsR,dt,eU,gC];omega
  ·rintro k fr _ ds af ⟨U,f0,f2,f77,f78,f79,rfl,rfl⟩;obtain⟨a,ha⟩:=dd af;obtain⟨x,aH,hx⟩:=hys.get ha;obtain⟨hs1,hs2⟩:=jK ha;obtain⟨aC,n2,aA,am⟩:=a;obtain⟨t1,x1,t2,x2,rfl,_⟩:=hx.mk;have aS:(dt (sub.take k):Int)<=l-1-dN us:=by simp only[fmsR,bAt,dTe] at U;exact U.1.1
   simp only[go_sem,zE,zA,zL,reduceCtorEq,f0,f2,f77,f78,f79,lt_i af,dc ao,iNn,aH,hw];refine (IH _ (lMg ha) _ hx b _ (l-1-dN us-dt (sub.take k)) d (A+1) (cT _ _ _) (by omega) (by omega) (by omega) (by omega)).mono ?_;rintro _ _ ⟨rfl,l',rfl,aj⟩;cases hr:fmR (.mk aC n2 aA am) (l-1-dN us-dt (sub.take k)) d (A+1)
   ·simp only[go_sem,eZ];refine D _ rfl ?_ _;have hf:fmsR sub (l-1-dN us) d (A+1)=false:=by
     rw[<- eF k sub,fM af];rw[BV _ _ _ _ _ (by omega),(lGs ha).2,s7,hr];simp
    simp[mX,hf]
   ·have ai:=aj hr;subst ai;simp only[go_sem,zE,reduceCtorEq,f0,f2,f77,f78,f79,df af (by omega),eZ];refine⟨?_,?_⟩
    ·rw[dK ha,BV _ _ _ _ _ (by omega),U,s7,hr];simp only[fmR,bAt,dTe] at hr;simp[fmsR,dt,eU,gC];omega
    ·rw[hs1];congr 2;omega
  ·rintro fr _ ds ⟨U,f0,f2,f77,f78,f79,rfl,rfl⟩;simp only[go_sem,f78,f79,dD (nLi _)];rw[lTl] at U;refine cO ⟨by simp[mX,hn,aE,W,U],_,rfl,?_⟩;intro _;rw[lTl];simp only[Fm.size];omega
 ·have ae:decide ((17:Int)<=(op:Int))=true:=dEt (by omega);simp only[go_sem,zE,zA,ak,ag,ae];exact D _ rfl (by simp[mX,pX,ho]) _
def BW (G:Gl gl):∀(k:Nat) (f:Fm),SizeOf.sizeOf f<k->JF gl f
 | 0,f,h=>by omega
 | k+1,.mk op n us sub,h=>λx hx b st l d A=>JO gl G op n us sub (λa D=>BW G k a (by
   have:=lSm D;simp at h;omega)) x hx b st l d A
def JP (G:Gl gl)(f:Fm):JF gl f:=BW gl G _ f (dM _)
end Go.Proofs.Tryz
namespace Go.Proofs.Tryz
open Go Go.Iv
set_option maxRecDepth 4000
variable (gl:Nat->Option IV)
def BX (t:Tm)(x:IV)(hx:IsTm t x)(U:t.size<=1000000)(st:ISt):ICall prog gl 188 [x] st (λx st'=>x=t.ok/\st'=st):=by
 obtain⟨v,n,us⟩:=t;obtain⟨E,D,rfl,_⟩:=hx.mk;refine ICall.intro (c:=cf prog gl [3] []) func188 rfl (by show _<=7;simp) (by kernel_rfl) ?_;simp only[go_sem,zE,zA,zL,Nat.reduceLeDiff];refine λb=>eB λA=>?_;simp only[go_sem,eZ];refine (BR gl v n us _ hx b _ 9223372036854775807 9223372036854775807 1 (cT _ _ _) (by omega) (by omega) (by omega) (by omega)).mono ?_;rintro _ _ ⟨rfl,O,rfl,_⟩;simp only[go_sem];have hd:=Tm.deep_le (.mk v n us);refine dZ (st':=st) ?_ ⟨?_,rfl⟩
 ·intro c o hc;rw[ISt.put_apply,ISt.put_apply];split
  ·rename_i h;rw[h,A] at hc;cases hc
  ·exact hc
 ·simp only[tmR];rw[dEt (by omega),dEt (by omega)];simp
def rz (G:Gl gl)(f:Fm)(x:IV)(hx:IsFm f x)(st:ISt)(hs:f.size<=1000000):ICall prog gl 101 [x] st (λx st'=>x=f.right/\st'=st):=by
 obtain⟨op,n,us,sub⟩:=f;obtain⟨U,O,D,ys,rfl,_⟩:=hx.mk;refine ICall.intro (c:=cf prog gl [3] []) func101 rfl (by show _<=7;simp) (by kernel_rfl) ?_;simp only[go_sem,zE,zA,zL,Nat.reduceLeDiff];refine λb=>eB λE=>?_;simp only[go_sem,eZ];refine (JP gl G _ _ hx b _ 400 40 1 (cT _ _ _) (by omega) (by omega) (by omega) (by omega)).mono ?_;rintro _ _ ⟨rfl,W,rfl,_⟩;simp only[go_sem];refine dZ (st':=st) ?_ ⟨?_,rfl⟩
 ·intro c o hc;rw[ISt.put_apply,ISt.put_apply];split
  ·rename_i h;rw[h,E] at hc;cases hc
  ·exact hc
 ·congr 2;rw[mf];simp only[fmR,Fm.right,bAt,dTe];constructor
  ·rintro⟨⟨h1,h2⟩,A⟩;exact⟨⟨A,by omega⟩,by omega⟩
  ·rintro⟨⟨A,h1⟩,h2⟩;exact⟨⟨by omega,by omega⟩,A⟩
