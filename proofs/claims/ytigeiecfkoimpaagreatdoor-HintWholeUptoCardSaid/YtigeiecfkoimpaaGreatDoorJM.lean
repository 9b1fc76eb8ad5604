/- Walks: right formulas. -/
import Derived.Test.YtigeiecfkoimpaaGreatDoorJL
set_option linter.all false
open Nat renaming reduceEqDiff → zE,reduceBEq → zB,reduceAdd → zA,reduceLeDiff → zL
namespace Go.Proofs.Tryz
open Go Go.Iv
set_option maxRecDepth 4000
def gQ (op:Nat):Bool:=decide (1<=op)&&decide (op<=14)
def xF (op:Nat):Bool:=decide (1<=op)
def iG (op:Nat):Nat:=match op with|1=>1|8=>2|9=>2|15=>3|16=>3|_=>0
def iz (op:Nat):Nat:=match op with|1=>4|16=>2|_=>0
def iA (op:Nat):Nat:=match op with|3=>1|4=>2|5=>2|6=>2|7=>2|8=>1|9=>1|10=>1|11=>1|12=>1|13=>1|14=>2|_=>0
def rowI (op:Nat):List IV:=[(gQ op:Bool),(xF op:Bool),.raw (.int .u8 (iG op)),(iz op:Int),(iA op:Int)]
def rowsL:List IV:=(List.range 17).flatMap rowI
def CA (op:Nat)(h:op<17):op*5+5<=rowsL.length/\(rowsL.drop (op*5)).take 5=rowI op:=by
 match op,h with
 | 0,_=>exact⟨by decide,rfl⟩|1,_=>exact⟨by decide,rfl⟩|2,_=>exact⟨by decide,rfl⟩|3,_=>exact⟨by decide,rfl⟩|4,_=>exact⟨by decide,rfl⟩|5,_=>exact⟨by decide,rfl⟩
 | 6,_=>exact⟨by decide,rfl⟩|7,_=>exact⟨by decide,rfl⟩|8,_=>exact⟨by decide,rfl⟩|9,_=>exact⟨by decide,rfl⟩|10,_=>exact⟨by decide,rfl⟩|11,_=>exact⟨by decide,rfl⟩
 | 12,_=>exact⟨by decide,rfl⟩|13,_=>exact⟨by decide,rfl⟩|14,_=>exact⟨by decide,rfl⟩|15,_=>exact⟨by decide,rfl⟩|16,_=>exact⟨by decide,rfl⟩
 | k+17,h=>omega
def pN (op:Nat)(n:ByteArray)(D ls:Nat):gB op n D ls=(((decide (op<17)&&gQ op)&&jr (iG op) n)&&decide (D<=iz op)&&decide (ls=iA op)):=by
 match op with
 | 0=>simp[gB,gQ]
 | 1=>simp[gB,gQ,iG,iz,iA,jr]
 | 2=>simp[gB,gQ,iG,iz,iA,jr]
 | 3=>simp[gB,gQ,iG,iz,iA,jr]
 | 4=>simp[gB,gQ,iG,iz,iA,jr]
 | 5=>simp[gB,gQ,iG,iz,iA,jr]
 | 6=>simp[gB,gQ,iG,iz,iA,jr]
 | 7=>simp[gB,gQ,iG,iz,iA,jr]
 | 8=>simp[gB,gQ,iG,iz,iA,jr]
 | 9=>simp[gB,gQ,iG,iz,iA,jr]
 | 10=>simp[gB,gQ,iG,iz,iA,jr]
 | 11=>simp[gB,gQ,iG,iz,iA,jr]
 | 12=>simp[gB,gQ,iG,iz,iA,jr]
 | 13=>simp[gB,gQ,iG,iz,iA,jr]
 | 14=>simp[gB,gQ,iG,iz,iA,jr]
 | 15=>simp[gB,gQ]
 | 16=>simp[gB,gQ]
 | op+17=>simp[gB,gQ]
structure Gl (gl:Nat->Option IV):Prop where
 rows:gl 0=some (.agg rowsL)
def fmR (f:Fm)(l d D:Int):Bool:=decide ((f.size:Int)<=l)&&decide (D+f.deep<=d+1)&&f.ok
def fmsR (f:List Fm)(l d D:Int):Bool:=decide ((dV f:Int)<=l)&&decide (fX f=0\/D+fX f<=d+1)&&iU f
def Kk (l d D:Int)(h:0<=l):fmsR [] l d D=true:=by simp[fmsR,dV,fX,iU,h]
def ui (a:Fm)(m:List Fm)(l d D:Int):fmsR (a::m) l d D=(fmR a l d D&&fmsR m (l-a.size) d D):=by
 rw[ma];have h1:=a.deep_pos;simp only[fmsR,fmR,bAt,dTe];simp only[dV,fX,iU,bAt];constructor
 ·rintro⟨⟨h2,O⟩,E,G⟩;refine⟨⟨⟨by omega,by omega⟩,E⟩,⟨by omega,by omega⟩,G⟩
 ·rintro⟨⟨⟨h2,O⟩,E⟩,⟨G,h6⟩,J⟩;exact⟨⟨by omega,by omega⟩,E,J⟩
def CB (a m:List Fm)(l d D:Int)(h0:0<=l):fmsR (a++m) l d D=(fmsR a l d D&&fmsR m (l-dV a) d D):=by
 induction a generalizing l with
 | nil =>
  rw[Kk _ _ _ h0];simp only[fa,dV,Int.natCast_zero,Int.sub_zero,iZ]
 | cons x a G =>
  rw[eu,ui,ui];by_cases E:fmR x l d D=true
  ·have:(x.size:Int)<=l:=by simp only[fmR,bAt,dTe] at E;exact E.1.1
   rw[G _ (by omega),pd];congr 3;simp only[dV];omega
  ·rw[Bool.not_eq_true] at E;rw[E];rfl
def mQ (op:Nat)(n:ByteArray)(m:List Tm)(sub:List Fm)(l d D:Int):fmR (.mk op n m sub) l d D =
  ((decide (1<=l)&&decide (D<=d))&&gB op n m.length sub.length&&tmsR m (l-1) d (D+1)&&fmsR sub (l-1-el m) d (D+1)):=by
 rw[ma];simp only[fmR,tmsR,fmsR,bAt,dTe];simp only[Fm.size,Fm.deep,Fm.ok,bAt];constructor
 ·rintro⟨⟨h2,h3⟩,⟨J,G⟩,E⟩;exact⟨⟨⟨⟨by omega,by omega⟩,J⟩,⟨⟨by omega,by omega⟩,G⟩⟩,⟨by omega,by omega⟩,E⟩
 ·rintro⟨⟨⟨⟨h1,h2⟩,J⟩,⟨⟨h7,h8⟩,G⟩⟩,⟨h9,O⟩,E⟩;exact⟨⟨by omega,by omega⟩,⟨J,G⟩,E⟩
variable (gl:Nat->Option IV)
def JF (f:Fm):Prop:=∀(x:IV) (_:IsFm f x) (b:Nat) (st:ISt) (l d D:Int) (_:st b=jBox l d) (_:0<=l) (_:l<=9223372036854775807) (_:0<=D) (_:D+f.size<=4611686018427387904),
  ICall prog gl 81 [.raw (.pointer (some ⟨b,0,none⟩)),x,D] st (rF b st l d (fmR f l d D) f.size)
def Kl (G:Gl gl)(op:Nat)(n:ByteArray)(us:List Tm)(sub:List Fm)(IH:∀a∈sub,JF gl a)(x:IV)(hx:IsFm (.mk op n us sub) x)(b:Nat)(st:ISt)(l d D:Int)(hb:st b=jBox l d)(h0:0<=l)(h1:l<=9223372036854775807)
  (h2:0<=D) (h3:D+(Fm.mk op n us sub).size<=4611686018427387904) :
  ICall prog gl 81 [.raw (.pointer (some ⟨b,0,none⟩)),x,D] st (rF b st l d (fmR (.mk op n us sub) l d D) (Fm.mk op n us sub).size):=by
 obtain⟨tg,xs,aD,ys,rfl,aU,aF,ae,ao,hys⟩:=hx.mk;have aA:=G.rows;refine iI func81 ?_;simp only[go_sem,zE,zA,reduceCtorEq];refine (Cv gl b _ l d D hb h0 h1).q ?_;have E:∀r,r=false->fmR (.mk op n us sub) l d D=r->∀l',outK (rF b st l d (fmR (.mk op n us sub) l d D) (Fm.mk op n us sub).size) false (st.put b (jBox l' d)):=by
  rintro r rfl hr l';exact c_ ⟨by rw[hr],l',rfl,λh=>by rw[hr] at h;cases h⟩
 cases hn:(decide (1<=l)&&decide (D<=d))
 ·simp only[go_sem,zE];exact E _ rfl (by simp[mQ,hn]) _
 have aV:1<=l/\D<=d:=by simpa using hn
 have al:=me prog 5 3 Cm mh .u8 op;have ah:IntKind.i64.wrap (op:Int)=(op:Int):=w64 (by omega) (by omega);by_cases ho:op<17
 ·have af:decide ((17:Int)<=(op:Int))=false:=dEf (by omega);have ac:(0:Int)<=(op:Int):=by omega
  obtain⟨au,aq⟩:=CA op ho;cases J:gQ op
  ·simp only[go_sem,zE,zB,zA,zL,reduceCtorEq,al,ah,af,aA,ac,ho,au,aq,rowI,J,fits,b_,jBox];exact E _ rfl (by simp[mQ,pN,J]) _
  have aI:iG op<=2:=by
   simp only[gQ,bAt,dTe] at J
   match op,J with
   | 1,_=>decide|2,_=>decide|3,_=>decide|4,_=>decide|5,_=>decide|6,_=>decide|7,_=>decide|8,_=>decide|9,_=>decide|10,_=>decide|11,_=>decide|12,_=>decide|13,_=>decide|14,_=>decide
   | 0,h=>omega
   | k+15,h=>omega
  have aL:decide ((op:Int)=16)=false:=by
   simp only[gQ,bAt,dTe] at J;exact dEf (by omega)
  simp only[go_sem,zE,zB,zA,zL,al,ah,af,aA,ac,ho,au,aq,rowI,J,fits];refine (Ki gl _ aI n _).q ?_;cases aw:jr (iG op) n
  ·simp only[go_sem,zE];exact E _ rfl (by simp[mQ,pN,aw]) _
  by_cases ay:us.length<=iz op
  case neg =>
   have O:decide (((iz op:Nat):Int)<((us.length:Nat):Int))=true:=dEt (by omega);simp only[go_sem,zE,zA,ae.len,O];intro _;exact E _ rfl (by simp[mQ,pN,ay]) _
  have O:decide (((iz op:Nat):Int)<((us.length:Nat):Int))=false:=dEf (by omega);by_cases ax:sub.length=iA op
  case neg =>
   have ab:decide (((sub.length:Nat):Int)=((iA op:Nat):Int))=false:=dEf (by omega);simp only[go_sem,zE,zA,ae.len,O,hys.len,ab];intro _ _;exact E _ rfl (by simp[mQ,pN,ax]) _
  have ab:decide (((sub.length:Nat):Int)=((iA op:Nat):Int))=true:=dEt (by omega);have aH:gB op n us.length sub.length=true:=by simp[pN,J,aw,ay,ax,ho]
  simp only[Fm.size] at h3;have hw:IntKind.i64.wrap (D+1)=D+1:=w64 (by omega) (by omega);simp only[go_sem,zE,zA,reduceCtorEq,ae.len,O,hys.len,ab,aL,hw];intro _ aS;refine (Cz gl us tg xs aF ae b _ (l-1) d (D+1) (b_ _ _ _) (by omega) (by omega) (by omega) (by omega)).mono ?_;rintro _ _ ⟨rfl,l',rfl,ak⟩;cases hts:tmsR us (l-1) d (D+1)
  ·simp only[go_sem,eN];exact E _ rfl (by simp[mQ,hts]) _
  have aj:=ak hts;subst aj;have aN:(el us:Int)<=l-1:=by simp only[tmsR,bAt,dTe] at hts;exact hts.1.1
  simp only[go_sem,zE,hys.len,eN];intro _;refine dt sub.length (λk fr st' ds=>fmsR (sub.take k) (l-1-el us) d (D+1)=true/\fr 0=.iv (.raw (.pointer (some ⟨b,0,none⟩)))/\fr 2=D/\fr 77=.iv (.sl aD ys) /\
   fr 78=sub.length/\fr 79=.iv (.raw (.int .i64 k))/\st'=st.put b (jBox (l-1-el us-dV (sub.take k)) d)/\ds=[]) ?_ ?_ ?_
  ·have:l-1-(el us:Int)-(dV ([]:List Fm):Int)=l-1-el us:=by simp[dV]
   simp only[go_sem,zE,reduceCtorEq,this];simp[fmsR,dV,fX,iU];omega
  ·rintro k fr _ ds ag ⟨aa,f0,f2,f77,f78,f79,rfl,rfl⟩;obtain⟨a,ha⟩:=dD ag;obtain⟨x,aK,hx⟩:=hys.get ha;obtain⟨aG,aT⟩:=j8 ha;obtain⟨aE,n2,aC,am⟩:=a;obtain⟨t1,x1,t2,x2,rfl,_⟩:=hx.mk;have aW:(dV (sub.take k):Int)<=l-1-el us:=by simp only[fmsR,bAt,dTe] at aa;exact aa.1.1
   simp only[go_sem,zE,zA,zL,reduceCtorEq,f0,f2,f77,f78,f79,lt_i ag,dB ao,iNn,aK,hw];refine (IH _ (lMg ha) _ hx b _ (l-1-el us-dV (sub.take k)) d (D+1) (b_ _ _ _) (by omega) (by omega) (by omega) (by omega)).mono ?_;rintro _ _ ⟨rfl,l',rfl,ak⟩;cases hr:fmR (.mk aE n2 aC am) (l-1-el us-dV (sub.take k)) d (D+1)
   ·simp only[go_sem,eN];refine E _ rfl ?_ _;have hf:fmsR sub (l-1-el us) d (D+1)=false:=by
     rw[<- eA k sub,fC ag];rw[CB _ _ _ _ _ (by omega),(lGs ha).2,ui,hr];simp
    simp[mQ,hf]
   ·have aj:=ak hr;subst aj;simp only[go_sem,zE,reduceCtorEq,f0,f2,f77,f78,f79,dL ag (by omega),eN];refine⟨?_,?_⟩
    ·rw[dM ha,CB _ _ _ _ _ (by omega),aa,ui,hr];simp only[fmR,bAt,dTe] at hr;simp[fmsR,dV,fX,iU];omega
    ·rw[aG];congr 2;omega
  ·rintro fr _ ds ⟨aa,f0,f2,f77,f78,f79,rfl,rfl⟩;simp only[go_sem,f78,f79,dS (nLi _)];rw[lTl] at aa;refine c_ ⟨by simp[mQ,hn,aH,hts,aa],_,rfl,?_⟩;intro _;rw[lTl];simp only[Fm.size];omega
 ·have af:decide ((17:Int)<=(op:Int))=true:=dEt (by omega);simp only[go_sem,zE,zA,al,ah,af];exact E _ rfl (by simp[mQ,pN,ho]) _
def CC (G:Gl gl):∀(k:Nat) (f:Fm),SizeOf.sizeOf f<k->JF gl f
 | 0,f,h=>by omega
 | k+1,.mk op n us sub,h=>λx E b st l d D=>Kl gl G op n us sub (λa J=>CC G k a (by
   have:=lSm J;simp at h;omega)) x E b st l d D
def Km (G:Gl gl)(f:Fm):JF gl f:=CC gl G _ f (eS _)
end Go.Proofs.Tryz
namespace Go.Proofs.Tryz
open Go Go.Iv
set_option maxRecDepth 4000
variable (gl:Nat->Option IV)
def CD (t:Tm)(x:IV)(D:IsTm t x)(hs:t.size<=1000000)(st:ISt):ICall prog gl 118 [x] st (λx st'=>x=t.ok/\st'=st):=by
 obtain⟨v,n,us⟩:=t;obtain⟨G,xs,rfl,_⟩:=D.mk;refine ICall.intro (c:=cf prog gl [3] []) func118 rfl (by show _<=7;simp) (by kernel_rfl) ?_;simp only[go_sem,zE,zA,zL,Nat.reduceLeDiff];refine λb=>d_ λE=>?_;simp only[go_sem,eN];refine (Cy gl v n us _ D b _ 9223372036854775807 9223372036854775807 1 (b_ _ _ _) (by omega) (by omega) (by omega) (by omega)).mono ?_;rintro _ _ ⟨rfl,J,rfl,_⟩;simp only[go_sem];have hd:=Tm.deep_le (.mk v n us);refine eI (st':=st) ?_ ⟨?_,rfl⟩
 ·intro c o hc;rw[ISt.put_apply,ISt.put_apply];split
  ·rename_i h;rw[h,E] at hc;cases hc
  ·exact hc
 ·simp only[tmR];rw[dEt (by omega),dEt (by omega)];simp
def rH (G:Gl gl)(f:Fm)(x:IV)(E:IsFm f x)(st:ISt)(hs:f.size<=1000000):ICall prog gl 60 [x] st (λx st'=>x=f.right/\st'=st):=by
 obtain⟨op,n,us,sub⟩:=f;obtain⟨tg,xs,J,ys,rfl,_⟩:=E.mk;refine ICall.intro (c:=cf prog gl [3] []) func60 rfl (by show _<=7;simp) (by kernel_rfl) ?_;simp only[go_sem,zE,zA,zL,Nat.reduceLeDiff];refine λb=>d_ λO=>?_;simp only[go_sem,eN];refine (Km gl G _ _ E b _ 400 40 1 (b_ _ _ _) (by omega) (by omega) (by omega) (by omega)).mono ?_;rintro _ _ ⟨rfl,l',rfl,_⟩;simp only[go_sem];refine eI (st':=st) ?_ ⟨?_,rfl⟩
 ·intro c o hc;rw[ISt.put_apply,ISt.put_apply];split
  ·rename_i h;rw[h,O] at hc;cases hc
  ·exact hc
 ·congr 2;rw[ma];simp only[fmR,Fm.right,bAt,dTe];constructor
  ·rintro⟨⟨h1,h2⟩,D⟩;exact⟨⟨D,by omega⟩,by omega⟩
  ·rintro⟨⟨D,h1⟩,h2⟩;exact⟨⟨by omega,by omega⟩,D⟩
