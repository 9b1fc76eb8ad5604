/- Walks: checkers of names. -/
import Derived.Test.YtofmbookakncjabGreatDoorKF
set_option linter.all false
open Nat renaming reduceEqDiff → zE,reduceAdd → zA,reduceLeDiff → zL
namespace Go.Proofs.Tryz
open Go Go.Iv
set_option maxRecDepth 4000
variable (gl:Nat->Option IV)
def Lz (s:ByteArray)(st:ISt):ICall prog gl 256 [s] st (λx st'=>x=(ud s:Bool)/\st'=st):=by
 refine iI func256 ?_;simp only[go_sem,zA,zL,reduceCtorEq];refine lI (λh=>?_) (λh=>?_)
 ·simp only[go_sem,h];exact dw ⟨by rw[show s=wAll from gi h];rfl,rfl⟩
 have h1:s≠wAll:=iJ h;simp only[go_sem,zE,zA,zL,h];refine lI (λh=>?_) (λh=>?_)
 ·simp only[go_sem,h];exact dw ⟨by rw[show s=zJ from gi h];rfl,rfl⟩
 have h2:s≠zJ:=iJ h;simp only[go_sem,zE,zA,zL,h];refine lI (λh=>?_) (λh=>?_)
 ·simp only[go_sem,h];exact dw ⟨by rw[show s=zK from gi h];rfl,rfl⟩
 have G:s≠zK:=iJ h;simp only[go_sem,zE,zA,zL,h];refine lI (λh=>?_) (λh=>?_)
 ·simp only[go_sem,h];exact dw ⟨by rw[show s=zN from gi h];rfl,rfl⟩
 have E:s≠zN:=iJ h;simp only[go_sem,zE,zA,zL,h];refine lI (λh=>?_) (λh=>?_)
 ·simp only[go_sem,h];exact dw ⟨by rw[show s=zO from gi h];rfl,rfl⟩
 have D:s≠zO:=iJ h;simp only[go_sem,zE,zA,zL,h];refine lI (λh=>?_) (λh=>?_)
 ·simp only[go_sem,h];exact dw ⟨by rw[show s=zP from gi h];rfl,rfl⟩
 have A:s≠zP:=iJ h;simp only[go_sem,h];exact dw ⟨by rw[show ud s=false by unfold ud;rw[dEf h1,dEf h2,dEf G,dEf E,dEf D,dEf A];rfl],rfl⟩
def Eb (s:ByteArray):s.size=s.data.toList.length:=Array.length_toList.symm
def Ec {s:ByteArray}{k:Nat}{c:UInt8}(h:s.data.toList[k]?=some c):pQ s (k:Int)=some c:=by
 unfold pQ;rw[c_ (by omega)];have A:k<s.size:=by rw[Eb];exact (lGs h).1
 rw[lb];rw[getElem?_pos s k A];have h2:=(lGs h).2;rw[<- h2];rfl
def LA {s:ByteArray}{c:UInt8}{cs:List UInt8}(h:s.data.toList=c::cs):pQ s 0=some c:=Ec (k:=0) (by rw[h];rfl)
def zW (p q:FuncId)(P Q:UInt8->Bool)(ep:entI prog p=true)(eq:entI prog q=true)
  (hp:∀c st,ICall prog gl p [.raw (.int .u8 (UInt8.toNat c))] st (λx st'=>x=(P c:Bool)/\st'=st))
  (hq:∀c st,ICall prog gl q [.raw (.int .u8 (UInt8.toNat c))] st (λx st'=>x=(Q c:Bool)/\st'=st)) (s:ByteArray) (st:ISt) :
  ICall prog gl 255 [s,.cptr (.fn (.func p) [] []),.cptr (.fn (.func q) [] [])] st (λx st'=>x=(l8 P Q s:Bool)/\st'=st):=by
 refine iI func255 ?_;have A:=Eb s;cases hl:s.data.toList with
 | nil =>
  rw[hl] at A;have h1:decide (((s.size:Nat):Int)<1)=true:=by rw[A];rfl
  simp only[go_sem,zE,reduceCtorEq,h1];exact dw ⟨by simp[l8,hl],rfl⟩
 | cons c cs =>
  rw[hl] at A;have h1:decide (((s.size:Nat):Int)<1)=false:=by rw[A];simp;omega
  by_cases G:cs.length<16
  ·have h2:decide ((16:Int)<((s.size:Nat):Int))=false:=by rw[A];simp;omega
   simp only[go_sem,zE,zA,reduceCtorEq,h1,h2];refine (Lz gl s _).q ?_;cases h3:ud s
   ·simp only[go_sem,zE,reduceCtorEq,LA hl,fits,ep];refine (hp c _).q ?_;cases h4:P c
    ·simp only[go_sem,zE];exact dw ⟨by simp[l8,hl,h4],rfl⟩
    ·simp only[go_sem,zE];refine dC cs.length (λk fr st' ds=>(cs.take k).all Q=true/\fr 0=s/\fr 2=.iv (.cptr (.fn (.func q) [] []))/\fr 5=((k+1:Nat):Int)/\st'=st/\ds=[]) ?_ ?_ ?_
     ·simp only[go_sem,zE,reduceCtorEq];rfl
     ·rintro k fr st' ds ab ⟨J,h0,E,O,rfl,rfl⟩;obtain⟨x,hx⟩:=ed ab;have D:decide (((k+1:Nat):Int)<((s.size:Nat):Int))=true:=by rw[A];simp;omega
      have U:pQ s ((k+1:Nat):Int)=some x:=Ec (by rw[hl];simpa using hx);have hw:IntKind.i64.wrap (((k+1:Nat):Int)+1)=((k+1+1:Nat):Int):=by rw[w64]<;>omega
      simp only[go_sem,zE,reduceCtorEq,h0,E,O,D,U,fits,eq];intro _;refine (hq x _).q ?_;cases h6:Q x
      ·simp only[go_sem];exact dw ⟨by
        have:cs.all Q=false:=by rw[List.all_eq_false];exact⟨x,lMg hx,by simp[h6]⟩
        simp[l8,hl,this],rfl⟩
      ·simp only[go_sem,zE,reduceCtorEq,h0,E,O,hw];rw[en hx,lf,J];simp[h6]
     ·rintro fr st' ds ⟨J,h0,E,O,rfl,rfl⟩;have D:decide (((cs.length+1:Nat):Int)<((s.size:Nat):Int))=false:=by rw[A];simp
      simp only[go_sem,zE,reduceCtorEq,h0,O,D];intro _;rw[lTl] at J;exact dw ⟨by simp[l8,hl,h3,h4,G,J],rfl⟩
   ·simp only[go_sem,zE];exact dw ⟨by simp[l8,hl,h3],rfl⟩
  ·have h2:decide ((16:Int)<((s.size:Nat):Int))=true:=by rw[A];simp;omega
   simp only[go_sem,zE,reduceCtorEq,h1,h2];exact dw ⟨by simp[l8,hl,G],rfl⟩
def zX (p q:FuncId)(st:ISt):ICall prog gl 231 [.fn (.func p) [] [],.fn (.func q) [] []] st
  (λx st'=>x=.fn (.func 255) [] [.cptr (.fn (.func p) [] []),.cptr (.fn (.func q) [] [])]/\st'=st):=by
 refine ICall.intro (c:=cf prog gl [] [] [2,3]) func231 rfl (by show _<=6;simp) (by kernel_rfl) ?_;simp only[go_sem,zE];exact dw ⟨rfl,rfl⟩
def vV (s:ByteArray)(st:ISt):ICall prog gl 207 [s] st (λx st'=>x=(kJ s:Bool)/\st'=st):=by
 refine iI func207 ?_;simp only[go_sem,zA];refine (zX gl _ _ _).q ?_;simp only[go_sem,zE,reduceCtorEq];refine (zW gl _ _ (inB 117 122) qX (by simp only[go_sem]) (by simp only[go_sem]) (LB gl) (Ed gl) s _).q ?_;simp only[go_sem];exact dw ⟨rfl,rfl⟩
def LC (s:ByteArray)(st:ISt):ICall prog gl 209 [s] st (λx st'=>x=(vU s:Bool)/\st'=st):=by
 refine iI func209 ?_;simp only[go_sem,zA];refine (zX gl _ _ _).q ?_;simp only[go_sem,zE,reduceCtorEq];refine (zW gl _ _ (inB 97 116) o_ (by simp only[go_sem]) (by simp only[go_sem]) (LD gl) (Ee gl) s _).q ?_;simp only[go_sem];exact dw ⟨rfl,rfl⟩
def LF (s:ByteArray)(st:ISt):ICall prog gl 219 [s] st (λx st'=>x=(zQ s:Bool)/\st'=st):=by
 refine iI func219 ?_;simp only[go_sem,zA];refine (zX gl _ _ _).q ?_;simp only[go_sem,zE,reduceCtorEq];refine (zW gl _ _ pV o_ (by simp only[go_sem]) (by simp only[go_sem]) (Ef gl) (Ee gl) s _).q ?_;simp only[go_sem];exact dw ⟨rfl,rfl⟩
def kb (k:Nat)(s:ByteArray):Bool:=match k with|1=>zQ s|2=>kJ s|_=>decide (s=⟨#[]⟩)
def LG (k:Nat)(A:k<=2)(s:ByteArray)(st:ISt):ICall prog gl 182 [.raw (.int .u8 k),s] st (λx st'=>x=(kb k s:Bool)/\st'=st):=by
 refine iI func182 ?_
 match k,A with
 | 0,_ =>
  simp only[go_sem,zE,zL,reduceCtorEq,show decide (((0:Nat):Int)=1)=false from rfl,show decide (((0:Nat):Int)=2)=false from rfl,show decide (((0:Nat):Int)=3)=false from rfl];exact dw ⟨rfl,rfl⟩
 | 1,_ =>
  simp only[go_sem,zE,zA,reduceCtorEq,show decide (((1:Nat):Int)=1)=true from rfl];refine (LF gl s _).q ?_;simp only[go_sem];exact dw ⟨rfl,rfl⟩
 | 2,_ =>
  simp only[go_sem,zE,zA,reduceCtorEq,show decide (((2:Nat):Int)=1)=false from rfl,show decide (((2:Nat):Int)=2)=true from rfl];refine (vV gl s _).q ?_;simp only[go_sem];exact dw ⟨rfl,rfl⟩
def jBox (l d:Int):Option IObj:=some (.box [false,l,d])
def Eg (b:Nat)(st:ISt)(l d A:Int)(G:st b=jBox l d)(h0:0<=l)(h1:l<=9223372036854775807) :
  ICall prog gl 181 [.raw (.pointer (some ⟨b,0,none⟩)),A] st (λx st'=>x=(decide (1<=l)&&decide (A<=d):Bool)/\st'=st.put b (jBox (l-1) d)):=by
 refine iI func181 ?_;have E:IntKind.i64.wrap (l-1)=l-1:=w64 (by omega) (by omega);simp only[go_sem,zE,zA,zL,reduceCtorEq,G,jBox,E];refine qV (λh=>?_) (λh=>?_)
 ·have D:1<=l:=by simp at h;omega
  simp only[go_sem,zE,zA,reduceCtorEq];exact dw ⟨by simp[D],rfl⟩
 ·have D:¬ 1<=l:=by simp at h;omega
  simp only[go_sem,zE,zA];exact dw ⟨by simp[D],rfl⟩
def ue (b:Nat)(st:ISt)(l d:Int)(r:Bool)(D:Nat)(x:IV)(st':ISt):Prop:=x=r/\∃A,st'=st.put b (jBox A d)/\(r=true->A=l-D)
def tmR (t:Tm)(l d A:Int):Bool:=decide ((t.size:Int)<=l)&&decide (A+t.deep<=d+1)&&t.ok
def tmsR (t:List Tm)(l d A:Int):Bool:=decide ((fp t:Int)<=l)&&decide (gA t=0\/A+gA t<=d+1)&&ka t
def vW (a:Tm)(m:List Tm)(l d A:Int):tmsR (a::m) l d A=(tmR a l d A&&tmsR m (l-a.size) d A):=by
 rw[m_];have h1:=a.deep_pos;simp only[tmsR,tmR,bAt,dTe];simp only[fp,gA,ka,bAt];constructor
 ·rintro⟨⟨h2,J⟩,D,E⟩;refine⟨⟨⟨by omega,by omega⟩,D⟩,⟨by omega,by omega⟩,E⟩
 ·rintro⟨⟨⟨h2,J⟩,D⟩,⟨E,O⟩,G⟩;exact⟨⟨by omega,by omega⟩,D,G⟩
def Eh (a m:List Tm)(l d A:Int):tmsR (a++m) l d A=(tmsR a l d A&&tmsR m (l-fp a) d A):=by
 induction a generalizing l with
 | nil =>
  simp only[f_,fp,Int.natCast_zero,Int.sub_zero];rw[m_];simp only[tmsR,bAt,dTe];simp only[fp,gA,ka];constructor
  ·rintro⟨⟨h1,h2⟩,D⟩;exact⟨⟨⟨by omega,by simp⟩,trivial⟩,⟨h1,h2⟩,D⟩
  ·rintro⟨_,⟨h1,h2⟩,D⟩;exact⟨⟨h1,h2⟩,D⟩
 | cons x a E =>
  rw[fq,vW,E,vW,qz];congr 3;simp only[fp];omega
def uf (n:ByteArray)(m:List Tm)(l d A:Int):tmR (.mk false n m) l d A=(((decide (1<=l)&&decide (A<=d))&&decide (m.length<=4)&&vU n)&&tmsR m (l-1) d (A+1)):=by
 rw[m_];simp only[tmsR,tmR,bAt,dTe];simp only[Tm.size,Tm.deep,Tm.ok,bAt,dTe];constructor
 ·rintro⟨⟨h2,J⟩,⟨D,G⟩,E⟩;refine⟨⟨⟨⟨by omega,by omega⟩,D⟩,G⟩,⟨by omega,by omega⟩,E⟩
 ·rintro⟨⟨⟨⟨h1,h2⟩,J⟩,D⟩,⟨G,E⟩,O⟩;exact⟨⟨by omega,by omega⟩,⟨J,D⟩,O⟩
def vX (n:ByteArray)(m:List Tm)(l d A:Int):tmR (.mk true n m) l d A=(((decide (1<=l)&&decide (A<=d))&&decide (m.length=0))&&kJ n):=by
 rw[m_];cases m with
 | nil =>
  simp only[tmR,bAt,dTe];simp only[Tm.size,Tm.deep,Tm.ok,fp,gA,List.isEmpty,bAt,fb];constructor
  ·rintro⟨⟨h1,h2⟩,_,D⟩;exact⟨⟨⟨by omega,by omega⟩,trivial⟩,D⟩
  ·rintro⟨⟨⟨h1,h2⟩,_⟩,D⟩;exact⟨⟨by omega,by omega⟩,by trivial,D⟩
 | cons a m=>simp[tmR,Tm.ok]
def LH {v:Bool}{n:ByteArray}{us:List Tm}{l:List Tm}(h:Tm.mk v n us∈l):SizeOf.sizeOf us<SizeOf.sizeOf l:=by
 have:=lSm h;simp at this;omega
mutual
def Ei (v:Bool)(n:ByteArray)(us:List Tm)(x:IV)(hx:IsTm (.mk v n us) x)(b:Nat)(st:ISt)(l d A:Int)(hb:st b=jBox l d)(h0:0<=l)(h1:l<=9223372036854775807)(h2:0<=A)(h3:A+(Tm.mk v n us).size<=4611686018427387904) :
  ICall prog gl 170 [.raw (.pointer (some ⟨b,0,none⟩)),x,A] st (ue b st l d (tmR (.mk v n us) l d A) (Tm.mk v n us).size):=by
 obtain⟨tg,xs,rfl,U,E⟩:=hx.mk;refine iI func170 ?_;simp only[go_sem,zE,zA,reduceCtorEq];refine (Eg gl b _ l d A hb h0 h1).q ?_;cases O:(decide (1<=l)&&decide (A<=d))
 ·simp only[go_sem];refine dw ⟨?_,_,rfl,?_⟩<;>cases v<;>simp[uf,vX,O]
 ·have ai:1<=l/\A<=d:=by simpa using O
  cases v
  ·simp only[Tm.size] at h3;have hw:IntKind.i64.wrap (A+1)=A+1:=w64 (by omega) (by omega);by_cases G:us.length<=4
   ·have D:decide ((us.length:Int)<=4)=true:=by simp;omega
    simp only[go_sem,zE,zA,E.len,D];intro _;refine (LC gl n _).q ?_;cases J:vU n
    ·simp only[go_sem,zE];refine dw ⟨?_,_,rfl,?_⟩<;>simp[uf,J]
    ·simp only[go_sem,zE,zA,reduceCtorEq,hw];refine (Ej us tg xs U E b _ (l-1) d (A+1) (b_ _ _ _) (by omega) (by omega) (by omega) (by omega)).mono ?_;rintro _ _ ⟨rfl,l',rfl,ab⟩;simp only[go_sem,zE];refine dw ⟨by simp[uf,O,J,G],l',fW _ _ _ _,?_⟩;intro hr;rw[uf] at hr;simp only[bAt] at hr;have:=ab hr.2;simp only[Tm.size];omega
   ·have D:decide ((us.length:Int)<=4)=false:=by simp;omega
    simp only[go_sem,zE,E.len,D];intro _;refine dw ⟨?_,_,rfl,?_⟩<;>simp[uf,G]
  ·by_cases G:us.length=0
   ·have D:decide ((us.length:Int)=0)=true:=dEt (by omega);simp only[go_sem,zE,zA,E.len,D];intro _;refine (vV gl n _).q ?_;cases J:kJ n
    ·simp only[go_sem,zE,reduceCtorEq,b_,jBox];refine dw ⟨?_,_,rfl,?_⟩<;>simp[vX,J]
    ·simp only[go_sem,zE];refine dw ⟨?_,_,rfl,?_⟩
     ·simp[vX,J,O,G]
     ·intro _;have:us=[]:=fw G;subst this;simp[Tm.size,fp]
   ·have D:decide ((us.length:Int)=0)=false:=dEf (by omega);simp only[go_sem,zE,E.len,D];intro _;refine dw ⟨?_,_,rfl,?_⟩<;>simp[vX,G]
termination_by 2*SizeOf.sizeOf us+1
decreasing_by all_goals omega
def Ej (us:List Tm)(tg:Tag)(U:List IV)(ab:okEs tg 3)(G:IsTms us U)(b:Nat)(st:ISt)(l d A:Int)(hb:st b=jBox l d)(h0:0<=l)(h1:l<=9223372036854775807)(h2:0<=A)
  (h3:A+fp us<=4611686018427387904) :
  ICall prog gl 184 [.raw (.pointer (some ⟨b,0,none⟩)),.sl tg U,.raw (.int .i64 A)] st (ue b st l d (tmsR us l d A) (fp us)):=by
 refine iI func184 ?_;simp only[go_sem,zE,G.len];intro ai;refine dC us.length (λk fr st' ds=>tmsR (us.take k) l d A=true/\fr 0=.iv (.raw (.pointer (some ⟨b,0,none⟩)))/\fr 2=.iv (.raw (.int .i64 A))/\fr 9=.iv (.sl tg U) /\
  fr 10=.iv (.raw (.int .i64 us.length))/\fr 11=.iv (.raw (.int .i64 k))/\st'=st.put b (jBox (l-fp (us.take k)) d)/\ds=[]) ?_ ?_ ?_
 ·have:l-(fp ([]:List Tm):Int)=l:=by simp[fp]
  simp only[go_sem,zE,reduceCtorEq,this,ki hb];simp[tmsR,fp,gA,ka,h0]
 ·rintro k fr _ ds D ⟨E,f0,f2,f9,f10,f11,rfl,rfl⟩;obtain⟨a,J⟩:=ed D;obtain⟨x,ag,hx⟩:=G.get J;obtain⟨ac,ak⟩:=oe J;obtain⟨v,n,m⟩:=a;obtain⟨tx,cx,rfl,_⟩:=hx.mk;have al:(fp (us.take k):Int)<=l:=by
   simp only[tmsR,bAt,dTe] at E;exact E.1.1
  simp only[go_sem,zE,zA,zL,reduceCtorEq,f0,f2,f9,f10,f11,lt_i D,ec ab,iNn,ag];refine (Ei v n m _ hx b _ (l-fp (us.take k)) d A (b_ _ _ _) (by omega) (by omega) h2 (by omega)).mono ?_;rintro _ _ ⟨rfl,l',rfl,af⟩;cases O:tmR (.mk v n m) (l-fp (us.take k)) d A
  ·simp only[go_sem];refine dw ⟨?_,l',fW _ _ _ _,?_⟩
   all_goals
    have hf:tmsR us l d A=false:=by
     rw[<- fh k us,gB D];rw[Eh,(lGs J).2,vW,O];simp
    simp[hf]
  ·have ae:=af O;subst ae;simp only[go_sem,zE,reduceCtorEq,f0,f2,f9,f10,f11,ek D (by omega),fW];refine⟨?_,?_⟩
   ·rw[en J,Eh,E,vW,O];simp only[tmR,bAt,dTe] at O;simp[tmsR,fp,gA,ka];omega
   ·rw[ac];congr 2;omega
 ·rintro fr _ ds ⟨E,f0,f2,f9,f10,f11,rfl,rfl⟩;simp only[go_sem,f10,f11,eI (nLi _)];rw[lTl] at E;refine dw ⟨by rw[E],_,rfl,?_⟩;rw[lTl];intro _;rfl
termination_by 2*SizeOf.sizeOf us
decreasing_by have:=LH (lMg J);omega
end
