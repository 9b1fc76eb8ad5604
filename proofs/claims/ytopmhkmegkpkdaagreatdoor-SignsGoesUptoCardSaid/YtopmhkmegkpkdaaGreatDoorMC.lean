/- Walks of the second program: names, righ -/
import Derived.Test.YtopmhkmegkpkdaaGreatDoorJL
set_option linter.all false
open Nat renaming reduceEqDiff → zE,reduceBEq → zB,reduceAdd → zA,reduceLeDiff → zL
namespace Go.Proofs.Tryz
open Go Go.Iv
set_option maxRecDepth 4000
variable (gl:Nat->Option IV)
def in_n (c:UInt8)(A E:Nat)(a b:Int)(U:a=A)(O:b=E)(st:ISt):ICall prog gl 289 [.raw (.int .u8 c.toNat),.raw (.int .u8 a),.raw (.int .u8 b)] st (λx st'=>x=(inB A E c:Bool)/\st'=st):=by
 subst U O;have D:∀x y:Int,binI prog 5 .leq (.int .u8 x) (.int .u8 y)=some (.bool (decide (x<=y))):=λx y=>by simp only[go_sem]
 refine iI func289 ?_;by_cases h1:A<=c.toNat
 ·simp only[go_sem,zE,reduceCtorEq,show decide ((A:Int)<=(c.toNat:Int))=true from dEt (by omega)];exact cO ⟨by congr 3;simp[inB,h1],rfl⟩
 ·simp only[go_sem,zE,reduceCtorEq,show decide ((A:Int)<=(c.toNat:Int))=false from dEf (by omega)];exact cO ⟨by simp[inB,h1],rfl⟩
def iH (d:Bool)(c:UInt8):Bool:=lp c || (!d&&(lY c || mW c))
def kr (d:Bool)(s:ByteArray):Bool :=
 match s.data.toList with
 | []=>false
 | _::cs=>decide (cs.length<16)&&cs.all (iH d)
def xc (s:ByteArray)(d:Bool)(st:ISt):ICall prog gl 288 [s,d] st (λx st'=>x=(kr d s:Bool)/\st'=st):=by
 refine iI func288 ?_;have A:=wi s;cases U:s.data.toList with
 | nil =>
  rw[U] at A;simp only[go_sem];refine cV 0 (λk fr st' ds=>fr 0=s/\fr 5=(1:Int)/\st'=st/\ds=[]) ?_ ?_ ?_
  ·simp only[go_sem,reduceCtorEq]
  ·intro k _ _ _ h;omega
  ·rintro fr _ _ ⟨f0,f5,rfl,rfl⟩;simp only[go_sem,zE,reduceCtorEq,f0,f5,show decide ((1:Int)<((s.size:Nat):Int))=false from dEf (by rw[A];simp),show decide ((0:Int)<((s.size:Nat):Int))=false from dEf (by rw[A];simp)];intros;exact cO ⟨by simp[kr,U],rfl⟩
 | cons c cs =>
  rw[U,eG] at A;simp only[go_sem];refine cV cs.length (λk fr st' ds=>(cs.take k).all (iH d)=true/\fr 0=s/\fr 1=d/\fr 5=((k+1:Nat):Int)/\st'=st/\ds=[]) ?_ ?_ ?_
  ·simp only[go_sem,zE,reduceCtorEq];rfl
  ·rintro k fr st _ ac ⟨hn,f0,f1,f5,rfl,rfl⟩;obtain⟨x,hx⟩:=dd ac;have W:decide (((k+1:Nat):Int)<((s.size:Nat):Int))=true:=by rw[A];simp;omega
   have O:nF s ((k+1:Nat):Int)=some x:=wj (by rw[U];simpa using hx);have E:iH d x=false->kr d s=false:=λh=>by
    have:cs.all (iH d)=false:=by rw[lA];exact⟨x,lMg hx,by simp[h]⟩
    simp[kr,U,this]
   have D:iH d x=true->(cs.take (k+1)).all (iH d)=true:=λh=>by
    rw[dK hx,List.all_append,hn];simp[h]
   simp only[go_sem,zE,zA,reduceCtorEq,f0,f5,W,O];intro ae;have hw:IntKind.i64.wrap (((k+1:Nat):Int)+1)=((k+1+1:Nat):Int):=by rw[w64]<;>omega
   refine (in_n gl x 48 57 _ _ rfl rfl _).q ?_;cases h1:inB 48 57 x
   case true =>
    simp only[go_sem,zE,reduceCtorEq,f0,f1,f5,hw];exact D (by simp[iH,lp,h1])
   cases d
   case true =>
    simp only[go_sem,zE,f1];exact cO ⟨by rw[E (by simp[iH,lp,h1])],rfl⟩
   simp only[go_sem,zE,zA,reduceCtorEq,f0,f1,f5,O];refine (in_n gl x 65 90 _ _ rfl rfl _).q ?_;cases h2:inB 65 90 x
   case true =>
    simp only[go_sem,zE,reduceCtorEq,f0,f1,f5,hw];exact D (by simp[iH,lY,h2])
   simp only[go_sem,zE,zA,reduceCtorEq,f0,f5,O];refine (in_n gl x 97 122 _ _ rfl rfl _).q ?_;cases h3:inB 97 122 x
   case true =>
    simp only[go_sem,zE,reduceCtorEq,f0,f1,f5,hw];exact D (by simp[iH,mW,h3])
   simp only[go_sem,zE];exact cO ⟨by rw[E (by simp[iH,lp,lY,mW,h1,h2,h3])],rfl⟩
  ·rintro fr st _ ⟨hn,f0,f1,f5,rfl,rfl⟩;rw[lTl] at hn;simp only[go_sem,zE,reduceCtorEq,f0,f5,show decide (((cs.length+1:Nat):Int)<((s.size:Nat):Int))=false from dEf (by rw[A];simp),show decide ((0:Int)<((s.size:Nat):Int))=true from dEt (by rw[A];omega)];intros;refine cO ⟨?_,rfl⟩;congr 3;simp only[kr,U,hn,jk];rw[A];simp;omega
def C9 {p q:UInt8->Bool}{s:ByteArray}{c:UInt8}{cs:List UInt8}(hl:s.data.toList=c::cs)(h:p c=true)(hq:cs.all q=true)
  (hw:∀w∈[wAll,oN,oO,oP,oQ,pW],(match w.data.toList with|[]=>true|c::cs=>p c&&cs.all q)=false):mo s=false:=by
 have key:∀w∈[wAll,oN,oO,oP,oQ,pW],s≠w:=λw hm he=>by
  have:=hw w hm;rw[<- he,hl] at this;simp[h,hq] at this
 simp only[dC,e_,eu,forall_eq_or_imp,forall_eq] at key;obtain⟨W,U,O,E,D,A⟩:=key;unfold mo;rw[dEf W,dEf U,dEf O,dEf E,dEf D,dEf A];rfl
def xd:iH true=lp:=by funext c;simp[iH]
def rL:iH false=ml:=by
 funext c;simp only[iH,ml,jQ,eM];cases lp c<;>cases lY c<;>cases mW c<;>rfl
def xe {d:Bool}{s:ByteArray}(h:kr d s=true):∃c cs,s.data.toList=c::cs/\cs.length<16/\cs.all (iH d)=true:=by
 unfold kr at h;split at h
 ·cases h
 ·rename_i c cs A;simp only[bAt,dTe] at h;exact⟨c,cs,A,h.1,h.2⟩
def xg {p:UInt8->Bool}{d:Bool}{s:ByteArray}{c:UInt8}{cs:List UInt8}(D:s.data.toList=c::cs)(A:p c=true->cs.all (iH d)=true->mo s=false):jy p (iH d) s=(kr d s&&p c):=by
 simp only[jy,kr,D];cases h1:p c
 ·simp
 ·cases h2:cs.all (iH d)
  ·simp
  ·simp[A h1 h2]
def xh {p:UInt8->Bool}{d:Bool}{s:ByteArray}(h:kr d s=false):jy p (iH d) s=false:=by
 unfold kr at h;unfold jy;split
 ·rfl
 ·rename_i c cs A;rw[A] at h;simp only at h;cases h1:decide (cs.length<16)<;>cases h2:cs.all (iH d)<;>simp_all
def xi (s:ByteArray)(st:ISt):ICall prog gl 261 [s] st (λx st'=>x=(iD s:Bool)/\st'=st):=by
 refine iI func261 ?_;simp only[go_sem,zA,reduceCtorEq];refine (xc gl s true _).q ?_;cases h:kr true s
 ·simp only[go_sem,zE];exact cO ⟨by rw[iD,<- xd,xh h],rfl⟩
 ·obtain⟨c,cs,A,D,E⟩:=xe h;simp only[go_sem,zE,zA,reduceCtorEq,sX A];refine (in_n gl c 117 122 _ _ rfl rfl _).q ?_;simp only[go_sem,zE];refine cO ⟨?_,rfl⟩;rw[iD,<- xd,xg A (λh1 h2=>C9 A h1 (by rw[xd] at h2;exact h2) (by decide)),h,eM]
def LA (s:ByteArray)(st:ISt):ICall prog gl 260 [s] st (λx st'=>x=(oR s:Bool)/\st'=st):=by
 refine iI func260 ?_;simp only[go_sem,zA,reduceCtorEq];refine (xc gl s false _).q ?_;cases h:kr false s
 ·simp only[go_sem,zE];exact cO ⟨by rw[oR,<- rL,xh h],rfl⟩
 ·obtain⟨c,cs,A,D,E⟩:=xe h;simp only[go_sem,zE,zA,reduceCtorEq,sX A];refine (in_n gl c 65 90 _ _ rfl rfl _).q ?_;simp only[go_sem,zE];refine cO ⟨?_,rfl⟩;rw[oR,<- rL,xg A (λh1 h2=>C9 A h1 (by rw[rL] at h2;exact h2) (by decide)),h,eM];rfl
def rM {s:ByteArray}(h:mo s=true):mq s=false:=by
 unfold mq jy;split
 ·rfl
 ·simp[h]
def LB (s:ByteArray)(st:ISt):ICall prog gl 264 [s] st (λx st'=>x=(mq s:Bool)/\st'=st):=by
 refine iI func264 ?_;simp only[go_sem,zA,zL,reduceCtorEq];refine j4 (λh=>?_) (λh=>?_)
 ·simp only[go_sem,h];exact cO ⟨by rw[rM (by rw[show s=wAll from eI h];rfl)],rfl⟩
 have h1:s≠wAll:=ft h;simp only[go_sem,zE,zA,zL,h];refine j4 (λh=>?_) (λh=>?_)
 ·simp only[go_sem,h];exact cO ⟨by rw[rM (by rw[show s=oN from eI h];rfl)],rfl⟩
 have h2:s≠oN:=ft h;simp only[go_sem,zE,zA,zL,h];refine j4 (λh=>?_) (λh=>?_)
 ·simp only[go_sem,h];exact cO ⟨by rw[rM (by rw[show s=oO from eI h];rfl)],rfl⟩
 have h3:s≠oO:=ft h;simp only[go_sem,zE,zA,zL,h];refine j4 (λh=>?_) (λh=>?_)
 ·simp only[go_sem,h];exact cO ⟨by rw[rM (by rw[show s=oP from eI h];rfl)],rfl⟩
 have h4:s≠oP:=ft h;simp only[go_sem,zE,zA,zL,h];refine j4 (λh=>?_) (λh=>?_)
 ·simp only[go_sem,h];exact cO ⟨by rw[rM (by rw[show s=oQ from eI h];rfl)],rfl⟩
 have W:s≠oQ:=ft h;simp only[go_sem,zA,reduceCtorEq,h];refine (xc gl s false _).q ?_;cases h:kr false s
 ·simp only[go_sem,zE];exact cO ⟨by rw[mq,<- rL,xh h],rfl⟩
 ·obtain⟨c,cs,A,ac,hq⟩:=xe h;simp only[go_sem,zE,zA,reduceCtorEq,sX A];refine (in_n gl c 97 116 _ _ rfl rfl _).q ?_;simp only[go_sem,zE];refine cO ⟨?_,rfl⟩;rw[mq,<- rL,xg A (λD _=>?_),h,eM];have U:s≠pW:=λE=>by
   rw[E] at A;have O:(117:UInt8)=c:=(List.cons.inj A).1;rw[<- O] at D;exact absurd D (by decide)
  unfold mo;rw[dEf h1,dEf h2,dEf h3,dEf h4,dEf W,dEf U];rfl
def RTm (t:Tm):Prop:=∀(x:IV) (_:IsTm t x) (_:t.size<=1099511627776) (st:ISt),ICall prog gl 235 [x,false] st (λr st'=>r=t.ok/\st'=st)
def ru:∀(l m:List Tm),fT (l++m)=(fT l&&fT m)
 | [],m=>by simp[fT]
 | a::l,m=>by simp only[dX,fT,ru l m,me]
def C_ {l:List Tm}{a:Tm}(h:a∈l)(D:a.ok=false):fT l=false:=by
 induction l with
 | nil=>cases h
 | cons b l A =>
  simp only[fT];rcases dC.1 h with rfl|h
  ·simp[D]
  ·simp[A h]
def oW:∀l:List Tm,l.length<=dN l
 | []=>dz _
 | a::l=>by have:=oW l;have:=a.size_pos;simp only[eG,dN];omega
def Da {l:List Tm}{a:Tm}(h:a∈l):a.size<=dN l:=by
 induction l with
 | nil=>cases h
 | cons b l A =>
  simp only[dN];rcases dC.1 h with rfl|h
  ·omega
  ·have:=A h;omega
def LC (v:Bool)(n:ByteArray)(us:List Tm)(IH:∀a∈us,RTm gl a):RTm gl (.mk v n us):=by
 intro x hx ab st;obtain⟨tg,xs,rfl,aa,A⟩:=hx.mk;simp only[Tm.size] at ab;have ag:=oW us;refine iI func235 ?_;cases v
 ·simp only[go_sem,zE];refine cV us.length (λk fr st' ds=>fT (us.take k)=true/\fr 1=false/\fr 2=.box [false,n,.sl tg xs]/\fr 5=.iv (.raw (.int .i64 k))/\st'=st/\ds=[]) ?_ ?_ ?_
  ·simp only[go_sem,zE];exact⟨rfl,rfl⟩
  ·rintro k fr st _ O ⟨E,f1,f2,f5,rfl,rfl⟩;obtain⟨a,ha⟩:=dd O;obtain⟨y,ac,hy⟩:=A.get ha;have D:=lMg ha;have U:=IH a D y hy (by have:=Da D;omega) st;obtain⟨v3,n3,m3⟩:=a;obtain⟨t3,x3,rfl,_⟩:=hy.mk;simp only[go_sem,zE,zB,zA,f1,f2,f5,A.len,lt_i O,dc aa,iNn,ac,fits];intros;refine U.mono ?_;rintro _ st ⟨rfl,rfl⟩;cases hb:(Tm.mk v3 n3 m3).ok
   ·simp only[go_sem];exact cO ⟨by rw[show (Tm.mk false n us).ok=false by simp[Tm.ok,C_ D hb]],rfl⟩
   ·simp only[go_sem,zE,f1,f2,f5,df O (by omega)];rw[dK ha,ru,E];simp[fT,hb]
  ·rintro fr st _ ⟨E,f1,f2,f5,rfl,rfl⟩;rw[lTl] at E;simp only[go_sem,zE,zA,f2,f5,A.len,dD (nLi _)];intros;refine (LB gl n _).q ?_;cases W:mq n
   ·simp only[go_sem,zE];exact cO ⟨by simp[Tm.ok,W],rfl⟩
   ·simp only[go_sem,zE,f2,A.len];intros;refine cO ⟨?_,rfl⟩;simp only[Tm.ok,W,E,jk];congr 3;simp;omega
 ·simp only[go_sem,zE,A.len];intros;by_cases h0:us.length=0
  ·obtain rfl:=eN h0;simp only[go_sem,zE,zA,show decide (((0:Nat):Int)=0)=true from rfl];refine (xi gl n _).q ?_;cases W:iD n
   ·simp only[go_sem,zE];exact cO ⟨by simp[Tm.ok,W],rfl⟩
   ·simp only[go_sem,zE];exact cO ⟨by simp[Tm.ok,W],rfl⟩
  ·simp only[go_sem,zE,show decide ((us.length:Int)=0)=false from dEf (by omega)];exact cO ⟨by cases us with|nil=>exact absurd rfl h0|cons=>simp[Tm.ok],rfl⟩
def Db:∀(k:Nat)(t:Tm),SizeOf.sizeOf t<k->RTm gl t
 | 0,f,h=>by omega
 | k+1,.mk v n us,h=>LC gl v n us (λa A=>Db k a (by
   have:=lSm A;simp at h;omega))
def LD (t:Tm):RTm gl t:=Db gl _ t (dM _)
def di0 (a:Nat):decide ((a:Int)=0)=decide (a=0):=by by_cases h:a=0<;>simp[h]<;>omega
def di1 (a:Nat):decide ((a:Int)=1)=decide (a=1):=by by_cases h:a=1<;>simp[h]<;>omega
def di2 (a:Nat):decide ((a:Int)=2)=decide (a=2):=by by_cases h:a=2<;>simp[h]<;>omega
def dle4 (a:Nat):decide ((a:Int)<=4)=decide (a<=4):=by by_cases h:a<=4<;>simp[h]<;>omega
def LF {op:Nat}{n:ByteArray}{A ls:Nat}(h:op=0\/16<op):el op n A ls=false:=by
 unfold el;split<;>first|rfl|omega
def LG (op:Nat)(n:ByteArray)(us:List Tm)(sub:List Fm)(x:IV)(hx:IsFm (.mk op n us sub) x)(st:ISt) :
  ICall prog gl 234 [x,false] st (λr st'=>r=(el op n us.length sub.length:Bool)/\st'=st):=by
 obtain⟨ta,W,tb,U,rfl,ho,O,D,E,A⟩:=hx.mk;refine iI func234 ?_;simp only[go_sem,zE,D.len,A.len];intros;rcases (show op=1\/op=2\/op=3\/op=4\/op=5\/op=6\/op=7\/op=8\/op=9\/op=10\/op=11\/op=12\/op=13\/op=14\/op=15\/op=16\/(op=0\/16<op) by omega) with h|h|h|h|h|h|h|h|h|h|h|h|h|h|h|h|h
 ·simp only[go_sem,zE,zA,show decide ((op:Int)=1)=true from dEt (by omega),D.len,A.len];refine (LA gl n _).q ?_;cases h1:oR n
  ·simp only[go_sem,zE];exact cO ⟨by subst h;simp[el,h1],rfl⟩
  ·cases h2:decide (us.length<=4)
   ·simp only[go_sem,zE,dle4,h2];exact cO ⟨by subst h;simp only[el,h1,h2,i_,fk],rfl⟩
   ·simp only[go_sem,zE,dle4,h2,di0];exact cO ⟨by subst h;simp only[el,h1,h2,eM,jk],rfl⟩
 ·cases h1:decide (n=⟨#[]⟩)
  ·simp only[go_sem,zE,zA,zL,show decide ((op:Int)=1)=false from dEf (by omega),show decide ((op:Int)=2)=true from dEt (by omega),D.len,A.len,h1];exact cO ⟨by subst h;simp[el,h1],rfl⟩
  ·cases h2:decide (us.length=0)
   ·simp only[go_sem,zE,zA,zL,show decide ((op:Int)=1)=false from dEf (by omega),show decide ((op:Int)=2)=true from dEt (by omega),D.len,A.len,h1,di0,h2];exact cO ⟨by subst h;simp only[el,h1,h2,i_,fk],rfl⟩
   ·simp only[go_sem,zE,zA,zL,show decide ((op:Int)=1)=false from dEf (by omega),show decide ((op:Int)=2)=true from dEt (by omega),D.len,A.len,h1,di0,h2,di0];exact cO ⟨by subst h;simp only[el,h1,h2,eM,jk],rfl⟩
 ·cases h1:decide (n=⟨#[]⟩)
  ·simp only[go_sem,zE,zA,zL,show decide ((op:Int)=1)=false from dEf (by omega),show decide ((op:Int)=2)=false from dEf (by omega),show decide ((op:Int)=3)=true from dEt (by omega),D.len,A.len,h1];exact cO ⟨by subst h;simp[el,h1],rfl⟩
  ·cases h2:decide (us.length=0)
   ·simp only[go_sem,zE,zA,zL,show decide ((op:Int)=1)=false from dEf (by omega),show decide ((op:Int)=2)=false from dEf (by omega),show decide ((op:Int)=3)=true from dEt (by omega),D.len,A.len,h1,di0,h2];exact cO ⟨by subst h;simp only[el,h1,h2,i_,fk],rfl⟩
   ·simp only[go_sem,zE,zA,zL,show decide ((op:Int)=1)=false from dEf (by omega),show decide ((op:Int)=2)=false from dEf (by omega),show decide ((op:Int)=3)=true from dEt (by omega),D.len,A.len,h1,di0,h2,di1];exact cO ⟨by subst h;simp only[el,h1,h2,eM,jk],rfl⟩
 ·cases h1:decide (n=⟨#[]⟩)
  ·simp only[go_sem,zE,zA,zL,show decide ((op:Int)=1)=false from dEf (by omega),show decide ((op:Int)=2)=false from dEf (by omega),show decide ((op:Int)=3)=false from dEf (by omega),show decide ((op:Int)=10)=false from dEf (by omega),show decide ((op:Int)=11)=false from dEf (by omega),show decide ((op:Int)=12)=false from dEf (by omega),show decide ((op:Int)=13)=false from dEf (by omega),show decide ((op:Int)=4)=true from dEt (by omega),D.len,A.len,h1];exact cO ⟨by subst h;simp[el,h1],rfl⟩
  ·cases h2:decide (us.length=0)
   ·simp only[go_sem,zE,zA,zL,show decide ((op:Int)=1)=false from dEf (by omega),show decide ((op:Int)=2)=false from dEf (by omega),show decide ((op:Int)=3)=false from dEf (by omega),show decide ((op:Int)=10)=false from dEf (by omega),show decide ((op:Int)=11)=false from dEf (by omega),show decide ((op:Int)=12)=false from dEf (by omega),show decide ((op:Int)=13)=false from dEf (by omega),show decide ((op:Int)=4)=true from dEt (by omega),D.len,A.len,h1,di0,h2];exact cO ⟨by subst h;simp only[el,h1,h2,i_,fk],rfl⟩
   ·simp only[go_sem,zE,zA,zL,show decide ((op:Int)=1)=false from dEf (by omega),show decide ((op:Int)=2)=false from dEf (by omega),show decide ((op:Int)=3)=false from dEf (by omega),show decide ((op:Int)=10)=false from dEf (by omega),show decide ((op:Int)=11)=false from dEf (by omega),show decide ((op:Int)=12)=false from dEf (by omega),show decide ((op:Int)=13)=false from dEf (by omega),show decide ((op:Int)=4)=true from dEt (by omega),D.len,A.len,h1,di0,h2,di2];exact cO ⟨by subst h;simp only[el,h1,h2,eM,jk],rfl⟩
 ·cases h1:decide (n=⟨#[]⟩)
  ·simp only[go_sem,zE,zA,zL,show decide ((op:Int)=1)=false from dEf (by omega),show decide ((op:Int)=2)=false from dEf (by omega),show decide ((op:Int)=3)=false from dEf (by omega),show decide ((op:Int)=10)=false from dEf (by omega),show decide ((op:Int)=11)=false from dEf (by omega),show decide ((op:Int)=12)=false from dEf (by omega),show decide ((op:Int)=13)=false from dEf (by omega),show decide ((op:Int)=4)=false from dEf (by omega),show decide ((op:Int)=5)=true from dEt (by omega),D.len,A.len,h1];exact cO ⟨by subst h;simp[el,h1],rfl⟩
  ·cases h2:decide (us.length=0)
   ·simp only[go_sem,zE,zA,zL,show decide ((op:Int)=1)=false from dEf (by omega),show decide ((op:Int)=2)=false from dEf (by omega),show decide ((op:Int)=3)=false from dEf (by omega),show decide ((op:Int)=10)=false from dEf (by omega),show decide ((op:Int)=11)=false from dEf (by omega),show decide ((op:Int)=12)=false from dEf (by omega),show decide ((op:Int)=13)=false from dEf (by omega),show decide ((op:Int)=4)=false from dEf (by omega),show decide ((op:Int)=5)=true from dEt (by omega),D.len,A.len,h1,di0,h2];exact cO ⟨by subst h;simp only[el,h1,h2,i_,fk],rfl⟩
   ·simp only[go_sem,zE,zA,zL,show decide ((op:Int)=1)=false from dEf (by omega),show decide ((op:Int)=2)=false from dEf (by omega),show decide ((op:Int)=3)=false from dEf (by omega),show decide ((op:Int)=10)=false from dEf (by omega),show decide ((op:Int)=11)=false from dEf (by omega),show decide ((op:Int)=12)=false from dEf (by omega),show decide ((op:Int)=13)=false from dEf (by omega),show decide ((op:Int)=4)=false from dEf (by omega),show decide ((op:Int)=5)=true from dEt (by omega),D.len,A.len,h1,di0,h2,di2];exact cO ⟨by subst h;simp only[el,h1,h2,eM,jk],rfl⟩
 ·cases h1:decide (n=⟨#[]⟩)
  ·simp only[go_sem,zE,zA,zL,show decide ((op:Int)=1)=false from dEf (by omega),show decide ((op:Int)=2)=false from dEf (by omega),show decide ((op:Int)=3)=false from dEf (by omega),show decide ((op:Int)=10)=false from dEf (by omega),show decide ((op:Int)=11)=false from dEf (by omega),show decide ((op:Int)=12)=false from dEf (by omega),show decide ((op:Int)=13)=false from dEf (by omega),show decide ((op:Int)=4)=false from dEf (by omega),show decide ((op:Int)=5)=false from dEf (by omega),show decide ((op:Int)=6)=true from dEt (by omega),D.len,A.len,h1];exact cO ⟨by subst h;simp[el,h1],rfl⟩
  ·cases h2:decide (us.length=0)
   ·simp only[go_sem,zE,zA,zL,show decide ((op:Int)=1)=false from dEf (by omega),show decide ((op:Int)=2)=false from dEf (by omega),show decide ((op:Int)=3)=false from dEf (by omega),show decide ((op:Int)=10)=false from dEf (by omega),show decide ((op:Int)=11)=false from dEf (by omega),show decide ((op:Int)=12)=false from dEf (by omega),show decide ((op:Int)=13)=false from dEf (by omega),show decide ((op:Int)=4)=false from dEf (by omega),show decide ((op:Int)=5)=false from dEf (by omega),show decide ((op:Int)=6)=true from dEt (by omega),D.len,A.len,h1,di0,h2];exact cO ⟨by subst h;simp only[el,h1,h2,i_,fk],rfl⟩
   ·simp only[go_sem,zE,zA,zL,show decide ((op:Int)=1)=false from dEf (by omega),show decide ((op:Int)=2)=false from dEf (by omega),show decide ((op:Int)=3)=false from dEf (by omega),show decide ((op:Int)=10)=false from dEf (by omega),show decide ((op:Int)=11)=false from dEf (by omega),show decide ((op:Int)=12)=false from dEf (by omega),show decide ((op:Int)=13)=false from dEf (by omega),show decide ((op:Int)=4)=false from dEf (by omega),show decide ((op:Int)=5)=false from dEf (by omega),show decide ((op:Int)=6)=true from dEt (by omega),D.len,A.len,h1,di0,h2,di2];exact cO ⟨by subst h;simp only[el,h1,h2,eM,jk],rfl⟩
 ·cases h1:decide (n=⟨#[]⟩)
  ·simp only[go_sem,zE,zA,zL,show decide ((op:Int)=1)=false from dEf (by omega),show decide ((op:Int)=2)=false from dEf (by omega),show decide ((op:Int)=3)=false from dEf (by omega),show decide ((op:Int)=10)=false from dEf (by omega),show decide ((op:Int)=11)=false from dEf (by omega),show decide ((op:Int)=12)=false from dEf (by omega),show decide ((op:Int)=13)=false from dEf (by omega),show decide ((op:Int)=4)=false from dEf (by omega),show decide ((op:Int)=5)=false from dEf (by omega),show decide ((op:Int)=6)=false from dEf (by omega),show decide ((op:Int)=7)=true from dEt (by omega),D.len,A.len,h1];exact cO ⟨by subst h;simp[el,h1],rfl⟩
  ·cases h2:decide (us.length=0)
   ·simp only[go_sem,zE,zA,zL,show decide ((op:Int)=1)=false from dEf (by omega),show decide ((op:Int)=2)=false from dEf (by omega),show decide ((op:Int)=3)=false from dEf (by omega),show decide ((op:Int)=10)=false from dEf (by omega),show decide ((op:Int)=11)=false from dEf (by omega),show decide ((op:Int)=12)=false from dEf (by omega),show decide ((op:Int)=13)=false from dEf (by omega),show decide ((op:Int)=4)=false from dEf (by omega),show decide ((op:Int)=5)=false from dEf (by omega),show decide ((op:Int)=6)=false from dEf (by omega),show decide ((op:Int)=7)=true from dEt (by omega),D.len,A.len,h1,di0,h2];exact cO ⟨by subst h;simp only[el,h1,h2,i_,fk],rfl⟩
   ·simp only[go_sem,zE,zA,zL,show decide ((op:Int)=1)=false from dEf (by omega),show decide ((op:Int)=2)=false from dEf (by omega),show decide ((op:Int)=3)=false from dEf (by omega),show decide ((op:Int)=10)=false from dEf (by omega),show decide ((op:Int)=11)=false from dEf (by omega),show decide ((op:Int)=12)=false from dEf (by omega),show decide ((op:Int)=13)=false from dEf (by omega),show decide ((op:Int)=4)=false from dEf (by omega),show decide ((op:Int)=5)=false from dEf (by omega),show decide ((op:Int)=6)=false from dEf (by omega),show decide ((op:Int)=7)=true from dEt (by omega),D.len,A.len,h1,di0,h2,di2];exact cO ⟨by subst h;simp only[el,h1,h2,eM,jk],rfl⟩
 ·simp only[go_sem,zE,zA,show decide ((op:Int)=1)=false from dEf (by omega),show decide ((op:Int)=2)=false from dEf (by omega),show decide ((op:Int)=3)=false from dEf (by omega),show decide ((op:Int)=10)=false from dEf (by omega),show decide ((op:Int)=11)=false from dEf (by omega),show decide ((op:Int)=12)=false from dEf (by omega),show decide ((op:Int)=13)=false from dEf (by omega),show decide ((op:Int)=4)=false from dEf (by omega),show decide ((op:Int)=5)=false from dEf (by omega),show decide ((op:Int)=6)=false from dEf (by omega),show decide ((op:Int)=7)=false from dEf (by omega),show decide ((op:Int)=14)=false from dEf (by omega),show decide ((op:Int)=8)=true from dEt (by omega),D.len,A.len];refine (xi gl n _).q ?_;cases h1:iD n
  ·simp only[go_sem,zE];exact cO ⟨by subst h;simp[el,h1],rfl⟩
  ·cases h2:decide (us.length=0)
   ·simp only[go_sem,zE,di0,h2];exact cO ⟨by subst h;simp only[el,h1,h2,i_,fk],rfl⟩
   ·simp only[go_sem,zE,di0,h2,di1];exact cO ⟨by subst h;simp only[el,h1,h2,eM,jk],rfl⟩
 ·simp only[go_sem,zE,zA,show decide ((op:Int)=1)=false from dEf (by omega),show decide ((op:Int)=2)=false from dEf (by omega),show decide ((op:Int)=3)=false from dEf (by omega),show decide ((op:Int)=10)=false from dEf (by omega),show decide ((op:Int)=11)=false from dEf (by omega),show decide ((op:Int)=12)=false from dEf (by omega),show decide ((op:Int)=13)=false from dEf (by omega),show decide ((op:Int)=4)=false from dEf (by omega),show decide ((op:Int)=5)=false from dEf (by omega),show decide ((op:Int)=6)=false from dEf (by omega),show decide ((op:Int)=7)=false from dEf (by omega),show decide ((op:Int)=14)=false from dEf (by omega),show decide ((op:Int)=8)=false from dEf (by omega),show decide ((op:Int)=9)=true from dEt (by omega),D.len,A.len];refine (xi gl n _).q ?_;cases h1:iD n
  ·simp only[go_sem,zE];exact cO ⟨by subst h;simp[el,h1],rfl⟩
  ·cases h2:decide (us.length=0)
   ·simp only[go_sem,zE,di0,h2];exact cO ⟨by subst h;simp only[el,h1,h2,i_,fk],rfl⟩
   ·simp only[go_sem,zE,di0,h2,di1];exact cO ⟨by subst h;simp only[el,h1,h2,eM,jk],rfl⟩
 ·cases h1:decide (n=⟨#[]⟩)
  ·simp only[go_sem,zE,zA,zL,show decide ((op:Int)=1)=false from dEf (by omega),show decide ((op:Int)=2)=false from dEf (by omega),show decide ((op:Int)=3)=false from dEf (by omega),show decide ((op:Int)=10)=true from dEt (by omega),D.len,A.len,h1];exact cO ⟨by subst h;simp[el,h1],rfl⟩
  ·cases h2:decide (us.length=0)
   ·simp only[go_sem,zE,zA,zL,show decide ((op:Int)=1)=false from dEf (by omega),show decide ((op:Int)=2)=false from dEf (by omega),show decide ((op:Int)=3)=false from dEf (by omega),show decide ((op:Int)=10)=true from dEt (by omega),D.len,A.len,h1,di0,h2];exact cO ⟨by subst h;simp only[el,h1,h2,i_,fk],rfl⟩
   ·simp only[go_sem,zE,zA,zL,show decide ((op:Int)=1)=false from dEf (by omega),show decide ((op:Int)=2)=false from dEf (by omega),show decide ((op:Int)=3)=false from dEf (by omega),show decide ((op:Int)=10)=true from dEt (by omega),D.len,A.len,h1,di0,h2,di1];exact cO ⟨by subst h;simp only[el,h1,h2,eM,jk],rfl⟩
 ·cases h1:decide (n=⟨#[]⟩)
  ·simp only[go_sem,zE,zA,zL,show decide ((op:Int)=1)=false from dEf (by omega),show decide ((op:Int)=2)=false from dEf (by omega),show decide ((op:Int)=3)=false from dEf (by omega),show decide ((op:Int)=10)=false from dEf (by omega),show decide ((op:Int)=11)=true from dEt (by omega),D.len,A.len,h1];exact cO ⟨by subst h;simp[el,h1],rfl⟩
  ·cases h2:decide (us.length=0)
   ·simp only[go_sem,zE,zA,zL,show decide ((op:Int)=1)=false from dEf (by omega),show decide ((op:Int)=2)=false from dEf (by omega),show decide ((op:Int)=3)=false from dEf (by omega),show decide ((op:Int)=10)=false from dEf (by omega),show decide ((op:Int)=11)=true from dEt (by omega),D.len,A.len,h1,di0,h2];exact cO ⟨by subst h;simp only[el,h1,h2,i_,fk],rfl⟩
   ·simp only[go_sem,zE,zA,zL,show decide ((op:Int)=1)=false from dEf (by omega),show decide ((op:Int)=2)=false from dEf (by omega),show decide ((op:Int)=3)=false from dEf (by omega),show decide ((op:Int)=10)=false from dEf (by omega),show decide ((op:Int)=11)=true from dEt (by omega),D.len,A.len,h1,di0,h2,di1];exact cO ⟨by subst h;simp only[el,h1,h2,eM,jk],rfl⟩
 ·cases h1:decide (n=⟨#[]⟩)
  ·simp only[go_sem,zE,zA,zL,show decide ((op:Int)=1)=false from dEf (by omega),show decide ((op:Int)=2)=false from dEf (by omega),show decide ((op:Int)=3)=false from dEf (by omega),show decide ((op:Int)=10)=false from dEf (by omega),show decide ((op:Int)=11)=false from dEf (by omega),show decide ((op:Int)=12)=true from dEt (by omega),D.len,A.len,h1];exact cO ⟨by subst h;simp[el,h1],rfl⟩
  ·cases h2:decide (us.length=0)
   ·simp only[go_sem,zE,zA,zL,show decide ((op:Int)=1)=false from dEf (by omega),show decide ((op:Int)=2)=false from dEf (by omega),show decide ((op:Int)=3)=false from dEf (by omega),show decide ((op:Int)=10)=false from dEf (by omega),show decide ((op:Int)=11)=false from dEf (by omega),show decide ((op:Int)=12)=true from dEt (by omega),D.len,A.len,h1,di0,h2];exact cO ⟨by subst h;simp only[el,h1,h2,i_,fk],rfl⟩
   ·simp only[go_sem,zE,zA,zL,show decide ((op:Int)=1)=false from dEf (by omega),show decide ((op:Int)=2)=false from dEf (by omega),show decide ((op:Int)=3)=false from dEf (by omega),show decide ((op:Int)=10)=false from dEf (by omega),show decide ((op:Int)=11)=false from dEf (by omega),show decide ((op:Int)=12)=true from dEt (by omega),D.len,A.len,h1,di0,h2,di1];exact cO ⟨by subst h;simp only[el,h1,h2,eM,jk],rfl⟩
 ·cases h1:decide (n=⟨#[]⟩)
  ·simp only[go_sem,zE,zA,zL,show decide ((op:Int)=1)=false from dEf (by omega),show decide ((op:Int)=2)=false from dEf (by omega),show decide ((op:Int)=3)=false from dEf (by omega),show decide ((op:Int)=10)=false from dEf (by omega),show decide ((op:Int)=11)=false from dEf (by omega),show decide ((op:Int)=12)=false from dEf (by omega),show decide ((op:Int)=13)=true from dEt (by omega),D.len,A.len,h1];exact cO ⟨by subst h;simp[el,h1],rfl⟩
  ·cases h2:decide (us.length=0)
   ·simp only[go_sem,zE,zA,zL,show decide ((op:Int)=1)=false from dEf (by omega),show decide ((op:Int)=2)=false from dEf (by omega),show decide ((op:Int)=3)=false from dEf (by omega),show decide ((op:Int)=10)=false from dEf (by omega),show decide ((op:Int)=11)=false from dEf (by omega),show decide ((op:Int)=12)=false from dEf (by omega),show decide ((op:Int)=13)=true from dEt (by omega),D.len,A.len,h1,di0,h2];exact cO ⟨by subst h;simp only[el,h1,h2,i_,fk],rfl⟩
   ·simp only[go_sem,zE,zA,zL,show decide ((op:Int)=1)=false from dEf (by omega),show decide ((op:Int)=2)=false from dEf (by omega),show decide ((op:Int)=3)=false from dEf (by omega),show decide ((op:Int)=10)=false from dEf (by omega),show decide ((op:Int)=11)=false from dEf (by omega),show decide ((op:Int)=12)=false from dEf (by omega),show decide ((op:Int)=13)=true from dEt (by omega),D.len,A.len,h1,di0,h2,di1];exact cO ⟨by subst h;simp only[el,h1,h2,eM,jk],rfl⟩
 ·cases h1:decide (n=⟨#[]⟩)
  ·simp only[go_sem,zE,zA,zL,show decide ((op:Int)=1)=false from dEf (by omega),show decide ((op:Int)=2)=false from dEf (by omega),show decide ((op:Int)=3)=false from dEf (by omega),show decide ((op:Int)=10)=false from dEf (by omega),show decide ((op:Int)=11)=false from dEf (by omega),show decide ((op:Int)=12)=false from dEf (by omega),show decide ((op:Int)=13)=false from dEf (by omega),show decide ((op:Int)=4)=false from dEf (by omega),show decide ((op:Int)=5)=false from dEf (by omega),show decide ((op:Int)=6)=false from dEf (by omega),show decide ((op:Int)=7)=false from dEf (by omega),show decide ((op:Int)=14)=true from dEt (by omega),D.len,A.len,h1];exact cO ⟨by subst h;simp[el,h1],rfl⟩
  ·cases h2:decide (us.length=0)
   ·simp only[go_sem,zE,zA,zL,show decide ((op:Int)=1)=false from dEf (by omega),show decide ((op:Int)=2)=false from dEf (by omega),show decide ((op:Int)=3)=false from dEf (by omega),show decide ((op:Int)=10)=false from dEf (by omega),show decide ((op:Int)=11)=false from dEf (by omega),show decide ((op:Int)=12)=false from dEf (by omega),show decide ((op:Int)=13)=false from dEf (by omega),show decide ((op:Int)=4)=false from dEf (by omega),show decide ((op:Int)=5)=false from dEf (by omega),show decide ((op:Int)=6)=false from dEf (by omega),show decide ((op:Int)=7)=false from dEf (by omega),show decide ((op:Int)=14)=true from dEt (by omega),D.len,A.len,h1,di0,h2];exact cO ⟨by subst h;simp only[el,h1,h2,i_,fk],rfl⟩
   ·simp only[go_sem,zE,zA,zL,show decide ((op:Int)=1)=false from dEf (by omega),show decide ((op:Int)=2)=false from dEf (by omega),show decide ((op:Int)=3)=false from dEf (by omega),show decide ((op:Int)=10)=false from dEf (by omega),show decide ((op:Int)=11)=false from dEf (by omega),show decide ((op:Int)=12)=false from dEf (by omega),show decide ((op:Int)=13)=false from dEf (by omega),show decide ((op:Int)=4)=false from dEf (by omega),show decide ((op:Int)=5)=false from dEf (by omega),show decide ((op:Int)=6)=false from dEf (by omega),show decide ((op:Int)=7)=false from dEf (by omega),show decide ((op:Int)=14)=true from dEt (by omega),D.len,A.len,h1,di0,h2,di2];exact cO ⟨by subst h;simp only[el,h1,h2,eM,jk],rfl⟩
 ·simp only[go_sem,zE,show decide ((op:Int)=1)=false from dEf (by omega),show decide ((op:Int)=2)=false from dEf (by omega),show decide ((op:Int)=3)=false from dEf (by omega),show decide ((op:Int)=10)=false from dEf (by omega),show decide ((op:Int)=11)=false from dEf (by omega),show decide ((op:Int)=12)=false from dEf (by omega),show decide ((op:Int)=13)=false from dEf (by omega),show decide ((op:Int)=4)=false from dEf (by omega),show decide ((op:Int)=5)=false from dEf (by omega),show decide ((op:Int)=6)=false from dEf (by omega),show decide ((op:Int)=7)=false from dEf (by omega),show decide ((op:Int)=14)=false from dEf (by omega),show decide ((op:Int)=8)=false from dEf (by omega),show decide ((op:Int)=9)=false from dEf (by omega),show decide ((op:Int)=15)=true from dEt (by omega),D.len,A.len];exact cO ⟨by rw[h];rfl,rfl⟩
 ·simp only[go_sem,zE,show decide ((op:Int)=1)=false from dEf (by omega),show decide ((op:Int)=2)=false from dEf (by omega),show decide ((op:Int)=3)=false from dEf (by omega),show decide ((op:Int)=10)=false from dEf (by omega),show decide ((op:Int)=11)=false from dEf (by omega),show decide ((op:Int)=12)=false from dEf (by omega),show decide ((op:Int)=13)=false from dEf (by omega),show decide ((op:Int)=4)=false from dEf (by omega),show decide ((op:Int)=5)=false from dEf (by omega),show decide ((op:Int)=6)=false from dEf (by omega),show decide ((op:Int)=7)=false from dEf (by omega),show decide ((op:Int)=14)=false from dEf (by omega),show decide ((op:Int)=8)=false from dEf (by omega),show decide ((op:Int)=9)=false from dEf (by omega),show decide ((op:Int)=15)=false from dEf (by omega),show decide ((op:Int)=16)=true from dEt (by omega),D.len,A.len];exact cO ⟨by rw[h];rfl,rfl⟩
 ·simp only[go_sem,zE,show decide ((op:Int)=1)=false from dEf (by omega),show decide ((op:Int)=2)=false from dEf (by omega),show decide ((op:Int)=3)=false from dEf (by omega),show decide ((op:Int)=10)=false from dEf (by omega),show decide ((op:Int)=11)=false from dEf (by omega),show decide ((op:Int)=12)=false from dEf (by omega),show decide ((op:Int)=13)=false from dEf (by omega),show decide ((op:Int)=4)=false from dEf (by omega),show decide ((op:Int)=5)=false from dEf (by omega),show decide ((op:Int)=6)=false from dEf (by omega),show decide ((op:Int)=7)=false from dEf (by omega),show decide ((op:Int)=14)=false from dEf (by omega),show decide ((op:Int)=8)=false from dEf (by omega),show decide ((op:Int)=9)=false from dEf (by omega),show decide ((op:Int)=15)=false from dEf (by omega),show decide ((op:Int)=16)=false from dEf (by omega),D.len,A.len];exact cO ⟨by rw[LF h],rfl⟩
def RSz (us:List Tm):Prop:=∀(D:Tag) (A:List IV) (_:okEs D 3) (_:IsTms us A) (_:dN us<=1099511627776) (st:ISt),
 ICall prog gl 236 [.sl D A] st (λr st'=>r=(dN us:Int)/\st'=st)
def xj:∀(l m:List Tm),dN (l++m)=dN l+dN m
 | [],m=>by simp[dN]
 | a::l,m=>by simp only[dX,dN,xj l m];omega
def Dc:∀(l m:List Tm),eE (l++m)=max (eE l) (eE m)
 | [],m=>by simp[eE]
 | a::l,m=>by simp only[dX,eE,Dc l m];omega
def xk:∀(l m:List Fm),dt (l++m)=dt l+dt m
 | [],m=>by simp[dt]
 | a::l,m=>by simp only[dX,dt,xk l m];omega
def Dd:∀(l m:List Fm),eU (l++m)=max (eU l) (eU m)
 | [],m=>by simp[eU]
 | a::l,m=>by simp only[dX,eU,Dd l m];omega
def De:∀(l m:List Fm),gC (l++m)=(gC l&&gC m)
 | [],m=>by simp[gC]
 | a::l,m=>by simp only[dX,gC,De l m,me]
def Df {us:List Tm}{k:Nat}{a:Tm}(h:us[k]?=some a):dN (us.take (k+1))=dN (us.take k)+a.size/\dN (us.take k)+a.size<=dN us:=by
 have h1:dN (us.take (k+1))=dN (us.take k)+a.size:=by rw[dK h,xj];simp[dN]
 refine⟨h1,?_⟩;have h2:dN us=dN (us.take (k+1))+dN (us.drop (k+1)):=by rw[<- xj,eF]
 omega
def xn {us:List Fm}{k:Nat}{a:Fm}(h:us[k]?=some a):dt (us.take (k+1))=dt (us.take k)+a.size/\dt (us.take k)+a.size<=dt us:=by
 have h1:dt (us.take (k+1))=dt (us.take k)+a.size:=by rw[dK h,xk];simp[dt]
 refine⟨h1,?_⟩;have h2:dt us=dt (us.take (k+1))+dt (us.drop (k+1)):=by rw[<- xk,eF]
 omega
def tK:∀l:List Fm,l.length<=dt l
 | []=>dz _
 | a::l=>by have:=tK l;have:=a.size_pos;simp only[eG,dt];omega
mutual
def LH:∀t:Tm,t.deep<=t.size
 | .mk _ _ l=>by have:=qg l;simp only[Tm.deep,Tm.size];omega
def qg:∀l:List Tm,eE l<=dN l
 | []=>dz _
 | a::l=>by have:=LH a;have:=qg l;simp only[eE,dN];omega
end
mutual
def LI:∀t:Fm,t.deep<=t.size
 | .mk _ _ l s=>by have:=qg l;have:=xo s;simp only[Fm.deep,Fm.size];omega
def xo:∀l:List Fm,eU l<=dt l
 | []=>dz _
 | a::l=>by have:=LI a;have:=xo l;simp only[eU,dt];omega
end
def LJ {a b:Nat}(h:a+b<=281474976710656):IntKind.i64.wrap ((a:Int)+(b:Int))=((a+b:Nat):Int):=by rw[w64]<;>omega
def LK {a b:Nat}(h:a+1+b<=281474976710656):IntKind.i64.wrap (IntKind.i64.wrap ((a:Int)+1)+(b:Int))=((a+(b+1):Nat):Int):=by rw[w64,w64]<;>(try rw[w64])<;>omega
def LL (us:List Tm)(IH:∀v n l,Tm.mk v n l∈us->RSz gl l):RSz gl us:=by
 intro tg xs U A ai st;have ac:=oW us;refine iI func236 ?_;simp only[go_sem];refine cV us.length (λk fr st' ds=>fr 0=.iv (.sl tg xs)/\fr 3=(dN (us.take k):Int)/\fr 4=.iv (.raw (.int .i64 k))/\st'=st/\ds=[]) ?_ ?_ ?_
 ·simp only[go_sem,zE,reduceCtorEq]
  first|rfl|exact⟨rfl,rfl⟩
 ·rintro k fr st _ D ⟨f0,f3,f4,rfl,rfl⟩;obtain⟨⟨v,n,m⟩,ha⟩:=dd D;obtain⟨y,aa,hy⟩:=A.get ha;have E:=lMg ha;obtain⟨h1,h2⟩:=Df ha;obtain⟨t3,x3,rfl,W,O⟩:=hy.mk;simp only[Tm.size] at h1 h2;simp only[go_sem,zE,zA,reduceCtorEq,f0,f3,f4,A.len,lt_i D,dc U,iNn,aa,fits];intros;refine (IH v n m E t3 x3 W O (by omega) _).mono ?_;rintro _ st ⟨rfl,rfl⟩;simp only[go_sem,zE,reduceCtorEq,f0,f4,df D (show us.length<=281474976710656 by omega),LK (show dN (us.take k)+1+dN m<=281474976710656 by omega),h1]
 ·rintro fr st _ ⟨f0,f3,f4,rfl,rfl⟩;rw[lTl] at f3;simp only[go_sem,zE,reduceCtorEq,f0,f3,f4,A.len,dD (nLi _)];intros;exact cO ⟨rfl,rfl⟩
def Dg:∀(k:Nat)(us:List Tm),SizeOf.sizeOf us<k->RSz gl us
 | 0,f,h=>by omega
 | k+1,us,h=>LL gl us (λv n l A=>Dg k l (by
   have:=lSm A;simp at this;omega))
def LM (us:List Tm):RSz gl us:=Dg gl _ us (dM _)
def RDp (us:List Tm):Prop:=∀(D:Tag) (A:List IV) (_:okEs D 3) (_:IsTms us A) (_:dN us<=1099511627776) (st:ISt),
 ICall prog gl 237 [.sl D A] st (λr st'=>r=(eE us:Int)/\st'=st)
def LN (us:List Tm)(IH:∀v n l,Tm.mk v n l∈us->RDp gl l):RDp gl us:=by
 intro tg xs W D ak st;have ae:=oW us;refine iI func237 ?_;simp only[go_sem];refine cV us.length (λk fr st' ds=>fr 0=.iv (.sl tg xs)/\fr 3=(eE (us.take k):Int)/\fr 4=.iv (.raw (.int .i64 k))/\st'=st/\ds=[]) ?_ ?_ ?_
 ·simp only[go_sem,zE,reduceCtorEq]
  first|rfl|exact⟨rfl,rfl⟩
 ·rintro k fr st _ A ⟨f0,f3,f4,rfl,rfl⟩;obtain⟨⟨v,n,m⟩,O⟩:=dd A;obtain⟨y,ab,hy⟩:=D.get O;have E:=lMg O;have h1:eE (us.take (k+1))=max (eE (us.take k)) (eE m+1):=by rw[dK O,Dc];simp[eE,Tm.deep]
  have h2:=(Df O).2;have h3:=qg m;have h4:=qg (us.take k);obtain⟨t3,x3,rfl,aa,U⟩:=hy.mk;simp only[Tm.size] at h2;simp only[go_sem,zE,zA,reduceCtorEq,f0,f4,D.len,lt_i A,dc W,iNn,ab,fits];intros;refine (IH v n m E t3 x3 aa U (by omega) _).q ?_;have hw:IntKind.i64.wrap ((eE m:Int)+1)=((eE m+1:Nat):Int):=by rw[w64]<;>omega
  by_cases hg:eE (us.take k)<eE m+1
  ·simp only[go_sem,zE,reduceCtorEq,f0,f3,f4,hw,lt_i hg,df A (by omega)];rw[h1,Nat.max_eq_right (by omega)]
  ·simp only[go_sem,zE,reduceCtorEq,f0,f3,f4,hw,dD hg,df A (by omega)];rw[h1,Nat.max_eq_left (by omega)]
 ·rintro fr st _ ⟨f0,f3,f4,rfl,rfl⟩;rw[lTl] at f3;simp only[go_sem,zE,reduceCtorEq,f0,f3,f4,D.len,dD (nLi _)];intros;exact cO ⟨rfl,rfl⟩
def Dh:∀(k:Nat)(us:List Tm),SizeOf.sizeOf us<k->RDp gl us
 | 0,f,h=>by omega
 | k+1,us,h=>LN gl us (λv n l A=>Dh k l (by
   have:=lSm A;simp at this;omega))
def LO (us:List Tm):RDp gl us:=Dh gl _ us (dM _)
def RNd (f:Fm):Prop:=∀(x:IV) (_:IsFm f x) (_:f.size<=1099511627776) (st:ISt),ICall prog gl 193 [x] st (λr st'=>r=f.size/\st'=st)
def LP (op:Nat)(n:ByteArray)(us:List Tm)(sub:List Fm)(IH:∀a∈sub,RNd gl a):RNd gl (.mk op n us sub):=by
 intro x hx af st;obtain⟨ta,xa,tb,xb,rfl,ho,ae,aa,ac,A⟩:=hx.mk;simp only[Fm.size] at af;have au:=oW us;have ar:=tK sub;refine iI func193 ?_;simp only[go_sem,zE,zA];refine (LM gl us ta xa ae aa (by omega) _).mono ?_;rintro _ st ⟨rfl,rfl⟩;have ab:IntKind.i64.wrap (1+(dN us:Int))=((dN us+1:Nat):Int):=by rw[w64]<;>omega
 simp only[go_sem,ab];refine cV sub.length (λk fr st' ds=>fr 1=.box [.raw (.int .u8 op),n,.sl ta xa,.sl tb xb]/\fr 3=((dN us+1+dt (sub.take k):Nat):Int)/\fr 4=.iv (.raw (.int .i64 k))/\st'=st/\ds=[]) ?_ ?_ ?_
 ·simp only[go_sem,zE]
  first|rfl|exact⟨rfl,rfl⟩
 ·rintro k fr st _ D ⟨f1,f3,f4,rfl,rfl⟩;obtain⟨a,ha⟩:=dd D;obtain⟨y,ag,hy⟩:=A.get ha;have U:=lMg ha;obtain⟨h1,h2⟩:=xn ha;have E:=IH a U y hy (by omega);obtain⟨o5,n5,W,O⟩:=a;obtain⟨t3,x3,t4,x4,rfl,_⟩:=hy.mk;simp only[go_sem,zE,zB,zA,f1,f3,f4,A.len,lt_i D,dc ac,iNn,ag,fits];intros;refine (E _).mono ?_;rintro _ st ⟨rfl,rfl⟩;simp only[go_sem,zE,f1,f4,df D (show sub.length<=281474976710656 by omega),LJ (show (dN us+1+dt (sub.take k))+(Fm.mk o5 n5 W O).size<=281474976710656 by omega),h1];rw[fa (dN us+1)]
 ·rintro fr st _ ⟨f1,f3,f4,rfl,rfl⟩;rw[lTl] at f3;simp only[go_sem,zE,f1,f3,f4,A.len,dD (nLi _)];intros;exact cO ⟨by rw[show (Fm.mk op n us sub).size=dN us+1+dt sub by simp only[Fm.size];omega],rfl⟩
def Di:∀(k:Nat)(t:Fm),SizeOf.sizeOf t<k->RNd gl t
 | 0,f,h=>by omega
 | k+1,.mk o n us sub,h=>LP gl o n us sub (λa A=>Di k a (by
   have:=lSm A;simp at h;omega))
def LQ (t:Fm):RNd gl t:=Di gl _ t (dM _)
def RDd (f:Fm):Prop:=∀(x:IV) (_:IsFm f x) (_:f.size<=1099511627776) (st:ISt),ICall prog gl 194 [x] st (λr st'=>r=f.deep/\st'=st)
def LR (op:Nat)(n:ByteArray)(us:List Tm)(sub:List Fm)(IH:∀a∈sub,RDd gl a):RDd gl (.mk op n us sub):=by
 intro x hx ah st;obtain⟨ta,xa,tb,xb,rfl,ho,ag,ae,af,O⟩:=hx.mk;simp only[Fm.size] at ah;have av:=oW us;have au:=tK sub;have ax:=qg us;have aw:=xo sub;refine iI func194 ?_;simp only[go_sem,zE,zA];refine (LO gl us ta xa ag ae (by omega) _).q ?_;simp only[go_sem];refine cV sub.length (λk fr st' ds=>fr 1=.box [.raw (.int .u8 op),n,.sl ta xa,.sl tb xb]/\fr 3=((max (eE us) (eU (sub.take k)):Nat):Int)/\fr 4=.iv (.raw (.int .i64 k))/\st'=st/\ds=[]) ?_ ?_ ?_
 ·simp only[go_sem,zE];rw[show max (eE us) (eU [])=eE us by simp[eU]];exact⟨rfl,rfl⟩
 ·rintro k fr st _ E ⟨f1,f3,f4,rfl,rfl⟩;obtain⟨a,ha⟩:=dd E;obtain⟨y,ai,hy⟩:=O.get ha;have W:=lMg ha;have h2:=(xn ha).2;have U:=IH a W y hy (by omega);have h1:eU (sub.take (k+1))=max (eU (sub.take k)) a.deep:=by rw[dK ha,Dd];simp[eU]
  obtain⟨o5,n5,D,A⟩:=a;obtain⟨t3,x3,t4,x4,rfl,_⟩:=hy.mk;simp only[go_sem,zE,zB,zA,f1,f4,O.len,lt_i E,dc af,iNn,ai,fits];intros;refine (U _).q ?_;by_cases hg:max (eE us) (eU (sub.take k))<(Fm.mk o5 n5 D A).deep
  ·simp only[go_sem,zE,f1,f3,f4,lt_i hg,df E (by omega)];rw[h1,show max (eE us) (max (eU (sub.take k)) (Fm.mk o5 n5 D A).deep)=(Fm.mk o5 n5 D A).deep by omega]
  ·simp only[go_sem,zE,f1,f3,f4,dD hg,df E (by omega)];rw[h1,show max (eE us) (max (eU (sub.take k)) (Fm.mk o5 n5 D A).deep)=max (eE us) (eU (sub.take k)) by omega]
 ·rintro fr st _ ⟨f1,f3,f4,rfl,rfl⟩;rw[lTl] at f3;have hw:IntKind.i64.wrap (((max (eE us) (eU sub):Nat):Int)+1)=((max (eE us) (eU sub)+1:Nat):Int):=by rw[w64]<;>omega
  simp only[go_sem,zE,f1,f3,f4,O.len,dD (nLi _),hw];intros;exact cO ⟨by simp only[Fm.deep],rfl⟩
def Dj:∀(k:Nat)(t:Fm),SizeOf.sizeOf t<k->RDd gl t
 | 0,f,h=>by omega
 | k+1,.mk o n us sub,h=>LR gl o n us sub (λa A=>Dj k a (by
   have:=lSm A;simp at h;omega))
def LS (t:Fm):RDd gl t:=Dj gl _ t (dM _)
def LU {l:List Fm}{a:Fm}(h:a∈l)(D:a.ok=false):gC l=false:=by
 induction l with
 | nil=>cases h
 | cons b l A =>
  simp only[gC];rcases dC.1 h with rfl|h
  ·simp[D]
  ·simp[A h]
def RRw (f:Fm):Prop:=∀(x:IV) (_:IsFm f x) (_:f.size<=1099511627776) (st:ISt),ICall prog gl 192 [x,false] st (λr st'=>r=f.ok/\st'=st)
def LV (op:Nat)(n:ByteArray)(us:List Tm)(sub:List Fm)(IH:∀a∈sub,RRw gl a):RRw gl (.mk op n us sub):=by
 intro x hx am st;have ag:=λst=>LG gl op n us sub x hx st;obtain⟨ta,xa,tb,xb,rfl,ho,ak,ab,aj,aa⟩:=hx.mk;simp only[Fm.size] at am;have aA:=oW us;have az:=tK sub;refine iI func192 ?_;simp only[go_sem,zE,zA,zL];refine (ag _).q ?_;cases hr:el op n us.length sub.length
 ·simp only[go_sem];exact cO ⟨by simp[Fm.ok,hr],rfl⟩
 simp only[go_sem];refine cV us.length (λk fr st' ds=>fT (us.take k)=true/\fr 1=false/\fr 2=.box [.raw (.int .u8 op),n,.sl ta xa,.sl tb xb]/\fr 5=.iv (.raw (.int .i64 k))/\st'=st/\ds=[]) ?_ ?_ ?_
 ·simp only[go_sem,zE];exact⟨rfl,rfl⟩
 ·rintro k fr st _ D ⟨U,f1,f2,f5,rfl,rfl⟩;obtain⟨a,W⟩:=dd D;obtain⟨y,ac,hy⟩:=ab.get W;have A:=lMg W;have E:=LD gl a y hy (by have:=Da A;omega) st;obtain⟨v3,n3,m3⟩:=a;obtain⟨t3,x3,rfl,_⟩:=hy.mk;simp only[go_sem,zE,zB,zA,f1,f2,f5,ab.len,lt_i D,dc ak,iNn,ac,fits];intros;refine E.mono ?_;rintro _ st ⟨rfl,rfl⟩;cases hb:(Tm.mk v3 n3 m3).ok
  ·simp only[go_sem];exact cO ⟨by simp[Fm.ok,C_ A hb],rfl⟩
  ·simp only[go_sem,zE,f1,f2,f5,df D (by omega)];rw[dK W,ru,U];simp[fT,hb]
 ·rintro fr st _ ⟨U,f1,f2,f5,rfl,rfl⟩;rw[lTl] at U;simp only[go_sem,zE,f2,f5,ab.len,dD (nLi _)];intros;refine cV sub.length (λk fr st' ds=>gC (sub.take k)=true/\fr 1=false/\fr 2=.box [.raw (.int .u8 op),n,.sl ta xa,.sl tb xb]/\fr 6=.iv (.raw (.int .i64 k))/\st'=st/\ds=[]) ?_ ?_ ?_
  ·simp only[go_sem,zE,f1,f2];exact⟨rfl,rfl⟩
  ·rintro k fr st _ D ⟨O,f1,f2,f6,rfl,rfl⟩;obtain⟨a,W⟩:=dd D;obtain⟨y,ac,hy⟩:=aa.get W;have A:=lMg W;have h2:=(xn W).2;have E:=IH a A y hy (by omega);obtain⟨o5,n5,ai,ae⟩:=a;obtain⟨t3,x3,t4,x4,rfl,_⟩:=hy.mk;simp only[go_sem,zE,zB,zA,f1,f2,f6,aa.len,lt_i D,dc aj,iNn,ac,fits];intros;refine (E _).q ?_;cases hb:(Fm.mk o5 n5 ai ae).ok
   ·simp only[go_sem];exact cO ⟨by rw[show (Fm.mk op n us sub).ok=false by simp only[Fm.ok,LU A hb,i_]],rfl⟩
   ·simp only[go_sem,zE,f1,f2,f6,df D (by omega)];rw[dK W,De,O];simp only[gC,hb,Bool.and_self]
  ·rintro fr st _ ⟨O,f1,f2,f6,rfl,rfl⟩;rw[lTl] at O;simp only[go_sem,zE,f2,f6,aa.len,dD (nLi _)];intros;exact cO ⟨by simp only[Fm.ok,hr,U,O,Bool.and_self],rfl⟩
def Dk:∀(k:Nat)(t:Fm),SizeOf.sizeOf t<k->RRw gl t
 | 0,f,h=>by omega
 | k+1,.mk o n us sub,h=>LV gl o n us sub (λa A=>Dk k a (by
   have:=lSm A;simp at h;omega))
def LW (t:Fm):RRw gl t:=Dk gl _ t (dM _)
def LX (f:Fm)(x:IV)(hx:IsFm f x)(D:f.size<=1099511627776)(st:ISt):ICall prog gl 161 [x] st (λr st'=>r=f.right/\st'=st):=by
 have h1:=λst=>LW gl f x hx D st;have h2:=λst=>LQ gl f x hx D st;have U:=λst=>LS gl f x hx D st;have A:f.right=(f.ok&&decide (f.size<=400)&&decide (f.deep<=40)):=rfl;obtain⟨op,n,us,sub⟩:=f;obtain⟨ta,xa,tb,W,rfl,_⟩:=hx.mk;generalize Fm.mk op n us sub=f at *;refine iI func161 ?_;simp only[go_sem,zE,zA,zL];refine (h1 _).q ?_;cases O:f.ok
 ·simp only[go_sem,zE];exact cO ⟨by simp[A,O],rfl⟩
 simp only[go_sem,zE,zA,zL];refine (h2 _).q ?_;by_cases E:f.size<=400
 ·simp only[go_sem,zE,zA,zL,show decide ((f.size:Int)<=400)=true from dEt (by omega)];refine (U _).q ?_;simp only[go_sem,zE];refine cO ⟨?_,rfl⟩;rw[A,O,dEt E];congr 3;simp;omega
 ·simp only[go_sem,zE,show decide ((f.size:Int)<=400)=false from dEf (by omega)];exact cO ⟨by simp[A,E],rfl⟩
