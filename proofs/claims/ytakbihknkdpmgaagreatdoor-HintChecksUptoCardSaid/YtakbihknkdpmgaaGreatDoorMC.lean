/- Walks of the second program: names, righ -/
import Derived.Test.YtakbihknkdpmgaaGreatDoorJL
set_option linter.all false
open Nat renaming reduceEqDiff → zE,reduceBEq → zB,reduceAdd → zA
namespace Go.Proofs.Tryz
open Go Go.Iv
set_option maxRecDepth 4000
variable (gl:Nat->Option IV)
def in_n (c:UInt8)(lo D:Nat)(a b:Int)(G:a=lo)(E:b=D)(st:ISt):ICall prog gl 240 [.raw (.int .u8 c.toNat),.raw (.int .u8 a),.raw (.int .u8 b)] st (λx st'=>x=(inB lo D c:Bool)/\st'=st):=by
 subst G E;have A:∀x y:Int,binI prog 5 .leq (.int .u8 x) (.int .u8 y)=some (.bool (decide (x<=y))):=λx y=>by simp only[go_sem]
 refine iI func240 ?_;by_cases h1:lo<=c.toNat
 ·simp only[go_sem,zE,reduceCtorEq,show decide ((lo:Int)<=(c.toNat:Int))=true from dEt (by omega)];exact c_ ⟨by congr 3;simp[inB,h1],rfl⟩
 ·simp only[go_sem,zE,reduceCtorEq,show decide ((lo:Int)<=(c.toNat:Int))=false from dEf (by omega)];exact c_ ⟨by simp[inB,h1],rfl⟩
def ij (d:Bool)(c:UInt8):Bool:=kW c || (!d&&(lJ c || mK c))
def j5 (d:Bool)(s:ByteArray):Bool :=
 match s.data.toList with
 | []=>false
 | _::cs=>decide (cs.length<16)&&cs.all (ij d)
def xZ (s:ByteArray)(d:Bool)(st:ISt):ICall prog gl 239 [s,d] st (λx st'=>x=(j5 d s:Bool)/\st'=st):=by
 refine iI func239 ?_;have A:=xe s;cases hl:s.data.toList with
 | nil =>
  rw[hl] at A;simp only[go_sem];refine dj 0 (λk fr st' ds=>fr 0=s/\fr 5=(1:Int)/\st'=st/\ds=[]) ?_ ?_ ?_
  ·simp only[go_sem,reduceCtorEq]
  ·intro k _ _ _ h;omega
  ·rintro fr _ _ ⟨f0,f5,rfl,rfl⟩;simp only[go_sem,zE,reduceCtorEq,f0,f5,show decide ((1:Int)<((s.size:Nat):Int))=false from dEf (by rw[A];simp),show decide ((0:Int)<((s.size:Nat):Int))=false from dEf (by rw[A];simp)];intros;exact c_ ⟨by simp[j5,hl],rfl⟩
 | cons c cs =>
  rw[hl,dV] at A;simp only[go_sem];refine dj cs.length (λk fr st' ds=>(cs.take k).all (ij d)=true/\fr 0=s/\fr 1=d/\fr 5=((k+1:Nat):Int)/\st'=st/\ds=[]) ?_ ?_ ?_
  ·simp only[go_sem,zE,reduceCtorEq];rfl
  ·rintro k fr st _ ab ⟨O,f0,f1,f5,rfl,rfl⟩;obtain⟨x,U⟩:=dB ab;have J:decide (((k+1:Nat):Int)<((s.size:Nat):Int))=true:=by rw[A];simp;omega
   have G:nt s ((k+1:Nat):Int)=some x:=xg (by rw[hl];simpa using U);have E:ij d x=false->j5 d s=false:=λh=>by
    have:cs.all (ij d)=false:=by rw[List.all_eq_false];exact⟨x,lMg U,by simp[h]⟩
    simp[j5,hl,this]
   have D:ij d x=true->(cs.take (k+1)).all (ij d)=true:=λh=>by
    rw[dE U,List.all_append,O];simp[h]
   simp only[go_sem,zE,zA,reduceCtorEq,f0,f5,J,G];intro ac;have hw:IntKind.i64.wrap (((k+1:Nat):Int)+1)=((k+1+1:Nat):Int):=by rw[w64]<;>omega
   refine (in_n gl x 48 57 _ _ rfl rfl _).q ?_;cases h1:inB 48 57 x
   case true =>
    simp only[go_sem,zE,reduceCtorEq,f0,f1,f5,hw];exact D (by simp[ij,kW,h1])
   cases d
   case true =>
    simp only[go_sem,zE,f1];exact c_ ⟨by rw[E (by simp[ij,kW,h1])],rfl⟩
   simp only[go_sem,zE,zA,reduceCtorEq,f0,f1,f5,G];refine (in_n gl x 65 90 _ _ rfl rfl _).q ?_;cases h2:inB 65 90 x
   case true =>
    simp only[go_sem,zE,reduceCtorEq,f0,f1,f5,hw];exact D (by simp[ij,lJ,h2])
   simp only[go_sem,zE,zA,reduceCtorEq,f0,f5,G];refine (in_n gl x 97 122 _ _ rfl rfl _).q ?_;cases h3:inB 97 122 x
   case true =>
    simp only[go_sem,zE,reduceCtorEq,f0,f1,f5,hw];exact D (by simp[ij,mK,h3])
   simp only[go_sem,zE];exact c_ ⟨by rw[E (by simp[ij,kW,lJ,mK,h1,h2,h3])],rfl⟩
  ·rintro fr st _ ⟨O,f0,f1,f5,rfl,rfl⟩;rw[lTl] at O;simp only[go_sem,zE,reduceCtorEq,f0,f5,show decide (((cs.length+1:Nat):Int)<((s.size:Nat):Int))=false from dEf (by rw[A];simp),show decide ((0:Int)<((s.size:Nat):Int))=true from dEt (by rw[A];omega)];intros;refine c_ ⟨?_,rfl⟩;congr 3;simp only[j5,hl,O,Bool.and_true];rw[A];simp;omega
def DC {p q:UInt8->Bool}{s:ByteArray}{c:UInt8}{cs:List UInt8}(hl:s.data.toList=c::cs)(h:p c=true)(hq:cs.all q=true)
  (U:∀w∈[wAll,rj,rk,rm,rn,rp],(match w.data.toList with|[]=>true|c::cs=>p c&&cs.all q)=false):nJ s=false:=by
 have key:∀w∈[wAll,rj,rk,rm,rn,rp],s≠w:=λw hm he=>by
  have:=U w hm;rw[<- he,hl] at this;simp[h,hq] at this
 simp only[dN,ga,fe,forall_eq_or_imp,forall_eq] at key;obtain⟨O,J,G,E,D,A⟩:=key;unfold nJ;rw[dEf O,dEf J,dEf G,dEf E,dEf D,dEf A];rfl
def x0:ij true=kW:=by funext c;simp[ij]
def x_:ij false=ma:=by
 funext c;simp only[ij,ma,Bool.not_false,g_];cases kW c<;>cases lJ c<;>cases mK c<;>rfl
def yc {d:Bool}{s:ByteArray}(h:j5 d s=true):∃c cs,s.data.toList=c::cs/\cs.length<16/\cs.all (ij d)=true:=by
 unfold j5 at h;split at h
 ·cases h
 ·rename_i c cs hl;simp only[bAt,dTe] at h;exact⟨c,cs,hl,h.1,h.2⟩
def DD {p:UInt8->Bool}{d:Bool}{s:ByteArray}{c:UInt8}{cs:List UInt8}(hl:s.data.toList=c::cs)(A:p c=true->cs.all (ij d)=true->nJ s=false):jq p (ij d) s=(j5 d s&&p c):=by
 simp only[jq,j5,hl];cases h1:p c
 ·simp
 ·cases h2:cs.all (ij d)
  ·simp
  ·simp[A h1 h2]
def DE {p:UInt8->Bool}{d:Bool}{s:ByteArray}(h:j5 d s=false):jq p (ij d) s=false:=by
 unfold j5 at h;unfold jq;split
 ·rfl
 ·rename_i c cs hl;rw[hl] at h;simp only at h;cases h1:decide (cs.length<16)<;>cases h2:cs.all (ij d)<;>simp_all
def DG (s:ByteArray)(st:ISt):ICall prog gl 206 [s] st (λx st'=>x=(iy s:Bool)/\st'=st):=by
 refine iI func206 ?_;simp only[go_sem,zA,reduceCtorEq];refine (xZ gl s true _).q ?_;cases h:j5 true s
 ·simp only[go_sem,zE];exact c_ ⟨by rw[iy,<- x0,DE h],rfl⟩
 ·obtain⟨c,cs,hl,A,D⟩:=yc h;simp only[go_sem,zE,zA,reduceCtorEq,tQ hl];refine (in_n gl c 117 122 _ _ rfl rfl _).q ?_;simp only[go_sem,zE];refine c_ ⟨?_,rfl⟩;rw[iy,<- x0,DD hl (λh1 h2=>DC hl h1 (by rw[x0] at h2;exact h2) (by decide)),h,g_]
def L5 (s:ByteArray)(st:ISt):ICall prog gl 285 [s] st (λx st'=>x=(oA s:Bool)/\st'=st):=by
 refine iI func285 ?_;simp only[go_sem,zA,reduceCtorEq];refine (xZ gl s false _).q ?_;cases h:j5 false s
 ·simp only[go_sem,zE];exact c_ ⟨by rw[oA,<- x_,DE h],rfl⟩
 ·obtain⟨c,cs,hl,A,D⟩:=yc h;simp only[go_sem,zE,zA,reduceCtorEq,tQ hl];refine (in_n gl c 65 90 _ _ rfl rfl _).q ?_;simp only[go_sem,zE];refine c_ ⟨?_,rfl⟩;rw[oA,<- x_,DD hl (λh1 h2=>DC hl h1 (by rw[x_] at h2;exact h2) (by decide)),h,g_];rfl
def nN:∀l:List Tm,l.length<=dP l
 | []=>dJ _
 | a::l=>by have:=nN l;have:=a.size_pos;simp only[dV,dP];omega
def DH {l:List Tm}{a:Tm}(h:a∈l):a.size<=dP l:=by
 induction l with
 | nil=>cases h
 | cons b l A =>
  simp only[dP];rcases dN.1 h with rfl|h
  ·omega
  ·have:=A h;omega
def di0 (a:Nat):decide ((a:Int)=0)=decide (a=0):=by by_cases h:a=0<;>simp[h]<;>omega
def di1 (a:Nat):decide ((a:Int)=1)=decide (a=1):=by by_cases h:a=1<;>simp[h]<;>omega
def di2 (a:Nat):decide ((a:Int)=2)=decide (a=2):=by by_cases h:a=2<;>simp[h]<;>omega
def dle4 (a:Nat):decide ((a:Int)<=4)=decide (a<=4):=by by_cases h:a<=4<;>simp[h]<;>omega
def RSz (us:List Tm):Prop:=∀(D:Tag) (A:List IV) (_:okEs D 3) (_:IsTms us A) (_:dP us<=1099511627776) (st:ISt),
 ICall prog gl 236 [.sl D A] st (λr st'=>r=(dP us:Int)/\st'=st)
def yd:∀(l m:List Tm),dP (l++m)=dP l+dP m
 | [],m=>by simp[dP]
 | a::l,m=>by simp only[ed,dP,yd l m];omega
def DI:∀(l m:List Tm),eu (l++m)=max (eu l) (eu m)
 | [],m=>by simp[eu]
 | a::l,m=>by simp only[ed,eu,DI l m];omega
def ye:∀(l m:List Fm),dL (l++m)=dL l+dL m
 | [],m=>by simp[dL]
 | a::l,m=>by simp only[ed,dL,ye l m];omega
def DJ:∀(l m:List Fm),eU (l++m)=max (eU l) (eU m)
 | [],m=>by simp[eU]
 | a::l,m=>by simp only[ed,eU,DJ l m];omega
def DK:∀(l m:List Fm),gj (l++m)=(gj l&&gj m)
 | [],m=>by simp[gj]
 | a::l,m=>by simp only[ed,gj,DK l m,Bool.and_assoc]
def DL {us:List Tm}{k:Nat}{a:Tm}(h:us[k]?=some a):dP (us.take (k+1))=dP (us.take k)+a.size/\dP (us.take k)+a.size<=dP us:=by
 have h1:dP (us.take (k+1))=dP (us.take k)+a.size:=by rw[dE h,yd];simp[dP]
 refine⟨h1,?_⟩;have h2:dP us=dP (us.take (k+1))+dP (us.drop (k+1)):=by rw[<- yd,el]
 omega
def rM {us:List Fm}{k:Nat}{a:Fm}(h:us[k]?=some a):dL (us.take (k+1))=dL (us.take k)+a.size/\dL (us.take k)+a.size<=dL us:=by
 have h1:dL (us.take (k+1))=dL (us.take k)+a.size:=by rw[dE h,ye];simp[dL]
 refine⟨h1,?_⟩;have h2:dL us=dL (us.take (k+1))+dL (us.drop (k+1)):=by rw[<- ye,el]
 omega
def rN:∀l:List Fm,l.length<=dL l
 | []=>dJ _
 | a::l=>by have:=rN l;have:=a.size_pos;simp only[dV,dL];omega
mutual
def L6:∀t:Tm,t.deep<=t.size
 | .mk _ _ l=>by have:=pV l;simp only[Tm.deep,Tm.size];omega
def pV:∀l:List Tm,eu l<=dP l
 | []=>dJ _
 | a::l=>by have:=L6 a;have:=pV l;simp only[eu,dP];omega
end
mutual
def L7:∀t:Fm,t.deep<=t.size
 | .mk _ _ l s=>by have:=pV l;have:=yf s;simp only[Fm.deep,Fm.size];omega
def yf:∀l:List Fm,eU l<=dL l
 | []=>dJ _
 | a::l=>by have:=L7 a;have:=yf l;simp only[eU,dL];omega
end
def L8 {a b:Nat}(h:a+b<=281474976710656):IntKind.i64.wrap ((a:Int)+(b:Int))=((a+b:Nat):Int):=by rw[w64]<;>omega
def L9 {a b:Nat}(h:a+1+b<=281474976710656):IntKind.i64.wrap (IntKind.i64.wrap ((a:Int)+1)+(b:Int))=((a+(b+1):Nat):Int):=by rw[w64,w64]<;>(try rw[w64])<;>omega
def L_ (us:List Tm)(IH:∀v n l,Tm.mk v n l∈us->RSz gl l):RSz gl us:=by
 intro tg xs J A ah st;have ab:=nN us;refine iI func236 ?_;simp only[go_sem];refine dj us.length (λk fr st' ds=>fr 0=.iv (.sl tg xs)/\fr 3=(dP (us.take k):Int)/\fr 4=.iv (.raw (.int .i64 k))/\st'=st/\ds=[]) ?_ ?_ ?_
 ·simp only[go_sem,zE,reduceCtorEq]
  first|rfl|exact⟨rfl,rfl⟩
 ·rintro k fr st _ D ⟨f0,f3,f4,rfl,rfl⟩;obtain⟨⟨v,n,m⟩,ha⟩:=dB D;obtain⟨y,U,hy⟩:=A.get ha;have E:=lMg ha;obtain⟨h1,h2⟩:=DL ha;obtain⟨t3,x3,rfl,O,G⟩:=hy.mk;simp only[Tm.size] at h1 h2;simp only[go_sem,zE,zA,reduceCtorEq,f0,f3,f4,A.len,lt_i D,dz J,iNn,U,fits];intros;refine (IH v n m E t3 x3 O G (by omega) _).mono ?_;rintro _ st ⟨rfl,rfl⟩;simp only[go_sem,zE,reduceCtorEq,f0,f4,dC D (show us.length<=281474976710656 by omega),L9 (show dP (us.take k)+1+dP m<=281474976710656 by omega),h1]
 ·rintro fr st _ ⟨f0,f3,f4,rfl,rfl⟩;rw[lTl] at f3;simp only[go_sem,zE,reduceCtorEq,f0,f3,f4,A.len,dF (nLi _)];intros;exact c_ ⟨rfl,rfl⟩
def DM:∀(k:Nat)(us:List Tm),SizeOf.sizeOf us<k->RSz gl us
 | 0,f,h=>by omega
 | k+1,us,h=>L_ gl us (λv n l A=>DM k l (by
   have:=lSm A;simp at this;omega))
def Ma (us:List Tm):RSz gl us:=DM gl _ us (ew _)
def RDp (us:List Tm):Prop:=∀(D:Tag) (A:List IV) (_:okEs D 3) (_:IsTms us A) (_:dP us<=1099511627776) (st:ISt),
 ICall prog gl 237 [.sl D A] st (λr st'=>r=(eu us:Int)/\st'=st)
def Mb (us:List Tm)(IH:∀v n l,Tm.mk v n l∈us->RDp gl l):RDp gl us:=by
 intro tg xs O D aj st;have ac:=nN us;refine iI func237 ?_;simp only[go_sem];refine dj us.length (λk fr st' ds=>fr 0=.iv (.sl tg xs)/\fr 3=(eu (us.take k):Int)/\fr 4=.iv (.raw (.int .i64 k))/\st'=st/\ds=[]) ?_ ?_ ?_
 ·simp only[go_sem,zE,reduceCtorEq]
  first|rfl|exact⟨rfl,rfl⟩
 ·rintro k fr st _ A ⟨f0,f3,f4,rfl,rfl⟩;obtain⟨⟨v,n,m⟩,G⟩:=dB A;obtain⟨y,aa,hy⟩:=D.get G;have E:=lMg G;have h1:eu (us.take (k+1))=max (eu (us.take k)) (eu m+1):=by rw[dE G,DI];simp[eu,Tm.deep]
  have h2:=(DL G).2;have h3:=pV m;have h4:=pV (us.take k);obtain⟨t3,x3,rfl,U,J⟩:=hy.mk;simp only[Tm.size] at h2;simp only[go_sem,zE,zA,reduceCtorEq,f0,f4,D.len,lt_i A,dz O,iNn,aa,fits];intros;refine (IH v n m E t3 x3 U J (by omega) _).q ?_;have hw:IntKind.i64.wrap ((eu m:Int)+1)=((eu m+1:Nat):Int):=by rw[w64]<;>omega
  by_cases hg:eu (us.take k)<eu m+1
  ·simp only[go_sem,zE,reduceCtorEq,f0,f3,f4,hw,lt_i hg,dC A (by omega)];rw[h1,Nat.max_eq_right (by omega)]
  ·simp only[go_sem,zE,reduceCtorEq,f0,f3,f4,hw,dF hg,dC A (by omega)];rw[h1,Nat.max_eq_left (by omega)]
 ·rintro fr st _ ⟨f0,f3,f4,rfl,rfl⟩;rw[lTl] at f3;simp only[go_sem,zE,reduceCtorEq,f0,f3,f4,D.len,dF (nLi _)];intros;exact c_ ⟨rfl,rfl⟩
def DN:∀(k:Nat)(us:List Tm),SizeOf.sizeOf us<k->RDp gl us
 | 0,f,h=>by omega
 | k+1,us,h=>Mb gl us (λv n l A=>DN k l (by
   have:=lSm A;simp at this;omega))
def Mc (us:List Tm):RDp gl us:=DN gl _ us (ew _)
def RNd (f:Fm):Prop:=∀(x:IV) (_:IsFm f x) (_:f.size<=1099511627776) (st:ISt),ICall prog gl 201 [x] st (λr st'=>r=f.size/\st'=st)
def Md (op:Nat)(n:ByteArray)(us:List Tm)(sub:List Fm)(IH:∀a∈sub,RNd gl a):RNd gl (.mk op n us sub):=by
 intro x hx ac st;obtain⟨ta,xa,tb,xb,rfl,ho,hta,U,ab,A⟩:=hx.mk;simp only[Fm.size] at ac;have ao:=nN us;have an:=rN sub;refine iI func201 ?_;simp only[go_sem,zE,zA];refine (Ma gl us ta xa hta U (by omega) _).mono ?_;rintro _ st ⟨rfl,rfl⟩;have aa:IntKind.i64.wrap (1+(dP us:Int))=((dP us+1:Nat):Int):=by rw[w64]<;>omega
 simp only[go_sem,aa];refine dj sub.length (λk fr st' ds=>fr 1=.box [.raw (.int .u8 op),n,.sl ta xa,.sl tb xb]/\fr 3=((dP us+1+dL (sub.take k):Nat):Int)/\fr 4=.iv (.raw (.int .i64 k))/\st'=st/\ds=[]) ?_ ?_ ?_
 ·simp only[go_sem,zE]
  first|rfl|exact⟨rfl,rfl⟩
 ·rintro k fr st _ D ⟨f1,f3,f4,rfl,rfl⟩;obtain⟨a,ha⟩:=dB D;obtain⟨y,ae,hy⟩:=A.get ha;have J:=lMg ha;obtain⟨h1,h2⟩:=rM ha;have E:=IH a J y hy (by omega);obtain⟨o5,n5,O,G⟩:=a;obtain⟨t3,x3,t4,x4,rfl,_⟩:=hy.mk;simp only[go_sem,zE,zB,zA,f1,f3,f4,A.len,lt_i D,dz ab,iNn,ae,fits];intros;refine (E _).mono ?_;rintro _ st ⟨rfl,rfl⟩;simp only[go_sem,zE,f1,f4,dC D (show sub.length<=281474976710656 by omega),L8 (show (dP us+1+dL (sub.take k))+(Fm.mk o5 n5 O G).size<=281474976710656 by omega),h1];rw[fE (dP us+1)]
 ·rintro fr st _ ⟨f1,f3,f4,rfl,rfl⟩;rw[lTl] at f3;simp only[go_sem,zE,f1,f3,f4,A.len,dF (nLi _)];intros;exact c_ ⟨by rw[show (Fm.mk op n us sub).size=dP us+1+dL sub by simp only[Fm.size];omega],rfl⟩
def DO:∀(k:Nat)(t:Fm),SizeOf.sizeOf t<k->RNd gl t
 | 0,f,h=>by omega
 | k+1,.mk o n us sub,h=>Md gl o n us sub (λa A=>DO k a (by
   have:=lSm A;simp at h;omega))
def Me (t:Fm):RNd gl t:=DO gl _ t (ew _)
def RDd (f:Fm):Prop:=∀(x:IV) (_:IsFm f x) (_:f.size<=1099511627776) (st:ISt),ICall prog gl 202 [x] st (λr st'=>r=f.deep/\st'=st)
def Mf (op:Nat)(n:ByteArray)(us:List Tm)(sub:List Fm)(IH:∀a∈sub,RDd gl a):RDd gl (.mk op n us sub):=by
 intro x hx af st;obtain⟨ta,xa,tb,xb,rfl,ho,hta,ac,ae,G⟩:=hx.mk;simp only[Fm.size] at af;have aq:=nN us;have ao:=rN sub;have av:=pV us;have au:=yf sub;refine iI func202 ?_;simp only[go_sem,zE,zA];refine (Mc gl us ta xa hta ac (by omega) _).q ?_;simp only[go_sem];refine dj sub.length (λk fr st' ds=>fr 1=.box [.raw (.int .u8 op),n,.sl ta xa,.sl tb xb]/\fr 3=((max (eu us) (eU (sub.take k)):Nat):Int)/\fr 4=.iv (.raw (.int .i64 k))/\st'=st/\ds=[]) ?_ ?_ ?_
 ·simp only[go_sem,zE];rw[show max (eu us) (eU [])=eu us by simp[eU]];exact⟨rfl,rfl⟩
 ·rintro k fr st _ E ⟨f1,f3,f4,rfl,rfl⟩;obtain⟨a,ha⟩:=dB E;obtain⟨y,ag,hy⟩:=G.get ha;have O:=lMg ha;have h2:=(rM ha).2;have J:=IH a O y hy (by omega);have h1:eU (sub.take (k+1))=max (eU (sub.take k)) a.deep:=by rw[dE ha,DJ];simp[eU]
  obtain⟨U,n5,D,A⟩:=a;obtain⟨t3,x3,t4,x4,rfl,_⟩:=hy.mk;simp only[go_sem,zE,zB,zA,f1,f4,G.len,lt_i E,dz ae,iNn,ag,fits];intros;refine (J _).q ?_;by_cases hg:max (eu us) (eU (sub.take k))<(Fm.mk U n5 D A).deep
  ·simp only[go_sem,zE,f1,f3,f4,lt_i hg,dC E (by omega)];rw[h1,show max (eu us) (max (eU (sub.take k)) (Fm.mk U n5 D A).deep)=(Fm.mk U n5 D A).deep by omega]
  ·simp only[go_sem,zE,f1,f3,f4,dF hg,dC E (by omega)];rw[h1,show max (eu us) (max (eU (sub.take k)) (Fm.mk U n5 D A).deep)=max (eu us) (eU (sub.take k)) by omega]
 ·rintro fr st _ ⟨f1,f3,f4,rfl,rfl⟩;rw[lTl] at f3;have hw:IntKind.i64.wrap (((max (eu us) (eU sub):Nat):Int)+1)=((max (eu us) (eU sub)+1:Nat):Int):=by rw[w64]<;>omega
  simp only[go_sem,zE,f1,f3,f4,G.len,dF (nLi _),hw];intros;exact c_ ⟨by simp only[Fm.deep],rfl⟩
def DP:∀(k:Nat)(t:Fm),SizeOf.sizeOf t<k->RDd gl t
 | 0,f,h=>by omega
 | k+1,.mk o n us sub,h=>Mf gl o n us sub (λa A=>DP k a (by
   have:=lSm A;simp at h;omega))
def Mg (t:Fm):RDd gl t:=DP gl _ t (ew _)
def Mh {l:List Fm}{a:Fm}(h:a∈l)(D:a.ok=false):gj l=false:=by
 induction l with
 | nil=>cases h
 | cons b l A =>
  simp only[gj];rcases dN.1 h with rfl|h
  ·simp[D]
  ·simp[A h]
