/- Walks: least. -/
import Derived.Test.YtigeiecfkoimpaaGreatDoorJW
set_option linter.all false
open Nat renaming reduceEqDiff → zE,reduceAdd → zA,reduceLeDiff → zL
namespace Go.Proofs.Tryz
open Go Go.Iv
set_option maxRecDepth 4000
variable (gl:Nat->Option IV)
def SetOk (es:List (Value×IV))(l:List ByteArray):Prop:=∀s,(f_ (.string s) es).getD false=(memB l s:Bool)
def SetOk.look {es:List (Value×IV)}{l:List ByteArray}(h:SetOk es l)(s:ByteArray):lb false (f_ (.string s) es) false=some (.raw (.bool (memB l s))):=by
 unfold lb;simp only[bFt,dE,h s]
def LF (l m:List ByteArray)(n:ByteArray):memB (l++m) n=(memB l n || memB m n):=by simp[memB]
def SetOk.upd {es:List (Value×IV)}{l:List ByteArray}(h:SetOk es l)(n:ByteArray):SetOk (updI (.string n) true es) (l++[n]):=λs=>by
 rw[um,LF];by_cases hs:s=n
 ·subst hs;simp[memB]
 ·rw[a_ hs,h s];have:memB [n] s=false:=by simp[hs]
  rw[this,Bool.or_false]
def SetOk.nil:SetOk [] []:=λ_=>rfl
def iJ (l:List ByteArray):SetOk (setE l) l:=by
 suffices h:∀(l m:List ByteArray) (es:List (Value×IV)),SetOk es m->SetOk (l.foldl (λes s=>updI (.string s) true es) es) (m++l) by
  have:=h l [] [] SetOk.nil;rw[fa] at this;exact this
 intro l
 induction l with
 | nil=>intro m es h;simpa using h
 | cons a l D =>
  intro m es h;have:=D (m++[a]) _ (h.upd a);simpa using this
abbrev Ms:=List (Nat×List ByteArray)
def msI (ms:Ms):List IV:=ms.map λp=>.raw (.map (some p.1))
def MsOk (ms:Ms)(st:ISt):Prop:=∀p∈ms,∃es,st p.1=some (.map .str es)/\SetOk es p.2
def allM (ms:Ms):List ByteArray:=ms.flatMap (·.2)
def xX (ms:Ms):(msI ms).length=ms.length:=by simp[msI]
def xY {ms:Ms}{k:Nat}{p:Nat×List ByteArray}(h:ms[k]?=some p):(msI ms)[k]?=some (.raw (.map (some p.1))):=by simp[msI,h]
def Ds (n:Nat):(⟨#[120]⟩:ByteArray)++⟨(Lib.decDigits n).toArray⟩=iB n:=by
 apply pY;simp[iB]
def Dt (G:Gt gl)(ms:Ms)(tg:Tag)(ag:okEs tg 1)(hl:(allM ms).length<=1099511627776)(st:ISt)(hm:MsOk ms st) :
  ICall prog gl 248 [.sl tg (msI ms)] st (λr st'=>r=(iH (allM ms):ByteArray)/\st'=st):=by
 obtain⟨ax,aw,ao,an⟩:=xL (allM ms);obtain⟨K,hK⟩:∃K,lU (allM ms)=K+1:=⟨lU (allM ms)-1,by omega⟩
 have ak:∀k,k<=1099511627777->1+(Lib.decDigits k).length<=281474976710656:=λk hk=>by
  rw[Lib.decDigits_length];have:=xP 14 k (by omega);omega
 refine iI func248 ?_;simp only[go_sem];refine dt K (λk fr st' ds=>fr 0=.iv (.sl tg (msI ms))/\fr 3=.iv (.raw (.int .i64 k))/\st'=st/\ds=[]) ?_ ?_ ?_
 ·simp only[go_sem,reduceCtorEq];rfl
 ·rintro k fr st _ av ⟨f0,f3,rfl,rfl⟩;have hw:IntKind.i64.wrap ((k:Int)+1)=((k+1:Nat):Int):=by rw[w64]<;>omega
  have aq:=an (k+1) (by omega) (by omega);simp only[go_sem,zA,f3,hw];refine (Dp gl G (k+1) (by omega) _).q ?_;simp only[go_sem,zL,reduceCtorEq,f0,pK,ak (k+1) (by omega),Ds,xX];intros;refine dt ms.length (λj fr st' ds=>(∀p∈ms.take j,iB (k+1) ∉ p.2)/\fr 0=.iv (.sl tg (msI ms))/\fr 3=(k+1:Nat)/\fr 4=(iB (k+1):ByteArray) /\
   fr 12=.iv (.sl tg (msI ms))/\fr 13=ms.length/\fr 14=.iv (.raw (.int .i64 j))/\st'=st/\ds=[]) ?_ ?_ ?_
  ·simp only[go_sem,zE,reduceCtorEq,f0];exact⟨λ_ h=>(by simp at h),rfl⟩
  ·rintro j fr st _ D ⟨hn,g0,g3,g4,O,J,E,rfl,rfl⟩;obtain⟨p,hp⟩:=dD D;obtain⟨es,ac,ab⟩:=hm p (lMg hp);cases hq:memB p.2 (iB (k+1))
   ·simp only[go_sem,zE,reduceCtorEq,g0,g3,g4,O,J,E,lt_i D,dB ag,iNn,xY hp,ac,ab.look,hq,dL D (by omega)];intro q aa;rw[dM hp] at aa;rcases dQ.1 aa with h|h
    ·exact hn q h
    ·rw[dR] at h;subst h;exact zJi.1 hq
   ·simp only[go_sem,zE,reduceCtorEq,g0,g3,g4,O,J,E,lt_i D,dB ag,iNn,xY hp,ac,ab.look,hq]
  ·rintro fr st _ ⟨hn,g0,g3,g4,O,J,E,rfl,rfl⟩;rw[lTl] at hn;exfalso;obtain⟨p,hp,am⟩:=fh.1 aq;exact hn p hp am
 ·rintro fr st _ ⟨f0,f3,rfl,rfl⟩;have hw:IntKind.i64.wrap ((K:Int)+1)=((K+1:Nat):Int):=by rw[w64]<;>omega
  simp only[go_sem,zA,f3,hw];refine (Dp gl G (K+1) (by omega) _).q ?_;simp only[go_sem,zL,reduceCtorEq,f0,pK,ak (K+1) (by omega),Ds,xX];intros;refine dt ms.length (λj fr st' ds=>(∀p∈ms.take j,iB (K+1) ∉ p.2)/\fr 0=.iv (.sl tg (msI ms))/\fr 3=(K+1:Nat)/\fr 4=(iB (K+1):ByteArray) /\
   fr 12=.iv (.sl tg (msI ms))/\fr 13=ms.length/\fr 14=.iv (.raw (.int .i64 j))/\st'=st/\ds=[]) ?_ ?_ ?_
  ·simp only[go_sem,zE,reduceCtorEq,f0];exact⟨λ_ h=>(by simp at h),rfl⟩
  ·rintro j fr st _ D ⟨hn,g0,g3,g4,O,J,E,rfl,rfl⟩;obtain⟨p,hp⟩:=dD D;obtain⟨es,ac,ab⟩:=hm p (lMg hp);cases hq:memB p.2 (iB (K+1))
   ·simp only[go_sem,zE,reduceCtorEq,g0,g3,g4,O,J,E,lt_i D,dB ag,iNn,xY hp,ac,ab.look,hq,dL D (by omega)];intro q aa;rw[dM hp] at aa;rcases dQ.1 aa with h|h
    ·exact hn q h
    ·rw[dR] at h;subst h;exact zJi.1 hq
   ·exfalso;refine ao ?_;rw[hK];exact fh.2 ⟨p,lMg hp,yJb.1 hq⟩
  ·rintro fr st _ ⟨hn,g0,g3,g4,O,J,E,rfl,rfl⟩;rw[lTl] at hn;simp only[go_sem,zE,g4,J,E,dS (nLi _)];exact c_ ⟨by rw[iH,hK],rfl⟩
