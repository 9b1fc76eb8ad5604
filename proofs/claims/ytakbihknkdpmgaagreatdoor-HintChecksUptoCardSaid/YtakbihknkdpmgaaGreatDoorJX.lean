/- Walks: least. -/
import Derived.Test.YtakbihknkdpmgaaGreatDoorJW
set_option linter.all false
open Nat renaming reduceEqDiff → zE,reduceAdd → zA,reduceLeDiff → zL
namespace Go.Proofs.Tryz
open Go Go.Iv
set_option maxRecDepth 4000
variable (gl:Nat->Option IV)
def SetOk (es:List (Value×IV))(l:List ByteArray):Prop:=∀s,(fZ (.string s) es).getD false=(memB l s:Bool)
def SetOk.look {es:List (Value×IV)}{l:List ByteArray}(h:SetOk es l)(s:ByteArray):kT false (fZ (.string s) es) false=some (.raw (.bool (memB l s))):=by
 unfold kT;simp only[bFt,dI,h s]
def Lu (l m:List ByteArray)(n:ByteArray):memB (l++m) n=(memB l n || memB m n):=by simp[memB]
def SetOk.upd {es:List (Value×IV)}{l:List ByteArray}(h:SetOk es l)(n:ByteArray):SetOk (updI (.string n) true es) (l++[n]):=λs=>by
 rw[tZ,Lu];by_cases hs:s=n
 ·subst hs;simp[memB]
 ·rw[a_ hs,h s];have:memB [n] s=false:=by simp[hs]
  rw[this,Bool.or_false]
def SetOk.nil:SetOk [] []:=λ_=>rfl
def iC (l:List ByteArray):SetOk (setE l) l:=by
 suffices h:∀(l m:List ByteArray) (es:List (Value×IV)),SetOk es m->SetOk (l.foldl (λes s=>updI (.string s) true es) es) (m++l) by
  have:=h l [] [] SetOk.nil;rw[eY] at this;exact this
 intro l
 induction l with
 | nil=>intro m es h;simpa using h
 | cons a l A =>
  intro m es h;have:=A (m++[a]) _ (h.upd a);simpa using this
abbrev Ms:=List (Nat×List ByteArray)
def msI (ms:Ms):List IV:=ms.map λp=>.raw (.map (some p.1))
def MsOk (ms:Ms)(st:ISt):Prop:=∀p∈ms,∃es,st p.1=some (.map .str es)/\SetOk es p.2
def allM (ms:Ms):List ByteArray:=ms.flatMap (·.2)
def xJ (ms:Ms):(msI ms).length=ms.length:=by simp[msI]
def xK {ms:Ms}{k:Nat}{p:Nat×List ByteArray}(h:ms[k]?=some p):(msI ms)[k]?=some (.raw (.map (some p.1))):=by simp[msI,h]
def De (n:Nat):(⟨#[120]⟩:ByteArray)++⟨(Lib.decDigits n).toArray⟩=ig n:=by
 apply pR;simp[ig]
def Df (G:Gt gl)(ms:Ms)(tg:Tag)(ae:okEs tg 1)(hl:(allM ms).length<=1099511627776)(st:ISt)(hm:MsOk ms st) :
  ICall prog gl 291 [.sl tg (msI ms)] st (λr st'=>r=(iA (allM ms):ByteArray)/\st'=st):=by
 obtain⟨av,au,am,al⟩:=xx (allM ms);obtain⟨K,hK⟩:∃K,lL (allM ms)=K+1:=⟨lL (allM ms)-1,by omega⟩
 have ai:∀k,k<=1099511627777->1+(Lib.decDigits k).length<=281474976710656:=λk hk=>by
  rw[Lib.decDigits_length];have:=xC 14 k (by omega);omega
 refine iI func291 ?_;simp only[go_sem];refine dj K (λk fr st' ds=>fr 0=.iv (.sl tg (msI ms))/\fr 3=.iv (.raw (.int .i64 k))/\st'=st/\ds=[]) ?_ ?_ ?_
 ·simp only[go_sem,reduceCtorEq];rfl
 ·rintro k fr st _ aq ⟨f0,f3,rfl,rfl⟩;have hw:IntKind.i64.wrap ((k:Int)+1)=((k+1:Nat):Int):=by rw[w64]<;>omega
  have an:=al (k+1) (by omega) (by omega);simp only[go_sem,zA,f3,hw];refine (Db gl G (k+1) (by omega) _).q ?_;simp only[go_sem,zL,reduceCtorEq,f0,pF,ai (k+1) (by omega),De,xJ];intros;refine dj ms.length (λj fr st' ds=>(∀p∈ms.take j,ig (k+1) ∉ p.2)/\fr 0=.iv (.sl tg (msI ms))/\fr 3=(k+1:Nat)/\fr 4=(ig (k+1):ByteArray) /\
   fr 12=.iv (.sl tg (msI ms))/\fr 13=ms.length/\fr 14=.iv (.raw (.int .i64 j))/\st'=st/\ds=[]) ?_ ?_ ?_
  ·simp only[go_sem,zE,reduceCtorEq,f0];exact⟨λ_ h=>(by simp at h),rfl⟩
  ·rintro j fr st _ A ⟨hn,g0,g3,g4,J,E,D,rfl,rfl⟩;obtain⟨p,hp⟩:=dB A;obtain⟨es,aa,U⟩:=hm p (lMg hp);cases hq:memB p.2 (ig (k+1))
   ·simp only[go_sem,zE,reduceCtorEq,g0,g3,g4,J,E,D,lt_i A,dz ae,iNn,xK hp,aa,U.look,hq,dC A (by omega)];intro q O;rw[dE hp] at O;rcases dR.1 O with h|h
    ·exact hn q h
    ·rw[dZ] at h;subst h;exact zJn.1 hq
   ·simp only[go_sem,zE,reduceCtorEq,g0,g3,g4,J,E,D,lt_i A,dz ae,iNn,xK hp,aa,U.look,hq]
  ·rintro fr st _ ⟨hn,g0,g3,g4,J,E,D,rfl,rfl⟩;rw[lTl] at hn;exfalso;obtain⟨p,hp,ak⟩:=f_.1 an;exact hn p hp ak
 ·rintro fr st _ ⟨f0,f3,rfl,rfl⟩;have hw:IntKind.i64.wrap ((K:Int)+1)=((K+1:Nat):Int):=by rw[w64]<;>omega
  simp only[go_sem,zA,f3,hw];refine (Db gl G (K+1) (by omega) _).q ?_;simp only[go_sem,zL,reduceCtorEq,f0,pF,ai (K+1) (by omega),De,xJ];intros;refine dj ms.length (λj fr st' ds=>(∀p∈ms.take j,ig (K+1) ∉ p.2)/\fr 0=.iv (.sl tg (msI ms))/\fr 3=(K+1:Nat)/\fr 4=(ig (K+1):ByteArray) /\
   fr 12=.iv (.sl tg (msI ms))/\fr 13=ms.length/\fr 14=.iv (.raw (.int .i64 j))/\st'=st/\ds=[]) ?_ ?_ ?_
  ·simp only[go_sem,zE,reduceCtorEq,f0];exact⟨λ_ h=>(by simp at h),rfl⟩
  ·rintro j fr st _ A ⟨hn,g0,g3,g4,J,E,D,rfl,rfl⟩;obtain⟨p,hp⟩:=dB A;obtain⟨es,aa,U⟩:=hm p (lMg hp);cases hq:memB p.2 (ig (K+1))
   ·simp only[go_sem,zE,reduceCtorEq,g0,g3,g4,J,E,D,lt_i A,dz ae,iNn,xK hp,aa,U.look,hq,dC A (by omega)];intro q O;rw[dE hp] at O;rcases dR.1 O with h|h
    ·exact hn q h
    ·rw[dZ] at h;subst h;exact zJn.1 hq
   ·exfalso;refine am ?_;rw[hK];exact f_.2 ⟨p,lMg hp,yJj.1 hq⟩
  ·rintro fr st _ ⟨hn,g0,g3,g4,J,E,D,rfl,rfl⟩;rw[lTl] at hn;simp only[go_sem,zE,g4,E,D,dF (nLi _)];exact c_ ⟨by rw[iA,hK],rfl⟩
