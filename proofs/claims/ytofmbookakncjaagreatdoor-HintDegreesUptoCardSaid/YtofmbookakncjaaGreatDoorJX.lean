/- Walks: least. -/
import Derived.Test.YtofmbookakncjaaGreatDoorJW
set_option linter.all false
open Nat renaming reduceEqDiff → zE,reduceAdd → zA,reduceLeDiff → zL
namespace Go.Proofs.Tryz
open Go Go.Iv
set_option maxRecDepth 4000
variable (gl:Nat->Option IV)
def SetOk (es:List (Value×IV))(l:List ByteArray):Prop:=∀s,(yJ4 (.string s) es).getD (.raw (.bool false))=.raw (.bool (memB l s))
theorem SetOk.look {es:List (Value×IV)}{l:List ByteArray}(h:SetOk es l)(s:ByteArray):zXi false (yJ4 (.string s) es) (.raw (.bool false))=some (.raw (.bool (memB l s))):=by
 unfold zXi;simp only[bFt,if_false,h s]
theorem xJw (l m:List ByteArray)(n:ByteArray):memB (l++m) n=(memB l n || memB m n):=by simp[memB]
theorem SetOk.upd {es:List (Value×IV)}{l:List ByteArray}(h:SetOk es l)(n:ByteArray):SetOk (updI (.string n) (.raw (.bool true)) es) (l++[n]):=λs=>by
 rw[yGg,xJw];by_cases hs:s=n
 ·subst hs;simp[memB]
 ·rw[if_neg hs,h s];have:memB [n] s=false:=by simp[hs]
  rw[this,Bool.or_false]
theorem SetOk.nil:SetOk [] []:=λ_=>rfl
theorem SetOk.ofE (l:List ByteArray):SetOk (setE l) l:=by
 suffices h:∀(l m:List ByteArray) (es:List (Value×IV)),SetOk es m->SetOk (l.foldl (λes s=>updI (.string s) (.raw (.bool true)) es) es) (m++l) by
  have:=h l [] [] SetOk.nil;rw[List.nil_append] at this;exact this
 intro l
 induction l with
 | nil=>intro m es h;simpa using h
 | cons a l A =>
  intro m es h;have:=A (m++[a]) _ (h.upd a);simpa using this
abbrev Ms:=List (Nat×List ByteArray)
def msI (ms:Ms):List IV:=ms.map λp=>.raw (.map (some p.1))
def MsOk (ms:Ms)(st:ISt):Prop:=∀p∈ms,∃es,st p.1=some (.map .str es)/\SetOk es p.2
def allM (ms:Ms):List ByteArray:=ms.flatMap (·.2)
theorem zZb (ms:Ms):(msI ms).length=ms.length:=by simp[msI]
theorem xJv {ms:Ms}{k:Nat}{p:Nat×List ByteArray}(h:ms[k]?=some p):(msI ms)[k]?=some (.raw (.map (some p.1))):=by simp[msI,h]
theorem xVc (n:Nat):(⟨#[120]⟩:ByteArray)++⟨(Lib.decDigits n).toArray⟩=yVq n:=by
 apply zYm;simp[yVq]
theorem wJa (G:Gt gl)(ms:Ms)(tg:Tag)(ae:okEs tg 1)(hl:(allM ms).length<=1099511627776)(st:ISt)(hm:MsOk ms st) :
  ICall prog gl 250 [.sl tg (msI ms)] st (λr st'=>r=.raw (.string (yJa (allM ms)))/\st'=st):=by
 obtain⟨av,au,am,al⟩:=yUd (allM ms);obtain⟨K,hK⟩:∃K,yYs (allM ms)=K+1:=⟨yYs (allM ms)-1,by omega⟩
 have ai:∀k,k<=1099511627777->1+(Lib.decDigits k).length<=281474976710656:=λk hk=>by
  rw[Lib.decDigits_length];have:=zZa 14 k (by omega);omega
 refine iI func250 ?_;simp only[go_sem];refine LoopC.ctr K (λk fr st' ds=>fr 0=.iv (.sl tg (msI ms))/\fr 3=.iv (.raw (.int .i64 k))/\st'=st/\ds=[]) ?_ ?_ ?_
 ·simp only[go_sem,reduceCtorEq];rfl
 ·rintro k fr st _ aq ⟨f0,f3,rfl,rfl⟩;have hw:IntKind.i64.wrap ((k:Int)+1)=((k+1:Nat):Int):=by rw[w64]<;>omega
  have an:=al (k+1) (by omega) (by omega);simp only[go_sem,zA,f3,hw];refine (vQ8 gl G (k+1) (by omega) _).mono ?_;rintro _ st ⟨rfl,rfl⟩;simp only[go_sem,zL,reduceCtorEq,f0,yGo,ai (k+1) (by omega),xVc,zZb];intros;refine LoopC.ctr ms.length (λj fr st' ds=>(∀p∈ms.take j,yVq (k+1) ∉ p.2)/\fr 0=.iv (.sl tg (msI ms))/\fr 3=.iv (.raw (.int .i64 (k+1:Nat)))/\fr 4=.iv (.raw (.string (yVq (k+1)))) /\
   fr 12=.iv (.sl tg (msI ms))/\fr 13=.iv (.raw (.int .i64 ms.length))/\fr 14=.iv (.raw (.int .i64 j))/\st'=st/\ds=[]) ?_ ?_ ?_
  ·simp only[go_sem,zE,reduceCtorEq,f0];exact⟨λ_ h=>(by simp at h),rfl⟩
  ·rintro j fr st _ A ⟨hn,g0,g3,g4,J,E,D,rfl,rfl⟩;obtain⟨p,hp⟩:=yQ1 A;obtain⟨es,aa,U⟩:=hm p (lMg hp);cases hq:memB p.2 (yVq (k+1))
   ·simp only[go_sem,zE,reduceCtorEq,g0,g3,g4,J,E,D,lt_i A,yQ3 ae,iNn,xJv hp,aa,U.look,hq,yQc A (show ms.length<=281474976710656 by omega)];intro q O;rw[yQ6 hp] at O;rcases List.mem_append.1 O with h|h
    ·exact hn q h
    ·rw[List.mem_singleton] at h;subst h;exact zXu.1 hq
   ·simp only[go_sem,zE,reduceCtorEq,g0,g3,g4,J,E,D,lt_i A,yQ3 ae,iNn,xJv hp,aa,U.look,hq]
  ·rintro fr st _ ⟨hn,g0,g3,g4,J,E,D,rfl,rfl⟩;rw[lTl] at hn;exfalso;obtain⟨p,hp,ak⟩:=List.mem_flatMap.1 an;exact hn p hp ak
 ·rintro fr st _ ⟨f0,f3,rfl,rfl⟩;have hw:IntKind.i64.wrap ((K:Int)+1)=((K+1:Nat):Int):=by rw[w64]<;>omega
  simp only[go_sem,zA,f3,hw];refine (vQ8 gl G (K+1) (by omega) _).mono ?_;rintro _ st ⟨rfl,rfl⟩;simp only[go_sem,zL,reduceCtorEq,f0,yGo,ai (K+1) (by omega),xVc,zZb];intros;refine LoopC.ctr ms.length (λj fr st' ds=>(∀p∈ms.take j,yVq (K+1) ∉ p.2)/\fr 0=.iv (.sl tg (msI ms))/\fr 3=.iv (.raw (.int .i64 (K+1:Nat)))/\fr 4=.iv (.raw (.string (yVq (K+1)))) /\
   fr 12=.iv (.sl tg (msI ms))/\fr 13=.iv (.raw (.int .i64 ms.length))/\fr 14=.iv (.raw (.int .i64 j))/\st'=st/\ds=[]) ?_ ?_ ?_
  ·simp only[go_sem,zE,reduceCtorEq,f0];exact⟨λ_ h=>(by simp at h),rfl⟩
  ·rintro j fr st _ A ⟨hn,g0,g3,g4,J,E,D,rfl,rfl⟩;obtain⟨p,hp⟩:=yQ1 A;obtain⟨es,aa,U⟩:=hm p (lMg hp);cases hq:memB p.2 (yVq (K+1))
   ·simp only[go_sem,zE,reduceCtorEq,g0,g3,g4,J,E,D,lt_i A,yQ3 ae,iNn,xJv hp,aa,U.look,hq,yQc A (show ms.length<=281474976710656 by omega)];intro q O;rw[yQ6 hp] at O;rcases List.mem_append.1 O with h|h
    ·exact hn q h
    ·rw[List.mem_singleton] at h;subst h;exact zXu.1 hq
   ·exfalso;refine am ?_;rw[hK];exact List.mem_flatMap.2 ⟨p,lMg hp,yJ6.1 hq⟩
  ·rintro fr st _ ⟨hn,g0,g3,g4,J,E,D,rfl,rfl⟩;rw[lTl] at hn;simp only[go_sem,zE,g4,E,D,yQl (nLi _)];exact yQ0 ⟨by rw[yJa,hK],rfl⟩
