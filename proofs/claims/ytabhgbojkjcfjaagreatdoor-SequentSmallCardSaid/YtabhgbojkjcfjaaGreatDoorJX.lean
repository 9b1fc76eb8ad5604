/- Walks: least. -/
import Derived.Test.YtabhgbojkjcfjaaGreatDoorJW
set_option linter.all false
open Nat renaming reduceEqDiff → zE,reduceAdd → zA,reduceLeDiff → zL
namespace Go.Proofs.Tryz
open Go Go.Iv
set_option maxRecDepth 4000
variable (gl:Nat->Option IV)
def SetOk (es:List (Value×IV))(l:List ByteArray):Prop:=∀s,(yVj (.string s) es).getD (.raw (.bool false))=.raw (.bool (memB l s))
theorem SetOk.look {es:List (Value×IV)}{l:List ByteArray}(h:SetOk es l)(s:ByteArray):zYa false (yVj (.string s) es) (.raw (.bool false))=some (.raw (.bool (memB l s))):=by
 unfold zYa;simp only[bFt,if_false,h s]
theorem xVe (l m:List ByteArray)(n:ByteArray):memB (l++m) n=(memB l n || memB m n):=by simp[memB]
theorem SetOk.upd {es:List (Value×IV)}{l:List ByteArray}(h:SetOk es l)(n:ByteArray):SetOk (updI (.string n) (.raw (.bool true)) es) (l++[n]):=λs=>by
 rw[yUo,xVe];by_cases A:s=n
 ·subst A;simp[memB]
 ·rw[if_neg A,h s];have:memB [n] s=false:=by simp[A]
  rw[this,Bool.or_false]
theorem SetOk.nil:SetOk [] []:=λ_=>rfl
theorem SetOk.ofE (l:List ByteArray):SetOk (setE l) l:=by
 suffices h:∀(l m:List ByteArray) (es:List (Value×IV)),SetOk es m->SetOk (l.foldl (λes s=>updI (.string s) (.raw (.bool true)) es) es) (m++l) by
  have:=h l [] [] SetOk.nil;rw[List.nil_append] at this;exact this
 intro l
 induction l with
 | nil=>intro m es h;simpa using h
 | cons a l A =>
  intro m es h;have:=A (m++[a]) _ (h.upd a);simpa using this
abbrev Ms:=List (Nat×List ByteArray)
def msI (A:Ms):List IV:=A.map λp=>.raw (.map (some p.1))
def MsOk (A:Ms)(st:ISt):Prop:=∀p∈A,∃es,st p.1=some (.map .str es)/\SetOk es p.2
def allM (A:Ms):List ByteArray:=A.flatMap (·.2)
theorem zXe (A:Ms):(msI A).length=A.length:=by simp[msI]
theorem xVd {A:Ms}{k:Nat}{p:Nat×List ByteArray}(h:A[k]?=some p):(msI A)[k]?=some (.raw (.map (some p.1))):=by simp[msI,h]
theorem zQt (n:Nat):(⟨#[120]⟩:ByteArray)++⟨(Lib.decDigits n).toArray⟩=yW3 n:=by
 apply zWh;simp[yW3]
theorem wJi (G:Gt gl)(D:Ms)(tg:Tag)(ac:okEs tg 1)(hl:(allM D).length<=1099511627776)(st:ISt)(hm:MsOk D st) :
  ICall prog gl 237 [.sl tg (msI D)] st (λr st'=>r=.raw (.string (yJc (allM D)))/\st'=st):=by
 obtain⟨av,au,al,ak⟩:=yYx (allM D);obtain⟨K,hK⟩:∃K,yKq (allM D)=K+1:=⟨yKq (allM D)-1,by omega⟩
 have ah:∀k,k<=1099511627777->1+(Lib.decDigits k).length<=281474976710656:=λk hk=>by
  rw[Lib.decDigits_length];have:=yYc 14 k (by omega);omega
 refine iI func237 ?_;simp only[go_sem];refine LoopC.ctr K (λk fr st' ds=>fr 0=.iv (.sl tg (msI D))/\fr 3=.iv (.raw (.int .i64 k))/\st'=st/\ds=[]) ?_ ?_ ?_
 ·simp only[go_sem,reduceCtorEq];rfl
 ·rintro k fr st _ aq ⟨f0,f3,rfl,rfl⟩;have hw:IntKind.i64.wrap ((k:Int)+1)=((k+1:Nat):Int):=by rw[w64]<;>omega
  have am:=ak (k+1) (by omega) (by omega);simp only[go_sem,zA,f3,hw];refine (wUy gl G (k+1) (by omega) _).mono ?_;rintro _ st ⟨rfl,rfl⟩;simp only[go_sem,zL,reduceCtorEq,f0,yQ7,ah (k+1) (by omega),zQt,zXe];intros;refine LoopC.ctr D.length (λj fr st' ds=>(∀p∈D.take j,yW3 (k+1) ∉ p.2)/\fr 0=.iv (.sl tg (msI D))/\fr 3=.iv (.raw (.int .i64 (k+1:Nat)))/\fr 4=.iv (.raw (.string (yW3 (k+1)))) /\
   fr 12=.iv (.sl tg (msI D))/\fr 13=.iv (.raw (.int .i64 D.length))/\fr 14=.iv (.raw (.int .i64 j))/\st'=st/\ds=[]) ?_ ?_ ?_
  ·simp only[go_sem,zE,reduceCtorEq,f0];exact⟨λ_ h=>(by simp at h),rfl⟩
  ·rintro j fr st _ A ⟨hn,g0,g3,g4,J,F,E,rfl,rfl⟩;obtain⟨p,hp⟩:=yQ3 A;obtain⟨es,W,U⟩:=hm p (lMg hp);cases hq:memB p.2 (yW3 (k+1))
   ·simp only[go_sem,zE,reduceCtorEq,g0,g3,g4,J,F,E,lt_i A,yQ2 ac,iNn,xVd hp,W,U.look,hq,yQb A (show D.length<=281474976710656 by omega)];intro q O;rw[yQ4 hp] at O;rcases List.mem_append.1 O with h|h
    ·exact hn q h
    ·rw[List.mem_singleton] at h;subst h;exact zZc.1 hq
   ·simp only[go_sem,zE,reduceCtorEq,g0,g3,g4,J,F,E,lt_i A,yQ2 ac,iNn,xVd hp,W,U.look,hq]
  ·rintro fr st _ ⟨hn,g0,g3,g4,J,F,E,rfl,rfl⟩;rw[lTl] at hn;exfalso;obtain⟨p,hp,aj⟩:=List.mem_flatMap.1 am;exact hn p hp aj
 ·rintro fr st _ ⟨f0,f3,rfl,rfl⟩;have hw:IntKind.i64.wrap ((K:Int)+1)=((K+1:Nat):Int):=by rw[w64]<;>omega
  simp only[go_sem,zA,f3,hw];refine (wUy gl G (K+1) (by omega) _).mono ?_;rintro _ st ⟨rfl,rfl⟩;simp only[go_sem,zL,reduceCtorEq,f0,yQ7,ah (K+1) (by omega),zQt,zXe];intros;refine LoopC.ctr D.length (λj fr st' ds=>(∀p∈D.take j,yW3 (K+1) ∉ p.2)/\fr 0=.iv (.sl tg (msI D))/\fr 3=.iv (.raw (.int .i64 (K+1:Nat)))/\fr 4=.iv (.raw (.string (yW3 (K+1)))) /\
   fr 12=.iv (.sl tg (msI D))/\fr 13=.iv (.raw (.int .i64 D.length))/\fr 14=.iv (.raw (.int .i64 j))/\st'=st/\ds=[]) ?_ ?_ ?_
  ·simp only[go_sem,zE,reduceCtorEq,f0];exact⟨λ_ h=>(by simp at h),rfl⟩
  ·rintro j fr st _ A ⟨hn,g0,g3,g4,J,F,E,rfl,rfl⟩;obtain⟨p,hp⟩:=yQ3 A;obtain⟨es,W,U⟩:=hm p (lMg hp);cases hq:memB p.2 (yW3 (K+1))
   ·simp only[go_sem,zE,reduceCtorEq,g0,g3,g4,J,F,E,lt_i A,yQ2 ac,iNn,xVd hp,W,U.look,hq,yQb A (show D.length<=281474976710656 by omega)];intro q O;rw[yQ4 hp] at O;rcases List.mem_append.1 O with h|h
    ·exact hn q h
    ·rw[List.mem_singleton] at h;subst h;exact zZc.1 hq
   ·exfalso;refine al ?_;rw[hK];exact List.mem_flatMap.2 ⟨p,lMg hp,yXj.1 hq⟩
  ·rintro fr st _ ⟨hn,g0,g3,g4,J,F,E,rfl,rfl⟩;rw[lTl] at hn;simp only[go_sem,zE,g4,F,E,yQj (nLi _)];exact yQ0 ⟨by rw[yJc,hK],rfl⟩
