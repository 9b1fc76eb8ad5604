/- Walks: least. -/
import Derived.Test.YtdbmgeebmfpmpaaGreatDoorJW
set_option linter.all false
open Nat renaming reduceEqDiff → zE,reduceAdd → zA,reduceLeDiff → zL
namespace Go.Proofs.Tryz
open Go Go.Iv
set_option maxRecDepth 4000
variable (gl:Nat->Option IV)
def SetOk (es:List (Value×IV))(l:List ByteArray):Prop:=∀s,(yXy (.string s) es).getD (.raw (.bool false))=.raw (.bool (memB l s))
theorem SetOk.look {es:List (Value×IV)}{l:List ByteArray}(h:SetOk es l)(s:ByteArray):zX3 false (yXy (.string s) es) (.raw (.bool false))=some (.raw (.bool (memB l s))):=by
 unfold zX3;simp only[bFt,if_false,h s]
theorem xXz (l m:List ByteArray)(n:ByteArray):memB (l++m) n=(memB l n || memB m n):=by simp[memB]
theorem SetOk.upd {es:List (Value×IV)}{l:List ByteArray}(h:SetOk es l)(n:ByteArray):SetOk (updI (.string n) (.raw (.bool true)) es) (l++[n]):=λs=>by
 rw[yGc,xXz];by_cases hs:s=n
 ·subst hs;simp[memB]
 ·rw[if_neg hs,h s];have:memB [n] s=false:=by simp[hs]
  rw[this,Bool.or_false]
theorem SetOk.nil:SetOk [] []:=λ_=>rfl
theorem SetOk.ofE (l:List ByteArray):SetOk (setE l) l:=by
 suffices h:∀(l m:List ByteArray) (es:List (Value×IV)),SetOk es m->SetOk (l.foldl (λes s=>updI (.string s) (.raw (.bool true)) es) es) (m++l) by
  have:=h l [] [] SetOk.nil;rw[List.nil_append] at this;exact this
 intro l
 induction l with
 | nil=>intro m es h;simpa using h
 | cons a l ih =>
  intro m es h;have:=ih (m++[a]) _ (h.upd a);simpa using this
abbrev Ms:=List (Nat×List ByteArray)
def msI (ms:Ms):List IV:=ms.map λp=>.raw (.map (some p.1))
def MsOk (ms:Ms)(st:ISt):Prop:=∀p∈ms,∃es,st p.1=some (.map .str es)/\SetOk es p.2
def allM (ms:Ms):List ByteArray:=ms.flatMap (·.2)
theorem zQz (ms:Ms):(msI ms).length=ms.length:=by simp[msI]
theorem xXy {ms:Ms}{k:Nat}{p:Nat×List ByteArray}(h:ms[k]?=some p):(msI ms)[k]?=some (.raw (.map (some p.1))):=by simp[msI,h]
theorem xKi (n:Nat):(⟨#[120]⟩:ByteArray)++⟨(Lib.decDigits n).toArray⟩=yVj n:=by
 apply zY1;simp[yVj]
theorem wX7 (G:Gt gl)(ms:Ms)(tg:Tag)(htg:okEs tg 1)(hl:(allM ms).length<=1099511627776)(st:ISt)(hm:MsOk ms st) :
  ICall prog gl 245 [.sl tg (msI ms)] st (λr st'=>r=.raw (.string (yJ4 (allM ms)))/\st'=st):=by
 obtain⟨hk1,hk2,hk3,hk4⟩:=yU5 (allM ms);obtain⟨K,hK⟩:∃K,yYm (allM ms)=K+1:=⟨yYm (allM ms)-1,by omega⟩
 have hdl:∀k,k<=1099511627777->1+(Lib.decDigits k).length<=281474976710656:=λk hk=>by
  rw[Lib.decDigits_length];have:=zQy 14 k (by omega);omega
 refine iI func245 ?_;simp only[go_sem];refine LoopC.ctr K (λk fr st' ds=>fr 0=.iv (.sl tg (msI ms))/\fr 3=.iv (.raw (.int .i64 k))/\st'=st/\ds=[]) ?_ ?_ ?_
 ·simp only[go_sem,reduceCtorEq];rfl
 ·rintro k fr st _ hlt ⟨f0,f3,rfl,rfl⟩;have hw:IntKind.i64.wrap ((k:Int)+1)=((k+1:Nat):Int):=by rw[w64]<;>omega
  have hin:=hk4 (k+1) (by omega) (by omega);simp only[go_sem,zA,f3,hw];refine (wGn gl G (k+1) (by omega) _).mono ?_;rintro _ st ⟨rfl,rfl⟩;simp only[go_sem,zL,reduceCtorEq,f0,yXi,hdl (k+1) (by omega),xKi,zQz];intros;refine LoopC.ctr ms.length (λj fr st' ds=>(∀p∈ms.take j,yVj (k+1) ∉ p.2)/\fr 0=.iv (.sl tg (msI ms))/\fr 3=.iv (.raw (.int .i64 (k+1:Nat)))/\fr 4=.iv (.raw (.string (yVj (k+1)))) /\
   fr 12=.iv (.sl tg (msI ms))/\fr 13=.iv (.raw (.int .i64 ms.length))/\fr 14=.iv (.raw (.int .i64 j))/\st'=st/\ds=[]) ?_ ?_ ?_
  ·simp only[go_sem,zE,reduceCtorEq,f0];exact⟨λ_ h=>(by simp at h),rfl⟩
  ·rintro j fr st _ hlt2 ⟨hn,g0,g3,g4,g12,g13,g14,rfl,rfl⟩;obtain⟨p,hp⟩:=yQ1 hlt2;obtain⟨es,he1,he2⟩:=hm p (lMg hp);cases hq:memB p.2 (yVj (k+1))
   ·simp only[go_sem,zE,reduceCtorEq,g0,g3,g4,g12,g13,g14,lt_i hlt2,yQ4 htg,iNn,xXy hp,he1,he2.look,hq,yQd hlt2 (show ms.length<=281474976710656 by omega)];intro q hqm;rw[yQ8 hp] at hqm;rcases List.mem_append.1 hqm with h|h
    ·exact hn q h
    ·rw[List.mem_singleton] at h;subst h;exact zXe.1 hq
   ·simp only[go_sem,zE,reduceCtorEq,g0,g3,g4,g12,g13,g14,lt_i hlt2,yQ4 htg,iNn,xXy hp,he1,he2.look,hq]
  ·rintro fr st _ ⟨hn,g0,g3,g4,g12,g13,g14,rfl,rfl⟩;rw[lTl] at hn;exfalso;obtain⟨p,hp,hpm⟩:=List.mem_flatMap.1 hin;exact hn p hp hpm
 ·rintro fr st _ ⟨f0,f3,rfl,rfl⟩;have hw:IntKind.i64.wrap ((K:Int)+1)=((K+1:Nat):Int):=by rw[w64]<;>omega
  simp only[go_sem,zA,f3,hw];refine (wGn gl G (K+1) (by omega) _).mono ?_;rintro _ st ⟨rfl,rfl⟩;simp only[go_sem,zL,reduceCtorEq,f0,yXi,hdl (K+1) (by omega),xKi,zQz];intros;refine LoopC.ctr ms.length (λj fr st' ds=>(∀p∈ms.take j,yVj (K+1) ∉ p.2)/\fr 0=.iv (.sl tg (msI ms))/\fr 3=.iv (.raw (.int .i64 (K+1:Nat)))/\fr 4=.iv (.raw (.string (yVj (K+1)))) /\
   fr 12=.iv (.sl tg (msI ms))/\fr 13=.iv (.raw (.int .i64 ms.length))/\fr 14=.iv (.raw (.int .i64 j))/\st'=st/\ds=[]) ?_ ?_ ?_
  ·simp only[go_sem,zE,reduceCtorEq,f0];exact⟨λ_ h=>(by simp at h),rfl⟩
  ·rintro j fr st _ hlt2 ⟨hn,g0,g3,g4,g12,g13,g14,rfl,rfl⟩;obtain⟨p,hp⟩:=yQ1 hlt2;obtain⟨es,he1,he2⟩:=hm p (lMg hp);cases hq:memB p.2 (yVj (K+1))
   ·simp only[go_sem,zE,reduceCtorEq,g0,g3,g4,g12,g13,g14,lt_i hlt2,yQ4 htg,iNn,xXy hp,he1,he2.look,hq,yQd hlt2 (show ms.length<=281474976710656 by omega)];intro q hqm;rw[yQ8 hp] at hqm;rcases List.mem_append.1 hqm with h|h
    ·exact hn q h
    ·rw[List.mem_singleton] at h;subst h;exact zXe.1 hq
   ·exfalso;refine hk3 ?_;rw[hK];exact List.mem_flatMap.2 ⟨p,lMg hp,yJ0.1 hq⟩
  ·rintro fr st _ ⟨hn,g0,g3,g4,g12,g13,g14,rfl,rfl⟩;rw[lTl] at hn;simp only[go_sem,zE,g4,g13,g14,yQl (nLi _)];exact yQ0 ⟨by rw[yJ4,hK],rfl⟩
