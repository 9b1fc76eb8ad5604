/- Walks: least. -/
import Derived.Test.YtopmhkmegkpkdaaGreatDoorJW
set_option linter.all false
open Nat renaming reduceEqDiff → zE,reduceAdd → zA,reduceLeDiff → zL
namespace Go.Proofs.Tryz
open Go Go.Iv
set_option maxRecDepth 4000
variable (gl:Nat->Option IV)
def SetOk (es:List (Value×IV))(l:List ByteArray):Prop:=∀s,(e8 (.string s) es).getD false=(memB l s:Bool)
def SetOk.look {es:List (Value×IV)}{l:List ByteArray}(h:SetOk es l)(s:ByteArray):kN false (e8 (.string s) es) (.raw (.bool false))=some (.raw (.bool (memB l s))):=by
 unfold kN;simp only[bFt,dJ,h s]
def K8 (l m:List ByteArray)(n:ByteArray):memB (l++m) n=(memB l n || memB m n):=by simp[memB]
def SetOk.upd {es:List (Value×IV)}{l:List ByteArray}(h:SetOk es l)(n:ByteArray):SetOk (updI (.string n) true es) (l++[n]):=λs=>by
 rw[s8,K8];by_cases A:s=n
 ·subst A;simp[memB]
 ·rw[a_ A,h s];have:memB [n] s=false:=by simp[A]
  rw[this,Bool.or_false]
def SetOk.nil:SetOk [] []:=λ_=>rfl
def jB (l:List ByteArray):SetOk (setE l) l:=by
 suffices h:∀(l m:List ByteArray) (es:List (Value×IV)),SetOk es m->SetOk (l.foldl (λes s=>updI (.string s) true es) es) (m++l) by
  have:=h l [] [] SetOk.nil;rw[gz] at this;exact this
 intro l
 induction l with
 | nil=>intro m es h;simpa using h
 | cons a l A =>
  intro m es h;have:=A (m++[a]) _ (h.upd a);simpa using this
abbrev Ms:=List (Nat×List ByteArray)
def msI (A:Ms):List IV:=A.map λp=>.raw (.map (some p.1))
def MsOk (A:Ms)(st:ISt):Prop:=∀p∈A,∃es,st p.1=some (.map .str es)/\SetOk es p.2
def allM (A:Ms):List ByteArray:=A.flatMap (·.2)
def wM (A:Ms):(msI A).length=A.length:=by simp[msI]
def wN {A:Ms}{k:Nat}{p:Nat×List ByteArray}(h:A[k]?=some p):(msI A)[k]?=some (.raw (.map (some p.1))):=by simp[msI,h]
def CL (n:Nat):(⟨#[120]⟩:ByteArray)++⟨(Lib.decDigits n).toArray⟩=i6 n:=by
 apply qb;simp[i6]
def K9 (G:Gt gl)(D:Ms)(tg:Tag)(af:okEs tg 1)(hl:(allM D).length<=1099511627776)(st:ISt)(hm:MsOk D st) :
  ICall prog gl 301 [.sl tg (msI D)] st (λr st'=>r=.raw (.string (nV (allM D)))/\st'=st):=by
 obtain⟨ax,aw,ao,an⟩:=Kw (allM D);obtain⟨K,hK⟩:∃K,nU (allM D)=K+1:=⟨nU (allM D)-1,by omega⟩
 have aj:∀k,k<=1099511627777->1+(Lib.decDigits k).length<=281474976710656:=λk hk=>by
  rw[Lib.decDigits_length];have:=wF 14 k (by omega);omega
 refine iI func301 ?_;simp only[go_sem];refine cV K (λk fr st' ds=>fr 0=.iv (.sl tg (msI D))/\fr 3=.iv (.raw (.int .i64 k))/\st'=st/\ds=[]) ?_ ?_ ?_
 ·simp only[go_sem,reduceCtorEq];rfl
 ·rintro k fr st _ av ⟨f0,f3,rfl,rfl⟩;have hw:IntKind.i64.wrap ((k:Int)+1)=((k+1:Nat):Int):=by rw[w64]<;>omega
  have aq:=an (k+1) (by omega) (by omega);simp only[go_sem,zA,f3,hw];refine (CI gl G (k+1) (by omega) _).q ?_;simp only[go_sem,zL,reduceCtorEq,f0,ll,aj (k+1) (by omega),CL,wM];intros;refine cV D.length (λj fr st' ds=>(∀p∈D.take j,i6 (k+1) ∉ p.2)/\fr 0=.iv (.sl tg (msI D))/\fr 3=.iv (.raw (.int .i64 (k+1:Nat)))/\fr 4=.iv (.raw (.string (i6 (k+1)))) /\
   fr 12=.iv (.sl tg (msI D))/\fr 13=.iv (.raw (.int .i64 D.length))/\fr 14=.iv (.raw (.int .i64 j))/\st'=st/\ds=[]) ?_ ?_ ?_
  ·simp only[go_sem,zE,reduceCtorEq,f0];exact⟨λ_ h=>(by simp at h),rfl⟩
  ·rintro j fr st _ A ⟨hn,g0,g3,g4,U,O,E,rfl,rfl⟩;obtain⟨p,hp⟩:=dd A;obtain⟨es,ab,aa⟩:=hm p (lMg hp);cases hq:memB p.2 (i6 (k+1))
   ·simp only[go_sem,zE,reduceCtorEq,g0,g3,g4,U,O,E,lt_i A,dc af,iNn,wN hp,ab,aa.look,hq,df A (by omega)];intro q W;rw[dK hp] at W;rcases eX.1 W with h|h
    ·exact hn q h
    ·rw[fD] at h;subst h;exact zKb.1 hq
   ·simp only[go_sem,zE,reduceCtorEq,g0,g3,g4,U,O,E,lt_i A,dc af,iNn,wN hp,ab,aa.look,hq]
  ·rintro fr st _ ⟨hn,g0,g3,g4,U,O,E,rfl,rfl⟩;rw[lTl] at hn;exfalso;obtain⟨p,hp,am⟩:=iy.1 aq;exact hn p hp am
 ·rintro fr st _ ⟨f0,f3,rfl,rfl⟩;have hw:IntKind.i64.wrap ((K:Int)+1)=((K+1:Nat):Int):=by rw[w64]<;>omega
  simp only[go_sem,zA,f3,hw];refine (CI gl G (K+1) (by omega) _).q ?_;simp only[go_sem,zL,reduceCtorEq,f0,ll,aj (K+1) (by omega),CL,wM];intros;refine cV D.length (λj fr st' ds=>(∀p∈D.take j,i6 (K+1) ∉ p.2)/\fr 0=.iv (.sl tg (msI D))/\fr 3=.iv (.raw (.int .i64 (K+1:Nat)))/\fr 4=.iv (.raw (.string (i6 (K+1)))) /\
   fr 12=.iv (.sl tg (msI D))/\fr 13=.iv (.raw (.int .i64 D.length))/\fr 14=.iv (.raw (.int .i64 j))/\st'=st/\ds=[]) ?_ ?_ ?_
  ·simp only[go_sem,zE,reduceCtorEq,f0];exact⟨λ_ h=>(by simp at h),rfl⟩
  ·rintro j fr st _ A ⟨hn,g0,g3,g4,U,O,E,rfl,rfl⟩;obtain⟨p,hp⟩:=dd A;obtain⟨es,ab,aa⟩:=hm p (lMg hp);cases hq:memB p.2 (i6 (K+1))
   ·simp only[go_sem,zE,reduceCtorEq,g0,g3,g4,U,O,E,lt_i A,dc af,iNn,wN hp,ab,aa.look,hq,df A (by omega)];intro q W;rw[dK hp] at W;rcases eX.1 W with h|h
    ·exact hn q h
    ·rw[fD] at h;subst h;exact zKb.1 hq
   ·exfalso;refine ao ?_;rw[hK];exact iy.2 ⟨p,lMg hp,yJg.1 hq⟩
  ·rintro fr st _ ⟨hn,g0,g3,g4,U,O,E,rfl,rfl⟩;rw[lTl] at hn;simp only[go_sem,zE,g4,O,E,dD (nLi _)];exact cO ⟨by rw[nV,hK],rfl⟩
