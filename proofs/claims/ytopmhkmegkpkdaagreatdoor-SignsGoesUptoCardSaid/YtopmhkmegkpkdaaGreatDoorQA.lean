/- Sequents and trees of sequents as plain -/
import Derived.Test.YtopmhkmegkpkdaaGreatDoorKG
set_option linter.all false
open Nat renaming reduceEqDiff → zE,reduceBEq → zB,reduceAdd → zA,reduceMul → zM,reduceLeDiff → zL
namespace Go.Iv
open Go
structure Sq where
 l:List Fm
 r:List Fm
inductive Tr where
 | mk (rule:Nat) (s:Sq) (main:Fm) (term:Tm) (name:ByteArray) (sub:List Tr)
def IsSq (s:Sq)(x:IV):Prop:=∃t A D ys,x=.agg [.sl t A,.sl D ys]/\okEs t 4/\IsFms s.l A/\okEs D 4/\IsFms s.r ys
def IsSqs:List Sq->List IV->Prop
 | [],A=>A=[]
 | a::D,A=>∃y ys,A=y::ys/\IsSq a y/\IsSqs D ys
mutual
def IsTr:Tr->IV->Prop
 | .mk rule s f u n sub,x=>∃tl O tr E op fn ta W tb U v un tu A ts D,x=.agg [.raw (.int .u8 rule),.sl tl O,.sl tr E,.raw (.int .u8 op),.raw (.string fn),.sl ta W,.sl tb U,.raw (.bool v),.raw (.string un),.sl tu A,n,.sl ts D] /\
  rule<256/\okEs tl 4/\IsFms s.l O/\okEs tr 4/\IsFms s.r E/\IsFm f (.agg [.raw (.int .u8 op),.raw (.string fn),.sl ta W,.sl tb U])/\IsTm u (.agg [.raw (.bool v),.raw (.string un),.sl tu A])/\okEs ts 12/\IsTrs sub D
def IsTrs:List Tr->List IV->Prop
 | [],A=>A=[]
 | a::D,A=>∃y ys,A=y::ys/\IsTr a y/\IsTrs D ys
end
def IsTr.mk {rule:Nat}{s:Sq}{f:Fm}{u:Tm}{n:ByteArray}{sub:List Tr}{x:IV}(h:IsTr (.mk rule s f u n sub) x):∃tl O tr E op fn ta W tb U v un tu A ts D,x=.agg [.raw (.int .u8 rule),.sl tl O,.sl tr E,.raw (.int .u8 op),.raw (.string fn),.sl ta W,.sl tb U,.raw (.bool v),.raw (.string un),.sl tu A,n,.sl ts D] /\
  rule<256/\okEs tl 4/\IsFms s.l O/\okEs tr 4/\IsFms s.r E/\IsFm f (.agg [.raw (.int .u8 op),.raw (.string fn),.sl ta W,.sl tb U])/\IsTm u (.agg [.raw (.bool v),.raw (.string un),.sl tu A])/\okEs ts 12/\IsTrs sub D:=by
 simpa only[IsTr] using h
def IsSqs.len:∀ {D:List Sq}{A:List IV},IsSqs D A->A.length=D.length
 | [],A,h=>by simp only[IsSqs] at h;subst h;rfl
 | a::D,A,h=>by
  simp only[IsSqs] at h;obtain⟨y,ys,rfl,_,h⟩:=h;simp[IsSqs.len h]
def IsSqs.get:∀ {E:List Sq}{D:List IV}{k:Nat}{a:Sq},IsSqs E D->E[k]?=some a->∃x,D[k]?=some x/\IsSq a x
 | [],D,k,a,h,A=>by simp at A
 | b::E,D,k,a,h,A=>by
  simp only[IsSqs] at h;obtain⟨y,ys,rfl,O,h⟩:=h;cases k with
  | zero=>simp at A;subst A;exact⟨y,rfl,O⟩
  | succ k=>simpa using IsSqs.get h (by simpa using A)
def IsTrs.len:∀ {D:List Tr}{A:List IV},IsTrs D A->A.length=D.length
 | [],A,h=>by simp only[IsTrs] at h;subst h;rfl
 | a::D,A,h=>by
  simp only[IsTrs] at h;obtain⟨y,ys,rfl,_,h⟩:=h;simp[IsTrs.len h]
def IsTrs.get:∀ {E:List Tr}{D:List IV}{k:Nat}{a:Tr},IsTrs E D->E[k]?=some a->∃x,D[k]?=some x/\IsTr a x
 | [],D,k,a,h,A=>by simp at A
 | b::E,D,k,a,h,A=>by
  simp only[IsTrs] at h;obtain⟨y,ys,rfl,O,h⟩:=h;cases k with
  | zero=>simp at A;subst A;exact⟨y,rfl,O⟩
  | succ k=>simpa using IsTrs.get h (by simpa using A)
def IsTrs.append:∀ {E D:List Tr}{A ys:List IV},IsTrs E A->IsTrs D ys->IsTrs (E++D) (A++ys)
 | [],D,A,ys,h,k=>by simp only[IsTrs] at h;subst h;exact k
 | a::E,D,A,ys,h,k=>by
  simp only[IsTrs] at h;obtain⟨y,zs,rfl,O,h⟩:=h;exact⟨y,zs++ys,rfl,O,IsTrs.append h k⟩
mutual
def Tr.steps:Tr->Nat
 | .mk _ _ _ _ _ sub=>1+jf sub
def jf:List Tr->Nat
 | []=>0
 | a::l=>a.steps+jf l
end
mutual
def Tr.height:Tr->Nat
 | .mk _ _ _ _ _ sub=>1+nf sub
def nf:List Tr->Nat
 | []=>0
 | a::l=>max a.height (nf l)
end
mutual
def Tr.cuts:Tr->Nat
 | .mk rule _ _ _ _ sub=>(if rule=17 then 1 else 0)+l3 sub
def l3:List Tr->Nat
 | []=>0
 | a::l=>a.cuts+l3 l
end
def Tr.height_le_steps:∀t:Tr,t.height<=t.steps:=by
 have key:∀k:Nat,(∀t:Tr,SizeOf.sizeOf t<k->t.height<=t.steps):=λk=>by
  induction k with
  | zero=>intro t h;omega
  | succ k D =>
   rintro⟨rule,s,f,u,n,sub⟩ h;have:∀l:List Tr,SizeOf.sizeOf l<k+1->nf l<=jf l:=λl=>by
    induction l with
    | nil=>intro _;simp[nf,jf]
    | cons a l A =>
     intro E;simp only[List.cons.sizeOf_spec] at E;have h1:=D a (by omega);have h2:=A (by omega);simp only[nf,jf];omega
   simp only[Tr.mk.sizeOf_spec] at h;have:=this sub (by omega);simp only[Tr.height,Tr.steps];omega
 exact λt=>key _ t (dM _)
mutual
def Tr.walk:List Nat->Tr->List (List Nat×Tr)
 | p,t@(.mk _ _ _ _ _ sub)=>(p,t)::gr p 0 sub
def gr:List Nat->Nat->List Tr->List (List Nat×Tr)
 | _,_,[]=>[]
 | p,i,a::l=>a.walk (p++[i])++gr p (i+1) l
end
def ic (e:Tr->Nat):List (List Nat×Tr)->List Nat×Nat
 | []=>([],0)
 | (p,t)::l=>if e t=0 then ic e l else (p,e t)
def tM (e:Tr->Nat):∀l m,ic e (l++m)=if (ic e l).2=0 then ic e m else ic e l
 | [],m=>by simp[ic]
 | (p,t)::l,m=>by
  have A:=tM e l m;by_cases h:e t=0
  ·simp only[dX,ic,h,dB,A]
  ·simp[ic,h]
def Dl (e:Tr->Nat):∀l,(ic e l).2=0->ic e l=([],0)
 | [],_=>rfl
 | (p,t)::l,h=>by
  simp only[ic] at h ⊢;by_cases A:e t=0
  ·rw[b_ A] at h ⊢;exact Dl e l h
  ·grind
def Fm.op:Fm->Nat
 | .mk op _ _ _=>op
def Fm.subs:Fm->List Fm
 | .mk _ _ _ sub=>sub
def Fm.nm:Fm->ByteArray
 | .mk _ n _ _=>n
def Tr.sq:Tr->Sq
 | .mk _ s _ _ _ _=>s
def Sq.plus (s m:Sq):Sq:=⟨s.l++m.l,s.r++m.r⟩
end Go.Iv
namespace Go.Proofs.Tryz
open Go Go.Iv
mutual
def opsB (ca:Nat):Fm->Bool
 | .mk op _ us sub=>decide (1<=op)&&decide (op<=if ca=3 then 9 else 7)&&(decide (ca=3) || us.isEmpty)&&gG ca sub
def gG (ca:Nat):List Fm->Bool
 | []=>true
 | a::l=>opsB ca a&&gG ca l
end
def fmB (ca:Nat)(f:Fm):Bool:=f.right&&opsB ca f
def j6 (ca:Nat):Bool:=decide (1<=ca)&&decide (ca<=3)
noncomputable def eqF (a b:Fm):Bool:=decide (a.op=b.op)&&p_ a b
noncomputable def hasF (l:List Fm)(f:Fm):Bool:=l.any (eqF f)
noncomputable def allF (l m:List Fm):Bool:=l.all (hasF m)
noncomputable def kV (a b:Sq):Bool:=allF a.l b.l&&allF a.r b.r
noncomputable def Dm:List Fm->Bool
 | []=>true
 | a::l=>(a::l).all λf=>eqF f a
noncomputable def j7 (ca:Nat)(s:Sq):Bool :=
 j6 ca&&decide (s.l.length<=64)&&decide (s.r.length<=64)&&s.l.all (fmB ca)&&s.r.all (fmB ca)&&(decide (ca≠2) || Dm s.r)
structure Rw where
 left:Bool
 right:Bool
 op:Nat
 asks:Nat
def rowK (rule:Nat):Option Rw :=
 if rule=1 then some ⟨true,true,0,0⟩ else if rule=2 then some ⟨true,false,2,0⟩ else if rule=3 then some ⟨true,false,3,0⟩ else if rule=4 then some ⟨false,true,3,0⟩
 else if rule=5 then some ⟨true,false,4,0⟩ else if rule=6 then some ⟨false,true,4,0⟩ else if rule=7 then some ⟨true,false,5,0⟩ else if rule=8 then some ⟨false,true,5,0⟩
 else if rule=9 then some ⟨true,false,6,0⟩ else if rule=10 then some ⟨false,true,6,0⟩ else if rule=11 then some ⟨true,false,7,0⟩ else if rule=12 then some ⟨false,true,7,0⟩
 else if rule=17 then some ⟨false,false,0,0⟩ else none
def rowS (ca rule:Nat):Option Rw :=
 if ca=2/\rule=18 then some ⟨false,true,5,0⟩
 else if ca=3/\rule=13 then some ⟨true,false,8,1⟩ else if ca=3/\rule=14 then some ⟨false,true,8,2⟩
 else if ca=3/\rule=15 then some ⟨true,false,9,2⟩ else if ca=3/\rule=16 then some ⟨false,true,9,1⟩ else rowK rule
def bE:ByteArray:=⟨#[]⟩
def impF (a b:Fm):Fm:=.mk 6 bE [] [a,b]
def addS (ca rule:Nat)(A a b:Fm):List Sq :=
 if rule=3 then [⟨[],[a]⟩] else if rule=4 then [⟨[a],[]⟩] else if rule=5 then [⟨[a,b],[]⟩] else if rule=6 then [⟨[],[a]⟩,⟨[],[b]⟩]
 else if rule=7 then [⟨[a],[]⟩,⟨[b],[]⟩] else if rule=8 then (if ca=2 then [⟨[],[a]⟩] else [⟨[],[a,b]⟩]) else if rule=9 then [⟨[],[a]⟩,⟨[b],[]⟩]
 else if rule=10 then [⟨[a],[b]⟩] else if rule=11 then [⟨[impF a b,impF b a],[]⟩] else if rule=12 then [⟨[a],[b]⟩,⟨[b],[a]⟩]
 else if rule=13 then [⟨[a],[]⟩] else if rule=14 then [⟨[],[a]⟩] else if rule=15 then [⟨[a],[]⟩] else if rule=16 then [⟨[],[a]⟩]
 else if rule=17 then [⟨[],[A]⟩,⟨[A],[]⟩] else if rule=18 then [⟨[],[b]⟩] else []
noncomputable def gW (ca rule:Nat)(r:Rw)(A:Fm)(term:Tm)(name:ByteArray):List Sq×Nat :=
 if !fmB ca A || (decide (r.op≠0)&&decide (A.op≠r.op)) then ([],192)
 else
  let a:=(A.subs[0]?).getD fm0
  let b:=(A.subs[1]?).getD fm0
  if r.asks=0 then (addS ca rule A a b,0)
  else
   let t:=if r.asks=2 then .mk true name [] else term
   if !t.ok then ([],193)
   else if (gV a [(A.nm,t)]).2≠0 then ([],193) else (addS ca rule A (gV a [(A.nm,t)]).1 b,0)
noncomputable def qh (s:Sq)(n:ByteArray):Bool:=s.l.any (λf=>memB (frF f) n) || s.r.any (λf=>memB (frF f) n)
noncomputable def ie (ca:Nat)(s:Sq)(rule:Nat)(A:Fm)(term:Tm)(name:ByteArray):List Sq×Nat :=
 if !j7 ca s then ([],190)
 else match rowS ca rule with
  | none=>([],191)
  | some r =>
   if decide ((gW ca rule r A term name).2=192) || (r.left&&!hasF s.l A) || (r.right&&!hasF s.r A) then ([],192)
   else if (gW ca rule r A term name).2≠0 then ([],(gW ca rule r A term name).2)
   else if decide (r.asks=2)&&qh s name then ([],193)
   else ((gW ca rule r A term name).1,0)
noncomputable def jg (s:Sq):List Sq->List Tr->Bool
 | m::l,t::A=>kV t.sq (s.plus m)&&jg s l A
 | _,_=>true
noncomputable def iP (ca:Nat):Tr->Nat
 | .mk rule s A term name sub =>
  if (ie ca s rule A term name).2≠0 then (ie ca s rule A term name).2
  else if sub.length≠(ie ca s rule A term name).1.length then 194
  else if jg s (ie ca s rule A term name).1 sub then 0 else 195
noncomputable def gM (ca:Nat)(t:Tr):List Nat×Nat :=
 if !j6 ca then ([],2) else if 300<t.steps then ([],5) else ic (iP ca) (t.walk [])
def cmpN (a b:Nat):Int:=if a<b then -1 else if b<a then 1 else 0
noncomputable def cmpB (a b:ByteArray):Int:=if Op.bytesLess a.data.toList b.data.toList=true then -1 else if Op.bytesLess b.data.toList a.data.toList=true then 1 else 0
def lexI (x y:Int):Int:=if x=0 then y else x
mutual
noncomputable def j8:Tm->Tm->Int
 | .mk v n us,.mk D E A=>if v=D then lexI (cmpB n E) (lexI (cmpN us.length A.length) (ig us A)) else if v=true then -1 else 1
noncomputable def ig:List Tm->List Tm->Int
 | a::l,b::m=>lexI (j8 a b) (ig l m)
 | _,_=>0
end
mutual
noncomputable def gX:Fm->Fm->Int
 | .mk o n us sub,.mk o' E D A=>lexI (cmpN o o') (lexI (cmpB n E) (lexI (lexI (cmpN us.length D.length) (ig us D)) (lexI (cmpN sub.length A.length) (jO sub A))))
noncomputable def jO:List Fm->List Fm->Int
 | a::l,b::m=>lexI (gX a b) (jO l m)
 | _,_=>0
end
structure Cp {α:Type}(f:α->α->Int)(a:α):Prop where
 eq:∀b,f a b=0↔a=b
 neg:∀b,f b a = - f a b
 tr:∀b c,f a b<0->f b c<0->f a c<0
def qi {x y:Int}:lexI x y=0↔x=0/\y=0:=by
 unfold lexI;split
 ·rename_i h;simp[h]
 ·rename_i h;simp[h]
def Me (a:Nat):Cp cmpN a:=by
 refine⟨λb=>?_,λb=>?_,λb c=>?_⟩<;>unfold cmpN<;>repeat' split
 all_goals grind
open Classical in
def qj {a b:ByteArray}:cmpB a b=if ltN a b then -1 else if ltN b a then 1 else 0:=by
 unfold cmpB;congr 1
 ·exact propext CH
 ·congr 1;exact propext CH
open Classical in
def oX (a:ByteArray):Cp cmpB a:=by
 refine⟨λb=>?_,λb=>?_,λb c=>?_⟩
 ·rw[qj];by_cases h1:ltN a b
  ·rw[b_ h1];exact⟨λh=>by omega,λh=>absurd h1 (by rw[h];exact KX b)⟩
  ·rw[a_ h1];by_cases h2:ltN b a
   ·grind
   ·rw[a_ h2];exact⟨λ_=>fL λA=>h2 (K0 h1 A),λ_=>rfl⟩
 ·rw[qj,qj];by_cases h1:ltN a b
  ·rw[b_ h1,a_ (KY h1),b_ h1];rfl
  ·grind
 ·rw[qj,qj,qj];have key:∀x y:ByteArray,(if ltN x y then (-1:Int) else if ltN y x then 1 else 0)<0↔ltN x y:=λx y=>by
   grind
  rw[key,key,key];exact KZ
section
variable {α:Type}{f:α->α->Int}{g:List α->List α->Int}(g0:g [] []=0)(g1:∀a b l m,g (a::l) (b::m)=lexI (f a b) (g l m))
include g0 g1
def xq:∀(l:List α),(∀a∈l,∀b,f a b=0↔a=b)->∀m,l.length=m.length->(g l m=0↔l=m)
 | [],_,m,A=>by
  grind
 | a::l,hc,b::m,A=>by
  rw[g1,qi,hc a (by simp),xq l (λb D=>hc b (by simp[D])) m (by simpa using A),List.cons.injEq]
end
def lenL {α:Type}(g:List α->List α->Int)(l m:List α):Int:=lexI (cmpN l.length m.length) (g l m)
def zZr {a b:Nat}:cmpN a b=0↔a=b:=(Me a).eq b
section
variable {α:Type}{f:α->α->Int}{g:List α->List α->Int}(g0:g [] []=0)(g1:∀a b l m,g (a::l) (b::m)=lexI (f a b) (g l m))
include g0 g1
def xt {l:List α}(h:∀a∈l,∀b,f a b=0↔a=b)(m:List α):lenL g l m=0↔l=m:=by
 unfold lenL;rw[qi,zZr];constructor
 ·rintro⟨h1,h2⟩;exact (xq g0 g1 l h m h1).1 h2
 ·rintro rfl;exact⟨rfl,(xq g0 g1 l h l rfl).2 rfl⟩
end
def mA:ig [] []=0:=by simp only[ig]
def mB (a b:Tm)(l m:List Tm):ig (a::l) (b::m)=lexI (j8 a b) (ig l m):=by simp only[ig]
def ng:jO [] []=0:=by simp only[jO]
def np (a b:Fm)(l m:List Fm):jO (a::l) (b::m)=lexI (gX a b) (jO l m):=by simp only[jO]
def Mf (v D:Bool)(n E:ByteArray)(us A:List Tm):j8 (.mk v n us) (.mk D E A)=if v=D then lexI (cmpB n E) (lenL ig us A) else if v=true then -1 else 1:=by simp only[j8,lenL]
def Mg (o o':Nat)(n E:ByteArray)(us D:List Tm)(sub A:List Fm):gX (.mk o n us sub) (.mk o' E D A)=lexI (cmpN o o') (lexI (cmpB n E) (lexI (lenL ig us D) (lenL jO sub A))):=by simp only[gX,lenL]
def Mh {p:Tm->Prop}(h:∀v n us,(∀a∈us,p a)->p (.mk v n us))(t:Tm):p t:=by
 have key:∀(k:Nat) (t:Tm),SizeOf.sizeOf t<k->p t:=λk=>by
  induction k with
  | zero=>intro t D;omega
  | succ k A =>
   rintro⟨v,n,us⟩ D;refine h v n us λa E=>A a ?_;have:=lSm E;grind
 exact key _ t (dM _)
def Mi {p:Fm->Prop}(h:∀o n us sub,(∀a∈sub,p a)->p (.mk o n us sub))(t:Fm):p t:=by
 have key:∀(k:Nat) (t:Fm),SizeOf.sizeOf t<k->p t:=λk=>by
  induction k with
  | zero=>intro t D;omega
  | succ k A =>
   rintro⟨o,n,us,sub⟩ D;refine h o n us sub λa E=>A a ?_;have:=lSm E;grind
 exact key _ t (dM _)
def Mj (a b:Tm):j8 a b=0↔a=b:=by
 revert b;refine Mh (p:=λa=>∀b,j8 a b=0↔a=b) (λv n us O b=>?_) a;obtain⟨D,U,E⟩:=b;rw[Mf,Tm.mk.injEq];by_cases A:v=D
 ·rw[b_ A,qi,(oX n).eq,xt mA mB O];simp[A]
 ·grind
def Dn (a b:Fm):gX a b=0↔a=b:=by
 revert b;refine Mi (p:=λa=>∀b,gX a b=0↔a=b) (λo n us sub E b=>?_) a;obtain⟨o',O,D,A⟩:=b;rw[Mg,Fm.mk.injEq,qi,qi,qi,zZr,(oX n).eq,xt mA mB (λa _=>Mj a),xt ng np E]
structure Mk where
 is:Bool
 w:Int
 f:Fm
inductive Nd where
 | mk (m:Mk) (c:Bool) (w:Int) (sub:List Nd)
def IsMk (m:Mk)(x:IV):Prop:=∃(o:Int) (n:ByteArray) (t:Tag) (A:List IV) (D:Tag) (ys:List IV),x=.agg [m.is,m.w,.raw (.int .u8 o),n,.sl t A,.sl D ys]/\IsFm m.f (.agg [.raw (.int .u8 o),n,.sl t A,.sl D ys])
def IsMks:List Mk->List IV->Prop
 | [],A=>A=[]
 | a::D,A=>∃y ys,A=y::ys/\IsMk a y/\IsMks D ys
def IsMks.len:∀ {D:List Mk}{A:List IV},IsMks D A->A.length=D.length
 | [],A,h=>by simp only[IsMks] at h;subst h;rfl
 | a::D,A,h=>by
  simp only[IsMks] at h;obtain⟨y,ys,rfl,_,h⟩:=h;simp[IsMks.len h]
def IsMks.get:∀ {E:List Mk}{D:List IV}{k:Nat}{a:Mk},IsMks E D->E[k]?=some a->∃x,D[k]?=some x/\IsMk a x
 | [],D,k,a,h,A=>by simp at A
 | b::E,D,k,a,h,A=>by
  simp only[IsMks] at h;obtain⟨y,ys,rfl,O,h⟩:=h;cases k with
  | zero=>simp at A;subst A;exact⟨y,rfl,O⟩
  | succ k=>simpa using IsMks.get h (by simpa using A)
def IsMks.append:∀ {E D:List Mk}{A ys:List IV},IsMks E A->IsMks D ys->IsMks (E++D) (A++ys)
 | [],D,A,ys,h,k=>by simp only[IsMks] at h;subst h;exact k
 | a::E,D,A,ys,h,k=>by
  simp only[IsMks] at h;obtain⟨y,zs,rfl,O,h⟩:=h;exact⟨y,zs++ys,rfl,O,IsMks.append h k⟩
def IsMks.one {a:Mk}{x:IV}(h:IsMk a x):IsMks [a] [x]:=⟨x,[],rfl,h,rfl⟩
def IsMkss:List (List Mk)->List IV->Prop
 | [],A=>A=[]
 | a::D,A=>∃t zs ys,A=.sl t zs::ys/\okEs t 6/\IsMks a zs/\IsMkss D ys
def IsMkss.len:∀ {D:List (List Mk)}{A:List IV},IsMkss D A->A.length=D.length
 | [],A,h=>by simp only[IsMkss] at h;subst h;rfl
 | a::D,A,h=>by
  simp only[IsMkss] at h;obtain⟨t,zs,ys,rfl,_,_,h⟩:=h;simp[IsMkss.len h]
def IsMkss.get:∀ {E:List (List Mk)}{D:List IV}{k:Nat}{a:List Mk},IsMkss E D->E[k]?=some a->∃t zs,D[k]?=some (.sl t zs)/\okEs t 6/\IsMks a zs
 | [],D,k,a,h,A=>by simp at A
 | b::E,D,k,a,h,A=>by
  simp only[IsMkss] at h;obtain⟨t,zs,ys,rfl,U,O,h⟩:=h;cases k with
  | zero=>simp at A;subst A;exact⟨t,zs,rfl,U,O⟩
  | succ k=>simpa using IsMkss.get h (by simpa using A)
def IsMkss.append:∀ {E D:List (List Mk)}{A ys:List IV},IsMkss E A->IsMkss D ys->IsMkss (E++D) (A++ys)
 | [],D,A,ys,h,k=>by simp only[IsMkss] at h;subst h;exact k
 | a::E,D,A,ys,h,k=>by
  simp only[IsMkss] at h;obtain⟨t,zs,O,rfl,W,U,h⟩:=h;exact⟨t,zs,O++ys,rfl,W,U,IsMkss.append h k⟩
def IsMkss.one {a:List Mk}{t:Tag}{zs:List IV}(A:okEs t 6)(h:IsMks a zs):IsMkss [a] [.sl t zs]:=⟨t,zs,[],rfl,A,h,rfl⟩
mutual
def IsNd:Nd->IV->Prop
 | .mk m c w sub,x=>∃o n t A E ys D zs,x=.agg [m.is,m.w,.raw (.int .u8 o),.raw (.string n),.sl t A,.sl E ys,c,w,.sl D zs] /\
  IsFm m.f (.agg [.raw (.int .u8 o),.raw (.string n),.sl t A,.sl E ys])/\okEs D 9/\IsNds sub zs
def IsNds:List Nd->List IV->Prop
 | [],A=>A=[]
 | a::D,A=>∃y ys,A=y::ys/\IsNd a y/\IsNds D ys
end
def IsNd.mk {m:Mk}{c:Bool}{w:Int}{sub:List Nd}{x:IV}(h:IsNd (.mk m c w sub) x):∃(o:Int) (n:ByteArray) (t:Tag) (A:List IV) (E:Tag) (ys:List IV) (D:Tag) (zs:List IV),x=.agg [m.is,m.w,.raw (.int .u8 o),n,.sl t A,.sl E ys,c,w,.sl D zs] /\
  IsFm m.f (.agg [.raw (.int .u8 o),n,.sl t A,.sl E ys])/\okEs D 9/\IsNds sub zs:=by
 simpa only[IsNd] using h
def IsNds.len:∀ {D:List Nd}{A:List IV},IsNds D A->A.length=D.length
 | [],A,h=>by simp only[IsNds] at h;subst h;rfl
 | a::D,A,h=>by
  simp only[IsNds] at h;obtain⟨y,ys,rfl,_,h⟩:=h;simp[IsNds.len h]
def IsNds.get:∀ {E:List Nd}{D:List IV}{k:Nat}{a:Nd},IsNds E D->E[k]?=some a->∃x,D[k]?=some x/\IsNd a x
 | [],D,k,a,h,A=>by simp at A
 | b::E,D,k,a,h,A=>by
  simp only[IsNds] at h;obtain⟨y,ys,rfl,O,h⟩:=h;cases k with
  | zero=>simp at A;subst A;exact⟨y,rfl,O⟩
  | succ k=>simpa using IsNds.get h (by simpa using A)
def IsNds.append:∀ {E D:List Nd}{A ys:List IV},IsNds E A->IsNds D ys->IsNds (E++D) (A++ys)
 | [],D,A,ys,h,k=>by simp only[IsNds] at h;subst h;exact k
 | a::E,D,A,ys,h,k=>by
  simp only[IsNds] at h;obtain⟨y,zs,rfl,O,h⟩:=h;exact⟨y,zs++ys,rfl,O,IsNds.append h k⟩
def rowT (b:Bool)(o:Int):Option (Nat×Nat) :=
 if o=3 then some (1,1) else if o=4 then some (if b then 1 else 2,2) else if o=5 then some (if b then 2 else 1,2) else if o=6 then some (if b then 2 else 1,2) else if o=7 then some (if b then 1 else 2,2)
 else if o=10 then some (if b then 3 else 4,1) else if o=11 then some (if b then 4 else 3,1) else none
def askT (b:Bool)(o:Int)(x y:Fm):List (List (Bool×Fm)) :=
 if o=3 then [[(!b,x)]]
 else if o=4 then (if b then [[(true,x),(true,y)]] else [[(false,x)],[(false,y)]])
 else if o=5 then (if b then [[(true,x)],[(true,y)]] else [[(false,x),(false,y)]])
 else if o=6 then (if b then [[(false,x)],[(true,y)]] else [[(true,x),(false,y)]])
 else if o=7 then (if b then [[(true,impF x y),(true,impF y x)]] else [[(true,x),(false,y)],[(true,y),(false,x)]])
 else [[(b,x)]]
def eJ (m:Mk):Nat×Nat :=
 match rowT m.is m.f.op with
 | some r=>if m.f.subs.length=r.2 then r else (0,0)
 | none=>(0,0)
def dY (m:Mk)(w:Int):List (List Mk) :=
 if (eJ m).1=0 then []
 else (askT m.is m.f.op ((m.f.subs[0]?).getD fm0) (if (eJ m).2=2 then (m.f.subs[1]?).getD fm0 else fm0)).map λl=>l.map λh=>⟨h.1,if (eJ m).1=1\/(eJ m).1=2 then m.w else w,h.2⟩
noncomputable def mkB (a b:Mk):Bool:=a.is == b.is&&decide (a.w=b.w)&&decide (gX a.f b.f=0)
noncomputable def hasT (l:List Mk)(m:Mk):Bool:=l.any λn=>mkB n m
noncomputable def addT (l:List Mk)(m:Mk):List Mk:=if hasT l m then l else l++[m]
noncomputable def d_ (l q:List Mk):List Mk:=q.foldl addT l
def iJ (s:Sq):List Mk:=s.l.map (⟨true,0,·⟩)++s.r.map (⟨false,0,·⟩)
noncomputable def eW (s:Sq):List Mk:=d_ [] (iJ s)
noncomputable def lr (l:List Mk)(m:Mk):Bool:=(m.is&&decide (m.f.op=2)) || hasT l ⟨!m.is,m.w,m.f⟩
noncomputable def j9 (l:List Mk)(m:Mk)(c:Bool)(w:Int)(k:Nat):Nat :=
 if !hasT l m || (c&&!lr l m) || (!c&&decide ((eJ m).1=0)) then 201
 else if w≠0 then 202
 else if k≠(if c then 0 else (dY m w).length) then 203 else 0
mutual
noncomputable def fx (l:List Mk)(p:List Nat):Nd->List Nat×Nat
 | .mk m c w sub=>if j9 l m c w sub.length≠0 then (p,j9 l m c w sub.length) else if c then ([],0) else gN l p 0 (dY m w) sub
noncomputable def gN (l:List Mk)(p:List Nat):Nat->List (List Mk)->List Nd->List Nat×Nat
 | i,q::qs,n::ns=>if (fx (d_ l q) (p++[i]) n).2≠0 then fx (d_ l q) (p++[i]) n else gN l p (i+1) qs ns
 | _,_,_=>([],0)
end
mutual
def Nd.nodes:Nd->Nat
 | .mk _ _ _ sub=>1+eT sub
def eT:List Nd->Nat
 | []=>0
 | a::l=>a.nodes+eT l
end
def iK (s:Sq):Bool:=decide (s.l.length<=16)&&decide (s.r.length<=16)&&(s.l++s.r).all (fmB 1)
noncomputable def jC (s:Sq)(n:Nd):List Nat×Nat:=if !iK s then ([],200) else if 300<n.nodes then ([],5) else fx (eW s) [] n
end Go.Proofs.Tryz
namespace Go.Proofs.Tryz
open Go Go.Iv
set_option maxRecDepth 4000
variable (gl:Nat->Option IV)
def Dp (v w:Bool)(n m:ByteArray)(us D:List Tm)(x y:IV)(hx:IsTm (.mk v n us) x)(hy:IsTm (.mk w m D) y)
  (IH:∀(t t':Tag) (xs ys:List IV),okEs t 3->okEs t' 3->IsTms us xs->IsTms D ys->∀st,ICall prog gl 86 [.sl t xs,.sl t' ys] st (λx st'=>x=(eqB us D:Bool)/\st'=st)) (st:ISt) :
  ICall prog gl 47 [x,y] st (λr st'=>r=(eqB (Tm.mk v n us) (.mk w m D):Bool)/\st'=st):=by
 obtain⟨tx,cx,rfl,U,aa⟩:=hx.mk;obtain⟨ty,cy,rfl,O,W⟩:=hy.mk;refine iI func47 ?_;by_cases E:v=w
 ·subst E;by_cases A:n=m
  ·subst A;simp only[go_sem,zE,zA,dR];refine (IH tx ty cx cy U O aa W _).q ?_;simp only[go_sem,zE];refine cO ⟨?_,rfl⟩;by_cases hc:us=D
   ·subst hc;rw[yZ5.2 rfl,yZ5.2 rfl]
   ·rw[yQt.2 hc,yQt.2 (by rintro⟨⟩;exact hc rfl)]
  ·simp only[go_sem,zE,zA,dEf A];exact cO ⟨by rw[yQt.2 (by rintro⟨⟩;exact A rfl)],rfl⟩
 ·simp only[go_sem,zE,zA,beq_eq_false_iff_ne.2 E];exact cO ⟨by rw[yQt.2 (by rintro⟨⟩;exact E rfl)],rfl⟩
def xv (t t':Tag)(us U:List Tm)(xs ys:List IV)(ht:okEs t 3)(am:okEs t' 3)(ha:IsTms us xs)(hb:IsTms U ys)(st:ISt) :
  ICall prog gl 86 [.sl t xs,.sl t' ys] st (λx st'=>x=(eqB us U:Bool)/\st'=st):=by
 refine iI func86 ?_;simp only[go_sem,zE,reduceCtorEq,ha.len,hb.len];intro aE aD;refine j4 (λh=>?_) (λh=>?_)
 ·have W:us≠U:=by rintro rfl;simp at h
  simp only[go_sem];exact cO ⟨by rw[yQt.2 W],rfl⟩
 have O:us.length=U.length:=by simp at h;omega
 refine cV us.length (λk fr st' ds=>us.take k=U.take k/\fr 0=.iv (.sl t xs)/\fr 1=.iv (.sl t' ys)/\fr 5=.iv (.raw (.int .i64 k))/\st'=st/\ds=[]) ?_ ?_ ?_
 ·simp only[go_sem,zE,reduceCtorEq];rfl
 ·rintro k fr st' ds A ⟨hn,h0,h1,h5,rfl,rfl⟩;obtain⟨a,E⟩:=dd A;obtain⟨b,D⟩:=dd (O▸A);obtain⟨x,ao,hx⟩:=ha.get E;obtain⟨y,an,hy⟩:=hb.get D;obtain⟨v,n,cs⟩:=a;obtain⟨w,m,ds⟩:=b;have ak:=hx;have aj:=hy;obtain⟨tx,cx,rfl,aB,aH⟩:=hx.mk;obtain⟨ty,cy,rfl,aA,aG⟩:=hy.mk;have aa:=Dp gl v w n m cs ds _ _ ak aj (λt1 t2 x1 y1 q1 q2 q3 q4 ai=>xv t1 t2 cs ds x1 y1 q1 q2 q3 q4 ai) st';simp only[go_sem,zE,zB,zA,reduceCtorEq,h0,h1,h5,ha.len,lt_i A,dc ht,dc am,iNn,ao,an,fits];intro _;refine aa.mono ?_;rintro _ _ ⟨rfl,rfl⟩;by_cases hc:Tm.mk v n cs=.mk w m ds
  ·simp only[go_sem,zE,reduceCtorEq,h0,h1,h5,df A (by omega),yZ5.2 hc];rw[dK E,dK D,hn,hc]
  ·have W:us≠U:=by
    rintro rfl;rw[E] at D;exact hc (eK D)
   simp only[go_sem,yQt.2 hc];exact cO ⟨by rw[yQt.2 W],rfl⟩
 ·rintro fr st' ds ⟨hn,h0,h1,h5,rfl,rfl⟩;simp only[go_sem,zE,reduceCtorEq,h0,h5,ha.len,dD (nLi _)];intro _;have he:us=U:=by rw[lTl] at hn;rw[hn,O,lTl]
  exact cO ⟨by rw[yZ5.2 he],rfl⟩
termination_by SizeOf.sizeOf us
decreasing_by exact Lw (lMg E)
def xA (a b:Tm)(x y:IV)(hx:IsTm a x)(O:IsTm b y)(st:ISt):ICall prog gl 47 [x,y] st (λr st'=>r=(eqB a b:Bool)/\st'=st):=by
 obtain⟨v,n,us⟩:=a;obtain⟨w,m,A⟩:=b;exact Dp gl v w n m us A x y hx O (λt E D ys h1 h2 W U st=>xv gl t E us A D ys h1 h2 W U st) st
def kSF (f:Fm):Prop:=∀(g:Fm) (x y:IV) (_:IsFm f x) (_:IsFm g y) (st:ISt),ICall prog gl 46 [x,y] st (λr st'=>r=(eqB f g:Bool)/\st'=st)
def Dq (us U:List Fm)(IH:∀a∈us,kSF gl a)(t t':Tag)(xs ys:List IV)(ht:okEs t 4)(aj:okEs t' 4)(ha:IsFms us xs)(hb:IsFms U ys)(st:ISt) :
  ICall prog gl 85 [.sl t xs,.sl t' ys] st (λx st'=>x=(eqB us U:Bool)/\st'=st):=by
 refine iI func85 ?_;simp only[go_sem,zE,reduceCtorEq,ha.len,hb.len];intro au ar;refine j4 (λh=>?_) (λh=>?_)
 ·have W:us≠U:=by rintro rfl;simp at h
  simp only[go_sem];exact cO ⟨by rw[yQt.2 W],rfl⟩
 have O:us.length=U.length:=by simp at h;omega
 refine cV us.length (λk fr st' ds=>us.take k=U.take k/\fr 0=.iv (.sl t xs)/\fr 1=.iv (.sl t' ys)/\fr 5=.iv (.raw (.int .i64 k))/\st'=st/\ds=[]) ?_ ?_ ?_
 ·simp only[go_sem,zE,reduceCtorEq];rfl
 ·rintro k fr st' ds A ⟨hn,h0,h1,h5,rfl,rfl⟩;obtain⟨a,E⟩:=dd A;obtain⟨b,D⟩:=dd (O▸A);obtain⟨x,am,hx⟩:=ha.get E;obtain⟨y,ak,hy⟩:=hb.get D;have aa:=IH a (lMg E) b x y hx hy st';obtain⟨o,n,cs,sub⟩:=a;obtain⟨o',m,ds,ab⟩:=b;obtain⟨tx,cx,sx,dx,rfl,_⟩:=hx.mk;obtain⟨ty,cy,sy,dy,rfl,_⟩:=hy.mk;simp only[go_sem,zE,zB,zA,reduceCtorEq,h0,h1,h5,ha.len,lt_i A,dc ht,dc aj,iNn,am,ak,fits];intro _;refine aa.mono ?_;rintro _ _ ⟨rfl,rfl⟩;by_cases hc:Fm.mk o n cs sub=.mk o' m ds ab
  ·simp only[go_sem,zE,reduceCtorEq,h0,h1,h5,df A (by omega),yZ5.2 hc];rw[dK E,dK D,hn,hc]
  ·have W:us≠U:=by
    rintro rfl;rw[E] at D;exact hc (eK D)
   simp only[go_sem,yQt.2 hc];exact cO ⟨by rw[yQt.2 W],rfl⟩
 ·rintro fr st' ds ⟨hn,h0,h1,h5,rfl,rfl⟩;simp only[go_sem,zE,reduceCtorEq,h0,h5,ha.len,dD (nLi _)];intro _;have he:us=U:=by rw[lTl] at hn;rw[hn,O,lTl]
  exact cO ⟨by rw[yZ5.2 he],rfl⟩
def Ml (o:Nat)(n:ByteArray)(us:List Tm)(sub:List Fm)(IH:∀a∈sub,kSF gl a):kSF gl (.mk o n us sub):=by
 intro g x y hx hy st;obtain⟨o',m,ws,A⟩:=g;obtain⟨tx,cx,sx,dx,rfl,ho,W,ag,ab,ae⟩:=hx.mk;obtain⟨ty,cy,sy,dy,rfl,aq,U,af,aa,ac⟩:=hy.mk;have E:=Dq gl sub A IH sx sy dx dy ab aa ae ac;refine iI func46 ?_;by_cases hv:o=o'
 ·subst hv;by_cases D:n=m
  ·subst D;simp only[go_sem,zE,zA,dR];refine (xv gl tx ty us ws cx cy W U ag af _).q ?_;by_cases hc:us=ws
   ·subst hc;simp only[go_sem,zE,zA,yZ5.2 rfl];refine (E _).q ?_;simp only[go_sem,zE];refine cO ⟨?_,rfl⟩;by_cases hd:sub=A
    ·subst hd;rw[yZ5.2 rfl,yZ5.2 rfl]
    ·rw[yQt.2 hd,yQt.2 (by rintro⟨⟩;exact hd rfl)]
   ·simp only[go_sem,zE,yQt.2 hc];exact cO ⟨by rw[yQt.2 (by rintro⟨⟩;exact hc rfl)],rfl⟩
  ·simp only[go_sem,zE,zA,dEf D,dR];exact cO ⟨by rw[yQt.2 (by rintro⟨⟩;exact D rfl)],rfl⟩
 ·have O:decide ((o:Int)=(o':Int))=false:=dEf (by omega);simp only[go_sem,zE,zA,O];exact cO ⟨by rw[yQt.2 (by rintro⟨⟩;exact hv rfl)],rfl⟩
def Dr:∀(k:Nat)(f:Fm),SizeOf.sizeOf f<k->kSF gl f
 | 0,f,h=>by omega
 | k+1,.mk o n us sub,h=>Ml gl o n us sub (λa A=>Dr k a (by
   have:=lSm A;simp only[Fm.mk.sizeOf_spec] at h;omega))
def rN (f:Fm):kSF gl f:=Dr gl _ f (dM _)
def Ds (us D:List Fm)(t E:Tag)(A ys:List IV)(U:okEs t 4)(O:okEs E 4)(ha:IsFms us A)(W:IsFms D ys)(st:ISt) :
  ICall prog gl 85 [.sl t A,.sl E ys] st (λx st'=>x=(eqB us D:Bool)/\st'=st):=Dq gl us D (λa _=>rN gl a) t E A ys U O ha W st
def Dt (a b:Sq)(x y:IV)(hx:IsSq a x)(W:IsSq b y)(st:ISt):ICall prog gl 45 [x,y] st (λr st'=>r=(eqB a b:Bool)/\st'=st):=by
 obtain⟨l,r⟩:=a;obtain⟨A,r'⟩:=b;obtain⟨t1,U,t2,O,rfl,h1,h2,h3,h4⟩:=hx;obtain⟨t3,E,t4,D,rfl,h5,h6,h7,h8⟩:=W;refine iI func45 ?_;simp only[go_sem,zE,zA];refine (Ds gl l A t1 t3 U E h1 h5 h2 h6 _).q ?_;by_cases hc:l=A
 ·subst hc;simp only[go_sem,zE,zA,yZ5.2 rfl];refine (Ds gl r r' t2 t4 O D h3 h7 h4 h8 _).q ?_;simp only[go_sem,zE];refine cO ⟨?_,rfl⟩;by_cases hd:r=r'
  ·subst hd;rw[yZ5.2 rfl,yZ5.2 rfl]
  ·rw[yQt.2 hd,yQt.2 (by rintro⟨⟩;exact hd rfl)]
 ·simp only[go_sem,zE,yQt.2 hc];exact cO ⟨by rw[yQt.2 (by rintro⟨⟩;exact hc rfl)],rfl⟩
def kCT (us:List Tm):Prop:=∀(E:Tag) (D:List IV) (_:okEs E 3) (_:IsTms us D) (_:dN us<=1099511627776) (st:ISt),
 ICall prog gl 88 [.sl E D] st (λr st'=>∃A ys,r=.sl A ys/\okEs A 3/\appT us.length A/\IsTmsD us ys/\st'=st)
def Du (v:Bool)(n:ByteArray)(us:List Tm)(IH:kCT gl us)(x:IV)(hx:IsTm (.mk v n us) x)(W:(Tm.mk v n us).size<=1099511627776)(st:ISt) :
  ICall prog gl 50 [x] st (λr st'=>IsTmD (.mk v n us) r/\st'=st):=by
 obtain⟨O,cx,rfl,D,E⟩:=hx.mk;simp only[Tm.size] at W;have A:=IH O cx D E (by omega) st;refine iI func50 ?_;simp only[go_sem,zE,zA];refine A.mono ?_;rintro _ _ ⟨U,ys,rfl,he,ha,hys,rfl⟩;simp only[go_sem,zE,zA,zL];exact cO ⟨IsTmD.intro he ha hys,rfl⟩
def Mm (us:List Tm)(IH:∀v n l,Tm.mk v n l∈us->kCT gl l):kCT gl us:=by
 intro tg xs aj O au st;have an:=mv us;refine iI func88 ?_;simp only[go_sem];refine cV us.length (λk fr st' ds=>(∃A ys,fr 3=.iv (.sl A ys)/\IsTmsD (us.take k) ys/\appT k A/\own st' A k 3 st/\subSt st st')/\fr 0=.iv (.sl tg xs)/\fr 4=.iv (.raw (.int .i64 k))/\ds=[]) ?_ ?_ ?_
 ·simp only[go_sem,zE,reduceCtorEq];exact⟨⟨_,_,rfl,IsTmsD.nil,.inl rfl,own.nil _ _ _ _ _,subSt.refl _⟩,rfl⟩
 ·rintro k fr ae _ aa ⟨⟨A,ys,f3,hys,ag,E,D⟩,f0,f4,rfl⟩;obtain⟨a,ha⟩:=dd aa;obtain⟨x,ak,hx⟩:=O.get ha;obtain⟨h1,h2⟩:=mr ha;have ab:ys.length=k:=by rw[hys.len,dO];omega
  obtain⟨v2,n2,m⟩:=a;have ac:=Du gl v2 n2 m (IH _ _ _ (lMg ha)) x hx (by omega) ae;obtain⟨tx,cx,rfl,ar,aw⟩:=hx.mk;simp only[go_sem,zE,zB,zA,reduceCtorEq,f0,f4,O.len,lt_i aa,dc aj,iNn,ak,fits];intro _;refine ac.mono ?_;rintro r _ ⟨hr,rfl⟩;have hn:IsTmsD (us.take (k+1)) (ys++[r]):=by
   rw[dK ha];exact hys.append (IsTmsD.one hr)
  obtain⟨t3,x3,rfl,_⟩:=hr.mk;simp only[go_sem,zE,zA,zM,zL,f3,fits,dP];refine iG E ab D rfl (by simp[fits,IV.one]) (by simp only;omega) (by omega) λai st4 W U _ af=>?_;simp only[go_sem,zE,reduceCtorEq,f0,f4,df aa (by omega)];exact⟨ai,_,rfl,hn,af,W,U⟩
 ·rintro fr ae _ ⟨⟨A,ys,f3,hys,ag,E,D⟩,f0,f4,rfl⟩;rw[lTl] at hys;simp only[go_sem,zE,reduceCtorEq,f0,f3,f4,O.len,dD (nLi _)];intro _;exact dZ (st':=st) D ⟨A,ys,rfl,E.es,ag,hys,rfl⟩
def Dv:∀(k:Nat)(us:List Tm),SizeOf.sizeOf us<k->kCT gl us
 | 0,f,h=>by omega
 | k+1,us,h=>Mm gl us (λv n l A=>Dv k l (by
   have:=lSm A;simp at this;omega))
def Dw (us:List Tm):kCT gl us:=Dv gl _ us (dM _)
def Mn (a:Tm)(x:IV)(hx:IsTm a x)(A:a.size<=1099511627776)(st:ISt):ICall prog gl 50 [x] st (λr st'=>IsTmD a r/\st'=st):=by
 obtain⟨v,n,us⟩:=a;exact Du gl v n us (Dw gl us) x hx A st
def kCF (f:Fm):Prop:=∀(x:IV) (_:IsFm f x) (_:f.size<=1099511627776) (st:ISt),ICall prog gl 49 [x] st (λr st'=>IsFmD f r/\st'=st)
def jD {f:Fm}{r:IV}(h:IsFmD f r):∃o n t x A D,r=.agg [.raw (.int .u8 o),.raw (.string n),.sl t x,.sl A D]:=by
 obtain⟨o,n,us,sub⟩:=f;obtain⟨t,E,A,ys,rfl,_⟩:=h.mk;exact⟨_,_,_,_,_,_,rfl⟩
def Dx (us:List Fm)(IH:∀a∈us,kCF gl a)(tg:Tag)(xs:List IV)(am:okEs tg 4)(O:IsFms us xs)(ar:dt us<=1099511627776)(st:ISt) :
  ICall prog gl 87 [.sl tg xs] st (λr st'=>∃A ys,r=.sl A ys/\okEs A 4/\appT us.length A/\IsFmsD us ys/\st'=st):=by
 have aq:=h_ us;refine iI func87 ?_;simp only[go_sem];refine cV us.length (λk fr st' ds=>(∃A ys,fr 3=.iv (.sl A ys)/\IsFmsD (us.take k) ys/\appT k A/\own st' A k 4 st/\subSt st st')/\fr 0=.iv (.sl tg xs)/\fr 4=.iv (.raw (.int .i64 k))/\ds=[]) ?_ ?_ ?_
 ·simp only[go_sem,zE,reduceCtorEq];exact⟨⟨_,_,rfl,IsFmsD.nil,.inl rfl,own.nil _ _ _ _ _,subSt.refl _⟩,rfl⟩
 ·rintro k fr ae _ aa ⟨⟨A,ys,f3,hys,ag,E,D⟩,f0,f4,rfl⟩;obtain⟨a,ha⟩:=dd aa;obtain⟨x,an,hx⟩:=O.get ha;obtain⟨h1,h2⟩:=jK ha;have ab:ys.length=k:=by rw[hys.len,dO];omega
  have ac:=IH a (lMg ha) x hx (by omega) ae;obtain⟨o5,n5,t5,x5,t6,x6,rfl⟩:=hx.agg;simp only[go_sem,zE,zB,zA,reduceCtorEq,f0,f4,O.len,lt_i aa,dc am,iNn,an,fits];intro _;refine ac.mono ?_;rintro r _ ⟨hr,rfl⟩;have hn:IsFmsD (us.take (k+1)) (ys++[r]):=by
   rw[dK ha];exact hys.append (IsFmsD.one hr)
  obtain⟨o7,n7,t7,x7,t8,x8,rfl⟩:=jD hr;simp only[go_sem,zE,zA,zM,zL,f3,fits,dP];refine iG E ab D rfl (by simp[fits,IV.one]) (by simp only;omega) (by omega) λaj st4 W U _ af=>?_;simp only[go_sem,zE,reduceCtorEq,f0,f4,df aa (by omega)];exact⟨aj,_,rfl,hn,af,W,U⟩
 ·rintro fr ae _ ⟨⟨A,ys,f3,hys,ag,E,D⟩,f0,f4,rfl⟩;rw[lTl] at hys;simp only[go_sem,zE,reduceCtorEq,f0,f3,f4,O.len,dD (nLi _)];intro _;exact dZ (st':=st) D ⟨A,ys,rfl,E.es,ag,hys,rfl⟩
def Mo (o:Nat)(n:ByteArray)(us:List Tm)(sub:List Fm)(IH:∀a∈sub,kCF gl a):kCF gl (.mk o n us sub):=by
 intro x hx hs st;obtain⟨t1,x1,t2,x2,rfl,ho,U,E,O,D⟩:=hx.mk;simp only[Fm.size] at hs;have ab:=Dw gl us t1 x1 U E (by omega) st;have aa:=Dx gl sub IH t2 x2 O D (by omega) st;refine iI func49 ?_;simp only[go_sem,zE,zA];refine ab.mono ?_;rintro _ _ ⟨ai,ys,rfl,he,ha,hys,rfl⟩;simp only[go_sem,zE,zA,zL];refine aa.mono ?_;rintro _ _ ⟨ah,ae,rfl,W,ac,A,rfl⟩;simp only[go_sem,zE,zA,zL];exact cO ⟨IsFmD.intro ho he ha hys W ac A,rfl⟩
def Dy:∀(k:Nat)(f:Fm),SizeOf.sizeOf f<k->kCF gl f
 | 0,f,h=>by omega
 | k+1,.mk o n us sub,h=>Mo gl o n us sub (λa A=>Dy k a (by
   have:=lSm A;simp only[Fm.mk.sizeOf_spec] at h;omega))
def xB (f:Fm):kCF gl f:=Dy gl _ f (dM _)
def Dz (us:List Fm)(E:Tag)(D:List IV)(U:okEs E 4)(O:IsFms us D)(W:dt us<=1099511627776)(st:ISt) :
  ICall prog gl 87 [.sl E D] st (λr st'=>∃A ys,r=.sl A ys/\okEs A 4/\appT us.length A/\IsFmsD us ys/\st'=st):=Dx gl us (λa _=>xB gl a) E D U O W st
def Mp (s:Sq)(x:IV)(hx:IsSq s x)(h1:dt s.l<=1099511627776)(h2:dt s.r<=1099511627776)(st:ISt):ICall prog gl 48 [x] st (λr st' =>
  (∃t1 E t2 D,r=.agg [.sl t1 E,.sl t2 D]/\okEs t1 4/\appT s.l.length t1/\IsFmsD s.l E/\okEs t2 4/\appT s.r.length t2/\IsFmsD s.r D)/\st'=st):=by
 obtain⟨t1,E,t2,D,rfl,e1,i1,e2,i2⟩:=hx;have W:=Dz gl s.l t1 E e1 i1 h1 st;have U:=Dz gl s.r t2 D e2 i2 h2 st;refine iI func48 ?_;simp only[go_sem,zE,zA];refine W.mono ?_;rintro _ _ ⟨ae,ys,rfl,he,ha,hys,rfl⟩;simp only[go_sem,zE,zA,zL];refine U.mono ?_;rintro _ _ ⟨ac,ab,rfl,O,aa,A,rfl⟩;simp only[go_sem,zE,zA,zL];exact cO ⟨⟨_,_,_,_,rfl,he,ha,hys,O,aa,A⟩,rfl⟩
def sCT (us:List Tm):Prop:=∀(E:Tag) (D:List IV) (_:okEs E 3) (_:IsTms us D) (_:dN us<=1099511627776) (st:ISt),
 ICall prog gl 117 [.sl E D,.fn (.func 118) [] []] st (λr st'=>∃A ys,r=.sl A ys/\okEs A 3/\appT us.length A/\IsTmsD us ys/\st'=st)
def Mq (v:Bool)(n:ByteArray)(us:List Tm)(IH:sCT gl us)(x:IV)(hx:IsTm (.mk v n us) x)(W:(Tm.mk v n us).size<=1099511627776)(st:ISt) :
  ICall prog gl 118 [x] st (λr st'=>IsTmD (.mk v n us) r/\st'=st):=by
 obtain⟨O,cx,rfl,D,E⟩:=hx.mk;simp only[Tm.size] at W;have A:=IH O cx D E (by omega) st;refine iI func118 ?_;simp only[go_sem,zE,zA];refine A.mono ?_;rintro _ _ ⟨U,ys,rfl,he,ha,hys,rfl⟩;simp only[go_sem,zE,zA,zL,fits];exact cO ⟨IsTmD.intro he ha hys,rfl⟩
def Mr (us:List Tm)(IH:∀v n l,Tm.mk v n l∈us->sCT gl l):sCT gl us:=by
 intro tg xs ak U aw st;have ao:=mv us;refine iI func117 ?_;simp only[go_sem,reduceCtorEq,U.len];intro _;refine j4 (λh=>?_) (λh=>?_)
 ·obtain rfl:us=[]:=eN (by simpa using h);simp only[go_sem];exact cO ⟨_,_,rfl,.inl rfl,.inl rfl,IsTmsD.nil,rfl⟩
 have O:0<us.length:=Nat.pos_of_ne_zero λh0=>by simp[h0] at h
 simp only[go_sem,reduceCtorEq,U.len];intro _;refine gv ⟨iNn _,by omega,by omega⟩ λg=>eB λhg=>?_;intro _;refine cV us.length (λk fr st' ds=>(∃A ys,fr 5=.iv (.sl A ys)/\IsTmsD (us.take k) ys/\appT us.length A/\own st' A k 3 st/\subSt st st')/\fr 1=.iv (.fn (.func 118) [] []) /\
  fr 14=.iv (.sl tg xs)/\fr 15=us.length/\fr 16=.iv (.raw (.int .i64 k))/\ds=[]) ?_ ?_ ?_
 ·simp only[go_sem,zE];exact⟨⟨_,_,rfl,IsTmsD.nil,.inr ⟨O,rfl,g,rfl⟩,.inr (.inr ⟨g,rfl,cT _ _ _,hg⟩),gU (subSt.refl _) hg⟩,rfl⟩
 ·rintro k fr af _ ab ⟨⟨A,ys,f5,hys,ah,E,D⟩,f1,f14,f15,f16,rfl⟩;obtain⟨a,ha⟩:=dd ab;obtain⟨x,am,hx⟩:=U.get ha;obtain⟨h1,h2⟩:=mr ha;have ac:ys.length=k:=by rw[hys.len,dO];omega
  obtain⟨v2,n2,m⟩:=a;have ae:=Mq gl v2 n2 m (IH _ _ _ (lMg ha)) x hx (by omega) af;obtain⟨tx,cx,rfl,av,ay⟩:=hx.mk;simp only[go_sem,zE,zB,zA,zL,f1,f5,f14,f15,f16,lt_i ab,dc ak,iNn,am,fits];refine ae.mono ?_;rintro r _ ⟨hr,rfl⟩;have hn:IsTmsD (us.take (k+1)) (ys++[r]):=by
   rw[dK ha];exact hys.append (IsTmsD.one hr)
  obtain⟨t3,x3,rfl,_⟩:=IsTmD.mk hr;simp only[go_sem,zE,zA,zM,zL,fits,dP];refine iG E ac D rfl (by simp[fits,IV.one]) (by simp only;omega) (by omega) λaj st4 aa W _ ag=>?_;simp only[go_sem,zE,f1,f14,f15,f16,df ab (by omega)];exact⟨aj,_,rfl,hn,ag.pos O,aa,W⟩
 ·rintro fr af _ ⟨⟨A,ys,f5,hys,ah,E,D⟩,f1,f14,f15,f16,rfl⟩;rw[lTl] at hys;simp only[go_sem,zE,f5,f15,f16,dD (nLi _)];exact dZ (st':=st) D ⟨A,ys,rfl,E.es,ah,hys,rfl⟩
def DA:∀(k:Nat)(us:List Tm),SizeOf.sizeOf us<k->sCT gl us
 | 0,f,h=>by omega
 | k+1,us,h=>Mr gl us (λv n l A=>DA k l (by
   have:=lSm A;simp at this;omega))
def Mt (us:List Tm):sCT gl us:=DA gl _ us (dM _)
def sCF (f:Fm):Prop:=∀(x:IV) (_:IsFm f x) (_:f.size<=1099511627776) (st:ISt),ICall prog gl 78 [x] st (λr st'=>IsFmD f r/\st'=st)
def Mu (us:List Fm)(IH:∀a∈us,sCF gl a)(tg:Tag)(xs:List IV)(an:okEs tg 4)(U:IsFms us xs)(av:dt us<=1099511627776)(st:ISt) :
  ICall prog gl 119 [.sl tg xs,.fn (.func 78) [] []] st (λr st'=>∃A ys,r=.sl A ys/\okEs A 4/\appT us.length A/\IsFmsD us ys/\st'=st):=by
 have ar:=h_ us;refine iI func119 ?_;simp only[go_sem,reduceCtorEq,U.len];intro _;refine j4 (λh=>?_) (λh=>?_)
 ·obtain rfl:us=[]:=eN (by simpa using h);simp only[go_sem];exact cO ⟨_,_,rfl,.inl rfl,.inl rfl,IsFmsD.nil,rfl⟩
 have O:0<us.length:=Nat.pos_of_ne_zero λh0=>by simp[h0] at h
 simp only[go_sem,reduceCtorEq,U.len];intro _;refine gv ⟨iNn _,by omega,by omega⟩ λg=>eB λhg=>?_;intro _;refine cV us.length (λk fr st' ds=>(∃A ys,fr 5=.iv (.sl A ys)/\IsFmsD (us.take k) ys/\appT us.length A/\own st' A k 4 st/\subSt st st')/\fr 1=.iv (.fn (.func 78) [] []) /\
  fr 14=.iv (.sl tg xs)/\fr 15=us.length/\fr 16=.iv (.raw (.int .i64 k))/\ds=[]) ?_ ?_ ?_
 ·simp only[go_sem,zE];exact⟨⟨_,_,rfl,IsFmsD.nil,.inr ⟨O,rfl,g,rfl⟩,.inr (.inr ⟨g,rfl,cT _ _ _,hg⟩),gU (subSt.refl _) hg⟩,rfl⟩
 ·rintro k fr af _ ab ⟨⟨A,ys,f5,hys,ah,E,D⟩,f1,f14,f15,f16,rfl⟩;obtain⟨a,ha⟩:=dd ab;obtain⟨x,ao,hx⟩:=U.get ha;obtain⟨h1,h2⟩:=jK ha;have ac:ys.length=k:=by rw[hys.len,dO];omega
  have ae:=IH a (lMg ha) x hx (by omega) af;obtain⟨o5,n5,t5,x5,t6,x6,rfl⟩:=hx.agg;simp only[go_sem,zE,zB,zA,zL,f1,f5,f14,f15,f16,lt_i ab,dc an,iNn,ao,fits];refine ae.mono ?_;rintro r _ ⟨hr,rfl⟩;have hn:IsFmsD (us.take (k+1)) (ys++[r]):=by
   rw[dK ha];exact hys.append (IsFmsD.one hr)
  obtain⟨o7,n7,t7,x7,t8,x8,rfl⟩:=jD hr;simp only[go_sem,zE,zA,zM,zL,fits,dP];refine iG E ac D rfl (by simp[fits,IV.one]) (by simp only;omega) (by omega) λak st4 aa W _ ag=>?_;simp only[go_sem,zE,f1,f14,f15,f16,df ab (by omega)];exact⟨ak,_,rfl,hn,ag.pos O,aa,W⟩
 ·rintro fr af _ ⟨⟨A,ys,f5,hys,ah,E,D⟩,f1,f14,f15,f16,rfl⟩;rw[lTl] at hys;simp only[go_sem,zE,f5,f15,f16,dD (nLi _)];exact dZ (st':=st) D ⟨A,ys,rfl,E.es,ah,hys,rfl⟩
def Mv (o:Nat)(n:ByteArray)(us:List Tm)(sub:List Fm)(IH:∀a∈sub,sCF gl a):sCF gl (.mk o n us sub):=by
 intro x hx hs st;obtain⟨t1,x1,t2,x2,rfl,ho,U,E,O,D⟩:=hx.mk;simp only[Fm.size] at hs;have ab:=Mt gl us t1 x1 U E (by omega) st;have aa:=Mu gl sub IH t2 x2 O D (by omega) st;refine ICall.intro (c:=cf prog gl [] [(1,[0,1,2,3,4,5,7,8,6,9,10,11])]) func78 rfl (by show _<=14;simp) (by kernel_rfl) ?_;simp only[go_sem,zE,zA];refine ab.mono ?_;rintro _ _ ⟨ai,ys,rfl,he,ha,hys,rfl⟩;simp only[go_sem,zE,zA];refine aa.mono ?_;rintro _ _ ⟨ah,ae,rfl,W,ac,A,rfl⟩;simp only[go_sem,zE,zA,zL,fits];exact cO ⟨IsFmD.intro ho he ha hys W ac A,rfl⟩
def DB:∀(k:Nat)(f:Fm),SizeOf.sizeOf f<k->sCF gl f
 | 0,f,h=>by omega
 | k+1,.mk o n us sub,h=>Mv gl o n us sub (λa A=>DB k a (by
   have:=lSm A;simp only[Fm.mk.sizeOf_spec] at h;omega))
def qk (f:Fm):sCF gl f:=DB gl _ f (dM _)
def Mw (us:List Fm)(tg:Tag)(xs:List IV)(ak:okEs tg 4)(ae:IsFms us xs)(ar:dt us<=1099511627776)(st:ISt) :
  ICall prog gl 226 [.sl tg xs] st (λr st'=>∃A ys,r=.sl A ys/\okEs A 4/\(appT us.length A/\A.fresh=true)/\IsFmsD us ys/\own st' A us.length 4 st/\subSt st st'):=by
 have aq:=h_ us;refine iI func226 ?_;simp only[go_sem,reduceCtorEq,ae.len];intro _;refine cV us.length (λk fr st' ds=>(∃A ys,fr 3=.iv (.sl A ys)/\IsFmsD (us.take k) ys/\(appT k A/\A.fresh=true)/\own st' A k 4 st/\subSt st st') /\
  fr 6=.iv (.sl tg xs)/\fr 7=us.length/\fr 8=.iv (.raw (.int .i64 k))/\ds=[]) ?_ ?_ ?_
 ·simp only[go_sem,zE];exact⟨⟨_,_,rfl,IsFmsD.nil,⟨.inl rfl,rfl⟩,own.nil _ _ _ _ _,subSt.refl _⟩,rfl⟩
 ·rintro k fr ac _ W ⟨⟨A,ys,f3,hys,ag,D,E⟩,f6,f7,f8,rfl⟩;obtain⟨a,ha⟩:=dd W;obtain⟨x,am,hx⟩:=ae.get ha;obtain⟨h1,h2⟩:=jK ha;have aa:ys.length=k:=by rw[hys.len,dO];omega
  have ab:=qk gl a x hx (by omega) ac;obtain⟨o5,n5,t5,x5,t6,x6,rfl⟩:=hx.agg;simp only[go_sem,zE,zB,zA,zL,f3,f6,f7,f8,lt_i W,dc ak,iNn,am,fits];refine ab.mono ?_;rintro r _ ⟨hr,rfl⟩;have hn:IsFmsD (us.take (k+1)) (ys++[r]):=by
   rw[dK ha];exact hys.append (IsFmsD.one hr)
  obtain⟨o7,n7,t7,x7,t8,x8,rfl⟩:=jD hr;simp only[go_sem,zE,zA,zM,zL,fits,dP];refine iG D aa E rfl (by simp[fits,IV.one]) (by simp only;omega) (by omega) λai st4 O U _ af=>?_;simp only[go_sem,zE,f6,f7,f8,df W (by omega)];exact⟨ai,_,rfl,hn,⟨af,by
   rcases O with⟨h0,_⟩|rfl|⟨_,rfl,_⟩
   ·omega
   ·rfl
   ·rfl⟩,O,U⟩
 ·rintro fr ac _ ⟨⟨A,ys,f3,hys,ag,D,E⟩,f6,f7,f8,rfl⟩;rw[lTl] at hys;simp only[go_sem,zE,f3,f7,f8,dD (nLi _)];exact cO ⟨A,ys,rfl,D.es,ag,hys,D,E⟩
end Go.Proofs.Tryz
namespace Go.Iv
open Go
section
variable {P:Program}{gl:Nat->Option IV}{f:FuncId}{args args':List IV}{st:ISt}
def nY {K:IV->Prop}(hf:flatSt st)(aq:∀g x,gl g=some x->age x=x)(hl:Lents st args args')(h:ICall P gl f (ages args') (gS st) (λr st'=>st'=gS st/\dfr r/\K r)) :
  ICall P gl f args st (λy st'=>subSt st st'/\flatSt st'/\∃x N,K x/\OI N y x/\rawY y/\lX N/\subSt N st'/\∀b,N b≠none->st b=none):=by
 intro B X rs W an hv;subst an;have E:=W.lend;have ar:Good ⟨P,gl,X.w.heap.size⟩ X.lend:=⟨λb o A=>(E.ok b o A).flat (hf b o (BC X.st b o A)) rfl rfl,λg x hx=>by
   have h1:=aq g x hx;have h2:=(E.gl g x hx).aged (B':=X.w.heap.size);simp only[age,h1] at h2;exact h2,dz _,E.Lnew,E.gsh,E.dr⟩
 have am:Cx.vl ⟨P,gl,X.w.heap.size⟩ X.lend rs (ages args'):=VL.aged (hl.v W hv);refine (h X.w.heap.size X.lend rs ar rfl am).mono ?_;rintro e w' ⟨v,rfl,X',x,rfl,h2,U,h4,h5,h6,h7⟩;obtain⟨y,ak,aj,_,ai⟩:=BG (st:=λ_=>none) h4 h6;have af:∀ {b o},X.st b=some o->b<X.w.heap.size:=λA=>W.lt A;have aD:X.w.heap.size<=X'.w.heap.size:=U.size
 let Y:WS:={ w:=X'.w,L:=λb=>if b<X.w.heap.size then (match X.st b with|some (.box _)=>0|_=>X'.L b) else 0,st:=jI X'.w X.w.heap.size X.st,d:=X'.d }
 have au:∀ {b},¬ b<X.w.heap.size->Y.L b=0:=λA=>by simp only[Y];rw[a_ A]
 have av:∀ {b cs},X.st b=some (.box cs)->Y.L b=0:=λA=>by simp only[Y,A];split<;>rfl
 have aa:∀ {b},b<X.w.heap.size->(∀cs,X.st b≠some (.box cs))->Y.L b=X'.L b:=λ{b} h0 A=>by
  grind
 have he:Ext X Y:=by
  refine⟨U.os,U.tape,U.output,U.size,λb=>?_,λb i hi=>?_,λb A hs=>?_,λb A hs=>?_,U.shape,U.d⟩
  ·by_cases h0:b<X.w.heap.size
   ·by_cases A:∃cs,X.st b=some (.box cs)
    ·obtain⟨cs,A⟩:=A;rw[(W.ok b _ A).1];exact fQ _
    ·rw[aa h0 λcs hc=>A ⟨cs,hc⟩];exact eh (W.lend_ext.lmono b) (U.lmono b)
   ·rw[W.Lnew b (by omega)];exact fQ _
  ·exact U.cells b i (kE hi (W.lend_ext.lmono b))
  ·have O:∀cs,X.st b≠some (.box cs):=λcs hc=>by rw[hs] at hc;cases hc
   obtain⟨k1,k2⟩:=U.keep b A ((rp O).trans hs);exact⟨k1,by rw[aa A O,k2,pV O]⟩
  ·simp only[Y,jI];rw[b_ A];exact hs
 have ae:∀b o,Y.st b=some o->(b<X.w.heap.size/\X.st b=some o)\/(X.w.heap.size<=b/\∃c T,X'.w.heap[b]?=some (.cells c T (0,0))/\o=.box (c.toList.map rdI)):=λb o A=>by
  simp only[Y,jI] at A;grind
 refine⟨v,rfl,Y,y,rfl,⟨λb o A=>?_,λg x ao=>he.v (W.gl g x ao),eh W.B U.size,λb A=>?_,h2.gsh,h2.dr⟩,he,ak _ _ _,λb o A=>?_,λb o A=>?_,x,_,h7,aj,ai,λb cs A=>?_,λb o A=>?_,λb A=>?_⟩
 ·rcases ae b o A with⟨h8,h9⟩|⟨h8,c,T,hh,rfl⟩
  ·by_cases D:∃cs,X.st b=some (.box cs)
   ·obtain⟨cs,D⟩:=D;rw[D] at h9;cases h9;exact (W.ok b _ D).flat (hf b _ D) (U.keep b h8 (sU D)).1 (by rw[av D,(W.ok b _ D).1])
   ·have O:∀cs,X.st b≠some (.box cs):=λcs hc=>D ⟨cs,hc⟩;have ax:X'.st b=some o:=by rw[h5];exact (rp O).trans h9
    exact (h2.ok b o ax).flat (hf b o h9) rfl (aa h8 O)
  ·refine⟨au (by omega),c,T,hh,by simp,λi r z hr hz=>?_⟩;rw[en,hr] at hz;cases hz;exact BE r
 ·grind
 ·simp only[Y,jI];rw[b_ (af A)];exact A
 ·rcases ae b o A with⟨_,h9⟩|⟨_,c,T,_,rfl⟩
  ·exact hf b o h9
  ·intro z hz;obtain⟨v,_,rfl⟩:=eP.1 hz;exact BD v
 ·unfold jI at A;split at A
  ·cases A
  ·split at A
   ·split at A
    ·cases A;intro z hz;obtain⟨v,_,rfl⟩:=eP.1 hz;exact BH v
    ·cases A
   ·cases A
 ·simp only[Y,jI] at A ⊢;grind
 ·simp only[jI] at A;split at A
  ·grind
  ·cases hq:X.st b with
   | none=>rfl
   | some o=>exact absurd (af hq) ‹_›
def DC {X X':WS}{g:Nat}{o:IObj}(h:Ext X X')(D:X.st g=none)(h1:X'.st g=some o):X.w.heap.size<=g:=by
 by_cases A:g<X.w.heap.size
 ·have:=h.dom g A D;grind
 ·omega
def xC {X':WS}{S:ISt}{g:Nat}{cs:List IV}(O:S g=none)(A:X'.st=S.put g (some (.box cs))):LendOk X'.st (ISt.put (λ_=>none) g (some (.box cs))) S:=by
 refine⟨λb o D=>?_,λb o D=>?_,λb cs' D=>?_⟩
 ·rw[ISt.put_apply] at D;split at D
  ·rename_i E;subst E;cases D;rw[A];exact cT ..
  ·cases D
 ·rw[A,ISt.put_apply];grind
 ·rw[ISt.put_apply] at D;grind
def DD {C:Cx}{X':WS}{S:ISt}{g cap es:Nat}{cs zs:List IV}(h2:Good C X')(h0:S g=none)(A:X'.st=S.put g (some (.box cs)))(hB:C.B<=g)(hn:zs.length<=140737488355328)(D:zs.length<=cap)(E:cap*es<=cs.length)
  (aa:cs.take (zs.length*es)=zs.flatMap IV.cells) (O:∀z∈zs,z.cells.length=es):C.v (X'.lendS (ISt.put (λ_=>none) g (some (.box cs))) S) (.slice (some ⟨g,0,none⟩) zs.length cap) (.sl ⟨true,.app g,es⟩ zs):=by
 have ac:X'.st g=some (.box cs):=by rw[A];exact cT ..
 have ag:=h2.lendS_ext (xC h0 A);have hs1:(ISt.put (λ_=>none) g (some (.box cs))) g=some (.box cs):=cT ..;obtain⟨an,c,T,hh,U⟩:=h2.ok g _ ac;have am:c.toList.length=cs.length:=U.1;have af:(zs.flatMap IV.cells).length=zs.length*es:=jZ zs O;have aj:zs.length*es<=cs.length:=eh (ec _ D) E;refine V.sl (some ⟨g,0,none⟩) cap ⟨true,.app g,es⟩ zs T (c.toList.take (zs.length*es)) rfl hn D O ?_ (λg' ae=>?_) (λ_ ad ah=>?_) (λ_=>⟨_,rfl,rfl,?_,λi r W=>?_⟩) λi r z W O=>?_
 ·grind
 ·cases ae;refine⟨T,c.size,?_,?_⟩
  ·simp[shq,WS.lendS,hh]
  ·grind
 ·cases ah;refine⟨hB,by simp,?_⟩;simp[ety,shq,WS.lendS,hh]
 ·show 0+(c.toList.take (zs.length*es)).length<=(X'.lendS _ S).L g;rw[wc hs1,dO];omega
 ·show X'.w.cell? _=_;rw[eQ,jX hh];grind
 ·rw[<- aa,fl] at O;rw[fl] at W;split at W
  ·rename_i hi;rw[b_ hi] at O;exact ag.v (U.2 i r z W O)
  ·cases W
def fe {K:IV->ISt->Prop}(h:ICall P gl f args st (λy st'=>K y st'\/∃g es zs,st g=none/\y=.raw (.slice (some ⟨g,0,none⟩) zs.length zs.length)/\st'=st.put g (some (.box (zs.flatMap IV.cells))) /\
   zs.length<=140737488355328/\(∀z∈zs,z.cells.length=es)/\K (.sl ⟨true,.app g,es⟩ zs) st)):ICall P gl f args st K:=by
 intro B X rs hg E hv;subst E;refine (h B X rs hg rfl hv).mono ?_;rintro e w' ⟨v,rfl,X',y,rfl,h2,W,h4,U|⟨g,es,zs,h0,rfl,A,hn,hz,U⟩⟩
 ·exact⟨v,rfl,X',y,rfl,h2,W,h4,U⟩
 have O:=DC W h0 (by rw[A];exact cT ..);have hk:=xC h0 A;have D:=jZ zs hz;obtain rfl:=dQ h4;exact⟨_,rfl,X'.lendS _ X.st,_,rfl,h2.lendS hk,W.trans (h2.lendS_ext hk),DD h2 h0 A (eh hg.B O) hn (dz _) (by rw[D];exact dz _) (by rw[<- D,lTl]) hz,U⟩
end
def rO {P:Program}{gl:Nat->Option IV}{f:FuncId}{args:List IV}{st:ISt}{K:IV->ISt->Prop}(h:ICall P gl f args st (λr st'=>∃A,subSt A st'/\K r A)):ICall P gl f args st K:=by
 intro B X rs hg E U;refine (h B X rs hg E U).mono ?_;rintro e w' ⟨v,rfl,X',x,rfl,h2,h3,h4,A,W,hK⟩;obtain⟨O,D⟩:=h2.sub W;exact⟨v,rfl,{ X' with st:=A },x,rfl,O,h3.trans D,D.v h4,hK⟩
end Go.Iv
namespace Go.Proofs.Tryz
open Go Go.Iv
set_option maxRecDepth 4000
variable (gl:Nat->Option IV)
def nZ (us:List Fm)(O:Tag)(E:List IV)(W:okEs O 4)(U:IsFms us E)(aa:dt us<=1099511627776)(st:ISt) :
  ICall prog gl 226 [.sl O E] st (λr st'=>∃A ys,r=.sl A ys/\okEs A 4/\appT us.length A/\IsFmsD us ys/\st'=st) :=
 rO ((Mw gl us O E W U aa st).mono λr st' h=>by
  obtain⟨A,ys,rfl,he,ha,hys,_,D⟩:=h;exact⟨st,D,A,ys,rfl,he,ha.1,hys,rfl⟩)
def IsSqD (s:Sq)(x:IV):Prop:=∃t1 D t2 A,x=.agg [.sl t1 D,.sl t2 A]/\okEs t1 4/\appT s.l.length t1/\IsFmsD s.l D/\okEs t2 4/\appT s.r.length t2/\IsFmsD s.r A
def IsSqD.w {s:Sq}{x:IV}(h:IsSqD s x):IsSq s x:=by
 obtain⟨t1,O,t2,E,rfl,D,_,i1,A,_,i2⟩:=h;exact⟨_,_,_,_,rfl,D,i1.1,A,i2.1⟩
def IsSqsD:List Sq->List IV->Prop
 | [],A=>A=[]
 | a::l,A=>∃y ys,A=y::ys/\IsSqD a y/\IsSqsD l ys
def IsSqsD.w:∀ {l:List Sq}{A:List IV},IsSqsD l A->IsSqs l A
 | [],_,h=>h
 | a::l,_,⟨y,ys,h1,h2,D⟩=>⟨y,ys,h1,h2.w,D.w⟩
def IsSqsD.mem:∀ {l:List Sq}{A:List IV},IsSqsD l A->∀ {k:Nat}{x:IV},A[k]?=some x->∃s,l[k]?=some s/\IsSqD s x
 | [],_,rfl,k,x,h=>by simp at h
 | a::l,_,⟨y,ys,rfl,h2,D⟩,0,x,h=>by cases h;exact⟨a,rfl,h2⟩
 | a::l,_,⟨y,ys,rfl,h2,D⟩,k+1,x,h=>IsSqsD.mem D (by simpa using h)
def DE {t:Tag}{A:List IV}{l:List Fm}(D:appT l.length t)(h:IsFmsD l A):dfr (.sl t A):=by
 simp only[dfr];exact⟨(D.to h.1.len).up,h.2,h.1.cells_one⟩
def IsSqD.one {s:Sq}{x:IV}(h:IsSqD s x):x.cells.length=2/\∀c∈x.cells,c.one=true:=by
 obtain⟨t1,D,t2,A,rfl,_⟩:=h;refine⟨rfl,λc hc=>?_⟩;simp only[IV.cells,dC,e_,eu] at hc;rcases hc with rfl|rfl<;>rfl
def j_ {l:List Sq}{A:List IV}(h:IsSqsD l A):∀z∈A,z.cells.length=2:=λz D=>by
 obtain⟨k,O⟩:=List.mem_iff_getElem?.1 D;obtain⟨s,_,E⟩:=h.mem O;exact E.one.1
def IsSq.two {s:Sq}{x:IV}(h:IsSq s x):∃t A D ys,x=.agg [.sl t A,.sl D ys]:=by
 obtain⟨t,A,D,ys,rfl,_⟩:=h;exact⟨_,_,_,_,rfl⟩
def n_ (us:List Fm)(D:Tag)(A:List IV)(O:okEs D 4)(E:IsFms us A)(U:dt us<=1099511627776)(st:ISt) :
  ICall prog gl 185 [.sl D A] st (λr st'=>IsSqD ⟨us,[]⟩ r/\st'=st):=by
 refine iI func185 ?_;simp only[go_sem,zA,reduceCtorEq];refine (nZ gl us D A O E U _).mono ?_;rintro _ _ ⟨W,ys,rfl,he,ha,hys,rfl⟩;simp only[go_sem,zE,zA,zL,fits];exact cO ⟨⟨_,_,_,_,rfl,he,ha,hys,.inl rfl,.inl rfl,IsFmsD.nil⟩,rfl⟩
def nq (us:List Fm)(D:Tag)(A:List IV)(O:okEs D 4)(E:IsFms us A)(U:dt us<=1099511627776)(st:ISt) :
  ICall prog gl 182 [.sl D A] st (λr st'=>IsSqD ⟨[],us⟩ r/\st'=st):=by
 refine iI func182 ?_;simp only[go_sem,zA,reduceCtorEq];refine (nZ gl us D A O E U _).mono ?_;rintro _ _ ⟨W,ys,rfl,he,ha,hys,rfl⟩;simp only[go_sem,zE,zA,zL,fits];exact cO ⟨⟨_,_,_,_,rfl,.inl rfl,.inl rfl,IsFmsD.nil,he,ha,hys⟩,rfl⟩
def fF (x y:Operand):jH 2 [(0,x),(1,y)]=true:=rfl
def DG (a b:Fm)(x y:IV)(hx:IsFm a x)(A:IsFm b y)(st:ISt):ICall prog gl 228 [x,y] st (λr st'=>IsFm (impF a b) r/\st'=st):=by
 have h1:IsFms [a,b] [x,y]:=⟨_,_,rfl,hx,_,_,rfl,A,rfl⟩
 obtain⟨o5,n5,t5,U,t6,O,rfl⟩:=hx.agg;obtain⟨W,n7,t7,E,t8,D,rfl⟩:=A.agg;refine iI func228 ?_;simp only[go_sem,zE,zA,zM,zL,fits,fF];exact cO ⟨⟨_,_,_,_,rfl,by decide,.inl rfl,rfl,.inr rfl,h1⟩,rfl⟩
def AddOk (id:Nat)(F:Fm->Fm->Fm->List Sq):Prop:=∀(m a b:Fm) (x y z:IV) (_:IsFm m x) (_:IsFm a y) (_:IsFm b z) (_:m.size<=1000000) (_:a.size<=1000000) (_:b.size<=1000000) (st:ISt),
 ICall prog gl id [x,y,z] st (λr st'=>∃A D,r=.sl A D/\okEs A 2/\appT (F m a b).length A/\IsSqsD (F m a b) D/\st'=st)
def sq1 {s:Sq}{x:IV}(h:IsSqD s x):IsSqsD [s] [x]:=⟨_,_,rfl,h,rfl⟩
def sq2 {s s':Sq}{x A:IV}(h:IsSqD s x)(D:IsSqD s' A):IsSqsD [s,s'] [x,A]:=⟨_,_,rfl,h,_,_,rfl,D,rfl⟩
def AddOk.of {id:Nat}{F:Fm->Fm->Fm->List Sq}(h:∀ {o1 o2 U:Nat}{n1 n2 n3:ByteArray}{t1 u1 t2 u2 t3 u3:Tag}{x1 y1 O y2 E y3:List IV}(m a b:Fm)(_:IsFm m (.agg [.raw (.int .u8 o1),n1,.sl t1 x1,.sl u1 y1]))(_:IsFm a (.agg [.raw (.int .u8 o2),n2,.sl t2 O,.sl u2 y2]))(_:IsFm b (.agg [.raw (.int .u8 U),n3,.sl t3 E,.sl u3 y3]))(_:m.size<=1000000)(_:a.size<=1000000)(_:b.size<=1000000)
  (_:IsFms [a] [.agg [.raw (.int .u8 o2),n2,.sl t2 O,.sl u2 y2]]) (_:IsFms [b] [.agg [.raw (.int .u8 U),n3,.sl t3 E,.sl u3 y3]]) (_:IsFms [m] [.agg [.raw (.int .u8 o1),n1,.sl t1 x1,.sl u1 y1]]) (_:IsFms [a,b] [.agg [.raw (.int .u8 o2),n2,.sl t2 O,.sl u2 y2],.agg [.raw (.int .u8 U),n3,.sl t3 E,.sl u3 y3]]) (st:ISt),
  ICall prog gl id [.agg [.raw (.int .u8 o1),n1,.sl t1 x1,.sl u1 y1],.agg [.raw (.int .u8 o2),n2,.sl t2 O,.sl u2 y2],.agg [.raw (.int .u8 U),n3,.sl t3 E,.sl u3 y3]] st (λr st'=>∃tg xs,r=.sl tg xs/\okEs tg 2/\appT (F m a b).length tg/\IsSqsD (F m a b) xs/\st'=st)):AddOk gl id F:=by
 intro m a b x y z hx hy hz hm ha hb st;have W:=hx;have D:=hy;have A:=hz;obtain⟨o1,n1,t1,x1,t2,O,rfl⟩:=hx.agg;obtain⟨U,n3,t3,E,t4,x4,rfl⟩:=hy.agg;obtain⟨o5,n5,t5,x5,t6,x6,rfl⟩:=hz.agg;exact h m a b W D A hm ha hb (IsFms.one D) (IsFms.one A) (IsFms.one W) ⟨_,_,rfl,D,IsFms.one A⟩ st
def xD:AddOk gl 216 (λ_ _ _=>[]):=by
 refine AddOk.of gl λm a b O E D hm ha hb ia W U A st=>?_;refine iI func216 ?_;simp only[go_sem,zE];exact cO ⟨_,_,rfl,.inl rfl,.inl rfl,rfl,rfl⟩
def xE:AddOk gl 217 (λ_ _ _=>[]):=by
 refine AddOk.of gl λm a b O E D hm ha hb ia W U A st=>?_;refine iI func217 ?_;simp only[go_sem,zE];exact cO ⟨_,_,rfl,.inl rfl,.inl rfl,rfl,rfl⟩
def xF:AddOk gl 218 (λm a b=>[⟨[],[a]⟩]):=by
 refine AddOk.of gl λm a b W U O hm ha hb E ib im D st=>?_;refine fe ?_;refine ICall.intro (c:=cf prog gl [10] []) func218 rfl (by show _<=11;simp) (by kernel_rfl) ?_;simp only[go_sem,zE,zA,zM,zL,fits,dP];refine (nq gl _ _ _ (.inr rfl) E (by simp only[dt];omega) _).mono ?_;rintro r _ ⟨A,rfl⟩;have h1:=sq1 A;obtain⟨_,_,_,_,rfl⟩:=IsSq.two A.w;simp only[go_sem,zA,zM,zL,fits,dP];refine λg=>eB λhg=>?_;exact cO (.inr ⟨g,2,_,hg,rfl,rfl,by simp,j_ h1,_,_,rfl,.inr rfl,.inr ⟨by simp,rfl,g,rfl⟩,h1⟩)
def xG:AddOk gl 219 (λm a b=>[⟨[a],[]⟩]):=by
 refine AddOk.of gl λm a b W U O hm ha hb E ib im D st=>?_;refine fe ?_;refine ICall.intro (c:=cf prog gl [10] []) func219 rfl (by show _<=11;simp) (by kernel_rfl) ?_;simp only[go_sem,zE,zA,zM,zL,fits,dP];refine (n_ gl _ _ _ (.inr rfl) E (by simp only[dt];omega) _).mono ?_;rintro r _ ⟨A,rfl⟩;have h1:=sq1 A;obtain⟨_,_,_,_,rfl⟩:=IsSq.two A.w;simp only[go_sem,zA,zM,zL,fits,dP];refine λg=>eB λhg=>?_;exact cO (.inr ⟨g,2,_,hg,rfl,rfl,by simp,j_ h1,_,_,rfl,.inr rfl,.inr ⟨by simp,rfl,g,rfl⟩,h1⟩)
def xH:AddOk gl 220 (λm a b=>[⟨[a,b],[]⟩]):=by
 refine AddOk.of gl λm a b U O E hm ha hb ia ib im A st=>?_;refine fe ?_;refine ICall.intro (c:=cf prog gl [11] []) func220 rfl (by show _<=12;simp) (by kernel_rfl) ?_;simp only[go_sem,zE,zA,zM,zL,fits,fF];refine (n_ gl _ _ _ (.inr rfl) A (by simp only[dt];omega) _).mono ?_;rintro r _ ⟨D,rfl⟩;have h1:=sq1 D;obtain⟨_,_,_,_,rfl⟩:=IsSq.two D.w;simp only[go_sem,zA,zM,zL,fits,dP];refine λg=>eB λW=>?_;exact cO (.inr ⟨g,2,_,W,rfl,rfl,by simp,j_ h1,_,_,rfl,.inr rfl,.inr ⟨by simp,rfl,g,rfl⟩,h1⟩)
def xI:AddOk gl 221 (λm a b=>[⟨[],[a]⟩,⟨[],[b]⟩]):=by
 refine AddOk.of gl λm a b ab aa W hm ha hb U E im O st=>?_;refine fe ?_;refine ICall.intro (c:=cf prog gl [13] [(1,[0,1,3,4,2,5,6,7])]) func221 rfl (by show _<=14;simp) (by kernel_rfl) ?_;simp only[go_sem,zE,zA,zM,zL,fits,dP];refine (nq gl _ _ _ (.inr rfl) U (by simp only[dt];omega) _).mono ?_;rintro r _ ⟨A,rfl⟩;have D:=A;obtain⟨_,_,_,_,rfl⟩:=IsSq.two A.w;simp only[go_sem,zE,zA];refine (nq gl _ _ _ (.inr rfl) E (by simp only[dt];omega) _).mono ?_;rintro r _ ⟨A,rfl⟩;have h1:=sq2 D A;obtain⟨_,_,_,_,rfl⟩:=IsSq.two A.w;simp only[go_sem,zE,zA,zM,zL,fits,fF];refine λg=>eB λhg=>?_;exact cO (.inr ⟨g,2,_,hg,rfl,rfl,by simp,j_ h1,_,_,rfl,.inr rfl,.inr ⟨by simp,rfl,g,rfl⟩,h1⟩)
def xJ:AddOk gl 222 (λm a b=>[⟨[a],[]⟩,⟨[b],[]⟩]):=by
 refine AddOk.of gl λm a b ab aa W hm ha hb U E im O st=>?_;refine fe ?_;refine ICall.intro (c:=cf prog gl [13] [(1,[0,1,3,4,2,5,6,7])]) func222 rfl (by show _<=14;simp) (by kernel_rfl) ?_;simp only[go_sem,zE,zA,zM,zL,fits,dP];refine (n_ gl _ _ _ (.inr rfl) U (by simp only[dt];omega) _).mono ?_;rintro r _ ⟨A,rfl⟩;have D:=A;obtain⟨_,_,_,_,rfl⟩:=IsSq.two A.w;simp only[go_sem,zE,zA];refine (n_ gl _ _ _ (.inr rfl) E (by simp only[dt];omega) _).mono ?_;rintro r _ ⟨A,rfl⟩;have h1:=sq2 D A;obtain⟨_,_,_,_,rfl⟩:=IsSq.two A.w;simp only[go_sem,zE,zA,zM,zL,fits,fF];refine λg=>eB λhg=>?_;exact cO (.inr ⟨g,2,_,hg,rfl,rfl,by simp,j_ h1,_,_,rfl,.inr rfl,.inr ⟨by simp,rfl,g,rfl⟩,h1⟩)
def xK:AddOk gl 223 (λm a b=>[⟨[],[a,b]⟩]):=by
 refine AddOk.of gl λm a b U O E hm ha hb ia ib im A st=>?_;refine fe ?_;refine ICall.intro (c:=cf prog gl [11] []) func223 rfl (by show _<=12;simp) (by kernel_rfl) ?_;simp only[go_sem,zE,zA,zM,zL,fits,fF];refine (nq gl _ _ _ (.inr rfl) A (by simp only[dt];omega) _).mono ?_;rintro r _ ⟨D,rfl⟩;have h1:=sq1 D;obtain⟨_,_,_,_,rfl⟩:=IsSq.two D.w;simp only[go_sem,zA,zM,zL,fits,dP];refine λg=>eB λW=>?_;exact cO (.inr ⟨g,2,_,W,rfl,rfl,by simp,j_ h1,_,_,rfl,.inr rfl,.inr ⟨by simp,rfl,g,rfl⟩,h1⟩)
def xM:AddOk gl 224 (λm a b=>[⟨[],[a]⟩,⟨[b],[]⟩]):=by
 refine AddOk.of gl λm a b ab aa W hm ha hb U E im O st=>?_;refine fe ?_;refine ICall.intro (c:=cf prog gl [13] [(1,[0,1,3,4,2,5,6,7])]) func224 rfl (by show _<=14;simp) (by kernel_rfl) ?_;simp only[go_sem,zE,zA,zM,zL,fits,dP];refine (nq gl _ _ _ (.inr rfl) U (by simp only[dt];omega) _).mono ?_;rintro r _ ⟨A,rfl⟩;have D:=A;obtain⟨_,_,_,_,rfl⟩:=IsSq.two A.w;simp only[go_sem,zE,zA];refine (n_ gl _ _ _ (.inr rfl) E (by simp only[dt];omega) _).mono ?_;rintro r _ ⟨A,rfl⟩;have h1:=sq2 D A;obtain⟨_,_,_,_,rfl⟩:=IsSq.two A.w;simp only[go_sem,zE,zA,zM,zL,fits,fF];refine λg=>eB λhg=>?_;exact cO (.inr ⟨g,2,_,hg,rfl,rfl,by simp,j_ h1,_,_,rfl,.inr rfl,.inr ⟨by simp,rfl,g,rfl⟩,h1⟩)
def xN:AddOk gl 230 (λm a b=>[⟨[],[m]⟩,⟨[m],[]⟩]):=by
 refine AddOk.of gl λm a b aa W U hm ha hb ia ib E O st=>?_;refine fe ?_;refine ICall.intro (c:=cf prog gl [13] [(1,[0,1,3,4,2,5,6,7])]) func230 rfl (by show _<=14;simp) (by kernel_rfl) ?_;simp only[go_sem,zE,zA,zM,zL,fits,dP];refine (nq gl _ _ _ (.inr rfl) E (by simp only[dt];omega) _).mono ?_;rintro r _ ⟨A,rfl⟩;have D:=A;obtain⟨_,_,_,_,rfl⟩:=IsSq.two A.w;simp only[go_sem,zE,zA];refine (n_ gl _ _ _ (.inr rfl) E (by simp only[dt];omega) _).mono ?_;rintro r _ ⟨A,rfl⟩;have h1:=sq2 D A;obtain⟨_,_,_,_,rfl⟩:=IsSq.two A.w;simp only[go_sem,zE,zA,zM,zL,fits,fF];refine λg=>eB λhg=>?_;exact cO (.inr ⟨g,2,_,hg,rfl,rfl,by simp,j_ h1,_,_,rfl,.inr rfl,.inr ⟨by simp,rfl,g,rfl⟩,h1⟩)
def xO:AddOk gl 181 (λm a b=>[⟨[],[a]⟩]):=by
 refine AddOk.of gl λm a b W U O hm ha hb E ib im D st=>?_;refine fe ?_;refine ICall.intro (c:=cf prog gl [10] []) func181 rfl (by show _<=11;simp) (by kernel_rfl) ?_;simp only[go_sem,zE,zA,zM,zL,fits,dP];refine (nq gl _ _ _ (.inr rfl) E (by simp only[dt];omega) _).mono ?_;rintro r _ ⟨A,rfl⟩;have h1:=sq1 A;obtain⟨_,_,_,_,rfl⟩:=IsSq.two A.w;simp only[go_sem,zA,zM,zL,fits,dP];refine λg=>eB λhg=>?_;exact cO (.inr ⟨g,2,_,hg,rfl,rfl,by simp,j_ h1,_,_,rfl,.inr rfl,.inr ⟨by simp,rfl,g,rfl⟩,h1⟩)
def xP:AddOk gl 183 (λm a b=>[⟨[],[b]⟩]):=by
 refine AddOk.of gl λm a b W U O hm ha hb ia D im E st=>?_;refine fe ?_;refine ICall.intro (c:=cf prog gl [10] []) func183 rfl (by show _<=11;simp) (by kernel_rfl) ?_;simp only[go_sem,zE,zA,zM,zL,fits,dP];refine (nq gl _ _ _ (.inr rfl) D (by simp only[dt];omega) _).mono ?_;rintro r _ ⟨A,rfl⟩;have h1:=sq1 A;obtain⟨_,_,_,_,rfl⟩:=IsSq.two A.w;simp only[go_sem,zA,zM,zL,fits,dP];refine λg=>eB λhg=>?_;exact cO (.inr ⟨g,2,_,hg,rfl,rfl,by simp,j_ h1,_,_,rfl,.inr rfl,.inr ⟨by simp,rfl,g,rfl⟩,h1⟩)
def xQ:AddOk gl 184 (λm a b=>[⟨[a],[]⟩]):=by
 refine AddOk.of gl λm a b W U O hm ha hb E ib im D st=>?_;refine fe ?_;refine ICall.intro (c:=cf prog gl [10] []) func184 rfl (by show _<=11;simp) (by kernel_rfl) ?_;simp only[go_sem,zE,zA,zM,zL,fits,dP];refine (n_ gl _ _ _ (.inr rfl) E (by simp only[dt];omega) _).mono ?_;rintro r _ ⟨A,rfl⟩;have h1:=sq1 A;obtain⟨_,_,_,_,rfl⟩:=IsSq.two A.w;simp only[go_sem,zA,zM,zL,fits,dP];refine λg=>eB λhg=>?_;exact cO (.inr ⟨g,2,_,hg,rfl,rfl,by simp,j_ h1,_,_,rfl,.inr rfl,.inr ⟨by simp,rfl,g,rfl⟩,h1⟩)
def xT:AddOk gl 186 (λm a b=>[⟨[],[a]⟩]):=by
 refine AddOk.of gl λm a b W U O hm ha hb E ib im D st=>?_;refine fe ?_;refine ICall.intro (c:=cf prog gl [10] []) func186 rfl (by show _<=11;simp) (by kernel_rfl) ?_;simp only[go_sem,zE,zA,zM,zL,fits,dP];refine (nq gl _ _ _ (.inr rfl) E (by simp only[dt];omega) _).mono ?_;rintro r _ ⟨A,rfl⟩;have h1:=sq1 A;obtain⟨_,_,_,_,rfl⟩:=IsSq.two A.w;simp only[go_sem,zA,zM,zL,fits,dP];refine λg=>eB λhg=>?_;exact cO (.inr ⟨g,2,_,hg,rfl,rfl,by simp,j_ h1,_,_,rfl,.inr rfl,.inr ⟨by simp,rfl,g,rfl⟩,h1⟩)
def xU:AddOk gl 225 (λm a b=>[⟨[a],[b]⟩]):=by
 refine AddOk.of gl λm a b ak aj ai hm ha hb ia ib im ag st=>?_;refine fe ?_;refine ICall.intro (c:=cf prog gl [14] [(1,[0,1,3,4,2,5,6,7,8])]) func225 rfl (by show _<=15;simp) (by kernel_rfl) ?_;simp only[go_sem,zE,zA,zM,zL,fits,dP];refine (nZ gl _ _ _ (.inr rfl) ia (by simp only[dt];omega) _).mono ?_;rintro _ _ ⟨ae,ab,rfl,O,W,D,rfl⟩;simp only[go_sem,zE,zA];refine (nZ gl _ _ _ (.inr rfl) ib (by simp only[dt];omega) _).mono ?_;rintro _ _ ⟨ac,aa,rfl,E,U,A,rfl⟩;simp only[go_sem,zE,zA,zM,zL,fits,dP];have h1:=sq1 (s:=⟨[a],[b]⟩) ⟨_,_,_,_,rfl,O,W,D,E,U,A⟩;refine λg=>eB λhg=>?_;exact cO (.inr ⟨g,2,_,hg,rfl,rfl,by simp,j_ h1,_,_,rfl,.inr rfl,.inr ⟨by simp,rfl,g,rfl⟩,h1⟩)
def xV:AddOk gl 229 (λm a b=>[⟨[a],[b]⟩,⟨[b],[a]⟩]):=by
 refine AddOk.of gl λm a b ay ax aw hm ha hb ia ib im av st=>?_;refine fe ?_;refine ICall.intro (c:=cf prog gl [21] [(1,[0,1,3,4,7,8,10,11,2,5,6,9,12,13,14,15])]) func229 rfl (by show _<=22;simp) (by kernel_rfl) ?_;simp only[go_sem,zE,zA,zM,zL,fits,dP];refine (nZ gl _ _ _ (.inr rfl) ia (by simp only[dt];omega) _).mono ?_;rintro _ _ ⟨au,an,rfl,ab,ag,O,rfl⟩;simp only[go_sem,zE,zA];refine (nZ gl _ _ _ (.inr rfl) ib (by simp only[dt];omega) _).mono ?_;rintro _ _ ⟨ar,am,rfl,aa,af,E,rfl⟩;simp only[go_sem,zE,zA,zL,fits];refine (nZ gl _ _ _ (.inr rfl) ib (by simp only[dt];omega) _).mono ?_;rintro _ _ ⟨aq,ak,rfl,W,ae,D,rfl⟩;simp only[go_sem,zE,zA];refine (nZ gl _ _ _ (.inr rfl) ia (by simp only[dt];omega) _).mono ?_;rintro _ _ ⟨ao,aj,rfl,U,ac,A,rfl⟩;simp only[go_sem,zE,zA,zM,zL,fits,fF];have h1:=sq2 (s:=⟨[a],[b]⟩) (s':=⟨[b],[a]⟩) ⟨_,_,_,_,rfl,ab,ag,O,aa,af,E⟩ ⟨_,_,_,_,rfl,W,ae,D,U,ac,A⟩;refine λg=>eB λhg=>?_;exact cO (.inr ⟨g,2,_,hg,rfl,rfl,by simp,j_ h1,_,_,rfl,.inr rfl,.inr ⟨by simp,rfl,g,rfl⟩,h1⟩)
def xW:AddOk gl 227 (λm a b=>[⟨[impF a b,impF b a],[]⟩]):=by
 refine AddOk.of gl λm a b aa E D hm ha hb ia ib im W st=>?_;refine fe ?_;refine ICall.intro (c:=cf prog gl [15] [(1,[0,1,3,4,2,5,6,7,8,9])]) func227 rfl (by show _<=16;simp) (by kernel_rfl) ?_;simp only[go_sem,zE,zA,zL];refine (DG gl a b _ _ E D _).mono ?_;rintro r _ ⟨A,rfl⟩;have U:=A;obtain⟨_,_,_,_,_,_,rfl⟩:=A.agg;simp only[go_sem,zE,zA];refine (DG gl b a _ _ D E _).mono ?_;rintro r _ ⟨A,rfl⟩;have O:IsFms [impF a b,impF b a] [_,_]:=⟨_,_,rfl,U,IsFms.one A⟩
 obtain⟨_,_,_,_,_,_,rfl⟩:=A.agg;simp only[go_sem,zE,zA,zM,zL,fits,fF];refine (n_ gl _ _ _ (.inr rfl) O (by simp only[dt,impF,Fm.size,dN];omega) _).mono ?_;rintro r _ ⟨A,rfl⟩;have h1:=sq1 A;obtain⟨_,_,_,_,rfl⟩:=IsSq.two A.w;simp only[go_sem,zA,zM,zL,fits,dP];refine λg=>eB λhg=>?_;exact cO (.inr ⟨g,2,_,hg,rfl,rfl,by simp,j_ h1,_,_,rfl,.inr rfl,.inr ⟨by simp,rfl,g,rfl⟩,h1⟩)
def IsHf (h:Bool×Fm)(x:IV):Prop:=∃(o:Int) (n:ByteArray) (t:Tag) (A:List IV) (D:Tag) (ys:List IV),x=.agg [h.1,.raw (.int .u8 o),n,.sl t A,.sl D ys]/\IsFm h.2 (.agg [.raw (.int .u8 o),n,.sl t A,.sl D ys])
def IsHfs:List (Bool×Fm)->List IV->Prop
 | [],A=>A=[]
 | a::l,A=>∃y ys,A=y::ys/\IsHf a y/\IsHfs l ys
def IsHss:List (List (Bool×Fm))->List IV->Prop
 | [],A=>A=[]
 | a::l,A=>∃t zs ys,A=.sl t zs::ys/\okEs t 5/\IsHfs a zs/\IsHss l ys
def IsHfs.len:∀ {l:List (Bool×Fm)}{A:List IV},IsHfs l A->A.length=l.length
 | [],_,rfl=>rfl
 | a::l,_,⟨y,ys,rfl,_,h⟩=>by simp[IsHfs.len h]
def IsHss.len:∀ {l:List (List (Bool×Fm))}{A:List IV},IsHss l A->A.length=l.length
 | [],_,rfl=>rfl
 | a::l,_,⟨_,_,ys,rfl,_,_,h⟩=>by simp[IsHss.len h]
def IsHfs.get:∀ {l:List (Bool×Fm)}{D:List IV}{k:Nat}{a:Bool×Fm},IsHfs l D->l[k]?=some a->∃x,D[k]?=some x/\IsHf a x
 | [],D,k,a,h,A=>by simp at A
 | b::l,_,0,a,⟨y,ys,rfl,E,h⟩,A=>by simp at A;subst A;exact⟨y,rfl,E⟩
 | b::l,_,k+1,a,⟨y,ys,rfl,E,h⟩,A=>by simpa using IsHfs.get h (by simpa using A)
def IsHss.get:∀ {l:List (List (Bool×Fm))}{D:List IV}{k:Nat}{a:List (Bool×Fm)},IsHss l D->l[k]?=some a->∃t zs,D[k]?=some (.sl t zs)/\okEs t 5/\IsHfs a zs
 | [],D,k,a,h,A=>by simp at A
 | b::l,_,0,a,⟨t,zs,ys,rfl,O,E,h⟩,A=>by simp at A;subst A;exact⟨t,zs,rfl,O,E⟩
 | b::l,_,k+1,a,⟨t,zs,ys,rfl,O,E,h⟩,A=>by simpa using IsHss.get h (by simpa using A)
def hf1 {h:Bool×Fm}{x:IV}(h1:IsHf h x):IsHfs [h] [x]:=⟨_,_,rfl,h1,rfl⟩
def hf2 {h D:Bool×Fm}{x A:IV}(h1:IsHf h x)(h2:IsHf D A):IsHfs [h,D] [x,A]:=⟨_,_,rfl,h1,hf1 h2⟩
def hs1 {a:List (Bool×Fm)}{t:Tag}{zs:List IV}(A:okEs t 5)(h:IsHfs a zs):IsHss [a] [.sl t zs]:=⟨_,_,_,rfl,A,h,rfl⟩
def hs2 {a a':List (Bool×Fm)}{t E:Tag}{zs A:List IV}(O:okEs t 5)(h:IsHfs a zs)(D:okEs E 5)(U:IsHfs a' A):IsHss [a,a'] [.sl t zs,.sl E A]:=⟨_,_,_,rfl,O,h,hs1 D U⟩
def l6 (f:Fm)(x:IV)(hx:IsFm f x)(st:ISt):ICall prog gl 142 [x] st (λr st'=>IsHf (true,f) r/\st'=st):=by
 have A:=hx;obtain⟨O,n1,t1,E,t2,D,rfl⟩:=hx.agg;refine iI func142 ?_;simp only[go_sem,zE,zA,zL,fits];exact cO ⟨⟨_,_,_,_,_,_,rfl,A⟩,rfl⟩
def no_c (f:Fm)(x:IV)(hx:IsFm f x)(st:ISt):ICall prog gl 140 [x] st (λr st'=>IsHf (false,f) r/\st'=st):=by
 have A:=hx;obtain⟨O,n1,t1,E,t2,D,rfl⟩:=hx.agg;refine iI func140 ?_;simp only[go_sem,zE,zA,zL,fits];exact cO ⟨⟨_,_,_,_,_,_,rfl,A⟩,rfl⟩
def DH (a b:Fm)(x y:IV)(hx:IsFm a x)(A:IsFm b y)(st:ISt):ICall prog gl 150 [x,y] st (λr st'=>IsFm (impF a b) r/\st'=st):=by
 have h1:IsFms [a,b] [x,y]:=⟨_,_,rfl,hx,_,_,rfl,A,rfl⟩
 obtain⟨o5,n5,t5,U,t6,O,rfl⟩:=hx.agg;obtain⟨W,n7,t7,E,t8,D,rfl⟩:=A.agg;refine iI func150 ?_;simp only[go_sem,zE,zA,zM,zL,fits,fF];exact cO ⟨⟨_,_,_,_,rfl,by decide,.inl rfl,rfl,.inr rfl,h1⟩,rfl⟩
def l7 (id:Nat)(F:Fm->Fm->List (List (Bool×Fm))):Prop:=∀(a b:Fm) (x y:IV) (_:IsFm a x) (_:IsFm b y) (st:ISt),
 ICall prog gl id [x,y] st (λr st'=>∃D A,r=.sl D A/\okEs D 1/\IsHss (F a b) A/\st'=st)
def Mx:l7 gl 139 (λa b=>[[(false,a)]]):=by
 intro a b x y hx E st;have A:=hx;have O:=E;obtain⟨o1,n1,t1,x1,t2,x2,rfl⟩:=hx.agg;obtain⟨o3,n3,t3,W,t4,U,rfl⟩:=E.agg;refine iI func139 ?_;simp only[go_sem,zE,zA,zL];refine (no_c gl _ _ A _).mono ?_;rintro r _ ⟨h1,rfl⟩;have D:=h1;obtain⟨_,_,_,_,_,_,rfl,_⟩:=h1;simp only[go_sem,zA,zM,zL,fits,dP];exact cO ⟨_,_,rfl,.inr rfl,hs1 (.inr rfl) (hf1 D),rfl⟩
def My:l7 gl 141 (λa b=>[[(true,a)]]):=by
 intro a b x y hx E st;have A:=hx;have O:=E;obtain⟨o1,n1,t1,x1,t2,x2,rfl⟩:=hx.agg;obtain⟨o3,n3,t3,W,t4,U,rfl⟩:=E.agg;refine iI func141 ?_;simp only[go_sem,zE,zA,zL];refine (l6 gl _ _ A _).mono ?_;rintro r _ ⟨h1,rfl⟩;have D:=h1;obtain⟨_,_,_,_,_,_,rfl,_⟩:=h1;simp only[go_sem,zA,zM,zL,fits,dP];exact cO ⟨_,_,rfl,.inr rfl,hs1 (.inr rfl) (hf1 D),rfl⟩
def Mz:l7 gl 143 (λa b=>[[(true,a),(true,b)]]):=by
 intro a b x y hx U st;have D:=hx;have A:=U;obtain⟨o1,n1,t1,x1,t2,x2,rfl⟩:=hx.agg;obtain⟨o3,n3,t3,x3,t4,W,rfl⟩:=U.agg;refine ICall.intro (c:=cf prog gl [] [(1,[0,2,1,3,4,5,6])]) func143 rfl (by show _<=11;simp) (by kernel_rfl) ?_;simp only[go_sem,zE,zA,zL];refine (l6 gl _ _ D _).mono ?_;rintro r1 _ ⟨h1,rfl⟩;have O:=h1;obtain⟨_,_,_,_,_,_,rfl,_⟩:=h1;simp only[go_sem,zE,zA];refine (l6 gl _ _ A _).mono ?_;rintro r2 _ ⟨h2,rfl⟩;have E:=h2;obtain⟨_,_,_,_,_,_,rfl,_⟩:=h2;simp only[go_sem,zE,zA,zM,zL,fits,dP,fF];exact cO ⟨_,_,rfl,.inr rfl,hs1 (.inr rfl) (hf2 O E),rfl⟩
def MA:l7 gl 144 (λa b=>[[(false,a)],[(false,b)]]):=by
 intro a b x y hx U st;have D:=hx;have A:=U;obtain⟨o1,n1,t1,x1,t2,x2,rfl⟩:=hx.agg;obtain⟨o3,n3,t3,x3,t4,W,rfl⟩:=U.agg;refine ICall.intro (c:=cf prog gl [] [(1,[0,3,1,2,4,5,6,7])]) func144 rfl (by show _<=12;simp) (by kernel_rfl) ?_;simp only[go_sem,zE,zA,zL];refine (no_c gl _ _ D _).mono ?_;rintro r1 _ ⟨h1,rfl⟩;have O:=h1;obtain⟨_,_,_,_,_,_,rfl,_⟩:=h1;simp only[go_sem,zE,zA,zM,zL,fits,dP];refine (no_c gl _ _ A _).mono ?_;rintro r2 _ ⟨h2,rfl⟩;have E:=h2;obtain⟨_,_,_,_,_,_,rfl,_⟩:=h2;simp only[go_sem,zE,zA,zM,zL,fits,dP,fF];exact cO ⟨_,_,rfl,.inr rfl,hs2 (.inr rfl) (hf1 O) (.inr rfl) (hf1 E),rfl⟩
def MB:l7 gl 145 (λa b=>[[(true,a)],[(true,b)]]):=by
 intro a b x y hx U st;have D:=hx;have A:=U;obtain⟨o1,n1,t1,x1,t2,x2,rfl⟩:=hx.agg;obtain⟨o3,n3,t3,x3,t4,W,rfl⟩:=U.agg;refine ICall.intro (c:=cf prog gl [] [(1,[0,3,1,2,4,5,6,7])]) func145 rfl (by show _<=12;simp) (by kernel_rfl) ?_;simp only[go_sem,zE,zA,zL];refine (l6 gl _ _ D _).mono ?_;rintro r1 _ ⟨h1,rfl⟩;have O:=h1;obtain⟨_,_,_,_,_,_,rfl,_⟩:=h1;simp only[go_sem,zE,zA,zM,zL,fits,dP];refine (l6 gl _ _ A _).mono ?_;rintro r2 _ ⟨h2,rfl⟩;have E:=h2;obtain⟨_,_,_,_,_,_,rfl,_⟩:=h2;simp only[go_sem,zE,zA,zM,zL,fits,dP,fF];exact cO ⟨_,_,rfl,.inr rfl,hs2 (.inr rfl) (hf1 O) (.inr rfl) (hf1 E),rfl⟩
def MC:l7 gl 146 (λa b=>[[(false,a),(false,b)]]):=by
 intro a b x y hx U st;have D:=hx;have A:=U;obtain⟨o1,n1,t1,x1,t2,x2,rfl⟩:=hx.agg;obtain⟨o3,n3,t3,x3,t4,W,rfl⟩:=U.agg;refine ICall.intro (c:=cf prog gl [] [(1,[0,2,1,3,4,5,6])]) func146 rfl (by show _<=11;simp) (by kernel_rfl) ?_;simp only[go_sem,zE,zA,zL];refine (no_c gl _ _ D _).mono ?_;rintro r1 _ ⟨h1,rfl⟩;have O:=h1;obtain⟨_,_,_,_,_,_,rfl,_⟩:=h1;simp only[go_sem,zE,zA];refine (no_c gl _ _ A _).mono ?_;rintro r2 _ ⟨h2,rfl⟩;have E:=h2;obtain⟨_,_,_,_,_,_,rfl,_⟩:=h2;simp only[go_sem,zE,zA,zM,zL,fits,dP,fF];exact cO ⟨_,_,rfl,.inr rfl,hs1 (.inr rfl) (hf2 O E),rfl⟩
def MD:l7 gl 147 (λa b=>[[(false,a)],[(true,b)]]):=by
 intro a b x y hx U st;have D:=hx;have A:=U;obtain⟨o1,n1,t1,x1,t2,x2,rfl⟩:=hx.agg;obtain⟨o3,n3,t3,x3,t4,W,rfl⟩:=U.agg;refine ICall.intro (c:=cf prog gl [] [(1,[0,3,1,2,4,5,6,7])]) func147 rfl (by show _<=12;simp) (by kernel_rfl) ?_;simp only[go_sem,zE,zA,zL];refine (no_c gl _ _ D _).mono ?_;rintro r1 _ ⟨h1,rfl⟩;have O:=h1;obtain⟨_,_,_,_,_,_,rfl,_⟩:=h1;simp only[go_sem,zE,zA,zM,zL,fits,dP];refine (l6 gl _ _ A _).mono ?_;rintro r2 _ ⟨h2,rfl⟩;have E:=h2;obtain⟨_,_,_,_,_,_,rfl,_⟩:=h2;simp only[go_sem,zE,zA,zM,zL,fits,dP,fF];exact cO ⟨_,_,rfl,.inr rfl,hs2 (.inr rfl) (hf1 O) (.inr rfl) (hf1 E),rfl⟩
def ME:l7 gl 148 (λa b=>[[(true,a),(false,b)]]):=by
 intro a b x y hx U st;have D:=hx;have A:=U;obtain⟨o1,n1,t1,x1,t2,x2,rfl⟩:=hx.agg;obtain⟨o3,n3,t3,x3,t4,W,rfl⟩:=U.agg;refine ICall.intro (c:=cf prog gl [] [(1,[0,2,1,3,4,5,6])]) func148 rfl (by show _<=11;simp) (by kernel_rfl) ?_;simp only[go_sem,zE,zA,zL];refine (l6 gl _ _ D _).mono ?_;rintro r1 _ ⟨h1,rfl⟩;have O:=h1;obtain⟨_,_,_,_,_,_,rfl,_⟩:=h1;simp only[go_sem,zE,zA];refine (no_c gl _ _ A _).mono ?_;rintro r2 _ ⟨h2,rfl⟩;have E:=h2;obtain⟨_,_,_,_,_,_,rfl,_⟩:=h2;simp only[go_sem,zE,zA,zM,zL,fits,dP,fF];exact cO ⟨_,_,rfl,.inr rfl,hs1 (.inr rfl) (hf2 O E),rfl⟩
def MF:l7 gl 149 (λa b=>[[(true,impF a b),(true,impF b a)]]):=by
 intro a b x y hx hy st;have D:=hx;have A:=hy;obtain⟨o1,n1,t1,x1,t2,x2,rfl⟩:=hx.agg;obtain⟨o3,n3,t3,x3,t4,x4,rfl⟩:=hy.agg;refine ICall.intro (c:=cf prog gl [] [(1,[0,1,4,5,2,3,6,7,8,9,10])]) func149 rfl (by show _<=15;simp) (by kernel_rfl) ?_;simp only[go_sem,zE,zA,zL];refine (DH gl _ _ _ _ D A _).mono ?_;rintro _ _ ⟨hi,rfl⟩;have O:=hi;obtain⟨o5,n5,t5,x5,t6,x6,rfl⟩:=hi.agg;simp only[go_sem,zA];refine (l6 gl _ _ O _).mono ?_;rintro r1 _ ⟨h1,rfl⟩;have W:=h1;obtain⟨_,_,_,_,_,_,rfl,_⟩:=h1;simp only[go_sem,zE,zA];refine (DH gl _ _ _ _ A D _).mono ?_;rintro _ _ ⟨hj,rfl⟩;have E:=hj;obtain⟨o7,n7,t7,x7,t8,x8,rfl⟩:=hj.agg;simp only[go_sem,zA];refine (l6 gl _ _ E _).mono ?_;rintro r2 _ ⟨h2,rfl⟩;have U:=h2;obtain⟨_,_,_,_,_,_,rfl,_⟩:=h2;simp only[go_sem,zE,zA,zM,zL,fits,dP,fF];exact cO ⟨_,_,rfl,.inr rfl,hs1 (.inr rfl) (hf2 W U),rfl⟩
def MG:l7 gl 151 (λa b=>[[(true,a),(false,b)],[(true,b),(false,a)]]):=by
 intro a b x y hx hy st;have D:=hx;have A:=hy;obtain⟨o1,n1,t1,x1,t2,x2,rfl⟩:=hx.agg;obtain⟨o3,n3,t3,x3,t4,x4,rfl⟩:=hy.agg;refine ICall.intro (c:=cf prog gl [] [(1,[0,2,5,7,1,3,4,6,8,9,10,11])]) func151 rfl (by show _<=16;simp) (by kernel_rfl) ?_;simp only[go_sem,zE,zA,zL];refine (l6 gl _ _ D _).mono ?_;rintro r1 _ ⟨h1,rfl⟩;have W:=h1;obtain⟨_,_,_,_,_,_,rfl,_⟩:=h1;simp only[go_sem,zE,zA];refine (no_c gl _ _ A _).mono ?_;rintro r2 _ ⟨h2,rfl⟩;have U:=h2;obtain⟨_,_,_,_,_,_,rfl,_⟩:=h2;simp only[go_sem,zE,zA,zM,zL,fits,fF];refine (l6 gl _ _ A _).mono ?_;rintro r3 _ ⟨h3,rfl⟩;have O:=h3;obtain⟨_,_,_,_,_,_,rfl,_⟩:=h3;simp only[go_sem,zE,zA];refine (no_c gl _ _ D _).mono ?_;rintro r4 _ ⟨h4,rfl⟩;have E:=h4;obtain⟨_,_,_,_,_,_,rfl,_⟩:=h4;simp only[go_sem,zE,zA,zM,zL,fits,fF];exact cO ⟨_,_,rfl,.inr rfl,hs2 (.inr rfl) (hf2 W U) (.inr rfl) (hf2 O E),rfl⟩
def mC (b:Bool)(o:Int):Nat :=
 if o=3 then (if b then 139 else 141) else if o=4 then (if b then 143 else 144)
 else if o=5 then (if b then 145 else 146) else if o=6 then (if b then 147 else 148)
 else if o=7 then (if b then 149 else 151) else if o=10 then (if b then 152 else 153)
 else (if b then 154 else 155)
def sgV (b:Bool)(o:Int):Value:=.agg #[.bool b,.int .u8 o]
def ql (r:Nat×Nat)(id:Nat):IV:=.agg [.raw (.int .u8 r.1),r.2,.fn (.func id) [] []]
def rowZ:IV:=.agg [.raw (.int .u8 0),(0:Int),.raw .nilFunc]
def tN (b A:Bool)(o o':Int)(v:IV):∀es:List (Value×IV),e8 (sgV b o) (updI (sgV A o') v es)=if b=A/\o=o' then some v else e8 (sgV b o) es
 | []=>by
  have e:f_ (sgV b o) (sgV A o')=(decide (b=A)&&decide (o=o')):=rfl;simp only[updI,e8,e];by_cases h:b=A/\o=o'<;>simp[h]
 | (x,u)::es=>by
  have e:f_ (sgV b o) (sgV A o')=(decide (b=A)&&decide (o=o')):=rfl;simp only[updI];by_cases D:f_ (sgV A o') x=true
  ·rw[b_ D];have hx:f_ (sgV b o) x=(decide (b=A)&&decide (o=o')):=by
    cases x<;>simp only[sgV,f_,bFt] at D ⊢;rename_i c;obtain⟨l⟩:=c
    match l,D with
    | [.bool a,.int _ n],D =>
     simp only[qM,bAt,dTe] at D ⊢;rw[D.1,D.2]
   simp only[e8,e,hx];by_cases h:b=A/\o=o'
   ·simp[h]
   ·have:(decide (b=A)&&decide (o=o'))=false:=by
     rw[Bool.eq_false_iff,ne_eq,bAt,dTe,dTe];exact h
    rw[this,a_ h];rfl
  ·rw[a_ D];simp only[e8];rw[tN b A o o' v es];by_cases h:b=A/\o=o'
   ·obtain⟨rfl,rfl⟩:=h;simp[D]
   ·simp[h]
def kB (k:Nat):Bool:=k%2 == 0
def kO (k:Nat):Nat:=[3,3,4,4,5,5,6,6,7,7,10,10,11,11].getD k 0
def kR (k:Nat):Nat×Nat:=(rowT (kB k) (kO k)).getD (0,0)
def kIV (k:Nat):IV:=.agg [(kB k:Bool),.raw (.int .u8 (kO k))]
def vIV (k:Nat):IV:=ql (kR k) (mC (kB k) (kO k))
def opT (i:Nat):Oper :=
 if i=0 then ⟨some 1,.makeMap 118 none,118, "tableau.go:89",#[],none⟩
 else if i=43 then ⟨some 30,.move (.tmp 1),118, "tableau.go:89",⟨(List.range 43).map λj=>⟨j,.data⟩⟩,none⟩
 else if i=44 then ⟨some 0,.assign (.tmp 30),118, "tableau.go:89",⟨⟨43,.data⟩::(List.range 44).map λj=>⟨j,.phase⟩⟩,none⟩
 else if i%3=1 then ⟨some (2+2*(i / 3)),.build 223 ⟨[(0,.const (.bool (kB (i / 3)))),(1,.const (.int .u8 (kO (i / 3))))]⟩,223, "tableau.go:89",#[],none⟩
 else if i%3=2 then ⟨some (3+2*(i / 3)),.build 231 ⟨[(0,.const (.int .u8 (kR (i / 3)).1)),(1,.const (.int .i64 (kR (i / 3)).2)),(2,.func (mC (kB (i / 3)) (kO (i / 3))))]⟩,231, "tableau.go:89",#[],none⟩
 else ⟨none,.insert 118 (.tmp 1) (.tmp (2+2*(i / 3-1))) (.tmp (3+2*(i / 3-1))),0, "tableau.go:89",⟨[⟨0,.data⟩,⟨i-2,.data⟩,⟨i-1,.data⟩]⟩,none⟩
def opsT:Array Oper:=⟨(List.range 45).map opT⟩
def mD (b i:Nat):Option (Nat×IV) :=
 if i=0 then some (1,.raw (.map (some b))) else if i=43 then some (30,.raw (.map (some b))) else if i=44 then some (0,.raw (.map (some b)))
 else if i%3=1 then some (2+2*(i / 3),kIV (i / 3)) else if i%3=2 then some (3+2*(i / 3),vIV (i / 3)) else none
def rP {b i j d D:Nat}{v E:IV}(W:i<45)(U:j<45)(h:mD b i=some (d,v))(A:mD b j=some (D,E))(O:i≠j):d≠D:=by
 unfold mD at h A
 repeat' split at h
 all_goals first|(cases h;done)|skip
 all_goals (repeat' split at A)
 all_goals first|(cases A;done)|skip
 all_goals (cases h;cases A;omega)
@[go_sem] def VY:mapI prog 118=some (.sg,rowZ):=by kernel_rfl
def DI (A:Array Bool)(es:List (Value×IV)):Prop :=
 (∀k,k<14->e8 (sgV (kB k) (kO k)) es=if A.getD (3+3*k) false=true then some (vIV k) else none)/\∀b o,rowT b o=none->e8 (sgV b o) es=none
def TabJ (st:ISt)(A:Array Bool):Kt:=λ_ fr st' ds=>ds=[]/\∃b es,
 ((A.getD 0 false=true/\st b=none/\st'=st.put b (some (.map .sg es))/\DI A es) \/
  (A.getD 0 false=false/\st'=st/\A.getD 43 false=false/\A.getD 44 false=false/\∀k,k<14->A.getD (3+3*k) false=false)) /\
 ∀i,i<45->A.getD i false=true->∀d v,mD b i=some (d,v)->fr d=.iv v
def fu {l:Array Bool}{i j:Nat}(A:i<l.size):(l.setIfInBounds i true).getD j false=if i=j then true else l.getD j false:=by
 by_cases h:i=j
 ·subst h;rw[b_ rfl];simp[A]
 ·rw[a_ h,fq false h]
def dT (c:Cf)(ops:List Oper)(dst:Option Nat)(op:Op)(D:TypeId)(pos:String)(A:Array Edge)(K:Kt)(ad:Ad)(fr:Fr)(st:ISt)(ds:List Dfd):jc c ops ⟨dst,op,D,pos,A,none⟩ K ad fr st ds=vcOp c dst op K ad fr st ds:=rfl
def MH {ops:Array Oper}{A:Array Bool}(U:∀i,i<ops.size->∀e∈(opAt ops i).after,e.on<i)(hz:A.size=ops.size)(hr:Region.ready .any ops A=[]):∀i,i<ops.size->A.getD i false=true:=by
 intro i
 induction i using Nat.strongRecOn with
 | _ i W =>
  intro E;have D:A.getD i false=A.getD i true:=by
   rw[gx,gx,jj (by rw[hz];exact E)];rfl
  refine fL λhc=>?_;have:i∈Region.ready .any ops A:=fb.2 ⟨by rw[<- D];simpa using hc,_,iC E,λe O _=>W e.on (U i E e O) (js (U i E e O) E)⟩;rw[hr] at this;cases this
def MI (ops:Array Oper):Bool:=(List.range ops.size).all λi=>(opAt ops i).after.toList.all λe=>decide (e.on<i)
def xX {ops:Array Oper}{A:Array Bool}(h:MI ops=true)(D:A.size=ops.size)(E:Region.ready .any ops A=[]):∀i,i<ops.size->A.getD i false=true :=
 MH (λi O e U=>eI (ed.1 (ed.1 h i (gy.2 O)) e (by simpa using U))) D E
def DJ {i:Nat}(A:i<45):opAt opsT i=opT i:=by
 unfold opAt opsT;rw[gx];simp[A]
def lu (es:List (Value×IV)):Prop:=∀b o,e8 (sgV b o) es=(rowT b o).map λr=>ql r (mC b o)
def MJ {A:Array Bool}{es:List (Value×IV)}(U:∀k,k<14->A.getD (3+3*k) false=true)(h:DI A es):lu es:=by
 intro b o;cases D:rowT b o with
 | none=>exact h.2 b o D
 | some r =>
  obtain⟨k,E,rfl,rfl⟩:∃k,k<14/\b=kB k/\o=kO k:=by
   have O:o=3\/o=4\/o=5\/o=6\/o=7\/o=10\/o=11:=by
    refine fL λhc=>?_;unfold rowT at D
    repeat (rw[a_ (by omega)] at D)
    cases D
   rcases O with rfl|rfl|rfl|rfl|rfl|rfl|rfl<;>cases b
   ·exact⟨1,by decide,rfl,rfl⟩
   ·exact⟨0,by decide,rfl,rfl⟩
   ·exact⟨3,by decide,rfl,rfl⟩
   ·exact⟨2,by decide,rfl,rfl⟩
   ·exact⟨5,by decide,rfl,rfl⟩
   ·exact⟨4,by decide,rfl,rfl⟩
   ·exact⟨7,by decide,rfl,rfl⟩
   ·exact⟨6,by decide,rfl,rfl⟩
   ·exact⟨9,by decide,rfl,rfl⟩
   ·exact⟨8,by decide,rfl,rfl⟩
   ·exact⟨11,by decide,rfl,rfl⟩
   ·exact⟨10,by decide,rfl,rfl⟩
   ·exact⟨13,by decide,rfl,rfl⟩
   ·exact⟨12,by decide,rfl,rfl⟩
  rw[h.1 k E,b_ (U k E),vIV,kR,D];rfl
def nr {N:Nat}{L:Nat->Option (Nat×IV)}(W:∀ {i j d O v U},i<N->j<N->L i=some (d,v)->L j=some (O,U)->i≠j->d≠O){i d:Nat}{v:IV}{A:Array Bool}{fr:Fr}(hz:A.size=N)(hi:i<N)(hs:L i=some (d,v))(h:∀j,j<N->A.getD j false=true->∀d v,L j=some (d,v)->fr d=.iv v) :
  ∀j,j<N->(A.setIfInBounds i true).getD j false=true->∀O U,L j=some (O,U)->fr.put d (.iv v) O=.iv U:=by
 intro j hj hl O U D;rw[Fr.put_apply];by_cases E:i=j
 ·subst E;rw[hs] at D;cases D;rw[b_ rfl]
 ·rw[a_ (W hi hj hs D E).symm];rw[fu (by omega),a_ E] at hl;exact h j hj hl O U D
def k_lt {k:Nat}(A:k<14):kO k<=255:=by
 rcases (show k=0\/k=1\/k=2\/k=3\/k=4\/k=5\/k=6\/k=7\/k=8\/k=9\/k=10\/k=11\/k=12\/k=13 by omega) with rfl|rfl|rfl|rfl|rfl|rfl|rfl|rfl|rfl|rfl|rfl|rfl|rfl|rfl<;>decide
def xY {k j:Nat}(A:k<14)(D:j<14)(h1:kB k=kB j)(h2:kO k=kO j):k=j:=by
 have key:((List.range 14).all λk=>(List.range 14).all λj=>!(kB k == kB j&&kO k == kO j) || decide (k=j))=true:=by decide
 have:=ed.1 (ed.1 key k (gy.2 A)) j (gy.2 D);rw[h1,h2] at this;simpa using this
def MK {k:Nat}(A:k<14):∃r,rowT (kB k) (kO k)=some r:=by
 rcases (show k=0\/k=1\/k=2\/k=3\/k=4\/k=5\/k=6\/k=7\/k=8\/k=9\/k=10\/k=11\/k=12\/k=13 by omega) with rfl|rfl|rfl|rfl|rfl|rfl|rfl|rfl|rfl|rfl|rfl|rfl|rfl|rfl<;>exact⟨_,rfl⟩
def DK {b k:Nat}(A:k<14):mD b (1+3*k)=some (2+2*k,kIV k):=by
 unfold mD;rw[a_ (by omega),a_ (by omega),a_ (by omega),b_ (by omega),show (1+3*k) / 3=k by omega]
def DL {b k:Nat}(A:k<14):mD b (2+3*k)=some (3+2*k,vIV k):=by
 unfold mD;rw[a_ (by omega),a_ (by omega),a_ (by omega),a_ (by omega),b_ (by omega),show (2+3*k) / 3=k by omega]
def jh (n i:Nat):(Array.replicate n false).getD i false=false:=by
 rw[gx,Array.getElem?_replicate];split<;>rfl
def DM (st:ISt):ICall prog gl 110 [] st (λr st'=>∃b es,st b=none/\r=.raw (.map (some b))/\lu es/\st'=st.put b (some (.map .sg es))):=by
 refine ICall.intro (c:=cf prog gl [] [(1,[])]) func110 rfl (by show _<=31;simp) (by kernel_rfl) ?_;simp only[go_sem];rw[nL];refine mU (ops:=opsT) (TabJ st) ?_ ?_ _ _ _ _ _ _ rfl ?_
 ·intro A ad fr au ds hz hJ i hi;replace hz:A.size=45:=hz;obtain⟨h0,o,ho,O⟩:=fb.1 hi;have ac:i<45:=(gO.1 ho).1;have aA:o=opT i:=by
   have:=iC (ops:=opsT) (i:=i) ac;rw[ho,DJ ac] at this;exact eK this
  subst aA;rw[DJ ac];have aq:A.getD i false=false:=by
   rw[gx,jj (by omega)] at h0 ⊢;exact h0
  obtain⟨rfl,b,es,ab,E⟩:=hJ;by_cases i0:i=0
  ·subst i0;rw[show opT 0=⟨some 1,.makeMap 118 none,118, "tableau.go:89",#[],none⟩ from rfl,dT];obtain⟨U,_⟩|⟨_,rfl,aa,af,lk⟩:=ab
   ·rw[aq] at U;cases U
   simp only[go_sem];refine λb'=>eB λaC=>⟨rfl,b',[],.inl ⟨by rw[fu (by omega),b_ rfl],aC,rfl,λk hk=>?_,λ_ _ _=>rfl⟩,nr rP hz ac rfl λj hj hl d v W=>E j hj hl d v ?_⟩
   ·rw[a_ (by rw[fu (by omega),a_ (by omega),lk k hk];decide)];rfl
   ·have j0:j≠0:=λh=>by rw[h,aq] at hl;cases hl
    have aw:j≠43:=λh=>by rw[h,aa] at hl;cases hl
    have av:j≠44:=λh=>by rw[h,af] at hl;cases hl
    unfold mD at W ⊢;rw[a_ j0,a_ aw,a_ av] at W ⊢;exact W
  by_cases ay:i=43
  ·subst ay;rw[show opT 43=⟨some 30,.move (.tmp 1),118, "tableau.go:89",⟨(List.range 43).map λj=>⟨j,.data⟩⟩,none⟩ from rfl] at O ⊢;have d0:A.getD 0 false=true:=O ⟨0,.data⟩ (by simp) rfl;have f1:=E 0 (by omega) d0 _ _ rfl;rw[dT];simp only[go_sem,f1];refine⟨rfl,b,es,?_,nr rP hz ac rfl E⟩;have st':∀j,43≠j->(A.setIfInBounds (43) true).getD j false=A.getD j false:=λj hj=>by rw[fu (by omega),a_ hj]
   obtain⟨U,hb,W,hf1,hf2⟩|⟨U,W,aa,af,lk⟩:=ab
   ·exact .inl ⟨by rw[st' 0 (by omega)];exact U,hb,W,λk' D=>by rw[hf1 k' D,st' _ (by omega)],hf2⟩
   ·first|(rw[U] at d0;cases d0;done)|(rw[aa] at d0;cases d0;done)
  by_cases ax:i=44
  ·subst ax;rw[show opT 44=⟨some 0,.assign (.tmp 30),118, "tableau.go:89",⟨⟨43,.data⟩::(List.range 44).map λj=>⟨j,.phase⟩⟩,none⟩ from rfl] at O ⊢;have d0:A.getD 43 false=true:=O ⟨43,.data⟩ (by simp) rfl;have f1:=E 43 (by omega) d0 _ _ rfl;rw[dT];simp only[go_sem,f1];refine⟨rfl,b,es,?_,nr rP hz ac rfl E⟩;have st':∀j,44≠j->(A.setIfInBounds (44) true).getD j false=A.getD j false:=λj hj=>by rw[fu (by omega),a_ hj]
   obtain⟨U,hb,W,hf1,hf2⟩|⟨U,W,aa,af,lk⟩:=ab
   ·exact .inl ⟨by rw[st' 0 (by omega)];exact U,hb,W,λk' D=>by rw[hf1 k' D,st' _ (by omega)],hf2⟩
   ·first|(rw[U] at d0;cases d0;done)|(rw[aa] at d0;cases d0;done)
  rcases (show i%3=1\/i%3=2\/i%3=0 by omega) with h3|h3|h3
  ·obtain⟨k,hk,rfl⟩:∃k,k<14/\i=1+3*k:=⟨i / 3,by omega,by omega⟩
   have he:opT (1+3*k)=⟨some (2+2*k),.build 223 ⟨[(0,.const (.bool (kB k))),(1,.const (.int .u8 (kO k)))]⟩,223, "tableau.go:89",#[],none⟩:=by
    unfold opT;rw[a_ (by omega),a_ (by omega),a_ (by omega),b_ (by omega),show (1+3*k) / 3=k by omega]
   rw[he,dT];simp only[go_sem,zA,zL,fits];refine⟨rfl,b,es,?_,nr rP hz ac (DK hk) E⟩;have st':∀j,1+3*k≠j->(A.setIfInBounds (1+3*k) true).getD j false=A.getD j false:=λj hj=>by rw[fu (by omega),a_ hj]
   rcases ab with⟨U,hb,W,hf1,hf2⟩|⟨U,W,aa,af,lk⟩
   ·exact .inl ⟨by rw[st' 0 (by omega)];exact U,hb,W,λk' D=>by rw[hf1 k' D,st' _ (by omega)],hf2⟩
   ·exact .inr ⟨by rw[st' 0 (by omega)];exact U,W,by rw[st' 43 (by omega)];exact aa,by rw[st' 44 (by omega)];exact af,λk' D=>by rw[st' _ (by omega)];exact lk k' D⟩
  ·obtain⟨k,hk,rfl⟩:∃k,k<14/\i=2+3*k:=⟨i / 3,by omega,by omega⟩
   have he:opT (2+3*k)=⟨some (3+2*k),.build 231 ⟨[(0,.const (.int .u8 (kR k).1)),(1,.const (.int .i64 (kR k).2)),(2,.func (mC (kB k) (kO k)))]⟩,231, "tableau.go:89",#[],none⟩:=by
    unfold opT;rw[a_ (by omega),a_ (by omega),a_ (by omega),a_ (by omega),b_ (by omega),show (2+3*k) / 3=k by omega]
   rw[he,dT];simp only[go_sem,zA,zL,fits];refine⟨rfl,b,es,?_,nr rP hz ac (DL hk) E⟩;have st':∀j,2+3*k≠j->(A.setIfInBounds (2+3*k) true).getD j false=A.getD j false:=λj hj=>by rw[fu (by omega),a_ hj]
   rcases ab with⟨U,hb,W,hf1,hf2⟩|⟨U,W,aa,af,lk⟩
   ·exact .inl ⟨by rw[st' 0 (by omega)];exact U,hb,W,λk' D=>by rw[hf1 k' D,st' _ (by omega)],hf2⟩
   ·exact .inr ⟨by rw[st' 0 (by omega)];exact U,W,by rw[st' 43 (by omega)];exact aa,by rw[st' 44 (by omega)];exact af,λk' D=>by rw[st' _ (by omega)];exact lk k' D⟩
  ·obtain⟨k,hk,rfl⟩:∃k,k<14/\i=3+3*k:=⟨i / 3-1,by omega,by omega⟩
   have he:opT (3+3*k)=⟨none,.insert 118 (.tmp 1) (.tmp (2+2*k)) (.tmp (3+2*k)),0, "tableau.go:89",⟨[⟨0,.data⟩,⟨1+3*k,.data⟩,⟨2+3*k,.data⟩]⟩,none⟩:=by
    unfold opT;rw[a_ (by omega),a_ (by omega),a_ (by omega),a_ (by omega),a_ (by omega),show (3+3*k) / 3-1=k by omega,show 3+3*k-2=1+3*k by omega,show 3+3*k-1=2+3*k by omega]
   rw[he] at O ⊢;have d0:A.getD 0 false=true:=O ⟨0,.data⟩ (by simp) rfl;have d1:A.getD (1+3*k) false=true:=O ⟨1+3*k,.data⟩ (by simp) rfl;have d2:A.getD (2+3*k) false=true:=O ⟨2+3*k,.data⟩ (by simp) rfl;have f0:=E 0 (by omega) d0 _ _ rfl;have f1:=E _ (by omega) d1 _ _ (DK hk);have f2:=E _ (by omega) d2 _ _ (DL hk);obtain⟨_,hb,rfl,hf1,hf2⟩|⟨U,_⟩:=ab
   case inr=>rw[d0] at U;cases U
   unfold kIV at f1;unfold vIV ql at f2;have e1:decide ((0:Int)<=(kO k:Int))=true:=dEt (by omega);have e2:decide ((kO k:Int)<=255)=true:=dEt (by have:=k_lt hk;omega);rw[dT];simp only[go_sem,f0,f1,f2,e1,e2,cT,eZ];have st':∀j,3+3*k≠j->(A.setIfInBounds (3+3*k) true).getD j false=A.getD j false:=λj hj=>by rw[fu (by omega),a_ hj]
   refine⟨rfl,b,updI (sgV (kB k) (kO k)) (vIV k) es,.inl ⟨by rw[st' 0 (by omega)];exact d0,hb,rfl,λk' D=>?_,λb' o hn=>?_⟩,λj hj hl d v W=>?_⟩
   ·rw[tN];by_cases an:k'=k
    ·subst an;rw[b_ ⟨rfl,rfl⟩,b_ (by rw[fu (by omega),b_ rfl])]
    ·rw[a_ (λhc=>an (xY D hk hc.1 (by have:=hc.2;omega))),hf1 k' D,st' _ (by omega)]
   ·rw[tN,a_ (λhc=>?_),hf2 b' o hn];obtain⟨r,hr⟩:=MK hk;rw[hc.1,hc.2,hr] at hn;cases hn
   ·by_cases ao:3+3*k=j
    ·subst ao;unfold mD at W;rw[a_ (by omega),a_ (by omega),a_ (by omega),a_ (by omega),a_ (by omega)] at W;cases W
    ·rw[st' j ao] at hl;exact E j hj hl d v W
 ·intro A ad fr au ds hz hr hJ;have hl:=xX (ops:=opsT) (by decide +kernel) hz hr;obtain⟨rfl,b,es,ab,E⟩:=hJ;obtain⟨_,hb,rfl,hf⟩|⟨U,_⟩:=ab
  case inr=>rw[hl 0 (by decide)] at U;cases U
  have f0:=E 44 (by decide) (hl 44 (by decide)) _ _ rfl;simp only[go_sem,f0];exact cO ⟨b,es,hb,rfl,MJ (λk hk=>hl _ (by show 3+3*k<45;omega)) hf,rfl⟩
 ·refine⟨rfl,0,[],.inr ⟨jh _ _,rfl,jh _ _,jh _ _,λk hk=>jh _ _⟩,λi hi hl=>?_⟩;have:=jh 45 i;rw[show (Array.replicate 45 false).getD i false=true from hl] at this;cases this
end Go.Proofs.Tryz
namespace Go.Proofs.Tryz
open Go Go.Iv
def xZ:∀ {l:List Tr}{a:Tr},a∈l->a.steps<=jf l
 | b::l,a,h=>by
  simp only[jf];rcases dC.1 h with rfl|h
  ·omega
  ·have:=xZ h;omega
def wUi {a b:Fm}:eqF a b=true↔a.op=b.op/\a.right=true/\b.right=true/\dbF [] a=dbF [] b:=by
 unfold eqF p_;simp only[bAt,dTe,yZ5,and_assoc]
def x_ {a:Fm}(h:a.right=true):eqF a a=true:=wUi.2 ⟨rfl,h,h,rfl⟩
def zW7 {l:List Fm}{f:Fm}:hasF l f=true↔∃g∈l,eqF f g=true:=by simp[hasF]
def wWo {l m:List Fm}:allF l m=true↔∀f∈l,hasF m f=true:=by simp[allF]
section
variable {ca rule:Nat}{s:Sq}{f:Fm}{u:Tm}{n:ByteArray}{sub:List Tr}(h:(gM ca (.mk rule s f u n sub)).2=0)(h1:s.l.length<64)(h2:s.r.length<64)
include h h1 h2
end
section
variable {ca rule:Nat}{s:Sq}{f:Fm}{u:Tm}{n:ByteArray}{sub:List Tr}(h:(gM ca (.mk rule s f u n sub)).2=0)
include h
end
def DN:∀ {l:List Fm}{g:Fm},g∈l->g.size<=dt l
 | a::l,g,A=>by
  simp only[dt];rcases dC.1 A with rfl|A
  ·omega
  ·have:=DN A;omega
def DO:∀ {l:List Fm}{g:Fm},g∈l->g.deep<=eU l
 | a::l,g,A=>by
  simp only[eU];rcases dC.1 A with rfl|A
  ·omega
  ·have:=DO A;omega
def DP {ca:Nat}:∀ {l:List Fm} {g:Fm},gG ca l=true->g∈l->opsB ca g=true
 | a::l,g,h,A=>by
  simp only[gG,bAt] at h;rcases dC.1 A with rfl|A
  ·exact h.1
  ·exact DP h.2 A
def yWf {ca:Nat}{f:Fm}:fmB ca f=true↔f.ok=true/\f.size<=400/\f.deep<=40/\opsB ca f=true:=by
 unfold fmB Fm.right;grind
def ML {ca op:Nat}{n:ByteArray}{us:List Tm}{sub:List Fm}(h:fmB ca (.mk op n us sub)=true){g:Fm}(A:g∈sub):fmB ca g=true:=by
 obtain⟨h1,h2,E,D⟩:=yWf.1 h;simp only[Fm.ok,bAt] at h1;simp only[Fm.size] at h2;simp only[Fm.deep] at E;simp only[opsB,bAt] at D;have:=DN A;have:=DO A;exact yWf.2 ⟨tE h1.2 A,by omega,by omega,DP D.2 A⟩
def MM {ca:Nat}{n:ByteArray}{us:List Tm}{a b:Fm}(h:fmB ca (.mk 7 n us [a,b])=true):fmB ca (impF a b)=true/\fmB ca (impF b a)=true:=by
 obtain⟨h1,h2,W,U⟩:=yWf.1 h;simp only[Fm.ok,gC,bAt] at h1;simp only[Fm.size,dt] at h2;simp only[Fm.deep,eU] at W;simp only[opsB,gG,bAt] at U;have key:∀x y:Fm,x.ok=true->y.ok=true->opsB ca x=true->opsB ca y=true->x.size+y.size+1<=400->max x.deep y.deep+1<=40->fmB ca (impF x y)=true:=λx y O E D A q5 q6=>by
  refine yWf.2 ⟨?_,?_,?_,?_⟩
  ·simp[impF,Fm.ok,gC,fT,el,O,E,bE]
  ·simp only[impF,Fm.size,dt,dN];omega
  ·simp only[impF,Fm.deep,eU,eE];omega
  ·simp only[impF,opsB,gG,D,A,List.isEmpty_nil,Bool.or_true,jk,bAt,dTe];grind
 grind
def ka {α:Type}{c:Prop} [Decidable c]{a r:α}{x:Option α}(h:(if c then some a else x)=some r):(c/\r=a)\/(¬c/\x=some r):=by
 grind
def DQ {α:Type}{c:Prop} [Decidable c]{a b r:α}(h:(if c then a else b)=r):(c/\a=r)\/(¬c/\b=r):=by
 grind
section
variable (nm:ByteArray)(g:Fm)
end
section
variable {nm:ByteArray}{g:Fm}{ca:Nat}
end
section
variable {nm:ByteArray}{g:Fm}{ca:Nat}
def DR {f:Fm}(h:fmB ca f=true):f.right=true:=by
 unfold fmB at h;grind
def qm {l:List Fm}(h:l.all (fmB ca)=true):l.all Fm.right=true:=ed.2 λf A=>DR (ed.1 h f A)
mutual
noncomputable def oY (ca:Nat):Tr->Bool
 | t@(.mk _ _ _ _ _ sub)=>decide (iP ca t=0)&&oa ca sub
noncomputable def oa (ca:Nat):List Tr->Bool
 | []=>true
 | a::l=>oY ca a&&oa ca l
end
mutual
def DS (ca:Nat):∀(p:List Nat) (t:Tr),(ic (iP ca) (t.walk p)).2=0↔oY ca t=true
 | p,.mk rule s f u n sub=>by
  have A:=DT ca p 0 sub;simp only[Tr.walk,ic,oY,bAt,dTe];grind
def DT (ca:Nat):∀(p:List Nat) (i:Nat) (l:List Tr),(ic (iP ca) (gr p i l)).2=0↔oa ca l=true
 | _,_,[]=>by simp[gr,ic,oa]
 | p,i,a::l=>by
  have i1:=DS ca (p++[i]) a;have i2:=DT ca p (i+1) l;simp only[gr,tM,oa,bAt];grind
end
def wX8 {t:Tr}:(gM ca t).2=0↔j6 ca=true/\t.steps<=300/\oY ca t=true:=by
 unfold gM;cases A:j6 ca
 ·simp
 ·simp only[fW,bFt,dJ,true_and];split
  ·simp;omega
  ·rename_i h;rw[DS];grind
end
