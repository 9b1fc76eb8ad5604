/- Sequents and trees of sequents as plain -/
import Derived.Test.YtddfdpbibloljaaGreatDoorKB
set_option linter.all false
open Nat renaming reduceEqDiff → zE,reduceBEq → zB,reduceAdd → zA,reduceMul → zM,reduceSub → zS,reduceLeDiff → zL
namespace Go.Iv
open Go
structure Sq where
 l:List Fm
 r:List Fm
inductive Tr where
 | mk (rule:Nat) (s:Sq) (main:Fm) (term:Tm) (name:ByteArray) (sub:List Tr)
def IsSq (s:Sq)(x:IV):Prop:=∃t xs t' ys,x=.agg [.sl t xs,.sl t' ys]/\okEs t 4/\IsFms s.l xs/\okEs t' 4/\IsFms s.r ys
def IsSqs:List Sq->List IV->Prop
 | [],xs=>xs=[]
 | a::aL,xs=>∃y ys,xs=y::ys/\IsSq a y/\IsSqs aL ys
mutual
def IsTr:Tr->IV->Prop
 | .mk rule s f u n sub,x=>∃tl xl tr xr op fn ta xa tb xb v un tu xu ts xs,x=.agg [.raw (.int .u8 rule),.sl tl xl,.sl tr xr,.raw (.int .u8 op),.raw (.string fn),.sl ta xa,.sl tb xb,.raw (.bool v),.raw (.string un),.sl tu xu,.raw (.string n),.sl ts xs] /\
  rule<256/\okEs tl 4/\IsFms s.l xl/\okEs tr 4/\IsFms s.r xr/\IsFm f (.agg [.raw (.int .u8 op),.raw (.string fn),.sl ta xa,.sl tb xb])/\IsTm u (.agg [.raw (.bool v),.raw (.string un),.sl tu xu])/\okEs ts 12/\IsTrs sub xs
def IsTrs:List Tr->List IV->Prop
 | [],xs=>xs=[]
 | a::aL,xs=>∃y ys,xs=y::ys/\IsTr a y/\IsTrs aL ys
end
theorem IsTr.mk {rule:Nat}{s:Sq}{f:Fm}{u:Tm}{n:ByteArray}{sub:List Tr}{x:IV}(h:IsTr (.mk rule s f u n sub) x):∃tl xl tr xr op fn ta xa tb xb v un tu xu ts xs,x=.agg [.raw (.int .u8 rule),.sl tl xl,.sl tr xr,.raw (.int .u8 op),.raw (.string fn),.sl ta xa,.sl tb xb,.raw (.bool v),.raw (.string un),.sl tu xu,.raw (.string n),.sl ts xs] /\
  rule<256/\okEs tl 4/\IsFms s.l xl/\okEs tr 4/\IsFms s.r xr/\IsFm f (.agg [.raw (.int .u8 op),.raw (.string fn),.sl ta xa,.sl tb xb])/\IsTm u (.agg [.raw (.bool v),.raw (.string un),.sl tu xu])/\okEs ts 12/\IsTrs sub xs:=by
 simpa only[IsTr] using h
theorem IsSqs.len:∀ {aL:List Sq}{xs:List IV},IsSqs aL xs->xs.length=aL.length
 | [],xs,h=>by simp only[IsSqs] at h;subst h;rfl
 | a::aL,xs,h=>by
  simp only[IsSqs] at h;obtain⟨y,ys,rfl,_,h⟩:=h;simp[IsSqs.len h]
theorem IsSqs.get:∀ {aL:List Sq}{xs:List IV}{k:Nat}{a:Sq},IsSqs aL xs->aL[k]?=some a->∃x,xs[k]?=some x/\IsSq a x
 | [],xs,k,a,h,hk=>by simp at hk
 | b::aL,xs,k,a,h,hk=>by
  simp only[IsSqs] at h;obtain⟨y,ys,rfl,hy,h⟩:=h;cases k with
  | zero=>simp at hk;subst hk;exact⟨y,rfl,hy⟩
  | succ k=>simpa using IsSqs.get h (by simpa using hk)
theorem IsTrs.len:∀ {aL:List Tr}{xs:List IV},IsTrs aL xs->xs.length=aL.length
 | [],xs,h=>by simp only[IsTrs] at h;subst h;rfl
 | a::aL,xs,h=>by
  simp only[IsTrs] at h;obtain⟨y,ys,rfl,_,h⟩:=h;simp[IsTrs.len h]
theorem IsTrs.get:∀ {aL:List Tr}{xs:List IV}{k:Nat}{a:Tr},IsTrs aL xs->aL[k]?=some a->∃x,xs[k]?=some x/\IsTr a x
 | [],xs,k,a,h,hk=>by simp at hk
 | b::aL,xs,k,a,h,hk=>by
  simp only[IsTrs] at h;obtain⟨y,ys,rfl,hy,h⟩:=h;cases k with
  | zero=>simp at hk;subst hk;exact⟨y,rfl,hy⟩
  | succ k=>simpa using IsTrs.get h (by simpa using hk)
theorem IsTrs.append:∀ {aL bs:List Tr}{xs ys:List IV},IsTrs aL xs->IsTrs bs ys->IsTrs (aL++bs) (xs++ys)
 | [],bs,xs,ys,h,k=>by simp only[IsTrs] at h;subst h;exact k
 | a::aL,bs,xs,ys,h,k=>by
  simp only[IsTrs] at h;obtain⟨y,zs,rfl,hy,h⟩:=h;exact⟨y,zs++ys,rfl,hy,IsTrs.append h k⟩
mutual
def Tr.steps:Tr->Nat
 | .mk _ _ _ _ _ sub=>1+yQj sub
def yQj:List Tr->Nat
 | []=>0
 | a::l=>a.steps+yQj l
end
mutual
def Tr.height:Tr->Nat
 | .mk _ _ _ _ _ sub=>1+yZc sub
def yZc:List Tr->Nat
 | []=>0
 | a::l=>max a.height (yZc l)
end
mutual
def Tr.cuts:Tr->Nat
 | .mk rule _ _ _ _ sub=>(if rule=17 then 1 else 0)+yJa sub
def yJa:List Tr->Nat
 | []=>0
 | a::l=>a.cuts+yJa l
end
theorem yVb:∀l m:List Tr,yQj (l++m)=yQj l+yQj m
 | [],m=>by simp[yQj]
 | a::l,m=>by simp only[List.cons_append,yQj,yVb l m];omega
theorem Tr.height_le_steps:∀t:Tr,t.height<=t.steps:=by
 have key:∀k:Nat,(∀t:Tr,SizeOf.sizeOf t<k->t.height<=t.steps):=λk=>by
  induction k with
  | zero=>intro t h;omega
  | succ k ih =>
   rintro⟨rule,s,f,u,n,sub⟩ h;have:∀l:List Tr,SizeOf.sizeOf l<k+1->yZc l<=yQj l:=λl=>by
    induction l with
    | nil=>intro _;simp[yZc,yQj]
    | cons a l ihl =>
     intro hl;simp only[List.cons.sizeOf_spec] at hl;have h1:=ih a (by omega);have h2:=ihl (by omega);simp only[yZc,yQj];omega
   simp only[Tr.mk.sizeOf_spec] at h;have:=this sub (by omega);simp only[Tr.height,Tr.steps];omega
 exact λt=>key _ t (Nat.lt_succ_self _)
mutual
def Tr.walk:List Nat->Tr->List (List Nat×Tr)
 | p,t@(.mk _ _ _ _ _ sub)=>(p,t)::yZj p 0 sub
def yZj:List Nat->Nat->List Tr->List (List Nat×Tr)
 | _,_,[]=>[]
 | p,i,a::l=>a.walk (p++[i])++yZj p (i+1) l
end
def yZk (e:Tr->Nat):List (List Nat×Tr)->List Nat×Nat
 | []=>([],0)
 | (p,t)::l=>if e t=0 then yZk e l else (p,e t)
theorem yK0 (e:Tr->Nat):∀l m,yZk e (l++m)=if (yZk e l).2=0 then yZk e m else yZk e l
 | [],m=>by simp[yZk]
 | (p,t)::l,m=>by
  have ih:=yK0 e l m;by_cases h:e t=0
  ·simp only[List.cons_append,yZk,h,if_true,ih]
  ·simp[yZk,h]
theorem yYc (e:Tr->Nat):∀l,(yZk e l).2=0->yZk e l=([],0)
 | [],_=>rfl
 | (p,t)::l,h=>by
  simp only[yZk] at h ⊢;by_cases h':e t=0
  ·rw[if_pos h'] at h ⊢;exact yYc e l h
  ·grind
def Fm.op:Fm->Nat
 | .mk op _ _ _=>op
def Fm.subs:Fm->List Fm
 | .mk _ _ _ sub=>sub
def Fm.nm:Fm->ByteArray
 | .mk _ n _ _=>n
def Tr.sq:Tr->Sq
 | .mk _ s _ _ _ _=>s
def Sq.plus (s m:Sq):Sq:=⟨s.l++m.l,s.r++m.r⟩
end Go.Iv
namespace Go.Proofs.Tryz
open Go Go.Iv
mutual
def opsB (ca:Nat):Fm->Bool
 | .mk op _ us sub=>decide (1<=op)&&decide (op<=if ca=3 then 9 else 7)&&(decide (ca=3) || us.isEmpty)&&yK7 ca sub
def yK7 (ca:Nat):List Fm->Bool
 | []=>true
 | a::l=>opsB ca a&&yK7 ca l
end
def fmB (ca:Nat)(f:Fm):Bool:=f.right&&opsB ca f
def yK4 (ca:Nat):Bool:=decide (1<=ca)&&decide (ca<=3)
noncomputable def eqF (a b:Fm):Bool:=decide (a.op=b.op)&&zYx a b
noncomputable def hasF (l:List Fm)(f:Fm):Bool:=l.any (eqF f)
noncomputable def allF (l m:List Fm):Bool:=l.all (hasF m)
noncomputable def yXp (a b:Sq):Bool:=allF a.l b.l&&allF a.r b.r
noncomputable def wJu:List Fm->Bool
 | []=>true
 | a::l=>(a::l).all λf=>eqF f a
noncomputable def yZz (ca:Nat)(s:Sq):Bool :=
 yK4 ca&&decide (s.l.length<=64)&&decide (s.r.length<=64)&&s.l.all (fmB ca)&&s.r.all (fmB ca)&&(decide (ca≠2) || wJu s.r)
structure Rw where
 left:Bool
 right:Bool
 op:Nat
 asks:Nat
def rowK (rule:Nat):Option Rw :=
 if rule=1 then some ⟨true,true,0,0⟩ else if rule=2 then some ⟨true,false,2,0⟩ else if rule=3 then some ⟨true,false,3,0⟩ else if rule=4 then some ⟨false,true,3,0⟩
 else if rule=5 then some ⟨true,false,4,0⟩ else if rule=6 then some ⟨false,true,4,0⟩ else if rule=7 then some ⟨true,false,5,0⟩ else if rule=8 then some ⟨false,true,5,0⟩
 else if rule=9 then some ⟨true,false,6,0⟩ else if rule=10 then some ⟨false,true,6,0⟩ else if rule=11 then some ⟨true,false,7,0⟩ else if rule=12 then some ⟨false,true,7,0⟩
 else if rule=17 then some ⟨false,false,0,0⟩ else none
def rowS (ca rule:Nat):Option Rw :=
 if ca=2/\rule=18 then some ⟨false,true,5,0⟩
 else if ca=3/\rule=13 then some ⟨true,false,8,1⟩ else if ca=3/\rule=14 then some ⟨false,true,8,2⟩
 else if ca=3/\rule=15 then some ⟨true,false,9,2⟩ else if ca=3/\rule=16 then some ⟨false,true,9,1⟩ else rowK rule
def bE:ByteArray:=⟨#[]⟩
def impF (a b:Fm):Fm:=.mk 6 bE [] [a,b]
def addS (ca rule:Nat)(main a b:Fm):List Sq :=
 if rule=3 then [⟨[],[a]⟩] else if rule=4 then [⟨[a],[]⟩] else if rule=5 then [⟨[a,b],[]⟩] else if rule=6 then [⟨[],[a]⟩,⟨[],[b]⟩]
 else if rule=7 then [⟨[a],[]⟩,⟨[b],[]⟩] else if rule=8 then (if ca=2 then [⟨[],[a]⟩] else [⟨[],[a,b]⟩]) else if rule=9 then [⟨[],[a]⟩,⟨[b],[]⟩]
 else if rule=10 then [⟨[a],[b]⟩] else if rule=11 then [⟨[impF a b,impF b a],[]⟩] else if rule=12 then [⟨[a],[b]⟩,⟨[b],[a]⟩]
 else if rule=13 then [⟨[a],[]⟩] else if rule=14 then [⟨[],[a]⟩] else if rule=15 then [⟨[a],[]⟩] else if rule=16 then [⟨[],[a]⟩]
 else if rule=17 then [⟨[],[main]⟩,⟨[main],[]⟩] else if rule=18 then [⟨[],[b]⟩] else []
noncomputable def yJ7 (ca rule:Nat)(r:Rw)(main:Fm)(term:Tm)(name:ByteArray):List Sq×Nat :=
 if !fmB ca main || (decide (r.op≠0)&&decide (main.op≠r.op)) then ([],192)
 else
  let a:=(main.subs[0]?).getD fm0
  let b:=(main.subs[1]?).getD fm0
  if r.asks=0 then (addS ca rule main a b,0)
  else
   let t:=if r.asks=2 then .mk true name [] else term
   if !t.ok then ([],193)
   else if (yX5 a [(main.nm,t)]).2≠0 then ([],193) else (addS ca rule main (yX5 a [(main.nm,t)]).1 b,0)
noncomputable def zQn (s:Sq)(n:ByteArray):Bool:=s.l.any (λf=>memB (frF f) n) || s.r.any (λf=>memB (frF f) n)
noncomputable def yJl (ca:Nat)(s:Sq)(rule:Nat)(main:Fm)(term:Tm)(name:ByteArray):List Sq×Nat :=
 if !yZz ca s then ([],190)
 else match rowS ca rule with
  | none=>([],191)
  | some r =>
   if decide ((yJ7 ca rule r main term name).2=192) || (r.left&&!hasF s.l main) || (r.right&&!hasF s.r main) then ([],192)
   else if (yJ7 ca rule r main term name).2≠0 then ([],(yJ7 ca rule r main term name).2)
   else if decide (r.asks=2)&&zQn s name then ([],193)
   else ((yJ7 ca rule r main term name).1,0)
noncomputable def yX3 (s:Sq):List Sq->List Tr->Bool
 | m::l,t::ts=>yXp t.sq (s.plus m)&&yX3 s l ts
 | _,_=>true
noncomputable def yZu (ca:Nat):Tr->Nat
 | .mk rule s main term name sub =>
  if (yJl ca s rule main term name).2≠0 then (yJl ca s rule main term name).2
  else if sub.length≠(yJl ca s rule main term name).1.length then 194
  else if yX3 s (yJl ca s rule main term name).1 sub then 0 else 195
noncomputable def yZp (ca:Nat)(t:Tr):List Nat×Nat :=
 if !yK4 ca then ([],2) else if 300<t.steps then ([],5) else yZk (yZu ca) (t.walk [])
end Go.Proofs.Tryz
namespace Go.Proofs.Tryz
open Go Go.Iv
def cmpN (a b:Nat):Int:=if a<b then -1 else if b<a then 1 else 0
noncomputable def cmpB (a b:ByteArray):Int:=if Op.bytesLess a.data.toList b.data.toList=true then -1 else if Op.bytesLess b.data.toList a.data.toList=true then 1 else 0
def lexI (x y:Int):Int:=if x=0 then y else x
mutual
noncomputable def zW8:Tm->Tm->Int
 | .mk v n us,.mk v' n' us'=>if v=v' then lexI (cmpB n n') (lexI (cmpN us.length us'.length) (yVq us us')) else if v=true then -1 else 1
noncomputable def yVq:List Tm->List Tm->Int
 | a::l,b::m=>lexI (zW8 a b) (yVq l m)
 | _,_=>0
end
mutual
noncomputable def yGh:Fm->Fm->Int
 | .mk o n us sub,.mk o' n' us' sub'=>lexI (cmpN o o') (lexI (cmpB n n') (lexI (lexI (cmpN us.length us'.length) (yVq us us')) (lexI (cmpN sub.length sub'.length) (yGg sub sub'))))
noncomputable def yGg:List Fm->List Fm->Int
 | a::l,b::m=>lexI (yGh a b) (yGg l m)
 | _,_=>0
end
structure Cp {α:Type}(f:α->α->Int)(a:α):Prop where
 eq:∀b,f a b=0↔a=b
 neg:∀b,f b a = - f a b
 tr:∀b c,f a b<0->f b c<0->f a c<0
theorem yWf {x y:Int}:lexI x y=0↔x=0/\y=0:=by
 unfold lexI;split
 ·rename_i h;simp[h]
 ·rename_i h;simp[h]
theorem vX4 (a:Nat):Cp cmpN a:=by
 refine⟨λb=>?_,λb=>?_,λb c=>?_⟩<;>unfold cmpN<;>repeat' split
 all_goals grind
open Classical in
theorem zZv {a b:ByteArray}:cmpB a b=if ltN a b then -1 else if ltN b a then 1 else 0:=by
 unfold cmpB;congr 1
 ·exact propext xWv
 ·congr 1;exact propext xWv
open Classical in
theorem wK9 (a:ByteArray):Cp cmpB a:=by
 refine⟨λb=>?_,λb=>?_,λb c=>?_⟩
 ·rw[zZv];by_cases h1:ltN a b
  ·rw[if_pos h1];exact⟨λh=>by omega,λh=>absurd h1 (by rw[h];exact vZ1 b)⟩
  ·rw[if_neg h1];by_cases h2:ltN b a
   ·grind
   ·rw[if_neg h2];exact⟨λ_=>Classical.byContradiction λhne=>h2 (wXl h1 hne),λ_=>rfl⟩
 ·rw[zZv,zZv];by_cases h1:ltN a b
  ·rw[if_pos h1,if_neg (wXm h1),if_pos h1];rfl
  ·grind
 ·rw[zZv,zZv,zZv];have key:∀x y:ByteArray,(if ltN x y then (-1:Int) else if ltN y x then 1 else 0)<0↔ltN x y:=λx y=>by
   grind
  rw[key,key,key];exact wXk
section
variable {α:Type}{f:α->α->Int}{g:List α->List α->Int}(g0:g [] []=0)(g1:∀a b l m,g (a::l) (b::m)=lexI (f a b) (g l m))
include g0 g1
theorem xJy:∀(l:List α),(∀a∈l,∀b,f a b=0↔a=b)->∀m,l.length=m.length->(g l m=0↔l=m)
 | [],_,m,hm=>by
  grind
 | a::l,hc,b::m,hm=>by
  rw[g1,yWf,hc a (by simp),xJy l (λb hb=>hc b (by simp[hb])) m (by simpa using hm),List.cons.injEq]
end
def lenL {α:Type}(g:List α->List α->Int)(l m:List α):Int:=lexI (cmpN l.length m.length) (g l m)
theorem zQu {a b:Nat}:cmpN a b=0↔a=b:=(vX4 a).eq b
section
variable {α:Type}{f:α->α->Int}{g:List α->List α->Int}(g0:g [] []=0)(g1:∀a b l m,g (a::l) (b::m)=lexI (f a b) (g l m))
include g0 g1
theorem xK1 {l:List α}(h:∀a∈l,∀b,f a b=0↔a=b)(m:List α):lenL g l m=0↔l=m:=by
 unfold lenL;rw[yWf,zQu];constructor
 ·rintro⟨h1,h2⟩;exact (xJy g0 g1 l h m h1).1 h2
 ·rintro rfl;exact⟨rfl,(xJy g0 g1 l h l rfl).2 rfl⟩
end
theorem zZu:yVq [] []=0:=by simp only[yVq]
theorem zZt (a b:Tm)(l m:List Tm):yVq (a::l) (b::m)=lexI (zW8 a b) (yVq l m):=by simp only[yVq]
theorem zVd:yGg [] []=0:=by simp only[yGg]
theorem zVc (a b:Fm)(l m:List Fm):yGg (a::l) (b::m)=lexI (yGh a b) (yGg l m):=by simp only[yGg]
theorem wYb (v v':Bool)(n n':ByteArray)(us us':List Tm):zW8 (.mk v n us) (.mk v' n' us')=if v=v' then lexI (cmpB n n') (lenL yVq us us') else if v=true then -1 else 1:=by simp only[zW8,lenL]
theorem wYe (o o':Nat)(n n':ByteArray)(us us':List Tm)(sub sub':List Fm):yGh (.mk o n us sub) (.mk o' n' us' sub')=lexI (cmpN o o') (lexI (cmpB n n') (lexI (lenL yVq us us') (lenL yGg sub sub'))):=by simp only[yGh,lenL]
theorem vKe {p:Tm->Prop}(h:∀v n us,(∀a∈us,p a)->p (.mk v n us))(t:Tm):p t:=by
 have key:∀(k:Nat) (t:Tm),SizeOf.sizeOf t<k->p t:=λk=>by
  induction k with
  | zero=>intro t ht;omega
  | succ k ih =>
   rintro⟨v,n,us⟩ ht;refine h v n us λa ha=>ih a ?_;have:=lSm ha;grind
 exact key _ t (Nat.lt_succ_self _)
theorem vW2 {p:Fm->Prop}(h:∀o n us sub,(∀a∈sub,p a)->p (.mk o n us sub))(t:Fm):p t:=by
 have key:∀(k:Nat) (t:Fm),SizeOf.sizeOf t<k->p t:=λk=>by
  induction k with
  | zero=>intro t ht;omega
  | succ k ih =>
   rintro⟨o,n,us,sub⟩ ht;refine h o n us sub λa ha=>ih a ?_;have:=lSm ha;grind
 exact key _ t (Nat.lt_succ_self _)
theorem wYc (a b:Tm):zW8 a b=0↔a=b:=by
 revert b;refine vKe (p:=λa=>∀b,zW8 a b=0↔a=b) (λv n us ih b=>?_) a;obtain⟨v',n',us'⟩:=b;rw[wYb,Tm.mk.injEq];by_cases hv:v=v'
 ·rw[if_pos hv,yWf,(wK9 n).eq,xK1 zZu zZt ih];simp[hv]
 ·grind
theorem zUi (a b:Fm):yGh a b=0↔a=b:=by
 revert b;refine vW2 (p:=λa=>∀b,yGh a b=0↔a=b) (λo n us sub ih b=>?_) a;obtain⟨o',n',us',sub'⟩:=b;rw[wYe,Fm.mk.injEq,yWf,yWf,yWf,zQu,(wK9 n).eq,xK1 zZu zZt (λa _=>wYc a),xK1 zVd zVc ih]
end Go.Proofs.Tryz
namespace Go.Proofs.Tryz
open Go Go.Iv
structure Mk where
 is:Bool
 w:Int
 f:Fm
inductive Nd where
 | mk (m:Mk) (c:Bool) (w:Int) (sub:List Nd)
def IsMk (m:Mk)(x:IV):Prop:=∃(o:Int) (n:ByteArray) (t:Tag) (xs:List IV) (t':Tag) (ys:List IV),x=.agg [.raw (.bool m.is),.raw (.int .i64 m.w),.raw (.int .u8 o),.raw (.string n),.sl t xs,.sl t' ys]/\IsFm m.f (.agg [.raw (.int .u8 o),.raw (.string n),.sl t xs,.sl t' ys])
def IsMks:List Mk->List IV->Prop
 | [],xs=>xs=[]
 | a::aL,xs=>∃y ys,xs=y::ys/\IsMk a y/\IsMks aL ys
theorem IsMks.len:∀ {aL:List Mk}{xs:List IV},IsMks aL xs->xs.length=aL.length
 | [],xs,h=>by simp only[IsMks] at h;subst h;rfl
 | a::aL,xs,h=>by
  simp only[IsMks] at h;obtain⟨y,ys,rfl,_,h⟩:=h;simp[IsMks.len h]
theorem IsMks.get:∀ {aL:List Mk}{xs:List IV}{k:Nat}{a:Mk},IsMks aL xs->aL[k]?=some a->∃x,xs[k]?=some x/\IsMk a x
 | [],xs,k,a,h,hk=>by simp at hk
 | b::aL,xs,k,a,h,hk=>by
  simp only[IsMks] at h;obtain⟨y,ys,rfl,hy,h⟩:=h;cases k with
  | zero=>simp at hk;subst hk;exact⟨y,rfl,hy⟩
  | succ k=>simpa using IsMks.get h (by simpa using hk)
theorem IsMks.append:∀ {aL bL:List Mk}{xs ys:List IV},IsMks aL xs->IsMks bL ys->IsMks (aL++bL) (xs++ys)
 | [],bL,xs,ys,h,k=>by simp only[IsMks] at h;subst h;exact k
 | a::aL,bL,xs,ys,h,k=>by
  simp only[IsMks] at h;obtain⟨y,zs,rfl,hy,h⟩:=h;exact⟨y,zs++ys,rfl,hy,IsMks.append h k⟩
theorem IsMks.one {a:Mk}{x:IV}(h:IsMk a x):IsMks [a] [x]:=⟨x,[],rfl,h,rfl⟩
def IsMkss:List (List Mk)->List IV->Prop
 | [],xs=>xs=[]
 | a::aL,xs=>∃t zs ys,xs=.sl t zs::ys/\okEs t 6/\IsMks a zs/\IsMkss aL ys
theorem IsMkss.len:∀ {aL:List (List Mk)}{xs:List IV},IsMkss aL xs->xs.length=aL.length
 | [],xs,h=>by simp only[IsMkss] at h;subst h;rfl
 | a::aL,xs,h=>by
  simp only[IsMkss] at h;obtain⟨t,zs,ys,rfl,_,_,h⟩:=h;simp[IsMkss.len h]
theorem IsMkss.get:∀ {aL:List (List Mk)}{xs:List IV}{k:Nat}{a:List Mk},IsMkss aL xs->aL[k]?=some a->∃t zs,xs[k]?=some (.sl t zs)/\okEs t 6/\IsMks a zs
 | [],xs,k,a,h,hk=>by simp at hk
 | b::aL,xs,k,a,h,hk=>by
  simp only[IsMkss] at h;obtain⟨t,zs,ys,rfl,ht,hz,h⟩:=h;cases k with
  | zero=>simp at hk;subst hk;exact⟨t,zs,rfl,ht,hz⟩
  | succ k=>simpa using IsMkss.get h (by simpa using hk)
theorem IsMkss.append:∀ {aL bL:List (List Mk)}{xs ys:List IV},IsMkss aL xs->IsMkss bL ys->IsMkss (aL++bL) (xs++ys)
 | [],bL,xs,ys,h,k=>by simp only[IsMkss] at h;subst h;exact k
 | a::aL,bL,xs,ys,h,k=>by
  simp only[IsMkss] at h;obtain⟨t,zs,zz,rfl,ht,hz,h⟩:=h;exact⟨t,zs,zz++ys,rfl,ht,hz,IsMkss.append h k⟩
theorem IsMkss.one {a:List Mk}{t:Tag}{zs:List IV}(ht:okEs t 6)(h:IsMks a zs):IsMkss [a] [.sl t zs]:=⟨t,zs,[],rfl,ht,h,rfl⟩
mutual
def IsNd:Nd->IV->Prop
 | .mk m c w sub,x=>∃o n t xs t' ys ts zs,x=.agg [.raw (.bool m.is),.raw (.int .i64 m.w),.raw (.int .u8 o),.raw (.string n),.sl t xs,.sl t' ys,.raw (.bool c),.raw (.int .i64 w),.sl ts zs] /\
  IsFm m.f (.agg [.raw (.int .u8 o),.raw (.string n),.sl t xs,.sl t' ys])/\okEs ts 9/\IsNds sub zs
def IsNds:List Nd->List IV->Prop
 | [],xs=>xs=[]
 | a::aL,xs=>∃y ys,xs=y::ys/\IsNd a y/\IsNds aL ys
end
theorem IsNd.mk {m:Mk}{c:Bool}{w:Int}{sub:List Nd}{x:IV}(h:IsNd (.mk m c w sub) x):∃(o:Int) (n:ByteArray) (t:Tag) (xs:List IV) (t':Tag) (ys:List IV) (ts:Tag) (zs:List IV),x=.agg [.raw (.bool m.is),.raw (.int .i64 m.w),.raw (.int .u8 o),.raw (.string n),.sl t xs,.sl t' ys,.raw (.bool c),.raw (.int .i64 w),.sl ts zs] /\
  IsFm m.f (.agg [.raw (.int .u8 o),.raw (.string n),.sl t xs,.sl t' ys])/\okEs ts 9/\IsNds sub zs:=by
 simpa only[IsNd] using h
theorem IsNds.len:∀ {aL:List Nd}{xs:List IV},IsNds aL xs->xs.length=aL.length
 | [],xs,h=>by simp only[IsNds] at h;subst h;rfl
 | a::aL,xs,h=>by
  simp only[IsNds] at h;obtain⟨y,ys,rfl,_,h⟩:=h;simp[IsNds.len h]
theorem IsNds.get:∀ {aL:List Nd}{xs:List IV}{k:Nat}{a:Nd},IsNds aL xs->aL[k]?=some a->∃x,xs[k]?=some x/\IsNd a x
 | [],xs,k,a,h,hk=>by simp at hk
 | b::aL,xs,k,a,h,hk=>by
  simp only[IsNds] at h;obtain⟨y,ys,rfl,hy,h⟩:=h;cases k with
  | zero=>simp at hk;subst hk;exact⟨y,rfl,hy⟩
  | succ k=>simpa using IsNds.get h (by simpa using hk)
theorem IsNds.append:∀ {aL bL:List Nd}{xs ys:List IV},IsNds aL xs->IsNds bL ys->IsNds (aL++bL) (xs++ys)
 | [],bL,xs,ys,h,k=>by simp only[IsNds] at h;subst h;exact k
 | a::aL,bL,xs,ys,h,k=>by
  simp only[IsNds] at h;obtain⟨y,zs,rfl,hy,h⟩:=h;exact⟨y,zs++ys,rfl,hy,IsNds.append h k⟩
def rowT (b:Bool)(o:Int):Option (Nat×Nat) :=
 if o=3 then some (1,1) else if o=4 then some (if b then 1 else 2,2) else if o=5 then some (if b then 2 else 1,2) else if o=6 then some (if b then 2 else 1,2) else if o=7 then some (if b then 1 else 2,2)
 else if o=10 then some (if b then 3 else 4,1) else if o=11 then some (if b then 4 else 3,1) else none
def askT (b:Bool)(o:Int)(x y:Fm):List (List (Bool×Fm)) :=
 if o=3 then [[(!b,x)]]
 else if o=4 then (if b then [[(true,x),(true,y)]] else [[(false,x)],[(false,y)]])
 else if o=5 then (if b then [[(true,x)],[(true,y)]] else [[(false,x),(false,y)]])
 else if o=6 then (if b then [[(false,x)],[(true,y)]] else [[(true,x),(false,y)]])
 else if o=7 then (if b then [[(true,impF x y),(true,impF y x)]] else [[(true,x),(false,y)],[(true,y),(false,x)]])
 else [[(b,x)]]
def yZx (m:Mk):Nat×Nat :=
 match rowT m.is m.f.op with
 | some r=>if m.f.subs.length=r.2 then r else (0,0)
 | none=>(0,0)
def yQs (m:Mk)(w:Int):List (List Mk) :=
 if (yZx m).1=0 then []
 else (askT m.is m.f.op ((m.f.subs[0]?).getD fm0) (if (yZx m).2=2 then (m.f.subs[1]?).getD fm0 else fm0)).map λl=>l.map λh=>⟨h.1,if (yZx m).1=1\/(yZx m).1=2 then m.w else w,h.2⟩
noncomputable def mkB (a b:Mk):Bool:=a.is == b.is&&decide (a.w=b.w)&&decide (yGh a.f b.f=0)
noncomputable def hasT (l:List Mk)(m:Mk):Bool:=l.any λn=>mkB n m
noncomputable def addT (l:List Mk)(m:Mk):List Mk:=if hasT l m then l else l++[m]
noncomputable def yZg (l q:List Mk):List Mk:=q.foldl addT l
def yVl (s:Sq):List Mk:=s.l.map (⟨true,0,·⟩)++s.r.map (⟨false,0,·⟩)
noncomputable def yZi (s:Sq):List Mk:=yZg [] (yVl s)
noncomputable def yYf (l:List Mk)(m:Mk):Bool:=(m.is&&decide (m.f.op=2)) || hasT l ⟨!m.is,m.w,m.f⟩
noncomputable def yUw (l:List Mk)(m:Mk)(c:Bool)(w:Int)(k:Nat):Nat :=
 if !hasT l m || (c&&!yYf l m) || (!c&&decide ((yZx m).1=0)) then 201
 else if w≠0 then 202
 else if k≠(if c then 0 else (yQs m w).length) then 203 else 0
mutual
noncomputable def yXo (l:List Mk)(p:List Nat):Nd->List Nat×Nat
 | .mk m c w sub=>if yUw l m c w sub.length≠0 then (p,yUw l m c w sub.length) else if c then ([],0) else yJ2 l p 0 (yQs m w) sub
noncomputable def yJ2 (l:List Mk)(p:List Nat):Nat->List (List Mk)->List Nd->List Nat×Nat
 | i,q::qs,n::ns=>if (yXo (yZg l q) (p++[i]) n).2≠0 then yXo (yZg l q) (p++[i]) n else yJ2 l p (i+1) qs ns
 | _,_,_=>([],0)
end
mutual
def Nd.nodes:Nd->Nat
 | .mk _ _ _ sub=>1+yQp sub
def yQp:List Nd->Nat
 | []=>0
 | a::l=>a.nodes+yQp l
end
def yKu (s:Sq):Bool:=decide (s.l.length<=16)&&decide (s.r.length<=16)&&(s.l++s.r).all (fmB 1)
noncomputable def yUg (s:Sq)(n:Nd):List Nat×Nat:=if !yKu s then ([],200) else if 300<n.nodes then ([],5) else yXo (yZi s) [] n
end Go.Proofs.Tryz
namespace Go.Proofs.Tryz
open Go Go.Iv
set_option maxRecDepth 4000
variable (gl:Nat->Option IV)
theorem yUd (v w:Bool)(n m:ByteArray)(us ws:List Tm)(x y:IV)(hx:IsTm (.mk v n us) x)(hy:IsTm (.mk w m ws) y)
  (IH:∀(t t':Tag) (xs ys:List IV),okEs t 3->okEs t' 3->IsTms us xs->IsTms ws ys->∀st,ICall prog gl 114 [.sl t xs,.sl t' ys] st (λx st'=>x=.raw (.bool (eqB us ws))/\st'=st)) (st:ISt) :
  ICall prog gl 82 [x,y] st (λr st'=>r=.raw (.bool (eqB (Tm.mk v n us) (.mk w m ws)))/\st'=st):=by
 obtain⟨tx,cx,rfl,htx,hcx⟩:=hx.mk;obtain⟨ty,cy,rfl,hty,hcy⟩:=hy.mk;refine iI func82 ?_;by_cases hv:v=w
 ·subst hv;by_cases hnm:n=m
  ·subst hnm;simp only[go_sem,zE,zA,decide_true];refine (IH tx ty cx cy htx hty hcx hcy _).mono ?_;rintro _ _ ⟨rfl,rfl⟩;simp only[go_sem,zE];refine yQ0 ⟨?_,rfl⟩;by_cases hc:us=ws
   ·subst hc;rw[yZa.2 rfl,yZa.2 rfl]
   ·rw[yQl.2 hc,yQl.2 (by rintro⟨⟩;exact hc rfl)]
  ·simp only[go_sem,zE,zA,dEf hnm];exact yQ0 ⟨by rw[yQl.2 (by rintro⟨⟩;exact hnm rfl)],rfl⟩
 ·simp only[go_sem,zE,zA,beq_eq_false_iff_ne.2 hv];exact yQ0 ⟨by rw[yQl.2 (by rintro⟨⟩;exact hv rfl)],rfl⟩
theorem yG5 (t t':Tag)(us ws:List Tm)(xs ys:List IV)(ht:okEs t 3)(ht':okEs t' 3)(ha:IsTms us xs)(hb:IsTms ws ys)(st:ISt) :
  ICall prog gl 114 [.sl t xs,.sl t' ys] st (λx st'=>x=.raw (.bool (eqB us ws))/\st'=st):=by
 refine iI func114 ?_;simp only[go_sem,zE,reduceCtorEq,ha.len,hb.len];intro hla hlb;refine yXf (λh=>?_) (λh=>?_)
 ·have hne:us≠ws:=by rintro rfl;simp at h
  simp only[go_sem];exact yQ0 ⟨by rw[yQl.2 hne],rfl⟩
 have hlen:us.length=ws.length:=by simp at h;omega
 refine LoopC.ctr us.length (λk fr st' ds=>us.take k=ws.take k/\fr 0=.iv (.sl t xs)/\fr 1=.iv (.sl t' ys)/\fr 5=.iv (.raw (.int .i64 k))/\st'=st/\ds=[]) ?_ ?_ ?_
 ·simp only[go_sem,zE,reduceCtorEq];rfl
 ·rintro k fr st' ds hlt ⟨hn,h0,h1,h5,rfl,rfl⟩;obtain⟨a,hka⟩:=yQ4 hlt;obtain⟨b,hkb⟩:=yQ4 (hlen▸hlt);obtain⟨x,hkx,hx⟩:=ha.get hka;obtain⟨y,hky,hy⟩:=hb.get hkb;obtain⟨v,n,cs⟩:=a;obtain⟨w,m,ds⟩:=b;have hx0:=hx;have hy0:=hy;obtain⟨tx,cx,rfl,htx,hcx⟩:=hx.mk;obtain⟨ty,cy,rfl,hty,hcy⟩:=hy.mk;have hcall:=yUd gl v w n m cs ds _ _ hx0 hy0 (λt1 t2 x1 y1 q1 q2 q3 q4 st1=>yG5 t1 t2 cs ds x1 y1 q1 q2 q3 q4 st1) st';simp only[go_sem,zE,zB,zA,reduceCtorEq,h0,h1,h5,ha.len,lt_i hlt,yQ3 ht,yQ3 ht',iNn,hkx,hky,fits];intro _;refine hcall.mono ?_;rintro _ _ ⟨rfl,rfl⟩;by_cases hc:Tm.mk v n cs=.mk w m ds
  ·simp only[go_sem,zE,reduceCtorEq,h0,h1,h5,yQf hlt (show us.length<=281474976710656 by omega),yZa.2 hc];rw[yQ7 hka,yQ7 hkb,hn,hc]
  ·have hne:us≠ws:=by
    rintro rfl;rw[hka] at hkb;exact hc (Option.some.inj hkb)
   simp only[go_sem,yQl.2 hc];exact yQ0 ⟨by rw[yQl.2 hne],rfl⟩
 ·rintro fr st' ds ⟨hn,h0,h1,h5,rfl,rfl⟩;simp only[go_sem,zE,reduceCtorEq,h0,h5,ha.len,yQo (nLi _)];intro _;have he:us=ws:=by rw[lTl] at hn;rw[hn,hlen,lTl]
  exact yQ0 ⟨by rw[yZa.2 he],rfl⟩
termination_by SizeOf.sizeOf us
decreasing_by exact xGj (lMg hka)
theorem xK8 (a b:Tm)(x y:IV)(hx:IsTm a x)(hy:IsTm b y)(st:ISt):ICall prog gl 82 [x,y] st (λr st'=>r=.raw (.bool (eqB a b))/\st'=st):=by
 obtain⟨v,n,us⟩:=a;obtain⟨w,m,ws⟩:=b;exact yUd gl v w n m us ws x y hx hy (λt t' xs ys h1 h2 h3 h4 st=>yG5 gl t t' us ws xs ys h1 h2 h3 h4 st) st
def kSF (f:Fm):Prop:=∀(g:Fm) (x y:IV) (_:IsFm f x) (_:IsFm g y) (st:ISt),ICall prog gl 81 [x,y] st (λr st'=>r=.raw (.bool (eqB f g))/\st'=st)
theorem yG6 (us ws:List Fm)(IH:∀a∈us,kSF gl a)(t t':Tag)(xs ys:List IV)(ht:okEs t 4)(ht':okEs t' 4)(ha:IsFms us xs)(hb:IsFms ws ys)(st:ISt) :
  ICall prog gl 113 [.sl t xs,.sl t' ys] st (λx st'=>x=.raw (.bool (eqB us ws))/\st'=st):=by
 refine iI func113 ?_;simp only[go_sem,zE,reduceCtorEq,ha.len,hb.len];intro hla hlb;refine yXf (λh=>?_) (λh=>?_)
 ·have hne:us≠ws:=by rintro rfl;simp at h
  simp only[go_sem];exact yQ0 ⟨by rw[yQl.2 hne],rfl⟩
 have hlen:us.length=ws.length:=by simp at h;omega
 refine LoopC.ctr us.length (λk fr st' ds=>us.take k=ws.take k/\fr 0=.iv (.sl t xs)/\fr 1=.iv (.sl t' ys)/\fr 5=.iv (.raw (.int .i64 k))/\st'=st/\ds=[]) ?_ ?_ ?_
 ·simp only[go_sem,zE,reduceCtorEq];rfl
 ·rintro k fr st' ds hlt ⟨hn,h0,h1,h5,rfl,rfl⟩;obtain⟨a,hka⟩:=yQ4 hlt;obtain⟨b,hkb⟩:=yQ4 (hlen▸hlt);obtain⟨x,hkx,hx⟩:=ha.get hka;obtain⟨y,hky,hy⟩:=hb.get hkb;have hcall:=IH a (lMg hka) b x y hx hy st';obtain⟨o,n,cs,sub⟩:=a;obtain⟨o',m,ds,sub'⟩:=b;obtain⟨tx,cx,sx,dx,rfl,_⟩:=hx.mk;obtain⟨ty,cy,sy,dy,rfl,_⟩:=hy.mk;simp only[go_sem,zE,zB,zA,reduceCtorEq,h0,h1,h5,ha.len,lt_i hlt,yQ3 ht,yQ3 ht',iNn,hkx,hky,fits];intro _;refine hcall.mono ?_;rintro _ _ ⟨rfl,rfl⟩;by_cases hc:Fm.mk o n cs sub=.mk o' m ds sub'
  ·simp only[go_sem,zE,reduceCtorEq,h0,h1,h5,yQf hlt (show us.length<=281474976710656 by omega),yZa.2 hc];rw[yQ7 hka,yQ7 hkb,hn,hc]
  ·have hne:us≠ws:=by
    rintro rfl;rw[hka] at hkb;exact hc (Option.some.inj hkb)
   simp only[go_sem,yQl.2 hc];exact yQ0 ⟨by rw[yQl.2 hne],rfl⟩
 ·rintro fr st' ds ⟨hn,h0,h1,h5,rfl,rfl⟩;simp only[go_sem,zE,reduceCtorEq,h0,h5,ha.len,yQo (nLi _)];intro _;have he:us=ws:=by rw[lTl] at hn;rw[hn,hlen,lTl]
  exact yQ0 ⟨by rw[yZa.2 he],rfl⟩
theorem zW4 (o:Nat)(n:ByteArray)(us:List Tm)(sub:List Fm)(IH:∀a∈sub,kSF gl a):kSF gl (.mk o n us sub):=by
 intro g x y hx hy st;obtain⟨o',m,ws,sub'⟩:=g;obtain⟨tx,cx,sx,dx,rfl,ho,htx,hcx,hsx,hdx⟩:=hx.mk;obtain⟨ty,cy,sy,dy,rfl,ho',hty,hcy,hsy,hdy⟩:=hy.mk;have hcall:=yG6 gl sub sub' IH sx sy dx dy hsx hsy hdx hdy;refine iI func81 ?_;by_cases hv:o=o'
 ·subst hv;by_cases hnm:n=m
  ·subst hnm;simp only[go_sem,zE,zA,decide_true];refine (yG5 gl tx ty us ws cx cy htx hty hcx hcy _).mono ?_;rintro _ _ ⟨rfl,rfl⟩;by_cases hc:us=ws
   ·subst hc;simp only[go_sem,zE,zA,yZa.2 rfl];refine (hcall _).mono ?_;rintro _ _ ⟨rfl,rfl⟩;simp only[go_sem,zE];refine yQ0 ⟨?_,rfl⟩;by_cases hd:sub=sub'
    ·subst hd;rw[yZa.2 rfl,yZa.2 rfl]
    ·rw[yQl.2 hd,yQl.2 (by rintro⟨⟩;exact hd rfl)]
   ·simp only[go_sem,zE,yQl.2 hc];exact yQ0 ⟨by rw[yQl.2 (by rintro⟨⟩;exact hc rfl)],rfl⟩
  ·simp only[go_sem,zE,zA,dEf hnm,decide_true];exact yQ0 ⟨by rw[yQl.2 (by rintro⟨⟩;exact hnm rfl)],rfl⟩
 ·have hv':decide ((o:Int)=(o':Int))=false:=dEf (by omega);simp only[go_sem,zE,zA,hv'];exact yQ0 ⟨by rw[yQl.2 (by rintro⟨⟩;exact hv rfl)],rfl⟩
theorem zQj:∀(k:Nat)(f:Fm),SizeOf.sizeOf f<k->kSF gl f
 | 0,f,h=>by omega
 | k+1,.mk o n us sub,h=>zW4 gl o n us sub (λa ha=>zQj k a (by
   have:=lSm ha;simp only[Fm.mk.sizeOf_spec] at h;omega))
theorem yUq (f:Fm):kSF gl f:=zQj gl _ f (Nat.lt_succ_self _)
theorem zXf (us ws:List Fm)(t t':Tag)(xs ys:List IV)(ht:okEs t 4)(ht':okEs t' 4)(ha:IsFms us xs)(hb:IsFms ws ys)(st:ISt) :
  ICall prog gl 113 [.sl t xs,.sl t' ys] st (λx st'=>x=.raw (.bool (eqB us ws))/\st'=st):=yG6 gl us ws (λa _=>yUq gl a) t t' xs ys ht ht' ha hb st
theorem xUe (a b:Sq)(x y:IV)(hx:IsSq a x)(hy:IsSq b y)(st:ISt):ICall prog gl 80 [x,y] st (λr st'=>r=.raw (.bool (eqB a b))/\st'=st):=by
 obtain⟨l,r⟩:=a;obtain⟨l',r'⟩:=b;obtain⟨t1,x1,t2,x2,rfl,h1,h2,h3,h4⟩:=hx;obtain⟨t3,x3,t4,x4,rfl,h5,h6,h7,h8⟩:=hy;refine iI func80 ?_;simp only[go_sem,zE,zA];refine (zXf gl l l' t1 t3 x1 x3 h1 h5 h2 h6 _).mono ?_;rintro _ _ ⟨rfl,rfl⟩;by_cases hc:l=l'
 ·subst hc;simp only[go_sem,zE,zA,yZa.2 rfl];refine (zXf gl r r' t2 t4 x2 x4 h3 h7 h4 h8 _).mono ?_;rintro _ _ ⟨rfl,rfl⟩;simp only[go_sem,zE];refine yQ0 ⟨?_,rfl⟩;by_cases hd:r=r'
  ·subst hd;rw[yZa.2 rfl,yZa.2 rfl]
  ·rw[yQl.2 hd,yQl.2 (by rintro⟨⟩;exact hd rfl)]
 ·simp only[go_sem,zE,yQl.2 hc];exact yQ0 ⟨by rw[yQl.2 (by rintro⟨⟩;exact hc rfl)],rfl⟩
def kCT (us:List Tm):Prop:=∀(tg:Tag) (xs:List IV) (_:okEs tg 3) (_:IsTms us xs) (_:yQh us<=1099511627776) (st:ISt),
 ICall prog gl 157 [.sl tg xs] st (λr st'=>∃tg' ys,r=.sl tg' ys/\okEs tg' 3/\appT us.length tg'/\IsTmsD us ys/\st'=st)
theorem zW5 (v:Bool)(n:ByteArray)(us:List Tm)(IH:kCT gl us)(x:IV)(hx:IsTm (.mk v n us) x)(hs:(Tm.mk v n us).size<=1099511627776)(st:ISt) :
  ICall prog gl 183 [x] st (λr st'=>IsTmD (.mk v n us) r/\st'=st):=by
 obtain⟨tx,cx,rfl,htx,hcx⟩:=hx.mk;simp only[Tm.size] at hs;have hcall:=IH tx cx htx hcx (by omega) st;refine iI func183 ?_;simp only[go_sem,zE,zA];refine hcall.mono ?_;rintro _ _ ⟨tg',ys,rfl,he,ha,hys,rfl⟩;simp only[go_sem,zE,zA,zL];exact yQ0 ⟨IsTmD.intro he ha hys,rfl⟩
theorem zKq (us:List Tm)(IH:∀v n l,Tm.mk v n l∈us->kCT gl l):kCT gl us:=by
 intro tg xs htg hxs hsz st;have hlsz:=yK9 us;refine iI func157 ?_;simp only[go_sem];refine LoopC.ctr us.length (λk fr st' ds=>(∃tg' ys,fr 3=.iv (.sl tg' ys)/\IsTmsD (us.take k) ys/\appT k tg'/\own st' tg' k 3 st/\subSt st st')/\fr 0=.iv (.sl tg xs)/\fr 4=.iv (.raw (.int .i64 k))/\ds=[]) ?_ ?_ ?_
 ·simp only[go_sem,zE,reduceCtorEq];exact⟨⟨_,_,rfl,IsTmsD.nil,.inl rfl,own.nil _ _ _ _ _,subSt.refl _⟩,rfl⟩
 ·rintro k fr st1 _ hlt ⟨⟨tg',ys,f3,hys,hap,hown,hsub⟩,f0,f4,rfl⟩;obtain⟨a,ha⟩:=yQ4 hlt;obtain⟨x,hkx,hx⟩:=hxs.get ha;obtain⟨h1,h2⟩:=yXm ha;have hlen2:ys.length=k:=by rw[hys.len,List.length_take];omega
  obtain⟨v2,n2,m⟩:=a;have hcall:=zW5 gl v2 n2 m (IH _ _ _ (lMg ha)) x hx (by omega) st1;obtain⟨tx,cx,rfl,htx,hcx⟩:=hx.mk;simp only[go_sem,zE,zB,zA,reduceCtorEq,f0,f4,hxs.len,lt_i hlt,yQ3 htg,iNn,hkx,fits];intro _;refine hcall.mono ?_;rintro r _ ⟨hr,rfl⟩;have hn:IsTmsD (us.take (k+1)) (ys++[r]):=by
   rw[yQ7 ha];exact hys.append (IsTmsD.one hr)
  obtain⟨t3,x3,rfl,_⟩:=hr.mk;simp only[go_sem,zE,zA,zM,zL,f3,fits,yQ1];refine yXb hown hlen2 hsub rfl (by simp[fits,IV.one]) (by simp only;omega) (by omega) λtg2 st4 hown2 hsub4 _ hap2=>?_;simp only[go_sem,zE,reduceCtorEq,f0,f4,yQf hlt (show us.length<=281474976710656 by omega)];exact⟨tg2,_,rfl,hn,hap2,hown2,hsub4⟩
 ·rintro fr st1 _ ⟨⟨tg',ys,f3,hys,hap,hown,hsub⟩,f0,f4,rfl⟩;rw[lTl] at hys;simp only[go_sem,zE,reduceCtorEq,f0,f3,f4,hxs.len,yQo (nLi _)];intro _;exact yQa (st':=st) hsub ⟨tg',ys,rfl,hown.es,hap,hys,rfl⟩
theorem yUe:∀(k:Nat)(us:List Tm),SizeOf.sizeOf us<k->kCT gl us
 | 0,f,h=>by omega
 | k+1,us,h=>zKq gl us (λv n l ha=>yUe k l (by
   have:=lSm ha;simp at this;omega))
theorem xZm (us:List Tm):kCT gl us:=yUe gl _ us (Nat.lt_succ_self _)
def kCF (f:Fm):Prop:=∀(x:IV) (_:IsFm f x) (_:f.size<=1099511627776) (st:ISt),ICall prog gl 115 [x] st (λr st'=>IsFmD f r/\st'=st)
theorem IsFmD.aggs {f:Fm}{r:IV}(h:IsFmD f r):∃o n t x t' x',r=.agg [.raw (.int .u8 o),.raw (.string n),.sl t x,.sl t' x']:=by
 obtain⟨o,n,us,sub⟩:=f;obtain⟨t,xs,t',ys,rfl,_⟩:=h.mk;exact⟨_,_,_,_,_,_,rfl⟩
theorem zKr (us:List Fm)(IH:∀a∈us,kCF gl a)(tg:Tag)(xs:List IV)(htg:okEs tg 4)(hxs:IsFms us xs)(hsz:yQ9 us<=1099511627776)(st:ISt) :
  ICall prog gl 83 [.sl tg xs] st (λr st'=>∃tg' ys,r=.sl tg' ys/\okEs tg' 4/\appT us.length tg'/\IsFmsD us ys/\st'=st):=by
 have hlsz:=yQw us;refine iI func83 ?_;simp only[go_sem];refine LoopC.ctr us.length (λk fr st' ds=>(∃tg' ys,fr 3=.iv (.sl tg' ys)/\IsFmsD (us.take k) ys/\appT k tg'/\own st' tg' k 4 st/\subSt st st')/\fr 0=.iv (.sl tg xs)/\fr 4=.iv (.raw (.int .i64 k))/\ds=[]) ?_ ?_ ?_
 ·simp only[go_sem,zE,reduceCtorEq];exact⟨⟨_,_,rfl,IsFmsD.nil,.inl rfl,own.nil _ _ _ _ _,subSt.refl _⟩,rfl⟩
 ·rintro k fr st1 _ hlt ⟨⟨tg',ys,f3,hys,hap,hown,hsub⟩,f0,f4,rfl⟩;obtain⟨a,ha⟩:=yQ4 hlt;obtain⟨x,hkx,hx⟩:=hxs.get ha;obtain⟨h1,h2⟩:=yZ6 ha;have hlen2:ys.length=k:=by rw[hys.len,List.length_take];omega
  have hcall:=IH a (lMg ha) x hx (by omega) st1;obtain⟨o5,n5,t5,x5,t6,x6,rfl⟩:=hx.agg;simp only[go_sem,zE,zB,zA,reduceCtorEq,f0,f4,hxs.len,lt_i hlt,yQ3 htg,iNn,hkx,fits];intro _;refine hcall.mono ?_;rintro r _ ⟨hr,rfl⟩;have hn:IsFmsD (us.take (k+1)) (ys++[r]):=by
   rw[yQ7 ha];exact hys.append (IsFmsD.one hr)
  obtain⟨o7,n7,t7,x7,t8,x8,rfl⟩:=IsFmD.aggs hr;simp only[go_sem,zE,zA,zM,zL,f3,fits,yQ1];refine yXb hown hlen2 hsub rfl (by simp[fits,IV.one]) (by simp only;omega) (by omega) λtg2 st4 hown2 hsub4 _ hap2=>?_;simp only[go_sem,zE,reduceCtorEq,f0,f4,yQf hlt (show us.length<=281474976710656 by omega)];exact⟨tg2,_,rfl,hn,hap2,hown2,hsub4⟩
 ·rintro fr st1 _ ⟨⟨tg',ys,f3,hys,hap,hown,hsub⟩,f0,f4,rfl⟩;rw[lTl] at hys;simp only[go_sem,zE,reduceCtorEq,f0,f3,f4,hxs.len,yQo (nLi _)];intro _;exact yQa (st':=st) hsub ⟨tg',ys,rfl,hown.es,hap,hys,rfl⟩
theorem zW6 (o:Nat)(n:ByteArray)(us:List Tm)(sub:List Fm)(IH:∀a∈sub,kCF gl a):kCF gl (.mk o n us sub):=by
 intro x hx hs st;obtain⟨t1,x1,t2,x2,rfl,ho,ht1,hx1,ht2,hx2⟩:=hx.mk;simp only[Fm.size] at hs;have hc1:=xZm gl us t1 x1 ht1 hx1 (by omega) st;have hc2:=zKr gl sub IH t2 x2 ht2 hx2 (by omega) st;refine iI func115 ?_;simp only[go_sem,zE,zA];refine hc1.mono ?_;rintro _ _ ⟨tg',ys,rfl,he,ha,hys,rfl⟩;simp only[go_sem,zE,zA,zL];refine hc2.mono ?_;rintro _ _ ⟨tg2,ys2,rfl,he2,ha2,hys2,rfl⟩;simp only[go_sem,zE,zA,zL];exact yQ0 ⟨IsFmD.intro ho he ha hys he2 ha2 hys2,rfl⟩
theorem zQk:∀(k:Nat)(f:Fm),SizeOf.sizeOf f<k->kCF gl f
 | 0,f,h=>by omega
 | k+1,.mk o n us sub,h=>zW6 gl o n us sub (λa ha=>zQk k a (by
   have:=lSm ha;simp only[Fm.mk.sizeOf_spec] at h;omega))
theorem xK9 (f:Fm):kCF gl f:=zQk gl _ f (Nat.lt_succ_self _)
def sCT (us:List Tm):Prop:=∀(tg:Tag) (xs:List IV) (_:okEs tg 3) (_:IsTms us xs) (_:yQh us<=1099511627776) (st:ISt),
 ICall prog gl 119 [.sl tg xs,.fn (.func 120) [] []] st (λr st'=>∃tg' ys,r=.sl tg' ys/\okEs tg' 3/\appT us.length tg'/\IsTmsD us ys/\st'=st)
theorem zW1 (v:Bool)(n:ByteArray)(us:List Tm)(IH:sCT gl us)(x:IV)(hx:IsTm (.mk v n us) x)(hs:(Tm.mk v n us).size<=1099511627776)(st:ISt) :
  ICall prog gl 120 [x] st (λr st'=>IsTmD (.mk v n us) r/\st'=st):=by
 obtain⟨tx,cx,rfl,htx,hcx⟩:=hx.mk;simp only[Tm.size] at hs;have hcall:=IH tx cx htx hcx (by omega) st;refine iI func120 ?_;simp only[go_sem,zE,zA];refine hcall.mono ?_;rintro _ _ ⟨tg',ys,rfl,he,ha,hys,rfl⟩;simp only[go_sem,zE,zA,zL,fits];exact yQ0 ⟨IsTmD.intro he ha hys,rfl⟩
theorem zK3 (us:List Tm)(IH:∀v n l,Tm.mk v n l∈us->sCT gl l):sCT gl us:=by
 intro tg xs htg hxs hsz st;have hlsz:=yK9 us;refine iI func119 ?_;simp only[go_sem,reduceCtorEq,hxs.len];intro _;refine yXf (λh=>?_) (λh=>?_)
 ·obtain rfl:us=[]:=List.eq_nil_of_length_eq_zero (by simpa using h);simp only[go_sem];exact yQ0 ⟨_,_,rfl,.inl rfl,.inl rfl,IsTmsD.nil,rfl⟩
 have hpos:0<us.length:=Nat.pos_of_ne_zero λh0=>by simp[h0] at h
 simp only[go_sem,reduceCtorEq,hxs.len];intro _;refine yQm ⟨iNn _,by omega,by omega⟩ λg=>yQc λhg=>?_;intro _;refine LoopC.ctr us.length (λk fr st' ds=>(∃tg' ys,fr 5=.iv (.sl tg' ys)/\IsTmsD (us.take k) ys/\appT us.length tg'/\own st' tg' k 3 st/\subSt st st')/\fr 1=.iv (.fn (.func 120) [] []) /\
  fr 14=.iv (.sl tg xs)/\fr 15=.iv (.raw (.int .i64 us.length))/\fr 16=.iv (.raw (.int .i64 k))/\ds=[]) ?_ ?_ ?_
 ·simp only[go_sem,zE];exact⟨⟨_,_,rfl,IsTmsD.nil,.inr ⟨hpos,rfl,g,rfl⟩,.inr (.inr ⟨g,rfl,ISt.put_same _ _ _,hg⟩),yZ5 (subSt.refl _) hg⟩,rfl⟩
 ·rintro k fr st1 _ hlt ⟨⟨tg',ys,f5,hys,hap,hown,hsub⟩,f1,f14,f15,f16,rfl⟩;obtain⟨a,ha⟩:=yQ4 hlt;obtain⟨x,hkx,hx⟩:=hxs.get ha;obtain⟨h1,h2⟩:=yXm ha;have hlen2:ys.length=k:=by rw[hys.len,List.length_take];omega
  obtain⟨v2,n2,m⟩:=a;have hcall:=zW1 gl v2 n2 m (IH _ _ _ (lMg ha)) x hx (by omega) st1;obtain⟨tx,cx,rfl,htx,hcx⟩:=hx.mk;simp only[go_sem,zE,zB,zA,zL,f1,f5,f14,f15,f16,lt_i hlt,yQ3 htg,iNn,hkx,fits];refine hcall.mono ?_;rintro r _ ⟨hr,rfl⟩;have hn:IsTmsD (us.take (k+1)) (ys++[r]):=by
   rw[yQ7 ha];exact hys.append (IsTmsD.one hr)
  obtain⟨t3,x3,rfl,_⟩:=IsTmD.mk hr;simp only[go_sem,zE,zA,zM,zL,fits,yQ1];refine yXb hown hlen2 hsub rfl (by simp[fits,IV.one]) (by simp only;omega) (by omega) λtg2 st4 hown2 hsub4 _ hap2=>?_;simp only[go_sem,zE,f1,f14,f15,f16,yQf hlt (show us.length<=281474976710656 by omega)];exact⟨tg2,_,rfl,hn,hap2.pos hpos,hown2,hsub4⟩
 ·rintro fr st1 _ ⟨⟨tg',ys,f5,hys,hap,hown,hsub⟩,f1,f14,f15,f16,rfl⟩;rw[lTl] at hys;simp only[go_sem,zE,f5,f15,f16,yQo (nLi _)];exact yQa (st':=st) hsub ⟨tg',ys,rfl,hown.es,hap,hys,rfl⟩
theorem yU9:∀(k:Nat)(us:List Tm),SizeOf.sizeOf us<k->sCT gl us
 | 0,f,h=>by omega
 | k+1,us,h=>zK3 gl us (λv n l ha=>yU9 k l (by
   have:=lSm ha;simp at this;omega))
theorem xQq (us:List Tm):sCT gl us:=yU9 gl _ us (Nat.lt_succ_self _)
def sCF (f:Fm):Prop:=∀(x:IV) (_:IsFm f x) (_:f.size<=1099511627776) (st:ISt),ICall prog gl 93 [x] st (λr st'=>IsFmD f r/\st'=st)
theorem zK4 (us:List Fm)(IH:∀a∈us,sCF gl a)(tg:Tag)(xs:List IV)(htg:okEs tg 4)(hxs:IsFms us xs)(hsz:yQ9 us<=1099511627776)(st:ISt) :
  ICall prog gl 121 [.sl tg xs,.fn (.func 93) [] []] st (λr st'=>∃tg' ys,r=.sl tg' ys/\okEs tg' 4/\appT us.length tg'/\IsFmsD us ys/\st'=st):=by
 have hlsz:=yQw us;refine iI func121 ?_;simp only[go_sem,reduceCtorEq,hxs.len];intro _;refine yXf (λh=>?_) (λh=>?_)
 ·obtain rfl:us=[]:=List.eq_nil_of_length_eq_zero (by simpa using h);simp only[go_sem];exact yQ0 ⟨_,_,rfl,.inl rfl,.inl rfl,IsFmsD.nil,rfl⟩
 have hpos:0<us.length:=Nat.pos_of_ne_zero λh0=>by simp[h0] at h
 simp only[go_sem,reduceCtorEq,hxs.len];intro _;refine yQm ⟨iNn _,by omega,by omega⟩ λg=>yQc λhg=>?_;intro _;refine LoopC.ctr us.length (λk fr st' ds=>(∃tg' ys,fr 5=.iv (.sl tg' ys)/\IsFmsD (us.take k) ys/\appT us.length tg'/\own st' tg' k 4 st/\subSt st st')/\fr 1=.iv (.fn (.func 93) [] []) /\
  fr 14=.iv (.sl tg xs)/\fr 15=.iv (.raw (.int .i64 us.length))/\fr 16=.iv (.raw (.int .i64 k))/\ds=[]) ?_ ?_ ?_
 ·simp only[go_sem,zE];exact⟨⟨_,_,rfl,IsFmsD.nil,.inr ⟨hpos,rfl,g,rfl⟩,.inr (.inr ⟨g,rfl,ISt.put_same _ _ _,hg⟩),yZ5 (subSt.refl _) hg⟩,rfl⟩
 ·rintro k fr st1 _ hlt ⟨⟨tg',ys,f5,hys,hap,hown,hsub⟩,f1,f14,f15,f16,rfl⟩;obtain⟨a,ha⟩:=yQ4 hlt;obtain⟨x,hkx,hx⟩:=hxs.get ha;obtain⟨h1,h2⟩:=yZ6 ha;have hlen2:ys.length=k:=by rw[hys.len,List.length_take];omega
  have hcall:=IH a (lMg ha) x hx (by omega) st1;obtain⟨o5,n5,t5,x5,t6,x6,rfl⟩:=hx.agg;simp only[go_sem,zE,zB,zA,zL,f1,f5,f14,f15,f16,lt_i hlt,yQ3 htg,iNn,hkx,fits];refine hcall.mono ?_;rintro r _ ⟨hr,rfl⟩;have hn:IsFmsD (us.take (k+1)) (ys++[r]):=by
   rw[yQ7 ha];exact hys.append (IsFmsD.one hr)
  obtain⟨o7,n7,t7,x7,t8,x8,rfl⟩:=IsFmD.aggs hr;simp only[go_sem,zE,zA,zM,zL,fits,yQ1];refine yXb hown hlen2 hsub rfl (by simp[fits,IV.one]) (by simp only;omega) (by omega) λtg2 st4 hown2 hsub4 _ hap2=>?_;simp only[go_sem,zE,f1,f14,f15,f16,yQf hlt (show us.length<=281474976710656 by omega)];exact⟨tg2,_,rfl,hn,hap2.pos hpos,hown2,hsub4⟩
 ·rintro fr st1 _ ⟨⟨tg',ys,f5,hys,hap,hown,hsub⟩,f1,f14,f15,f16,rfl⟩;rw[lTl] at hys;simp only[go_sem,zE,f5,f15,f16,yQo (nLi _)];exact yQa (st':=st) hsub ⟨tg',ys,rfl,hown.es,hap,hys,rfl⟩
theorem xGp (o:Nat)(n:ByteArray)(us:List Tm)(sub:List Fm)(IH:∀a∈sub,sCF gl a):sCF gl (.mk o n us sub):=by
 intro x hx hs st;obtain⟨t1,x1,t2,x2,rfl,ho,ht1,hx1,ht2,hx2⟩:=hx.mk;simp only[Fm.size] at hs;have hc1:=xQq gl us t1 x1 ht1 hx1 (by omega) st;have hc2:=zK4 gl sub IH t2 x2 ht2 hx2 (by omega) st;refine ICall.intro (c:=cf prog gl [] [(1,[0,1,2,3,4,5,7,8,6,9,10,11])]) func93 rfl (by show _<=14;simp) (by kernel_rfl) ?_;simp only[go_sem,zE,zA];refine hc1.mono ?_;rintro _ _ ⟨tg',ys,rfl,he,ha,hys,rfl⟩;simp only[go_sem,zE,zA];refine hc2.mono ?_;rintro _ _ ⟨tg2,ys2,rfl,he2,ha2,hys2,rfl⟩;simp only[go_sem,zE,zA,zL,fits];exact yQ0 ⟨IsFmD.intro ho he ha hys he2 ha2 hys2,rfl⟩
theorem xQp:∀(k:Nat)(f:Fm),SizeOf.sizeOf f<k->sCF gl f
 | 0,f,h=>by omega
 | k+1,.mk o n us sub,h=>xGp gl o n us sub (λa ha=>xQp k a (by
   have:=lSm ha;simp only[Fm.mk.sizeOf_spec] at h;omega))
theorem zZ7 (f:Fm):sCF gl f:=xQp gl _ f (Nat.lt_succ_self _)
theorem vZk (us:List Fm)(tg:Tag)(xs:List IV)(htg:okEs tg 4)(hxs:IsFms us xs)(hsz:yQ9 us<=1099511627776)(st:ISt) :
  ICall prog gl 200 [.sl tg xs] st (λr st'=>∃tg' ys,r=.sl tg' ys/\okEs tg' 4/\(appT us.length tg'/\tg'.fresh=true)/\IsFmsD us ys/\own st' tg' us.length 4 st/\subSt st st'):=by
 have hlsz:=yQw us;refine iI func200 ?_;simp only[go_sem,reduceCtorEq,hxs.len];intro _;refine LoopC.ctr us.length (λk fr st' ds=>(∃tg' ys,fr 3=.iv (.sl tg' ys)/\IsFmsD (us.take k) ys/\(appT k tg'/\tg'.fresh=true)/\own st' tg' k 4 st/\subSt st st') /\
  fr 6=.iv (.sl tg xs)/\fr 7=.iv (.raw (.int .i64 us.length))/\fr 8=.iv (.raw (.int .i64 k))/\ds=[]) ?_ ?_ ?_
 ·simp only[go_sem,zE];exact⟨⟨_,_,rfl,IsFmsD.nil,⟨.inl rfl,rfl⟩,own.nil _ _ _ _ _,subSt.refl _⟩,rfl⟩
 ·rintro k fr st1 _ hlt ⟨⟨tg',ys,f3,hys,hap,hown,hsub⟩,f6,f7,f8,rfl⟩;obtain⟨a,ha⟩:=yQ4 hlt;obtain⟨x,hkx,hx⟩:=hxs.get ha;obtain⟨h1,h2⟩:=yZ6 ha;have hlen2:ys.length=k:=by rw[hys.len,List.length_take];omega
  have hcall:=zZ7 gl a x hx (by omega) st1;obtain⟨o5,n5,t5,x5,t6,x6,rfl⟩:=hx.agg;simp only[go_sem,zE,zB,zA,zL,f3,f6,f7,f8,lt_i hlt,yQ3 htg,iNn,hkx,fits];refine hcall.mono ?_;rintro r _ ⟨hr,rfl⟩;have hn:IsFmsD (us.take (k+1)) (ys++[r]):=by
   rw[yQ7 ha];exact hys.append (IsFmsD.one hr)
  obtain⟨o7,n7,t7,x7,t8,x8,rfl⟩:=IsFmD.aggs hr;simp only[go_sem,zE,zA,zM,zL,fits,yQ1];refine yXb hown hlen2 hsub rfl (by simp[fits,IV.one]) (by simp only;omega) (by omega) λtg2 st4 hown2 hsub4 _ hap2=>?_;simp only[go_sem,zE,f6,f7,f8,yQf hlt (show us.length<=281474976710656 by omega)];exact⟨tg2,_,rfl,hn,⟨hap2,by
   rcases hown2 with⟨h0,_⟩|rfl|⟨_,rfl,_⟩
   ·omega
   ·rfl
   ·rfl⟩,hown2,hsub4⟩
 ·rintro fr st1 _ ⟨⟨tg',ys,f3,hys,hap,hown,hsub⟩,f6,f7,f8,rfl⟩;rw[lTl] at hys;simp only[go_sem,zE,f3,f7,f8,yQo (nLi _)];exact yQ0 ⟨tg',ys,rfl,hown.es,hap,hys,hown,hsub⟩
end Go.Proofs.Tryz
namespace Go.Iv
open Go
section
variable {P:Program}{gl:Nat->Option IV}{f:FuncId}{args args':List IV}{st:ISt}
theorem ICall.lentOwn {K:IV->Prop}(hf:zXi st)(hgl:∀g x,gl g=some x->age x=x)(hl:Lents st args args')(h:ICall P gl f (ages args') (yVt st) (λr st'=>st'=yVt st/\dfr r/\K r)) :
  ICall P gl f args st (λy st'=>subSt st st'/\zXi st'/\∃x N,K x/\OI N y x/\rawY y/\xGs N/\subSt N st'/\∀b,N b≠none->st b=none):=by
 intro B X rs hg hst hv;subst hst;have hgl':=hg.lend;have hg1:Good ⟨P,gl,X.w.heap.size⟩ X.lend:=⟨λb o hb=>(hgl'.ok b o hb).flat (hf b o (xZ9 X.st b o hb)) rfl rfl,λg x hx=>by
   have h1:=hgl g x hx;have h2:=(hgl'.gl g x hx).aged (B':=X.w.heap.size);simp only[age,h1] at h2;exact h2,Nat.le_refl _,hgl'.Lnew,hgl'.gsh,hgl'.dr⟩
 have hva:Cx.vl ⟨P,gl,X.w.heap.size⟩ X.lend rs (ages args'):=VL.aged (hl.v hg hv);refine (h X.w.heap.size X.lend rs hg1 rfl hva).mono ?_;rintro e w' ⟨v,rfl,X',x,rfl,h2,h3,h4,h5,h6,h7⟩;obtain⟨y,hy1,hy2,_,hy4⟩:=vV4 (st:=λ_=>none) h4 h6;have hlt:∀ {b o},X.st b=some o->b<X.w.heap.size:=λhb=>hg.lt hb;have hsz:X.w.heap.size<=X'.w.heap.size:=h3.size
 let Y:WS:={ w:=X'.w,L:=λb=>if b<X.w.heap.size then (match X.st b with|some (.box _)=>0|_=>X'.L b) else 0,st:=yKv X'.w X.w.heap.size X.st,d:=X'.d }
 have hYn:∀ {b},¬ b<X.w.heap.size->Y.L b=0:=λhb=>by simp only[Y];rw[if_neg hb]
 have hYb:∀ {b cs},X.st b=some (.box cs)->Y.L b=0:=λhb=>by simp only[Y,hb];split<;>rfl
 have hYk:∀ {b},b<X.w.heap.size->(∀cs,X.st b≠some (.box cs))->Y.L b=X'.L b:=λ{b} h0 hb=>by
  grind
 have he:Ext X Y:=by
  refine⟨h3.os,h3.tape,h3.output,h3.size,λb=>?_,λb i hi=>?_,λb hb hs=>?_,λb hb hs=>?_,h3.shape,h3.d⟩
  ·by_cases h0:b<X.w.heap.size
   ·by_cases hb:∃cs,X.st b=some (.box cs)
    ·obtain⟨cs,hb⟩:=hb;rw[(hg.ok b _ hb).1];exact Nat.zero_le _
    ·rw[hYk h0 λcs hc=>hb ⟨cs,hc⟩];exact Nat.le_trans (hg.lend_ext.lmono b) (h3.lmono b)
   ·rw[hg.Lnew b (by omega)];exact Nat.zero_le _
  ·exact h3.cells b i (Nat.lt_of_lt_of_le hi (hg.lend_ext.lmono b))
  ·have hne:∀cs,X.st b≠some (.box cs):=λcs hc=>by rw[hs] at hc;cases hc
   obtain⟨k1,k2⟩:=h3.keep b hb ((yWd hne).trans hs);exact⟨k1,by rw[hYk hb hne,k2,yWg hne]⟩
  ·simp only[Y,yKv];rw[if_pos hb];exact hs
 have hso:∀b o,Y.st b=some o->(b<X.w.heap.size/\X.st b=some o)\/(X.w.heap.size<=b/\∃c T,X'.w.heap[b]?=some (.cells c T (0,0))/\o=.box (c.toList.map rdI)):=λb o hb=>by
  simp only[Y,yKv] at hb;grind
 refine⟨v,rfl,Y,y,rfl,⟨λb o hb=>?_,λg x hgx=>he.v (hg.gl g x hgx),Nat.le_trans hg.B h3.size,λb hb=>?_,h2.gsh,h2.dr⟩,he,hy1 _ _ _,λb o hb=>?_,λb o hb=>?_,x,_,h7,hy2,hy4,λb cs hb=>?_,λb o hb=>?_,λb hb=>?_⟩
 ·rcases hso b o hb with⟨h8,h9⟩|⟨h8,c,T,hh,rfl⟩
  ·by_cases hbx:∃cs,X.st b=some (.box cs)
   ·obtain⟨cs,hbx⟩:=hbx;rw[hbx] at h9;cases h9;exact (hg.ok b _ hbx).flat (hf b _ hbx) (h3.keep b h8 (zQb hbx)).1 (by rw[hYb hbx,(hg.ok b _ hbx).1])
   ·have hne:∀cs,X.st b≠some (.box cs):=λcs hc=>hbx ⟨cs,hc⟩;have h10:X'.st b=some o:=by rw[h5];exact (yWd hne).trans h9
    exact (h2.ok b o h10).flat (hf b o h9) rfl (hYk h8 hne)
  ·refine⟨hYn (by omega),c,T,hh,by simp,λi r z hr hz=>?_⟩;rw[List.getElem?_map,hr] at hz;cases hz;exact vKw r
 ·grind
 ·simp only[Y,yKv];rw[if_pos (hlt hb)];exact hb
 ·rcases hso b o hb with⟨_,h9⟩|⟨_,c,T,_,rfl⟩
  ·exact hf b o h9
  ·intro z hz;obtain⟨v,_,rfl⟩:=List.mem_map.1 hz;exact xW4 v
 ·unfold yKv at hb;split at hb
  ·cases hb
  ·split at hb
   ·split at hb
    ·cases hb;intro z hz;obtain⟨v,_,rfl⟩:=List.mem_map.1 hz;exact xW3 v
    ·cases hb
   ·cases hb
 ·simp only[Y,yKv] at hb ⊢;grind
 ·simp only[yKv] at hb;split at hb
  ·grind
  ·cases hq:X.st b with
   | none=>rfl
   | some o=>exact absurd (hlt hq) ‹_›
theorem wGw {X X':WS}{g:Nat}{o:IObj}(h:Ext X X')(h0:X.st g=none)(h1:X'.st g=some o):X.w.heap.size<=g:=by
 by_cases hlt:g<X.w.heap.size
 ·have:=h.dom g hlt h0;grind
 ·omega
theorem zGv {X':WS}{S:ISt}{g:Nat}{cs:List IV}(h0:S g=none)(hst':X'.st=S.put g (some (.box cs))):LendOk X'.st (ISt.put (λ_=>none) g (some (.box cs))) S:=by
 refine⟨λb o hb=>?_,λb o hb=>?_,λb cs' hb=>?_⟩
 ·rw[ISt.put_apply] at hb;split at hb
  ·rename_i hbg;subst hbg;cases hb;rw[hst'];exact ISt.put_same ..
  ·cases hb
 ·rw[hst',ISt.put_apply];grind
 ·rw[ISt.put_apply] at hb;grind
theorem wGv {C:Cx}{X':WS}{S:ISt}{g cap es:Nat}{cs zs:List IV}(h2:Good C X')(h0:S g=none)(hst':X'.st=S.put g (some (.box cs)))(hB:C.B<=g)(hn:zs.length<=140737488355328)(hcap:zs.length<=cap)(hroom:cap*es<=cs.length)
  (htk:cs.take (zs.length*es)=zs.flatMap IV.cells) (hz:∀z∈zs,z.cells.length=es):C.v (X'.lendS (ISt.put (λ_=>none) g (some (.box cs))) S) (.slice (some ⟨g,0,none⟩) zs.length cap) (.sl ⟨true,.app g,es⟩ zs):=by
 have hgs:X'.st g=some (.box cs):=by rw[hst'];exact ISt.put_same ..
 have hex:=h2.lendS_ext (zGv h0 hst');have hs1:(ISt.put (λ_=>none) g (some (.box cs))) g=some (.box cs):=ISt.put_same ..;obtain⟨hL0,c,T,hh,hvl⟩:=h2.ok g _ hgs;have hcl:c.toList.length=cs.length:=hvl.1;have hflat:(zs.flatMap IV.cells).length=zs.length*es:=yZ3 zs hz;have hle:zs.length*es<=cs.length:=Nat.le_trans (Nat.mul_le_mul_right _ hcap) hroom;refine V.sl (some ⟨g,0,none⟩) cap ⟨true,.app g,es⟩ zs T (c.toList.take (zs.length*es)) rfl hn hcap hz ?_ (λg' hg'=>?_) (λ_ ad had=>?_) (λ_=>⟨_,rfl,rfl,?_,λi r hr=>?_⟩) λi r z hr hz=>?_
 ·grind
 ·cases hg';refine⟨T,c.size,?_,?_⟩
  ·simp[shq,WS.lendS,hh]
  ·grind
 ·cases had;refine⟨hB,by simp,?_⟩;simp[ety,shq,WS.lendS,hh]
 ·show 0+(c.toList.take (zs.length*es)).length<=(X'.lendS _ S).L g;rw[zU1 hs1,List.length_take];omega
 ·show X'.w.cell? _=_;rw[Nat.zero_add,yZ8 hh];grind
 ·rw[<- htk,List.getElem?_take] at hz;rw[List.getElem?_take] at hr;split at hr
  ·rename_i hi;rw[if_pos hi] at hz;exact hex.v (hvl.2 i r z hr hz)
  ·cases hr
theorem ICall.fixL {K:IV->ISt->Prop}(h:ICall P gl f args st (λy st'=>K y st'\/∃g es zs,st g=none/\y=.raw (.slice (some ⟨g,0,none⟩) zs.length zs.length)/\st'=st.put g (some (.box (zs.flatMap IV.cells))) /\
   zs.length<=140737488355328/\(∀z∈zs,z.cells.length=es)/\K (.sl ⟨true,.app g,es⟩ zs) st)):ICall P gl f args st K:=by
 intro B X rs hg hst hv;subst hst;refine (h B X rs hg rfl hv).mono ?_;rintro e w' ⟨v,rfl,X',y,rfl,h2,h3,h4,hK|⟨g,es,zs,h0,rfl,hst',hn,hz,hK⟩⟩
 ·exact⟨v,rfl,X',y,rfl,h2,h3,h4,hK⟩
 have hgn:=wGw h3 h0 (by rw[hst'];exact ISt.put_same ..);have hk:=zGv h0 hst';have hfl:=yZ3 zs hz;obtain rfl:=V.raw_inv h4;exact⟨_,rfl,X'.lendS _ X.st,_,rfl,h2.lendS hk,h3.trans (h2.lendS_ext hk),wGv h2 h0 hst' (Nat.le_trans hg.B hgn) hn (Nat.le_refl _) (by rw[hfl];exact Nat.le_refl _) (by rw[<- hfl,lTl]) hz,hK⟩
end
end Go.Iv
namespace Go.Iv
open Go
theorem ICall.give {P:Program}{gl:Nat->Option IV}{f:FuncId}{args:List IV}{st:ISt}{K:IV->ISt->Prop}(h:ICall P gl f args st (λr st'=>∃st0,subSt st0 st'/\K r st0)):ICall P gl f args st K:=by
 intro B X rs hg hst hv;refine (h B X rs hg hst hv).mono ?_;rintro e w' ⟨v,rfl,X',x,rfl,h2,h3,h4,st0,hs,hK⟩;obtain⟨hg1,he1⟩:=h2.sub hs;exact⟨v,rfl,{ X' with st:=st0 },x,rfl,hg1,h3.trans he1,he1.v h4,hK⟩
end Go.Iv
namespace Go.Proofs.Tryz
open Go Go.Iv
set_option maxRecDepth 4000
variable (gl:Nat->Option IV)
theorem yVy (us:List Fm)(tg:Tag)(xs:List IV)(htg:okEs tg 4)(hxs:IsFms us xs)(hsz:yQ9 us<=1099511627776)(st:ISt) :
  ICall prog gl 200 [.sl tg xs] st (λr st'=>∃tg' ys,r=.sl tg' ys/\okEs tg' 4/\appT us.length tg'/\IsFmsD us ys/\st'=st) :=
 ICall.give ((vZk gl us tg xs htg hxs hsz st).mono λr st' h=>by
  obtain⟨tg',ys,rfl,he,ha,hys,_,hsub⟩:=h;exact⟨st,hsub,tg',ys,rfl,he,ha.1,hys,rfl⟩)
def IsSqD (s:Sq)(x:IV):Prop:=∃t1 x1 t2 x2,x=.agg [.sl t1 x1,.sl t2 x2]/\okEs t1 4/\appT s.l.length t1/\IsFmsD s.l x1/\okEs t2 4/\appT s.r.length t2/\IsFmsD s.r x2
theorem IsSqD.w {s:Sq}{x:IV}(h:IsSqD s x):IsSq s x:=by
 obtain⟨t1,x1,t2,x2,rfl,e1,_,i1,e2,_,i2⟩:=h;exact⟨_,_,_,_,rfl,e1,i1.1,e2,i2.1⟩
def IsSqsD:List Sq->List IV->Prop
 | [],xs=>xs=[]
 | a::l,xs=>∃y ys,xs=y::ys/\IsSqD a y/\IsSqsD l ys
theorem IsSqsD.w:∀ {l:List Sq}{xs:List IV},IsSqsD l xs->IsSqs l xs
 | [],_,h=>h
 | a::l,_,⟨y,ys,h1,h2,h3⟩=>⟨y,ys,h1,h2.w,h3.w⟩
theorem IsSqsD.mem:∀ {l:List Sq}{xs:List IV},IsSqsD l xs->∀ {k:Nat}{x:IV},xs[k]?=some x->∃s,l[k]?=some s/\IsSqD s x
 | [],_,rfl,k,x,h=>by simp at h
 | a::l,_,⟨y,ys,rfl,h2,h3⟩,0,x,h=>by cases h;exact⟨a,rfl,h2⟩
 | a::l,_,⟨y,ys,rfl,h2,h3⟩,k+1,x,h=>IsSqsD.mem h3 (by simpa using h)
theorem wGh {t:Tag}{xs:List IV}{l:List Fm}(ha:appT l.length t)(h:IsFmsD l xs):dfr (.sl t xs):=by
 simp only[dfr];exact⟨ha.pos (Nat.succ_pos _),h.2,h.1.cells_one⟩
theorem IsSqD.one {s:Sq}{x:IV}(h:IsSqD s x):x.cells.length=2/\∀c∈x.cells,c.one=true:=by
 obtain⟨t1,x1,t2,x2,rfl,_⟩:=h;refine⟨rfl,λc hc=>?_⟩;simp only[IV.cells,List.mem_cons,List.not_mem_nil,or_false] at hc;rcases hc with rfl|rfl<;>rfl
theorem yZm {l:List Sq}{xs:List IV}(h:IsSqsD l xs):∀z∈xs,z.cells.length=2:=λz hz=>by
 obtain⟨k,hk⟩:=List.mem_iff_getElem?.1 hz;obtain⟨s,_,hs⟩:=h.mem hk;exact hs.one.1
theorem IsSq.two {s:Sq}{x:IV}(h:IsSq s x):∃t xs t' ys,x=.agg [.sl t xs,.sl t' ys]:=by
 obtain⟨t,xs,t',ys,rfl,_⟩:=h;exact⟨_,_,_,_,rfl⟩
theorem zXc (us:List Fm)(tg:Tag)(xs:List IV)(htg:okEs tg 4)(hxs:IsFms us xs)(hsz:yQ9 us<=1099511627776)(st:ISt) :
  ICall prog gl 169 [.sl tg xs] st (λr st'=>IsSqD ⟨us,[]⟩ r/\st'=st):=by
 refine iI func169 ?_;simp only[go_sem,zA,reduceCtorEq];refine (yVy gl us tg xs htg hxs hsz _).mono ?_;rintro _ _ ⟨tg',ys,rfl,he,ha,hys,rfl⟩;simp only[go_sem,zE,zA,zL,fits];exact yQ0 ⟨⟨_,_,_,_,rfl,he,ha,hys,.inl rfl,.inl rfl,IsFmsD.nil⟩,rfl⟩
theorem yY1 (us:List Fm)(tg:Tag)(xs:List IV)(htg:okEs tg 4)(hxs:IsFms us xs)(hsz:yQ9 us<=1099511627776)(st:ISt) :
  ICall prog gl 166 [.sl tg xs] st (λr st'=>IsSqD ⟨[],us⟩ r/\st'=st):=by
 refine iI func166 ?_;simp only[go_sem,zA,reduceCtorEq];refine (yVy gl us tg xs htg hxs hsz _).mono ?_;rintro _ _ ⟨tg',ys,rfl,he,ha,hys,rfl⟩;simp only[go_sem,zE,zA,zL,fits];exact yQ0 ⟨⟨_,_,_,_,rfl,.inl rfl,.inl rfl,IsFmsD.nil,he,ha,hys⟩,rfl⟩
theorem yQd (x y:Operand):yKb 2 [(0,x),(1,y)]=true:=rfl
theorem vVp (a b:Fm)(x y:IV)(hx:IsFm a x)(hy:IsFm b y)(st:ISt):ICall prog gl 202 [x,y] st (λr st'=>IsFm (impF a b) r/\st'=st):=by
 have h1:IsFms [a,b] [x,y]:=⟨_,_,rfl,hx,_,_,rfl,hy,rfl⟩
 obtain⟨o5,n5,t5,x5,t6,x6,rfl⟩:=hx.agg;obtain⟨o7,n7,t7,x7,t8,x8,rfl⟩:=hy.agg;refine iI func202 ?_;simp only[go_sem,zE,zA,zM,zL,fits,yQd];exact yQ0 ⟨⟨_,_,_,_,rfl,by decide,.inl rfl,rfl,.inr rfl,h1⟩,rfl⟩
def yYo (id:Nat)(F:Fm->Fm->Fm->List Sq):Prop:=∀(m a b:Fm) (x y z:IV) (_:IsFm m x) (_:IsFm a y) (_:IsFm b z) (_:m.size<=1000000) (_:a.size<=1000000) (_:b.size<=1000000) (st:ISt),
 ICall prog gl id [x,y,z] st (λr st'=>∃tg xs,r=.sl tg xs/\okEs tg 2/\appT (F m a b).length tg/\IsSqsD (F m a b) xs/\st'=st)
theorem sq1 {s:Sq}{x:IV}(h:IsSqD s x):IsSqsD [s] [x]:=⟨_,_,rfl,h,rfl⟩
theorem sq2 {s s':Sq}{x x':IV}(h:IsSqD s x)(h':IsSqD s' x'):IsSqsD [s,s'] [x,x']:=⟨_,_,rfl,h,_,_,rfl,h',rfl⟩
theorem wV3:yYo gl 190 (λ_ _ _=>[]):=by
 intro m a b x y z hx hy hz hm ha hb st;obtain⟨o1,n1,t1,x1,t2,x2,rfl⟩:=hx.agg;obtain⟨o3,n3,t3,x3,t4,x4,rfl⟩:=hy.agg;obtain⟨o5,n5,t5,x5,t6,x6,rfl⟩:=hz.agg;refine iI func190 ?_;simp only[go_sem,zE];exact yQ0 ⟨_,_,rfl,.inl rfl,.inl rfl,rfl,rfl⟩
theorem wV2:yYo gl 191 (λ_ _ _=>[]):=by
 intro m a b x y z hx hy hz hm ha hb st;obtain⟨o1,n1,t1,x1,t2,x2,rfl⟩:=hx.agg;obtain⟨o3,n3,t3,x3,t4,x4,rfl⟩:=hy.agg;obtain⟨o5,n5,t5,x5,t6,x6,rfl⟩:=hz.agg;refine iI func191 ?_;simp only[go_sem,zE];exact yQ0 ⟨_,_,rfl,.inl rfl,.inl rfl,rfl,rfl⟩
theorem wV1:yYo gl 192 (λm a b=>[⟨[],[a]⟩]):=by
 intro m a b x y z hx hy hz hm ha hb st;have hx0:=hx;have hy0:=hy;have hz0:=hz;obtain⟨o1,n1,t1,x1,t2,x2,rfl⟩:=hx.agg;obtain⟨o3,n3,t3,x3,t4,x4,rfl⟩:=hy.agg;obtain⟨o5,n5,t5,x5,t6,x6,rfl⟩:=hz.agg;have ia:=IsFms.one hy0;have ib:=IsFms.one hz0;have im:=IsFms.one hx0;have iab:IsFms [a,b] [_,_]:=⟨_,_,rfl,hy0,ib⟩
 refine ICall.fixL ?_;refine ICall.intro (c:=cf prog gl [10] []) func192 rfl (by show _<=11;simp) (by kernel_rfl) ?_;simp only[go_sem,zE,zA,zM,zL,fits,yQ1];refine (yY1 gl _ _ _ (.inr rfl) ia (by simp only[yQ9];omega) _).mono ?_;rintro r _ ⟨hr,rfl⟩;have h1:=sq1 hr;obtain⟨_,_,_,_,rfl⟩:=IsSq.two hr.w;simp only[go_sem,zA,zM,zL,fits,yQ1];refine λg=>yQc λhg=>?_;exact yQ0 (.inr ⟨g,2,_,hg,rfl,rfl,by simp,yZm h1,_,_,rfl,.inr rfl,.inr ⟨by simp,rfl,g,rfl⟩,h1⟩)
theorem wV0:yYo gl 193 (λm a b=>[⟨[a],[]⟩]):=by
 intro m a b x y z hx hy hz hm ha hb st;have hx0:=hx;have hy0:=hy;have hz0:=hz;obtain⟨o1,n1,t1,x1,t2,x2,rfl⟩:=hx.agg;obtain⟨o3,n3,t3,x3,t4,x4,rfl⟩:=hy.agg;obtain⟨o5,n5,t5,x5,t6,x6,rfl⟩:=hz.agg;have ia:=IsFms.one hy0;have ib:=IsFms.one hz0;have im:=IsFms.one hx0;have iab:IsFms [a,b] [_,_]:=⟨_,_,rfl,hy0,ib⟩
 refine ICall.fixL ?_;refine ICall.intro (c:=cf prog gl [10] []) func193 rfl (by show _<=11;simp) (by kernel_rfl) ?_;simp only[go_sem,zE,zA,zM,zL,fits,yQ1];refine (zXc gl _ _ _ (.inr rfl) ia (by simp only[yQ9];omega) _).mono ?_;rintro r _ ⟨hr,rfl⟩;have h1:=sq1 hr;obtain⟨_,_,_,_,rfl⟩:=IsSq.two hr.w;simp only[go_sem,zA,zM,zL,fits,yQ1];refine λg=>yQc λhg=>?_;exact yQ0 (.inr ⟨g,2,_,hg,rfl,rfl,by simp,yZm h1,_,_,rfl,.inr rfl,.inr ⟨by simp,rfl,g,rfl⟩,h1⟩)
theorem wKz:yYo gl 194 (λm a b=>[⟨[a,b],[]⟩]):=by
 intro m a b x y z hx hy hz hm ha hb st;have hx0:=hx;have hy0:=hy;have hz0:=hz;obtain⟨o1,n1,t1,x1,t2,x2,rfl⟩:=hx.agg;obtain⟨o3,n3,t3,x3,t4,x4,rfl⟩:=hy.agg;obtain⟨o5,n5,t5,x5,t6,x6,rfl⟩:=hz.agg;have ia:=IsFms.one hy0;have ib:=IsFms.one hz0;have im:=IsFms.one hx0;have iab:IsFms [a,b] [_,_]:=⟨_,_,rfl,hy0,ib⟩
 refine ICall.fixL ?_;refine ICall.intro (c:=cf prog gl [11] []) func194 rfl (by show _<=12;simp) (by kernel_rfl) ?_;simp only[go_sem,zE,zA,zM,zL,fits,yQd];refine (zXc gl _ _ _ (.inr rfl) iab (by simp only[yQ9];omega) _).mono ?_;rintro r _ ⟨hr,rfl⟩;have h1:=sq1 hr;obtain⟨_,_,_,_,rfl⟩:=IsSq.two hr.w;simp only[go_sem,zA,zM,zL,fits,yQ1];refine λg=>yQc λhg=>?_;exact yQ0 (.inr ⟨g,2,_,hg,rfl,rfl,by simp,yZm h1,_,_,rfl,.inr rfl,.inr ⟨by simp,rfl,g,rfl⟩,h1⟩)
theorem wKy:yYo gl 195 (λm a b=>[⟨[],[a]⟩,⟨[],[b]⟩]):=by
 intro m a b x y z hx hy hz hm ha hb st;have hx0:=hx;have hy0:=hy;have hz0:=hz;obtain⟨o1,n1,t1,x1,t2,x2,rfl⟩:=hx.agg;obtain⟨o3,n3,t3,x3,t4,x4,rfl⟩:=hy.agg;obtain⟨o5,n5,t5,x5,t6,x6,rfl⟩:=hz.agg;have ia:=IsFms.one hy0;have ib:=IsFms.one hz0;have im:=IsFms.one hx0;have iab:IsFms [a,b] [_,_]:=⟨_,_,rfl,hy0,ib⟩
 refine ICall.fixL ?_;refine ICall.intro (c:=cf prog gl [13] [(1,[0,1,3,4,2,5,6,7])]) func195 rfl (by show _<=14;simp) (by kernel_rfl) ?_;simp only[go_sem,zE,zA,zM,zL,fits,yQ1];refine (yY1 gl _ _ _ (.inr rfl) ia (by simp only[yQ9];omega) _).mono ?_;rintro r _ ⟨hr,rfl⟩;have hr0:=hr;obtain⟨_,_,_,_,rfl⟩:=IsSq.two hr.w;simp only[go_sem,zE,zA];refine (yY1 gl _ _ _ (.inr rfl) ib (by simp only[yQ9];omega) _).mono ?_;rintro r _ ⟨hr,rfl⟩;have h1:=sq2 hr0 hr;obtain⟨_,_,_,_,rfl⟩:=IsSq.two hr.w;simp only[go_sem,zE,zA,zM,zL,fits,yQd];refine λg=>yQc λhg=>?_;exact yQ0 (.inr ⟨g,2,_,hg,rfl,rfl,by simp,yZm h1,_,_,rfl,.inr rfl,.inr ⟨by simp,rfl,g,rfl⟩,h1⟩)
theorem wKx:yYo gl 196 (λm a b=>[⟨[a],[]⟩,⟨[b],[]⟩]):=by
 intro m a b x y z hx hy hz hm ha hb st;have hx0:=hx;have hy0:=hy;have hz0:=hz;obtain⟨o1,n1,t1,x1,t2,x2,rfl⟩:=hx.agg;obtain⟨o3,n3,t3,x3,t4,x4,rfl⟩:=hy.agg;obtain⟨o5,n5,t5,x5,t6,x6,rfl⟩:=hz.agg;have ia:=IsFms.one hy0;have ib:=IsFms.one hz0;have im:=IsFms.one hx0;have iab:IsFms [a,b] [_,_]:=⟨_,_,rfl,hy0,ib⟩
 refine ICall.fixL ?_;refine ICall.intro (c:=cf prog gl [13] [(1,[0,1,3,4,2,5,6,7])]) func196 rfl (by show _<=14;simp) (by kernel_rfl) ?_;simp only[go_sem,zE,zA,zM,zL,fits,yQ1];refine (zXc gl _ _ _ (.inr rfl) ia (by simp only[yQ9];omega) _).mono ?_;rintro r _ ⟨hr,rfl⟩;have hr0:=hr;obtain⟨_,_,_,_,rfl⟩:=IsSq.two hr.w;simp only[go_sem,zE,zA];refine (zXc gl _ _ _ (.inr rfl) ib (by simp only[yQ9];omega) _).mono ?_;rintro r _ ⟨hr,rfl⟩;have h1:=sq2 hr0 hr;obtain⟨_,_,_,_,rfl⟩:=IsSq.two hr.w;simp only[go_sem,zE,zA,zM,zL,fits,yQd];refine λg=>yQc λhg=>?_;exact yQ0 (.inr ⟨g,2,_,hg,rfl,rfl,by simp,yZm h1,_,_,rfl,.inr rfl,.inr ⟨by simp,rfl,g,rfl⟩,h1⟩)
theorem wKw:yYo gl 197 (λm a b=>[⟨[],[a,b]⟩]):=by
 intro m a b x y z hx hy hz hm ha hb st;have hx0:=hx;have hy0:=hy;have hz0:=hz;obtain⟨o1,n1,t1,x1,t2,x2,rfl⟩:=hx.agg;obtain⟨o3,n3,t3,x3,t4,x4,rfl⟩:=hy.agg;obtain⟨o5,n5,t5,x5,t6,x6,rfl⟩:=hz.agg;have ia:=IsFms.one hy0;have ib:=IsFms.one hz0;have im:=IsFms.one hx0;have iab:IsFms [a,b] [_,_]:=⟨_,_,rfl,hy0,ib⟩
 refine ICall.fixL ?_;refine ICall.intro (c:=cf prog gl [11] []) func197 rfl (by show _<=12;simp) (by kernel_rfl) ?_;simp only[go_sem,zE,zA,zM,zL,fits,yQd];refine (yY1 gl _ _ _ (.inr rfl) iab (by simp only[yQ9];omega) _).mono ?_;rintro r _ ⟨hr,rfl⟩;have h1:=sq1 hr;obtain⟨_,_,_,_,rfl⟩:=IsSq.two hr.w;simp only[go_sem,zA,zM,zL,fits,yQ1];refine λg=>yQc λhg=>?_;exact yQ0 (.inr ⟨g,2,_,hg,rfl,rfl,by simp,yZm h1,_,_,rfl,.inr rfl,.inr ⟨by simp,rfl,g,rfl⟩,h1⟩)
theorem wKv:yYo gl 198 (λm a b=>[⟨[],[a]⟩,⟨[b],[]⟩]):=by
 intro m a b x y z hx hy hz hm ha hb st;have hx0:=hx;have hy0:=hy;have hz0:=hz;obtain⟨o1,n1,t1,x1,t2,x2,rfl⟩:=hx.agg;obtain⟨o3,n3,t3,x3,t4,x4,rfl⟩:=hy.agg;obtain⟨o5,n5,t5,x5,t6,x6,rfl⟩:=hz.agg;have ia:=IsFms.one hy0;have ib:=IsFms.one hz0;have im:=IsFms.one hx0;have iab:IsFms [a,b] [_,_]:=⟨_,_,rfl,hy0,ib⟩
 refine ICall.fixL ?_;refine ICall.intro (c:=cf prog gl [13] [(1,[0,1,3,4,2,5,6,7])]) func198 rfl (by show _<=14;simp) (by kernel_rfl) ?_;simp only[go_sem,zE,zA,zM,zL,fits,yQ1];refine (yY1 gl _ _ _ (.inr rfl) ia (by simp only[yQ9];omega) _).mono ?_;rintro r _ ⟨hr,rfl⟩;have hr0:=hr;obtain⟨_,_,_,_,rfl⟩:=IsSq.two hr.w;simp only[go_sem,zE,zA];refine (zXc gl _ _ _ (.inr rfl) ib (by simp only[yQ9];omega) _).mono ?_;rintro r _ ⟨hr,rfl⟩;have h1:=sq2 hr0 hr;obtain⟨_,_,_,_,rfl⟩:=IsSq.two hr.w;simp only[go_sem,zE,zA,zM,zL,fits,yQd];refine λg=>yQc λhg=>?_;exact yQ0 (.inr ⟨g,2,_,hg,rfl,rfl,by simp,yZm h1,_,_,rfl,.inr rfl,.inr ⟨by simp,rfl,g,rfl⟩,h1⟩)
theorem xKu:yYo gl 204 (λm a b=>[⟨[],[m]⟩,⟨[m],[]⟩]):=by
 intro m a b x y z hx hy hz hm ha hb st;have hx0:=hx;have hy0:=hy;have hz0:=hz;obtain⟨o1,n1,t1,x1,t2,x2,rfl⟩:=hx.agg;obtain⟨o3,n3,t3,x3,t4,x4,rfl⟩:=hy.agg;obtain⟨o5,n5,t5,x5,t6,x6,rfl⟩:=hz.agg;have ia:=IsFms.one hy0;have ib:=IsFms.one hz0;have im:=IsFms.one hx0;have iab:IsFms [a,b] [_,_]:=⟨_,_,rfl,hy0,ib⟩
 refine ICall.fixL ?_;refine ICall.intro (c:=cf prog gl [13] [(1,[0,1,3,4,2,5,6,7])]) func204 rfl (by show _<=14;simp) (by kernel_rfl) ?_;simp only[go_sem,zE,zA,zM,zL,fits,yQ1];refine (yY1 gl _ _ _ (.inr rfl) im (by simp only[yQ9];omega) _).mono ?_;rintro r _ ⟨hr,rfl⟩;have hr0:=hr;obtain⟨_,_,_,_,rfl⟩:=IsSq.two hr.w;simp only[go_sem,zE,zA];refine (zXc gl _ _ _ (.inr rfl) im (by simp only[yQ9];omega) _).mono ?_;rintro r _ ⟨hr,rfl⟩;have h1:=sq2 hr0 hr;obtain⟨_,_,_,_,rfl⟩:=IsSq.two hr.w;simp only[go_sem,zE,zA,zM,zL,fits,yQd];refine λg=>yQc λhg=>?_;exact yQ0 (.inr ⟨g,2,_,hg,rfl,rfl,by simp,yZm h1,_,_,rfl,.inr rfl,.inr ⟨by simp,rfl,g,rfl⟩,h1⟩)
theorem xKs:yYo gl 165 (λm a b=>[⟨[],[a]⟩]):=by
 intro m a b x y z hx hy hz hm ha hb st;have hx0:=hx;have hy0:=hy;have hz0:=hz;obtain⟨o1,n1,t1,x1,t2,x2,rfl⟩:=hx.agg;obtain⟨o3,n3,t3,x3,t4,x4,rfl⟩:=hy.agg;obtain⟨o5,n5,t5,x5,t6,x6,rfl⟩:=hz.agg;have ia:=IsFms.one hy0;have ib:=IsFms.one hz0;have im:=IsFms.one hx0;have iab:IsFms [a,b] [_,_]:=⟨_,_,rfl,hy0,ib⟩
 refine ICall.fixL ?_;refine ICall.intro (c:=cf prog gl [10] []) func165 rfl (by show _<=11;simp) (by kernel_rfl) ?_;simp only[go_sem,zE,zA,zM,zL,fits,yQ1];refine (yY1 gl _ _ _ (.inr rfl) ia (by simp only[yQ9];omega) _).mono ?_;rintro r _ ⟨hr,rfl⟩;have h1:=sq1 hr;obtain⟨_,_,_,_,rfl⟩:=IsSq.two hr.w;simp only[go_sem,zA,zM,zL,fits,yQ1];refine λg=>yQc λhg=>?_;exact yQ0 (.inr ⟨g,2,_,hg,rfl,rfl,by simp,yZm h1,_,_,rfl,.inr rfl,.inr ⟨by simp,rfl,g,rfl⟩,h1⟩)
theorem xKt:yYo gl 167 (λm a b=>[⟨[],[b]⟩]):=by
 intro m a b x y z hx hy hz hm ha hb st;have hx0:=hx;have hy0:=hy;have hz0:=hz;obtain⟨o1,n1,t1,x1,t2,x2,rfl⟩:=hx.agg;obtain⟨o3,n3,t3,x3,t4,x4,rfl⟩:=hy.agg;obtain⟨o5,n5,t5,x5,t6,x6,rfl⟩:=hz.agg;have ia:=IsFms.one hy0;have ib:=IsFms.one hz0;have im:=IsFms.one hx0;have iab:IsFms [a,b] [_,_]:=⟨_,_,rfl,hy0,ib⟩
 refine ICall.fixL ?_;refine ICall.intro (c:=cf prog gl [10] []) func167 rfl (by show _<=11;simp) (by kernel_rfl) ?_;simp only[go_sem,zE,zA,zM,zL,fits,yQ1];refine (yY1 gl _ _ _ (.inr rfl) ib (by simp only[yQ9];omega) _).mono ?_;rintro r _ ⟨hr,rfl⟩;have h1:=sq1 hr;obtain⟨_,_,_,_,rfl⟩:=IsSq.two hr.w;simp only[go_sem,zA,zM,zL,fits,yQ1];refine λg=>yQc λhg=>?_;exact yQ0 (.inr ⟨g,2,_,hg,rfl,rfl,by simp,yZm h1,_,_,rfl,.inr rfl,.inr ⟨by simp,rfl,g,rfl⟩,h1⟩)
theorem wKu:yYo gl 168 (λm a b=>[⟨[a],[]⟩]):=by
 intro m a b x y z hx hy hz hm ha hb st;have hx0:=hx;have hy0:=hy;have hz0:=hz;obtain⟨o1,n1,t1,x1,t2,x2,rfl⟩:=hx.agg;obtain⟨o3,n3,t3,x3,t4,x4,rfl⟩:=hy.agg;obtain⟨o5,n5,t5,x5,t6,x6,rfl⟩:=hz.agg;have ia:=IsFms.one hy0;have ib:=IsFms.one hz0;have im:=IsFms.one hx0;have iab:IsFms [a,b] [_,_]:=⟨_,_,rfl,hy0,ib⟩
 refine ICall.fixL ?_;refine ICall.intro (c:=cf prog gl [10] []) func168 rfl (by show _<=11;simp) (by kernel_rfl) ?_;simp only[go_sem,zE,zA,zM,zL,fits,yQ1];refine (zXc gl _ _ _ (.inr rfl) ia (by simp only[yQ9];omega) _).mono ?_;rintro r _ ⟨hr,rfl⟩;have h1:=sq1 hr;obtain⟨_,_,_,_,rfl⟩:=IsSq.two hr.w;simp only[go_sem,zA,zM,zL,fits,yQ1];refine λg=>yQc λhg=>?_;exact yQ0 (.inr ⟨g,2,_,hg,rfl,rfl,by simp,yZm h1,_,_,rfl,.inr rfl,.inr ⟨by simp,rfl,g,rfl⟩,h1⟩)
theorem wKt:yYo gl 170 (λm a b=>[⟨[],[a]⟩]):=by
 intro m a b x y z hx hy hz hm ha hb st;have hx0:=hx;have hy0:=hy;have hz0:=hz;obtain⟨o1,n1,t1,x1,t2,x2,rfl⟩:=hx.agg;obtain⟨o3,n3,t3,x3,t4,x4,rfl⟩:=hy.agg;obtain⟨o5,n5,t5,x5,t6,x6,rfl⟩:=hz.agg;have ia:=IsFms.one hy0;have ib:=IsFms.one hz0;have im:=IsFms.one hx0;have iab:IsFms [a,b] [_,_]:=⟨_,_,rfl,hy0,ib⟩
 refine ICall.fixL ?_;refine ICall.intro (c:=cf prog gl [10] []) func170 rfl (by show _<=11;simp) (by kernel_rfl) ?_;simp only[go_sem,zE,zA,zM,zL,fits,yQ1];refine (yY1 gl _ _ _ (.inr rfl) ia (by simp only[yQ9];omega) _).mono ?_;rintro r _ ⟨hr,rfl⟩;have h1:=sq1 hr;obtain⟨_,_,_,_,rfl⟩:=IsSq.two hr.w;simp only[go_sem,zA,zM,zL,fits,yQ1];refine λg=>yQc λhg=>?_;exact yQ0 (.inr ⟨g,2,_,hg,rfl,rfl,by simp,yZm h1,_,_,rfl,.inr rfl,.inr ⟨by simp,rfl,g,rfl⟩,h1⟩)
theorem xKx:yYo gl 199 (λm a b=>[⟨[a],[b]⟩]):=by
 intro m a b x y z hx hy hz hm ha hb st;have hx0:=hx;have hy0:=hy;have hz0:=hz;obtain⟨o1,n1,t1,x1,t2,x2,rfl⟩:=hx.agg;obtain⟨o3,n3,t3,x3,t4,x4,rfl⟩:=hy.agg;obtain⟨o5,n5,t5,x5,t6,x6,rfl⟩:=hz.agg;have ia:=IsFms.one hy0;have ib:=IsFms.one hz0;have im:=IsFms.one hx0;have iab:IsFms [a,b] [_,_]:=⟨_,_,rfl,hy0,ib⟩
 refine ICall.fixL ?_;refine ICall.intro (c:=cf prog gl [14] [(1,[0,1,3,4,2,5,6,7,8])]) func199 rfl (by show _<=15;simp) (by kernel_rfl) ?_;simp only[go_sem,zE,zA,zM,zL,fits,yQ1];refine (yVy gl _ _ _ (.inr rfl) ia (by simp only[yQ9];omega) _).mono ?_;rintro _ _ ⟨tg1,ys1,rfl,he1,ha1,hys1,rfl⟩;simp only[go_sem,zE,zA];refine (yVy gl _ _ _ (.inr rfl) ib (by simp only[yQ9];omega) _).mono ?_;rintro _ _ ⟨tg2,ys2,rfl,he2,ha2,hys2,rfl⟩;simp only[go_sem,zE,zA,zM,zL,fits,yQ1];have h1:=sq1 (s:=⟨[a],[b]⟩) ⟨_,_,_,_,rfl,he1,ha1,hys1,he2,ha2,hys2⟩;refine λg=>yQc λhg=>?_;exact yQ0 (.inr ⟨g,2,_,hg,rfl,rfl,by simp,yZm h1,_,_,rfl,.inr rfl,.inr ⟨by simp,rfl,g,rfl⟩,h1⟩)
theorem xKv:yYo gl 203 (λm a b=>[⟨[a],[b]⟩,⟨[b],[a]⟩]):=by
 intro m a b x y z hx hy hz hm ha hb st;have hx0:=hx;have hy0:=hy;have hz0:=hz;obtain⟨o1,n1,t1,x1,t2,x2,rfl⟩:=hx.agg;obtain⟨o3,n3,t3,x3,t4,x4,rfl⟩:=hy.agg;obtain⟨o5,n5,t5,x5,t6,x6,rfl⟩:=hz.agg;have ia:=IsFms.one hy0;have ib:=IsFms.one hz0;have im:=IsFms.one hx0;have iab:IsFms [a,b] [_,_]:=⟨_,_,rfl,hy0,ib⟩
 refine ICall.fixL ?_;refine ICall.intro (c:=cf prog gl [21] [(1,[0,1,3,4,7,8,10,11,2,5,6,9,12,13,14,15])]) func203 rfl (by show _<=22;simp) (by kernel_rfl) ?_;simp only[go_sem,zE,zA,zM,zL,fits,yQ1];refine (yVy gl _ _ _ (.inr rfl) ia (by simp only[yQ9];omega) _).mono ?_;rintro _ _ ⟨tg1,ys1,rfl,he1,ha1,hys1,rfl⟩;simp only[go_sem,zE,zA];refine (yVy gl _ _ _ (.inr rfl) ib (by simp only[yQ9];omega) _).mono ?_;rintro _ _ ⟨tg2,ys2,rfl,he2,ha2,hys2,rfl⟩;simp only[go_sem,zE,zA,zL,fits];refine (yVy gl _ _ _ (.inr rfl) ib (by simp only[yQ9];omega) _).mono ?_;rintro _ _ ⟨tg3,ys3,rfl,he3,ha3,hys3,rfl⟩;simp only[go_sem,zE,zA];refine (yVy gl _ _ _ (.inr rfl) ia (by simp only[yQ9];omega) _).mono ?_;rintro _ _ ⟨tg4,ys4,rfl,he4,ha4,hys4,rfl⟩;simp only[go_sem,zE,zA,zM,zL,fits,yQd];have h1:=sq2 (s:=⟨[a],[b]⟩) (s':=⟨[b],[a]⟩) ⟨_,_,_,_,rfl,he1,ha1,hys1,he2,ha2,hys2⟩ ⟨_,_,_,_,rfl,he3,ha3,hys3,he4,ha4,hys4⟩;refine λg=>yQc λhg=>?_;exact yQ0 (.inr ⟨g,2,_,hg,rfl,rfl,by simp,yZm h1,_,_,rfl,.inr rfl,.inr ⟨by simp,rfl,g,rfl⟩,h1⟩)
theorem xKw:yYo gl 201 (λm a b=>[⟨[impF a b,impF b a],[]⟩]):=by
 intro m a b x y z hx hy hz hm ha hb st;have hx0:=hx;have hy0:=hy;have hz0:=hz;obtain⟨o1,n1,t1,x1,t2,x2,rfl⟩:=hx.agg;obtain⟨o3,n3,t3,x3,t4,x4,rfl⟩:=hy.agg;obtain⟨o5,n5,t5,x5,t6,x6,rfl⟩:=hz.agg;have ia:=IsFms.one hy0;have ib:=IsFms.one hz0;have im:=IsFms.one hx0;have iab:IsFms [a,b] [_,_]:=⟨_,_,rfl,hy0,ib⟩
 refine ICall.fixL ?_;refine ICall.intro (c:=cf prog gl [15] [(1,[0,1,3,4,2,5,6,7,8,9])]) func201 rfl (by show _<=16;simp) (by kernel_rfl) ?_;simp only[go_sem,zE,zA,zL];refine (vVp gl a b _ _ hy0 hz0 _).mono ?_;rintro r _ ⟨hr,rfl⟩;have hr0:=hr;obtain⟨_,_,_,_,_,_,rfl⟩:=hr.agg;simp only[go_sem,zE,zA];refine (vVp gl b a _ _ hz0 hy0 _).mono ?_;rintro r _ ⟨hr,rfl⟩;have hr1:IsFms [impF a b,impF b a] [_,_]:=⟨_,_,rfl,hr0,IsFms.one hr⟩
 obtain⟨_,_,_,_,_,_,rfl⟩:=hr.agg;simp only[go_sem,zE,zA,zM,zL,fits,yQd];refine (zXc gl _ _ _ (.inr rfl) hr1 (by simp only[yQ9,impF,Fm.size,yQh];omega) _).mono ?_;rintro r _ ⟨hr,rfl⟩;have h1:=sq1 hr;obtain⟨_,_,_,_,rfl⟩:=IsSq.two hr.w;simp only[go_sem,zA,zM,zL,fits,yQ1];refine λg=>yQc λhg=>?_;exact yQ0 (.inr ⟨g,2,_,hg,rfl,rfl,by simp,yZm h1,_,_,rfl,.inr rfl,.inr ⟨by simp,rfl,g,rfl⟩,h1⟩)
def IsHf (h:Bool×Fm)(x:IV):Prop:=∃(o:Int) (n:ByteArray) (t:Tag) (xs:List IV) (t':Tag) (ys:List IV),x=.agg [.raw (.bool h.1),.raw (.int .u8 o),.raw (.string n),.sl t xs,.sl t' ys]/\IsFm h.2 (.agg [.raw (.int .u8 o),.raw (.string n),.sl t xs,.sl t' ys])
def IsHfs:List (Bool×Fm)->List IV->Prop
 | [],xs=>xs=[]
 | a::l,xs=>∃y ys,xs=y::ys/\IsHf a y/\IsHfs l ys
def IsHss:List (List (Bool×Fm))->List IV->Prop
 | [],xs=>xs=[]
 | a::l,xs=>∃t zs ys,xs=.sl t zs::ys/\okEs t 5/\IsHfs a zs/\IsHss l ys
theorem IsHfs.len:∀ {l:List (Bool×Fm)}{xs:List IV},IsHfs l xs->xs.length=l.length
 | [],_,rfl=>rfl
 | a::l,_,⟨y,ys,rfl,_,h⟩=>by simp[IsHfs.len h]
theorem IsHss.len:∀ {l:List (List (Bool×Fm))}{xs:List IV},IsHss l xs->xs.length=l.length
 | [],_,rfl=>rfl
 | a::l,_,⟨_,_,ys,rfl,_,_,h⟩=>by simp[IsHss.len h]
theorem IsHfs.get:∀ {l:List (Bool×Fm)}{xs:List IV}{k:Nat}{a:Bool×Fm},IsHfs l xs->l[k]?=some a->∃x,xs[k]?=some x/\IsHf a x
 | [],xs,k,a,h,hk=>by simp at hk
 | b::l,_,0,a,⟨y,ys,rfl,hy,h⟩,hk=>by simp at hk;subst hk;exact⟨y,rfl,hy⟩
 | b::l,_,k+1,a,⟨y,ys,rfl,hy,h⟩,hk=>by simpa using IsHfs.get h (by simpa using hk)
theorem IsHss.get:∀ {l:List (List (Bool×Fm))}{xs:List IV}{k:Nat}{a:List (Bool×Fm)},IsHss l xs->l[k]?=some a->∃t zs,xs[k]?=some (.sl t zs)/\okEs t 5/\IsHfs a zs
 | [],xs,k,a,h,hk=>by simp at hk
 | b::l,_,0,a,⟨t,zs,ys,rfl,ht,hz,h⟩,hk=>by simp at hk;subst hk;exact⟨t,zs,rfl,ht,hz⟩
 | b::l,_,k+1,a,⟨t,zs,ys,rfl,ht,hz,h⟩,hk=>by simpa using IsHss.get h (by simpa using hk)
theorem hf1 {h:Bool×Fm}{x:IV}(h1:IsHf h x):IsHfs [h] [x]:=⟨_,_,rfl,h1,rfl⟩
theorem hf2 {h h':Bool×Fm}{x x':IV}(h1:IsHf h x)(h2:IsHf h' x'):IsHfs [h,h'] [x,x']:=⟨_,_,rfl,h1,hf1 h2⟩
theorem hs1 {a:List (Bool×Fm)}{t:Tag}{zs:List IV}(ht:okEs t 5)(h:IsHfs a zs):IsHss [a] [.sl t zs]:=⟨_,_,_,rfl,ht,h,rfl⟩
theorem hs2 {a a':List (Bool×Fm)}{t t':Tag}{zs zs':List IV}(ht:okEs t 5)(h:IsHfs a zs)(ht':okEs t' 5)(h':IsHfs a' zs'):IsHss [a,a'] [.sl t zs,.sl t' zs']:=⟨_,_,_,rfl,ht,h,hs1 ht' h'⟩
theorem zJe (f:Fm)(x:IV)(hx:IsFm f x)(st:ISt):ICall prog gl 138 [x] st (λr st'=>IsHf (true,f) r/\st'=st):=by
 have hx0:=hx;obtain⟨o1,n1,t1,x1,t2,x2,rfl⟩:=hx.agg;refine iI func138 ?_;simp only[go_sem,zE,zB,zA,zM,zS,zL,reduceCtorEq,fits];exact yQ0 ⟨⟨_,_,_,_,_,_,rfl,hx0⟩,rfl⟩
theorem no_c (f:Fm)(x:IV)(hx:IsFm f x)(st:ISt):ICall prog gl 136 [x] st (λr st'=>IsHf (false,f) r/\st'=st):=by
 have hx0:=hx;obtain⟨o1,n1,t1,x1,t2,x2,rfl⟩:=hx.agg;refine iI func136 ?_;simp only[go_sem,zE,zB,zA,zM,zS,zL,reduceCtorEq,fits];exact yQ0 ⟨⟨_,_,_,_,_,_,rfl,hx0⟩,rfl⟩
theorem wGf (a b:Fm)(x y:IV)(hx:IsFm a x)(hy:IsFm b y)(st:ISt):ICall prog gl 146 [x,y] st (λr st'=>IsFm (impF a b) r/\st'=st):=by
 have h1:IsFms [a,b] [x,y]:=⟨_,_,rfl,hx,_,_,rfl,hy,rfl⟩
 obtain⟨o5,n5,t5,x5,t6,x6,rfl⟩:=hx.agg;obtain⟨o7,n7,t7,x7,t8,x8,rfl⟩:=hy.agg;refine iI func146 ?_;simp only[go_sem,zE,zB,zA,zM,zS,zL,reduceCtorEq,fits,yQd];exact yQ0 ⟨⟨_,_,_,_,rfl,by decide,.inl rfl,rfl,.inr rfl,h1⟩,rfl⟩
def zVu (id:Nat)(F:Fm->Fm->List (List (Bool×Fm))):Prop:=∀(a b:Fm) (x y:IV) (_:IsFm a x) (_:IsFm b y) (st:ISt),
 ICall prog gl id [x,y] st (λr st'=>∃tg xs,r=.sl tg xs/\okEs tg 1/\IsHss (F a b) xs/\st'=st)
theorem vYr:zVu gl 135 (λa b=>[[(false,a)]]):=by
 intro a b x y hx hy st;have hx0:=hx;have hy0:=hy;obtain⟨o1,n1,t1,x1,t2,x2,rfl⟩:=hx.agg;obtain⟨o3,n3,t3,x3,t4,x4,rfl⟩:=hy.agg;refine iI func135 ?_;simp only[go_sem,zE,zB,zA,zM,zS,zL,reduceCtorEq,fits,yQ1];refine (no_c gl _ _ hx0 _).mono ?_;rintro r _ ⟨h1,rfl⟩;have h1':=h1;obtain⟨_,_,_,_,_,_,rfl,_⟩:=h1;simp only[go_sem,zE,zB,zA,zM,zS,zL,reduceCtorEq,fits,yQ1];exact yQ0 ⟨_,_,rfl,.inr rfl,hs1 (.inr rfl) (hf1 h1'),rfl⟩
theorem vYq:zVu gl 137 (λa b=>[[(true,a)]]):=by
 intro a b x y hx hy st;have hx0:=hx;have hy0:=hy;obtain⟨o1,n1,t1,x1,t2,x2,rfl⟩:=hx.agg;obtain⟨o3,n3,t3,x3,t4,x4,rfl⟩:=hy.agg;refine iI func137 ?_;simp only[go_sem,zE,zB,zA,zM,zS,zL,reduceCtorEq,fits,yQ1];refine (zJe gl _ _ hx0 _).mono ?_;rintro r _ ⟨h1,rfl⟩;have h1':=h1;obtain⟨_,_,_,_,_,_,rfl,_⟩:=h1;simp only[go_sem,zE,zB,zA,zM,zS,zL,reduceCtorEq,fits,yQ1];exact yQ0 ⟨_,_,rfl,.inr rfl,hs1 (.inr rfl) (hf1 h1'),rfl⟩
theorem vYp:zVu gl 139 (λa b=>[[(true,a),(true,b)]]):=by
 intro a b x y hx hy st;have hx0:=hx;have hy0:=hy;obtain⟨o1,n1,t1,x1,t2,x2,rfl⟩:=hx.agg;obtain⟨o3,n3,t3,x3,t4,x4,rfl⟩:=hy.agg;refine ICall.intro (c:=cf prog gl [] [(1,[0,2,1,3,4,5,6])]) func139 rfl (by show _<=11;simp) (by kernel_rfl) ?_;simp only[go_sem,zE,zB,zA,zM,zS,zL,reduceCtorEq,fits,yQ1,yQd];refine (zJe gl _ _ hx0 _).mono ?_;rintro r1 _ ⟨h1,rfl⟩;have h1':=h1;obtain⟨_,_,_,_,_,_,rfl,_⟩:=h1;simp only[go_sem,zE,zB,zA,zM,zS,zL,reduceCtorEq,fits,yQ1,yQd];refine (zJe gl _ _ hy0 _).mono ?_;rintro r2 _ ⟨h2,rfl⟩;have h2':=h2;obtain⟨_,_,_,_,_,_,rfl,_⟩:=h2;simp only[go_sem,zE,zB,zA,zM,zS,zL,reduceCtorEq,fits,yQ1,yQd];exact yQ0 ⟨_,_,rfl,.inr rfl,hs1 (.inr rfl) (hf2 h1' h2'),rfl⟩
theorem vYo:zVu gl 140 (λa b=>[[(false,a)],[(false,b)]]):=by
 intro a b x y hx hy st;have hx0:=hx;have hy0:=hy;obtain⟨o1,n1,t1,x1,t2,x2,rfl⟩:=hx.agg;obtain⟨o3,n3,t3,x3,t4,x4,rfl⟩:=hy.agg;refine ICall.intro (c:=cf prog gl [] [(1,[0,3,1,2,4,5,6,7])]) func140 rfl (by show _<=12;simp) (by kernel_rfl) ?_;simp only[go_sem,zE,zB,zA,zM,zS,zL,reduceCtorEq,fits,yQ1,yQd];refine (no_c gl _ _ hx0 _).mono ?_;rintro r1 _ ⟨h1,rfl⟩;have h1':=h1;obtain⟨_,_,_,_,_,_,rfl,_⟩:=h1;simp only[go_sem,zE,zB,zA,zM,zS,zL,reduceCtorEq,fits,yQ1,yQd];refine (no_c gl _ _ hy0 _).mono ?_;rintro r2 _ ⟨h2,rfl⟩;have h2':=h2;obtain⟨_,_,_,_,_,_,rfl,_⟩:=h2;simp only[go_sem,zE,zB,zA,zM,zS,zL,reduceCtorEq,fits,yQ1,yQd];exact yQ0 ⟨_,_,rfl,.inr rfl,hs2 (.inr rfl) (hf1 h1') (.inr rfl) (hf1 h2'),rfl⟩
theorem vYn:zVu gl 141 (λa b=>[[(true,a)],[(true,b)]]):=by
 intro a b x y hx hy st;have hx0:=hx;have hy0:=hy;obtain⟨o1,n1,t1,x1,t2,x2,rfl⟩:=hx.agg;obtain⟨o3,n3,t3,x3,t4,x4,rfl⟩:=hy.agg;refine ICall.intro (c:=cf prog gl [] [(1,[0,3,1,2,4,5,6,7])]) func141 rfl (by show _<=12;simp) (by kernel_rfl) ?_;simp only[go_sem,zE,zB,zA,zM,zS,zL,reduceCtorEq,fits,yQ1,yQd];refine (zJe gl _ _ hx0 _).mono ?_;rintro r1 _ ⟨h1,rfl⟩;have h1':=h1;obtain⟨_,_,_,_,_,_,rfl,_⟩:=h1;simp only[go_sem,zE,zB,zA,zM,zS,zL,reduceCtorEq,fits,yQ1,yQd];refine (zJe gl _ _ hy0 _).mono ?_;rintro r2 _ ⟨h2,rfl⟩;have h2':=h2;obtain⟨_,_,_,_,_,_,rfl,_⟩:=h2;simp only[go_sem,zE,zB,zA,zM,zS,zL,reduceCtorEq,fits,yQ1,yQd];exact yQ0 ⟨_,_,rfl,.inr rfl,hs2 (.inr rfl) (hf1 h1') (.inr rfl) (hf1 h2'),rfl⟩
theorem vYm:zVu gl 142 (λa b=>[[(false,a),(false,b)]]):=by
 intro a b x y hx hy st;have hx0:=hx;have hy0:=hy;obtain⟨o1,n1,t1,x1,t2,x2,rfl⟩:=hx.agg;obtain⟨o3,n3,t3,x3,t4,x4,rfl⟩:=hy.agg;refine ICall.intro (c:=cf prog gl [] [(1,[0,2,1,3,4,5,6])]) func142 rfl (by show _<=11;simp) (by kernel_rfl) ?_;simp only[go_sem,zE,zB,zA,zM,zS,zL,reduceCtorEq,fits,yQ1,yQd];refine (no_c gl _ _ hx0 _).mono ?_;rintro r1 _ ⟨h1,rfl⟩;have h1':=h1;obtain⟨_,_,_,_,_,_,rfl,_⟩:=h1;simp only[go_sem,zE,zB,zA,zM,zS,zL,reduceCtorEq,fits,yQ1,yQd];refine (no_c gl _ _ hy0 _).mono ?_;rintro r2 _ ⟨h2,rfl⟩;have h2':=h2;obtain⟨_,_,_,_,_,_,rfl,_⟩:=h2;simp only[go_sem,zE,zB,zA,zM,zS,zL,reduceCtorEq,fits,yQ1,yQd];exact yQ0 ⟨_,_,rfl,.inr rfl,hs1 (.inr rfl) (hf2 h1' h2'),rfl⟩
theorem vYl:zVu gl 143 (λa b=>[[(false,a)],[(true,b)]]):=by
 intro a b x y hx hy st;have hx0:=hx;have hy0:=hy;obtain⟨o1,n1,t1,x1,t2,x2,rfl⟩:=hx.agg;obtain⟨o3,n3,t3,x3,t4,x4,rfl⟩:=hy.agg;refine ICall.intro (c:=cf prog gl [] [(1,[0,3,1,2,4,5,6,7])]) func143 rfl (by show _<=12;simp) (by kernel_rfl) ?_;simp only[go_sem,zE,zB,zA,zM,zS,zL,reduceCtorEq,fits,yQ1,yQd];refine (no_c gl _ _ hx0 _).mono ?_;rintro r1 _ ⟨h1,rfl⟩;have h1':=h1;obtain⟨_,_,_,_,_,_,rfl,_⟩:=h1;simp only[go_sem,zE,zB,zA,zM,zS,zL,reduceCtorEq,fits,yQ1,yQd];refine (zJe gl _ _ hy0 _).mono ?_;rintro r2 _ ⟨h2,rfl⟩;have h2':=h2;obtain⟨_,_,_,_,_,_,rfl,_⟩:=h2;simp only[go_sem,zE,zB,zA,zM,zS,zL,reduceCtorEq,fits,yQ1,yQd];exact yQ0 ⟨_,_,rfl,.inr rfl,hs2 (.inr rfl) (hf1 h1') (.inr rfl) (hf1 h2'),rfl⟩
theorem vYk:zVu gl 144 (λa b=>[[(true,a),(false,b)]]):=by
 intro a b x y hx hy st;have hx0:=hx;have hy0:=hy;obtain⟨o1,n1,t1,x1,t2,x2,rfl⟩:=hx.agg;obtain⟨o3,n3,t3,x3,t4,x4,rfl⟩:=hy.agg;refine ICall.intro (c:=cf prog gl [] [(1,[0,2,1,3,4,5,6])]) func144 rfl (by show _<=11;simp) (by kernel_rfl) ?_;simp only[go_sem,zE,zB,zA,zM,zS,zL,reduceCtorEq,fits,yQ1,yQd];refine (zJe gl _ _ hx0 _).mono ?_;rintro r1 _ ⟨h1,rfl⟩;have h1':=h1;obtain⟨_,_,_,_,_,_,rfl,_⟩:=h1;simp only[go_sem,zE,zB,zA,zM,zS,zL,reduceCtorEq,fits,yQ1,yQd];refine (no_c gl _ _ hy0 _).mono ?_;rintro r2 _ ⟨h2,rfl⟩;have h2':=h2;obtain⟨_,_,_,_,_,_,rfl,_⟩:=h2;simp only[go_sem,zE,zB,zA,zM,zS,zL,reduceCtorEq,fits,yQ1,yQd];exact yQ0 ⟨_,_,rfl,.inr rfl,hs1 (.inr rfl) (hf2 h1' h2'),rfl⟩
theorem vYj:zVu gl 145 (λa b=>[[(true,impF a b),(true,impF b a)]]):=by
 intro a b x y hx hy st;have hx0:=hx;have hy0:=hy;obtain⟨o1,n1,t1,x1,t2,x2,rfl⟩:=hx.agg;obtain⟨o3,n3,t3,x3,t4,x4,rfl⟩:=hy.agg;refine ICall.intro (c:=cf prog gl [] [(1,[0,1,4,5,2,3,6,7,8,9,10])]) func145 rfl (by show _<=15;simp) (by kernel_rfl) ?_;simp only[go_sem,zE,zB,zA,zM,zS,zL,reduceCtorEq,fits,yQ1,yQd];refine (wGf gl _ _ _ _ hx0 hy0 _).mono ?_;rintro _ _ ⟨hi,rfl⟩;have hi0:=hi;obtain⟨o5,n5,t5,x5,t6,x6,rfl⟩:=hi.agg;simp only[go_sem,zE,zB,zA,zM,zS,zL,reduceCtorEq,fits];refine (zJe gl _ _ hi0 _).mono ?_;rintro r1 _ ⟨h1,rfl⟩;have h1':=h1;obtain⟨_,_,_,_,_,_,rfl,_⟩:=h1;simp only[go_sem,zE,zB,zA,zM,zS,zL,reduceCtorEq,fits,yQ1,yQd];refine (wGf gl _ _ _ _ hy0 hx0 _).mono ?_;rintro _ _ ⟨hj,rfl⟩;have hj0:=hj;obtain⟨o7,n7,t7,x7,t8,x8,rfl⟩:=hj.agg;simp only[go_sem,zE,zB,zA,zM,zS,zL,reduceCtorEq,fits];refine (zJe gl _ _ hj0 _).mono ?_;rintro r2 _ ⟨h2,rfl⟩;have h2':=h2;obtain⟨_,_,_,_,_,_,rfl,_⟩:=h2;simp only[go_sem,zE,zB,zA,zM,zS,zL,reduceCtorEq,fits,yQ1,yQd];exact yQ0 ⟨_,_,rfl,.inr rfl,hs1 (.inr rfl) (hf2 h1' h2'),rfl⟩
theorem vXc:zVu gl 147 (λa b=>[[(true,a),(false,b)],[(true,b),(false,a)]]):=by
 intro a b x y hx hy st;have hx0:=hx;have hy0:=hy;obtain⟨o1,n1,t1,x1,t2,x2,rfl⟩:=hx.agg;obtain⟨o3,n3,t3,x3,t4,x4,rfl⟩:=hy.agg;refine ICall.intro (c:=cf prog gl [] [(1,[0,2,5,7,1,3,4,6,8,9,10,11])]) func147 rfl (by show _<=16;simp) (by kernel_rfl) ?_;simp only[go_sem,zE,zB,zA,zM,zS,zL,reduceCtorEq,fits,yQ1,yQd];refine (zJe gl _ _ hx0 _).mono ?_;rintro r1 _ ⟨h1,rfl⟩;have h1':=h1;obtain⟨_,_,_,_,_,_,rfl,_⟩:=h1;simp only[go_sem,zE,zB,zA,zM,zS,zL,reduceCtorEq,fits,yQ1,yQd];refine (no_c gl _ _ hy0 _).mono ?_;rintro r2 _ ⟨h2,rfl⟩;have h2':=h2;obtain⟨_,_,_,_,_,_,rfl,_⟩:=h2;simp only[go_sem,zE,zB,zA,zM,zS,zL,reduceCtorEq,fits,yQ1,yQd];refine (zJe gl _ _ hy0 _).mono ?_;rintro r3 _ ⟨h3,rfl⟩;have h3':=h3;obtain⟨_,_,_,_,_,_,rfl,_⟩:=h3;simp only[go_sem,zE,zB,zA,zM,zS,zL,reduceCtorEq,fits,yQ1,yQd];refine (no_c gl _ _ hx0 _).mono ?_;rintro r4 _ ⟨h4,rfl⟩;have h4':=h4;obtain⟨_,_,_,_,_,_,rfl,_⟩:=h4;simp only[go_sem,zE,zB,zA,zM,zS,zL,reduceCtorEq,fits,yQ1,yQd];exact yQ0 ⟨_,_,rfl,.inr rfl,hs2 (.inr rfl) (hf2 h1' h2') (.inr rfl) (hf2 h3' h4'),rfl⟩
def zWa (b:Bool)(o:Int):Nat :=
 if o=3 then (if b then 135 else 137) else if o=4 then (if b then 139 else 140)
 else if o=5 then (if b then 141 else 142) else if o=6 then (if b then 143 else 144)
 else if o=7 then (if b then 145 else 147) else if o=10 then (if b then 148 else 149)
 else (if b then 150 else 151)
def sgV (b:Bool)(o:Int):Value:=.agg #[.bool b,.int .u8 o]
def xG9 (r:Nat×Nat)(id:Nat):IV:=.agg [.raw (.int .u8 r.1),.raw (.int .i64 r.2),.fn (.func id) [] []]
def rowZ:IV:=.agg [.raw (.int .u8 0),.raw (.int .i64 0),.raw .nilFunc]
theorem zJa (b b':Bool)(o o':Int)(v:IV):∀es:List (Value×IV),yZy (sgV b o) (updI (sgV b' o') v es)=if b=b'/\o=o' then some v else yZy (sgV b o) es
 | []=>by
  have e:yJv (sgV b o) (sgV b' o')=(decide (b=b')&&decide (o=o')):=rfl;simp only[updI,yZy,e];by_cases h:b=b'/\o=o'<;>simp[h]
 | (x,u)::es=>by
  have e:yJv (sgV b o) (sgV b' o')=(decide (b=b')&&decide (o=o')):=rfl;simp only[updI];by_cases hk:yJv (sgV b' o') x=true
  ·rw[if_pos hk];have hx:yJv (sgV b o) x=(decide (b=b')&&decide (o=o')):=by
    cases x<;>simp only[sgV,yJv,bFt] at hk ⊢;rename_i c;obtain⟨l⟩:=c
    match l,hk with
    | [.bool a,.int _ n],hk =>
     simp only[wVv,bAt,dTe] at hk ⊢;rw[hk.1,hk.2]
   simp only[yZy,e,hx];by_cases h:b=b'/\o=o'
   ·simp[h]
   ·have:(decide (b=b')&&decide (o=o'))=false:=by
     rw[Bool.eq_false_iff,ne_eq,bAt,dTe,dTe];exact h
    rw[this,if_neg h];rfl
  ·rw[if_neg hk];simp only[yZy];rw[zJa b b' o o' v es];by_cases h:b=b'/\o=o'
   ·obtain⟨rfl,rfl⟩:=h;simp[hk]
   ·simp[h]
def kB (k:Nat):Bool:=k%2 == 0
def kO (k:Nat):Nat:=[3,3,4,4,5,5,6,6,7,7,10,10,11,11].getD k 0
def kR (k:Nat):Nat×Nat:=(rowT (kB k) (kO k)).getD (0,0)
def kIV (k:Nat):IV:=.agg [.raw (.bool (kB k)),.raw (.int .u8 (kO k))]
def vIV (k:Nat):IV:=xG9 (kR k) (zWa (kB k) (kO k))
def opT (i:Nat):Oper :=
 if i=0 then ⟨some 1,.makeMap 112 none,112, "tableau.go:89",#[],none⟩
 else if i=43 then ⟨some 30,.move (.tmp 1),112, "tableau.go:89",⟨(List.range 43).map λj=>⟨j,.data⟩⟩,none⟩
 else if i=44 then ⟨some 0,.assign (.tmp 30),112, "tableau.go:89",⟨⟨43,.data⟩::(List.range 44).map λj=>⟨j,.phase⟩⟩,none⟩
 else if i%3=1 then ⟨some (2+2*(i / 3)),.build 199 ⟨[(0,.const (.bool (kB (i / 3)))),(1,.const (.int .u8 (kO (i / 3))))]⟩,199, "tableau.go:89",#[],none⟩
 else if i%3=2 then ⟨some (3+2*(i / 3)),.build 207 ⟨[(0,.const (.int .u8 (kR (i / 3)).1)),(1,.const (.int .i64 (kR (i / 3)).2)),(2,.func (zWa (kB (i / 3)) (kO (i / 3))))]⟩,207, "tableau.go:89",#[],none⟩
 else ⟨none,.insert 112 (.tmp 1) (.tmp (2+2*(i / 3-1))) (.tmp (3+2*(i / 3-1))),0, "tableau.go:89",⟨[⟨0,.data⟩,⟨i-2,.data⟩,⟨i-1,.data⟩]⟩,none⟩
def opsT:Array Oper:=⟨(List.range 45).map opT⟩
def zW0 (b i:Nat):Option (Nat×IV) :=
 if i=0 then some (1,.raw (.map (some b))) else if i=43 then some (30,.raw (.map (some b))) else if i=44 then some (0,.raw (.map (some b)))
 else if i%3=1 then some (2+2*(i / 3),kIV (i / 3)) else if i%3=2 then some (3+2*(i / 3),vIV (i / 3)) else none
theorem zQ6 {b i j d d':Nat}{v v':IV}(hi:i<45)(hj:j<45)(h:zW0 b i=some (d,v))(h':zW0 b j=some (d',v'))(hne:i≠j):d≠d':=by
 unfold zW0 at h h'
 repeat' split at h
 all_goals first|(cases h;done)|skip
 all_goals (repeat' split at h')
 all_goals first|(cases h';done)|skip
 all_goals (cases h;cases h';omega)
@[go_sem] theorem uWs:mapI prog 112=some (.sg,rowZ):=by kernel_rfl
def vGb (listed:Array Bool)(es:List (Value×IV)):Prop :=
 (∀k,k<14->yZy (sgV (kB k) (kO k)) es=if listed.getD (3+3*k) false=true then some (vIV k) else none)/\∀b o,rowT b o=none->yZy (sgV b o) es=none
def TabJ (st:ISt)(listed:Array Bool):Kt:=λ_ fr st' ds=>ds=[]/\∃b es,
 ((listed.getD 0 false=true/\st b=none/\st'=st.put b (some (.map .sg es))/\vGb listed es) \/
  (listed.getD 0 false=false/\st'=st/\listed.getD 43 false=false/\listed.getD 44 false=false/\∀k,k<14->listed.getD (3+3*k) false=false)) /\
 ∀i,i<45->listed.getD i false=true->∀d v,zW0 b i=some (d,v)->fr d=.iv v
theorem yQq {l:Array Bool}{i j:Nat}(hi:i<l.size):(l.setIfInBounds i true).getD j false=if i=j then true else l.getD j false:=by
 by_cases h:i=j
 ·subst h;rw[if_pos rfl];simp[hi]
 ·rw[if_neg h,getD_set_ne false h]
theorem yQ5 (c:Cf)(ops:List Oper)(dst:Option Nat)(op:Op)(ty:TypeId)(pos:String)(aft:Array Edge)(K:Kt)(ad:Ad)(fr:Fr)(st:ISt)(ds:List Dfd):yYl c ops ⟨dst,op,ty,pos,aft,none⟩ K ad fr st ds=vcOp c dst op K ad fr st ds:=rfl
theorem wZv {ops:Array Oper}{listed:Array Bool}(he:∀i,i<ops.size->∀e∈(opAt ops i).after,e.on<i)(hz:listed.size=ops.size)(hr:Region.ready .any ops listed=[]):∀i,i<ops.size->listed.getD i false=true:=by
 intro i
 induction i using Nat.strongRecOn with
 | _ i ih =>
  intro hi;have getD_tf:listed.getD i false=listed.getD i true:=by
   rw[Array.getD_eq_getD_getElem?,Array.getD_eq_getD_getElem?,Array.getElem?_eq_getElem (by rw[hz];exact hi)];rfl
  refine Classical.byContradiction λhc=>?_;have:i∈Region.ready .any ops listed:=mem_ready.2 ⟨by rw[<- getD_tf];simpa using hc,_,yZr hi,λe hem _=>ih e.on (he i hi e hem) (Nat.lt_trans (he i hi e hem) hi)⟩;rw[hr] at this;cases this
def vZt (ops:Array Oper):Bool:=(List.range ops.size).all λi=>(opAt ops i).after.toList.all λe=>decide (e.on<i)
theorem zK7 {ops:Array Oper}{listed:Array Bool}(h:vZt ops=true)(hz:listed.size=ops.size)(hr:Region.ready .any ops listed=[]):∀i,i<ops.size->listed.getD i false=true :=
 wZv (λi hi e he=>of_decide_eq_true (List.all_eq_true.1 (List.all_eq_true.1 h i (List.mem_range.2 hi)) e (by simpa using he))) hz hr
theorem wX3 {i:Nat}(hi:i<45):opAt opsT i=opT i:=by
 unfold opAt opsT;rw[Array.getD_eq_getD_getElem?];simp[hi]
def zXs (es:List (Value×IV)):Prop:=∀b o,yZy (sgV b o) es=(rowT b o).map λr=>xG9 r (zWa b o)
theorem wVs {listed:Array Bool}{es:List (Value×IV)}(hl:∀k,k<14->listed.getD (3+3*k) false=true)(h:vGb listed es):zXs es:=by
 intro b o;cases hr:rowT b o with
 | none=>exact h.2 b o hr
 | some r =>
  obtain⟨k,hk,rfl,rfl⟩:∃k,k<14/\b=kB k/\o=kO k:=by
   have ho:o=3\/o=4\/o=5\/o=6\/o=7\/o=10\/o=11:=by
    refine Classical.byContradiction λhc=>?_;unfold rowT at hr
    repeat (rw[if_neg (by omega)] at hr)
    cases hr
   rcases ho with rfl|rfl|rfl|rfl|rfl|rfl|rfl<;>cases b
   ·exact⟨1,by decide,rfl,rfl⟩
   ·exact⟨0,by decide,rfl,rfl⟩
   ·exact⟨3,by decide,rfl,rfl⟩
   ·exact⟨2,by decide,rfl,rfl⟩
   ·exact⟨5,by decide,rfl,rfl⟩
   ·exact⟨4,by decide,rfl,rfl⟩
   ·exact⟨7,by decide,rfl,rfl⟩
   ·exact⟨6,by decide,rfl,rfl⟩
   ·exact⟨9,by decide,rfl,rfl⟩
   ·exact⟨8,by decide,rfl,rfl⟩
   ·exact⟨11,by decide,rfl,rfl⟩
   ·exact⟨10,by decide,rfl,rfl⟩
   ·exact⟨13,by decide,rfl,rfl⟩
   ·exact⟨12,by decide,rfl,rfl⟩
  rw[h.1 k hk,if_pos (hl k hk),vIV,kR,hr];rfl
theorem yJp {N:Nat}{L:Nat->Option (Nat×IV)}(hne:∀ {i j d d' v v'},i<N->j<N->L i=some (d,v)->L j=some (d',v')->i≠j->d≠d'){i d:Nat}{v:IV}{listed:Array Bool}{fr:Fr}(hz:listed.size=N)(hi:i<N)(hs:L i=some (d,v))(h:∀j,j<N->listed.getD j false=true->∀d v,L j=some (d,v)->fr d=.iv v) :
  ∀j,j<N->(listed.setIfInBounds i true).getD j false=true->∀d' v',L j=some (d',v')->fr.put d (.iv v) d'=.iv v':=by
 intro j hj hl d' v' hs';rw[Fr.put_apply];by_cases hij:i=j
 ·subst hij;rw[hs] at hs';cases hs';rw[if_pos rfl]
 ·rw[if_neg (hne hi hj hs hs' hij).symm];rw[yQq (by omega),if_neg hij] at hl;exact h j hj hl d' v' hs'
theorem k_lt {k:Nat}(hk:k<14):kO k<=255:=by
 rcases (show k=0\/k=1\/k=2\/k=3\/k=4\/k=5\/k=6\/k=7\/k=8\/k=9\/k=10\/k=11\/k=12\/k=13 by omega) with rfl|rfl|rfl|rfl|rfl|rfl|rfl|rfl|rfl|rfl|rfl|rfl|rfl|rfl<;>decide
theorem vZd {k j:Nat}(hk:k<14)(hj:j<14)(h1:kB k=kB j)(h2:kO k=kO j):k=j:=by
 have key:((List.range 14).all λk=>(List.range 14).all λj=>!(kB k == kB j&&kO k == kO j) || decide (k=j))=true:=by decide
 have:=List.all_eq_true.1 (List.all_eq_true.1 key k (List.mem_range.2 hk)) j (List.mem_range.2 hj);rw[h1,h2] at this;simpa using this
theorem uYb {k:Nat}(hk:k<14):∃r,rowT (kB k) (kO k)=some r:=by
 rcases (show k=0\/k=1\/k=2\/k=3\/k=4\/k=5\/k=6\/k=7\/k=8\/k=9\/k=10\/k=11\/k=12\/k=13 by omega) with rfl|rfl|rfl|rfl|rfl|rfl|rfl|rfl|rfl|rfl|rfl|rfl|rfl|rfl<;>exact⟨_,rfl⟩
theorem xVs {b k:Nat}(hk:k<14):zW0 b (1+3*k)=some (2+2*k,kIV k):=by
 unfold zW0;rw[if_neg (by omega),if_neg (by omega),if_neg (by omega),if_pos (by omega),show (1+3*k) / 3=k by omega]
theorem xVr {b k:Nat}(hk:k<14):zW0 b (2+3*k)=some (3+2*k,vIV k):=by
 unfold zW0;rw[if_neg (by omega),if_neg (by omega),if_neg (by omega),if_neg (by omega),if_pos (by omega),show (2+3*k) / 3=k by omega]
theorem yXu (n i:Nat):(Array.replicate n false).getD i false=false:=by
 rw[Array.getD_eq_getD_getElem?,Array.getElem?_replicate];split<;>rfl
theorem wQt (st:ISt):ICall prog gl 108 [] st (λr st'=>∃b es,st b=none/\r=.raw (.map (some b))/\zXs es/\st'=st.put b (some (.map .sg es))):=by
 refine ICall.intro (c:=cf prog gl [] [(1,[])]) func108 rfl (by show _<=31;simp) (by kernel_rfl) ?_;simp only[go_sem,zE,zB,zA,zM,zS,zL,reduceCtorEq];rw[yKp];refine yJ6 (ops:=opsT) (TabJ st) ?_ ?_ _ _ _ _ _ _ rfl ?_
 ·intro listed ad fr st1 ds hz hJ i hi;replace hz:listed.size=45:=hz;obtain⟨h0,o,ho,hdep⟩:=mem_ready.1 hi;have his:i<45:=(Array.getElem?_eq_some_iff.1 ho).1;have hoi:o=opT i:=by
   have:=yZr (ops:=opsT) (i:=i) his;rw[ho,wX3 his] at this;exact Option.some.inj this
  subst hoi;rw[wX3 his];have hfl:listed.getD i false=false:=by
   rw[Array.getD_eq_getD_getElem?,Array.getElem?_eq_getElem (by omega)] at h0 ⊢;exact h0
  obtain⟨rfl,b,es,hst,hsl⟩:=hJ;by_cases i0:i=0
  ·subst i0;rw[show opT 0=⟨some 1,.makeMap 112 none,112, "tableau.go:89",#[],none⟩ from rfl,yQ5];obtain⟨l0,_⟩|⟨_,rfl,l43,l44,lk⟩:=hst
   ·rw[hfl] at l0;cases l0
   simp only[go_sem,zE,zB,zA,zM,zS,zL,reduceCtorEq];refine λb'=>yQc λhb'=>⟨rfl,b',[],.inl ⟨by rw[yQq (by omega),if_pos rfl],hb',rfl,λk hk=>?_,λ_ _ _=>rfl⟩,yJp zQ6 hz his rfl λj hj hl d v hs=>hsl j hj hl d v ?_⟩
   ·rw[if_neg (by rw[yQq (by omega),if_neg (by omega),lk k hk];decide)];rfl
   ·have j0:j≠0:=λh=>by rw[h,hfl] at hl;cases hl
    have j43:j≠43:=λh=>by rw[h,l43] at hl;cases hl
    have j44:j≠44:=λh=>by rw[h,l44] at hl;cases hl
    unfold zW0 at hs ⊢;rw[if_neg j0,if_neg j43,if_neg j44] at hs ⊢;exact hs
  by_cases i43:i=43
  ·subst i43;rw[show opT 43=⟨some 30,.move (.tmp 1),112, "tableau.go:89",⟨(List.range 43).map λj=>⟨j,.data⟩⟩,none⟩ from rfl] at hdep ⊢;have d0:listed.getD 0 false=true:=hdep ⟨0,.data⟩ (by simp) rfl;have f1:=hsl 0 (by omega) d0 _ _ rfl;rw[yQ5];simp only[go_sem,zE,zB,zA,zM,zS,zL,reduceCtorEq,f1];refine⟨rfl,b,es,?_,yJp zQ6 hz his rfl hsl⟩;have st':∀j,43≠j->(listed.setIfInBounds (43) true).getD j false=listed.getD j false:=λj hj=>by rw[yQq (by omega),if_neg hj]
   obtain⟨l0,hb,hs,hf1,hf2⟩|⟨l0,hs,l43,l44,lk⟩:=hst
   ·exact .inl ⟨by rw[st' 0 (by omega)];exact l0,hb,hs,λk' hk'=>by rw[hf1 k' hk',st' _ (by omega)],hf2⟩
   ·first|(rw[l0] at d0;cases d0;done)|(rw[l43] at d0;cases d0;done)
  by_cases i44:i=44
  ·subst i44;rw[show opT 44=⟨some 0,.assign (.tmp 30),112, "tableau.go:89",⟨⟨43,.data⟩::(List.range 44).map λj=>⟨j,.phase⟩⟩,none⟩ from rfl] at hdep ⊢;have d0:listed.getD 43 false=true:=hdep ⟨43,.data⟩ (by simp) rfl;have f1:=hsl 43 (by omega) d0 _ _ rfl;rw[yQ5];simp only[go_sem,zE,zB,zA,zM,zS,zL,reduceCtorEq,f1];refine⟨rfl,b,es,?_,yJp zQ6 hz his rfl hsl⟩;have st':∀j,44≠j->(listed.setIfInBounds (44) true).getD j false=listed.getD j false:=λj hj=>by rw[yQq (by omega),if_neg hj]
   obtain⟨l0,hb,hs,hf1,hf2⟩|⟨l0,hs,l43,l44,lk⟩:=hst
   ·exact .inl ⟨by rw[st' 0 (by omega)];exact l0,hb,hs,λk' hk'=>by rw[hf1 k' hk',st' _ (by omega)],hf2⟩
   ·first|(rw[l0] at d0;cases d0;done)|(rw[l43] at d0;cases d0;done)
  rcases (show i%3=1\/i%3=2\/i%3=0 by omega) with h3|h3|h3
  ·obtain⟨k,hk,rfl⟩:∃k,k<14/\i=1+3*k:=⟨i / 3,by omega,by omega⟩
   have he:opT (1+3*k)=⟨some (2+2*k),.build 199 ⟨[(0,.const (.bool (kB k))),(1,.const (.int .u8 (kO k)))]⟩,199, "tableau.go:89",#[],none⟩:=by
    unfold opT;rw[if_neg (by omega),if_neg (by omega),if_neg (by omega),if_pos (by omega),show (1+3*k) / 3=k by omega]
   rw[he,yQ5];simp only[go_sem,zE,zB,zA,zM,zS,zL,reduceCtorEq,fits];refine⟨rfl,b,es,?_,yJp zQ6 hz his (xVs hk) hsl⟩;have st':∀j,1+3*k≠j->(listed.setIfInBounds (1+3*k) true).getD j false=listed.getD j false:=λj hj=>by rw[yQq (by omega),if_neg hj]
   rcases hst with⟨l0,hb,hs,hf1,hf2⟩|⟨l0,hs,l43,l44,lk⟩
   ·exact .inl ⟨by rw[st' 0 (by omega)];exact l0,hb,hs,λk' hk'=>by rw[hf1 k' hk',st' _ (by omega)],hf2⟩
   ·exact .inr ⟨by rw[st' 0 (by omega)];exact l0,hs,by rw[st' 43 (by omega)];exact l43,by rw[st' 44 (by omega)];exact l44,λk' hk'=>by rw[st' _ (by omega)];exact lk k' hk'⟩
  ·obtain⟨k,hk,rfl⟩:∃k,k<14/\i=2+3*k:=⟨i / 3,by omega,by omega⟩
   have he:opT (2+3*k)=⟨some (3+2*k),.build 207 ⟨[(0,.const (.int .u8 (kR k).1)),(1,.const (.int .i64 (kR k).2)),(2,.func (zWa (kB k) (kO k)))]⟩,207, "tableau.go:89",#[],none⟩:=by
    unfold opT;rw[if_neg (by omega),if_neg (by omega),if_neg (by omega),if_neg (by omega),if_pos (by omega),show (2+3*k) / 3=k by omega]
   rw[he,yQ5];simp only[go_sem,zE,zB,zA,zM,zS,zL,reduceCtorEq,fits];refine⟨rfl,b,es,?_,yJp zQ6 hz his (xVr hk) hsl⟩;have st':∀j,2+3*k≠j->(listed.setIfInBounds (2+3*k) true).getD j false=listed.getD j false:=λj hj=>by rw[yQq (by omega),if_neg hj]
   rcases hst with⟨l0,hb,hs,hf1,hf2⟩|⟨l0,hs,l43,l44,lk⟩
   ·exact .inl ⟨by rw[st' 0 (by omega)];exact l0,hb,hs,λk' hk'=>by rw[hf1 k' hk',st' _ (by omega)],hf2⟩
   ·exact .inr ⟨by rw[st' 0 (by omega)];exact l0,hs,by rw[st' 43 (by omega)];exact l43,by rw[st' 44 (by omega)];exact l44,λk' hk'=>by rw[st' _ (by omega)];exact lk k' hk'⟩
  ·obtain⟨k,hk,rfl⟩:∃k,k<14/\i=3+3*k:=⟨i / 3-1,by omega,by omega⟩
   have he:opT (3+3*k)=⟨none,.insert 112 (.tmp 1) (.tmp (2+2*k)) (.tmp (3+2*k)),0, "tableau.go:89",⟨[⟨0,.data⟩,⟨1+3*k,.data⟩,⟨2+3*k,.data⟩]⟩,none⟩:=by
    unfold opT;rw[if_neg (by omega),if_neg (by omega),if_neg (by omega),if_neg (by omega),if_neg (by omega),show (3+3*k) / 3-1=k by omega,show 3+3*k-2=1+3*k by omega,show 3+3*k-1=2+3*k by omega]
   rw[he] at hdep ⊢;have d0:listed.getD 0 false=true:=hdep ⟨0,.data⟩ (by simp) rfl;have d1:listed.getD (1+3*k) false=true:=hdep ⟨1+3*k,.data⟩ (by simp) rfl;have d2:listed.getD (2+3*k) false=true:=hdep ⟨2+3*k,.data⟩ (by simp) rfl;have f0:=hsl 0 (by omega) d0 _ _ rfl;have f1:=hsl _ (by omega) d1 _ _ (xVs hk);have f2:=hsl _ (by omega) d2 _ _ (xVr hk);obtain⟨_,hb,rfl,hf1,hf2⟩|⟨l0,_⟩:=hst
   case inr=>rw[d0] at l0;cases l0
   unfold kIV at f1;unfold vIV xG9 at f2;have e1:decide ((0:Int)<=(kO k:Int))=true:=dEt (by omega);have e2:decide ((kO k:Int)<=255)=true:=dEt (by have:=k_lt hk;omega);rw[yQ5];simp only[go_sem,zE,zB,zA,zM,zS,zL,reduceCtorEq,f0,f1,f2,e1,e2,fits,ISt.put_same,yQ8];have st':∀j,3+3*k≠j->(listed.setIfInBounds (3+3*k) true).getD j false=listed.getD j false:=λj hj=>by rw[yQq (by omega),if_neg hj]
   refine⟨rfl,b,updI (sgV (kB k) (kO k)) (vIV k) es,.inl ⟨by rw[st' 0 (by omega)];exact d0,hb,rfl,λk' hk'=>?_,λb' o hn=>?_⟩,λj hj hl d v hs=>?_⟩
   ·rw[zJa];by_cases hkk:k'=k
    ·subst hkk;rw[if_pos ⟨rfl,rfl⟩,if_pos (by rw[yQq (by omega),if_pos rfl])]
    ·rw[if_neg (λhc=>hkk (vZd hk' hk hc.1 (by have:=hc.2;omega))),hf1 k' hk',st' _ (by omega)]
   ·rw[zJa,if_neg (λhc=>?_),hf2 b' o hn];obtain⟨r,hr⟩:=uYb hk;rw[hc.1,hc.2,hr] at hn;cases hn
   ·by_cases hjk:3+3*k=j
    ·subst hjk;unfold zW0 at hs;rw[if_neg (by omega),if_neg (by omega),if_neg (by omega),if_neg (by omega),if_neg (by omega)] at hs;cases hs
    ·rw[st' j hjk] at hl;exact hsl j hj hl d v hs
 ·intro listed ad fr st1 ds hz hr hJ;have hl:=zK7 (ops:=opsT) (by decide +kernel) hz hr;obtain⟨rfl,b,es,hst,hsl⟩:=hJ;obtain⟨_,hb,rfl,hf⟩|⟨l0,_⟩:=hst
  case inr=>rw[hl 0 (by decide)] at l0;cases l0
  have f0:=hsl 44 (by decide) (hl 44 (by decide)) _ _ rfl;simp only[go_sem,zE,zB,zA,zM,zS,zL,reduceCtorEq,f0];exact yQ0 ⟨b,es,hb,rfl,wVs (λk hk=>hl _ (by show 3+3*k<45;omega)) hf,rfl⟩
 ·refine⟨rfl,0,[],.inr ⟨yXu _ _,rfl,yXu _ _,yXu _ _,λk hk=>yXu _ _⟩,λi hi hl=>?_⟩;have:=yXu 45 i;rw[show (Array.replicate 45 false).getD i false=true from hl] at this;cases this
end Go.Proofs.Tryz
namespace Go.Proofs.Tryz
open Go Go.Iv
theorem xXz {ca:Nat}{s:Sq}{rule:Nat}{main:Fm}{term:Tm}{name:ByteArray}(h:(yJl ca s rule main term name).2=0):yZz ca s=true:=by
 unfold yJl at h;grind
theorem xX7 {ca:Nat}{rule:Nat}{s:Sq}{main:Fm}{term:Tm}{name:ByteArray}{sub:List Tr}(h:yZu ca (.mk rule s main term name sub)=0):yZz ca s=true:=by
 simp only[yZu] at h;split at h
 ·grind
 ·rename_i h1;exact xXz (Decidable.not_not.1 h1)
theorem yVa:∀ {l:List Tr}{a:Tr},a∈l->a.steps<=yQj l
 | b::l,a,h=>by
  simp only[yQj];rcases List.mem_cons.1 h with rfl|h
  ·omega
  ·have:=yVa h;omega
end Go.Proofs.Tryz
namespace Go.Proofs.Tryz
open Go Go.Iv
theorem xYn {a b:Fm}:eqF a b=true↔a.op=b.op/\a.right=true/\b.right=true/\dbF [] a=dbF [] b:=by
 unfold eqF zYx;simp only[bAt,dTe,yZa,and_assoc]
theorem zJb {a:Fm}(h:a.right=true):eqF a a=true:=xYn.2 ⟨rfl,h,h,rfl⟩
theorem yWk {l:List Fm}{f:Fm}:hasF l f=true↔∃g∈l,eqF f g=true:=by simp[hasF]
theorem xXf {l m:List Fm}:allF l m=true↔∀f∈l,hasF m f=true:=by simp[allF]
end Go.Proofs.Tryz
namespace Go.Proofs.Tryz
open Go Go.Iv
section
variable {ca rule:Nat}{s:Sq}{f:Fm}{u:Tm}{n:ByteArray}{sub:List Tr}(h:(yZp ca (.mk rule s f u n sub)).2=0)(h1:s.l.length<64)(h2:s.r.length<64)
include h h1 h2
end
end Go.Proofs.Tryz
namespace Go.Proofs.Tryz
open Go Go.Iv
section
variable {ca rule:Nat}{s:Sq}{f:Fm}{u:Tm}{n:ByteArray}{sub:List Tr}(h:(yZp ca (.mk rule s f u n sub)).2=0)
include h
end
end Go.Proofs.Tryz
namespace Go.Proofs.Tryz
open Go Go.Iv
theorem zK2:∀ {l:List Fm}{g:Fm},g∈l->g.size<=yQ9 l
 | a::l,g,hg=>by
  simp only[yQ9];rcases List.mem_cons.1 hg with rfl|hg
  ·omega
  ·have:=zK2 hg;omega
theorem zV8:∀ {l:List Fm}{g:Fm},g∈l->g.deep<=yZ7 l
 | a::l,g,hg=>by
  simp only[yZ7];rcases List.mem_cons.1 hg with rfl|hg
  ·omega
  ·have:=zV8 hg;omega
theorem xZ3 {ca:Nat}:∀ {l:List Fm} {g:Fm},yK7 ca l=true->g∈l->opsB ca g=true
 | a::l,g,h,hg=>by
  simp only[yK7,bAt] at h;rcases List.mem_cons.1 hg with rfl|hg
  ·exact h.1
  ·exact xZ3 h.2 hg
theorem yJz {ca:Nat}{f:Fm}:fmB ca f=true↔f.ok=true/\f.size<=400/\f.deep<=40/\opsB ca f=true:=by
 unfold fmB Fm.right;grind
theorem wY4 {ca op:Nat}{n:ByteArray}{us:List Tm}{sub:List Fm}(h:fmB ca (.mk op n us sub)=true){g:Fm}(hg:g∈sub):fmB ca g=true:=by
 obtain⟨h1,h2,h3,h4⟩:=yJz.1 h;simp only[Fm.ok,bAt] at h1;simp only[Fm.size] at h2;simp only[Fm.deep] at h3;simp only[opsB,bAt] at h4;have:=zK2 hg;have:=zV8 hg;exact yJz.2 ⟨yKl h1.2 hg,by omega,by omega,xZ3 h4.2 hg⟩
theorem vZl {ca:Nat}{n:ByteArray}{us:List Tm}{a b:Fm}(h:fmB ca (.mk 7 n us [a,b])=true):fmB ca (impF a b)=true/\fmB ca (impF b a)=true:=by
 obtain⟨h1,h2,h3,h4⟩:=yJz.1 h;simp only[Fm.ok,yU2,bAt] at h1;simp only[Fm.size,yQ9] at h2;simp only[Fm.deep,yZ7] at h3;simp only[opsB,yK7,bAt] at h4;have key:∀x y:Fm,x.ok=true->y.ok=true->opsB ca x=true->opsB ca y=true->x.size+y.size+1<=400->max x.deep y.deep+1<=40->fmB ca (impF x y)=true:=λx y q1 q2 q3 q4 q5 q6=>by
  refine yJz.2 ⟨?_,?_,?_,?_⟩
  ·simp[impF,Fm.ok,yU2,yYy,yKk,q1,q2,bE]
  ·simp only[impF,Fm.size,yQ9,yQh];omega
  ·simp only[impF,Fm.deep,yZ7,yQu];omega
  ·simp only[impF,opsB,yK7,q3,q4,List.isEmpty_nil,Bool.or_true,Bool.and_true,bAt,dTe];grind
 grind
end Go.Proofs.Tryz
namespace Go.Proofs.Tryz
open Go Go.Iv
theorem yXt {α:Type}{c:Prop} [Decidable c]{a r:α}{x:Option α}(h:(if c then some a else x)=some r):(c/\r=a)\/(¬c/\x=some r):=by
 grind
theorem xZ0 {α:Type}{c:Prop} [Decidable c]{a b r:α}(h:(if c then a else b)=r):(c/\a=r)\/(¬c/\b=r):=by
 grind
theorem zK5 {ca rule:Nat}{r:Rw}(h:rowS ca rule=some r):(rule=1/\r=⟨true,true,0,0⟩)\/(rule=2/\r=⟨true,false,2,0⟩)\/(rule=3/\r=⟨true,false,3,0⟩)\/(rule=4/\r=⟨false,true,3,0⟩)\/(rule=5/\r=⟨true,false,4,0⟩)\/(rule=6/\r=⟨false,true,4,0⟩) \/
  (rule=7/\r=⟨true,false,5,0⟩)\/(rule=8/\r=⟨false,true,5,0⟩)\/(rule=9/\r=⟨true,false,6,0⟩)\/(rule=10/\r=⟨false,true,6,0⟩)\/(rule=11/\r=⟨true,false,7,0⟩)\/(rule=12/\r=⟨false,true,7,0⟩) \/
  (rule=13/\r=⟨true,false,8,1⟩)\/(rule=14/\r=⟨false,true,8,2⟩)\/(rule=15/\r=⟨true,false,9,2⟩)\/(rule=16/\r=⟨false,true,9,1⟩)\/(rule=17/\r=⟨false,false,0,0⟩)\/(rule=18/\r=⟨false,true,5,0⟩):=by
 unfold rowS rowK at h;rcases yXt h with⟨⟨hc,hr⟩,hq⟩|⟨_,h⟩
 ·subst hr;subst hq;simp
 rcases yXt h with⟨⟨hc,hr⟩,hq⟩|⟨_,h⟩
 ·subst hr;subst hq;simp
 rcases yXt h with⟨⟨hc,hr⟩,hq⟩|⟨_,h⟩
 ·subst hr;subst hq;simp
 rcases yXt h with⟨⟨hc,hr⟩,hq⟩|⟨_,h⟩
 ·subst hr;subst hq;simp
 rcases yXt h with⟨⟨hc,hr⟩,hq⟩|⟨_,h⟩
 ·subst hr;subst hq;simp
 rcases yXt h with⟨hr,hq⟩|⟨_,h⟩
 ·subst hr;subst hq;simp
 rcases yXt h with⟨hr,hq⟩|⟨_,h⟩
 ·subst hr;subst hq;simp
 rcases yXt h with⟨hr,hq⟩|⟨_,h⟩
 ·subst hr;subst hq;simp
 rcases yXt h with⟨hr,hq⟩|⟨_,h⟩
 ·subst hr;subst hq;simp
 rcases yXt h with⟨hr,hq⟩|⟨_,h⟩
 ·subst hr;subst hq;simp
 rcases yXt h with⟨hr,hq⟩|⟨_,h⟩
 ·subst hr;subst hq;simp
 rcases yXt h with⟨hr,hq⟩|⟨_,h⟩
 ·subst hr;subst hq;simp
 rcases yXt h with⟨hr,hq⟩|⟨_,h⟩
 ·subst hr;subst hq;simp
 rcases yXt h with⟨hr,hq⟩|⟨_,h⟩
 ·subst hr;subst hq;simp
 grind
theorem vKs {ca rule:Nat}{r:Rw}(h:rowS ca rule=some r):(rule=18->ca=2)/\(13<=rule->rule<=16->ca=3):=by
 unfold rowS rowK at h;rcases yXt h with⟨⟨hc,hr⟩,hq⟩|⟨_,h⟩
 ·omega
 rcases yXt h with⟨⟨hc,hr⟩,hq⟩|⟨_,h⟩
 ·omega
 rcases yXt h with⟨⟨hc,hr⟩,hq⟩|⟨_,h⟩
 ·omega
 rcases yXt h with⟨⟨hc,hr⟩,hq⟩|⟨_,h⟩
 ·omega
 rcases yXt h with⟨⟨hc,hr⟩,hq⟩|⟨_,h⟩
 ·omega
 rcases yXt h with⟨hr,hq⟩|⟨_,h⟩
 ·omega
 rcases yXt h with⟨hr,hq⟩|⟨_,h⟩
 ·omega
 rcases yXt h with⟨hr,hq⟩|⟨_,h⟩
 ·omega
 rcases yXt h with⟨hr,hq⟩|⟨_,h⟩
 ·omega
 rcases yXt h with⟨hr,hq⟩|⟨_,h⟩
 ·omega
 grind
