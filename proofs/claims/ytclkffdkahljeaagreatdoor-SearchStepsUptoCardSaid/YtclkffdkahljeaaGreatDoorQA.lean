/- Proofs by moves, on lists of formulas ta -/
import Derived.Lib.Bytealg
import Derived.Test.YtclkffdkahljeaaGreatDoorKB
set_option linter.all false
open Nat renaming reduceEqDiff → zE,reduceBEq → zB,reduceAdd → zA,reduceMul → zM,reduceLeDiff → zL
namespace Go.Proofs.Tryz
open Go Go.Iv
abbrev noN:ByteArray:=⟨#[]⟩
abbrev imF (a b:Fm):Fm:=.mk 6 noN [] [a,b]
inductive PF:Fm->Prop
 | atom (n:ByteArray):PF (.mk 1 n [] [])
 | fls:PF (.mk 2 noN [] [])
 | neg {a:Fm} (h:PF a):PF (.mk 3 noN [] [a])
 | bin {o:Nat} {a b:Fm} (h4:4<=o) (h7:o<=7) (ha:PF a) (hb:PF b):PF (.mk o noN [] [a,b])
def addF (j:Bool):Fm->Bool->List (Nat×List (List Fm×List Fm))
 | .mk 3 _ _ [a],true=>[(4,[([a],[])])]
 | .mk 3 _ _ [a],false=>[(3,[([],[a])])]
 | .mk 4 _ _ [a,b],true=>[(6,[([],[a]),([],[b])])]
 | .mk 4 _ _ [a,b],false=>[(5,[([a,b],[])])]
 | .mk 5 _ _ [a,b],true=>if j=true then [(8,[([],[a])]),(18,[([],[b])])] else [(8,[([],[a,b])])]
 | .mk 5 _ _ [a,b],false=>[(7,[([a],[]),([b],[])])]
 | .mk 6 _ _ [a,b],true=>[(10,[([a],[b])])]
 | .mk 6 _ _ [a,b],false=>[(9,[([],[a]),([b],[])])]
 | .mk 7 _ _ [a,b],true=>[(12,[([a],[b]),([b],[a])])]
 | .mk 7 _ _ [a,b],false=>[(11,[([imF a b,imF b a],[])])]
 | _,_=>[]
def rgt (j:Bool)(R r:List Fm):List Fm:=if j=true/\r≠[] then r else R++r
def zK3 (f:Fm):Bool:=match f with|.mk o _ _ _=>decide (o=2)
def ClF (L R:List Fm):Prop:=(∃f∈L,f∈R)\/∃f∈L,zK3 f=true
def HtF (j:Bool):Nat->List Fm->List Fm->Prop
 | 0,_,_=>False
 | n+1,L,R=>ClF L R\/∃f r,f∈(if r=true then R else L)/\∃t∈addF j f r,∀p∈t.2,HtF j n (L++p.1) (rgt j R p.2)
theorem wUs {j:Bool}{R R' r:List Fm}(h:∀f∈R,f∈R'):∀f∈rgt j R r,f∈rgt j R' r:=by
 unfold rgt;split
 ·exact λ_ h=>h
 ·intro f hf;rcases List.mem_append.1 hf with h1|h1
  ·exact List.mem_append_left _ (h f h1)
  ·exact List.mem_append_right _ h1
theorem vZf {L L' l:List Fm}(h:∀f∈L,f∈L'):∀f∈L++l,f∈L'++l:=λf hf=>by
 rcases List.mem_append.1 hf with h1|h1
 ·exact List.mem_append_left _ (h f h1)
 ·exact List.mem_append_right _ h1
theorem HtF.sub {j:Bool}:∀ {n:Nat} {L R L' R':List Fm},HtF j n L R->(∀f∈L,f∈L')->(∀f∈R,f∈R')->HtF j n L' R'
 | 0,_,_,_,_,h,_,_=>h.elim
 | n+1,L,R,L',R',h,hl,hr=>by
  rcases h with (⟨f,h1,h2⟩|⟨f,h1,h2⟩)|⟨f,r,h1,t,h2,h3⟩
  ·exact .inl (.inl ⟨f,hl f h1,hr f h2⟩)
  ·exact .inl (.inr ⟨f,hl f h1,h2⟩)
  ·refine .inr ⟨f,r,?_,t,h2,λp hp=>(h3 p hp).sub (vZf hl) (wUs hr)⟩;cases r
   ·exact hl f h1
   ·exact hr f h1
theorem HtF.up {j:Bool}:∀ {n m:Nat} {L R:List Fm},HtF j n L R->n<=m->HtF j m L R
 | 0,_,_,_,h,_=>h.elim
 | n+1,0,_,_,_,hm=>absurd hm (by omega)
 | n+1,m+1,L,R,h,hm=>by
  rcases h with h|⟨f,r,h1,t,h2,h3⟩
  ·exact .inl h
  ·exact .inr ⟨f,r,h1,t,h2,λp hp=>(h3 p hp).up (by omega)⟩
mutual
def hp (S:Nat->List Nat)(v:Nat->ByteArray->Bool):Fm->Nat->Bool
 | .mk op n _ sub,w =>
  if op=1 then v w n
  else if op=4 then (hpL S v sub w).all id
  else if op=5 then (hpL S v sub w).any id
  else if op=3\/op=6\/op=7 then (S w).all λu=>match hpL S v sub u with
   | [a]=>!a
   | [a,b]=>(!a || b)&&(decide (op=6) || (!b || a))
   | _=>true
  else false
def hpL (S:Nat->List Nat)(v:Nat->ByteArray->Bool):List Fm->Nat->List Bool
 | [],_=>[]
 | a::l,w=>hp S v a w::hpL S v l w
end
section
variable (S:Nat->List Nat)(v:Nat->ByteArray->Bool)(w:Nat)(a b:Fm)(n:ByteArray)(us:List Tm)
theorem hp1:hp S v (.mk 1 n us []) w=v w n:=by simp[hp]
theorem hp2:hp S v (.mk 2 n us []) w=false:=by simp[hp]
theorem hp3:hp S v (.mk 3 n us [a]) w=(S w).all λu=>!hp S v a u:=by simp[hp,hpL]
end
end Go.Proofs.Tryz
namespace Go.Proofs.Tryz
open Go Go.Iv
def UnP (j:Bool)(L R:List Fm):Prop:=∀n,¬ HtF j n L R
def Full (U:List Fm):Prop:=∀f∈U,∀j r,∀t∈addF j f r,∀p∈t.2,(∀g∈p.1,g∈U)/\∀g∈p.2,g∈U
def one (_:Nat):List Nat:=[0]
abbrev tr (v:ByteArray->Bool)(f:Fm):Bool:=hp one (λ_=>v) f 0
section
variable (v:ByteArray->Bool)(a b:Fm)(n:ByteArray)(us:List Tm)
end
end Go.Proofs.Tryz
namespace Go.Proofs.Tryz
open Go Go.Iv
def cmpN (a b:Nat):Int:=if a<b then -1 else if b<a then 1 else 0
noncomputable def cmpB (a b:ByteArray):Int:=if Op.bytesLess a.data.toList b.data.toList=true then -1 else if Op.bytesLess b.data.toList a.data.toList=true then 1 else 0
def lexI (x y:Int):Int:=if x=0 then y else x
mutual
noncomputable def yWa:Tm->Tm->Int
 | .mk v n us,.mk v' n' us'=>if v=v' then lexI (cmpB n n') (lexI (cmpN us.length us'.length) (yJp us us')) else if v=true then -1 else 1
noncomputable def yJp:List Tm->List Tm->Int
 | a::l,b::m=>lexI (yWa a b) (yJp l m)
 | _,_=>0
end
mutual
noncomputable def yZ6:Fm->Fm->Int
 | .mk o n us sub,.mk o' n' us' sub'=>lexI (cmpN o o') (lexI (cmpB n n') (lexI (lexI (cmpN us.length us'.length) (yJp us us')) (lexI (cmpN sub.length sub'.length) (yYy sub sub'))))
noncomputable def yYy:List Fm->List Fm->Int
 | a::l,b::m=>lexI (yZ6 a b) (yYy l m)
 | _,_=>0
end
structure Cp {α:Type}(f:α->α->Int)(a:α):Prop where
 eq:∀b,f a b=0↔a=b
 neg:∀b,f b a = - f a b
 tr:∀b c,f a b<0->f b c<0->f a c<0
theorem yKz {x y:Int}:lexI x y=0↔x=0/\y=0:=by
 unfold lexI;split
 ·rename_i h;simp[h]
 ·rename_i h;simp[h]
theorem yWs (x y:Int):lexI (-x) (-y) = - lexI x y:=by
 unfold lexI;grind
theorem zGb {x y:Int}:lexI x y<0↔x<0\/x=0/\y<0:=by
 unfold lexI;split
 ·rename_i h;simp[h]
 ·rename_i h;simp[h]
theorem zWe {p q r p' q' r':Int}(h1:p<0->q<0->r<0)(h2:p=0->q=r)(h3:q=0->p=r)(h4:p'<0->q'<0->r'<0)(h:lexI p p'<0)(k:lexI q q'<0):lexI r r'<0:=by
 rw[zGb] at *;grind
theorem yYx (a:Nat):Cp cmpN a:=by
 refine⟨λb=>?_,λb=>?_,λb c=>?_⟩<;>unfold cmpN<;>repeat' split
 all_goals grind
open Classical in
theorem zZi {a b:ByteArray}:cmpB a b=if ltN a b then -1 else if ltN b a then 1 else 0:=by
 unfold cmpB;congr 1
 ·exact propext xVp
 ·congr 1;exact propext xVp
open Classical in
theorem yJ5 (a:ByteArray):Cp cmpB a:=by
 refine⟨λb=>?_,λb=>?_,λb c=>?_⟩
 ·rw[zZi];by_cases h1:ltN a b
  ·rw[if_pos h1];exact⟨λh=>by omega,λh=>absurd h1 (by rw[h];exact vQe b)⟩
  ·rw[if_neg h1];by_cases h2:ltN b a
   ·grind
   ·rw[if_neg h2];exact⟨λ_=>Classical.byContradiction λhne=>h2 (wZm h1 hne),λ_=>rfl⟩
 ·rw[zZi,zZi];by_cases h1:ltN a b
  ·rw[if_pos h1,if_neg (wZn h1),if_pos h1];rfl
  ·grind
 ·rw[zZi,zZi,zZi];have key:∀x y:ByteArray,(if ltN x y then (-1:Int) else if ltN y x then 1 else 0)<0↔ltN x y:=λx y=>by
   grind
  rw[key,key,key];exact wZl
section
variable {α:Type}{f:α->α->Int}{g:List α->List α->Int}(g0:g [] []=0)(g1:∀a b l m,g (a::l) (b::m)=lexI (f a b) (g l m))
include g0 g1
theorem xJ6:∀(l:List α),(∀a∈l,∀b,f a b=0↔a=b)->∀m,l.length=m.length->(g l m=0↔l=m)
 | [],_,m,hm=>by
  grind
 | a::l,hc,b::m,hm=>by
  rw[g1,yKz,hc a (by simp),xJ6 l (λb hb=>hc b (by simp[hb])) m (by simpa using hm),List.cons.injEq]
theorem xVl:∀(l:List α),(∀a∈l,∀b,f b a = - f a b)->∀m,l.length=m.length->g m l = - g l m
 | [],_,m,hm=>by
  grind
 | a::l,hc,b::m,hm=>by
  rw[g1,g1,hc a (by simp),xVl l (λb hb=>hc b (by simp[hb])) m (by simpa using hm),yWs]
theorem wZt (he:∀a b,f a b=0↔a=b):∀(l:List α),(∀a∈l,∀b c,f a b<0->f b c<0->f a c<0)->∀m n,l.length=m.length->m.length=n.length->g l m<0->g m n<0->g l n<0
 | [],_,m,n,hm,hn,h,_=>by
  grind
 | a::l,hc,b::m,c::n,hm,hn,h,k=>by
  rw[g1] at h k ⊢;exact zWe (hc a (by simp) b c) (λe=>by rw[(he a b).1 e]) (λe=>by rw[(he b c).1 e]) (wZt he l (λb hb=>hc b (by simp[hb])) m n (by simpa using hm) (by simpa using hn)) h k
end
def lenL {α:Type}(g:List α->List α->Int)(l m:List α):Int:=lexI (cmpN l.length m.length) (g l m)
theorem yX7 {a b:Nat}:cmpN a b=0↔a=b:=(yYx a).eq b
section
variable {α:Type}{f:α->α->Int}{g:List α->List α->Int}(g0:g [] []=0)(g1:∀a b l m,g (a::l) (b::m)=lexI (f a b) (g l m))
include g0 g1
theorem zJz {l:List α}(h:∀a∈l,∀b,f a b=0↔a=b)(m:List α):lenL g l m=0↔l=m:=by
 unfold lenL;rw[yKz,yX7];constructor
 ·rintro⟨h1,h2⟩;exact (xJ6 g0 g1 l h m h1).1 h2
 ·rintro rfl;exact⟨rfl,(xJ6 g0 g1 l h l rfl).2 rfl⟩
theorem zGd {l:List α}(h:∀a∈l,∀b,f b a = - f a b)(m:List α):lenL g m l = - lenL g l m:=by
 unfold lenL;rw[(yYx l.length).neg];by_cases hl:l.length=m.length
 ·rw[xVl g0 g1 l h m hl,yWs]
 ·have:¬ cmpN l.length m.length=0:=λh=>hl (yX7.1 h);unfold lexI;grind
theorem xJ9 (he:∀a b,f a b=0↔a=b){l:List α}(h:∀a∈l,∀b c,f a b<0->f b c<0->f a c<0)(m n:List α)(h1:lenL g l m<0)(h2:lenL g m n<0):lenL g l n<0:=by
 unfold lenL at *;rw[zGb] at h1 h2;by_cases hl:l.length=m.length/\m.length=n.length
 ·obtain⟨hl,hm⟩:=hl;have e1:¬ cmpN l.length m.length<0:=by rw[yX7.2 hl];omega
  have e2:¬ cmpN m.length n.length<0:=by rw[yX7.2 hm];omega
  have e3:cmpN l.length n.length=0:=yX7.2 (hl.trans hm);rw[zGb];exact .inr ⟨e3,wZt g0 g1 he l h m n hl hm (h1.resolve_left e1).2 (h2.resolve_left e2).2⟩
 ·rw[zGb];left;rcases h1 with h1|⟨h1,_⟩
  ·rcases h2 with h2|⟨h2,_⟩
   ·exact (yYx _).tr _ _ h1 h2
   ·rw[<- yX7.1 h2];exact h1
  ·rcases h2 with h2|⟨h2,_⟩
   ·rw[yX7.1 h1];exact h2
   ·exact absurd ⟨yX7.1 h1,yX7.1 h2⟩ hl
end
theorem yKc:yJp [] []=0:=by simp only[yJp]
theorem yKb (a b:Tm)(l m:List Tm):yJp (a::l) (b::m)=lexI (yWa a b) (yJp l m):=by simp only[yJp]
theorem yUc:yYy [] []=0:=by simp only[yYy]
theorem yUb (a b:Fm)(l m:List Fm):yYy (a::l) (b::m)=lexI (yZ6 a b) (yYy l m):=by simp only[yYy]
theorem yGg (v v':Bool)(n n':ByteArray)(us us':List Tm):yWa (.mk v n us) (.mk v' n' us')=if v=v' then lexI (cmpB n n') (lenL yJp us us') else if v=true then -1 else 1:=by simp only[yWa,lenL]
theorem yGh (o o':Nat)(n n':ByteArray)(us us':List Tm)(sub sub':List Fm):yZ6 (.mk o n us sub) (.mk o' n' us' sub')=lexI (cmpN o o') (lexI (cmpB n n') (lexI (lenL yJp us us') (lenL yYy sub sub'))):=by simp only[yZ6,lenL]
theorem xUt {p:Tm->Prop}(h:∀v n us,(∀a∈us,p a)->p (.mk v n us))(t:Tm):p t:=by
 have key:∀(k:Nat) (t:Tm),SizeOf.sizeOf t<k->p t:=λk=>by
  induction k with
  | zero=>intro t ht;omega
  | succ k ih =>
   rintro⟨v,n,us⟩ ht;refine h v n us λa ha=>ih a ?_;have:=lSm ha;grind
 exact key _ t (Nat.lt_succ_self _)
theorem xWf {p:Fm->Prop}(h:∀o n us sub,(∀a∈sub,p a)->p (.mk o n us sub))(t:Fm):p t:=by
 have key:∀(k:Nat) (t:Fm),SizeOf.sizeOf t<k->p t:=λk=>by
  induction k with
  | zero=>intro t ht;omega
  | succ k ih =>
   rintro⟨o,n,us,sub⟩ ht;refine h o n us sub λa ha=>ih a ?_;have:=lSm ha;grind
 exact key _ t (Nat.lt_succ_self _)
theorem zQe (a b:Tm):yWa a b=0↔a=b:=by
 revert b;refine xUt (p:=λa=>∀b,yWa a b=0↔a=b) (λv n us ih b=>?_) a;obtain⟨v',n',us'⟩:=b;rw[yGg,Tm.mk.injEq];by_cases hv:v=v'
 ·rw[if_pos hv,yKz,(yJ5 n).eq,zJz yKc yKb ih];simp[hv]
 ·grind
theorem wJe (a b:Tm):yWa b a = - yWa a b:=by
 revert b;refine xUt (p:=λa=>∀b,yWa b a = - yWa a b) (λv n us ih b=>?_) a;obtain⟨v',n',us'⟩:=b;rw[yGg,yGg];by_cases hv:v=v'
 ·rw[if_pos hv,if_pos hv.symm,(yJ5 n).neg,zGd yKc yKb ih,yWs]
 ·grind
theorem wWt (a b c:Tm):yWa a b<0->yWa b c<0->yWa a c<0:=by
 revert b c;refine xUt (p:=λa=>∀b c,yWa a b<0->yWa b c<0->yWa a c<0) (λv n us ih b c=>?_) a;obtain⟨v',n',us'⟩:=b;obtain⟨v'',n'',us''⟩:=c;rw[yGg,yGg,yGg];have hl:=λ(h:lexI (cmpB n n') (lenL yJp us us')<0) (k:lexI (cmpB n' n'') (lenL yJp us' us'')<0) =>
  zWe (r:=cmpB n n'') (r':=lenL yJp us us'') ((yJ5 n).tr n' n'') (λe=>by rw[((yJ5 n).eq n').1 e]) (λe=>by rw[((yJ5 n').eq n'').1 e]) (xJ9 yKc yKb zQe ih us' us'') h k
 grind
theorem yJ4 (a b:Fm):yZ6 a b=0↔a=b:=by
 revert b;refine xWf (p:=λa=>∀b,yZ6 a b=0↔a=b) (λo n us sub ih b=>?_) a;obtain⟨o',n',us',sub'⟩:=b;rw[yGh,Fm.mk.injEq,yKz,yKz,yKz,yX7,(yJ5 n).eq,zJz yKc yKb (λa _=>zQe a),zJz yUc yUb ih]
theorem yWb (a b:Fm):yZ6 b a = - yZ6 a b:=by
 revert b;refine xWf (p:=λa=>∀b,yZ6 b a = - yZ6 a b) (λo n us sub ih b=>?_) a;obtain⟨o',n',us',sub'⟩:=b;rw[yGh,yGh,(yYx o).neg,(yJ5 n).neg,zGd yKc yKb (λa _=>wJe a),zGd yUc yUb ih,yWs,yWs,yWs]
theorem yWx (a b c:Fm):yZ6 a b<0->yZ6 b c<0->yZ6 a c<0:=by
 revert b c;refine xWf (p:=λa=>∀b c,yZ6 a b<0->yZ6 b c<0->yZ6 a c<0) (λo n us sub ih b c=>?_) a;obtain⟨o',n',us',sub'⟩:=b;obtain⟨o'',n'',us'',sub''⟩:=c;rw[yGh,yGh,yGh];refine zWe ((yYx o).tr o' o'') (λe=>by rw[yX7.1 e]) (λe=>by rw[yX7.1 e]) ?_;refine zWe ((yJ5 n).tr n' n'') (λe=>by rw[((yJ5 n).eq n').1 e]) (λe=>by rw[((yJ5 n').eq n'').1 e]) ?_;exact zWe (xJ9 yKc yKb zQe (λa _=>wWt a) us' us'') (λe=>by rw[(zJz yKc yKb (λa _=>zQe a) us').1 e]) (λe=>by rw[(zJz yKc yKb (λa _=>zQe a) us'').1 e])
  (xJ9 yUc yUb yJ4 ih sub' sub'')
def SetF (l r:List Fm):Prop:=r.Pairwise (λa b=>yZ6 a b<0)/\∀f,f∈r↔f∈l
theorem yWc (a:Fm):¬ yZ6 a a<0:=by rw[(yJ4 a a).2 rfl];omega
theorem SetF.uniq:∀ {r r':List Fm},r.Pairwise (λa b=>yZ6 a b<0)->r'.Pairwise (λa b=>yZ6 a b<0)->(∀x,x∈r↔x∈r')->r=r'
 | [],r',_,_,h=>by
  cases r' with
  | nil=>rfl
  | cons b r'=>exact absurd ((h b).2 (List.mem_cons_self ..)) (by simp)
 | a::r,[],_,_,h=>absurd ((h a).1 (List.mem_cons_self ..)) (by simp)
 | a::r,b::r',h1,h2,h=>by
  have p1:=List.pairwise_cons.1 h1;have p2:=List.pairwise_cons.1 h2;have hab:a=b:=by
   refine Classical.byContradiction λhne=>?_;have ha:a∈r':=by
    grind
   have hb:b∈r:=by
    grind
   have h3:=p1.1 b hb;have h4:=p2.1 a ha;rw[yWb] at h4;omega
  subst hab;congr 1;refine SetF.uniq p1.2 p2.2 λx=>?_;constructor
  ·intro hx;rcases List.mem_cons.1 ((h x).1 (List.mem_cons_of_mem _ hx)) with e|e
   ·subst e;exact absurd (p1.1 _ hx) (yWc _)
   ·exact e
  ·intro hx;rcases List.mem_cons.1 ((h x).2 (List.mem_cons_of_mem _ hx)) with e|e
   ·subst e;exact absurd (p2.1 _ hx) (yWc _)
   ·exact e
theorem SetF.one {l r r':List Fm}(h:SetF l r)(h':SetF l r'):r=r':=SetF.uniq h.1 h'.1 λx=>(h.2 x).trans (h'.2 x).symm
end Go.Proofs.Tryz
namespace Go.Proofs.Tryz
open Go Go.Iv
open Classical in
noncomputable def setF (l:List Fm):List Fm:=if h:∃r,SetF l r then h.choose else []
theorem yVs {l r:List Fm}(h:SetF l r):setF l=r:=by
 have he:∃r,SetF l r:=⟨r,h⟩
 unfold setF;rw[dif_pos he];exact SetF.one he.choose_spec h
theorem xKw:setF []=[]:=yVs ⟨List.Pairwise.nil,λ_=>Iff.rfl⟩
theorem vWq {α:Type}(p q:α->Bool)(h:∀x,¬ (p x=true/\q x=true)):∀l:List α,(l.filter p).length+(l.filter q).length<=l.length
 | []=>by simp
 | a::l=>by
  have ih:=vWq p q h l;grind
theorem xXo:∀l:List Fm,∃r,SetF l r/\r.length<=l.length
 | []=>⟨[],⟨List.Pairwise.nil,λ_=>Iff.rfl⟩,Nat.le_refl _⟩
 | a::l=>by
  obtain⟨r,⟨h1,h2⟩,h3⟩:=xXo l;by_cases ha:a∈r
  ·refine⟨r,⟨h1,λf=>?_⟩,by simp only[List.length_cons];omega⟩;grind
  ·have hx:∀x∈r,yZ6 x a<0\/yZ6 a x<0:=λx hx=>by
    have h0:yZ6 a x≠0:=λh=>ha (((yJ4 a x).1 h)▸hx);have hn:=yWb a x;omega
   have h4:=vWq (λx=>decide (yZ6 x a<0)) (λx=>decide (yZ6 a x<0)) (λx ⟨q1,q2⟩=>by
    have q1:=of_decide_eq_true q1;have q2:=of_decide_eq_true q2;have hn:=yWb a x;omega) r
   refine⟨r.filter (λx=>decide (yZ6 x a<0))++a::r.filter (λx=>decide (yZ6 a x<0)),⟨?_,λf=>?_⟩,by simp only[lLa,List.length_cons];omega⟩
   ·refine List.pairwise_append.2 ⟨h1.filter _,List.pairwise_cons.2 ⟨λy hy=>?_,h1.filter _⟩,λx hxm y hy=>?_⟩
    ·grind
    ·have hxa:=of_decide_eq_true (List.mem_filter.1 hxm).2;rcases List.mem_cons.1 hy with rfl|hy
     ·exact hxa
     ·exact yWx _ _ _ hxa (of_decide_eq_true (List.mem_filter.1 hy).2)
   ·grind
theorem xXn (l:List Fm):SetF l (setF l):=by
 obtain⟨r,h,_⟩:=xXo l;rw[yVs h];exact h
theorem wQf (l:List Fm):setF (setF l)=setF l:=yVs ⟨(xXn l).1,λ_=>Iff.rfl⟩
end Go.Proofs.Tryz
namespace Go.Proofs.Tryz
open Go Go.Iv
abbrev Sn:=List Fm×List Fm
noncomputable def nf (s:Sn):Sn:=(setF s.1,setF s.2)
theorem yZw {l:List Fm}{f:Fm}:f∈setF l↔f∈l:=(xXn l).2 f
theorem vKj (s:Sn):nf (nf s)=nf s:=by simp only[nf,wQf]
noncomputable def xQ3 (j:Bool)(s p:Sn):Sn:=nf (s.1++p.1,rgt j s.2 p.2)
noncomputable def yUy (j:Bool)(s:Sn)(r:Bool)(f:Fm):List (Nat×Fm×List Sn):=(addF j f r).map λt=>(t.1,f,t.2.map (xQ3 j s))
noncomputable def mvF (j:Bool)(s:Sn):List (Nat×Fm×List Sn):=s.1.flatMap (yUy j s false)++s.2.flatMap (yUy j s true)
def tooL (j:Bool)(s p:Sn):Prop:=64<s.1.length+p.1.length\/64<(if j=true/\p.2≠[] then 0 else s.2.length)+p.2.length
def zG7 (j:Bool)(s:Sn):Prop:=∃f r,f∈(if r=true then s.2 else s.1)/\∃t∈addF j f r,∃p∈t.2,tooL j s p
inductive Rch (j:Bool)(s0:Sn):Sn->Prop
 | refl:Rch j s0 s0
 | step {s:Sn} (h:Rch j s0 s) (hc:¬ ClF s.1 s.2) {m:Nat×Fm×List Sn} (hm:m∈mvF j s) {p:Sn} (hp:p∈m.2.2):Rch j s0 p
theorem Rch.trans {j:Bool}{s0 s1 s:Sn}(h:Rch j s0 s1)(k:Rch j s1 s):Rch j s0 s:=by
 induction k with
 | refl=>exact h
 | step _ hc hm hp ih=>exact .step ih hc hm hp
structure ReachOk (j:Bool)(s0:Sn)(K:List Sn):Prop where
 nodup:K.Nodup
 mem:∀s,s∈K↔Rch j s0 s
 short:∀s∈K,¬ ClF s.1 s.2->¬ zG7 j s
 len:K.length<=20000
def yUf (j:Bool)(s0:Sn)(e:Nat):Prop:=(e=4/\∃K:List Sn,K.Nodup/\(∀s∈K,Rch j s0 s)/\20000<K.length)\/(e=5/\∃s,Rch j s0 s/\¬ ClF s.1 s.2/\zG7 j s)
open Classical in
theorem yK9 {α:Type}{a b:List α}(h:a.Nodup)(hs:∀x∈a,x∈b):a.length<=b.length:=zXk a b h hs
theorem ReachOk.no {j:Bool}{s0 s1:Sn}{K:List Sn}(h:ReachOk j s0 K)(hr:Rch j s0 s1){e:Nat}(hn:yUf j s1 e):False:=by
 rcases hn with⟨_,L,h1,h2,h3⟩|⟨_,s,h1,h2,h3⟩
 ·have:=yK9 h1 λs hs=>(h.mem s).2 (hr.trans (h2 s hs));have:=h.len;omega
 ·exact h.short s ((h.mem s).2 (hr.trans h1)) h2 h3
theorem ReachOk.len_eq {j:Bool}{s0:Sn}{K K':List Sn}(h:ReachOk j s0 K)(hn:K'.Nodup)(hm:∀s,s∈K'↔Rch j s0 s):K.length=K'.length:=by
 have h1:=yK9 h.nodup λs hs=>(hm s).2 ((h.mem s).1 hs);have h2:=yK9 hn λs hs=>(h.mem s).2 ((hm s).1 hs);omega
abbrev HtS (j:Bool)(n:Nat)(s:Sn):Prop:=HtF j n s.1 s.2
theorem wWa {j:Bool}{n:Nat}{s:Sn}:HtS j n (nf s)↔HtS j n s :=
 ⟨λh=>h.sub (λ_=>yZw.1) λ_=>yZw.1,λh=>h.sub (λ_=>yZw.2) λ_=>yZw.2⟩
open Classical in
noncomputable def hF (j:Bool)(s:Sn):Nat:=if h:∃n,HtS j n s then (yVk h).choose else 0
theorem zK9 {j:Bool}{s:Sn}{n:Nat}(h:HtS j n s):HtS j (hF j s) s/\hF j s<=n/\0<hF j s:=by
 have he:∃n,HtS j n s:=⟨n,h⟩
 unfold hF;rw[dif_pos he];have h1:=(yVk he).choose_spec;refine⟨h1.1,h1.2 n h,?_⟩;have h1:=h1.1;cases hz:(yVk he).choose with
 | zero=>rw[hz] at h1;exact h1.elim
 | succ k=>omega
theorem vQo {j:Bool}{s:Sn}:hF j s=0↔UnP j s.1 s.2:=by
 constructor
 ·intro h n hn;have:=(zK9 hn).2.2;omega
 ·intro h;unfold hF;rw[dif_neg λ⟨n,hn⟩=>h n hn]
theorem zWl {j:Bool}{s:Sn}(h:0<hF j s):HtS j (hF j s) s:=by
 by_cases he:∃n,HtS j n s
 ·obtain⟨n,hn⟩:=he;exact (zK9 hn).1
 ·unfold hF at h;rw[dif_neg he] at h;omega
theorem wWc {j:Bool}{s:Sn}{h:Nat}(h1:0<h->HtS j h s)(h2:∀n,HtS j n s->0<h/\h<=n):hF j s=h:=by
 by_cases he:∃n,HtS j n s
 ·obtain⟨n,hn⟩:=he;have h3:=h2 _ (zK9 hn).1;have h4:=(zK9 (h1 h3.1)).2.1;omega
 ·have:hF j s=0:=vQo.2 λn hn=>he ⟨n,hn⟩;rw[this];rcases Nat.eq_zero_or_pos h with h0|h0
  ·exact h0.symm
  ·exact (he ⟨h,h1 h0⟩).elim
theorem xJi (j:Bool)(s:Sn):hF j (nf s)=hF j s:=by
 refine wWc (λh=>wWa.2 (zWl h)) λn hn=>?_;have:=zK9 (wWa.1 hn);exact⟨this.2.2,this.2.1⟩
theorem yK1 {j:Bool}{n:Nat}{s:Sn}:HtS j (n+1) s↔ClF s.1 s.2\/∃m∈mvF j s,∀p∈m.2.2,HtS j n p:=by
 have key:∀f r,(∃m∈yUy j s r f,∀p∈m.2.2,HtS j n p)↔∃t∈addF j f r,∀p∈t.2,HtF j n (s.1++p.1) (rgt j s.2 p.2):=λf r=>by
  constructor
  ·rintro⟨m,hm,h⟩;obtain⟨t,ht,rfl⟩:=List.mem_map.1 hm;exact⟨t,ht,λp hp=>wWa.1 (h _ (List.mem_map_of_mem hp))⟩
  ·rintro⟨t,ht,h⟩;refine⟨_,List.mem_map_of_mem ht,λp hp=>?_⟩;obtain⟨q,hq,rfl⟩:=List.mem_map.1 hp;exact wWa.2 (h q hq)
 constructor
 ·rintro (h|⟨f,r,h1,h2⟩)
  ·exact .inl h
  ·obtain⟨m,hm,h⟩:=(key f r).2 h2;refine .inr ⟨m,?_,h⟩;cases r
   ·exact List.mem_append_left _ (List.mem_flatMap.2 ⟨f,h1,hm⟩)
   ·exact List.mem_append_right _ (List.mem_flatMap.2 ⟨f,h1,hm⟩)
 ·rintro (h|⟨m,hm,h⟩)
  ·exact .inl h
  ·rcases List.mem_append.1 hm with hm|hm
   ·obtain⟨f,hf,hm⟩:=List.mem_flatMap.1 hm;exact .inr ⟨f,false,hf,(key f false).1 ⟨m,hm,h⟩⟩
   ·obtain⟨f,hf,hm⟩:=List.mem_flatMap.1 hm;exact .inr ⟨f,true,hf,(key f true).1 ⟨m,hm,h⟩⟩
theorem zQ5 {j:Bool}{s:Sn}(h:ClF s.1 s.2):hF j s=1 :=
 wWc (λ_=>.inl h) λn hn=>⟨Nat.one_pos,by cases n with|zero=>exact hn.elim|succ n=>omega⟩
end Go.Proofs.Tryz
namespace Go.Proofs.Tryz
open Go Go.Iv
def insN (x:Nat):List Nat->List Nat
 | []=>[x]
 | y::l=>if x<y then x::y::l else if x=y then y::l else y::insN x l
def sdN:List Nat->List Nat
 | []=>[]
 | x::l=>insN x (sdN l)
def Inc (l:List Nat):Prop:=l.Pairwise (·<·)
theorem zGi {x y:Nat}:∀ {l:List Nat},y∈insN x l↔y=x\/y∈l
 | []=>by simp[insN]
 | z::l=>by
  unfold insN;split
  ·simp
  ·split
   ·rename_i h;subst h;simp
   ·rw[List.mem_cons,zGi,List.mem_cons];grind
theorem xW0 {x:Nat}:∀ {l:List Nat},Inc l->Inc (insN x l)
 | [],_=>List.pairwise_singleton ..
 | z::l,h=>by
  have h1:=List.pairwise_cons.1 h;unfold insN;split
  ·rename_i hx;refine List.pairwise_cons.2 ⟨λy hy=>?_,h⟩;rcases List.mem_cons.1 hy with rfl|hy
   ·exact hx
   ·exact Nat.lt_trans hx (h1.1 y hy)
  ·split
   ·exact h
   ·refine List.pairwise_cons.2 ⟨λy hy=>?_,xW0 h1.2⟩;rcases zGi.1 hy with rfl|hy
    ·omega
    ·exact h1.1 y hy
theorem sdN_mem {x:Nat}:∀ {l:List Nat},x∈sdN l↔x∈l
 | []=>Iff.rfl
 | y::l=>by rw[sdN,zGi,sdN_mem,List.mem_cons]
theorem zJg:∀l:List Nat,Inc (sdN l)
 | []=>List.Pairwise.nil
 | _::l=>xW0 (zJg l)
theorem Inc.uniq:∀ {r r':List Nat},Inc r->Inc r'->(∀x,x∈r↔x∈r')->r=r'
 | [],r',_,_,h=>by
  cases r' with
  | nil=>rfl
  | cons b r'=>exact absurd ((h b).2 (.head _)) (by simp)
 | a::r,[],_,_,h=>absurd ((h a).1 (.head _)) (by simp)
 | a::r,b::r',h1,h2,h=>by
  have p1:=List.pairwise_cons.1 h1;have p2:=List.pairwise_cons.1 h2;have hab:a=b:=by
   have ha:=(h a).1 (.head _);have hb:=(h b).2 (.head _);rcases List.mem_cons.1 ha with e|ha
   ·exact e
   ·rcases List.mem_cons.1 hb with e|hb
    ·exact e.symm
    ·have:=p1.1 b hb;have:=p2.1 a ha;omega
  subst hab;congr 1;refine Inc.uniq p1.2 p2.2 λx=>?_;constructor
  ·intro hx;rcases List.mem_cons.1 ((h x).1 (.tail _ hx)) with e|e
   ·subst e;exact absurd (p1.1 _ hx) (nLi _)
   ·exact e
  ·intro hx;rcases List.mem_cons.1 ((h x).2 (.tail _ hx)) with e|e
   ·subst e;exact absurd (p2.1 _ hx) (nLi _)
   ·exact e
theorem vK0 {l r:List Nat}(h:Inc r)(hm:∀x,x∈r↔x∈l):sdN l=r:=Inc.uniq (zJg l) h λx=>sdN_mem.trans (hm x).symm
theorem xQr {l:List Nat}(h:Inc l):l.Nodup:=h.imp λh=>Nat.ne_of_lt h
theorem yYs {l:List Nat}(h:Inc l){n:Nat}(hn:∀x∈l,x<n):l.length<=n:=by
 have:=yK9 (xQr h) (b:=List.range n) λx hx=>List.mem_range.2 (hn x hx)
 rwa [List.length_range] at this
def ddP (p:Nat):List Nat->List Nat
 | []=>[]
 | b::l=>if b=p then ddP b l else b::ddP b l
def ddN:List Nat->List Nat
 | []=>[]
 | a::l=>a::ddP a l
theorem zGy:∀(p:Nat)(l:List Nat)(a b:Nat),(p::l).getLast?=some a->ddP p (l++[b])=ddP p l++(if b=a then [] else [b])
 | p,[],a,b,h=>by
  simp only[List.getLast?_singleton,Option.some.injEq] at h;subst h;simp only[List.nil_append,ddP]
 | p,c::l,a,b,h=>by
  rw[List.getLast?_cons_cons] at h;simp only[List.cons_append,ddP,zGy c l a b h];split<;>rfl
theorem xWq {m:List Nat}{k a b:Nat}(ha:m[k]?=some a)(hb:m[k+1]?=some b):ddN (m.take (k+1+1))=ddN (m.take (k+1))++(if b=a then [] else [b]):=by
 rw[yQ7 hb,yQ7 ha];cases hm:m.take k with
 | nil=>exact congrArg (a::·) (zGy a [] a b rfl)
 | cons p l=>exact congrArg (p::·) (zGy p (l++[a]) a b (by rw[<- List.cons_append,List.getLast?_concat]))
theorem wGl:∀(p:Nat)(l:List Nat),(p::l).Pairwise (·<=·)->(∀x,x∈p::ddP p l↔x∈p::l)/\Inc (p::ddP p l)
 | p,[],_=>⟨λ_=>Iff.rfl,List.pairwise_singleton ..⟩
 | p,b::l,h=>by
  have h1:=List.pairwise_cons.1 h;obtain⟨i1,i2⟩:=wGl b l h1.2;simp only[ddP];by_cases hc:b=p
  ·subst hc;rw[if_pos rfl];exact⟨λx=>by rw[i1 x];simp,i2⟩
  ·rw[if_neg hc];have hlt:p<b:=by have:=h1.1 b (.head _);omega
   refine⟨λx=>by rw[List.mem_cons,i1 x,List.mem_cons (l:=b::l)],List.pairwise_cons.2 ⟨λy hy=>?_,i2⟩⟩;rcases List.mem_cons.1 hy with rfl|hy
   ·exact hlt
   ·exact Nat.lt_trans hlt ((List.pairwise_cons.1 i2).1 y hy)
theorem wGn {l:List Nat}(h:l.Pairwise (·<=·)):(∀x,x∈ddN l↔x∈l)/\Inc (ddN l):=by
 cases l with
 | nil=>exact⟨λ_=>Iff.rfl,List.Pairwise.nil⟩
 | cons a l=>exact wGl a l h
theorem wGm {l m:List Nat}(hp:m.Perm l)(h:m.Pairwise (·<=·)):ddN m=sdN l :=
 (vK0 (wGn h).2 λx=>((wGn h).1 x).trans hp.mem_iff).symm
theorem zJf (l:List Nat):(sdN l).length<=l.length:=yK9 (xQr (zJg l)) λ_=>sdN_mem.1
def Srt (W:List Fm):Prop:=W.Pairwise λa b=>yZ6 a b<0
theorem zVr {W:List Fm}(h:Srt W){i k:Nat}{a b:Fm}(ha:W[i]?=some a)(hb:W[k]?=some b)(hik:i<k):yZ6 a b<0:=by
 obtain⟨h1,h2⟩:=lGs ha;obtain⟨h3,h4⟩:=lGs hb;have:=List.pairwise_iff_getElem.1 h i k h1 h3 hik
 rwa [h2,h4] at this
theorem zYh {W:List Fm}(h:Srt W){i k:Nat}{a:Fm}(ha:W[i]?=some a)(hb:W[k]?=some a):i=k:=by
 rcases Nat.lt_trichotomy i k with h1|h1|h1
 ·exact absurd (zVr h ha hb h1) (yWc a)
 ·exact h1
 ·exact absurd (zVr h hb ha h1) (yWc a)
def fmW (W:List Fm)(l:List Nat):List Fm:=l.filterMap λi=>W[i]?
theorem yZg {W:List Fm}{l:List Nat}{f:Fm}:f∈fmW W l↔∃i∈l,W[i]?=some f:=by simp[fmW]
def Ix (W:List Fm)(l:List Nat):Prop:=Inc l/\∀i∈l,i<W.length
theorem Ix.tail {W:List Fm}{i:Nat}{l:List Nat}(h:Ix W (i::l)):Ix W l:=⟨(List.pairwise_cons.1 h.1).2,λk hk=>h.2 k (.tail _ hk)⟩
theorem Ix.get {W:List Fm}{l:List Nat}(h:Ix W l){i:Nat}(hi:i∈l):∃f,W[i]?=some f:=⟨_,List.getElem?_eq_getElem (h.2 i hi)⟩
theorem zQa {W:List Fm}{i:Nat}{l:List Nat}{f:Fm}(h:W[i]?=some f):fmW W (i::l)=f::fmW W l:=by simp[fmW,h]
theorem wXt {W:List Fm}(hW:Srt W):∀ {l:List Nat},Ix W l->Srt (fmW W l)
 | [],_=>List.Pairwise.nil
 | i::l,h=>by
  obtain⟨f,hf⟩:=h.get (.head _);rw[zQa hf];refine List.pairwise_cons.2 ⟨λg hg=>?_,wXt hW h.tail⟩;obtain⟨k,hk,hkg⟩:=yZg.1 hg;exact zVr hW hf hkg ((List.pairwise_cons.1 h.1).1 k hk)
theorem xJp {W:List Fm}:∀ {l:List Nat},Ix W l->(fmW W l).length=l.length
 | [],_=>rfl
 | i::l,h=>by
  obtain⟨f,hf⟩:=h.get (.head _);rw[zQa hf,List.length_cons,List.length_cons,xJp h.tail]
theorem xWh {W:List Fm}(hW:Srt W){l:List Nat}(h:Ix W l){m:List Fm}(hm:∀f,f∈fmW W l↔f∈m):fmW W l=setF m:=(yVs ⟨wXt hW h,hm⟩).symm
theorem wXu {W:List Fm}(hW:Srt W){l m:List Nat}(hl:Ix W l)(hm:Ix W m)(h:fmW W l=fmW W m):l=m:=by
 refine Inc.uniq hl.1 hm.1 λi=>?_;have key:∀ {l m:List Nat},Ix W l->fmW W l=fmW W m->i∈l->i∈m:=λhl h hi=>by
  obtain⟨f,hf⟩:=hl.get hi;have:f∈fmW W _:=yZg.2 ⟨i,hi,hf⟩;rw[h] at this;obtain⟨k,hk,hkf⟩:=yZg.1 this
  rwa [zYh hW hf hkf]
 exact⟨key hl h,key hm h.symm⟩
open Classical in
noncomputable def noW (W:List Fm)(f:Fm):Nat:=if h:∃i,W[i]?=some f then h.choose else 0
theorem xVg {W:List Fm}{f:Fm}(h:f∈W):W[noW W f]?=some f:=by
 obtain⟨i,hi⟩:=List.mem_iff_getElem?.1 h;have he:∃i,W[i]?=some f:=⟨i,hi⟩
 unfold noW;rw[dif_pos he];exact he.choose_spec
theorem vKg {W:List Fm}(hW:Srt W){f:Fm}{i:Nat}(h:W[i]?=some f):noW W f=i:=zYh hW (xVg (lMg h)) h
noncomputable def zJt (W:List Fm)(l:List Fm):List Nat:=sdN (l.map (noW W))
theorem yG8 {W:List Fm}{l:List Fm}(h:∀f∈l,f∈W):Ix W (zJt W l):=by
 refine⟨zJg _,λi hi=>?_⟩;obtain⟨f,hf,rfl⟩:=List.mem_map.1 (sdN_mem.1 hi);exact (lGs (xVg (h f hf))).1
theorem yYk {W:List Fm}{l:List Fm}(h:∀f∈l,f∈W){f:Fm}:f∈fmW W (zJt W l)↔f∈l:=by
 rw[yZg];constructor
 ·rintro⟨i,hi,hf⟩;obtain⟨g,hg,rfl⟩:=List.mem_map.1 (sdN_mem.1 hi);rw[xVg (h g hg)] at hf;cases hf;exact hg
 ·intro hf;exact⟨_,sdN_mem.2 (List.mem_map_of_mem hf),xVg (h f hf)⟩
abbrev Ln:=List Nat×List Nat
def lnW (W:List Fm)(ln:Ln):Sn:=(fmW W ln.1,fmW W ln.2)
def LnOk (W:List Fm)(ln:Ln):Prop:=Ix W ln.1/\Ix W ln.2
noncomputable def zG9 (W:List Fm)(s:Sn):Ln:=(zJt W s.1,zJt W s.2)
def InW (W:List Fm)(s:Sn):Prop:=(∀f∈s.1,f∈W)/\∀f∈s.2,f∈W
theorem zG8 {W:List Fm}{s:Sn}(h:InW W s):LnOk W (zG9 W s):=⟨yG8 h.1,yG8 h.2⟩
theorem zXr {W:List Fm}(hW:Srt W){s:Sn}(h:InW W s):lnW W (zG9 W s)=nf s:=by
 unfold lnW zG9 nf;rw[xWh hW (yG8 h.1) λf=>yYk h.1,xWh hW (yG8 h.2) λf=>yYk h.2]
theorem wZr {W:List Fm}(hW:Srt W){a b:Ln}(ha:LnOk W a)(hb:LnOk W b)(h:lnW W a=lnW W b):a=b:=by
 have h1:=congrArg Prod.fst h;have h2:=congrArg Prod.snd h;exact Prod.ext (wXu hW ha.1 hb.1 h1) (wXu hW ha.2 hb.2 h2)
abbrev Ex:=Ln×Nat×Nat
noncomputable def exW (W:List Fm)(p:Sn):Ex:=(zG9 W p,p.1.length,p.2.length)
def rgtN (j:Bool)(ln:Ln)(x:Ex):List Nat:=if j=true/\0<x.2.2 then [] else ln.2
def yUv (j:Bool)(ln:Ln)(x:Ex):Ln:=(sdN (ln.1++x.1.1),sdN (rgtN j ln x++x.1.2))
def tooN (j:Bool)(ln:Ln)(x:Ex):Bool:=decide (64<ln.1.length+x.2.1) || decide (64<(rgtN j ln x).length+x.2.2)
theorem wG9 {W:List Fm}{a b:List Nat}(ha:∀i∈a,i<W.length)(hb:∀i∈b,i<W.length):Ix W (sdN (a++b)) :=
 ⟨zJg _,λi hi=>(List.mem_append.1 (sdN_mem.1 hi)).elim (ha i) (hb i)⟩
theorem wUt {W:List Fm}{j:Bool}{ln:Ln}{x:Ex}(h:LnOk W ln):∀i∈rgtN j ln x,i<W.length:=by
 unfold rgtN;split
 ·intro i hi;cases hi
 ·exact h.2.2
theorem xV5 {W:List Fm}{j:Bool}{ln:Ln}{p:Sn}(h:LnOk W ln)(hp:InW W p):LnOk W (yUv j ln (exW W p)) :=
 ⟨wG9 h.1.2 (yG8 hp.1).2,wG9 (wUt h) (yG8 hp.2).2⟩
theorem wVj {W:List Fm}(hW:Srt W){j:Bool}{ln:Ln}{p:Sn}(h:LnOk W ln)(hp:InW W p):lnW W (yUv j ln (exW W p))=xQ3 j (lnW W ln) p:=by
 have hk:=xV5 (j:=j) h hp;unfold xQ3 nf;refine Prod.ext ?_ ?_
 ·refine xWh hW hk.1 λf=>?_;rw[yZg,List.mem_append];simp only[yUv,sdN_mem,List.mem_append];constructor
  ·rintro⟨i,hi|hi,hf⟩
   ·exact .inl (yZg.2 ⟨i,hi,hf⟩)
   ·exact .inr ((yYk hp.1).1 (yZg.2 ⟨i,hi,hf⟩))
  ·rintro (hf|hf)
   ·obtain⟨i,hi,hf⟩:=yZg.1 hf;exact⟨i,.inl hi,hf⟩
   ·obtain⟨i,hi,hf⟩:=yZg.1 ((yYk hp.1).2 hf);exact⟨i,.inr hi,hf⟩
 ·refine xWh hW hk.2 λf=>?_;have hpos:0<(exW W p).2.2↔p.2≠[]:=by simp[exW,List.length_pos_iff]
  rw[yZg];unfold rgt;simp only[yUv,sdN_mem,List.mem_append,rgtN,hpos];have hr:∀ {f},f∈fmW W (exW W p).1.2↔f∈p.2:=yYk hp.2;by_cases hc:j=true/\p.2≠[]
  ·rw[if_pos hc,if_pos hc];constructor
   ·rintro⟨i,hi|hi,hf⟩
    ·cases hi
    ·exact hr.1 (yZg.2 ⟨i,hi,hf⟩)
   ·intro hf;obtain⟨i,hi,hf⟩:=yZg.1 (hr.2 hf);exact⟨i,.inr hi,hf⟩
  ·rw[if_neg hc,if_neg hc,List.mem_append];constructor
   ·rintro⟨i,hi|hi,hf⟩
    ·exact .inl (yZg.2 ⟨i,hi,hf⟩)
    ·exact .inr (hr.1 (yZg.2 ⟨i,hi,hf⟩))
   ·rintro (hf|hf)
    ·obtain⟨i,hi,hf⟩:=yZg.1 hf;exact⟨i,.inl hi,hf⟩
    ·obtain⟨i,hi,hf⟩:=yZg.1 (hr.2 hf);exact⟨i,.inr hi,hf⟩
theorem xUs {W:List Fm}{j:Bool}{ln:Ln}{p:Sn}(h:LnOk W ln):tooN j ln (exW W p)=true↔tooL j (lnW W ln) p:=by
 have hpos:0<(exW W p).2.2↔p.2≠[]:=by simp[exW,List.length_pos_iff]
 have hr:(rgtN j ln (exW W p)).length=if j=true/\p.2≠[] then 0 else (fmW W ln.2).length:=by
  unfold rgtN;by_cases hc:j=true/\p.2≠[]
  ·rw[if_pos hc,if_pos ⟨hc.1,hpos.2 hc.2⟩];rfl
  ·rw[if_neg hc,if_neg λh=>hc ⟨h.1,hpos.1 h.2⟩,xJp h.2]
 unfold tooN tooL;rw[Bool.or_eq_true,dTe,dTe,hr,lnW,xJp h.1];rfl
def clN (W:List Fm)(ln:Ln):Prop:=(∃i∈ln.1,i∈ln.2)\/∃i∈ln.1,∃f,W[i]?=some f/\zK3 f=true
theorem zQh {W:List Fm}(hW:Srt W){ln:Ln}(h:LnOk W ln):clN W ln↔ClF (lnW W ln).1 (lnW W ln).2:=by
 unfold clN ClF lnW;refine or_congr ⟨?_,?_⟩ ⟨?_,?_⟩
 ·rintro⟨i,h1,h2⟩;obtain⟨f,hf⟩:=h.1.get h1;exact⟨f,yZg.2 ⟨i,h1,hf⟩,yZg.2 ⟨i,h2,hf⟩⟩
 ·rintro⟨f,h1,h2⟩;obtain⟨i,hi,hf⟩:=yZg.1 h1;obtain⟨k,hk,hkf⟩:=yZg.1 h2;exact⟨i,hi,by rw[zYh hW hf hkf];exact hk⟩
 ·rintro⟨i,h1,f,hf,h2⟩;exact⟨f,yZg.2 ⟨i,h1,hf⟩,h2⟩
 ·rintro⟨f,h1,h2⟩;obtain⟨i,hi,hf⟩:=yZg.1 h1;exact⟨i,hi,f,hf,h2⟩
end Go.Proofs.Tryz
namespace Go.Proofs
open Go.Shelf
def Tryz.sortIL_ren:Go.Shelf.Ren:=⟨λ| 5=>106|8=>121|7=>135|19=>162|20=>163|10=>180|11=>181|12=>182|13=>183|14=>184|15=>185|16=>103|17=>186|18=>187|30=>228|31=>203|32=>204|33=>229|34=>230|35=>134|40=>249|n=>n,λ| 23=>51|25=>3|3=>3|32=>185|22=>51|0=>0|44=>262|46=>264|4=>4|36=>256|35=>255|41=>125|5=>5|9=>9|53=>286|57=>290|63=>307|64=>308|n=>n,λ| n=>n⟩
theorem Tryz.sortIL:Go.Proofs.SlLaysM.n5 Tryz.prog Tryz.sortIL_ren:={
 mixed:=by kernel_rfl
 f5:=⟨Tryz.f106.name,by decide,Tryz.func106.trans (congrArg some (by kernel_rfl))⟩
 f7:=⟨Tryz.f135.name,by decide,Tryz.func135.trans (congrArg some (by kernel_rfl))⟩
 f8:=Tryz.func121.trans (congrArg some (by kernel_rfl))
 f10:=⟨Tryz.f180.name,by decide,Tryz.func180.trans (congrArg some (by kernel_rfl))⟩
 f11:=⟨Tryz.f181.name,by decide,Tryz.func181.trans (congrArg some (by kernel_rfl))⟩
 f12:=⟨Tryz.f182.name,by decide,Tryz.func182.trans (congrArg some (by kernel_rfl))⟩
 f13:=⟨Tryz.f183.name,by decide,Tryz.func183.trans (congrArg some (by kernel_rfl))⟩
 f14:=⟨Tryz.f184.name,by decide,Tryz.func184.trans (congrArg some (by kernel_rfl))⟩
 f15:=⟨Tryz.f185.name,by decide,Tryz.func185.trans (congrArg some (by kernel_rfl))⟩
 f16:=⟨Tryz.f103.name,by decide,Tryz.func103.trans (congrArg some (by kernel_rfl))⟩
 f17:=⟨Tryz.f186.name,by decide,Tryz.func186.trans (congrArg some (by kernel_rfl))⟩
 f18:=⟨Tryz.f187.name,by decide,Tryz.func187.trans (congrArg some (by kernel_rfl))⟩
 f19:=Tryz.func162.trans (congrArg some (by kernel_rfl))
 f20:=Tryz.func163.trans (congrArg some (by kernel_rfl))
 f30:=⟨Tryz.f228.name,by decide,Tryz.func228.trans (congrArg some (by kernel_rfl))⟩
 f31:=Tryz.func203.trans (congrArg some (by kernel_rfl))
 f32:=Tryz.func204.trans (congrArg some (by kernel_rfl))
 f33:=⟨Tryz.f229.name,by decide,Tryz.func229.trans (congrArg some (by kernel_rfl))⟩
 f34:=⟨Tryz.f230.name,by decide,Tryz.func230.trans (congrArg some (by kernel_rfl))⟩
 f35:=⟨Tryz.f134.name,by decide,Tryz.func134.trans (congrArg some (by kernel_rfl))⟩
 f40:=⟨Tryz.f249.name,by decide,Tryz.func249.trans (congrArg some (by kernel_rfl))⟩
 t0:=Tryz.underlying0
 a0:=Tryz.isAgg0
 z0:=Tryz.sizeOf0
 v0:=Tryz.zeroValue0
 t3:=Tryz.underlying3
 a3:=Tryz.isAgg3
 z3:=Tryz.sizeOf3
 v3:=Tryz.zeroValue3
 t4:=Tryz.underlying4
 a4:=Tryz.isAgg4
 z4:=Tryz.sizeOf4
 v4:=Tryz.zeroValue4
 t5:=Tryz.underlying5
 a5:=Tryz.isAgg5
 z5:=Tryz.sizeOf5
 v5:=Tryz.zeroValue5
 t9:=Tryz.underlying9
 a9:=Tryz.isAgg9
 z9:=Tryz.sizeOf9
 v9:=Tryz.zeroValue9
 t22:=Tryz.underlying51
 a22:=Tryz.isAgg51
 z22:=Tryz.sizeOf51
 v22:=Tryz.zeroValue51
 t23:=Tryz.underlying51
 a23:=Tryz.isAgg51
 z23:=Tryz.sizeOf51
 v23:=Tryz.zeroValue51
 t25:=Tryz.underlying3
 a25:=Tryz.isAgg3
 z25:=Tryz.sizeOf3
 v25:=Tryz.zeroValue3
 t32:=Tryz.underlying185
 a32:=Tryz.isAgg185
 z32:=Tryz.sizeOf185
 v32:=Tryz.zeroValue185
 t35:=Tryz.underlying255
 a35:=Tryz.isAgg255
 z35:=Tryz.sizeOf255
 v35:=Tryz.zeroValue255
 t36:=Tryz.underlying256
 a36:=Tryz.isAgg256
 z36:=Tryz.sizeOf256
 v36:=Tryz.zeroValue256
 t41:=Tryz.underlying125
 a41:=Tryz.isAgg125
 z41:=Tryz.sizeOf125
 v41:=Tryz.zeroValue125
 t44:=Tryz.underlying262
 a44:=Tryz.isAgg262
 z44:=Tryz.sizeOf262
 v44:=Tryz.zeroValue262
 t46:=Tryz.underlying264
 a46:=Tryz.isAgg264
 z46:=Tryz.sizeOf264
 v46:=Tryz.zeroValue264
 t53:=Tryz.underlying286
 a53:=Tryz.isAgg286
 z53:=Tryz.sizeOf286
 v53:=Tryz.zeroValue286
 t57:=Tryz.underlying290
 a57:=Tryz.isAgg290
 z57:=Tryz.sizeOf290
 v57:=Tryz.zeroValue290
 t63:=Tryz.underlying307
 a63:=Tryz.isAgg307
 z63:=Tryz.sizeOf307
 v63:=Tryz.zeroValue307
 t64:=Tryz.underlying308
 a64:=Tryz.isAgg308
 z64:=Tryz.sizeOf308
 v64:=Tryz.zeroValue308 }
end Go.Proofs
namespace Go.Iv
open Go
structure Sq where
 l:List Fm
 r:List Fm
inductive Tr where
 | mk (rule:Nat) (s:Sq) (main:Fm) (term:Tm) (name:ByteArray) (sub:List Tr)
def IsSq (s:Sq)(x:IV):Prop:=∃t xs t' ys,x=.agg [.sl t xs,.sl t' ys]/\okEs t 4/\IsFms s.l xs/\okEs t' 4/\IsFms s.r ys
def IsSqs:List Sq->List IV->Prop
 | [],xs=>xs=[]
 | a::aL,xs=>∃y ys,xs=y::ys/\IsSq a y/\IsSqs aL ys
mutual
def IsTr:Tr->IV->Prop
 | .mk rule s f u n sub,x=>∃tl xl tr xr op fn ta xa tb xb v un tu xu ts xs,x=.agg [.raw (.int .u8 rule),.sl tl xl,.sl tr xr,.raw (.int .u8 op),.raw (.string fn),.sl ta xa,.sl tb xb,.raw (.bool v),.raw (.string un),.sl tu xu,.raw (.string n),.sl ts xs] /\
  rule<256/\okEs tl 4/\IsFms s.l xl/\okEs tr 4/\IsFms s.r xr/\IsFm f (.agg [.raw (.int .u8 op),.raw (.string fn),.sl ta xa,.sl tb xb])/\IsTm u (.agg [.raw (.bool v),.raw (.string un),.sl tu xu])/\okEs ts 12/\IsTrs sub xs
def IsTrs:List Tr->List IV->Prop
 | [],xs=>xs=[]
 | a::aL,xs=>∃y ys,xs=y::ys/\IsTr a y/\IsTrs aL ys
end
theorem IsTr.mk {rule:Nat}{s:Sq}{f:Fm}{u:Tm}{n:ByteArray}{sub:List Tr}{x:IV}(h:IsTr (.mk rule s f u n sub) x):∃tl xl tr xr op fn ta xa tb xb v un tu xu ts xs,x=.agg [.raw (.int .u8 rule),.sl tl xl,.sl tr xr,.raw (.int .u8 op),.raw (.string fn),.sl ta xa,.sl tb xb,.raw (.bool v),.raw (.string un),.sl tu xu,.raw (.string n),.sl ts xs] /\
  rule<256/\okEs tl 4/\IsFms s.l xl/\okEs tr 4/\IsFms s.r xr/\IsFm f (.agg [.raw (.int .u8 op),.raw (.string fn),.sl ta xa,.sl tb xb])/\IsTm u (.agg [.raw (.bool v),.raw (.string un),.sl tu xu])/\okEs ts 12/\IsTrs sub xs:=by
 simpa only[IsTr] using h
theorem IsSqs.len:∀ {aL:List Sq}{xs:List IV},IsSqs aL xs->xs.length=aL.length
 | [],xs,h=>by simp only[IsSqs] at h;subst h;rfl
 | a::aL,xs,h=>by
  simp only[IsSqs] at h;obtain⟨y,ys,rfl,_,h⟩:=h;simp[IsSqs.len h]
theorem IsSqs.get:∀ {aL:List Sq}{xs:List IV}{k:Nat}{a:Sq},IsSqs aL xs->aL[k]?=some a->∃x,xs[k]?=some x/\IsSq a x
 | [],xs,k,a,h,hk=>by simp at hk
 | b::aL,xs,k,a,h,hk=>by
  simp only[IsSqs] at h;obtain⟨y,ys,rfl,hy,h⟩:=h;cases k with
  | zero=>simp at hk;subst hk;exact⟨y,rfl,hy⟩
  | succ k=>simpa using IsSqs.get h (by simpa using hk)
theorem IsTrs.len:∀ {aL:List Tr}{xs:List IV},IsTrs aL xs->xs.length=aL.length
 | [],xs,h=>by simp only[IsTrs] at h;subst h;rfl
 | a::aL,xs,h=>by
  simp only[IsTrs] at h;obtain⟨y,ys,rfl,_,h⟩:=h;simp[IsTrs.len h]
theorem IsTrs.get:∀ {aL:List Tr}{xs:List IV}{k:Nat}{a:Tr},IsTrs aL xs->aL[k]?=some a->∃x,xs[k]?=some x/\IsTr a x
 | [],xs,k,a,h,hk=>by simp at hk
 | b::aL,xs,k,a,h,hk=>by
  simp only[IsTrs] at h;obtain⟨y,ys,rfl,hy,h⟩:=h;cases k with
  | zero=>simp at hk;subst hk;exact⟨y,rfl,hy⟩
  | succ k=>simpa using IsTrs.get h (by simpa using hk)
theorem IsTrs.append:∀ {aL bs:List Tr}{xs ys:List IV},IsTrs aL xs->IsTrs bs ys->IsTrs (aL++bs) (xs++ys)
 | [],bs,xs,ys,h,k=>by simp only[IsTrs] at h;subst h;exact k
 | a::aL,bs,xs,ys,h,k=>by
  simp only[IsTrs] at h;obtain⟨y,zs,rfl,hy,h⟩:=h;exact⟨y,zs++ys,rfl,hy,IsTrs.append h k⟩
mutual
def Tr.steps:Tr->Nat
 | .mk _ _ _ _ _ sub=>1+yZq sub
def yZq:List Tr->Nat
 | []=>0
 | a::l=>a.steps+yZq l
end
mutual
def Tr.height:Tr->Nat
 | .mk _ _ _ _ _ sub=>1+yZv sub
def yZv:List Tr->Nat
 | []=>0
 | a::l=>max a.height (yZv l)
end
mutual
def Tr.cuts:Tr->Nat
 | .mk rule _ _ _ _ sub=>(if rule=17 then 1 else 0)+zKk sub
def zKk:List Tr->Nat
 | []=>0
 | a::l=>a.cuts+zKk l
end
theorem Tr.height_le_steps:∀t:Tr,t.height<=t.steps:=by
 have key:∀k:Nat,(∀t:Tr,SizeOf.sizeOf t<k->t.height<=t.steps):=λk=>by
  induction k with
  | zero=>intro t h;omega
  | succ k ih =>
   rintro⟨rule,s,f,u,n,sub⟩ h;have:∀l:List Tr,SizeOf.sizeOf l<k+1->yZv l<=yZq l:=λl=>by
    induction l with
    | nil=>intro _;simp[yZv,yZq]
    | cons a l ihl =>
     intro hl;simp only[List.cons.sizeOf_spec] at hl;have h1:=ih a (by omega);have h2:=ihl (by omega);simp only[yZv,yZq];omega
   simp only[Tr.mk.sizeOf_spec] at h;have:=this sub (by omega);simp only[Tr.height,Tr.steps];omega
 exact λt=>key _ t (Nat.lt_succ_self _)
mutual
def Tr.walk:List Nat->Tr->List (List Nat×Tr)
 | p,t@(.mk _ _ _ _ _ sub)=>(p,t)::yZd p 0 sub
def yZd:List Nat->Nat->List Tr->List (List Nat×Tr)
 | _,_,[]=>[]
 | p,i,a::l=>a.walk (p++[i])++yZd p (i+1) l
end
def yZx (e:Tr->Nat):List (List Nat×Tr)->List Nat×Nat
 | []=>([],0)
 | (p,t)::l=>if e t=0 then yZx e l else (p,e t)
theorem yJl (e:Tr->Nat):∀l m,yZx e (l++m)=if (yZx e l).2=0 then yZx e m else yZx e l
 | [],m=>by simp[yZx]
 | (p,t)::l,m=>by
  have ih:=yJl e l m;by_cases h:e t=0
  ·simp only[List.cons_append,yZx,h,if_true,ih]
  ·simp[yZx,h]
def Fm.op:Fm->Nat
 | .mk op _ _ _=>op
def Fm.subs:Fm->List Fm
 | .mk _ _ _ sub=>sub
def Fm.nm:Fm->ByteArray
 | .mk _ n _ _=>n
def Tr.sq:Tr->Sq
 | .mk _ s _ _ _ _=>s
def Sq.plus (s m:Sq):Sq:=⟨s.l++m.l,s.r++m.r⟩
end Go.Iv
namespace Go.Proofs.Tryz
open Go Go.Iv
set_option maxRecDepth 4000
variable (gl:Nat->Option IV)
theorem zVg (v w:Bool)(n m:ByteArray)(us ws:List Tm)(x y:IV)(hx:IsTm (.mk v n us) x)(hy:IsTm (.mk w m ws) y)
  (IH:∀(t t':Tag) (xs ys:List IV),okEs t 3->okEs t' 3->IsTms us xs->IsTms ws ys->∀st,ICall prog gl 99 [.sl t xs,.sl t' ys] st (λx st'=>x=.raw (.bool (eqB us ws))/\st'=st)) (st:ISt) :
  ICall prog gl 65 [x,y] st (λr st'=>r=.raw (.bool (eqB (Tm.mk v n us) (.mk w m ws)))/\st'=st):=by
 obtain⟨tx,cx,rfl,htx,hcx⟩:=hx.mk;obtain⟨ty,cy,rfl,hty,hcy⟩:=hy.mk;refine iI func65 ?_;by_cases hv:v=w
 ·subst hv;by_cases hnm:n=m
  ·subst hnm;simp only[go_sem,zE,zA,decide_true];refine (IH tx ty cx cy htx hty hcx hcy _).mono ?_;rintro _ _ ⟨rfl,rfl⟩;simp only[go_sem,zE];refine yQ0 ⟨?_,rfl⟩;by_cases hc:us=ws
   ·subst hc;rw[yZ3.2 rfl,yZ3.2 rfl]
   ·rw[yQl.2 hc,yQl.2 (by rintro⟨⟩;exact hc rfl)]
  ·simp only[go_sem,zE,zA,dEf hnm];exact yQ0 ⟨by rw[yQl.2 (by rintro⟨⟩;exact hnm rfl)],rfl⟩
 ·simp only[go_sem,zE,zA,beq_eq_false_iff_ne.2 hv];exact yQ0 ⟨by rw[yQl.2 (by rintro⟨⟩;exact hv rfl)],rfl⟩
theorem zX3 (t t':Tag)(us ws:List Tm)(xs ys:List IV)(ht:okEs t 3)(ht':okEs t' 3)(ha:IsTms us xs)(hb:IsTms ws ys)(st:ISt) :
  ICall prog gl 99 [.sl t xs,.sl t' ys] st (λx st'=>x=.raw (.bool (eqB us ws))/\st'=st):=by
 refine iI func99 ?_;simp only[go_sem,zE,reduceCtorEq,ha.len,hb.len];intro hla hlb;refine yZn (λh=>?_) (λh=>?_)
 ·have hne:us≠ws:=by rintro rfl;simp at h
  simp only[go_sem];exact yQ0 ⟨by rw[yQl.2 hne],rfl⟩
 have hlen:us.length=ws.length:=by simp at h;omega
 refine LoopC.ctr us.length (λk fr st' ds=>us.take k=ws.take k/\fr 0=.iv (.sl t xs)/\fr 1=.iv (.sl t' ys)/\fr 5=.iv (.raw (.int .i64 k))/\st'=st/\ds=[]) ?_ ?_ ?_
 ·simp only[go_sem,zE,reduceCtorEq];rfl
 ·rintro k fr st' ds hlt ⟨hn,h0,h1,h5,rfl,rfl⟩;obtain⟨a,hka⟩:=yQ1 hlt;obtain⟨b,hkb⟩:=yQ1 (hlen▸hlt);obtain⟨x,hkx,hx⟩:=ha.get hka;obtain⟨y,hky,hy⟩:=hb.get hkb;obtain⟨v,n,cs⟩:=a;obtain⟨w,m,ds⟩:=b;have hx0:=hx;have hy0:=hy;obtain⟨tx,cx,rfl,htx,hcx⟩:=hx.mk;obtain⟨ty,cy,rfl,hty,hcy⟩:=hy.mk;have hcall:=zVg gl v w n m cs ds _ _ hx0 hy0 (λt1 t2 x1 y1 q1 q2 q3 q4 st1=>zX3 t1 t2 cs ds x1 y1 q1 q2 q3 q4 st1) st';simp only[go_sem,zE,zB,zA,reduceCtorEq,h0,h1,h5,ha.len,lt_i hlt,yQ3 ht,yQ3 ht',iNn,hkx,hky,fits];intro _;refine hcall.mono ?_;rintro _ _ ⟨rfl,rfl⟩;by_cases hc:Tm.mk v n cs=.mk w m ds
  ·simp only[go_sem,zE,reduceCtorEq,h0,h1,h5,yQc hlt (show us.length<=281474976710656 by omega),yZ3.2 hc];rw[yQ7 hka,yQ7 hkb,hn,hc]
  ·have hne:us≠ws:=by
    rintro rfl;rw[hka] at hkb;exact hc (Option.some.inj hkb)
   simp only[go_sem,yQl.2 hc];exact yQ0 ⟨by rw[yQl.2 hne],rfl⟩
 ·rintro fr st' ds ⟨hn,h0,h1,h5,rfl,rfl⟩;simp only[go_sem,zE,reduceCtorEq,h0,h5,ha.len,yQi (nLi _)];intro _;have he:us=ws:=by rw[lTl] at hn;rw[hn,hlen,lTl]
  exact yQ0 ⟨by rw[yZ3.2 he],rfl⟩
termination_by SizeOf.sizeOf us
decreasing_by exact xYp (lMg hka)
def kSF (f:Fm):Prop:=∀(g:Fm) (x y:IV) (_:IsFm f x) (_:IsFm g y) (st:ISt),ICall prog gl 64 [x,y] st (λr st'=>r=.raw (.bool (eqB f g))/\st'=st)
theorem yYq (us ws:List Fm)(IH:∀a∈us,kSF gl a)(t t':Tag)(xs ys:List IV)(ht:okEs t 4)(ht':okEs t' 4)(ha:IsFms us xs)(hb:IsFms ws ys)(st:ISt) :
  ICall prog gl 63 [.sl t xs,.sl t' ys] st (λx st'=>x=.raw (.bool (eqB us ws))/\st'=st):=by
 refine iI func63 ?_;simp only[go_sem,zE,reduceCtorEq,ha.len,hb.len];intro hla hlb;refine yZn (λh=>?_) (λh=>?_)
 ·have hne:us≠ws:=by rintro rfl;simp at h
  simp only[go_sem];exact yQ0 ⟨by rw[yQl.2 hne],rfl⟩
 have hlen:us.length=ws.length:=by simp at h;omega
 refine LoopC.ctr us.length (λk fr st' ds=>us.take k=ws.take k/\fr 0=.iv (.sl t xs)/\fr 1=.iv (.sl t' ys)/\fr 5=.iv (.raw (.int .i64 k))/\st'=st/\ds=[]) ?_ ?_ ?_
 ·simp only[go_sem,zE,reduceCtorEq];rfl
 ·rintro k fr st' ds hlt ⟨hn,h0,h1,h5,rfl,rfl⟩;obtain⟨a,hka⟩:=yQ1 hlt;obtain⟨b,hkb⟩:=yQ1 (hlen▸hlt);obtain⟨x,hkx,hx⟩:=ha.get hka;obtain⟨y,hky,hy⟩:=hb.get hkb;have hcall:=IH a (lMg hka) b x y hx hy st';obtain⟨o,n,cs,sub⟩:=a;obtain⟨o',m,ds,sub'⟩:=b;obtain⟨tx,cx,sx,dx,rfl,_⟩:=hx.mk;obtain⟨ty,cy,sy,dy,rfl,_⟩:=hy.mk;simp only[go_sem,zE,zB,zA,reduceCtorEq,h0,h1,h5,ha.len,lt_i hlt,yQ3 ht,yQ3 ht',iNn,hkx,hky,fits];intro _;refine hcall.mono ?_;rintro _ _ ⟨rfl,rfl⟩;by_cases hc:Fm.mk o n cs sub=.mk o' m ds sub'
  ·simp only[go_sem,zE,reduceCtorEq,h0,h1,h5,yQc hlt (show us.length<=281474976710656 by omega),yZ3.2 hc];rw[yQ7 hka,yQ7 hkb,hn,hc]
  ·have hne:us≠ws:=by
    rintro rfl;rw[hka] at hkb;exact hc (Option.some.inj hkb)
   simp only[go_sem,yQl.2 hc];exact yQ0 ⟨by rw[yQl.2 hne],rfl⟩
 ·rintro fr st' ds ⟨hn,h0,h1,h5,rfl,rfl⟩;simp only[go_sem,zE,reduceCtorEq,h0,h5,ha.len,yQi (nLi _)];intro _;have he:us=ws:=by rw[lTl] at hn;rw[hn,hlen,lTl]
  exact yQ0 ⟨by rw[yZ3.2 he],rfl⟩
theorem zVh (o:Nat)(n:ByteArray)(us:List Tm)(sub:List Fm)(IH:∀a∈sub,kSF gl a):kSF gl (.mk o n us sub):=by
 intro g x y hx hy st;obtain⟨o',m,ws,sub'⟩:=g;obtain⟨tx,cx,sx,dx,rfl,ho,htx,hcx,hsx,hdx⟩:=hx.mk;obtain⟨ty,cy,sy,dy,rfl,ho',hty,hcy,hsy,hdy⟩:=hy.mk;have hcall:=yYq gl sub sub' IH sx sy dx dy hsx hsy hdx hdy;refine iI func64 ?_;by_cases hv:o=o'
 ·subst hv;by_cases hnm:n=m
  ·subst hnm;simp only[go_sem,zE,zA,decide_true];refine (zX3 gl tx ty us ws cx cy htx hty hcx hcy _).mono ?_;rintro _ _ ⟨rfl,rfl⟩;by_cases hc:us=ws
   ·subst hc;simp only[go_sem,zE,zA,yZ3.2 rfl];refine (hcall _).mono ?_;rintro _ _ ⟨rfl,rfl⟩;simp only[go_sem,zE];refine yQ0 ⟨?_,rfl⟩;by_cases hd:sub=sub'
    ·subst hd;rw[yZ3.2 rfl,yZ3.2 rfl]
    ·rw[yQl.2 hd,yQl.2 (by rintro⟨⟩;exact hd rfl)]
   ·simp only[go_sem,zE,yQl.2 hc];exact yQ0 ⟨by rw[yQl.2 (by rintro⟨⟩;exact hc rfl)],rfl⟩
  ·simp only[go_sem,zE,zA,dEf hnm,decide_true];exact yQ0 ⟨by rw[yQl.2 (by rintro⟨⟩;exact hnm rfl)],rfl⟩
 ·have hv':decide ((o:Int)=(o':Int))=false:=dEf (by omega);simp only[go_sem,zE,zA,hv'];exact yQ0 ⟨by rw[yQl.2 (by rintro⟨⟩;exact hv rfl)],rfl⟩
theorem zQ3:∀(k:Nat)(f:Fm),SizeOf.sizeOf f<k->kSF gl f
 | 0,f,h=>by omega
 | k+1,.mk o n us sub,h=>zVh gl o n us sub (λa ha=>zQ3 k a (by
   have:=lSm ha;simp only[Fm.mk.sizeOf_spec] at h;omega))
theorem xJd (f:Fm):kSF gl f:=zQ3 gl _ f (Nat.lt_succ_self _)
theorem zX4 (us ws:List Fm)(t t':Tag)(xs ys:List IV)(ht:okEs t 4)(ht':okEs t' 4)(ha:IsFms us xs)(hb:IsFms ws ys)(st:ISt) :
  ICall prog gl 63 [.sl t xs,.sl t' ys] st (λx st'=>x=.raw (.bool (eqB us ws))/\st'=st):=yYq gl us ws (λa _=>xJd gl a) t t' xs ys ht ht' ha hb st
theorem xGg (a b:Sq)(x y:IV)(hx:IsSq a x)(hy:IsSq b y)(st:ISt):ICall prog gl 32 [x,y] st (λr st'=>r=.raw (.bool (eqB a b))/\st'=st):=by
 obtain⟨l,r⟩:=a;obtain⟨l',r'⟩:=b;obtain⟨t1,x1,t2,x2,rfl,h1,h2,h3,h4⟩:=hx;obtain⟨t3,x3,t4,x4,rfl,h5,h6,h7,h8⟩:=hy;refine iI func32 ?_;simp only[go_sem,zE,zA];refine (zX4 gl l l' t1 t3 x1 x3 h1 h5 h2 h6 _).mono ?_;rintro _ _ ⟨rfl,rfl⟩;by_cases hc:l=l'
 ·subst hc;simp only[go_sem,zE,zA,yZ3.2 rfl];refine (zX4 gl r r' t2 t4 x2 x4 h3 h7 h4 h8 _).mono ?_;rintro _ _ ⟨rfl,rfl⟩;simp only[go_sem,zE];refine yQ0 ⟨?_,rfl⟩;by_cases hd:r=r'
  ·subst hd;rw[yZ3.2 rfl,yZ3.2 rfl]
  ·rw[yQl.2 hd,yQl.2 (by rintro⟨⟩;exact hd rfl)]
 ·simp only[go_sem,zE,yQl.2 hc];exact yQ0 ⟨by rw[yQl.2 (by rintro⟨⟩;exact hc rfl)],rfl⟩
def yQk (l:List Nat):List IV:=l.map λ(n:Nat)=>.raw (.int .i64 (n:Int))
end Go.Proofs.Tryz
namespace Go.Proofs.Tryz
set_option maxRecDepth 4000
open Go Go.Iv Go.Sort
open Go.RowKit (Below)
variable (gl:Nat->Option IV)
theorem xG3 {ys:List Int}{l:List Nat}(h:ys.Perm (l.map λ(n:Nat)=>(n:Int))):∃m:List Nat,ys=m.map (λ(n:Nat)=>(n:Int))/\m.Perm l:=by
 refine⟨ys.map Int.toNat,?_,?_⟩
 ·rw[List.map_map];refine (List.map_id ys).symm.trans (List.map_congr_left λy hy=>?_);obtain⟨n,_,rfl⟩:=List.mem_map.1 (h.mem_iff.1 hy);rfl
 ·have:=h.map Int.toNat;rw[List.map_map] at this;have e:(Int.toNat ∘ λ(n:Nat)=>(n:Int))=id:=by funext n;rfl
  rwa [e,List.map_id] at this
theorem xZm (T:Gt gl)(l:List Nat)(rest:List IV)(b cap:Nat)(st:ISt)(hlen:l.length<=1099511627776)(hb:st b=some (.box (yQk l++rest))) :
  ICall prog gl 106 [.raw (.slice (some ⟨b,0,none⟩) l.length cap)] st
   (λr st'=>r=.tup []/\∃m:List Nat,m.Perm l/\m.Pairwise (λx y=>x<=y)/\st'=st.put b (some (.box (yQk m++rest)))):=by
 intro B X rs hg hst hv;subst hst;obtain⟨r0,rfl⟩:∃r0,rs=[r0]:=by
  match rs,hv with
  | [a],_=>exact⟨a,rfl⟩
  | [],hv=>cases hv.1
  | _::_::_,hv=>cases hv.1
 obtain rfl:=V.raw_inv (hv.2 0 r0 _ rfl rfl);obtain⟨hL,c,Ty,hh,hvl⟩:=hg.ok b _ hb;have hblk:b<X.w.heap.size:=hg.lt hb;have hcs:c.toList.length=l.length+rest.length:=by
  have:=hvl.1;rw[lLa,yQk,List.length_map] at this;exact this
 have hget:∀j,j<l.length->c[j]?=some (.int .i64 ((l[j]?.getD 0:Nat):Int)):=λj hj=>by
  obtain⟨n,hn⟩:=yQ1 hj;have h1:(yQk l++rest)[j]?=some (.raw (.int .i64 (n:Int))):=by
   rw[List.getElem?_append_left (by rw[yQk,List.length_map];exact hj),yQk,List.getElem?_map,hn];rfl
  obtain⟨r,hr,hrv⟩:=VL.get hvl h1;rw[V.raw_inv hrv,Array.getElem?_toList] at hr;rw[hr,hn];rfl
 let zs:List Int:=l.map λ(n:Nat)=>(n:Int)
 have hH:Holds (Value.int .i64) X.w b 0 zs.toArray:=by
  intro j hj;have hj':j<l.length:=by simpa[zs] using hj
  obtain⟨n,hn⟩:=yQ1 hj';refine⟨?_,?_⟩
  ·rw[Nat.zero_add,yQw hh,Array.getElem?_toList,hget j hj',hn];have:(zs.toArray[j]!)=(n:Int):=by
    rw[getElem!_pos zs.toArray j hj];simp only[zs,List.getElem_toArray,List.getElem_map];rw[(lGs hn).2]
   rw[this];rfl
  ·simp only[World.frozen?,hh];simp
 have hcon:=AnyM.slices_Sort_int Tryz.sortIL b 0 cap zs X.w hH hblk (by simp[zs];omega);have harr:(⟨[.slice (some ⟨b,0,none⟩) l.length cap]⟩:Array Value)=#[.slice (some ⟨b,0,none⟩) zs.length cap]:=by simp[zs]
 rw[harr];refine Calls.mono hcon ?_;rintro e w' ⟨rfl,n,os,rfl⟩;obtain⟨m,hm1,hm2⟩:=xG3 (l:=l) (List.mergeSort_perm zs λx y=>decide (x<=y));have hsrt:m.Pairwise (λx y=>x<=y):=by
  have:=List.pairwise_mergeSort (le:=λx y:Int=>decide (x<=y)) (λa b c h1 h2=>by simp at h1 h2 ⊢;omega) (λa b=>by simp;omega) zs;rw[hm1,List.pairwise_map] at this;exact this.imp λh=>by simpa using h
 have hml:m.length=l.length:=hm2.length_eq
 let cs':Array Value:=putCells (Value.int .i64) 0 (zs.mergeSort λx y=>decide (x<=y)).toArray c
 have hsz:cs'.size=c.size:=by simp[cs',putCells]
 have hcl:cs'.toList=(m.map λ(n:Nat)=>Value.int .i64 (n:Int))++c.toList.drop l.length:=by
  apply List.ext_getElem?;intro i;have hzl:(zs.mergeSort λx y=>decide (x<=y)).toArray.size=l.length:=by simp[zs]
  show (putCells (Value.int .i64) 0 _ c).toList[i]?=_;unfold putCells;rw[Array.getElem?_toList,Array.getElem?_mapIdx];by_cases hi:i<l.length
  ·rw[List.getElem?_append_left (by rw[List.length_map,hml];exact hi),List.getElem?_map];have hic:i<c.size:=by rw[<- Array.length_toList];omega
   rw[Array.getElem?_eq_getElem hic];simp only[Option.map_some,Nat.zero_add,Nat.zero_le,true_and,Nat.sub_zero];rw[if_pos (by omega),hm1];have hmi:i<m.length:=by omega
   rw[List.getElem?_eq_getElem hmi];simp only[Option.map_some];rw[getElem!_pos _ i (by simpa using hmi)];simp
  ·rw[List.getElem?_append_right (by rw[List.length_map,hml];omega),List.getElem?_drop,List.length_map,hml,Array.getElem?_toList];rw[show l.length+(i-l.length)=i by omega];cases hc:c[i]? with
   | none=>rfl
   | some v =>
    simp only[Option.map_some,Nat.zero_add,Nat.zero_le,true_and];rw[if_neg (by omega)]
 have hkeep:∀i,i<X.L b->cs'[i]?=c[i]?:=λi hi=>by rw[hL] at hi;omega
 have hnew:VL B X.L X.w cs'.toList (yQk m++rest):=by
  rw[hcl];refine VL.append ⟨by simp[yQk],λi r x hr hx=>?_⟩ ?_
  ·rw[yQk,List.getElem?_map] at hx;rw[List.getElem?_map] at hr;cases hq:m[i]? with
   | none=>rw[hq] at hr;cases hr
   | some k=>rw[hq] at hr hx;cases hr;cases hx;exact .raw _ trivial
  ·have:=hvl.drop l.length
   rwa [List.drop_left' (by rw[yQk,List.length_map])] at this
 have hrow:=hg.row (cs':=cs') (n:=0) (so:=some (.box (yQk m++rest))) hh hsz (by omega) hkeep (λi hi=>by
  cases hi;refine⟨by simp[WS.row],_,_,setRow_heap X.w b c cs' Ty (0,0) hh,?_⟩;exact⟨hnew.1,λi r x hr hx=>zQy hh hsz (by omega) hkeep (hnew.2 i r x hr hx)⟩)
 have hxr:Ext X (X.row b cs' 0 (some (.box (yQk m++rest)))):=(Ext.refl X).row hh hsz (by omega) hkeep (.inr (by rw[hb];simp));have hw:(putRow (Value.int .i64) (Sort.ahead X.w n) b 0 (zs.mergeSort λx y=>decide (x<=y)).toArray)=(X.w.setRow b cs').drewN n:=by
  unfold putRow mapBlock World.setRow Sort.ahead World.drewN;simp only;congr 1;apply Array.ext_getElem?;intro j;by_cases hj:j=b
  ·subst hj;rw[Array.getElem?_modify,if_pos rfl,hh];have:=setRow_heap X.w j c cs' Ty (0,0) hh;unfold World.setRow at this;rw[this];rfl
  ·have:=setRow_other X.w b j cs' hj;unfold World.setRow at this;rw[this,Array.getElem?_modify,if_neg (λh=>hj h.symm)]
 have hb2:Below (X.row b cs' 0 (some (.box (yQk m++rest)))).w.heap.size (X.row b cs' 0 (some (.box (yQk m++rest)))).w (grow ((X.row b cs' 0 (some (.box (yQk m++rest)))).w.drewN n) os):=⟨rfl,rfl,rfl,by simp[grow,World.drewN],λj hj=>by
  show ((X.row b cs' 0 (some (.box (yQk m++rest)))).w.heap++os)[j]?=_;rw[Array.getElem?_append_left hj]⟩
 rw[hw];exact⟨_,rfl,{ X.row b cs' 0 (some (.box (yQk m++rest))) with w:=grow ((X.row b cs' 0 (some (.box (yQk m++rest)))).w.drewN n) os },.tup [],rfl,zZm hrow hb2 T.some,hxr.trans (yV4 hrow hb2),.tup [] [] rfl (λi r c h=>by simp at h),rfl,m,hm2,hsrt,rfl⟩
theorem zX7 (t:Tag)(ht:t.cap=.nil)(st:ISt):ICall prog gl 106 [.sl t []] st (λr st'=>r=.tup []/\st'=st):=by
 intro B X rs hg hst hv;obtain⟨r0,rfl⟩:∃r0,rs=[r0]:=by
  match rs,hv with
  | [a],_=>exact⟨a,rfl⟩
  | [],hv=>cases hv.1
  | _::_::_,hv=>cases hv.1
 obtain⟨p,cap,rfl⟩:∃p cap,r0=.slice p 0 cap:=by
  have:=hv.2 0 r0 _ rfl rfl;obtain⟨a,cap,_,_,rfl,_⟩:=V.sl_inv this;exact⟨a,cap,rfl⟩
 refine Calls.mono (AnyM.slices_Sort_int_none Tryz.sortIL p cap X.w) ?_;rintro e w' ⟨rfl,rfl⟩;exact⟨_,rfl,X,.tup [],rfl,hg,Ext.refl X,.tup [] [] rfl (λi r c h=>by simp at h),rfl,hst⟩
end Go.Proofs.Tryz
namespace Go.Iv
open Go
section
variable {P:Program}{gl:Nat->Option IV}{f:FuncId}{args args':List IV}{st:ISt}
theorem wZb {X X':WS}{g:Nat}{o:IObj}(h:Ext X X')(h0:X.st g=none)(h1:X'.st g=some o):X.w.heap.size<=g:=by
 by_cases hlt:g<X.w.heap.size
 ·have:=h.dom g hlt h0;grind
 ·omega
theorem zXl {X':WS}{S:ISt}{g:Nat}{cs:List IV}(h0:S g=none)(hst':X'.st=S.put g (some (.box cs))):LendOk X'.st (ISt.put (λ_=>none) g (some (.box cs))) S:=by
 refine⟨λb o hb=>?_,λb o hb=>?_,λb cs' hb=>?_⟩
 ·rw[ISt.put_apply] at hb;split at hb
  ·rename_i hbg;subst hbg;cases hb;rw[hst'];exact ISt.put_same ..
  ·cases hb
 ·rw[hst',ISt.put_apply];grind
 ·rw[ISt.put_apply] at hb;grind
theorem wZa {C:Cx}{X':WS}{S:ISt}{g cap es:Nat}{cs zs:List IV}(h2:Good C X')(h0:S g=none)(hst':X'.st=S.put g (some (.box cs)))(hB:C.B<=g)(hn:zs.length<=140737488355328)(hcap:zs.length<=cap)(hroom:cap*es<=cs.length)
  (htk:cs.take (zs.length*es)=zs.flatMap IV.cells) (hz:∀z∈zs,z.cells.length=es):C.v (X'.lendS (ISt.put (λ_=>none) g (some (.box cs))) S) (.slice (some ⟨g,0,none⟩) zs.length cap) (.sl ⟨true,.app g,es⟩ zs):=by
 have hgs:X'.st g=some (.box cs):=by rw[hst'];exact ISt.put_same ..
 have hex:=h2.lendS_ext (zXl h0 hst');have hs1:(ISt.put (λ_=>none) g (some (.box cs))) g=some (.box cs):=ISt.put_same ..;obtain⟨hL0,c,T,hh,hvl⟩:=h2.ok g _ hgs;have hcl:c.toList.length=cs.length:=hvl.1;have hflat:(zs.flatMap IV.cells).length=zs.length*es:=yQn zs hz;have hle:zs.length*es<=cs.length:=Nat.le_trans (Nat.mul_le_mul_right _ hcap) hroom;refine V.sl (some ⟨g,0,none⟩) cap ⟨true,.app g,es⟩ zs T (c.toList.take (zs.length*es)) rfl hn hcap hz ?_ (λg' hg'=>?_) (λ_ ad had=>?_) (λ_=>⟨_,rfl,rfl,?_,λi r hr=>?_⟩) λi r z hr hz=>?_
 ·grind
 ·cases hg';refine⟨T,c.size,?_,?_⟩
  ·simp[shq,WS.lendS,hh]
  ·grind
 ·cases had;refine⟨hB,by simp,?_⟩;simp[ety,shq,WS.lendS,hh]
 ·show 0+(c.toList.take (zs.length*es)).length<=(X'.lendS _ S).L g;rw[zGc hs1,List.length_take];omega
 ·show X'.w.cell? _=_;rw[Nat.zero_add,yQw hh];grind
 ·rw[<- htk,List.getElem?_take] at hz;rw[List.getElem?_take] at hr;split at hr
  ·rename_i hi;rw[if_pos hi] at hz;exact hex.v (hvl.2 i r z hr hz)
  ·cases hr
theorem ICall.fixN {K:IV->ISt->Prop}(h:ICall P gl f args st (λy st'=>K y st'\/∃g n cap cs es zs v,st g=none/\y=.tup [.raw (.slice (some ⟨g,0,none⟩) n cap),.raw v]/\st'=st.put g (some (.box cs)) /\
   zs.length=n/\n<=140737488355328/\n<=cap/\cap*es<=cs.length/\cs.take (n*es)=zs.flatMap IV.cells/\(∀z∈zs,z.cells.length=es)/\K (.tup [.sl ⟨true,.app g,es⟩ zs,.raw v]) st)) :
  ICall P gl f args st K:=by
 intro B X rs hg hst hv;subst hst;refine (h B X rs hg rfl hv).mono ?_;rintro e w' ⟨v,rfl,X',y,rfl,h2,h3,h4,hK|⟨g,n,cap,cs,es,zs,u,h0,rfl,hst',rfl,hn,hcap,hroom,htk,hz,hK⟩⟩
 ·exact⟨v,rfl,X',y,rfl,h2,h3,h4,hK⟩
 have hgn:=wZb h3 h0 (by rw[hst'];exact ISt.put_same ..);have hk:=zXl h0 hst';refine⟨v,rfl,X'.lendS _ X.st,_,rfl,h2.lendS hk,h3.trans (h2.lendS_ext hk),?_,hK⟩;obtain⟨rr,rfl,hr⟩:=V.tup_inv h4;refine .tup rr _ (by rw[hr.1];rfl) λi r x h1 h2x=>?_
 match i,h1,h2x with
 | 1,h1,h2x =>
  cases h2x;exact (h2.lendS_ext hk).v (hr.2 1 r _ h1 rfl)
 | 0,h1,h2x =>
  cases h2x;obtain rfl:=V.raw_inv (hr.2 0 r _ h1 rfl);exact wZa h2 h0 hst' (Nat.le_trans hg.B hgn) hn hcap hroom htk hz
theorem ICall.fixL {K:IV->ISt->Prop}(h:ICall P gl f args st (λy st'=>K y st'\/∃g es zs,st g=none/\y=.raw (.slice (some ⟨g,0,none⟩) zs.length zs.length)/\st'=st.put g (some (.box (zs.flatMap IV.cells))) /\
   zs.length<=140737488355328/\(∀z∈zs,z.cells.length=es)/\K (.sl ⟨true,.app g,es⟩ zs) st)):ICall P gl f args st K:=by
 intro B X rs hg hst hv;subst hst;refine (h B X rs hg rfl hv).mono ?_;rintro e w' ⟨v,rfl,X',y,rfl,h2,h3,h4,hK|⟨g,es,zs,h0,rfl,hst',hn,hz,hK⟩⟩
 ·exact⟨v,rfl,X',y,rfl,h2,h3,h4,hK⟩
 have hgn:=wZb h3 h0 (by rw[hst'];exact ISt.put_same ..);have hk:=zXl h0 hst';have hfl:=yQn zs hz;obtain rfl:=V.raw_inv h4;exact⟨_,rfl,X'.lendS _ X.st,_,rfl,h2.lendS hk,h3.trans (h2.lendS_ext hk),wZa h2 h0 hst' (Nat.le_trans hg.B hgn) hn (Nat.le_refl _) (by rw[hfl];exact Nat.le_refl _) (by rw[<- hfl,lTl]) hz,hK⟩
end
end Go.Iv
namespace Go.Proofs.Tryz
open Go Go.Iv
set_option maxRecDepth 4000
variable (gl:Nat->Option IV)
theorem IsFmD.aggs {f:Fm}{r:IV}(h:IsFmD f r):∃o n t x t' x',r=.agg [.raw (.int .u8 o),.raw (.string n),.sl t x,.sl t' x']:=by
 obtain⟨o,n,us,sub⟩:=f;obtain⟨t,xs,t',ys,rfl,_⟩:=h.mk;exact⟨_,_,_,_,_,_,rfl⟩
end Go.Proofs.Tryz
namespace Go.Proofs.Tryz
open Go Go.Iv Go.Shelf Go.RowKit
set_option maxRecDepth 4000
variable (gl:Nat->Option IV)
theorem zZr (a b:ByteArray)(w:World):Calls prog 165 #[.string a,.string b] w λe w'=>e=.returned (.int .i64 (Lib.compareBytes a.data.toList b.data.toList))/\w'=w:=by
 have t9:prog.underlying 9=some .string:=by kernel_rfl
 have a9:∀w,(isAgg 9).run prog w=.ok false w:=run_isAgg_plain t9 rfl;have t3:prog.underlying 3=some (.int .i64):=by kernel_rfl
 have a3:∀w,(isAgg 3).run prog w=.ok false w:=run_isAgg_plain t3 rfl
 go_enter func165,(show _=_ from rfl)
 go_wp2
 rw[run_callFunc_extern func207 (by kernel_rfl) (by kernel_rfl) (by kernel_rfl) (e:=Extern.BytealgCompare.compare) (by kernel_rfl),Lib.run_compareString];simp only[Result.andThen];rw[Oper.upon_value]
 go_wp2
 go_ret
 exact⟨rfl,rfl⟩
theorem yYw:∀x y:List UInt8,Lib.compareBytes x y=if Op.bytesLess x y=true then -1 else if Op.bytesLess y x=true then 1 else 0
 | [],[]=>by simp[Lib.compareBytes,Op.bytesLess]
 | [],_::_=>by simp[Lib.compareBytes,Op.bytesLess]
 | _::_,[]=>by simp[Lib.compareBytes,Op.bytesLess]
 | a::x,b::y=>by
  have ih:=yYw x y;unfold Lib.compareBytes Op.bytesLess;by_cases h1:a<b
  ·have h2:¬ b<a:=λh=>UInt8.lt_irrefl _ (UInt8.lt_trans h1 h);simp[h1]
  ·by_cases h2:b<a
   ·have h3:a≠b:=by rintro rfl;exact UInt8.lt_irrefl _ h2
    simp[h1,h2,h3]
   ·have:a=b:=UInt8.le_antisymm (UInt8.not_lt.1 h2) (UInt8.not_lt.1 h1);subst this;simp[h1,ih]
theorem zV5 (a b:ByteArray)(st:ISt):ICall prog gl 165 [.raw (.string a),.raw (.string b)] st (λr st'=>r=.raw (.int .i64 (cmpB a b))/\st'=st):=by
 intro B X rs hg hst hv;have hr:rs=[.string a,.string b]:=by
  match rs,hv with
  | [r,r'],hv=>rw[V.raw_inv (hv.2 0 r _ rfl rfl),V.raw_inv (hv.2 1 r' _ rfl rfl)]
  | [],hv=>cases hv.1
  | [_],hv=>cases hv.1
  | _::_::_::_,hv=>cases hv.1
 subst hr;refine Calls.mono (zZr a b X.w) ?_;rintro e w' ⟨rfl,rfl⟩;refine⟨_,rfl,X,.raw (.int .i64 (cmpB a b)),rfl,hg,Ext.refl X,?_,rfl,hst⟩;rw[yYw];exact .raw _ trivial
theorem zV4 (a b:ByteArray)(st:ISt):ICall prog gl 123 [.raw (.string a),.raw (.string b)] st (λr st'=>r=.raw (.int .i64 (cmpB a b))/\st'=st):=by
 refine iI func123 ?_;simp only[go_sem,zE,zA,reduceCtorEq];refine (zV5 gl a b _).mono ?_;rintro _ _ ⟨rfl,rfl⟩;simp only[go_sem];exact yQ0 ⟨rfl,rfl⟩
theorem zVp (a:Nat)(st:ISt):ICall prog gl 164 [.raw (.int .u8 a)] st (λr st'=>r=.raw (.bool false)/\st'=st):=by
 refine iI func164 ?_;simp only[go_sem,zE,reduceCtorEq];exact yQ0 ⟨rfl,rfl⟩
theorem xYc (a b:Nat)(st:ISt):ICall prog gl 122 [.raw (.int .u8 a),.raw (.int .u8 b)] st (λr st'=>r=.raw (.int .i64 (cmpN a b))/\st'=st):=by
 refine iI func122 ?_;simp only[go_sem,zA,reduceCtorEq];refine (zVp gl a _).mono ?_;rintro _ _ ⟨rfl,rfl⟩;simp only[go_sem,zE,zA];refine (zVp gl b _).mono ?_;rintro _ _ ⟨rfl,rfl⟩;unfold cmpN;by_cases h1:a<b
 ·simp only[go_sem,zE,reduceCtorEq,lt_i h1];exact yQ0 ⟨by rw[if_pos h1],rfl⟩
 ·by_cases h2:b<a
  ·simp only[go_sem,zE,reduceCtorEq,yQi h1,lt_i h2];exact yQ0 ⟨by rw[if_neg h1,if_pos h2],rfl⟩
  ·simp only[go_sem,zE,reduceCtorEq,yQi h1,yQi h2];exact yQ0 ⟨by rw[if_neg h1,if_neg h2],rfl⟩
theorem xVy (a:Nat)(st:ISt):ICall prog gl 134 [.raw (.int .i64 a)] st (λr st'=>r=.raw (.bool false)/\st'=st):=by
 refine iI func134 ?_;simp only[go_sem,zE,reduceCtorEq];exact yQ0 ⟨rfl,rfl⟩
theorem zGh (a b:Nat)(st:ISt):ICall prog gl 142 [.raw (.int .i64 a),.raw (.int .i64 b)] st (λr st'=>r=.raw (.int .i64 (cmpN a b))/\st'=st):=by
 refine iI func142 ?_;simp only[go_sem,zA,reduceCtorEq];refine (xVy gl a _).mono ?_;rintro _ _ ⟨rfl,rfl⟩;simp only[go_sem,zE,zA];refine (xVy gl b _).mono ?_;rintro _ _ ⟨rfl,rfl⟩;unfold cmpN;by_cases h1:a<b
 ·simp only[go_sem,zE,reduceCtorEq,lt_i h1];exact yQ0 ⟨by rw[if_pos h1],rfl⟩
 ·by_cases h2:b<a
  ·simp only[go_sem,zE,reduceCtorEq,yQi h1,lt_i h2];exact yQ0 ⟨by rw[if_neg h1,if_pos h2],rfl⟩
  ·simp only[go_sem,zE,reduceCtorEq,yQi h1,yQi h2];exact yQ0 ⟨by rw[if_neg h1,if_neg h2],rfl⟩
theorem wUd {t:Tm}{x:IV}(h:IsTm t x):∃v n tg xs,x=.agg [.raw (.bool v),.raw (.string n),.sl tg xs]:=by
 obtain⟨v,n,us⟩:=t;obtain⟨tg,xs,rfl,_⟩:=h.mk;exact⟨_,_,_,_,rfl⟩
theorem zQ0 {α:Type}{f:α->α->Int}{g:List α->List α->Int}(g0:g [] []=0)(g1:∀a b l m,g (a::l) (b::m)=lexI (f a b) (g l m)):∀(l m l' m':List α),l.length=m.length->g (l++l') (m++m')=lexI (g l m) (g l' m')
 | [],[],l',m',_=>by rw[g0];simp[lexI]
 | a::l,b::m,l',m',h=>by
  rw[List.cons_append,List.cons_append,g1,g1,zQ0 g0 g1 l m l' m' (by simpa using h)];unfold lexI;by_cases h1:f a b=0
  ·simp[h1]
  ·simp[h1]
 | [],_::_,_,_,h=>by simp at h
 | _::_,[],_,_,h=>by simp at h
theorem i0 (x:Int)(h:x=0):decide (x=0)=true:=dEt h
theorem i1 (x:Int)(h:¬ x=0):decide (x=0)=false:=dEf h
def CmpT (a:Tm):Prop:=∀(b:Tm) (x y:IV) (_:IsTm a x) (_:IsTm b y) (st:ISt),ICall prog gl 125 [x,y] st (λr st'=>r=.raw (.int .i64 (yWa a b))/\st'=st)
def CmpF (a:Fm):Prop:=∀(b:Fm) (x y:IV) (_:IsFm a x) (_:IsFm b y) (st:ISt),ICall prog gl 91 [x,y] st (λr st'=>r=.raw (.int .i64 (yZ6 a b))/\st'=st)
theorem xWt (us:List Tm)(IH:∀a∈us,CmpT gl a)(ws:List Tm)(t t':Tag)(xs ys:List IV)(ht:okEs t 3)(ht':okEs t' 3)(ha:IsTms us xs)(hb:IsTms ws ys)(st:ISt) :
  ICall prog gl 124 [.sl t xs,.sl t' ys,.fn (.func 125) [] []] st (λr st'=>r=.raw (.int .i64 (lenL yJp us ws))/\st'=st):=by
 refine iI func124 ?_;simp only[go_sem,zE,zA,reduceCtorEq,ha.len,hb.len];intro hla hlb;refine (zGh gl us.length ws.length _).mono ?_;rintro _ st ⟨rfl,rfl⟩;unfold lenL;by_cases h0:cmpN us.length ws.length=0
 ·have hlen:=yX7.1 h0;simp only[go_sem,reduceCtorEq,i0 _ h0,ha.len];intro _;refine LoopC.ctr us.length (λk fr st' ds=>yJp (us.take k) (ws.take k)=0/\fr 0=.iv (.sl t xs)/\fr 1=.iv (.sl t' ys)/\fr 2=.iv (.fn (.func 125) [] [])/\fr 19=.iv (.raw (.int .i64 us.length))/\fr 20=.iv (.raw (.int .i64 k))/\st'=st/\ds=[]) ?_ ?_ ?_
  ·simp only[go_sem,zE,reduceCtorEq];exact⟨yKc,rfl⟩
  ·rintro k fr st1 _ hlt ⟨hn,f0,f1,f2,f19,f20,rfl,rfl⟩;obtain⟨a,hka⟩:=yQ1 hlt;obtain⟨b,hkb⟩:=yQ1 (l:=ws) (k:=k) (by omega);obtain⟨x,hkx,hx⟩:=ha.get hka;obtain⟨y,hky,hy⟩:=hb.get hkb;have hcall:=IH a (lMg hka) b x y hx hy st1;have htl:(us.take k).length=(ws.take k).length:=by rw[List.length_take,List.length_take];omega
   obtain⟨x1,x2,x3,x4,rfl⟩:=wUd hx;obtain⟨y1,y2,y3,y4,rfl⟩:=wUd hy;simp only[go_sem,zE,zB,zA,reduceCtorEq,f0,f1,f2,f19,f20,lt_i hlt,yQ3 ht,yQ3 ht',iNn,hkx,hky,fits];refine hcall.mono ?_;rintro _ _ ⟨rfl,rfl⟩;by_cases hc:yWa a b=0
   ·simp only[go_sem,zE,reduceCtorEq,i0 _ hc,f0,f1,f2,f19,f20,yQc hlt (show us.length<=281474976710656 by omega)];rw[yQ7 hka,yQ7 hkb,zQ0 yKc yKb _ _ _ _ htl,hn,yKb,yKc,hc];simp[lexI]
   ·simp only[go_sem,zE,i1 _ hc];refine yQ0 ⟨?_,rfl⟩;rw[h0];have h2:yJp us ws=yWa a b:=by
     conv=>lhs;rw[<- List.take_append_drop k us,<- List.take_append_drop k ws]
     rw[List.drop_eq_getElem_cons hlt,List.drop_eq_getElem_cons (show k<ws.length by omega),zQ0 yKc yKb _ _ _ _ htl,hn,yKb,(lGs hka).2,(lGs hkb).2];simp[lexI,hc]
    rw[h2];simp[lexI]
  ·rintro fr st1 _ ⟨hn,f0,f1,f2,f19,f20,rfl,rfl⟩;rw[lTl,show ws.take us.length=ws by rw[hlen,lTl]] at hn;simp only[go_sem,f19,f20,yQi (nLi _)];exact yQ0 ⟨by rw[h0,hn];simp[lexI],rfl⟩
 ·simp only[go_sem,zE,i1 _ h0];exact yQ0 ⟨by simp[lexI,h0],rfl⟩
theorem xZ7 (v:Bool)(n:ByteArray)(us:List Tm)(IH:∀a∈us,CmpT gl a):CmpT gl (.mk v n us):=by
 rintro⟨w,m,ws⟩ x y hx hy st;obtain⟨tx,cx,rfl,htx,hcx⟩:=hx.mk;obtain⟨ty,cy,rfl,hty,hcy⟩:=hy.mk;have hl:=λst=>xWt gl us IH ws tx ty cx cy htx hty hcx hcy st;simp only[yWa];refine iI func125 ?_;by_cases hv:v=w
 ·subst hv;simp only[go_sem,zE,zA,beq_self_eq_true];refine (zV4 gl n m _).mono ?_;rintro _ _ ⟨rfl,rfl⟩;by_cases h0:cmpB n m=0
  ·simp only[go_sem,zE,zA,i0 _ h0];refine (hl _).mono ?_;rintro _ _ ⟨rfl,rfl⟩;simp only[go_sem];exact yQ0 ⟨by simp[lexI,h0,lenL],rfl⟩
  ·simp only[go_sem,zE,i1 _ h0];exact yQ0 ⟨by simp[lexI,h0],rfl⟩
 ·cases v<;>cases w<;>first|exact absurd rfl hv|skip
  all_goals
   simp only[go_sem,zE,reduceCtorEq,beq_eq_false_iff_ne.2 hv];exact yQ0 ⟨by simp,rfl⟩
theorem zKn:∀(k:Nat)(t:Tm),SizeOf.sizeOf t<k->CmpT gl t
 | 0,t,h=>by omega
 | k+1,.mk v n us,h=>xZ7 gl v n us (λa ha=>zKn k a (by
   have:=lSm ha;simp at h;omega))
theorem wJf (t:Tm):CmpT gl t:=zKn gl _ t (Nat.lt_succ_self _)
theorem wWv (us:List Fm)(IH:∀a∈us,CmpF gl a)(ws:List Fm)(t t':Tag)(xs ys:List IV)(ht:okEs t 4)(ht':okEs t' 4)(ha:IsFms us xs)(hb:IsFms ws ys)(st:ISt) :
  ICall prog gl 126 [.sl t xs,.sl t' ys,.fn (.func 91) [] []] st (λr st'=>r=.raw (.int .i64 (lenL yYy us ws))/\st'=st):=by
 refine iI func126 ?_;simp only[go_sem,zE,zA,reduceCtorEq,ha.len,hb.len];intro hla hlb;refine (zGh gl us.length ws.length _).mono ?_;rintro _ st ⟨rfl,rfl⟩;unfold lenL;by_cases h0:cmpN us.length ws.length=0
 ·have hlen:=yX7.1 h0;simp only[go_sem,reduceCtorEq,i0 _ h0,ha.len];intro _;refine LoopC.ctr us.length (λk fr st' ds=>yYy (us.take k) (ws.take k)=0/\fr 0=.iv (.sl t xs)/\fr 1=.iv (.sl t' ys)/\fr 2=.iv (.fn (.func 91) [] [])/\fr 19=.iv (.raw (.int .i64 us.length))/\fr 20=.iv (.raw (.int .i64 k))/\st'=st/\ds=[]) ?_ ?_ ?_
  ·simp only[go_sem,zE,reduceCtorEq];exact⟨yUc,rfl⟩
  ·rintro k fr st1 _ hlt ⟨hn,f0,f1,f2,f19,f20,rfl,rfl⟩;obtain⟨a,hka⟩:=yQ1 hlt;obtain⟨b,hkb⟩:=yQ1 (l:=ws) (k:=k) (by omega);obtain⟨x,hkx,hx⟩:=ha.get hka;obtain⟨y,hky,hy⟩:=hb.get hkb;have hcall:=IH a (lMg hka) b x y hx hy st1;have htl:(us.take k).length=(ws.take k).length:=by rw[List.length_take,List.length_take];omega
   obtain⟨x1,x2,x3,x4,x5,x6,rfl⟩:=hx.agg;obtain⟨y1,y2,y3,y4,y5,y6,rfl⟩:=hy.agg;simp only[go_sem,zE,zB,zA,reduceCtorEq,f0,f1,f2,f19,f20,lt_i hlt,yQ3 ht,yQ3 ht',iNn,hkx,hky,fits];refine hcall.mono ?_;rintro _ _ ⟨rfl,rfl⟩;by_cases hc:yZ6 a b=0
   ·simp only[go_sem,zE,reduceCtorEq,i0 _ hc,f0,f1,f2,f19,f20,yQc hlt (show us.length<=281474976710656 by omega)];rw[yQ7 hka,yQ7 hkb,zQ0 yUc yUb _ _ _ _ htl,hn,yUb,yUc,hc];simp[lexI]
   ·simp only[go_sem,zE,i1 _ hc];refine yQ0 ⟨?_,rfl⟩;rw[h0];have h2:yYy us ws=yZ6 a b:=by
     conv=>lhs;rw[<- List.take_append_drop k us,<- List.take_append_drop k ws]
     rw[List.drop_eq_getElem_cons hlt,List.drop_eq_getElem_cons (show k<ws.length by omega),zQ0 yUc yUb _ _ _ _ htl,hn,yUb,(lGs hka).2,(lGs hkb).2];simp[lexI,hc]
    rw[h2];simp[lexI]
  ·rintro fr st1 _ ⟨hn,f0,f1,f2,f19,f20,rfl,rfl⟩;rw[lTl,show ws.take us.length=ws by rw[hlen,lTl]] at hn;simp only[go_sem,f19,f20,yQi (nLi _)];exact yQ0 ⟨by rw[h0,hn];simp[lexI],rfl⟩
 ·simp only[go_sem,zE,i1 _ h0];exact yQ0 ⟨by simp[lexI,h0],rfl⟩
theorem xZ9 (o:Nat)(n:ByteArray)(us:List Tm)(sub:List Fm)(IH:∀a∈sub,CmpF gl a):CmpF gl (.mk o n us sub):=by
 rintro⟨w,m,ws,sub'⟩ x y hx hy st;obtain⟨t1,x1,t2,x2,rfl,_,e1,i1',e2,i2⟩:=hx.mk;obtain⟨t3,x3,t4,x4,rfl,_,e3,i3,e4,i4⟩:=hy.mk;have hl1:=λst=>xWt gl us (λa _=>wJf gl a) ws t1 t3 x1 x3 e1 e3 i1' i3 st;have hl2:=λst=>wWv gl sub IH sub' t2 t4 x2 x4 e2 e4 i2 i4 st;simp only[yZ6];refine iI func91 ?_;simp only[go_sem,zE,zA];refine (xYc gl o w _).mono ?_;rintro _ _ ⟨rfl,rfl⟩;by_cases h0:cmpN o w=0
 ·simp only[go_sem,zE,zA,i0 _ h0];refine (zV4 gl n m _).mono ?_;rintro _ _ ⟨rfl,rfl⟩;by_cases h1:cmpB n m=0
  ·simp only[go_sem,zE,zA,i0 _ h1];refine (hl1 _).mono ?_;rintro _ _ ⟨rfl,rfl⟩;by_cases h2:lenL yJp us ws=0
   ·simp only[go_sem,zE,zA,i0 _ h2];refine (hl2 _).mono ?_;rintro _ _ ⟨rfl,rfl⟩;simp only[go_sem];refine yQ0 ⟨?_,rfl⟩;unfold lenL at h2 ⊢;rw[h0,h1,h2];simp[lexI]
   ·simp only[go_sem,zE,i1 _ h2];refine yQ0 ⟨?_,rfl⟩;unfold lenL at h2 ⊢;rw[h0,h1];generalize lexI (cmpN us.length ws.length) (yJp us ws)=q at h2 ⊢;simp[lexI,h2]
  ·simp only[go_sem,zE,i1 _ h1];exact yQ0 ⟨by rw[h0];simp[lexI,h1],rfl⟩
 ·simp only[go_sem,zE,i1 _ h0];exact yQ0 ⟨by simp[lexI,h0],rfl⟩
theorem zKo:∀(k:Nat)(t:Fm),SizeOf.sizeOf t<k->CmpF gl t
 | 0,t,h=>by omega
 | k+1,.mk o n us sub,h=>xZ9 gl o n us sub (λa ha=>zKo k a (by
   have:=lSm ha;simp at h;omega))
theorem zQg (t:Fm):CmpF gl t:=zKo gl _ t (Nat.lt_succ_self _)
theorem wUr (a b:Fm)(x y:IV)(hx:IsFm a x)(hy:IsFm b y)(st:ISt):ICall prog gl 93 [x,y] st (λr st'=>r=.raw (.bool (decide (yZ6 a b=0)))/\st'=st):=by
 have hc:=λst=>zQg gl a b x y hx hy st;obtain⟨x1,x2,x3,x4,x5,x6,rfl⟩:=hx.agg;obtain⟨y1,y2,y3,y4,y5,y6,rfl⟩:=hy.agg;refine iI func93 ?_;simp only[go_sem,zE,zA,zL];refine (hc _).mono ?_;rintro _ _ ⟨rfl,rfl⟩;simp only[go_sem];exact yQ0 ⟨rfl,rfl⟩
end Go.Proofs.Tryz
namespace Go.Proofs.Tryz
open Go Go.Iv
set_option maxRecDepth 4000
variable (gl:Nat->Option IV)
def sCT (us:List Tm):Prop:=∀(tg:Tag) (xs:List IV) (_:okEs tg 3) (_:IsTms us xs) (_:yQh us<=1099511627776) (st:ISt),
 ICall prog gl 75 [.sl tg xs,.fn (.func 76) [] []] st (λr st'=>∃tg' ys,r=.sl tg' ys/\okEs tg' 3/\appT us.length tg'/\IsTmsD us ys/\st'=st)
theorem zVc (v:Bool)(n:ByteArray)(us:List Tm)(IH:sCT gl us)(x:IV)(hx:IsTm (.mk v n us) x)(hs:(Tm.mk v n us).size<=1099511627776)(st:ISt) :
  ICall prog gl 76 [x] st (λr st'=>IsTmD (.mk v n us) r/\st'=st):=by
 obtain⟨tx,cx,rfl,htx,hcx⟩:=hx.mk;simp only[Tm.size] at hs;have hcall:=IH tx cx htx hcx (by omega) st;refine iI func76 ?_;simp only[go_sem,zE,zA];refine hcall.mono ?_;rintro _ _ ⟨tg',ys,rfl,he,ha,hys,rfl⟩;simp only[go_sem,zE,zA,zL,fits];exact yQ0 ⟨IsTmD.intro he ha hys,rfl⟩
theorem zJh (us:List Tm)(IH:∀v n l,Tm.mk v n l∈us->sCT gl l):sCT gl us:=by
 intro tg xs htg hxs hsz st;have hlsz:=yJv us;refine iI func75 ?_;simp only[go_sem,reduceCtorEq,hxs.len];intro _;refine yZn (λh=>?_) (λh=>?_)
 ·obtain rfl:us=[]:=List.eq_nil_of_length_eq_zero (by simpa using h);simp only[go_sem];exact yQ0 ⟨_,_,rfl,.inl rfl,.inl rfl,IsTmsD.nil,rfl⟩
 have hpos:0<us.length:=Nat.pos_of_ne_zero λh0=>by simp[h0] at h
 simp only[go_sem,reduceCtorEq,hxs.len];intro _;refine yQj ⟨iNn _,by omega,by omega⟩ λg=>yQ8 λhg=>?_;intro _;refine LoopC.ctr us.length (λk fr st' ds=>(∃tg' ys,fr 5=.iv (.sl tg' ys)/\IsTmsD (us.take k) ys/\appT us.length tg'/\own st' tg' k 3 st/\subSt st st')/\fr 1=.iv (.fn (.func 76) [] []) /\
  fr 14=.iv (.sl tg xs)/\fr 15=.iv (.raw (.int .i64 us.length))/\fr 16=.iv (.raw (.int .i64 k))/\ds=[]) ?_ ?_ ?_
 ·simp only[go_sem,zE];exact⟨⟨_,_,rfl,IsTmsD.nil,.inr ⟨hpos,rfl,g,rfl⟩,.inr (.inr ⟨g,rfl,ISt.put_same _ _ _,hg⟩),yQb (subSt.refl _) hg⟩,rfl⟩
 ·rintro k fr st1 _ hlt ⟨⟨tg',ys,f5,hys,hap,hown,hsub⟩,f1,f14,f15,f16,rfl⟩;obtain⟨a,ha⟩:=yQ1 hlt;obtain⟨x,hkx,hx⟩:=hxs.get ha;obtain⟨h1,h2⟩:=yXf ha;have hlen2:ys.length=k:=by rw[hys.len,List.length_take];omega
  obtain⟨v2,n2,m⟩:=a;have hcall:=zVc gl v2 n2 m (IH _ _ _ (lMg ha)) x hx (by omega) st1;obtain⟨tx,cx,rfl,htx,hcx⟩:=hx.mk;simp only[go_sem,zE,zB,zA,zL,f1,f5,f14,f15,f16,lt_i hlt,yQ3 htg,iNn,hkx,fits];refine hcall.mono ?_;rintro r _ ⟨hr,rfl⟩;have hn:IsTmsD (us.take (k+1)) (ys++[r]):=by
   rw[yQ7 ha];exact hys.append (IsTmsD.one hr)
  obtain⟨t3,x3,rfl,_⟩:=IsTmD.mk hr;simp only[go_sem,zE,zA,zM,zL,fits,yQ4];refine yK7 hown hlen2 hsub rfl (by simp[fits,IV.one]) (by simp only;omega) (by omega) λtg2 st4 hown2 hsub4 _ hap2=>?_;simp only[go_sem,zE,f1,f14,f15,f16,yQc hlt (show us.length<=281474976710656 by omega)];exact⟨tg2,_,rfl,hn,hap2.pos hpos,hown2,hsub4⟩
 ·rintro fr st1 _ ⟨⟨tg',ys,f5,hys,hap,hown,hsub⟩,f1,f14,f15,f16,rfl⟩;rw[lTl] at hys;simp only[go_sem,zE,f5,f15,f16,yQi (nLi _)];exact yQf (st':=st) hsub ⟨tg',ys,rfl,hown.es,hap,hys,rfl⟩
theorem yGt:∀(k:Nat)(us:List Tm),SizeOf.sizeOf us<k->sCT gl us
 | 0,f,h=>by omega
 | k+1,us,h=>zJh gl us (λv n l ha=>yGt k l (by
   have:=lSm ha;simp at this;omega))
theorem zUy (us:List Tm):sCT gl us:=yGt gl _ us (Nat.lt_succ_self _)
def sCF (f:Fm):Prop:=∀(x:IV) (_:IsFm f x) (_:f.size<=1099511627776) (st:ISt),ICall prog gl 41 [x] st (λr st'=>IsFmD f r/\st'=st)
theorem zJi (us:List Fm)(IH:∀a∈us,sCF gl a)(tg:Tag)(xs:List IV)(htg:okEs tg 4)(hxs:IsFms us xs)(hsz:yQe us<=1099511627776)(st:ISt) :
  ICall prog gl 77 [.sl tg xs,.fn (.func 41) [] []] st (λr st'=>∃tg' ys,r=.sl tg' ys/\okEs tg' 4/\appT us.length tg'/\IsFmsD us ys/\st'=st):=by
 have hlsz:=yZk us;refine iI func77 ?_;simp only[go_sem,reduceCtorEq,hxs.len];intro _;refine yZn (λh=>?_) (λh=>?_)
 ·obtain rfl:us=[]:=List.eq_nil_of_length_eq_zero (by simpa using h);simp only[go_sem];exact yQ0 ⟨_,_,rfl,.inl rfl,.inl rfl,IsFmsD.nil,rfl⟩
 have hpos:0<us.length:=Nat.pos_of_ne_zero λh0=>by simp[h0] at h
 simp only[go_sem,reduceCtorEq,hxs.len];intro _;refine yQj ⟨iNn _,by omega,by omega⟩ λg=>yQ8 λhg=>?_;intro _;refine LoopC.ctr us.length (λk fr st' ds=>(∃tg' ys,fr 5=.iv (.sl tg' ys)/\IsFmsD (us.take k) ys/\appT us.length tg'/\own st' tg' k 4 st/\subSt st st')/\fr 1=.iv (.fn (.func 41) [] []) /\
  fr 14=.iv (.sl tg xs)/\fr 15=.iv (.raw (.int .i64 us.length))/\fr 16=.iv (.raw (.int .i64 k))/\ds=[]) ?_ ?_ ?_
 ·simp only[go_sem,zE];exact⟨⟨_,_,rfl,IsFmsD.nil,.inr ⟨hpos,rfl,g,rfl⟩,.inr (.inr ⟨g,rfl,ISt.put_same _ _ _,hg⟩),yQb (subSt.refl _) hg⟩,rfl⟩
 ·rintro k fr st1 _ hlt ⟨⟨tg',ys,f5,hys,hap,hown,hsub⟩,f1,f14,f15,f16,rfl⟩;obtain⟨a,ha⟩:=yQ1 hlt;obtain⟨x,hkx,hx⟩:=hxs.get ha;obtain⟨h1,h2⟩:=yQv ha;have hlen2:ys.length=k:=by rw[hys.len,List.length_take];omega
  have hcall:=IH a (lMg ha) x hx (by omega) st1;obtain⟨o5,n5,t5,x5,t6,x6,rfl⟩:=hx.agg;simp only[go_sem,zE,zB,zA,zL,f1,f5,f14,f15,f16,lt_i hlt,yQ3 htg,iNn,hkx,fits];refine hcall.mono ?_;rintro r _ ⟨hr,rfl⟩;have hn:IsFmsD (us.take (k+1)) (ys++[r]):=by
   rw[yQ7 ha];exact hys.append (IsFmsD.one hr)
  obtain⟨o7,n7,t7,x7,t8,x8,rfl⟩:=IsFmD.aggs hr;simp only[go_sem,zE,zA,zM,zL,fits,yQ4];refine yK7 hown hlen2 hsub rfl (by simp[fits,IV.one]) (by simp only;omega) (by omega) λtg2 st4 hown2 hsub4 _ hap2=>?_;simp only[go_sem,zE,f1,f14,f15,f16,yQc hlt (show us.length<=281474976710656 by omega)];exact⟨tg2,_,rfl,hn,hap2.pos hpos,hown2,hsub4⟩
 ·rintro fr st1 _ ⟨⟨tg',ys,f5,hys,hap,hown,hsub⟩,f1,f14,f15,f16,rfl⟩;rw[lTl] at hys;simp only[go_sem,zE,f5,f15,f16,yQi (nLi _)];exact yQf (st':=st) hsub ⟨tg',ys,rfl,hown.es,hap,hys,rfl⟩
theorem xYs (o:Nat)(n:ByteArray)(us:List Tm)(sub:List Fm)(IH:∀a∈sub,sCF gl a):sCF gl (.mk o n us sub):=by
 intro x hx hs st;obtain⟨t1,x1,t2,x2,rfl,ho,ht1,hx1,ht2,hx2⟩:=hx.mk;simp only[Fm.size] at hs;have hc1:=zUy gl us t1 x1 ht1 hx1 (by omega) st;have hc2:=zJi gl sub IH t2 x2 ht2 hx2 (by omega) st;refine ICall.intro (c:=cf prog gl [] [(1,[0,1,2,3,4,5,7,8,6,9,10,11])]) func41 rfl (by show _<=14;simp) (by kernel_rfl) ?_;simp only[go_sem,zE,zA];refine hc1.mono ?_;rintro _ _ ⟨tg',ys,rfl,he,ha,hys,rfl⟩;simp only[go_sem,zE,zA];refine hc2.mono ?_;rintro _ _ ⟨tg2,ys2,rfl,he2,ha2,hys2,rfl⟩;simp only[go_sem,zE,zA,zL,fits];exact yQ0 ⟨IsFmD.intro ho he ha hys he2 ha2 hys2,rfl⟩
theorem zUx:∀(k:Nat)(f:Fm),SizeOf.sizeOf f<k->sCF gl f
 | 0,f,h=>by omega
 | k+1,.mk o n us sub,h=>xYs gl o n us sub (λa ha=>zUx k a (by
   have:=lSm ha;simp only[Fm.mk.sizeOf_spec] at h;omega))
theorem zQx (f:Fm):sCF gl f:=zUx gl _ f (Nat.lt_succ_self _)
theorem vQs (us:List Fm)(tg:Tag)(xs:List IV)(htg:okEs tg 4)(hxs:IsFms us xs)(hsz:yQe us<=1099511627776)(st:ISt) :
  ICall prog gl 218 [.sl tg xs] st (λr st'=>∃tg' ys,r=.sl tg' ys/\okEs tg' 4/\(appT us.length tg'/\tg'.fresh=true)/\IsFmsD us ys/\own st' tg' us.length 4 st/\subSt st st'):=by
 have hlsz:=yZk us;refine iI func218 ?_;simp only[go_sem,reduceCtorEq,hxs.len];intro _;refine LoopC.ctr us.length (λk fr st' ds=>(∃tg' ys,fr 3=.iv (.sl tg' ys)/\IsFmsD (us.take k) ys/\(appT k tg'/\tg'.fresh=true)/\own st' tg' k 4 st/\subSt st st') /\
  fr 6=.iv (.sl tg xs)/\fr 7=.iv (.raw (.int .i64 us.length))/\fr 8=.iv (.raw (.int .i64 k))/\ds=[]) ?_ ?_ ?_
 ·simp only[go_sem,zE];exact⟨⟨_,_,rfl,IsFmsD.nil,⟨.inl rfl,rfl⟩,own.nil _ _ _ _ _,subSt.refl _⟩,rfl⟩
 ·rintro k fr st1 _ hlt ⟨⟨tg',ys,f3,hys,hap,hown,hsub⟩,f6,f7,f8,rfl⟩;obtain⟨a,ha⟩:=yQ1 hlt;obtain⟨x,hkx,hx⟩:=hxs.get ha;obtain⟨h1,h2⟩:=yQv ha;have hlen2:ys.length=k:=by rw[hys.len,List.length_take];omega
  have hcall:=zQx gl a x hx (by omega) st1;obtain⟨o5,n5,t5,x5,t6,x6,rfl⟩:=hx.agg;simp only[go_sem,zE,zB,zA,zL,f3,f6,f7,f8,lt_i hlt,yQ3 htg,iNn,hkx,fits];refine hcall.mono ?_;rintro r _ ⟨hr,rfl⟩;have hn:IsFmsD (us.take (k+1)) (ys++[r]):=by
   rw[yQ7 ha];exact hys.append (IsFmsD.one hr)
  obtain⟨o7,n7,t7,x7,t8,x8,rfl⟩:=IsFmD.aggs hr;simp only[go_sem,zE,zA,zM,zL,fits,yQ4];refine yK7 hown hlen2 hsub rfl (by simp[fits,IV.one]) (by simp only;omega) (by omega) λtg2 st4 hown2 hsub4 _ hap2=>?_;simp only[go_sem,zE,f6,f7,f8,yQc hlt (show us.length<=281474976710656 by omega)];exact⟨tg2,_,rfl,hn,⟨hap2,by
   rcases hown2 with⟨h0,_⟩|rfl|⟨_,rfl,_⟩
   ·omega
   ·rfl
   ·rfl⟩,hown2,hsub4⟩
 ·rintro fr st1 _ ⟨⟨tg',ys,f3,hys,hap,hown,hsub⟩,f6,f7,f8,rfl⟩;rw[lTl] at hys;simp only[go_sem,zE,f3,f7,f8,yQi (nLi _)];exact yQ0 ⟨tg',ys,rfl,hown.es,hap,hys,hown,hsub⟩
end Go.Proofs.Tryz
namespace Go.Proofs.Tryz
open Go Go.Iv
mutual
def opsB (ca:Nat):Fm->Bool
 | .mk op _ us sub=>decide (1<=op)&&decide (op<=if ca=3 then 9 else 7)&&(decide (ca=3) || us.isEmpty)&&yW4 ca sub
def yW4 (ca:Nat):List Fm->Bool
 | []=>true
 | a::l=>opsB ca a&&yW4 ca l
end
def fmB (ca:Nat)(f:Fm):Bool:=f.right&&opsB ca f
def yJ8 (ca:Nat):Bool:=decide (1<=ca)&&decide (ca<=3)
noncomputable def eqF (a b:Fm):Bool:=decide (a.op=b.op)&&zQl a b
noncomputable def hasF (l:List Fm)(f:Fm):Bool:=l.any (eqF f)
noncomputable def allF (l m:List Fm):Bool:=l.all (hasF m)
noncomputable def yGx (a b:Sq):Bool:=allF a.l b.l&&allF a.r b.r
noncomputable def zZg:List Fm->Bool
 | []=>true
 | a::l=>(a::l).all λf=>eqF f a
noncomputable def yQo (ca:Nat)(s:Sq):Bool :=
 yJ8 ca&&decide (s.l.length<=64)&&decide (s.r.length<=64)&&s.l.all (fmB ca)&&s.r.all (fmB ca)&&(decide (ca≠2) || zZg s.r)
structure Rw where
 left:Bool
 right:Bool
 op:Nat
 asks:Nat
def rowK (rule:Nat):Option Rw :=
 if rule=1 then some ⟨true,true,0,0⟩ else if rule=2 then some ⟨true,false,2,0⟩ else if rule=3 then some ⟨true,false,3,0⟩ else if rule=4 then some ⟨false,true,3,0⟩
 else if rule=5 then some ⟨true,false,4,0⟩ else if rule=6 then some ⟨false,true,4,0⟩ else if rule=7 then some ⟨true,false,5,0⟩ else if rule=8 then some ⟨false,true,5,0⟩
 else if rule=9 then some ⟨true,false,6,0⟩ else if rule=10 then some ⟨false,true,6,0⟩ else if rule=11 then some ⟨true,false,7,0⟩ else if rule=12 then some ⟨false,true,7,0⟩
 else if rule=17 then some ⟨false,false,0,0⟩ else none
def rowS (ca rule:Nat):Option Rw :=
 if ca=2/\rule=18 then some ⟨false,true,5,0⟩
 else if ca=3/\rule=13 then some ⟨true,false,8,1⟩ else if ca=3/\rule=14 then some ⟨false,true,8,2⟩
 else if ca=3/\rule=15 then some ⟨true,false,9,2⟩ else if ca=3/\rule=16 then some ⟨false,true,9,1⟩ else rowK rule
def bE:ByteArray:=⟨#[]⟩
def impF (a b:Fm):Fm:=.mk 6 bE [] [a,b]
def addS (ca rule:Nat)(main a b:Fm):List Sq :=
 if rule=3 then [⟨[],[a]⟩] else if rule=4 then [⟨[a],[]⟩] else if rule=5 then [⟨[a,b],[]⟩] else if rule=6 then [⟨[],[a]⟩,⟨[],[b]⟩]
 else if rule=7 then [⟨[a],[]⟩,⟨[b],[]⟩] else if rule=8 then (if ca=2 then [⟨[],[a]⟩] else [⟨[],[a,b]⟩]) else if rule=9 then [⟨[],[a]⟩,⟨[b],[]⟩]
 else if rule=10 then [⟨[a],[b]⟩] else if rule=11 then [⟨[impF a b,impF b a],[]⟩] else if rule=12 then [⟨[a],[b]⟩,⟨[b],[a]⟩]
 else if rule=13 then [⟨[a],[]⟩] else if rule=14 then [⟨[],[a]⟩] else if rule=15 then [⟨[a],[]⟩] else if rule=16 then [⟨[],[a]⟩]
 else if rule=17 then [⟨[],[main]⟩,⟨[main],[]⟩] else if rule=18 then [⟨[],[b]⟩] else []
noncomputable def yKd (ca rule:Nat)(r:Rw)(main:Fm)(term:Tm)(name:ByteArray):List Sq×Nat :=
 if !fmB ca main || (decide (r.op≠0)&&decide (main.op≠r.op)) then ([],192)
 else
  let a:=(main.subs[0]?).getD fm0
  let b:=(main.subs[1]?).getD fm0
  if r.asks=0 then (addS ca rule main a b,0)
  else
   let t:=if r.asks=2 then .mk true name [] else term
   if !t.ok then ([],193)
   else if (yV5 a [(main.nm,t)]).2≠0 then ([],193) else (addS ca rule main (yV5 a [(main.nm,t)]).1 b,0)
noncomputable def zQ7 (s:Sq)(n:ByteArray):Bool:=s.l.any (λf=>memB (frF f) n) || s.r.any (λf=>memB (frF f) n)
noncomputable def yWi (ca:Nat)(s:Sq)(rule:Nat)(main:Fm)(term:Tm)(name:ByteArray):List Sq×Nat :=
 if !yQo ca s then ([],190)
 else match rowS ca rule with
  | none=>([],191)
  | some r =>
   if decide ((yKd ca rule r main term name).2=192) || (r.left&&!hasF s.l main) || (r.right&&!hasF s.r main) then ([],192)
   else if (yKd ca rule r main term name).2≠0 then ([],(yKd ca rule r main term name).2)
   else if decide (r.asks=2)&&zQ7 s name then ([],193)
   else ((yKd ca rule r main term name).1,0)
noncomputable def yKe (s:Sq):List Sq->List Tr->Bool
 | m::l,t::ts=>yGx t.sq (s.plus m)&&yKe s l ts
 | _,_=>true
noncomputable def yJm (ca:Nat):Tr->Nat
 | .mk rule s main term name sub =>
  if (yWi ca s rule main term name).2≠0 then (yWi ca s rule main term name).2
  else if sub.length≠(yWi ca s rule main term name).1.length then 194
  else if yKe s (yWi ca s rule main term name).1 sub then 0 else 195
noncomputable def yJq (ca:Nat)(t:Tr):List Nat×Nat :=
 if !yJ8 ca then ([],2) else if 300<t.steps then ([],5) else yZx (yJm ca) (t.walk [])
end Go.Proofs.Tryz
namespace Go.Iv
open Go
theorem ICall.give {P:Program}{gl:Nat->Option IV}{f:FuncId}{args:List IV}{st:ISt}{K:IV->ISt->Prop}(h:ICall P gl f args st (λr st'=>∃st0,subSt st0 st'/\K r st0)):ICall P gl f args st K:=by
 intro B X rs hg hst hv;refine (h B X rs hg hst hv).mono ?_;rintro e w' ⟨v,rfl,X',x,rfl,h2,h3,h4,st0,hs,hK⟩;obtain⟨hg1,he1⟩:=h2.sub hs;exact⟨v,rfl,{ X' with st:=st0 },x,rfl,hg1,h3.trans he1,he1.v h4,hK⟩
end Go.Iv
namespace Go.Proofs.Tryz
open Go Go.Iv
set_option maxRecDepth 4000
variable (gl:Nat->Option IV)
theorem yVi (us:List Fm)(tg:Tag)(xs:List IV)(htg:okEs tg 4)(hxs:IsFms us xs)(hsz:yQe us<=1099511627776)(st:ISt) :
  ICall prog gl 218 [.sl tg xs] st (λr st'=>∃tg' ys,r=.sl tg' ys/\okEs tg' 4/\appT us.length tg'/\IsFmsD us ys/\st'=st) :=
 ICall.give ((vQs gl us tg xs htg hxs hsz st).mono λr st' h=>by
  obtain⟨tg',ys,rfl,he,ha,hys,_,hsub⟩:=h;exact⟨st,hsub,tg',ys,rfl,he,ha.1,hys,rfl⟩)
def IsSqD (s:Sq)(x:IV):Prop:=∃t1 x1 t2 x2,x=.agg [.sl t1 x1,.sl t2 x2]/\okEs t1 4/\appT s.l.length t1/\IsFmsD s.l x1/\okEs t2 4/\appT s.r.length t2/\IsFmsD s.r x2
theorem IsSqD.w {s:Sq}{x:IV}(h:IsSqD s x):IsSq s x:=by
 obtain⟨t1,x1,t2,x2,rfl,e1,_,i1,e2,_,i2⟩:=h;exact⟨_,_,_,_,rfl,e1,i1.1,e2,i2.1⟩
def IsSqsD:List Sq->List IV->Prop
 | [],xs=>xs=[]
 | a::l,xs=>∃y ys,xs=y::ys/\IsSqD a y/\IsSqsD l ys
theorem IsSqsD.w:∀ {l:List Sq}{xs:List IV},IsSqsD l xs->IsSqs l xs
 | [],_,h=>h
 | a::l,_,⟨y,ys,h1,h2,h3⟩=>⟨y,ys,h1,h2.w,h3.w⟩
theorem IsSqsD.mem:∀ {l:List Sq}{xs:List IV},IsSqsD l xs->∀ {k:Nat}{x:IV},xs[k]?=some x->∃s,l[k]?=some s/\IsSqD s x
 | [],_,rfl,k,x,h=>by simp at h
 | a::l,_,⟨y,ys,rfl,h2,h3⟩,0,x,h=>by cases h;exact⟨a,rfl,h2⟩
 | a::l,_,⟨y,ys,rfl,h2,h3⟩,k+1,x,h=>IsSqsD.mem h3 (by simpa using h)
theorem IsSqD.one {s:Sq}{x:IV}(h:IsSqD s x):x.cells.length=2/\∀c∈x.cells,c.one=true:=by
 obtain⟨t1,x1,t2,x2,rfl,_⟩:=h;refine⟨rfl,λc hc=>?_⟩;simp only[IV.cells,List.mem_cons,List.not_mem_nil,or_false] at hc;rcases hc with rfl|rfl<;>rfl
theorem yZe {l:List Sq}{xs:List IV}(h:IsSqsD l xs):∀z∈xs,z.cells.length=2:=λz hz=>by
 obtain⟨k,hk⟩:=List.mem_iff_getElem?.1 hz;obtain⟨s,_,hs⟩:=h.mem hk;exact hs.one.1
theorem IsSq.two {s:Sq}{x:IV}(h:IsSq s x):∃t xs t' ys,x=.agg [.sl t xs,.sl t' ys]:=by
 obtain⟨t,xs,t',ys,rfl,_⟩:=h;exact⟨_,_,_,_,rfl⟩
theorem zX2 (us:List Fm)(tg:Tag)(xs:List IV)(htg:okEs tg 4)(hxs:IsFms us xs)(hsz:yQe us<=1099511627776)(st:ISt) :
  ICall prog gl 171 [.sl tg xs] st (λr st'=>IsSqD ⟨us,[]⟩ r/\st'=st):=by
 refine iI func171 ?_;simp only[go_sem,zA,reduceCtorEq];refine (yVi gl us tg xs htg hxs hsz _).mono ?_;rintro _ _ ⟨tg',ys,rfl,he,ha,hys,rfl⟩;simp only[go_sem,zE,zA,zL,fits];exact yQ0 ⟨⟨_,_,_,_,rfl,he,ha,hys,.inl rfl,.inl rfl,IsFmsD.nil⟩,rfl⟩
theorem yWl (us:List Fm)(tg:Tag)(xs:List IV)(htg:okEs tg 4)(hxs:IsFms us xs)(hsz:yQe us<=1099511627776)(st:ISt) :
  ICall prog gl 168 [.sl tg xs] st (λr st'=>IsSqD ⟨[],us⟩ r/\st'=st):=by
 refine iI func168 ?_;simp only[go_sem,zA,reduceCtorEq];refine (yVi gl us tg xs htg hxs hsz _).mono ?_;rintro _ _ ⟨tg',ys,rfl,he,ha,hys,rfl⟩;simp only[go_sem,zE,zA,zL,fits];exact yQ0 ⟨⟨_,_,_,_,rfl,.inl rfl,.inl rfl,IsFmsD.nil,he,ha,hys⟩,rfl⟩
theorem yX6 (x y:Operand):yJx 2 [(0,x),(1,y)]=true:=rfl
theorem vV0 (a b:Fm)(x y:IV)(hx:IsFm a x)(hy:IsFm b y)(st:ISt):ICall prog gl 220 [x,y] st (λr st'=>IsFm (impF a b) r/\st'=st):=by
 have h1:IsFms [a,b] [x,y]:=⟨_,_,rfl,hx,_,_,rfl,hy,rfl⟩
 obtain⟨o5,n5,t5,x5,t6,x6,rfl⟩:=hx.agg;obtain⟨o7,n7,t7,x7,t8,x8,rfl⟩:=hy.agg;refine iI func220 ?_;simp only[go_sem,zE,zA,zM,zL,fits,yX6];exact yQ0 ⟨⟨_,_,_,_,rfl,by decide,.inl rfl,rfl,.inr rfl,h1⟩,rfl⟩
def AddOk (id:Nat)(F:Fm->Fm->Fm->List Sq):Prop:=∀(m a b:Fm) (x y z:IV) (_:IsFm m x) (_:IsFm a y) (_:IsFm b z) (_:m.size<=1000000) (_:a.size<=1000000) (_:b.size<=1000000) (st:ISt),
 ICall prog gl id [x,y,z] st (λr st'=>∃tg xs,r=.sl tg xs/\okEs tg 2/\appT (F m a b).length tg/\IsSqsD (F m a b) xs/\st'=st)
theorem sq1 {s:Sq}{x:IV}(h:IsSqD s x):IsSqsD [s] [x]:=⟨_,_,rfl,h,rfl⟩
theorem sq2 {s s':Sq}{x x':IV}(h:IsSqD s x)(h':IsSqD s' x'):IsSqsD [s,s'] [x,x']:=⟨_,_,rfl,h,_,_,rfl,h',rfl⟩
theorem AddOk.of {id:Nat}{F:Fm->Fm->Fm->List Sq}(h:∀ {o1 o2 o3:Nat}{n1 n2 n3:ByteArray}{t1 u1 t2 u2 t3 u3:Tag}{x1 y1 x2 y2 x3 y3:List IV}(m a b:Fm)(_:IsFm m (.agg [.raw (.int .u8 o1),.raw (.string n1),.sl t1 x1,.sl u1 y1]))(_:IsFm a (.agg [.raw (.int .u8 o2),.raw (.string n2),.sl t2 x2,.sl u2 y2]))(_:IsFm b (.agg [.raw (.int .u8 o3),.raw (.string n3),.sl t3 x3,.sl u3 y3]))(_:m.size<=1000000)(_:a.size<=1000000)(_:b.size<=1000000)
  (_:IsFms [a] [.agg [.raw (.int .u8 o2),.raw (.string n2),.sl t2 x2,.sl u2 y2]]) (_:IsFms [b] [.agg [.raw (.int .u8 o3),.raw (.string n3),.sl t3 x3,.sl u3 y3]]) (_:IsFms [m] [.agg [.raw (.int .u8 o1),.raw (.string n1),.sl t1 x1,.sl u1 y1]]) (_:IsFms [a,b] [.agg [.raw (.int .u8 o2),.raw (.string n2),.sl t2 x2,.sl u2 y2],.agg [.raw (.int .u8 o3),.raw (.string n3),.sl t3 x3,.sl u3 y3]]) (st:ISt),
  ICall prog gl id [.agg [.raw (.int .u8 o1),.raw (.string n1),.sl t1 x1,.sl u1 y1],.agg [.raw (.int .u8 o2),.raw (.string n2),.sl t2 x2,.sl u2 y2],.agg [.raw (.int .u8 o3),.raw (.string n3),.sl t3 x3,.sl u3 y3]] st (λr st'=>∃tg xs,r=.sl tg xs/\okEs tg 2/\appT (F m a b).length tg/\IsSqsD (F m a b) xs/\st'=st)):AddOk gl id F:=by
 intro m a b x y z hx hy hz hm ha hb st;have hx0:=hx;have hy0:=hy;have hz0:=hz;obtain⟨o1,n1,t1,x1,t2,x2,rfl⟩:=hx.agg;obtain⟨o3,n3,t3,x3,t4,x4,rfl⟩:=hy.agg;obtain⟨o5,n5,t5,x5,t6,x6,rfl⟩:=hz.agg;exact h m a b hx0 hy0 hz0 hm ha hb (IsFms.one hy0) (IsFms.one hz0) (IsFms.one hx0) ⟨_,_,rfl,hy0,IsFms.one hz0⟩ st
theorem wK7:AddOk gl 208 (λ_ _ _=>[]):=by
 refine AddOk.of gl λm a b hx0 hy0 hz0 hm ha hb ia ib im iab st=>?_;refine iI func208 ?_;simp only[go_sem,zE];exact yQ0 ⟨_,_,rfl,.inl rfl,.inl rfl,rfl,rfl⟩
theorem wK6:AddOk gl 209 (λ_ _ _=>[]):=by
 refine AddOk.of gl λm a b hx0 hy0 hz0 hm ha hb ia ib im iab st=>?_;refine iI func209 ?_;simp only[go_sem,zE];exact yQ0 ⟨_,_,rfl,.inl rfl,.inl rfl,rfl,rfl⟩
theorem wK5:AddOk gl 210 (λm a b=>[⟨[],[a]⟩]):=by
 refine AddOk.of gl λm a b hx0 hy0 hz0 hm ha hb ia ib im iab st=>?_;refine ICall.fixL ?_;refine ICall.intro (c:=cf prog gl [10] []) func210 rfl (by show _<=11;simp) (by kernel_rfl) ?_;simp only[go_sem,zE,zA,zM,zL,fits,yQ4];refine (yWl gl _ _ _ (.inr rfl) ia (by simp only[yQe];omega) _).mono ?_;rintro r _ ⟨hr,rfl⟩;have h1:=sq1 hr;obtain⟨_,_,_,_,rfl⟩:=IsSq.two hr.w;simp only[go_sem,zA,zM,zL,fits,yQ4];refine λg=>yQ8 λhg=>?_;exact yQ0 (.inr ⟨g,2,_,hg,rfl,rfl,by simp,yZe h1,_,_,rfl,.inr rfl,.inr ⟨by simp,rfl,g,rfl⟩,h1⟩)
theorem wK4:AddOk gl 211 (λm a b=>[⟨[a],[]⟩]):=by
 refine AddOk.of gl λm a b hx0 hy0 hz0 hm ha hb ia ib im iab st=>?_;refine ICall.fixL ?_;refine ICall.intro (c:=cf prog gl [10] []) func211 rfl (by show _<=11;simp) (by kernel_rfl) ?_;simp only[go_sem,zE,zA,zM,zL,fits,yQ4];refine (zX2 gl _ _ _ (.inr rfl) ia (by simp only[yQe];omega) _).mono ?_;rintro r _ ⟨hr,rfl⟩;have h1:=sq1 hr;obtain⟨_,_,_,_,rfl⟩:=IsSq.two hr.w;simp only[go_sem,zA,zM,zL,fits,yQ4];refine λg=>yQ8 λhg=>?_;exact yQ0 (.inr ⟨g,2,_,hg,rfl,rfl,by simp,yZe h1,_,_,rfl,.inr rfl,.inr ⟨by simp,rfl,g,rfl⟩,h1⟩)
theorem wK3:AddOk gl 212 (λm a b=>[⟨[a,b],[]⟩]):=by
 refine AddOk.of gl λm a b hx0 hy0 hz0 hm ha hb ia ib im iab st=>?_;refine ICall.fixL ?_;refine ICall.intro (c:=cf prog gl [11] []) func212 rfl (by show _<=12;simp) (by kernel_rfl) ?_;simp only[go_sem,zE,zA,zM,zL,fits,yX6];refine (zX2 gl _ _ _ (.inr rfl) iab (by simp only[yQe];omega) _).mono ?_;rintro r _ ⟨hr,rfl⟩;have h1:=sq1 hr;obtain⟨_,_,_,_,rfl⟩:=IsSq.two hr.w;simp only[go_sem,zA,zM,zL,fits,yQ4];refine λg=>yQ8 λhg=>?_;exact yQ0 (.inr ⟨g,2,_,hg,rfl,rfl,by simp,yZe h1,_,_,rfl,.inr rfl,.inr ⟨by simp,rfl,g,rfl⟩,h1⟩)
theorem wK2:AddOk gl 213 (λm a b=>[⟨[],[a]⟩,⟨[],[b]⟩]):=by
 refine AddOk.of gl λm a b hx0 hy0 hz0 hm ha hb ia ib im iab st=>?_;refine ICall.fixL ?_;refine ICall.intro (c:=cf prog gl [13] [(1,[0,1,3,4,2,5,6,7])]) func213 rfl (by show _<=14;simp) (by kernel_rfl) ?_;simp only[go_sem,zE,zA,zM,zL,fits,yQ4];refine (yWl gl _ _ _ (.inr rfl) ia (by simp only[yQe];omega) _).mono ?_;rintro r _ ⟨hr,rfl⟩;have hr0:=hr;obtain⟨_,_,_,_,rfl⟩:=IsSq.two hr.w;simp only[go_sem,zE,zA];refine (yWl gl _ _ _ (.inr rfl) ib (by simp only[yQe];omega) _).mono ?_;rintro r _ ⟨hr,rfl⟩;have h1:=sq2 hr0 hr;obtain⟨_,_,_,_,rfl⟩:=IsSq.two hr.w;simp only[go_sem,zE,zA,zM,zL,fits,yX6];refine λg=>yQ8 λhg=>?_;exact yQ0 (.inr ⟨g,2,_,hg,rfl,rfl,by simp,yZe h1,_,_,rfl,.inr rfl,.inr ⟨by simp,rfl,g,rfl⟩,h1⟩)
theorem wK1:AddOk gl 214 (λm a b=>[⟨[a],[]⟩,⟨[b],[]⟩]):=by
 refine AddOk.of gl λm a b hx0 hy0 hz0 hm ha hb ia ib im iab st=>?_;refine ICall.fixL ?_;refine ICall.intro (c:=cf prog gl [13] [(1,[0,1,3,4,2,5,6,7])]) func214 rfl (by show _<=14;simp) (by kernel_rfl) ?_;simp only[go_sem,zE,zA,zM,zL,fits,yQ4];refine (zX2 gl _ _ _ (.inr rfl) ia (by simp only[yQe];omega) _).mono ?_;rintro r _ ⟨hr,rfl⟩;have hr0:=hr;obtain⟨_,_,_,_,rfl⟩:=IsSq.two hr.w;simp only[go_sem,zE,zA];refine (zX2 gl _ _ _ (.inr rfl) ib (by simp only[yQe];omega) _).mono ?_;rintro r _ ⟨hr,rfl⟩;have h1:=sq2 hr0 hr;obtain⟨_,_,_,_,rfl⟩:=IsSq.two hr.w;simp only[go_sem,zE,zA,zM,zL,fits,yX6];refine λg=>yQ8 λhg=>?_;exact yQ0 (.inr ⟨g,2,_,hg,rfl,rfl,by simp,yZe h1,_,_,rfl,.inr rfl,.inr ⟨by simp,rfl,g,rfl⟩,h1⟩)
theorem wK0:AddOk gl 215 (λm a b=>[⟨[],[a,b]⟩]):=by
 refine AddOk.of gl λm a b hx0 hy0 hz0 hm ha hb ia ib im iab st=>?_;refine ICall.fixL ?_;refine ICall.intro (c:=cf prog gl [11] []) func215 rfl (by show _<=12;simp) (by kernel_rfl) ?_;simp only[go_sem,zE,zA,zM,zL,fits,yX6];refine (yWl gl _ _ _ (.inr rfl) iab (by simp only[yQe];omega) _).mono ?_;rintro r _ ⟨hr,rfl⟩;have h1:=sq1 hr;obtain⟨_,_,_,_,rfl⟩:=IsSq.two hr.w;simp only[go_sem,zA,zM,zL,fits,yQ4];refine λg=>yQ8 λhg=>?_;exact yQ0 (.inr ⟨g,2,_,hg,rfl,rfl,by simp,yZe h1,_,_,rfl,.inr rfl,.inr ⟨by simp,rfl,g,rfl⟩,h1⟩)
theorem wJz:AddOk gl 216 (λm a b=>[⟨[],[a]⟩,⟨[b],[]⟩]):=by
 refine AddOk.of gl λm a b hx0 hy0 hz0 hm ha hb ia ib im iab st=>?_;refine ICall.fixL ?_;refine ICall.intro (c:=cf prog gl [13] [(1,[0,1,3,4,2,5,6,7])]) func216 rfl (by show _<=14;simp) (by kernel_rfl) ?_;simp only[go_sem,zE,zA,zM,zL,fits,yQ4];refine (yWl gl _ _ _ (.inr rfl) ia (by simp only[yQe];omega) _).mono ?_;rintro r _ ⟨hr,rfl⟩;have hr0:=hr;obtain⟨_,_,_,_,rfl⟩:=IsSq.two hr.w;simp only[go_sem,zE,zA];refine (zX2 gl _ _ _ (.inr rfl) ib (by simp only[yQe];omega) _).mono ?_;rintro r _ ⟨hr,rfl⟩;have h1:=sq2 hr0 hr;obtain⟨_,_,_,_,rfl⟩:=IsSq.two hr.w;simp only[go_sem,zE,zA,zM,zL,fits,yX6];refine λg=>yQ8 λhg=>?_;exact yQ0 (.inr ⟨g,2,_,hg,rfl,rfl,by simp,yZe h1,_,_,rfl,.inr rfl,.inr ⟨by simp,rfl,g,rfl⟩,h1⟩)
theorem xK5:AddOk gl 222 (λm a b=>[⟨[],[m]⟩,⟨[m],[]⟩]):=by
 refine AddOk.of gl λm a b hx0 hy0 hz0 hm ha hb ia ib im iab st=>?_;refine ICall.fixL ?_;refine ICall.intro (c:=cf prog gl [13] [(1,[0,1,3,4,2,5,6,7])]) func222 rfl (by show _<=14;simp) (by kernel_rfl) ?_;simp only[go_sem,zE,zA,zM,zL,fits,yQ4];refine (yWl gl _ _ _ (.inr rfl) im (by simp only[yQe];omega) _).mono ?_;rintro r _ ⟨hr,rfl⟩;have hr0:=hr;obtain⟨_,_,_,_,rfl⟩:=IsSq.two hr.w;simp only[go_sem,zE,zA];refine (zX2 gl _ _ _ (.inr rfl) im (by simp only[yQe];omega) _).mono ?_;rintro r _ ⟨hr,rfl⟩;have h1:=sq2 hr0 hr;obtain⟨_,_,_,_,rfl⟩:=IsSq.two hr.w;simp only[go_sem,zE,zA,zM,zL,fits,yX6];refine λg=>yQ8 λhg=>?_;exact yQ0 (.inr ⟨g,2,_,hg,rfl,rfl,by simp,yZe h1,_,_,rfl,.inr rfl,.inr ⟨by simp,rfl,g,rfl⟩,h1⟩)
theorem xK3:AddOk gl 167 (λm a b=>[⟨[],[a]⟩]):=by
 refine AddOk.of gl λm a b hx0 hy0 hz0 hm ha hb ia ib im iab st=>?_;refine ICall.fixL ?_;refine ICall.intro (c:=cf prog gl [10] []) func167 rfl (by show _<=11;simp) (by kernel_rfl) ?_;simp only[go_sem,zE,zA,zM,zL,fits,yQ4];refine (yWl gl _ _ _ (.inr rfl) ia (by simp only[yQe];omega) _).mono ?_;rintro r _ ⟨hr,rfl⟩;have h1:=sq1 hr;obtain⟨_,_,_,_,rfl⟩:=IsSq.two hr.w;simp only[go_sem,zA,zM,zL,fits,yQ4];refine λg=>yQ8 λhg=>?_;exact yQ0 (.inr ⟨g,2,_,hg,rfl,rfl,by simp,yZe h1,_,_,rfl,.inr rfl,.inr ⟨by simp,rfl,g,rfl⟩,h1⟩)
theorem xK4:AddOk gl 169 (λm a b=>[⟨[],[b]⟩]):=by
 refine AddOk.of gl λm a b hx0 hy0 hz0 hm ha hb ia ib im iab st=>?_;refine ICall.fixL ?_;refine ICall.intro (c:=cf prog gl [10] []) func169 rfl (by show _<=11;simp) (by kernel_rfl) ?_;simp only[go_sem,zE,zA,zM,zL,fits,yQ4];refine (yWl gl _ _ _ (.inr rfl) ib (by simp only[yQe];omega) _).mono ?_;rintro r _ ⟨hr,rfl⟩;have h1:=sq1 hr;obtain⟨_,_,_,_,rfl⟩:=IsSq.two hr.w;simp only[go_sem,zA,zM,zL,fits,yQ4];refine λg=>yQ8 λhg=>?_;exact yQ0 (.inr ⟨g,2,_,hg,rfl,rfl,by simp,yZe h1,_,_,rfl,.inr rfl,.inr ⟨by simp,rfl,g,rfl⟩,h1⟩)
theorem wJx:AddOk gl 170 (λm a b=>[⟨[a],[]⟩]):=by
 refine AddOk.of gl λm a b hx0 hy0 hz0 hm ha hb ia ib im iab st=>?_;refine ICall.fixL ?_;refine ICall.intro (c:=cf prog gl [10] []) func170 rfl (by show _<=11;simp) (by kernel_rfl) ?_;simp only[go_sem,zE,zA,zM,zL,fits,yQ4];refine (zX2 gl _ _ _ (.inr rfl) ia (by simp only[yQe];omega) _).mono ?_;rintro r _ ⟨hr,rfl⟩;have h1:=sq1 hr;obtain⟨_,_,_,_,rfl⟩:=IsSq.two hr.w;simp only[go_sem,zA,zM,zL,fits,yQ4];refine λg=>yQ8 λhg=>?_;exact yQ0 (.inr ⟨g,2,_,hg,rfl,rfl,by simp,yZe h1,_,_,rfl,.inr rfl,.inr ⟨by simp,rfl,g,rfl⟩,h1⟩)
theorem wJw:AddOk gl 172 (λm a b=>[⟨[],[a]⟩]):=by
 refine AddOk.of gl λm a b hx0 hy0 hz0 hm ha hb ia ib im iab st=>?_;refine ICall.fixL ?_;refine ICall.intro (c:=cf prog gl [10] []) func172 rfl (by show _<=11;simp) (by kernel_rfl) ?_;simp only[go_sem,zE,zA,zM,zL,fits,yQ4];refine (yWl gl _ _ _ (.inr rfl) ia (by simp only[yQe];omega) _).mono ?_;rintro r _ ⟨hr,rfl⟩;have h1:=sq1 hr;obtain⟨_,_,_,_,rfl⟩:=IsSq.two hr.w;simp only[go_sem,zA,zM,zL,fits,yQ4];refine λg=>yQ8 λhg=>?_;exact yQ0 (.inr ⟨g,2,_,hg,rfl,rfl,by simp,yZe h1,_,_,rfl,.inr rfl,.inr ⟨by simp,rfl,g,rfl⟩,h1⟩)
theorem xK8:AddOk gl 217 (λm a b=>[⟨[a],[b]⟩]):=by
 refine AddOk.of gl λm a b hx0 hy0 hz0 hm ha hb ia ib im iab st=>?_;refine ICall.fixL ?_;refine ICall.intro (c:=cf prog gl [14] [(1,[0,1,3,4,2,5,6,7,8])]) func217 rfl (by show _<=15;simp) (by kernel_rfl) ?_;simp only[go_sem,zE,zA,zM,zL,fits,yQ4];refine (yVi gl _ _ _ (.inr rfl) ia (by simp only[yQe];omega) _).mono ?_;rintro _ _ ⟨tg1,ys1,rfl,he1,ha1,hys1,rfl⟩;simp only[go_sem,zE,zA];refine (yVi gl _ _ _ (.inr rfl) ib (by simp only[yQe];omega) _).mono ?_;rintro _ _ ⟨tg2,ys2,rfl,he2,ha2,hys2,rfl⟩;simp only[go_sem,zE,zA,zM,zL,fits,yQ4];have h1:=sq1 (s:=⟨[a],[b]⟩) ⟨_,_,_,_,rfl,he1,ha1,hys1,he2,ha2,hys2⟩;refine λg=>yQ8 λhg=>?_;exact yQ0 (.inr ⟨g,2,_,hg,rfl,rfl,by simp,yZe h1,_,_,rfl,.inr rfl,.inr ⟨by simp,rfl,g,rfl⟩,h1⟩)
theorem xK6:AddOk gl 221 (λm a b=>[⟨[a],[b]⟩,⟨[b],[a]⟩]):=by
 refine AddOk.of gl λm a b hx0 hy0 hz0 hm ha hb ia ib im iab st=>?_;refine ICall.fixL ?_;refine ICall.intro (c:=cf prog gl [21] [(1,[0,1,3,4,7,8,10,11,2,5,6,9,12,13,14,15])]) func221 rfl (by show _<=22;simp) (by kernel_rfl) ?_;simp only[go_sem,zE,zA,zM,zL,fits,yQ4];refine (yVi gl _ _ _ (.inr rfl) ia (by simp only[yQe];omega) _).mono ?_;rintro _ _ ⟨tg1,ys1,rfl,he1,ha1,hys1,rfl⟩;simp only[go_sem,zE,zA];refine (yVi gl _ _ _ (.inr rfl) ib (by simp only[yQe];omega) _).mono ?_;rintro _ _ ⟨tg2,ys2,rfl,he2,ha2,hys2,rfl⟩;simp only[go_sem,zE,zA,zL,fits];refine (yVi gl _ _ _ (.inr rfl) ib (by simp only[yQe];omega) _).mono ?_;rintro _ _ ⟨tg3,ys3,rfl,he3,ha3,hys3,rfl⟩;simp only[go_sem,zE,zA];refine (yVi gl _ _ _ (.inr rfl) ia (by simp only[yQe];omega) _).mono ?_;rintro _ _ ⟨tg4,ys4,rfl,he4,ha4,hys4,rfl⟩;simp only[go_sem,zE,zA,zM,zL,fits,yX6];have h1:=sq2 (s:=⟨[a],[b]⟩) (s':=⟨[b],[a]⟩) ⟨_,_,_,_,rfl,he1,ha1,hys1,he2,ha2,hys2⟩ ⟨_,_,_,_,rfl,he3,ha3,hys3,he4,ha4,hys4⟩;refine λg=>yQ8 λhg=>?_;exact yQ0 (.inr ⟨g,2,_,hg,rfl,rfl,by simp,yZe h1,_,_,rfl,.inr rfl,.inr ⟨by simp,rfl,g,rfl⟩,h1⟩)
theorem xK7:AddOk gl 219 (λm a b=>[⟨[impF a b,impF b a],[]⟩]):=by
 refine AddOk.of gl λm a b hx0 hy0 hz0 hm ha hb ia ib im iab st=>?_;refine ICall.fixL ?_;refine ICall.intro (c:=cf prog gl [15] [(1,[0,1,3,4,2,5,6,7,8,9])]) func219 rfl (by show _<=16;simp) (by kernel_rfl) ?_;simp only[go_sem,zE,zA,zL];refine (vV0 gl a b _ _ hy0 hz0 _).mono ?_;rintro r _ ⟨hr,rfl⟩;have hr0:=hr;obtain⟨_,_,_,_,_,_,rfl⟩:=hr.agg;simp only[go_sem,zE,zA];refine (vV0 gl b a _ _ hz0 hy0 _).mono ?_;rintro r _ ⟨hr,rfl⟩;have hr1:IsFms [impF a b,impF b a] [_,_]:=⟨_,_,rfl,hr0,IsFms.one hr⟩
 obtain⟨_,_,_,_,_,_,rfl⟩:=hr.agg;simp only[go_sem,zE,zA,zM,zL,fits,yX6];refine (zX2 gl _ _ _ (.inr rfl) hr1 (by simp only[yQe,impF,Fm.size,yQh];omega) _).mono ?_;rintro r _ ⟨hr,rfl⟩;have h1:=sq1 hr;obtain⟨_,_,_,_,rfl⟩:=IsSq.two hr.w;simp only[go_sem,zA,zM,zL,fits,yQ4];refine λg=>yQ8 λhg=>?_;exact yQ0 (.inr ⟨g,2,_,hg,rfl,rfl,by simp,yZe h1,_,_,rfl,.inr rfl,.inr ⟨by simp,rfl,g,rfl⟩,h1⟩)
