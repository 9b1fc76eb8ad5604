/- Appending several to a slice of the call -/
import Derived.Test.YtopmhkmegkpkdaaGreatDoorKA
set_option linter.all false
namespace Go.Iv
open Go
def w_ {esc:List Nat}{dst:Option Nat}{e:TypeId×Bool×Nat×Nat}{tg:Tag}{zs ys:List IV}{R:Rt}{st S0:ISt}{ds:List Dfd}{n s m:Nat}(h:own st tg n s S0)(aa:zs.length=n)(hm:ys.length=m)(A:subSt S0 st)(he:e.2.2.1=s)
  (hf:ys.all (fits e.2.1 e.2.2.1)=true) (ae:(n+m)*e.2.2.2<=140737488355328) (U:n+m<=140737488355328)
  (k:∀O st',own st' O (n+m) s S0->subSt S0 st'->keepF s st st'->(appT n tg->appT (n+m) O)->R (.val (.sl O (zs++ys))) st' ds)
  (ac:iz esc dst=false:=by first|rfl|simp[iz]):appV esc dst e tg zs ys R st ds:=by
 subst aa he hm;unfold appV;refine⟨hf,⟨ae,U⟩,?_⟩;have E:∀g,st g=none->∀m,subSt S0 (st.put g (some (.front m e.2.2.1)))/\keepF e.2.2.1 st (st.put g (some (.front m e.2.2.1)))/\S0 g=none:=λg D m=>by
  have h0:=nb A D;refine⟨gU A h0,λb o W _=>?_,h0⟩;rw[ISt.put_apply];grind
 rcases h with⟨h0,hc⟩|rfl|⟨g0,rfl,h1,h2⟩
 ·have hz:zs=[]:=eN h0;subst hz;rw[hc];cases ys with
  | nil=>exact k tg st (.inl ⟨rfl,hc⟩) A (λb o W _=>W) (λ_=>.inl hc)
  | cons y ys =>
   simp only[ac,bFt,dJ];intro g D;obtain⟨a1,a2,a3⟩:=E g D (y::ys).length;exact k _ _ (.inr (.inr ⟨g,rfl,by rw[cT];simp,a3⟩)) a1 a2 (λ_=>.inr ⟨by simp only[eG];omega,rfl,g,rfl⟩)
 ·refine⟨rfl,?_⟩;cases ys with
  | nil =>
   have:=k ⟨true,.full,e.2.2.1⟩ st (.inr (.inl rfl)) A (λb o W _=>W) (λh=>by rcases h with h|⟨_,_,g,h⟩<;>cases h)
   rwa [fH] at this
  | cons y ys =>
   intro g D;obtain⟨a1,a2,a3⟩:=E g D (zs.length+(y::ys).length);exact k _ _ (.inr (.inr ⟨g,rfl,cT _ _ _,a3⟩)) a1 a2 (λ_=>.inr ⟨by simp only[eG];omega,rfl,g,rfl⟩)
 ·refine⟨rfl,h1,λg D=>?_⟩;have ab:S0 g=none:=by
   rcases D with rfl|D
   ·exact h2
   ·exact nb A D
  refine k _ _ (.inr (.inr ⟨g,rfl,cT _ _ _,ab⟩)) (gU (gU A h2) ab) (λb o W hn=>?_) (λh=>.inr ⟨by rcases h with h|⟨h,_⟩<;>first|cases h|omega,rfl,g,rfl⟩);have ai:b≠g0:=by
   grind
  have ah:b≠g:=by
   grind
  rw[de ah,de ai];exact W
