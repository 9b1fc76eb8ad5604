/- Appending several to a slice of the call -/
import Derived.Test.YtakbihknkdpmgaaGreatDoorKA
set_option linter.all false
namespace Go.Iv
open Go
def L4 {esc:List Nat}{dst:Option Nat}{e:TypeId×Bool×Nat×Nat}{tg:Tag}{zs ys:List IV}{R:Rt}{st S0:ISt}{ds:List Dfd}{n s m:Nat}(h:own st tg n s S0)(U:zs.length=n)(hm:ys.length=m)(A:subSt S0 st)(he:e.2.2.1=s)
  (hf:ys.all (fits e.2.1 e.2.2.1)=true) (ac:(n+m)*e.2.2.2<=140737488355328) (J:n+m<=140737488355328)
  (k:∀G st',own st' G (n+m) s S0->subSt S0 st'->keepF s st st'->(appT n tg->appT (n+m) G)->R (.val (.sl G (zs++ys))) st' ds)
  (ab:gO esc dst=false:=by first|rfl|simp[gO]):appV esc dst e tg zs ys R st ds:=by
 subst U he hm;unfold appV;refine⟨hf,⟨ac,J⟩,?_⟩;have E:∀g,st g=none->∀m,subSt S0 (st.put g (some (.front m e.2.2.1)))/\keepF e.2.2.1 st (st.put g (some (.front m e.2.2.1)))/\S0 g=none:=λg D m=>by
  have h0:=j3 A D;refine⟨eA A h0,λb o O _=>?_,h0⟩;rw[ISt.put_apply];grind
 rcases h with⟨h0,hc⟩|rfl|⟨g0,rfl,h1,h2⟩
 ·have hz:zs=[]:=eG h0;subst hz;rw[hc];cases ys with
  | nil=>exact k tg st (.inl ⟨rfl,hc⟩) A (λb o O _=>O) (λ_=>.inl hc)
  | cons y ys =>
   simp only[ab,bFt,dI];intro g D;obtain⟨a1,a2,a3⟩:=E g D (y::ys).length;exact k _ _ (.inr (.inr ⟨g,rfl,by rw[b_];simp,a3⟩)) a1 a2 (λ_=>.inr ⟨by simp only[dV];omega,rfl,g,rfl⟩)
 ·refine⟨rfl,?_⟩;cases ys with
  | nil =>
   have:=k ⟨true,.full,e.2.2.1⟩ st (.inr (.inl rfl)) A (λb o O _=>O) (λh=>by rcases h with h|⟨_,_,g,h⟩<;>cases h)
   rwa [eo] at this
  | cons y ys =>
   intro g D;obtain⟨a1,a2,a3⟩:=E g D (zs.length+(y::ys).length);exact k _ _ (.inr (.inr ⟨g,rfl,b_ _ _ _,a3⟩)) a1 a2 (λ_=>.inr ⟨by simp only[dV];omega,rfl,g,rfl⟩)
 ·refine⟨rfl,h1,λg D=>?_⟩;have aa:S0 g=none:=by
   rcases D with rfl|D
   ·exact h2
   ·exact j3 A D
  refine k _ _ (.inr (.inr ⟨g,rfl,b_ _ _ _,aa⟩)) (eA (eA A h2) aa) (λb o O hn=>?_) (λh=>.inr ⟨by rcases h with h|⟨h,_⟩<;>first|cases h|omega,rfl,g,rfl⟩);have ag:b≠g0:=by
   grind
  have af:b≠g:=by
   grind
  rw[dw af,dw ag];exact O
def uz {esc:List Nat}{dst:Option Nat}{e:TypeId×Bool×Nat×Nat}{U:Tag}{zs ys:List IV}{R:Rt}{st S0:ISt}{ds:List Dfd}{n s m:Nat}(h:own st U n s S0)(G:zs.length=n)(hm:ys.length=m)(E:subSt S0 st)(he:e.2.2.1=s)
  (hf:ys.all (fits e.2.1 e.2.2.1)=true) (O:(n+m)*e.2.2.2<=140737488355328) (D:n+m<=140737488355328)
  (k:∀A st',own st' A (n+m) s S0->subSt S0 st'->keepF s st st'->R (.val (.sl A (zs++ys))) st' ds)
  (J:gO esc dst=false:=by first|rfl|simp[gO]):appV esc dst e U zs ys R st ds:=L4 h G hm E he hf O D (λA st' h1 h2 h3 _=>k A st' h1 h2 h3) J
