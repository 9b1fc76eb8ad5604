/- Appending several to a slice of the call -/
import Derived.Test.YtabhgbojkjcfjaaGreatDoorKA
set_option linter.all false
namespace Go.Iv
open Go
theorem yUv {esc:List Nat}{dst:Option Nat}{e:TypeId×Bool×Nat×Nat}{tg:Tag}{zs ys:List IV}{R:Rt}{st S0:ISt}{ds:List Dfd}{n s m:Nat}(h:own st tg n s S0)(U:zs.length=n)(hm:ys.length=m)(A:subSt S0 st)(he:e.2.2.1=s)
  (hf:ys.all (fits e.2.1 e.2.2.1)=true) (ab:(n+m)*e.2.2.2<=140737488355328) (J:n+m<=140737488355328)
  (k:∀G st',own st' G (n+m) s S0->subSt S0 st'->keepF s st st'->(appT n tg->appT (n+m) G)->R (.val (.sl G (zs++ys))) st' ds)
  (aa:yWe esc dst=false:=by first|rfl|simp[yWe]):appV esc dst e tg zs ys R st ds:=by
 subst U he hm;unfold appV;refine⟨hf,⟨ab,J⟩,?_⟩;have F:∀g,st g=none->∀m,subSt S0 (st.put g (some (.front m e.2.2.1)))/\keepF e.2.2.1 st (st.put g (some (.front m e.2.2.1)))/\S0 g=none:=λg D m=>by
  have h0:=yVc A D;refine⟨yZ4 A h0,λb o E _=>?_,h0⟩;rw[ISt.put_apply];split
  ·rename_i O;rw[O,D] at E;cases E
  ·exact E
 rcases h with⟨h0,hc⟩|rfl|⟨g0,rfl,h1,h2⟩
 ·have hz:zs=[]:=List.eq_nil_of_length_eq_zero h0;subst hz;rw[hc];cases ys with
  | nil=>exact k tg st (.inl ⟨rfl,hc⟩) A (λb o E _=>E) (λ_=>.inl hc)
  | cons y ys =>
   simp only[aa,bFt,if_false];intro g D;obtain⟨a1,a2,a3⟩:=F g D (y::ys).length;exact k _ _ (.inr (.inr ⟨g,rfl,by rw[ISt.put_same];simp,a3⟩)) a1 a2 (λ_=>.inr ⟨by simp only[List.length_cons];omega,rfl,g,rfl⟩)
 ·refine⟨rfl,?_⟩;cases ys with
  | nil =>
   have:=k ⟨true,.full,e.2.2.1⟩ st (.inr (.inl rfl)) A (λb o E _=>E) (λh=>by rcases h with h|⟨_,_,g,h⟩<;>cases h)
   rwa [List.append_nil] at this
  | cons y ys =>
   intro g D;obtain⟨a1,a2,a3⟩:=F g D (zs.length+(y::ys).length);exact k _ _ (.inr (.inr ⟨g,rfl,ISt.put_same _ _ _,a3⟩)) a1 a2 (λ_=>.inr ⟨by simp only[List.length_cons];omega,rfl,g,rfl⟩)
 ·refine⟨rfl,h1,λg D=>?_⟩;have W:S0 g=none:=by
   rcases D with rfl|D
   ·exact h2
   ·exact yVc A D
  refine k _ _ (.inr (.inr ⟨g,rfl,ISt.put_same _ _ _,W⟩)) (yZ4 (yZ4 A h2) W) (λb o E hn=>?_) (λh=>.inr ⟨by rcases h with h|⟨h,_⟩<;>first|cases h|omega,rfl,g,rfl⟩);have ac:b≠g0:=by
   rintro rfl;rw[h1] at E;exact hn _ (Option.some.inj E).symm
  have O:b≠g:=by
   rcases D with rfl|D
   ·exact ac
   ·rintro rfl;rw[D] at E;cases E
  rw[yZ7 O,yZ7 ac];exact E
theorem yJ5 {esc:List Nat}{dst:Option Nat}{e:TypeId×Bool×Nat×Nat}{O:Tag}{zs ys:List IV}{R:Rt}{st S0:ISt}{ds:List Dfd}{n s m:Nat}(h:own st O n s S0)(F:zs.length=n)(U:ys.length=m)(E:subSt S0 st)(he:e.2.2.1=s)
  (W:ys.all (fits e.2.1 e.2.2.1)=true) (J:(n+m)*e.2.2.2<=140737488355328) (D:n+m<=140737488355328)
  (k:∀A st',own st' A (n+m) s S0->subSt S0 st'->keepF s st st'->R (.val (.sl A (zs++ys))) st' ds)
  (G:yWe esc dst=false:=by first|rfl|simp[yWe]):appV esc dst e O zs ys R st ds:=yUv h F U E he W J D (λA st' h1 h2 h3 _=>k A st' h1 h2 h3) G
