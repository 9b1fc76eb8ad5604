/- Appending several to a slice of the call -/
import Derived.Test.YtclkffdkahljeaaGreatDoorKA
set_option linter.all false
namespace Go.Iv
open Go
theorem xGz {esc:List Nat}{dst:Option Nat}{e:TypeId×Bool×Nat×Nat}{tg:Tag}{zs ys:List IV}{R:Rt}{st S0:ISt}{ds:List Dfd}{n s m:Nat}(h:own st tg n s S0)(aa:zs.length=n)(hm:ys.length=m)(A:subSt S0 st)(he:e.2.2.1=s)
  (hf:ys.all (fits e.2.1 e.2.2.1)=true) (ae:(n+m)*e.2.2.2<=140737488355328) (O:n+m<=140737488355328)
  (k:∀J st',own st' J (n+m) s S0->subSt S0 st'->keepF s st st'->(appT n tg->appT (n+m) J)->R (.val (.sl J (zs++ys))) st' ds)
  (ac:yV2 esc dst=false:=by first|rfl|simp[yV2]):appV esc dst e tg zs ys R st ds:=by
 subst aa he hm;unfold appV;refine⟨hf,⟨ae,O⟩,?_⟩;have E:∀g,st g=none->∀m,subSt S0 (st.put g (some (.front m e.2.2.1)))/\keepF e.2.2.1 st (st.put g (some (.front m e.2.2.1)))/\S0 g=none:=λg D m=>by
  have h0:=yXi A D;refine⟨yQb A h0,λb o U _=>?_,h0⟩;rw[ISt.put_apply];grind
 rcases h with⟨h0,hc⟩|rfl|⟨g0,rfl,h1,h2⟩
 ·have hz:zs=[]:=List.eq_nil_of_length_eq_zero h0;subst hz;rw[hc];cases ys with
  | nil=>exact k tg st (.inl ⟨rfl,hc⟩) A (λb o U _=>U) (λ_=>.inl hc)
  | cons y ys =>
   simp only[ac,bFt,if_false];intro g D;obtain⟨a1,a2,a3⟩:=E g D (y::ys).length;exact k _ _ (.inr (.inr ⟨g,rfl,by rw[ISt.put_same];simp,a3⟩)) a1 a2 (λ_=>.inr ⟨by simp only[List.length_cons];omega,rfl,g,rfl⟩)
 ·refine⟨rfl,?_⟩;cases ys with
  | nil =>
   have:=k ⟨true,.full,e.2.2.1⟩ st (.inr (.inl rfl)) A (λb o U _=>U) (λh=>by rcases h with h|⟨_,_,g,h⟩<;>cases h)
   rwa [List.append_nil] at this
  | cons y ys =>
   intro g D;obtain⟨a1,a2,a3⟩:=E g D (zs.length+(y::ys).length);exact k _ _ (.inr (.inr ⟨g,rfl,ISt.put_same _ _ _,a3⟩)) a1 a2 (λ_=>.inr ⟨by simp only[List.length_cons];omega,rfl,g,rfl⟩)
 ·refine⟨rfl,h1,λg D=>?_⟩;have ab:S0 g=none:=by
   rcases D with rfl|D
   ·exact h2
   ·exact yXi A D
  refine k _ _ (.inr (.inr ⟨g,rfl,ISt.put_same _ _ _,ab⟩)) (yQb (yQb A h2) ab) (λb o U hn=>?_) (λh=>.inr ⟨by rcases h with h|⟨h,_⟩<;>first|cases h|omega,rfl,g,rfl⟩);have ah:b≠g0:=by
   grind
  have ag:b≠g:=by
   grind
  rw[yQ5 ag,yQ5 ah];exact U
theorem xZh {esc:List Nat}{dst:Option Nat}{e:TypeId×Bool×Nat×Nat}{tg:Tag}{zs ys:List IV}{R:Rt}{st S0:ISt}{ds:List Dfd}{n s m:Nat}(h:own st tg n s S0)(J:zs.length=n)(hm:ys.length=m)(E:subSt S0 st)(he:e.2.2.1=s)
  (hf:ys.all (fits e.2.1 e.2.2.1)=true) (U:(n+m)*e.2.2.2<=140737488355328) (D:n+m<=140737488355328)
  (k:∀A st',own st' A (n+m) s S0->subSt S0 st'->keepF s st st'->R (.val (.sl A (zs++ys))) st' ds)
  (O:yV2 esc dst=false:=by first|rfl|simp[yV2]):appV esc dst e tg zs ys R st ds:=xGz h J hm E he hf U D (λA st' h1 h2 h3 _=>k A st' h1 h2 h3) O
