/- Appending several to a slice of the call -/
import Derived.Test.YtigeiecfkoimpaaGreatDoorKA
set_option linter.all false
namespace Go.Iv
open Go
def Mc {esc:List Nat}{dst:Option Nat}{e:TypeId×Bool×Nat×Nat}{tg:Tag}{zs ys:List IV}{R:Rt}{st S0:ISt}{ds:List Dfd}{n s m:Nat}(h:own st tg n s S0)(ab:zs.length=n)(hm:ys.length=m)(D:subSt S0 st)(he:e.2.2.1=s)
  (hf:ys.all (fits e.2.1 e.2.2.1)=true) (af:(n+m)*e.2.2.2<=140737488355328) (O:n+m<=140737488355328)
  (k:∀J st',own st' J (n+m) s S0->subSt S0 st'->keepF s st st'->(appT n tg->appT (n+m) J)->R (.val (.sl J (zs++ys))) st' ds)
  (ae:ic esc dst=false:=by first|rfl|simp[ic]):appV esc dst e tg zs ys R st ds:=by
 subst ab he hm;unfold appV;refine⟨hf,⟨af,O⟩,?_⟩;have G:∀g,st g=none->∀m,subSt S0 (st.put g (some (.front m e.2.2.1)))/\keepF e.2.2.1 st (st.put g (some (.front m e.2.2.1)))/\S0 g=none:=λg E m=>by
  have h0:=j9 D E;refine⟨eG D h0,λb o hb _=>?_,h0⟩;rw[ISt.put_apply];grind
 rcases h with⟨h0,hc⟩|rfl|⟨g0,rfl,h1,h2⟩
 ·have hz:zs=[]:=ev h0;subst hz;rw[hc];cases ys with
  | nil=>exact k tg st (.inl ⟨rfl,hc⟩) D (λb o hb _=>hb) (λ_=>.inl hc)
  | cons y ys =>
   simp only[ae,bFt,dE];intro g E;obtain⟨a1,a2,a3⟩:=G g E (y::ys).length;exact k _ _ (.inr (.inr ⟨g,rfl,by rw[b_];simp,a3⟩)) a1 a2 (λ_=>.inr ⟨by simp only[dX];omega,rfl,g,rfl⟩)
 ·refine⟨rfl,?_⟩;cases ys with
  | nil =>
   have:=k ⟨true,.full,e.2.2.1⟩ st (.inr (.inl rfl)) D (λb o hb _=>hb) (λh=>by rcases h with h|⟨_,_,g,h⟩<;>cases h)
   rwa [ek] at this
  | cons y ys =>
   intro g E;obtain⟨a1,a2,a3⟩:=G g E (zs.length+(y::ys).length);exact k _ _ (.inr (.inr ⟨g,rfl,b_ _ _ _,a3⟩)) a1 a2 (λ_=>.inr ⟨by simp only[dX];omega,rfl,g,rfl⟩)
 ·refine⟨rfl,h1,λg E=>?_⟩;have ac:S0 g=none:=by
   rcases E with rfl|E
   ·exact h2
   ·exact j9 D E
  refine k _ _ (.inr (.inr ⟨g,rfl,b_ _ _ _,ac⟩)) (eG (eG D h2) ac) (λb o hb hn=>?_) (λh=>.inr ⟨by rcases h with h|⟨h,_⟩<;>first|cases h|omega,rfl,g,rfl⟩);have ai:b≠g0:=by
   grind
  have ah:b≠g:=by
   grind
  rw[dz ah,dz ai];exact hb
def DQ {esc:List Nat}{dst:Option Nat}{e:TypeId×Bool×Nat×Nat}{tg:Tag}{zs ys:List IV}{R:Rt}{st S0:ISt}{ds:List Dfd}{n s m:Nat}(h:own st tg n s S0)(J:zs.length=n)(hm:ys.length=m)(G:subSt S0 st)(he:e.2.2.1=s)
  (hf:ys.all (fits e.2.1 e.2.2.1)=true) (aa:(n+m)*e.2.2.2<=140737488355328) (E:n+m<=140737488355328)
  (k:∀D st',own st' D (n+m) s S0->subSt S0 st'->keepF s st st'->R (.val (.sl D (zs++ys))) st' ds)
  (O:ic esc dst=false:=by first|rfl|simp[ic]):appV esc dst e tg zs ys R st ds:=Mc h J hm G he hf aa E (λD st' h1 h2 h3 _=>k D st' h1 h2 h3) O
