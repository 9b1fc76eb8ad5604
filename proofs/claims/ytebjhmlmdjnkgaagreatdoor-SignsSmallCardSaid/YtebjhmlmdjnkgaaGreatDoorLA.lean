/-  -/
import Derived.Test.YtebjhmlmdjnkgaaGreatDoorKA
set_option linter.all false
namespace Go.Iv
open Go
theorem yGc {esc:List Nat}{dst:Option Nat}{e:TypeId×Bool×Nat×Nat}{tg:Tag}{zs ys:List IV}{R:Rt}{st S0:ISt}{ds:List Dfd}{n s m:Nat}(h:own st tg n s S0)(hlen:zs.length=n)(hm:ys.length=m)(hsub:subSt S0 st)(he:e.2.2.1=s)
  (hf:ys.all (fits e.2.1 e.2.2.1)=true) (hcap:(n+m)*e.2.2.2<=140737488355328) (hcap2:n+m<=140737488355328)
  (k:∀tg' st',own st' tg' (n+m) s S0->subSt S0 st'->xWr s st st'->(appT n tg->appT (n+m) tg')->R (.val (.sl tg' (zs++ys))) st' ds)
  (hesc:yKm esc dst=false:=by first|rfl|simp[yKm]):appV esc dst e tg zs ys R st ds:=by
 subst hlen he hm;unfold appV;refine⟨hf,⟨hcap,hcap2⟩,?_⟩;have hnew:∀g,st g=none->∀m,subSt S0 (st.put g (some (.front m e.2.2.1)))/\xWr e.2.2.1 st (st.put g (some (.front m e.2.2.1)))/\S0 g=none:=λg hg m=>by
  have h0:=yXx hsub hg;refine⟨yQq hsub h0,λb o hb _=>?_,h0⟩;rw[ISt.put_apply];grind
 rcases h with⟨h0,hc⟩|rfl|⟨g0,rfl,h1,h2⟩
 ·have hz:zs=[]:=List.eq_nil_of_length_eq_zero h0;subst hz;rw[hc];cases ys with
  | nil=>exact k tg st (.inl ⟨rfl,hc⟩) hsub (λb o hb _=>hb) (λ_=>.inl hc)
  | cons y ys =>
   simp only[hesc,bFt,if_false];intro g hg;obtain⟨a1,a2,a3⟩:=hnew g hg (y::ys).length;exact k _ _ (.inr (.inr ⟨g,rfl,by rw[ISt.put_same];simp,a3⟩)) a1 a2 (λ_=>.inr ⟨by simp only[List.length_cons];omega,rfl,g,rfl⟩)
 ·refine⟨rfl,?_⟩;cases ys with
  | nil =>
   have:=k ⟨true,.full,e.2.2.1⟩ st (.inr (.inl rfl)) hsub (λb o hb _=>hb) (λh=>by rcases h with h|⟨_,_,g,h⟩<;>cases h)
   rwa [List.append_nil] at this
  | cons y ys =>
   intro g hg;obtain⟨a1,a2,a3⟩:=hnew g hg (zs.length+(y::ys).length);exact k _ _ (.inr (.inr ⟨g,rfl,ISt.put_same _ _ _,a3⟩)) a1 a2 (λ_=>.inr ⟨by simp only[List.length_cons];omega,rfl,g,rfl⟩)
 ·refine⟨rfl,h1,λg hg=>?_⟩;have hgn:S0 g=none:=by
   rcases hg with rfl|hg
   ·exact h2
   ·exact yXx hsub hg
  refine k _ _ (.inr (.inr ⟨g,rfl,ISt.put_same _ _ _,hgn⟩)) (yQq (yQq hsub h2) hgn) (λb o hb hn=>?_) (λh=>.inr ⟨by rcases h with h|⟨h,_⟩<;>first|cases h|omega,rfl,g,rfl⟩);have hb0:b≠g0:=by
   grind
  have hbg:b≠g:=by
   grind
  rw[yQ9 hbg,yQ9 hb0];exact hb
theorem yZz {esc:List Nat}{dst:Option Nat}{e:TypeId×Bool×Nat×Nat}{tg:Tag}{zs ys:List IV}{R:Rt}{st S0:ISt}{ds:List Dfd}{n s m:Nat}(h:own st tg n s S0)(hlen:zs.length=n)(hm:ys.length=m)(hsub:subSt S0 st)(he:e.2.2.1=s)
  (hf:ys.all (fits e.2.1 e.2.2.1)=true) (hcap:(n+m)*e.2.2.2<=140737488355328) (hcap2:n+m<=140737488355328)
  (k:∀tg' st',own st' tg' (n+m) s S0->subSt S0 st'->xWr s st st'->R (.val (.sl tg' (zs++ys))) st' ds)
  (hesc:yKm esc dst=false:=by first|rfl|simp[yKm]):appV esc dst e tg zs ys R st ds:=yGc h hlen hm hsub he hf hcap hcap2 (λtg' st' h1 h2 h3 _=>k tg' st' h1 h2 h3) hesc
