/-  -/
import Derived.Test.YtebjhmlmdjnkgaaGreatDoorJI
set_option linter.all false
namespace Go.Iv
open Go
def own (st:ISt)(tg:Tag)(n s:Nat)(S0:ISt):Prop:=(n=0/\tg.cap=.nil)\/tg=⟨true,.full,s⟩\/∃g,tg=⟨true,.app g,s⟩/\st g=some (.front n s)/\S0 g=none
theorem own.es {st:ISt}{tg:Tag}{n s:Nat}{S0:ISt}(h:own st tg n s S0):okEs tg s:=by
 rcases h with⟨_,h⟩|rfl|⟨g,rfl,_⟩
 ·exact .inl h
 ·exact .inr rfl
 ·exact .inr rfl
theorem own.nil (st S0:ISt)(f:Bool)(e s:Nat):own st ⟨f,.nil,e⟩ 0 s S0:=.inl ⟨rfl,rfl⟩
theorem own.full (st S0:ISt)(n s:Nat):own st ⟨true,.full,s⟩ n s S0:=.inr (.inl rfl)
theorem yQq {st s:ISt}{b:Nat}{o:Option IObj}(h:subSt st s)(hb:st b=none):subSt st (s.put b o):=λc x hc=>by
 rw[ISt.put_apply];split
 ·grind
 ·exact h c x hc
theorem yXx {st s:ISt}{b:Nat}(h:subSt st s)(hb:s b=none):st b=none:=by
 cases hq:st b with
 | none=>rfl
 | some o=>rw[h b o hq] at hb;cases hb
theorem own.mono {st st':ISt}{tg:Tag}{n s:Nat}{S0:ISt}(h:own st tg n s S0)(hk:∀g,st g=some (.front n s)->S0 g=none->st' g=some (.front n s)):own st' tg n s S0:=by
 rcases h with h|h|⟨g,h1,h2,h3⟩
 ·exact .inl h
 ·exact .inr (.inl h)
 ·exact .inr (.inr ⟨g,h1,hk g h2 h3,h3⟩)
def xWr (s:Nat)(st st':ISt):Prop:=∀b o,st b=some o->(∀n,o≠.front n s)->st' b=some o
theorem yZb {esc:List Nat}{dst:Option Nat}{e:TypeId×Bool×Nat×Nat}{tg:Tag}{zs:List IV}{y:IV}{R:Rt}{st S0:ISt}{ds:List Dfd}{n s:Nat}(h:own st tg n s S0)(hlen:zs.length=n)(hsub:subSt S0 st)(he:e.2.2.1=s)
  (hf:fits e.2.1 e.2.2.1 y=true) (hcap:(n+1)*e.2.2.2<=140737488355328) (hcap2:n+1<=140737488355328)
  (k:∀tg' st',own st' tg' (n+1) s S0->subSt S0 st'->xWr s st st'->appT (n+1) tg'->R (.val (.sl tg' (zs++[y]))) st' ds)
  (hesc:yKm esc dst=false:=by first|rfl|simp[yKm]):appV esc dst e tg zs [y] R st ds:=by
 subst hlen he;unfold appV;refine⟨by simp[hf],⟨hcap,hcap2⟩,?_⟩;have hnew:∀g,st g=none->∀m,subSt S0 (st.put g (some (.front m e.2.2.1)))/\xWr e.2.2.1 st (st.put g (some (.front m e.2.2.1)))/\S0 g=none:=λg hg m=>by
  have h0:=yXx hsub hg;refine⟨yQq hsub h0,λb o hb _=>?_,h0⟩;rw[ISt.put_apply];grind
 rcases h with⟨h0,hc⟩|rfl|⟨g0,rfl,h1,h2⟩
 ·have hz:zs=[]:=List.eq_nil_of_length_eq_zero h0;subst hz;rw[hc];simp only[hesc,bFt,if_false];intro g hg;obtain⟨a1,a2,a3⟩:=hnew g hg 1;exact k _ _ (.inr (.inr ⟨g,rfl,ISt.put_same _ _ _,a3⟩)) a1 a2 (.inr ⟨Nat.succ_pos _,rfl,g,rfl⟩)
 ·refine⟨rfl,λg hg=>?_⟩;obtain⟨a1,a2,a3⟩:=hnew g hg (zs.length+1);exact k _ _ (.inr (.inr ⟨g,rfl,ISt.put_same _ _ _,a3⟩)) a1 a2 (.inr ⟨Nat.succ_pos _,rfl,g,rfl⟩)
 ·refine⟨rfl,h1,λg hg=>?_⟩;have hgn:S0 g=none:=by
   rcases hg with rfl|hg
   ·exact h2
   ·exact yXx hsub hg
  refine k _ _ (.inr (.inr ⟨g,rfl,ISt.put_same _ _ _,hgn⟩)) (yQq (yQq hsub h2) hgn) (λb o hb hn=>?_) (.inr ⟨Nat.succ_pos _,rfl,g,rfl⟩);have hb0:b≠g0:=by
   grind
  have hbg:b≠g:=by
   grind
  rw[yQ9 hbg,yQ9 hb0];exact hb
theorem yZw {esc:List Nat}{dst:Option Nat}{e:TypeId×Bool×Nat×Nat}{tg:Tag}{zs:List IV}{y:IV}{R:Rt}{st S0:ISt}{ds:List Dfd}{n s:Nat}(h:own st tg n s S0)(hlen:zs.length=n)(hsub:subSt S0 st)(he:e.2.2.1=s)
  (hf:fits e.2.1 e.2.2.1 y=true) (hcap:(n+1)*e.2.2.2<=140737488355328) (hcap2:n+1<=140737488355328)
  (k:∀tg' st',own st' tg' (n+1) s S0->subSt S0 st'->xWr s st st'->R (.val (.sl tg' (zs++[y]))) st' ds)
  (hesc:yKm esc dst=false:=by first|rfl|simp[yKm]):appV esc dst e tg zs [y] R st ds:=yZb h hlen hsub he hf hcap hcap2 (λtg' st' h1 h2 h3 _=>k tg' st' h1 h2 h3) hesc
