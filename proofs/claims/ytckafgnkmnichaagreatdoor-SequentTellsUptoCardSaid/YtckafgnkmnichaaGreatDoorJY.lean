/- Walks: Free, FreeTerm, Bound, Fresh. -/
import Derived.Test.YtckafgnkmnichaaGreatDoorJX
set_option linter.all false
namespace Go.Proofs.Tryz
open Go Go.Iv
set_option maxRecDepth 4000
variable (gl:Nat → Option IV)
theorem vJ6 (G:Gt gl) (f:Fm) (x:IV) (hx:IsFm f x) (hs:f.size ≤ 1099511627776) (hn:∀ s ∈ frF f,s.size ≤ 281474976710656) (st:ISt) :
  ICall prog gl 27 [x] st (fun r st' => ∃ tg l,r = .sl tg (strI l) ∧ okEs tg 1 ∧ SortedOf (frF f) l ∧ st' = st):=by
 have hnames:=fun st => yY3 gl f x hx st
 have hset:=fun st => wXk gl 126 [.cptr x] (xXt f) st (by simp only [go_sem]) (fun I => yVz gl f x hx (by omega) I)
 rw [zXf] at hset
 obtain ⟨ks,hk1,hk2,hk3⟩:=wQb (frF f)
 have hfl:=zK0 f
 obtain ⟨o,n,us,sub⟩:=f
 obtain ⟨t1,x1,t2,x2,rfl,_⟩:=hx.mk
 refine iI func27 rfl rfl (by kernel_rfl) ?_
 simp -implicitDefEqProofs -dsimp only [go_sem,fits]
 refine (hnames _).mono ?_
 rintro _ st ⟨rfl,rfl⟩
 simp -implicitDefEqProofs -dsimp only [go_sem,fits]
 refine (hset _).mono ?_
 rintro _ _ ⟨m,hm,rfl,rfl⟩
 simp -implicitDefEqProofs -dsimp only [go_sem,fits]
 refine (vJ2 gl m _).mono ?_
 rintro _ _ ⟨b,hb,rfl,rfl⟩
 have hbm:m ≠ b:=yV8 (ISt.put_same st m _) hb
 have hc:=wKo gl G m b _ ks hk1 (fun k h => hn k ((hk2 k).1 h)) (by omega) _ (ISt.put_same (st.put m _) b _) (by rw [yZd hbm,ISt.put_same])
 unfold wYs at hc ⊢
 simp -implicitDefEqProofs -dsimp only [go_sem,fits]
 refine hc.mono ?_
 rintro _ _ ⟨tg,l,rfl,htg,hl,rfl⟩
 simp -implicitDefEqProofs -dsimp only [go_sem,fits]
 refine yQb (st':=st) ?_ ⟨tg,l,rfl,htg,⟨hl.1,fun y => (hl.2 y).trans (hk2 y)⟩,rfl⟩
 exact (yQd hm).trans (yQd hb)
def addE (es:List (Value × IV)) (l:List ByteArray):List (Value × IV):=l.foldl (fun es s => updI (.string s) (.raw (.bool true)) es) es
theorem zKo (es:List (Value × IV)) (l m:List ByteArray):addE es (l ++ m) = addE (addE es l) m:=by simp [addE]
end Go.Proofs.Tryz
