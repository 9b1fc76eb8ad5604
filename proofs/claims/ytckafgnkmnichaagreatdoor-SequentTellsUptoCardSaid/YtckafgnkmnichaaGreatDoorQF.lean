/- Walks: the reference of sequents: Begins -/
import Derived.Test.YtckafgnkmnichaaGreatDoorQD
import Derived.Test.YtckafgnkmnichaaGreatDoorQE
import Derived.Test.YtckafgnkmnichaaGreatDoorLA
import Derived.Test.YtckafgnkmnichaaGreatDoorQC
set_option linter.all false
namespace Go.Proofs.Tryz
open Go Go.Iv
set_option maxRecDepth 4000
variable (gl:Nat → Option IV)
theorem zXh {ca rule:Nat} {r:Rw} (h:rowS ca rule = some r):r.asks = 2 ↔ rule = 14 ∨ rule = 15:=by
 rcases zU4 h with ⟨rfl,rfl⟩ | ⟨rfl,rfl⟩ | ⟨rfl,rfl⟩ | ⟨rfl,rfl⟩ | ⟨rfl,rfl⟩ | ⟨rfl,rfl⟩ | ⟨rfl,rfl⟩ | ⟨rfl,rfl⟩ | ⟨rfl,rfl⟩ | ⟨rfl,rfl⟩ | ⟨rfl,rfl⟩ | ⟨rfl,rfl⟩ | ⟨rfl,rfl⟩ | ⟨rfl,rfl⟩ | ⟨rfl,rfl⟩ | ⟨rfl,rfl⟩ | ⟨rfl,rfl⟩ | ⟨rfl,rfl⟩ <;> simp
def yZy (q:List Sq × Nat) (bl br bf:Bool) (r:Rw):List Sq × Nat :=
 if decide (q.2 = 192) || (r.left && !bl) || (r.right && !br) then ([],192) else if q.2 ≠ 0 then ([],q.2) else if decide (r.asks = 2) && bf then ([],193) else (q.1,0)
theorem wWt {ca rule:Nat} {s:Sq} {m:Fm} {u:Tm} {n:ByteArray} {r:Rw} (hv:yX8 ca s = true) (hr:rowS ca rule = some r) :
  yZl ca s rule m u n = yZy (yZh ca rule r m u n) (hasF s.l m) (hasF s.r m) (yJx s n) r:=by
 unfold yZl yZy
 rw [hv,hr]; rfl
set_option maxHeartbeats 4000000 in
theorem xUb (G:Gl gl) (ca:Nat) (t:Tr) (x:IV) (hx:IsTr t x) (hn:NA t) (hu:yU5 t = true) (st:ISt) :
  ICall prog gl 141 [.raw (.int .u8 ca),x] st (AdR st (match t with | .mk rule s m u n _ => yZl ca s rule m u n)):=by
 obtain ⟨rule,s,m,u,n,sub⟩:=t
 obtain ⟨tl,xl,tr,xr,op,fn,ta,xa,tb,xb,v,un,tu,xu,ts,xs,rfl,hru,e1,i1,e2,i2,hy,hz,e3,i3⟩:=hx.mk
 simp only [NA] at hn
 simp only [yU5,bAt,dTe] at hu
 have hV:=fun st => wXv gl ca s _ ⟨tl,xl,tr,xr,rfl,e1,i1,e2,i2⟩ hn.1 st
 have hW:=fun st => xG0 gl ca rule st
 have hA:=fun st => wXy gl ca rule m _ hy hn.2.1 u _ hz hu.1 n st
 refine iI func141 rfl rfl (by kernel_rfl) ?_
 simp -implicitDefEqProofs -dsimp only [go_sem,fits]
 refine (hV _).mono ?_
 rintro _ st ⟨rfl,rfl⟩
 cases hv:yX8 ca s
 ·rw [show yZl ca s rule m u n = ([],190) from by unfold yZl; rw [hv]; rfl]
  simp -implicitDefEqProofs -dsimp only [go_sem,fits]
  exact yQ0 ⟨_,_,rfl,.inl rfl,rfl,rfl⟩
 obtain ⟨hk,hl64,hr64,_⟩:=yG5.1 hv
 have hHl:=fun st => xK5 gl G s.l tl xl e1 i1 m _ hy hn.1.1 hn.2.1 (by omega) st
 have hHr:=fun st => xK5 gl G s.r tr xr e2 i2 m _ hy hn.1.2 hn.2.1 (by omega) st
 have hfl:=fun st => xU5 gl s.l tl xl e1 i1 n hn.1.1 (by omega) st
 have hfr:=fun st => xU5 gl s.r tr xr e2 i2 n hn.1.2 (by omega) st
 simp -implicitDefEqProofs -dsimp only [go_sem,fits]
 refine (hW _).mono ?_
 rintro w st ⟨hw,rfl⟩
 unfold yKn at hw
 cases hrow:rowS ca rule with
 | none =>
  rw [hrow] at hw
  obtain ⟨o9,a9,b9,rfl⟩:=hw
  rw [show yZl ca s rule m u n = ([],191) from by unfold yZl; rw [hv,hrow]; rfl]
  simp -implicitDefEqProofs -dsimp only [go_sem,fits]
  exact yQ0 ⟨_,_,rfl,.inl rfl,rfl,rfl⟩
 | some r =>
  rw [hrow] at hw
  simp only at hw
  subst hw
  rw [wWt hv hrow]
  have hAd:zQs ca rule m u n = yZh ca rule r m u n:=by unfold zQs; rw [hk,hrow]; rfl
  rw [hAd] at hA
  have herr:=wZn ca rule r m u n
  generalize yZh ca rule r m u n = q at hA herr ⊢
  have hbf:((s.l.any fun f => memB (frF f) n) || (s.r.any fun f => memB (frF f) n)) = yJx s n:=rfl
  generalize yJx s n = bf at hbf ⊢
  generalize hasF s.l m = bl at hHl ⊢
  generalize hasF s.r m = br at hHr ⊢
  generalize hS:yZy q bl br bf r = S
  simp -implicitDefEqProofs -dsimp only [go_sem,fits]
  refine (hA _).mono ?_
  rintro _ st ⟨tga,za,rfl,hta,hza,rfl⟩
  by_cases h192:q.2 = 192
  ·have k192:decide (((q.2:Nat):Int) = 192) = true:=dEt (by omega)
   obtain rfl:S = ([],192):=by rw [← hS]; unfold yZy; simp [h192]
   simp -implicitDefEqProofs -dsimp only [go_sem,fits,k192]
   intros
   exact yQ0 ⟨_,_,rfl,.inl rfl,rfl,rfl⟩
  have k192:decide (((q.2:Nat):Int) = 192) = false:=dEf (by omega)
  cases hl:r.left
  ·simp -implicitDefEqProofs -dsimp only [go_sem,fits,k192,hl]
   intros
   cases hr:r.right
   ·simp -implicitDefEqProofs -dsimp only [go_sem,fits,k192,hl,hr]
    intros
    by_cases h0:q.2 = 0
    case neg =>
     have k0:decide (((q.2:Nat):Int) = 0) = false:=dEf (by omega)
     have h193:q.2 = 193:=by omega
     obtain rfl:S = ([],193):=by rw [← hS]; unfold yZy; simp [h193,hr,h192,hl]
     simp -implicitDefEqProofs -dsimp only [go_sem,fits,k192,hl,hr,k0]
     intros
     exact yQ0 ⟨_,_,rfl,.inl rfl,rfl,rfl⟩
    have k0:decide (((q.2:Nat):Int) = 0) = true:=dEt (by omega)
    have haf:=zXh hrow
    by_cases h14:rule = 14
    ·have k14:decide (((rule:Nat):Int) = 14) = true:=dEt (by omega)
     have has:r.asks = 2:=haf.2 (.inl h14)
     simp -implicitDefEqProofs -dsimp only [go_sem,fits,k192,hl,hr,k0,k14]
     intros
     refine (hfl _).mono ?_
     rintro _ st ⟨rfl,rfl⟩
     cases hb1:(s.l.any fun f => memB (frF f) n)
     ·rw [hb1,Bool.false_or] at hbf
      simp -implicitDefEqProofs -dsimp only [go_sem,fits,k192,hl,hr,k0,k14]
      intros
      refine (hfr _).mono ?_
      rintro _ st ⟨rfl,rfl⟩
      cases hb2:(s.r.any fun f => memB (frF f) n)
      ·rw [hb2] at hbf
       obtain rfl:S = (q.1,0):=by rw [← hS]; unfold yZy; simp [h0,← hbf,hr,h192,hl]
       simp -implicitDefEqProofs -dsimp only [go_sem,fits,k192,hl,hr,k0,k14]
       intros
       exact yQ0 ⟨_,_,rfl,hta,hza,rfl⟩
      ·rw [hb2] at hbf
       obtain rfl:S = ([],193):=by rw [← hS]; unfold yZy; simp [has,h0,← hbf,hr,h192,hl]
       simp -implicitDefEqProofs -dsimp only [go_sem,fits,k192,hl,hr,k0,k14]
       intros
       exact yQ0 ⟨_,_,rfl,.inl rfl,rfl,rfl⟩
     ·rw [hb1,Bool.true_or] at hbf
      obtain rfl:S = ([],193):=by rw [← hS]; unfold yZy; simp [has,h0,← hbf,hr,h192,hl]
      simp -implicitDefEqProofs -dsimp only [go_sem,fits,k192,hl,hr,k0,k14]
      intros
      exact yQ0 ⟨_,_,rfl,.inl rfl,rfl,rfl⟩
    by_cases h15:rule = 15
    ·have k14:decide (((rule:Nat):Int) = 14) = false:=dEf (by omega)
     have k15:decide (((rule:Nat):Int) = 15) = true:=dEt (by omega)
     have has:r.asks = 2:=haf.2 (.inr h15)
     simp -implicitDefEqProofs -dsimp only [go_sem,fits,k192,hl,hr,k0,k14,k15]
     intros
     refine (hfl _).mono ?_
     rintro _ st ⟨rfl,rfl⟩
     cases hb1:(s.l.any fun f => memB (frF f) n)
     ·rw [hb1,Bool.false_or] at hbf
      simp -implicitDefEqProofs -dsimp only [go_sem,fits,k192,hl,hr,k0,k14,k15]
      intros
      refine (hfr _).mono ?_
      rintro _ st ⟨rfl,rfl⟩
      cases hb2:(s.r.any fun f => memB (frF f) n)
      ·rw [hb2] at hbf
       obtain rfl:S = (q.1,0):=by rw [← hS]; unfold yZy; simp [h0,← hbf,hr,h192,hl]
       simp -implicitDefEqProofs -dsimp only [go_sem,fits,k192,hl,hr,k0,k14,k15]
       intros
       exact yQ0 ⟨_,_,rfl,hta,hza,rfl⟩
      ·rw [hb2] at hbf
       obtain rfl:S = ([],193):=by rw [← hS]; unfold yZy; simp [has,h0,← hbf,hr,h192,hl]
       simp -implicitDefEqProofs -dsimp only [go_sem,fits,k192,hl,hr,k0,k14,k15]
       intros
       exact yQ0 ⟨_,_,rfl,.inl rfl,rfl,rfl⟩
     ·rw [hb1,Bool.true_or] at hbf
      obtain rfl:S = ([],193):=by rw [← hS]; unfold yZy; simp [has,h0,← hbf,hr,h192,hl]
      simp -implicitDefEqProofs -dsimp only [go_sem,fits,k192,hl,hr,k0,k14,k15]
      intros
      exact yQ0 ⟨_,_,rfl,.inl rfl,rfl,rfl⟩
    ·have k14:decide (((rule:Nat):Int) = 14) = false:=dEf (by omega)
     have k15:decide (((rule:Nat):Int) = 15) = false:=dEf (by omega)
     have has:¬ r.asks = 2:=fun h => (haf.1 h).elim h14 h15
     obtain rfl:S = (q.1,0):=by rw [← hS]; unfold yZy; simp [has,h0,hr,h192,hl]
     simp -implicitDefEqProofs -dsimp only [go_sem,fits,k192,hl,hr,k0,k14,k15]
     intros
     exact yQ0 ⟨_,_,rfl,hta,hza,rfl⟩
   ·simp -implicitDefEqProofs -dsimp only [go_sem,fits,k192,hl,hr]
    intros
    refine (hHr _).mono ?_
    rintro _ st ⟨rfl,rfl⟩
    cases hbr:br
    ·obtain rfl:S = ([],192):=by rw [← hS]; unfold yZy; simp [hr,hbr]
     simp -implicitDefEqProofs -dsimp only [go_sem,fits,k192,hl,hr]
     intros
     exact yQ0 ⟨_,_,rfl,.inl rfl,rfl,rfl⟩
    ·simp -implicitDefEqProofs -dsimp only [go_sem,fits,k192,hl,hr]
     intros
     by_cases h0:q.2 = 0
     case neg =>
      have k0:decide (((q.2:Nat):Int) = 0) = false:=dEf (by omega)
      have h193:q.2 = 193:=by omega
      obtain rfl:S = ([],193):=by rw [← hS]; unfold yZy; simp [h193,hr,hbr,h192,hl]
      simp -implicitDefEqProofs -dsimp only [go_sem,fits,k192,hl,hr,k0]
      intros
      exact yQ0 ⟨_,_,rfl,.inl rfl,rfl,rfl⟩
     have k0:decide (((q.2:Nat):Int) = 0) = true:=dEt (by omega)
     have haf:=zXh hrow
     by_cases h14:rule = 14
     ·have k14:decide (((rule:Nat):Int) = 14) = true:=dEt (by omega)
      have has:r.asks = 2:=haf.2 (.inl h14)
      simp -implicitDefEqProofs -dsimp only [go_sem,fits,k192,hl,hr,k0,k14]
      intros
      refine (hfl _).mono ?_
      rintro _ st ⟨rfl,rfl⟩
      cases hb1:(s.l.any fun f => memB (frF f) n)
      ·rw [hb1,Bool.false_or] at hbf
       simp -implicitDefEqProofs -dsimp only [go_sem,fits,k192,hl,hr,k0,k14]
       intros
       refine (hfr _).mono ?_
       rintro _ st ⟨rfl,rfl⟩
       cases hb2:(s.r.any fun f => memB (frF f) n)
       ·rw [hb2] at hbf
        obtain rfl:S = (q.1,0):=by rw [← hS]; unfold yZy; simp [h0,← hbf,hr,hbr,h192,hl]
        simp -implicitDefEqProofs -dsimp only [go_sem,fits,k192,hl,hr,k0,k14]
        intros
        exact yQ0 ⟨_,_,rfl,hta,hza,rfl⟩
       ·rw [hb2] at hbf
        obtain rfl:S = ([],193):=by rw [← hS]; unfold yZy; simp [has,h0,← hbf,hr,hbr,h192,hl]
        simp -implicitDefEqProofs -dsimp only [go_sem,fits,k192,hl,hr,k0,k14]
        intros
        exact yQ0 ⟨_,_,rfl,.inl rfl,rfl,rfl⟩
      ·rw [hb1,Bool.true_or] at hbf
       obtain rfl:S = ([],193):=by rw [← hS]; unfold yZy; simp [has,h0,← hbf,hr,hbr,h192,hl]
       simp -implicitDefEqProofs -dsimp only [go_sem,fits,k192,hl,hr,k0,k14]
       intros
       exact yQ0 ⟨_,_,rfl,.inl rfl,rfl,rfl⟩
     by_cases h15:rule = 15
     ·have k14:decide (((rule:Nat):Int) = 14) = false:=dEf (by omega)
      have k15:decide (((rule:Nat):Int) = 15) = true:=dEt (by omega)
      have has:r.asks = 2:=haf.2 (.inr h15)
      simp -implicitDefEqProofs -dsimp only [go_sem,fits,k192,hl,hr,k0,k14,k15]
      intros
      refine (hfl _).mono ?_
      rintro _ st ⟨rfl,rfl⟩
      cases hb1:(s.l.any fun f => memB (frF f) n)
      ·rw [hb1,Bool.false_or] at hbf
       simp -implicitDefEqProofs -dsimp only [go_sem,fits,k192,hl,hr,k0,k14,k15]
       intros
       refine (hfr _).mono ?_
       rintro _ st ⟨rfl,rfl⟩
       cases hb2:(s.r.any fun f => memB (frF f) n)
       ·rw [hb2] at hbf
        obtain rfl:S = (q.1,0):=by rw [← hS]; unfold yZy; simp [h0,← hbf,hr,hbr,h192,hl]
        simp -implicitDefEqProofs -dsimp only [go_sem,fits,k192,hl,hr,k0,k14,k15]
        intros
        exact yQ0 ⟨_,_,rfl,hta,hza,rfl⟩
       ·rw [hb2] at hbf
        obtain rfl:S = ([],193):=by rw [← hS]; unfold yZy; simp [has,h0,← hbf,hr,hbr,h192,hl]
        simp -implicitDefEqProofs -dsimp only [go_sem,fits,k192,hl,hr,k0,k14,k15]
        intros
        exact yQ0 ⟨_,_,rfl,.inl rfl,rfl,rfl⟩
      ·rw [hb1,Bool.true_or] at hbf
       obtain rfl:S = ([],193):=by rw [← hS]; unfold yZy; simp [has,h0,← hbf,hr,hbr,h192,hl]
       simp -implicitDefEqProofs -dsimp only [go_sem,fits,k192,hl,hr,k0,k14,k15]
       intros
       exact yQ0 ⟨_,_,rfl,.inl rfl,rfl,rfl⟩
     ·have k14:decide (((rule:Nat):Int) = 14) = false:=dEf (by omega)
      have k15:decide (((rule:Nat):Int) = 15) = false:=dEf (by omega)
      have has:¬ r.asks = 2:=fun h => (haf.1 h).elim h14 h15
      obtain rfl:S = (q.1,0):=by rw [← hS]; unfold yZy; simp [has,h0,hr,hbr,h192,hl]
      simp -implicitDefEqProofs -dsimp only [go_sem,fits,k192,hl,hr,k0,k14,k15]
      intros
      exact yQ0 ⟨_,_,rfl,hta,hza,rfl⟩
  ·simp -implicitDefEqProofs -dsimp only [go_sem,fits,k192,hl]
   intros
   refine (hHl _).mono ?_
   rintro _ st ⟨rfl,rfl⟩
   cases hbl:bl
   ·obtain rfl:S = ([],192):=by rw [← hS]; unfold yZy; simp [hl,hbl]
    simp -implicitDefEqProofs -dsimp only [go_sem,fits,k192,hl]
    intros
    exact yQ0 ⟨_,_,rfl,.inl rfl,rfl,rfl⟩
   ·simp -implicitDefEqProofs -dsimp only [go_sem,fits,k192,hl]
    intros
    cases hr:r.right
    ·simp -implicitDefEqProofs -dsimp only [go_sem,fits,k192,hl,hr]
     intros
     by_cases h0:q.2 = 0
     case neg =>
      have k0:decide (((q.2:Nat):Int) = 0) = false:=dEf (by omega)
      have h193:q.2 = 193:=by omega
      obtain rfl:S = ([],193):=by rw [← hS]; unfold yZy; simp [h193,hr,h192,hl,hbl]
      simp -implicitDefEqProofs -dsimp only [go_sem,fits,k192,hl,hr,k0]
      intros
      exact yQ0 ⟨_,_,rfl,.inl rfl,rfl,rfl⟩
     have k0:decide (((q.2:Nat):Int) = 0) = true:=dEt (by omega)
     have haf:=zXh hrow
     by_cases h14:rule = 14
     ·have k14:decide (((rule:Nat):Int) = 14) = true:=dEt (by omega)
      have has:r.asks = 2:=haf.2 (.inl h14)
      simp -implicitDefEqProofs -dsimp only [go_sem,fits,k192,hl,hr,k0,k14]
      intros
      refine (hfl _).mono ?_
      rintro _ st ⟨rfl,rfl⟩
      cases hb1:(s.l.any fun f => memB (frF f) n)
      ·rw [hb1,Bool.false_or] at hbf
       simp -implicitDefEqProofs -dsimp only [go_sem,fits,k192,hl,hr,k0,k14]
       intros
       refine (hfr _).mono ?_
       rintro _ st ⟨rfl,rfl⟩
       cases hb2:(s.r.any fun f => memB (frF f) n)
       ·rw [hb2] at hbf
        obtain rfl:S = (q.1,0):=by rw [← hS]; unfold yZy; simp [h0,← hbf,hr,h192,hl,hbl]
        simp -implicitDefEqProofs -dsimp only [go_sem,fits,k192,hl,hr,k0,k14]
        intros
        exact yQ0 ⟨_,_,rfl,hta,hza,rfl⟩
       ·rw [hb2] at hbf
        obtain rfl:S = ([],193):=by rw [← hS]; unfold yZy; simp [has,h0,← hbf,hr,h192,hl,hbl]
        simp -implicitDefEqProofs -dsimp only [go_sem,fits,k192,hl,hr,k0,k14]
        intros
        exact yQ0 ⟨_,_,rfl,.inl rfl,rfl,rfl⟩
      ·rw [hb1,Bool.true_or] at hbf
       obtain rfl:S = ([],193):=by rw [← hS]; unfold yZy; simp [has,h0,← hbf,hr,h192,hl,hbl]
       simp -implicitDefEqProofs -dsimp only [go_sem,fits,k192,hl,hr,k0,k14]
       intros
       exact yQ0 ⟨_,_,rfl,.inl rfl,rfl,rfl⟩
     by_cases h15:rule = 15
     ·have k14:decide (((rule:Nat):Int) = 14) = false:=dEf (by omega)
      have k15:decide (((rule:Nat):Int) = 15) = true:=dEt (by omega)
      have has:r.asks = 2:=haf.2 (.inr h15)
      simp -implicitDefEqProofs -dsimp only [go_sem,fits,k192,hl,hr,k0,k14,k15]
      intros
      refine (hfl _).mono ?_
      rintro _ st ⟨rfl,rfl⟩
      cases hb1:(s.l.any fun f => memB (frF f) n)
      ·rw [hb1,Bool.false_or] at hbf
       simp -implicitDefEqProofs -dsimp only [go_sem,fits,k192,hl,hr,k0,k14,k15]
       intros
       refine (hfr _).mono ?_
       rintro _ st ⟨rfl,rfl⟩
       cases hb2:(s.r.any fun f => memB (frF f) n)
       ·rw [hb2] at hbf
        obtain rfl:S = (q.1,0):=by rw [← hS]; unfold yZy; simp [h0,← hbf,hr,h192,hl,hbl]
        simp -implicitDefEqProofs -dsimp only [go_sem,fits,k192,hl,hr,k0,k14,k15]
        intros
        exact yQ0 ⟨_,_,rfl,hta,hza,rfl⟩
       ·rw [hb2] at hbf
        obtain rfl:S = ([],193):=by rw [← hS]; unfold yZy; simp [has,h0,← hbf,hr,h192,hl,hbl]
        simp -implicitDefEqProofs -dsimp only [go_sem,fits,k192,hl,hr,k0,k14,k15]
        intros
        exact yQ0 ⟨_,_,rfl,.inl rfl,rfl,rfl⟩
      ·rw [hb1,Bool.true_or] at hbf
       obtain rfl:S = ([],193):=by rw [← hS]; unfold yZy; simp [has,h0,← hbf,hr,h192,hl,hbl]
       simp -implicitDefEqProofs -dsimp only [go_sem,fits,k192,hl,hr,k0,k14,k15]
       intros
       exact yQ0 ⟨_,_,rfl,.inl rfl,rfl,rfl⟩
     ·have k14:decide (((rule:Nat):Int) = 14) = false:=dEf (by omega)
      have k15:decide (((rule:Nat):Int) = 15) = false:=dEf (by omega)
      have has:¬ r.asks = 2:=fun h => (haf.1 h).elim h14 h15
      obtain rfl:S = (q.1,0):=by rw [← hS]; unfold yZy; simp [has,h0,hr,h192,hl,hbl]
      simp -implicitDefEqProofs -dsimp only [go_sem,fits,k192,hl,hr,k0,k14,k15]
      intros
      exact yQ0 ⟨_,_,rfl,hta,hza,rfl⟩
    ·simp -implicitDefEqProofs -dsimp only [go_sem,fits,k192,hl,hr]
     intros
     refine (hHr _).mono ?_
     rintro _ st ⟨rfl,rfl⟩
     cases hbr:br
     ·obtain rfl:S = ([],192):=by rw [← hS]; unfold yZy; simp [hr,hbr]
      simp -implicitDefEqProofs -dsimp only [go_sem,fits,k192,hl,hr]
      intros
      exact yQ0 ⟨_,_,rfl,.inl rfl,rfl,rfl⟩
     ·simp -implicitDefEqProofs -dsimp only [go_sem,fits,k192,hl,hr]
      intros
      by_cases h0:q.2 = 0
      case neg =>
       have k0:decide (((q.2:Nat):Int) = 0) = false:=dEf (by omega)
       have h193:q.2 = 193:=by omega
       obtain rfl:S = ([],193):=by rw [← hS]; unfold yZy; simp [h193,hr,hbr,h192,hl,hbl]
       simp -implicitDefEqProofs -dsimp only [go_sem,fits,k192,hl,hr,k0]
       intros
       exact yQ0 ⟨_,_,rfl,.inl rfl,rfl,rfl⟩
      have k0:decide (((q.2:Nat):Int) = 0) = true:=dEt (by omega)
      have haf:=zXh hrow
      by_cases h14:rule = 14
      ·have k14:decide (((rule:Nat):Int) = 14) = true:=dEt (by omega)
       have has:r.asks = 2:=haf.2 (.inl h14)
       simp -implicitDefEqProofs -dsimp only [go_sem,fits,k192,hl,hr,k0,k14]
       intros
       refine (hfl _).mono ?_
       rintro _ st ⟨rfl,rfl⟩
       cases hb1:(s.l.any fun f => memB (frF f) n)
       ·rw [hb1,Bool.false_or] at hbf
        simp -implicitDefEqProofs -dsimp only [go_sem,fits,k192,hl,hr,k0,k14]
        intros
        refine (hfr _).mono ?_
        rintro _ st ⟨rfl,rfl⟩
        cases hb2:(s.r.any fun f => memB (frF f) n)
        ·rw [hb2] at hbf
         obtain rfl:S = (q.1,0):=by rw [← hS]; unfold yZy; simp [h0,← hbf,hr,hbr,h192,hl,hbl]
         simp -implicitDefEqProofs -dsimp only [go_sem,fits,k192,hl,hr,k0,k14]
         intros
         exact yQ0 ⟨_,_,rfl,hta,hza,rfl⟩
        ·rw [hb2] at hbf
         obtain rfl:S = ([],193):=by rw [← hS]; unfold yZy; simp [has,h0,← hbf,hr,hbr,h192,hl,hbl]
         simp -implicitDefEqProofs -dsimp only [go_sem,fits,k192,hl,hr,k0,k14]
         intros
         exact yQ0 ⟨_,_,rfl,.inl rfl,rfl,rfl⟩
       ·rw [hb1,Bool.true_or] at hbf
        obtain rfl:S = ([],193):=by rw [← hS]; unfold yZy; simp [has,h0,← hbf,hr,hbr,h192,hl,hbl]
        simp -implicitDefEqProofs -dsimp only [go_sem,fits,k192,hl,hr,k0,k14]
        intros
        exact yQ0 ⟨_,_,rfl,.inl rfl,rfl,rfl⟩
      by_cases h15:rule = 15
      ·have k14:decide (((rule:Nat):Int) = 14) = false:=dEf (by omega)
       have k15:decide (((rule:Nat):Int) = 15) = true:=dEt (by omega)
       have has:r.asks = 2:=haf.2 (.inr h15)
       simp -implicitDefEqProofs -dsimp only [go_sem,fits,k192,hl,hr,k0,k14,k15]
       intros
       refine (hfl _).mono ?_
       rintro _ st ⟨rfl,rfl⟩
       cases hb1:(s.l.any fun f => memB (frF f) n)
       ·rw [hb1,Bool.false_or] at hbf
        simp -implicitDefEqProofs -dsimp only [go_sem,fits,k192,hl,hr,k0,k14,k15]
        intros
        refine (hfr _).mono ?_
        rintro _ st ⟨rfl,rfl⟩
        cases hb2:(s.r.any fun f => memB (frF f) n)
        ·rw [hb2] at hbf
         obtain rfl:S = (q.1,0):=by rw [← hS]; unfold yZy; simp [h0,← hbf,hr,hbr,h192,hl,hbl]
         simp -implicitDefEqProofs -dsimp only [go_sem,fits,k192,hl,hr,k0,k14,k15]
         intros
         exact yQ0 ⟨_,_,rfl,hta,hza,rfl⟩
        ·rw [hb2] at hbf
         obtain rfl:S = ([],193):=by rw [← hS]; unfold yZy; simp [has,h0,← hbf,hr,hbr,h192,hl,hbl]
         simp -implicitDefEqProofs -dsimp only [go_sem,fits,k192,hl,hr,k0,k14,k15]
         intros
         exact yQ0 ⟨_,_,rfl,.inl rfl,rfl,rfl⟩
       ·rw [hb1,Bool.true_or] at hbf
        obtain rfl:S = ([],193):=by rw [← hS]; unfold yZy; simp [has,h0,← hbf,hr,hbr,h192,hl,hbl]
        simp -implicitDefEqProofs -dsimp only [go_sem,fits,k192,hl,hr,k0,k14,k15]
        intros
        exact yQ0 ⟨_,_,rfl,.inl rfl,rfl,rfl⟩
      ·have k14:decide (((rule:Nat):Int) = 14) = false:=dEf (by omega)
       have k15:decide (((rule:Nat):Int) = 15) = false:=dEf (by omega)
       have has:¬ r.asks = 2:=fun h => (haf.1 h).elim h14 h15
       obtain rfl:S = (q.1,0):=by rw [← hS]; unfold yZy; simp [has,h0,hr,hbr,h192,hl,hbl]
       simp -implicitDefEqProofs -dsimp only [go_sem,fits,k192,hl,hr,k0,k14,k15]
       intros
       exact yQ0 ⟨_,_,rfl,hta,hza,rfl⟩
def Tr.subsT:Tr → List Tr
 | .mk _ _ _ _ _ sub => sub
theorem xK9 {s:Sq}:∀ {ad:List Sq} {ts:List Tr},(∀ (i:Nat) (m:Sq) (t:Tr),ad[i]? = some m → ts[i]? = some t → yJm t.sq (s.plus m) = true) → yXn s ad ts = true
 | [],_,_ => rfl
 | _ :: _,[],_ => rfl
 | m :: ad,t :: ts,h => by
  simp only [yXn,bAt]
  exact ⟨h 0 m t rfl rfl,xK9 fun i a b h1 h2 => h (i + 1) a b (by simpa using h1) (by simpa using h2)⟩
theorem xXy {ca rule:Nat} {s:Sq} {m:Fm} {u:Tm} {n:ByteArray} {ad:List Sq} (hu:u.size ≤ 900000) (h:yZl ca s rule m u n = (ad,0)):∀ q ∈ ad,yY4 q ∧ q.l.length ≤ 1099511627776 ∧ q.r.length ≤ 1099511627776:=by
 have h0:(yZl ca s rule m u n).2 = 0:=by rw [h]
 obtain ⟨r,k1,k2,k3,_,_,_,k7⟩:=xVz h0
 rw [h] at k7
 have hA:yZh ca rule r m u n = (ad,0):=Prod.ext ((Prod.mk.inj k7).1.symm) k3
 have hs:=zKn hA
 intro q hq
 exact ⟨(hs q hq).1,by have:=(hs q hq).2.1; omega,by have:=(hs q hq).2.2; omega⟩
set_option maxHeartbeats 1000000 in
theorem wXu (G:Gl gl) (ca:Nat) (t:Tr) (x:IV) (hx:IsTr t x) (hn:NA t) (hu:yU5 t = true) (hlen:∀ a ∈ (Tr.subsT t),a.sq.l.length ≤ 1099511627776 ∧ a.sq.r.length ≤ 1099511627776) (hst:t.steps ≤ 1099511627776) (st:ISt) :
  ICall prog gl 170 [.raw (.int .u8 ca),x] st (fun r st' => r = .raw (.int .i64 (yZe ca t)) ∧ st' = st):=by
 have hB:=fun st => xUb gl G ca t x hx hn hu st
 obtain ⟨rule,s,m,u,n,sub⟩:=t
 simp only [Tr.subsT] at hlen
 obtain ⟨tl,xl,tr,xr,op,fn,ta,xa,tb,xb,v,un,tu,xu,ts,xs,rfl,hru,e1,i1,e2,i2,hy,hz,e3,i3⟩:=hx.mk
 simp only at hB
 simp only [NA] at hn
 simp only [yU5,bAt,dTe] at hu
 simp only [Tr.steps] at hst
 have hls:=yZu sub
 have hck:yZe ca (.mk rule s m u n sub) = if (yZl ca s rule m u n).2 ≠ 0 then (yZl ca s rule m u n).2 else if sub.length ≠ (yZl ca s rule m u n).1.length then 194 else if yXn s (yZl ca s rule m u n).1 sub then 0 else 195:=by simp only [yZe]
 rw [hck]
 have hsh:=fun ad h => xXy (ca:=ca) (rule:=rule) (s:=s) (m:=m) (n:=n) (ad:=ad) hu.1 h
 have hval:=fun h => zXw (ca:=ca) (s:=s) (rule:=rule) (main:=m) (term:=u) (name:=n) h
 generalize yZl ca s rule m u n = q at hB hsh hval ⊢
 obtain ⟨ad,e⟩:=q
 simp only at hB hval ⊢
 refine iI func170 rfl rfl (by kernel_rfl) ?_
 simp -implicitDefEqProofs -dsimp only [go_sem,fits]
 refine (hB _).mono ?_
 rintro _ st ⟨tga,za,rfl,hta,hza,rfl⟩
 by_cases he:e = 0
 case neg =>
  have k0:decide (((e:Nat):Int) = 0) = false:=dEf (by omega)
  rw [if_pos he]
  simp -implicitDefEqProofs -dsimp only [go_sem,fits,k0]
  exact yQ0 ⟨rfl,rfl⟩
 subst he
 rw [if_neg (by simp)]
 have hsh:=hsh ad rfl
 obtain ⟨_,hl64,hr64,_⟩:=yG5.1 (hval rfl)
 by_cases hln:sub.length = ad.length
 case neg =>
  have k1:decide (((ad.length:Nat):Int) = ((sub.length:Nat):Int)) = false:=dEf (by omega)
  rw [if_pos hln]
  simp -implicitDefEqProofs -dsimp only [go_sem,fits,hza.len,i3.len,k1,show decide (((0:Nat):Int) = 0) = true from rfl]
  intros
  exact yQ0 ⟨rfl,rfl⟩
 rw [if_neg (by simp [hln])]
 have k1:decide (((ad.length:Nat):Int) = ((sub.length:Nat):Int)) = true:=dEt (by omega)
 simp -implicitDefEqProofs -dsimp only [go_sem,fits,hza.len,i3.len,k1,show decide (((0:Nat):Int) = 0) = true from rfl]
 intros
 refine LoopC.ctr ad.length (fun k fr st' ds => (∀ (i:Nat) (m:Sq) (t:Tr),i < k → ad[i]? = some m → sub[i]? = some t → yJm t.sq (s.plus m) = true) ∧ fr 3 = .box [.raw (.int .u8 rule),.sl tl xl,.sl tr xr,.raw (.int .u8 op),.raw (.string fn),.sl ta xa,.sl tb xb,.raw (.bool v),.raw (.string un),.sl tu xu,.raw (.string n),.sl ts xs] ∧
  fr 5 = .iv (.sl tga za) ∧ fr 7 = .iv (.raw (.int .i64 k)) ∧ st' = st ∧ ds = []) ?_ ?_ ?_
 ·simp -implicitDefEqProofs -dsimp only [go_sem]
  exact ⟨fun i m t h => by omega,rfl⟩
 ·rintro k fr st1 _ hlt ⟨hk,f3,f5,f7,rfl,rfl⟩
  obtain ⟨q,hq⟩:=yQ3 hlt
  have hqm:=lMg hq
  obtain ⟨aq,hka,haq⟩:=hza.get hq
  obtain ⟨b,hb⟩:=yQ3 (show k < sub.length by omega)
  have hbm:=lMg hb
  obtain ⟨zb,hkb,hzb⟩:=i3.get hb
  have hbfit:=vXz (xJg hn.2.2.2 hbm)
  have hbl:=hlen b hbm
  obtain ⟨br,bs,bm,bu,bn,bsub⟩:=b
  obtain ⟨tl5,xl5,tr5,xr5,op5,fn5,ta5,xa5,tb5,xb5,v5,un5,tu5,xu5,ts5,xs5,rfl,_,e15,i15,e25,i25,_⟩:=hzb.mk
  obtain ⟨ta1,xa1,ta2,xa2,rfl,ea1,ia1,ea2,ia2⟩:=haq
  simp only [Tr.sq] at hbfit hbl
  obtain ⟨⟨hf1,hf2⟩,hf3,hf4⟩:=hsh q hqm
  have hI1:=fun st => vQr gl G bs.l s.l q.l _ _ _ _ _ _ e15 i15 e1 i1 ea1 ia1 hbfit.1 hn.1.1 hf1 ⟨by omega,by omega,by omega⟩ st
  have hI2:=fun st => vQr gl G bs.r s.r q.r _ _ _ _ _ _ e25 i25 e2 i2 ea2 ia2 hbfit.2 hn.1.2 hf2 ⟨by omega,by omega,by omega⟩ st
  have hw:yJm bs (s.plus q) = (allF bs.l (s.l ++ q.l) && allF bs.r (s.r ++ q.r)):=rfl
  have hno:yJm bs (s.plus q) = false → yXn s ad sub = false:=fun h => by
   cases hp:yXn s ad sub
   ·rfl
   ·have:=zUe s ad sub hp k q _ hq hb
    simp only [Tr.sq] at this
    rw [h] at this; cases this
  have hyes:yJm bs (s.plus q) = true → ∀ (i:Nat) (m:Sq) (t:Tr),i < k + 1 → ad[i]? = some m → sub[i]? = some t → yJm t.sq (s.plus m) = true:=fun h i m t hi h1 h2 => by
   rcases Nat.lt_or_ge i k with hlt' | hge
   ·exact hk i m t hlt' h1 h2
   ·obtain rfl:i = k:=by omega
    rw [hq] at h1
    rw [hb] at h2
    cases h1; cases h2
    exact h
  simp -implicitDefEqProofs -dsimp only [go_sem,f3,f5,f7,hza.len,i3.len,lt_i hlt,yQ2 e3,yQ2 hta,iNn,hkb,hka,fits]
  intros
  refine (hI1 _).mono ?_
  rintro _ st2 ⟨rfl,rfl⟩
  cases hb1:allF bs.l (s.l ++ q.l)
  ·rw [hb1] at hw
   rw [hno (by rw [hw]; rfl)]
   simp -implicitDefEqProofs -dsimp only [go_sem,f3,f5,f7,fits]
   exact yQ0 ⟨rfl,rfl⟩
  ·simp -implicitDefEqProofs -dsimp only [go_sem,f3,f5,f7,hza.len,yQ2 e3,yQ2 hta,iNn,hkb,hka,fits]
   intros
   refine (hI2 _).mono ?_
   rintro _ st2 ⟨rfl,rfl⟩
   cases hb2:allF bs.r (s.r ++ q.r)
   ·rw [hb2,Bool.and_false] at hw
    rw [hno hw]
    simp -implicitDefEqProofs -dsimp only [go_sem,f3,f5,f7,fits]
    exact yQ0 ⟨rfl,rfl⟩
   ·rw [hb1,hb2] at hw
    simp -implicitDefEqProofs -dsimp only [go_sem,f3,f5,f7,fits,yQ9 hlt (show ad.length ≤ 281474976710656 by omega)]
    exact hyes hw
 ·rintro fr st1 _ ⟨hk,f3,f5,f7,rfl,rfl⟩
  have hp:yXn s ad sub = true:=xK9 fun i m t h1 h2 => hk i m t (lGs h1).1 h1 h2
  simp -implicitDefEqProofs -dsimp only [go_sem,f3,f5,f7,hza.len,yQm (nLi _)]
  intros
  exact yQ0 ⟨by rw [hp]; rfl,rfl⟩
mutual
theorem zVy:∀ {t:Tr},okT t = true → yU5 t = true
 | .mk rule s m u n sub,h => by
  simp only [okT,bAt] at h
  have:=(yXx h.1).2.2.1
  have:=yUw u
  simp only [yU5,bAt,dTe]
  exact ⟨by omega,zJd h.2⟩
theorem zJd:∀ {l:List Tr},okTs l = true → zX2 l = true
 | [],_ => rfl
 | a :: l,h => by
  simp only [okTs,bAt] at h
  simp only [zX2,bAt]
  exact ⟨zVy h.1,zJd h.2⟩
end
theorem wJ9 {t:Tr} (h:okT t = true):∀ a ∈ Tr.subsT t,a.sq.l.length ≤ 1099511627776 ∧ a.sq.r.length ≤ 1099511627776:=fun a ha => by
 obtain ⟨rule,s,m,u,n,sub⟩:=t
 simp only [okT,bAt] at h
 have hb:=yGb h.2 ha
 obtain ⟨br,bs,bm,bu,bn,bsub⟩:=a
 simp only [okT,bAt] at hb
 have h1:=(yXx hb.1).1
 have h2:=yJp bs.l
 have h3:=yJp bs.r
 have h4:=yZk bs.l
 have h5:=yZk bs.r
 simp only [Tr.sq]
 omega
def stC (t:Tr):Prop:=∀ (x:IV) (_:IsTr t x) (_:t.steps ≤ 1099511627776) (st:ISt),ICall prog gl 54 [x] st (fun r st' => r = .raw (.int .i64 t.steps) ∧ st' = st)
theorem xZw (rule:Nat) (s:Sq) (f:Fm) (u:Tm) (n:ByteArray) (sub:List Tr) (IH:∀ a ∈ sub,stC gl a):stC gl (.mk rule s f u n sub):=by
 intro x hx hst st
 obtain ⟨tl,xl,tr,xr,op,fn,ta,xa,tb,xb,v,un,tu,xu,ts,xs,rfl,hru,e1,i1,e2,i2,hy,hz,e3,i3⟩:=hx.mk
 simp only [Tr.steps] at hst ⊢
 have hlsub:=yZu sub
 refine iI func54 rfl rfl (by kernel_rfl) ?_
 simp -implicitDefEqProofs -dsimp only [go_sem,fits]
 refine LoopC.ctr sub.length (fun k fr st' ds => fr 1 = .box [.raw (.int .u8 rule),.sl tl xl,.sl tr xr,.raw (.int .u8 op),.raw (.string fn),.sl ta xa,.sl tb xb,.raw (.bool v),.raw (.string un),.sl tu xu,.raw (.string n),.sl ts xs] ∧ fr 3 = .iv (.raw (.int .i64 ((1 + yQo (sub.take k):Nat):Int))) ∧ fr 4 = .iv (.raw (.int .i64 k)) ∧ st' = st ∧ ds = []) ?_ ?_ ?_
 ·simp -implicitDefEqProofs -dsimp only [go_sem]
  simp [yQo]
 ·rintro k fr st1 _ hlt ⟨f1,f3,f4,rfl,rfl⟩
  obtain ⟨a,ha⟩:=yQ3 hlt
  have ham:=lMg ha
  obtain ⟨z,hkz,hzz⟩:=i3.get ha
  have h1:=zXv ha
  have h2:=zGq sub (k + 1)
  have hcall:=fun st => IH a ham z hzz (by have:=yZi ham; omega) st
  have w7:IntKind.i64.wrap (((1 + yQo (sub.take k):Nat):Int) + ((a.steps:Nat):Int)) = ((1 + yQo (sub.take (k + 1)):Nat):Int):=by rw [w64] <;> omega
  obtain ⟨rule',tl',xl',tr',xr',op',fn',ta',xa',tb',xb',v',un',tu',xu',n',ts',xs',rfl⟩:=yKd hzz
  simp -implicitDefEqProofs -dsimp only [go_sem,f1,f3,f4,i3.len,lt_i hlt,yQ2 e3,iNn,hkz,fits]
  intro _
  refine (hcall _).mono ?_
  rintro _ st2 ⟨rfl,rfl⟩
  simp -implicitDefEqProofs -dsimp only [go_sem,f1,f3,f4,fits,w7,yQ9 hlt (show sub.length ≤ 281474976710656 by omega)]
 ·rintro fr st1 _ ⟨f1,f3,f4,rfl,rfl⟩
  rw [lTl] at f3
  simp -implicitDefEqProofs -dsimp only [go_sem,f1,f3,f4,i3.len,yQm (nLi _)]
  intro _
  exact yQ0 ⟨rfl,rfl⟩
theorem zVq:∀ (k:Nat) (t:Tr),SizeOf.sizeOf t < k → stC gl t
 | 0,t,h => by omega
 | k + 1,.mk r sq f u n sub,h => xZw gl r sq f u n sub (fun a ha => zVq k a (by
   have:=lSm ha
   simp at h; omega))
theorem xK2 (t:Tr):stC gl t:=zVq gl _ t (Nat.lt_succ_self _)
def heC (t:Tr):Prop:=∀ (x:IV) (_:IsTr t x) (_:t.steps ≤ 1099511627776) (st:ISt),ICall prog gl 55 [x] st (fun r st' => r = .raw (.int .i64 t.height) ∧ st' = st)
theorem vZf {l:List Tr} {k:Nat} {a:Tr} (h:l[k]? = some a):yQz (l.take (k + 1)) = max (yQz (l.take k)) a.height:=by
 rw [yQ4 h,yY8]; simp [yQz]
theorem zU8 (rule:Nat) (s:Sq) (f:Fm) (u:Tm) (n:ByteArray) (sub:List Tr) (IH:∀ a ∈ sub,heC gl a):heC gl (.mk rule s f u n sub):=by
 intro x hx hst st
 have hhs:=xQ6 (.mk rule s f u n sub)
 obtain ⟨tl,xl,tr,xr,op,fn,ta,xa,tb,xb,v,un,tu,xu,ts,xs,rfl,hru,e1,i1,e2,i2,hy,hz,e3,i3⟩:=hx.mk
 simp only [Tr.steps,Tr.height] at hst hhs ⊢
 have hlsub:=yZu sub
 refine iI func55 rfl rfl (by kernel_rfl) ?_
 simp -implicitDefEqProofs -dsimp only [go_sem,fits]
 refine LoopC.ctr sub.length (fun k fr st' ds => fr 1 = .box [.raw (.int .u8 rule),.sl tl xl,.sl tr xr,.raw (.int .u8 op),.raw (.string fn),.sl ta xa,.sl tb xb,.raw (.bool v),.raw (.string un),.sl tu xu,.raw (.string n),.sl ts xs] ∧ fr 3 = .iv (.raw (.int .i64 ((yQz (sub.take k):Nat):Int))) ∧ fr 4 = .iv (.raw (.int .i64 k)) ∧ st' = st ∧ ds = []) ?_ ?_ ?_
 ·simp -implicitDefEqProofs -dsimp only [go_sem]
  simp [yQz]
 ·rintro k fr st1 _ hlt ⟨f1,f3,f4,rfl,rfl⟩
  obtain ⟨a,ha⟩:=yQ3 hlt
  have ham:=lMg ha
  obtain ⟨z,hkz,hzz⟩:=i3.get ha
  have h1:=vZf ha
  have hcall:=fun st => IH a ham z hzz (by have:=yZi ham; omega) st
  obtain ⟨rule',tl',xl',tr',xr',op',fn',ta',xa',tb',xb',v',un',tu',xu',n',ts',xs',rfl⟩:=yKd hzz
  simp -implicitDefEqProofs -dsimp only [go_sem,f1,f3,f4,i3.len,lt_i hlt,yQ2 e3,iNn,hkz,fits]
  intro _
  refine (hcall _).mono ?_
  rintro _ st2 ⟨rfl,rfl⟩
  by_cases hg:yQz (sub.take k) < a.height
  ·simp -implicitDefEqProofs -dsimp only [go_sem,f1,f3,f4,fits,lt_i hg,yQ9 hlt (show sub.length ≤ 281474976710656 by omega)]
   rw [h1,Nat.max_eq_right (by omega)]
  ·simp -implicitDefEqProofs -dsimp only [go_sem,f1,f3,f4,fits,yQm hg,yQ9 hlt (show sub.length ≤ 281474976710656 by omega)]
   rw [h1,Nat.max_eq_left (by omega)]
 ·rintro fr st1 _ ⟨f1,f3,f4,rfl,rfl⟩
  rw [lTl] at f3
  have wH:IntKind.i64.wrap (((yQz sub:Nat):Int) + 1) = ((1 + yQz sub:Nat):Int):=by rw [w64] <;> omega
  simp -implicitDefEqProofs -dsimp only [go_sem,f1,f3,f4,i3.len,yQm (nLi _),wH]
  intro _
  exact yQ0 ⟨rfl,rfl⟩
theorem zJ9:∀ (k:Nat) (t:Tr),SizeOf.sizeOf t < k → heC gl t
 | 0,t,h => by omega
 | k + 1,.mk r sq f u n sub,h => zU8 gl r sq f u n sub (fun a ha => zJ9 k a (by
   have:=lSm ha
   simp at h; omega))
theorem xU8 (t:Tr):heC gl t:=zJ9 gl _ t (Nat.lt_succ_self _)
def cuC (t:Tr):Prop:=∀ (x:IV) (_:IsTr t x) (_:t.steps ≤ 1099511627776) (st:ISt),ICall prog gl 56 [x] st (fun r st' => r = .raw (.int .i64 t.cuts) ∧ st' = st)
theorem wVv {l:List Tr} {k:Nat} {a:Tr} (h:l[k]? = some a):yZg (l.take (k + 1)) = yZg (l.take k) + a.cuts:=by
 rw [yQ4 h,yWa]; simp [yZg]
theorem cuLe (l:List Tr) (k:Nat):yZg (l.take k) ≤ yZg l:=by
 conv => rhs; rw [← List.take_append_drop k l]
 rw [yWa]; omega
theorem xWm (rule:Nat) (s:Sq) (f:Fm) (u:Tm) (n:ByteArray) (sub:List Tr) (IH:∀ a ∈ sub,cuC gl a):cuC gl (.mk rule s f u n sub):=by
 intro x hx hst st
 have hhs:=wZc (.mk rule s f u n sub)
 obtain ⟨tl,xl,tr,xr,op,fn,ta,xa,tb,xb,v,un,tu,xu,ts,xs,rfl,hru,e1,i1,e2,i2,hy,hz,e3,i3⟩:=hx.mk
 simp only [Tr.steps,Tr.cuts] at hst hhs ⊢
 have hlsub:=yZu sub
 refine iI func56 rfl rfl (by kernel_rfl) ?_
 by_cases h17:rule = 17
 ·have d17:decide (((rule:Nat):Int) = 17) = true:=dEt (by omega)
  have hc:(if rule = 17 then 1 else 0) = 1:=if_pos h17
  rw [hc] at hhs
  simp -implicitDefEqProofs -dsimp only [go_sem,fits,d17]
  refine LoopC.ctr sub.length (fun k fr st' ds => fr 1 = .box [.raw (.int .u8 rule),.sl tl xl,.sl tr xr,.raw (.int .u8 op),.raw (.string fn),.sl ta xa,.sl tb xb,.raw (.bool v),.raw (.string un),.sl tu xu,.raw (.string n),.sl ts xs] ∧ fr 3 = .iv (.raw (.int .i64 ((1 + yZg (sub.take k):Nat):Int))) ∧ fr 4 = .iv (.raw (.int .i64 k)) ∧ st' = st ∧ ds = []) ?_ ?_ ?_
  ·simp -implicitDefEqProofs -dsimp only [go_sem]
   simp [yZg]
  ·rintro k fr st1 _ hlt ⟨f1,f3,f4,rfl,rfl⟩
   obtain ⟨a,ha⟩:=yQ3 hlt
   have ham:=lMg ha
   obtain ⟨z,hkz,hzz⟩:=i3.get ha
   have h1:=wVv ha
   have h2:=cuLe sub (k + 1)
   have hcall:=fun st => IH a ham z hzz (by have:=yZi ham; omega) st
   have w7:IntKind.i64.wrap (((1 + yZg (sub.take k):Nat):Int) + ((a.cuts:Nat):Int)) = ((1 + yZg (sub.take (k + 1)):Nat):Int):=by rw [w64] <;> omega
   have w8:IntKind.i64.wrap (((yZg (sub.take k):Nat):Int) + ((a.cuts:Nat):Int)) = ((yZg (sub.take (k + 1)):Nat):Int):=by rw [w64] <;> omega
   obtain ⟨rule',tl',xl',tr',xr',op',fn',ta',xa',tb',xb',v',un',tu',xu',n',ts',xs',rfl⟩:=yKd hzz
   simp -implicitDefEqProofs -dsimp only [go_sem,f1,f3,f4,i3.len,lt_i hlt,yQ2 e3,iNn,hkz,fits]
   intro _
   refine (hcall _).mono ?_
   rintro _ st2 ⟨rfl,rfl⟩
   simp -implicitDefEqProofs -dsimp only [go_sem,f1,f3,f4,fits,w7,w8,yQ9 hlt (show sub.length ≤ 281474976710656 by omega)]
  ·rintro fr st1 _ ⟨f1,f3,f4,rfl,rfl⟩
   rw [lTl] at f3
   simp -implicitDefEqProofs -dsimp only [go_sem,f1,f3,f4,i3.len,yQm (nLi _)]
   intro _
   exact yQ0 ⟨by simp [h17],rfl⟩
 ·have d17:decide (((rule:Nat):Int) = 17) = false:=dEf (by omega)
  have hc:(if rule = 17 then 1 else 0) = 0:=if_neg h17
  rw [hc] at hhs
  simp -implicitDefEqProofs -dsimp only [go_sem,fits,d17]
  refine LoopC.ctr sub.length (fun k fr st' ds => fr 1 = .box [.raw (.int .u8 rule),.sl tl xl,.sl tr xr,.raw (.int .u8 op),.raw (.string fn),.sl ta xa,.sl tb xb,.raw (.bool v),.raw (.string un),.sl tu xu,.raw (.string n),.sl ts xs] ∧ fr 3 = .iv (.raw (.int .i64 ((0 + yZg (sub.take k):Nat):Int))) ∧ fr 4 = .iv (.raw (.int .i64 k)) ∧ st' = st ∧ ds = []) ?_ ?_ ?_
  ·simp -implicitDefEqProofs -dsimp only [go_sem]
   simp [yZg]
  ·rintro k fr st1 _ hlt ⟨f1,f3,f4,rfl,rfl⟩
   obtain ⟨a,ha⟩:=yQ3 hlt
   have ham:=lMg ha
   obtain ⟨z,hkz,hzz⟩:=i3.get ha
   have h1:=wVv ha
   have h2:=cuLe sub (k + 1)
   have hcall:=fun st => IH a ham z hzz (by have:=yZi ham; omega) st
   have w7:IntKind.i64.wrap (((0 + yZg (sub.take k):Nat):Int) + ((a.cuts:Nat):Int)) = ((0 + yZg (sub.take (k + 1)):Nat):Int):=by rw [w64] <;> omega
   have w8:IntKind.i64.wrap (((yZg (sub.take k):Nat):Int) + ((a.cuts:Nat):Int)) = ((yZg (sub.take (k + 1)):Nat):Int):=by rw [w64] <;> omega
   obtain ⟨rule',tl',xl',tr',xr',op',fn',ta',xa',tb',xb',v',un',tu',xu',n',ts',xs',rfl⟩:=yKd hzz
   simp -implicitDefEqProofs -dsimp only [go_sem,f1,f3,f4,i3.len,lt_i hlt,yQ2 e3,iNn,hkz,fits]
   intro _
   refine (hcall _).mono ?_
   rintro _ st2 ⟨rfl,rfl⟩
   simp -implicitDefEqProofs -dsimp only [go_sem,f1,f3,f4,fits,w7,w8,yQ9 hlt (show sub.length ≤ 281474976710656 by omega)]
  ·rintro fr st1 _ ⟨f1,f3,f4,rfl,rfl⟩
   rw [lTl] at f3
   simp -implicitDefEqProofs -dsimp only [go_sem,f1,f3,f4,i3.len,yQm (nLi _)]
   intro _
   exact yQ0 ⟨by simp [h17],rfl⟩
theorem zUa:∀ (k:Nat) (t:Tr),SizeOf.sizeOf t < k → cuC gl t
 | 0,t,h => by omega
 | k + 1,.mk r sq f u n sub,h => xWm gl r sq f u n sub (fun a ha => zUa k a (by
   have:=lSm ha
   simp at h; omega))
theorem wY9 (t:Tr):cuC gl t:=zUa gl _ t (Nat.lt_succ_self _)
theorem yU1 (p:List Nat):∀ (i:Nat) (l m:List Tr),yZ1 p i (l ++ m) = yZ1 p i l ++ yZ1 p (i + l.length) m
 | i,[],m => by simp [yZ1]
 | i,a :: l,m => by
  simp only [List.cons_append,yZ1,yU1 p (i + 1) l m,List.append_assoc,List.length_cons]
  rw [show i + 1 + l.length = i + (l.length + 1) by omega]
theorem xVs {p:List Nat} {l:List Tr} {k:Nat} {a:Tr} (h:l[k]? = some a):yZ1 p 0 (l.take (k + 1)) = yZ1 p 0 (l.take k) ++ a.walk (p ++ [k]):=by
 have hk:=(lGs h).1
 rw [yQ4 h,yU1]
 simp only [yZ1,List.append_nil,List.length_take,Nat.zero_add]
 rw [Nat.min_eq_left (by omega)]
theorem zWu (p:List Nat) (l:List Tr) (k:Nat):∃ m,yZ1 p 0 l = yZ1 p 0 (l.take k) ++ m:=by
 refine ⟨yZ1 p (0 + (l.take k).length) (l.drop k),?_⟩
 rw [← yU1,List.take_append_drop]
def fiC (ca:Nat) (t:Tr):Prop:=∀ (x:IV) (_:IsTr t x) (_:okT t = true) (_:t.steps ≤ 1000) (p:List Nat) (tg:Tag) (_:okEs tg 1) (_:p.length + t.steps ≤ 3000) (st:ISt),
 ICall prog gl 115 [.raw (.int .u8 ca),x,.sl tg (plI p)] st (fun r st' => (∃ tg',r = .tup [.sl tg' (plI (yZ0 (yZe ca) (t.walk p)).1),.raw (.int .i64 (yZ0 (yZe ca) (t.walk p)).2)] ∧ okEs tg' 1) ∧ st' = st)
set_option maxHeartbeats 1000000 in
theorem wZ3 (G:Gl gl) (ca:Nat) (rule:Nat) (s:Sq) (f:Fm) (u:Tm) (n:ByteArray) (sub:List Tr) (IH:∀ a ∈ sub,fiC gl ca a):fiC gl ca (.mk rule s f u n sub):=by
 intro x hx hok hst p tg htg hpl st
 have hWr:=fun st => wXu gl G ca _ x hx (xUm hok) (zVy hok) (wJ9 hok) (by omega) st
 obtain ⟨tl,xl,tr,xr,op,fn,ta,xa,tb,xb,v,un,tu,xu,ts,xs,rfl,hru,e1,i1,e2,i2,hy,hz,e3,i3⟩:=hx.mk
 have hok2:okTs sub = true:=by
  simp only [okT,bAt] at hok
  exact hok.2
 have hwalk:(Tr.mk rule s f u n sub).walk p = (p,.mk rule s f u n sub) :: yZ1 p 0 sub:=by simp only [Tr.walk]
 rw [hwalk]
 simp only [Tr.steps] at hst hpl
 have hlsub:=yZu sub
 refine ICall.intro (c:=cf prog gl [] [(7,[0,1,2,3,4,5,6,7,9,10,8,11,12,13,14,15,16,17])]) func115 rfl (by show _ ≤ 46; simp) (by kernel_rfl) ?_
 simp -implicitDefEqProofs -dsimp only [go_sem,fits]
 refine (hWr _).mono ?_
 rintro _ st ⟨rfl,rfl⟩
 by_cases h0:yZe ca (.mk rule s f u n sub) = 0
 case neg =>
  have k0:decide (((yZe ca (.mk rule s f u n sub):Nat):Int) = 0) = false:=dEf (by omega)
  have hq:yZ0 (yZe ca) ((p,.mk rule s f u n sub) :: yZ1 p 0 sub) = (p,yZe ca (.mk rule s f u n sub)):=by simp only [yZ0,if_neg h0]
  rw [hq]
  simp -implicitDefEqProofs -dsimp only [go_sem,fits,k0]
  exact yQ0 ⟨⟨_,rfl,htg⟩,rfl⟩
 have k0:decide (((yZe ca (.mk rule s f u n sub):Nat):Int) = 0) = true:=dEt (by omega)
 have hq:yZ0 (yZe ca) ((p,.mk rule s f u n sub) :: yZ1 p 0 sub) = yZ0 (yZe ca) (yZ1 p 0 sub):=by simp only [yZ0,if_pos h0]
 rw [hq]
 simp -implicitDefEqProofs -dsimp only [go_sem,fits,k0]
 refine LoopC.ctr sub.length (fun k fr st' ds => yZ0 (yZe ca) (yZ1 p 0 (sub.take k)) = ([],0) ∧ subSt st st' ∧ fr 0 = .iv (.raw (.int .u8 ca)) ∧ fr 2 = .iv (.sl tg (plI p)) ∧ fr 4 = .box [.raw (.int .u8 rule),.sl tl xl,.sl tr xr,.raw (.int .u8 op),.raw (.string fn),.sl ta xa,.sl tb xb,.raw (.bool v),.raw (.string un),.sl tu xu,.raw (.string n),.sl ts xs] ∧ fr 9 = .iv (.raw (.int .i64 k)) ∧ ds = []) ?_ ?_ ?_
 ·simp -implicitDefEqProofs -dsimp only [go_sem]
  exact ⟨rfl,subSt.refl _,rfl⟩
 ·rintro k fr st1 _ hlt ⟨hk,hsub,f0,f2,f4,f9,rfl⟩
  obtain ⟨a,ha⟩:=yQ3 hlt
  have ham:=lMg ha
  obtain ⟨z,hkz,hzz⟩:=i3.get ha
  have hsa:=yZi ham
  have hIH:=fun tg ht st => IH a ham z hzz (yGb hok2 ham) (by omega) (p ++ [k]) tg ht (by simp only [lLa,List.length_cons,List.length_nil]; omega) st
  have hat:=xVs (p:=p) ha
  obtain ⟨mm,hmm⟩:=zWu p sub (k + 1)
  have hpk:plI (p ++ [k]) = plI p ++ [.raw (.int .i64 k)]:=by simp [plI]
  have hfit:(plI p).all (fits false 1) = true:=by
   rw [List.all_eq_true]
   intro y hy
   obtain ⟨i,_,rfl⟩:=List.mem_map.1 hy
   rfl
  obtain ⟨rule',tl',xl',tr',xr',op',fn',ta',xa',tb',xb',v',un',tu',xu',n',ts',xs',rfl⟩:=yKd hzz
  rw [hpk] at hIH
  simp -implicitDefEqProofs -dsimp only [go_sem,f0,f2,f4,f9,i3.len,lt_i hlt,yQ2 e3,iNn,hkz,fits,yQ1,show yV1 0 [] = true from rfl]
  intros
  refine yKw (n:=0) (own.full st1 st 0 1) rfl (yKi p) hsub rfl hfit (by simp only; omega) (by omega) fun tg2 st4 hown2 hsub4 _ => ?_
  simp -implicitDefEqProofs -dsimp only [go_sem,f0,f2,f4,f9,fits,yQ1]
  refine yXd hown2 (by simp [yKi]) hsub4 rfl (by simp [fits,IV.one]) (by simp only; omega) (by omega) fun tg3 st5 hown3 hsub5 _ _ => ?_
  have hcall:=hIH tg3 hown3.es st5
  simp -implicitDefEqProofs -dsimp only [go_sem,f0,f2,f4,f9,fits]
  refine hcall.mono ?_
  rintro _ _ ⟨⟨tg6,rfl,htg6⟩,rfl⟩
  by_cases hz0:(yZ0 (yZe ca) (a.walk (p ++ [k]))).2 = 0
  ·have k2:decide ((((yZ0 (yZe ca) (a.walk (p ++ [k]))).2:Nat):Int) = 0) = true:=dEt (by omega)
   simp -implicitDefEqProofs -dsimp only [go_sem,f0,f2,f4,f9,fits,k2,yQ9 hlt (show sub.length ≤ 281474976710656 by omega)]
   refine ⟨?_,hsub5⟩
   rw [hat,yXo,hk]
   simp only [if_true]
   exact zQj _ _ hz0
  ·have k2:decide ((((yZ0 (yZe ca) (a.walk (p ++ [k]))).2:Nat):Int) = 0) = false:=dEf (by omega)
   have hres:yZ0 (yZe ca) (yZ1 p 0 sub) = yZ0 (yZe ca) (a.walk (p ++ [k])):=by
    rw [hmm,yXo,hat,yXo,hk]
    simp only [if_true,if_neg hz0]
   simp -implicitDefEqProofs -dsimp only [go_sem,f0,f2,f4,f9,fits,k2]
   exact yQb (st':=st) hsub5 ⟨⟨_,by rw [hres],htg6⟩,rfl⟩
 ·rintro fr st1 _ ⟨hk,hsub,f0,f2,f4,f9,rfl⟩
  rw [lTl] at hk
  rw [hk]
  simp -implicitDefEqProofs -dsimp only [go_sem,f0,f2,f4,f9,i3.len,yQm (nLi _)]
  intros
  exact yQb (st':=st) hsub ⟨⟨_,rfl,.inl rfl⟩,rfl⟩
theorem xVd (G:Gl gl) (ca:Nat):∀ (k:Nat) (t:Tr),SizeOf.sizeOf t < k → fiC gl ca t
 | 0,t,h => by omega
 | k + 1,.mk r sq f u n sub,h => wZ3 gl G ca r sq f u n sub (fun a ha => xVd G ca k a (by
   have:=lSm ha
   simp at h; omega))
theorem wXx (G:Gl gl) (ca:Nat) (t:Tr) (x:IV) (hx:IsTr t x) (hok:okT t = true) (hst:t.steps ≤ 1000) (st:ISt) :
  ICall prog gl 53 [.raw (.int .u8 ca),x] st (fun r st' => (∃ tg,r = .tup [.sl tg (plI (yXe ca t).1),.raw (.int .i64 (yXe ca t).2)] ∧ okEs tg 1) ∧ st' = st):=by
 have hF:=fun st => xVd gl G ca _ t (Nat.lt_succ_self _) x hx hok hst [] ⟨true,.nil,0⟩ (.inl rfl) (by simp only [List.length_nil]; omega) st
 have hS:=fun st => xK2 gl t x hx (by omega) st
 obtain ⟨rule',tl',xl',tr',xr',op',fn',ta',xa',tb',xb',v',un',tu',xu',n',ts',xs',rfl⟩:=yKd hx
 have k1:decide (((ca:Nat):Int) < 1) = decide (ca < 1):=by rw [decide_eq_decide]; omega
 have k2:decide ((3:Int) < ((ca:Nat):Int)) = decide (3 < ca):=by rw [decide_eq_decide]; omega
 refine iI func53 rfl rfl (by kernel_rfl) ?_
 cases hk:yXi ca
 ·rw [zX1 ca t hk]
  by_cases q1:ca < 1
  ·have q1:=dEt q1
   simp -implicitDefEqProofs -dsimp only [go_sem,fits,k1,q1]
   intros
   exact yQ0 ⟨⟨_,rfl,.inl rfl⟩,rfl⟩
  ·have q2:decide (3 < ca) = true:=dEt (by simp only [yXi,Bool.and_eq_false_iff,decide_eq_false_iff_not] at hk; omega)
   have q1:=dEf q1
   simp -implicitDefEqProofs -dsimp only [go_sem,fits,k1,k2,q1,q2]
   intros
   exact yQ0 ⟨⟨_,rfl,.inl rfl⟩,rfl⟩
 have hkk:=hk
 simp only [yXi,bAt,dTe] at hkk
 have q1:decide (ca < 1) = false:=dEf (by omega)
 have q2:decide (3 < ca) = false:=dEf (by omega)
 simp -implicitDefEqProofs -dsimp only [go_sem,fits,k1,k2,q1,q2]
 intros
 refine (hS _).mono ?_
 rintro _ st ⟨rfl,rfl⟩
 by_cases h3:300 < t.steps
 ·have k3:decide ((300:Int) < ((t.steps:Nat):Int)) = true:=dEt (by omega)
  have hC:yXe ca t = ([],5):=by unfold yXe; rw [hk,if_pos h3]; rfl
  rw [hC]
  simp -implicitDefEqProofs -dsimp only [go_sem,fits,k3]
  exact yQ0 ⟨⟨_,rfl,.inl rfl⟩,rfl⟩
 ·have k3:decide ((300:Int) < ((t.steps:Nat):Int)) = false:=dEf (by omega)
  have hC:yXe ca t = yZ0 (yZe ca) (t.walk []):=by unfold yXe; rw [hk,if_neg h3]; rfl
  rw [hC]
  simp -implicitDefEqProofs -dsimp only [go_sem,fits,k3]
  refine (hF _).mono ?_
  rintro _ st ⟨⟨tg,rfl,htg⟩,rfl⟩
  simp -implicitDefEqProofs -dsimp only [go_sem,fits]
  exact yQ0 ⟨⟨_,rfl,htg⟩,rfl⟩
end Go.Proofs.Tryz
namespace Go.Proofs.Tryz
open Go Go.Iv
set_option maxRecDepth 8000
theorem yKp {ca:Nat} {s:Sq} {rule:Nat} {main:Fm} {term:Tm} {name:ByteArray} {r:Rw} {ad:List Sq} (h1:yX8 ca s = true) (h2:rowS ca rule = some r) (h3:yZh ca rule r main term name = (ad,0))
  (h4:r.left = true → hasF s.l main = true) (h5:r.right = true → hasF s.r main = true) (h6:r.asks ≠ 2):yZl ca s rule main term name = (ad,0):=by
 unfold yZl
 rw [h1,h2]
 simp only [Bool.not_true,bFt,if_false,h3]
 obtain ⟨rl,rr,op,asks⟩:=r
 simp only at h4 h5 h6 ⊢
 have e1:(rl && !hasF s.l main) = false:=by
  cases rl
  ·rfl
  ·rw [h4 rfl]; rfl
 have e2:(rr && !hasF s.r main) = false:=by
  cases rr
  ·rfl
  ·rw [h5 rfl]; rfl
 rw [e1,e2,dEf h6]
 rfl
theorem yJ3 {l:List Fm} {f:Fm} (h:f ∈ l) (hr:f.right = true):hasF l f = true:=xQ7.2 ⟨f,h,xVg hr⟩
def zP:Fm:=.mk 1 ⟨#[80]⟩ [] []
def zQ:Fm:=.mk 1 ⟨#[81]⟩ [] []
def zI:Fm:=.mk 6 ⟨#[]⟩ [] [zP,zQ]
def tm0:Tm:=.mk false ⟨#[]⟩ []
def trP:Tr:=.mk 1 ⟨[zP,zI],[zP]⟩ zP tm0 ⟨#[]⟩ []
def trQ:Tr:=.mk 1 ⟨[zP,zQ],[zQ]⟩ zQ tm0 ⟨#[]⟩ []
def trA:Tr:=.mk 9 ⟨[zP,zI],[zQ]⟩ zI tm0 ⟨#[]⟩ [trP,trQ]
def row1:Rw:=⟨true,true,0,0⟩
def row9:Rw:=⟨true,false,6,0⟩
theorem yGe {f:Fm} (h:f.right = true):zZ7 [f] = true:=by simp [zZ7,xVg h]
theorem zQt {s:Sq} (h:(decide (s.l.length ≤ 64) && decide (s.r.length ≤ 64) && s.l.all (fmB 1) && s.r.all (fmB 1)) = true):yX8 1 s = true:=by
 unfold yX8
 rw [show yXi 1 = true from rfl,Bool.true_and,h]; rfl
theorem zWv {s:Sq} (h:(decide (s.l.length ≤ 64) && decide (s.r.length ≤ 64) && s.l.all (fmB 2) && s.r.all (fmB 2)) = true) (h2:zZ7 s.r = true):yX8 2 s = true:=by
 unfold yX8
 rw [show yXi 2 = true from rfl,Bool.true_and,h,h2]; rfl
theorem wWn:yZl 1 ⟨[zP,zI],[zP]⟩ 1 zP tm0 ⟨#[]⟩ = ([],0):=yKp (r:=row1) (zQt (by decide)) rfl (by rfl) (fun _ => yJ3 (by simp) (by decide)) (fun _ => yJ3 (by simp) (by decide)) (by decide)
theorem wWm:yZl 2 ⟨[zP,zI],[zP]⟩ 1 zP tm0 ⟨#[]⟩ = ([],0):=yKp (r:=row1) (zWv (by decide) (yGe (by decide))) rfl (by rfl) (fun _ => yJ3 (by simp) (by decide)) (fun _ => yJ3 (by simp) (by decide)) (by decide)
theorem wWl:yZl 1 ⟨[zP,zQ],[zQ]⟩ 1 zQ tm0 ⟨#[]⟩ = ([],0):=yKp (r:=row1) (zQt (by decide)) rfl (by rfl) (fun _ => yJ3 (by simp) (by decide)) (fun _ => yJ3 (by simp) (by decide)) (by decide)
theorem wWk:yZl 2 ⟨[zP,zQ],[zQ]⟩ 1 zQ tm0 ⟨#[]⟩ = ([],0):=yKp (r:=row1) (zWv (by decide) (yGe (by decide))) rfl (by rfl) (fun _ => yJ3 (by simp) (by decide)) (fun _ => yJ3 (by simp) (by decide)) (by decide)
theorem wWs:yZl 1 ⟨[zP,zI],[zQ]⟩ 9 zI tm0 ⟨#[]⟩ = ([⟨[],[zP]⟩,⟨[zQ],[]⟩],0):=yKp (r:=row9) (zQt (by decide)) rfl (by rfl) (fun _ => yJ3 (by simp) (by decide)) (fun h => by cases h) (by decide)
theorem wWr:yZl 2 ⟨[zP,zI],[zQ]⟩ 9 zI tm0 ⟨#[]⟩ = ([⟨[],[zP]⟩,⟨[zQ],[]⟩],0):=yKp (r:=row9) (zWv (by decide) (yGe (by decide))) rfl (by rfl) (fun _ => yJ3 (by simp) (by decide)) (fun h => by cases h) (by decide)
theorem yUn {l m:List Fm} (h:∀ f ∈ l,f ∈ m ∧ f.right = true):allF l m = true:=List.all_eq_true.2 fun f hf => yJ3 (h f hf).1 (h f hf).2
theorem yKc {ca rule:Nat} {s:Sq} {main:Fm} {term:Tm} {name:ByteArray} {sub:List Tr} {ad:List Sq} (h:yZl ca s rule main term name = (ad,0)) (hl:sub.length = ad.length) (hp:yXn s ad sub = true):yZe ca (.mk rule s main term name sub) = 0:=by
 simp only [yZe]
 rw [h]
 simp only [ne_eq,nTf,if_false,hl,hp,if_true]
theorem zQx:zP.right = true:=by decide
theorem xU4:zQ.right = true:=by decide
theorem wY4:zI.right = true:=by decide
theorem xUe:yXn ⟨[zP,zI],[zQ]⟩ [⟨[],[zP]⟩,⟨[zQ],[]⟩] [trP,trQ] = true:=by
 have a1:allF [zP,zI] [zP,zI] = true:=yUn fun f hf => by
  simp only [List.mem_cons,List.not_mem_nil,or_false] at hf
  rcases hf with rfl | rfl
  ·exact ⟨by simp,zQx⟩
  ·exact ⟨by simp,wY4⟩
 have a2:allF [zP] [zQ,zP] = true:=yUn fun f hf => by
  simp only [List.mem_cons,List.not_mem_nil,or_false] at hf
  subst hf
  exact ⟨by simp,zQx⟩
 have a3:allF [zP,zQ] [zP,zI,zQ] = true:=yUn fun f hf => by
  simp only [List.mem_cons,List.not_mem_nil,or_false] at hf
  rcases hf with rfl | rfl
  ·exact ⟨by simp,zQx⟩
  ·exact ⟨by simp,xU4⟩
 have a4:allF [zQ] [zQ] = true:=yUn fun f hf => by
  simp only [List.mem_cons,List.not_mem_nil,or_false] at hf
  subst hf
  exact ⟨by simp,xU4⟩
 simp only [yXn,trP,trQ,Tr.sq,Sq.plus,yJm,List.append_nil,List.cons_append,List.nil_append,a1,a2,a3,a4,Bool.and_self]
theorem wKe:yZe 1 trA = 0:=yKc wWs rfl xUe
theorem wKd:yZe 2 trA = 0:=yKc wWr rfl xUe
theorem wK9:yZe 1 trP = 0:=yKc wWn rfl rfl
theorem wK8:yZe 2 trP = 0:=yKc wWm rfl rfl
theorem wK7:yZe 1 trQ = 0:=yKc wWl rfl rfl
theorem wK6:yZe 2 trQ = 0:=yKc wWk rfl rfl
theorem wV1:trA.walk [] = [([],trA),([0],trP),([1],trQ)]:=rfl
theorem wKz:yXe 1 trA = ([],0):=by
 unfold yXe
 rw [wV1]
 simp only [yZ0,wKe,wK9,wK7,if_true]
 rfl
theorem wKy:yXe 2 trA = ([],0):=by
 unfold yXe
 rw [wV1]
 simp only [yZ0,wKd,wK8,wK6,if_true]
 rfl
theorem wWj:trA.steps = 3:=rfl
theorem wJr:trA.height = 2:=rfl
theorem vXi:trA.cuts = 0:=rfl
def zN:Fm:=.mk 3 ⟨#[]⟩ [] [zP]
def zO:Fm:=.mk 5 ⟨#[]⟩ [] [zP,zN]
def trE1:Tr:=.mk 1 ⟨[zP],[zP]⟩ zP tm0 ⟨#[]⟩ []
def trE2:Tr:=.mk 4 ⟨[],[zP,zN]⟩ zN tm0 ⟨#[]⟩ [trE1]
def trE:Tr:=.mk 8 ⟨[],[zO]⟩ zO tm0 ⟨#[]⟩ [trE2]
theorem wWq:yZl 1 ⟨[zP],[zP]⟩ 1 zP tm0 ⟨#[]⟩ = ([],0):=yKp (r:=row1) (zQt (by decide)) rfl (by rfl) (fun _ => yJ3 (by simp) (by decide)) (fun _ => yJ3 (by simp) (by decide)) (by decide)
theorem wWp:yZl 1 ⟨[],[zP,zN]⟩ 4 zN tm0 ⟨#[]⟩ = ([⟨[zP],[]⟩],0):=yKp (r:=⟨false,true,3,0⟩) (zQt (by decide)) rfl (by rfl) (fun h => by cases h) (fun _ => yJ3 (by simp) (by decide)) (by decide)
theorem vQg:yZl 1 ⟨[],[zO]⟩ 8 zO tm0 ⟨#[]⟩ = ([⟨[],[zP,zN]⟩],0):=yKp (r:=⟨false,true,5,0⟩) (zQt (by decide)) rfl (by rfl) (fun h => by cases h) (fun _ => yJ3 (by simp) (by decide)) (by decide)
theorem wWo:yZl 2 ⟨[],[zO]⟩ 8 zO tm0 ⟨#[]⟩ = ([⟨[],[zP]⟩],0):=yKp (r:=⟨false,true,5,0⟩) (zWv (by decide) (yGe (by decide))) rfl (by rfl) (fun h => by cases h) (fun _ => yJ3 (by simp) (by decide)) (by decide)
theorem wY3:zN.right = true:=by decide
theorem vXv (l:List Fm):allF [zP,zN] (l ++ [zP,zN]) = true:=yUn fun f hf => by
 simp only [List.mem_cons,List.not_mem_nil,or_false] at hf
 rcases hf with rfl | rfl
 ·exact ⟨by simp,zQx⟩
 ·exact ⟨by simp,wY3⟩
theorem wKc:yZe 1 trE1 = 0:=yKc wWq rfl rfl
theorem wKb:yZe 1 trE2 = 0:=yKc wWp rfl (by
 have a1:allF [zP] [zP] = true:=yUn fun f hf => by
  simp only [List.mem_cons,List.not_mem_nil,or_false] at hf
  subst hf
  exact ⟨by simp,zQx⟩
 have a2:allF [zP] [zP,zN] = true:=yUn fun f hf => by
  simp only [List.mem_cons,List.not_mem_nil,or_false] at hf
  subst hf
  exact ⟨by simp,zQx⟩
 simp only [yXn,trE1,Tr.sq,Sq.plus,yJm,List.append_nil,List.nil_append,a1,a2,Bool.and_self])
theorem wGf:yZe 1 trE = 0:=yKc vQg rfl (by
 have a1:allF [] [] = true:=rfl
 simp only [yXn,trE2,Tr.sq,Sq.plus,yJm,List.nil_append,a1,vXv [zO],Bool.and_self])
theorem wV0:trE.walk [] = [([],trE),([0],trE2),([0,0],trE1)]:=rfl
theorem wKx:yXe 1 trE = ([],0):=by
 unfold yXe
 rw [wV0]
 simp only [yZ0,wGf,wKc,wKb,if_true]
 rfl
theorem wKa:yZe 2 trE = 195:=by
 have h1:hasF [zO,zP] zN = false:=by
  simp [hasF,eqF,zN,zO,zP,Fm.op]
 have h2:yXn ⟨[],[zO]⟩ [⟨[],[zP]⟩] [trE2] = false:=by
  have h3:allF [zP,zN] [zO,zP] = false:=List.all_eq_false.2 ⟨zN,by simp,by rw [h1]; simp⟩
  simp only [yXn,trE2,Tr.sq,Sq.plus,yJm,List.cons_append,List.nil_append,h3,Bool.and_false,Bool.false_and]
 unfold trE
 simp only [yZe]
 rw [wWo]
 simp only [h2]
 rfl
theorem wKw:yXe 2 trE = ([],195):=by
 unfold yXe
 rw [wV0]
 simp only [yZ0,wKa]
 rfl
theorem xJt {ca:Nat} {s:Sq} {rule:Nat} {main:Fm} {term:Tm} {name:ByteArray} {r:Rw} {ad:List Sq} (h1:yX8 ca s = true) (h2:rowS ca rule = some r) (h3:yZh ca rule r main term name = (ad,0))
  (h4:r.left = true → hasF s.l main = true) (h5:r.right = true → hasF s.r main = true) (h6:r.asks = 2):yZl ca s rule main term name = if yJx s name then ([],193) else (ad,0):=by
 unfold yZl
 rw [h1,h2]
 simp only [Bool.not_true,bFt,if_false,h3]
 obtain ⟨rl,rr,op,asks⟩:=r
 simp only at h4 h5 h6 ⊢
 have e1:(rl && !hasF s.l main) = false:=by
  cases rl
  ·rfl
  ·rw [h4 rfl]; rfl
 have e2:(rr && !hasF s.r main) = false:=by
  cases rr
  ·rfl
  ·rw [h5 rfl]; rfl
 rw [e1,e2,dEt h6,Bool.true_and]
 rfl
def qx:ByteArray:=⟨#[120]⟩
def qy:ByteArray:=⟨#[121]⟩
def qu:ByteArray:=⟨#[117]⟩
def zX:Fm:=.mk 8 qx [] [.mk 1 ⟨#[81]⟩ [.mk true qx []] []]
def zY:Fm:=.mk 9 qy [] [.mk 1 ⟨#[82]⟩ [.mk true qy [],.mk true qu []] []]
def zU:Fm:=.mk 1 ⟨#[81]⟩ [.mk true qu []] []
theorem wVz:yZh 3 14 ⟨false,true,8,2⟩ zX tm0 qu = ([⟨[],[zU]⟩],0):=rfl
theorem xG6 {s:Sq} (h:(decide (s.l.length ≤ 64) && decide (s.r.length ≤ 64) && s.l.all (fmB 3) && s.r.all (fmB 3)) = true):yX8 3 s = true:=by
 unfold yX8
 rw [show yXi 3 = true from rfl,Bool.true_and,h]; rfl
theorem vJ8:xYy 3 ⟨[zP],[zX]⟩ 14 zX tm0 qu = ([⟨[zP],[zX,zU]⟩],0):=by
 have h:=xJt (ca:=3) (s:=⟨[zP],[zX]⟩) (rule:=14) (main:=zX) (term:=tm0) (name:=qu) (xG6 (by decide)) rfl wVz (fun h => by cases h) (fun _ => yJ3 (by simp) (by decide)) rfl
 have hf:yJx ⟨[zP],[zX]⟩ qu = false:=by decide
 rw [hf] at h
 unfold xYy
 rw [h]
 rfl
theorem vJ7:xYy 3 ⟨[zY],[zX]⟩ 14 zX tm0 qu = ([],193):=by
 have h:=xJt (ca:=3) (s:=⟨[zY],[zX]⟩) (rule:=14) (main:=zX) (term:=tm0) (name:=qu) (xG6 (by decide)) rfl wVz (fun h => by cases h) (fun _ => yJ3 (by simp) (by decide)) rfl
 have hf:yJx ⟨[zY],[zX]⟩ qu = true:=by decide
 rw [hf] at h
 unfold xYy
 rw [h]
 rfl
def zD:Fm:=.mk 4 ⟨#[]⟩ [] [zP,zQ]
theorem vZ1:zJe zP = zP:=rfl
theorem vZ2:zJe zD = zD:=rfl
theorem uVv:SetS ⟨[zD,zD,zP],[]⟩ = (⟨[zP,zD],[]⟩,0):=by
 have hs:SetF [zD,zD,zP] [zP,zD]:=by
  refine ⟨?_,fun f => ?_⟩
  ·refine List.pairwise_cons.2 ⟨fun f hf => ?_,List.pairwise_singleton ..⟩
   obtain rfl:=List.mem_singleton.1 hf
   simp [zP,zD,yXr,cmpN,lexI]
  ·simp only [List.mem_cons,List.not_mem_nil,or_false]
   constructor
   ·rintro (h | h)
    ·exact .inr (.inr h)
    ·exact .inl h
   ·rintro (h | h | h)
    ·exact .inr h
    ·exact .inr h
    ·exact .inl h
 have h1:yX6 [zD,zD,zP] = ([zP,zD],0):=by
  unfold yX6
  rw [show [zD,zD,zP].all Fm.right = true by decide]
  simp only [if_true,List.map_cons,List.map_nil,vZ1,vZ2,xZs hs]
 have h2:yX6 [] = ([],0):=by
  unfold yX6
  simp only [List.all_nil,if_true,List.map_nil,xJw]
 unfold SetS
 simp only [h1,h2,ne_eq,nTf,if_false]
end Go.Proofs.Tryz
namespace Go.Proofs.Tryz
open Go Go.Iv
set_option maxRecDepth 4000
def tagR:List Tr → Tag
 | [] => ⟨true,.nil,0⟩
 | _ :: _ => ⟨true,.full,12⟩
theorem wWg (l:List Tr):okEs (tagR l) 12:=by cases l <;> simp [tagR,okEs]
mutual
def trI:Tr → IV
 | .mk rule s (.mk o fn us fs) (.mk v un ts) n sub => .agg [.raw (.int .u8 rule),.sl (tagF s.l) (fmsI s.l),.sl (tagF s.r) (fmsI s.r),.raw (.int .u8 o),.raw (.string fn),.sl (tagT us) (tmsI us),.sl (tagF fs) (fmsI fs),.raw (.bool v),.raw (.string un),.sl (tagT ts) (tmsI ts),.raw (.string n),.sl (tagR sub) (trsI sub)]
def trsI:List Tr → List IV
 | [] => []
 | a :: l => trI a :: trsI l
end
mutual
def bytT:Tr → Bool
 | .mk rule s f _ _ sub => decide (rule < 256) && zVx s.l && zVx s.r && wJ6 f && wKh sub
def wKh:List Tr → Bool
 | [] => true
 | a :: l => bytT a && wKh l
end
mutual
theorem xGb:∀ t:Tr,bytT t = true → IsTr t (trI t)
 | .mk rule s (.mk o fn us fs) (.mk v un ts) n sub,h => by
  simp only [bytT,bAt,dTe] at h
  obtain ⟨⟨⟨⟨h1,h2⟩,h3⟩,h4⟩,h5⟩:=h
  have hf:=xV7 (.mk o fn us fs) h4
  have ht:=xJp (.mk v un ts)
  simp only [fmI] at hf
  simp only [tmI] at ht
  simp only [IsTr]
  exact ⟨tagF s.l,fmsI s.l,tagF s.r,fmsI s.r,o,fn,tagT us,tmsI us,tagF fs,fmsI fs,v,un,tagT ts,tmsI ts,tagR sub,trsI sub,by simp only [trI],h1,yKh _,yKa _ h2,yKh _,yKa _ h3,hf,ht,wWg _,xGa sub h5⟩
theorem xGa:∀ l:List Tr,wKh l = true → IsTrs l (trsI l)
 | [],_ => rfl
 | a :: l,h => by
  simp only [wKh,bAt] at h
  exact ⟨_,_,by simp only [trsI],xGb a h.1,xGa l h.2⟩
end
def fitB (l:List Fm):Bool:=l.all fun f => decide (f.size ≤ 1000000)
theorem zV8 {l:List Fm} (h:fitB l = true):fitL l:=fun g hg => of_decide_eq_true (List.all_eq_true.1 h g hg)
def xUq:Tr → Bool
 | .mk _ s m u _ sub => fitB s.l && fitB s.r && decide (m.size ≤ 1000000) && decide (u.size ≤ 1000000) && sub.all fun a => fitB a.sq.l && fitB a.sq.r
theorem vZ3 {t:Tr} (h:xUq t = true):zUl t:=by
 obtain ⟨rule,s,m,u,n,sub⟩:=t
 simp only [xUq,bAt,dTe,List.all_eq_true] at h
 obtain ⟨⟨⟨⟨h1,h2⟩,h3⟩,h4⟩,h5⟩:=h
 exact ⟨⟨zV8 h1,zV8 h2⟩,h3,h4,fun a ha => ⟨zV8 (h5 a ha).1,zV8 (h5 a ha).2⟩⟩
theorem wZ0 {t:Tr} (h:(t.walk []).all (fun q => xUq q.2) = true) (hh:t.height ≤ 1099511627776):wZ1 t:=⟨fun q hq => vZ3 (List.all_eq_true.1 h q hq),hh⟩
theorem vXe:wZ1 trA:=wZ0 (by decide) (by decide)
theorem vXd:wZ1 trE:=wZ0 (by decide) (by decide)
theorem is_A:IsTr trA (trI trA):=xGb trA (by decide)
theorem is_E:IsTr trE (trI trE):=xGb trE (by decide)
end Go.Proofs.Tryz
namespace Go.Proofs.Tryz
open Go Go.Iv
set_option maxRecDepth 4000
variable (gl:Nat → Option IV)
theorem yQl (x y z:Operand):yV1 3 [(0,x),(1,y),(2,z)] = true:=rfl
theorem wJ0 (G:Gl gl) (T:Gt gl) (st:ISt):ICall prog gl 16 [] st (fun r st' => r = .raw (.bool true) ∧ st' = st):=by
 have hA1:=fun st => zKs gl G T 1 trA (trI trA) is_A vXe st
 have hA2:=fun st => zKs gl G T 2 trA (trI trA) is_A vXe st
 have hE1:=fun st => zKs gl G T 1 trE (trI trE) is_E vXd st
 have hE2:=fun st => zKs gl G T 2 trE (trI trE) is_E vXd st
 simp only [wKz] at hA1
 simp only [wKy] at hA2
 simp only [wKx] at hE1
 simp only [wKw] at hE2
 refine ICall.intro (c:=cf prog gl [] [(2,[2,10,0,1,3,4,5,6,7,8,9,11]),(4,[0,2,9,10,11,13,1,3,4,5,6,7,8,12,14]),(9,[8,9,11,0,1,2,3,4,5,6,7,10,12]),(10,[0,1,2,5,6,8,3,4,7,9]),(18,[3,4,7,8,0,1,2,5,6,9,10,11,12,13,14]),(19,[0,1,3,4,7,8,2,5,6,9,10,11,12,13,14]),(21,[0,1,10,2,3,4,5,6,7,8,9,11,12]),(22,[0,1,2,3,4,5,6,7,8,9,10,14,15,11,12,13,16,17,18,19,20,21,22,23,24,25,26,27,28,29,30,31,32,33,35,34,36,37,38,39,40,41])]) func16 rfl (by show _ ≤ 241; simp) (by kernel_rfl) ?_
 simp -implicitDefEqProofs -dsimp only [go_sem,fits,yQg]
 repeat (first
  | (refine (q_p gl _ _ _ _).mono ?_; rintro _ st ⟨rfl,rfl⟩; simp -implicitDefEqProofs -dsimp only [go_sem,fits,yQ1,yQa,yQl,yQg,decide_true,fits])
  | (refine (q_no gl _ _ _ _ _ _ _).mono ?_; rintro _ st ⟨rfl,rfl⟩; simp -implicitDefEqProofs -dsimp only [go_sem,fits,yQ1,yQa,yQl,yQg,decide_true,fits])
  | (refine (xX0 gl _ _ _ _ _ _ _ _ _ _ _ _ _ _).mono ?_; rintro _ st ⟨rfl,rfl⟩; simp -implicitDefEqProofs -dsimp only [go_sem,fits,yQ1,yQa,yQl,yQg,decide_true,fits])
  | (refine (q_fs gl _ _ _).mono ?_; rintro _ st ⟨rfl,rfl⟩; simp -implicitDefEqProofs -dsimp only [go_sem,fits,yQ1,yQa,yQl,yQg,decide_true,fits])
  | (refine (q_sq gl _ _ _ _ _).mono ?_; rintro _ st ⟨rfl,rfl⟩; simp -implicitDefEqProofs -dsimp only [go_sem,fits,yQ1,yQa,yQl,yQg,decide_true,fits])
  | (refine (q_v gl _ _).mono ?_; rintro _ st ⟨rfl,rfl⟩; simp -implicitDefEqProofs -dsimp only [go_sem,fits,yQ1,yQa,yQl,yQg,decide_true,fits]))
 refine (hA1 _).mono ?_
 rintro _ st ⟨⟨tg1,rfl,ht1⟩,rfl⟩
 simp -implicitDefEqProofs -dsimp only [go_sem,fits,yQg]
 refine (hA2 _).mono ?_
 rintro _ st ⟨⟨tg2,rfl,ht2⟩,rfl⟩
 simp -implicitDefEqProofs -dsimp only [go_sem,fits,yQg]
 repeat (first
  | (refine (q_p gl _ _ _ _).mono ?_; rintro _ st ⟨rfl,rfl⟩; simp -implicitDefEqProofs -dsimp only [go_sem,fits,yQ1,yQa,yQl,yQg,decide_true,fits])
  | (refine (q_no gl _ _ _ _ _ _ _).mono ?_; rintro _ st ⟨rfl,rfl⟩; simp -implicitDefEqProofs -dsimp only [go_sem,fits,yQ1,yQa,yQl,yQg,decide_true,fits])
  | (refine (xX0 gl _ _ _ _ _ _ _ _ _ _ _ _ _ _).mono ?_; rintro _ st ⟨rfl,rfl⟩; simp -implicitDefEqProofs -dsimp only [go_sem,fits,yQ1,yQa,yQl,yQg,decide_true,fits])
  | (refine (q_fs gl _ _ _).mono ?_; rintro _ st ⟨rfl,rfl⟩; simp -implicitDefEqProofs -dsimp only [go_sem,fits,yQ1,yQa,yQl,yQg,decide_true,fits])
  | (refine (q_sq gl _ _ _ _ _).mono ?_; rintro _ st ⟨rfl,rfl⟩; simp -implicitDefEqProofs -dsimp only [go_sem,fits,yQ1,yQa,yQl,yQg,decide_true,fits])
  | (refine (q_v gl _ _).mono ?_; rintro _ st ⟨rfl,rfl⟩; simp -implicitDefEqProofs -dsimp only [go_sem,fits,yQ1,yQa,yQl,yQg,decide_true,fits]))
 refine (hE1 _).mono ?_
 rintro _ st ⟨⟨tg3,rfl,ht3⟩,rfl⟩
 simp -implicitDefEqProofs -dsimp only [go_sem,fits,yQg]
 refine (hE2 _).mono ?_
 rintro _ st ⟨⟨tg4,rfl,ht4⟩,rfl⟩
 have hz1:IntKind.i64.wrap (((0:Nat):Int) + ((0:Nat):Int)) = 0:=rfl
 have hz2:IntKind.i64.wrap ((0:Int) + ((0:Nat):Int)) = 0:=rfl
 have hz3:decide ((0:Int) = 0) = true:=rfl
 have hz4:decide (((195:Nat):Int) = 195) = true:=rfl
 have hz5:plI [] = []:=rfl
 have hS:=fun st => wX0 gl trA (trI trA) is_A (by decide) st
 have hH:=fun st => xVq gl trA (trI trA) is_A (by decide) st
 have hC:=fun st => wW2 gl trA (trI trA) is_A (by decide) st
 simp only [wWj] at hS
 simp only [wJr] at hH
 simp only [vXi] at hC
 simp -implicitDefEqProofs -dsimp only [go_sem,fits,yQg,hz1,hz2,hz3,hz4,hz5,decide_true,show decide (((0:Nat):Int) = 0) = true from rfl]
 intros
 refine (hS _).mono ?_
 rintro _ st ⟨rfl,rfl⟩
 simp -implicitDefEqProofs -dsimp only [go_sem,fits,yQg,decide_true,show decide (((3:Nat):Int) = 3) = true from rfl]
 refine (hH _).mono ?_
 rintro _ st ⟨rfl,rfl⟩
 simp -implicitDefEqProofs -dsimp only [go_sem,fits,yQg,decide_true,show decide (((2:Nat):Int) = 2) = true from rfl]
 refine (hC _).mono ?_
 rintro _ st ⟨rfl,rfl⟩
 simp -implicitDefEqProofs -dsimp only [go_sem,fits,yQg,decide_true,show decide (((0:Nat):Int) = 0) = true from rfl]
 repeat (first
  | (refine (q_p gl _ _ _ _).mono ?_; rintro _ st ⟨rfl,rfl⟩; simp -implicitDefEqProofs -dsimp only [go_sem,fits,yQ1,yQa,yQl,yQg,decide_true,fits])
  | (refine (q_no gl _ _ _ _ _ _ _).mono ?_; rintro _ st ⟨rfl,rfl⟩; simp -implicitDefEqProofs -dsimp only [go_sem,fits,yQ1,yQa,yQl,yQg,decide_true,fits])
  | (refine (xX0 gl _ _ _ _ _ _ _ _ _ _ _ _ _ _).mono ?_; rintro _ st ⟨rfl,rfl⟩; simp -implicitDefEqProofs -dsimp only [go_sem,fits,yQ1,yQa,yQl,yQg,decide_true,fits])
  | (refine (q_fs gl _ _ _).mono ?_; rintro _ st ⟨rfl,rfl⟩; simp -implicitDefEqProofs -dsimp only [go_sem,fits,yQ1,yQa,yQl,yQg,decide_true,fits])
  | (refine (q_sq gl _ _ _ _ _).mono ?_; rintro _ st ⟨rfl,rfl⟩; simp -implicitDefEqProofs -dsimp only [go_sem,fits,yQ1,yQa,yQl,yQg,decide_true,fits])
  | (refine (q_v gl _ _).mono ?_; rintro _ st ⟨rfl,rfl⟩; simp -implicitDefEqProofs -dsimp only [go_sem,fits,yQ1,yQa,yQl,yQg,decide_true,fits]))
 have hB1:=fun st => wW3 gl G T 3 ⟨[zP],[zX]⟩ (.agg [.sl (tagF [zP]) (fmsI [zP]),.sl (tagF [zX]) (fmsI [zX])]) ⟨_,_,_,_,rfl,yKh _,yKa _ (by decide),yKh _,yKa _ (by decide)⟩ ⟨zV8 (by decide),zV8 (by decide)⟩ 14 zX (fmI zX) (xV7 zX (by decide)) (by decide) tm0 (tmI tm0) (xJp tm0) (by decide) qu st
 simp only [vJ8] at hB1
 refine (hB1 _).mono ?_
 rintro _ st ⟨tg5,xs5,rfl,ht5,hx5,rfl⟩
 obtain ⟨w5,_,rfl,hw5,rfl⟩:=hx5
 simp -implicitDefEqProofs -dsimp only [go_sem,fits,yQ1,yQg,decide_true]
 repeat (first
  | (refine (q_p gl _ _ _ _).mono ?_; rintro _ st ⟨rfl,rfl⟩; simp -implicitDefEqProofs -dsimp only [go_sem,fits,yQ1,yQa,yQl,yQg,decide_true,fits])
  | (refine (q_no gl _ _ _ _ _ _ _).mono ?_; rintro _ st ⟨rfl,rfl⟩; simp -implicitDefEqProofs -dsimp only [go_sem,fits,yQ1,yQa,yQl,yQg,decide_true,fits])
  | (refine (xX0 gl _ _ _ _ _ _ _ _ _ _ _ _ _ _).mono ?_; rintro _ st ⟨rfl,rfl⟩; simp -implicitDefEqProofs -dsimp only [go_sem,fits,yQ1,yQa,yQl,yQg,decide_true,fits])
  | (refine (q_fs gl _ _ _).mono ?_; rintro _ st ⟨rfl,rfl⟩; simp -implicitDefEqProofs -dsimp only [go_sem,fits,yQ1,yQa,yQl,yQg,decide_true,fits])
  | (refine (q_sq gl _ _ _ _ _).mono ?_; rintro _ st ⟨rfl,rfl⟩; simp -implicitDefEqProofs -dsimp only [go_sem,fits,yQ1,yQa,yQl,yQg,decide_true,fits])
  | (refine (q_v gl _ _).mono ?_; rintro _ st ⟨rfl,rfl⟩; simp -implicitDefEqProofs -dsimp only [go_sem,fits,yQ1,yQa,yQl,yQg,decide_true,fits]))
 have hB2:=fun st => wW3 gl G T 3 ⟨[zY],[zX]⟩ (.agg [.sl (tagF [zY]) (fmsI [zY]),.sl (tagF [zX]) (fmsI [zX])]) ⟨_,_,_,_,rfl,yKh _,yKa _ (by decide),yKh _,yKa _ (by decide)⟩ ⟨zV8 (by decide),zV8 (by decide)⟩ 14 zX (fmI zX) (xV7 zX (by decide)) (by decide) tm0 (tmI tm0) (xJp tm0) (by decide) qu st
 simp only [vJ7] at hB2
 refine (hB2 _).mono ?_
 rintro _ st ⟨tg6,xs6,rfl,ht6,hx6,rfl⟩
 simp -implicitDefEqProofs -dsimp only [go_sem,fits,yQ1,yQg,decide_true]
 repeat (first
  | (refine (q_p gl _ _ _ _).mono ?_; rintro _ st ⟨rfl,rfl⟩; simp -implicitDefEqProofs -dsimp only [go_sem,fits,yQ1,yQa,yQl,yQg,decide_true,fits])
  | (refine (q_no gl _ _ _ _ _ _ _).mono ?_; rintro _ st ⟨rfl,rfl⟩; simp -implicitDefEqProofs -dsimp only [go_sem,fits,yQ1,yQa,yQl,yQg,decide_true,fits])
  | (refine (xX0 gl _ _ _ _ _ _ _ _ _ _ _ _ _ _).mono ?_; rintro _ st ⟨rfl,rfl⟩; simp -implicitDefEqProofs -dsimp only [go_sem,fits,yQ1,yQa,yQl,yQg,decide_true,fits])
  | (refine (q_fs gl _ _ _).mono ?_; rintro _ st ⟨rfl,rfl⟩; simp -implicitDefEqProofs -dsimp only [go_sem,fits,yQ1,yQa,yQl,yQg,decide_true,fits])
  | (refine (q_sq gl _ _ _ _ _).mono ?_; rintro _ st ⟨rfl,rfl⟩; simp -implicitDefEqProofs -dsimp only [go_sem,fits,yQ1,yQa,yQl,yQg,decide_true,fits])
  | (refine (q_v gl _ _).mono ?_; rintro _ st ⟨rfl,rfl⟩; simp -implicitDefEqProofs -dsimp only [go_sem,fits,yQ1,yQa,yQl,yQg,decide_true,fits]))
 have hD:=fun st => uVu gl G T ⟨[zD,zD,zP],[]⟩ (.agg [.sl (tagF [zD,zD,zP]) (fmsI [zD,zD,zP]),.sl (tagF []) (fmsI [])]) ⟨_,_,_,_,rfl,yKh _,yKa _ (by decide),yKh _,yKa _ (by decide)⟩ ⟨zV8 (by decide),zV8 (by decide)⟩ (by decide) st
 simp only [uVv] at hD
 refine (hD _).mono ?_
 rintro _ st ⟨⟨y,rfl,hy⟩,rfl⟩
 obtain ⟨ty1,xy1,ty2,xy2,rfl,ey1,iy1,ey2,iy2⟩:=hy
 obtain ⟨tw1,xw1,tw2,xw2,rfl,ew1,iw1,ew2,iw2⟩:=hw5
 have z1:decide (((1:Nat):Int) = 1) = true:=rfl
 have z2:decide (((193:Nat):Int) = 193) = true:=rfl
 have z3:decide (((0:Nat):Int) = 0) = true:=rfl
 simp -implicitDefEqProofs -dsimp only [go_sem,fits,yQ1,yQg,decide_true,yQ2 ht5,Int.le_refl,Int.toNat_zero,z1,z2,z3]
 repeat (first
  | (refine (q_p gl _ _ _ _).mono ?_; rintro _ st ⟨rfl,rfl⟩; simp -implicitDefEqProofs -dsimp only [go_sem,fits,yQ1,yQa,yQl,yQg,decide_true,fits])
  | (refine (q_no gl _ _ _ _ _ _ _).mono ?_; rintro _ st ⟨rfl,rfl⟩; simp -implicitDefEqProofs -dsimp only [go_sem,fits,yQ1,yQa,yQl,yQg,decide_true,fits])
  | (refine (xX0 gl _ _ _ _ _ _ _ _ _ _ _ _ _ _).mono ?_; rintro _ st ⟨rfl,rfl⟩; simp -implicitDefEqProofs -dsimp only [go_sem,fits,yQ1,yQa,yQl,yQg,decide_true,fits])
  | (refine (q_fs gl _ _ _).mono ?_; rintro _ st ⟨rfl,rfl⟩; simp -implicitDefEqProofs -dsimp only [go_sem,fits,yQ1,yQa,yQl,yQg,decide_true,fits])
  | (refine (q_sq gl _ _ _ _ _).mono ?_; rintro _ st ⟨rfl,rfl⟩; simp -implicitDefEqProofs -dsimp only [go_sem,fits,yQ1,yQa,yQl,yQg,decide_true,fits])
  | (refine (q_v gl _ _).mono ?_; rintro _ st ⟨rfl,rfl⟩; simp -implicitDefEqProofs -dsimp only [go_sem,fits,yQ1,yQa,yQl,yQg,decide_true,fits]))
 have hS1:=fun st => zZ5 gl ⟨[zP],[zX,zU]⟩ ⟨[zP],[zX,zU]⟩ (.agg [.sl tw1 xw1,.sl tw2 xw2]) (.agg [.sl (tagF [zP]) (fmsI [zP]),.sl (tagF [zX,zU]) (fmsI [zX,zU])]) ⟨_,_,_,_,rfl,ew1,iw1,ew2,iw2⟩ ⟨_,_,_,_,rfl,yKh _,yKa _ (by decide),yKh _,yKa _ (by decide)⟩ st
 have hS2:=fun st => zZ5 gl ⟨[zP,zD],[]⟩ ⟨[zP,zD],[]⟩ (.agg [.sl ty1 xy1,.sl ty2 xy2]) (.agg [.sl (tagF [zP,zD]) (fmsI [zP,zD]),.sl (tagF []) (fmsI [])]) ⟨_,_,_,_,rfl,ey1,iy1,ey2,iy2⟩ ⟨_,_,_,_,rfl,yKh _,yKa _ (by decide),yKh _,yKa _ (by decide)⟩ st
 refine (hS1 _).mono ?_
 rintro _ st ⟨rfl,rfl⟩
 simp -implicitDefEqProofs -dsimp only [go_sem,fits,yQ1,yQa,yQg,decide_true,show ∀ s:Sq,eqB s s = true from fun s => yQp.2 rfl,z1,z2,z3]
 repeat (first
  | (refine (q_p gl _ _ _ _).mono ?_; rintro _ st ⟨rfl,rfl⟩; simp -implicitDefEqProofs -dsimp only [go_sem,fits,yQ1,yQa,yQl,yQg,decide_true,fits])
  | (refine (q_no gl _ _ _ _ _ _ _).mono ?_; rintro _ st ⟨rfl,rfl⟩; simp -implicitDefEqProofs -dsimp only [go_sem,fits,yQ1,yQa,yQl,yQg,decide_true,fits])
  | (refine (xX0 gl _ _ _ _ _ _ _ _ _ _ _ _ _ _).mono ?_; rintro _ st ⟨rfl,rfl⟩; simp -implicitDefEqProofs -dsimp only [go_sem,fits,yQ1,yQa,yQl,yQg,decide_true,fits])
  | (refine (q_fs gl _ _ _).mono ?_; rintro _ st ⟨rfl,rfl⟩; simp -implicitDefEqProofs -dsimp only [go_sem,fits,yQ1,yQa,yQl,yQg,decide_true,fits])
  | (refine (q_sq gl _ _ _ _ _).mono ?_; rintro _ st ⟨rfl,rfl⟩; simp -implicitDefEqProofs -dsimp only [go_sem,fits,yQ1,yQa,yQl,yQg,decide_true,fits])
  | (refine (q_v gl _ _).mono ?_; rintro _ st ⟨rfl,rfl⟩; simp -implicitDefEqProofs -dsimp only [go_sem,fits,yQ1,yQa,yQl,yQg,decide_true,fits]))
 refine (hS2 _).mono ?_
 rintro _ st ⟨rfl,rfl⟩
 simp -implicitDefEqProofs -dsimp only [go_sem,fits,yQ1,yQa,yQg,decide_true,show ∀ s:Sq,eqB s s = true from fun s => yQp.2 rfl,z1,z2,z3]
 exact yQ0 ⟨rfl,rfl⟩
end Go.Proofs.Tryz
