/- Walks: the reference of sequents: Added. -/
import Derived.Test.YtjbhofcbleepiaaGreatDoorQD
import Derived.Test.YtjbhofcbleepiaaGreatDoorQE
import Derived.Test.YtjbhofcbleepiaaGreatDoorKG
import Derived.Test.YtjbhofcbleepiaaGreatDoorLA
set_option linter.all false
namespace Go.Proofs.Tryz
open Go Go.Iv
set_option maxRecDepth 4000
variable (gl:Nat→Option IV)
theorem yQw {tg:Tag}{es:Nat}(h:okEs tg es)(len hh l:Nat):okEs (yX5 (reTag es tg) len hh l none) es:=by
 have:=yQ2 h
 unfold yX5
 by_cases h1:(reTag es tg).cap=.nil
 ·rw[if_pos h1]; exact .inr this
 ·rw[if_neg h1]
  by_cases h2:l=0∧hh=len
  ·simp only[if_pos h2]; exact .inr this
  ·simp only[if_neg h2]; exact .inr this
theorem yZj {n:Nat}(h:1≤n):yX4 (some 1) none n=some (1,n):=by
 simp only[yX4,Option.getD_none,Option.getD_some]
 rw[if_pos (by omega)]; rfl
theorem yZi {n:Nat}(h:1≤n):yX4 none (some 1) n=some (0,1):=by
 simp only[yX4,Option.getD_none,Option.getD_some]
 rw[if_pos (by omega)]; rfl
theorem yQz (x y:Operand):yJc 2 [(0,x),(1,y)]=true:=rfl
theorem xY4 {ca rule:Nat}{r:Rw}{main:Fm}{u:Tm}{n:ByteArray}(h:¬ (fmB ca main=true∧(r.op≠0→main.op=r.op))):yZm ca rule r main u n=([],192):=by
 unfold yZm
 rw[if_pos]
 by_cases hf:fmB ca main=true
 ·have h0:r.op≠0:=fun h0=>h ⟨hf,fun q=>absurd h0 q⟩
  have h1:main.op≠r.op:=fun h1=>h ⟨hf,fun _=>h1⟩
  simp[h0,h1]
 ·simp[hf]
theorem yJ4 {ca rule:Nat}{r:Rw}{main:Fm}{u:Tm}{n:ByteArray}(hf:fmB ca main=true)(h1:r.op≠0→main.op=r.op)(h0:r.asks=0):yZm ca rule r main u n=(addS ca rule main ((main.subs[0]?).getD fm0) ((main.subs[1]?).getD fm0),0):=by
 unfold yZm
 rw[if_neg (by rw[hf]; intro hx; simp at hx; first | exact hx.2 (h1 hx.1) | exact (of_decide_eq_true hx.2) (h1 hx.1))]
 simp only[if_pos h0]
theorem zJj {ca rule:Nat}{r:Rw}{main:Fm}{u t:Tm}{n:ByteArray}(hf:fmB ca main=true)(h1:r.op≠0→main.op=r.op)(h0:r.asks≠0)(ht:t=if r.asks=2 then .mk true n [] else u):yZm ca rule r main u n =
  (if t.ok=false then ([],193) else if (yZc ((main.subs[0]?).getD fm0) [(main.nm,t)]).2≠0 then ([],193) else (addS ca rule main (yZc ((main.subs[0]?).getD fm0) [(main.nm,t)]).1 ((main.subs[1]?).getD fm0),0)):=by
 unfold yZm
 rw[if_neg (by rw[hf]; intro hx; simp at hx; first | exact hx.2 (h1 hx.1) | exact (of_decide_eq_true hx.2) (h1 hx.1))]
 simp only[if_neg h0,← ht]
 cases t.ok<;>rfl
set_option maxHeartbeats 4000000 in
theorem xVm (ca rule:Nat)(main:Fm)(y:IV)(hy:IsFm main y)(hm:main.size≤1000000)(term:Tm)(z:IV)(hz:IsTm term z)(ht:term.size≤900000)(name:ByteArray)(st:ISt) :
  ICall prog gl 21 [.raw (.int .u8 ca),.raw (.int .u8 rule),y,z,.raw (.string name)] st (AdR st (yGg ca rule main term name)):=by
 have hW:=fun st=>xUd gl ca rule st
 have hF:=fun st=>wQn gl ca main y hy (by omega) st
 have hy0:=hy
 have hz0:=hz
 obtain⟨op,nm,us,sub⟩:=main
 obtain⟨t1,x1,t4,x4,rfl,ho,e1,i1,e4,i4⟩:=hy.mk
 obtain⟨v5,n5,t5,x5,rfl⟩:=hz.agg
 have k1:decide (((ca:Nat):Int)<1)=decide (ca<1):=by rw[decide_eq_decide]; omega
 have k2:decide ((3:Int)<((ca:Nat):Int))=decide (3<ca):=by rw[decide_eq_decide]; omega
 refine ICall.intro (c:=cf prog gl [] [(39,[0,1,3,4,2,5,6,7,8]),(48,[0,1,2,3,4,5,10,6,7,8,9,11,12])]) func21 rfl (by show _≤197; simp) (by kernel_rfl) ?_
 cases hk:yX0 ca
 ·have hAS:yGg ca rule (.mk op nm us sub) term name=([],2):=by unfold yGg; rw[hk]; rfl
  rw[hAS]
  by_cases q1:ca<1
  ·have q1:=dEt q1
   simp(config:=zzC)only[go_sem,fits,k1,q1]
   intros
   exact yQ0 ⟨_,_,rfl,.inl rfl,rfl,rfl⟩
  ·have q2:decide (3<ca)=true:=dEt (by simp only[yX0,Bool.and_eq_false_iff,decide_eq_false_iff_not] at hk; omega)
   have q1:=dEf q1
   simp(config:=zzC)only[go_sem,fits,k1,k2,q1,q2]
   intros
   exact yQ0 ⟨_,_,rfl,.inl rfl,rfl,rfl⟩
 have hkk:=hk
 simp only[yX0,bAt,dTe] at hkk
 have q1:decide (ca<1)=false:=dEf (by omega)
 have q2:decide (3<ca)=false:=dEf (by omega)
 simp(config:=zzC)only[go_sem,fits,k1,k2,q1,q2]
 intros
 refine (hW _).mono ?_
 rintro w st ⟨hw,rfl⟩
 unfold yKj at hw
 cases hrow:rowS ca rule with
 | none =>
  rw[hrow] at hw
  obtain⟨o9,a9,b9,rfl⟩:=hw
  have hAS:yGg ca rule (.mk op nm us sub) term name=([],191):=by unfold yGg; rw[hk,hrow]; rfl
  rw[hAS]
  simp(config:=zzC)only[go_sem,fits]
  exact yQ0 ⟨_,_,rfl,.inl rfl,rfl,rfl⟩
 | some r =>
  rw[hrow] at hw
  simp only at hw
  subst hw
  have hAd:yGg ca rule (.mk op nm us sub) term name=yZm ca rule r (.mk op nm us sub) term name:=by unfold yGg; rw[hk,hrow]; rfl
  rw[hAd]
  have k4:decide (((r.op:Nat):Int)=0)=decide (r.op=0):=by rw[decide_eq_decide]; omega
  have k5:decide (((op:Nat):Int)=((r.op:Nat):Int))=decide (op=r.op):=by rw[decide_eq_decide]; omega
  simp(config:=zzC)only[go_sem,fits]
  refine (hF _).mono ?_
  rintro _ st ⟨rfl,rfl⟩
  cases hf:fmB ca (.mk op nm us sub)
  ·rw[xY4 (fun h=>by rw[h.1] at hf; cases hf)]
   simp(config:=zzC)only[go_sem,fits]
   exact yQ0 ⟨_,_,rfl,.inl rfl,rfl,rfl⟩
  have hmain:r.op≠0→op≠r.op→yZm ca rule r (.mk op nm us sub) term name=([],192):=fun h1 h2=>xY4 fun h=>h2 (h.2 h1)
  have hlen:=wU6 (zZ2.1 hf).1
  have d2:∀ h:Bool,decide (ca=2)=h→decide (((ca:Nat):Int)=2)=h:=fun h hh=>by rw[← hh,decide_eq_decide]; omega
  rcases xQm hrow with⟨hru,hr⟩ | ⟨hru,hr⟩ | ⟨hru,hr⟩ | ⟨hru,hr⟩ | ⟨hru,hr⟩ | ⟨hru,hr⟩ | ⟨hru,hr⟩ | ⟨hru,hr⟩ | ⟨hru,hr⟩ | ⟨hru,hr⟩ | ⟨hru,hr⟩ | ⟨hru,hr⟩ | ⟨hru,hr⟩ | ⟨hru,hr⟩ | ⟨hru,hr⟩ | ⟨hru,hr⟩ | ⟨hru,hr⟩ | ⟨hru,hr⟩
  ·have dt:decide (((rule:Nat):Int)=1)=true:=dEt (by omega)
   have ds:∀ j:Int,j≠1→decide (((rule:Nat):Int)=j)=false:=fun j hj=>dEf (by omega)
   have hrop:r.op=0:=by rw[hr]
   have k6:decide (r.op=0)=true:=dEt hrop
   rw[yJ4 hf (fun h=>absurd hrop h) (by rw[hr]),show ∀ A B,addS ca rule (.mk op nm us sub) A B=[] from fun A B=>by rw[hru]; rfl]
   by_cases hsl:sub.length=0
   ·have k8:decide ((0:Int)<((sub.length:Nat):Int))=false:=dEf (by omega)
    simp(config:=zzC)only[go_sem,fits,k4,k5,k6,dt,ds,Int.reduceNe,ne_eq,nFt,nTf,Int.reduceEq,yQ1,yQz,i4.len,k8]
    intros
    repeat (refine (yJ6 gl _ _ _ _ _).mono ?_; rintro _ _ ⟨rfl,rfl⟩; simp(config:=zzC)only[go_sem,fits,k4,k5,k6,dt,ds,Int.reduceNe,ne_eq,nFt,nTf,Int.reduceEq,yQ1,yQz])
    exact yQ0 ⟨_,_,rfl,.inl rfl,rfl,rfl⟩
   ·have k8:decide ((0:Int)<((sub.length:Nat):Int))=true:=dEt (by omega)
    simp(config:=zzC)only[go_sem,fits,k4,k5,k6,dt,ds,Int.reduceNe,ne_eq,nFt,nTf,Int.reduceEq,yQ1,yQz,i4.len,k8,yZj (show 1≤sub.length by omega),yZi (show 1≤sub.length by omega),yQ2 e4]
    intros
    repeat (refine (yJ6 gl _ _ _ _ _).mono ?_; rintro _ _ ⟨rfl,rfl⟩; simp(config:=zzC)only[go_sem,fits,k4,k5,k6,dt,ds,Int.reduceNe,ne_eq,nFt,nTf,Int.reduceEq,yQ1,yQz])
    exact yQ0 ⟨_,_,rfl,.inl rfl,rfl,rfl⟩
  ·have dt:decide (((rule:Nat):Int)=2)=true:=dEt (by omega)
   have ds:∀ j:Int,j≠2→decide (((rule:Nat):Int)=j)=false:=fun j hj=>dEf (by omega)
   have hrop:r.op=2:=by rw[hr]
   have k6:decide (r.op=0)=false:=dEf (by omega)
   by_cases hop:op=r.op
   case neg =>
    rw[hmain (by omega) hop]
    have k7:decide (op=r.op)=false:=dEf hop
    simp(config:=zzC)only[go_sem,fits,k4,k5,k6,k7]
    intros
    exact yQ0 ⟨_,_,rfl,.inl rfl,rfl,rfl⟩
   have k7:decide (op=r.op)=true:=dEt hop
   rw[yJ4 hf (fun h=>hop) (by rw[hr]),show ∀ A B,addS ca rule (.mk op nm us sub) A B=[] from fun A B=>by rw[hru]; rfl]
   by_cases hsl:sub.length=0
   ·have k8:decide ((0:Int)<((sub.length:Nat):Int))=false:=dEf (by omega)
    simp(config:=zzC)only[go_sem,fits,k4,k5,k6,k7,dt,ds,Int.reduceNe,ne_eq,nFt,nTf,Int.reduceEq,yQ1,yQz,i4.len,k8]
    intros
    repeat (refine (yJ6 gl _ _ _ _ _).mono ?_; rintro _ _ ⟨rfl,rfl⟩; simp(config:=zzC)only[go_sem,fits,k4,k5,k6,k7,dt,ds,Int.reduceNe,ne_eq,nFt,nTf,Int.reduceEq,yQ1,yQz])
    exact yQ0 ⟨_,_,rfl,.inl rfl,rfl,rfl⟩
   ·have k8:decide ((0:Int)<((sub.length:Nat):Int))=true:=dEt (by omega)
    simp(config:=zzC)only[go_sem,fits,k4,k5,k6,k7,dt,ds,Int.reduceNe,ne_eq,nFt,nTf,Int.reduceEq,yQ1,yQz,i4.len,k8,yZj (show 1≤sub.length by omega),yZi (show 1≤sub.length by omega),yQ2 e4]
    intros
    repeat (refine (yJ6 gl _ _ _ _ _).mono ?_; rintro _ _ ⟨rfl,rfl⟩; simp(config:=zzC)only[go_sem,fits,k4,k5,k6,k7,dt,ds,Int.reduceNe,ne_eq,nFt,nTf,Int.reduceEq,yQ1,yQz])
    exact yQ0 ⟨_,_,rfl,.inl rfl,rfl,rfl⟩
  ·have dt:decide (((rule:Nat):Int)=3)=true:=dEt (by omega)
   have ds:∀ j:Int,j≠3→decide (((rule:Nat):Int)=j)=false:=fun j hj=>dEf (by omega)
   have hrop:r.op=3:=by rw[hr]
   have k6:decide (r.op=0)=false:=dEf (by omega)
   by_cases hop:op=r.op
   case neg =>
    rw[hmain (by omega) hop]
    have k7:decide (op=r.op)=false:=dEf hop
    simp(config:=zzC)only[go_sem,fits,k4,k5,k6,k7]
    intros
    exact yQ0 ⟨_,_,rfl,.inl rfl,rfl,rfl⟩
   have k7:decide (op=r.op)=true:=dEt hop
   obtain⟨a,rfl⟩:∃ a,sub=[a]:=by
    have:=hlen.1 (by omega)
    match sub,this with
    | [a],_=>exact⟨a,rfl⟩
   simp only[IsFms] at i4
   obtain⟨ya,_,rfl,hya,rfl⟩:=i4
   obtain⟨oa,na,ta1,xa1,ta2,xa2,rfl⟩:=hya.agg
   have k8:decide ((0:Int)<((1:Nat):Int))=true:=rfl
   have s1:=yZj (show 1≤1 by omega)
   have s2:=yZi (show 1≤1 by omega)
   have s3:∀ a b c,(reTag 4 (yX5 (reTag 4 t4) a b c none)).es=4:=fun a b c=>yQ2 (yQw e4 a b c)
   generalize haS:yZm ca rule r (.mk op nm us [a]) term name=addSS
   have hA0:addSS=(addS ca rule (.mk op nm us [a]) a fm0,0):=by rw[← haS,yJ4 hf (fun _=>hop) (by rw[hr])]; rfl
   have hv:addSS=([⟨[],[a]⟩],0):=by rw[hA0,show addS ca rule (.mk op nm us [a]) a fm0=[⟨[],[a]⟩] from by rw[hru]; rfl]
   rw[hv]
   simp(config:=zzC)only[go_sem,fits,k4,k5,k6,k7,dt,ds,Int.reduceNe,ne_eq,nFt,nTf,Int.reduceEq,yQ1,yQz,k8,s1,s2,s3,yQ2 e4]
   intros
   repeat (refine (yJ6 gl _ _ _ _ _).mono ?_; rintro _ _ ⟨rfl,rfl⟩; simp(config:=zzC)only[go_sem,fits,k4,k5,k6,k7,dt,ds,Int.reduceNe,ne_eq,nFt,nTf,Int.reduceEq,yQ1,yQz,k8,s1,s2,s3,yQ2 e4])
   exact yQ0 ⟨_,_,rfl,.inr rfl,⟨_,_,rfl,⟨_,_,_,_,rfl,.inl rfl,rfl,yQw e4 _ _ _,⟨_,_,rfl,hya,rfl⟩⟩,rfl⟩,rfl⟩
  ·have dt:decide (((rule:Nat):Int)=4)=true:=dEt (by omega)
   have ds:∀ j:Int,j≠4→decide (((rule:Nat):Int)=j)=false:=fun j hj=>dEf (by omega)
   have hrop:r.op=3:=by rw[hr]
   have k6:decide (r.op=0)=false:=dEf (by omega)
   by_cases hop:op=r.op
   case neg =>
    rw[hmain (by omega) hop]
    have k7:decide (op=r.op)=false:=dEf hop
    simp(config:=zzC)only[go_sem,fits,k4,k5,k6,k7]
    intros
    exact yQ0 ⟨_,_,rfl,.inl rfl,rfl,rfl⟩
   have k7:decide (op=r.op)=true:=dEt hop
   obtain⟨a,rfl⟩:∃ a,sub=[a]:=by
    have:=hlen.1 (by omega)
    match sub,this with
    | [a],_=>exact⟨a,rfl⟩
   simp only[IsFms] at i4
   obtain⟨ya,_,rfl,hya,rfl⟩:=i4
   obtain⟨oa,na,ta1,xa1,ta2,xa2,rfl⟩:=hya.agg
   have k8:decide ((0:Int)<((1:Nat):Int))=true:=rfl
   have s1:=yZj (show 1≤1 by omega)
   have s2:=yZi (show 1≤1 by omega)
   have s3:∀ a b c,(reTag 4 (yX5 (reTag 4 t4) a b c none)).es=4:=fun a b c=>yQ2 (yQw e4 a b c)
   generalize haS:yZm ca rule r (.mk op nm us [a]) term name=addSS
   have hA0:addSS=(addS ca rule (.mk op nm us [a]) a fm0,0):=by rw[← haS,yJ4 hf (fun _=>hop) (by rw[hr])]; rfl
   have hv:addSS=([⟨[a],[]⟩],0):=by rw[hA0,show addS ca rule (.mk op nm us [a]) a fm0=[⟨[a],[]⟩] from by rw[hru]; rfl]
   rw[hv]
   simp(config:=zzC)only[go_sem,fits,k4,k5,k6,k7,dt,ds,Int.reduceNe,ne_eq,nFt,nTf,Int.reduceEq,yQ1,yQz,k8,s1,s2,s3,yQ2 e4]
   intros
   repeat (refine (yJ6 gl _ _ _ _ _).mono ?_; rintro _ _ ⟨rfl,rfl⟩; simp(config:=zzC)only[go_sem,fits,k4,k5,k6,k7,dt,ds,Int.reduceNe,ne_eq,nFt,nTf,Int.reduceEq,yQ1,yQz,k8,s1,s2,s3,yQ2 e4])
   exact yQ0 ⟨_,_,rfl,.inr rfl,⟨_,_,rfl,⟨_,_,_,_,rfl,yQw e4 _ _ _,⟨_,_,rfl,hya,rfl⟩,.inl rfl,rfl⟩,rfl⟩,rfl⟩
  ·have dt:decide (((rule:Nat):Int)=5)=true:=dEt (by omega)
   have ds:∀ j:Int,j≠5→decide (((rule:Nat):Int)=j)=false:=fun j hj=>dEf (by omega)
   have hrop:r.op=4:=by rw[hr]
   have k6:decide (r.op=0)=false:=dEf (by omega)
   by_cases hop:op=r.op
   case neg =>
    rw[hmain (by omega) hop]
    have k7:decide (op=r.op)=false:=dEf hop
    simp(config:=zzC)only[go_sem,fits,k4,k5,k6,k7]
    intros
    exact yQ0 ⟨_,_,rfl,.inl rfl,rfl,rfl⟩
   have k7:decide (op=r.op)=true:=dEt hop
   obtain⟨a,b,rfl⟩:∃ a b,sub=[a,b]:=by
    have:=hlen.2 (by omega)
    match sub,this with
    | [a,b],_=>exact⟨a,b,rfl⟩
   simp only[IsFms] at i4
   obtain⟨ya,_,rfl,hya,yb,_,rfl,hyb,rfl⟩:=i4
   obtain⟨oa,na,ta1,xa1,ta2,xa2,rfl⟩:=hya.agg
   obtain⟨ob,nb,tb1,xb1,tb2,xb2,rfl⟩:=hyb.agg
   have k8:decide ((0:Int)<((2:Nat):Int))=true:=rfl
   have s1:=yZj (show 1≤2 by omega)
   have s2:=yZi (show 1≤2 by omega)
   have s3:∀ a b c,(reTag 4 (yX5 (reTag 4 t4) a b c none)).es=4:=fun a b c=>yQ2 (yQw e4 a b c)
   generalize haS:yZm ca rule r (.mk op nm us [a,b]) term name=addSS
   have hA0:addSS=(addS ca rule (.mk op nm us [a,b]) a b,0):=by rw[← haS,yJ4 hf (fun _=>hop) (by rw[hr])]; rfl
   have hv:addSS=([⟨[a,b],[]⟩],0):=by rw[hA0,show addS ca rule (.mk op nm us [a,b]) a b=[⟨[a,b],[]⟩] from by rw[hru]; rfl]
   rw[hv]
   simp(config:=zzC)only[go_sem,fits,k4,k5,k6,k7,dt,ds,Int.reduceNe,ne_eq,nFt,nTf,Int.reduceEq,yQ1,yQz,k8,s1,s2,s3,yQ2 e4]
   intros
   repeat (refine (yJ6 gl _ _ _ _ _).mono ?_; rintro _ _ ⟨rfl,rfl⟩; simp(config:=zzC)only[go_sem,fits,k4,k5,k6,k7,dt,ds,Int.reduceNe,ne_eq,nFt,nTf,Int.reduceEq,yQ1,yQz,k8,s1,s2,s3,yQ2 e4])
   exact yQ0 ⟨_,_,rfl,.inr rfl,⟨_,_,rfl,⟨_,_,_,_,rfl,e4,⟨_,_,rfl,hya,_,_,rfl,hyb,rfl⟩,.inl rfl,rfl⟩,rfl⟩,rfl⟩
  ·have dt:decide (((rule:Nat):Int)=6)=true:=dEt (by omega)
   have ds:∀ j:Int,j≠6→decide (((rule:Nat):Int)=j)=false:=fun j hj=>dEf (by omega)
   have hrop:r.op=4:=by rw[hr]
   have k6:decide (r.op=0)=false:=dEf (by omega)
   by_cases hop:op=r.op
   case neg =>
    rw[hmain (by omega) hop]
    have k7:decide (op=r.op)=false:=dEf hop
    simp(config:=zzC)only[go_sem,fits,k4,k5,k6,k7]
    intros
    exact yQ0 ⟨_,_,rfl,.inl rfl,rfl,rfl⟩
   have k7:decide (op=r.op)=true:=dEt hop
   obtain⟨a,b,rfl⟩:∃ a b,sub=[a,b]:=by
    have:=hlen.2 (by omega)
    match sub,this with
    | [a,b],_=>exact⟨a,b,rfl⟩
   simp only[IsFms] at i4
   obtain⟨ya,_,rfl,hya,yb,_,rfl,hyb,rfl⟩:=i4
   obtain⟨oa,na,ta1,xa1,ta2,xa2,rfl⟩:=hya.agg
   obtain⟨ob,nb,tb1,xb1,tb2,xb2,rfl⟩:=hyb.agg
   have k8:decide ((0:Int)<((2:Nat):Int))=true:=rfl
   have s1:=yZj (show 1≤2 by omega)
   have s2:=yZi (show 1≤2 by omega)
   have s3:∀ a b c,(reTag 4 (yX5 (reTag 4 t4) a b c none)).es=4:=fun a b c=>yQ2 (yQw e4 a b c)
   generalize haS:yZm ca rule r (.mk op nm us [a,b]) term name=addSS
   have hA0:addSS=(addS ca rule (.mk op nm us [a,b]) a b,0):=by rw[← haS,yJ4 hf (fun _=>hop) (by rw[hr])]; rfl
   have hv:addSS=([⟨[],[a]⟩,⟨[],[b]⟩],0):=by rw[hA0,show addS ca rule (.mk op nm us [a,b]) a b=[⟨[],[a]⟩,⟨[],[b]⟩] from by rw[hru]; rfl]
   rw[hv]
   simp(config:=zzC)only[go_sem,fits,k4,k5,k6,k7,dt,ds,Int.reduceNe,ne_eq,nFt,nTf,Int.reduceEq,yQ1,yQz,k8,s1,s2,s3,yQ2 e4]
   intros
   repeat (refine (yJ6 gl _ _ _ _ _).mono ?_; rintro _ _ ⟨rfl,rfl⟩; simp(config:=zzC)only[go_sem,fits,k4,k5,k6,k7,dt,ds,Int.reduceNe,ne_eq,nFt,nTf,Int.reduceEq,yQ1,yQz,k8,s1,s2,s3,yQ2 e4])
   exact yQ0 ⟨_,_,rfl,.inr rfl,⟨_,_,rfl,⟨_,_,_,_,rfl,.inl rfl,rfl,yQw e4 _ _ _,⟨_,_,rfl,hya,rfl⟩⟩,⟨_,_,rfl,⟨_,_,_,_,rfl,.inl rfl,rfl,yQw e4 _ _ _,⟨_,_,rfl,hyb,rfl⟩⟩,rfl⟩⟩,rfl⟩
  ·have dt:decide (((rule:Nat):Int)=7)=true:=dEt (by omega)
   have ds:∀ j:Int,j≠7→decide (((rule:Nat):Int)=j)=false:=fun j hj=>dEf (by omega)
   have hrop:r.op=5:=by rw[hr]
   have k6:decide (r.op=0)=false:=dEf (by omega)
   by_cases hop:op=r.op
   case neg =>
    rw[hmain (by omega) hop]
    have k7:decide (op=r.op)=false:=dEf hop
    simp(config:=zzC)only[go_sem,fits,k4,k5,k6,k7]
    intros
    exact yQ0 ⟨_,_,rfl,.inl rfl,rfl,rfl⟩
   have k7:decide (op=r.op)=true:=dEt hop
   obtain⟨a,b,rfl⟩:∃ a b,sub=[a,b]:=by
    have:=hlen.2 (by omega)
    match sub,this with
    | [a,b],_=>exact⟨a,b,rfl⟩
   simp only[IsFms] at i4
   obtain⟨ya,_,rfl,hya,yb,_,rfl,hyb,rfl⟩:=i4
   obtain⟨oa,na,ta1,xa1,ta2,xa2,rfl⟩:=hya.agg
   obtain⟨ob,nb,tb1,xb1,tb2,xb2,rfl⟩:=hyb.agg
   have k8:decide ((0:Int)<((2:Nat):Int))=true:=rfl
   have s1:=yZj (show 1≤2 by omega)
   have s2:=yZi (show 1≤2 by omega)
   have s3:∀ a b c,(reTag 4 (yX5 (reTag 4 t4) a b c none)).es=4:=fun a b c=>yQ2 (yQw e4 a b c)
   generalize haS:yZm ca rule r (.mk op nm us [a,b]) term name=addSS
   have hA0:addSS=(addS ca rule (.mk op nm us [a,b]) a b,0):=by rw[← haS,yJ4 hf (fun _=>hop) (by rw[hr])]; rfl
   have hv:addSS=([⟨[a],[]⟩,⟨[b],[]⟩],0):=by rw[hA0,show addS ca rule (.mk op nm us [a,b]) a b=[⟨[a],[]⟩,⟨[b],[]⟩] from by rw[hru]; rfl]
   rw[hv]
   simp(config:=zzC)only[go_sem,fits,k4,k5,k6,k7,dt,ds,Int.reduceNe,ne_eq,nFt,nTf,Int.reduceEq,yQ1,yQz,k8,s1,s2,s3,yQ2 e4]
   intros
   repeat (refine (yJ6 gl _ _ _ _ _).mono ?_; rintro _ _ ⟨rfl,rfl⟩; simp(config:=zzC)only[go_sem,fits,k4,k5,k6,k7,dt,ds,Int.reduceNe,ne_eq,nFt,nTf,Int.reduceEq,yQ1,yQz,k8,s1,s2,s3,yQ2 e4])
   exact yQ0 ⟨_,_,rfl,.inr rfl,⟨_,_,rfl,⟨_,_,_,_,rfl,yQw e4 _ _ _,⟨_,_,rfl,hya,rfl⟩,.inl rfl,rfl⟩,⟨_,_,rfl,⟨_,_,_,_,rfl,yQw e4 _ _ _,⟨_,_,rfl,hyb,rfl⟩,.inl rfl,rfl⟩,rfl⟩⟩,rfl⟩
  ·have dt:decide (((rule:Nat):Int)=8)=true:=dEt (by omega)
   have ds:∀ j:Int,j≠8→decide (((rule:Nat):Int)=j)=false:=fun j hj=>dEf (by omega)
   have hrop:r.op=5:=by rw[hr]
   have k6:decide (r.op=0)=false:=dEf (by omega)
   by_cases hop:op=r.op
   case neg =>
    rw[hmain (by omega) hop]
    have k7:decide (op=r.op)=false:=dEf hop
    simp(config:=zzC)only[go_sem,fits,k4,k5,k6,k7]
    intros
    exact yQ0 ⟨_,_,rfl,.inl rfl,rfl,rfl⟩
   have k7:decide (op=r.op)=true:=dEt hop
   obtain⟨a,b,rfl⟩:∃ a b,sub=[a,b]:=by
    have:=hlen.2 (by omega)
    match sub,this with
    | [a,b],_=>exact⟨a,b,rfl⟩
   simp only[IsFms] at i4
   obtain⟨ya,_,rfl,hya,yb,_,rfl,hyb,rfl⟩:=i4
   obtain⟨oa,na,ta1,xa1,ta2,xa2,rfl⟩:=hya.agg
   obtain⟨ob,nb,tb1,xb1,tb2,xb2,rfl⟩:=hyb.agg
   have k8:decide ((0:Int)<((2:Nat):Int))=true:=rfl
   have s1:=yZj (show 1≤2 by omega)
   have s2:=yZi (show 1≤2 by omega)
   have s3:∀ a b c,(reTag 4 (yX5 (reTag 4 t4) a b c none)).es=4:=fun a b c=>yQ2 (yQw e4 a b c)
   generalize haS:yZm ca rule r (.mk op nm us [a,b]) term name=addSS
   have hA0:addSS=(addS ca rule (.mk op nm us [a,b]) a b,0):=by rw[← haS,yJ4 hf (fun _=>hop) (by rw[hr])]; rfl
   by_cases hc2:ca=2
   ·have dc:=d2 true (dEt hc2)
    have hv:addSS=([⟨[],[a]⟩],0):=by rw[hA0,show addS ca rule (.mk op nm us [a,b]) a b=[⟨[],[a]⟩] from by rw[hru,hc2]; rfl]
    rw[hv]
    simp(config:=zzC)only[go_sem,fits,k4,k5,k6,k7,dt,ds,Int.reduceNe,ne_eq,nFt,nTf,Int.reduceEq,yQ1,yQz,k8,s1,s2,s3,yQ2 e4,dc]
    intros
    repeat (refine (yJ6 gl _ _ _ _ _).mono ?_; rintro _ _ ⟨rfl,rfl⟩; simp(config:=zzC)only[go_sem,fits,k4,k5,k6,k7,dt,ds,Int.reduceNe,ne_eq,nFt,nTf,Int.reduceEq,yQ1,yQz,k8,s1,s2,s3,yQ2 e4,dc])
    exact yQ0 ⟨_,_,rfl,.inr rfl,⟨_,_,rfl,⟨_,_,_,_,rfl,.inl rfl,rfl,yQw e4 _ _ _,⟨_,_,rfl,hya,rfl⟩⟩,rfl⟩,rfl⟩
   ·have dc:=d2 false (dEf hc2)
    have hv:addSS=([⟨[],[a,b]⟩],0):=by rw[hA0,show addS ca rule (.mk op nm us [a,b]) a b=[⟨[],[a,b]⟩] from by rw[hru]; unfold addS; simp[hc2]]
    rw[hv]
    simp(config:=zzC)only[go_sem,fits,k4,k5,k6,k7,dt,ds,Int.reduceNe,ne_eq,nFt,nTf,Int.reduceEq,yQ1,yQz,k8,s1,s2,s3,yQ2 e4,dc]
    intros
    repeat (refine (yJ6 gl _ _ _ _ _).mono ?_; rintro _ _ ⟨rfl,rfl⟩; simp(config:=zzC)only[go_sem,fits,k4,k5,k6,k7,dt,ds,Int.reduceNe,ne_eq,nFt,nTf,Int.reduceEq,yQ1,yQz,k8,s1,s2,s3,yQ2 e4,dc])
    exact yQ0 ⟨_,_,rfl,.inr rfl,⟨_,_,rfl,⟨_,_,_,_,rfl,.inl rfl,rfl,e4,⟨_,_,rfl,hya,_,_,rfl,hyb,rfl⟩⟩,rfl⟩,rfl⟩
  ·have dt:decide (((rule:Nat):Int)=9)=true:=dEt (by omega)
   have ds:∀ j:Int,j≠9→decide (((rule:Nat):Int)=j)=false:=fun j hj=>dEf (by omega)
   have hrop:r.op=6:=by rw[hr]
   have k6:decide (r.op=0)=false:=dEf (by omega)
   by_cases hop:op=r.op
   case neg =>
    rw[hmain (by omega) hop]
    have k7:decide (op=r.op)=false:=dEf hop
    simp(config:=zzC)only[go_sem,fits,k4,k5,k6,k7]
    intros
    exact yQ0 ⟨_,_,rfl,.inl rfl,rfl,rfl⟩
   have k7:decide (op=r.op)=true:=dEt hop
   obtain⟨a,b,rfl⟩:∃ a b,sub=[a,b]:=by
    have:=hlen.2 (by omega)
    match sub,this with
    | [a,b],_=>exact⟨a,b,rfl⟩
   simp only[IsFms] at i4
   obtain⟨ya,_,rfl,hya,yb,_,rfl,hyb,rfl⟩:=i4
   obtain⟨oa,na,ta1,xa1,ta2,xa2,rfl⟩:=hya.agg
   obtain⟨ob,nb,tb1,xb1,tb2,xb2,rfl⟩:=hyb.agg
   have k8:decide ((0:Int)<((2:Nat):Int))=true:=rfl
   have s1:=yZj (show 1≤2 by omega)
   have s2:=yZi (show 1≤2 by omega)
   have s3:∀ a b c,(reTag 4 (yX5 (reTag 4 t4) a b c none)).es=4:=fun a b c=>yQ2 (yQw e4 a b c)
   generalize haS:yZm ca rule r (.mk op nm us [a,b]) term name=addSS
   have hA0:addSS=(addS ca rule (.mk op nm us [a,b]) a b,0):=by rw[← haS,yJ4 hf (fun _=>hop) (by rw[hr])]; rfl
   have hv:addSS=([⟨[],[a]⟩,⟨[b],[]⟩],0):=by rw[hA0,show addS ca rule (.mk op nm us [a,b]) a b=[⟨[],[a]⟩,⟨[b],[]⟩] from by rw[hru]; rfl]
   rw[hv]
   simp(config:=zzC)only[go_sem,fits,k4,k5,k6,k7,dt,ds,Int.reduceNe,ne_eq,nFt,nTf,Int.reduceEq,yQ1,yQz,k8,s1,s2,s3,yQ2 e4]
   intros
   repeat (refine (yJ6 gl _ _ _ _ _).mono ?_; rintro _ _ ⟨rfl,rfl⟩; simp(config:=zzC)only[go_sem,fits,k4,k5,k6,k7,dt,ds,Int.reduceNe,ne_eq,nFt,nTf,Int.reduceEq,yQ1,yQz,k8,s1,s2,s3,yQ2 e4])
   exact yQ0 ⟨_,_,rfl,.inr rfl,⟨_,_,rfl,⟨_,_,_,_,rfl,.inl rfl,rfl,yQw e4 _ _ _,⟨_,_,rfl,hya,rfl⟩⟩,⟨_,_,rfl,⟨_,_,_,_,rfl,yQw e4 _ _ _,⟨_,_,rfl,hyb,rfl⟩,.inl rfl,rfl⟩,rfl⟩⟩,rfl⟩
  ·have dt:decide (((rule:Nat):Int)=10)=true:=dEt (by omega)
   have ds:∀ j:Int,j≠10→decide (((rule:Nat):Int)=j)=false:=fun j hj=>dEf (by omega)
   have hrop:r.op=6:=by rw[hr]
   have k6:decide (r.op=0)=false:=dEf (by omega)
   by_cases hop:op=r.op
   case neg =>
    rw[hmain (by omega) hop]
    have k7:decide (op=r.op)=false:=dEf hop
    simp(config:=zzC)only[go_sem,fits,k4,k5,k6,k7]
    intros
    exact yQ0 ⟨_,_,rfl,.inl rfl,rfl,rfl⟩
   have k7:decide (op=r.op)=true:=dEt hop
   obtain⟨a,b,rfl⟩:∃ a b,sub=[a,b]:=by
    have:=hlen.2 (by omega)
    match sub,this with
    | [a,b],_=>exact⟨a,b,rfl⟩
   simp only[IsFms] at i4
   obtain⟨ya,_,rfl,hya,yb,_,rfl,hyb,rfl⟩:=i4
   obtain⟨oa,na,ta1,xa1,ta2,xa2,rfl⟩:=hya.agg
   obtain⟨ob,nb,tb1,xb1,tb2,xb2,rfl⟩:=hyb.agg
   have k8:decide ((0:Int)<((2:Nat):Int))=true:=rfl
   have s1:=yZj (show 1≤2 by omega)
   have s2:=yZi (show 1≤2 by omega)
   have s3:∀ a b c,(reTag 4 (yX5 (reTag 4 t4) a b c none)).es=4:=fun a b c=>yQ2 (yQw e4 a b c)
   generalize haS:yZm ca rule r (.mk op nm us [a,b]) term name=addSS
   have hA0:addSS=(addS ca rule (.mk op nm us [a,b]) a b,0):=by rw[← haS,yJ4 hf (fun _=>hop) (by rw[hr])]; rfl
   have hv:addSS=([⟨[a],[b]⟩],0):=by rw[hA0,show addS ca rule (.mk op nm us [a,b]) a b=[⟨[a],[b]⟩] from by rw[hru]; rfl]
   rw[hv]
   simp(config:=zzC)only[go_sem,fits,k4,k5,k6,k7,dt,ds,Int.reduceNe,ne_eq,nFt,nTf,Int.reduceEq,yQ1,yQz,k8,s1,s2,s3,yQ2 e4]
   intros
   repeat (refine (yJ6 gl _ _ _ _ _).mono ?_; rintro _ _ ⟨rfl,rfl⟩; simp(config:=zzC)only[go_sem,fits,k4,k5,k6,k7,dt,ds,Int.reduceNe,ne_eq,nFt,nTf,Int.reduceEq,yQ1,yQz,k8,s1,s2,s3,yQ2 e4])
   exact yQ0 ⟨_,_,rfl,.inr rfl,⟨_,_,rfl,⟨_,_,_,_,rfl,yQw e4 _ _ _,⟨_,_,rfl,hya,rfl⟩,yQw e4 _ _ _,⟨_,_,rfl,hyb,rfl⟩⟩,rfl⟩,rfl⟩
  ·have dt:decide (((rule:Nat):Int)=11)=true:=dEt (by omega)
   have ds:∀ j:Int,j≠11→decide (((rule:Nat):Int)=j)=false:=fun j hj=>dEf (by omega)
   have hrop:r.op=7:=by rw[hr]
   have k6:decide (r.op=0)=false:=dEf (by omega)
   by_cases hop:op=r.op
   case neg =>
    rw[hmain (by omega) hop]
    have k7:decide (op=r.op)=false:=dEf hop
    simp(config:=zzC)only[go_sem,fits,k4,k5,k6,k7]
    intros
    exact yQ0 ⟨_,_,rfl,.inl rfl,rfl,rfl⟩
   have k7:decide (op=r.op)=true:=dEt hop
   obtain⟨a,b,rfl⟩:∃ a b,sub=[a,b]:=by
    have:=hlen.2 (by omega)
    match sub,this with
    | [a,b],_=>exact⟨a,b,rfl⟩
   simp only[IsFms] at i4
   obtain⟨ya,_,rfl,hya,yb,_,rfl,hyb,rfl⟩:=i4
   obtain⟨oa,na,ta1,xa1,ta2,xa2,rfl⟩:=hya.agg
   obtain⟨ob,nb,tb1,xb1,tb2,xb2,rfl⟩:=hyb.agg
   have k8:decide ((0:Int)<((2:Nat):Int))=true:=rfl
   have s1:=yZj (show 1≤2 by omega)
   have s2:=yZi (show 1≤2 by omega)
   have s3:∀ a b c,(reTag 4 (yX5 (reTag 4 t4) a b c none)).es=4:=fun a b c=>yQ2 (yQw e4 a b c)
   generalize haS:yZm ca rule r (.mk op nm us [a,b]) term name=addSS
   have hA0:addSS=(addS ca rule (.mk op nm us [a,b]) a b,0):=by rw[← haS,yJ4 hf (fun _=>hop) (by rw[hr])]; rfl
   have hv:addSS=([⟨[impF a b,impF b a],[]⟩],0):=by rw[hA0,show addS ca rule (.mk op nm us [a,b]) a b=[⟨[impF a b,impF b a],[]⟩] from by rw[hru]; rfl]
   rw[hv]
   simp(config:=zzC)only[go_sem,fits,k4,k5,k6,k7,dt,ds,Int.reduceNe,ne_eq,nFt,nTf,Int.reduceEq,yQ1,yQz,k8,s1,s2,s3,yQ2 e4,Int.le_refl,Int.toNat_zero]
   intros
   repeat (refine (yJ6 gl _ _ _ _ _).mono ?_; rintro _ _ ⟨rfl,rfl⟩; simp(config:=zzC)only[go_sem,fits,k4,k5,k6,k7,dt,ds,Int.reduceNe,ne_eq,nFt,nTf,Int.reduceEq,yQ1,yQz,k8,s1,s2,s3,yQ2 e4])
   refine yQ0 ⟨_,_,rfl,.inr rfl,⟨_,_,rfl,⟨_,_,_,_,rfl,.inr rfl,?_,.inl rfl,rfl⟩,rfl⟩,rfl⟩
   simp only[IsFms,impF,IsFm]
   exact⟨_,_,rfl,⟨_,_,_,_,rfl,by omega,.inl rfl,rfl,e4,⟨_,_,rfl,hya,_,_,rfl,hyb,rfl⟩⟩,_,_,rfl,⟨_,_,_,_,rfl,by omega,.inl rfl,rfl,.inr rfl,⟨_,_,rfl,hyb,_,_,rfl,hya,rfl⟩⟩,rfl⟩
  ·have dt:decide (((rule:Nat):Int)=12)=true:=dEt (by omega)
   have ds:∀ j:Int,j≠12→decide (((rule:Nat):Int)=j)=false:=fun j hj=>dEf (by omega)
   have hrop:r.op=7:=by rw[hr]
   have k6:decide (r.op=0)=false:=dEf (by omega)
   by_cases hop:op=r.op
   case neg =>
    rw[hmain (by omega) hop]
    have k7:decide (op=r.op)=false:=dEf hop
    simp(config:=zzC)only[go_sem,fits,k4,k5,k6,k7]
    intros
    exact yQ0 ⟨_,_,rfl,.inl rfl,rfl,rfl⟩
   have k7:decide (op=r.op)=true:=dEt hop
   obtain⟨a,b,rfl⟩:∃ a b,sub=[a,b]:=by
    have:=hlen.2 (by omega)
    match sub,this with
    | [a,b],_=>exact⟨a,b,rfl⟩
   simp only[IsFms] at i4
   obtain⟨ya,_,rfl,hya,yb,_,rfl,hyb,rfl⟩:=i4
   obtain⟨oa,na,ta1,xa1,ta2,xa2,rfl⟩:=hya.agg
   obtain⟨ob,nb,tb1,xb1,tb2,xb2,rfl⟩:=hyb.agg
   have k8:decide ((0:Int)<((2:Nat):Int))=true:=rfl
   have s1:=yZj (show 1≤2 by omega)
   have s2:=yZi (show 1≤2 by omega)
   have s3:∀ a b c,(reTag 4 (yX5 (reTag 4 t4) a b c none)).es=4:=fun a b c=>yQ2 (yQw e4 a b c)
   generalize haS:yZm ca rule r (.mk op nm us [a,b]) term name=addSS
   have hA0:addSS=(addS ca rule (.mk op nm us [a,b]) a b,0):=by rw[← haS,yJ4 hf (fun _=>hop) (by rw[hr])]; rfl
   have hv:addSS=([⟨[a],[b]⟩,⟨[b],[a]⟩],0):=by rw[hA0,show addS ca rule (.mk op nm us [a,b]) a b=[⟨[a],[b]⟩,⟨[b],[a]⟩] from by rw[hru]; rfl]
   rw[hv]
   simp(config:=zzC)only[go_sem,fits,k4,k5,k6,k7,dt,ds,Int.reduceNe,ne_eq,nFt,nTf,Int.reduceEq,yQ1,yQz,k8,s1,s2,s3,yQ2 e4]
   intros
   repeat (refine (yJ6 gl _ _ _ _ _).mono ?_; rintro _ _ ⟨rfl,rfl⟩; simp(config:=zzC)only[go_sem,fits,k4,k5,k6,k7,dt,ds,Int.reduceNe,ne_eq,nFt,nTf,Int.reduceEq,yQ1,yQz,k8,s1,s2,s3,yQ2 e4])
   exact yQ0 ⟨_,_,rfl,.inr rfl,⟨_,_,rfl,⟨_,_,_,_,rfl,yQw e4 _ _ _,⟨_,_,rfl,hya,rfl⟩,yQw e4 _ _ _,⟨_,_,rfl,hyb,rfl⟩⟩,⟨_,_,rfl,⟨_,_,_,_,rfl,yQw e4 _ _ _,⟨_,_,rfl,hyb,rfl⟩,yQw e4 _ _ _,⟨_,_,rfl,hya,rfl⟩⟩,rfl⟩⟩,rfl⟩
  ·have dt:decide (((rule:Nat):Int)=13)=true:=dEt (by omega)
   have ds:∀ j:Int,j≠13→decide (((rule:Nat):Int)=j)=false:=fun j hj=>dEf (by omega)
   have hrop:r.op=8:=by rw[hr]
   have k6:decide (r.op=0)=false:=dEf (by omega)
   by_cases hop:op=r.op
   case neg =>
    rw[hmain (by omega) hop]
    have k7:decide (op=r.op)=false:=dEf hop
    simp(config:=zzC)only[go_sem,fits,k4,k5,k6,k7]
    intros
    exact yQ0 ⟨_,_,rfl,.inl rfl,rfl,rfl⟩
   have k7:decide (op=r.op)=true:=dEt hop
   obtain⟨a,rfl⟩:∃ a,sub=[a]:=by
    have:=hlen.1 (by omega)
    match sub,this with
    | [a],_=>exact⟨a,rfl⟩
   simp only[IsFms] at i4
   obtain⟨ya,_,rfl,hya,rfl⟩:=i4
   obtain⟨oa,na,ta1,xa1,ta2,xa2,rfl⟩:=hya.agg
   have k8:decide ((0:Int)<((1:Nat):Int))=true:=rfl
   have s1:=yZj (show 1≤1 by omega)
   have s2:=yZi (show 1≤1 by omega)
   have s3:∀ a b c,(reTag 4 (yX5 (reTag 4 t4) a b c none)).es=4:=fun a b c=>yQ2 (yQw e4 a b c)
   have hT:=fun st=>zK7 gl term _ hz0 (by omega) st
   have hP:=fun st=>xVi gl a _ hya (by simp only[Fm.size,yQ7] at hm; have:=(zZ2.1 hf).2.1; simp only[Fm.size,yQ7] at this; omega) nm term _ hz0 (by omega) st
   generalize haS:yZm ca rule r (.mk op nm us [a]) term name=addSS
   have hA0:=haS.symm.trans (zJj (t:=term) hf (fun _=>hop) (by rw[hr]; decide) (by rw[hr]; rfl))
   simp only[Fm.subs,Fm.nm,List.getElem?_cons_zero,Option.getD_some] at hA0
   simp(config:=zzC)only[go_sem,fits,k4,k5,k6,k7,dt,ds,Int.reduceNe,ne_eq,nFt,nTf,Int.reduceEq,yQ1,yQz,k8,s1,s2,s3,yQ2 e4]
   intros
   refine (hT _).mono ?_
   rintro _ st ⟨rfl,rfl⟩
   cases hok:term.ok
   ·rw[hok] at hA0
    rw[hA0]
    simp(config:=zzC)only[go_sem,fits,k4,k5,k6,k7,dt,ds,Int.reduceNe,ne_eq,nFt,nTf,Int.reduceEq,yQ1,yQz,k8,s1,s2,s3,yQ2 e4]
    exact yQ0 ⟨_,_,rfl,.inl rfl,rfl,rfl⟩
   rw[hok] at hA0
   rw[if_neg (by decide)] at hA0
   simp(config:=zzC)only[go_sem,fits,k4,k5,k6,k7,dt,ds,Int.reduceNe,ne_eq,nFt,nTf,Int.reduceEq,yQ1,yQz,k8,s1,s2,s3,yQ2 e4,Int.le_refl,Int.toNat_zero]
   intros
   refine (hP _).mono ?_
   rintro _ st ⟨yg,rfl,hg,rfl⟩
   obtain⟨og,ng,tg1,xg1,tg2,xg2,rfl⟩:=hg.agg
   rcases wKi hA0.symm with⟨he,hA1⟩ | ⟨he,hA1⟩
   ·have k9:decide ((((yZc a [(nm,term)]).2:Nat):Int)=0)=false:=dEf (by omega)
    rw[← hA1]
    simp(config:=zzC)only[go_sem,fits,k4,k5,k6,k7,dt,ds,Int.reduceNe,ne_eq,nFt,nTf,Int.reduceEq,yQ1,yQz,k8,s1,s2,s3,yQ2 e4,k9]
    exact yQ0 ⟨_,_,rfl,.inl rfl,rfl,rfl⟩
   ·have k9:decide ((((yZc a [(nm,term)]).2:Nat):Int)=0)=true:=dEt (by omega)
    rw[← hA1,show ∀ A B,addS ca rule (.mk op nm us [a]) A B=[⟨[A],[]⟩] from fun A B=>by rw[hru]; rfl]
    simp(config:=zzC)only[go_sem,fits,k4,k5,k6,k7,dt,ds,Int.reduceNe,ne_eq,nFt,nTf,Int.reduceEq,yQ1,yQz,k8,s1,s2,s3,yQ2 e4,k9]
    intros
    repeat (refine (yJ6 gl _ _ _ _ _).mono ?_; rintro _ _ ⟨rfl,rfl⟩; simp(config:=zzC)only[go_sem,fits,k4,k5,k6,k7,dt,ds,Int.reduceNe,ne_eq,nFt,nTf,Int.reduceEq,yQ1,yQz,k8,s1,s2,s3,yQ2 e4])
    exact yQ0 ⟨_,_,rfl,.inr rfl,⟨_,_,rfl,⟨_,_,_,_,rfl,.inr rfl,⟨_,_,rfl,hg,rfl⟩,.inl rfl,rfl⟩,rfl⟩,rfl⟩
  ·have dt:decide (((rule:Nat):Int)=14)=true:=dEt (by omega)
   have ds:∀ j:Int,j≠14→decide (((rule:Nat):Int)=j)=false:=fun j hj=>dEf (by omega)
   have hrop:r.op=8:=by rw[hr]
   have k6:decide (r.op=0)=false:=dEf (by omega)
   by_cases hop:op=r.op
   case neg =>
    rw[hmain (by omega) hop]
    have k7:decide (op=r.op)=false:=dEf hop
    simp(config:=zzC)only[go_sem,fits,k4,k5,k6,k7]
    intros
    exact yQ0 ⟨_,_,rfl,.inl rfl,rfl,rfl⟩
   have k7:decide (op=r.op)=true:=dEt hop
   obtain⟨a,rfl⟩:∃ a,sub=[a]:=by
    have:=hlen.1 (by omega)
    match sub,this with
    | [a],_=>exact⟨a,rfl⟩
   simp only[IsFms] at i4
   obtain⟨ya,_,rfl,hya,rfl⟩:=i4
   obtain⟨oa,na,ta1,xa1,ta2,xa2,rfl⟩:=hya.agg
   have k8:decide ((0:Int)<((1:Nat):Int))=true:=rfl
   have s1:=yZj (show 1≤1 by omega)
   have s2:=yZi (show 1≤1 by omega)
   have s3:∀ a b c,(reTag 4 (yX5 (reTag 4 t4) a b c none)).es=4:=fun a b c=>yQ2 (yQw e4 a b c)
   have hT:=fun st=>zK7 gl (Tm.mk true name []) (.agg [.raw (.bool true),.raw (.string name),.sl ⟨true,.nil,0⟩ []]) ⟨⟨true,.nil,0⟩,[],rfl,.inl rfl,rfl⟩ (by simp[Tm.size,yQ8]) st
   have hP:=fun st=>xVi gl a _ hya (by simp only[Fm.size,yQ7] at hm; have:=(zZ2.1 hf).2.1; simp only[Fm.size,yQ7] at this; omega) nm (Tm.mk true name []) (.agg [.raw (.bool true),.raw (.string name),.sl ⟨true,.nil,0⟩ []]) ⟨⟨true,.nil,0⟩,[],rfl,.inl rfl,rfl⟩ (by simp[Tm.size,yQ8]) st
   generalize haS:yZm ca rule r (.mk op nm us [a]) term name=addSS
   have hA0:=haS.symm.trans (zJj (t:=(Tm.mk true name [])) hf (fun _=>hop) (by rw[hr]; decide) (by rw[hr]; rfl))
   simp only[Fm.subs,Fm.nm,List.getElem?_cons_zero,Option.getD_some] at hA0
   have hV:=fun st=>yJr gl name st
   simp(config:=zzC)only[go_sem,fits,k4,k5,k6,k7,dt,ds,Int.reduceNe,ne_eq,nFt,nTf,Int.reduceEq,yQ1,yQz,k8,s1,s2,s3,yQ2 e4]
   intros
   refine (hV _).mono ?_
   rintro _ st ⟨rfl,rfl⟩
   cases hnv:yKg name
   ·rw[if_pos (show (Tm.mk true name []).ok=false from by simp[Tm.ok,hnv])] at hA0
    rw[hA0]
    simp(config:=zzC)only[go_sem,fits]
    exact yQ0 ⟨_,_,rfl,.inl rfl,rfl,rfl⟩
   have hok:(Tm.mk true name []).ok=true:=by simp[Tm.ok,hnv]
   rw[hok] at hT
   simp(config:=zzC)only[go_sem,fits,k4,k5,k6,k7,dt,ds,Int.reduceNe,ne_eq,nFt,nTf,Int.reduceEq,yQ1,yQz,k8,s1,s2,s3,yQ2 e4]
   refine (hT _).mono ?_
   rintro _ st ⟨rfl,rfl⟩
   rw[hok] at hA0
   rw[if_neg (by decide)] at hA0
   simp(config:=zzC)only[go_sem,fits,k4,k5,k6,k7,dt,ds,Int.reduceNe,ne_eq,nFt,nTf,Int.reduceEq,yQ1,yQz,k8,s1,s2,s3,yQ2 e4,Int.le_refl,Int.toNat_zero]
   intros
   refine (hP _).mono ?_
   rintro _ st ⟨yg,rfl,hg,rfl⟩
   obtain⟨og,ng,tg1,xg1,tg2,xg2,rfl⟩:=hg.agg
   rcases wKi hA0.symm with⟨he,hA1⟩ | ⟨he,hA1⟩
   ·have k9:decide ((((yZc a [(nm,(Tm.mk true name []))]).2:Nat):Int)=0)=false:=dEf (by omega)
    rw[← hA1]
    simp(config:=zzC)only[go_sem,fits,k4,k5,k6,k7,dt,ds,Int.reduceNe,ne_eq,nFt,nTf,Int.reduceEq,yQ1,yQz,k8,s1,s2,s3,yQ2 e4,k9]
    exact yQ0 ⟨_,_,rfl,.inl rfl,rfl,rfl⟩
   ·have k9:decide ((((yZc a [(nm,(Tm.mk true name []))]).2:Nat):Int)=0)=true:=dEt (by omega)
    rw[← hA1,show ∀ A B,addS ca rule (.mk op nm us [a]) A B=[⟨[],[A]⟩] from fun A B=>by rw[hru]; rfl]
    simp(config:=zzC)only[go_sem,fits,k4,k5,k6,k7,dt,ds,Int.reduceNe,ne_eq,nFt,nTf,Int.reduceEq,yQ1,yQz,k8,s1,s2,s3,yQ2 e4,k9]
    intros
    repeat (refine (yJ6 gl _ _ _ _ _).mono ?_; rintro _ _ ⟨rfl,rfl⟩; simp(config:=zzC)only[go_sem,fits,k4,k5,k6,k7,dt,ds,Int.reduceNe,ne_eq,nFt,nTf,Int.reduceEq,yQ1,yQz,k8,s1,s2,s3,yQ2 e4])
    exact yQ0 ⟨_,_,rfl,.inr rfl,⟨_,_,rfl,⟨_,_,_,_,rfl,.inl rfl,rfl,.inr rfl,⟨_,_,rfl,hg,rfl⟩⟩,rfl⟩,rfl⟩
  ·have dt:decide (((rule:Nat):Int)=15)=true:=dEt (by omega)
   have ds:∀ j:Int,j≠15→decide (((rule:Nat):Int)=j)=false:=fun j hj=>dEf (by omega)
   have hrop:r.op=9:=by rw[hr]
   have k6:decide (r.op=0)=false:=dEf (by omega)
   by_cases hop:op=r.op
   case neg =>
    rw[hmain (by omega) hop]
    have k7:decide (op=r.op)=false:=dEf hop
    simp(config:=zzC)only[go_sem,fits,k4,k5,k6,k7]
    intros
    exact yQ0 ⟨_,_,rfl,.inl rfl,rfl,rfl⟩
   have k7:decide (op=r.op)=true:=dEt hop
   obtain⟨a,rfl⟩:∃ a,sub=[a]:=by
    have:=hlen.1 (by omega)
    match sub,this with
    | [a],_=>exact⟨a,rfl⟩
   simp only[IsFms] at i4
   obtain⟨ya,_,rfl,hya,rfl⟩:=i4
   obtain⟨oa,na,ta1,xa1,ta2,xa2,rfl⟩:=hya.agg
   have k8:decide ((0:Int)<((1:Nat):Int))=true:=rfl
   have s1:=yZj (show 1≤1 by omega)
   have s2:=yZi (show 1≤1 by omega)
   have s3:∀ a b c,(reTag 4 (yX5 (reTag 4 t4) a b c none)).es=4:=fun a b c=>yQ2 (yQw e4 a b c)
   have hT:=fun st=>zK7 gl (Tm.mk true name []) (.agg [.raw (.bool true),.raw (.string name),.sl ⟨true,.nil,0⟩ []]) ⟨⟨true,.nil,0⟩,[],rfl,.inl rfl,rfl⟩ (by simp[Tm.size,yQ8]) st
   have hP:=fun st=>xVi gl a _ hya (by simp only[Fm.size,yQ7] at hm; have:=(zZ2.1 hf).2.1; simp only[Fm.size,yQ7] at this; omega) nm (Tm.mk true name []) (.agg [.raw (.bool true),.raw (.string name),.sl ⟨true,.nil,0⟩ []]) ⟨⟨true,.nil,0⟩,[],rfl,.inl rfl,rfl⟩ (by simp[Tm.size,yQ8]) st
   generalize haS:yZm ca rule r (.mk op nm us [a]) term name=addSS
   have hA0:=haS.symm.trans (zJj (t:=(Tm.mk true name [])) hf (fun _=>hop) (by rw[hr]; decide) (by rw[hr]; rfl))
   simp only[Fm.subs,Fm.nm,List.getElem?_cons_zero,Option.getD_some] at hA0
   have hV:=fun st=>yJr gl name st
   simp(config:=zzC)only[go_sem,fits,k4,k5,k6,k7,dt,ds,Int.reduceNe,ne_eq,nFt,nTf,Int.reduceEq,yQ1,yQz,k8,s1,s2,s3,yQ2 e4]
   intros
   refine (hV _).mono ?_
   rintro _ st ⟨rfl,rfl⟩
   cases hnv:yKg name
   ·rw[if_pos (show (Tm.mk true name []).ok=false from by simp[Tm.ok,hnv])] at hA0
    rw[hA0]
    simp(config:=zzC)only[go_sem,fits]
    exact yQ0 ⟨_,_,rfl,.inl rfl,rfl,rfl⟩
   have hok:(Tm.mk true name []).ok=true:=by simp[Tm.ok,hnv]
   rw[hok] at hT
   simp(config:=zzC)only[go_sem,fits,k4,k5,k6,k7,dt,ds,Int.reduceNe,ne_eq,nFt,nTf,Int.reduceEq,yQ1,yQz,k8,s1,s2,s3,yQ2 e4]
   refine (hT _).mono ?_
   rintro _ st ⟨rfl,rfl⟩
   rw[hok] at hA0
   rw[if_neg (by decide)] at hA0
   simp(config:=zzC)only[go_sem,fits,k4,k5,k6,k7,dt,ds,Int.reduceNe,ne_eq,nFt,nTf,Int.reduceEq,yQ1,yQz,k8,s1,s2,s3,yQ2 e4,Int.le_refl,Int.toNat_zero]
   intros
   refine (hP _).mono ?_
   rintro _ st ⟨yg,rfl,hg,rfl⟩
   obtain⟨og,ng,tg1,xg1,tg2,xg2,rfl⟩:=hg.agg
   rcases wKi hA0.symm with⟨he,hA1⟩ | ⟨he,hA1⟩
   ·have k9:decide ((((yZc a [(nm,(Tm.mk true name []))]).2:Nat):Int)=0)=false:=dEf (by omega)
    rw[← hA1]
    simp(config:=zzC)only[go_sem,fits,k4,k5,k6,k7,dt,ds,Int.reduceNe,ne_eq,nFt,nTf,Int.reduceEq,yQ1,yQz,k8,s1,s2,s3,yQ2 e4,k9]
    exact yQ0 ⟨_,_,rfl,.inl rfl,rfl,rfl⟩
   ·have k9:decide ((((yZc a [(nm,(Tm.mk true name []))]).2:Nat):Int)=0)=true:=dEt (by omega)
    rw[← hA1,show ∀ A B,addS ca rule (.mk op nm us [a]) A B=[⟨[A],[]⟩] from fun A B=>by rw[hru]; rfl]
    simp(config:=zzC)only[go_sem,fits,k4,k5,k6,k7,dt,ds,Int.reduceNe,ne_eq,nFt,nTf,Int.reduceEq,yQ1,yQz,k8,s1,s2,s3,yQ2 e4,k9]
    intros
    repeat (refine (yJ6 gl _ _ _ _ _).mono ?_; rintro _ _ ⟨rfl,rfl⟩; simp(config:=zzC)only[go_sem,fits,k4,k5,k6,k7,dt,ds,Int.reduceNe,ne_eq,nFt,nTf,Int.reduceEq,yQ1,yQz,k8,s1,s2,s3,yQ2 e4])
    exact yQ0 ⟨_,_,rfl,.inr rfl,⟨_,_,rfl,⟨_,_,_,_,rfl,.inr rfl,⟨_,_,rfl,hg,rfl⟩,.inl rfl,rfl⟩,rfl⟩,rfl⟩
  ·have dt:decide (((rule:Nat):Int)=16)=true:=dEt (by omega)
   have ds:∀ j:Int,j≠16→decide (((rule:Nat):Int)=j)=false:=fun j hj=>dEf (by omega)
   have hrop:r.op=9:=by rw[hr]
   have k6:decide (r.op=0)=false:=dEf (by omega)
   by_cases hop:op=r.op
   case neg =>
    rw[hmain (by omega) hop]
    have k7:decide (op=r.op)=false:=dEf hop
    simp(config:=zzC)only[go_sem,fits,k4,k5,k6,k7]
    intros
    exact yQ0 ⟨_,_,rfl,.inl rfl,rfl,rfl⟩
   have k7:decide (op=r.op)=true:=dEt hop
   obtain⟨a,rfl⟩:∃ a,sub=[a]:=by
    have:=hlen.1 (by omega)
    match sub,this with
    | [a],_=>exact⟨a,rfl⟩
   simp only[IsFms] at i4
   obtain⟨ya,_,rfl,hya,rfl⟩:=i4
   obtain⟨oa,na,ta1,xa1,ta2,xa2,rfl⟩:=hya.agg
   have k8:decide ((0:Int)<((1:Nat):Int))=true:=rfl
   have s1:=yZj (show 1≤1 by omega)
   have s2:=yZi (show 1≤1 by omega)
   have s3:∀ a b c,(reTag 4 (yX5 (reTag 4 t4) a b c none)).es=4:=fun a b c=>yQ2 (yQw e4 a b c)
   have hT:=fun st=>zK7 gl term _ hz0 (by omega) st
   have hP:=fun st=>xVi gl a _ hya (by simp only[Fm.size,yQ7] at hm; have:=(zZ2.1 hf).2.1; simp only[Fm.size,yQ7] at this; omega) nm term _ hz0 (by omega) st
   generalize haS:yZm ca rule r (.mk op nm us [a]) term name=addSS
   have hA0:=haS.symm.trans (zJj (t:=term) hf (fun _=>hop) (by rw[hr]; decide) (by rw[hr]; rfl))
   simp only[Fm.subs,Fm.nm,List.getElem?_cons_zero,Option.getD_some] at hA0
   simp(config:=zzC)only[go_sem,fits,k4,k5,k6,k7,dt,ds,Int.reduceNe,ne_eq,nFt,nTf,Int.reduceEq,yQ1,yQz,k8,s1,s2,s3,yQ2 e4]
   intros
   refine (hT _).mono ?_
   rintro _ st ⟨rfl,rfl⟩
   cases hok:term.ok
   ·rw[hok] at hA0
    rw[hA0]
    simp(config:=zzC)only[go_sem,fits,k4,k5,k6,k7,dt,ds,Int.reduceNe,ne_eq,nFt,nTf,Int.reduceEq,yQ1,yQz,k8,s1,s2,s3,yQ2 e4]
    exact yQ0 ⟨_,_,rfl,.inl rfl,rfl,rfl⟩
   rw[hok] at hA0
   rw[if_neg (by decide)] at hA0
   simp(config:=zzC)only[go_sem,fits,k4,k5,k6,k7,dt,ds,Int.reduceNe,ne_eq,nFt,nTf,Int.reduceEq,yQ1,yQz,k8,s1,s2,s3,yQ2 e4,Int.le_refl,Int.toNat_zero]
   intros
   refine (hP _).mono ?_
   rintro _ st ⟨yg,rfl,hg,rfl⟩
   obtain⟨og,ng,tg1,xg1,tg2,xg2,rfl⟩:=hg.agg
   rcases wKi hA0.symm with⟨he,hA1⟩ | ⟨he,hA1⟩
   ·have k9:decide ((((yZc a [(nm,term)]).2:Nat):Int)=0)=false:=dEf (by omega)
    rw[← hA1]
    simp(config:=zzC)only[go_sem,fits,k4,k5,k6,k7,dt,ds,Int.reduceNe,ne_eq,nFt,nTf,Int.reduceEq,yQ1,yQz,k8,s1,s2,s3,yQ2 e4,k9]
    exact yQ0 ⟨_,_,rfl,.inl rfl,rfl,rfl⟩
   ·have k9:decide ((((yZc a [(nm,term)]).2:Nat):Int)=0)=true:=dEt (by omega)
    rw[← hA1,show ∀ A B,addS ca rule (.mk op nm us [a]) A B=[⟨[],[A]⟩] from fun A B=>by rw[hru]; rfl]
    simp(config:=zzC)only[go_sem,fits,k4,k5,k6,k7,dt,ds,Int.reduceNe,ne_eq,nFt,nTf,Int.reduceEq,yQ1,yQz,k8,s1,s2,s3,yQ2 e4,k9]
    intros
    repeat (refine (yJ6 gl _ _ _ _ _).mono ?_; rintro _ _ ⟨rfl,rfl⟩; simp(config:=zzC)only[go_sem,fits,k4,k5,k6,k7,dt,ds,Int.reduceNe,ne_eq,nFt,nTf,Int.reduceEq,yQ1,yQz,k8,s1,s2,s3,yQ2 e4])
    exact yQ0 ⟨_,_,rfl,.inr rfl,⟨_,_,rfl,⟨_,_,_,_,rfl,.inl rfl,rfl,.inr rfl,⟨_,_,rfl,hg,rfl⟩⟩,rfl⟩,rfl⟩
  ·have dt:decide (((rule:Nat):Int)=17)=true:=dEt (by omega)
   have ds:∀ j:Int,j≠17→decide (((rule:Nat):Int)=j)=false:=fun j hj=>dEf (by omega)
   have hrop:r.op=0:=by rw[hr]
   have k6:decide (r.op=0)=true:=dEt hrop
   rw[yJ4 hf (fun h=>absurd hrop h) (by rw[hr]),show ∀ A B,addS ca rule (.mk op nm us sub) A B=[⟨[],[.mk op nm us sub]⟩,⟨[.mk op nm us sub],[]⟩] from fun A B=>by rw[hru]; rfl]
   by_cases hsl:sub.length=0
   ·have k8:decide ((0:Int)<((sub.length:Nat):Int))=false:=dEf (by omega)
    simp(config:=zzC)only[go_sem,fits,k4,k5,k6,dt,ds,Int.reduceNe,ne_eq,nFt,nTf,Int.reduceEq,yQ1,yQz,i4.len,k8]
    intros
    repeat (refine (yJ6 gl _ _ _ _ _).mono ?_; rintro _ _ ⟨rfl,rfl⟩; simp(config:=zzC)only[go_sem,fits,k4,k5,k6,dt,ds,Int.reduceNe,ne_eq,nFt,nTf,Int.reduceEq,yQ1,yQz])
    exact yQ0 ⟨_,_,rfl,.inr rfl,⟨_,_,rfl,⟨_,_,_,_,rfl,.inl rfl,rfl,.inr rfl,⟨_,_,rfl,hy0,rfl⟩⟩,⟨_,_,rfl,⟨_,_,_,_,rfl,.inr rfl,⟨_,_,rfl,hy0,rfl⟩,.inl rfl,rfl⟩,rfl⟩⟩,rfl⟩
   ·have k8:decide ((0:Int)<((sub.length:Nat):Int))=true:=dEt (by omega)
    simp(config:=zzC)only[go_sem,fits,k4,k5,k6,dt,ds,Int.reduceNe,ne_eq,nFt,nTf,Int.reduceEq,yQ1,yQz,i4.len,k8,yZj (show 1≤sub.length by omega),yZi (show 1≤sub.length by omega),yQ2 e4]
    intros
    repeat (refine (yJ6 gl _ _ _ _ _).mono ?_; rintro _ _ ⟨rfl,rfl⟩; simp(config:=zzC)only[go_sem,fits,k4,k5,k6,dt,ds,Int.reduceNe,ne_eq,nFt,nTf,Int.reduceEq,yQ1,yQz])
    exact yQ0 ⟨_,_,rfl,.inr rfl,⟨_,_,rfl,⟨_,_,_,_,rfl,.inl rfl,rfl,.inr rfl,⟨_,_,rfl,hy0,rfl⟩⟩,⟨_,_,rfl,⟨_,_,_,_,rfl,.inr rfl,⟨_,_,rfl,hy0,rfl⟩,.inl rfl,rfl⟩,rfl⟩⟩,rfl⟩
  ·have dt:decide (((rule:Nat):Int)=18)=true:=dEt (by omega)
   have ds:∀ j:Int,j≠18→decide (((rule:Nat):Int)=j)=false:=fun j hj=>dEf (by omega)
   have hrop:r.op=5:=by rw[hr]
   have k6:decide (r.op=0)=false:=dEf (by omega)
   by_cases hop:op=r.op
   case neg =>
    rw[hmain (by omega) hop]
    have k7:decide (op=r.op)=false:=dEf hop
    simp(config:=zzC)only[go_sem,fits,k4,k5,k6,k7]
    intros
    exact yQ0 ⟨_,_,rfl,.inl rfl,rfl,rfl⟩
   have k7:decide (op=r.op)=true:=dEt hop
   obtain⟨a,b,rfl⟩:∃ a b,sub=[a,b]:=by
    have:=hlen.2 (by omega)
    match sub,this with
    | [a,b],_=>exact⟨a,b,rfl⟩
   simp only[IsFms] at i4
   obtain⟨ya,_,rfl,hya,yb,_,rfl,hyb,rfl⟩:=i4
   obtain⟨oa,na,ta1,xa1,ta2,xa2,rfl⟩:=hya.agg
   obtain⟨ob,nb,tb1,xb1,tb2,xb2,rfl⟩:=hyb.agg
   have k8:decide ((0:Int)<((2:Nat):Int))=true:=rfl
   have s1:=yZj (show 1≤2 by omega)
   have s2:=yZi (show 1≤2 by omega)
   have s3:∀ a b c,(reTag 4 (yX5 (reTag 4 t4) a b c none)).es=4:=fun a b c=>yQ2 (yQw e4 a b c)
   generalize haS:yZm ca rule r (.mk op nm us [a,b]) term name=addSS
   have hA0:addSS=(addS ca rule (.mk op nm us [a,b]) a b,0):=by rw[← haS,yJ4 hf (fun _=>hop) (by rw[hr])]; rfl
   have hv:addSS=([⟨[],[b]⟩],0):=by rw[hA0,show addS ca rule (.mk op nm us [a,b]) a b=[⟨[],[b]⟩] from by rw[hru]; rfl]
   rw[hv]
   simp(config:=zzC)only[go_sem,fits,k4,k5,k6,k7,dt,ds,Int.reduceNe,ne_eq,nFt,nTf,Int.reduceEq,yQ1,yQz,k8,s1,s2,s3,yQ2 e4]
   intros
   repeat (refine (yJ6 gl _ _ _ _ _).mono ?_; rintro _ _ ⟨rfl,rfl⟩; simp(config:=zzC)only[go_sem,fits,k4,k5,k6,k7,dt,ds,Int.reduceNe,ne_eq,nFt,nTf,Int.reduceEq,yQ1,yQz,k8,s1,s2,s3,yQ2 e4])
   exact yQ0 ⟨_,_,rfl,.inr rfl,⟨_,_,rfl,⟨_,_,_,_,rfl,.inl rfl,rfl,yQw e4 _ _ _,⟨_,_,rfl,hyb,rfl⟩⟩,rfl⟩,rfl⟩
end Go.Proofs.Tryz
namespace Go.Proofs.Tryz
open Go Go.Iv
end Go.Proofs.Tryz
namespace Go.Proofs.Tryz
open Go Go.Iv
mutual
def NA:Tr→Prop
 | .mk _ s m u _ sub=>yW9 s∧m.size≤1000000∧u.size≤1000000∧NAs sub
def NAs:List Tr→Prop
 | []=>True
 | a::l=>NA a∧NAs l
end
mutual
theorem wY0:∀ {t:Tr},okT t=true→NA t
 | .mk _ s m u n sub,h=>by
  have hn:=wKp h
  simp only[okT,bAt] at h
  exact⟨hn.1,hn.2.1,hn.2.2.1,xVy h.2⟩
theorem xVy:∀ {l:List Tr},okTs l=true→NAs l
 | [],_=>trivial
 | a::l,h=>by
  simp only[okTs,bAt] at h
  exact⟨wY0 h.1,xVy h.2⟩
end
end Go.Proofs.Tryz
namespace Go.Proofs.Tryz
open Go Go.Iv
set_option maxRecDepth 4000
variable (gl:Nat→Option IV)
theorem zJg {ca rule:Nat}{r:Rw}(h:rowS ca rule=some r):r.asks=2↔rule=14∨rule=15:=by
 rcases xQm h with⟨rfl,rfl⟩ | ⟨rfl,rfl⟩ | ⟨rfl,rfl⟩ | ⟨rfl,rfl⟩ | ⟨rfl,rfl⟩ | ⟨rfl,rfl⟩ | ⟨rfl,rfl⟩ | ⟨rfl,rfl⟩ | ⟨rfl,rfl⟩ | ⟨rfl,rfl⟩ | ⟨rfl,rfl⟩ | ⟨rfl,rfl⟩ | ⟨rfl,rfl⟩ | ⟨rfl,rfl⟩ | ⟨rfl,rfl⟩ | ⟨rfl,rfl⟩ | ⟨rfl,rfl⟩ | ⟨rfl,rfl⟩<;>simp
def yZv (q:List Sq×Nat)(bl br bf:Bool)(r:Rw):List Sq×Nat :=
 if decide (q.2=192) || (r.left&&!bl) || (r.right&&!br) then ([],192) else if q.2≠0 then ([],q.2) else if decide (r.asks=2)&&bf then ([],193) else (q.1,0)
theorem wGm {ca rule:Nat}{s:Sq}{m:Fm}{u:Tm}{n:ByteArray}{r:Rw}(hv:yXl ca s=true)(hr:rowS ca rule=some r) :
  yXe ca s rule m u n=yZv (yZm ca rule r m u n) (hasF s.l m) (hasF s.r m) (yVp s n) r:=by
 unfold yXe yZv
 rw[hv,hr]; rfl
set_option maxHeartbeats 4000000 in
theorem wQo (G:Gl gl)(ca:Nat)(t:Tr)(x:IV)(hx:IsTr t x)(hn:NA t)(hu:zZi t=true)(st:ISt) :
  ICall prog gl 104 [.raw (.int .u8 ca),x] st (AdR st (match t with | .mk rule s m u n _=>yXe ca s rule m u n)):=by
 obtain⟨rule,s,m,u,n,sub⟩:=t
 obtain⟨tl,xl,tr,xr,op,fn,ta,xa,tb,xb,v,un,tu,xu,ts,xs,rfl,hru,e1,i1,e2,i2,hy,hz,e3,i3⟩:=hx.mk
 simp only[NA] at hn
 simp only[zZi,bAt,dTe] at hu
 have hV:=fun st=>wKc gl ca s _ ⟨tl,xl,tr,xr,rfl,e1,i1,e2,i2⟩ hn.1 st
 have hW:=fun st=>xUd gl ca rule st
 have hA:=fun st=>xVm gl ca rule m _ hy hn.2.1 u _ hz hu.1 n st
 refine iI func104 rfl rfl (by kernel_rfl) ?_
 simp(config:=zzC)only[go_sem,fits]
 refine (hV _).mono ?_
 rintro _ st ⟨rfl,rfl⟩
 cases hv:yXl ca s
 ·rw[show yXe ca s rule m u n=([],190) from by unfold yXe; rw[hv]; rfl]
  simp(config:=zzC)only[go_sem,fits]
  exact yQ0 ⟨_,_,rfl,.inl rfl,rfl,rfl⟩
 obtain⟨hk,hl64,hr64,_⟩:=zZh.1 hv
 have hHl:=fun st=>wWx gl G s.l tl xl e1 i1 m _ hy hn.1.1 hn.2.1 (by omega) st
 have hHr:=fun st=>wWx gl G s.r tr xr e2 i2 m _ hy hn.1.2 hn.2.1 (by omega) st
 have hfl:=fun st=>wQj gl s.l tl xl e1 i1 n hn.1.1 (by omega) st
 have hfr:=fun st=>wQj gl s.r tr xr e2 i2 n hn.1.2 (by omega) st
 simp(config:=zzC)only[go_sem,fits]
 refine (hW _).mono ?_
 rintro w st ⟨hw,rfl⟩
 unfold yKj at hw
 cases hrow:rowS ca rule with
 | none =>
  rw[hrow] at hw
  obtain⟨o9,a9,b9,rfl⟩:=hw
  rw[show yXe ca s rule m u n=([],191) from by unfold yXe; rw[hv,hrow]; rfl]
  simp(config:=zzC)only[go_sem,fits]
  exact yQ0 ⟨_,_,rfl,.inl rfl,rfl,rfl⟩
 | some r =>
  rw[hrow] at hw
  simp only at hw
  subst hw
  rw[wGm hv hrow]
  have hAd:yGg ca rule m u n=yZm ca rule r m u n:=by unfold yGg; rw[hk,hrow]; rfl
  rw[hAd] at hA
  have herr:=wJ0 ca rule r m u n
  generalize yZm ca rule r m u n=q at hA herr ⊢
  have hbf:((s.l.any fun f=>memB (frF f) n) || (s.r.any fun f=>memB (frF f) n))=yVp s n:=rfl
  generalize yVp s n=bf at hbf ⊢
  generalize hasF s.l m=bl at hHl ⊢
  generalize hasF s.r m=br at hHr ⊢
  generalize hS:yZv q bl br bf r=S
  simp(config:=zzC)only[go_sem,fits]
  refine (hA _).mono ?_
  rintro _ st ⟨tga,za,rfl,hta,hza,rfl⟩
  by_cases h192:q.2=192
  ·have k192:decide (((q.2:Nat):Int)=192)=true:=dEt (by omega)
   obtain rfl:S=([],192):=by rw[← hS]; unfold yZv; simp[h192]
   simp(config:=zzC)only[go_sem,fits,k192]
   intros
   exact yQ0 ⟨_,_,rfl,.inl rfl,rfl,rfl⟩
  have k192:decide (((q.2:Nat):Int)=192)=false:=dEf (by omega)
  cases hl:r.left
  ·simp(config:=zzC)only[go_sem,fits,k192,hl]
   intros
   cases hr:r.right
   ·simp(config:=zzC)only[go_sem,fits,k192,hl,hr]
    intros
    by_cases h0:q.2=0
    case neg =>
     have k0:decide (((q.2:Nat):Int)=0)=false:=dEf (by omega)
     have h193:q.2=193:=by omega
     obtain rfl:S=([],193):=by rw[← hS]; unfold yZv; simp[h193,hr,h192,hl]
     simp(config:=zzC)only[go_sem,fits,k192,hl,hr,k0]
     intros
     exact yQ0 ⟨_,_,rfl,.inl rfl,rfl,rfl⟩
    have k0:decide (((q.2:Nat):Int)=0)=true:=dEt (by omega)
    have haf:=zJg hrow
    by_cases h14:rule=14
    ·have k14:decide (((rule:Nat):Int)=14)=true:=dEt (by omega)
     have has:r.asks=2:=haf.2 (.inl h14)
     simp(config:=zzC)only[go_sem,fits,k192,hl,hr,k0,k14]
     intros
     refine (hfl _).mono ?_
     rintro _ st ⟨rfl,rfl⟩
     cases hb1:(s.l.any fun f=>memB (frF f) n)
     ·rw[hb1,Bool.false_or] at hbf
      simp(config:=zzC)only[go_sem,fits,k192,hl,hr,k0,k14]
      intros
      refine (hfr _).mono ?_
      rintro _ st ⟨rfl,rfl⟩
      cases hb2:(s.r.any fun f=>memB (frF f) n)
      ·rw[hb2] at hbf
       obtain rfl:S=(q.1,0):=by rw[← hS]; unfold yZv; simp[h0,← hbf,hr,h192,hl]
       simp(config:=zzC)only[go_sem,fits,k192,hl,hr,k0,k14]
       intros
       exact yQ0 ⟨_,_,rfl,hta,hza,rfl⟩
      ·rw[hb2] at hbf
       obtain rfl:S=([],193):=by rw[← hS]; unfold yZv; simp[has,h0,← hbf,hr,h192,hl]
       simp(config:=zzC)only[go_sem,fits,k192,hl,hr,k0,k14]
       intros
       exact yQ0 ⟨_,_,rfl,.inl rfl,rfl,rfl⟩
     ·rw[hb1,Bool.true_or] at hbf
      obtain rfl:S=([],193):=by rw[← hS]; unfold yZv; simp[has,h0,← hbf,hr,h192,hl]
      simp(config:=zzC)only[go_sem,fits,k192,hl,hr,k0,k14]
      intros
      exact yQ0 ⟨_,_,rfl,.inl rfl,rfl,rfl⟩
    by_cases h15:rule=15
    ·have k14:decide (((rule:Nat):Int)=14)=false:=dEf (by omega)
     have k15:decide (((rule:Nat):Int)=15)=true:=dEt (by omega)
     have has:r.asks=2:=haf.2 (.inr h15)
     simp(config:=zzC)only[go_sem,fits,k192,hl,hr,k0,k14,k15]
     intros
     refine (hfl _).mono ?_
     rintro _ st ⟨rfl,rfl⟩
     cases hb1:(s.l.any fun f=>memB (frF f) n)
     ·rw[hb1,Bool.false_or] at hbf
      simp(config:=zzC)only[go_sem,fits,k192,hl,hr,k0,k14,k15]
      intros
      refine (hfr _).mono ?_
      rintro _ st ⟨rfl,rfl⟩
      cases hb2:(s.r.any fun f=>memB (frF f) n)
      ·rw[hb2] at hbf
       obtain rfl:S=(q.1,0):=by rw[← hS]; unfold yZv; simp[h0,← hbf,hr,h192,hl]
       simp(config:=zzC)only[go_sem,fits,k192,hl,hr,k0,k14,k15]
       intros
       exact yQ0 ⟨_,_,rfl,hta,hza,rfl⟩
      ·rw[hb2] at hbf
       obtain rfl:S=([],193):=by rw[← hS]; unfold yZv; simp[has,h0,← hbf,hr,h192,hl]
       simp(config:=zzC)only[go_sem,fits,k192,hl,hr,k0,k14,k15]
       intros
       exact yQ0 ⟨_,_,rfl,.inl rfl,rfl,rfl⟩
     ·rw[hb1,Bool.true_or] at hbf
      obtain rfl:S=([],193):=by rw[← hS]; unfold yZv; simp[has,h0,← hbf,hr,h192,hl]
      simp(config:=zzC)only[go_sem,fits,k192,hl,hr,k0,k14,k15]
      intros
      exact yQ0 ⟨_,_,rfl,.inl rfl,rfl,rfl⟩
    ·have k14:decide (((rule:Nat):Int)=14)=false:=dEf (by omega)
     have k15:decide (((rule:Nat):Int)=15)=false:=dEf (by omega)
     have has:¬ r.asks=2:=fun h=>(haf.1 h).elim h14 h15
     obtain rfl:S=(q.1,0):=by rw[← hS]; unfold yZv; simp[has,h0,hr,h192,hl]
     simp(config:=zzC)only[go_sem,fits,k192,hl,hr,k0,k14,k15]
     intros
     exact yQ0 ⟨_,_,rfl,hta,hza,rfl⟩
   ·simp(config:=zzC)only[go_sem,fits,k192,hl,hr]
    intros
    refine (hHr _).mono ?_
    rintro _ st ⟨rfl,rfl⟩
    cases hbr:br
    ·obtain rfl:S=([],192):=by rw[← hS]; unfold yZv; simp[hr,hbr]
     simp(config:=zzC)only[go_sem,fits,k192,hl,hr]
     intros
     exact yQ0 ⟨_,_,rfl,.inl rfl,rfl,rfl⟩
    ·simp(config:=zzC)only[go_sem,fits,k192,hl,hr]
     intros
     by_cases h0:q.2=0
     case neg =>
      have k0:decide (((q.2:Nat):Int)=0)=false:=dEf (by omega)
      have h193:q.2=193:=by omega
      obtain rfl:S=([],193):=by rw[← hS]; unfold yZv; simp[h193,hr,hbr,h192,hl]
      simp(config:=zzC)only[go_sem,fits,k192,hl,hr,k0]
      intros
      exact yQ0 ⟨_,_,rfl,.inl rfl,rfl,rfl⟩
     have k0:decide (((q.2:Nat):Int)=0)=true:=dEt (by omega)
     have haf:=zJg hrow
     by_cases h14:rule=14
     ·have k14:decide (((rule:Nat):Int)=14)=true:=dEt (by omega)
      have has:r.asks=2:=haf.2 (.inl h14)
      simp(config:=zzC)only[go_sem,fits,k192,hl,hr,k0,k14]
      intros
      refine (hfl _).mono ?_
      rintro _ st ⟨rfl,rfl⟩
      cases hb1:(s.l.any fun f=>memB (frF f) n)
      ·rw[hb1,Bool.false_or] at hbf
       simp(config:=zzC)only[go_sem,fits,k192,hl,hr,k0,k14]
       intros
       refine (hfr _).mono ?_
       rintro _ st ⟨rfl,rfl⟩
       cases hb2:(s.r.any fun f=>memB (frF f) n)
       ·rw[hb2] at hbf
        obtain rfl:S=(q.1,0):=by rw[← hS]; unfold yZv; simp[h0,← hbf,hr,hbr,h192,hl]
        simp(config:=zzC)only[go_sem,fits,k192,hl,hr,k0,k14]
        intros
        exact yQ0 ⟨_,_,rfl,hta,hza,rfl⟩
       ·rw[hb2] at hbf
        obtain rfl:S=([],193):=by rw[← hS]; unfold yZv; simp[has,h0,← hbf,hr,hbr,h192,hl]
        simp(config:=zzC)only[go_sem,fits,k192,hl,hr,k0,k14]
        intros
        exact yQ0 ⟨_,_,rfl,.inl rfl,rfl,rfl⟩
      ·rw[hb1,Bool.true_or] at hbf
       obtain rfl:S=([],193):=by rw[← hS]; unfold yZv; simp[has,h0,← hbf,hr,hbr,h192,hl]
       simp(config:=zzC)only[go_sem,fits,k192,hl,hr,k0,k14]
       intros
       exact yQ0 ⟨_,_,rfl,.inl rfl,rfl,rfl⟩
     by_cases h15:rule=15
     ·have k14:decide (((rule:Nat):Int)=14)=false:=dEf (by omega)
      have k15:decide (((rule:Nat):Int)=15)=true:=dEt (by omega)
      have has:r.asks=2:=haf.2 (.inr h15)
      simp(config:=zzC)only[go_sem,fits,k192,hl,hr,k0,k14,k15]
      intros
      refine (hfl _).mono ?_
      rintro _ st ⟨rfl,rfl⟩
      cases hb1:(s.l.any fun f=>memB (frF f) n)
      ·rw[hb1,Bool.false_or] at hbf
       simp(config:=zzC)only[go_sem,fits,k192,hl,hr,k0,k14,k15]
       intros
       refine (hfr _).mono ?_
       rintro _ st ⟨rfl,rfl⟩
       cases hb2:(s.r.any fun f=>memB (frF f) n)
       ·rw[hb2] at hbf
        obtain rfl:S=(q.1,0):=by rw[← hS]; unfold yZv; simp[h0,← hbf,hr,hbr,h192,hl]
        simp(config:=zzC)only[go_sem,fits,k192,hl,hr,k0,k14,k15]
        intros
        exact yQ0 ⟨_,_,rfl,hta,hza,rfl⟩
       ·rw[hb2] at hbf
        obtain rfl:S=([],193):=by rw[← hS]; unfold yZv; simp[has,h0,← hbf,hr,hbr,h192,hl]
        simp(config:=zzC)only[go_sem,fits,k192,hl,hr,k0,k14,k15]
        intros
        exact yQ0 ⟨_,_,rfl,.inl rfl,rfl,rfl⟩
      ·rw[hb1,Bool.true_or] at hbf
       obtain rfl:S=([],193):=by rw[← hS]; unfold yZv; simp[has,h0,← hbf,hr,hbr,h192,hl]
       simp(config:=zzC)only[go_sem,fits,k192,hl,hr,k0,k14,k15]
       intros
       exact yQ0 ⟨_,_,rfl,.inl rfl,rfl,rfl⟩
     ·have k14:decide (((rule:Nat):Int)=14)=false:=dEf (by omega)
      have k15:decide (((rule:Nat):Int)=15)=false:=dEf (by omega)
      have has:¬ r.asks=2:=fun h=>(haf.1 h).elim h14 h15
      obtain rfl:S=(q.1,0):=by rw[← hS]; unfold yZv; simp[has,h0,hr,hbr,h192,hl]
      simp(config:=zzC)only[go_sem,fits,k192,hl,hr,k0,k14,k15]
      intros
      exact yQ0 ⟨_,_,rfl,hta,hza,rfl⟩
  ·simp(config:=zzC)only[go_sem,fits,k192,hl]
   intros
   refine (hHl _).mono ?_
   rintro _ st ⟨rfl,rfl⟩
   cases hbl:bl
   ·obtain rfl:S=([],192):=by rw[← hS]; unfold yZv; simp[hl,hbl]
    simp(config:=zzC)only[go_sem,fits,k192,hl]
    intros
    exact yQ0 ⟨_,_,rfl,.inl rfl,rfl,rfl⟩
   ·simp(config:=zzC)only[go_sem,fits,k192,hl]
    intros
    cases hr:r.right
    ·simp(config:=zzC)only[go_sem,fits,k192,hl,hr]
     intros
     by_cases h0:q.2=0
     case neg =>
      have k0:decide (((q.2:Nat):Int)=0)=false:=dEf (by omega)
      have h193:q.2=193:=by omega
      obtain rfl:S=([],193):=by rw[← hS]; unfold yZv; simp[h193,hr,h192,hl,hbl]
      simp(config:=zzC)only[go_sem,fits,k192,hl,hr,k0]
      intros
      exact yQ0 ⟨_,_,rfl,.inl rfl,rfl,rfl⟩
     have k0:decide (((q.2:Nat):Int)=0)=true:=dEt (by omega)
     have haf:=zJg hrow
     by_cases h14:rule=14
     ·have k14:decide (((rule:Nat):Int)=14)=true:=dEt (by omega)
      have has:r.asks=2:=haf.2 (.inl h14)
      simp(config:=zzC)only[go_sem,fits,k192,hl,hr,k0,k14]
      intros
      refine (hfl _).mono ?_
      rintro _ st ⟨rfl,rfl⟩
      cases hb1:(s.l.any fun f=>memB (frF f) n)
      ·rw[hb1,Bool.false_or] at hbf
       simp(config:=zzC)only[go_sem,fits,k192,hl,hr,k0,k14]
       intros
       refine (hfr _).mono ?_
       rintro _ st ⟨rfl,rfl⟩
       cases hb2:(s.r.any fun f=>memB (frF f) n)
       ·rw[hb2] at hbf
        obtain rfl:S=(q.1,0):=by rw[← hS]; unfold yZv; simp[h0,← hbf,hr,h192,hl,hbl]
        simp(config:=zzC)only[go_sem,fits,k192,hl,hr,k0,k14]
        intros
        exact yQ0 ⟨_,_,rfl,hta,hza,rfl⟩
       ·rw[hb2] at hbf
        obtain rfl:S=([],193):=by rw[← hS]; unfold yZv; simp[has,h0,← hbf,hr,h192,hl,hbl]
        simp(config:=zzC)only[go_sem,fits,k192,hl,hr,k0,k14]
        intros
        exact yQ0 ⟨_,_,rfl,.inl rfl,rfl,rfl⟩
      ·rw[hb1,Bool.true_or] at hbf
       obtain rfl:S=([],193):=by rw[← hS]; unfold yZv; simp[has,h0,← hbf,hr,h192,hl,hbl]
       simp(config:=zzC)only[go_sem,fits,k192,hl,hr,k0,k14]
       intros
       exact yQ0 ⟨_,_,rfl,.inl rfl,rfl,rfl⟩
     by_cases h15:rule=15
     ·have k14:decide (((rule:Nat):Int)=14)=false:=dEf (by omega)
      have k15:decide (((rule:Nat):Int)=15)=true:=dEt (by omega)
      have has:r.asks=2:=haf.2 (.inr h15)
      simp(config:=zzC)only[go_sem,fits,k192,hl,hr,k0,k14,k15]
      intros
      refine (hfl _).mono ?_
      rintro _ st ⟨rfl,rfl⟩
      cases hb1:(s.l.any fun f=>memB (frF f) n)
      ·rw[hb1,Bool.false_or] at hbf
       simp(config:=zzC)only[go_sem,fits,k192,hl,hr,k0,k14,k15]
       intros
       refine (hfr _).mono ?_
       rintro _ st ⟨rfl,rfl⟩
       cases hb2:(s.r.any fun f=>memB (frF f) n)
       ·rw[hb2] at hbf
        obtain rfl:S=(q.1,0):=by rw[← hS]; unfold yZv; simp[h0,← hbf,hr,h192,hl,hbl]
        simp(config:=zzC)only[go_sem,fits,k192,hl,hr,k0,k14,k15]
        intros
        exact yQ0 ⟨_,_,rfl,hta,hza,rfl⟩
       ·rw[hb2] at hbf
        obtain rfl:S=([],193):=by rw[← hS]; unfold yZv; simp[has,h0,← hbf,hr,h192,hl,hbl]
        simp(config:=zzC)only[go_sem,fits,k192,hl,hr,k0,k14,k15]
        intros
        exact yQ0 ⟨_,_,rfl,.inl rfl,rfl,rfl⟩
      ·rw[hb1,Bool.true_or] at hbf
       obtain rfl:S=([],193):=by rw[← hS]; unfold yZv; simp[has,h0,← hbf,hr,h192,hl,hbl]
       simp(config:=zzC)only[go_sem,fits,k192,hl,hr,k0,k14,k15]
       intros
       exact yQ0 ⟨_,_,rfl,.inl rfl,rfl,rfl⟩
     ·have k14:decide (((rule:Nat):Int)=14)=false:=dEf (by omega)
      have k15:decide (((rule:Nat):Int)=15)=false:=dEf (by omega)
      have has:¬ r.asks=2:=fun h=>(haf.1 h).elim h14 h15
      obtain rfl:S=(q.1,0):=by rw[← hS]; unfold yZv; simp[has,h0,hr,h192,hl,hbl]
      simp(config:=zzC)only[go_sem,fits,k192,hl,hr,k0,k14,k15]
      intros
      exact yQ0 ⟨_,_,rfl,hta,hza,rfl⟩
    ·simp(config:=zzC)only[go_sem,fits,k192,hl,hr]
     intros
     refine (hHr _).mono ?_
     rintro _ st ⟨rfl,rfl⟩
     cases hbr:br
     ·obtain rfl:S=([],192):=by rw[← hS]; unfold yZv; simp[hr,hbr]
      simp(config:=zzC)only[go_sem,fits,k192,hl,hr]
      intros
      exact yQ0 ⟨_,_,rfl,.inl rfl,rfl,rfl⟩
     ·simp(config:=zzC)only[go_sem,fits,k192,hl,hr]
      intros
      by_cases h0:q.2=0
      case neg =>
       have k0:decide (((q.2:Nat):Int)=0)=false:=dEf (by omega)
       have h193:q.2=193:=by omega
       obtain rfl:S=([],193):=by rw[← hS]; unfold yZv; simp[h193,hr,hbr,h192,hl,hbl]
       simp(config:=zzC)only[go_sem,fits,k192,hl,hr,k0]
       intros
       exact yQ0 ⟨_,_,rfl,.inl rfl,rfl,rfl⟩
      have k0:decide (((q.2:Nat):Int)=0)=true:=dEt (by omega)
      have haf:=zJg hrow
      by_cases h14:rule=14
      ·have k14:decide (((rule:Nat):Int)=14)=true:=dEt (by omega)
       have has:r.asks=2:=haf.2 (.inl h14)
       simp(config:=zzC)only[go_sem,fits,k192,hl,hr,k0,k14]
       intros
       refine (hfl _).mono ?_
       rintro _ st ⟨rfl,rfl⟩
       cases hb1:(s.l.any fun f=>memB (frF f) n)
       ·rw[hb1,Bool.false_or] at hbf
        simp(config:=zzC)only[go_sem,fits,k192,hl,hr,k0,k14]
        intros
        refine (hfr _).mono ?_
        rintro _ st ⟨rfl,rfl⟩
        cases hb2:(s.r.any fun f=>memB (frF f) n)
        ·rw[hb2] at hbf
         obtain rfl:S=(q.1,0):=by rw[← hS]; unfold yZv; simp[h0,← hbf,hr,hbr,h192,hl,hbl]
         simp(config:=zzC)only[go_sem,fits,k192,hl,hr,k0,k14]
         intros
         exact yQ0 ⟨_,_,rfl,hta,hza,rfl⟩
        ·rw[hb2] at hbf
         obtain rfl:S=([],193):=by rw[← hS]; unfold yZv; simp[has,h0,← hbf,hr,hbr,h192,hl,hbl]
         simp(config:=zzC)only[go_sem,fits,k192,hl,hr,k0,k14]
         intros
         exact yQ0 ⟨_,_,rfl,.inl rfl,rfl,rfl⟩
       ·rw[hb1,Bool.true_or] at hbf
        obtain rfl:S=([],193):=by rw[← hS]; unfold yZv; simp[has,h0,← hbf,hr,hbr,h192,hl,hbl]
        simp(config:=zzC)only[go_sem,fits,k192,hl,hr,k0,k14]
        intros
        exact yQ0 ⟨_,_,rfl,.inl rfl,rfl,rfl⟩
      by_cases h15:rule=15
      ·have k14:decide (((rule:Nat):Int)=14)=false:=dEf (by omega)
       have k15:decide (((rule:Nat):Int)=15)=true:=dEt (by omega)
       have has:r.asks=2:=haf.2 (.inr h15)
       simp(config:=zzC)only[go_sem,fits,k192,hl,hr,k0,k14,k15]
       intros
       refine (hfl _).mono ?_
       rintro _ st ⟨rfl,rfl⟩
       cases hb1:(s.l.any fun f=>memB (frF f) n)
       ·rw[hb1,Bool.false_or] at hbf
        simp(config:=zzC)only[go_sem,fits,k192,hl,hr,k0,k14,k15]
        intros
        refine (hfr _).mono ?_
        rintro _ st ⟨rfl,rfl⟩
        cases hb2:(s.r.any fun f=>memB (frF f) n)
        ·rw[hb2] at hbf
         obtain rfl:S=(q.1,0):=by rw[← hS]; unfold yZv; simp[h0,← hbf,hr,hbr,h192,hl,hbl]
         simp(config:=zzC)only[go_sem,fits,k192,hl,hr,k0,k14,k15]
         intros
         exact yQ0 ⟨_,_,rfl,hta,hza,rfl⟩
        ·rw[hb2] at hbf
         obtain rfl:S=([],193):=by rw[← hS]; unfold yZv; simp[has,h0,← hbf,hr,hbr,h192,hl,hbl]
         simp(config:=zzC)only[go_sem,fits,k192,hl,hr,k0,k14,k15]
         intros
         exact yQ0 ⟨_,_,rfl,.inl rfl,rfl,rfl⟩
       ·rw[hb1,Bool.true_or] at hbf
        obtain rfl:S=([],193):=by rw[← hS]; unfold yZv; simp[has,h0,← hbf,hr,hbr,h192,hl,hbl]
        simp(config:=zzC)only[go_sem,fits,k192,hl,hr,k0,k14,k15]
        intros
        exact yQ0 ⟨_,_,rfl,.inl rfl,rfl,rfl⟩
      ·have k14:decide (((rule:Nat):Int)=14)=false:=dEf (by omega)
       have k15:decide (((rule:Nat):Int)=15)=false:=dEf (by omega)
       have has:¬ r.asks=2:=fun h=>(haf.1 h).elim h14 h15
       obtain rfl:S=(q.1,0):=by rw[← hS]; unfold yZv; simp[has,h0,hr,hbr,h192,hl,hbl]
       simp(config:=zzC)only[go_sem,fits,k192,hl,hr,k0,k14,k15]
       intros
       exact yQ0 ⟨_,_,rfl,hta,hza,rfl⟩
theorem zYt (l m:List Sq)(t t':Tag)(xs ys:List IV)(ht:okEs t 2)(ht':okEs t' 2)(hx:IsSqs l xs)(hy:IsSqs m ys)(st:ISt) :
  ICall prog gl 52 [.sl t xs,.sl t' ys] st (fun r st'=>r=.raw (.bool (eqB l m))∧st'=st):=by
 refine iI func52 rfl rfl (by kernel_rfl) ?_
 simp(config:=zzC)only[go_sem,hx.len,hy.len]
 intro hl1 hl2
 by_cases hlen:l.length=m.length
 case neg =>
  simp(config:=zzC)only[go_sem,show decide (((l.length:Nat):Int)=m.length)=false from dEf (by omega)]
  exact yQ0 ⟨by rw[yQj.2 fun h=>hlen (by rw[h])],rfl⟩
 simp(config:=zzC)only[go_sem,show decide (((l.length:Nat):Int)=m.length)=true from dEt (by omega)]
 refine LoopC.ctr l.length (fun k fr st' ds=>l.take k=m.take k∧fr 0=.iv (.sl t xs)∧fr 1=.iv (.sl t' ys)∧fr 5=.iv (.raw (.int .i64 k))∧st'=st∧ds=[]) ?_ ?_ ?_
 ·simp(config:=zzC)only[go_sem]
  simp
 ·rintro k fr st1 _ hlt ⟨hn,f0,f1,f5,rfl,rfl⟩
  obtain⟨a,ha⟩:=yQ3 hlt
  obtain⟨b,hb⟩:=yQ3 (l:=m) (k:=k) (by omega)
  obtain⟨x,hkx,hxa⟩:=hx.get ha
  obtain⟨y,hky,hyb⟩:=hy.get hb
  have hcall:=yGs gl a b x y hxa hyb st1
  obtain⟨_,_,_,_,rfl⟩:=IsSq.two hxa
  obtain⟨_,_,_,_,rfl⟩:=IsSq.two hyb
  simp(config:=zzC)only[go_sem,f0,f1,f5,hx.len,lt_i hlt,yQ2 ht,yQ2 ht',iNn,hkx,hky,fits]
  intros
  refine hcall.mono ?_
  rintro _ _ ⟨rfl,rfl⟩
  cases hq:eqB a b
  ·simp(config:=zzC)only[go_sem,fits]
   refine yQ0 ⟨?_,rfl⟩
   rw[yQj.2 fun h=>?_]
   subst h
   rw[ha] at hb; cases hb
   exact yQj.1 hq rfl
  ·simp(config:=zzC)only[go_sem,f0,f1,f5,yQa hlt (show l.length≤281474976710656 by omega)]
   rw[yQ4 ha,yQ4 hb,hn,yQn.1 hq]
 ·rintro fr st1 _ ⟨hn,f0,f1,f5,rfl,rfl⟩
  rw[lTl,show m.take l.length=m by rw[hlen,lTl]] at hn
  simp(config:=zzC)only[go_sem,f0,f5,hx.len,yQm (nLi _)]
  intros
  exact yQ0 ⟨by rw[yQn.2 hn],rfl⟩
theorem wZ3 (k i:Nat)(st:ISt):ICall prog gl 105 [.raw (.int .i64 k),.raw (.int .i64 i)] st (fun r st'=>(∃ a b,r=.agg [a,b]∧a.one=true∧b.one=true)∧st'=st):=by
 have hall:(mkD k i).all IV.one=true:=rfl
 have hml:(mkD k i).length=4:=rfl
 refine iI func105 rfl rfl (by kernel_rfl) ?_
 simp(config:=zzC)only[go_sem,fits]
 refine (yGq gl k i _).mono ?_
 rintro _ st ⟨rfl,rfl⟩
 simp(config:=zzC)only[go_sem,fits,yQ1,hall,hml]
 exact yQ0 ⟨⟨_,_,rfl,rfl,rfl⟩,rfl⟩
theorem yU5 (f:Bool)(e:Nat)(st:ISt):ICall prog gl 53 [.sl ⟨f,.nil,e⟩ []] st (fun _ st'=>st'=st):=by
 refine iI func53 rfl rfl (by kernel_rfl) ?_
 simp(config:=zzC)only[go_sem,fits]
 refine LoopC.ctr 0 (fun k fr st' ds=>fr 0=.iv (.sl ⟨f,.nil,e⟩ [])∧fr 2=.iv (.raw (.int .i64 0))∧st'=st∧ds=[]) ?_ ?_ ?_
 ·simp(config:=zzC)only[go_sem]
 ·intro k _ _ _ h; omega
 ·rintro fr st _ ⟨f0,f2,rfl,rfl⟩
  simp(config:=zzC)only[go_sem,f0,f2,show decide ((0:Int)<((0:Nat):Int))=false from rfl,show IntKind.i64.wrap (((0:Nat):Int)+12)=12 from rfl,show min (0:Int) 12=((0:Nat):Int) from rfl,yJm (Nat.le_refl 0)]
  intros
  refine LoopC.ctr 0 (fun k fr st' ds=>(∃ t,fr 3=.iv (.sl t []))∧fr 4=.iv (.raw (.int .i64 0))∧st'=st∧ds=[]) ?_ ?_ ?_
  ·simp(config:=zzC)only[go_sem]
   exact⟨_,rfl⟩
  ·intro k _ _ _ h; omega
  ·rintro fr st _ ⟨⟨t,f3⟩,f4,rfl,rfl⟩
   simp(config:=zzC)only[go_sem,f3,f4,show decide ((0:Int)<((0:Nat):Int))=false from rfl]
   intros
   exact yQ0 rfl
theorem zYu {D:Nat→Prop}{d:Nat}{x:IV}{st:ISt}(h:OK D d 2 st x):ICall prog gl 53 [x] st (fun _ st'=>∀ b,¬ D b→st' b=st b):=by
 cases d with
 | zero =>
  rcases h with⟨f,e,rfl⟩ | rfl
  ·exact (yU5 gl f e st).mono fun _ _ h _ _=>by rw[h]
  ·exact ICall.nil1 ((yU5 gl _ _ st).mono fun _ _ h _ _=>by rw[h])
 | succ d =>
  rcases h with (⟨f,e,rfl⟩ | rfl) | ⟨g,n,c,cs,v,rfl,hD,hn,hnc,hg,hlen,h0,hv,hi⟩
  ·exact (yU5 gl f e st).mono fun _ _ h _ _=>by rw[h]
  ·exact ICall.nil1 ((yU5 gl _ _ st).mono fun _ _ h _ _=>by rw[h])
  have hw:OK D (d+1) 2 st (.raw (.slice (some ⟨g,0,none⟩) n c)):=.inr ⟨g,n,c,cs,v,rfl,hD,hn,hnc,hg,hlen,h0,hv,hi⟩
  clear hg hlen h0 hv hi
  have hwn:IntKind.i64.wrap ((n:Int)+12)=((n+12:Nat):Int):=by rw[w64]<;>omega
  have hmin:min (c:Int) ((n+12:Nat):Int)=((min c (n+12):Nat):Int):=by omega
  generalize hm:min c (n+12)=m at hmin
  have hmc:m≤c:=by omega
  have hmb:m≤281474976710000:=by omega
  refine iI func53 rfl rfl (by kernel_rfl) ?_
  simp(config:=zzC)only[go_sem,fits]
  refine LoopC.ctr n (fun k fr st' ds=>fr 0=.iv (.raw (.slice (some ⟨g,0,none⟩) n c))∧fr 2=.iv (.raw (.int .i64 k))∧Ow D st st'∧ds=[]) ?_ ?_ ?_
  ·simp(config:=zzC)only[go_sem]
   exact⟨rfl,Ow.refl _ _⟩
  ·rintro k fr st1 _ hlt ⟨f0,f2,hov,rfl⟩
   obtain⟨e,cs1,v,he,_,_,_,hg1,hl1,_,_,hi1⟩:=(hov.keep _ _ _ hw).raw
   obtain rfl:d=e:=by omega
   obtain⟨hone,h2⟩:=hi1 k hlt
   have hle:k*2+2≤cs1.length:=by omega
   obtain⟨y,q1,y1,y2⟩:=hone 0 (by omega)
   obtain⟨z,q2,z1,z2⟩:=hone 1 (by omega)
   have hcl:(cs1.drop (k*2)).take 2=[y,z]:=by
    apply List.ext_getElem?
    intro j
    rw[List.getElem?_take,List.getElem?_drop]
    match j with
    | 0=>simpa using q1
    | 1=>simpa using q2
    | j+2=>rw[if_neg (by omega)]; rfl
   have hcall:=xGg gl y1 y2 z1 z2 (h2 0 _ 4 q1 rfl) (h2 1 _ 4 q2 rfl)
   simp(config:=zzC)only[go_sem,f0,f2,lt_i hlt,iNn,hlt,hg1,hle,hcl]
   refine hcall.mono ?_
   rintro _ st2 hov2
   simp(config:=zzC)only[go_sem,f0,f2,yQa hlt (show n≤281474976710656 by omega)]
   exact hov.trans hov2
  ·rintro fr st1 _ ⟨f0,f2,hov,rfl⟩
   obtain⟨e,cs1,v,_,_,_,_,hg1,hl1,_⟩:=(hov.keep _ _ _ hw).raw
   simp(config:=zzC)only[go_sem,f0,f2,yQm (nLi _),hwn,hmin,hnc,yJm hmc,ite_self,Nat.zero_mul]
   refine LoopC.ctr m (fun k fr st' ds=>fr 3=.iv (.raw (.slice (some ⟨g,0,none⟩) m c))∧fr 4=.iv (.raw (.int .i64 k))∧(∃ cs2,st' g=some (.box cs2)∧cs2.length=cs1.length)∧(∀ b,¬ D b→st' b=st b)∧ds=[]) ?_ ?_ ?_
   ·simp(config:=zzC)only[go_sem]
    exact⟨rfl,⟨_,hg1,rfl⟩,hov.dom⟩
   ·rintro k fr st2 _ hlt ⟨f3,f4,⟨cs2,hg2,hl2⟩,hdom,rfl⟩
    have hle:k*2+2≤cs2.length:=by omega
    simp(config:=zzC)only[go_sem,f3,f4,lt_i hlt,iNn,hlt]
    refine (wZ3 gl 2 k st2).mono ?_
    rintro _ st2 ⟨⟨a,b,rfl,ha,hb⟩,rfl⟩
    have hln:(setAt cs2 (k*2) [a,b]).length=cs2.length:=xQe hle
    have hs3:(st2.put g (some (.box (setAt cs2 (k*2) [a,b])))) g=some (.box (setAt cs2 (k*2) [a,b])):=ISt.put_same ..
    have hd3:∀ b',¬ D b'→(st2.put g (some (.box (setAt cs2 (k*2) [a,b])))) b'=st b':=fun b' hb'=>by
     rw[yZ2 (by rintro rfl; exact hb' hD)]; exact hdom b' hb'
    generalize hcs3:setAt cs2 (k*2) [a,b]=cs3 at hln hs3 hd3
    unfold setAt at hcs3
    rw[show[a,b].length=2 from rfl] at hcs3
    simp(config:=zzC)only[go_sem,f3,f4,lt_i hlt,iNn,hlt,hg2,hle,ha,hb,fits,yQh,yQa hlt (show m≤281474976710656 by omega)]
    refine⟨⟨_,rfl,?_⟩,?_⟩
    ·rw[hcs3]; omega
    ·rw[hcs3]; exact hd3
   ·rintro fr st2 _ ⟨f3,f4,_,hdom,rfl⟩
    simp(config:=zzC)only[go_sem,f3,f4,yQm (nLi _),fits]
    intros
    exact yQ0 hdom
theorem wU1 (G:Gl gl)(ca rule:Nat)(s:Sq)(m:Fm)(u:Tm)(n:ByteArray)(sub:List Tr)(x:IV)(hx:IsTr (.mk rule s m u n sub) x)(hn:NA (.mk rule s m u n sub))(hu:zZi (.mk rule s m u n sub)=true)(st:ISt) :
  ICall prog gl 51 [.raw (.int .u8 ca),x] st (AdR st (zUs ca s rule m u n)):=by
 have hB:=fun st=>wQo gl G ca _ x hx hn hu st
 simp only at hB
 obtain⟨tl,xl,tr,xr,op,fn,ta,xa,tb,xb,v,un,tu,xu,ts,xs,rfl,hru,e1,i1,e2,i2,hy,hz,e3,i3⟩:=hx.mk
 simp only[NA] at hn
 unfold zUs
 refine ICall.intro (c:=cf prog gl [] [(10,[0,1,2,3,5,6,7,8,9,11,12,13,14,16,17,18,19,20,23,4,10,15,21,22,24])]) func51 rfl (by show _≤87; simp) (by kernel_rfl) ?_
 by_cases k1:1≤ca
 case neg =>
  have d1:decide ((ca:Int)<1)=true:=dEt (by omega)
  simp(config:=zzC)only[go_sem,fits,d1]
  rw[show yX0 ca=false from by simp[yX0,k1]]
  exact yQ0 ⟨_,_,rfl,.inl rfl,rfl,rfl⟩
 have d1:decide ((ca:Int)<1)=false:=dEf (by omega)
 by_cases k2:ca≤3
 case neg =>
  have d2:decide ((3:Int)<ca)=true:=dEt (by omega)
  simp(config:=zzC)only[go_sem,fits,d1,d2]
  rw[show yX0 ca=false from by simp[yX0,k2]]
  exact yQ0 ⟨_,_,rfl,.inl rfl,rfl,rfl⟩
 have d2:decide ((3:Int)<ca)=false:=dEf (by omega)
 have hk:yX0 ca=true:=by unfold yX0; rw[dEt k1,dEt k2]; rfl
 rw[hk]
 simp(config:=zzC)only[go_sem,fits,d1,d2]
 refine (hB _).mono ?_
 rintro _ st ⟨tg,ys,rfl,he,hys,rfl⟩
 generalize hq:yXe ca s rule m u n=q at hys ⊢
 obtain⟨ad,er⟩:=q
 simp only at hys ⊢
 by_cases h0:er=0
 ·subst h0
  obtain⟨hv,r,hr⟩:=xXv hq
  have hfit:=zVn hr
  have hal2:=xXg hr
  have hvl:s.l.length≤64∧s.r.length≤64:=by
   unfold yXl at hv
   simp only[bAt,dTe] at hv
   exact⟨hv.1.1.1.1.2,hv.1.1.1.2⟩
  simp only[Bool.not_true,bFt,if_false,ne_eq,nTf]
  simp(config:=zzC)only[go_sem,show decide (((0:Nat):Int)=0)=true from rfl,fits]
  refine LoopC.ctr ad.length (fun k fr st' ds=>(ad.take k).all (okI ca s)=true∧(∃ tg' zs,fr 8=.iv (.sl tg' zs)∧IsSqs ((ad.take k).map (yZf ca s)) zs∧own st' tg' k 2 st∧subSt st st')∧fr 0=.iv (.raw (.int .u8 ca)) ∧
   fr 3=.box [.raw (.int .u8 rule),.sl tl xl,.sl tr xr,.raw (.int .u8 op),.raw (.string fn),.sl ta xa,.sl tb xb,.raw (.bool v),.raw (.string un),.sl tu xu,.raw (.string n),.sl ts xs]∧fr 6=.iv (.sl tg ys)∧fr 9=.iv (.raw (.int .i64 k))∧ds=[]) ?_ ?_ ?_
  ·simp(config:=zzC)only[go_sem]
   exact⟨⟨_,_,rfl,rfl,own.nil _ _ _ _ _,subSt.refl _⟩,rfl⟩
  ·rintro k fr st1 _ hlt ⟨hall,⟨tgo,zs,f8,hzs,hown,hsub⟩,f0,f3,f6,f9,rfl⟩
   obtain⟨a,ha⟩:=yQ3 hlt
   obtain⟨w,hkw,hw⟩:=hys.get ha
   have hza:=hfit a (lMg ha)
   obtain⟨t5,x5,t6,x6,rfl,k5,j5,k6,j6⟩:=hw
   simp(config:=zzC)only[go_sem,f0,f3,f6,f8,f9,hys.len,lt_i hlt,yQ2 he,iNn,hkw,fits,show yJc 0 []=true from rfl]
   intros
   refine yKu (S0:=st1) (n:=0) (s:=4) (own.full _ _ _ _) rfl i1.len (subSt.refl _) rfl (List.all_eq_true.2 (yXc i1)) (by show _*72≤_; omega) (by omega) fun t7 st2 hown7 hsub7 _=>?_
   simp(config:=zzC)only[go_sem,f0,f3,f6,f8,f9,hys.len,lt_i hlt,yQ2 he,iNn,hkw,fits,show yJc 0 []=true from rfl]
   intros
   refine yKu hown7 (by rw[i1.len,Nat.zero_add]) j5.len hsub7 rfl (List.all_eq_true.2 (yXc j5)) (by show _*72≤_; have:=hza.2.1; omega) (by have:=hza.2.1; omega) fun t8 st3 hown8 hsub8 _=>?_
   simp(config:=zzC)only[go_sem,f0,f3,f6,f8,f9,hys.len,lt_i hlt,yQ2 he,iNn,hkw,fits,show yJc 0 []=true from rfl]
   intros
   refine yKu (S0:=st3) (n:=0) (s:=4) (own.full _ _ _ _) rfl i2.len (subSt.refl _) rfl (List.all_eq_true.2 (yXc i2)) (by show _*72≤_; omega) (by omega) fun t9 st4 hown9 hsub9 _=>?_
   simp(config:=zzC)only[go_sem,f0,f3,f6,f8,f9,hys.len,lt_i hlt,yQ2 he,iNn,hkw,fits,show yJc 0 []=true from rfl]
   intros
   refine yKu hown9 (by rw[i2.len,Nat.zero_add]) j6.len hsub9 rfl (List.all_eq_true.2 (yXc j6)) (by show _*72≤_; have:=hza.2.2; omega) (by have:=hza.2.2; omega) fun t10 st5 hown10 hsub10 _=>?_
   simp(config:=zzC)only[go_sem,f0,f3,f6,f8,f9,hys.len,lt_i hlt,yQ2 he,iNn,hkw,fits,show yJc 0 []=true from rfl]
   refine (yJ6 gl _ _ _ _ _).mono ?_
   rintro _ st5 ⟨rfl,rfl⟩
   have tL:=hown8.es
   have tR:=hown10.es
   have hsub':=hsub.trans ((hsub8).trans hsub10)
   have hown':=xVs hown (hsub8.trans hsub10)
   obtain⟨L,hL⟩:∃ L,L=xl++x5:=⟨_,rfl⟩
   have hLs:IsFms (yZf ca s a).l L:=hL▸i1.append j5
   rw[← hL]
   by_cases hca:ca=2
   ·have dca:decide ((ca:Int)=2)=true:=dEt (by omega)
    by_cases hr0:a.r.length=0
    ·obtain⟨R,hR⟩:∃ R,R=xr++x6:=⟨_,rfl⟩
     have hRs:IsFms (yZf ca s a).r R:=by rw[hR]; unfold yZf; rw[if_pos (by omega)]; exact i2.append j6
     rw[← hR]
     simp(config:=zzC)only[go_sem,f0,f3,f6,f8,f9,hys.len,lt_i hlt,yQ2 he,iNn,hkw,fits,dca,j6.len,hr0,show decide ((0:Int)<((0:Nat):Int))=false from rfl]
     have hallA:∀ (h:okI ca s a=false),ad.all (okI ca s)=false:=fun h=>List.all_eq_false.2 ⟨a,lMg ha,by rw[h]; simp⟩
     by_cases hl64:(yZf ca s a).l.length≤64
     ·have dl:decide ((64:Int)<(((yZf ca s a).l.length:Nat):Int))=false:=dEf (by omega)
      by_cases hr64:(yZf ca s a).r.length≤64
      ·have dr:decide ((64:Int)<(((yZf ca s a).r.length:Nat):Int))=false:=dEf (by omega)
       have hok:okI ca s a=true:=by unfold okI; rw[dEt hl64,dEt hr64]; rfl
       simp(config:=zzC)only[go_sem,f0,f3,f6,f8,f9,fits,hLs.len,hRs.len,dl,dr,yQ1]
       intros
       refine yZo hown' (by rw[hzs.len,List.length_map,List.length_take]; omega) hsub' rfl (by simp[fits,IV.one]) (by simp only; omega) (by omega) fun tg2 st6 hown2 hsub4 _=>?_
       simp(config:=zzC)only[go_sem,f0,f3,f6,f8,f9,fits,yQa hlt (show ad.length≤281474976710656 by omega)]
       refine⟨by rw[yQ4 ha,List.all_append,hall]; simp[hok],⟨tg2,_,rfl,?_,hown2,hsub4⟩⟩
       rw[yQ4 ha,List.map_append]
       exact hzs.append ⟨_,_,rfl,⟨_,_,_,_,rfl,tL,hLs,tR,hRs⟩,rfl⟩
      ·have dr:decide ((64:Int)<(((yZf ca s a).r.length:Nat):Int))=true:=dEt (by omega)
       simp(config:=zzC)only[go_sem,f0,f3,f6,f8,f9,fits,hLs.len,hRs.len,dl,dr]
       intros
       refine yQ9 hsub' ?_
       rw[hallA (by unfold okI; rw[dEf hr64,Bool.and_false])]
       exact⟨_,_,rfl,.inl rfl,rfl,rfl⟩
     ·have dl:decide ((64:Int)<(((yZf ca s a).l.length:Nat):Int))=true:=dEt (by omega)
      simp(config:=zzC)only[go_sem,f0,f3,f6,f8,f9,fits,hLs.len,hRs.len,dl]
      intros
      refine yQ9 hsub' ?_
      rw[hallA (by unfold okI; rw[dEf hl64,Bool.false_and])]
      exact⟨_,_,rfl,.inl rfl,rfl,rfl⟩
    ·have hRs:IsFms (yZf ca s a).r x6:=by unfold yZf; rw[if_neg (by omega)]; exact j6
     simp(config:=zzC)only[go_sem,f0,f3,f6,f8,f9,hys.len,lt_i hlt,yQ2 he,iNn,hkw,fits,dca,j6.len,show decide ((0:Int)<((a.r.length:Nat):Int))=true from dEt (by omega)]
     intros
     have hallA:∀ (h:okI ca s a=false),ad.all (okI ca s)=false:=fun h=>List.all_eq_false.2 ⟨a,lMg ha,by rw[h]; simp⟩
     by_cases hl64:(yZf ca s a).l.length≤64
     ·have dl:decide ((64:Int)<(((yZf ca s a).l.length:Nat):Int))=false:=dEf (by omega)
      by_cases hr64:(yZf ca s a).r.length≤64
      ·have dr:decide ((64:Int)<(((yZf ca s a).r.length:Nat):Int))=false:=dEf (by omega)
       have hok:okI ca s a=true:=by unfold okI; rw[dEt hl64,dEt hr64]; rfl
       simp(config:=zzC)only[go_sem,f0,f3,f6,f8,f9,fits,hLs.len,hRs.len,dl,dr,yQ1]
       intros
       refine yZo hown' (by rw[hzs.len,List.length_map,List.length_take]; omega) hsub' rfl (by simp[fits,IV.one]) (by simp only; omega) (by omega) fun tg2 st6 hown2 hsub4 _=>?_
       simp(config:=zzC)only[go_sem,f0,f3,f6,f8,f9,fits,yQa hlt (show ad.length≤281474976710656 by omega)]
       refine⟨by rw[yQ4 ha,List.all_append,hall]; simp[hok],⟨tg2,_,rfl,?_,hown2,hsub4⟩⟩
       rw[yQ4 ha,List.map_append]
       exact hzs.append ⟨_,_,rfl,⟨_,_,_,_,rfl,tL,hLs,k6,hRs⟩,rfl⟩
      ·have dr:decide ((64:Int)<(((yZf ca s a).r.length:Nat):Int))=true:=dEt (by omega)
       simp(config:=zzC)only[go_sem,f0,f3,f6,f8,f9,fits,hLs.len,hRs.len,dl,dr]
       intros
       refine yQ9 hsub' ?_
       rw[hallA (by unfold okI; rw[dEf hr64,Bool.and_false])]
       exact⟨_,_,rfl,.inl rfl,rfl,rfl⟩
     ·have dl:decide ((64:Int)<(((yZf ca s a).l.length:Nat):Int))=true:=dEt (by omega)
      simp(config:=zzC)only[go_sem,f0,f3,f6,f8,f9,fits,hLs.len,hRs.len,dl]
      intros
      refine yQ9 hsub' ?_
      rw[hallA (by unfold okI; rw[dEf hl64,Bool.false_and])]
      exact⟨_,_,rfl,.inl rfl,rfl,rfl⟩
   ·have dca:decide ((ca:Int)=2)=false:=dEf (by omega)
    obtain⟨R,hR⟩:∃ R,R=xr++x6:=⟨_,rfl⟩
    have hRs:IsFms (yZf ca s a).r R:=by rw[hR]; unfold yZf; rw[if_pos (by omega)]; exact i2.append j6
    rw[← hR]
    simp(config:=zzC)only[go_sem,f0,f3,f6,f8,f9,fits,dca]
    have hallA:∀ (h:okI ca s a=false),ad.all (okI ca s)=false:=fun h=>List.all_eq_false.2 ⟨a,lMg ha,by rw[h]; simp⟩
    by_cases hl64:(yZf ca s a).l.length≤64
    ·have dl:decide ((64:Int)<(((yZf ca s a).l.length:Nat):Int))=false:=dEf (by omega)
     by_cases hr64:(yZf ca s a).r.length≤64
     ·have dr:decide ((64:Int)<(((yZf ca s a).r.length:Nat):Int))=false:=dEf (by omega)
      have hok:okI ca s a=true:=by unfold okI; rw[dEt hl64,dEt hr64]; rfl
      simp(config:=zzC)only[go_sem,f0,f3,f6,f8,f9,fits,hLs.len,hRs.len,dl,dr,yQ1]
      intros
      refine yZo hown' (by rw[hzs.len,List.length_map,List.length_take]; omega) hsub' rfl (by simp[fits,IV.one]) (by simp only; omega) (by omega) fun tg2 st6 hown2 hsub4 _=>?_
      simp(config:=zzC)only[go_sem,f0,f3,f6,f8,f9,fits,yQa hlt (show ad.length≤281474976710656 by omega)]
      refine⟨by rw[yQ4 ha,List.all_append,hall]; simp[hok],⟨tg2,_,rfl,?_,hown2,hsub4⟩⟩
      rw[yQ4 ha,List.map_append]
      exact hzs.append ⟨_,_,rfl,⟨_,_,_,_,rfl,tL,hLs,tR,hRs⟩,rfl⟩
     ·have dr:decide ((64:Int)<(((yZf ca s a).r.length:Nat):Int))=true:=dEt (by omega)
      simp(config:=zzC)only[go_sem,f0,f3,f6,f8,f9,fits,hLs.len,hRs.len,dl,dr]
      intros
      refine yQ9 hsub' ?_
      rw[hallA (by unfold okI; rw[dEf hr64,Bool.and_false])]
      exact⟨_,_,rfl,.inl rfl,rfl,rfl⟩
    ·have dl:decide ((64:Int)<(((yZf ca s a).l.length:Nat):Int))=true:=dEt (by omega)
     simp(config:=zzC)only[go_sem,f0,f3,f6,f8,f9,fits,hLs.len,hRs.len,dl]
     intros
     refine yQ9 hsub' ?_
     rw[hallA (by unfold okI; rw[dEf hl64,Bool.false_and])]
     exact⟨_,_,rfl,.inl rfl,rfl,rfl⟩
  ·rintro fr st1 _ ⟨hall,⟨tgo,zs,f8,hzs,hown,hsub⟩,f0,f3,f6,f9,rfl⟩
   rw[lTl] at hall hzs
   simp(config:=zzC)only[go_sem,f6,f8,f9,hys.len,yQm (nLi _),fits]
   intros
   rw[if_pos hall]
   exact yQ9 hsub ⟨_,_,rfl,hown.es,hzs,rfl⟩
 ·have hd0:decide (((er:Nat):Int)=0)=false:=dEf (by omega)
  simp only[Bool.not_true,bFt,if_false,ne_eq,h0,nFt,if_true]
  simp(config:=zzC)only[go_sem,hd0,fits]
  exact yQ0 ⟨_,_,rfl,.inl rfl,rfl,rfl⟩
theorem wV7 {a:Tr}{x:IV}(h:IsTr a x):IsTrs [a] [x]:=by simp only[IsTrs]; exact⟨x,[],rfl,h,rfl⟩
def wX2 (t:Tr):Prop:=∀ (x:IV) (_:IsTr t x) (_:okT t=true) (_:t.steps≤1000) (st:ISt),ICall prog gl 47 [x] st (fun r st'=>IsTr t r∧st'=st)
theorem xGl (rule:Nat)(s:Sq)(f:Fm)(u:Tm)(n:ByteArray)(sub:List Tr)(IH:∀ a∈sub,wX2 gl a):wX2 gl (.mk rule s f u n sub):=by
 intro x hx hok hst st
 obtain⟨tl,xl,tr,xr,op,fn,ta,xa,tb,xb,v,un,tu,xu,ts,xs,rfl,hru,e1,i1,e2,i2,hy,hz,e3,i3⟩:=hx.mk
 simp only[Tr.steps] at hst
 have hlsub:=yVz sub
 have hok2:okTs sub=true:=by
  simp only[okT,bAt] at hok
  exact hok.2
 have hnode:wFms s.l+wFms s.r≤300∧wFm f≤300∧wTm u≤300:=by
  simp only[okT,bAt] at hok
  exact⟨(yKf hok.1).1,(yKf hok.1).2.1,(yKf hok.1).2.2.1⟩
 have h1:=fun st=>xGh gl s (.agg [.sl tl xl,.sl tr xr]) ⟨tl,xl,tr,xr,rfl,e1,i1,e2,i2⟩ (by have:=yKn s.l; omega) (by have:=yKn s.r; omega) st
 have h2:=fun st=>zKk gl f _ hy (by have:=zJ1 f; omega) st
 have h3:=fun st=>xK1 gl u _ hz (by have:=zQd u; omega) st
 refine ICall.intro (c:=cf prog gl [] [(1,[0,1,2,3,5,6,8,9,11,12,14,4,7,10,13,15])]) func47 rfl (by show _≤38; simp) (by kernel_rfl) ?_
 simp(config:=zzC)only[go_sem,fits]
 refine (h1 _).mono ?_
 rintro _ st ⟨⟨c1,y1,c2,y2,rfl,g1,_,k1,g2,_,k2⟩,rfl⟩
 simp(config:=zzC)only[go_sem,fits]
 refine (h2 _).mono ?_
 rintro r2 st ⟨hr2,rfl⟩
 obtain⟨o2,n2,ta2,xa2,tb2,xb2,rfl⟩:=IsFmD.aggs hr2
 simp(config:=zzC)only[go_sem,fits]
 refine (h3 _).mono ?_
 rintro r3 st ⟨hr3,rfl⟩
 obtain⟨v3,n3,t3,x3,rfl⟩:=hr3.agg
 simp(config:=zzC)only[go_sem,fits]
 refine LoopC.ctr sub.length (fun k fr st' ds=>(∃ tg' ys,fr 3=.box [.raw (.int .u8 rule),.sl c1 y1,.sl c2 y2,.raw (.int .u8 o2),.raw (.string n2),.sl ta2 xa2,.sl tb2 xb2,.raw (.bool v3),.raw (.string n3),.sl t3 x3,.raw (.string n),.sl tg' ys]∧IsTrs (sub.take k) ys∧own st' tg' k 12 st∧subSt st st') ∧
  fr 1=.box [.raw (.int .u8 rule),.sl tl xl,.sl tr xr,.raw (.int .u8 op),.raw (.string fn),.sl ta xa,.sl tb xb,.raw (.bool v),.raw (.string un),.sl tu xu,.raw (.string n),.sl ts xs] ∧
  fr 2=.box [.raw (.int .u8 0),.sl ⟨true,.nil,0⟩ [],.sl ⟨true,.nil,0⟩ [],.raw (.int .u8 0),.raw (.string ⟨#[]⟩),.sl ⟨true,.nil,0⟩ [],.sl ⟨true,.nil,0⟩ [],.raw (.bool false),.raw (.string ⟨#[]⟩),.sl ⟨true,.nil,0⟩ [],.raw (.string ⟨#[]⟩),.sl ⟨true,.nil,0⟩ []]∧fr 4=.iv (.raw (.int .i64 k))∧ds=[]) ?_ ?_ ?_
 ·simp(config:=zzC)only[go_sem]
  exact⟨⟨_,_,rfl,rfl,own.nil _ _ _ _ _,subSt.refl _⟩,rfl⟩
 ·rintro k fr st1 _ hlt ⟨⟨tg',ys,f3,hys,hown,hsub⟩,f1,f2,f4,rfl⟩
  obtain⟨a,ha⟩:=yQ3 hlt
  have ham:=lMg ha
  obtain⟨z,hkz,hzz⟩:=i3.get ha
  have hlen2:ys.length=k:=by rw[hys.len,List.length_take]; omega
  have hcall:=fun st=>IH a ham z hzz (zGr hok2 ham) (by have:=yYo ham; omega) st
  obtain⟨rule',tl',xl',tr',xr',op',fn',ta',xa',tb',xb',v',un',tu',xu',n',ts',xs',rfl⟩:=yUm hzz
  simp(config:=zzC)only[go_sem,f1,f3,f4,i3.len,lt_i hlt,yQ2 e3,iNn,hkz,fits]
  intro _
  refine (hcall _).mono ?_
  rintro r _ ⟨hr,rfl⟩
  have hn:IsTrs (sub.take (k+1)) (ys++[r]):=by
   rw[yQ4 ha]; exact hys.append (wV7 hr)
  obtain⟨rule',tl',xl',tr',xr',op',fn',ta',xa',tb',xb',v',un',tu',xu',n',ts',xs',rfl⟩:=yUm hr
  simp(config:=zzC)only[go_sem,f1,f3,f4,fits,yQ1]
  refine yX1 hown hlen2 hsub rfl (by simp[fits,IV.one]) (by simp only; omega) (by omega) fun tg2 st4 hown2 hsub4 _ hap2=>?_
  simp(config:=zzC)only[go_sem,f1,f2,f3,f4,fits,yQa hlt (show sub.length≤281474976710656 by omega)]
  exact⟨tg2,_,rfl,hn,hown2,hsub4⟩
 ·rintro fr st1 _ ⟨⟨tg',ys,f3,hys,hown,hsub⟩,f1,f2,f4,rfl⟩
  rw[lTl] at hys
  simp(config:=zzC)only[go_sem,f1,f2,f3,f4,i3.len,yQm (nLi _),fits]
  intro _
  refine yQ9 (st':=st) hsub ⟨?_,rfl⟩
  simp only[IsTr]
  exact⟨_,_,_,_,_,_,_,_,_,_,_,_,_,_,_,_,rfl,hru,g1,k1.1,g2,k2.1,hr2.1,hr3.1,hown.es,hys⟩
theorem xZq:∀ (k:Nat)(t:Tr),SizeOf.sizeOf t<k→wX2 gl t
 | 0,t,h=>by omega
 | k+1,.mk r sq f u n sub,h=>xGl gl r sq f u n sub (fun a ha=>xZq k a (by
   have:=lSm ha
   simp at h; omega))
end Go.Proofs.Tryz
