/- Walks: lists put together; the check of -/
import Derived.Test.YtckafgnkmnichaaGreatDoorQB
import Derived.Shelf.SlSortCmp.NoneTotal
import Derived.Ground.SlsfProg
import Derived.Test.YtckafgnkmnichaaGreatDoorProg
import Derived.Test.YtckafgnkmnichaaGreatDoorJI
import Derived.Test.YtckafgnkmnichaaGreatDoorQA
import Derived.Test.YtckafgnkmnichaaGreatDoorKA
import Derived.Test.YtckafgnkmnichaaGreatDoorLA
set_option linter.all false
namespace Go.Proofs.Tryz
open Go Go.Iv
set_option maxRecDepth 4000
variable (gl:Nat → Option IV)
theorem wJm:lenI prog 3 = none:=by kernel_rfl
theorem zVk (n:Nat):yXh none (some 0) n = some (0,0):=by simp [yXh]
theorem xZq (n:Nat):yXh none (some ((0:Nat):Int)) n = some (0,0):=zVk n
theorem vJ5 (n:Nat) (hn:n ≤ 1099511627776) (st:ISt):ICall prog gl 172 [.sl ⟨true,.nil,0⟩ [],.raw (.int .i64 n)] st (fun r st' =>
  (n = 0 ∧ r = .sl ⟨true,.nil,0⟩ [] ∧ st' = st) ∨ (∃ g cap,st g = none ∧ n ≤ cap ∧ r = .raw (.slice (some ⟨g,0,none⟩) 0 cap) ∧ st' = st.put g (some (.box (List.replicate (cap * 4) .junk))))):=by
 have h1:decide ((n:Int) < 0) = false:=dEf (by omega)
 have h2:IntKind.i64.wrap ((0:Int) - ((0:Nat):Int)) = 0:=rfl
 have h3:IntKind.i64.wrap ((n:Int) - 0) = n:=w64 (by omega) (by omega)
 refine iI func172 rfl rfl (by kernel_rfl) ?_
 by_cases hz:n = 0
 ·subst hz
  simp -implicitDefEqProofs -dsimp only [go_sem,h1,h2,h3,show decide ((0:Int) < ((0:Nat):Int)) = false from rfl]
  refine yQ0 (.inl ?_)
  simp
 ·have h4:decide ((0:Int) < (n:Int)) = true:=dEt (by omega)
  simp -implicitDefEqProofs -dsimp only [go_sem,h1,h2,h3,h4,zVk,wJm]
  refine yQw ⟨rfl,by omega,by show (n:Int) * 72 ≤ _; omega,by omega⟩ fun g cap => yQi fun hg => ?_
  obtain ⟨hg,hc⟩:=hg
  rw [Int.toNat_natCast] at hc
  simp -implicitDefEqProofs -dsimp only [go_sem,Int.toNat_natCast,xZq,ite_self,Nat.zero_mul,hc]
  exact yQ0 (.inr ⟨g,cap,hg,hc,rfl,rfl⟩)
def catL (l:List (Tag × List IV)):List IV:=l.flatMap (·.2)
def catI (l:List (Tag × List IV)):List IV:=l.map fun p => .sl p.1 p.2
theorem zG9 {l:List (Tag × List IV)} {k:Nat} {p:Tag × List IV} (h:l[k]? = some p):(catI l)[k]? = some (.sl p.1 p.2):=by simp [catI,List.getElem?_map,h]
theorem yVr {l:List (Tag × List IV)} {k:Nat} {p:Tag × List IV} (h:l[k]? = some p):catL (l.take (k + 1)) = catL (l.take k) ++ p.2:=by
 rw [yQ4 h]; simp [catL]
theorem zG8 (l:List (Tag × List IV)) (k:Nat):(catL (l.take k)).length ≤ (catL l).length:=by
 conv => rhs; rw [← List.take_append_drop k l]
 unfold catL
 rw [List.flatMap_append,lLa]; omega
theorem yK9:∀ {l:List Fm} {xs:List IV},IsFms l xs → ∀ y ∈ xs,fits true 4 y = true
 | [],_,rfl,y,h => by cases h
 | a :: l,_,⟨x,xs,rfl,hx,hl⟩,y,h => by
  rcases List.mem_cons.1 h with rfl | h
  ·obtain ⟨o,n,t,x,t',x',rfl⟩:=hx.agg
   simp [fits,IV.one]
  ·exact yK9 hl y h
theorem wQz {y:IV} (h:fits true 4 y = true):y.cells.length = 4:=(yXz h).2.1
theorem uZs {l:List IV} (h:∀ y ∈ l,fits true 4 y = true):(l.flatMap IV.cells).length = l.length * 4:=yZ2 l fun x hx => wQz (h x hx)
theorem wKv (l:List (Tag × List IV)) (tt:Tag) (htt:okEs tt 1) (hfit:∀ p ∈ l,∀ y ∈ p.2,fits true 4 y = true) (hlen:(catL l).length ≤ 1099511627776) (st:ISt) :
  ICall prog gl 120 [.sl tt (catI l)] st (fun r st' => (∃ t,r = .sl t [] ∧ okEs t 4 ∧ catL l = [] ∧ st' = st) ∨
   ∃ g cap cs,st g = none ∧ (catL l).length ≤ cap ∧ cap * 4 ≤ cs.length ∧ cs.take ((catL l).length * 4) = (catL l).flatMap IV.cells ∧ r = .raw (.slice (some ⟨g,0,none⟩) (catL l).length cap) ∧ st' = st.put g (some (.box cs))):=by
 have hli:(catI l).length = l.length:=by simp [catI]
 have hfc:∀ y ∈ catL l,fits true 4 y = true:=fun y hy => by
  obtain ⟨p,hp,hy⟩:=List.mem_flatMap.1 hy
  exact hfit p hp y hy
 refine iI func120 rfl rfl (by kernel_rfl) ?_
 simp -implicitDefEqProofs -dsimp only [go_sem,hli]
 intro hl
 refine LoopC.ctr l.length (fun k fr st' ds => fr 0 = .iv (.sl tt (catI l)) ∧ fr 3 = .iv (.raw (.int .i64 (catL (l.take k)).length)) ∧ fr 9 = .iv (.sl tt (catI l)) ∧ fr 10 = .iv (.raw (.int .i64 l.length)) ∧ fr 11 = .iv (.raw (.int .i64 k)) ∧ st' = st ∧ ds = []) ?_ ?_ ?_
 ·simp -implicitDefEqProofs -dsimp only [go_sem]
  simp [catL]
 ·rintro k fr st1 _ hlt ⟨f0,f3,f9,f10,f11,rfl,rfl⟩
  obtain ⟨p,hp⟩:=yQ3 hlt
  have h1:=zG8 l k
  have h2:=zG8 l (k + 1)
  rw [yVr hp,lLa] at h2
  have h3:IntKind.i64.wrap ((((catL (l.take k)).length:Nat):Int) + ((p.2.length:Nat):Int)) = ((catL (l.take (k + 1))).length:Nat):=by
   rw [w64 (by omega) (by omega),yVr hp,lLa]; omega
  have h4:decide ((((catL (l.take (k + 1))).length:Nat):Int) < 0) = false:=dEf (by omega)
  simp -implicitDefEqProofs -dsimp only [go_sem,f0,f3,f9,f10,f11,lt_i hlt,yQ2 htt,iNn,zG9 hp,fits,h3]
  intro hpl
  simp -implicitDefEqProofs -dsimp only [go_sem,h3,h4,f0,f3,f9,f10,f11,yQ9 hlt (show l.length ≤ 281474976710656 by omega)]
 ·rintro fr st1 _ ⟨f0,f3,f9,f10,f11,rfl,rfl⟩
  rw [lTl] at f3
  simp -implicitDefEqProofs -dsimp only [go_sem,f0,f3,f9,f10,f11,yQm (nLi _)]
  refine (vJ5 gl (catL l).length hlen _).mono ?_
  have loop:∀ (I:Nat → IV → ISt → Prop),True:=fun _ => trivial
  rintro r st2 (⟨hz,rfl,rfl⟩ | ⟨g,cap,hg,hcap,rfl,rfl⟩)
  ·have hnil:catL l = []:=List.eq_nil_of_length_eq_zero hz
   simp -implicitDefEqProofs -dsimp only [go_sem,f0,hli]
   intro _
   refine LoopC.ctr l.length (fun k fr st' ds => (∃ t,fr 6 = .iv (.sl t []) ∧ t.cap = .nil) ∧ fr 25 = .iv (.sl tt (catI l)) ∧ fr 26 = .iv (.raw (.int .i64 l.length)) ∧ fr 27 = .iv (.raw (.int .i64 k)) ∧ st' = st2 ∧ ds = []) ?_ ?_ ?_
   ·simp -implicitDefEqProofs -dsimp only [go_sem]
    exact ⟨⟨_,rfl,rfl⟩,rfl⟩
   ·rintro k fr st1 _ hlt ⟨⟨t,f6,ht⟩,f25,f26,f27,rfl,rfl⟩
    obtain ⟨p,hp⟩:=yQ3 hlt
    have hp0:p.2 = []:=by
     have:=yVr hp
     have h2:=zG8 l (k + 1)
     rw [this,lLa,hnil,List.length_nil] at h2
     exact List.eq_nil_of_length_eq_zero (by omega)
    obtain ⟨fs,c,es⟩:=t
    obtain rfl:c = .nil:=ht
    simp -implicitDefEqProofs -dsimp only [go_sem,f6,f25,f26,f27,lt_i hlt,yQ2 htt,iNn,zG9 hp,fits,hp0,yQ9 hlt (show l.length ≤ 281474976710656 by omega)]
    exact ⟨_,rfl,rfl⟩
   ·rintro fr st1 _ ⟨⟨t,f6,ht⟩,f25,f26,f27,rfl,rfl⟩
    simp -implicitDefEqProofs -dsimp only [go_sem,f6,f25,f26,f27,yQm (nLi _)]
    exact yQ0 (.inl ⟨_,rfl,.inl ht,hnil,rfl⟩)
  ·simp -implicitDefEqProofs -dsimp only [go_sem,f0,hli]
   intro _
   refine LoopC.ctr l.length (fun k fr st' ds => (∃ g cap cs,st1 g = none ∧ (catL (l.take k)).length ≤ cap ∧ cap * 4 ≤ cs.length ∧ cs.take ((catL (l.take k)).length * 4) = (catL (l.take k)).flatMap IV.cells ∧ fr 6 = .iv (.raw (.slice (some ⟨g,0,none⟩) (catL (l.take k)).length cap)) ∧ st' = st1.put g (some (.box cs))) ∧ fr 25 = .iv (.sl tt (catI l)) ∧ fr 26 = .iv (.raw (.int .i64 l.length)) ∧ fr 27 = .iv (.raw (.int .i64 k)) ∧ ds = []) ?_ ?_ ?_
   ·simp -implicitDefEqProofs -dsimp only [go_sem]
    exact ⟨⟨g,cap,_,hg,by simp [catL],by simp,by simp [catL],by simp [catL],rfl⟩,rfl⟩
   ·rintro k fr st' _ hlt ⟨⟨g,cap,cs,hg,hc1,hc2,hc3,f6,rfl⟩,f25,f26,f27,rfl⟩
    obtain ⟨p,hp⟩:=yQ3 hlt
    have h2:=zG8 l (k + 1)
    rw [yVr hp,lLa] at h2
    have hpf:=hfit p (lMg hp)
    simp -implicitDefEqProofs -dsimp only [go_sem,f6,f25,f26,f27,lt_i hlt,yQ2 htt,iNn,zG9 hp,fits]
    refine zZc _ _ _ (ISt.put_same ..) (List.all_eq_true.2 hpf) ⟨by show _ * 72 ≤ _; omega,by omega⟩ ⟨hc1,hc2⟩ (uZs hpf) ?_
    intro g' cap' cs' hg' k1 k2 k3
    simp -implicitDefEqProofs -dsimp only [go_sem,f6,f25,f26,f27,yQ9 hlt (show l.length ≤ 281474976710656 by omega)]
    have hst':((st1.put g (some (.box cs))).put g none).put g' (some (.box cs')) = st1.put g' (some (.box cs')):=by
     funext c
     simp only [ISt.put_apply]
     split
     ·rfl
     ·split
      ·subst_vars; exact hg.symm
      ·rfl
    have hg1:st1 g' = none:=by
     rcases hg' with rfl | h
     ·exact hg
     ·rw [ISt.put_apply] at h
      split at h
      ·cases h
      ·exact h
    refine ⟨g',cap',cs',hg1,?_,k2,?_,?_,hst'⟩
    ·rw [yVr hp,lLa]; exact k1
    ·rw [yVr hp,lLa,List.flatMap_append,← hc3]; exact k3
    ·rw [yVr hp,lLa]
   ·rintro fr st' _ ⟨⟨g,cap,cs,hg,hc1,hc2,hc3,f6,rfl⟩,f25,f26,f27,rfl⟩
    rw [lTl] at *
    simp -implicitDefEqProofs -dsimp only [go_sem,f6,f25,f26,f27,yQm (nLi _)]
    exact yQ0 (.inr ⟨g,cap,cs,hg,hc1,hc2,hc3,rfl,rfl⟩)
theorem xVr (l1 l2:List Fm) (t1 t2 tt:Tag) (x1 x2:List IV) (htt:okEs tt 1) (h1:IsFms l1 x1) (h2:IsFms l2 x2) (hlen:l1.length + l2.length ≤ 1099511627776) (st:ISt) :
  ICall prog gl 120 [.sl tt [.sl t1 x1,.sl t2 x2]] st (fun r st' => ∃ t ys,r = .sl t ys ∧ okEs t 4 ∧ IsFms (l1 ++ l2) ys ∧ st' = st):=by
 have hc:catL [(t1,x1),(t2,x2)] = x1 ++ x2:=by simp [catL]
 have hf:=h1.append h2
 have hlx:(x1 ++ x2).length ≤ 1099511627776:=by rw [hf.len,lLa]; exact hlen
 have key:=wKv gl [(t1,x1),(t2,x2)] tt htt (fun p hp y hy => by
  rcases List.mem_cons.1 hp with rfl | hp
  ·exact yK9 h1 y hy
  ·obtain rfl:=List.mem_singleton.1 hp
   exact yK9 h2 y hy) (by rw [hc]; exact hlx) st
 rw [hc] at key
 refine ICall.fix (key.mono fun r st' h => ?_)
 rcases h with ⟨t,rfl,ht,hn,rfl⟩ | ⟨g,cap,cs,hg,hc1,hc2,hc3,rfl,rfl⟩
 ·exact ⟨.sl t [],(fun _ => none),st',LendOk.mk (fun b o h => by cases h) (subSt.refl _) (fun b cs h => by cases h),.refl _,⟨false,t.cap,t.es⟩,[],by simp only [age,ages],ht,hn ▸ hf,rfl⟩
 ·have hcell:∀ y ∈ x1 ++ x2,y.cells.length = 4:=fun y hy => wQz (yK9 hf y hy)
  refine ⟨.sl ⟨true,.app g,4⟩ (x1 ++ x2),ISt.put (fun _ => none) g (some (.box cs)),st,⟨fun b o h => ?_,yQd hg,fun b cs' h => ?_⟩,.sl g cap ⟨true,.app g,4⟩ (x1 ++ x2) cs rfl (by omega) hc1 hcell (ISt.put_same ..) hc2 fun i r c hr hx => ?_,⟨false,.app g,4⟩,ages (x1 ++ x2),by simp only [age],.inr rfl,hf.aged,rfl⟩
  ·rw [ISt.put_apply] at h ⊢
   split at h
   ·rename_i hb; rw [if_pos hb]; exact h
   ·cases h
  ·rw [ISt.put_apply] at h
   split at h
   ·rename_i hb; rw [hb]; exact hg
   ·cases h
  ·have hi:i < (x1 ++ x2).length * 4:=by
    have:=(lGs hx).1
    rwa [yZ2 _ hcell] at this
   have:(cs.take ((x1 ++ x2).length * 4))[i]? = cs[i]?:=by rw [List.getElem?_take,if_pos hi]
   rw [hc3,hx,hr] at this
   cases this
   exact .refl _
theorem xGk {ca:Nat} {s:Sq} {rule:Nat} {main:Fm} {term:Tm} {name:ByteArray} {ad:List Sq} (h:yZl ca s rule main term name = (ad,0)) :
  yX8 ca s = true ∧ ∃ r,(yZh ca rule r main term name) = (ad,0):=by
 unfold yZl at h
 split at h
 ·simp at h
 ·rename_i hv
  split at h
  ·simp at h
  ·rename_i r _
   split at h
   ·simp at h
   ·split at h
    ·rename_i h1 h2
     injection h with h3 h4
     exact absurd h4 h2
    ·rename_i h1 h2
     split at h
     ·simp at h
     ·injection h with h3 h4
      refine ⟨by simpa using hv,r,?_⟩
      rw [← h3]
      exact Prod.ext rfl (by simpa using h2)
theorem yX1:fitL []:=fun f h => by cases h
theorem zG1 {f:Fm} (h:f.size ≤ 1000):fitL [f]:=fun g hg => by obtain rfl:=List.mem_singleton.1 hg; omega
theorem xVa {f g:Fm} (h:f.size ≤ 1000) (h':g.size ≤ 1000):fitL [f,g]:=fun k hk => by
 rcases List.mem_cons.1 hk with rfl | hk
 ·omega
 ·obtain rfl:=List.mem_singleton.1 hk; omega
theorem yJc {c:Prop} [Decidable c] {A B:List Sq} {P:Sq → Prop} (h1:∀ s ∈ A,P s) (h2:∀ s ∈ B,P s):∀ s ∈ (if c then A else B),P s:=by split <;> assumption
def yYj (s:Sq):Prop:=yY4 s ∧ s.l.length ≤ 64 ∧ s.r.length ≤ 64
theorem xVo {ca rule:Nat} {main a b:Fm} (hm:main.size ≤ 400) (ha:a.size ≤ 400) (hb:b.size ≤ 400):∀ s ∈ addS ca rule main a b,yYj s:=by
 have hi:(impF a b).size ≤ 1000:=by simp only [impF,Fm.size,yQ7,yQ8]; omega
 have hi':(impF b a).size ≤ 1000:=by simp only [impF,Fm.size,yQ7,yQ8]; omega
 have l1:=zG1 (show main.size ≤ 1000 by omega)
 have l2:=zG1 (show a.size ≤ 1000 by omega)
 have l3:=zG1 (show b.size ≤ 1000 by omega)
 have l4:=xVa (show a.size ≤ 1000 by omega) (show b.size ≤ 1000 by omega)
 have l5:=xVa hi hi'
 have q0:∀ s ∈ ([]:List Sq),yYj s:=fun s hs => by cases hs
 have q1:∀ {x:Sq},yYj x → ∀ s ∈ [x],yYj s:=fun hx s hs => by obtain rfl:=List.mem_singleton.1 hs; exact hx
 have q2:∀ {x y:Sq},yYj x → yYj y → ∀ s ∈ [x,y],yYj s:=fun hx hy s hs => by
  rcases List.mem_cons.1 hs with rfl | hs
  ·exact hx
  ·obtain rfl:=List.mem_singleton.1 hs; exact hy
 have c0:([]:List Fm).length ≤ 64:=Nat.zero_le _
 have c1:∀ f:Fm,[f].length ≤ 64:=fun _ => by simp
 have c2:∀ f g:Fm,[f,g].length ≤ 64:=fun _ _ => by simp
 unfold addS
 refine yJc (q1 ⟨⟨yX1,l2⟩,c0,c1 _⟩) (yJc (q1 ⟨⟨l2,yX1⟩,c1 _,c0⟩) (yJc (q1 ⟨⟨l4,yX1⟩,c2 _ _,c0⟩) (yJc (q2 ⟨⟨yX1,l2⟩,c0,c1 _⟩ ⟨⟨yX1,l3⟩,c0,c1 _⟩) (yJc (q2 ⟨⟨l2,yX1⟩,c1 _,c0⟩ ⟨⟨l3,yX1⟩,c1 _,c0⟩)
  (yJc (yJc (q1 ⟨⟨yX1,l2⟩,c0,c1 _⟩) (q1 ⟨⟨yX1,l4⟩,c0,c2 _ _⟩)) (yJc (q2 ⟨⟨yX1,l2⟩,c0,c1 _⟩ ⟨⟨l3,yX1⟩,c1 _,c0⟩) (yJc (q1 ⟨⟨l2,l3⟩,c1 _,c1 _⟩) (yJc (q1 ⟨⟨l5,yX1⟩,c2 _ _,c0⟩) (yJc (q2 ⟨⟨l2,l3⟩,c1 _,c1 _⟩ ⟨⟨l3,l2⟩,c1 _,c1 _⟩)
  (yJc (q1 ⟨⟨l2,yX1⟩,c1 _,c0⟩) (yJc (q1 ⟨⟨yX1,l2⟩,c0,c1 _⟩) (yJc (q1 ⟨⟨l2,yX1⟩,c1 _,c0⟩) (yJc (q1 ⟨⟨yX1,l2⟩,c0,c1 _⟩) (yJc (q2 ⟨⟨yX1,l1⟩,c0,c1 _⟩ ⟨⟨l1,yX1⟩,c1 _,c0⟩) (yJc (q1 ⟨⟨yX1,l3⟩,c0,c1 _⟩) q0)))))))))))))))
theorem yG9:∀ {l:List Fm} {g:Fm},g ∈ l → g.size ≤ yQ8 l
 | a :: l,g,h => by
  simp only [yQ8]
  rcases List.mem_cons.1 h with rfl | h
  ·omega
  ·have:=yG9 h; omega
theorem wJs {l:List Fm} {n:Nat} (h:yQ8 l ≤ n) (hn:1 ≤ n) (k:Nat):((l[k]?).getD fm0).size ≤ n:=by
 cases hk:l[k]? with
 | none => exact hn
 | some a => exact Nat.le_trans (yG9 (lMg hk)) h
theorem zKn {ca rule:Nat} {r:Rw} {main:Fm} {term:Tm} {name:ByteArray} {ad:List Sq} (h:yZh ca rule r main term name = (ad,0)):∀ s ∈ ad,yYj s:=by
 unfold yZh at h
 by_cases hc:(!fmB ca main || (decide (r.op ≠ 0) && decide (main.op ≠ r.op))) = true
 ·rw [if_pos hc] at h
  cases (Prod.mk.inj h).2
 ·rw [if_neg hc] at h
  have hf:fmB ca main = true:=by
   cases hq:fmB ca main
   ·simp [hq] at hc
   ·rfl
  have hm:main.size ≤ 400:=by
   unfold fmB at hf
   simp only [bAt] at hf
   exact (yJs hf.1).2.1
  have hs:∀ k,((main.subs[k]?).getD fm0).size ≤ 400:=fun k => wJs (by
   obtain ⟨o,n,us,sub⟩:=main
   simp only [Fm.size] at hm
   show yQ8 sub ≤ 400
   omega) (by omega) k
  by_cases h0:r.asks = 0
  ·simp only [if_pos h0] at h
   rw [← (Prod.mk.inj h).1]
   exact xVo hm (hs 0) (hs 1)
  ·simp only [if_neg h0] at h
   generalize (if r.asks = 2 then Tm.mk true name [] else term) = t at h
   by_cases h1:(!t.ok) = true
   ·simp only [if_pos h1] at h
    cases (Prod.mk.inj h).2
   ·simp only [if_neg h1] at h
    by_cases h2:(yZb ((main.subs[0]?).getD fm0) [(main.nm,t)]).2 ≠ 0
    ·simp only [if_pos h2] at h
     cases (Prod.mk.inj h).2
    ·simp only [if_neg h2] at h
     rw [← (Prod.mk.inj h).1]
     exact xVo hm (yX2 _ _) (hs 1)
theorem yWt (s:Sq):∀ (l l':List Sq) (ts ts':List Tr),l.length = ts.length → yXn s (l ++ l') (ts ++ ts') = (yXn s l ts && yXn s l' ts')
 | [],l',[],ts',_ => by simp [yXn]
 | a :: l,l',t :: ts,ts',h => by
  simp only [List.cons_append,yXn,yWt s l l' ts ts' (by simpa using h),Bool.and_assoc]
 | [],_,_ :: _,_,h => by simp at h
 | _ :: _,_,[],_,h => by simp at h
theorem zK3 {l l':List Fm} (h:fitL l) (h':fitL l'):fitL (l ++ l'):=fun f hf => (List.mem_append.1 hf).elim (h f) (h' f)
theorem wGe (G:Gl gl) (T:Gt gl) (ca rule:Nat) (s:Sq) (main:Fm) (term:Tm) (name:ByteArray) (sub:List Tr) (x:IV) (hx:IsTr (.mk rule s main term name sub) x) (hs:yY4 s) (hm:main.size ≤ 1000000) (ht:term.size ≤ 1000000)
  (hsub:∀ a ∈ sub,yY4 a.sq) (st:ISt):ICall prog gl 61 [.raw (.int .u8 ca),.cptr x] st (fun r st' => r = .raw (.int .i64 (yZe ca (.mk rule s main term name sub))) ∧ st' = st):=by
 obtain ⟨tl,xl,tr,xr,op,fn,ta,xa,tb,xb,v,un,tu,xu,ts,xs,rfl,hru,e1,i1,e2,i2,hy,hz,e3,i3⟩:=hx.mk
 have hstep:=fun st => wV8 gl G T ca s _ ⟨tl,xl,tr,xr,rfl,e1,i1,e2,i2⟩ hs rule main _ hy hm term _ hz ht name st
 unfold yZe
 refine ICall.intro (c:=cf prog gl [] [(9,[0,1,2,3,4,5,6,7,9,10,11,12,13,14,15,16,19,8,17,18,20])]) func61 rfl (by show _ ≤ 84; simp) (by kernel_rfl) ?_
 simp -implicitDefEqProofs -dsimp only [go_sem,fits]
 refine (hstep _).mono ?_
 rintro _ st ⟨tg,ys,rfl,he,hys,rfl⟩
 generalize hq:yZl ca s rule main term name = q at hys ⊢
 obtain ⟨ad,er⟩:=q
 simp only at hys ⊢
 by_cases h0:er = 0
 ·subst h0
  obtain ⟨hv,r,hr⟩:=xGk hq
  have hfit:=zKn hr
  simp -implicitDefEqProofs -dsimp only [go_sem,show decide (((0:Nat):Int) = 0) = true from rfl,i3.len,hys.len,fits]
  intro _ _
  by_cases hl:sub.length = ad.length
  ·have dl:decide ((sub.length:Int) = (ad.length:Int)) = true:=dEt (by omega)
   simp -implicitDefEqProofs -dsimp only [go_sem,dl,hys.len]
   intro _
   refine LoopC.ctr ad.length (fun k fr st' ds => yXn s (ad.take k) (sub.take k) = true ∧ fr 0 = .iv (.raw (.int .u8 ca)) ∧ fr 1 = .iv (.cptr (.agg [.raw (.int .u8 rule),.sl tl xl,.sl tr xr,.raw (.int .u8 op),.raw (.string fn),.sl ta xa,.sl tb xb,.raw (.bool v),.raw (.string un),.sl tu xu,.raw (.string name),.sl ts xs])) ∧ fr 46 = .iv (.sl tg ys) ∧ fr 47 = .iv (.raw (.int .i64 ad.length)) ∧ fr 48 = .iv (.raw (.int .i64 k)) ∧ st' = st ∧ ds = []) ?_ ?_ ?_
   ·simp -implicitDefEqProofs -dsimp only [go_sem]
    simp [yXn]
   ·rintro k fr st1 _ hlt ⟨hn,f0,f1,f46,f47,f48,rfl,rfl⟩
    obtain ⟨a,ha⟩:=yQ3 hlt
    obtain ⟨w,hkw,hw⟩:=hys.get ha
    obtain ⟨b,hb⟩:=yQ3 (l:=sub) (k:=k) (by omega)
    obtain ⟨z,hkz,hz⟩:=i3.get hb
    have hza:=hfit a (lMg ha)
    have hvl:s.l.length ≤ 64 ∧ s.r.length ≤ 64:=by
     unfold yX8 at hv
     simp only [bAt,dTe] at hv
     exact ⟨hv.1.1.1.1.2,hv.1.1.1.2⟩
    obtain ⟨t1,x1,t2,x2,rfl,k1,j1,k2,j2⟩:=hw
    have hC1:=fun st => xVr gl s.l a.l tl t1 ⟨true,.full,1⟩ xl x1 (.inr rfl) i1 j1 (by have:=hza.2.1; omega) st
    have hC2:=fun st => xVr gl s.r a.r tr t2 ⟨true,.full,1⟩ xr x2 (.inr rfl) i2 j2 (by have:=hza.2.2; omega) st
    have hsb:=hsub b (lMg hb)
    obtain ⟨br,bs,bm,bt,bn,bsub⟩:=b
    obtain ⟨tl',xl',tr',xr',op',fn',ta',xa',tb',xb',v',un',tu',xu',ts',xs',rfl,_,g1,m1,g2,m2,_⟩:=hz.mk
    have hlen1:(ad.take k).length = (sub.take k).length:=by rw [List.length_take,List.length_take]; omega
    have hpl:yY4 (s.plus a):=⟨zK3 hs.1 hza.1.1,zK3 hs.2 hza.1.2⟩
    simp -implicitDefEqProofs -dsimp only [go_sem,f0,f1,f46,f47,f48,lt_i hlt,yQ2 he,yQ2 e3,iNn,hkw,hkz,fits,yQa]
    refine (hC1 _).mono ?_
    rintro _ st2 ⟨t3,y1,rfl,g3,m3,rfl⟩
    simp -implicitDefEqProofs -dsimp only [go_sem,f0,f1,f46,f47,f48,lt_i hlt,yQ2 he,yQ2 e3,iNn,hkw,hkz,fits,yQa]
    refine (hC2 _).mono ?_
    rintro _ st2 ⟨t4,y2,rfl,g4,m4,rfl⟩
    simp -implicitDefEqProofs -dsimp only [go_sem,f0,f1,f46,f47,f48,lt_i hlt,yQ2 he,yQ2 e3,iNn,hkw,hkz,fits,yQa]
    refine (wKn gl G bs (s.plus a) _ _ ⟨_,_,_,_,rfl,g1,m1,g2,m2⟩ ⟨_,_,_,_,rfl,g3,m3,g4,m4⟩ hsb hpl _).mono ?_
    rintro _ st2 ⟨rfl,rfl⟩
    cases hw:yJm bs (s.plus a)
    ·simp -implicitDefEqProofs -dsimp only [go_sem]
     refine yQ0 ⟨?_,rfl⟩
     have hp:yXn s ad sub = false:=by
      conv => lhs; rw [← List.take_append_drop k ad,← List.take_append_drop k sub]
      rw [List.drop_eq_getElem_cons hlt,List.drop_eq_getElem_cons (show k < sub.length by omega),yWt s _ _ _ _ hlen1,(lGs ha).2,(lGs hb).2]
      simp only [yXn,Tr.sq,hw,Bool.false_and,Bool.and_false]
     rw [if_neg (by omega),if_neg (by omega),hp]; rfl
    ·simp -implicitDefEqProofs -dsimp only [go_sem,f0,f1,f46,f47,f48,yQ9 hlt (show ad.length ≤ 281474976710656 by omega)]
     rw [yQ4 ha,yQ4 hb,yWt s _ _ _ _ hlen1,hn]
     simp only [yXn,Tr.sq,hw,Bool.true_and]
   ·rintro fr st1 _ ⟨hn,f0,f1,f46,f47,f48,rfl,rfl⟩
    rw [lTl,show sub.take ad.length = sub by rw [← hl,lTl]] at hn
    simp -implicitDefEqProofs -dsimp only [go_sem,f47,f48,yQm (nLi _)]
    refine yQ0 ⟨?_,rfl⟩
    rw [if_neg (by omega),if_neg (by omega),hn]; rfl
  ·have dl:decide ((sub.length:Int) = (ad.length:Int)) = false:=dEf (by omega)
   simp -implicitDefEqProofs -dsimp only [go_sem,dl]
   refine yQ0 ⟨?_,rfl⟩
   rw [if_neg (by omega),if_pos hl]; rfl
 ·have d0:decide ((er:Int) = 0) = false:=dEf (by omega)
  simp -implicitDefEqProofs -dsimp only [go_sem,d0]
  refine yQ0 ⟨?_,rfl⟩
  rw [if_pos h0]
end Go.Proofs.Tryz
namespace Go.Proofs
open Go.Shelf
def Tryz.sortFL_ren:Go.Shelf.Ren:=⟨fun | 6 => 136 | 15 => 176 | 14 => 191 | 28 => 241 | 29 => 242 | 20 => 258 | 21 => 259 | 22 => 260 | 23 => 261 | 24 => 262 | 25 => 263 | 26 => 264 | 27 => 265 | 46 => 305 | 47 => 289 | 48 => 290 | 49 => 306 | 50 => 307 | 57 => 331 | n => n,fun | 22 => 22 | 24 => 27 | 25 => 155 | 3 => 3 | 39 => 188 | 0 => 0 | 53 => 244 | 55 => 246 | 4 => 4 | 46 => 236 | 45 => 235 | 50 => 241 | 5 => 5 | 9 => 9 | 66 => 280 | 70 => 284 | 76 => 300 | 77 => 266 | n => n,fun | n => n⟩
theorem Tryz.sortFL:Go.Proofs.SlLaysF0.n6 Tryz.prog Tryz.sortFL_ren:={
 mixed:=by kernel_rfl
 f6:=⟨Tryz.f136.name,by decide,Tryz.func136.trans (congrArg some (by kernel_rfl))⟩
 f14:=⟨Tryz.f191.name,by decide,Tryz.func191.trans (congrArg some (by kernel_rfl))⟩
 f15:=Tryz.func176.trans (congrArg some (by kernel_rfl))
 f20:=⟨Tryz.f258.name,by decide,Tryz.func258.trans (congrArg some (by kernel_rfl))⟩
 f21:=⟨Tryz.f259.name,by decide,Tryz.func259.trans (congrArg some (by kernel_rfl))⟩
 f22:=⟨Tryz.f260.name,by decide,Tryz.func260.trans (congrArg some (by kernel_rfl))⟩
 f23:=⟨Tryz.f261.name,by decide,Tryz.func261.trans (congrArg some (by kernel_rfl))⟩
 f24:=⟨Tryz.f262.name,by decide,Tryz.func262.trans (congrArg some (by kernel_rfl))⟩
 f25:=⟨Tryz.f263.name,by decide,Tryz.func263.trans (congrArg some (by kernel_rfl))⟩
 f26:=⟨Tryz.f264.name,by decide,Tryz.func264.trans (congrArg some (by kernel_rfl))⟩
 f27:=⟨Tryz.f265.name,by decide,Tryz.func265.trans (congrArg some (by kernel_rfl))⟩
 f28:=Tryz.func241.trans (congrArg some (by kernel_rfl))
 f29:=Tryz.func242.trans (congrArg some (by kernel_rfl))
 f46:=⟨Tryz.f305.name,by decide,Tryz.func305.trans (congrArg some (by kernel_rfl))⟩
 f47:=Tryz.func289.trans (congrArg some (by kernel_rfl))
 f48:=Tryz.func290.trans (congrArg some (by kernel_rfl))
 f49:=⟨Tryz.f306.name,by decide,Tryz.func306.trans (congrArg some (by kernel_rfl))⟩
 f50:=⟨Tryz.f307.name,by decide,Tryz.func307.trans (congrArg some (by kernel_rfl))⟩
 f57:=⟨Tryz.f331.name,by decide,Tryz.func331.trans (congrArg some (by kernel_rfl))⟩
 t0:=Tryz.underlying0
 a0:=Tryz.isAgg0
 z0:=Tryz.sizeOf0
 v0:=Tryz.zeroValue0
 t3:=Tryz.underlying3
 a3:=Tryz.isAgg3
 z3:=Tryz.sizeOf3
 v3:=Tryz.zeroValue3
 t4:=Tryz.underlying4
 a4:=Tryz.isAgg4
 z4:=Tryz.sizeOf4
 v4:=Tryz.zeroValue4
 t5:=Tryz.underlying5
 a5:=Tryz.isAgg5
 z5:=Tryz.sizeOf5
 v5:=Tryz.zeroValue5
 t9:=Tryz.underlying9
 a9:=Tryz.isAgg9
 z9:=Tryz.sizeOf9
 v9:=Tryz.zeroValue9
 t22:=Tryz.underlying22
 a22:=Tryz.isAgg22
 z22:=Tryz.sizeOf22
 v22:=Tryz.zeroValue22
 t25:=Tryz.underlying155
 a25:=Tryz.isAgg155
 z25:=Tryz.sizeOf155
 v25:=Tryz.zeroValue155
 t39:=Tryz.underlying188
 a39:=Tryz.isAgg188
 z39:=Tryz.sizeOf188
 v39:=Tryz.zeroValue188
 t45:=Tryz.underlying235
 a45:=Tryz.isAgg235
 z45:=Tryz.sizeOf235
 v45:=Tryz.zeroValue235
 t46:=Tryz.underlying236
 a46:=Tryz.isAgg236
 z46:=Tryz.sizeOf236
 v46:=Tryz.zeroValue236
 t50:=Tryz.underlying241
 a50:=Tryz.isAgg241
 z50:=Tryz.sizeOf241
 v50:=Tryz.zeroValue241
 t53:=Tryz.underlying244
 a53:=Tryz.isAgg244
 z53:=Tryz.sizeOf244
 v53:=Tryz.zeroValue244
 t55:=Tryz.underlying246
 a55:=Tryz.isAgg246
 z55:=Tryz.sizeOf246
 v55:=Tryz.zeroValue246
 t66:=Tryz.underlying280
 a66:=Tryz.isAgg280
 z66:=Tryz.sizeOf280
 v66:=Tryz.zeroValue280
 t70:=Tryz.underlying284
 a70:=Tryz.isAgg284
 z70:=Tryz.sizeOf284
 v70:=Tryz.zeroValue284
 t76:=Tryz.underlying300
 a76:=Tryz.isAgg300
 z76:=Tryz.sizeOf300
 v76:=Tryz.zeroValue300
 t77:=Tryz.underlying266
 a77:=Tryz.isAgg266
 z77:=Tryz.sizeOf266
 v77:=Tryz.zeroValue266 }
namespace Tryz
open Go Go.Iv
theorem xJu:tyI Tryz.prog (Tryz.sortFL_ren.t 24) = some (true,4):=by kernel_rfl
theorem xGq (w:World):(isAgg (Tryz.sortFL_ren.t 24)).run Tryz.prog w = .ok true w:=(yXl xJu w).1
theorem xW6 (w:World):(Go.sizeOf (Tryz.sortFL_ren.t 24)).run Tryz.prog w = .ok 4 w:=(yXl xJu w).2
end Tryz
end Go.Proofs
namespace Go.Proofs.Tryz
set_option maxRecDepth 4000
open Go Go.Iv Go.Sort Go.Shelf Go.RowKit
variable (gl:Nat → Option IV)
section
variable {α:Type} [Inhabited α] {enc:α → List Value} {k:Nat}
theorem zUz (hk:∀ x,(enc x).length = k) (h0:0 < k):∀ (l:List α) (t:Nat),t < l.length * k → (l.flatMap enc)[t]? = some ((enc l[t / k]!)[t % k]!)
 | [],t,h => by simp at h
 | a :: l,t,h => by
  rw [List.flatMap_cons]
  by_cases ht:t < k
  ·rw [List.getElem?_append_left (by rw [hk]; exact ht),Nat.div_eq_of_lt ht,Nat.mod_eq_of_lt ht]
   rw [List.getElem?_eq_getElem (by rw [hk]; exact ht)]
   simp only [List.getElem!_cons_zero]
   rw [getElem!_pos _ t (by rw [hk]; exact ht)]
  ·obtain ⟨s,rfl⟩:∃ s,t = s + k:=⟨t - k,by omega⟩
   rw [List.getElem?_append_right (by rw [hk]; omega),hk,Nat.add_sub_cancel,zUz hk h0 l s (by rw [List.length_cons,Nat.succ_mul] at h; omega),Nat.add_div_right _ h0,Nat.add_mod_right]
   simp
theorem zUy (hk:∀ x,(enc x).length = k):∀ l:List α,(l.flatMap enc).length = l.length * k
 | [] => by simp
 | a :: l => by rw [List.flatMap_cons,lLa,hk,zUy hk l,List.length_cons,Nat.succ_mul,Nat.add_comm]
theorem zWd (hk:∀ x,(enc x).length = k) (h0:0 < k) (d:Array α):(flatK enc k d).toList = d.toList.flatMap enc:=by
 have hl:(d.toList.flatMap enc).length = d.size * k:=by rw [zUy hk,Array.length_toList]
 apply List.ext_getElem?
 intro t
 by_cases ht:t < d.size * k
 ·rw [zUz hk h0 d.toList t (by simpa using ht)]
  have h1:=get_flatK enc k d t ht
  rw [getElem!_pos _ t (by rw [size_flatK]; exact ht)] at h1
  rw [Array.getElem?_toList,Array.getElem?_eq_getElem (by rw [size_flatK]; exact ht),h1]
  congr 3
  rw [Array.getElem!_toList]
 ·rw [List.getElem?_eq_none (show (flatK enc k d).toList.length ≤ t by rw [Array.length_toList,size_flatK]; omega),List.getElem?_eq_none (show (d.toList.flatMap enc).length ≤ t by rw [hl]; omega)]
end
section
variable {α:Type} [Inhabited α] {enc:α → List Value} {k:Nat} {w:World} {b m:Nat} {dk:Array α} {os:Array Obj}
theorem xJr {c:Array Value} {T:TypeId} {f:Nat × Nat} (hh:w.heap[b]? = some (.cells c T f)):(sortWorldK enc k w b 0 m dk os).heap[b]? = some (.cells (putCells id 0 (flatK enc k dk) c) T f):=by
 have hb:=(Array.getElem?_eq_some_iff.1 hh).1
 unfold sortWorldK
 rw [heap_grow_old _ _ (by show b < (putRowK enc k _ b 0 dk).heap.size; simpa [putRowK] using hb)]
 show (w.heap.modify b (onCells (putCells id 0 (flatK enc k dk))))[b]? = _
 rw [Array.getElem?_modify,if_pos rfl,hh]; rfl
theorem yWn {j:Nat} (hj:j ≠ b) (hlt:j < w.heap.size):(sortWorldK enc k w b 0 m dk os).heap[j]? = w.heap[j]?:=by
 unfold sortWorldK
 rw [heap_grow_old _ _ (by show j < (putRowK enc k _ b 0 dk).heap.size; simpa [putRowK] using hlt)]
 show (w.heap.modify b (onCells (putCells id 0 (flatK enc k dk))))[j]? = _
 rw [Array.getElem?_modify,if_neg (fun h => hj h.symm)]
theorem zYe {F c:Array Value} (h:F.size ≤ c.size):(putCells id 0 F c).toList = F.toList ++ c.toList.drop F.size:=by
 apply List.ext_getElem?
 intro i
 unfold putCells
 rw [Array.getElem?_toList,Array.getElem?_mapIdx]
 by_cases hi:i < F.size
 ·rw [List.getElem?_append_left (by simpa using hi),Array.getElem?_toList,Array.getElem?_eq_getElem (show i < c.size by omega),Array.getElem?_eq_getElem hi]
  simp only [Option.map_some,id,Nat.zero_add,Nat.zero_le,true_and,if_pos hi,Nat.sub_zero]
  rw [getElem!_pos F i hi]
 ·rw [List.getElem?_append_right (by simpa using hi),List.getElem?_drop,Array.length_toList,Array.getElem?_toList]
  rw [show F.size + (i - F.size) = i by omega]
  cases hc:c[i]? with
  | none => rfl
  | some v => simp only [Option.map_some,Nat.zero_add,Nat.zero_le,true_and,if_neg hi]
end
theorem xJ7 {X X':WS} (he:Ext X X') (hst:∀ b,X.st b = none) (hd:X.w.drawn ≤ X'.w.drawn):∃ q os,X'.w = grow (X.w.drewN q) os:=by
 refine ⟨X'.w.drawn - X.w.drawn,X'.w.heap.extract X.w.heap.size X'.w.heap.size,?_⟩
 have h1:X'.w.heap = X.w.heap ++ X'.w.heap.extract X.w.heap.size X'.w.heap.size:=by
  apply Array.ext_getElem?
  intro i
  by_cases hi:i < X.w.heap.size
  ·rw [Array.getElem?_append_left hi]; exact (he.keep i hi (hst i)).1
  ·rw [Array.getElem?_append_right (by omega),Array.getElem?_extract]
   have:=he.size
   split
   ·congr 1; omega
   ·rw [Array.getElem?_eq_none (by omega)]
 have h2:=he.os
 have h3:=he.tape
 have h4:=he.output
 generalize X'.w = w' at *
 generalize X.w = w at *
 obtain ⟨hp,tp,dr,os,out⟩:=w'
 obtain ⟨hp1,tp1,dr1,os1,out1⟩:=w
 simp only at h1 h2 h3 h4 hd
 subst h2 h3 h4
 simp only [grow,World.drewN,World.mk.injEq,and_true,true_and]
 exact ⟨h1,by omega⟩
theorem xYr (g:FuncId) (hent:∀ args w,(callFunc g args).run prog w = .ok (.enter g args) w) (xs rest:List IV) (b cap:Nat) (st:ISt) (hne:xs ≠ []) (hlen:xs.length ≤ 140737488355328) (hx:∀ x ∈ xs,fits true 4 x = true) (hb:st b = some (.box (xs.flatMap IV.cells ++ rest))) (cf:IV → IV → Int)
  (h1:∀ x ∈ xs,¬ cf x x < 0) (h2:∀ x ∈ xs,∀ y ∈ xs,∀ z ∈ xs,cf x y < 0 → cf y z < 0 → cf x z < 0) (h3:∀ x ∈ xs,∀ y ∈ xs,∀ z ∈ xs,¬ cf x y < 0 → ¬ cf y z < 0 → ¬ cf x z < 0)
  (hcmp:∀ x ∈ xs,∀ y ∈ xs,ICall prog (fun _ => none) g [x,y] (fun _ => none) (fun r _ => r = .raw (.int .i64 (cf x y)))) :
  ICall prog gl 136 [.raw (.slice (some ⟨b,0,none⟩) xs.length cap),.fn (.func g) [] []] st
   (fun r st' => r = .tup [] ∧ ∃ ys:List IV,ys.Perm xs ∧ ys.Pairwise (fun x y => ¬ cf y x < 0) ∧ st' = st.put b (some (.box (ys.flatMap IV.cells ++ rest)))):=by
 intro B X rs hg hst hv
 subst hst
 obtain ⟨r0,r1,rfl⟩:∃ r0 r1,rs = [r0,r1]:=by
  match rs,hv with
  | [a,b],_ => exact ⟨a,b,rfl⟩
  | [],hv => cases hv.1
  | [_],hv => cases hv.1
  | _ :: _ :: _ :: _,hv => cases hv.1
 obtain rfl:=V.raw_inv (hv.2 0 r0 _ rfl rfl)
 obtain ⟨f1,f2,rfl,hf1,hf2⟩:=V.fn_inv (hv.2 1 r1 _ rfl rfl)
 obtain rfl:f1 = []:=List.eq_nil_of_length_eq_zero hf1.1
 obtain rfl:f2 = []:=List.eq_nil_of_length_eq_zero hf2.1
 obtain ⟨hL,c,T,hh,hvl⟩:=hg.ok b _ hb
 have hblk:b < X.w.heap.size:=hg.lt hb
 have hcells:∀ x ∈ xs,x.cells.length = 4:=fun x hxm => (yXz (hx x hxm)).2.1
 have hcl:c.size = xs.length * 4 + rest.length:=by
  have:=hvl.1
  rw [lLa,yZ2 xs hcells,Array.length_toList] at this
  exact this
 -- the elements
 let α:={ p:IV × List Value // p.1 ∈ xs ∧ VL B X.L X.w p.2 p.1.cells }
 have hel:∀ (l:List IV) (vs:List Value),(∀ x ∈ l,x ∈ xs) → VL B X.L X.w vs (l.flatMap IV.cells) → ∃ d:List α,d.map (fun a => a.1.1) = l ∧ d.flatMap (fun a => a.1.2) = vs:=by
  intro l
  induction l with
  | nil =>
   intro vs _ hvs
   exact ⟨[],rfl,(List.eq_nil_of_length_eq_zero hvs.1).symm⟩
  | cons x l ih =>
   intro vs hm hvs
   have hx4:=hcells x (hm x (by simp))
   have hlv:vs.length = 4 + (l.flatMap IV.cells).length:=by rw [hvs.1,List.flatMap_cons,lLa,hx4]
   have ha:VL B X.L X.w (vs.take 4) x.cells:=by
    have:=hvs.take 4
    rwa [List.flatMap_cons,List.take_left' hx4] at this
   have hbv:VL B X.L X.w (vs.drop 4) (l.flatMap IV.cells):=by
    have:=hvs.drop 4
    rwa [List.flatMap_cons,List.drop_left' hx4] at this
   obtain ⟨d,hd1,hd2⟩:=ih (vs.drop 4) (fun y hy => hm y (by simp [hy])) hbv
   exact ⟨⟨(x,vs.take 4),hm x (by simp),ha⟩ :: d,by simp [hd1],by simp [hd2]⟩
 obtain ⟨d,hd1,hd2⟩:=hel xs (c.toList.take (xs.length * 4)) (fun _ h => h) (by
  have:=hvl.take (xs.length * 4)
  rwa [List.take_left' (yZ2 xs hcells)] at this)
 have hdl:d.length = xs.length:=by rw [← hd1,List.length_map]
 have hdn:d ≠ []:=by rintro rfl; exact hne (List.eq_nil_of_length_eq_zero hdl.symm)
 letI:Inhabited α:=⟨d.head hdn⟩
 let enc:α → List Value:=fun a => a.1.2
 have hk:∀ a:α,(enc a).length = 4:=fun a => by rw [a.2.2.1]; exact hcells _ a.2.1
 have hone:∀ (a:α),∀ v ∈ enc a,v.oneCell' = true:=fun a v hv => zQq (C:=⟨prog,gl,B⟩) a.2.2 (yXz (hx _ a.2.1)).2.2.1 v hv
 let cf':α → α → Int:=fun a a' => cf a.1.1 a'.1.1
 have hO:SWO (ltOf cf'):=⟨fun a => by simp only [ltOf,decide_eq_false_iff_not]; exact h1 _ a.2.1,fun a a' a'' p q => by
   simp only [ltOf,dTe] at p q ⊢; exact h2 _ a.2.1 _ a'.2.1 _ a''.2.1 p q,fun a a' a'' p q => by
   simp only [ltOf,decide_eq_false_iff_not] at p q ⊢; exact h3 _ a.2.1 _ a'.2.1 _ a''.2.1 p q⟩
 have hfl:(flatK enc 4 d.toArray).toList = c.toList.take (xs.length * 4):=by
  rw [zWd hk (by decide)]; exact hd2
 have hH:HoldsK enc 4 X.w b 0 d.toArray:=by
  intro j hj
  have hj':j < xs.length * 4:=by rw [size_flatK] at hj; simpa [hdl] using hj
  have e1:(flatK enc 4 d.toArray)[j]? = c[j]?:=by
   rw [← Array.getElem?_toList,hfl,List.getElem?_take,if_pos hj',Array.getElem?_toList]
  have hjc:j < c.size:=by omega
  rw [Array.getElem?_eq_getElem hj,Array.getElem?_eq_getElem hjc] at e1
  refine ⟨?_,?_⟩
  ·rw [Nat.zero_add,yZw hh,Array.getElem?_toList,Array.getElem?_eq_getElem hjc,← e1,id,getElem!_pos _ j hj]
  ·simp only [World.frozen?,hh]
   simp
 have hmono:∀ (n:Nat) (dk:Array α) (os:Array Obj) (X1:WS),X1.w = sortWorldK enc 4 X.w b 0 n dk os → X1.L = X.L → ∀ r x,V B X.L X.w r x → V B X1.L X1.w r x:=by
  intro n dk os X1 hw hXL r x hrx
  refine V.mono hrx (fun j => by rw [hXL]; exact Nat.le_refl _) (fun j i hi => ?_) (fun j p hp => ?_)
  ·have hjb:j ≠ b:=by rintro rfl; rw [hL] at hi; omega
   have hjl:j < X.w.heap.size:=by
    rcases Nat.lt_or_ge j X.w.heap.size with h | h
    ·exact h
    ·rw [hg.Lnew j h] at hi; omega
   exact yKm (by rw [hw]; exact yWn hjb hjl) i
  ·by_cases hjb:j = b
   ·subst hjb
    simp only [shq,hh] at hp
    simp only [shq,hw,xJr hh]
    rw [← hp]
    simp [putCells]
   ·rw [← hp]; exact yJ8 (by rw [hw]; exact yWn hjb (yUy hp))
 have hcon:=AnyQ.slices_SortFunc Tryz.sortFL 4 xGq xW6 enc hk hone cf' hO g #[] b 0 cap d.toArray X.w hent (by
   intro n os dk hdk a a'
   let X1:WS:={ w:=sortWorldK enc 4 X.w b 0 n dk os,L:=X.L,st:=fun _ => none,d:=X.w.drawn + n }
   have hsz:=size_sortWorldK_c enc 4 X.w b 0 n dk os
   have hg1:Go.Iv.Good ⟨prog,fun _ => none,B⟩ X1:=⟨fun _ _ h => (by cases h),fun _ _ h => (by cases h),Nat.le_trans hg.B hsz,fun j hj => hg.Lnew j (Nat.le_trans hsz hj),fun _ _ h => (by cases h),fun _ => Nat.le_refl _⟩
   have hm1:=hmono n dk os X1 rfl rfl
   have agg:∀ a:α,V B X1.L X1.w (.agg (enc a).toArray) a.1.1:=fun a => by
    obtain ⟨⟨x,vs⟩,hxm,hvx⟩:=a
    obtain ⟨cs,rfl⟩:∃ cs,x = .agg cs:=by
     have:=hx x hxm
     cases x <;> first | exact ⟨_,rfl⟩ | (simp [fits] at this)
    exact (show VL B X1.L X1.w vs cs from ⟨hvx.1,fun i r c hr hc => hm1 r c (hvx.2 i r c hr hc)⟩).agg
   refine (hcmp a.1.1 a.2.1 a'.1.1 a'.2.1 B X1 [.agg (enc a).toArray,.agg (enc a').toArray] hg1 rfl (VL.cons (agg a) (VL.cons (agg a') VL.nil))).mono ?_
   rintro e w' ⟨v,rfl,X',x,rfl,hg',he',hv',rfl⟩
   obtain rfl:=V.raw_inv hv'
   refine ⟨rfl,?_⟩
   have hd:=hg'.dr (fun _ => rfl)
   rw [he'.d] at hd
   exact xJ7 he' (fun _ => rfl) hd) hH hblk (by simp [hdl]; omega)
 have harr:(⟨[.slice (some ⟨b,0,none⟩) xs.length cap,.func (.func g) ⟨[]⟩ ⟨[]⟩]⟩:Array Value) = #[.slice (some ⟨b,0,none⟩) d.toArray.size cap,.func (.func g) #[] #[]]:=by simp [hdl]
 rw [harr]
 refine hcon.mono ?_
 rintro e w' ⟨rfl,d',n,os,hp,hs,rfl⟩
 have hd'l:d'.size = xs.length:=by rw [hp.1]; simp [hdl]
 have hperm:d'.toList.Perm d:=by
  have:=hp.2.2
  rw [List.size_toArray,hdl,← hd'l,Array.extract_size] at this
  rwa [hd'l,← hdl,show d.toArray.extract 0 d.length = d.toArray by simp] at this
 have hys:∀ y ∈ d'.toList.map (fun a => a.1.1),y ∈ xs:=fun y hy => by
  obtain ⟨a,_,rfl⟩:=List.mem_map.1 hy
  exact a.2.1
 have hblock:=xJr (enc:=enc) (k:=4) (m:=n) (dk:=d') (os:=os) hh
 have hfs:(flatK enc 4 d').size = xs.length * 4:=by rw [size_flatK,hd'l]
 have hpl:(putCells id 0 (flatK enc 4 d') c).toList = d'.toList.flatMap enc ++ c.toList.drop (xs.length * 4):=by
  rw [zYe (by omega),zWd hk (by decide),hfs]
 let X':WS:={ w:=sortWorldK enc 4 X.w b 0 n d' os,L:=X.L,st:=X.st.put b (some (.box ((d'.toList.map (fun a => a.1.1)).flatMap IV.cells ++ rest))),d:=X.d }
 have hm:=hmono n d' os X' rfl rfl
 have hsz:=size_sortWorldK_c enc 4 X.w b 0 n d' os
 have hvlm:∀ rs cs,VL B X.L X.w rs cs → VL B X'.L X'.w rs cs:=fun rs cs h => ⟨h.1,fun i r x hr hx => hm r x (h.2 i r x hr hx)⟩
 have hgood:Go.Iv.Good ⟨prog,gl,B⟩ X':=by
  refine ⟨fun j o ho => ?_,fun j x hj => hm _ _ (hg.gl j x hj),Nat.le_trans hg.B hsz,fun j hj => hg.Lnew j (Nat.le_trans hsz hj),fun j x hj => ?_,fun hd => Nat.le_trans (hg.dr hd) (Nat.le_add_right _ _)⟩
  ·by_cases hjb:j = b
   ·subst hjb
    simp only [X',ISt.put_same,Option.some.injEq] at ho
    subst ho
    refine ⟨hL,_,T,hblock,hvlm _ _ ?_⟩
    rw [hpl]
    refine VL.append ?_ ?_
    ·have key:∀ l:List α,VL B X.L X.w (l.flatMap enc) ((l.map fun a => a.1.1).flatMap IV.cells):=fun l => by
      induction l with
      | nil => exact VL.nil
      | cons a l ih => simp only [List.flatMap_cons,List.map_cons]; exact a.2.2.append ih
     exact key _
    ·have:=hvl.drop (xs.length * 4)
     rwa [List.drop_left' (yZ2 xs hcells)] at this
   ·have ho':X.st j = some o:=by simpa only [X',ISt.put_apply,if_neg hjb] using ho
    exact (hg.ok j o ho').mono (yWn hjb (hg.lt ho')) rfl hvlm
  ·obtain ⟨T',z,hT⟩:=hg.gsh j x hj
   refine ⟨T',z,?_⟩
   by_cases hjb:j = b
   ·subst hjb
    simp only [shq,hh] at hT
    simp only [shq,X',hblock]
    rw [← hT]
    simp [putCells]
   ·rw [← hT]; exact yJ8 (yWn hjb (yUy hT))
 refine ⟨_,rfl,X',.tup [],rfl,hgood,⟨rfl,rfl,rfl,hsz,fun _ => Nat.le_refl _,fun j i hi => ?_,fun j hj hs0 => ?_,fun j hj hs0 => ?_,fun j p hp => ?_,rfl⟩,.tup [] [] rfl (fun i r c h => by simp at h),rfl,_,?_,?_,rfl⟩
 ·have hjb:j ≠ b:=by rintro rfl; rw [hL] at hi; omega
  have hjl:j < X.w.heap.size:=by
   rcases Nat.lt_or_ge j X.w.heap.size with h | h
   ·exact h
   ·rw [hg.Lnew j h] at hi; omega
  exact yKm (yWn hjb hjl) i
 ·have hjb:j ≠ b:=by rintro rfl; rw [hb] at hs0; cases hs0
  exact ⟨yWn hjb hj,rfl⟩
 ·have hjb:j ≠ b:=by rintro rfl; rw [hb] at hs0; cases hs0
  simp only [X',ISt.put_apply,if_neg hjb]; exact hs0
 ·by_cases hjb:j = b
  ·subst hjb
   simp only [shq,hh] at hp
   simp only [shq,X',hblock]
   rw [← hp]
   simp [putCells]
  ·rw [← hp]; exact yJ8 (yWn hjb (yUy hp))
 ·have:=hperm.map (fun a:α => a.1.1)
  rwa [hd1] at this
 ·rw [List.pairwise_map]
  refine List.pairwise_iff_getElem.2 fun i j hi hj hij => ?_
  have:=hs i j (Nat.zero_le _) hij (by simp at hj ⊢; omega)
  simp only [ltOf,decide_eq_false_iff_not] at this
  rw [Array.length_toList] at hi hj
  rw [getElem!_pos d' i hi,getElem!_pos d' j hj] at this
  exact this
end Go.Proofs.Tryz
namespace Go.Proofs.Tryz
open Go Go.Iv Go.Shelf Go.RowKit
set_option maxRecDepth 4000
variable (gl:Nat → Option IV)
mutual
theorem vQd:∀ (a b:Tm) (x:IV),IsTm a x → IsTm b x → a = b
 | .mk v n us,.mk w m ws,x,h,k => by
  obtain ⟨t,xs,rfl,_,h1⟩:=h.mk
  obtain ⟨t',xs',hx,_,h2⟩:=k.mk
  simp only [IV.agg.injEq,List.cons.injEq,IV.raw.injEq,Value.bool.injEq,Value.string.injEq,IV.sl.injEq,and_true] at hx
  obtain ⟨rfl,rfl,rfl,rfl⟩:=hx
  rw [xZa us ws xs h1 h2]
theorem xZa:∀ (l m:List Tm) (xs:List IV),IsTms l xs → IsTms m xs → l = m
 | [],[],_,_,_ => rfl
 | [],b :: m,xs,h,k => by
  simp only [IsTms] at h k
  obtain ⟨y,ys,rfl,_⟩:=k
  cases h
 | a :: l,[],xs,h,k => by
  simp only [IsTms] at h k
  obtain ⟨y,ys,rfl,_⟩:=h
  cases k
 | a :: l,b :: m,xs,h,k => by
  simp only [IsTms] at h k
  obtain ⟨y,ys,rfl,h1,h2⟩:=h
  obtain ⟨y',ys',he,k1,k2⟩:=k
  cases he
  rw [vQd a b y h1 k1,xZa l m ys h2 k2]
end
mutual
theorem wVt:∀ (a b:Fm) (x:IV),IsFm a x → IsFm b x → a = b
 | .mk o n us sub,.mk o' m ws sub',x,h,k => by
  obtain ⟨t,xs,t2,xs2,rfl,_,_,h1,_,h2⟩:=h.mk
  obtain ⟨t',xs',t2',xs2',hx,_,_,k1,_,k2⟩:=k.mk
  simp only [IV.agg.injEq,List.cons.injEq,IV.raw.injEq,Value.int.injEq,Value.string.injEq,IV.sl.injEq,and_true,true_and,Int.natCast_inj] at hx
  obtain ⟨rfl,rfl,⟨rfl,rfl⟩,rfl,rfl⟩:=hx
  rw [xZa us ws xs h1 k1,wQw sub sub' xs2 h2 k2]
theorem wQw:∀ (l m:List Fm) (xs:List IV),IsFms l xs → IsFms m xs → l = m
 | [],[],_,_,_ => rfl
 | [],b :: m,xs,h,k => by
  simp only [IsFms] at h k
  obtain ⟨y,ys,rfl,_⟩:=k
  cases h
 | a :: l,[],xs,h,k => by
  simp only [IsFms] at h k
  obtain ⟨y,ys,rfl,_⟩:=h
  cases k
 | a :: l,b :: m,xs,h,k => by
  simp only [IsFms] at h k
  obtain ⟨y,ys,rfl,h1,h2⟩:=h
  obtain ⟨y',ys',he,k1,k2⟩:=k
  cases he
  rw [wVt a b y h1 k1,wQw l m ys h2 k2]
end
open Classical in
noncomputable def rdF (x:IV):Fm:=if h:∃ a,IsFm a x then h.choose else fm0
theorem xK1 {a:Fm} {x:IV} (h:IsFm a x):rdF x = a:=by
 have he:∃ a,IsFm a x:=⟨a,h⟩
 unfold rdF
 rw [dif_pos he]
 exact wVt _ _ x he.choose_spec h
theorem xK0:∀ {l:List Fm} {xs:List IV},IsFms l xs → xs.map rdF = l
 | [],_,rfl => rfl
 | a :: l,_,⟨x,xs,rfl,hx,hl⟩ => by rw [List.map_cons,xK1 hx,xK0 hl]
theorem wVs:∀ {ys:List IV},(∀ y ∈ ys,∃ a,IsFm a y) → IsFms (ys.map rdF) ys
 | [],_ => rfl
 | y :: ys,h => by
  obtain ⟨a,ha⟩:=h y (by simp)
  exact ⟨y,ys,rfl,by rw [xK1 ha]; exact ha,wVs fun z hz => h z (by simp [hz])⟩
theorem zYy:∀ {l:List Fm} {xs:List IV},IsFms l xs → ∀ y ∈ xs,∃ a,IsFm a y ∧ a ∈ l
 | [],_,rfl,y,h => by cases h
 | a :: l,_,⟨x,xs,rfl,hx,hl⟩,y,h => by
  rcases List.mem_cons.1 h with rfl | h
  ·exact ⟨a,hx,by simp⟩
  ·obtain ⟨b,hb,hm⟩:=zYy hl y h
   exact ⟨b,hb,by simp [hm]⟩
theorem vXx (l:List Fm) (xs rest:List IV) (hx:IsFms l xs) (hne:xs ≠ []) (hlen:xs.length ≤ 140737488355328) (b cap:Nat) (st:ISt) (hb:st b = some (.box (xs.flatMap IV.cells ++ rest))) :
  ICall prog gl 136 [.raw (.slice (some ⟨b,0,none⟩) xs.length cap),.fn (.func 137) [] []] st
   (fun r st' => r = .tup [] ∧ ∃ (m:List Fm) (ys:List IV),IsFms m ys ∧ m.Perm l ∧ m.Pairwise (fun x y => ¬ yXr y x < 0) ∧ st' = st.put b (some (.box (ys.flatMap IV.cells ++ rest)))):=by
 refine (xYr gl 137 ?_ xs rest b cap st hne hlen (yK9 hx) hb (fun x y => yXr (rdF x) (rdF y)) (fun x _ => zKf _) (fun x _ y _ z _ => zG7 _ _ _) (fun x _ y _ z _ h1 h2 h3 => ?_) (fun x hxm y hym => ?_)).mono ?_
 ·exact enters_of func137 (by kernel_rfl) rfl
 ·rcases Int.lt_or_le (yXr (rdF y) (rdF x)) 0 with h | h
  ·have:=zG7 _ _ _ h h3
   exact h2 this
  ·have hxy:yXr (rdF x) (rdF y) = 0:=by
    have:=zKe (rdF x) (rdF y)
    omega
   rw [(zXg _ _).1 hxy] at h3
   exact h2 h3
 ·obtain ⟨a,ha,_⟩:=zYy hx x hxm
  obtain ⟨c,hc,_⟩:=zYy hx y hym
  rw [xK1 ha,xK1 hc]
  exact (xQu (fun _ => none) a c x y ha hc _).mono fun r st' h => h.1
 ·rintro r st' ⟨rfl,ys,hp,hpw,rfl⟩
  refine ⟨rfl,ys.map rdF,ys,wVs fun y hy => ?_,?_,?_,rfl⟩
  ·obtain ⟨a,ha,_⟩:=zYy hx y (hp.mem_iff.1 hy)
   exact ⟨a,ha⟩
  ·rw [← xK0 hx]; exact hp.map rdF
  ·exact List.pairwise_map.2 hpw
theorem wX1 (t:Tag) (ht:t.cap = .nil) (st:ISt):ICall prog gl 136 [.sl t [],.fn (.func 137) [] []] st (fun r st' => r = .tup [] ∧ st' = st):=by
 obtain ⟨fs,c,es⟩:=t
 obtain rfl:c = .nil:=ht
 intro B X rs hg hst hv
 obtain ⟨r0,r1,rfl⟩:∃ r0 r1,rs = [r0,r1]:=by
  match rs,hv with
  | [a,b],_ => exact ⟨a,b,rfl⟩
  | [],hv => cases hv.1
  | [_],hv => cases hv.1
  | _ :: _ :: _ :: _,hv => cases hv.1
 obtain ⟨p,cap,rfl⟩:∃ p cap,r0 = .slice p 0 cap:=by
  have:=hv.2 0 r0 _ rfl rfl
  obtain ⟨a,cap,_,_,rfl,_⟩:=V.sl_inv this
  exact ⟨a,cap,rfl⟩
 refine Calls.mono (AnyF.slices_SortFunc_none Tryz.sortFL p cap r1 X.w) ?_
 rintro e w' ⟨rfl,rfl⟩
 exact ⟨_,rfl,X,.tup [],rfl,hg,Ext.refl X,.tup [] [] rfl (fun i r c h => by simp at h),rfl,hst⟩
noncomputable def ddF (p:Fm):List Fm → List Fm
 | [] => []
 | b :: l => if yXr b p = 0 then ddF b l else b :: ddF b l
noncomputable def dd:List Fm → List Fm
 | [] => []
 | a :: l => a :: ddF a l
theorem xVh:∀ (p:Fm) (l:List Fm) (a b:Fm),(p :: l).getLast? = some a → ddF p (l ++ [b]) = ddF p l ++ (if yXr b a = 0 then [] else [b])
 | p,[],a,b,h => by
  simp only [List.getLast?_singleton,Option.some.injEq] at h
  subst h
  simp only [List.nil_append,ddF]
 | p,c :: l,a,b,h => by
  rw [List.getLast?_cons_cons] at h
  simp only [List.cons_append,ddF,xVh c l a b h]
  split <;> rfl
theorem wG8:∀ (l:List Fm) (a b:Fm),l.getLast? = some a → dd (l ++ [b]) = dd l ++ (if yXr b a = 0 then [] else [b])
 | p :: l,a,b,h => by simp only [List.cons_append,dd,xVh p l a b h]
theorem wZa {m:List Fm} {k:Nat} {a b:Fm} (ha:m[k]? = some a) (hb:m[k + 1]? = some b):dd (m.take (k + 1 + 1)) = dd (m.take (k + 1)) ++ (if yXr b a = 0 then [] else [b]):=by
 rw [yQ4 hb]
 exact wG8 _ a b (by rw [yQ4 ha,List.getLast?_concat])
theorem wZb:∀ (p:Fm) (l:List Fm),(p :: l).Pairwise (fun x y => ¬ yXr y x < 0) → (∀ f,f ∈ p :: ddF p l ↔ f ∈ p :: l) ∧ (p :: ddF p l).Pairwise (fun x y => yXr x y < 0)
 | p,[],_ => ⟨fun f => Iff.rfl,List.pairwise_singleton ..⟩
 | p,b :: l,h => by
  have h1:=List.pairwise_cons.1 h
  obtain ⟨i1,i2⟩:=wZb b l h1.2
  simp only [ddF]
  by_cases hc:yXr b p = 0
  ·have hbp:=(zXg b p).1 hc
   subst hbp
   rw [if_pos hc]
   refine ⟨fun f => ?_,i2⟩
   rw [i1 f]
   simp
  ·rw [if_neg hc]
   have hlt:yXr p b < 0:=by
    have:=h1.1 b (by simp)
    have:=zKe b p
    omega
   refine ⟨fun f => ?_,List.pairwise_cons.2 ⟨fun f hf => ?_,i2⟩⟩
   ·rw [List.mem_cons,i1 f,List.mem_cons (l:=b :: l)]
   ·rcases List.mem_cons.1 hf with rfl | hf
    ·exact hlt
    ·exact zG7 _ _ _ hlt ((List.pairwise_cons.1 i2).1 f hf)
theorem vXh (l m:List Fm) (hp:m.Perm l) (h:m.Pairwise (fun x y => ¬ yXr y x < 0)):SetF l (dd m):=by
 cases m with
 | nil =>
  obtain rfl:=List.Perm.nil_eq hp
  exact ⟨List.Pairwise.nil,fun f => Iff.rfl⟩
 | cons a m =>
  obtain ⟨h1,h2⟩:=wZb a m h
  exact ⟨h2,fun f => (h1 f).trans hp.mem_iff⟩
theorem rd4 {ys rest cs:List IV} (hf:∀ y ∈ ys,y.cells.length = 4) (hlen:cs.length = (ys.flatMap IV.cells ++ rest).length) {i:Nat} {y:IV} (hy:ys[i]? = some y) (hc:∀ j,i * 4 ≤ j → cs[j]? = (ys.flatMap IV.cells ++ rest)[j]?) :
  i * 4 + 4 ≤ cs.length ∧ (cs.drop (i * 4)).take 4 = y.cells:=by
 have hi:=(lGs hy).1
 have h0:ys.flatMap IV.cells = (ys.take i).flatMap IV.cells ++ (y.cells ++ (ys.drop (i + 1)).flatMap IV.cells):=by
  conv => lhs; rw [← List.take_append_drop i ys,List.drop_eq_getElem_cons hi,(lGs hy).2]
  rw [List.flatMap_append,List.flatMap_cons]
 have h1:((ys.take i).flatMap IV.cells).length = i * 4:=by
  rw [yZ2 _ fun z hz => hf z (List.mem_of_mem_take hz),List.length_take]
  omega
 have hy4:=hf y (lMg hy)
 have hd:cs.drop (i * 4) = (ys.flatMap IV.cells ++ rest).drop (i * 4):=by
  apply List.ext_getElem?
  intro j
  rw [List.getElem?_drop,List.getElem?_drop,hc _ (by omega)]
 refine ⟨?_,?_⟩
 ·rw [hlen,h0]
  simp only [lLa,h1,hy4]; omega
 ·rw [hd,h0,List.append_assoc,List.drop_left' h1,List.append_assoc,List.take_left' hy4]
theorem xV6:∀ {l:List Fm} {xs:List IV} (k:Nat),IsFms l xs → IsFms (l.take k) (xs.take k)
 | [],_,k,rfl => by simp [IsFms]
 | a :: l,_,0,_ => by simp [IsFms]
 | a :: l,_,k + 1,⟨y,ys,rfl,hy,h⟩ => by
  rw [List.take_succ_cons,List.take_succ_cons]
  exact ⟨y,ys.take k,rfl,hy,xV6 k h⟩
theorem st4 {cs l:List IV} {k n:Nat} (hl:l.length = n) (h:k * 4 + n ≤ cs.length):(setAt cs (k * 4) l).length = cs.length ∧ (setAt cs (k * 4) l).take (k * 4) = cs.take (k * 4) ∧ (setAt cs (k * 4) l).take (k * 4 + n) = cs.take (k * 4) ++ l ∧ ∀ i,k * 4 + n ≤ i → (setAt cs (k * 4) l)[i]? = cs[i]?:=by
 have h1:(cs.take (k * 4)).length = k * 4:=by rw [List.length_take]; omega
 have h2:(cs.take (k * 4) ++ l).length = k * 4 + n:=by rw [lLa,h1,hl]
 unfold setAt
 refine ⟨?_,?_,List.take_left' h2,fun i hi => ?_⟩
 ·rw [lLa,h2,List.length_drop,hl]; omega
 ·rw [List.append_assoc,List.take_left' h1]
 ·rw [List.getElem?_append_right (by omega),h2,List.getElem?_drop,hl]
  congr 1; omega
theorem zZh {k n:Nat} (h:k ≤ n):yXh (some ((k:Nat):Int)) none n = some (k,n):=by
 simp only [yXh,Option.getD_none,Option.getD_some]
 rw [if_pos ⟨by omega,by omega,Int.le_refl _⟩]; simp
theorem xVt {k n:Nat} (h:k ≤ n):yXh none (some ((k:Nat):Int)) n = some (0,k):=by
 simp only [yXh,Option.getD_none,Option.getD_some]
 rw [if_pos ⟨Int.le_refl _,by omega,by omega⟩]; simp
theorem wX6 (m:List Fm) (ys rest:List IV) (hx:IsFms m ys) (hlen:m.length ≤ 1099511627776) (g cap:Nat) (hcap:m.length ≤ cap) (st:ISt) (hb:st g = some (.box (ys.flatMap IV.cells ++ rest))) :
  ICall prog gl 138 [.raw (.slice (some ⟨g,0,none⟩) m.length cap),.fn (.func 139) [] []] st
   (fun r st' => ∃ k cs zs,r = .raw (.slice (some ⟨g,0,none⟩) k cap) ∧ st' = st.put g (some (.box cs)) ∧ cs.length = (ys.flatMap IV.cells ++ rest).length ∧ cs.take (k * 4) = zs.flatMap IV.cells ∧ IsFms (dd m) zs ∧ zs.length = k ∧ k ≤ m.length):=by
 have hf4:∀ y ∈ ys,y.cells.length = 4:=fun y hy => wQz (yK9 hx y hy)
 have hyl:=hx.len
 have hput:st.put g (some (.box (ys.flatMap IV.cells ++ rest))) = st:=yXt hb
 have same:∀ k,dd (m.take k) = m.take k → k = m.length → ∃ k cs zs,IV.raw (.slice (some ⟨g,0,none⟩) m.length cap) = .raw (.slice (some ⟨g,0,none⟩) k cap) ∧ st = st.put g (some (.box cs)) ∧ cs.length = (ys.flatMap IV.cells ++ rest).length ∧ cs.take (k * 4) = zs.flatMap IV.cells ∧ IsFms (dd m) zs ∧ zs.length = k ∧ k ≤ m.length:=by
  intro k hk hkl
  rw [hkl,lTl] at hk
  refine ⟨m.length,_,ys,rfl,hput.symm,rfl,?_,by rw [hk]; exact hx,hyl,Nat.le_refl _⟩
  rw [← hyl,List.take_left' (yZ2 _ hf4)]
 refine ICall.intro (c:=cf prog gl [22,27,42,47] []) func138 rfl (by show _ ≤ 66; simp) (by kernel_rfl) ?_
 by_cases h2:m.length < 2
 ·have d2:decide (((m.length:Nat):Int) < 2) = true:=dEt (by omega)
  simp -implicitDefEqProofs -dsimp only [go_sem,d2]
  refine yQ0 (same m.length ?_ rfl)
  rw [lTl]
  match m,h2 with
  | [],_ => rfl
  | [a],_ => rfl
 ·have d2:decide (((m.length:Nat):Int) < 2) = false:=dEf (by omega)
  simp -implicitDefEqProofs -dsimp only [go_sem,d2]
  refine LoopC.ctr (m.length - 1) (fun c fr st' ds => dd (m.take (c + 1)) = m.take (c + 1) ∧ fr 0 = .iv (.raw (.slice (some ⟨g,0,none⟩) m.length cap)) ∧ fr 1 = .iv (.fn (.func 139) [] []) ∧ fr 5 = .iv (.raw (.int .i64 ((c + 1:Nat):Int))) ∧ st' = st ∧ ds = []) ?_ ?_ ?_
  ·simp -implicitDefEqProofs -dsimp only [go_sem]
   refine ⟨?_,rfl⟩
   match m,h2 with
   | [],h => exact absurd (show 0 < 2 by decide) h
   | [a],h => exact absurd (show 1 < 2 by decide) h
   | a :: b :: l,_ => rfl
  ·rintro c fr st1 _ hlt ⟨hd,f0,f1,f5,rfl,rfl⟩
   have hlt':c + 1 < m.length:=by omega
   obtain ⟨a,ha⟩:=yQ3 (l:=m) (k:=c) (by omega)
   obtain ⟨b,hbm⟩:=yQ3 hlt'
   obtain ⟨x,hkx,hxa⟩:=hx.get ha
   obtain ⟨y,hky,hyb⟩:=hx.get hbm
   have hcall:=xGx gl b a y x hyb hxa st1
   obtain ⟨rx1,rx2⟩:=rd4 (rest:=rest) hf4 rfl hkx (fun _ _ => rfl)
   obtain ⟨ry1,ry2⟩:=rd4 (rest:=rest) hf4 rfl hky (fun _ _ => rfl)
   obtain ⟨x1,x2,x3,x4,x5,x6,rfl⟩:=hxa.agg
   obtain ⟨y1,y2,y3,y4,y5,y6,rfl⟩:=hyb.agg
   simp only [IV.cells] at rx2 ry2
   have hw:IntKind.i64.wrap (((c + 1:Nat):Int) - 1) = (c:Nat):=by rw [w64 (by omega) (by omega)]; omega
   simp -implicitDefEqProofs -dsimp only [go_sem,f0,f1,f5,lt_i hlt',hw,hlt',show c < m.length by omega,iNn,hb,rx1,ry1,rx2,ry2,fits]
   refine hcall.mono ?_
   rintro _ st1 ⟨rfl,rfl⟩
   have hds:=wZa ha hbm
   by_cases he:yXr b a = 0
   ·rw [if_pos he,List.append_nil,hd] at hds
    have hcne:¬ cap = c + 1:=by omega
    simp -implicitDefEqProofs -dsimp only [go_sem,dEt he,f0,f1,f5,zZh (show c + 1 ≤ m.length by omega),hcap,hcne]
    refine LoopC.ctr (m.length - (c + 1) - 1) (fun j fr st' ds => (∃ k cs zs,fr 5 = .iv (.raw (.int .i64 ((k:Nat):Int))) ∧ st' = st1.put g (some (.box cs)) ∧ cs.length = (ys.flatMap IV.cells ++ rest).length ∧ cs.take (k * 4) = zs.flatMap IV.cells ∧ IsFms (dd (m.take (c + 1 + j + 1))) zs ∧ zs.length = k ∧ k ≤ c + 1 + j ∧ ∀ i,(c + 1 + j) * 4 ≤ i → cs[i]? = (ys.flatMap IV.cells ++ rest)[i]?) ∧
     fr 0 = .iv (.raw (.slice (some ⟨g,0,none⟩) m.length cap)) ∧ fr 1 = .iv (.fn (.func 139) [] []) ∧ fr 6 = .iv (.raw (.slice (some ⟨g,(c + 1) * 4,none⟩) (m.length - (c + 1)) (cap - (c + 1)))) ∧ fr 7 = .iv (.raw (.int .i64 ((j + 1:Nat):Int))) ∧ ds = []) ?_ ?_ ?_
    ·simp -implicitDefEqProofs -dsimp only [go_sem]
     refine ⟨⟨c + 1,ys.flatMap IV.cells ++ rest,ys.take (c + 1),f5,(yXt hb).symm,rfl,?_,?_,?_,Nat.le_refl _,fun _ _ => rfl⟩,f0,f1,rfl⟩
     ·conv => lhs; rw [← List.take_append_drop (c + 1) ys]
      rw [List.flatMap_append,List.append_assoc,List.take_left' (by rw [yZ2 _ fun z hz => hf4 z (List.mem_of_mem_take hz),List.length_take]; omega)]
     ·rw [hds]; exact xV6 _ hx
     ·rw [List.length_take]; omega
    ·rintro j fr st2 _ hj ⟨⟨k,cs,zs,f5,rfl,hcl,hct,hz,hzl,hk,hcs⟩,f0,f1,f6,f7,rfl⟩
     obtain ⟨a',ha'⟩:=yQ3 (l:=m) (k:=c + 1 + j) (by omega)
     obtain ⟨b',hb'⟩:=yQ3 (l:=m) (k:=c + 1 + j + 1) (by omega)
     obtain ⟨x',hkx',hxa'⟩:=hx.get ha'
     obtain ⟨y',hky',hyb'⟩:=hx.get hb'
     have hyb0:=hyb'
     have hcall':=xGx gl b' a' y' x' hyb' hxa' (st1.put g (some (.box cs)))
     obtain ⟨rx1',rx2'⟩:=rd4 hf4 hcl hkx' hcs
     obtain ⟨ry1',ry2'⟩:=rd4 hf4 hcl hky' (fun i hi => hcs i (by omega))
     have hy4:=hf4 y' (lMg hky')
     obtain ⟨p1,p2,p3,p4,p5,p6,rfl⟩:=hxa'.agg
     obtain ⟨q1,q2,q3,q4,q5,q6,rfl⟩:=hyb'.agg
     simp only [IV.cells] at rx2' ry2' hy4
     have hw':IntKind.i64.wrap (((j + 1:Nat):Int) - 1) = (j:Nat):=by rw [w64 (by omega) (by omega)]; omega
     have o1:(c + 1) * 4 + j * 4 = (c + 1 + j) * 4:=by omega
     have o2:(c + 1) * 4 + (j + 1) * 4 = (c + 1 + j + 1) * 4:=by omega
     have hj1:j + 1 < m.length - (c + 1):=by omega
     have hj0:j < m.length - (c + 1):=by omega
     have hds':=wZa ha' hb'
     simp -implicitDefEqProofs -dsimp only [go_sem,f0,f1,f5,f6,f7,lt_i hj1,hj0,hj1,hw',iNn,ISt.put_same,o1,o2,rx1',ry1',rx2',ry2',fits]
     refine hcall'.mono ?_
     rintro _ _ ⟨rfl,rfl⟩
     by_cases he':yXr b' a' = 0
     ·rw [if_pos he',List.append_nil] at hds'
      simp -implicitDefEqProofs -dsimp only [go_sem,dEt he',f0,f1,f5,f6,f7,yQ9 hj1 (show m.length - (c + 1) ≤ 281474976710656 by omega)]
      exact ⟨k,cs,zs,rfl,rfl,hcl,hct,by rw [show c + 1 + (j + 1) + 1 = c + 1 + j + 1 + 1 by omega,hds']; exact hz,hzl,by omega,fun i hi => hcs i (by omega)⟩
     ·rw [if_neg he'] at hds'
      have hkm:k < m.length:=by omega
      have hk4:k * 4 + 4 ≤ cs.length:=by omega
      obtain ⟨s1,s2,s3,s4⟩:=st4 hy4 hk4
      simp -implicitDefEqProofs -dsimp only [go_sem,dEf he',f0,f1,f5,f6,f7,hj1,hkm,iNn,ISt.put_same,o2,ry1',ry2',hk4,fits,yQ9 hkm (show m.length ≤ 281474976710656 by omega),yQ9 hj1 (show m.length - (c + 1) ≤ 281474976710656 by omega)]
      refine ⟨k + 1,setAt cs (k * 4) [.raw (.int .u8 q1),.raw (.string q2),.sl q3 q4,.sl q5 q6],zs ++ [.agg [.raw (.int .u8 q1),.raw (.string q2),.sl q3 q4,.sl q5 q6]],rfl,by rw [yQc]; rfl,s1.trans hcl,?_,?_,by simp [hzl],by omega,fun i hi => (s4 i (by omega)).trans (hcs i (by omega))⟩
      ·rw [show (k + 1) * 4 = k * 4 + 4 by omega,s3,hct,List.flatMap_append]
       simp [IV.cells]
      ·rw [show c + 1 + (j + 1) + 1 = c + 1 + j + 1 + 1 by omega,hds']
       exact hz.append ⟨_,_,rfl,hyb0,rfl⟩
    ·rintro fr st2 _ ⟨⟨k,cs,zs,f5,rfl,hcl,hct,hz,hzl,hk,hcs⟩,f0,f1,f6,f7,rfl⟩
     have hkm:k < m.length:=by omega
     have hck:¬ cap = k:=by omega
     have hmk:¬ m.length - k = 0:=by omega
     have hlen4:m.length * 4 ≤ cs.length:=by rw [hcl,lLa,yZ2 _ hf4]; omega
     have hk4:k * 4 + (m.length - k) * 4 ≤ cs.length:=by omega
     obtain ⟨s1,s2,s3,s4⟩:=st4 (cs:=cs) (k:=k) (l:=List.replicate ((m.length - k) * 4) .junk) (List.length_replicate ..) hk4
     rw [show m.length - (c + 1) - 1 + 1 = m.length - (c + 1) by omega] at f7
     simp -implicitDefEqProofs -dsimp only [go_sem,f0,f1,f5,f6,f7,yQm (nLi _),zZh (show k ≤ m.length by omega),xVt (show k ≤ m.length by omega),hcap,hck,hmk,ISt.put_same,hk4,ite_self,Nat.zero_mul]
     rw [show c + 1 + (m.length - (c + 1) - 1) + 1 = m.length by omega,lTl] at hz
     exact yQ0 ⟨k,setAt cs (k * 4) (List.replicate ((m.length - k) * 4) .junk),zs,rfl,by rw [yQc]; rfl,s1.trans hcl,s2.trans hct,hz,hzl,by omega⟩
   ·rw [if_neg he,hd] at hds
    simp -implicitDefEqProofs -dsimp only [go_sem,dEf he,f0,f1,f5,yQ9 hlt' (show m.length ≤ 281474976710656 by omega)]
    rw [hds,yQ4 hbm]
  ·rintro fr st1 _ ⟨hd,f0,f1,f5,rfl,rfl⟩
   rw [show m.length - 1 + 1 = m.length by omega] at hd f5
   simp -implicitDefEqProofs -dsimp only [go_sem,f0,f5,yQm (nLi _)]
   exact yQ0 (same m.length hd rfl)
end Go.Proofs.Tryz
namespace Go.Proofs.Tryz
open Go Go.Iv
set_option maxRecDepth 4000
variable (gl:Nat → Option IV)
theorem wYo {st:ISt} {g n cap:Nat} {cs zs:List IV} (hg:st g = none) (hzl:zs.length = n) (hn:n ≤ 140737488355328) (hc1:n ≤ cap) (hc2:cap * 4 ≤ cs.length) (hct:cs.take (n * 4) = zs.flatMap IV.cells) (hf:∀ y ∈ zs,fits true 4 y = true) :
  LendOk (st.put g (some (.box cs))) (ISt.put (fun _ => none) g (some (.box cs))) st ∧ OI (ISt.put (fun _ => none) g (some (.box cs))) (.raw (.slice (some ⟨g,0,none⟩) n cap)) (.sl ⟨true,.app g,4⟩ zs):=by
 subst hzl
 have hcell:∀ y ∈ zs,y.cells.length = 4:=fun y hy => wQz (hf y hy)
 refine ⟨⟨fun b o h => ?_,yQd hg,fun b cs' h => ?_⟩,.sl g cap ⟨true,.app g,4⟩ zs cs rfl hn hc1 hcell (ISt.put_same ..) hc2 fun i r c hr hx => ?_⟩
 ·rw [ISt.put_apply] at h ⊢
  split at h
  ·rename_i hb; rw [if_pos hb]; exact h
  ·cases h
 ·rw [ISt.put_apply] at h
  split at h
  ·rename_i hb; rw [hb]; exact hg
  ·cases h
 ·have hi:i < zs.length * 4:=by
   have:=(lGs hx).1
   rwa [yZ2 _ hcell] at this
  have:(cs.take (zs.length * 4))[i]? = cs[i]?:=by rw [List.getElem?_take,if_pos hi]
  rw [hct,hx,hr] at this
  cases this
  exact .refl _
open Classical in
noncomputable def setF (l:List Fm):List Fm:=if h:∃ r,SetF l r then h.choose else []
theorem xZs {l r:List Fm} (h:SetF l r):setF l = r:=by
 have he:∃ r,SetF l r:=⟨r,h⟩
 unfold setF
 rw [dif_pos he]
 exact SetF.one he.choose_spec h
theorem xJw:setF [] = []:=xZs ⟨List.Pairwise.nil,fun _ => Iff.rfl⟩
noncomputable def yX6 (l:List Fm):List Fm × Nat:=if l.all Fm.right then (setF (l.map zJe),0) else ([],2)
theorem xZ5 (t:Tag) (ht:t.cap = .nil) (st:ISt):ICall prog gl 138 [.sl t [],.fn (.func 139) [] []] st (fun r st' => (∃ t',r = .sl t' [] ∧ okEs t' 4) ∧ st' = st):=by
 obtain ⟨fs,c,es⟩:=t
 obtain rfl:c = .nil:=ht
 refine ICall.intro (c:=cf prog gl [22,27,42,47] []) func138 rfl (by show _ ≤ 66; simp) (by kernel_rfl) ?_
 simp -implicitDefEqProofs -dsimp only [go_sem,show decide (((0:Nat):Int) < 2) = true from rfl]
 exact yQ0 ⟨⟨_,rfl,.inl rfl⟩,rfl⟩
theorem zUc (G:Gl gl) (T:Gt gl) (l:List Fm) (tg:Tag) (xs:List IV) (htg:okEs tg 4) (hx:IsFms l xs) (hs:fitL l) (hlen:l.length ≤ 1099511627776) (st:ISt) :
  ICall prog gl 87 [.sl tg xs] st (fun r st' => (∃ t ys,r = .tup [.sl t ys,.raw (.int .i64 (yX6 l).2)] ∧ okEs t 4 ∧ IsFms (yX6 l).1 ys) ∧ st' = st):=by
 refine ICall.fix (ICall.mono (K:=fun y st' => (l.all Fm.right = false ∧ y = .tup [.sl ⟨true,.nil,0⟩ [],.raw (.int .i64 2)] ∧ st' = st) ∨ (l = [] ∧ (∃ t,y = .tup [.sl t [],.raw (.int .i64 0)] ∧ okEs t 4) ∧ st' = st) ∨
   (l.all Fm.right = true ∧ ∃ g cap k cs zs,st g = none ∧ k ≤ cap ∧ cap * 4 ≤ cs.length ∧ cs.take (k * 4) = zs.flatMap IV.cells ∧ IsFms (setF (l.map zJe)) zs ∧ zs.length = k ∧ k ≤ l.length ∧ y = .tup [.raw (.slice (some ⟨g,0,none⟩) k cap),.raw (.int .i64 0)] ∧ st' = st.put g (some (.box cs)))) ?_ ?_)
 ·refine ICall.intro (c:=cf prog gl [26] []) func87 rfl (by show _ ≤ 32; simp) (by kernel_rfl) ?_
  simp -implicitDefEqProofs -dsimp only [go_sem,hx.len]
  intro _
  refine LoopC.ctr l.length (fun k fr st' ds => (l.take k).all Fm.right = true ∧ ((k = 0 ∧ fr 4 = .iv (.sl ⟨true,.nil,0⟩ []) ∧ st' = st) ∨ (0 < k ∧ ∃ g cap cs zs,st g = none ∧ k ≤ cap ∧ cap * 4 ≤ cs.length ∧ cs.take (k * 4) = zs.flatMap IV.cells ∧ IsFms ((l.take k).map zJe) zs ∧ zs.length = k ∧ fr 4 = .iv (.raw (.slice (some ⟨g,0,none⟩) k cap)) ∧ st' = st.put g (some (.box cs)))) ∧
   fr 9 = .iv (.sl tg xs) ∧ fr 10 = .iv (.raw (.int .i64 l.length)) ∧ fr 11 = .iv (.raw (.int .i64 k)) ∧ ds = []) ?_ ?_ ?_
  ·simp -implicitDefEqProofs -dsimp only [go_sem]
   rfl
  ·rintro k fr st1 _ hlt ⟨hall,hor,f9,f10,f11,rfl⟩
   obtain ⟨a,ha⟩:=yQ3 hlt
   obtain ⟨y,hky,hya⟩:=hx.get ha
   have ham:=lMg ha
   have hcall:=wKr gl G T a y hya (hs a ham) st1
   obtain ⟨y1,y2,y3,y4,y5,y6,rfl⟩:=hya.agg
   simp -implicitDefEqProofs -dsimp only [go_sem,f9,f10,f11,lt_i hlt,yQ2 htg,iNn,hky,fits]
   refine hcall.mono ?_
   rintro _ st1 ⟨y',rfl,hy',rfl⟩
   unfold yVt at hy'
   cases hr:a.right
   ·rw [hr] at hy'
    simp only [bFt,if_false] at hy'
    obtain ⟨z1,z2,z3,z4,z5,z6,rfl⟩:=hy'.agg
    unfold yVt
    rw [hr]
    simp only [bFt,if_false]
    simp -implicitDefEqProofs -dsimp only [go_sem,show decide (((2:Nat):Int) = 0) = false from rfl,fits]
    have hsub:subSt st st1:=by
     rcases hor with ⟨_,_,h⟩ | ⟨_,g,cap,cs,zs,hg,_,_,_,_,_,_,h⟩
     ·rw [h]; exact subSt.refl _
     ·rw [h]; exact yQd hg
    exact yQb hsub (.inl ⟨List.all_eq_false.2 ⟨a,ham,by simp [hr]⟩,rfl,rfl⟩)
   ·rw [hr] at hy'
    simp only [if_true] at hy'
    have hy0:=hy'
    obtain ⟨z1,z2,z3,z4,z5,z6,rfl⟩:=hy'.agg
    unfold yVt
    rw [hr]
    simp only [if_true]
    have hall':(l.take (k + 1)).all Fm.right = true:=by
     rw [yQ4 ha,List.all_append,hall]; simp [hr]
    rcases hor with ⟨rfl,f4,rfl⟩ | ⟨hk0,g,cap,cs,zs,hg,h1,h2,h3,hz,hzl,f4,rfl⟩
    ·simp -implicitDefEqProofs -dsimp only [go_sem,show decide (((0:Nat):Int) = 0) = true from rfl,fits,f4,yQ1]
     intro g cap
     refine yQi fun hg => ?_
     obtain ⟨hg,hcap⟩:=hg
     simp -implicitDefEqProofs -dsimp only [go_sem,f9,f10,f11,show IntKind.i64.wrap (((0:Nat):Int) + 1) = ((1:Nat):Int) from rfl]
     have hl1:(l.take 1).map zJe = [zJe a]:=by
      have:=yQ4 ha
      simp only [Nat.zero_add,List.take_zero,List.nil_append] at this
      rw [this]; rfl
     refine ⟨by simpa using hall',.inr ⟨by omega,g,cap,_,[.agg [.raw (.int .u8 z1),.raw (.string z2),.sl z3 z4,.sl z5 z6]],hg,hcap,?_,?_,by rw [hl1]; exact ⟨_,_,rfl,hy0,rfl⟩,rfl,rfl,rfl⟩⟩
     ·simp [IV.cells]; omega
     ·simp [IV.cells]
    ·simp -implicitDefEqProofs -dsimp only [go_sem,show decide (((0:Nat):Int) = 0) = true from rfl,fits,f4,yQ1]
     have hkk:k ≤ 1099511627776:=by omega
     refine zZc _ _ _ (ISt.put_same ..) (by simp [fits,IV.one]) ⟨by show (_ + 1) * 72 ≤ _; omega,by show _ + 1 ≤ _; omega⟩ ⟨h1,h2⟩ (by simp [IV.cells]) ?_
     intro g' cap' cs' hg' q1 q2 q3
     have hst':((st.put g (some (.box cs))).put g none).put g' (some (.box cs')) = st.put g' (some (.box cs')):=by
      funext c
      simp only [ISt.put_apply]
      split
      ·rfl
      ·split
       ·subst_vars; exact hg.symm
       ·rfl
     have hg1:st g' = none:=by
      rcases hg' with rfl | h
      ·exact hg
      ·rw [ISt.put_apply] at h
       split at h
       ·cases h
       ·exact h
     simp -implicitDefEqProofs -dsimp only [go_sem,f9,f10,f11,yQ9 hlt (show l.length ≤ 281474976710656 by omega)]
     refine ⟨hall',.inr ⟨by omega,g',cap',cs',zs ++ [.agg [.raw (.int .u8 z1),.raw (.string z2),.sl z3 z4,.sl z5 z6]],hg1,q1,q2,?_,?_,by simp [hzl],rfl,hst'⟩⟩
     ·rw [List.flatMap_append,← h3]; exact q3
     ·rw [yQ4 ha,List.map_append]; exact hz.append ⟨_,_,rfl,hy0,rfl⟩
  ·rintro fr st1 _ ⟨hall,hor,f9,f10,f11,rfl⟩
   rw [lTl] at hall hor
   rcases hor with ⟨h0,f4,rfl⟩ | ⟨hk0,g,cap,cs,zs,hg,h1,h2,h3,hz,hzl,f4,rfl⟩
   ·simp -implicitDefEqProofs -dsimp only [go_sem,f4,f10,f11,yQm (nLi _)]
    refine (wX1 gl _ rfl _).mono ?_
    rintro _ _ ⟨rfl,rfl⟩
    simp -implicitDefEqProofs -dsimp only [go_sem,f4]
    refine (xZ5 gl _ rfl _).mono ?_
    rintro _ _ ⟨⟨t',rfl,ht'⟩,rfl⟩
    simp -implicitDefEqProofs -dsimp only [go_sem]
    exact yQ0 (.inr (.inl ⟨List.eq_nil_of_length_eq_zero h0,⟨t',rfl,ht'⟩,rfl⟩))
   ·have hcs:cs = zs.flatMap IV.cells ++ cs.drop (l.length * 4):=by rw [← h3,List.take_append_drop]
    have hzl':=hz.len
    have hsort:=vXx gl (l.map zJe) zs (cs.drop (l.length * 4)) hz (by rintro rfl; simp at hzl; omega) (by omega) g cap (st.put g (some (.box cs))) (by rw [ISt.put_same,← hcs])
    rw [hzl] at hsort
    simp -implicitDefEqProofs -dsimp only [go_sem,f4,f10,f11,yQm (nLi _)]
    refine hsort.mono ?_
    rintro _ _ ⟨rfl,m,ys,hm,hperm,hpw,rfl⟩
    have hml:m.length = l.length:=by rw [hperm.length_eq,List.length_map]
    have hcom:=wX6 gl m ys (cs.drop (l.length * 4)) hm (by omega) g cap (by omega) ((st.put g (some (.box cs))).put g (some (.box (ys.flatMap IV.cells ++ cs.drop (l.length * 4))))) (ISt.put_same ..)
    rw [hml] at hcom
    simp -implicitDefEqProofs -dsimp only [go_sem,f4]
    refine hcom.mono ?_
    rintro _ _ ⟨k,cs2,zs2,rfl,rfl,hl2,ht2,hz2,hzl2,hk2⟩
    rw [yQc,yQc]
    simp -implicitDefEqProofs -dsimp only [go_sem]
    have hyl:(ys.flatMap IV.cells).length = l.length * 4:=by rw [yZ2 _ fun y hy => wQz (yK9 hm y hy),hm.len,hml]
    rw [lLa,hyl,List.length_drop] at hl2
    exact yQ0 (.inr (.inr ⟨hall,g,cap,k,cs2,zs2,hg,by omega,by omega,ht2,by rw [xZs (vXh _ m hperm hpw)]; exact hz2,hzl2,hk2,rfl,rfl⟩))
 ·rintro y st' (⟨ha,rfl,rfl⟩ | ⟨rfl,⟨t,rfl,ht⟩,rfl⟩ | ⟨ha,g,cap,k,cs,zs,hg,hc1,hc2,hct,hz,hzl,hkl,rfl,rfl⟩)
  ·have hn:yX6 l = ([],2):=by unfold yX6; rw [ha]; rfl
   exact ⟨.tup [.sl ⟨true,.nil,0⟩ [],.raw (.int .i64 2)],(fun _ => none),st',LendOk.mk (fun b o h => by cases h) (subSt.refl _) (fun b cs h => by cases h),.refl _,⟨⟨false,.nil,0⟩,[],by rw [hn]; simp only [age,ages]; rfl,.inl rfl,by rw [hn]; rfl⟩,rfl⟩
  ·have hn:yX6 [] = ([],0):=by unfold yX6; simp only [List.all_nil,if_true,List.map_nil,xJw]
   exact ⟨.tup [.sl t [],.raw (.int .i64 0)],(fun _ => none),st',LendOk.mk (fun b o h => by cases h) (subSt.refl _) (fun b cs h => by cases h),.refl _,⟨⟨false,t.cap,t.es⟩,[],by rw [hn]; simp only [age,ages]; rfl,ht,by rw [hn]; rfl⟩,rfl⟩
  ·have hn:yX6 l = (setF (l.map zJe),0):=by unfold yX6; rw [ha]; rfl
   obtain ⟨k1,k2⟩:=wYo hg hzl (by omega) hc1 hc2 hct (yK9 hz)
   refine ⟨.tup [.sl ⟨true,.app g,4⟩ zs,.raw (.int .i64 0)],_,st,k1,.tup _ _ rfl fun i r c hr hc => ?_,⟨⟨false,.app g,4⟩,ages zs,by rw [hn]; simp only [age,ages]; rfl,.inr rfl,by rw [hn]; exact hz.aged⟩,rfl⟩
   match i,hr,hc with
   | 0,hr,hc => cases hr; cases hc; exact k2
   | 1,hr,hc => cases hr; cases hc; exact .refl _
noncomputable def SetS (s:Sq):Sq × Nat :=
 if (yX6 s.l).2 ≠ 0 then (⟨[],[]⟩,(yX6 s.l).2) else if (yX6 s.r).2 ≠ 0 then (⟨[],[]⟩,(yX6 s.r).2) else (⟨(yX6 s.l).1,(yX6 s.r).1⟩,0)
theorem uVu (G:Gl gl) (T:Gt gl) (s:Sq) (x:IV) (hx:IsSq s x) (hs:yY4 s) (hl:s.l.length ≤ 1099511627776 ∧ s.r.length ≤ 1099511627776) (st:ISt) :
  ICall prog gl 33 [x] st (fun r st' => (∃ y,r = .tup [y,.raw (.int .i64 (SetS s).2)] ∧ IsSq (SetS s).1 y) ∧ st' = st):=by
 obtain ⟨t1,x1,t2,x2,rfl,e1,i1,e2,i2⟩:=hx
 have h1:=fun st => zUc gl G T s.l t1 x1 e1 i1 hs.1 hl.1 st
 have h2:=fun st => zUc gl G T s.r t2 x2 e2 i2 hs.2 hl.2 st
 unfold SetS
 refine iI func33 rfl rfl (by kernel_rfl) ?_
 simp -implicitDefEqProofs -dsimp only [go_sem,fits]
 refine (h1 _).mono ?_
 rintro _ st ⟨⟨t3,y1,rfl,e3,j1⟩,rfl⟩
 by_cases q1:(yX6 s.l).2 = 0
 ·rw [if_neg (by omega)]
  simp -implicitDefEqProofs -dsimp only [go_sem,q1,show decide (((0:Nat):Int) = 0) = true from rfl,fits]
  refine (h2 _).mono ?_
  rintro _ st ⟨⟨t4,y2,rfl,e4,j2⟩,rfl⟩
  by_cases q2:(yX6 s.r).2 = 0
  ·rw [if_neg (by omega)]
   simp -implicitDefEqProofs -dsimp only [go_sem,q2,show decide (((0:Nat):Int) = 0) = true from rfl,fits]
   exact yQ0 ⟨⟨_,rfl,_,_,_,_,rfl,e3,j1,e4,j2⟩,rfl⟩
  ·rw [if_pos q2]
   simp -implicitDefEqProofs -dsimp only [go_sem,show decide ((((yX6 s.r).2:Nat):Int) = 0) = false from dEf (by omega),fits]
   exact yQ0 ⟨⟨_,rfl,_,_,_,_,rfl,.inl rfl,rfl,.inl rfl,rfl⟩,rfl⟩
 ·rw [if_pos q1]
  simp -implicitDefEqProofs -dsimp only [go_sem,show decide ((((yX6 s.l).2:Nat):Int) = 0) = false from dEf (by omega),fits]
  exact yQ0 ⟨⟨_,rfl,_,_,_,_,rfl,.inl rfl,rfl,.inl rfl,rfl⟩,rfl⟩
end Go.Proofs.Tryz
namespace Go.Proofs.Tryz
open Go Go.Iv
set_option maxRecDepth 4000
variable (gl:Nat → Option IV)
theorem zYx:∀ {l:List Fm} {c:Nat},(∀ f ∈ l,f.size ≤ c) → yQ8 l ≤ l.length * c
 | [],c,_ => by simp [yQ8]
 | a :: l,c,h => by
  have h1:=h a (by simp)
  have h2:=zYx (l:=l) fun f hf => h f (by simp [hf])
  rw [List.length_cons,Nat.succ_mul]
  simp only [yQ8]; omega
def yK6 (ca:Nat) (s m:Sq):Sq:=⟨s.l ++ m.l,if ca ≠ 2 ∨ m.r.length = 0 then s.r ++ m.r else m.r⟩
def okI (ca:Nat) (s m:Sq):Bool:=decide ((yK6 ca s m).l.length ≤ 64) && decide ((yK6 ca s m).r.length ≤ 64)
noncomputable def xYy (ca:Nat) (s:Sq) (rule:Nat) (main:Fm) (term:Tm) (name:ByteArray):List Sq × Nat :=
 if !yXi ca then ([],2) else if (yZl ca s rule main term name).2 ≠ 0 then ([],(yZl ca s rule main term name).2)
 else if (yZl ca s rule main term name).1.all (okI ca s) then ((yZl ca s rule main term name).1.map (yK6 ca s),0) else ([],5)
theorem wYw {c:Prop} [Decidable c] {A B:List Sq} (h1:A.length ≤ 2) (h2:B.length ≤ 2):(if c then A else B).length ≤ 2:=by split <;> assumption
theorem xVn (ca rule:Nat) (main a b:Fm):(addS ca rule main a b).length ≤ 2:=by
 unfold addS
 repeat' apply wYw
 all_goals first | exact Nat.zero_le _ | exact Nat.le_refl 2 | exact Nat.le_succ 1
theorem wZm {ca rule:Nat} {r:Rw} {main:Fm} {term:Tm} {name:ByteArray} {ad:List Sq} (h:yZh ca rule r main term name = (ad,0)):ad.length ≤ 2:=by
 unfold yZh at h
 by_cases hc:(!fmB ca main || (decide (r.op ≠ 0) && decide (main.op ≠ r.op))) = true
 ·rw [if_pos hc] at h
  cases (Prod.mk.inj h).2
 ·rw [if_neg hc] at h
  by_cases h0:r.asks = 0
  ·simp only [if_pos h0] at h
   rw [← (Prod.mk.inj h).1]
   exact xVn ..
  ·simp only [if_neg h0] at h
   generalize (if r.asks = 2 then Tm.mk true name [] else term) = t at h
   by_cases h1:(!t.ok) = true
   ·simp only [if_pos h1] at h
    cases (Prod.mk.inj h).2
   ·simp only [if_neg h1] at h
    by_cases h2:(yZb ((main.subs[0]?).getD fm0) [(main.nm,t)]).2 ≠ 0
    ·simp only [if_pos h2] at h
     cases (Prod.mk.inj h).2
    ·simp only [if_neg h2] at h
     rw [← (Prod.mk.inj h).1]
     exact xVn ..
theorem xUg {st st' S0:ISt} {tg:Tag} {n s:Nat} (h:own st tg n s S0) (hs:subSt st st'):own st' tg n s S0:=h.mono fun g hg _ => hs g _ hg
theorem wW3 (G:Gl gl) (T:Gt gl) (ca:Nat) (s:Sq) (x:IV) (hx:IsSq s x) (hs:yY4 s) (rule:Nat) (main:Fm) (y:IV) (hy:IsFm main y) (hm:main.size ≤ 1000000) (term:Tm) (z:IV) (hz:IsTm term z) (ht:term.size ≤ 1000000) (name:ByteArray) (st:ISt) :
  ICall prog gl 37 [.raw (.int .u8 ca),x,.raw (.int .u8 rule),y,z,.raw (.string name)] st (AdR st (xYy ca s rule main term name)):=by
 have hstep:=fun st => wV8 gl G T ca s x hx hs rule main y hy hm term z hz ht name st
 have hkn:=fun st => xXk gl ca st
 obtain ⟨t1,x1,t2,x2,rfl,e1,i1,e2,i2⟩:=hx
 obtain ⟨o3,n3,t3,x3,t4,x4,rfl⟩:=hy.agg
 obtain ⟨v,un,tz,xz,rfl⟩:=wWf hz
 unfold xYy
 refine ICall.intro (c:=cf prog gl [] [(10,[0,1,3,4,6,7,9,2,5,8,10]),(12,[0,1,3,4,2,5,6,7])]) func37 rfl (by show _ ≤ 82; simp) (by kernel_rfl) ?_
 simp -implicitDefEqProofs -dsimp only [go_sem,fits]
 refine (hkn _).mono ?_
 rintro _ st ⟨rfl,rfl⟩
 cases hk:yXi ca
 ·simp -implicitDefEqProofs -dsimp only [go_sem,fits]
  exact yQ0 ⟨_,_,rfl,.inl rfl,rfl,rfl⟩
 simp -implicitDefEqProofs -dsimp only [go_sem,fits]
 refine (hstep _).mono ?_
 rintro _ st ⟨tg,ys,rfl,he,hys,rfl⟩
 generalize hq:yZl ca s rule main term name = q at hys ⊢
 obtain ⟨ad,er⟩:=q
 simp only at hys ⊢
 by_cases h0:er = 0
 ·subst h0
  obtain ⟨hv,r,hr⟩:=xGk hq
  have hfit:=zKn hr
  have hal2:=wZm hr
  have hvl:s.l.length ≤ 64 ∧ s.r.length ≤ 64:=by
   unfold yX8 at hv
   simp only [bAt,dTe] at hv
   exact ⟨hv.1.1.1.1.2,hv.1.1.1.2⟩
  have hF1:=fun st => xXv gl s.l t1 x1 e1 i1 (by have:=zYx hs.1; omega) st
  have hF2:=fun st => xXv gl s.r t2 x2 e2 i2 (by have:=zYx hs.2; omega) st
  simp only [Bool.not_true,bFt,if_false,ne_eq,nTf]
  simp -implicitDefEqProofs -dsimp only [go_sem,show decide (((0:Nat):Int) = 0) = true from rfl,hys.len,fits]
  intro hal
  refine LoopC.ctr ad.length (fun k fr st' ds => (ad.take k).all (okI ca s) = true ∧ (∃ tg' zs,fr 16 = .iv (.sl tg' zs) ∧ IsSqs ((ad.take k).map (yK6 ca s)) zs ∧ own st' tg' k 2 st ∧ subSt st st') ∧ fr 0 = .iv (.raw (.int .u8 ca)) ∧ fr 7 = .box [.sl t1 x1,.sl t2 x2] ∧
   fr 36 = .iv (.sl tg ys) ∧ fr 37 = .iv (.raw (.int .i64 ad.length)) ∧ fr 38 = .iv (.raw (.int .i64 k)) ∧ ds = []) ?_ ?_ ?_
  ·simp -implicitDefEqProofs -dsimp only [go_sem]
   exact ⟨⟨_,_,rfl,rfl,.inl ⟨rfl,rfl⟩,subSt.refl _⟩,rfl⟩
  ·rintro k fr st1 _ hlt ⟨hall,⟨tgo,zs,f16,hzs,hown,hsub⟩,f0,f7,f36,f37,f38,rfl⟩
   obtain ⟨a,ha⟩:=yQ3 hlt
   obtain ⟨w,hkw,hw⟩:=hys.get ha
   have hza:=hfit a (lMg ha)
   obtain ⟨t5,x5,t6,x6,rfl,k5,j5,k6,j6⟩:=hw
   simp -implicitDefEqProofs -dsimp only [go_sem,f0,f7,f16,f36,f37,f38,lt_i hlt,yQ2 he,iNn,hkw,fits]
   refine (hF1 _).mono ?_
   rintro _ st2 ⟨t7,y7,rfl,k7,_,hy7,hown7,hsub7⟩
   simp -implicitDefEqProofs -dsimp only [go_sem,f0,f7,f16,f36,f37,f38,fits]
   refine yKw hown7 hy7.len j5.len hsub7 rfl (List.all_eq_true.2 (yK9 j5)) (by show _ * 72 ≤ _; have:=hza.2.1; omega) (by have:=hza.2.1; omega) fun t8 st3 hown8 hsub8 _ => ?_
   obtain ⟨L,hL⟩:∃ L,L = y7 ++ x5:=⟨_,rfl⟩
   have hLs:IsFms (yK6 ca s a).l L:=hL ▸ hy7.1.append j5
   have tL:=hown8.es
   rw [← hL]
   by_cases hca:ca = 2
   ·have dca:decide ((ca:Int) = 2) = true:=dEt (by omega)
    by_cases hr0:a.r.length = 0
    ·simp -implicitDefEqProofs -dsimp only [go_sem,f0,f7,f16,f36,f37,f38,fits,dca,j6.len,hr0,show decide (((0:Nat):Int) = 0) = true from rfl]
     refine (hF2 _).mono ?_
     rintro _ st4 ⟨t9,y9,rfl,k9,_,hy9,hown9,hsub9⟩
     simp -implicitDefEqProofs -dsimp only [go_sem,f0,f7,f16,f36,f37,f38,fits]
     refine yKw hown9 hy9.len j6.len hsub9 rfl (List.all_eq_true.2 (yK9 j6)) (by show _ * 72 ≤ _; have:=hza.2.2; omega) (by have:=hza.2.2; omega) fun t10 st5 hown10 hsub10 _ => ?_
     obtain ⟨R,hR⟩:∃ R,R = y9 ++ x6:=⟨_,rfl⟩
     have hRs:IsFms (yK6 ca s a).r R:=by rw [hR]; unfold yK6; rw [if_pos (by omega)]; exact hy9.1.append j6
     rw [← hR]
     have hown':=xUg hown (hsub8.trans hsub10)
     have hallA:∀ (h:okI ca s a = false),ad.all (okI ca s) = false:=fun h => List.all_eq_false.2 ⟨a,lMg ha,by rw [h]; simp⟩
     by_cases hl64:(yK6 ca s a).l.length ≤ 64
     ·have dl:decide ((64:Int) < (((yK6 ca s a).l.length:Nat):Int)) = false:=dEf (by omega)
      by_cases hr64:(yK6 ca s a).r.length ≤ 64
      ·have dr:decide ((64:Int) < (((yK6 ca s a).r.length:Nat):Int)) = false:=dEf (by omega)
       have hok:okI ca s a = true:=by unfold okI; rw [dEt hl64,dEt hr64]; rfl
       simp -implicitDefEqProofs -dsimp only [go_sem,f0,f7,f16,f36,f37,f38,fits,hLs.len,hRs.len,dl,dr,yQ1]
       intros
       refine yZq hown' (by rw [hzs.len,List.length_map,List.length_take]; omega) (hsub.trans (hsub8.trans hsub10)) rfl (by simp [fits,IV.one]) (by simp only; omega) (by omega) fun tg2 st6 hown2 hsub4 _ => ?_
       simp -implicitDefEqProofs -dsimp only [go_sem,f0,f7,f16,f36,f37,f38,fits,yQ9 hlt (show ad.length ≤ 281474976710656 by omega)]
       refine ⟨by rw [yQ4 ha,List.all_append,hall]; simp [hok],tg2,_,rfl,?_,hown2,hsub4⟩
       rw [yQ4 ha,List.map_append]
       exact hzs.append ⟨_,_,rfl,⟨_,_,_,_,rfl,tL,hLs,hown10.es,hRs⟩,rfl⟩
      ·have dr:decide ((64:Int) < (((yK6 ca s a).r.length:Nat):Int)) = true:=dEt (by omega)
       simp -implicitDefEqProofs -dsimp only [go_sem,f0,f7,f16,f36,f37,f38,fits,hLs.len,hRs.len,dl,dr]
       intros
       refine yQb (hsub.trans (hsub8.trans hsub10)) ?_
       rw [hallA (by unfold okI; rw [dEf hr64,Bool.and_false])]
       exact ⟨_,_,rfl,.inl rfl,rfl,rfl⟩
     ·have dl:decide ((64:Int) < (((yK6 ca s a).l.length:Nat):Int)) = true:=dEt (by omega)
      simp -implicitDefEqProofs -dsimp only [go_sem,f0,f7,f16,f36,f37,f38,fits,hLs.len,hRs.len,dl]
      intros
      refine yQb (hsub.trans (hsub8.trans hsub10)) ?_
      rw [hallA (by unfold okI; rw [dEf hl64,Bool.false_and])]
      exact ⟨_,_,rfl,.inl rfl,rfl,rfl⟩
    ·simp -implicitDefEqProofs -dsimp only [go_sem,f0,f7,f16,f36,f37,f38,fits,dca,j6.len,show decide (((a.r.length:Nat):Int) = 0) = false from dEf (by omega),hLs.len]
     intros
     have hRs:IsFms (yK6 ca s a).r x6:=by unfold yK6; rw [if_neg (by omega)]; exact j6
     have hown':=xUg hown hsub8
     have hallA:∀ (h:okI ca s a = false),ad.all (okI ca s) = false:=fun h => List.all_eq_false.2 ⟨a,lMg ha,by rw [h]; simp⟩
     by_cases hl64:(yK6 ca s a).l.length ≤ 64
     ·have dl:decide ((64:Int) < (((yK6 ca s a).l.length:Nat):Int)) = false:=dEf (by omega)
      by_cases hr64:(yK6 ca s a).r.length ≤ 64
      ·have dr:decide ((64:Int) < (((yK6 ca s a).r.length:Nat):Int)) = false:=dEf (by omega)
       have hok:okI ca s a = true:=by unfold okI; rw [dEt hl64,dEt hr64]; rfl
       simp -implicitDefEqProofs -dsimp only [go_sem,f0,f7,f16,f36,f37,f38,fits,hLs.len,hRs.len,dl,dr,yQ1]
       intros
       refine yZq hown' (by rw [hzs.len,List.length_map,List.length_take]; omega) (hsub.trans hsub8) rfl (by simp [fits,IV.one]) (by simp only; omega) (by omega) fun tg2 st6 hown2 hsub4 _ => ?_
       simp -implicitDefEqProofs -dsimp only [go_sem,f0,f7,f16,f36,f37,f38,fits,yQ9 hlt (show ad.length ≤ 281474976710656 by omega)]
       refine ⟨by rw [yQ4 ha,List.all_append,hall]; simp [hok],tg2,_,rfl,?_,hown2,hsub4⟩
       rw [yQ4 ha,List.map_append]
       exact hzs.append ⟨_,_,rfl,⟨_,_,_,_,rfl,tL,hLs,k6,hRs⟩,rfl⟩
      ·have dr:decide ((64:Int) < (((yK6 ca s a).r.length:Nat):Int)) = true:=dEt (by omega)
       simp -implicitDefEqProofs -dsimp only [go_sem,f0,f7,f16,f36,f37,f38,fits,hLs.len,hRs.len,dl,dr]
       intros
       refine yQb (hsub.trans hsub8) ?_
       rw [hallA (by unfold okI; rw [dEf hr64,Bool.and_false])]
       exact ⟨_,_,rfl,.inl rfl,rfl,rfl⟩
     ·have dl:decide ((64:Int) < (((yK6 ca s a).l.length:Nat):Int)) = true:=dEt (by omega)
      simp -implicitDefEqProofs -dsimp only [go_sem,f0,f7,f16,f36,f37,f38,fits,hLs.len,hRs.len,dl]
      intros
      refine yQb (hsub.trans hsub8) ?_
      rw [hallA (by unfold okI; rw [dEf hl64,Bool.false_and])]
      exact ⟨_,_,rfl,.inl rfl,rfl,rfl⟩
   ·have dca:decide ((ca:Int) = 2) = false:=dEf (by omega)
    simp -implicitDefEqProofs -dsimp only [go_sem,f0,f7,f16,f36,f37,f38,fits,dca]
    refine (hF2 _).mono ?_
    rintro _ st4 ⟨t9,y9,rfl,k9,_,hy9,hown9,hsub9⟩
    simp -implicitDefEqProofs -dsimp only [go_sem,f0,f7,f16,f36,f37,f38,fits]
    refine yKw hown9 hy9.len j6.len hsub9 rfl (List.all_eq_true.2 (yK9 j6)) (by show _ * 72 ≤ _; have:=hza.2.2; omega) (by have:=hza.2.2; omega) fun t10 st5 hown10 hsub10 _ => ?_
    obtain ⟨R,hR⟩:∃ R,R = y9 ++ x6:=⟨_,rfl⟩
    have hRs:IsFms (yK6 ca s a).r R:=by rw [hR]; unfold yK6; rw [if_pos (by omega)]; exact hy9.1.append j6
    rw [← hR]
    have hown':=xUg hown (hsub8.trans hsub10)
    have hallA:∀ (h:okI ca s a = false),ad.all (okI ca s) = false:=fun h => List.all_eq_false.2 ⟨a,lMg ha,by rw [h]; simp⟩
    by_cases hl64:(yK6 ca s a).l.length ≤ 64
    ·have dl:decide ((64:Int) < (((yK6 ca s a).l.length:Nat):Int)) = false:=dEf (by omega)
     by_cases hr64:(yK6 ca s a).r.length ≤ 64
     ·have dr:decide ((64:Int) < (((yK6 ca s a).r.length:Nat):Int)) = false:=dEf (by omega)
      have hok:okI ca s a = true:=by unfold okI; rw [dEt hl64,dEt hr64]; rfl
      simp -implicitDefEqProofs -dsimp only [go_sem,f0,f7,f16,f36,f37,f38,fits,hLs.len,hRs.len,dl,dr,yQ1]
      intros
      refine yZq hown' (by rw [hzs.len,List.length_map,List.length_take]; omega) (hsub.trans (hsub8.trans hsub10)) rfl (by simp [fits,IV.one]) (by simp only; omega) (by omega) fun tg2 st6 hown2 hsub4 _ => ?_
      simp -implicitDefEqProofs -dsimp only [go_sem,f0,f7,f16,f36,f37,f38,fits,yQ9 hlt (show ad.length ≤ 281474976710656 by omega)]
      refine ⟨by rw [yQ4 ha,List.all_append,hall]; simp [hok],tg2,_,rfl,?_,hown2,hsub4⟩
      rw [yQ4 ha,List.map_append]
      exact hzs.append ⟨_,_,rfl,⟨_,_,_,_,rfl,tL,hLs,hown10.es,hRs⟩,rfl⟩
     ·have dr:decide ((64:Int) < (((yK6 ca s a).r.length:Nat):Int)) = true:=dEt (by omega)
      simp -implicitDefEqProofs -dsimp only [go_sem,f0,f7,f16,f36,f37,f38,fits,hLs.len,hRs.len,dl,dr]
      intros
      refine yQb (hsub.trans (hsub8.trans hsub10)) ?_
      rw [hallA (by unfold okI; rw [dEf hr64,Bool.and_false])]
      exact ⟨_,_,rfl,.inl rfl,rfl,rfl⟩
    ·have dl:decide ((64:Int) < (((yK6 ca s a).l.length:Nat):Int)) = true:=dEt (by omega)
     simp -implicitDefEqProofs -dsimp only [go_sem,f0,f7,f16,f36,f37,f38,fits,hLs.len,hRs.len,dl]
     intros
     refine yQb (hsub.trans (hsub8.trans hsub10)) ?_
     rw [hallA (by unfold okI; rw [dEf hl64,Bool.false_and])]
     exact ⟨_,_,rfl,.inl rfl,rfl,rfl⟩
  ·rintro fr st1 _ ⟨hall,⟨tgo,zs,f16,hzs,hown,hsub⟩,f0,f7,f36,f37,f38,rfl⟩
   rw [lTl] at hall hzs
   simp -implicitDefEqProofs -dsimp only [go_sem,f16,f37,f38,yQm (nLi _),fits]
   rw [if_pos hall]
   exact yQb hsub ⟨_,_,rfl,hown.es,hzs,rfl⟩
 ·have d0:decide ((er:Int) = 0) = false:=dEf (by omega)
  simp -implicitDefEqProofs -dsimp only [go_sem,d0,fits]
  rw [if_pos h0]
  exact yQ0 ⟨_,_,rfl,.inl rfl,rfl,rfl⟩
noncomputable def zQs (ca rule:Nat) (main:Fm) (term:Tm) (name:ByteArray):List Sq × Nat :=
 if !yXi ca then ([],2) else match rowS ca rule with
  | none => ([],191)
  | some r => yZh ca rule r main term name
end Go.Proofs.Tryz
namespace Go.Proofs.Tryz
open Go Go.Iv
theorem wZn (ca rule:Nat) (r:Rw) (main:Fm) (term:Tm) (name:ByteArray):(yZh ca rule r main term name).2 = 0 ∨ (yZh ca rule r main term name).2 = 192 ∨ (yZh ca rule r main term name).2 = 193:=by
 unfold yZh
 split
 ·exact .inr (.inl rfl)
 ·simp only
  split
  ·exact .inl rfl
  ·generalize (if r.asks = 2 then Tm.mk true name [] else term) = t
   split
   ·exact .inr (.inr rfl)
   ·split
    ·exact .inr (.inr rfl)
    ·exact .inl rfl
theorem zXw {ca:Nat} {s:Sq} {rule:Nat} {main:Fm} {term:Tm} {name:ByteArray} (h:(yZl ca s rule main term name).2 = 0):yX8 ca s = true:=by
 unfold yZl at h
 split at h
 ·simp at h
 ·rename_i hv
  simpa using hv
theorem zX1 (ca:Nat) (t:Tr) (h:yXi ca = false):yXe ca t = ([],2):=by
 unfold yXe
 rw [h]; rfl
theorem yZi:∀ {l:List Tr} {a:Tr},a ∈ l → a.steps ≤ yQo l
 | b :: l,a,h => by
  simp only [yQo]
  rcases List.mem_cons.1 h with rfl | h
  ·omega
  ·have:=yZi h; omega
end Go.Proofs.Tryz
namespace Go.Proofs.Tryz
open Go Go.Iv
theorem wJy {a b:Fm}:eqF a b = true ↔ a.op = b.op ∧ a.right = true ∧ b.right = true ∧ dbF [] a = dbF [] b:=by
 unfold eqF yKg
 simp only [bAt,dTe,yQp,and_assoc]
theorem xVg {a:Fm} (h:a.right = true):eqF a a = true:=wJy.2 ⟨rfl,h,h,rfl⟩
theorem xQ7 {l:List Fm} {f:Fm}:hasF l f = true ↔ ∃ g ∈ l,eqF f g = true:=by simp [hasF]
theorem wZl {l m:List Fm}:allF l m = true ↔ ∀ f ∈ l,hasF m f = true:=by simp [allF]
end Go.Proofs.Tryz
namespace Go.Proofs.Tryz
open Go Go.Iv
theorem wXh {ca:Nat} {s:Sq} {rule:Nat} {main:Fm} {term:Tm} {name:ByteArray} {r:Rw} (h1:yX8 ca s = true) (h2:rowS ca rule = some r) (h3:(yZh ca rule r main term name).2 = 0)
  (h4:r.left = true → hasF s.l main = true) (h5:r.right = true → hasF s.r main = true) (h6:r.asks = 2 → yJx s name = false):yZl ca s rule main term name = ((yZh ca rule r main term name).1,0):=by
 unfold yZl
 have e1:(r.left && !hasF s.l main) = false:=by
  cases hl:r.left
  ·rfl
  ·rw [h4 hl]; rfl
 have e2:(r.right && !hasF s.r main) = false:=by
  cases hl:r.right
  ·rfl
  ·rw [h5 hl]; rfl
 have e3:(decide (r.asks = 2) && yJx s name) = false:=by
  by_cases hl:r.asks = 2
  ·rw [h6 hl]; simp
  ·simp [hl]
 simp only [h1,h2,h3,e1,e2,e3,Bool.not_true,bFt,if_false,Bool.or_false,dTe,ne_eq,nTf]
 rw [if_neg (by decide)]
theorem xVz {ca:Nat} {s:Sq} {rule:Nat} {main:Fm} {term:Tm} {name:ByteArray} (h:(yZl ca s rule main term name).2 = 0) :
  ∃ r,yX8 ca s = true ∧ rowS ca rule = some r ∧ (yZh ca rule r main term name).2 = 0 ∧ (r.left = true → hasF s.l main = true) ∧ (r.right = true → hasF s.r main = true) ∧ (r.asks = 2 → yJx s name = false) ∧
   yZl ca s rule main term name = ((yZh ca rule r main term name).1,0):=by
 have hv:=zXw h
 cases hr:rowS ca rule with
 | none => unfold yZl at h; rw [hv,hr] at h; simp at h
 | some r =>
  have key:(yZh ca rule r main term name).2 = 0 ∧ (r.left && !hasF s.l main) = false ∧ (r.right && !hasF s.r main) = false ∧ (decide (r.asks = 2) && yJx s name) = false:=by
   unfold yZl at h
   rw [hv,hr] at h
   simp only [Bool.not_true,bFt,if_false] at h
   split at h
   ·simp at h
   ·rename_i h1
    simp only [Bool.or_eq_true,not_or,Bool.not_eq_true] at h1
    split at h
    ·rename_i h2; exact absurd h h2
    ·rename_i h2
     split at h
     ·simp at h
     ·rename_i h3
      exact ⟨Decidable.not_not.1 h2,h1.1.2,h1.2,by simpa using h3⟩
  obtain ⟨k1,k2,k3,k4⟩:=key
  have q4:r.left = true → hasF s.l main = true:=fun hl => by rw [hl] at k2; simpa using k2
  have q5:r.right = true → hasF s.r main = true:=fun hl => by rw [hl] at k3; simpa using k3
  have q6:r.asks = 2 → yJx s name = false:=fun hl => by rw [hl] at k4; simpa using k4
  exact ⟨r,hv,rfl,k1,q4,q5,q6,wXh hv hr k1 q4 q5 q6⟩
section
variable {ca rule:Nat} {s:Sq} {f:Fm} {u:Tm} {n:ByteArray} {sub:List Tr} (h:(yXe ca (.mk rule s f u n sub)).2 = 0) (h1:s.l.length < 64) (h2:s.r.length < 64)
include h h1 h2
end
end Go.Proofs.Tryz
namespace Go.Proofs.Tryz
open Go Go.Iv
section
variable {ca rule:Nat} {s:Sq} {f:Fm} {u:Tm} {n:ByteArray} {sub:List Tr} (h:(yXe ca (.mk rule s f u n sub)).2 = 0)
include h
end
end Go.Proofs.Tryz
namespace Go.Proofs.Tryz
open Go Go.Iv
theorem zQi {ca:Nat} {f:Fm}:fmB ca f = true ↔ f.ok = true ∧ f.size ≤ 400 ∧ f.deep ≤ 40 ∧ opsB ca f = true:=by
 unfold fmB Fm.right
 simp only [bAt,dTe,and_assoc]
end Go.Proofs.Tryz
namespace Go.Proofs.Tryz
open Go Go.Iv
theorem yYa {α:Type} {c:Prop} [Decidable c] {a r:α} {x:Option α} (h:(if c then some a else x) = some r):(c ∧ r = a) ∨ (¬c ∧ x = some r):=by
 by_cases hc:c
 ·rw [if_pos hc] at h; exact .inl ⟨hc,(Option.some.inj h).symm⟩
 ·rw [if_neg hc] at h; exact .inr ⟨hc,h⟩
theorem wJ3 {α:Type} {c:Prop} [Decidable c] {a b r:α} (h:(if c then a else b) = r):(c ∧ a = r) ∨ (¬c ∧ b = r):=by
 by_cases hc:c
 ·rw [if_pos hc] at h; exact .inl ⟨hc,h⟩
 ·rw [if_neg hc] at h; exact .inr ⟨hc,h⟩
theorem zU4 {ca rule:Nat} {r:Rw} (h:rowS ca rule = some r):(rule = 1 ∧ r = ⟨true,true,0,0⟩) ∨ (rule = 2 ∧ r = ⟨true,false,2,0⟩) ∨ (rule = 3 ∧ r = ⟨true,false,3,0⟩) ∨ (rule = 4 ∧ r = ⟨false,true,3,0⟩) ∨ (rule = 5 ∧ r = ⟨true,false,4,0⟩) ∨ (rule = 6 ∧ r = ⟨false,true,4,0⟩) ∨
  (rule = 7 ∧ r = ⟨true,false,5,0⟩) ∨ (rule = 8 ∧ r = ⟨false,true,5,0⟩) ∨ (rule = 9 ∧ r = ⟨true,false,6,0⟩) ∨ (rule = 10 ∧ r = ⟨false,true,6,0⟩) ∨ (rule = 11 ∧ r = ⟨true,false,7,0⟩) ∨ (rule = 12 ∧ r = ⟨false,true,7,0⟩) ∨
  (rule = 13 ∧ r = ⟨true,false,8,1⟩) ∨ (rule = 14 ∧ r = ⟨false,true,8,2⟩) ∨ (rule = 15 ∧ r = ⟨true,false,9,2⟩) ∨ (rule = 16 ∧ r = ⟨false,true,9,1⟩) ∨ (rule = 17 ∧ r = ⟨false,false,0,0⟩) ∨ (rule = 18 ∧ r = ⟨false,true,5,0⟩):=by
 unfold rowS rowK at h
 rcases yYa h with ⟨⟨hc,hr⟩,hq⟩ | ⟨_,h⟩
 ·subst hr; subst hq; simp
 rcases yYa h with ⟨⟨hc,hr⟩,hq⟩ | ⟨_,h⟩
 ·subst hr; subst hq; simp
 rcases yYa h with ⟨⟨hc,hr⟩,hq⟩ | ⟨_,h⟩
 ·subst hr; subst hq; simp
 rcases yYa h with ⟨⟨hc,hr⟩,hq⟩ | ⟨_,h⟩
 ·subst hr; subst hq; simp
 rcases yYa h with ⟨⟨hc,hr⟩,hq⟩ | ⟨_,h⟩
 ·subst hr; subst hq; simp
 rcases yYa h with ⟨hr,hq⟩ | ⟨_,h⟩
 ·subst hr; subst hq; simp
 rcases yYa h with ⟨hr,hq⟩ | ⟨_,h⟩
 ·subst hr; subst hq; simp
 rcases yYa h with ⟨hr,hq⟩ | ⟨_,h⟩
 ·subst hr; subst hq; simp
 rcases yYa h with ⟨hr,hq⟩ | ⟨_,h⟩
 ·subst hr; subst hq; simp
 rcases yYa h with ⟨hr,hq⟩ | ⟨_,h⟩
 ·subst hr; subst hq; simp
 rcases yYa h with ⟨hr,hq⟩ | ⟨_,h⟩
 ·subst hr; subst hq; simp
 rcases yYa h with ⟨hr,hq⟩ | ⟨_,h⟩
 ·subst hr; subst hq; simp
 rcases yYa h with ⟨hr,hq⟩ | ⟨_,h⟩
 ·subst hr; subst hq; simp
 rcases yYa h with ⟨hr,hq⟩ | ⟨_,h⟩
 ·subst hr; subst hq; simp
 rcases yYa h with ⟨hr,hq⟩ | ⟨_,h⟩
 ·subst hr; subst hq; simp
 rcases yYa h with ⟨hr,hq⟩ | ⟨_,h⟩
 ·subst hr; subst hq; simp
 rcases yYa h with ⟨hr,hq⟩ | ⟨_,h⟩
 ·subst hr; subst hq; simp
 rcases yYa h with ⟨hr,hq⟩ | ⟨_,h⟩
 ·subst hr; subst hq; simp
 cases h
end Go.Proofs.Tryz
