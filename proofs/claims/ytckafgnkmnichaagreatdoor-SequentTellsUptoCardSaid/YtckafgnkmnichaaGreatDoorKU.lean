/- What is put and is not free makes no dif -/
import Derived.Test.YtckafgnkmnichaaGreatDoorKB
import Derived.Test.YtckafgnkmnichaaGreatDoorLH
set_option linter.all false
namespace Go.Proofs.Tryz
open Go Go.Iv
mutual
theorem xWt {F G:ByteArray → Option Tm}:∀ t:Tm,(∀ n ∈ yQn t,F n = G n) → yJo F t = yJo G t
 | .mk true n l,h => by
  have h1:=h n (by simp [yQn])
  have h2:=yWy l fun m hm => h m (by simp [yQn,hm])
  simp only [yJo,h1,h2]
 | .mk false n l,h => by
  have h2:=yWy l fun m hm => h m (by simp [yQn,hm])
  simp only [yJo,h2]
theorem yWy {F G:ByteArray → Option Tm}:∀ l:List Tm,(∀ n ∈ yQh l,F n = G n) → yZf F l = yZf G l
 | [],_ => rfl
 | a :: l,h => by
  have h1:=xWt a fun m hm => h m (by simp [yQh,hm])
  have h2:=yWy l fun m hm => h m (by simp [yQh,hm])
  simp only [yZf,h1,h2]
end
theorem xUv {l:Sb} {fr:List ByteArray} {n:ByteArray} (h:n ∈ fr):yZ9 (yYy l fr) n = yZ9 l n:=by
 unfold yZ9 yYy
 rw [List.find?_filter]
 congr 2
 funext p
 by_cases hp:p.1 = n
 ·simp [hp,h]
 ·simp [hp]
theorem wK2 {l:Sb} {fr g:List ByteArray} {m:ByteArray} (h:∀ n ∈ g,n ≠ m → n ∈ fr):cntS (yYy l fr) m g = cntS l m g:=by
 unfold cntS yYy
 rw [List.filter_filter]
 refine List.filter_congr fun p _ => ?_
 cases h1:memB g p.1
 ·simp
 ·by_cases h2:p.1 = m
  ·simp [h2]
  ·simp [h2,yX4.2 (h _ (yX4.1 h1) h2)]
theorem xVv {l:Sb} {fr g:List ByteArray} {m:ByteArray} (h:∀ n ∈ g,n ≠ m → n ∈ fr):yJ4 (yYy l fr) m g = yJ4 l m g:=by
 unfold yJ4 zWi yGs
 rw [wK2 h]
mutual
theorem xQc:∀ (f:Fm) (l:Sb) (fr:List ByteArray),(∀ n ∈ frF f,n ∈ fr) → yJe (yYy l fr) f = yJe l f
 | .mk op m us sub,l,fr,h => by
  have h1:yZf (yZ9 (yYy l fr)) us = yZf (yZ9 l) us:=yWy us fun n hn => xUv (h n (by simp [frF,hn]))
  cases hq:isQ op
  ·have h2:=zWc sub l fr fun n hn => h n (by simp [frF,hq,hn])
   simp only [yJe,hq,bFt,if_false,h1,h2]
  ·have h2:yJ4 (yYy l fr) m (frFs sub) = yJ4 l m (frFs sub):=xVv fun n hn hne => h n (by simp [frF,hq,hn,hne])
   simp only [yJe,hq,if_true,h1,h2]
theorem zWc:∀ (f:List Fm) (l:Sb) (fr:List ByteArray),(∀ n ∈ frFs f,n ∈ fr) → yXj (yYy l fr) f = yXj l f
 | [],_,_,_ => rfl
 | a :: f,l,fr,h => by
  have h1:=xQc a l fr fun n hn => h n (by simp [frFs,hn])
  have h2:=zWc f l fr fun n hn => h n (by simp [frFs,hn])
  simp only [yXj,h1,h2]
end
theorem xYb (f:Fm) (l:Sb):yJe (yYy l (frF f)) f = yJe l f:=xQc f l _ fun _ h => h
mutual
theorem wJd {F:ByteArray → Option Tm} {M:Nat} (hM:1 ≤ M) (hF:∀ n u,F n = some u → u.size ≤ M):∀ t:Tm,(yJo F t).size ≤ t.size * M
 | .mk true n l => by
  have ih:=zQ5 hM hF l
  cases h:F n with
  | some u =>
   have:=hF n u h
   simp only [yJo,h,Tm.size]
   have h1:1 * M ≤ (yQ7 l + 1) * M:=Nat.mul_le_mul_right _ (by omega)
   omega
  | none =>
   simp only [yJo,h,Tm.size,Nat.add_mul]
   omega
 | .mk false n l => by
  have ih:=zQ5 hM hF l
  simp only [yJo,Tm.size,Nat.add_mul]
  omega
theorem zQ5 {F:ByteArray → Option Tm} {M:Nat} (hM:1 ≤ M) (hF:∀ n u,F n = some u → u.size ≤ M):∀ l:List Tm,yQ7 (yZf F l) ≤ yQ7 l * M
 | [] => by simp [yZf,yQ7]
 | a :: l => by
  have h1:=wJd hM hF a
  have h2:=zQ5 hM hF l
  simp only [yZf,yQ7,Nat.add_mul]
  omega
end
theorem wYm {l:Sb} {M:Nat} (h:∀ p ∈ l,p.2.size ≤ M) (n:ByteArray) (u:Tm) (hu:yZ9 l n = some u):u.size ≤ M:=by
 unfold yZ9 at hu
 obtain ⟨p,hp,rfl⟩:=Option.map_eq_some_iff.1 hu
 exact h p (List.mem_of_find?_eq_some hp)
theorem wXb {l:Sb} {M:Nat} (hM:1 ≤ M) (h:∀ p ∈ l,p.2.size ≤ M) (m:ByteArray) (fr:List ByteArray):∀ p ∈ (yJ4 l m fr).2,p.2.size ≤ M:=by
 have hc:∀ p ∈ cntS l m fr,p.2.size ≤ M:=fun p hp => h p (List.mem_filter.1 hp).1
 unfold yJ4
 split
 ·intro p hp
  rcases List.mem_append.1 hp with hp | hp
  ·exact hc p hp
  ·rw [List.mem_singleton] at hp
   subst hp
   simpa [Tm.size,yQ7] using hM
 ·exact hc
mutual
theorem xV4 {M:Nat} (hM:1 ≤ M):∀ (f:Fm) (l:Sb),(∀ p ∈ l,p.2.size ≤ M) → (yJe l f).size ≤ f.size * M
 | .mk op m us sub,l,h => by
  have h1:=zQ5 hM (wYm h) us
  have h2:=xQd hM sub (if isQ op then (yJ4 l m (frFs sub)).2 else l) (by
   split
   ·exact wXb hM h _ _
   ·exact h)
  simp only [yJe,Fm.size,Nat.add_mul]
  omega
theorem xQd {M:Nat} (hM:1 ≤ M):∀ (f:List Fm) (l:Sb),(∀ p ∈ l,p.2.size ≤ M) → yQ8 (yXj l f) ≤ yQ8 f * M
 | [],_,_ => by simp [yXj,yQ8]
 | a :: f,l,h => by
  have h1:=xV4 hM a l h
  have h2:=xQd hM f l h
  simp only [yXj,yQ8,Nat.add_mul]
  omega
end
theorem xY8 {l:Sb} {k:Nat} {p:ByteArray × Tm} (hp:l[k]? = some p) (hg:yVu [] (l.take k) = true):yVu [] (l.take (k + 1)) = (yKk p.1 && p.2.ok && !memB ((l.take k).map (·.1)) p.1):=by
 rw [yQ4 hp,yKu,hg]; simp [yVu]
theorem zJw {l:Sb} {k:Nat} (h:yVu [] (l.take (k + 1)) = false):yVu [] l = false:=by
 rw [← List.take_append_drop (k + 1) l,yKu,h]; rfl
theorem xX1 (f:Fm) (l:Sb):yZb f l = if f.right && yVu [] l then (if decide ((yJe l f).size ≤ 400) && decide ((yJe l f).deep ≤ 40) then (yJe l f,0) else (fm0,3)) else (fm0,2):=by
 unfold yZb; rw [xYb]
end Go.Proofs.Tryz
namespace Go.Proofs.Tryz
open Go Go.Iv
set_option maxRecDepth 4000
variable (gl:Nat → Option IV)
theorem wY8 (f:Fm) (x:IV) (hx:IsFm f x) (hs:f.size ≤ 500000) (l:Sb) (tg:Tag) (xs:List IV) (htg:okEs tg 4) (hxs:IsOnes l xs) (hl:l.length ≤ 500000) (hls:∀ p ∈ l,p.2.size ≤ 1000000) (st:ISt) :
  ICall prog gl 161 [x,.sl tg xs] st (FE (yZb f l).1 (yZb f l).2 st):=by
 have hright:=fun st => zX4 gl f x hx (by omega) st
 have hput:=fun hok st => vQm gl f x hx hok l tg xs htg hxs hls (by omega) st
 have hsz:=xV4 (M:=1000000) (by omega) f l hls
 have hbadl:yVu [] l = false → yZb f l = (fm0,2):=fun h => by rw [xX1,h,Bool.and_false]; rfl
 obtain ⟨o0,n0,ta,xa,tb,xb,rfl⟩:=hx.agg
 refine iI func161 rfl rfl (by kernel_rfl) ?_
 simp -implicitDefEqProofs -dsimp only [go_sem,fits]
 refine (hright _).mono ?_
 rintro _ st ⟨rfl,rfl⟩
 cases hr:f.right
 ·have hE:yZb f l = (fm0,2):=by rw [xX1,hr]; rfl
  rw [hE]
  simp -implicitDefEqProofs -dsimp only [go_sem,fits]
  exact yQ0 ⟨_,rfl,xQe _ _ (.inl rfl) (.inl rfl),rfl⟩
 have hok:=(yJs hr).1
 have hf4:=(yJs hr).2.1
 simp -implicitDefEqProofs -dsimp only [go_sem,fits]
 refine LoopC.ctr l.length (fun k fr st' ds => yVu [] (l.take k) = true ∧ fr 1 = .iv (.sl tg xs) ∧ fr 2 = .box [.raw (.int .u8 o0),.raw (.string n0),.sl ta xa,.sl tb xb] ∧ fr 4 = .box [.raw (.int .u8 0),.raw (.string ⟨#[]⟩),.sl ⟨true,.nil,0⟩ [],.sl ⟨true,.nil,0⟩ []] ∧
  fr 6 = .iv (.raw (.int .i64 k)) ∧ st' = st ∧ ds = []) ?_ ?_ ?_
 ·simp -implicitDefEqProofs -dsimp only [go_sem]
  exact ⟨rfl,rfl⟩
 ·rintro k fr st _ hlt ⟨hg,f1,f2,f4,f6,rfl,rfl⟩
  obtain ⟨p,hp⟩:=yQ3 hlt
  obtain ⟨y,hky,v3,n3,t3,x3,rfl,hy⟩:=hxs.get hp
  have hps:=hls p (lMg hp)
  have hg1:=xY8 hp hg
  cases hv1:yKk p.1
  ·rw [hbadl (zJw (by rw [hg1,hv1]; rfl))]
   simp -implicitDefEqProofs -dsimp only [go_sem,f1,f2,f4,f6,hxs.len,lt_i hlt,yQ2 htg,iNn,hky,fits]
   intros
   refine (yJu gl p.1 _).mono ?_
   rintro _ st ⟨rfl,rfl⟩
   simp -implicitDefEqProofs -dsimp only [go_sem,f1,f2,f4,f6,hv1,fits]
   exact yQ0 ⟨_,rfl,xQe _ _ (.inl rfl) (.inl rfl),rfl⟩
  simp -implicitDefEqProofs -dsimp only [go_sem,f1,f2,f4,f6,hxs.len,lt_i hlt,yQ2 htg,iNn,hky,fits]
  intros
  refine (yJu gl p.1 _).mono ?_
  rintro _ st ⟨rfl,rfl⟩
  simp -implicitDefEqProofs -dsimp only [go_sem,f1,f2,f4,f6,hv1,fits,yQ2 htg,iNn,hky]
  refine (zJ8 gl p.2 _ hy (by omega) _).mono ?_
  rintro _ st ⟨rfl,rfl⟩
  cases hv2:p.2.ok
  ·rw [hbadl (zJw (by rw [hg1,hv1,hv2]; rfl))]
   simp -implicitDefEqProofs -dsimp only [go_sem,f1,f2,f4,f6,hv2,fits]
   exact yQ0 ⟨_,rfl,xQe _ _ (.inl rfl) (.inl rfl),rfl⟩
  simp -implicitDefEqProofs -dsimp only [go_sem,f1,f2,f4,f6,hv2,fits]
  refine LoopC.ctr k (fun j fr st' ds => (∀ q ∈ l.take j,q.1 ≠ p.1) ∧ fr 1 = .iv (.sl tg xs) ∧ fr 2 = .box [.raw (.int .u8 o0),.raw (.string n0),.sl ta xa,.sl tb xb] ∧ fr 4 = .box [.raw (.int .u8 0),.raw (.string ⟨#[]⟩),.sl ⟨true,.nil,0⟩ [],.sl ⟨true,.nil,0⟩ []] ∧
   fr 6 = .iv (.raw (.int .i64 k)) ∧ fr 7 = .iv (.raw (.int .i64 j)) ∧ st' = st ∧ ds = []) ?_ ?_ ?_
  ·simp -implicitDefEqProofs -dsimp only [go_sem,f1,f2,f4,f6]
   exact ⟨(fun q hq => by cases hq),rfl⟩
  ·rintro j fr st _ hjk ⟨hne,f1,f2,f4,f6,f7,rfl,rfl⟩
   obtain ⟨q,hq⟩:=yQ3 (show j < l.length by omega)
   obtain ⟨y4,hky4,v4,n4,t4,x4,rfl,hy4⟩:=hxs.get hq
   by_cases hqp:q.1 = p.1
   ·have hmem:memB ((l.take k).map (·.1)) p.1 = true:=yX4.2 (List.mem_map.2 ⟨q,lMg (show (l.take k)[j]? = some q by rw [List.getElem?_take,if_pos hjk]; exact hq),hqp⟩)
    rw [hbadl (zJw (by rw [hg1,hv1,hv2,hmem]; rfl))]
    simp -implicitDefEqProofs -dsimp only [go_sem,f1,f2,f4,f6,f7,lt_i hjk,yQ2 htg,iNn,hky,hky4,dEt hqp,fits]
    exact yQ0 ⟨_,rfl,xQe _ _ (.inl rfl) (.inl rfl),rfl⟩
   ·simp -implicitDefEqProofs -dsimp only [go_sem,f1,f2,f4,f6,f7,lt_i hjk,yQ2 htg,iNn,hky,hky4,dEf hqp,fits,yQ9 hjk (show k ≤ 281474976710656 by omega)]
    intro r hr
    rw [yQ4 hq] at hr
    rcases List.mem_append.1 hr with hr | hr
    ·exact hne r hr
    ·rw [List.mem_singleton] at hr; subst hr; exact hqp
  ·rintro fr st _ ⟨hne,f1,f2,f4,f6,f7,rfl,rfl⟩
   simp -implicitDefEqProofs -dsimp only [go_sem,f1,f2,f4,f6,f7,yQm (nLi _),fits,yQ9 hlt (show l.length ≤ 281474976710656 by omega)]
   have hmem:memB ((l.take k).map (·.1)) p.1 = false:=zQ4.2 fun h => by
    obtain ⟨q,hq,he⟩:=List.mem_map.1 h
    exact hne q hq he
   rw [hg1,hv1,hv2,hmem]
   rfl
 ·rintro fr st _ ⟨hg,f1,f2,f4,f6,rfl,rfl⟩
  rw [lTl] at hg
  have hP:yZb f l = if decide ((yJe l f).size ≤ 400) && decide ((yJe l f).deep ≤ 40) then (yJe l f,0) else (fm0,3):=by
   rw [xX1,hr,hg]; rfl
  rw [hP]
  simp -implicitDefEqProofs -dsimp only [go_sem,f1,f2,f4,f6,hxs.len,yQm (nLi _),fits]
  intros
  refine (hput hok _).mono ?_
  rintro g st ⟨hgv,rfl⟩
  generalize yJe l f = gf at *
  have hgv0:=hgv
  have hnod:=fun st => xK4 gl gf g hgv (by omega) st
  have hdep:=fun st => xK6 gl gf g hgv (by omega) st
  obtain ⟨o5,n5,t5,x5,t6,x6,rfl⟩:=hgv.agg
  simp -implicitDefEqProofs -dsimp only [go_sem,f1,f2,f4,f6,fits]
  refine (hnod _).mono ?_
  rintro _ st ⟨rfl,rfl⟩
  by_cases hz:gf.size ≤ 400
  ·simp -implicitDefEqProofs -dsimp only [go_sem,f1,f2,f4,f6,fits,show decide ((400:Int) < (gf.size:Int)) = false from dEf (by omega)]
   refine (hdep _).mono ?_
   rintro _ st ⟨rfl,rfl⟩
   rw [dEt hz]
   by_cases hd:gf.deep ≤ 40
   ·rw [dEt hd]
    simp only [Bool.and_self,if_true]
    simp -implicitDefEqProofs -dsimp only [go_sem,f1,f2,f4,f6,fits,show decide ((40:Int) < (gf.deep:Int)) = false from dEf (by omega)]
    exact yQ0 ⟨_,rfl,hgv0,rfl⟩
   ·rw [dEf hd]
    simp only [Bool.and_false,bFt,if_false]
    simp -implicitDefEqProofs -dsimp only [go_sem,f1,f2,f4,f6,fits,show decide ((40:Int) < (gf.deep:Int)) = true from dEt (by omega)]
    exact yQ0 ⟨_,rfl,xQe _ _ (.inl rfl) (.inl rfl),rfl⟩
  ·rw [dEf hz]
   simp only [Bool.false_and,bFt,if_false]
   simp -implicitDefEqProofs -dsimp only [go_sem,f1,f2,f4,f6,fits,show decide ((400:Int) < (gf.size:Int)) = true from dEt (by omega)]
   exact yQ0 ⟨_,rfl,xQe _ _ (.inl rfl) (.inl rfl),rfl⟩
theorem xK3 (f:Fm) (x:IV) (hx:IsFm f x) (hs:f.size ≤ 500000) (nm:ByteArray) (t:Tm) (y:IV) (hy:IsTm t y) (ht:t.size ≤ 1000000) (st:ISt) :
  ICall prog gl 108 [x,.raw (.string nm),y] st (FE (yZb f [(nm,t)]).1 (yZb f [(nm,t)]).2 st):=by
 obtain ⟨v,n3,t3,x3,rfl⟩:=hy.agg
 have hones:IsOnes [(nm,t)] [.agg [.raw (.string nm),.raw (.bool v),.raw (.string n3),.sl t3 x3]]:=⟨_,[],rfl,⟨v,n3,t3,x3,rfl,hy⟩,rfl⟩
 have hc:=fun tg htg st => wY8 gl f x hx hs [(nm,t)] tg _ htg hones (by simp) (fun p hp => by rw [List.mem_singleton] at hp; subst hp; exact ht) st
 obtain ⟨o0,n0,ta,xa,tb,xb,rfl⟩:=hx.agg
 refine iI func108 rfl rfl (by kernel_rfl) ?_
 simp -implicitDefEqProofs -dsimp only [go_sem,fits,yQ1]
 refine (hc _ (by simp only [go_sem]) _).mono ?_
 rintro _ _ ⟨z,rfl,hz,rfl⟩
 obtain ⟨o5,n5,t5,x5,t6,x6,rfl⟩:=hz.agg
 simp -implicitDefEqProofs -dsimp only [go_sem,fits]
 exact yQ0 ⟨_,rfl,hz,rfl⟩
end Go.Proofs.Tryz
