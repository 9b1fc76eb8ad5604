/- Walks: what a step adds to its premises.
   Walks: lists put together; the check of a step.
   The library's contract of slices.SortFunc, laid at this program by name: the kit's own theorem over any program, applied.
   slices.SortFunc at elements of four cells that the state owns, at ideal values. -/
import Derived.Test.YtckafgnkmnichaaGreatDoorQD
import Derived.Shelf.SlSortCmp.NoneTotal
import Derived.Ground.SlsfProg
import Derived.Test.YtckafgnkmnichaaGreatDoorProg
import Derived.Test.YtckafgnkmnichaaGreatDoorJI
set_option linter.all false
open Nat renaming reduceEqDiff → zE,reduceBEq → zB,reduceAdd → zA,reduceMul → zM,reduceSub → zS,reduceLeDiff → zL
attribute [local go_sem] Go.Iv.cf Go.Iv.setAt List.all_cons List.all_nil Bool.and_self Bool.true_and Bool.and_true Bool.false_and Bool.and_false Bool.not_true Bool.not_false List.mem_nil_iff if_false if_true beq_self_eq_true Nat.zero_add Nat.add_zero List.getElem?_cons_zero List.getElem?_cons_succ Option.map_some List.mem_cons or_false false_or or_true true_or Nat.sub_zero forall_const Int.toNat_natCast List.length_cons List.length_nil List.map_cons List.map_nil List.take_succ_cons List.take_zero List.drop_zero List.drop_succ_cons List.cons_append List.nil_append List.append_nil and_true true_and and_self true_implies List.zip_cons_cons List.zip_nil_left
namespace Go.Proofs.Tryz
open Go Go.Iv
set_option maxRecDepth 4000
variable (gl:Nat → Option IV)

theorem validB_right {ca:Nat} {s:Sq} (h:validB ca s = true):(∀ f ∈ s.l,f.right = true) ∧ ∀ f ∈ s.r,f.right = true:=by
  unfold validB at h
  simp only [Bool.and_eq_true,List.all_eq_true] at h
  obtain ⟨⟨⟨_,h4⟩,h5⟩,_⟩:=h
  have key:∀ f,fmB ca f = true → f.right = true:=fun f hf => by
    unfold fmB at hf
    simp only [Bool.and_eq_true] at hf
    exact hf.1
  exact ⟨fun f hf => key f (h4 f hf),fun f hf => key f (h5 f hf)⟩
theorem step_c (G:Gl gl) (T:Gt gl) (ca:Nat) (s:Sq) (x:IV) (hx:IsSq s x) (hs:fitSq s) (rule:Nat) (main:Fm) (y:IV) (hy:IsFm main y) (hm:main.size ≤ 1000000) (term:Tm) (z:IV) (hz:IsTm term z) (ht:term.size ≤ 1000000) (name:ByteArray) (st:ISt) :
    ICall prog gl 96 [.raw (.int .u8 ca),x,.raw (.int .u8 rule),y,z,.raw (.string name)] st (AdR st (stepS ca s rule main term name)):=by
  have hV:=fun st => Valid_c gl G ca s x hx hs st
  have hF:=fun hr st => free_c gl T s x hx hs hr name st
  obtain ⟨t1,x1,t2,x2,rfl,e1,i1,e2,i2⟩:=hx
  have hH1:=fun st => HasF_c gl G s.l main t1 x1 y e1 i1 hy hs.1 hm st
  have hH2:=fun st => HasF_c gl G s.r main t2 x2 y e2 i2 hy hs.2 hm st
  have hA:=fun r hr st => adds_c gl G T ca rule r hr main y hy hm term z hz ht name st
  obtain ⟨o3,n3,t3,x3,t4,x4,rfl⟩:=hy.agg
  obtain ⟨v,un,tz,xz,rfl⟩:∃ v un tz xz,z = .agg [.raw (.bool v),.raw (.string un),.sl tz xz]:=by
    obtain ⟨v,un,us⟩:=term
    obtain ⟨tz,xz,rfl,_⟩:=hz.mk
    exact ⟨_,_,_,_,rfl⟩
  refine ICall.intro (c:=cf prog gl [] []) func96 rfl (by show _ ≤ 76; simp) (by kernel_rfl) ?_
  simp -implicitDefEqProofs -dsimp only [go_sem,↓reduceIte,zE,zB,zA,zM,zS,zL,reduceCtorEq,fits]
  refine (hV _).mono ?_
  rintro _ st ⟨rfl,rfl⟩
  cases hv:validB ca s
  · simp -implicitDefEqProofs -dsimp only [go_sem,↓reduceIte,zE,zB,zA,zM,zS,zL,reduceCtorEq]
    exact outK_self (by unfold stepS; rw [hv]; exact ⟨_,_,rfl,.inl rfl,rfl,rfl⟩)
  have hright:=validB_right hv
  simp -implicitDefEqProofs -dsimp only [go_sem,↓reduceIte,zE,zB,zA,zM,zS,zL,reduceCtorEq]
  refine (rules_c gl ca _).mono ?_
  rintro _ _ ⟨b,hb,rfl,rfl⟩
  cases hr:rowS ca rule with
  | none =>
    have hq:stepS ca s rule main term name = ([],191):=by unfold stepS; rw [hv,hr]; rfl
    simp -implicitDefEqProofs -dsimp only [go_sem,↓reduceIte,zE,zB,zA,zM,zS,zL,reduceCtorEq,ISt.put_same,rulesE_find,hr,Option.map_none,lookI_none,fits]
    exact outK_sub (subSt_put hb) (by rw [hq]; exact ⟨_,_,rfl,.inl rfl,rfl,rfl⟩)
  | some r =>
    have hcall:=hA r hr
    obtain ⟨rl,rr,op,asks⟩:=r
    have hq:stepS ca s rule main term name = if decide ((addsS ca rule ⟨rl,rr,op,asks⟩ main term name).2 = 192) || (rl && !hasF s.l main) || (rr && !hasF s.r main) then ([],192)
        else if (addsS ca rule ⟨rl,rr,op,asks⟩ main term name).2 ≠ 0 then ([],(addsS ca rule ⟨rl,rr,op,asks⟩ main term name).2)
        else if decide (asks = 2) && freeIn s name then ([],193) else ((addsS ca rule ⟨rl,rr,op,asks⟩ main term name).1,0):=by unfold stepS; rw [hv,hr]; rfl
    generalize addsS ca rule ⟨rl,rr,op,asks⟩ main term name = q at hq hcall
    obtain ⟨qs,qe⟩:=q
    simp only at hq
    simp -implicitDefEqProofs -dsimp only [go_sem,↓reduceIte,zE,zB,zA,zM,zS,zL,reduceCtorEq,ISt.put_same,rulesE_find,hr,Option.map_some,lookI_some,rwI,fits]
    refine (hcall _).mono ?_
    rintro _ _ ⟨tg,xs,rfl,he,hxs,rfl⟩
    by_cases h192:qe = 192
    · have d:decide ((qe:Int) = 192) = true:=decide_eq_true (by omega)
      have hq':stepS ca s rule main term name = ([],192):=by rw [hq,h192]; rfl
      simp -implicitDefEqProofs -dsimp only [go_sem,↓reduceIte,zE,zB,zA,zM,zS,zL,reduceCtorEq,d,fits]
      exact outK_sub (subSt_put hb) (by rw [hq']; exact ⟨_,_,rfl,.inl rfl,rfl,rfl⟩)
    have d:decide ((qe:Int) = 192) = false:=decide_eq_false (by omega)
    have h192':decide (qe = 192) = false:=decide_eq_false h192
    rw [h192',Bool.false_or] at hq
    cases rl
    · cases rr
      · simp only [Bool.false_and,Bool.false_and,Bool.and_false,Bool.not_true,Bool.or_false,Bool.false_eq_true,if_false] at hq
        by_cases h0:qe = 0
        · subst h0
          simp only [ne_eq,not_true_eq_false,if_false] at hq
          by_cases ha:asks = 2
          · have da:decide ((asks:Int) = 2) = true:=decide_eq_true (by omega)
            simp -implicitDefEqProofs -dsimp only [go_sem,↓reduceIte,zE,zB,zA,zM,zS,zL,reduceCtorEq,d,da,fits,show decide (((0:Nat):Int) = 0) = true from rfl]
            refine (hF hright _).mono ?_
            rintro _ _ ⟨rfl,rfl⟩
            rw [decide_eq_true ha,Bool.true_and] at hq
            cases hf:freeIn s name
            · simp -implicitDefEqProofs -dsimp only [go_sem,↓reduceIte,zE,zB,zA,zM,zS,zL,reduceCtorEq,fits]
              rw [hf] at hq
              exact outK_sub (subSt_put hb) (by rw [hq]; exact ⟨_,_,rfl,he,hxs,rfl⟩)
            · simp -implicitDefEqProofs -dsimp only [go_sem,↓reduceIte,zE,zB,zA,zM,zS,zL,reduceCtorEq,fits]
              rw [hf] at hq
              exact outK_sub (subSt_put hb) (by rw [hq]; exact ⟨_,_,rfl,.inl rfl,rfl,rfl⟩)
          · have da:decide ((asks:Int) = 2) = false:=decide_eq_false (by omega)
            rw [decide_eq_false ha,Bool.false_and] at hq
            simp -implicitDefEqProofs -dsimp only [go_sem,↓reduceIte,zE,zB,zA,zM,zS,zL,reduceCtorEq,d,da,fits,show decide (((0:Nat):Int) = 0) = true from rfl]
            exact outK_sub (subSt_put hb) (by rw [hq]; exact ⟨_,_,rfl,he,hxs,rfl⟩)
        · have d0:decide ((qe:Int) = 0) = false:=decide_eq_false (by omega)
          rw [if_pos h0] at hq
          simp -implicitDefEqProofs -dsimp only [go_sem,↓reduceIte,zE,zB,zA,zM,zS,zL,reduceCtorEq,d,d0,fits]
          exact outK_sub (subSt_put hb) (by rw [hq]; exact ⟨_,_,rfl,.inl rfl,rfl,rfl⟩)
      · simp -implicitDefEqProofs -dsimp only [go_sem,↓reduceIte,zE,zB,zA,zM,zS,zL,reduceCtorEq,d,fits]
        refine (hH2 _).mono ?_
        rintro _ _ ⟨rfl,rfl⟩
        cases h5:hasF s.r main
        · simp -implicitDefEqProofs -dsimp only [go_sem,↓reduceIte,zE,zB,zA,zM,zS,zL,reduceCtorEq,fits]
          rw [h5] at hq
          exact outK_sub (subSt_put hb) (by rw [hq]; exact ⟨_,_,rfl,.inl rfl,rfl,rfl⟩)
        · simp only [h5,Bool.false_and,Bool.and_false,Bool.not_true,Bool.or_false,Bool.false_eq_true,if_false] at hq
          by_cases h0:qe = 0
          · subst h0
            simp only [ne_eq,not_true_eq_false,if_false] at hq
            by_cases ha:asks = 2
            · have da:decide ((asks:Int) = 2) = true:=decide_eq_true (by omega)
              simp -implicitDefEqProofs -dsimp only [go_sem,↓reduceIte,zE,zB,zA,zM,zS,zL,reduceCtorEq,d,da,fits,show decide (((0:Nat):Int) = 0) = true from rfl]
              refine (hF hright _).mono ?_
              rintro _ _ ⟨rfl,rfl⟩
              rw [decide_eq_true ha,Bool.true_and] at hq
              cases hf:freeIn s name
              · simp -implicitDefEqProofs -dsimp only [go_sem,↓reduceIte,zE,zB,zA,zM,zS,zL,reduceCtorEq,fits]
                rw [hf] at hq
                exact outK_sub (subSt_put hb) (by rw [hq]; exact ⟨_,_,rfl,he,hxs,rfl⟩)
              · simp -implicitDefEqProofs -dsimp only [go_sem,↓reduceIte,zE,zB,zA,zM,zS,zL,reduceCtorEq,fits]
                rw [hf] at hq
                exact outK_sub (subSt_put hb) (by rw [hq]; exact ⟨_,_,rfl,.inl rfl,rfl,rfl⟩)
            · have da:decide ((asks:Int) = 2) = false:=decide_eq_false (by omega)
              rw [decide_eq_false ha,Bool.false_and] at hq
              simp -implicitDefEqProofs -dsimp only [go_sem,↓reduceIte,zE,zB,zA,zM,zS,zL,reduceCtorEq,d,da,fits,show decide (((0:Nat):Int) = 0) = true from rfl]
              exact outK_sub (subSt_put hb) (by rw [hq]; exact ⟨_,_,rfl,he,hxs,rfl⟩)
          · have d0:decide ((qe:Int) = 0) = false:=decide_eq_false (by omega)
            rw [if_pos h0] at hq
            simp -implicitDefEqProofs -dsimp only [go_sem,↓reduceIte,zE,zB,zA,zM,zS,zL,reduceCtorEq,d,d0,fits]
            exact outK_sub (subSt_put hb) (by rw [hq]; exact ⟨_,_,rfl,.inl rfl,rfl,rfl⟩)
    · simp -implicitDefEqProofs -dsimp only [go_sem,↓reduceIte,zE,zB,zA,zM,zS,zL,reduceCtorEq,d,fits]
      refine (hH1 _).mono ?_
      rintro _ _ ⟨rfl,rfl⟩
      cases h4:hasF s.l main
      · simp -implicitDefEqProofs -dsimp only [go_sem,↓reduceIte,zE,zB,zA,zM,zS,zL,reduceCtorEq,fits]
        rw [h4] at hq
        exact outK_sub (subSt_put hb) (by rw [hq]; exact ⟨_,_,rfl,.inl rfl,rfl,rfl⟩)
      cases rr
      · simp only [h4,Bool.false_and,Bool.and_false,Bool.not_true,Bool.or_false,Bool.false_eq_true,if_false] at hq
        by_cases h0:qe = 0
        · subst h0
          simp only [ne_eq,not_true_eq_false,if_false] at hq
          by_cases ha:asks = 2
          · have da:decide ((asks:Int) = 2) = true:=decide_eq_true (by omega)
            simp -implicitDefEqProofs -dsimp only [go_sem,↓reduceIte,zE,zB,zA,zM,zS,zL,reduceCtorEq,d,da,fits,show decide (((0:Nat):Int) = 0) = true from rfl]
            refine (hF hright _).mono ?_
            rintro _ _ ⟨rfl,rfl⟩
            rw [decide_eq_true ha,Bool.true_and] at hq
            cases hf:freeIn s name
            · simp -implicitDefEqProofs -dsimp only [go_sem,↓reduceIte,zE,zB,zA,zM,zS,zL,reduceCtorEq,fits]
              rw [hf] at hq
              exact outK_sub (subSt_put hb) (by rw [hq]; exact ⟨_,_,rfl,he,hxs,rfl⟩)
            · simp -implicitDefEqProofs -dsimp only [go_sem,↓reduceIte,zE,zB,zA,zM,zS,zL,reduceCtorEq,fits]
              rw [hf] at hq
              exact outK_sub (subSt_put hb) (by rw [hq]; exact ⟨_,_,rfl,.inl rfl,rfl,rfl⟩)
          · have da:decide ((asks:Int) = 2) = false:=decide_eq_false (by omega)
            rw [decide_eq_false ha,Bool.false_and] at hq
            simp -implicitDefEqProofs -dsimp only [go_sem,↓reduceIte,zE,zB,zA,zM,zS,zL,reduceCtorEq,d,da,fits,show decide (((0:Nat):Int) = 0) = true from rfl]
            exact outK_sub (subSt_put hb) (by rw [hq]; exact ⟨_,_,rfl,he,hxs,rfl⟩)
        · have d0:decide ((qe:Int) = 0) = false:=decide_eq_false (by omega)
          rw [if_pos h0] at hq
          simp -implicitDefEqProofs -dsimp only [go_sem,↓reduceIte,zE,zB,zA,zM,zS,zL,reduceCtorEq,d,d0,fits]
          exact outK_sub (subSt_put hb) (by rw [hq]; exact ⟨_,_,rfl,.inl rfl,rfl,rfl⟩)
      · simp -implicitDefEqProofs -dsimp only [go_sem,↓reduceIte,zE,zB,zA,zM,zS,zL,reduceCtorEq,d,fits]
        refine (hH2 _).mono ?_
        rintro _ _ ⟨rfl,rfl⟩
        cases h5:hasF s.r main
        · simp -implicitDefEqProofs -dsimp only [go_sem,↓reduceIte,zE,zB,zA,zM,zS,zL,reduceCtorEq,fits]
          rw [h4,h5] at hq
          exact outK_sub (subSt_put hb) (by rw [hq]; exact ⟨_,_,rfl,.inl rfl,rfl,rfl⟩)
        · simp only [h4,h5,Bool.false_and,Bool.and_false,Bool.not_true,Bool.or_false,Bool.false_eq_true,if_false] at hq
          by_cases h0:qe = 0
          · subst h0
            simp only [ne_eq,not_true_eq_false,if_false] at hq
            by_cases ha:asks = 2
            · have da:decide ((asks:Int) = 2) = true:=decide_eq_true (by omega)
              simp -implicitDefEqProofs -dsimp only [go_sem,↓reduceIte,zE,zB,zA,zM,zS,zL,reduceCtorEq,d,da,fits,show decide (((0:Nat):Int) = 0) = true from rfl]
              refine (hF hright _).mono ?_
              rintro _ _ ⟨rfl,rfl⟩
              rw [decide_eq_true ha,Bool.true_and] at hq
              cases hf:freeIn s name
              · simp -implicitDefEqProofs -dsimp only [go_sem,↓reduceIte,zE,zB,zA,zM,zS,zL,reduceCtorEq,fits]
                rw [hf] at hq
                exact outK_sub (subSt_put hb) (by rw [hq]; exact ⟨_,_,rfl,he,hxs,rfl⟩)
              · simp -implicitDefEqProofs -dsimp only [go_sem,↓reduceIte,zE,zB,zA,zM,zS,zL,reduceCtorEq,fits]
                rw [hf] at hq
                exact outK_sub (subSt_put hb) (by rw [hq]; exact ⟨_,_,rfl,.inl rfl,rfl,rfl⟩)
            · have da:decide ((asks:Int) = 2) = false:=decide_eq_false (by omega)
              rw [decide_eq_false ha,Bool.false_and] at hq
              simp -implicitDefEqProofs -dsimp only [go_sem,↓reduceIte,zE,zB,zA,zM,zS,zL,reduceCtorEq,d,da,fits,show decide (((0:Nat):Int) = 0) = true from rfl]
              exact outK_sub (subSt_put hb) (by rw [hq]; exact ⟨_,_,rfl,he,hxs,rfl⟩)
          · have d0:decide ((qe:Int) = 0) = false:=decide_eq_false (by omega)
            rw [if_pos h0] at hq
            simp -implicitDefEqProofs -dsimp only [go_sem,↓reduceIte,zE,zB,zA,zM,zS,zL,reduceCtorEq,d,d0,fits]
            exact outK_sub (subSt_put hb) (by rw [hq]; exact ⟨_,_,rfl,.inl rfl,rfl,rfl⟩)
end Go.Proofs.Tryz

namespace Go.Proofs.Tryz
open Go Go.Iv
set_option maxRecDepth 4000
variable (gl:Nat → Option IV)

theorem lenI_int:lenI prog 3 = none:=by kernel_rfl
theorem sliceI_nul (n:Nat):sliceI none (some 0) n = some (0,0):=by simp [sliceI]
theorem sliceI_nulc (n:Nat):sliceI none (some ((0:Nat):Int)) n = some (0,0):=sliceI_nul n
theorem Grow_c (n:Nat) (hn:n ≤ 1099511627776) (st:ISt):ICall prog gl 172 [.sl ⟨true,.nil,0⟩ [],.raw (.int .i64 n)] st (fun r st' =>
    (n = 0 ∧ r = .sl ⟨true,.nil,0⟩ [] ∧ st' = st) ∨ (∃ g cap,st g = none ∧ n ≤ cap ∧ r = .raw (.slice (some ⟨g,0,none⟩) 0 cap) ∧ st' = st.put g (some (.box (List.replicate (cap * 4) .junk))))):=by
  have h1:decide ((n:Int) < 0) = false:=decide_eq_false (by omega)
  have h2:IntKind.i64.wrap ((0:Int) - ((0:Nat):Int)) = 0:=rfl
  have h3:IntKind.i64.wrap ((n:Int) - 0) = n:=w64 (by omega) (by omega)
  refine ICall.intro (c:=cf prog gl [] []) func172 rfl (by show _ ≤ 27; simp) (by kernel_rfl) ?_
  by_cases hz:n = 0
  · subst hz
    simp -implicitDefEqProofs -dsimp only [go_sem,↓reduceIte,zE,zB,zA,zM,zS,zL,reduceCtorEq,h1,h2,h3,show decide ((0:Int) < ((0:Nat):Int)) = false from rfl]
    refine outK_self (.inl ?_)
    simp
  · have h4:decide ((0:Int) < (n:Int)) = true:=decide_eq_true (by omega)
    simp -implicitDefEqProofs -dsimp only [go_sem,↓reduceIte,zE,zB,zA,zM,zS,zL,reduceCtorEq,h1,h2,h3,h4,sliceI_nul,lenI_int]
    refine chk_intro ⟨rfl,by omega,by show (n:Int) * 72 ≤ _; omega,by omega⟩ fun g cap => giv_intro fun hg => ?_
    obtain ⟨hg,hc⟩:=hg
    rw [Int.toNat_natCast] at hc
    simp -implicitDefEqProofs -dsimp only [go_sem,↓reduceIte,zE,zB,zA,zM,zS,zL,reduceCtorEq,Int.toNat_natCast,sliceI_nulc,ite_self,Nat.zero_mul,hc]
    exact outK_self (.inr ⟨g,cap,hg,hc,rfl,rfl⟩)

def catL (l:List (Tag × List IV)):List IV:=l.flatMap (·.2)
def catI (l:List (Tag × List IV)):List IV:=l.map fun p => .sl p.1 p.2
theorem catI_get {l:List (Tag × List IV)} {k:Nat} {p:Tag × List IV} (h:l[k]? = some p):(catI l)[k]? = some (.sl p.1 p.2):=by simp [catI,List.getElem?_map,h]
theorem catL_succ {l:List (Tag × List IV)} {k:Nat} {p:Tag × List IV} (h:l[k]? = some p):catL (l.take (k + 1)) = catL (l.take k) ++ p.2:=by
  rw [take_get h]; simp [catL]
theorem catL_le (l:List (Tag × List IV)) (k:Nat):(catL (l.take k)).length ≤ (catL l).length:=by
  conv => rhs; rw [← List.take_append_drop k l]
  unfold catL
  rw [List.flatMap_append,List.length_append]; omega
theorem fms_fits:∀ {l:List Fm} {xs:List IV},IsFms l xs → ∀ y ∈ xs,fits true 4 y = true
  | [],_,rfl,y,h => by cases h
  | a :: l,_,⟨x,xs,rfl,hx,hl⟩,y,h => by
    rcases List.mem_cons.1 h with rfl | h
    · obtain ⟨o,n,t,x,t',x',rfl⟩:=hx.agg
      simp [fits,IV.one]
    · exact fms_fits hl y h
theorem fits4 {y:IV} (h:fits true 4 y = true):y.cells.length = 4:=(fits_cells h).2.1
theorem flat4 {l:List IV} (h:∀ y ∈ l,fits true 4 y = true):(l.flatMap IV.cells).length = l.length * 4:=flat_length l fun x hx => fits4 (h x hx)
theorem Concat_g (l:List (Tag × List IV)) (tt:Tag) (htt:okEs tt 1) (hfit:∀ p ∈ l,∀ y ∈ p.2,fits true 4 y = true) (hlen:(catL l).length ≤ 1099511627776) (st:ISt) :
    ICall prog gl 120 [.sl tt (catI l)] st (fun r st' => (∃ t,r = .sl t [] ∧ okEs t 4 ∧ catL l = [] ∧ st' = st) ∨
      ∃ g cap cs,st g = none ∧ (catL l).length ≤ cap ∧ cap * 4 ≤ cs.length ∧ cs.take ((catL l).length * 4) = (catL l).flatMap IV.cells ∧ r = .raw (.slice (some ⟨g,0,none⟩) (catL l).length cap) ∧ st' = st.put g (some (.box cs))):=by
  have hli:(catI l).length = l.length:=by simp [catI]
  have hfc:∀ y ∈ catL l,fits true 4 y = true:=fun y hy => by
    obtain ⟨p,hp,hy⟩:=List.mem_flatMap.1 hy
    exact hfit p hp y hy
  refine ICall.intro (c:=cf prog gl [] []) func120 rfl (by show _ ≤ 36; simp) (by kernel_rfl) ?_
  simp -implicitDefEqProofs -dsimp only [go_sem,↓reduceIte,zE,zB,zA,zM,zS,zL,reduceCtorEq,hli]
  intro hl
  refine LoopC.ctr l.length (fun k fr st' ds => fr 0 = .iv (.sl tt (catI l)) ∧ fr 3 = .iv (.raw (.int .i64 (catL (l.take k)).length)) ∧ fr 9 = .iv (.sl tt (catI l)) ∧ fr 10 = .iv (.raw (.int .i64 l.length)) ∧ fr 11 = .iv (.raw (.int .i64 k)) ∧ st' = st ∧ ds = []) ?_ ?_ ?_
  · simp -implicitDefEqProofs -dsimp only [go_sem,↓reduceIte,zE,zB,zA,zM,zS,zL,reduceCtorEq]
    simp [catL]
  · rintro k fr st1 _ hlt ⟨f0,f3,f9,f10,f11,rfl,rfl⟩
    obtain ⟨p,hp⟩:=get_of_lt hlt
    have h1:=catL_le l k
    have h2:=catL_le l (k + 1)
    rw [catL_succ hp,List.length_append] at h2
    have h3:IntKind.i64.wrap ((((catL (l.take k)).length:Nat):Int) + ((p.2.length:Nat):Int)) = ((catL (l.take (k + 1))).length:Nat):=by
      rw [w64 (by omega) (by omega),catL_succ hp,List.length_append]; omega
    have h4:decide ((((catL (l.take (k + 1))).length:Nat):Int) < 0) = false:=decide_eq_false (by omega)
    simp -implicitDefEqProofs -dsimp only [go_sem,↓reduceIte,zE,zB,zA,zM,zS,zL,reduceCtorEq,f0,f3,f9,f10,f11,lt_i hlt,reTag_es htt,Int.natCast_nonneg,catI_get hp,fits,h3]
    intro hpl
    simp -implicitDefEqProofs -dsimp only [go_sem,↓reduceIte,zE,zB,zA,zM,zS,zL,reduceCtorEq,h3,h4,f0,f3,f9,f10,f11,w_succ hlt (show l.length ≤ 281474976710656 by omega)]
  · rintro fr st1 _ ⟨f0,f3,f9,f10,f11,rfl,rfl⟩
    rw [List.take_length] at f3
    simp -implicitDefEqProofs -dsimp only [go_sem,↓reduceIte,zE,zB,zA,zM,zS,zL,reduceCtorEq,f0,f3,f9,f10,f11,nlt_i (Nat.lt_irrefl _)]
    refine (Grow_c gl (catL l).length hlen _).mono ?_
    have loop:∀ (I:Nat → IV → ISt → Prop),True:=fun _ => trivial
    rintro r st2 (⟨hz,rfl,rfl⟩ | ⟨g,cap,hg,hcap,rfl,rfl⟩)
    · have hnil:catL l = []:=List.eq_nil_of_length_eq_zero hz
      simp -implicitDefEqProofs -dsimp only [go_sem,↓reduceIte,zE,zB,zA,zM,zS,zL,reduceCtorEq,f0,hli]
      intro _
      refine LoopC.ctr l.length (fun k fr st' ds => (∃ t,fr 6 = .iv (.sl t []) ∧ t.cap = .nil) ∧ fr 25 = .iv (.sl tt (catI l)) ∧ fr 26 = .iv (.raw (.int .i64 l.length)) ∧ fr 27 = .iv (.raw (.int .i64 k)) ∧ st' = st2 ∧ ds = []) ?_ ?_ ?_
      · simp -implicitDefEqProofs -dsimp only [go_sem,↓reduceIte,zE,zB,zA,zM,zS,zL,reduceCtorEq]
        exact ⟨⟨_,rfl,rfl⟩,rfl⟩
      · rintro k fr st1 _ hlt ⟨⟨t,f6,ht⟩,f25,f26,f27,rfl,rfl⟩
        obtain ⟨p,hp⟩:=get_of_lt hlt
        have hp0:p.2 = []:=by
          have:=catL_succ hp
          have h2:=catL_le l (k + 1)
          rw [this,List.length_append,hnil,List.length_nil] at h2
          exact List.eq_nil_of_length_eq_zero (by omega)
        obtain ⟨fs,c,es⟩:=t
        obtain rfl:c = .nil:=ht
        simp -implicitDefEqProofs -dsimp only [go_sem,↓reduceIte,zE,zB,zA,zM,zS,zL,reduceCtorEq,f6,f25,f26,f27,lt_i hlt,reTag_es htt,Int.natCast_nonneg,catI_get hp,fits,hp0,w_succ hlt (show l.length ≤ 281474976710656 by omega)]
        exact ⟨_,rfl,rfl⟩
      · rintro fr st1 _ ⟨⟨t,f6,ht⟩,f25,f26,f27,rfl,rfl⟩
        simp -implicitDefEqProofs -dsimp only [go_sem,↓reduceIte,zE,zB,zA,zM,zS,zL,reduceCtorEq,f6,f25,f26,f27,nlt_i (Nat.lt_irrefl _)]
        exact outK_self (.inl ⟨_,rfl,.inl ht,hnil,rfl⟩)
    · simp -implicitDefEqProofs -dsimp only [go_sem,↓reduceIte,zE,zB,zA,zM,zS,zL,reduceCtorEq,f0,hli]
      intro _
      refine LoopC.ctr l.length (fun k fr st' ds => (∃ g cap cs,st1 g = none ∧ (catL (l.take k)).length ≤ cap ∧ cap * 4 ≤ cs.length ∧ cs.take ((catL (l.take k)).length * 4) = (catL (l.take k)).flatMap IV.cells ∧ fr 6 = .iv (.raw (.slice (some ⟨g,0,none⟩) (catL (l.take k)).length cap)) ∧ st' = st1.put g (some (.box cs))) ∧ fr 25 = .iv (.sl tt (catI l)) ∧ fr 26 = .iv (.raw (.int .i64 l.length)) ∧ fr 27 = .iv (.raw (.int .i64 k)) ∧ ds = []) ?_ ?_ ?_
      · simp -implicitDefEqProofs -dsimp only [go_sem,↓reduceIte,zE,zB,zA,zM,zS,zL,reduceCtorEq]
        exact ⟨⟨g,cap,_,hg,by simp [catL],by simp,by simp [catL],by simp [catL],rfl⟩,rfl⟩
      · rintro k fr st' _ hlt ⟨⟨g,cap,cs,hg,hc1,hc2,hc3,f6,rfl⟩,f25,f26,f27,rfl⟩
        obtain ⟨p,hp⟩:=get_of_lt hlt
        have h2:=catL_le l (k + 1)
        rw [catL_succ hp,List.length_append] at h2
        have hpf:=hfit p (List.mem_of_getElem? hp)
        simp -implicitDefEqProofs -dsimp only [go_sem,↓reduceIte,zE,zB,zA,zM,zS,zL,reduceCtorEq,f6,f25,f26,f27,lt_i hlt,reTag_es htt,Int.natCast_nonneg,catI_get hp,fits]
        refine appO_intro _ _ _ (ISt.put_same ..) (List.all_eq_true.2 hpf) ⟨by show _ * 72 ≤ _; omega,by omega⟩ ⟨hc1,hc2⟩ (flat4 hpf) ?_
        intro g' cap' cs' hg' k1 k2 k3
        simp -implicitDefEqProofs -dsimp only [go_sem,↓reduceIte,zE,zB,zA,zM,zS,zL,reduceCtorEq,f6,f25,f26,f27,w_succ hlt (show l.length ≤ 281474976710656 by omega)]
        have hst':((st1.put g (some (.box cs))).put g none).put g' (some (.box cs')) = st1.put g' (some (.box cs')):=by
          funext c
          simp only [ISt.put_apply]
          split
          · rfl
          · split
            · subst_vars; exact hg.symm
            · rfl
        have hg1:st1 g' = none:=by
          rcases hg' with rfl | h
          · exact hg
          · rw [ISt.put_apply] at h
            split at h
            · cases h
            · exact h
        refine ⟨g',cap',cs',hg1,?_,k2,?_,?_,hst'⟩
        · rw [catL_succ hp,List.length_append]; exact k1
        · rw [catL_succ hp,List.length_append,List.flatMap_append,← hc3]; exact k3
        · rw [catL_succ hp,List.length_append]
      · rintro fr st' _ ⟨⟨g,cap,cs,hg,hc1,hc2,hc3,f6,rfl⟩,f25,f26,f27,rfl⟩
        rw [List.take_length] at *
        simp -implicitDefEqProofs -dsimp only [go_sem,↓reduceIte,zE,zB,zA,zM,zS,zL,reduceCtorEq,f6,f25,f26,f27,nlt_i (Nat.lt_irrefl _)]
        exact outK_self (.inr ⟨g,cap,cs,hg,hc1,hc2,hc3,rfl,rfl⟩)
theorem Concat_c (l1 l2:List Fm) (t1 t2 tt:Tag) (x1 x2:List IV) (htt:okEs tt 1) (h1:IsFms l1 x1) (h2:IsFms l2 x2) (hlen:l1.length + l2.length ≤ 1099511627776) (st:ISt) :
    ICall prog gl 120 [.sl tt [.sl t1 x1,.sl t2 x2]] st (fun r st' => ∃ t ys,r = .sl t ys ∧ okEs t 4 ∧ IsFms (l1 ++ l2) ys ∧ st' = st):=by
  have hc:catL [(t1,x1),(t2,x2)] = x1 ++ x2:=by simp [catL]
  have hf:=h1.append h2
  have hlx:(x1 ++ x2).length ≤ 1099511627776:=by rw [hf.len,List.length_append]; exact hlen
  have key:=Concat_g gl [(t1,x1),(t2,x2)] tt htt (fun p hp y hy => by
    rcases List.mem_cons.1 hp with rfl | hp
    · exact fms_fits h1 y hy
    · obtain rfl:=List.mem_singleton.1 hp
      exact fms_fits h2 y hy) (by rw [hc]; exact hlx) st
  rw [hc] at key
  refine ICall.fix (key.mono fun r st' h => ?_)
  rcases h with ⟨t,rfl,ht,hn,rfl⟩ | ⟨g,cap,cs,hg,hc1,hc2,hc3,rfl,rfl⟩
  · exact ⟨.sl t [],(fun _ => none),st',LendOk.mk (fun b o h => by cases h) (subSt.refl _) (fun b cs h => by cases h),.refl _,⟨false,t.cap,t.es⟩,[],by simp only [age,ages],ht,hn ▸ hf,rfl⟩
  · have hcell:∀ y ∈ x1 ++ x2,y.cells.length = 4:=fun y hy => fits4 (fms_fits hf y hy)
    refine ⟨.sl ⟨true,.app g,4⟩ (x1 ++ x2),ISt.put (fun _ => none) g (some (.box cs)),st,⟨fun b o h => ?_,subSt_put hg,fun b cs' h => ?_⟩,.sl g cap ⟨true,.app g,4⟩ (x1 ++ x2) cs rfl (by omega) hc1 hcell (ISt.put_same ..) hc2 fun i r c hr hx => ?_,⟨false,.app g,4⟩,ages (x1 ++ x2),by simp only [age],.inr rfl,hf.aged,rfl⟩
    · rw [ISt.put_apply] at h ⊢
      split at h
      · rename_i hb; rw [if_pos hb]; exact h
      · cases h
    · rw [ISt.put_apply] at h
      split at h
      · rename_i hb; rw [hb]; exact hg
      · cases h
    · have hi:i < (x1 ++ x2).length * 4:=by
        have:=(List.getElem?_eq_some_iff.1 hx).1
        rwa [flat_length _ hcell] at this
      have:(cs.take ((x1 ++ x2).length * 4))[i]? = cs[i]?:=by rw [List.getElem?_take,if_pos hi]
      rw [hc3,hx,hr] at this
      cases this
      exact .refl _
theorem stepS_z {ca:Nat} {s:Sq} {rule:Nat} {main:Fm} {term:Tm} {name:ByteArray} {ad:List Sq} (h:stepS ca s rule main term name = (ad,0)) :
    validB ca s = true ∧ ∃ r,(addsS ca rule r main term name) = (ad,0):=by
  unfold stepS at h
  split at h
  · simp at h
  · rename_i hv
    split at h
    · simp at h
    · rename_i r _
      split at h
      · simp at h
      · split at h
        · rename_i h1 h2
          injection h with h3 h4
          exact absurd h4 h2
        · rename_i h1 h2
          split at h
          · simp at h
          · injection h with h3 h4
            refine ⟨by simpa using hv,r,?_⟩
            rw [← h3]
            exact Prod.ext rfl (by simpa using h2)
theorem fitL_nil:fitL []:=fun f h => by cases h
theorem fitL_one {f:Fm} (h:f.size ≤ 1000):fitL [f]:=fun g hg => by obtain rfl:=List.mem_singleton.1 hg; omega
theorem fitL_two {f g:Fm} (h:f.size ≤ 1000) (h':g.size ≤ 1000):fitL [f,g]:=fun k hk => by
  rcases List.mem_cons.1 hk with rfl | hk
  · omega
  · obtain rfl:=List.mem_singleton.1 hk; omega
theorem ite_all {c:Prop} [Decidable c] {A B:List Sq} {P:Sq → Prop} (h1:∀ s ∈ A,P s) (h2:∀ s ∈ B,P s):∀ s ∈ (if c then A else B),P s:=by split <;> assumption
def shortSq (s:Sq):Prop:=fitSq s ∧ s.l.length ≤ 64 ∧ s.r.length ≤ 64
theorem addS_fit {ca rule:Nat} {main a b:Fm} (hm:main.size ≤ 400) (ha:a.size ≤ 400) (hb:b.size ≤ 400):∀ s ∈ addS ca rule main a b,shortSq s:=by
  have hi:(impF a b).size ≤ 1000:=by simp only [impF,Fm.size,sizeTms,sizeFms]; omega
  have hi':(impF b a).size ≤ 1000:=by simp only [impF,Fm.size,sizeTms,sizeFms]; omega
  have l1:=fitL_one (show main.size ≤ 1000 by omega)
  have l2:=fitL_one (show a.size ≤ 1000 by omega)
  have l3:=fitL_one (show b.size ≤ 1000 by omega)
  have l4:=fitL_two (show a.size ≤ 1000 by omega) (show b.size ≤ 1000 by omega)
  have l5:=fitL_two hi hi'
  have q0:∀ s ∈ ([]:List Sq),shortSq s:=fun s hs => by cases hs
  have q1:∀ {x:Sq},shortSq x → ∀ s ∈ [x],shortSq s:=fun hx s hs => by obtain rfl:=List.mem_singleton.1 hs; exact hx
  have q2:∀ {x y:Sq},shortSq x → shortSq y → ∀ s ∈ [x,y],shortSq s:=fun hx hy s hs => by
    rcases List.mem_cons.1 hs with rfl | hs
    · exact hx
    · obtain rfl:=List.mem_singleton.1 hs; exact hy
  have c0:([]:List Fm).length ≤ 64:=Nat.zero_le _
  have c1:∀ f:Fm,[f].length ≤ 64:=fun _ => by simp
  have c2:∀ f g:Fm,[f,g].length ≤ 64:=fun _ _ => by simp
  unfold addS
  refine ite_all (q1 ⟨⟨fitL_nil,l2⟩,c0,c1 _⟩) (ite_all (q1 ⟨⟨l2,fitL_nil⟩,c1 _,c0⟩) (ite_all (q1 ⟨⟨l4,fitL_nil⟩,c2 _ _,c0⟩) (ite_all (q2 ⟨⟨fitL_nil,l2⟩,c0,c1 _⟩ ⟨⟨fitL_nil,l3⟩,c0,c1 _⟩) (ite_all (q2 ⟨⟨l2,fitL_nil⟩,c1 _,c0⟩ ⟨⟨l3,fitL_nil⟩,c1 _,c0⟩)
    (ite_all (ite_all (q1 ⟨⟨fitL_nil,l2⟩,c0,c1 _⟩) (q1 ⟨⟨fitL_nil,l4⟩,c0,c2 _ _⟩)) (ite_all (q2 ⟨⟨fitL_nil,l2⟩,c0,c1 _⟩ ⟨⟨l3,fitL_nil⟩,c1 _,c0⟩) (ite_all (q1 ⟨⟨l2,l3⟩,c1 _,c1 _⟩) (ite_all (q1 ⟨⟨l5,fitL_nil⟩,c2 _ _,c0⟩) (ite_all (q2 ⟨⟨l2,l3⟩,c1 _,c1 _⟩ ⟨⟨l3,l2⟩,c1 _,c1 _⟩)
    (ite_all (q1 ⟨⟨l2,fitL_nil⟩,c1 _,c0⟩) (ite_all (q1 ⟨⟨fitL_nil,l2⟩,c0,c1 _⟩) (ite_all (q1 ⟨⟨l2,fitL_nil⟩,c1 _,c0⟩) (ite_all (q1 ⟨⟨fitL_nil,l2⟩,c0,c1 _⟩) (ite_all (q2 ⟨⟨fitL_nil,l1⟩,c0,c1 _⟩ ⟨⟨l1,fitL_nil⟩,c1 _,c0⟩) (ite_all (q1 ⟨⟨fitL_nil,l3⟩,c0,c1 _⟩) q0)))))))))))))))
theorem sizeFmsMem:∀ {l:List Fm} {g:Fm},g ∈ l → g.size ≤ sizeFms l
  | a :: l,g,h => by
    simp only [sizeFms]
    rcases List.mem_cons.1 h with rfl | h
    · omega
    · have:=sizeFmsMem h; omega
theorem get_size {l:List Fm} {n:Nat} (h:sizeFms l ≤ n) (hn:1 ≤ n) (k:Nat):((l[k]?).getD fm0).size ≤ n:=by
  cases hk:l[k]? with
  | none => exact hn
  | some a => exact Nat.le_trans (sizeFmsMem (List.mem_of_getElem? hk)) h
theorem addsS_fit {ca rule:Nat} {r:Rw} {main:Fm} {term:Tm} {name:ByteArray} {ad:List Sq} (h:addsS ca rule r main term name = (ad,0)):∀ s ∈ ad,shortSq s:=by
  unfold addsS at h
  by_cases hc:(!fmB ca main || (decide (r.op ≠ 0) && decide (main.op ≠ r.op))) = true
  · rw [if_pos hc] at h
    cases (Prod.mk.inj h).2
  · rw [if_neg hc] at h
    have hf:fmB ca main = true:=by
      cases hq:fmB ca main
      · simp [hq] at hc
      · rfl
    have hm:main.size ≤ 400:=by
      unfold fmB at hf
      simp only [Bool.and_eq_true] at hf
      exact (right_ok hf.1).2.1
    have hs:∀ k,((main.subs[k]?).getD fm0).size ≤ 400:=fun k => get_size (by
      obtain ⟨o,n,us,sub⟩:=main
      simp only [Fm.size] at hm
      show sizeFms sub ≤ 400
      omega) (by omega) k
    by_cases h0:r.asks = 0
    · simp only [if_pos h0] at h
      rw [← (Prod.mk.inj h).1]
      exact addS_fit hm (hs 0) (hs 1)
    · simp only [if_neg h0] at h
      generalize (if r.asks = 2 then Tm.mk true name [] else term) = t at h
      by_cases h1:(!t.ok) = true
      · simp only [if_pos h1] at h
        cases (Prod.mk.inj h).2
      · simp only [if_neg h1] at h
        by_cases h2:(PutsS ((main.subs[0]?).getD fm0) [(main.nm,t)]).2 ≠ 0
        · simp only [if_pos h2] at h
          cases (Prod.mk.inj h).2
        · simp only [if_neg h2] at h
          rw [← (Prod.mk.inj h).1]
          exact addS_fit hm (puts_size7 _ _) (hs 1)
theorem premsB_append (s:Sq):∀ (l l':List Sq) (ts ts':List Tr),l.length = ts.length → premsB s (l ++ l') (ts ++ ts') = (premsB s l ts && premsB s l' ts')
  | [],l',[],ts',_ => by simp [premsB]
  | a :: l,l',t :: ts,ts',h => by
    simp only [List.cons_append,premsB,premsB_append s l l' ts ts' (by simpa using h),Bool.and_assoc]
  | [],_,_ :: _,_,h => by simp at h
  | _ :: _,_,[],_,h => by simp at h
theorem fitL_append {l l':List Fm} (h:fitL l) (h':fitL l'):fitL (l ++ l'):=fun f hf => (List.mem_append.1 hf).elim (h f) (h' f)
theorem check_c (G:Gl gl) (T:Gt gl) (ca rule:Nat) (s:Sq) (main:Fm) (term:Tm) (name:ByteArray) (sub:List Tr) (x:IV) (hx:IsTr (.mk rule s main term name sub) x) (hs:fitSq s) (hm:main.size ≤ 1000000) (ht:term.size ≤ 1000000)
    (hsub:∀ a ∈ sub,fitSq a.sq) (st:ISt):ICall prog gl 61 [.raw (.int .u8 ca),.cptr x] st (fun r st' => r = .raw (.int .i64 (checkS ca (.mk rule s main term name sub))) ∧ st' = st):=by
  obtain ⟨tl,xl,tr,xr,op,fn,ta,xa,tb,xb,v,un,tu,xu,ts,xs,rfl,hru,e1,i1,e2,i2,hy,hz,e3,i3⟩:=hx.mk
  have hstep:=fun st => step_c gl G T ca s _ ⟨tl,xl,tr,xr,rfl,e1,i1,e2,i2⟩ hs rule main _ hy hm term _ hz ht name st
  unfold checkS
  refine ICall.intro (c:=cf prog gl [] [(9,[0,1,2,3,4,5,6,7,9,10,11,12,13,14,15,16,19,8,17,18,20])]) func61 rfl (by show _ ≤ 84; simp) (by kernel_rfl) ?_
  simp -implicitDefEqProofs -dsimp only [go_sem,↓reduceIte,zE,zB,zA,zM,zS,zL,reduceCtorEq,fits]
  refine (hstep _).mono ?_
  rintro _ st ⟨tg,ys,rfl,he,hys,rfl⟩
  generalize hq:stepS ca s rule main term name = q at hys ⊢
  obtain ⟨ad,er⟩:=q
  simp only at hys ⊢
  by_cases h0:er = 0
  · subst h0
    obtain ⟨hv,r,hr⟩:=stepS_z hq
    have hfit:=addsS_fit hr
    simp -implicitDefEqProofs -dsimp only [go_sem,↓reduceIte,zE,zB,zA,zM,zS,zL,reduceCtorEq,show decide (((0:Nat):Int) = 0) = true from rfl,i3.len,hys.len,fits]
    intro _ _
    by_cases hl:sub.length = ad.length
    · have dl:decide ((sub.length:Int) = (ad.length:Int)) = true:=decide_eq_true (by omega)
      simp -implicitDefEqProofs -dsimp only [go_sem,↓reduceIte,zE,zB,zA,zM,zS,zL,reduceCtorEq,dl,hys.len]
      intro _
      refine LoopC.ctr ad.length (fun k fr st' ds => premsB s (ad.take k) (sub.take k) = true ∧ fr 0 = .iv (.raw (.int .u8 ca)) ∧ fr 1 = .iv (.cptr (.agg [.raw (.int .u8 rule),.sl tl xl,.sl tr xr,.raw (.int .u8 op),.raw (.string fn),.sl ta xa,.sl tb xb,.raw (.bool v),.raw (.string un),.sl tu xu,.raw (.string name),.sl ts xs])) ∧ fr 46 = .iv (.sl tg ys) ∧ fr 47 = .iv (.raw (.int .i64 ad.length)) ∧ fr 48 = .iv (.raw (.int .i64 k)) ∧ st' = st ∧ ds = []) ?_ ?_ ?_
      · simp -implicitDefEqProofs -dsimp only [go_sem,↓reduceIte,zE,zB,zA,zM,zS,zL,reduceCtorEq]
        simp [premsB]
      · rintro k fr st1 _ hlt ⟨hn,f0,f1,f46,f47,f48,rfl,rfl⟩
        obtain ⟨a,ha⟩:=get_of_lt hlt
        obtain ⟨w,hkw,hw⟩:=hys.get ha
        obtain ⟨b,hb⟩:=get_of_lt (l:=sub) (k:=k) (by omega)
        obtain ⟨z,hkz,hz⟩:=i3.get hb
        have hza:=hfit a (List.mem_of_getElem? ha)
        have hvl:s.l.length ≤ 64 ∧ s.r.length ≤ 64:=by
          unfold validB at hv
          simp only [Bool.and_eq_true,decide_eq_true_eq] at hv
          exact ⟨hv.1.1.1.1.2,hv.1.1.1.2⟩
        obtain ⟨t1,x1,t2,x2,rfl,k1,j1,k2,j2⟩:=hw
        have hC1:=fun st => Concat_c gl s.l a.l tl t1 ⟨true,.full,1⟩ xl x1 (.inr rfl) i1 j1 (by have:=hza.2.1; omega) st
        have hC2:=fun st => Concat_c gl s.r a.r tr t2 ⟨true,.full,1⟩ xr x2 (.inr rfl) i2 j2 (by have:=hza.2.2; omega) st
        have hsb:=hsub b (List.mem_of_getElem? hb)
        obtain ⟨br,bs,bm,bt,bn,bsub⟩:=b
        obtain ⟨tl',xl',tr',xr',op',fn',ta',xa',tb',xb',v',un',tu',xu',ts',xs',rfl,_,g1,m1,g2,m2,_⟩:=hz.mk
        have hlen1:(ad.take k).length = (sub.take k).length:=by rw [List.length_take,List.length_take]; omega
        have hpl:fitSq (s.plus a):=⟨fitL_append hs.1 hza.1.1,fitL_append hs.2 hza.1.2⟩
        simp -implicitDefEqProofs -dsimp only [go_sem,↓reduceIte,zE,zB,zA,zM,zS,zL,reduceCtorEq,f0,f1,f46,f47,f48,lt_i hlt,reTag_es he,reTag_es e3,Int.natCast_nonneg,hkw,hkz,fits,inOrder_2]
        refine (hC1 _).mono ?_
        rintro _ st2 ⟨t3,y1,rfl,g3,m3,rfl⟩
        simp -implicitDefEqProofs -dsimp only [go_sem,↓reduceIte,zE,zB,zA,zM,zS,zL,reduceCtorEq,f0,f1,f46,f47,f48,lt_i hlt,reTag_es he,reTag_es e3,Int.natCast_nonneg,hkw,hkz,fits,inOrder_2]
        refine (hC2 _).mono ?_
        rintro _ st2 ⟨t4,y2,rfl,g4,m4,rfl⟩
        simp -implicitDefEqProofs -dsimp only [go_sem,↓reduceIte,zE,zB,zA,zM,zS,zL,reduceCtorEq,f0,f1,f46,f47,f48,lt_i hlt,reTag_es he,reTag_es e3,Int.natCast_nonneg,hkw,hkz,fits,inOrder_2]
        refine (Within_c gl G bs (s.plus a) _ _ ⟨_,_,_,_,rfl,g1,m1,g2,m2⟩ ⟨_,_,_,_,rfl,g3,m3,g4,m4⟩ hsb hpl _).mono ?_
        rintro _ st2 ⟨rfl,rfl⟩
        cases hw:withinB bs (s.plus a)
        · simp -implicitDefEqProofs -dsimp only [go_sem,↓reduceIte,zE,zB,zA,zM,zS,zL,reduceCtorEq]
          refine outK_self ⟨?_,rfl⟩
          have hp:premsB s ad sub = false:=by
            conv => lhs; rw [← List.take_append_drop k ad,← List.take_append_drop k sub]
            rw [List.drop_eq_getElem_cons hlt,List.drop_eq_getElem_cons (show k < sub.length by omega),premsB_append s _ _ _ _ hlen1,(List.getElem?_eq_some_iff.1 ha).2,(List.getElem?_eq_some_iff.1 hb).2]
            simp only [premsB,Tr.sq,hw,Bool.false_and,Bool.and_false]
          rw [if_neg (by omega),if_neg (by omega),hp]; rfl
        · simp -implicitDefEqProofs -dsimp only [go_sem,↓reduceIte,zE,zB,zA,zM,zS,zL,reduceCtorEq,f0,f1,f46,f47,f48,w_succ hlt (show ad.length ≤ 281474976710656 by omega)]
          rw [take_get ha,take_get hb,premsB_append s _ _ _ _ hlen1,hn]
          simp only [premsB,Tr.sq,hw,Bool.true_and]
      · rintro fr st1 _ ⟨hn,f0,f1,f46,f47,f48,rfl,rfl⟩
        rw [List.take_length,show sub.take ad.length = sub by rw [← hl,List.take_length]] at hn
        simp -implicitDefEqProofs -dsimp only [go_sem,↓reduceIte,zE,zB,zA,zM,zS,zL,reduceCtorEq,f47,f48,nlt_i (Nat.lt_irrefl _)]
        refine outK_self ⟨?_,rfl⟩
        rw [if_neg (by omega),if_neg (by omega),hn]; rfl
    · have dl:decide ((sub.length:Int) = (ad.length:Int)) = false:=decide_eq_false (by omega)
      simp -implicitDefEqProofs -dsimp only [go_sem,↓reduceIte,zE,zB,zA,zM,zS,zL,reduceCtorEq,dl]
      refine outK_self ⟨?_,rfl⟩
      rw [if_neg (by omega),if_pos hl]; rfl
  · have d0:decide ((er:Int) = 0) = false:=decide_eq_false (by omega)
    simp -implicitDefEqProofs -dsimp only [go_sem,↓reduceIte,zE,zB,zA,zM,zS,zL,reduceCtorEq,d0]
    refine outK_self ⟨?_,rfl⟩
    rw [if_pos h0]
end Go.Proofs.Tryz

namespace Go.Proofs
open Go.Shelf
def Tryz.sortFL_ren:Go.Shelf.Ren:=⟨fun | 6 => 136 | 15 => 176 | 14 => 191 | 28 => 241 | 29 => 242 | 20 => 258 | 21 => 259 | 22 => 260 | 23 => 261 | 24 => 262 | 25 => 263 | 26 => 264 | 27 => 265 | 46 => 305 | 47 => 289 | 48 => 290 | 49 => 306 | 50 => 307 | 57 => 331 | n => n,fun | 22 => 22 | 24 => 27 | 25 => 155 | 3 => 3 | 39 => 188 | 0 => 0 | 53 => 244 | 55 => 246 | 4 => 4 | 46 => 236 | 45 => 235 | 50 => 241 | 5 => 5 | 9 => 9 | 66 => 280 | 70 => 284 | 76 => 300 | 77 => 266 | n => n,fun | n => n⟩
theorem Tryz.sortFL:Go.Proofs.SlLaysF0.n6 Tryz.prog Tryz.sortFL_ren:={
  mixed:=by kernel_rfl
  f6:=⟨Tryz.f136.name,by decide,Tryz.func136.trans (congrArg some (by kernel_rfl))⟩
  f14:=⟨Tryz.f191.name,by decide,Tryz.func191.trans (congrArg some (by kernel_rfl))⟩
  f15:=Tryz.func176.trans (congrArg some (by kernel_rfl))
  f20:=⟨Tryz.f258.name,by decide,Tryz.func258.trans (congrArg some (by kernel_rfl))⟩
  f21:=⟨Tryz.f259.name,by decide,Tryz.func259.trans (congrArg some (by kernel_rfl))⟩
  f22:=⟨Tryz.f260.name,by decide,Tryz.func260.trans (congrArg some (by kernel_rfl))⟩
  f23:=⟨Tryz.f261.name,by decide,Tryz.func261.trans (congrArg some (by kernel_rfl))⟩
  f24:=⟨Tryz.f262.name,by decide,Tryz.func262.trans (congrArg some (by kernel_rfl))⟩
  f25:=⟨Tryz.f263.name,by decide,Tryz.func263.trans (congrArg some (by kernel_rfl))⟩
  f26:=⟨Tryz.f264.name,by decide,Tryz.func264.trans (congrArg some (by kernel_rfl))⟩
  f27:=⟨Tryz.f265.name,by decide,Tryz.func265.trans (congrArg some (by kernel_rfl))⟩
  f28:=Tryz.func241.trans (congrArg some (by kernel_rfl))
  f29:=Tryz.func242.trans (congrArg some (by kernel_rfl))
  f46:=⟨Tryz.f305.name,by decide,Tryz.func305.trans (congrArg some (by kernel_rfl))⟩
  f47:=Tryz.func289.trans (congrArg some (by kernel_rfl))
  f48:=Tryz.func290.trans (congrArg some (by kernel_rfl))
  f49:=⟨Tryz.f306.name,by decide,Tryz.func306.trans (congrArg some (by kernel_rfl))⟩
  f50:=⟨Tryz.f307.name,by decide,Tryz.func307.trans (congrArg some (by kernel_rfl))⟩
  f57:=⟨Tryz.f331.name,by decide,Tryz.func331.trans (congrArg some (by kernel_rfl))⟩
  t0:=Tryz.underlying0
  a0:=Tryz.isAgg0
  z0:=Tryz.sizeOf0
  v0:=Tryz.zeroValue0
  t3:=Tryz.underlying3
  a3:=Tryz.isAgg3
  z3:=Tryz.sizeOf3
  v3:=Tryz.zeroValue3
  t4:=Tryz.underlying4
  a4:=Tryz.isAgg4
  z4:=Tryz.sizeOf4
  v4:=Tryz.zeroValue4
  t5:=Tryz.underlying5
  a5:=Tryz.isAgg5
  z5:=Tryz.sizeOf5
  v5:=Tryz.zeroValue5
  t9:=Tryz.underlying9
  a9:=Tryz.isAgg9
  z9:=Tryz.sizeOf9
  v9:=Tryz.zeroValue9
  t22:=Tryz.underlying22
  a22:=Tryz.isAgg22
  z22:=Tryz.sizeOf22
  v22:=Tryz.zeroValue22
  t25:=Tryz.underlying155
  a25:=Tryz.isAgg155
  z25:=Tryz.sizeOf155
  v25:=Tryz.zeroValue155
  t39:=Tryz.underlying188
  a39:=Tryz.isAgg188
  z39:=Tryz.sizeOf188
  v39:=Tryz.zeroValue188
  t45:=Tryz.underlying235
  a45:=Tryz.isAgg235
  z45:=Tryz.sizeOf235
  v45:=Tryz.zeroValue235
  t46:=Tryz.underlying236
  a46:=Tryz.isAgg236
  z46:=Tryz.sizeOf236
  v46:=Tryz.zeroValue236
  t50:=Tryz.underlying241
  a50:=Tryz.isAgg241
  z50:=Tryz.sizeOf241
  v50:=Tryz.zeroValue241
  t53:=Tryz.underlying244
  a53:=Tryz.isAgg244
  z53:=Tryz.sizeOf244
  v53:=Tryz.zeroValue244
  t55:=Tryz.underlying246
  a55:=Tryz.isAgg246
  z55:=Tryz.sizeOf246
  v55:=Tryz.zeroValue246
  t66:=Tryz.underlying280
  a66:=Tryz.isAgg280
  z66:=Tryz.sizeOf280
  v66:=Tryz.zeroValue280
  t70:=Tryz.underlying284
  a70:=Tryz.isAgg284
  z70:=Tryz.sizeOf284
  v70:=Tryz.zeroValue284
  t76:=Tryz.underlying300
  a76:=Tryz.isAgg300
  z76:=Tryz.sizeOf300
  v76:=Tryz.zeroValue300
  t77:=Tryz.underlying266
  a77:=Tryz.isAgg266
  z77:=Tryz.sizeOf266
  v77:=Tryz.zeroValue266 }

namespace Tryz
open Go Go.Iv
theorem sortF_ty:tyI Tryz.prog (Tryz.sortFL_ren.t 24) = some (true,4):=by kernel_rfl
theorem sortF_agg (w:World):(isAgg (Tryz.sortFL_ren.t 24)).run Tryz.prog w = .ok true w:=(run_isAgg sortF_ty w).1
theorem sortF_size (w:World):(Go.sizeOf (Tryz.sortFL_ren.t 24)).run Tryz.prog w = .ok 4 w:=(run_isAgg sortF_ty w).2
end Tryz
end Go.Proofs

namespace Go.Proofs.Tryz
set_option maxRecDepth 4000
open Go Go.Iv Go.Sort Go.Shelf Go.RowKit
variable (gl:Nat → Option IV)

section
variable {α:Type} [Inhabited α] {enc:α → List Value} {k:Nat}
theorem kflat_get (hk:∀ x,(enc x).length = k) (h0:0 < k):∀ (l:List α) (t:Nat),t < l.length * k → (l.flatMap enc)[t]? = some ((enc l[t / k]!)[t % k]!)
  | [],t,h => by simp at h
  | a :: l,t,h => by
    rw [List.flatMap_cons]
    by_cases ht:t < k
    · rw [List.getElem?_append_left (by rw [hk]; exact ht),Nat.div_eq_of_lt ht,Nat.mod_eq_of_lt ht]
      rw [List.getElem?_eq_getElem (by rw [hk]; exact ht)]
      simp only [List.getElem!_cons_zero]
      rw [getElem!_pos _ t (by rw [hk]; exact ht)]
    · obtain ⟨s,rfl⟩:∃ s,t = s + k:=⟨t - k,by omega⟩
      rw [List.getElem?_append_right (by rw [hk]; omega),hk,Nat.add_sub_cancel,kflat_get hk h0 l s (by rw [List.length_cons,Nat.succ_mul] at h; omega),Nat.add_div_right _ h0,Nat.add_mod_right]
      simp
theorem kflat_len (hk:∀ x,(enc x).length = k):∀ l:List α,(l.flatMap enc).length = l.length * k
  | [] => by simp
  | a :: l => by rw [List.flatMap_cons,List.length_append,hk,kflat_len hk l,List.length_cons,Nat.succ_mul,Nat.add_comm]
theorem flatK_list (hk:∀ x,(enc x).length = k) (h0:0 < k) (d:Array α):(flatK enc k d).toList = d.toList.flatMap enc:=by
  have hl:(d.toList.flatMap enc).length = d.size * k:=by rw [kflat_len hk,Array.length_toList]
  apply List.ext_getElem?
  intro t
  by_cases ht:t < d.size * k
  · rw [kflat_get hk h0 d.toList t (by simpa using ht)]
    have h1:=get_flatK enc k d t ht
    rw [getElem!_pos _ t (by rw [size_flatK]; exact ht)] at h1
    rw [Array.getElem?_toList,Array.getElem?_eq_getElem (by rw [size_flatK]; exact ht),h1]
    congr 3
    rw [Array.getElem!_toList]
  · rw [List.getElem?_eq_none (show (flatK enc k d).toList.length ≤ t by rw [Array.length_toList,size_flatK]; omega),List.getElem?_eq_none (show (d.toList.flatMap enc).length ≤ t by rw [hl]; omega)]
end

section
variable {α:Type} [Inhabited α] {enc:α → List Value} {k:Nat} {w:World} {b m:Nat} {dk:Array α} {os:Array Obj}
theorem sw_block {c:Array Value} {T:TypeId} {f:Nat × Nat} (hh:w.heap[b]? = some (.cells c T f)):(sortWorldK enc k w b 0 m dk os).heap[b]? = some (.cells (putCells id 0 (flatK enc k dk) c) T f):=by
  have hb:=(Array.getElem?_eq_some_iff.1 hh).1
  unfold sortWorldK
  rw [heap_grow_old _ _ (by show b < (putRowK enc k _ b 0 dk).heap.size; simpa [putRowK] using hb)]
  show (w.heap.modify b (onCells (putCells id 0 (flatK enc k dk))))[b]? = _
  rw [Array.getElem?_modify,if_pos rfl,hh]; rfl
theorem sw_other {j:Nat} (hj:j ≠ b) (hlt:j < w.heap.size):(sortWorldK enc k w b 0 m dk os).heap[j]? = w.heap[j]?:=by
  unfold sortWorldK
  rw [heap_grow_old _ _ (by show j < (putRowK enc k _ b 0 dk).heap.size; simpa [putRowK] using hlt)]
  show (w.heap.modify b (onCells (putCells id 0 (flatK enc k dk))))[j]? = _
  rw [Array.getElem?_modify,if_neg (fun h => hj h.symm)]
theorem putCells_list {F c:Array Value} (h:F.size ≤ c.size):(putCells id 0 F c).toList = F.toList ++ c.toList.drop F.size:=by
  apply List.ext_getElem?
  intro i
  unfold putCells
  rw [Array.getElem?_toList,Array.getElem?_mapIdx]
  by_cases hi:i < F.size
  · rw [List.getElem?_append_left (by simpa using hi),Array.getElem?_toList,Array.getElem?_eq_getElem (show i < c.size by omega),Array.getElem?_eq_getElem hi]
    simp only [Option.map_some,id,Nat.zero_add,Nat.zero_le,true_and,if_pos hi,Nat.sub_zero]
    rw [getElem!_pos F i hi]
  · rw [List.getElem?_append_right (by simpa using hi),List.getElem?_drop,Array.length_toList,Array.getElem?_toList]
    rw [show F.size + (i - F.size) = i by omega]
    cases hc:c[i]? with
    | none => rfl
    | some v => simp only [Option.map_some,Nat.zero_add,Nat.zero_le,true_and,if_neg hi]
end

theorem below_drawn {X X':WS} (he:Ext X X') (hst:∀ b,X.st b = none) (hd:X.w.drawn ≤ X'.w.drawn):∃ q os,X'.w = grow (X.w.drewN q) os:=by
  refine ⟨X'.w.drawn - X.w.drawn,X'.w.heap.extract X.w.heap.size X'.w.heap.size,?_⟩
  have h1:X'.w.heap = X.w.heap ++ X'.w.heap.extract X.w.heap.size X'.w.heap.size:=by
    apply Array.ext_getElem?
    intro i
    by_cases hi:i < X.w.heap.size
    · rw [Array.getElem?_append_left hi]; exact (he.keep i hi (hst i)).1
    · rw [Array.getElem?_append_right (by omega),Array.getElem?_extract]
      have:=he.size
      split
      · congr 1; omega
      · rw [Array.getElem?_eq_none (by omega)]
  have h2:=he.os
  have h3:=he.tape
  have h4:=he.output
  generalize X'.w = w' at *
  generalize X.w = w at *
  obtain ⟨hp,tp,dr,os,out⟩:=w'
  obtain ⟨hp1,tp1,dr1,os1,out1⟩:=w
  simp only at h1 h2 h3 h4 hd
  subst h2 h3 h4
  simp only [grow,World.drewN,World.mk.injEq,and_true,true_and]
  exact ⟨h1,by omega⟩

theorem SortFunc_c (g:FuncId) (hent:∀ args w,(callFunc g args).run prog w = .ok (.enter g args) w) (xs rest:List IV) (b cap:Nat) (st:ISt) (hne:xs ≠ []) (hlen:xs.length ≤ 140737488355328) (hx:∀ x ∈ xs,fits true 4 x = true) (hb:st b = some (.box (xs.flatMap IV.cells ++ rest))) (cf:IV → IV → Int)
    (h1:∀ x ∈ xs,¬ cf x x < 0) (h2:∀ x ∈ xs,∀ y ∈ xs,∀ z ∈ xs,cf x y < 0 → cf y z < 0 → cf x z < 0) (h3:∀ x ∈ xs,∀ y ∈ xs,∀ z ∈ xs,¬ cf x y < 0 → ¬ cf y z < 0 → ¬ cf x z < 0)
    (hcmp:∀ x ∈ xs,∀ y ∈ xs,ICall prog (fun _ => none) g [x,y] (fun _ => none) (fun r _ => r = .raw (.int .i64 (cf x y)))) :
    ICall prog gl 136 [.raw (.slice (some ⟨b,0,none⟩) xs.length cap),.fn (.func g) [] []] st
      (fun r st' => r = .tup [] ∧ ∃ ys:List IV,ys.Perm xs ∧ ys.Pairwise (fun x y => ¬ cf y x < 0) ∧ st' = st.put b (some (.box (ys.flatMap IV.cells ++ rest)))):=by
  intro B X rs hg hst hv
  subst hst
  obtain ⟨r0,r1,rfl⟩:∃ r0 r1,rs = [r0,r1]:=by
    match rs,hv with
    | [a,b],_ => exact ⟨a,b,rfl⟩
    | [],hv => cases hv.1
    | [_],hv => cases hv.1
    | _ :: _ :: _ :: _,hv => cases hv.1
  obtain rfl:=V.raw_inv (hv.2 0 r0 _ rfl rfl)
  obtain ⟨f1,f2,rfl,hf1,hf2⟩:=V.fn_inv (hv.2 1 r1 _ rfl rfl)
  obtain rfl:f1 = []:=List.eq_nil_of_length_eq_zero hf1.1
  obtain rfl:f2 = []:=List.eq_nil_of_length_eq_zero hf2.1
  obtain ⟨hL,c,T,hh,hvl⟩:=hg.ok b _ hb
  have hblk:b < X.w.heap.size:=hg.lt hb
  have hcells:∀ x ∈ xs,x.cells.length = 4:=fun x hxm => (fits_cells (hx x hxm)).2.1
  have hcl:c.size = xs.length * 4 + rest.length:=by
    have:=hvl.1
    rw [List.length_append,flat_length xs hcells,Array.length_toList] at this
    exact this
  -- the elements
  let α:={ p:IV × List Value // p.1 ∈ xs ∧ VL B X.L X.w p.2 p.1.cells }
  have hel:∀ (l:List IV) (vs:List Value),(∀ x ∈ l,x ∈ xs) → VL B X.L X.w vs (l.flatMap IV.cells) → ∃ d:List α,d.map (fun a => a.1.1) = l ∧ d.flatMap (fun a => a.1.2) = vs:=by
    intro l
    induction l with
    | nil =>
      intro vs _ hvs
      exact ⟨[],rfl,(List.eq_nil_of_length_eq_zero hvs.1).symm⟩
    | cons x l ih =>
      intro vs hm hvs
      have hx4:=hcells x (hm x (by simp))
      have hlv:vs.length = 4 + (l.flatMap IV.cells).length:=by rw [hvs.1,List.flatMap_cons,List.length_append,hx4]
      have ha:VL B X.L X.w (vs.take 4) x.cells:=by
        have:=hvs.take 4
        rwa [List.flatMap_cons,List.take_left' hx4] at this
      have hbv:VL B X.L X.w (vs.drop 4) (l.flatMap IV.cells):=by
        have:=hvs.drop 4
        rwa [List.flatMap_cons,List.drop_left' hx4] at this
      obtain ⟨d,hd1,hd2⟩:=ih (vs.drop 4) (fun y hy => hm y (by simp [hy])) hbv
      exact ⟨⟨(x,vs.take 4),hm x (by simp),ha⟩ :: d,by simp [hd1],by simp [hd2]⟩
  obtain ⟨d,hd1,hd2⟩:=hel xs (c.toList.take (xs.length * 4)) (fun _ h => h) (by
    have:=hvl.take (xs.length * 4)
    rwa [List.take_left' (flat_length xs hcells)] at this)
  have hdl:d.length = xs.length:=by rw [← hd1,List.length_map]
  have hdn:d ≠ []:=by rintro rfl; exact hne (List.eq_nil_of_length_eq_zero hdl.symm)
  letI:Inhabited α:=⟨d.head hdn⟩
  let enc:α → List Value:=fun a => a.1.2
  have hk:∀ a:α,(enc a).length = 4:=fun a => by rw [a.2.2.1]; exact hcells _ a.2.1
  have hone:∀ (a:α),∀ v ∈ enc a,v.oneCell' = true:=fun a v hv => all_flat (C:=⟨prog,gl,B⟩) a.2.2 (fits_cells (hx _ a.2.1)).2.2.1 v hv
  let cf':α → α → Int:=fun a a' => cf a.1.1 a'.1.1
  have hO:SWO (ltOf cf'):=⟨fun a => by simp only [ltOf,decide_eq_false_iff_not]; exact h1 _ a.2.1,fun a a' a'' p q => by
      simp only [ltOf,decide_eq_true_eq] at p q ⊢; exact h2 _ a.2.1 _ a'.2.1 _ a''.2.1 p q,fun a a' a'' p q => by
      simp only [ltOf,decide_eq_false_iff_not] at p q ⊢; exact h3 _ a.2.1 _ a'.2.1 _ a''.2.1 p q⟩
  have hfl:(flatK enc 4 d.toArray).toList = c.toList.take (xs.length * 4):=by
    rw [flatK_list hk (by decide)]; exact hd2
  have hH:HoldsK enc 4 X.w b 0 d.toArray:=by
    intro j hj
    have hj':j < xs.length * 4:=by rw [size_flatK] at hj; simpa [hdl] using hj
    have e1:(flatK enc 4 d.toArray)[j]? = c[j]?:=by
      rw [← Array.getElem?_toList,hfl,List.getElem?_take,if_pos hj',Array.getElem?_toList]
    have hjc:j < c.size:=by omega
    rw [Array.getElem?_eq_getElem hj,Array.getElem?_eq_getElem hjc] at e1
    refine ⟨?_,?_⟩
    · rw [Nat.zero_add,cell_of_row' hh,Array.getElem?_toList,Array.getElem?_eq_getElem hjc,← e1,id,getElem!_pos _ j hj]
    · simp only [World.frozen?,hh]
      simp
  have hmono:∀ (n:Nat) (dk:Array α) (os:Array Obj) (X1:WS),X1.w = sortWorldK enc 4 X.w b 0 n dk os → X1.L = X.L → ∀ r x,V B X.L X.w r x → V B X1.L X1.w r x:=by
    intro n dk os X1 hw hXL r x hrx
    refine V.mono hrx (fun j => by rw [hXL]; exact Nat.le_refl _) (fun j i hi => ?_) (fun j p hp => ?_)
    · have hjb:j ≠ b:=by rintro rfl; rw [hL] at hi; omega
      have hjl:j < X.w.heap.size:=by
        rcases Nat.lt_or_ge j X.w.heap.size with h | h
        · exact h
        · rw [hg.Lnew j h] at hi; omega
      exact cell_congr (by rw [hw]; exact sw_other hjb hjl) i
    · by_cases hjb:j = b
      · subst hjb
        simp only [shq,hh] at hp
        simp only [shq,hw,sw_block hh]
        rw [← hp]
        simp [putCells]
      · rw [← hp]; exact shape_congr (by rw [hw]; exact sw_other hjb (shape_lt hp))
  have hcon:=AnyQ.slices_SortFunc Tryz.sortFL 4 sortF_agg sortF_size enc hk hone cf' hO g #[] b 0 cap d.toArray X.w hent (by
      intro n os dk hdk a a'
      let X1:WS:={ w:=sortWorldK enc 4 X.w b 0 n dk os,L:=X.L,st:=fun _ => none,d:=X.w.drawn + n }
      have hsz:=size_sortWorldK_c enc 4 X.w b 0 n dk os
      have hg1:Go.Iv.Good ⟨prog,fun _ => none,B⟩ X1:=⟨fun _ _ h => (by cases h),fun _ _ h => (by cases h),Nat.le_trans hg.B hsz,fun j hj => hg.Lnew j (Nat.le_trans hsz hj),fun _ _ h => (by cases h),fun _ => Nat.le_refl _⟩
      have hm1:=hmono n dk os X1 rfl rfl
      have agg:∀ a:α,V B X1.L X1.w (.agg (enc a).toArray) a.1.1:=fun a => by
        obtain ⟨⟨x,vs⟩,hxm,hvx⟩:=a
        obtain ⟨cs,rfl⟩:∃ cs,x = .agg cs:=by
          have:=hx x hxm
          cases x <;> first | exact ⟨_,rfl⟩ | (simp [fits] at this)
        exact (show VL B X1.L X1.w vs cs from ⟨hvx.1,fun i r c hr hc => hm1 r c (hvx.2 i r c hr hc)⟩).agg
      refine (hcmp a.1.1 a.2.1 a'.1.1 a'.2.1 B X1 [.agg (enc a).toArray,.agg (enc a').toArray] hg1 rfl (VL.cons (agg a) (VL.cons (agg a') VL.nil))).mono ?_
      rintro e w' ⟨v,rfl,X',x,rfl,hg',he',hv',rfl⟩
      obtain rfl:=V.raw_inv hv'
      refine ⟨rfl,?_⟩
      have hd:=hg'.dr (fun _ => rfl)
      rw [he'.d] at hd
      exact below_drawn he' (fun _ => rfl) hd) hH hblk (by simp [hdl]; omega)
  have harr:(⟨[.slice (some ⟨b,0,none⟩) xs.length cap,.func (.func g) ⟨[]⟩ ⟨[]⟩]⟩:Array Value) = #[.slice (some ⟨b,0,none⟩) d.toArray.size cap,.func (.func g) #[] #[]]:=by simp [hdl]
  rw [harr]
  refine hcon.mono ?_
  rintro e w' ⟨rfl,d',n,os,hp,hs,rfl⟩
  have hd'l:d'.size = xs.length:=by rw [hp.1]; simp [hdl]
  have hperm:d'.toList.Perm d:=by
    have:=hp.2.2
    rw [List.size_toArray,hdl,← hd'l,Array.extract_size] at this
    rwa [hd'l,← hdl,show d.toArray.extract 0 d.length = d.toArray by simp] at this
  have hys:∀ y ∈ d'.toList.map (fun a => a.1.1),y ∈ xs:=fun y hy => by
    obtain ⟨a,_,rfl⟩:=List.mem_map.1 hy
    exact a.2.1
  have hblock:=sw_block (enc:=enc) (k:=4) (m:=n) (dk:=d') (os:=os) hh
  have hfs:(flatK enc 4 d').size = xs.length * 4:=by rw [size_flatK,hd'l]
  have hpl:(putCells id 0 (flatK enc 4 d') c).toList = d'.toList.flatMap enc ++ c.toList.drop (xs.length * 4):=by
    rw [putCells_list (by omega),flatK_list hk (by decide),hfs]
  let X':WS:={ w:=sortWorldK enc 4 X.w b 0 n d' os,L:=X.L,st:=X.st.put b (some (.box ((d'.toList.map (fun a => a.1.1)).flatMap IV.cells ++ rest))),d:=X.d }
  have hm:=hmono n d' os X' rfl rfl
  have hsz:=size_sortWorldK_c enc 4 X.w b 0 n d' os
  have hvlm:∀ rs cs,VL B X.L X.w rs cs → VL B X'.L X'.w rs cs:=fun rs cs h => ⟨h.1,fun i r x hr hx => hm r x (h.2 i r x hr hx)⟩
  have hgood:Go.Iv.Good ⟨prog,gl,B⟩ X':=by
    refine ⟨fun j o ho => ?_,fun j x hj => hm _ _ (hg.gl j x hj),Nat.le_trans hg.B hsz,fun j hj => hg.Lnew j (Nat.le_trans hsz hj),fun j x hj => ?_,fun hd => Nat.le_trans (hg.dr hd) (Nat.le_add_right _ _)⟩
    · by_cases hjb:j = b
      · subst hjb
        simp only [X',ISt.put_same,Option.some.injEq] at ho
        subst ho
        refine ⟨hL,_,T,hblock,hvlm _ _ ?_⟩
        rw [hpl]
        refine VL.append ?_ ?_
        · have key:∀ l:List α,VL B X.L X.w (l.flatMap enc) ((l.map fun a => a.1.1).flatMap IV.cells):=fun l => by
            induction l with
            | nil => exact VL.nil
            | cons a l ih => simp only [List.flatMap_cons,List.map_cons]; exact a.2.2.append ih
          exact key _
        · have:=hvl.drop (xs.length * 4)
          rwa [List.drop_left' (flat_length xs hcells)] at this
      · have ho':X.st j = some o:=by simpa only [X',ISt.put_apply,if_neg hjb] using ho
        exact (hg.ok j o ho').mono (sw_other hjb (hg.lt ho')) rfl hvlm
    · obtain ⟨T',z,hT⟩:=hg.gsh j x hj
      refine ⟨T',z,?_⟩
      by_cases hjb:j = b
      · subst hjb
        simp only [shq,hh] at hT
        simp only [shq,X',hblock]
        rw [← hT]
        simp [putCells]
      · rw [← hT]; exact shape_congr (sw_other hjb (shape_lt hT))
  refine ⟨_,rfl,X',.tup [],rfl,hgood,⟨rfl,rfl,rfl,hsz,fun _ => Nat.le_refl _,fun j i hi => ?_,fun j hj hs0 => ?_,fun j hj hs0 => ?_,fun j p hp => ?_,rfl⟩,.tup [] [] rfl (fun i r c h => by simp at h),rfl,_,?_,?_,rfl⟩
  · have hjb:j ≠ b:=by rintro rfl; rw [hL] at hi; omega
    have hjl:j < X.w.heap.size:=by
      rcases Nat.lt_or_ge j X.w.heap.size with h | h
      · exact h
      · rw [hg.Lnew j h] at hi; omega
    exact cell_congr (sw_other hjb hjl) i
  · have hjb:j ≠ b:=by rintro rfl; rw [hb] at hs0; cases hs0
    exact ⟨sw_other hjb hj,rfl⟩
  · have hjb:j ≠ b:=by rintro rfl; rw [hb] at hs0; cases hs0
    simp only [X',ISt.put_apply,if_neg hjb]; exact hs0
  · by_cases hjb:j = b
    · subst hjb
      simp only [shq,hh] at hp
      simp only [shq,X',hblock]
      rw [← hp]
      simp [putCells]
    · rw [← hp]; exact shape_congr (sw_other hjb (shape_lt hp))
  · have:=hperm.map (fun a:α => a.1.1)
    rwa [hd1] at this
  · rw [List.pairwise_map]
    refine List.pairwise_iff_getElem.2 fun i j hi hj hij => ?_
    have:=hs i j (Nat.zero_le _) hij (by simp at hj ⊢; omega)
    simp only [ltOf,decide_eq_false_iff_not] at this
    rw [Array.length_toList] at hi hj
    rw [getElem!_pos d' i hi,getElem!_pos d' j hj] at this
    exact this
end Go.Proofs.Tryz
