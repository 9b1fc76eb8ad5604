/- Walks: right formulas.
   Walks: Term, Right, Same. -/
import Derived.Test.YtckafgnkmnichaaGreatDoorJL
import Derived.Test.YtckafgnkmnichaaGreatDoorKF
set_option linter.all false
open Nat renaming reduceEqDiff → zE,reduceBEq → zB,reduceAdd → zA,reduceMul → zM,reduceSub → zS,reduceLeDiff → zL
attribute [local go_sem] Go.Iv.cf Go.Iv.setAt List.all_cons List.all_nil Bool.and_self Bool.true_and Bool.and_true Bool.false_and Bool.and_false Bool.not_true Bool.not_false List.mem_nil_iff if_false if_true beq_self_eq_true Nat.zero_add Nat.add_zero List.getElem?_cons_zero List.getElem?_cons_succ Option.map_some List.mem_cons or_false false_or or_true true_or Nat.sub_zero forall_const Int.toNat_natCast List.length_cons List.length_nil List.map_cons List.map_nil List.take_succ_cons List.take_zero List.drop_zero List.drop_succ_cons List.cons_append List.nil_append List.append_nil and_true true_and and_self true_implies List.zip_cons_cons List.zip_nil_left
namespace Go.Proofs.Tryz
open Go Go.Iv
set_option maxRecDepth 4000

def rowRight (op:Nat):Bool:=decide (1 ≤ op) && decide (op ≤ 14)
def rowSchema (op:Nat):Bool:=decide (1 ≤ op)
def rowName (op:Nat):Nat:=match op with | 1 => 1 | 8 => 2 | 9 => 2 | 15 => 3 | 16 => 3 | _ => 0
def rowArgs (op:Nat):Nat:=match op with | 1 => 4 | 16 => 2 | _ => 0
def rowSubs (op:Nat):Nat:=match op with | 3 => 1 | 4 => 2 | 5 => 2 | 6 => 2 | 7 => 2 | 8 => 1 | 9 => 1 | 10 => 1 | 11 => 1 | 12 => 1 | 13 => 1 | 14 => 2 | _ => 0
def rowI (op:Nat):List IV:=[.raw (.bool (rowRight op)),.raw (.bool (rowSchema op)),.raw (.int .u8 (rowName op)),.raw (.int .i64 (rowArgs op)),.raw (.int .i64 (rowSubs op))]
def rowsL:List IV:=(List.range 17).flatMap rowI
theorem rowsL_take (op:Nat) (h:op < 17):op * 5 + 5 ≤ rowsL.length ∧ (rowsL.drop (op * 5)).take 5 = rowI op:=by
  match op,h with
  | 0,_ => exact ⟨by decide,rfl⟩ | 1,_ => exact ⟨by decide,rfl⟩ | 2,_ => exact ⟨by decide,rfl⟩ | 3,_ => exact ⟨by decide,rfl⟩ | 4,_ => exact ⟨by decide,rfl⟩ | 5,_ => exact ⟨by decide,rfl⟩
  | 6,_ => exact ⟨by decide,rfl⟩ | 7,_ => exact ⟨by decide,rfl⟩ | 8,_ => exact ⟨by decide,rfl⟩ | 9,_ => exact ⟨by decide,rfl⟩ | 10,_ => exact ⟨by decide,rfl⟩ | 11,_ => exact ⟨by decide,rfl⟩
  | 12,_ => exact ⟨by decide,rfl⟩ | 13,_ => exact ⟨by decide,rfl⟩ | 14,_ => exact ⟨by decide,rfl⟩ | 15,_ => exact ⟨by decide,rfl⟩ | 16,_ => exact ⟨by decide,rfl⟩
  | k + 17,h => omega
theorem okRow_eq (op:Nat) (n:ByteArray) (la ls:Nat):okRow op n la ls = (((decide (op < 17) && rowRight op) && namedB (rowName op) n) && decide (la ≤ rowArgs op) && decide (ls = rowSubs op)):=by
  match op with
  | 0 => simp [okRow,rowRight]
  | 1 => simp [okRow,rowRight,rowName,rowArgs,rowSubs,namedB]
  | 2 => simp [okRow,rowRight,rowName,rowArgs,rowSubs,namedB]
  | 3 => simp [okRow,rowRight,rowName,rowArgs,rowSubs,namedB]
  | 4 => simp [okRow,rowRight,rowName,rowArgs,rowSubs,namedB]
  | 5 => simp [okRow,rowRight,rowName,rowArgs,rowSubs,namedB]
  | 6 => simp [okRow,rowRight,rowName,rowArgs,rowSubs,namedB]
  | 7 => simp [okRow,rowRight,rowName,rowArgs,rowSubs,namedB]
  | 8 => simp [okRow,rowRight,rowName,rowArgs,rowSubs,namedB]
  | 9 => simp [okRow,rowRight,rowName,rowArgs,rowSubs,namedB]
  | 10 => simp [okRow,rowRight,rowName,rowArgs,rowSubs,namedB]
  | 11 => simp [okRow,rowRight,rowName,rowArgs,rowSubs,namedB]
  | 12 => simp [okRow,rowRight,rowName,rowArgs,rowSubs,namedB]
  | 13 => simp [okRow,rowRight,rowName,rowArgs,rowSubs,namedB]
  | 14 => simp [okRow,rowRight,rowName,rowArgs,rowSubs,namedB]
  | 15 => simp [okRow,rowRight]
  | 16 => simp [okRow,rowRight]
  | op + 17 => simp [okRow,rowRight]

structure Gl (gl:Nat → Option IV):Prop where
  rows:gl 0 = some (.agg rowsL)

def fmR (f:Fm) (l d dep:Int):Bool:=decide ((f.size:Int) ≤ l) && decide (dep + f.deep ≤ d + 1) && f.ok
def fmsR (f:List Fm) (l d dep:Int):Bool:=decide ((sizeFms f:Int) ≤ l) && decide (deepFms f = 0 ∨ dep + deepFms f ≤ d + 1) && okFms f
theorem fmsR_nil (l d dep:Int) (h:0 ≤ l):fmsR [] l d dep = true:=by simp [fmsR,sizeFms,deepFms,okFms,h]
theorem fmsR_cons (a:Fm) (m:List Fm) (l d dep:Int):fmsR (a :: m) l d dep = (fmR a l d dep && fmsR m (l - a.size) d dep):=by
  rw [Bool.eq_iff_iff]
  have h1:=a.deep_pos
  simp only [fmsR,fmR,Bool.and_eq_true,decide_eq_true_eq]
  simp only [sizeFms,deepFms,okFms,Bool.and_eq_true]
  constructor
  · rintro ⟨⟨h2,h3⟩,h4,h5⟩
    refine ⟨⟨⟨by omega,by omega⟩,h4⟩,⟨by omega,by omega⟩,h5⟩
  · rintro ⟨⟨⟨h2,h3⟩,h4⟩,⟨h5,h6⟩,h7⟩
    exact ⟨⟨by omega,by omega⟩,h4,h7⟩
theorem fmsR_append (a m:List Fm) (l d dep:Int) (h0:0 ≤ l):fmsR (a ++ m) l d dep = (fmsR a l d dep && fmsR m (l - sizeFms a) d dep):=by
  induction a generalizing l with
  | nil =>
    rw [fmsR_nil _ _ _ h0]
    simp only [List.nil_append,sizeFms,Int.natCast_zero,Int.sub_zero,Bool.true_and]
  | cons x a ih =>
    rw [List.cons_append,fmsR_cons,fmsR_cons]
    by_cases hx:fmR x l d dep = true
    · have:(x.size:Int) ≤ l:=by simp only [fmR,Bool.and_eq_true,decide_eq_true_eq] at hx; exact hx.1.1
      rw [ih _ (by omega),Bool.and_assoc]
      congr 3
      simp only [sizeFms]; omega
    · rw [Bool.not_eq_true] at hx; rw [hx]; rfl
theorem fmR_eq (op:Nat) (n:ByteArray) (m:List Tm) (sub:List Fm) (l d dep:Int):fmR (.mk op n m sub) l d dep =
    ((decide (1 ≤ l) && decide (dep ≤ d)) && okRow op n m.length sub.length && tmsR m (l - 1) d (dep + 1) && fmsR sub (l - 1 - sizeTms m) d (dep + 1)):=by
  rw [Bool.eq_iff_iff]
  simp only [fmR,tmsR,fmsR,Bool.and_eq_true,decide_eq_true_eq]
  simp only [Fm.size,Fm.deep,Fm.ok,Bool.and_eq_true]
  constructor
  · rintro ⟨⟨h2,h3⟩,⟨h4,h5⟩,h6⟩
    exact ⟨⟨⟨⟨by omega,by omega⟩,h4⟩,⟨⟨by omega,by omega⟩,h5⟩⟩,⟨by omega,by omega⟩,h6⟩
  · rintro ⟨⟨⟨⟨h1,h2⟩,h4⟩,⟨⟨h7,h8⟩,h5⟩⟩,⟨h9,h10⟩,h6⟩
    exact ⟨⟨by omega,by omega⟩,⟨h4,h5⟩,h6⟩
variable (gl:Nat → Option IV)

def JF (f:Fm):Prop:=∀ (x:IV) (_:IsFm f x) (b:Nat) (st:ISt) (l d dep:Int) (_:st b = jBox l d) (_:0 ≤ l) (_:l ≤ 9223372036854775807) (_:0 ≤ dep) (_:dep + f.size ≤ 4611686018427387904),
    ICall prog gl 128 [.raw (.pointer (some ⟨b,0,none⟩)),x,.raw (.int .i64 dep)] st (jPost b st l d (fmR f l d dep) f.size)
theorem jform_step (G:Gl gl) (op:Nat) (n:ByteArray) (us:List Tm) (sub:List Fm) (IH:∀ a ∈ sub,JF gl a) (x:IV) (hx:IsFm (.mk op n us sub) x) (b:Nat) (st:ISt) (l d dep:Int) (hb:st b = jBox l d) (h0:0 ≤ l) (h1:l ≤ 9223372036854775807)
    (h2:0 ≤ dep) (h3:dep + (Fm.mk op n us sub).size ≤ 4611686018427387904) :
    ICall prog gl 128 [.raw (.pointer (some ⟨b,0,none⟩)),x,.raw (.int .i64 dep)] st (jPost b st l d (fmR (.mk op n us sub) l d dep) (Fm.mk op n us sub).size):=by
  obtain ⟨tg,xs,tg',ys,rfl,hop,htg,hxs,htg',hys⟩:=hx.mk
  have hGr:=G.rows
  refine ICall.intro (c:=cf prog gl [] []) func128 rfl (by show _ ≤ 90; simp) (by kernel_rfl) ?_
  simp -implicitDefEqProofs -dsimp only [go_sem,↓reduceIte,zE,zB,zA,zM,zS,zL,reduceCtorEq]
  refine (node_c gl b _ l d dep hb h0 h1).mono ?_
  rintro _ _ ⟨rfl,rfl⟩
  have hret:∀ r,r = false → fmR (.mk op n us sub) l d dep = r → ∀ l',outK (jPost b st l d (fmR (.mk op n us sub) l d dep) (Fm.mk op n us sub).size) (.raw (.bool false)) (st.put b (jBox l' d)):=by
    rintro r rfl hr l'
    exact outK_self ⟨by rw [hr],l',rfl,fun h => by rw [hr] at h; cases h⟩
  cases hn:(decide (1 ≤ l) && decide (dep ≤ d))
  · simp -implicitDefEqProofs -dsimp only [go_sem,↓reduceIte,zE,zB,zA,zM,zS,zL,reduceCtorEq]
    exact hret _ rfl (by simp [fmR_eq,hn]) _
  have hn':1 ≤ l ∧ dep ≤ d:=by simpa using hn
  have hcv:=convI_int prog 5 3 int_5 int_3 .u8 op
  have hwo:IntKind.i64.wrap (op:Int) = (op:Int):=w64 (by omega) (by omega)
  by_cases ho:op < 17
  · have ho':decide ((17:Int) ≤ (op:Int)) = false:=decide_eq_false (by omega)
    have hcond:(0:Int) ≤ (op:Int):=by omega
    obtain ⟨hr1,hr2⟩:=rowsL_take op ho
    cases hrt:rowRight op
    · simp -implicitDefEqProofs -dsimp only [go_sem,↓reduceIte,zE,zB,zA,zM,zS,zL,reduceCtorEq,hcv,hwo,ho',hGr,hcond,ho,hr1,hr2,rowI,hrt,fits,ISt.put_same,jBox]
      exact hret _ rfl (by simp [fmR_eq,okRow_eq,hrt]) _
    have hnm:rowName op ≤ 2:=by
      simp only [rowRight,Bool.and_eq_true,decide_eq_true_eq] at hrt
      match op,hrt with
      | 1,_ => decide | 2,_ => decide | 3,_ => decide | 4,_ => decide | 5,_ => decide | 6,_ => decide | 7,_ => decide | 8,_ => decide | 9,_ => decide | 10,_ => decide | 11,_ => decide | 12,_ => decide | 13,_ => decide | 14,_ => decide
      | 0,h => omega
      | k + 15,h => omega
    have h16:decide ((op:Int) = 16) = false:=by
      simp only [rowRight,Bool.and_eq_true,decide_eq_true_eq] at hrt
      exact decide_eq_false (by omega)
    simp -implicitDefEqProofs -dsimp only [go_sem,↓reduceIte,zE,zB,zA,zM,zS,zL,reduceCtorEq,hcv,hwo,ho',hGr,hcond,ho,hr1,hr2,rowI,hrt,fits]
    refine (named_c gl _ hnm n _).mono ?_
    rintro _ _ ⟨rfl,rfl⟩
    cases hnb:namedB (rowName op) n
    · simp -implicitDefEqProofs -dsimp only [go_sem,↓reduceIte,zE,zB,zA,zM,zS,zL,reduceCtorEq]
      exact hret _ rfl (by simp [fmR_eq,okRow_eq,hnb]) _
    by_cases hla:us.length ≤ rowArgs op
    case neg =>
      have hla':decide (((rowArgs op:Nat):Int) < ((us.length:Nat):Int)) = true:=decide_eq_true (by omega)
      simp -implicitDefEqProofs -dsimp only [go_sem,↓reduceIte,zE,zB,zA,zM,zS,zL,reduceCtorEq,hxs.len,hla']
      intro _
      exact hret _ rfl (by simp [fmR_eq,okRow_eq,hla]) _
    have hla':decide (((rowArgs op:Nat):Int) < ((us.length:Nat):Int)) = false:=decide_eq_false (by omega)
    by_cases hls:sub.length = rowSubs op
    case neg =>
      have hls':decide (((sub.length:Nat):Int) = ((rowSubs op:Nat):Int)) = false:=decide_eq_false (by omega)
      simp -implicitDefEqProofs -dsimp only [go_sem,↓reduceIte,zE,zB,zA,zM,zS,zL,reduceCtorEq,hxs.len,hla',hys.len,hls']
      intro _ _
      exact hret _ rfl (by simp [fmR_eq,okRow_eq,hls]) _
    have hls':decide (((sub.length:Nat):Int) = ((rowSubs op:Nat):Int)) = true:=decide_eq_true (by omega)
    have hok:okRow op n us.length sub.length = true:=by simp [okRow_eq,hrt,hnb,hla,hls,ho]
    simp only [Fm.size] at h3
    have hw:IntKind.i64.wrap (dep + 1) = dep + 1:=w64 (by omega) (by omega)
    simp -implicitDefEqProofs -dsimp only [go_sem,↓reduceIte,zE,zB,zA,zM,zS,zL,reduceCtorEq,hxs.len,hla',hys.len,hls',h16,hw]
    intro _ hsl
    refine (jterms_c gl us tg xs htg hxs b _ (l - 1) d (dep + 1) (ISt.put_same _ _ _) (by omega) (by omega) (by omega) (by omega)).mono ?_
    rintro _ _ ⟨rfl,l',rfl,hl'⟩
    cases hts:tmsR us (l - 1) d (dep + 1)
    · simp -implicitDefEqProofs -dsimp only [go_sem,↓reduceIte,zE,zB,zA,zM,zS,zL,reduceCtorEq,put_put_same]
      exact hret _ rfl (by simp [fmR_eq,hts]) _
    have hl2:=hl' hts
    subst hl2
    have hle1:(sizeTms us:Int) ≤ l - 1:=by simp only [tmsR,Bool.and_eq_true,decide_eq_true_eq] at hts; exact hts.1.1
    simp -implicitDefEqProofs -dsimp only [go_sem,↓reduceIte,zE,zB,zA,zM,zS,zL,reduceCtorEq,hys.len,put_put_same]
    intro _
    refine LoopC.ctr sub.length (fun k fr st' ds => fmsR (sub.take k) (l - 1 - sizeTms us) d (dep + 1) = true ∧ fr 0 = .iv (.raw (.pointer (some ⟨b,0,none⟩))) ∧ fr 2 = .iv (.raw (.int .i64 dep)) ∧ fr 77 = .iv (.sl tg' ys) ∧
      fr 78 = .iv (.raw (.int .i64 sub.length)) ∧ fr 79 = .iv (.raw (.int .i64 k)) ∧ st' = st.put b (jBox (l - 1 - sizeTms us - sizeFms (sub.take k)) d) ∧ ds = []) ?_ ?_ ?_
    · have:l - 1 - (sizeTms us:Int) - (sizeFms ([]:List Fm):Int) = l - 1 - sizeTms us:=by simp [sizeFms]
      simp -implicitDefEqProofs -dsimp only [go_sem,↓reduceIte,zE,zB,zA,zM,zS,zL,reduceCtorEq,this]
      simp [fmsR,sizeFms,deepFms,okFms]; omega
    · rintro k fr _ ds hlt ⟨hn2,f0,f2,f77,f78,f79,rfl,rfl⟩
      obtain ⟨a,ha⟩:=get_of_lt hlt
      obtain ⟨x,hkx,hx⟩:=hys.get ha
      obtain ⟨hs1,hs2⟩:=sizeFms_take ha
      obtain ⟨op2,n2,us2,sub2⟩:=a
      obtain ⟨t1,x1,t2,x2,rfl,_⟩:=hx.mk
      have hle:(sizeFms (sub.take k):Int) ≤ l - 1 - sizeTms us:=by simp only [fmsR,Bool.and_eq_true,decide_eq_true_eq] at hn2; exact hn2.1.1
      simp -implicitDefEqProofs -dsimp only [go_sem,↓reduceIte,zE,zB,zA,zM,zS,zL,reduceCtorEq,f0,f2,f77,f78,f79,lt_i hlt,reTag_es htg',Int.natCast_nonneg,hkx,w_succ hlt (by omega),hw]
      refine (IH _ (List.mem_of_getElem? ha) _ hx b _ (l - 1 - sizeTms us - sizeFms (sub.take k)) d (dep + 1) (ISt.put_same _ _ _) (by omega) (by omega) (by omega) (by omega)).mono ?_
      rintro _ _ ⟨rfl,l',rfl,hl'⟩
      cases hr:fmR (.mk op2 n2 us2 sub2) (l - 1 - sizeTms us - sizeFms (sub.take k)) d (dep + 1)
      · simp -implicitDefEqProofs -dsimp only [go_sem,↓reduceIte,zE,zB,zA,zM,zS,zL,reduceCtorEq,put_put_same]
        refine hret _ rfl ?_ _
        have hf:fmsR sub (l - 1 - sizeTms us) d (dep + 1) = false:=by
          rw [← List.take_append_drop k sub,List.drop_eq_getElem_cons hlt]
          rw [fmsR_append _ _ _ _ _ (by omega),(List.getElem?_eq_some_iff.1 ha).2,fmsR_cons,hr]; simp
        simp [fmR_eq,hf]
      · have hl2:=hl' hr
        subst hl2
        simp -implicitDefEqProofs -dsimp only [go_sem,↓reduceIte,zE,zB,zA,zM,zS,zL,reduceCtorEq,f0,f2,f77,f78,f79,w_succ hlt (by omega),put_put_same]
        refine ⟨?_,?_⟩
        · rw [take_get ha,fmsR_append _ _ _ _ _ (by omega),hn2,fmsR_cons,hr]
          simp only [fmR,Bool.and_eq_true,decide_eq_true_eq] at hr
          simp [fmsR,sizeFms,deepFms,okFms]; omega
        · rw [hs1]; congr 2; omega
    · rintro fr _ ds ⟨hn2,f0,f2,f77,f78,f79,rfl,rfl⟩
      simp -implicitDefEqProofs -dsimp only [go_sem,↓reduceIte,zE,zB,zA,zM,zS,zL,reduceCtorEq,f78,f79,nlt_i (Nat.lt_irrefl _)]
      rw [List.take_length] at hn2
      refine outK_self ⟨by simp [fmR_eq,hn,hok,hts,hn2],_,rfl,?_⟩
      intro _
      rw [List.take_length]; simp only [Fm.size]; omega
  · have ho':decide ((17:Int) ≤ (op:Int)) = true:=decide_eq_true (by omega)
    simp -implicitDefEqProofs -dsimp only [go_sem,↓reduceIte,zE,zB,zA,zM,zS,zL,reduceCtorEq,hcv,hwo,ho']
    exact hret _ rfl (by simp [fmR_eq,okRow_eq,ho]) _
theorem jform_all (G:Gl gl):∀ (k:Nat) (f:Fm),SizeOf.sizeOf f < k → JF gl f
  | 0,f,h => by omega
  | k + 1,.mk op n us sub,h => fun x hx b st l d dep => jform_step gl G op n us sub (fun a ha => jform_all G k a (by
      have:=List.sizeOf_lt_of_mem ha
      simp at h; omega)) x hx b st l d dep
theorem jform_c (G:Gl gl) (f:Fm):JF gl f:=jform_all gl G _ f (Nat.lt_succ_self _)
end Go.Proofs.Tryz

namespace Go.Proofs.Tryz
open Go Go.Iv
set_option maxRecDepth 4000
variable (gl:Nat → Option IV)

theorem Term_c (t:Tm) (x:IV) (hx:IsTm t x) (hs:t.size ≤ 1000000) (st:ISt):ICall prog gl 153 [x] st (fun x st' => x = .raw (.bool t.ok) ∧ st' = st):=by
  obtain ⟨v,n,us⟩:=t
  obtain ⟨tg,xs,rfl,_⟩:=hx.mk
  refine ICall.intro (c:=cf prog gl [3] []) func153 rfl (by show _ ≤ 7; simp) (by kernel_rfl) ?_
  simp -implicitDefEqProofs -dsimp only [go_sem,↓reduceIte,zE,zB,zA,zM,zS,zL,reduceCtorEq,Nat.reduceLeDiff,decide_true]
  refine fun b => giv_intro fun hb => ?_
  simp -implicitDefEqProofs -dsimp only [go_sem,↓reduceIte,zE,zB,zA,zM,zS,zL,reduceCtorEq,ISt.put_same,put_put_same]
  refine (jterm_c gl v n us _ hx b _ 9223372036854775807 9223372036854775807 1 (ISt.put_same _ _ _) (by omega) (by omega) (by omega) (by omega)).mono ?_
  rintro _ _ ⟨rfl,l',rfl,_⟩
  simp -implicitDefEqProofs -dsimp only [go_sem,↓reduceIte,zE,zB,zA,zM,zS,zL,reduceCtorEq]
  have hd:=Tm.deep_le (.mk v n us)
  refine outK_sub (st':=st) ?_ ⟨?_,rfl⟩
  · intro c o hc
    rw [ISt.put_apply,ISt.put_apply]
    split
    · rename_i h; rw [h,hb] at hc; cases hc
    · exact hc
  · simp only [tmR]
    rw [decide_eq_true (by omega),decide_eq_true (by omega)]; simp

theorem Right_c (G:Gl gl) (f:Fm) (x:IV) (hx:IsFm f x) (st:ISt) (hs:f.size ≤ 1000000):ICall prog gl 78 [x] st (fun x st' => x = .raw (.bool f.right) ∧ st' = st):=by
  obtain ⟨op,n,us,sub⟩:=f
  obtain ⟨tg,xs,tg',ys,rfl,_⟩:=hx.mk
  refine ICall.intro (c:=cf prog gl [3] []) func78 rfl (by show _ ≤ 7; simp) (by kernel_rfl) ?_
  simp -implicitDefEqProofs -dsimp only [go_sem,↓reduceIte,zE,zB,zA,zM,zS,zL,reduceCtorEq,Nat.reduceLeDiff,decide_true]
  refine fun b => giv_intro fun hb => ?_
  simp -implicitDefEqProofs -dsimp only [go_sem,↓reduceIte,zE,zB,zA,zM,zS,zL,reduceCtorEq,ISt.put_same,put_put_same]
  refine (jform_c gl G _ _ hx b _ 400 40 1 (ISt.put_same _ _ _) (by omega) (by omega) (by omega) (by omega)).mono ?_
  rintro _ _ ⟨rfl,l',rfl,_⟩
  simp -implicitDefEqProofs -dsimp only [go_sem,↓reduceIte,zE,zB,zA,zM,zS,zL,reduceCtorEq]
  refine outK_sub (st':=st) ?_ ⟨?_,rfl⟩
  · intro c o hc
    rw [ISt.put_apply,ISt.put_apply]
    split
    · rename_i h; rw [h,hb] at hc; cases hc
    · exact hc
  · congr 2
    rw [Bool.eq_iff_iff]
    simp only [fmR,Fm.right,Bool.and_eq_true,decide_eq_true_eq]
    constructor
    · rintro ⟨⟨h1,h2⟩,h3⟩; exact ⟨⟨h3,by omega⟩,by omega⟩
    · rintro ⟨⟨h3,h1⟩,h2⟩; exact ⟨⟨by omega,by omega⟩,h3⟩
end Go.Proofs.Tryz
