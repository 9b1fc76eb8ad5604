/- Walks of the second program: decimal, Fresh. -/
import Derived.Test.YtknaeibenggbmaaGreatDoorKM
set_option linter.all false
namespace Go.Proofs.Tryz
open Go Go.Iv
set_option maxRecDepth 4000
open Nat renaming reduceEqDiff → zE, reduceBEq → zB, reduceAdd → zA, reduceMul → zM, reduceSub → zS, reduceLeDiff → zL
attribute [local go_sem] cf setAt List.all_cons List.all_nil Bool.and_self Bool.true_and Bool.and_true Bool.false_and Bool.and_false Bool.not_true Bool.not_false List.mem_nil_iff if_false if_true beq_self_eq_true Nat.zero_add Nat.add_zero List.getElem?_cons_zero List.getElem?_cons_succ Option.map_some List.mem_cons or_false false_or or_true true_or Nat.sub_zero forall_const Int.toNat_natCast List.length_cons List.length_nil List.map_cons List.map_nil List.take_succ_cons List.take_zero List.drop_zero List.drop_succ_cons List.cons_append List.nil_append List.append_nil and_true true_and and_self true_implies List.zip_cons_cons List.zip_nil_left
variable (gl : Nat → Option IV)

def RD (n : Nat) : Prop := n ≤ 9223372036854775000 → ∀ (st : ISt), ICall prog gl 85 [.raw (.int .i64 n)] st (fun r st' => r = .raw (.string ⟨(Lib.decDigits n).toArray⟩) ∧ st' = st)
theorem dec_rem (n : Nat) (hn : n ≤ 9223372036854775000) : (if (10 : Int) = 0 then none else some (Value.int .i64 (((n : Nat) : Int).tmod 10))) = some (Value.int .i64 ((n % 10 : Nat) : Int)) := by
  rw [if_neg (by decide), show (((n : Nat) : Int).tmod 10) = ((n % 10 : Nat) : Int) from rfl]
theorem dec_quo (n : Nat) (hn : n ≤ 9223372036854775000) : (if (10 : Int) = 0 then none else some (Value.int .i64 (IntKind.i64.wrap (((n : Nat) : Int).tdiv 10)))) = some (Value.int .i64 ((n / 10 : Nat) : Int)) := by
  rw [if_neg (by decide), show (((n : Nat) : Int).tdiv 10) = ((n / 10 : Nat) : Int) from rfl, w64] <;> omega
theorem decimal_step (n : Nat) (IH : ∀ m, m < n → RD gl m) : RD gl n := by
  intro hn st
  have e0 : (#[] : Array UInt8).size ≤ 281474976710656 := by decide
  refine ICall.intro (c := cf prog gl [] []) func85 rfl (by show _ ≤ 18; simp) (by kernel_rfl) ?_
  simp -implicitDefEqProofs -dsimp only [go_sem, ↓reduceIte, zE, zB, zA, zM, zS, zL, reduceCtorEq, fits, e0]
  rw [dec_rem n hn]
  obtain ⟨d, hd⟩ : ∃ d : UInt8, d = UInt8.ofNat (48 + n % 10) := ⟨_, rfl⟩
  have hadd : IntKind.i64.wrap (48 + ((n % 10 : Nat) : Int)) = ((48 + n % 10 : Nat) : Int) := by rw [w64] <;> omega
  have hdn : d.toNat = 48 + n % 10 := by rw [hd, UInt8.toNat_ofNat']; omega
  have hu : IntKind.u8.wrap ((48 + n % 10 : Nat) : Int) = ((d.toNat : Nat) : Int) := by
    rw [hdn]; exact IntWalk.u8_in _ (by omega)
  have i3 : intK prog 3 = some .i64 := by kernel_rfl
  have i5 : intK prog 5 = some .u8 := by kernel_rfl
  have hconv := convI_int prog 3 5 i3 i5 .i64 ((48 + n % 10 : Nat) : Int)
  rw [hu] at hconv
  have hbd : ((some [d]).bind fun l => if l = [] then none else some (IV.raw (Value.string ⟨l.toArray⟩))) = some (IV.raw (Value.string ⟨[d].toArray⟩)) := by simp
  simp -implicitDefEqProofs -dsimp only [go_sem, ↓reduceIte, zE, zB, zA, zM, zS, zL, reduceCtorEq, fits, hadd, hconv, hbd, inOrder_one]
  by_cases h10 : n < 10
  · simp -implicitDefEqProofs -dsimp only [go_sem, ↓reduceIte, zE, zB, zA, zM, zS, zL, reduceCtorEq, fits, show decide (((n : Nat) : Int) < 10) = true from decide_eq_true (by omega)]
    refine outK_self ⟨?_, rfl⟩
    rw [Lib.decDigits, dif_pos h10, hd, Nat.mod_eq_of_lt h10]
  · simp -implicitDefEqProofs -dsimp only [go_sem, ↓reduceIte, zE, zB, zA, zM, zS, zL, reduceCtorEq, fits, show decide (((n : Nat) : Int) < 10) = false from decide_eq_false (by omega)]
    rw [dec_quo n hn]
    simp -implicitDefEqProofs -dsimp only [go_sem, ↓reduceIte, zE, zB, zA, zM, zS, zL, reduceCtorEq, fits]
    refine (IH (n / 10) (by omega) (by omega) _).mono ?_
    rintro _ st ⟨rfl, rfl⟩
    simp -implicitDefEqProofs -dsimp only [go_sem, ↓reduceIte, zE, zB, zA, zM, zS, zL, reduceCtorEq, fits]
    have hsz : (Lib.decDigits (n / 10)).toArray.size + #[d].size ≤ 281474976710656 := by
      have h1 := nDigits_le 18 (n / 10) (by omega)
      simp only [List.size_toArray, Lib.decDigits_length, List.length_cons, List.length_nil]
      omega
    have happ : (⟨(Lib.decDigits (n / 10)).toArray⟩ : ByteArray) ++ ⟨#[d]⟩ = ⟨(Lib.decDigits n).toArray⟩ := by
      refine ba_ext ?_
      rw [ByteArray.data_append]
      conv => rhs; rw [Lib.decDigits, dif_neg h10]
      simp [hd]
    simp -implicitDefEqProofs -dsimp only [go_sem, ↓reduceIte, zE, zB, zA, zM, zS, zL, reduceCtorEq, fits, hsz, happ]
    exact outK_self ⟨rfl, rfl⟩
theorem decimal_c : ∀ (n : Nat), RD gl n := by
  intro n
  induction n using Nat.strongRecOn with
  | ind n IH => exact decimal_step gl n (fun m hm => IH m hm)
theorem rFresh_c (tg : Tag) (htg : okEs tg 1) (l : List ByteArray) (hl : l.length ≤ 1099511627776) (st : ISt) :
    ICall prog gl 49 [.sl tg (strI l)] st (fun r st' => r = .raw (.string (leastN l)) ∧ st' = st) := by
  obtain ⟨s1, s2, s3, s4⟩ := leastK_spec l
  have e0 : (#[] : Array UInt8).size ≤ 281474976710656 := by decide
  have e1 : (#[120] : Array UInt8).size ≤ 281474976710656 := by decide
  have hcat : ∀ n : Nat, n ≤ 2199023255552 → (#[120] : Array UInt8).size + (Lib.decDigits n).toArray.size ≤ 281474976710656 := fun n hn => by
    have h1 := nDigits_le 18 n (by omega)
    simp only [List.size_toArray, Lib.decDigits_length, List.length_cons, List.length_nil]
    omega
  refine ICall.intro (c := cf prog gl [] []) func49 rfl (by show _ ≤ 14; simp) (by kernel_rfl) ?_
  simp -implicitDefEqProofs -dsimp only [go_sem, ↓reduceIte, zE, zB, zA, zM, zS, zL, reduceCtorEq, fits, e0]
  refine LoopC.ctr (leastK l - 1) (fun k fr st' ds => fr 0 = .iv (.sl tg (strI l)) ∧ fr 3 = .iv (.raw (.int .i64 ((k + 1 : Nat) : Int))) ∧ st' = st ∧ ds = []) ?_ ?_ ?_
  · simp -implicitDefEqProofs -dsimp only [go_sem, ↓reduceIte, zE, zB, zA, zM, zS, zL, reduceCtorEq]
    rfl
  · rintro k fr st _ hlt ⟨f0, f3, rfl, rfl⟩
    have hc := hcat (k + 1) (by omega)
    have hw : IntKind.i64.wrap (((k + 1 : Nat) : Int) + 1) = ((k + 1 + 1 : Nat) : Int) := by rw [w64] <;> omega
    simp -implicitDefEqProofs -dsimp only [go_sem, ↓reduceIte, zE, zB, zA, zM, zS, zL, reduceCtorEq, f0, f3, fits]
    refine (decimal_c gl (k + 1) (by omega) _).mono ?_
    rintro _ st ⟨rfl, rfl⟩
    simp -implicitDefEqProofs -dsimp only [go_sem, ↓reduceIte, zE, zB, zA, zM, zS, zL, reduceCtorEq, f0, f3, fits, e1, hc, xName_eq]
    refine (Has_c gl tg l _ htg (by omega) _).mono ?_
    rintro _ st ⟨rfl, rfl⟩
    have hh : hasB l (xName (k + 1)) = true := hasB_true.2 (s4 (k + 1) (by omega) (by omega))
    simp -implicitDefEqProofs -dsimp only [go_sem, ↓reduceIte, zE, zB, zA, zM, zS, zL, reduceCtorEq, f0, f3, hh, hw]
  · rintro fr st _ ⟨f0, f3, rfl, rfl⟩
    rw [show leastK l - 1 + 1 = leastK l by omega] at f3
    have hc := hcat (leastK l) (by omega)
    simp -implicitDefEqProofs -dsimp only [go_sem, ↓reduceIte, zE, zB, zA, zM, zS, zL, reduceCtorEq, f0, f3, fits]
    refine (decimal_c gl (leastK l) (by omega) _).mono ?_
    rintro _ st ⟨rfl, rfl⟩
    simp -implicitDefEqProofs -dsimp only [go_sem, ↓reduceIte, zE, zB, zA, zM, zS, zL, reduceCtorEq, f0, f3, fits, e1, hc, xName_eq]
    refine (Has_c gl tg l _ htg (by omega) _).mono ?_
    rintro _ st ⟨rfl, rfl⟩
    have hh : hasB l (xName (leastK l)) = false := hasB_false.2 s3
    simp -implicitDefEqProofs -dsimp only [go_sem, ↓reduceIte, zE, zB, zA, zM, zS, zL, reduceCtorEq, f0, f3, hh]
    refine (decimal_c gl (leastK l) (by omega) _).mono ?_
    rintro _ st ⟨rfl, rfl⟩
    simp -implicitDefEqProofs -dsimp only [go_sem, ↓reduceIte, zE, zB, zA, zM, zS, zL, reduceCtorEq, f0, f3, fits, e1, hc, xName_eq]
    exact outK_self ⟨rfl, rfl⟩
end Go.Proofs.Tryz
