/- From a row's reading to ideal values, part 4: lists of strings. -/
import Derived.Test.YtknaeibenggbmaaGreatDoorKE
set_option linter.all false
namespace Go.Proofs.Tryz
open Go Go.Iv Go.ChangeShapes
open Go.Proofs.YtknaeibenggbmaaGreatDoor.Rows (uptoBulk uptoBulkAll)
set_option maxRecDepth 4000
theorem uStrs : prog.underlying 45 = some (.slice 9) := by kernel_rfl
section
variable {H : Type} {enc : TypeId × Value → H} {w : World} {spare : Nat → Bool} {held : Bool}
def RSt (d : DataW H) (s : ByteArray) (x : IV) : Prop := x = .raw (.string s)
theorem RSt.cells {d : DataW H} {t : ByteArray} {x : IV} (h : RSt d t x) : x.cells.length = 1 := by
  unfold RSt at h; subst h; rfl
theorem strs_of {fuel : Nat} {cs : List Value} {y : DataW H × List MemPlace} (h : DataW.trod enc prog w 0 spare held fuel 45 cs = some y) (hb : uptoBulk y.1 ≤ 1048576) :
    ∃ (v : Value) (tg : Tag) (_ : Unit) (l : List ByteArray), cs = [v] ∧ V 0 (L0 w) w v (.sl tg (strI l)) ∧ okEs tg 1 ∧ True ∧ l.length ≤ 1048576 := by
  obtain ⟨v, tg, xs, ts, rfl, hv, htg, hl, hc⟩ := open_sl (H := H) (P := prog) (d := y.1) (p := y.2) RSt uStrs nString (by decide) h (fun elems sp e => by
      have := slice_le elems sp; have := length_le elems; rw [← e] at *; omega) (fun d t x h => h.cells) (fun n hn cs' z q ⟨elems, sp, he, hm⟩ hz => by
      have := slice_le elems sp
      have := part_le hm
      rw [he] at hb
      obtain ⟨s, rfl, hs, _⟩ := str_of hz (show uptoBulk z ≤ 1048576 by omega)
      exact ⟨s, .raw (.string s), VL.cons hs VL.nil, rfl⟩)
  have hx : xs = strI ts := by
    rcases hc with ⟨hd, rfl⟩ | ⟨elems, sp, hd, hel, hr⟩
    · obtain rfl : ts = [] := List.length_eq_zero_iff.1 (by simpa using hl)
      rfl
    · apply List.ext_getElem?
      intro i
      by_cases hi : i < xs.length
      · have e1 := List.getElem?_eq_getElem hi
        have e2 := List.getElem?_eq_getElem (show i < ts.length by omega)
        have e3 := List.getElem?_eq_getElem (show i < elems.length by omega)
        have := hr i _ _ _ e3 e2 e1
        rw [e1, strI_get e2]
        exact congrArg some this
      · rw [List.getElem?_eq_none (by omega), List.getElem?_eq_none (by rw [strI_length]; omega)]
  subst hx
  refine ⟨v, tg, (), ts, rfl, hv, htg, trivial, ?_⟩
  rcases hc with ⟨hd, h0⟩ | ⟨elems, sp, hd, hel, hr⟩
  · rw [hl, h0]; simp
  · have := slice_le elems sp
    have := length_le elems
    rw [hd] at hb
    omega
end
end Go.Proofs.Tryz
