/- From a row's reading to ideal values, part 1: any program.
   From a row's reading to ideal values, part 2: the types of this program.
   From a row's reading to ideal values, part 3: the tables; the world in which a law is called; what a law's call ends in. -/
import Derived.Test.YtknaeibenggbmaaGreatDoorJI
import Derived.ChangeArms
import Derived.DataReads
import Derived.Lib.SmallJoins
import Derived.Deep.Strs
import Derived.Deep.Slices
import Derived.Test.YtknaeibenggbmaaGreatDoorJT
import Derived.Test.YtknaeibenggbmaaGreatDoorRows
import Derived.Test.YtknaeibenggbmaaGreatDoorJM
import Derived.Test.YtknaeibenggbmaaGreatDoorJW
import Derived.OpenShut
import Derived.WalkKit
import Derived.ProofKit
import Derived.Deep.DeepHandedRow
import Derived.Lib.LaidTab
import Derived.Carry
import Derived.RowKit
import Derived.RowKitTokens
import Derived.FnData
set_option linter.all false
namespace Go.Iv
open Go Go.ChangeShapes

def L0 (w : World) (b : Nat) : Nat := match w.heap[b]? with
  | some (.cells c _ _) => c.size
  | _ => 0
theorem L0_lt {w : World} {a : Addr} {r : Value} (h : w.cell? a = some r) : a.spot = none ∧ a.off < L0 w a.block := by
  unfold World.cell? at h
  unfold L0
  split at h
  · rename_i c t f hh
    rw [hh]
    split at h
    · cases h
    · rename_i hs
      refine ⟨by cases hq : a.spot with | none => rfl | some _ => simp [hq] at hs, ?_⟩
      exact (Array.getElem?_eq_some_iff.1 h).1
  · cases h
theorem add_addr (a : Addr) (n : Nat) (h : a.spot = none) : a.add n = ⟨a.block, a.off + n, none⟩ := by
  cases a; simp only at h; subst h
  unfold Addr.add
  split
  · rename_i h; simp [h]
  · rfl
theorem add_zero (a : Addr) : a.add 0 = a := by simp [Addr.add]

theorem seq_cells {w : World} (a : Addr) (es : Nat) : ∀ (xs : List IV) (k : Nat), (∀ (i : Nat) (x : IV), xs[i]? = some x → x.cells.length = es ∧ ∃ cs, w.cells? 0 (a.add ((k + i) * es)) es = some cs ∧ VL 0 (L0 w) w cs x.cells) →
    ∃ vs : List Value, vs.length = xs.length * es ∧ (∀ (i : Nat) (r : Value), vs[i]? = some r → w.cell? (a.add (k * es + i)) = some r) ∧ VL 0 (L0 w) w vs (xs.flatMap IV.cells)
  | [], k, h => ⟨[], by simp, fun i r h => by simp at h, VL.nil⟩
  | x :: xs, k, h => by
    obtain ⟨vs, h1, h2, h3⟩ := seq_cells a es xs (k + 1) (fun i x hx => by
      have := h (i + 1) x (by simpa using hx)
      rwa [show k + (i + 1) = k + 1 + i by omega] at this)
    obtain ⟨hx, cs, hc, hv⟩ := h 0 x rfl
    obtain ⟨_, hl, hg⟩ := World.cells?_some hc
    refine ⟨cs ++ vs, by simp [hl, h1, Nat.succ_mul, Nat.add_comm], fun i r hr => ?_, by simpa using hv.append h3⟩
    by_cases hi : i < cs.length
    · rw [List.getElem?_append_left hi] at hr
      have := hg i (by omega)
      rw [hr] at this
      rw [← this]
      rw [Deep.add_add, Nat.add_zero]
    · rw [List.getElem?_append_right (by omega)] at hr
      have := h2 _ r hr
      rw [← this]
      have e : (k + 1) * es + (i - cs.length) = k * es + i := by rw [Nat.succ_mul, hl]; omega
      rw [e]

theorem V_slice {w : World} {a : Addr} {len cap es : Nat} {xs : List IV} (hes : 0 < es) (hxl : xs.length = len) (hcl : len ≤ cap) (hlen : len ≤ 140737488355328)
    (h : ∀ (i : Nat) (x : IV), xs[i]? = some x → x.cells.length = es ∧ ∃ cs, w.cells? 0 (a.add (i * es)) es = some cs ∧ VL 0 (L0 w) w cs x.cells) :
    V 0 (L0 w) w (.slice (some a) len cap) (.sl ⟨false, .none, es⟩ xs) := by
  obtain ⟨vs, h1, h2, h3⟩ := seq_cells a es xs 0 (fun i x hx => by simpa using h i x hx)
  subst hxl
  refine .sl (some a) cap ⟨false, .none, es⟩ xs 0 vs trivial hlen hcl (fun x hx => ?_) h1 (fun g hg => by cases hg) (fun hf => by cases hf) (fun hne => ?_) h3.2
  · obtain ⟨i, hi, rfl⟩ := List.mem_iff_getElem.1 hx
    exact (h i _ (List.getElem?_eq_getElem hi)).1
  · have hpos : 0 < vs.length := by
      rw [h1]; exact Nat.mul_pos (List.length_pos_iff.2 hne) hes
    have hfirst := h2 0 (vs[0]'hpos) (List.getElem?_eq_getElem hpos)
    rw [Nat.zero_mul, Nat.add_zero, add_zero] at hfirst
    have hs' := (L0_lt hfirst).1
    have hlast := h2 (vs.length - 1) (vs[vs.length - 1]'(by omega)) (List.getElem?_eq_getElem (by omega))
    obtain ⟨hs, hL⟩ := L0_lt hlast
    rw [add_addr a _ hs'] at hL
    simp only [Nat.zero_mul, Nat.zero_add] at hL
    refine ⟨a, rfl, hs', by omega, fun i r hr => ?_⟩
    have := h2 i r hr
    rw [add_addr a _ hs'] at this
    simpa using this

section
variable {H : Type} {enc : TypeId × Value → H} {P : Program} {w : World} {spare : Nat → Bool} {held : Bool}

theorem open_sl {α : Type} (R : DataW H → α → IV → Prop) {t e : TypeId} {es : Nat} {fuel : Nat} {cs : List Value} {d : DataW H} {p : List MemPlace} (ht : P.underlying t = some (.slice e)) (hes : P.cellsOf e = es) (h0 : 0 < es)
    (h : DataW.trod enc P w 0 spare held fuel t cs = some (d, p)) (bound : ∀ (elems sp : List (DataW H)), d = .slice elems sp → elems.length ≤ 140737488355328)
    (hR : ∀ d t x, R d t x → x.cells.length = es)
    (each : ∀ (n : Nat), fuel = n + 1 → ∀ (cs' : List Value) (y : DataW H) (q : List MemPlace), (∃ elems sp, d = .slice elems sp ∧ y ∈ elems) → DataW.trod enc P w 0 spare held n e cs' = some (y, q) → ∃ a x, VL 0 (L0 w) w cs' x.cells ∧ R y a x) :
    ∃ (v : Value) (tg : Tag) (xs : List IV) (us : List α), cs = [v] ∧ V 0 (L0 w) w v (.sl tg xs) ∧ okEs tg es ∧ us.length = xs.length ∧
      ((d = .nil ∧ xs = []) ∨ ∃ elems sp, d = .slice elems sp ∧ elems.length = xs.length ∧ ∀ (i : Nat) (y : DataW H) (a : α) (x : IV), elems[i]? = some y → us[i]? = some a → xs[i]? = some x → R y a x) := by
  rcases DataW.trod_slice ht h with ⟨rfl, hd⟩ | ⟨a, len, cap, elems, rest, n, hn, rfl, hd, _, hl, _, hlen, hel, _, _⟩
  · refine ⟨_, ⟨true, .nil, 0⟩, [], [], rfl, ?_, Or.inl rfl, rfl, Or.inl ⟨by simpa using congrArg Prod.fst hd, rfl⟩⟩
    exact .sl none 0 ⟨true, .nil, 0⟩ [] 0 [] ⟨rfl, rfl, rfl⟩ (by simp) (by simp) (fun x hx => by cases hx) (by simp) (fun g hg => by cases hg) (fun _ ad ha => by cases ha) (fun hne => absurd rfl hne) (fun i r c h => by simp at h)
  · have hd1 : d = .slice (elems.map (·.1)) (rest.map (·.1)) := congrArg Prod.fst hd
    have hb := bound _ _ hd1
    rw [List.length_map] at hb
    rw [hes] at hel
    have key : ∀ i, i < len → ∃ (z : α × IV) (cs' : List Value), w.cells? 0 (a.add (i * es)) es = some cs' ∧ VL 0 (L0 w) w cs' z.2.cells ∧ ∀ y, elems[i]? = some y → R y.1 z.1 z.2 := by
      intro i hi
      have hi' : i < elems.length := by omega
      have h1 := hel i hi
      rw [List.getElem?_eq_getElem hi'] at h1
      obtain ⟨cs', hc, hy⟩ := Option.bind_eq_some_iff.1 h1
      obtain ⟨b, x, hv, hr⟩ := each n hn cs' elems[i].1 elems[i].2 ⟨_, _, hd1, List.mem_map.2 ⟨_, List.getElem_mem hi', rfl⟩⟩ hy
      refine ⟨(b, x), cs', hc, hv, fun y hy => ?_⟩
      rw [List.getElem?_eq_getElem hi'] at hy
      cases hy
      exact hr
    have build : ∀ m, m ≤ len → ∃ zs : List (α × IV), zs.length = m ∧ ∀ (i : Nat) (z : α × IV), zs[i]? = some z → ∃ cs' : List Value, w.cells? 0 (a.add (i * es)) es = some cs' ∧ VL 0 (L0 w) w cs' z.2.cells ∧ ∀ y, elems[i]? = some y → R y.1 z.1 z.2 := by
      intro m
      induction m with
      | zero => exact fun _ => ⟨[], rfl, fun i z h => by simp at h⟩
      | succ m ih =>
        intro hm
        obtain ⟨zs, hzl, hz⟩ := ih (by omega)
        obtain ⟨z, hk⟩ := key m (by omega)
        refine ⟨zs ++ [z], by simp [hzl], fun i z' hz' => ?_⟩
        by_cases hi : i < zs.length
        · rw [List.getElem?_append_left hi] at hz'; exact hz i z' hz'
        · rw [List.getElem?_append_right (by omega)] at hz'
          have : i = m := by
            have := (List.getElem?_eq_some_iff.1 hz').1
            simp at this; omega
          subst this
          rw [hzl, Nat.sub_self] at hz'
          cases hz'
          exact hk
    obtain ⟨zs, hzl, hz⟩ := build len (Nat.le_refl _)
    refine ⟨_, ⟨false, .none, es⟩, zs.map (·.2), zs.map (·.1), rfl, V_slice h0 (by simp [hzl]) hl (by omega) (fun i x hx => ?_), Or.inr rfl, by simp, Or.inr ⟨_, _, hd1, by simp [hzl, hlen], fun i y b x hy hb hx => ?_⟩⟩
    · rw [List.getElem?_map] at hx
      obtain ⟨z, hz1, rfl⟩ := Option.map_eq_some_iff.1 hx
      obtain ⟨cs', h1, h2, h3⟩ := hz i z hz1
      have hi : i < elems.length := by
        have := (List.getElem?_eq_some_iff.1 hz1).1
        omega
      exact ⟨hR _ _ _ (h3 _ (List.getElem?_eq_getElem hi)), cs', h1, h2⟩
    · rw [List.getElem?_map] at hx hb hy
      obtain ⟨z, hz1, rfl⟩ := Option.map_eq_some_iff.1 hx
      rw [hz1] at hb
      cases hb
      obtain ⟨y', hy1, rfl⟩ := Option.map_eq_some_iff.1 hy
      obtain ⟨cs', h1, h2, h3⟩ := hz i z hz1
      exact h3 _ hy1
end
end Go.Iv

namespace Go.Proofs.Tryz
open Go Go.Iv Go.ChangeShapes
open Go.Proofs.YtknaeibenggbmaaGreatDoor.Rows (uptoBulk uptoBulkAll)
set_option maxRecDepth 4000

theorem uTerm : prog.underlying 33 = some (.struct #[⟨ "Var", 4, 0, false, "", "", 0⟩, ⟨ "Name", 9, 1, false, "", "", 8⟩, ⟨ "Args", 22, 2, false, "", "", 24⟩]) := by kernel_rfl
theorem uForm : prog.underlying 25 = some (.struct #[⟨ "Op", 5, 0, false, "", "", 0⟩, ⟨ "Name", 9, 1, false, "", "", 8⟩, ⟨ "Args", 22, 2, false, "", "", 24⟩, ⟨ "Sub", 23, 3, false, "", "", 48⟩]) := by kernel_rfl
theorem uTerms : prog.underlying 22 = some (.slice 33) := by kernel_rfl
theorem uForms : prog.underlying 23 = some (.slice 25) := by kernel_rfl
theorem uBool : prog.underlying 4 = some .bool := by kernel_rfl
theorem uString : prog.underlying 9 = some .string := by kernel_rfl
theorem uU8 : prog.underlying 5 = some (.int .u8) := by kernel_rfl
theorem nTerm : prog.cellsOf 33 = 3 := by kernel_rfl
theorem nForm : prog.cellsOf 25 = 4 := by kernel_rfl
theorem nBool : prog.cellsOf 4 = 1 := by kernel_rfl
theorem nString : prog.cellsOf 9 = 1 := by kernel_rfl
theorem nU8 : prog.cellsOf 5 = 1 := by kernel_rfl
theorem nTerms : prog.cellsOf 22 = 1 := by kernel_rfl
theorem nForms : prog.cellsOf 23 = 1 := by kernel_rfl

section
variable {H : Type} {enc : TypeId × Value → H} {w : World} {spare : Nat → Bool} {held : Bool}

theorem one_le (d : DataW H) : 1 ≤ uptoBulk d := by
  cases d with
  | lit l => cases l <;> simp [uptoBulk]
  | nil => simp [uptoBulk]
  | ptr d => simp [uptoBulk]
  | slice elems spare => simp [uptoBulk]
  | agg parts => simp [uptoBulk]
  | iface t d => simp [uptoBulk]
  | map entries => simp [uptoBulk]
  | held h => simp [uptoBulk]
theorem part_le {d : DataW H} : ∀ {l : List (DataW H)}, d ∈ l → uptoBulk d ≤ uptoBulkAll l
  | x :: r, h => by
    simp only [uptoBulkAll]
    cases List.mem_cons.1 h with
    | inl e => subst e; omega
    | inr e => have := part_le e; omega
theorem length_le : ∀ (l : List (DataW H)), l.length ≤ uptoBulkAll l
  | [] => Nat.le_refl _
  | x :: r => by have := one_le x; have := length_le r; simp only [uptoBulkAll, List.length_cons]; omega
theorem slice_le (elems sp : List (DataW H)) : uptoBulkAll elems + 1 ≤ uptoBulk (.slice elems sp) := by simp only [uptoBulk]; omega

theorem isTms_get : ∀ {us : List Tm} {xs : List IV}, us.length = xs.length → (∀ (i : Nat) (a : Tm) (x : IV), us[i]? = some a → xs[i]? = some x → IsTm a x) → IsTms us xs
  | [], xs, h, _ => by simpa [IsTms] using h.symm
  | a :: us, [], h, _ => by simp at h
  | a :: us, x :: xs, h, hh => ⟨x, xs, rfl, hh 0 a x rfl rfl, isTms_get (by simpa using h) (fun i b y hb hy => hh (i + 1) b y (by simpa using hb) (by simpa using hy))⟩
theorem isFms_get : ∀ {us : List Fm} {xs : List IV}, us.length = xs.length → (∀ (i : Nat) (a : Fm) (x : IV), us[i]? = some a → xs[i]? = some x → IsFm a x) → IsFms us xs
  | [], xs, h, _ => by simpa [IsFms] using h.symm
  | a :: us, [], h, _ => by simp at h
  | a :: us, x :: xs, h, hh => ⟨x, xs, rfl, hh 0 a x rfl rfl, isFms_get (by simpa using h) (fun i b y hb hy => hh (i + 1) b y (by simpa using hb) (by simpa using hy))⟩
theorem isOnes_get : ∀ {us : List (ByteArray × Tm)} {xs : List IV}, us.length = xs.length → (∀ (i : Nat) (a : ByteArray × Tm) (x : IV), us[i]? = some a → xs[i]? = some x → IsOne a x) → IsOnes us xs
  | [], xs, h, _ => by simpa [IsOnes] using h.symm
  | a :: us, [], h, _ => by simp at h
  | a :: us, x :: xs, h, hh => ⟨x, xs, rfl, hh 0 a x rfl rfl, isOnes_get (by simpa using h) (fun i b y hb hy => hh (i + 1) b y (by simpa using hb) (by simpa using hy))⟩
theorem bulkTs_sum : ∀ {us : List Tm} {ds : List (DataW H)}, us.length = ds.length → (∀ (i : Nat) (a : Tm) (d : DataW H), us[i]? = some a → ds[i]? = some d → bulkT a ≤ uptoBulk d) → bulkTs us ≤ uptoBulkAll ds
  | [], ds, h, _ => by simp [bulkTs]
  | a :: us, [], h, _ => by simp at h
  | a :: us, x :: xs, h, hh => by
    have h1 := hh 0 a x rfl rfl
    have h2 := bulkTs_sum (us := us) (ds := xs) (by simpa using h) (fun i b y hb hy => hh (i + 1) b y (by simpa using hb) (by simpa using hy))
    simp only [bulkTs, uptoBulkAll]; omega
theorem bulkFs_sum : ∀ {us : List Fm} {ds : List (DataW H)}, us.length = ds.length → (∀ (i : Nat) (a : Fm) (d : DataW H), us[i]? = some a → ds[i]? = some d → bulkF a ≤ uptoBulk d) → bulkFs us ≤ uptoBulkAll ds
  | [], ds, h, _ => by simp [bulkFs]
  | a :: us, [], h, _ => by simp at h
  | a :: us, x :: xs, h, hh => by
    have h1 := hh 0 a x rfl rfl
    have h2 := bulkFs_sum (us := us) (ds := xs) (by simpa using h) (fun i b y hb hy => hh (i + 1) b y (by simpa using hb) (by simpa using hy))
    simp only [bulkFs, uptoBulkAll]; omega

theorem str_of {n : Nat} {cs : List Value} {y : DataW H × List MemPlace} (h : DataW.trod enc prog w 0 spare held n 9 cs = some y) (hb : uptoBulk y.1 ≤ 1048576) :
    ∃ s : ByteArray, cs = [.string s] ∧ V 0 (L0 w) w (.string s) (.raw (.string s)) ∧ s.size + 1 ≤ uptoBulk y.1 := by
  obtain ⟨s, rfl, rfl, _⟩ := DataW.trod_string uString h
  have hq : s.size + 1 = uptoBulk (DataW.lit (H := H) (.string s.data.toList)) := by simp only [uptoBulk, ByteArray.size, Array.length_toList]
  refine ⟨s, rfl, .raw _ ?_, by rw [hq]; exact Nat.le_refl _⟩
  show s.size ≤ 281474976710656
  have hb' : s.size + 1 ≤ 1048576 := by rw [hq]; exact hb
  omega

def RT (d : DataW H) (t : Tm) (x : IV) : Prop := IsTm t x ∧ bulkT t ≤ uptoBulk d
theorem RT.cells {d : DataW H} {t : Tm} {x : IV} (h : RT d t x) : x.cells.length = 3 := by
  cases t with
  | mk v n us => obtain ⟨tg, xs, rfl, _⟩ := IsTm.mk h.1; rfl
theorem cs3 {cs : List Value} (h : cs.length = 3) : ∃ a b c, cs = [a, b, c] := by
  match cs, h with
  | [a, b, c], _ => exact ⟨a, b, c, rfl⟩
theorem cs4 {cs : List Value} (h : cs.length = 4) : ∃ a b c d, cs = [a, b, c, d] := by
  match cs, h with
  | [a, b, c, d], _ => exact ⟨a, b, c, d, rfl⟩
theorem terms_of {fuel : Nat} {cs : List Value} {y : DataW H × List MemPlace} (h : DataW.trod enc prog w 0 spare held fuel 22 cs = some y) (hb : uptoBulk y.1 ≤ 1048576)
    (IH : ∀ (n : Nat), n < fuel → ∀ (cs : List Value) (y : DataW H × List MemPlace), DataW.trod enc prog w 0 spare held n 33 cs = some y → uptoBulk y.1 ≤ 1048576 → ∃ t x, VL 0 (L0 w) w cs x.cells ∧ RT y.1 t x) :
    ∃ v tg xs ts, cs = [v] ∧ V 0 (L0 w) w v (.sl tg xs) ∧ okEs tg 3 ∧ IsTms ts xs ∧ bulkTs ts + 1 ≤ uptoBulk y.1 := by
  obtain ⟨v, tg, xs, ts, rfl, hv, htg, hl, hc⟩ := open_sl (H := H) (P := prog) (d := y.1) (p := y.2) RT uTerms nTerm (by decide) h (fun elems sp e => by
      have := slice_le elems sp; have := length_le elems; rw [← e] at *; omega) (fun d t x h => h.cells) (fun n hn cs' z q ⟨elems, sp, he, hm⟩ hz => by
      have := slice_le elems sp
      have := part_le hm
      rw [he] at hb
      exact IH n (by omega) cs' (z, q) hz (show uptoBulk z ≤ 1048576 by omega))
  refine ⟨v, tg, xs, ts, rfl, hv, htg, ?_⟩
  rcases hc with ⟨hd, rfl⟩ | ⟨elems, sp, hd, hel, hr⟩
  · obtain rfl : ts = [] := List.length_eq_zero_iff.1 (by simpa using hl)
    exact ⟨rfl, by rw [hd]; simp [bulkTs, uptoBulk]⟩
  · have hi : ∀ (i : Nat) (a : Tm), ts[i]? = some a → ∃ x d, xs[i]? = some x ∧ elems[i]? = some d ∧ RT d a x := fun i a ha => by
      have hi := (List.getElem?_eq_some_iff.1 ha).1
      exact ⟨_, _, List.getElem?_eq_getElem (by omega), List.getElem?_eq_getElem (by omega), hr i _ _ _ (List.getElem?_eq_getElem (by omega)) ha (List.getElem?_eq_getElem (by omega))⟩
    refine ⟨isTms_get hl (fun i a x ha hx => ?_), ?_⟩
    · obtain ⟨x', d, h1, h2, h3⟩ := hi i a ha
      rw [hx] at h1; cases h1
      exact h3.1
    · have := bulkTs_sum (us := ts) (ds := elems) (by omega) (fun i a d ha hd' => by
        obtain ⟨x', d', h1, h2, h3⟩ := hi i a ha
        rw [hd'] at h2; cases h2
        exact h3.2)
      have := slice_le elems sp
      rw [hd]
      omega
theorem term_of : ∀ (fuel : Nat) (cs : List Value) (y : DataW H × List MemPlace), DataW.trod enc prog w 0 spare held fuel 33 cs = some y → uptoBulk y.1 ≤ 1048576 → ∃ t x, VL 0 (L0 w) w cs x.cells ∧ RT y.1 t x := by
  intro fuel
  induction fuel using Nat.strongRecOn with
  | ind fuel IH =>
    intro cs y h hb
    obtain ⟨ys, n, rfl, rfl, hl, hlen, hf⟩ := DataW.trod_struct uTerm h
    match ys, hlen with
    | [y0, y1, y2], _ =>
      rw [nTerm] at hl
      obtain ⟨c0, c1, c2, rfl⟩ := cs3 hl
      have h0 := hf 0 _ rfl
      have h1 := hf 1 _ rfl
      have h2 := hf 2 _ rfl
      simp only [nBool, nString, nTerms, List.drop_zero, List.drop_succ_cons, List.take_succ_cons, List.take_zero, List.getElem?_cons_zero, List.getElem?_cons_succ] at h0 h1 h2
      simp only [List.map_cons, List.map_nil, uptoBulk, uptoBulkAll] at hb
      obtain ⟨b, e0, rfl⟩ := DataW.trod_bool uBool h0
      obtain ⟨s, e1, hs, hs2⟩ := str_of h1 (by omega)
      obtain ⟨v, tg, xs, ts, e2, hv, htg, hts, hbk⟩ := terms_of h2 (by omega) (fun m hm => IH m (by omega))
      cases e0; cases e1; cases e2
      refine ⟨.mk b s ts, .agg [.raw (.bool b), .raw (.string s), .sl tg xs], VL.cons (.raw _ trivial) (VL.cons hs (VL.cons hv VL.nil)), ?_, ?_⟩
      · simp only [IsTm]
        exact ⟨tg, xs, rfl, htg, hts⟩
      · simp only [List.map_cons, List.map_nil, uptoBulk, uptoBulkAll, bulkT]
        omega

def RF (d : DataW H) (f : Fm) (x : IV) : Prop := IsFm f x ∧ bulkF f ≤ uptoBulk d
theorem RF.cells {d : DataW H} {t : Fm} {x : IV} (h : RF d t x) : x.cells.length = 4 := by
  cases t with
  | mk v n us sub => obtain ⟨tg, xs, tg', ys, rfl, _⟩ := IsFm.mk h.1; rfl
theorem forms_of {fuel : Nat} {cs : List Value} {y : DataW H × List MemPlace} (h : DataW.trod enc prog w 0 spare held fuel 23 cs = some y) (hb : uptoBulk y.1 ≤ 1048576)
    (IH : ∀ (n : Nat), n < fuel → ∀ (cs : List Value) (y : DataW H × List MemPlace), DataW.trod enc prog w 0 spare held n 25 cs = some y → uptoBulk y.1 ≤ 1048576 → ∃ t x, VL 0 (L0 w) w cs x.cells ∧ RF y.1 t x) :
    ∃ v tg xs ts, cs = [v] ∧ V 0 (L0 w) w v (.sl tg xs) ∧ okEs tg 4 ∧ IsFms ts xs ∧ bulkFs ts + 1 ≤ uptoBulk y.1 := by
  obtain ⟨v, tg, xs, ts, rfl, hv, htg, hl, hc⟩ := open_sl (H := H) (P := prog) (d := y.1) (p := y.2) RF uForms nForm (by decide) h (fun elems sp e => by
      have := slice_le elems sp; have := length_le elems; rw [← e] at *; omega) (fun d t x h => h.cells) (fun n hn cs' z q ⟨elems, sp, he, hm⟩ hz => by
      have := slice_le elems sp
      have := part_le hm
      rw [he] at hb
      exact IH n (by omega) cs' (z, q) hz (show uptoBulk z ≤ 1048576 by omega))
  refine ⟨v, tg, xs, ts, rfl, hv, htg, ?_⟩
  rcases hc with ⟨hd, rfl⟩ | ⟨elems, sp, hd, hel, hr⟩
  · obtain rfl : ts = [] := List.length_eq_zero_iff.1 (by simpa using hl)
    exact ⟨rfl, by rw [hd]; simp [bulkFs, uptoBulk]⟩
  · have hi : ∀ (i : Nat) (a : Fm), ts[i]? = some a → ∃ x d, xs[i]? = some x ∧ elems[i]? = some d ∧ RF d a x := fun i a ha => by
      have hi := (List.getElem?_eq_some_iff.1 ha).1
      exact ⟨_, _, List.getElem?_eq_getElem (by omega), List.getElem?_eq_getElem (by omega), hr i _ _ _ (List.getElem?_eq_getElem (by omega)) ha (List.getElem?_eq_getElem (by omega))⟩
    refine ⟨isFms_get hl (fun i a x ha hx => ?_), ?_⟩
    · obtain ⟨x', d, h1, h2, h3⟩ := hi i a ha
      rw [hx] at h1; cases h1
      exact h3.1
    · have := bulkFs_sum (us := ts) (ds := elems) (by omega) (fun i a d ha hd' => by
        obtain ⟨x', d', h1, h2, h3⟩ := hi i a ha
        rw [hd'] at h2; cases h2
        exact h3.2)
      have := slice_le elems sp
      rw [hd]
      omega
theorem form_of : ∀ (fuel : Nat) (cs : List Value) (y : DataW H × List MemPlace), DataW.trod enc prog w 0 spare held fuel 25 cs = some y → uptoBulk y.1 ≤ 1048576 → ∃ t x, VL 0 (L0 w) w cs x.cells ∧ RF y.1 t x := by
  intro fuel
  induction fuel using Nat.strongRecOn with
  | ind fuel IH =>
    intro cs y h hb
    obtain ⟨ys, n, rfl, rfl, hl, hlen, hf⟩ := DataW.trod_struct uForm h
    match ys, hlen with
    | [y0, y1, y2, y3], _ =>
      rw [nForm] at hl
      obtain ⟨c0, c1, c2, c3, rfl⟩ := cs4 hl
      have h0 := hf 0 _ rfl
      have h1 := hf 1 _ rfl
      have h2 := hf 2 _ rfl
      have h3 := hf 3 _ rfl
      simp only [nU8, nString, nTerms, nForms, List.drop_zero, List.drop_succ_cons, List.take_succ_cons, List.take_zero, List.getElem?_cons_zero, List.getElem?_cons_succ] at h0 h1 h2 h3
      simp only [List.map_cons, List.map_nil, uptoBulk, uptoBulkAll] at hb
      obtain ⟨op, e0, rfl, hop⟩ := DataW.trod_int uU8 h0
      obtain ⟨s, e1, hs, hs2⟩ := str_of h1 (by omega)
      obtain ⟨v, tg, xs, ts, e2, hv, htg, hts, hbk⟩ := terms_of h2 (by omega) (fun m _ => term_of m)
      obtain ⟨v', tg', xs', ts', e3, hv', htg', hts', hbk'⟩ := forms_of h3 (by omega) (fun m hm => IH m (by omega))
      cases e0; cases e1; cases e2; cases e3
      have hop : 0 ≤ op ∧ op < 256 := by
        simp only [Lit.wf, IntKind.min, IntKind.max, IntKind.signed, IntKind.bits, Bool.and_eq_true, decide_eq_true_eq] at hop
        exact ⟨of_decide_eq_true hop.1, by have := of_decide_eq_true hop.2; simp at this; omega⟩
      obtain ⟨k, rfl⟩ := Int.eq_ofNat_of_zero_le hop.1
      refine ⟨.mk k s ts ts', .agg [.raw (.int .u8 k), .raw (.string s), .sl tg xs, .sl tg' xs'], VL.cons (.raw _ trivial) (VL.cons hs (VL.cons hv (VL.cons hv' VL.nil))), ?_, ?_⟩
      · simp only [IsFm]
        exact ⟨tg, xs, tg', xs', rfl, by omega, htg, hts, htg', hts'⟩
      · simp only [List.map_cons, List.map_nil, uptoBulk, uptoBulkAll, bulkF]
        omega
end
/-! ### Lists of a name and a term -/

theorem uOne : prog.underlying 35 = some (.struct #[⟨ "Name", 9, 0, false, "", "", 0⟩, ⟨ "Term", 33, 1, false, "", "", 16⟩]) := by kernel_rfl
theorem uOnes : prog.underlying 26 = some (.slice 35) := by kernel_rfl
theorem nOne : prog.cellsOf 35 = 4 := by kernel_rfl
section
variable {H : Type} {enc : TypeId × Value → H} {w : World} {spare : Nat → Bool} {held : Bool}
def RO (d : DataW H) (o : ByteArray × Tm) (x : IV) : Prop := IsOne o x ∧ bulkT o.2 + o.1.size ≤ uptoBulk d
theorem RO.cells {d : DataW H} {t : ByteArray × Tm} {x : IV} (h : RO d t x) : x.cells.length = 4 := by
  obtain ⟨v, n, tg, xs, rfl, _⟩ := h.1; rfl
theorem one_of (fuel : Nat) (cs : List Value) (y : DataW H × List MemPlace) (h : DataW.trod enc prog w 0 spare held fuel 35 cs = some y) (hb : uptoBulk y.1 ≤ 1048576) : ∃ t x, VL 0 (L0 w) w cs x.cells ∧ RO y.1 t x := by
  obtain ⟨ys, n, rfl, rfl, hl, hlen, hf⟩ := DataW.trod_struct uOne h
  match ys, hlen with
  | [y0, y1], _ =>
    rw [nOne] at hl
    obtain ⟨c0, c1, c2, c3, rfl⟩ := cs4 hl
    have h0 := hf 0 _ rfl
    have h1 := hf 1 _ rfl
    simp only [nString, nTerm, List.drop_zero, List.drop_succ_cons, List.take_succ_cons, List.take_zero, List.getElem?_cons_zero, List.getElem?_cons_succ] at h0 h1
    simp only [List.map_cons, List.map_nil, uptoBulk, uptoBulkAll] at hb
    obtain ⟨s, e0, hs, hs2⟩ := str_of h0 (by omega)
    obtain ⟨t, x, hv, ht1, ht2⟩ := term_of n _ _ h1 (by omega)
    cases e0
    cases t with
    | mk b nm us =>
      obtain ⟨tg, xs, rfl, hh⟩ := IsTm.mk ht1
      refine ⟨(s, .mk b nm us), .agg [.raw (.string s), .raw (.bool b), .raw (.string nm), .sl tg xs], VL.cons hs hv, ⟨b, nm, tg, xs, rfl, ht1⟩, ?_⟩
      simp only [List.map_cons, List.map_nil, uptoBulk, uptoBulkAll]
      show bulkT (.mk b nm us) + s.size ≤ _
      omega
theorem ones_of {fuel : Nat} {cs : List Value} {y : DataW H × List MemPlace} (h : DataW.trod enc prog w 0 spare held fuel 26 cs = some y) (hb : uptoBulk y.1 ≤ 1048576) :
    ∃ v tg xs ts, cs = [v] ∧ V 0 (L0 w) w v (.sl tg xs) ∧ okEs tg 4 ∧ IsOnes ts xs ∧ ∀ o ∈ ts, bulkT o.2 + o.1.size ≤ 1048576 := by
  obtain ⟨v, tg, xs, ts, rfl, hv, htg, hl, hc⟩ := open_sl (H := H) (P := prog) (d := y.1) (p := y.2) RO uOnes nOne (by decide) h (fun elems sp e => by
      have := slice_le elems sp; have := length_le elems; rw [← e] at *; omega) (fun d t x h => h.cells) (fun n hn cs' z q ⟨elems, sp, he, hm⟩ hz => by
      have := slice_le elems sp
      have := part_le hm
      rw [he] at hb
      exact one_of n cs' (z, q) hz (show uptoBulk z ≤ 1048576 by omega))
  refine ⟨v, tg, xs, ts, rfl, hv, htg, ?_⟩
  rcases hc with ⟨hd, rfl⟩ | ⟨elems, sp, hd, hel, hr⟩
  · obtain rfl : ts = [] := List.length_eq_zero_iff.1 (by simpa using hl)
    exact ⟨rfl, by simp⟩
  · have hi : ∀ (i : Nat) (a : ByteArray × Tm), ts[i]? = some a → ∃ x d, xs[i]? = some x ∧ elems[i]? = some d ∧ RO d a x := fun i a ha => by
      have hi := (List.getElem?_eq_some_iff.1 ha).1
      exact ⟨_, _, List.getElem?_eq_getElem (by omega), List.getElem?_eq_getElem (by omega), hr i _ _ _ (List.getElem?_eq_getElem (by omega)) ha (List.getElem?_eq_getElem (by omega))⟩
    refine ⟨isOnes_get hl (fun i a x ha hx => ?_), fun o ho => ?_⟩
    · obtain ⟨x', d, h1, h2, h3⟩ := hi i a ha
      rw [hx] at h1; cases h1
      exact h3.1
    · obtain ⟨i, hlt, rfl⟩ := List.mem_iff_getElem.1 ho
      obtain ⟨x', d, h1, h2, h3⟩ := hi i _ (List.getElem?_eq_getElem hlt)
      have := part_le (List.mem_of_getElem? h2)
      have := slice_le elems sp
      rw [hd] at hb
      have := h3.2
      omega
end
end Go.Proofs.Tryz

namespace Go.Proofs.Tryz
open Go Go.Iv Go.ChangeShapes Go.RowKit
open Go.Proofs.YtknaeibenggbmaaGreatDoor
set_option maxRecDepth 8000

theorem uRow : prog.underlying 121 = some (.struct #[⟨ "right", 4, 0, false, "", "lyceum/syntax", 0⟩, ⟨ "schema", 4, 1, false, "", "lyceum/syntax", 1⟩, ⟨ "name", 5, 2, false, "", "lyceum/syntax", 2⟩, ⟨ "args", 3, 3, false, "", "lyceum/syntax", 8⟩, ⟨ "subs", 3, 4, false, "", "lyceum/syntax", 16⟩]) := by kernel_rfl
theorem uRows : prog.underlying 122 = some (.array 17 121) := by kernel_rfl
theorem uInt : prog.underlying 3 = some (.int .i64) := by kernel_rfl
theorem nRow : prog.cellsOf 121 = 5 := by kernel_rfl
theorem nRows : prog.cellsOf 122 = 85 := by kernel_rfl
theorem nInt : prog.cellsOf 3 = 1 := by kernel_rfl
theorem gRows : prog.globalNamed "lyceum/syntax.rows" = some 0 := by kernel_rfl
theorem gRowsT : (prog.globals[0]?).map (·.type) = some 122 := by kernel_rfl
theorem gPow : prog.globalNamed "internal/strconv.uint64pow10" = some 1 := by kernel_rfl
theorem gPowT : (prog.globals[1]?).map (·.type) = some 185 := by kernel_rfl
theorem uPow : prog.underlying 185 = some (.array 20 169) := by kernel_rfl
theorem uU64 : prog.underlying 169 = some (.int .u64) := by kernel_rfl
theorem nPow : prog.cellsOf 185 = 20 := by kernel_rfl
theorem nU64 : prog.cellsOf 169 = 1 := by kernel_rfl

section
variable {H : Type} {enc : TypeId × Value → H} {w : World} {spare : Nat → Bool} {held : Bool}

def rowD (op : Nat) : DataW H := .agg [.lit (.bool (rowRight op)), .lit (.bool (rowSchema op)), .lit (.int .u8 (rowName op)), .lit (.int .i64 (rowArgs op)), .lit (.int .i64 (rowSubs op))]
def rowV (op : Nat) : List Value := [.bool (rowRight op), .bool (rowSchema op), .int .u8 (rowName op), .int .i64 (rowArgs op), .int .i64 (rowSubs op)]
theorem row_cells {fuel : Nat} {cs : List Value} {op : Nat} {p : List MemPlace} (h : DataW.trod enc prog w 0 spare held fuel 121 cs = some (rowD op, p)) : cs = rowV op := by
  obtain ⟨ys, n, rfl, he, hl, hlen, hf⟩ := DataW.trod_struct uRow h
  match ys, hlen with
  | [y0, y1, y2, y3, y4], _ =>
    rw [nRow] at hl
    match cs, hl with
    | [c0, c1, c2, c3, c4], _ =>
      have h0 := hf 0 _ rfl
      have h1 := hf 1 _ rfl
      have h2 := hf 2 _ rfl
      have h3 := hf 3 _ rfl
      have h4 := hf 4 _ rfl
      simp only [nBool, nU8, nInt, List.drop_zero, List.drop_succ_cons, List.take_succ_cons, List.take_zero, List.getElem?_cons_zero, List.getElem?_cons_succ] at h0 h1 h2 h3 h4
      obtain ⟨b0, e0, rfl⟩ := DataW.trod_bool uBool h0
      obtain ⟨b1, e1, rfl⟩ := DataW.trod_bool uBool h1
      obtain ⟨b2, e2, rfl, _⟩ := DataW.trod_int uU8 h2
      obtain ⟨b3, e3, rfl, _⟩ := DataW.trod_int uInt h3
      obtain ⟨b4, e4, rfl, _⟩ := DataW.trod_int uInt h4
      cases e0; cases e1; cases e2; cases e3; cases e4
      have he1 := congrArg Prod.fst he
      simp only [rowD, List.map_cons, List.map_nil, DataW.agg.injEq, List.cons.injEq, DataW.lit.injEq, Lit.bool.injEq, Lit.int.injEq, true_and, and_true] at he1
      obtain ⟨rfl, rfl, rfl, rfl, rfl⟩ := he1
      rfl
theorem rows_data : (Rows.laid_lyceum_syntax_rows : DataW H) = .agg ((List.range 17).map rowD) := by rfl
theorem rows_cells {fuel : Nat} {cs : List Value} {p : List MemPlace} (h : DataW.trod enc prog w 0 spare held fuel 122 cs = some (Rows.laid_lyceum_syntax_rows, p)) :
    cs.length = 85 ∧ ∀ op, op < 17 → (cs.drop (op * 5)).take 5 = rowV op := by
  obtain ⟨ys, n, rfl, he, hl, hlen, hf⟩ := DataW.trod_array uRows h
  rw [nRows] at hl
  refine ⟨hl, fun op hop => ?_⟩
  have h1 := hf op hop
  rw [nRow] at h1
  have he1 := congrArg Prod.fst he
  rw [rows_data] at he1
  simp only [DataW.agg.injEq] at he1
  have h2 : (ys.map (·.1))[op]? = some (rowD op) := by
    rw [← he1, List.getElem?_map, List.getElem?_range hop]; rfl
  rw [List.getElem?_map] at h2
  obtain ⟨y, hy, hy2⟩ := Option.map_eq_some_iff.1 h2
  rw [hy] at h1
  obtain ⟨y1, y2⟩ := y
  simp only at hy2
  subst hy2
  exact row_cells h1
end

def gl0 : Nat → Option IV
  | 0 => some (.agg rowsL)
  | 1 => some (.agg pow10L)
  | _ => none
theorem G0 : Gl gl0 := ⟨rfl⟩
theorem T0 : Gt gl0 := ⟨rfl⟩
def X0 (w : World) : WS := { w := w, L := L0 w, st := fun _ => none }

theorem rowsL_cells {cs : List Value} (hl : cs.length = 85) (h : ∀ op, op < 17 → (cs.drop (op * 5)).take 5 = rowV op) (i : Nat) (r : Value) (c : IV) (hr : cs[i]? = some r) (hc : rowsL[i]? = some c) : c = .raw r ∧ rawOk r := by
  have hi : i < 85 := by have := (List.getElem?_eq_some_iff.1 hr).1; omega
  have hop : i / 5 < 17 := by omega
  have e : i = i / 5 * 5 + i % 5 := by omega
  have hm : i % 5 < 5 := Nat.mod_lt _ (by decide)
  have h1 : (rowV (i / 5))[i % 5]? = some r := by
    rw [← h _ hop, List.getElem?_take, if_pos hm, List.getElem?_drop, ← e]; exact hr
  have h2 : (rowI (i / 5))[i % 5]? = some c := by
    rw [← (rowsL_take _ hop).2, List.getElem?_take, if_pos hm, List.getElem?_drop, ← e]; exact hc
  generalize i % 5 = k at h1 h2 hm
  match k, hm with
  | 0, _ => cases h1; cases h2; exact ⟨rfl, trivial⟩
  | 1, _ => cases h1; cases h2; exact ⟨rfl, trivial⟩
  | 2, _ => cases h1; cases h2; exact ⟨rfl, trivial⟩
  | 3, _ => cases h1; cases h2; exact ⟨rfl, trivial⟩
  | 4, _ => cases h1; cases h2; exact ⟨rfl, trivial⟩

theorem good0 {W : World} (hL : laidMetH prog Rows.substNothingUptoRow.laid W) : Go.Iv.Good ⟨prog, gl0, 0⟩ (X0 W) := by
  obtain ⟨ps, hlv, _⟩ := (show laidMet prog _ W from hL)
  obtain ⟨_, _, _, _, _, _, _, _, _, _, hlv, _⟩ := hlv
  obtain ⟨_, _, _, _, _, _, _, _, _, _, hlv, _⟩ := hlv
  obtain ⟨g1, t1, cs1, f1, p1, q1, hg1, ht1, hv1, hd1, hlv, _⟩ := hlv
  obtain ⟨g2, t2, cs2, f2, p2, q2, hg2, ht2, hv2, hd2, _, _⟩ := hlv
  obtain rfl := Option.some.inj (gPow.symm.trans hg1)
  obtain rfl := Option.some.inj (gPowT.symm.trans ht1)
  obtain rfl := Option.some.inj (gRows.symm.trans hg2)
  obtain rfl := Option.some.inj (gRowsT.symm.trans ht2)
  have hc1 := Lib.cells_of_tab (zs := Lib.pow10Tab) uPow uU64 nU64 nPow hd1
  have hc2 := rows_cells hd2
  have hb : ∀ (n : String) (g : Nat) (cs : Array Value), prog.globalNamed n = some g → W.var? prog n = some cs → ∃ T f, W.heap[g]? = some (.cells cs T f) := by
    intro n g cs hn hv
    unfold World.var? at hv
    rw [hn, Option.bind_some] at hv
    split at hv
    · rename_i c t f hh
      cases hv
      exact ⟨_, _, hh⟩
    · cases hv
  obtain ⟨T1, fr1, hh1⟩ := hb _ _ _ gPow hv1
  obtain ⟨T2, fr2, hh2⟩ := hb _ _ _ gRows hv2
  have row : ∀ (g : Nat) (cs : Array Value) (T : TypeId) (f : Nat × Nat) (xs : List IV), W.heap[g]? = some (.cells cs T f) → cs.size = xs.length → (∀ (i : Nat) (r : Value) (c : IV), cs.toList[i]? = some r → xs[i]? = some c → c = .raw r ∧ rawOk r) →
      V 0 (L0 W) W (.pointer (some ⟨g, 0, none⟩)) (.cptr (.agg xs)) := by
    intro g cs T f xs hh hl h
    refine .cptr _ _ cs.toList rfl (by simpa [IV.cells] using hl) ?_ (fun i r hr => ?_) (fun i r c hr hc => ?_)
    · show 0 + cs.toList.length ≤ L0 W g
      simp [L0, hh]
    · show W.cell? ⟨g, 0 + i, none⟩ = some r
      simp only [World.cell?, hh, Nat.zero_add]
      simpa using hr
    · obtain ⟨rfl, hk⟩ := h i r c hr hc
      exact .raw _ hk
  have hp : ∀ (i : Nat) (r : Value) (c : IV), cs1.toList[i]? = some r → pow10L[i]? = some c → c = .raw r ∧ rawOk r := by
    intro i r c hr hc
    rw [hc1, List.getElem?_map] at hr
    unfold pow10L at hc
    rw [List.getElem?_map] at hc
    obtain ⟨z, hz, rfl⟩ := Option.map_eq_some_iff.1 hr
    rw [hz] at hc
    cases hc
    exact ⟨rfl, trivial⟩
  have hs1 : cs1.size = pow10L.length := by
    rw [← Array.length_toList, hc1]; simp [pow10L]
  have hs2 : cs2.size = rowsL.length := by
    rw [← Array.length_toList, hc2.1]; rfl
  refine ⟨fun b o h => (by cases h), fun g x hx => ?_, Nat.zero_le _, fun b hb => ?_, fun g x hx => ?_⟩
  · match g, hx with
    | 0, hx => cases hx; exact row 0 cs2 T2 fr2 _ hh2 hs2 (fun i r c hr hc => rowsL_cells hc2.1 hc2.2 i r c hr hc)
    | 1, hx => cases hx; exact row 1 cs1 T1 fr1 _ hh1 hs1 hp
  · show L0 W b = 0
    unfold L0
    rw [Array.getElem?_eq_none (show W.heap.size ≤ b from hb)]
  · match g, hx with
    | 0, hx => cases hx; exact ⟨T2, fr2 == (0, 0), by show shq W 0 = _; simp [shq, hh2, hs2, IV.cells]⟩
    | 1, hx => cases hx; exact ⟨T1, fr1 == (0, 0), by show shq W 1 = _; simp [shq, hh1, hs1, IV.cells]⟩

theorem below_of_ext {W : World} {X' : WS} (h : Ext (X0 W) X') : Below W.heap.size W X'.w :=
  ⟨h.os, h.tape, h.output, h.size, fun k hk => (h.keep k hk rfl).1⟩
theorem laidOut : laidOutB prog = true := by kernel_rfl
theorem trodAll_below {H : Type} {enc : TypeId × Value → H} {W W' : World} (hb : Below W.heap.size W W') (sp : Nat → Bool) : ∀ {ts : List TypeId} {vs : List Value} {ds : List (DataW H)} {ps : List MemPlace},
    (∀ t ∈ ts, prog.readableRec t = true ∧ t < prog.types.size) → DataW.TrodAll enc prog W 0 (fun _ => true) true ts vs ds ps → (∀ p ∈ ps, p.block < W.heap.size) → (∀ p ∈ ps, sp p.block = true) →
    DataW.TrodAll enc prog W' 0 sp true ts vs ds ps
  | [], vs, ds, ps, _, h, _, _ => by
    obtain ⟨rfl, rfl, rfl⟩ := trodAll_nil h
    rfl
  | t :: ts, vs, ds, ps, ht, h, hlt, hsp => by
    obtain ⟨v, vs1, d, ds1, a, b, rfl, rfl, rfl, h1, h2⟩ := trodAll_cons h
    refine ⟨a, b, WideElems.Trod_stays laidOut (ht t (by simp)).1 (ht t (by simp)).2 h1 (fun p hp => hb.same (hlt p (by simp [hp]))) (fun p hp => hsp p (by simp [hp])), ?_, rfl⟩
    exact trodAll_below hb sp (fun t h => ht t (by simp [h])) h2 (fun p hp => hlt p (by simp [hp])) (fun p hp => hsp p (by simp [hp]))

theorem law_post {H : Type} {enc : TypeId × Value → H} {f : Func} {s : ChangeSpec} {fid : FuncId} {W : World} {args : Array Value} {ds gs : List (DataW H)} {before : List MemPlace} {ivs : List IV}
    (hvars : s.vars = []) (hW : DataW.Whole enc prog f.params.toList s.vars false W args.toList ds gs before) (hfn : s.fn H (ds ++ gs) = { results := [.lit (.bool true)], args := ds })
    (hres : f.resultTypes = #[4]) (hread : ∀ t ∈ f.params.toList, prog.readableRec t = true ∧ t < prog.types.size) (hg : Go.Iv.Good ⟨prog, gl0, 0⟩ (X0 W)) (hv : VL 0 (L0 W) W args.toList ivs)
    (hc : ICall prog gl0 fid ivs (fun _ => none) (fun r st' => r = .raw (.bool true) ∧ st' = fun _ => none)) :
    Calls prog fid args W fun e W' => ∃ v, e = .returned v ∧ s.post enc prog f false true false false W args v W' := by
  refine (hc 0 (X0 W) args.toList hg rfl hv).mono ?_
  rintro e W' ⟨v, rfl, X', x, rfl, hg', he, hx, rfl, _⟩
  obtain rfl := V.raw_inv hx
  have hb := below_of_ext he
  refine ⟨_, rfl, ?_⟩
  have hW' := hW
  obtain ⟨p, q, hA, hV, rfl, hz, _⟩ := hW
  rw [hvars] at hV
  have hgs : gs = [] ∧ q = [] := by
    cases gs with
    | nil => exact ⟨rfl, hV⟩
    | cons _ _ => exact absurd hV (by simp [DataW.TrodVars])
  obtain ⟨rfl, rfl⟩ := hgs
  have hlt : ∀ x ∈ p, x.block < W.heap.size := fun x hx => by simpa using hW'.lt x (by simpa using hx)
  have hargs : ∀ sp : Nat → Bool, (∀ x ∈ p, sp x.block = true) → DataW.TrodAll enc prog X'.w 0 sp true f.params.toList args.toList (s.fn H (ds ++ [])).args p := fun sp hsp => by
    rw [hfn]
    exact trodAll_below hb sp hread hA hlt hsp
  have hr : ∀ (b : Nat) (sp : Nat → Bool) (hd : Bool), DataW.TrodAll enc prog X'.w b sp hd f.resultTypes.toList ((Value.bool true).resultList f.resultTypes.size) (s.fn H (ds ++ [])).results [] := fun _ _ _ => by
    rw [hfn, hres]
    exact trodAll_cons_mk (shut_bool uBool _) trodAll_mk0
  have hvs : ∀ sp : Nat → Bool, DataW.TrodVars enc prog X'.w sp s.vars (s.fn H (ds ++ [])).vars [] := fun _ => by
    rw [hvars, hfn]; rfl
  have hsz : ∀ x ∈ p, (fun b => decide (b < W.heap.size)) x.block = true := fun x hx => by simpa using hlt x hx
  refine ⟨ds, [], p ++ [], [], p, [], hW', hr _ _ _, hargs _ hsz, hvs _, World.keptBut_mono (fun x hx => ⟨hx, Or.inr (by simpa using hx)⟩) (hb.frame (· ∈ p ++ [])), fun _ => ⟨ok_one hres rfl (okWide_bool_mk uBool _), _, _, ([] ++ p) ++ [],
    ⟨[] ++ p, [], trodAll_append (hargs _ (fun _ _ => rfl)) (hr _ _ _), hvs _, rfl, ?_, fun h => by cases h⟩, fun x hx _ => by simpa using hx⟩⟩
  intro b off hp
  rw [hb.frozen (p := ⟨b, off, none⟩) (hlt (.cell b off) (by simpa using hp))]
  exact hz b off (by simpa using hp)

/-! ### An argument's value, from its cells -/
theorem form_val {W : World} {base : Nat} {v : Value} {f : Fm} {x : IV} (h : Value.okWide prog W .any base 25 v) (hx : VL 0 (L0 W) W v.cells.toList x.cells) (hf : IsFm f x) : V 0 (L0 W) W v x := by
  obtain ⟨cs, rfl, _⟩ := WideShapes.okWide_struct uForm h
  cases f with
  | mk op n us sub =>
    obtain ⟨tg, xs, tg', ys, rfl, _⟩ := IsFm.mk hf
    cases cs
    exact hx.agg
theorem term_val {W : World} {base : Nat} {v : Value} {t : Tm} {x : IV} (h : Value.okWide prog W .any base 33 v) (hx : VL 0 (L0 W) W v.cells.toList x.cells) (hf : IsTm t x) : V 0 (L0 W) W v x := by
  obtain ⟨cs, rfl, _⟩ := WideShapes.okWide_struct uTerm h
  cases t with
  | mk b n us =>
    obtain ⟨tg, xs, rfl, _⟩ := IsTm.mk hf
    cases cs
    exact hx.agg
theorem str_val {W : World} {base : Nat} {v : Value} {s : ByteArray} (h : Value.okWide prog W .any base 9 v) (hs : v.cells.toList = [.string s]) : v = .string s := by
  obtain ⟨s', rfl⟩ := WideShapes.okWide_string uString h
  simpa [Value.cells] using hs
theorem slice_val {W : World} {base : Nat} {t e : TypeId} {v w : Value} (ht : prog.underlying t = some (.slice e)) (h : Value.okWide prog W .any base t v) (hs : v.cells.toList = [w]) : v = w := by
  obtain ⟨a, len, cap, rfl⟩ := WideShapes.okWide_slice ht h
  simpa [Value.cells] using hs

/-! ### A world for the witness: the settled one, the four tables holding what their initialisers lay -/
def tab32 : List Int := [0, 1, 28, 2, 29, 14, 24, 3, 30, 22, 20, 15, 25, 17, 4, 8, 31, 27, 13, 23, 21, 19, 16, 7, 26, 12, 18, 6, 11, 5, 10, 9]
def tab64 : List Int := [0, 1, 56, 2, 57, 49, 28, 3, 61, 58, 42, 50, 38, 29, 17, 4, 62, 47, 59, 36, 45, 43, 51, 22, 53, 39, 33, 30, 24, 18, 12, 5, 63, 55, 48, 27, 60, 41, 37, 16, 46, 35, 44, 21, 52, 32, 23, 11, 54, 26, 40, 15, 34, 20, 31, 10, 25, 14, 19, 9, 13, 8, 7, 6]
def lay (cs : List Value) : Obj → Obj
  | .cells _ t frozen => .cells cs.toArray t frozen
  | o => o
noncomputable def laidWorld (os : Os) : World :=
  { World.holding prog os ⟨#[], #[], []⟩ with heap := ((((World.holding prog os ⟨#[], #[], []⟩).heap.modify 0 (lay ((List.range 17).flatMap rowV))).modify 1 (lay (Lib.pow10Tab.map fun z => .int .u64 z))).modify 2 (lay (tab32.map fun z => .int .u8 z))).modify 3 (lay (tab64.map fun z => .int .u8 z)) }
theorem laid_met (os : Os) (args : Array Value) : laidMet prog Rows.substNothingUptoRow.laid ((laidWorld os).forCall (fun _ _ => 0) ⟨#[], args, []⟩).memory :=
  laidMet_of_run' 8 (by kernel_rfl) (by kernel_rfl)
end Go.Proofs.Tryz
