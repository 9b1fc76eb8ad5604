/- Putting, renaming, normal forms: plain data, no program in sight.
   Putting: sizes and rightness of what comes out. Plain data, no program in sight.
   Equality up to bound names, normal forms. Plain data, no program in sight. -/
import Derived.Test.YtckafgnkmnichaaGreatDoorJT
import Derived.Lib.ItoaNum
set_option linter.all false
namespace Go.Proofs.Tryz
open Go Go.Iv

def xName (k : Nat) : ByteArray := ⟨(120 :: Lib.decDigits k).toArray⟩
def valD (l : List UInt8) : Nat := l.foldl (fun a d => a * 10 + (d.toNat - 48)) 0
theorem valD_dec (u : Nat) : valD (Lib.decDigits u) = u := by
  induction u using Nat.strongRecOn with
  | _ u ih =>
    rw [Lib.decDigits]
    by_cases h : u < 10
    · rw [dif_pos h]
      simp only [valD, List.foldl_cons, List.foldl_nil, UInt8.toNat_ofNat']
      omega
    · rw [dif_neg h]
      have := ih (u / 10) (by omega)
      simp only [valD, List.foldl_append, List.foldl_cons, List.foldl_nil, UInt8.toNat_ofNat'] at this ⊢
      rw [this]
      omega
theorem xName_inj {a b : Nat} (h : xName a = xName b) : a = b := by
  have h1 : (120 :: Lib.decDigits a) = (120 :: Lib.decDigits b) := by
    have := congrArg (fun x : ByteArray => x.data.toList) h
    simpa [xName] using this
  have h2 : Lib.decDigits a = Lib.decDigits b := by injection h1
  rw [← valD_dec a, h2, valD_dec b]
theorem nodup_le {α : Type} [DecidableEq α] : ∀ (a b : List α), a.Nodup → (∀ x ∈ a, x ∈ b) → a.length ≤ b.length
  | [], b, _, _ => Nat.zero_le _
  | x :: a, b, hn, hs => by
    have hx := hs x (List.mem_cons_self ..)
    have hn' := List.nodup_cons.1 hn
    have := nodup_le a (b.erase x) hn'.2 (fun y hy => (List.mem_erase_of_ne (by rintro rfl; exact hn'.1 hy)).2 (hs y (List.mem_cons_of_mem _ hy)))
    rw [List.length_erase_of_mem hx] at this
    have hb : 0 < b.length := List.length_pos_of_mem hx
    simp only [List.length_cons]; omega
theorem fresh_ex (l : List ByteArray) : ∃ k, 1 ≤ k ∧ k ≤ l.length + 1 ∧ xName k ∉ l := by
  refine Classical.byContradiction fun hne => ?_
  have hall : ∀ k, 1 ≤ k → k ≤ l.length + 1 → xName k ∈ l := fun k h1 h2 => Classical.byContradiction fun h => hne ⟨k, h1, h2, h⟩
  have := nodup_le ((List.range' 1 (l.length + 1)).map xName) l (by
      unfold List.Nodup
      rw [List.pairwise_map]
      exact List.Pairwise.imp (fun h he => h (xName_inj he)) (List.nodup_range' (s := 1) (n := l.length + 1))) (fun x hx => by
      obtain ⟨k, hk, rfl⟩ := List.mem_map.1 hx
      have := List.mem_range'_1.1 hk
      exact hall k (by omega) (by omega))
  simp at this
  omega
noncomputable def leastK (l : List ByteArray) : Nat := Iv.least (fun k => 1 ≤ k ∧ xName k ∉ l)
theorem leastK_spec (l : List ByteArray) : 1 ≤ leastK l ∧ leastK l ≤ l.length + 1 ∧ xName (leastK l) ∉ l ∧ ∀ j, 1 ≤ j → j < leastK l → xName j ∈ l := by
  obtain ⟨k, h1, h2, h3⟩ := fresh_ex l
  have hs := Iv.least_spec (p := fun k => 1 ≤ k ∧ xName k ∉ l) ⟨k, h1, h3⟩
  refine ⟨hs.1.1, Nat.le_trans (hs.2 k ⟨h1, h3⟩) h2, hs.1.2, fun j hj hlt => Classical.byContradiction fun hn => ?_⟩
  have := hs.2 j ⟨hj, hn⟩
  unfold leastK at hlt
  omega
theorem leastK_eq {l : List ByteArray} {k : Nat} (h1 : 1 ≤ k) (h2 : xName k ∉ l) (h3 : ∀ j, 1 ≤ j → j < k → xName j ∈ l) : leastK l = k := by
  obtain ⟨a1, a2, a3, a4⟩ := leastK_spec l
  rcases Nat.lt_trichotomy (leastK l) k with h | h | h
  · exact absurd (h3 _ a1 h) a3
  · exact h
  · exact absurd (a4 k h1 h) h2
theorem leastK_congr {l m : List ByteArray} (h : ∀ x, x ∈ l ↔ x ∈ m) : leastK l = leastK m := by
  obtain ⟨a1, a2, a3, a4⟩ := leastK_spec m
  exact leastK_eq a1 (fun hx => a3 ((h _).1 hx)) (fun j hj hlt => (h _).2 (a4 j hj hlt))
noncomputable def leastN (l : List ByteArray) : ByteArray := xName (leastK l)
theorem leastN_not (l : List ByteArray) : leastN l ∉ l := (leastK_spec l).2.2.1
theorem leastN_congr {l m : List ByteArray} (h : ∀ x, x ∈ l ↔ x ∈ m) : leastN l = leastN m := by unfold leastN; rw [leastK_congr h]

def memB (l : List ByteArray) (n : ByteArray) : Bool := l.any fun x => decide (x = n)
@[simp] theorem memB_iff {l : List ByteArray} {n : ByteArray} : memB l n = true ↔ n ∈ l := by
  simp [memB]
@[simp] theorem memB_not {l : List ByteArray} {n : ByteArray} : memB l n = false ↔ n ∉ l := by
  rw [← Bool.not_eq_true, memB_iff]

mutual
def frF : Fm → List ByteArray
  | .mk op m us sub => namesTms us ++ (if isQ op then (frFs sub).filter (fun n => !decide (n = m)) else frFs sub)
def frFs : List Fm → List ByteArray
  | [] => []
  | a :: l => frF a ++ frFs l
end
theorem freeL_incB (b : ByteArray → Nat) (m : ByteArray) (l : List ByteArray) : freeL (incB b m) l = freeL b (l.filter (fun n => !decide (n = m))) := by
  unfold freeL
  rw [List.filter_filter]
  refine List.filter_congr fun n _ => ?_
  unfold incB
  by_cases h : n = m <;> simp [h]
mutual
theorem freeFm_eq : ∀ (f : Fm) (b : ByteArray → Nat), freeFm b f = freeL b (frF f)
  | .mk op m us sub, b => by
    simp only [freeFm, frF, freeL_append]
    rw [freeFms_eq sub]
    split
    · rw [freeL_incB]
    · rfl
theorem freeFms_eq : ∀ (l : List Fm) (b : ByteArray → Nat), freeFms b l = freeL b (frFs l)
  | [], b => by simp [freeFms, frFs, freeL]
  | a :: l, b => by simp only [freeFms, frFs, freeL_append, freeFm_eq a b, freeFms_eq l b]
end
theorem freeB_eq (f : Fm) : freeB f = frF f := by
  unfold freeB
  rw [freeFm_eq]
  unfold freeL
  rw [List.filter_eq_self]
  intro a _; rfl

abbrev Sb := List (ByteArray × Tm)
def lookS (l : Sb) (n : ByteArray) : Option Tm := (l.find? fun p => decide (p.1 = n)).map (·.2)
def cntS (ps : Sb) (m : ByteArray) (fr : List ByteArray) : Sb := ps.filter fun p => memB fr p.1 && !decide (p.1 = m)
def clashS (ps : Sb) (m : ByteArray) (fr : List ByteArray) : Bool := (cntS ps m fr).any fun p => memB (namesTm p.2) m
def takenS (ps : Sb) (m : ByteArray) (fr : List ByteArray) : List ByteArray := fr ++ (cntS ps m fr).flatMap fun p => namesTm p.2
noncomputable def underS (ps : Sb) (m : ByteArray) (fr : List ByteArray) : ByteArray × Sb :=
  if clashS ps m fr then (leastN (takenS ps m fr), cntS ps m fr ++ [(m, .mk true (leastN (takenS ps m fr)) [])]) else (m, cntS ps m fr)
mutual
noncomputable def formS : Sb → Fm → Fm
  | ps, .mk op m us sub => .mk op (if isQ op then (underS ps m (frFs sub)).1 else m) (mapTms (lookS ps) us) (formSs (if isQ op then (underS ps m (frFs sub)).2 else ps) sub)
noncomputable def formSs : Sb → List Fm → List Fm
  | _, [] => []
  | ps, a :: l => formS ps a :: formSs ps l
end
theorem formSs_append (ps : Sb) : ∀ l m : List Fm, formSs ps (l ++ m) = formSs ps l ++ formSs ps m
  | [], m => by simp [formSs]
  | a :: l, m => by simp only [List.cons_append, formSs, formSs_append ps l m]
theorem formSs_length (ps : Sb) : ∀ l : List Fm, (formSs ps l).length = l.length
  | [] => rfl
  | a :: l => by simp only [formSs, List.length_cons, formSs_length ps l]

inductive NlT where
  | bv (i : Nat)
  | fv (n : ByteArray)
  | ap (n : ByteArray) (l : List NlT)
inductive NlF where
  | mk (op : Nat) (n : ByteArray) (us : List NlT) (sub : List NlF)
def lookE : List ByteArray → ByteArray → Option Nat
  | [], _ => none
  | m :: e, n => if n = m then some e.length else lookE e n
def lookV (env : List ByteArray) (n : ByteArray) : NlT := match lookE env n with | some i => .bv i | none => .fv n
mutual
def db (env : List ByteArray) : Tm → NlT
  | .mk true n _ => lookV env n
  | .mk false n l => .ap n (dbs env l)
def dbs (env : List ByteArray) : List Tm → List NlT
  | [] => []
  | a :: l => db env a :: dbs env l
end
mutual
def dbF : List ByteArray → Fm → NlF
  | env, .mk op m us sub => .mk op (if isQ op then ⟨#[]⟩ else m) (dbs env us) (dbFs (if isQ op then m :: env else env) sub)
def dbFs : List ByteArray → List Fm → List NlF
  | _, [] => []
  | env, a :: l => dbF env a :: dbFs env l
end
mutual
def dsub (σ : ByteArray → NlT) : NlT → NlT
  | .bv i => .bv i
  | .fv n => σ n
  | .ap n l => .ap n (dsubs σ l)
def dsubs (σ : ByteArray → NlT) : List NlT → List NlT
  | [] => []
  | a :: l => dsub σ a :: dsubs σ l
end
mutual
def dsubF (σ : ByteArray → NlT) : NlF → NlF
  | .mk op n us sub => .mk op n (dsubs σ us) (dsubFs σ sub)
def dsubFs (σ : ByteArray → NlT) : List NlF → List NlF
  | [] => []
  | a :: l => dsubF σ a :: dsubFs σ l
end
mutual
def frT : NlT → List ByteArray
  | .bv _ => []
  | .fv n => [n]
  | .ap _ l => frTs l
def frTs : List NlT → List ByteArray
  | [] => []
  | a :: l => frT a ++ frTs l
end
mutual
def frD : NlF → List ByteArray
  | .mk _ _ us sub => frTs us ++ frDs sub
def frDs : List NlF → List ByteArray
  | [] => []
  | a :: l => frD a ++ frDs l
end

theorem lookE_lt : ∀ {e : List ByteArray} {n : ByteArray} {i : Nat}, lookE e n = some i → i < e.length
  | [], n, i, h => by cases h
  | m :: e, n, i, h => by
    simp only [lookE] at h
    split at h
    · cases h; simp
    · have := lookE_lt h; simp only [List.length_cons]; omega
theorem lookE_none : ∀ {e : List ByteArray} {n : ByteArray}, lookE e n = none ↔ n ∉ e
  | [], n => by simp [lookE]
  | m :: e, n => by
    simp only [lookE, List.mem_cons, not_or]
    by_cases h : n = m
    · simp [h]
    · simp [h, lookE_none (e := e)]
theorem lookV_cons {e : List ByteArray} {m n : ByteArray} : lookV (m :: e) n = if n = m then .bv e.length else lookV e n := by
  unfold lookV
  simp only [lookE]
  by_cases h : n = m <;> simp [h]

theorem ok_var {n : ByteArray} {l : List Tm} (h : (Tm.mk true n l).ok = true) : l = [] := by
  simp only [Tm.ok, Bool.and_eq_true, List.isEmpty_iff] at h; exact h.1
theorem ok_fun {n : ByteArray} {l : List Tm} (h : (Tm.mk false n l).ok = true) : okTms l = true := by
  simp only [Tm.ok, Bool.and_eq_true] at h; exact h.2
theorem okTms_cons {a : Tm} {l : List Tm} (h : okTms (a :: l) = true) : a.ok = true ∧ okTms l = true := by
  simpa only [okTms, Bool.and_eq_true] using h
theorem okFms_cons {a : Fm} {l : List Fm} (h : okFms (a :: l) = true) : a.ok = true ∧ okFms l = true := by
  simpa only [okFms, Bool.and_eq_true] using h
theorem ok_form {op : Nat} {m : ByteArray} {us : List Tm} {sub : List Fm} (h : (Fm.mk op m us sub).ok = true) : okTms us = true ∧ okFms sub = true ∧ okRow op m us.length sub.length = true := by
  simp only [Fm.ok, Bool.and_eq_true] at h; exact ⟨h.1.2, h.2, h.1.1⟩
mutual
theorem frT_db (env : List ByteArray) : ∀ t : Tm, t.ok = true → frT (db env t) = (namesTm t).filter (fun n => !memB env n)
  | .mk true n l, h => by
    obtain rfl := ok_var h
    simp only [db, namesTm, namesTms]
    unfold lookV
    cases hl : lookE env n with
    | none => simp [frT, lookE_none.1 hl]
    | some i =>
      have : n ∈ env := Classical.byContradiction fun hn => by rw [lookE_none.2 hn] at hl; cases hl
      simp [frT, this]
  | .mk false n l, h => by
    simp only [db, namesTm, frT]
    exact frTs_dbs env l (ok_fun h)
theorem frTs_dbs (env : List ByteArray) : ∀ l : List Tm, okTms l = true → frTs (dbs env l) = (namesTms l).filter (fun n => !memB env n)
  | [], _ => rfl
  | a :: l, h => by
    simp only [dbs, frTs, namesTms, List.filter_append, frT_db env a (okTms_cons h).1, frTs_dbs env l (okTms_cons h).2]
end
mutual
theorem frD_dbF : ∀ (f : Fm) (env : List ByteArray), f.ok = true → frD (dbF env f) = (frF f).filter (fun n => !memB env n)
  | .mk op m us sub, env, h => by
    obtain ⟨h1, h2, _⟩ := ok_form h
    simp only [dbF, frD, frF, List.filter_append, frTs_dbs env us h1, frDs_dbFs sub _ h2]
    congr 1
    split
    · rw [List.filter_filter]
      refine List.filter_congr fun n _ => ?_
      by_cases hn : n = m
      · simp [hn, memB]
      · simp [hn, memB, Ne.symm hn]
    · rfl
theorem frDs_dbFs : ∀ (l : List Fm) (env : List ByteArray), okFms l = true → frDs (dbFs env l) = (frFs l).filter (fun n => !memB env n)
  | [], _, _ => rfl
  | a :: l, env, h => by
    simp only [dbFs, frDs, frFs, List.filter_append, frD_dbF a env (okFms_cons h).1, frDs_dbFs l env (okFms_cons h).2]
end
theorem frD_db0 {f : Fm} (h : f.ok = true) : frD (dbF [] f) = frF f := by
  rw [frD_dbF f [] h, List.filter_eq_self]; intro a _; simp

mutual
theorem db_cons (env : List ByteArray) (m : ByteArray) : ∀ t : Tm, m ∉ namesTm t → db (m :: env) t = db env t
  | .mk true n l, h => by
    simp only [namesTm, List.mem_cons, not_or] at h
    simp only [db, lookV_cons]
    rw [if_neg (fun he => h.1 he.symm)]
  | .mk false n l, h => by
    simp only [db, dbs_cons env m l (by simpa [namesTm] using h)]
theorem dbs_cons (env : List ByteArray) (m : ByteArray) : ∀ l : List Tm, m ∉ namesTms l → dbs (m :: env) l = dbs env l
  | [], _ => rfl
  | a :: l, h => by
    simp only [namesTms, List.mem_append, not_or] at h
    simp only [dbs, db_cons env m a h.1, dbs_cons env m l h.2]
end
mutual
theorem db_map (env env' : List ByteArray) (σ : ByteArray → NlT) (F : ByteArray → Option Tm) : ∀ t : Tm, t.ok = true → (∀ n ∈ namesTm t, db env' ((F n).getD (.mk true n [])) = dsub σ (lookV env n)) → db env' (mapTm F t) = dsub σ (db env t)
  | .mk true n l, h, hn => by
    obtain rfl := ok_var h
    have h1 := hn n (by simp [namesTm])
    simp only [mapTm, db]
    rw [← h1]
    cases F n with
    | none => rfl
    | some u => rfl
  | .mk false n l, h, hn => by
    simp only [mapTm, db, dsub, dbs_map env env' σ F l (ok_fun h) (fun n hm => hn n (by simpa [namesTm] using hm))]
theorem dbs_map (env env' : List ByteArray) (σ : ByteArray → NlT) (F : ByteArray → Option Tm) : ∀ l : List Tm, okTms l = true → (∀ n ∈ namesTms l, db env' ((F n).getD (.mk true n [])) = dsub σ (lookV env n)) → dbs env' (mapTms F l) = dsubs σ (dbs env l)
  | [], _, _ => rfl
  | a :: l, h, hn => by
    simp only [mapTms, dbs, dsubs, db_map env env' σ F a (okTms_cons h).1 (fun n hm => hn n (by simp [namesTms, hm])), dbs_map env env' σ F l (okTms_cons h).2 (fun n hm => hn n (by simp [namesTms, hm]))]
end
theorem lookS_filter_pos {ps : Sb} {q : ByteArray × Tm → Bool} {n : ByteArray} (h : ∀ u, q (n, u) = true) : lookS (ps.filter q) n = lookS ps n := by
  unfold lookS
  rw [List.find?_filter]
  congr 2
  funext p
  by_cases hp : p.1 = n
  · obtain ⟨a, u⟩ := p; simp only at hp; subst hp; simp [h u]
  · simp [hp]
theorem lookS_filter_neg {ps : Sb} {q : ByteArray × Tm → Bool} {n : ByteArray} (h : ∀ u, q (n, u) = false) : lookS (ps.filter q) n = none := by
  unfold lookS
  rw [List.find?_filter, Option.map_eq_none_iff, List.find?_eq_none]
  intro p _
  by_cases hp : p.1 = n
  · obtain ⟨a, u⟩ := p; simp only at hp; subst hp; simp [h u]
  · simp [hp]
theorem lookS_append (ps qs : Sb) (n : ByteArray) : lookS (ps ++ qs) n = (lookS ps n).or (lookS qs n) := by
  unfold lookS
  rw [List.find?_append]
  cases ps.find? _ <;> rfl
theorem lookS_cnt {ps : Sb} {m n : ByteArray} {fr : List ByteArray} (hn : n ∈ fr) (hm : n ≠ m) : lookS (cntS ps m fr) n = lookS ps n :=
  lookS_filter_pos fun u => by simp [hn, hm]
theorem lookS_cnt_self {ps : Sb} {m : ByteArray} {fr : List ByteArray} : lookS (cntS ps m fr) m = none :=
  lookS_filter_neg fun u => by simp
theorem lookS_mem {ps : Sb} {n : ByteArray} {u : Tm} (h : lookS ps n = some u) : (n, u) ∈ ps := by
  unfold lookS at h
  rw [Option.map_eq_some_iff] at h
  obtain ⟨⟨a, v⟩, h1, h2⟩ := h
  have h3 := List.find?_some h1
  simp only [decide_eq_true_eq] at h3
  simp only at h2
  subst h3 h2
  exact List.mem_of_find?_eq_some h1
end Go.Proofs.Tryz

namespace Go.Proofs.Tryz
open Go Go.Iv

theorem look_under {ps : Sb} {m : ByteArray} {fr : List ByteArray} {n : ByteArray} (hn : n ∈ fr) :
    lookS (underS ps m fr).2 n = if n = m then (if clashS ps m fr then some (.mk true (underS ps m fr).1 []) else none) else lookS ps n := by
  unfold underS
  by_cases hnm : n = m
  · subst hnm
    rw [if_pos rfl]
    split
    · simp only [lookS_append, lookS_cnt_self]
      simp [lookS]
    · exact lookS_cnt_self
  · rw [if_neg hnm]
    split
    · simp only [lookS_append, lookS_cnt hn hnm]
      have : lookS [(m, Tm.mk true (leastN (takenS ps m fr)) [])] n = none := by simp [lookS, Ne.symm hnm]
      rw [this]; simp
    · exact lookS_cnt hn hnm

section
variable (ps : List Pc)
def HSz (b : ByteArray → Nat) (F : ByteArray → Option Tm) (n : ByteArray) : Prop :=
  (if b n = 0 then lastP ps n (1, 1) else (1, 1)) = (((F n).getD (.mk true n [])).size, ((F n).getD (.mk true n [])).deep)
mutual
theorem psz_map (b : ByteArray → Nat) (F : ByteArray → Option Tm) : ∀ t : Tm, t.ok = true → (∀ n ∈ namesTm t, HSz ps b F n) → psz ps b t = ((mapTm F t).size, (mapTm F t).deep)
  | .mk true n l, h, hn => by
    obtain rfl := ok_var h
    have h1 := hn n (by simp [namesTm])
    unfold HSz at h1
    simp only [psz, pszs, true_and, mapTm]
    rw [h1]
    cases F n with
    | none => rfl
    | some u => rfl
  | .mk false n l, h, hn => by
    have := pszs_map b F l (ok_fun h) (fun n hm => hn n (by simpa [namesTm] using hm))
    simp only [psz, Bool.false_eq_true, false_and, if_false, mapTm, Tm.size, Tm.deep, this]
theorem pszs_map (b : ByteArray → Nat) (F : ByteArray → Option Tm) : ∀ l : List Tm, okTms l = true → (∀ n ∈ namesTms l, HSz ps b F n) → pszs ps b l = (sizeTms (mapTms F l), deepTms (mapTms F l))
  | [], _, _ => rfl
  | a :: l, h, hn => by
    simp only [pszs, mapTms, sizeTms, deepTms, psz_map b F a (okTms_cons h).1 (fun n hm => hn n (by simp [namesTms, hm])), pszs_map b F l (okTms_cons h).2 (fun n hm => hn n (by simp [namesTms, hm]))]
end
theorem HSz_under {b : ByteArray → Nat} {qs : Sb} {m : ByteArray} {fr : List ByteArray} {n : ByteArray} (hn : n ∈ fr) (h : n ≠ m → HSz ps b (lookS qs) n) : HSz ps (incB b m) (lookS (underS qs m fr).2) n := by
  unfold HSz at h ⊢
  rw [look_under hn]
  by_cases hnm : n = m
  · subst hnm
    simp only [incB, if_true]
    rw [if_neg (by omega)]
    split <;> rfl
  · simp only [incB, if_neg hnm]
    exact h hnm
mutual
theorem fsz_form : ∀ (f : Fm) (qs : Sb) (b : ByteArray → Nat), f.ok = true → (∀ n ∈ frF f, HSz ps b (lookS qs) n) → fsz ps b f = ((formS qs f).size, (formS qs f).deep)
  | .mk op m us sub, qs, b, hok, h => by
    obtain ⟨h1, h2, _⟩ := ok_form hok
    simp only [frF] at h
    simp only [fsz, formS, Fm.size, Fm.deep, pszs_map ps b (lookS qs) us h1 (fun n hn => h n (by simp [hn]))]
    by_cases hq : isQ op = true
    · simp only [hq, if_true] at h ⊢
      rw [fszs_form sub _ _ h2 (fun n hn => HSz_under ps hn (fun hm => h n (by simp [hn, hm])))]
    · simp only [hq, Bool.false_eq_true, if_false] at h ⊢
      rw [fszs_form sub qs b h2 (fun n hn => h n (by simp [hn]))]
theorem fszs_form : ∀ (l : List Fm) (qs : Sb) (b : ByteArray → Nat), okFms l = true → (∀ n ∈ frFs l, HSz ps b (lookS qs) n) → fszs ps b l = (sizeFms (formSs qs l), deepFms (formSs qs l))
  | [], _, _, _, _ => rfl
  | a :: l, qs, b, hok, h => by
    simp only [frFs] at h
    simp only [fszs, formSs, sizeFms, deepFms, fsz_form a qs b (okFms_cons hok).1 (fun n hn => h n (by simp [hn])), fszs_form l qs b (okFms_cons hok).2 (fun n hn => h n (by simp [hn]))]
end
end
def toS (ps : List Pc) : Sb := ps.map fun p => (p.nm, p.tm)
theorem putF_toS (ps : List Pc) : putF ps = lookS (toS ps) := by
  funext n
  unfold putF lookS toS
  rw [List.find?_map]
  simp only [Option.map_map]
  rfl
theorem lastP_look : ∀ (ps : List Pc) (z : Nat × Nat) (n : ByteArray), (ps.map Pc.nm).Nodup → lastP ps n z = match lookS (toS ps) n with | some u => (u.size, u.deep) | none => z
  | [], z, n, _ => rfl
  | p :: ps, z, n, h => by
    simp only [List.map_cons, List.nodup_cons] at h
    have ih := lastP_look ps (if p.nm = n then (p.tm.size, p.tm.deep) else z) n h.2
    have h0 : lastP (p :: ps) n z = lastP ps n (if p.nm = n then (p.tm.size, p.tm.deep) else z) := rfl
    rw [h0, ih]
    have hc : lookS (toS (p :: ps)) n = if p.nm = n then some p.tm else lookS (toS ps) n := by
      unfold lookS toS
      rw [List.map_cons, List.find?_cons]
      by_cases hp : p.nm = n <;> simp [hp]
    rw [hc]
    by_cases hp : p.nm = n
    · rw [if_pos hp, if_pos hp]
      have : lookS (toS ps) n = none := by
        cases hl : lookS (toS ps) n with
        | none => rfl
        | some u =>
          have := lookS_mem hl
          unfold toS at this
          obtain ⟨q, hq, he⟩ := List.mem_map.1 this
          cases he
          exact absurd (List.mem_map.2 ⟨q, hq, hp.symm⟩) h.1
      rw [this]
    · rw [if_neg hp, if_neg hp]
theorem HSz0 {ps : List Pc} (h : (ps.map Pc.nm).Nodup) (n : ByteArray) : HSz ps (fun _ => 0) (lookS (toS ps)) n := by
  unfold HSz
  rw [if_pos rfl, lastP_look ps _ n h]
  cases lookS (toS ps) n <;> rfl
theorem fsz_eq {ps : List Pc} (h : (ps.map Pc.nm).Nodup) {f : Fm} (hf : f.ok = true) : fsz ps (fun _ => 0) f = ((formS (toS ps) f).size, (formS (toS ps) f).deep) :=
  fsz_form ps f (toS ps) _ hf (fun n _ => HSz0 h n)

theorem decDigits_digit (u : Nat) : ∀ c ∈ Lib.decDigits u, isDigit c = true := by
  induction u using Nat.strongRecOn with
  | _ u ih =>
    rw [Lib.decDigits]
    by_cases h : u < 10
    · rw [dif_pos h]
      intro c hc
      rw [List.mem_singleton] at hc
      subst hc
      simp only [isDigit, inB, UInt8.toNat_ofNat', Bool.and_eq_true, decide_eq_true_eq]
      omega
    · rw [dif_neg h]
      intro c hc
      rcases List.mem_append.1 hc with hc | hc
      · exact ih _ (by omega) c hc
      · rw [List.mem_singleton] at hc
        subst hc
        simp only [isDigit, inB, UInt8.toNat_ofNat', Bool.and_eq_true, decide_eq_true_eq]
        omega
theorem nDigits_le : ∀ (k u : Nat), u < 10 ^ (k + 1) → Lib.nDigits u ≤ k + 1
  | 0, u, h => by rw [Lib.nDigits_small (by simpa using h)]; omega
  | k + 1, u, h => by
    by_cases hu : u < 10
    · rw [Lib.nDigits_small hu]; omega
    · rw [Lib.nDigits_big hu]
      have := nDigits_le k (u / 10) (by rw [Nat.pow_succ] at h; omega)
      omega
theorem xName_ok {k : Nat} (h : k < 1000000000000000) : nmVar (xName k) = true := by
  have hl : (Lib.decDigits k).length < 16 := by
    rw [Lib.decDigits_length]
    have := nDigits_le 14 k (by simpa using h)
    omega
  have hd : ∀ (w : ByteArray), (∀ c l, w.data.toList = c :: l → c ≠ 120) → w.data.toList ≠ [] → decide (xName k = w) = false := fun w hw hne => by
    refine decide_eq_false fun he => ?_
    subst he
    exact hw 120 (Lib.decDigits k) (by simp [xName]) rfl
  have hr : isReserved (xName k) = false := by
    unfold isReserved
    rw [hd wAll (by intro c l h; cases h; decide) (by decide), hd wSome (by intro c l h; cases h; decide) (by decide), hd wFalse (by intro c l h; cases h; decide) (by decide),
      hd wNext (by intro c l h; cases h; decide) (by decide), hd wAlways (by intro c l h; cases h; decide) (by decide), hd wUntil (by intro c l h; cases h; decide) (by decide)]
    rfl
  unfold nmVar nameOf
  rw [show (xName k).data.toList = 120 :: Lib.decDigits k by simp [xName]]
  simp only [hr, Bool.and_eq_true, decide_eq_true_eq, List.all_eq_true]
  exact ⟨⟨⟨hl, rfl⟩, by decide⟩, decDigits_digit k⟩
theorem leastN_ok {l : List ByteArray} (h : l.length < 900000000000000) : nmVar (leastN l) = true := xName_ok (by have := (leastK_spec l).2.1; omega)

mutual
theorem mapTm_ok (F : ByteArray → Option Tm) (hF : ∀ n u, F n = some u → u.ok = true) : ∀ t : Tm, t.ok = true → (mapTm F t).ok = true
  | .mk true n l, h => by
    obtain rfl := ok_var h
    simp only [mapTm]
    cases hn : F n with
    | none => exact h
    | some u => exact hF n u hn
  | .mk false n l, h => by
    have := mapTms_ok F hF l (ok_fun h)
    simp only [mapTm, Tm.ok, mapTms_length, this, Bool.and_true] at h ⊢
    simp only [Bool.and_eq_true] at h ⊢
    exact h.1
theorem mapTms_ok (F : ByteArray → Option Tm) (hF : ∀ n u, F n = some u → u.ok = true) : ∀ l : List Tm, okTms l = true → okTms (mapTms F l) = true
  | [], _ => rfl
  | a :: l, h => by
    simp only [mapTms, okTms, mapTm_ok F hF a (okTms_cons h).1, mapTms_ok F hF l (okTms_cons h).2, Bool.and_self]
end
mutual
theorem namesTm_le : ∀ t : Tm, (namesTm t).length ≤ t.size
  | .mk true n l => by have := namesTms_le l; simp only [namesTm, List.length_cons, Tm.size]; omega
  | .mk false n l => by have := namesTms_le l; simp only [namesTm, Tm.size]; omega
theorem namesTms_le : ∀ l : List Tm, (namesTms l).length ≤ sizeTms l
  | [] => Nat.le_refl _
  | a :: l => by have := namesTm_le a; have := namesTms_le l; simp only [namesTms, List.length_append, sizeTms]; omega
end
mutual
theorem frF_le : ∀ f : Fm, (frF f).length ≤ f.size
  | .mk op m us sub => by
    have h1 := namesTms_le us
    have h2 := frFs_le sub
    simp only [frF, List.length_append, Fm.size]
    split
    · have := List.length_filter_le (fun n => !decide (n = m)) (frFs sub); omega
    · omega
theorem frFs_le : ∀ l : List Fm, (frFs l).length ≤ sizeFms l
  | [] => Nat.le_refl _
  | a :: l => by have := frF_le a; have := frFs_le l; simp only [frFs, List.length_append, sizeFms]; omega
end
def wS : Sb → Nat
  | [] => 0
  | p :: l => p.2.size + wS l
theorem wS_append : ∀ l m : Sb, wS (l ++ m) = wS l + wS m
  | [], m => by simp [wS]
  | a :: l, m => by simp only [List.cons_append, wS, wS_append l m]; omega
theorem wS_filter (q : ByteArray × Tm → Bool) : ∀ l : Sb, wS (l.filter q) ≤ wS l
  | [] => Nat.le_refl _
  | a :: l => by
    have := wS_filter q l
    rw [List.filter_cons]
    split
    · simp only [wS]; omega
    · simp only [wS]; omega
theorem flat_le : ∀ l : Sb, (l.flatMap fun p => namesTm p.2).length ≤ wS l
  | [] => Nat.le_refl _
  | a :: l => by
    have := flat_le l
    have := namesTm_le a.2
    simp only [List.flatMap_cons, List.length_append, wS]; omega
theorem taken_le (ps : Sb) (m : ByteArray) (fr : List ByteArray) : (takenS ps m fr).length ≤ fr.length + wS ps := by
  have := flat_le (cntS ps m fr)
  have := wS_filter (fun p => memB fr p.1 && !decide (p.1 = m)) ps
  unfold takenS cntS at *
  simp only [List.length_append]; omega
theorem wS_under (ps : Sb) (m : ByteArray) (fr : List ByteArray) : wS (underS ps m fr).2 ≤ wS ps + 1 := by
  have := wS_filter (fun p => memB fr p.1 && !decide (p.1 = m)) ps
  unfold underS cntS
  split
  · simp only [wS_append, wS, Tm.size, sizeTms]; omega
  · simp only; omega
end Go.Proofs.Tryz

namespace Go.Proofs.Tryz
open Go Go.Iv

noncomputable def alphaB (f g : Fm) : Bool := f.right && g.right && eqB (dbF [] f) (dbF [] g)
theorem lookV_ne {e : List ByteArray} {n : ByteArray} {l : Nat} (h : e.length ≤ l) : lookV e n ≠ .bv l := by
  unfold lookV
  split
  · rename_i i hi
    have := lookE_lt hi
    intro he; injection he; omega
  · intro he; cases he
theorem lookV_pair {ls rs : List ByteArray} {l r n n' : ByteArray} (hlen : ls.length = rs.length) : lookV (l :: ls) n = lookV (r :: rs) n' ↔ (if n = l ∨ n' = r then n = l ∧ n' = r else lookV ls n = lookV rs n') := by
  rw [lookV_cons, lookV_cons]
  by_cases h1 : n = l
  · by_cases h2 : n' = r
    · simp [h1, h2, hlen]
    · simp only [h1, h2, if_true, true_or, and_false, iff_false, if_false]
      exact fun h => lookV_ne (Nat.le_of_eq hlen.symm) h.symm
  · by_cases h2 : n' = r
    · simp only [h1, h2, if_true, or_true, false_and, iff_false, if_false]
      exact fun h => lookV_ne (Nat.le_of_eq hlen) h
    · simp [h1, h2]
theorem lookV_fn {e : List ByteArray} {n m : ByteArray} {l : List NlT} : lookV e n ≠ .ap m l := by
  unfold lookV; split <;> intro h <;> cases h
theorem lookV_nil {n : ByteArray} : lookV [] n = .fv n := rfl
abbrev Ar := List (ByteArray × ByteArray)
def renF (ar : Ar) (n : ByteArray) : Option Tm := (ar.find? fun p => decide (p.1 = n)).map fun p => .mk true p.2 []
mutual
noncomputable def normS (free : List ByteArray) : Ar → Fm → Fm
  | ar, .mk op m us sub => .mk op (if isQ op then leastN (free ++ ar.map (·.2)) else m) (mapTms (renF ar) us) (normSs free (if isQ op then (m, leastN (free ++ ar.map (·.2))) :: ar else ar) sub)
noncomputable def normSs (free : List ByteArray) : Ar → List Fm → List Fm
  | _, [] => []
  | ar, a :: l => normS free ar a :: normSs free ar l
end
theorem normSs_append (free : List ByteArray) (ar : Ar) : ∀ l m : List Fm, normSs free ar (l ++ m) = normSs free ar l ++ normSs free ar m
  | [], m => by simp [normSs]
  | a :: l, m => by simp only [List.cons_append, normSs, normSs_append free ar l m]
theorem normSs_length (free : List ByteArray) (ar : Ar) : ∀ l : List Fm, (normSs free ar l).length = l.length
  | [] => rfl
  | a :: l => by simp only [normSs, List.length_cons, normSs_length free ar l]
noncomputable def normF (f : Fm) : Fm := normS (frF f) [] f

def nth (rs : List ByteArray) (i : Nat) : ByteArray := (rs[rs.length - 1 - i]?).getD ⟨#[]⟩
mutual
def undb (rs : List ByteArray) : NlT → Tm
  | .bv i => .mk true (nth rs i) []
  | .fv n => .mk true n []
  | .ap n l => .mk false n (undbs rs l)
def undbs (rs : List ByteArray) : List NlT → List Tm
  | [] => []
  | a :: l => undb rs a :: undbs rs l
end
mutual
noncomputable def undbF (free : List ByteArray) : List ByteArray → NlF → Fm
  | rs, .mk op n us sub => .mk op (if isQ op then leastN (free ++ rs) else n) (undbs rs us) (undbFs free (if isQ op then leastN (free ++ rs) :: rs else rs) sub)
noncomputable def undbFs (free : List ByteArray) : List ByteArray → List NlF → List Fm
  | _, [] => []
  | rs, a :: l => undbF free rs a :: undbFs free rs l
end
theorem renF_cons {m r n : ByteArray} {ar : Ar} : renF ((m, r) :: ar) n = if m = n then some (.mk true r []) else renF ar n := by
  unfold renF
  rw [List.find?_cons]
  by_cases h : m = n <;> simp [h]
theorem nth_cons {r : ByteArray} {rs : List ByteArray} {i : Nat} (h : i < rs.length) : nth (r :: rs) i = nth rs i := by
  unfold nth
  rw [List.length_cons, show rs.length + 1 - 1 - i = (rs.length - 1 - i) + 1 by omega, List.getElem?_cons_succ]
theorem ren_undb : ∀ (ar : Ar) (n : ByteArray), (renF ar n).getD (.mk true n []) = undb (ar.map (·.2)) (lookV (ar.map (·.1)) n)
  | [], n => rfl
  | (m, r) :: ar, n => by
    have ih := ren_undb ar n
    rw [renF_cons, List.map_cons, List.map_cons, lookV_cons]
    by_cases h : m = n
    · rw [if_pos h, if_pos h.symm]
      simp [undb, nth]
    · rw [if_neg h, if_neg (Ne.symm h), ih]
      cases hl : lookE (ar.map (·.1)) n with
      | none => simp only [lookV, hl, undb]
      | some i =>
        have := lookE_lt hl
        simp only [lookV, hl, undb]
        rw [nth_cons (by simpa using this)]
mutual
theorem mapTm_undb (ar : Ar) : ∀ t : Tm, t.ok = true → mapTm (renF ar) t = undb (ar.map (·.2)) (db (ar.map (·.1)) t)
  | .mk true n l, h => by
    obtain rfl := ok_var h
    simp only [db, ← ren_undb, mapTm]
    cases renF ar n <;> rfl
  | .mk false n l, h => by simp only [mapTm, db, undb, mapTms_undb ar l (ok_fun h)]
theorem mapTms_undb (ar : Ar) : ∀ l : List Tm, okTms l = true → mapTms (renF ar) l = undbs (ar.map (·.2)) (dbs (ar.map (·.1)) l)
  | [], _ => rfl
  | a :: l, h => by simp only [mapTms, dbs, undbs, mapTm_undb ar a (okTms_cons h).1, mapTms_undb ar l (okTms_cons h).2]
end
mutual
theorem normS_undb (free : List ByteArray) : ∀ (f : Fm) (ar : Ar), f.ok = true → normS free ar f = undbF free (ar.map (·.2)) (dbF (ar.map (·.1)) f)
  | .mk op m us sub, ar, hok => by
    obtain ⟨h1, h2, _⟩ := ok_form hok
    simp only [normS, dbF, undbF, mapTms_undb ar us h1]
    by_cases hq : isQ op = true
    · simp only [hq, if_true, normSs_undb free sub _ h2, List.map_cons]
    · simp only [hq, Bool.false_eq_true, if_false, normSs_undb free sub _ h2]
theorem normSs_undb (free : List ByteArray) : ∀ (l : List Fm) (ar : Ar), okFms l = true → normSs free ar l = undbFs free (ar.map (·.2)) (dbFs (ar.map (·.1)) l)
  | [], _, _ => rfl
  | a :: l, ar, hok => by simp only [normSs, dbFs, undbFs, normS_undb free a ar (okFms_cons hok).1, normSs_undb free l ar (okFms_cons hok).2]
end
theorem normF_congr {f g : Fm} (hf : f.ok = true) (hg : g.ok = true) (h : dbF [] f = dbF [] g) : normF f = normF g := by
  have hfr : frF f = frF g := by rw [← frD_db0 hf, h, frD_db0 hg]
  unfold normF
  rw [normS_undb _ f [] hf, normS_undb _ g [] hg, hfr]
  simp only [List.map_nil, h]

mutual
theorem dsub_fv : ∀ d : NlT, dsub .fv d = d
  | .bv i => rfl
  | .fv n => rfl
  | .ap n l => by simp only [dsub, dsubs_fv l]
theorem dsubs_fv : ∀ l : List NlT, dsubs .fv l = l
  | [] => rfl
  | a :: l => by simp only [dsubs, dsub_fv a, dsubs_fv l]
end
theorem ren_db : ∀ (ar : Ar) (n : ByteArray), (ar.map (·.2)).Nodup → (n ∉ ar.map (·.1) → n ∉ ar.map (·.2)) → db (ar.map (·.2)) ((renF ar n).getD (.mk true n [])) = lookV (ar.map (·.1)) n
  | [], n, _, _ => rfl
  | (m, r) :: ar, n, hnd, h => by
    simp only [List.map_cons, List.nodup_cons] at hnd
    rw [renF_cons, List.map_cons, List.map_cons, lookV_cons]
    by_cases hm : m = n
    · rw [if_pos hm, if_pos hm.symm]
      simp [db, lookV_cons]
    · rw [if_neg hm, if_neg (Ne.symm hm)]
      by_cases hin : n ∈ ar.map (·.1)
      · have ih := ren_db ar n hnd.2 (fun hh => absurd hin hh)
        rw [← ih]
        refine db_cons _ _ _ ?_
        cases hr : renF ar n with
        | none =>
          exfalso
          unfold renF at hr
          rw [Option.map_eq_none_iff, List.find?_eq_none] at hr
          obtain ⟨p, hp, he⟩ := List.mem_map.1 hin
          have := hr p hp
          exact this (by simpa using he)
        | some u =>
          unfold renF at hr
          rw [Option.map_eq_some_iff] at hr
          obtain ⟨p, hp, rfl⟩ := hr
          simp only [Option.getD_some, namesTm, namesTms, List.mem_singleton]
          rintro rfl
          exact hnd.1 (List.mem_map.2 ⟨p, List.mem_of_find?_eq_some hp, rfl⟩)
      · have hn := h (by simp only [List.map_cons, List.mem_cons, not_or]; exact ⟨Ne.symm hm, hin⟩)
        simp only [List.map_cons, List.mem_cons, not_or] at hn
        rw [← ren_db ar n hnd.2 (fun _ => hn.2)]
        refine db_cons _ _ _ ?_
        have hr : renF ar n = none := by
          unfold renF
          rw [Option.map_eq_none_iff, List.find?_eq_none]
          intro p hp
          simp only [decide_eq_true_eq]
          rintro rfl
          exact hin (List.mem_map.2 ⟨p, hp, rfl⟩)
        rw [hr]
        simp only [Option.getD_none, namesTm, namesTms, List.mem_singleton]
        exact fun he => hn.1 he.symm
mutual
theorem dbF_normS (free : List ByteArray) : ∀ (f : Fm) (ar : Ar), f.ok = true → (ar.map (·.2)).Nodup → (∀ n ∈ ar.map (·.2), n ∉ free) → (∀ n ∈ frF f, n ∉ ar.map (·.1) → n ∈ free) →
    dbF (ar.map (·.2)) (normS free ar f) = dbF (ar.map (·.1)) f
  | .mk op m us sub, ar, hok, hnd, hfr, hs => by
    obtain ⟨h1, h2, _⟩ := ok_form hok
    simp only [frF] at hs
    have hu := dbs_map (ar.map (·.1)) (ar.map (·.2)) .fv (renF ar) us h1 (fun n hn => by
      rw [dsub_fv]
      exact ren_db ar n hnd (fun hh hr => hfr n hr (hs n (by simp [hn]) hh)))
    rw [dsubs_fv] at hu
    simp only [normS, dbF, hu]
    by_cases hq : isQ op = true
    · simp only [hq, if_true] at hs ⊢
      have hl := leastN_not (free ++ ar.map (·.2))
      simp only [List.mem_append, not_or] at hl
      have := dbFs_normSs free sub ((m, leastN (free ++ ar.map (·.2))) :: ar) h2 (by simp only [List.map_cons, List.nodup_cons]; exact ⟨hl.2, hnd⟩)
        (fun n hn => by
          simp only [List.map_cons, List.mem_cons] at hn
          rcases hn with rfl | hn
          · exact hl.1
          · exact hfr n hn)
        (fun n hn hh => by
          simp only [List.map_cons, List.mem_cons, not_or] at hh
          exact hs n (by simp [hn, hh.1]) hh.2)
      simp only [List.map_cons] at this
      rw [this]
    · simp only [hq, Bool.false_eq_true, if_false] at hs ⊢
      rw [dbFs_normSs free sub ar h2 hnd hfr (fun n hn hh => hs n (by simp [hn]) hh)]
theorem dbFs_normSs (free : List ByteArray) : ∀ (l : List Fm) (ar : Ar), okFms l = true → (ar.map (·.2)).Nodup → (∀ n ∈ ar.map (·.2), n ∉ free) → (∀ n ∈ frFs l, n ∉ ar.map (·.1) → n ∈ free) →
    dbFs (ar.map (·.2)) (normSs free ar l) = dbFs (ar.map (·.1)) l
  | [], _, _, _, _, _ => rfl
  | a :: l, ar, hok, hnd, hfr, hs => by
    simp only [frFs] at hs
    simp only [normSs, dbFs, dbF_normS free a ar (okFms_cons hok).1 hnd hfr (fun n hn hh => hs n (by simp [hn]) hh), dbFs_normSs free l ar (okFms_cons hok).2 hnd hfr (fun n hn hh => hs n (by simp [hn]) hh)]
end
theorem dbF_normF {f : Fm} (h : f.ok = true) : dbF [] (normF f) = dbF [] f := dbF_normS (frF f) f [] h (by simp) (by simp) (fun n hn _ => hn)

mutual
theorem size_var {F : ByteArray → Option Tm} (hF : ∀ n u, F n = some u → u.size = 1 ∧ u.deep = 1) : ∀ t : Tm, t.ok = true → (mapTm F t).size = t.size ∧ (mapTm F t).deep = t.deep
  | .mk true n l, h => by
    obtain rfl := ok_var h
    simp only [mapTm]
    cases hn : F n with
    | none => exact ⟨rfl, rfl⟩
    | some u => exact hF n u hn
  | .mk false n l, h => by
    have := sizes_var hF l (ok_fun h)
    simp only [mapTm, Tm.size, Tm.deep, this.1, this.2, and_self]
theorem sizes_var {F : ByteArray → Option Tm} (hF : ∀ n u, F n = some u → u.size = 1 ∧ u.deep = 1) : ∀ l : List Tm, okTms l = true → sizeTms (mapTms F l) = sizeTms l ∧ deepTms (mapTms F l) = deepTms l
  | [], _ => ⟨rfl, rfl⟩
  | a :: l, h => by
    have h1 := size_var hF a (okTms_cons h).1
    have h2 := sizes_var hF l (okTms_cons h).2
    simp only [mapTms, sizeTms, deepTms, h1.1, h1.2, h2.1, h2.2, and_self]
end
theorem renF_one {ar : Ar} {n : ByteArray} {u : Tm} (h : renF ar n = some u) : u.size = 1 ∧ u.deep = 1 := by
  unfold renF at h
  rw [Option.map_eq_some_iff] at h
  obtain ⟨p, _, rfl⟩ := h
  exact ⟨rfl, rfl⟩
mutual
theorem normS_size (free : List ByteArray) : ∀ (f : Fm) (ar : Ar), f.ok = true → (normS free ar f).size = f.size ∧ (normS free ar f).deep = f.deep
  | .mk op m us sub, ar, hok => by
    obtain ⟨h1, h2, _⟩ := ok_form hok
    have h3 := sizes_var (F := renF ar) (fun n u h => renF_one h) us h1
    have h4 := normSs_size free sub (if isQ op then (m, leastN (free ++ ar.map (·.2))) :: ar else ar) h2
    simp only [normS, Fm.size, Fm.deep, h3.1, h3.2, h4.1, h4.2, and_self]
theorem normSs_size (free : List ByteArray) : ∀ (l : List Fm) (ar : Ar), okFms l = true → sizeFms (normSs free ar l) = sizeFms l ∧ deepFms (normSs free ar l) = deepFms l
  | [], _, _ => ⟨rfl, rfl⟩
  | a :: l, ar, hok => by
    have h1 := normS_size free a ar (okFms_cons hok).1
    have h2 := normSs_size free l ar (okFms_cons hok).2
    simp only [normSs, sizeFms, deepFms, h1.1, h1.2, h2.1, h2.2, and_self]
end
mutual
theorem normS_ok (free : List ByteArray) : ∀ (f : Fm) (ar : Ar), f.ok = true → (∀ p ∈ ar, nmVar p.2 = true) → free.length + ar.length + f.size < 900000000000000 → (normS free ar f).ok = true
  | .mk op m us sub, ar, hok, hp, hb => by
    obtain ⟨h1, h2, h3⟩ := ok_form hok
    have hF : ∀ n u, renF ar n = some u → u.ok = true := fun n u h => by
      unfold renF at h
      rw [Option.map_eq_some_iff] at h
      obtain ⟨p, hpm, rfl⟩ := h
      simp [Tm.ok, hp p (List.mem_of_find?_eq_some hpm)]
    have hlk : nmVar (leastN (free ++ ar.map (·.2))) = true := leastN_ok (by simp only [Fm.size] at hb; simp only [List.length_append, List.length_map]; omega)
    simp only [Fm.size] at hb
    simp only [normS, Fm.ok, mapTms_length, normSs_length, mapTms_ok _ hF us h1, Bool.and_true]
    by_cases hq : isQ op = true
    · simp only [hq, if_true]
      rw [normSs_ok free sub _ h2 (fun p hpm => by
        rcases List.mem_cons.1 hpm with rfl | hpm
        · exact hlk
        · exact hp p hpm) (by simp only [List.length_cons]; omega), Bool.and_true]
      have ho : op = 8 ∨ op = 9 := by simpa [isQ] using hq
      have hrow : ∀ x, okRow op x us.length sub.length = (nmVar x && decide (us.length = 0) && decide (sub.length = 1)) := fun x => by rcases ho with rfl | rfl <;> rfl
      rw [hrow] at h3 ⊢
      simp only [Bool.and_eq_true] at h3 ⊢
      exact ⟨⟨hlk, h3.1.2⟩, h3.2⟩
    · simp only [hq, Bool.false_eq_true, if_false]
      rw [normSs_ok free sub ar h2 hp (by omega), Bool.and_true]
      exact h3
theorem normSs_ok (free : List ByteArray) : ∀ (l : List Fm) (ar : Ar), okFms l = true → (∀ p ∈ ar, nmVar p.2 = true) → free.length + ar.length + sizeFms l < 900000000000000 → okFms (normSs free ar l) = true
  | [], _, _, _, _ => rfl
  | a :: l, ar, hok, hp, hb => by
    simp only [sizeFms] at hb
    simp only [normSs, okFms, normS_ok free a ar (okFms_cons hok).1 hp (by omega), normSs_ok free l ar (okFms_cons hok).2 hp (by omega), Bool.and_self]
end
theorem right_ok {f : Fm} (h : f.right = true) : f.ok = true ∧ f.size ≤ 400 ∧ f.deep ≤ 40 := by
  simp only [Fm.right, Bool.and_eq_true, decide_eq_true_eq] at h; exact ⟨h.1.1, h.1.2, h.2⟩
theorem right_of {f : Fm} (h1 : f.ok = true) (h2 : f.size ≤ 400) (h3 : f.deep ≤ 40) : f.right = true := by
  simp only [Fm.right, Bool.and_eq_true, decide_eq_true_eq]; exact ⟨⟨h1, h2⟩, h3⟩
theorem normF_right {f : Fm} (h : f.right = true) : (normF f).right = true := by
  obtain ⟨h1, h2, h3⟩ := right_ok h
  have h4 := normS_size (frF f) f [] h1
  have h5 := frF_le f
  exact right_of (normS_ok (frF f) f [] h1 (fun p hp => by cases hp) (by simp only [List.length_nil]; omega)) (by unfold normF; omega) (by unfold normF; omega)
theorem normF_idem {f : Fm} (h : f.right = true) : normF (normF f) = normF f := normF_congr (right_ok (normF_right h)).1 (right_ok h).1 (dbF_normF (right_ok h).1)
end Go.Proofs.Tryz
