/- The size of a formula, read off its nameless form; formulas that are equal up to bound names stay so: plain data. -/
import Derived.Test.YtckafgnkmnichaaGreatDoorKD
set_option linter.all false
namespace Go.Proofs.Tryz
open Go Go.Iv

mutual
def szT : NlT → Nat
  | .bv _ => 1
  | .fv _ => 1
  | .ap _ l => szTs l + 1
def szTs : List NlT → Nat
  | [] => 0
  | a :: l => szT a + szTs l
end
mutual
def dpT : NlT → Nat
  | .bv _ => 1
  | .fv _ => 1
  | .ap _ l => dpTs l + 1
def dpTs : List NlT → Nat
  | [] => 0
  | a :: l => max (dpT a) (dpTs l)
end
mutual
def szD : NlF → Nat
  | .mk _ _ us sub => szTs us + szDs sub + 1
def szDs : List NlF → Nat
  | [] => 0
  | a :: l => szD a + szDs l
end
mutual
def dpD : NlF → Nat
  | .mk _ _ us sub => max (dpTs us) (dpDs sub) + 1
def dpDs : List NlF → Nat
  | [] => 0
  | a :: l => max (dpD a) (dpDs l)
end
theorem lookV_sz (e : List ByteArray) (n : ByteArray) : szT (lookV e n) = 1 ∧ dpT (lookV e n) = 1 := by
  unfold lookV
  split <;> exact ⟨rfl, rfl⟩
mutual
theorem db_size (e : List ByteArray) : ∀ t : Tm, t.ok = true → szT (db e t) = t.size ∧ dpT (db e t) = t.deep
  | .mk true n us, h => by
    obtain rfl := ok_var h
    simp only [db, Tm.size, Tm.deep, sizeTms, deepTms]
    exact lookV_sz e n
  | .mk false n us, h => by
    have := dbs_size e us (ok_fun h)
    simp only [db, szT, dpT, Tm.size, Tm.deep, this.1, this.2, and_self]
theorem dbs_size (e : List ByteArray) : ∀ l : List Tm, okTms l = true → szTs (dbs e l) = sizeTms l ∧ dpTs (dbs e l) = deepTms l
  | [], _ => ⟨rfl, rfl⟩
  | a :: l, h => by
    have h1 := db_size e a (okTms_cons h).1
    have h2 := dbs_size e l (okTms_cons h).2
    simp only [dbs, szTs, dpTs, sizeTms, deepTms, h1.1, h1.2, h2.1, h2.2, and_self]
end
mutual
theorem dbF_size : ∀ (f : Fm) (e : List ByteArray), f.ok = true → szD (dbF e f) = f.size ∧ dpD (dbF e f) = f.deep
  | .mk op n us sub, e, h => by
    obtain ⟨h1, h2, _⟩ := ok_form h
    have i1 := dbs_size e us h1
    have i2 := dbFs_size sub (if isQ op then n :: e else e) h2
    simp only [dbF, szD, dpD, Fm.size, Fm.deep, i1.1, i1.2, i2.1, i2.2, and_self]
theorem dbFs_size : ∀ (l : List Fm) (e : List ByteArray), okFms l = true → szDs (dbFs e l) = sizeFms l ∧ dpDs (dbFs e l) = deepFms l
  | [], _, _ => ⟨rfl, rfl⟩
  | a :: l, e, h => by
    have i1 := dbF_size a e (okFms_cons h).1
    have i2 := dbFs_size l e (okFms_cons h).2
    simp only [dbFs, szDs, dpDs, sizeFms, deepFms, i1.1, i1.2, i2.1, i2.2, and_self]
end
theorem same_size {f g : Fm} (hf : f.ok = true) (hg : g.ok = true) (h : dbF [] f = dbF [] g) : f.size = g.size ∧ f.deep = g.deep := by
  have h1 := dbF_size f [] hf
  have h2 := dbF_size g [] hg
  rw [h] at h1
  exact ⟨h1.1.symm.trans h2.1, h1.2.symm.trans h2.2⟩
theorem puts_size (f : Fm) (l : Sb) : (PutsS f l).1.size ≤ 400 := by
  unfold PutsS
  split
  · split
    · rename_i h
      simp only [Bool.and_eq_true, decide_eq_true_eq] at h
      exact h.1
    · show fm0.size ≤ 400
      decide
  · show fm0.size ≤ 400
    decide
end Go.Proofs.Tryz
