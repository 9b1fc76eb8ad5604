/-  -/
import Derived.Test.YtebjhmlmdjnkgaaGreatDoorJV
import Derived.Sort.KeysCollected
import Derived.Sort.Walk0
import Derived.Sort.Grow
import Derived.Lib.LaidTab
set_option linter.all false
namespace Go.Proofs.Tryz
open Go Go.Iv Go.RowKit Go.Maps Go.Sort
variable {C:Cx}{X:WS}
def ltN (a b:ByteArray):Prop:=a.data.toList<b.data.toList
theorem wUh (a:ByteArray):¬ ltN a a:=List.lt_irrefl _
theorem xUr {a b:ByteArray}(h:ltN a b):¬ ltN b a:=List.lt_asymm h
theorem xUp {a b c:ByteArray}(h:ltN a b)(k:ltN b c):ltN a c:=List.lt_trans h k
theorem wYd {a b:ByteArray}(h:a.data.toList=b.data.toList):a=b:=by
 cases a;cases b;congr 1;exact Array.ext' h
theorem xUq {a b:ByteArray}(h:¬ ltN a b)(hne:a≠b):ltN b a:=by
 unfold ltN at *;rcases List.le_total a.data.toList b.data.toList with h1|h1
 ·refine Classical.byContradiction λh2=>hne (wYd (List.le_antisymm h1 ?_));exact List.not_lt.1 h
 ·refine Classical.byContradiction λh2=>hne (wYd (List.le_antisymm (List.not_lt.1 h2) h1))
theorem xKp {a b:ByteArray}:Op.bytesLess a.data.toList b.data.toList=true↔ltN a b:=by
 rw[bytesLess_eq];simp[ltN]
