/- From a row's reading to ideal values, pa -/
import Derived.Lib.SmallJoins
import Derived.Test.YtabhgbojkjcfjaaGreatDoorJT
import Derived.Test.YtabhgbojkjcfjaaGreatDoorRows
set_option linter.all false
namespace Go.Iv
open Go Go.ChangeShapes
def L0 (w:World)(b:Nat):Nat:=match w.heap[b]? with
 | some (.cells c _ _)=>c.size
 | _=>0
theorem add_zero (a:Addr):a.add 0=a:=by simp[Addr.add]
section
variable {H:Type}{enc:TypeId×Value->H}{P:Program}{w:World}{spare:Nat->Bool}{held:Bool}
end
end Go.Iv
namespace Go.Proofs.Tryz
open Go Go.Iv Go.ChangeShapes
open Go.Proofs.YtabhgbojkjcfjaaGreatDoor.Rows (uptoBulk uptoBulkAll)
set_option maxRecDepth 4000
theorem wVt:prog.underlying 4=some .bool:=by kernel_rfl
theorem uU8:prog.underlying 5=some (.int .u8):=by kernel_rfl
section
variable {H:Type}{enc:TypeId×Value->H}{w:World}{spare:Nat->Bool}{held:Bool}
theorem cs3 {cs:List Value}(h:cs.length=3):∃a b c,cs=[a,b,c]:=by
 match cs,h with
 | [a,b,c],_=>exact⟨a,b,c,rfl⟩
end
section
variable {H:Type}{enc:TypeId×Value->H}{w:World}{spare:Nat->Bool}{held:Bool}
end
