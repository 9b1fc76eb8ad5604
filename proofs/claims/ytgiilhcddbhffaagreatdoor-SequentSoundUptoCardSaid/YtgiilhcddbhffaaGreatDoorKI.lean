/- Renaming a bound variable: plain data. -/
import Derived.Test.YtgiilhcddbhffaaGreatDoorKG
set_option linter.all false
namespace Go.Proofs.Tryz
open Go Go.Iv
theorem xKa (m n:ByteArray)(t:Tm):yZi [(m,t)] n=if m=n then some t else none:=by
 unfold yZi
 by_cases h:m=n<;>simp[List.find?,h]
theorem wK7 (m:ByteArray)(t:Tm)(fr:List ByteArray):yKg [(m,t)] fr=if memB fr m then [(m,t)] else []:=by
 unfold yKg
 by_cases h:memB fr m=true<;>simp[List.filter,h]
end Go.Proofs.Tryz
