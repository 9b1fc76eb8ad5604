/- Renaming a bound variable: plain data. -/
import Derived.Test.YtabhgbojkjcfjaaGreatDoorKG
set_option linter.all false
namespace Go.Proofs.Tryz
open Go Go.Iv
theorem xKc (m n:ByteArray)(t:Tm):yZh [(m,t)] n=if m=n then some t else none:=by
 unfold yZh;by_cases h:m=n<;>simp[List.find?,h]
theorem wKa (m:ByteArray)(t:Tm)(fr:List ByteArray):yKh [(m,t)] fr=if memB fr m then [(m,t)] else []:=by
 unfold yKh;by_cases h:memB fr m=true<;>simp[List.filter,h]
