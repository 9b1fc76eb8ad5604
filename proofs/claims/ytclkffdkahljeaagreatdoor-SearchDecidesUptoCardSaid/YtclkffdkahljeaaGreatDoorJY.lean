/- Walks: Free, FreeTerm, Bound, Fresh. -/
import Derived.Test.YtclkffdkahljeaaGreatDoorJX
set_option linter.all false
namespace Go.Proofs.Tryz
open Go Go.Iv
set_option maxRecDepth 4000
variable (gl:Nat->Option IV)
def addE (es:List (Value×IV))(l:List ByteArray):List (Value×IV):=l.foldl (λes s=>updI (.string s) (.raw (.bool true)) es) es
theorem zJ5 (es:List (Value×IV))(l m:List ByteArray):addE es (l++m)=addE (addE es l) m:=by simp[addE]
