/- Small words: bulk and size, few terms, w -/
import Derived.Test.YtakbihknkdpmgaaGreatDoorJW
set_option linter.all false
namespace Go.Proofs.Tryz
open Go Go.Iv
