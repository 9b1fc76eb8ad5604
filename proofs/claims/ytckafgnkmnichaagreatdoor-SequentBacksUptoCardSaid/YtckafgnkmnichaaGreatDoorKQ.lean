/- Small words: bulk and size, few terms, what is given to a call again. -/
import Derived.Test.YtckafgnkmnichaaGreatDoorJT
import Derived.Test.YtckafgnkmnichaaGreatDoorJU
import Derived.Test.YtckafgnkmnichaaGreatDoorKF
import Derived.Test.YtckafgnkmnichaaGreatDoorJW
set_option linter.all false
namespace Go.Proofs.Tryz
open Go Go.Iv

end Go.Proofs.Tryz
