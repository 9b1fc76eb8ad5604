/-  -/
import Derived.Test.YtebjhmlmdjnkgaaGreatDoorKF
set_option linter.all false
namespace Go.Proofs.Tryz
open Go Go.Iv
def dbF (_:List ByteArray)(f:Fm):Fm:=f
theorem xJv {f:Fm}(h:f.right=true):f.ok=true/\f.size<=400/\f.deep<=40:=by
 simp only[Fm.right,bAt,dTe] at h;exact⟨h.1.1,h.1.2,h.2⟩
theorem wJ9 {f:Fm}(h1:f.ok=true)(h2:f.size<=400)(h3:f.deep<=40):f.right=true:=by
 simp only[Fm.right,h1,dEt h2,dEt h3,Bool.and_self]
noncomputable def yJf (f g:Fm):Bool:=f.right&&g.right&&eqB (dbF [] f) (dbF [] g)
theorem zUg:∀ {l:List Fm}{a:Fm},yKc l=true->a∈l->a.ok=true
 | b::l,a,h,hm=>by
  simp only[yKc,bAt] at h;rcases List.mem_cons.1 hm with rfl|hm
  ·exact h.1
  ·exact zUg h.2 hm
