/-  -/
import Derived.Test.YtebjhmlmdjnkgaaGreatDoorCards
import Derived.Test.YtebjhmlmdjnkgaaGreatDoorTie
import Derived.WalkKit
import Derived.ProofKit
import Derived.OpenShut
import Derived.Deep.DeepHandedRow
set_option linter.all false
namespace Go.Proofs.Tryz.signsSmall
open Go Go.ChangeShapes Go.WideShapes Go.ChangeAt Go.RowKit
open Go.Proofs.YtebjhmlmdjnkgaaGreatDoor Go.Proofs.Tryz
set_option maxRecDepth 8000
theorem own:ownKnob prog.godebug=none:=by kernel_rfl
theorem andT {a b:Bool}(h1:a=true)(h2:b=true):(a&&b)=true:=by rw[h1,h2];rfl
set_option maxHeartbeats 0 in
theorem vVe:joinedFacts Tryz.pinned.checked.prog 3 f3 (OpenSpec.ofChange Rows.signsSmallSpec).bare Rows.signsSmallRow=true:=by
 unfold joinedFacts
 repeat' (with_reducible apply andT)
 all_goals (as_aux_lemma=>kernel_rfl)
theorem uQv:f3.isWrapper Tryz.pinned.checked.prog Rows.signsSmallRow.wrapper Rows.signsSmallRow.mainSum:=by
 unfold Func.isWrapper;first|(rw[if_pos (by decide +kernel)];kernel_rfl)|(rw[if_neg (by decide +kernel)];exact⟨rfl,rfl⟩)
theorem plain (f:FuncId)(fn:Func)(hf:Tryz.pinned.checked.prog.funcNamed "lyceum/lyceumlaw23.SignsSmall" = some f)(hfn:Tryz.pinned.checked.prog.funcs[f]?=some fn) :
  false=Tryz.pinned.checked.prog.looks []/\∀(j:Nat) t,fn.params[j]?=some t->Tryz.pinned.checked.prog.wantsStandIn t=false:=by
 obtain rfl:f=3:=Option.some.inj ((show prog.funcNamed "lyceum/lyceumlaw23.SignsSmall" = some 3 by kernel_rfl).symm.trans hf) |>.symm;obtain rfl:fn=f3:=(Option.some.inj (func3.symm.trans hfn)).symm;refine⟨by as_aux_lemma=>kernel_rfl,λj t ht=>?_⟩;have hm:t∈f3.params.toList:=Array.mem_toList_iff.2 (Array.mem_of_getElem? ht);rw[params3] at hm;simp only[List.mem_cons,List.not_mem_nil,or_false] at hm
