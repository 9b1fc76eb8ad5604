/- Closed facts of the row of HintChecks. -/
import Derived.Test.YtakbihknkdpmgaaGreatDoorCards
import Derived.Test.YtakbihknkdpmgaaGreatDoorTie
import Derived.WalkKit
import Derived.ProofKit
import Derived.OpenShut
import Derived.Deep.DeepHandedRow
set_option linter.all false
namespace Go.Proofs.Tryz.hintChecks
open Go Go.ChangeShapes Go.WideShapes Go.ChangeAt Go.RowKit
open Go.Proofs.YtakbihknkdpmgaaGreatDoor Go.Proofs.Tryz
set_option maxRecDepth 8000
theorem own:ownKnob prog.godebug=none:=by kernel_rfl
theorem andT {a b:Bool}(h1:a=true)(h2:b=true):(a&&b)=true:=by rw[h1,h2];rfl
set_option maxHeartbeats 0 in
theorem Mx:joinedFacts Tryz.pinned.checked.prog 3 f3 (Rows.OpenSpec.upto Rows.hintChecksSpec).bare Rows.hintChecksUptoRow=true:=by
 unfold joinedFacts
 repeat' (with_reducible apply andT)
 all_goals (as_aux_lemma=>kernel_rfl)
theorem My:f3.isWrapper Tryz.pinned.checked.prog Rows.hintChecksUptoRow.wrapper Rows.hintChecksUptoRow.mainSum:=by
 unfold Func.isWrapper;first|(rw[if_pos (by decide +kernel)];kernel_rfl)|(rw[if_neg (by decide +kernel)];exact⟨rfl,rfl⟩)
theorem plain (f:FuncId)(fn:Func)(E:Tryz.pinned.checked.prog.funcNamed "lyceum/lyceumlaw27.HintChecks" = some f)(D:Tryz.pinned.checked.prog.funcs[f]?=some fn) :
  false=Tryz.pinned.checked.prog.looks []/\∀(j:Nat) t,fn.params[j]?=some t->Tryz.pinned.checked.prog.wantsStandIn t=false:=by
 obtain rfl:f=3:=Option.some.inj ((show prog.funcNamed "lyceum/lyceumlaw27.HintChecks" = some 3 by kernel_rfl).symm.trans E) |>.symm;obtain rfl:fn=f3:=(Option.some.inj (func3.symm.trans D)).symm;refine⟨by as_aux_lemma=>kernel_rfl,λj t ht=>?_⟩;have A:t∈f3.params.toList:=Array.mem_toList_iff.2 (Array.mem_of_getElem? ht);rw[params3] at A;simp only[List.mem_cons,List.not_mem_nil,or_false] at A;rcases A with rfl|rfl<;>exact (show prog.wantsStandIn _=false by kernel_rfl)
