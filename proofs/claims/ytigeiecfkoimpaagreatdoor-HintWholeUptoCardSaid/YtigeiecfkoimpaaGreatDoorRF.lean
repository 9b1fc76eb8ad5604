/- Closed facts of the row of HintWhole. -/
import Derived.Test.YtigeiecfkoimpaaGreatDoorCards
import Derived.Test.YtigeiecfkoimpaaGreatDoorTie
import Derived.WalkKit
import Derived.ProofKit
import Derived.OpenShut
import Derived.Deep.DeepHandedRow
set_option linter.all false
namespace Go.Proofs.Tryz.hintWhole
open Go Go.ChangeShapes Go.WideShapes Go.ChangeAt Go.RowKit
open Go.Proofs.YtigeiecfkoimpaaGreatDoor Go.Proofs.Tryz
set_option maxRecDepth 8000
theorem own:ownKnob prog.godebug=none:=by kernel_rfl
theorem andT {a b:Bool}(h1:a=true)(h2:b=true):(a&&b)=true:=by rw[h1,h2];rfl
set_option maxHeartbeats 0 in
theorem Mr:joinedFacts Tryz.pinned.checked.prog 3 f3 (Rows.OpenSpec.upto Rows.hintWholeSpec).bare Rows.hintWholeUptoRow=true:=by
 unfold joinedFacts
 repeat' (with_reducible apply andT)
 all_goals (as_aux_lemma=>kernel_rfl)
theorem Mt:f3.isWrapper Tryz.pinned.checked.prog Rows.hintWholeUptoRow.wrapper Rows.hintWholeUptoRow.mainSum:=by
 unfold Func.isWrapper;first|(rw[if_pos (by decide +kernel)];kernel_rfl)|(rw[if_neg (by decide +kernel)];exact⟨rfl,rfl⟩)
theorem plain (f:FuncId)(fn:Func)(G:Tryz.pinned.checked.prog.funcNamed "lyceum/lyceumlaw27.HintWhole" = some f)(E:Tryz.pinned.checked.prog.funcs[f]?=some fn) :
  false=Tryz.pinned.checked.prog.looks []/\∀(j:Nat) t,fn.params[j]?=some t->Tryz.pinned.checked.prog.wantsStandIn t=false:=by
 obtain rfl:f=3:=Option.some.inj ((show prog.funcNamed "lyceum/lyceumlaw27.HintWhole" = some 3 by kernel_rfl).symm.trans G) |>.symm;obtain rfl:fn=f3:=(Option.some.inj (func3.symm.trans E)).symm;refine⟨by as_aux_lemma=>kernel_rfl,λj t ht=>?_⟩;have D:t∈f3.params.toList:=Array.mem_toList_iff.2 (Array.mem_of_getElem? ht);rw[params3] at D;simp only[List.mem_cons,List.not_mem_nil,or_false] at D;rcases D with rfl|rfl|rfl<;>exact (show prog.wantsStandIn _=false by kernel_rfl)
