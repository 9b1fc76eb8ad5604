/-  -/
import Derived.Test.YtebjhmlmdjnkgaaGreatDoorRF
import Derived.Test.YtebjhmlmdjnkgaaGreatDoorQI
set_option linter.all false
namespace Go.Proofs.Tryz.signsSmall
open Go Go.Iv Go.ChangeShapes Go.WideShapes Go.ChangeAt Go.RowKit
open Go.Proofs.YtebjhmlmdjnkgaaGreatDoor Go.Proofs.Tryz
set_option maxRecDepth 8000
theorem wJb:∀t∈f3.params.toList,prog.readableRec t=true/\t<prog.types.size:=by
 rw[params3];intro t ht;simp only[List.mem_cons,List.not_mem_nil,or_false] at ht
theorem wKk (H:Type)(enc:TypeId×Value->H)(W:World)(base:Nat)(args:Array Value)(ds gs:List (DataW H))(before:List MemPlace)
  (hval:∀(j:Nat) t v,f3.params[j]?=some t->args[j]?=some v->Value.okWide prog W .any base t v)
  (hW:DataW.Whole enc prog f3.params.toList Rows.signsSmallSpec.vars false W args.toList ds gs before) (hL:laidMetH prog Rows.signsSmallRow.laid W) :
  Calls prog 3 args W λe W'=>∃v,e=.returned v/\Rows.signsSmallSpec.post enc prog f3 false true false false W args v W':=by
 have hW':=hW;obtain⟨p,q,hA,hV,rfl,hfz,hnd⟩:=hW;rw[params3] at hA hval;obtain⟨hargs,rfl,rfl⟩:=trodAll_nil hA;obtain rfl:args=#[]:=by cases args;simp_all
 obtain⟨rfl,rfl⟩:=trodVars_none hV;exact wK4 rfl hW' rfl rfl wJb (uWk hL) VL.nil
  (xQo gl0 G0 wKz _ λ_=>rfl)
def wit:Array Value:=#[]
theorem vJ1 (os:Os){H:Type}(enc:TypeId×Value->H):∃places,DataW.whole enc prog ((zJg os).forCall (λ_ _=>0) ⟨#[],wit,[]⟩).memory f3.params.toList Rows.signsSmallSpec.vars false wit.toList 8 =
  some ([],[],places):=⟨[],by kernel_rfl⟩
set_option maxRecDepth 100000 in
theorem vJz (os:Os)(started:os.Started)(H:Type)(enc:TypeId×Value->H)(F:Stop.Interp) :
  ReturnsInHanded {} checked os 3 .any ((OpenSpec.ofChange Rows.signsSmallSpec).preRow enc prog f3 Rows.signsSmallRow.domain false Rows.signsSmallRow.laid) (((OpenSpec.ofChange Rows.signsSmallSpec).at F).post enc prog f3 false true false false):=by
 obtain⟨places,hx⟩:=vJ1 os enc;refine returnsInHanded_of_row (C:=checked) (s:=OpenSpec.ofChange Rows.signsSmallSpec) own started (by kernel_rfl) func3
  (witness_row_at (enc:=enc) (C:=checked) false (zJg os) wit rfl (by kernel_rfl) (by kernel_rfl) (by kernel_rfl)
   (OpenSpec.preRow_of_cond 8 hx (by kernel_rfl) (λk hk=>by cases hk) (by kernel_rfl) (wK5 os wit))) ?_
 intro W base args ds gs before hval hW _ _ _ hL _ _;exact wKk H enc W base args ds gs before hval hW hL
theorem said:Rows.SignsSmallSaid :=
 OpenClaim.holds_of_cond 3 f3 rfl rfl rfl rfl rfl rfl rfl ⟨rfl,rfl,rfl,rfl,rfl⟩ rfl rfl rfl rfl rfl (by as_aux_lemma=>kernel_rfl) func3 vVe
  (of_decide_eq_true (by as_aux_lemma=>kernel_rfl)) uQv
  (λos started H enc _ F=>by rw[OpenClaim.pre_eq_preRow];exact vJz os started H enc F)
theorem card:Rows.SignsSmallCardSaid :=
 Claim7.holds_tied_plain_at .later [] _ _ _ _ said (λ_ h=>by cases h) (by as_aux_lemma=>kernel_rfl) (λ_ h=>by cases h) signsSmall_row_tie rfl ⟨rfl,rfl⟩ (by as_aux_lemma=>kernel_rfl) rfl plain (by as_aux_lemma=>kernel_rfl)
end Go.Proofs.Tryz.signsSmall
namespace Go.Proofs.YtebjhmlmdjnkgaaGreatDoor
theorem signsSmall_card:Rows.SignsSmallCardSaid:=Go.Proofs.Tryz.signsSmall.card
#print axioms signsSmall_card
