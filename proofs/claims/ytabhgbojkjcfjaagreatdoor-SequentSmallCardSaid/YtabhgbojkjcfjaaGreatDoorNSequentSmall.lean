/- The law SequentSmall of lyceumlaw19: pro -/
import Derived.Test.YtabhgbojkjcfjaaGreatDoorQG
import Derived.Test.YtabhgbojkjcfjaaGreatDoorRF
set_option linter.all false
namespace Go.Proofs.Tryz.sequentSmall
open Go Go.Iv Go.ChangeShapes Go.WideShapes Go.ChangeAt Go.RowKit
open Go.Proofs.YtabhgbojkjcfjaaGreatDoor Go.Proofs.Tryz
set_option maxRecDepth 8000
theorem wWf:∀t∈f6.params.toList,prog.readableRec t=true/\t<prog.types.size:=by
 rw[params6];intro t ht;simp only[List.mem_cons,List.not_mem_nil,or_false] at ht
theorem wYr (H:Type)(enc:TypeId×Value->H)(W:World)(base:Nat)(args:Array Value)(ds gs:List (DataW H))(before:List MemPlace)
  (hval:∀(j:Nat) t v,f6.params[j]?=some t->args[j]?=some v->Value.okWide prog W .any base t v)
  (hW:DataW.Whole enc prog f6.params.toList Rows.sequentSmallSpec.vars false W args.toList ds gs before) (hL:laidMetH prog Rows.sequentSmallRow.laid W) :
  Calls prog 6 args W λe W'=>∃v,e=.returned v/\Rows.sequentSmallSpec.post enc prog f6 false true false false W args v W':=by
 have hW':=hW;obtain⟨p,q,hA,hV,rfl,hfz,hnd⟩:=hW;rw[params6] at hA hval;obtain⟨hargs,rfl,rfl⟩:=trodAll_nil hA;obtain rfl:args=#[]:=by cases args;simp_all
 obtain⟨rfl,rfl⟩:=trodVars_none hV;exact wYd rfl hW' rfl rfl wWf (uWc hL) VL.nil
  (zYh gl0 G0 T0 wGb _ flatSt.none)
def wit:Array Value:=#[]
theorem vKs (os:Os){H:Type}(enc:TypeId×Value->H):∃places,DataW.whole enc prog ((zVe os).forCall (λ_ _=>0) ⟨#[],wit,[]⟩).memory f6.params.toList Rows.sequentSmallSpec.vars false wit.toList 8 =
  some ([],[],places):=⟨[],by kernel_rfl⟩
set_option maxRecDepth 100000 in
theorem vVi (os:Os)(started:os.Started)(H:Type)(enc:TypeId×Value->H)(F:Stop.Interp) :
  ReturnsInHanded {} checked os 6 .any ((OpenSpec.ofChange Rows.sequentSmallSpec).preRow enc prog f6 Rows.sequentSmallRow.domain false Rows.sequentSmallRow.laid) (((OpenSpec.ofChange Rows.sequentSmallSpec).at F).post enc prog f6 false true false false):=by
 obtain⟨places,hx⟩:=vKs os enc;refine returnsInHanded_of_row (C:=checked) (s:=OpenSpec.ofChange Rows.sequentSmallSpec) own started (by kernel_rfl) func6
  (witness_row_at (enc:=enc) (C:=checked) false (zVe os) wit rfl (by kernel_rfl) (by kernel_rfl) (by kernel_rfl)
   (OpenSpec.preRow_of_cond 8 hx (by kernel_rfl) (λk hk=>by cases hk) (by kernel_rfl) (wYe os wit))) ?_
 intro W base args ds gs before hval hW _ _ _ hL _ _;exact wYr H enc W base args ds gs before hval hW hL
theorem said:Rows.SequentSmallSaid :=
 OpenClaim.holds_of_cond 6 f6 rfl rfl rfl rfl rfl rfl rfl ⟨rfl,rfl,rfl,rfl,rfl⟩ rfl rfl rfl rfl rfl (by as_aux_lemma=>kernel_rfl) func6 vWu
  (of_decide_eq_true (by as_aux_lemma=>kernel_rfl)) uQr
  (λos started H enc _ F=>by rw[OpenClaim.pre_eq_preRow];exact vVi os started H enc F)
theorem card:Rows.SequentSmallCardSaid :=
 Claim7.holds_tied_plain_at .later [] _ _ _ _ said (λ_ h=>by cases h) (by as_aux_lemma=>kernel_rfl) (λ_ h=>by cases h) sequentSmall_row_tie rfl ⟨rfl,rfl⟩ (by as_aux_lemma=>kernel_rfl) rfl plain (by as_aux_lemma=>kernel_rfl)
end Go.Proofs.Tryz.sequentSmall
namespace Go.Proofs.YtabhgbojkjcfjaaGreatDoor
theorem sequentSmall_card:Rows.SequentSmallCardSaid:=Go.Proofs.Tryz.sequentSmall.card
#print axioms sequentSmall_card
