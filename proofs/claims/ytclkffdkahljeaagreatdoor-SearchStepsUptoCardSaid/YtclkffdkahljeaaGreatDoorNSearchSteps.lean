/- The law SearchSteps of lyceumlaw26, wher -/
import Derived.Test.YtclkffdkahljeaaGreatDoorQG
import Derived.Test.YtclkffdkahljeaaGreatDoorRF
set_option linter.all false
namespace Go.Proofs.Tryz.searchSteps
open Go Go.Iv Go.ChangeShapes Go.WideShapes Go.ChangeAt Go.RowKit
open Go.Proofs.YtclkffdkahljeaaGreatDoor Go.Proofs.Tryz
set_option maxRecDepth 8000
theorem wVc:∀t∈f8.params.toList,prog.readableRec t=true/\t<prog.types.size:=by
 rw[params8];intro t ht;simp only[List.mem_cons,List.not_mem_nil,or_false] at ht;rcases ht with rfl|rfl<;>exact⟨by kernel_rfl,of_decide_eq_true (by kernel_rfl)⟩
theorem wWr (H:Type)(enc:TypeId×Value->H)(W:World)(base:Nat)(args:Array Value)(ds gs:List (DataW H))(before:List MemPlace)
  (hval:∀(j:Nat) t v,f8.params[j]?=some t->args[j]?=some v->Value.okWide prog W .any base t v)
  (hW:DataW.Whole enc prog f8.params.toList Rows.searchStepsSpec.vars false W args.toList ds gs before) (hsm:Rows.uptoSmall H (ds++gs)=true) (hL:laidMetH prog Rows.searchStepsUptoRow.laid W) :
  Calls prog 8 args W λe W'=>∃v,e=.returned v/\Rows.searchStepsSpec.post enc prog f8 false true false false W args v W':=by
 have hW':=hW;obtain⟨p,q,hA,hV,rfl,hfz,hnd⟩:=hW;have hsum:=of_decide_eq_true hsm;rw[params8] at hA hval;obtain⟨v0,vs0,d0,ds0,p0,q0,hargs,rfl,rfl,⟨n0,h0⟩,r0⟩:=trodAll_cons hA;obtain⟨v1,vs1,d1,ds1,p1,q1,rfl,rfl,rfl,⟨n1,h1⟩,r1⟩:=trodAll_cons r0;obtain⟨rfl,rfl,rfl⟩:=trodAll_nil r1;obtain rfl:args=#[v0,v1]:=by cases args;simp_all
 obtain⟨rfl,rfl⟩:=trodVars_none hV;simp only[List.append_nil,Rows.uptoBulkAll] at hsum;obtain⟨b0,rfl,k0⟩:=wWz (hval 0 _ v0 rfl rfl);obtain⟨s1,x1,hx1,hs1,hb1⟩:=vJx n1 _ _ h1 (show Rows.uptoBulk d1<=1048576 by omega);have k1:=wUn (hval 1 _ v1 rfl rfl) hx1 hs1;have hb1:wFms s1.l+wFms s1.r<=2*Rows.uptoBulk d1:=hb1;exact wW4 rfl hW' rfl rfl wVc (uWm hL) (VL.cons k0 (VL.cons k1 VL.nil))
  (zU8 gl0 G0 T0 b0 s1 x1 hs1 ⟨by omega,by omega⟩ _)
def wit:Array Value:=#[.bool false,.agg #[.slice none 0 0,.slice none 0 0]]
theorem vK2 (os:Os){H:Type}(enc:TypeId×Value->H):∃places,DataW.whole enc prog ((zK0 os).forCall (λ_ _=>0) ⟨#[],wit,[]⟩).memory f8.params.toList Rows.searchStepsSpec.vars false wit.toList 8 =
  some ([.lit (.bool false),.agg [.nil,.nil]],[],places):=⟨[],by kernel_rfl⟩
set_option maxRecDepth 100000 in
theorem xGc (os:Os)(started:os.Started)(H:Type)(enc:TypeId×Value->H)(F:Stop.Interp) :
  ReturnsInHanded {} checked os 8 .any ((Rows.OpenSpec.upto Rows.searchStepsSpec).preRow enc prog f8 Rows.searchStepsUptoRow.domain false Rows.searchStepsUptoRow.laid) (((Rows.OpenSpec.upto Rows.searchStepsSpec).at F).post enc prog f8 false true false false):=by
 obtain⟨places,hx⟩:=vK2 os enc;refine returnsInHanded_of_row (C:=checked) (s:=Rows.OpenSpec.upto Rows.searchStepsSpec) own started (by kernel_rfl) func8
  (witness_row_at (enc:=enc) (C:=checked) false (zK0 os) wit rfl (by kernel_rfl) (by kernel_rfl) (by kernel_rfl)
   (OpenSpec.preRow_of_cond 8 hx (by kernel_rfl) (λk hk=>by cases hk;kernel_rfl) (by kernel_rfl) (wW6 os wit))) ?_
 intro W base args ds gs before hval hW _ hcond _ hL _ _;exact wWr H enc W base args ds gs before hval hW (hcond _ rfl) hL
theorem wV3:Rows.SearchStepsUptoSaid :=
 OpenClaim.holds_of_cond 8 f8 rfl rfl rfl rfl rfl rfl rfl ⟨rfl,rfl,rfl,rfl,rfl⟩ rfl rfl rfl rfl rfl (by as_aux_lemma=>kernel_rfl) func8 vWx
  (of_decide_eq_true (by as_aux_lemma=>kernel_rfl)) uZt
  (λos started H enc _ F=>by rw[OpenClaim.pre_eq_preRow];exact xGc os started H enc F)
theorem cardUpto:Rows.SearchStepsUptoCardSaid :=
 Claim7.holds_tied_plain_at .later [] _ _ _ _ wV3 (λ_ h=>by cases h) (by as_aux_lemma=>kernel_rfl) (λ_ h=>by cases h) searchStepsUpto_row_tie rfl ⟨rfl,rfl⟩ (by as_aux_lemma=>kernel_rfl) rfl plain (by as_aux_lemma=>kernel_rfl)
end Go.Proofs.Tryz.searchSteps
namespace Go.Proofs.YtclkffdkahljeaaGreatDoor
theorem searchSteps_cardUpto:Rows.SearchStepsUptoCardSaid:=Go.Proofs.Tryz.searchSteps.cardUpto
#print axioms searchSteps_cardUpto
