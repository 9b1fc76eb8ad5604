/- The law HintChecks of lyceumlaw27, where -/
import Derived.Test.YtakbihknkdpmgaaGreatDoorQI
import Derived.Test.YtakbihknkdpmgaaGreatDoorRF
set_option linter.all false
namespace Go.Proofs.Tryz.hintChecks
open Go Go.Iv Go.ChangeShapes Go.WideShapes Go.ChangeAt Go.RowKit
open Go.Proofs.YtakbihknkdpmgaaGreatDoor Go.Proofs.Tryz
set_option maxRecDepth 8000
theorem Mi:∀t∈f3.params.toList,prog.readableRec t=true/\t<prog.types.size:=by
 rw[params3];intro t ht;simp only[List.mem_cons,List.not_mem_nil,or_false] at ht;rcases ht with rfl|rfl<;>exact⟨by kernel_rfl,of_decide_eq_true (by kernel_rfl)⟩
theorem Mj (H:Type)(enc:TypeId×Value->H)(W:World)(base:Nat)(args:Array Value)(ds gs:List (DataW H))(before:List MemPlace)
  (hval:∀(j:Nat) t v,f3.params[j]?=some t->args[j]?=some v->Value.okWide prog W .any base t v)
  (hW:DataW.Whole enc prog f3.params.toList Rows.hintChecksSpec.vars false W args.toList ds gs before) (hsm:Rows.uptoSmall H (ds++gs)=true) (hL:laidMetH prog Rows.hintChecksUptoRow.laid W) :
  Calls prog 3 args W λe W'=>∃v,e=.returned v/\Rows.hintChecksSpec.post enc prog f3 false true false false W args v W':=by
 have hW':=hW;obtain⟨p,q,hA,hV,rfl,hfz,hnd⟩:=hW;have hsum:=of_decide_eq_true hsm;rw[params3] at hA hval;obtain⟨v0,vs0,d0,ds0,p0,q0,hargs,rfl,rfl,⟨n0,h0⟩,r0⟩:=trodAll_cons hA;obtain⟨v1,vs1,d1,ds1,p1,q1,rfl,rfl,rfl,⟨n1,h1⟩,r1⟩:=trodAll_cons r0;obtain⟨rfl,rfl,rfl⟩:=trodAll_nil r1;obtain rfl:args=#[v0,v1]:=by cases args;simp_all
 obtain⟨rfl,rfl⟩:=trodVars_none hV;simp only[List.append_nil,Rows.uptoBulkAll] at hsum;obtain⟨b0,rfl,k0,hz0⟩:=Mk (hval 0 _ v0 rfl rfl) h0;obtain⟨t1,x1,hx1,ht1,hb1⟩:=Ml n1 _ _ h1 (show Rows.uptoBulk d1<=1048576 by omega);have k1:=Mm (hval 1 _ v1 rfl rfl) hx1 ht1;have hb1:wTr t1+t1.steps<=2*Rows.uptoBulk d1:=hb1;exact Mn rfl hW' rfl rfl Mi (Mo hL) (VL.cons k0 (VL.cons k1 VL.nil))
  (Mp gl0 G0 T0 Mq _ t1 x1 ht1 (by omega) _)
def wit:Array Value:=#[.int .u8 0,.agg #[.int .u8 0,.slice none 0 0,.slice none 0 0,.int .u8 0,.string ⟨#[]⟩,.slice none 0 0,.slice none 0 0,.bool false,.string ⟨#[]⟩,.slice none 0 0,.string ⟨#[]⟩,.slice none 0 0]]
theorem Mr (os:Os){H:Type}(enc:TypeId×Value->H):∃places,DataW.whole enc prog ((yg os).forCall (λ_ _=>0) ⟨#[],wit,[]⟩).memory f3.params.toList Rows.hintChecksSpec.vars false wit.toList 8 =
  some ([.lit (.int .u8 0),.agg [.lit (.int .u8 0),.agg [.nil,.nil],.agg [.lit (.int .u8 0),.lit (.string []),.nil,.nil],.agg [.lit (.bool false),.lit (.string []),.nil],.lit (.string []),.nil]],[],places):=⟨[],by kernel_rfl⟩
set_option maxRecDepth 100000 in
theorem Mt (os:Os)(started:os.Started)(H:Type)(enc:TypeId×Value->H)(F:Stop.Interp) :
  ReturnsInHanded {} checked os 3 .any ((Rows.OpenSpec.upto Rows.hintChecksSpec).preRow enc prog f3 Rows.hintChecksUptoRow.domain false Rows.hintChecksUptoRow.laid) (((Rows.OpenSpec.upto Rows.hintChecksSpec).at F).post enc prog f3 false true false false):=by
 obtain⟨places,hx⟩:=Mr os enc;refine returnsInHanded_of_row (C:=checked) (s:=Rows.OpenSpec.upto Rows.hintChecksSpec) own started (by kernel_rfl) func3
  (witness_row_at (enc:=enc) (C:=checked) false (yg os) wit rfl (by kernel_rfl) (by kernel_rfl) (by kernel_rfl)
   (OpenSpec.preRow_of_cond 8 hx (by kernel_rfl) (λk hk=>by cases hk;kernel_rfl) (by kernel_rfl) (Mu os wit))) ?_
 intro W base args ds gs before hval hW _ hcond _ hL _ _;exact Mj H enc W base args ds gs before hval hW (hcond _ rfl) hL
theorem Mw:Rows.HintChecksUptoSaid :=
 OpenClaim.holds_of_cond 3 f3 rfl rfl rfl rfl rfl rfl rfl ⟨rfl,rfl,rfl,rfl,rfl⟩ rfl rfl rfl rfl rfl (by as_aux_lemma=>kernel_rfl) func3 Mx
  (of_decide_eq_true (by as_aux_lemma=>kernel_rfl)) My
  (λos started H enc _ F=>by rw[OpenClaim.pre_eq_preRow];exact Mt os started H enc F)
theorem cardUpto:Rows.HintChecksUptoCardSaid :=
 Claim7.holds_tied_plain_at .later [] _ _ _ _ Mw (λ_ h=>by cases h) (by as_aux_lemma=>kernel_rfl) (λ_ h=>by cases h) hintChecksUpto_row_tie rfl ⟨rfl,rfl⟩ (by as_aux_lemma=>kernel_rfl) rfl plain (by as_aux_lemma=>kernel_rfl)
end Go.Proofs.Tryz.hintChecks
namespace Go.Proofs.YtakbihknkdpmgaaGreatDoor
theorem hintChecks_cardUpto:Rows.HintChecksUptoCardSaid:=Go.Proofs.Tryz.hintChecks.cardUpto
#print axioms hintChecks_cardUpto
