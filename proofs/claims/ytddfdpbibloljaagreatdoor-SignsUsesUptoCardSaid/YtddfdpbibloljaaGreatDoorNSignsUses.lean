/- The law SignsUses of lyceumlaw23, where -/
import Derived.Test.YtddfdpbibloljaaGreatDoorQH
import Derived.Test.YtddfdpbibloljaaGreatDoorRF
set_option linter.all false
namespace Go.Proofs.Tryz.signsUses
open Go Go.Iv Go.ChangeShapes Go.WideShapes Go.ChangeAt Go.RowKit
open Go.Proofs.YtddfdpbibloljaaGreatDoor Go.Proofs.Tryz
set_option maxRecDepth 8000
theorem wWd:∀t∈f8.params.toList,prog.readableRec t=true/\t<prog.types.size:=by
 rw[params8];intro t ht;simp only[List.mem_cons,List.not_mem_nil,or_false] at ht;rcases ht with rfl|rfl<;>exact⟨by kernel_rfl,of_decide_eq_true (by kernel_rfl)⟩
theorem wYa (H:Type)(enc:TypeId×Value->H)(W:World)(base:Nat)(args:Array Value)(ds gs:List (DataW H))(before:List MemPlace)
  (hval:∀(j:Nat) t v,f8.params[j]?=some t->args[j]?=some v->Value.okWide prog W .any base t v)
  (hW:DataW.Whole enc prog f8.params.toList Rows.signsUsesSpec.vars false W args.toList ds gs before) (hsm:Rows.uptoSmall H (ds++gs)=true) (hL:laidMetH prog Rows.signsUsesUptoRow.laid W) :
  Calls prog 8 args W λe W'=>∃v,e=.returned v/\Rows.signsUsesSpec.post enc prog f8 false true false false W args v W':=by
 have hW':=hW;obtain⟨p,q,hA,hV,rfl,hfz,hnd⟩:=hW;have hsum:=of_decide_eq_true hsm;rw[params8] at hA hval;obtain⟨v0,vs0,d0,ds0,p0,q0,hargs,rfl,rfl,⟨n0,h0⟩,r0⟩:=trodAll_cons hA;obtain⟨v1,vs1,d1,ds1,p1,q1,rfl,rfl,rfl,⟨n1,h1⟩,r1⟩:=trodAll_cons r0;obtain⟨rfl,rfl,rfl⟩:=trodAll_nil r1;obtain rfl:args=#[v0,v1]:=by cases args;simp_all
 obtain⟨rfl,rfl⟩:=trodVars_none hV;simp only[List.append_nil,Rows.uptoBulkAll] at hsum;obtain⟨t0,x0,hx0,ht0,hb0⟩:=vQ1 n0 _ _ h0 (show Rows.uptoBulk d0<=1048576 by omega);have k0:=wVp (hval 0 _ v0 rfl rfl) hx0 ht0;have hb0:wTr t0+t0.steps<=2*Rows.uptoBulk d0:=hb0;obtain⟨b1,rfl,k1,hz1⟩:=wYh (hval 1 _ v1 rfl rfl) h1;exact wWw rfl hW' rfl rfl wWd (uYf hL) (VL.cons k0 (VL.cons k1 VL.nil))
  (xKz gl0 G0 T0 wYp t0 x0 ht0 (by omega) b1 hz1 (λ_=>none) (λ_=>rfl))
def wit:Array Value:=#[.agg #[.int .u8 0,.slice none 0 0,.slice none 0 0,.int .u8 0,.string ⟨#[]⟩,.slice none 0 0,.slice none 0 0,.bool false,.string ⟨#[]⟩,.slice none 0 0,.string ⟨#[]⟩,.slice none 0 0],.int .u8 0]
theorem vKt (os:Os){H:Type}(enc:TypeId×Value->H):∃places,DataW.whole enc prog ((zKo os).forCall (λ_ _=>0) ⟨#[],wit,[]⟩).memory f8.params.toList Rows.signsUsesSpec.vars false wit.toList 8 =
  some ([.agg [.lit (.int .u8 0),.agg [.nil,.nil],.agg [.lit (.int .u8 0),.lit (.string []),.nil,.nil],.agg [.lit (.bool false),.lit (.string []),.nil],.lit (.string []),.nil],.lit (.int .u8 0)],[],places):=⟨[],by kernel_rfl⟩
set_option maxRecDepth 100000 in
theorem xU8 (os:Os)(started:os.Started)(H:Type)(enc:TypeId×Value->H)(F:Stop.Interp) :
  ReturnsInHanded {} checked os 8 .any ((Rows.OpenSpec.upto Rows.signsUsesSpec).preRow enc prog f8 Rows.signsUsesUptoRow.domain false Rows.signsUsesUptoRow.laid) (((Rows.OpenSpec.upto Rows.signsUsesSpec).at F).post enc prog f8 false true false false):=by
 obtain⟨places,hx⟩:=vKt os enc;refine returnsInHanded_of_row (C:=checked) (s:=Rows.OpenSpec.upto Rows.signsUsesSpec) own started (by kernel_rfl) func8
  (witness_row_at (enc:=enc) (C:=checked) false (zKo os) wit rfl (by kernel_rfl) (by kernel_rfl) (by kernel_rfl)
   (OpenSpec.preRow_of_cond 8 hx (by kernel_rfl) (λk hk=>by cases hk;kernel_rfl) (by kernel_rfl) (wWx os wit))) ?_
 intro W base args ds gs before hval hW _ hcond _ hL _ _;exact wYa H enc W base args ds gs before hval hW (hcond _ rfl) hL
theorem wW6:Rows.SignsUsesUptoSaid :=
 OpenClaim.holds_of_cond 8 f8 rfl rfl rfl rfl rfl rfl rfl ⟨rfl,rfl,rfl,rfl,rfl⟩ rfl rfl rfl rfl rfl (by as_aux_lemma=>kernel_rfl) func8 vY9
  (of_decide_eq_true (by as_aux_lemma=>kernel_rfl)) uX6
  (λos started H enc _ F=>by rw[OpenClaim.pre_eq_preRow];exact xU8 os started H enc F)
theorem cardUpto:Rows.SignsUsesUptoCardSaid :=
 Claim7.holds_tied_plain_at .later [] _ _ _ _ wW6 (λ_ h=>by cases h) (by as_aux_lemma=>kernel_rfl) (λ_ h=>by cases h) signsUsesUpto_row_tie rfl ⟨rfl,rfl⟩ (by as_aux_lemma=>kernel_rfl) rfl plain (by as_aux_lemma=>kernel_rfl)
end Go.Proofs.Tryz.signsUses
namespace Go.Proofs.YtddfdpbibloljaaGreatDoor
theorem signsUses_cardUpto:Rows.SignsUsesUptoCardSaid:=Go.Proofs.Tryz.signsUses.cardUpto
#print axioms signsUses_cardUpto
