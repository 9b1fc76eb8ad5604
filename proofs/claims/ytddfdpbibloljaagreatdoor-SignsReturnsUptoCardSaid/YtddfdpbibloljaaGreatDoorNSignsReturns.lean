/- The law SignsReturns of lyceumlaw23, whe -/
import Derived.Test.YtddfdpbibloljaaGreatDoorQG
import Derived.Test.YtddfdpbibloljaaGreatDoorRF
set_option linter.all false
namespace Go.Proofs.Tryz.signsReturns
open Go Go.Iv Go.ChangeShapes Go.WideShapes Go.ChangeAt Go.RowKit
open Go.Proofs.YtddfdpbibloljaaGreatDoor Go.Proofs.Tryz
set_option maxRecDepth 8000
theorem wKl:∀t∈f6.params.toList,prog.readableRec t=true/\t<prog.types.size:=by
 rw[params6];intro t ht;simp only[List.mem_cons,List.not_mem_nil,or_false] at ht;rcases ht with rfl<;>exact⟨by kernel_rfl,of_decide_eq_true (by kernel_rfl)⟩
theorem wVi (H:Type)(enc:TypeId×Value->H)(W:World)(base:Nat)(args:Array Value)(ds gs:List (DataW H))(before:List MemPlace)
  (hval:∀(j:Nat) t v,f6.params[j]?=some t->args[j]?=some v->Value.okWide prog W .any base t v)
  (hW:DataW.Whole enc prog f6.params.toList Rows.signsReturnsSpec.vars false W args.toList ds gs before) (hsm:Rows.uptoSmall H (ds++gs)=true) (hL:laidMetH prog Rows.signsReturnsUptoRow.laid W) :
  Calls prog 6 args W λe W'=>∃v,e=.returned v/\Rows.signsReturnsSpec.post enc prog f6 false true false false W args v W':=by
 have hW':=hW;obtain⟨p,q,hA,hV,rfl,hfz,hnd⟩:=hW;have hsum:=of_decide_eq_true hsm;rw[params6] at hA hval;obtain⟨v0,vs0,d0,ds0,p0,q0,hargs,rfl,rfl,⟨n0,h0⟩,r0⟩:=trodAll_cons hA;obtain⟨rfl,rfl,rfl⟩:=trodAll_nil r0;obtain rfl:args=#[v0]:=by cases args;simp_all
 obtain⟨rfl,rfl⟩:=trodVars_none hV;simp only[List.append_nil,Rows.uptoBulkAll] at hsum;obtain⟨t0,x0,hx0,ht0,hb0⟩:=wGa n0 _ _ h0 (show Rows.uptoBulk d0<=1048576 by omega);have k0:=wJy (hval 0 _ v0 rfl rfl) hx0 ht0;have hb0:wTr t0+t0.steps<=2*Rows.uptoBulk d0:=hb0;exact wV4 rfl hW' rfl rfl wKl (uVh hL) (VL.cons k0 VL.nil)
  (zVl gl0 G0 T0 wVv t0 x0 ht0 (by omega) (λ_=>none) (λ_=>rfl))
def wit:Array Value:=#[.agg #[.int .u8 0,.slice none 0 0,.slice none 0 0,.int .u8 0,.string ⟨#[]⟩,.slice none 0 0,.slice none 0 0,.bool false,.string ⟨#[]⟩,.slice none 0 0,.string ⟨#[]⟩,.slice none 0 0]]
theorem vJ2 (os:Os){H:Type}(enc:TypeId×Value->H):∃places,DataW.whole enc prog ((zK1 os).forCall (λ_ _=>0) ⟨#[],wit,[]⟩).memory f6.params.toList Rows.signsReturnsSpec.vars false wit.toList 8 =
  some ([.agg [.lit (.int .u8 0),.agg [.nil,.nil],.agg [.lit (.int .u8 0),.lit (.string []),.nil,.nil],.agg [.lit (.bool false),.lit (.string []),.nil],.lit (.string []),.nil]],[],places):=⟨[],by kernel_rfl⟩
set_option maxRecDepth 100000 in
theorem xYw (os:Os)(started:os.Started)(H:Type)(enc:TypeId×Value->H)(F:Stop.Interp) :
  ReturnsInHanded {} checked os 6 .any ((Rows.OpenSpec.upto Rows.signsReturnsSpec).preRow enc prog f6 Rows.signsReturnsUptoRow.domain false Rows.signsReturnsUptoRow.laid) (((Rows.OpenSpec.upto Rows.signsReturnsSpec).at F).post enc prog f6 false true false false):=by
 obtain⟨places,hx⟩:=vJ2 os enc;refine returnsInHanded_of_row (C:=checked) (s:=Rows.OpenSpec.upto Rows.signsReturnsSpec) own started (by kernel_rfl) func6
  (witness_row_at (enc:=enc) (C:=checked) false (zK1 os) wit rfl (by kernel_rfl) (by kernel_rfl) (by kernel_rfl)
   (OpenSpec.preRow_of_cond 8 hx (by kernel_rfl) (λk hk=>by cases hk;kernel_rfl) (by kernel_rfl) (wV5 os wit))) ?_
 intro W base args ds gs before hval hW _ hcond _ hL _ _;exact wVi H enc W base args ds gs before hval hW (hcond _ rfl) hL
theorem wKe:Rows.SignsReturnsUptoSaid :=
 OpenClaim.holds_of_cond 6 f6 rfl rfl rfl rfl rfl rfl rfl ⟨rfl,rfl,rfl,rfl,rfl⟩ rfl rfl rfl rfl rfl (by as_aux_lemma=>kernel_rfl) func6 vVh
  (of_decide_eq_true (by as_aux_lemma=>kernel_rfl)) uQa
  (λos started H enc _ F=>by rw[OpenClaim.pre_eq_preRow];exact xYw os started H enc F)
theorem cardUpto:Rows.SignsReturnsUptoCardSaid :=
 Claim7.holds_tied_plain_at .later [] _ _ _ _ wKe (λ_ h=>by cases h) (by as_aux_lemma=>kernel_rfl) (λ_ h=>by cases h) signsReturnsUpto_row_tie rfl ⟨rfl,rfl⟩ (by as_aux_lemma=>kernel_rfl) rfl plain (by as_aux_lemma=>kernel_rfl)
end Go.Proofs.Tryz.signsReturns
namespace Go.Proofs.YtddfdpbibloljaaGreatDoor
theorem signsReturns_cardUpto:Rows.SignsReturnsUptoCardSaid:=Go.Proofs.Tryz.signsReturns.cardUpto
#print axioms signsReturns_cardUpto
