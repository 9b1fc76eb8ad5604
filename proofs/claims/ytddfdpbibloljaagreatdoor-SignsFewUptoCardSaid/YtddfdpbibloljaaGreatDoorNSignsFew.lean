/- The law SignsFew of lyceumlaw23, where w -/
import Derived.Test.YtddfdpbibloljaaGreatDoorQG
import Derived.Test.YtddfdpbibloljaaGreatDoorRF
set_option linter.all false
namespace Go.Proofs.Tryz.signsFew
open Go Go.Iv Go.ChangeShapes Go.WideShapes Go.ChangeAt Go.RowKit
open Go.Proofs.YtddfdpbibloljaaGreatDoor Go.Proofs.Tryz
set_option maxRecDepth 8000
theorem wV9:∀t∈f4.params.toList,prog.readableRec t=true/\t<prog.types.size:=by
 rw[params4];intro t ht;simp only[List.mem_cons,List.not_mem_nil,or_false] at ht;rcases ht with rfl|rfl<;>exact⟨by kernel_rfl,of_decide_eq_true (by kernel_rfl)⟩
theorem wW5 (H:Type)(enc:TypeId×Value->H)(W:World)(base:Nat)(args:Array Value)(ds gs:List (DataW H))(before:List MemPlace)
  (hval:∀(j:Nat) t v,f4.params[j]?=some t->args[j]?=some v->Value.okWide prog W .any base t v)
  (hW:DataW.Whole enc prog f4.params.toList Rows.signsFewSpec.vars false W args.toList ds gs before) (hsm:Rows.uptoSmall H (ds++gs)=true) (hL:laidMetH prog Rows.signsFewUptoRow.laid W) :
  Calls prog 4 args W λe W'=>∃v,e=.returned v/\Rows.signsFewSpec.post enc prog f4 false true false false W args v W':=by
 have hW':=hW;obtain⟨p,q,hA,hV,rfl,hfz,hnd⟩:=hW;have hsum:=of_decide_eq_true hsm;rw[params4] at hA hval;obtain⟨v0,vs0,d0,ds0,p0,q0,hargs,rfl,rfl,⟨n0,h0⟩,r0⟩:=trodAll_cons hA;obtain⟨v1,vs1,d1,ds1,p1,q1,rfl,rfl,rfl,⟨n1,h1⟩,r1⟩:=trodAll_cons r0;obtain⟨rfl,rfl,rfl⟩:=trodAll_nil r1;obtain rfl:args=#[v0,v1]:=by cases args;simp_all
 obtain⟨rfl,rfl⟩:=trodVars_none hV;simp only[List.append_nil,Rows.uptoBulkAll] at hsum;obtain⟨t0,x0,hx0,ht0,hb0⟩:=wGw n0 _ _ h0 (show Rows.uptoBulk d0<=1048576 by omega);have k0:=wKl (hval 0 _ v0 rfl rfl) hx0 ht0;have hb0:wTr t0+t0.steps<=2*Rows.uptoBulk d0:=hb0;obtain⟨f1,x1,hx1,hf1,hb1⟩:=zGj n1 _ _ h1 (show Rows.uptoBulk d1<=1048576 by omega);have k1:=wVw (hval 1 _ v1 rfl rfl) hx1 hf1;have hb1:xJu f1<=Rows.uptoBulk d1:=hb1;exact wVq rfl hW' rfl rfl wV9 (uWb hL) (VL.cons k0 (VL.cons k1 VL.nil))
  (xU3 gl0 G0 T0 wWj t0 x0 ht0 (by omega) f1 x1 hf1 (by have:=zYd f1;omega) (λ_=>none) (λ_=>rfl))
def wit:Array Value:=#[.agg #[.int .u8 0,.slice none 0 0,.slice none 0 0,.int .u8 0,.string ⟨#[]⟩,.slice none 0 0,.slice none 0 0,.bool false,.string ⟨#[]⟩,.slice none 0 0,.string ⟨#[]⟩,.slice none 0 0],.agg #[.int .u8 0,.string ⟨#[]⟩,.slice none 0 0,.slice none 0 0]]
theorem vJp (os:Os){H:Type}(enc:TypeId×Value->H):∃places,DataW.whole enc prog ((zK6 os).forCall (λ_ _=>0) ⟨#[],wit,[]⟩).memory f4.params.toList Rows.signsFewSpec.vars false wit.toList 8 =
  some ([.agg [.lit (.int .u8 0),.agg [.nil,.nil],.agg [.lit (.int .u8 0),.lit (.string []),.nil,.nil],.agg [.lit (.bool false),.lit (.string []),.nil],.lit (.string []),.nil],.agg [.lit (.int .u8 0),.lit (.string []),.nil,.nil]],[],places):=⟨[],by kernel_rfl⟩
set_option maxRecDepth 100000 in
theorem xGa (os:Os)(started:os.Started)(H:Type)(enc:TypeId×Value->H)(F:Stop.Interp) :
  ReturnsInHanded {} checked os 4 .any ((Rows.OpenSpec.upto Rows.signsFewSpec).preRow enc prog f4 Rows.signsFewUptoRow.domain false Rows.signsFewUptoRow.laid) (((Rows.OpenSpec.upto Rows.signsFewSpec).at F).post enc prog f4 false true false false):=by
 obtain⟨places,hx⟩:=vJp os enc;refine returnsInHanded_of_row (C:=checked) (s:=Rows.OpenSpec.upto Rows.signsFewSpec) own started (by kernel_rfl) func4
  (witness_row_at (enc:=enc) (C:=checked) false (zK6 os) wit rfl (by kernel_rfl) (by kernel_rfl) (by kernel_rfl)
   (OpenSpec.preRow_of_cond 8 hx (by kernel_rfl) (λk hk=>by cases hk;kernel_rfl) (by kernel_rfl) (wVr os wit))) ?_
 intro W base args ds gs before hval hW _ hcond _ hL _ _;exact wW5 H enc W base args ds gs before hval hW (hcond _ rfl) hL
theorem wV2:Rows.SignsFewUptoSaid :=
 OpenClaim.holds_of_cond 4 f4 rfl rfl rfl rfl rfl rfl rfl ⟨rfl,rfl,rfl,rfl,rfl⟩ rfl rfl rfl rfl rfl (by as_aux_lemma=>kernel_rfl) func4 vW6
  (of_decide_eq_true (by as_aux_lemma=>kernel_rfl)) uZ4
  (λos started H enc _ F=>by rw[OpenClaim.pre_eq_preRow];exact xGa os started H enc F)
theorem cardUpto:Rows.SignsFewUptoCardSaid :=
 Claim7.holds_tied_plain_at .later [] _ _ _ _ wV2 (λ_ h=>by cases h) (by as_aux_lemma=>kernel_rfl) (λ_ h=>by cases h) signsFewUpto_row_tie rfl ⟨rfl,rfl⟩ (by as_aux_lemma=>kernel_rfl) rfl plain (by as_aux_lemma=>kernel_rfl)
end Go.Proofs.Tryz.signsFew
namespace Go.Proofs.YtddfdpbibloljaaGreatDoor
theorem signsFew_cardUpto:Rows.SignsFewUptoCardSaid:=Go.Proofs.Tryz.signsFew.cardUpto
#print axioms signsFew_cardUpto
