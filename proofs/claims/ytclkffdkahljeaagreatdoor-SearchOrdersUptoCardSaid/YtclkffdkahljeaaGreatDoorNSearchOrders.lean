/- The law SearchOrders of lyceumlaw26, whe -/
import Derived.Test.YtclkffdkahljeaaGreatDoorQF
import Derived.Test.YtclkffdkahljeaaGreatDoorRF
set_option linter.all false
namespace Go.Proofs.Tryz.searchOrders
open Go Go.Iv Go.ChangeShapes Go.WideShapes Go.ChangeAt Go.RowKit
open Go.Proofs.YtclkffdkahljeaaGreatDoor Go.Proofs.Tryz
set_option maxRecDepth 8000
theorem wQb:∀t∈f7.params.toList,prog.readableRec t=true/\t<prog.types.size:=by
 rw[params7];intro t ht;simp only[List.mem_cons,List.not_mem_nil,or_false] at ht;rcases ht with rfl|rfl|rfl<;>exact⟨by kernel_rfl,of_decide_eq_true (by kernel_rfl)⟩
theorem wZj (H:Type)(enc:TypeId×Value->H)(W:World)(base:Nat)(args:Array Value)(ds gs:List (DataW H))(before:List MemPlace)
  (hval:∀(j:Nat) t v,f7.params[j]?=some t->args[j]?=some v->Value.okWide prog W .any base t v)
  (hW:DataW.Whole enc prog f7.params.toList Rows.searchOrdersSpec.vars false W args.toList ds gs before) (hsm:Rows.uptoSmall H (ds++gs)=true) (hL:laidMetH prog Rows.searchOrdersUptoRow.laid W) :
  Calls prog 7 args W λe W'=>∃v,e=.returned v/\Rows.searchOrdersSpec.post enc prog f7 false true false false W args v W':=by
 have hW':=hW;obtain⟨p,q,hA,hV,rfl,hfz,hnd⟩:=hW;have hsum:=of_decide_eq_true hsm;rw[params7] at hA hval;obtain⟨v0,vs0,d0,ds0,p0,q0,hargs,rfl,rfl,⟨n0,h0⟩,r0⟩:=trodAll_cons hA;obtain⟨v1,vs1,d1,ds1,p1,q1,rfl,rfl,rfl,⟨n1,h1⟩,r1⟩:=trodAll_cons r0;obtain⟨v2,vs2,d2,ds2,p2,q2,rfl,rfl,rfl,⟨n2,h2⟩,r2⟩:=trodAll_cons r1;obtain⟨rfl,rfl,rfl⟩:=trodAll_nil r2;obtain rfl:args=#[v0,v1,v2]:=by cases args;simp_all
 obtain⟨rfl,rfl⟩:=trodVars_none hV;simp only[List.append_nil,Rows.uptoBulkAll] at hsum;obtain⟨s0,x0,hx0,hs0,hb0⟩:=wG4 n0 _ _ h0 (show Rows.uptoBulk d0<=1048576 by omega);have k0:=wK5 (hval 0 _ v0 rfl rfl) hx0 hs0;have hb0:wFms s0.l+wFms s0.r<=2*Rows.uptoBulk d0:=hb0;obtain⟨f1,x1,hx1,hf1,hb1⟩:=xQg n1 _ _ h1 (show Rows.uptoBulk d1<=1048576 by omega);have k1:=wZ8 (hval 1 _ v1 rfl rfl) hx1 hf1;have hb1:xQt f1<=Rows.uptoBulk d1:=hb1;obtain⟨b2,rfl,k2⟩:=wZr (hval 2 _ v2 rfl rfl);exact wQz rfl hW' rfl rfl wQb (vUo hL) (VL.cons k0 (VL.cons k1 (VL.cons k2 VL.nil)))
  (zJg gl0 G0 T0 s0 x0 hs0 ⟨by omega,by omega⟩ f1 x1 hf1 (by have:=xZ9 f1;omega) b2 _)
def wit:Array Value:=#[.agg #[.slice none 0 0,.slice none 0 0],.agg #[.int .u8 0,.string ⟨#[]⟩,.slice none 0 0,.slice none 0 0],.bool false]
theorem wG7 (os:Os){H:Type}(enc:TypeId×Value->H):∃places,DataW.whole enc prog ((zX0 os).forCall (λ_ _=>0) ⟨#[],wit,[]⟩).memory f7.params.toList Rows.searchOrdersSpec.vars false wit.toList 8 =
  some ([.agg [.nil,.nil],.agg [.lit (.int .u8 0),.lit (.string []),.nil,.nil],.lit (.bool false)],[],places):=⟨[],by kernel_rfl⟩
set_option maxRecDepth 100000 in
theorem xKj (os:Os)(started:os.Started)(H:Type)(enc:TypeId×Value->H)(F:Stop.Interp) :
  ReturnsInHanded {} checked os 7 .any ((Rows.OpenSpec.upto Rows.searchOrdersSpec).preRow enc prog f7 Rows.searchOrdersUptoRow.domain false Rows.searchOrdersUptoRow.laid) (((Rows.OpenSpec.upto Rows.searchOrdersSpec).at F).post enc prog f7 false true false false):=by
 obtain⟨places,hx⟩:=wG7 os enc;refine returnsInHanded_of_row (C:=checked) (s:=Rows.OpenSpec.upto Rows.searchOrdersSpec) own started (by kernel_rfl) func7
  (witness_row_at (enc:=enc) (C:=checked) false (zX0 os) wit rfl (by kernel_rfl) (by kernel_rfl) (by kernel_rfl)
   (OpenSpec.preRow_of_cond 8 hx (by kernel_rfl) (λk hk=>by cases hk;kernel_rfl) (by kernel_rfl) (wZ1 os wit))) ?_
 intro W base args ds gs before hval hW _ hcond _ hL _ _;exact wZj H enc W base args ds gs before hval hW (hcond _ rfl) hL
theorem wQ3:Rows.SearchOrdersUptoSaid :=
 OpenClaim.holds_of_cond 7 f7 rfl rfl rfl rfl rfl rfl rfl ⟨rfl,rfl,rfl,rfl,rfl⟩ rfl rfl rfl rfl rfl (by as_aux_lemma=>kernel_rfl) func7 vQt
  (of_decide_eq_true (by as_aux_lemma=>kernel_rfl)) vVb
  (λos started H enc _ F=>by rw[OpenClaim.pre_eq_preRow];exact xKj os started H enc F)
theorem cardUpto:Rows.SearchOrdersUptoCardSaid :=
 Claim7.holds_tied_plain_at .later [] _ _ _ _ wQ3 (λ_ h=>by cases h) (by as_aux_lemma=>kernel_rfl) (λ_ h=>by cases h) searchOrdersUpto_row_tie rfl ⟨rfl,rfl⟩ (by as_aux_lemma=>kernel_rfl) rfl plain (by as_aux_lemma=>kernel_rfl)
end Go.Proofs.Tryz.searchOrders
namespace Go.Proofs.YtclkffdkahljeaaGreatDoor
theorem searchOrders_cardUpto:Rows.SearchOrdersUptoCardSaid:=Go.Proofs.Tryz.searchOrders.cardUpto
#print axioms searchOrders_cardUpto
