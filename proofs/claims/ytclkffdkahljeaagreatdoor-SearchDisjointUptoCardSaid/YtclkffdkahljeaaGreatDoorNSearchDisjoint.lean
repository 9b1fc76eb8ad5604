/- The law SearchDisjoint of lyceumlaw26, w -/
import Derived.Test.YtclkffdkahljeaaGreatDoorQF
import Derived.Test.YtclkffdkahljeaaGreatDoorRF
set_option linter.all false
namespace Go.Proofs.Tryz.searchDisjoint
open Go Go.Iv Go.ChangeShapes Go.WideShapes Go.ChangeAt Go.RowKit
open Go.Proofs.YtclkffdkahljeaaGreatDoor Go.Proofs.Tryz
set_option maxRecDepth 8000
theorem wQr:∀t∈f6.params.toList,prog.readableRec t=true/\t<prog.types.size:=by
 rw[params6];intro t ht;simp only[List.mem_cons,List.not_mem_nil,or_false] at ht;rcases ht with rfl|rfl<;>exact⟨by kernel_rfl,of_decide_eq_true (by kernel_rfl)⟩
theorem wZx (H:Type)(enc:TypeId×Value->H)(W:World)(base:Nat)(args:Array Value)(ds gs:List (DataW H))(before:List MemPlace)
  (hval:∀(j:Nat) t v,f6.params[j]?=some t->args[j]?=some v->Value.okWide prog W .any base t v)
  (hW:DataW.Whole enc prog f6.params.toList Rows.searchDisjointSpec.vars false W args.toList ds gs before) (hsm:Rows.uptoSmall H (ds++gs)=true) (hL:laidMetH prog Rows.searchDisjointUptoRow.laid W) :
  Calls prog 6 args W λe W'=>∃v,e=.returned v/\Rows.searchDisjointSpec.post enc prog f6 false true false false W args v W':=by
 have hW':=hW;obtain⟨p,q,hA,hV,rfl,hfz,hnd⟩:=hW;have hsum:=of_decide_eq_true hsm;rw[params6] at hA hval;obtain⟨v0,vs0,d0,ds0,p0,q0,hargs,rfl,rfl,⟨n0,h0⟩,r0⟩:=trodAll_cons hA;obtain⟨v1,vs1,d1,ds1,p1,q1,rfl,rfl,rfl,⟨n1,h1⟩,r1⟩:=trodAll_cons r0;obtain⟨rfl,rfl,rfl⟩:=trodAll_nil r1;obtain rfl:args=#[v0,v1]:=by cases args;simp_all
 obtain⟨rfl,rfl⟩:=trodVars_none hV;simp only[List.append_nil,Rows.uptoBulkAll] at hsum;obtain⟨f0,x0,hx0,hf0,hb0⟩:=xGp n0 _ _ h0 (show Rows.uptoBulk d0<=1048576 by omega);have k0:=xJ7 (hval 0 _ v0 rfl rfl) hx0 hf0;have hb0:zGl f0<=Rows.uptoBulk d0:=hb0;obtain⟨f1,x1,hx1,hf1,hb1⟩:=xGp n1 _ _ h1 (show Rows.uptoBulk d1<=1048576 by omega);have k1:=xJ7 (hval 1 _ v1 rfl rfl) hx1 hf1;have hb1:zGl f1<=Rows.uptoBulk d1:=hb1;exact wZd rfl hW' rfl rfl wQr (vUy hL) (VL.cons k0 (VL.cons k1 VL.nil))
  (zQo gl0 G0 T0 f0 x0 hf0 (by have:=zKu f0;omega) f1 x1 hf1 (by have:=zKu f1;omega) _)
def wit:Array Value:=#[.agg #[.int .u8 0,.string ⟨#[]⟩,.slice none 0 0,.slice none 0 0],.agg #[.int .u8 0,.string ⟨#[]⟩,.slice none 0 0,.slice none 0 0]]
theorem wGg (os:Os){H:Type}(enc:TypeId×Value->H):∃places,DataW.whole enc prog ((zZz os).forCall (λ_ _=>0) ⟨#[],wit,[]⟩).memory f6.params.toList Rows.searchDisjointSpec.vars false wit.toList 8 =
  some ([.agg [.lit (.int .u8 0),.lit (.string []),.nil,.nil],.agg [.lit (.int .u8 0),.lit (.string []),.nil,.nil]],[],places):=⟨[],by kernel_rfl⟩
set_option maxRecDepth 100000 in
theorem xKr (os:Os)(started:os.Started)(H:Type)(enc:TypeId×Value->H)(F:Stop.Interp) :
  ReturnsInHanded {} checked os 6 .any ((Rows.OpenSpec.upto Rows.searchDisjointSpec).preRow enc prog f6 Rows.searchDisjointUptoRow.domain false Rows.searchDisjointUptoRow.laid) (((Rows.OpenSpec.upto Rows.searchDisjointSpec).at F).post enc prog f6 false true false false):=by
 obtain⟨places,hx⟩:=wGg os enc;refine returnsInHanded_of_row (C:=checked) (s:=Rows.OpenSpec.upto Rows.searchDisjointSpec) own started (by kernel_rfl) func6
  (witness_row_at (enc:=enc) (C:=checked) false (zZz os) wit rfl (by kernel_rfl) (by kernel_rfl) (by kernel_rfl)
   (OpenSpec.preRow_of_cond 8 hx (by kernel_rfl) (λk hk=>by cases hk;kernel_rfl) (by kernel_rfl) (wZf os wit))) ?_
 intro W base args ds gs before hval hW _ hcond _ hL _ _;exact wZx H enc W base args ds gs before hval hW (hcond _ rfl) hL
theorem wQj:Rows.SearchDisjointUptoSaid :=
 OpenClaim.holds_of_cond 6 f6 rfl rfl rfl rfl rfl rfl rfl ⟨rfl,rfl,rfl,rfl,rfl⟩ rfl rfl rfl rfl rfl (by as_aux_lemma=>kernel_rfl) func6 vZ5
  (of_decide_eq_true (by as_aux_lemma=>kernel_rfl)) vVl
  (λos started H enc _ F=>by rw[OpenClaim.pre_eq_preRow];exact xKr os started H enc F)
theorem cardUpto:Rows.SearchDisjointUptoCardSaid :=
 Claim7.holds_tied_plain_at .later [] _ _ _ _ wQj (λ_ h=>by cases h) (by as_aux_lemma=>kernel_rfl) (λ_ h=>by cases h) searchDisjointUpto_row_tie rfl ⟨rfl,rfl⟩ (by as_aux_lemma=>kernel_rfl) rfl plain (by as_aux_lemma=>kernel_rfl)
end Go.Proofs.Tryz.searchDisjoint
namespace Go.Proofs.YtclkffdkahljeaaGreatDoor
theorem searchDisjoint_cardUpto:Rows.SearchDisjointUptoCardSaid:=Go.Proofs.Tryz.searchDisjoint.cardUpto
#print axioms searchDisjoint_cardUpto
