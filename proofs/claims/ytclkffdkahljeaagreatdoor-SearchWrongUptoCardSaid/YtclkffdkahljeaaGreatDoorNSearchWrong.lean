/- The law SearchWrong of lyceumlaw26, wher -/
import Derived.Test.YtclkffdkahljeaaGreatDoorQF
import Derived.Test.YtclkffdkahljeaaGreatDoorRF
set_option linter.all false
namespace Go.Proofs.Tryz.searchWrong
open Go Go.Iv Go.ChangeShapes Go.WideShapes Go.ChangeAt Go.RowKit
open Go.Proofs.YtclkffdkahljeaaGreatDoor Go.Proofs.Tryz
set_option maxRecDepth 8000
theorem xUh:∀t∈f3.params.toList,prog.readableRec t=true/\t<prog.types.size:=by
 rw[params3];intro t ht;simp only[List.mem_cons,List.not_mem_nil,or_false] at ht;rcases ht with rfl|rfl|rfl|rfl<;>exact⟨by kernel_rfl,of_decide_eq_true (by kernel_rfl)⟩
theorem wQj (H:Type)(enc:TypeId×Value->H)(W:World)(base:Nat)(args:Array Value)(ds gs:List (DataW H))(before:List MemPlace)
  (hval:∀(j:Nat) t v,f3.params[j]?=some t->args[j]?=some v->Value.okWide prog W .any base t v)
  (hW:DataW.Whole enc prog f3.params.toList Rows.searchWrongSpec.vars false W args.toList ds gs before) (hsm:Rows.uptoSmall H (ds++gs)=true) (hL:laidMetH prog Rows.searchWrongUptoRow.laid W) :
  Calls prog 3 args W λe W'=>∃v,e=.returned v/\Rows.searchWrongSpec.post enc prog f3 false true false false W args v W':=by
 have hW':=hW;obtain⟨p,q,hA,hV,rfl,hfz,hnd⟩:=hW;have hsum:=of_decide_eq_true hsm;rw[params3] at hA hval;obtain⟨v0,vs0,d0,ds0,p0,q0,hargs,rfl,rfl,⟨n0,h0⟩,r0⟩:=trodAll_cons hA;obtain⟨v1,vs1,d1,ds1,p1,q1,rfl,rfl,rfl,⟨n1,h1⟩,r1⟩:=trodAll_cons r0;obtain⟨v2,vs2,d2,ds2,p2,q2,rfl,rfl,rfl,⟨n2,h2⟩,r2⟩:=trodAll_cons r1;obtain⟨v3,vs3,d3,ds3,p3,q3,rfl,rfl,rfl,⟨n3,h3⟩,r3⟩:=trodAll_cons r2;obtain⟨rfl,rfl,rfl⟩:=trodAll_nil r3;obtain rfl:args=#[v0,v1,v2,v3]:=by cases args;simp_all
 obtain⟨rfl,rfl⟩:=trodVars_none hV;simp only[List.append_nil,Rows.uptoBulkAll] at hsum;obtain⟨b0,rfl,k0,hz0⟩:=xXy (hval 0 _ v0 rfl rfl) h0;obtain⟨s1,x1,hx1,hs1,hb1⟩:=wWv n1 _ _ h1 (show Rows.uptoBulk d1<=1048576 by omega);have k1:=wXx (hval 1 _ v1 rfl rfl) hx1 hs1;have hb1:wFms s1.l+wFms s1.r<=2*Rows.uptoBulk d1:=hb1;obtain⟨b2,rfl,k2,hz2⟩:=xXy (hval 2 _ v2 rfl rfl) h2;obtain⟨z3,rfl,k3⟩:=wJt (hval 3 _ v3 rfl rfl);exact wQ1 rfl hW' rfl rfl xUh (vYx hL) (VL.cons k0 (VL.cons k1 (VL.cons k2 (VL.cons k3 VL.nil))))
  (zWd gl0 G0 T0 b0 hz0 s1 x1 hs1 ⟨by omega,by omega⟩ b2 hz2 z3 _)
def wit:Array Value:=#[.int .u8 0,.agg #[.slice none 0 0,.slice none 0 0],.int .u8 0,.int .i64 0]
theorem wWy (os:Os){H:Type}(enc:TypeId×Value->H):∃places,DataW.whole enc prog ((zZo os).forCall (λ_ _=>0) ⟨#[],wit,[]⟩).memory f3.params.toList Rows.searchWrongSpec.vars false wit.toList 8 =
  some ([.lit (.int .u8 0),.agg [.nil,.nil],.lit (.int .u8 0),.lit (.int .i64 0)],[],places):=⟨[],by kernel_rfl⟩
set_option maxRecDepth 100000 in
theorem xK0 (os:Os)(started:os.Started)(H:Type)(enc:TypeId×Value->H)(F:Stop.Interp) :
  ReturnsInHanded {} checked os 3 .any ((Rows.OpenSpec.upto Rows.searchWrongSpec).preRow enc prog f3 Rows.searchWrongUptoRow.domain false Rows.searchWrongUptoRow.laid) (((Rows.OpenSpec.upto Rows.searchWrongSpec).at F).post enc prog f3 false true false false):=by
 obtain⟨places,hx⟩:=wWy os enc;refine returnsInHanded_of_row (C:=checked) (s:=Rows.OpenSpec.upto Rows.searchWrongSpec) own started (by kernel_rfl) func3
  (witness_row_at (enc:=enc) (C:=checked) false (zZo os) wit rfl (by kernel_rfl) (by kernel_rfl) (by kernel_rfl)
   (OpenSpec.preRow_of_cond 8 hx (by kernel_rfl) (λk hk=>by cases hk;kernel_rfl) (by kernel_rfl) (wQ2 os wit))) ?_
 intro W base args ds gs before hval hW _ hcond _ hL _ _;exact wQj H enc W base args ds gs before hval hW (hcond _ rfl) hL
theorem xU9:Rows.SearchWrongUptoSaid :=
 OpenClaim.holds_of_cond 3 f3 rfl rfl rfl rfl rfl rfl rfl ⟨rfl,rfl,rfl,rfl,rfl⟩ rfl rfl rfl rfl rfl (by as_aux_lemma=>kernel_rfl) func3 wUh
  (of_decide_eq_true (by as_aux_lemma=>kernel_rfl)) vJs
  (λos started H enc _ F=>by rw[OpenClaim.pre_eq_preRow];exact xK0 os started H enc F)
theorem cardUpto:Rows.SearchWrongUptoCardSaid :=
 Claim7.holds_tied_plain_at .later [] _ _ _ _ xU9 (λ_ h=>by cases h) (by as_aux_lemma=>kernel_rfl) (λ_ h=>by cases h) searchWrongUpto_row_tie rfl ⟨rfl,rfl⟩ (by as_aux_lemma=>kernel_rfl) rfl plain (by as_aux_lemma=>kernel_rfl)
end Go.Proofs.Tryz.searchWrong
namespace Go.Proofs.YtclkffdkahljeaaGreatDoor
theorem searchWrong_cardUpto:Rows.SearchWrongUptoCardSaid:=Go.Proofs.Tryz.searchWrong.cardUpto
#print axioms searchWrong_cardUpto
