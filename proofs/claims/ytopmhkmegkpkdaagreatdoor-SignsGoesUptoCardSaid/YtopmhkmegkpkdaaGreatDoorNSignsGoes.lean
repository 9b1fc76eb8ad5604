/- The law SignsGoes of lyceumlaw23, where -/
import Derived.Test.YtopmhkmegkpkdaaGreatDoorQH
import Derived.Test.YtopmhkmegkpkdaaGreatDoorRF
set_option linter.all false
namespace Go.Proofs.Tryz.signsGoes
open Go Go.Iv Go.ChangeShapes Go.WideShapes Go.ChangeAt Go.RowKit
open Go.Proofs.YtopmhkmegkpkdaaGreatDoor Go.Proofs.Tryz
set_option maxRecDepth 8000
theorem LY:∀t∈f3.params.toList,prog.readableRec t=true/\t<prog.types.size:=by
 rw[params3];intro t ht;simp only[List.mem_cons,List.not_mem_nil,or_false] at ht;rcases ht with rfl|rfl<;>exact⟨by kernel_rfl,of_decide_eq_true (by kernel_rfl)⟩
theorem LZ (H:Type)(enc:TypeId×Value->H)(W:World)(base:Nat)(args:Array Value)(ds gs:List (DataW H))(before:List MemPlace)
  (hval:∀(j:Nat) t v,f3.params[j]?=some t->args[j]?=some v->Value.okWide prog W .any base t v)
  (hW:DataW.Whole enc prog f3.params.toList Rows.signsGoesSpec.vars false W args.toList ds gs before) (hsm:Rows.uptoSmall H (ds++gs)=true) (hL:laidMetH prog Rows.signsGoesUptoRow.laid W) :
  Calls prog 3 args W λe W'=>∃v,e=.returned v/\Rows.signsGoesSpec.post enc prog f3 false true false false W args v W':=by
 have hW':=hW;obtain⟨p,q,hA,hV,rfl,hfz,hnd⟩:=hW;have hsum:=of_decide_eq_true hsm;rw[params3] at hA hval;obtain⟨v0,vs0,d0,ds0,p0,q0,hargs,rfl,rfl,⟨n0,h0⟩,r0⟩:=trodAll_cons hA;obtain⟨v1,vs1,d1,ds1,p1,q1,rfl,rfl,rfl,⟨n1,h1⟩,r1⟩:=trodAll_cons r0;obtain⟨rfl,rfl,rfl⟩:=trodAll_nil r1;obtain rfl:args=#[v0,v1]:=by cases args;simp_all
 obtain⟨rfl,rfl⟩:=trodVars_none hV;simp only[List.append_nil,Rows.uptoBulkAll] at hsum;obtain⟨s0,x0,hx0,hs0,hb0⟩:=L1 n0 _ _ h0 (show Rows.uptoBulk d0<=1048576 by omega);have k0:=L2 (hval 0 _ v0 rfl rfl) hx0 hs0;have hb0:wFms s0.l+wFms s0.r<=2*Rows.uptoBulk d0:=hb0;obtain⟨n_1,x1,hx1,hs1,hb1⟩:=L3 n1 _ _ h1 (show Rows.uptoBulk d1<=1048576 by omega);have k1:=L4 (hval 1 _ v1 rfl rfl) hx1 hs1;have hb1:wNd n_1<=2*Rows.uptoBulk d1:=hb1;exact L5 rfl hW' rfl rfl LY (L6 hL) (VL.cons k0 (VL.cons k1 VL.nil))
  (L7 gl0 G0 T0 L8 s0 x0 hs0 ⟨by omega,by omega⟩ n_1 x1 hs1 (by omega) (λ_=>none) (λ_=>rfl))
def wit:Array Value:=#[.agg #[.slice none 0 0,.slice none 0 0],.agg #[.bool false,.int .i64 0,.int .u8 0,.string ⟨#[]⟩,.slice none 0 0,.slice none 0 0,.bool false,.int .i64 0,.slice none 0 0]]
theorem L9 (os:Os){H:Type}(enc:TypeId×Value->H):∃places,DataW.whole enc prog ((xp os).forCall (λ_ _=>0) ⟨#[],wit,[]⟩).memory f3.params.toList Rows.signsGoesSpec.vars false wit.toList 8 =
  some ([.agg [.nil,.nil],.agg [.agg [.lit (.bool false),.lit (.int .i64 0),.agg [.lit (.int .u8 0),.lit (.string []),.nil,.nil]],.lit (.bool false),.lit (.int .i64 0),.nil]],[],places):=⟨[],by kernel_rfl⟩
set_option maxRecDepth 100000 in
theorem L_ (os:Os)(started:os.Started)(H:Type)(enc:TypeId×Value->H)(F:Stop.Interp) :
  ReturnsInHanded {} checked os 3 .any ((Rows.OpenSpec.upto Rows.signsGoesSpec).preRow enc prog f3 Rows.signsGoesUptoRow.domain false Rows.signsGoesUptoRow.laid) (((Rows.OpenSpec.upto Rows.signsGoesSpec).at F).post enc prog f3 false true false false):=by
 obtain⟨places,hx⟩:=L9 os enc;refine returnsInHanded_of_row (C:=checked) (s:=Rows.OpenSpec.upto Rows.signsGoesSpec) own started (by kernel_rfl) func3
  (witness_row_at (enc:=enc) (C:=checked) false (xp os) wit rfl (by kernel_rfl) (by kernel_rfl) (by kernel_rfl)
   (OpenSpec.preRow_of_cond 8 hx (by kernel_rfl) (λk hk=>by cases hk;kernel_rfl) (by kernel_rfl) (Ma os wit))) ?_
 intro W base args ds gs before hval hW _ hcond _ hL _ _;exact LZ H enc W base args ds gs before hval hW (hcond _ rfl) hL
theorem Mb:Rows.SignsGoesUptoSaid :=
 OpenClaim.holds_of_cond 3 f3 rfl rfl rfl rfl rfl rfl rfl ⟨rfl,rfl,rfl,rfl,rfl⟩ rfl rfl rfl rfl rfl (by as_aux_lemma=>kernel_rfl) func3 Mc
  (of_decide_eq_true (by as_aux_lemma=>kernel_rfl)) Md
  (λos started H enc _ F=>by rw[OpenClaim.pre_eq_preRow];exact L_ os started H enc F)
theorem cardUpto:Rows.SignsGoesUptoCardSaid :=
 Claim7.holds_tied_plain_at .later [] _ _ _ _ Mb (λ_ h=>by cases h) (by as_aux_lemma=>kernel_rfl) (λ_ h=>by cases h) signsGoesUpto_row_tie rfl ⟨rfl,rfl⟩ (by as_aux_lemma=>kernel_rfl) rfl plain (by as_aux_lemma=>kernel_rfl)
end Go.Proofs.Tryz.signsGoes
namespace Go.Proofs.YtopmhkmegkpkdaaGreatDoor
theorem signsGoes_cardUpto:Rows.SignsGoesUptoCardSaid:=Go.Proofs.Tryz.signsGoes.cardUpto
#print axioms signsGoes_cardUpto
