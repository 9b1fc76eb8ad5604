/- The law SignsRounds of lyceumlaw23, wher -/
import Derived.Test.YtddfdpbibloljaaGreatDoorQH
import Derived.Test.YtddfdpbibloljaaGreatDoorRF
set_option linter.all false
namespace Go.Proofs.Tryz.signsRounds
open Go Go.Iv Go.ChangeShapes Go.WideShapes Go.ChangeAt Go.RowKit
open Go.Proofs.YtddfdpbibloljaaGreatDoor Go.Proofs.Tryz
set_option maxRecDepth 8000
theorem wV8:∀t∈f3.params.toList,prog.readableRec t=true/\t<prog.types.size:=by
 rw[params3];intro t ht;simp only[List.mem_cons,List.not_mem_nil,or_false] at ht;rcases ht with rfl|rfl|rfl<;>exact⟨by kernel_rfl,of_decide_eq_true (by kernel_rfl)⟩
theorem wW6 (H:Type)(enc:TypeId×Value->H)(W:World)(base:Nat)(args:Array Value)(ds gs:List (DataW H))(before:List MemPlace)
  (hval:∀(j:Nat) t v,f3.params[j]?=some t->args[j]?=some v->Value.okWide prog W .any base t v)
  (hW:DataW.Whole enc prog f3.params.toList Rows.signsRoundsSpec.vars false W args.toList ds gs before) (hsm:Rows.uptoSmall H (ds++gs)=true) (hL:laidMetH prog Rows.signsRoundsUptoRow.laid W) :
  Calls prog 3 args W λe W'=>∃v,e=.returned v/\Rows.signsRoundsSpec.post enc prog f3 false true false false W args v W':=by
 have hW':=hW;obtain⟨p,q,hA,hV,rfl,hfz,hnd⟩:=hW;have hsum:=of_decide_eq_true hsm;rw[params3] at hA hval;obtain⟨v0,vs0,d0,ds0,p0,q0,hargs,rfl,rfl,⟨n0,h0⟩,r0⟩:=trodAll_cons hA;obtain⟨v1,vs1,d1,ds1,p1,q1,rfl,rfl,rfl,⟨n1,h1⟩,r1⟩:=trodAll_cons r0;obtain⟨v2,vs2,d2,ds2,p2,q2,rfl,rfl,rfl,⟨n2,h2⟩,r2⟩:=trodAll_cons r1;obtain⟨rfl,rfl,rfl⟩:=trodAll_nil r2;obtain rfl:args=#[v0,v1,v2]:=by cases args;simp_all
 obtain⟨rfl,rfl⟩:=trodVars_none hV;simp only[List.append_nil,Rows.uptoBulkAll] at hsum;obtain⟨s0,x0,hx0,hs0,hb0⟩:=wYg n0 _ _ h0 (show Rows.uptoBulk d0<=1048576 by omega);have k0:=wUc (hval 0 _ v0 rfl rfl) hx0 hs0;have hb0:wFms s0.l+wFms s0.r<=2*Rows.uptoBulk d0:=hb0;obtain⟨n_1,x1,hx1,hs1,hb1⟩:=wUw n1 _ _ h1 (show Rows.uptoBulk d1<=1048576 by omega);have k1:=wVf (hval 1 _ v1 rfl rfl) hx1 hs1;have hb1:wNd n_1<=2*Rows.uptoBulk d1:=hb1;obtain⟨t2,x2,hx2,ht2,hb2⟩:=wGy n2 _ _ h2 (show Rows.uptoBulk d2<=1048576 by omega);have k2:=wKk (hval 2 _ v2 rfl rfl) hx2 ht2;have hb2:wTr t2+t2.steps<=2*Rows.uptoBulk d2:=hb2;exact wVs rfl hW' rfl rfl wV8 (uWl hL) (VL.cons k0 (VL.cons k1 (VL.cons k2 VL.nil)))
  (zUd gl0 G0 T0 wWj s0 x0 hs0 ⟨by omega,by omega⟩ n_1 x1 hs1 (by omega) t2 x2 ht2 (by omega) (λ_=>none) (λ_=>rfl))
def wit:Array Value:=#[.agg #[.slice none 0 0,.slice none 0 0],.agg #[.bool false,.int .i64 0,.int .u8 0,.string ⟨#[]⟩,.slice none 0 0,.slice none 0 0,.bool false,.int .i64 0,.slice none 0 0],.agg #[.int .u8 0,.slice none 0 0,.slice none 0 0,.int .u8 0,.string ⟨#[]⟩,.slice none 0 0,.slice none 0 0,.bool false,.string ⟨#[]⟩,.slice none 0 0,.string ⟨#[]⟩,.slice none 0 0]]
theorem vJx (os:Os){H:Type}(enc:TypeId×Value->H):∃places,DataW.whole enc prog ((zKd os).forCall (λ_ _=>0) ⟨#[],wit,[]⟩).memory f3.params.toList Rows.signsRoundsSpec.vars false wit.toList 8 =
  some ([.agg [.nil,.nil],.agg [.agg [.lit (.bool false),.lit (.int .i64 0),.agg [.lit (.int .u8 0),.lit (.string []),.nil,.nil]],.lit (.bool false),.lit (.int .i64 0),.nil],.agg [.lit (.int .u8 0),.agg [.nil,.nil],.agg [.lit (.int .u8 0),.lit (.string []),.nil,.nil],.agg [.lit (.bool false),.lit (.string []),.nil],.lit (.string []),.nil]],[],places):=⟨[],by kernel_rfl⟩
set_option maxRecDepth 100000 in
theorem xGg (os:Os)(started:os.Started)(H:Type)(enc:TypeId×Value->H)(F:Stop.Interp) :
  ReturnsInHanded {} checked os 3 .any ((Rows.OpenSpec.upto Rows.signsRoundsSpec).preRow enc prog f3 Rows.signsRoundsUptoRow.domain false Rows.signsRoundsUptoRow.laid) (((Rows.OpenSpec.upto Rows.signsRoundsSpec).at F).post enc prog f3 false true false false):=by
 obtain⟨places,hx⟩:=vJx os enc;refine returnsInHanded_of_row (C:=checked) (s:=Rows.OpenSpec.upto Rows.signsRoundsSpec) own started (by kernel_rfl) func3
  (witness_row_at (enc:=enc) (C:=checked) false (zKd os) wit rfl (by kernel_rfl) (by kernel_rfl) (by kernel_rfl)
   (OpenSpec.preRow_of_cond 8 hx (by kernel_rfl) (λk hk=>by cases hk;kernel_rfl) (by kernel_rfl) (wVt os wit))) ?_
 intro W base args ds gs before hval hW _ hcond _ hL _ _;exact wW6 H enc W base args ds gs before hval hW (hcond _ rfl) hL
theorem wV1:Rows.SignsRoundsUptoSaid :=
 OpenClaim.holds_of_cond 3 f3 rfl rfl rfl rfl rfl rfl rfl ⟨rfl,rfl,rfl,rfl,rfl⟩ rfl rfl rfl rfl rfl (by as_aux_lemma=>kernel_rfl) func3 vWg
  (of_decide_eq_true (by as_aux_lemma=>kernel_rfl)) uZd
  (λos started H enc _ F=>by rw[OpenClaim.pre_eq_preRow];exact xGg os started H enc F)
theorem cardUpto:Rows.SignsRoundsUptoCardSaid :=
 Claim7.holds_tied_plain_at .later [] _ _ _ _ wV1 (λ_ h=>by cases h) (by as_aux_lemma=>kernel_rfl) (λ_ h=>by cases h) signsRoundsUpto_row_tie rfl ⟨rfl,rfl⟩ (by as_aux_lemma=>kernel_rfl) rfl plain (by as_aux_lemma=>kernel_rfl)
end Go.Proofs.Tryz.signsRounds
namespace Go.Proofs.YtddfdpbibloljaaGreatDoor
theorem signsRounds_cardUpto:Rows.SignsRoundsUptoCardSaid:=Go.Proofs.Tryz.signsRounds.cardUpto
#print axioms signsRounds_cardUpto
