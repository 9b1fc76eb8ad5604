/- The law HintWhole of lyceumlaw27, where -/
import Derived.Test.YtigeiecfkoimpaaGreatDoorQI
import Derived.Test.YtigeiecfkoimpaaGreatDoorRF
set_option linter.all false
namespace Go.Proofs.Tryz.hintWhole
open Go Go.Iv Go.ChangeShapes Go.WideShapes Go.ChangeAt Go.RowKit
open Go.Proofs.YtigeiecfkoimpaaGreatDoor Go.Proofs.Tryz
set_option maxRecDepth 8000
theorem Md:∀t∈f3.params.toList,prog.readableRec t=true/\t<prog.types.size:=by
 rw[params3];intro t ht;simp only[List.mem_cons,List.not_mem_nil,or_false] at ht;rcases ht with rfl|rfl|rfl<;>exact⟨by kernel_rfl,of_decide_eq_true (by kernel_rfl)⟩
theorem Me (H:Type)(enc:TypeId×Value->H)(W:World)(base:Nat)(args:Array Value)(ds gs:List (DataW H))(before:List MemPlace)
  (hval:∀(j:Nat) t v,f3.params[j]?=some t->args[j]?=some v->Value.okWide prog W .any base t v)
  (hW:DataW.Whole enc prog f3.params.toList Rows.hintWholeSpec.vars false W args.toList ds gs before) (hsm:Rows.uptoSmall H (ds++gs)=true) (hL:laidMetH prog Rows.hintWholeUptoRow.laid W) :
  Calls prog 3 args W λe W'=>∃v,e=.returned v/\Rows.hintWholeSpec.post enc prog f3 false true false false W args v W':=by
 have hW':=hW;obtain⟨p,q,hA,hV,rfl,hfz,hnd⟩:=hW;have hsum:=of_decide_eq_true hsm;rw[params3] at hA hval;obtain⟨v0,vs0,d0,ds0,p0,q0,hargs,rfl,rfl,⟨n0,h0⟩,r0⟩:=trodAll_cons hA;obtain⟨v1,vs1,d1,ds1,p1,q1,rfl,rfl,rfl,⟨n1,h1⟩,r1⟩:=trodAll_cons r0;obtain⟨v2,vs2,d2,ds2,p2,q2,rfl,rfl,rfl,⟨n2,h2⟩,r2⟩:=trodAll_cons r1;obtain⟨rfl,rfl,rfl⟩:=trodAll_nil r2;obtain rfl:args=#[v0,v1,v2]:=by cases args;simp_all
 obtain⟨rfl,rfl⟩:=trodVars_none hV;simp only[List.append_nil,Rows.uptoBulkAll] at hsum;obtain⟨b0,rfl,k0⟩:=Mf (hval 0 _ v0 rfl rfl);obtain⟨t1,x1,hx1,ht1,hb1⟩:=Mg n1 _ _ h1 (show Rows.uptoBulk d1<=1048576 by omega);have k1:=Mh (hval 1 _ v1 rfl rfl) hx1 ht1;have hb1:wTr t1+t1.steps<=2*Rows.uptoBulk d1:=hb1;obtain⟨b2,rfl,k2,hz2⟩:=Mi (hval 2 _ v2 rfl rfl) h2;exact Mj rfl hW' rfl rfl Md (Mk hL) (VL.cons k0 (VL.cons k1 (VL.cons k2 VL.nil)))
  (Ml gl0 G0 T0 Mm _ t1 x1 ht1 (by omega) _ (by omega) _)
def wit:Array Value:=#[.bool false,.agg #[.int .u8 0,.slice none 0 0,.slice none 0 0,.int .u8 0,.string ⟨#[]⟩,.slice none 0 0,.slice none 0 0,.bool false,.string ⟨#[]⟩,.slice none 0 0,.string ⟨#[]⟩,.slice none 0 0],.int .u8 0]
theorem Mn (os:Os){H:Type}(enc:TypeId×Value->H):∃places,DataW.whole enc prog ((yl os).forCall (λ_ _=>0) ⟨#[],wit,[]⟩).memory f3.params.toList Rows.hintWholeSpec.vars false wit.toList 8 =
  some ([.lit (.bool false),.agg [.lit (.int .u8 0),.agg [.nil,.nil],.agg [.lit (.int .u8 0),.lit (.string []),.nil,.nil],.agg [.lit (.bool false),.lit (.string []),.nil],.lit (.string []),.nil],.lit (.int .u8 0)],[],places):=⟨[],by kernel_rfl⟩
set_option maxRecDepth 100000 in
theorem Mo (os:Os)(started:os.Started)(H:Type)(enc:TypeId×Value->H)(F:Stop.Interp) :
  ReturnsInHanded {} checked os 3 .any ((Rows.OpenSpec.upto Rows.hintWholeSpec).preRow enc prog f3 Rows.hintWholeUptoRow.domain false Rows.hintWholeUptoRow.laid) (((Rows.OpenSpec.upto Rows.hintWholeSpec).at F).post enc prog f3 false true false false):=by
 obtain⟨places,hx⟩:=Mn os enc;refine returnsInHanded_of_row (C:=checked) (s:=Rows.OpenSpec.upto Rows.hintWholeSpec) own started (by kernel_rfl) func3
  (witness_row_at (enc:=enc) (C:=checked) false (yl os) wit rfl (by kernel_rfl) (by kernel_rfl) (by kernel_rfl)
   (OpenSpec.preRow_of_cond 8 hx (by kernel_rfl) (λk hk=>by cases hk;kernel_rfl) (by kernel_rfl) (Mp os wit))) ?_
 intro W base args ds gs before hval hW _ hcond _ hL _ _;exact Me H enc W base args ds gs before hval hW (hcond _ rfl) hL
theorem Mq:Rows.HintWholeUptoSaid :=
 OpenClaim.holds_of_cond 3 f3 rfl rfl rfl rfl rfl rfl rfl ⟨rfl,rfl,rfl,rfl,rfl⟩ rfl rfl rfl rfl rfl (by as_aux_lemma=>kernel_rfl) func3 Mr
  (of_decide_eq_true (by as_aux_lemma=>kernel_rfl)) Mt
  (λos started H enc _ F=>by rw[OpenClaim.pre_eq_preRow];exact Mo os started H enc F)
theorem cardUpto:Rows.HintWholeUptoCardSaid :=
 Claim7.holds_tied_plain_at .later [] _ _ _ _ Mq (λ_ h=>by cases h) (by as_aux_lemma=>kernel_rfl) (λ_ h=>by cases h) hintWholeUpto_row_tie rfl ⟨rfl,rfl⟩ (by as_aux_lemma=>kernel_rfl) rfl plain (by as_aux_lemma=>kernel_rfl)
end Go.Proofs.Tryz.hintWhole
namespace Go.Proofs.YtigeiecfkoimpaaGreatDoor
theorem hintWhole_cardUpto:Rows.HintWholeUptoCardSaid:=Go.Proofs.Tryz.hintWhole.cardUpto
#print axioms hintWhole_cardUpto
