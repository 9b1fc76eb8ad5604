/- The law SequentSets of lyceumlaw19, wher -/
import Derived.Test.YtabhgbojkjcfjaaGreatDoorQE
import Derived.Test.YtabhgbojkjcfjaaGreatDoorRF
set_option linter.all false
namespace Go.Proofs.Tryz.sequentSets
open Go Go.Iv Go.ChangeShapes Go.WideShapes Go.ChangeAt Go.RowKit
open Go.Proofs.YtabhgbojkjcfjaaGreatDoor Go.Proofs.Tryz
set_option maxRecDepth 8000
theorem wJ7:∀t∈f4.params.toList,prog.readableRec t=true/\t<prog.types.size:=by
 rw[params4];intro t ht;simp only[List.mem_cons,List.not_mem_nil,or_false] at ht;rcases ht with rfl|rfl|rfl|rfl<;>exact⟨by kernel_rfl,of_decide_eq_true (by kernel_rfl)⟩
theorem wKh (H:Type)(enc:TypeId×Value->H)(W:World)(base:Nat)(args:Array Value)(ds gs:List (DataW H))(before:List MemPlace)
  (hval:∀(j:Nat) t v,f4.params[j]?=some t->args[j]?=some v->Value.okWide prog W .any base t v)
  (hW:DataW.Whole enc prog f4.params.toList Rows.sequentSetsSpec.vars false W args.toList ds gs before) (hsm:Rows.uptoSmall H (ds++gs)=true) (hL:laidMetH prog Rows.sequentSetsUptoRow.laid W) :
  Calls prog 4 args W λe W'=>∃v,e=.returned v/\Rows.sequentSetsSpec.post enc prog f4 false true false false W args v W':=by
 have hW':=hW;obtain⟨p,q,hA,hV,rfl,hfz,hnd⟩:=hW;have hsum:=of_decide_eq_true hsm;rw[params4] at hA hval;obtain⟨v0,vs0,d0,ds0,p0,q0,hargs,rfl,rfl,⟨n0,h0⟩,r0⟩:=trodAll_cons hA;obtain⟨v1,vs1,d1,ds1,p1,q1,rfl,rfl,rfl,⟨n1,h1⟩,r1⟩:=trodAll_cons r0;obtain⟨v2,vs2,d2,ds2,p2,q2,rfl,rfl,rfl,⟨n2,h2⟩,r2⟩:=trodAll_cons r1;obtain⟨v3,vs3,d3,ds3,p3,q3,rfl,rfl,rfl,⟨n3,h3⟩,r3⟩:=trodAll_cons r2;obtain⟨rfl,rfl,rfl⟩:=trodAll_nil r3;obtain rfl:args=#[v0,v1,v2,v3]:=by cases args;simp_all
 obtain⟨rfl,rfl⟩:=trodVars_none hV;simp only[List.append_nil,Rows.uptoBulkAll] at hsum;obtain⟨b0,rfl,k0,hz0⟩:=wKu (hval 0 _ v0 rfl rfl) h0;obtain⟨s1,x1,hx1,hs1,hb1⟩:=wVq n1 _ _ h1 (show Rows.uptoBulk d1<=1048576 by omega);have k1:=xU8 (hval 1 _ v1 rfl rfl) hx1 hs1;have hb1:wFms s1.l+wFms s1.r<=2*Rows.uptoBulk d1:=hb1;obtain⟨s2,x2,hx2,hs2,hb2⟩:=wVq n2 _ _ h2 (show Rows.uptoBulk d2<=1048576 by omega);have k2:=xU8 (hval 2 _ v2 rfl rfl) hx2 hs2;have hb2:wFms s2.l+wFms s2.r<=2*Rows.uptoBulk d2:=hb2;obtain⟨f3,x3,hx3,hf3,hb3⟩:=xJh n3 _ _ h3 (show Rows.uptoBulk d3<=1048576 by omega);have k3:=wK8 (hval 3 _ v3 rfl rfl) hx3 hf3;have hb3:xJr f3<=Rows.uptoBulk d3:=hb3;exact wK2 rfl hW' rfl rfl wJ7 (uXi hL) (VL.cons k0 (VL.cons k1 (VL.cons k2 (VL.cons k3 VL.nil))))
  (zGr gl0 G0 T0 wV0 b0 s1 s2 x1 x2 hs1 hs2 f3 x3 hf3 ⟨by omega,by omega⟩ ⟨by omega,by omega⟩ (by have:=xK7 f3;omega) _ flatSt.none)
def wit:Array Value:=#[.int .u8 0,.agg #[.slice none 0 0,.slice none 0 0],.agg #[.slice none 0 0,.slice none 0 0],.agg #[.int .u8 0,.string ⟨#[]⟩,.slice none 0 0,.slice none 0 0]]
theorem vZ7 (os:Os){H:Type}(enc:TypeId×Value->H):∃places,DataW.whole enc prog ((zJt os).forCall (λ_ _=>0) ⟨#[],wit,[]⟩).memory f4.params.toList Rows.sequentSetsSpec.vars false wit.toList 8 =
  some ([.lit (.int .u8 0),.agg [.nil,.nil],.agg [.nil,.nil],.agg [.lit (.int .u8 0),.lit (.string []),.nil,.nil]],[],places):=⟨[],by kernel_rfl⟩
set_option maxRecDepth 100000 in
theorem xYi (os:Os)(started:os.Started)(H:Type)(enc:TypeId×Value->H)(F:Stop.Interp) :
  ReturnsInHanded {} checked os 4 .any ((Rows.OpenSpec.upto Rows.sequentSetsSpec).preRow enc prog f4 Rows.sequentSetsUptoRow.domain false Rows.sequentSetsUptoRow.laid) (((Rows.OpenSpec.upto Rows.sequentSetsSpec).at F).post enc prog f4 false true false false):=by
 obtain⟨places,hx⟩:=vZ7 os enc;refine returnsInHanded_of_row (C:=checked) (s:=Rows.OpenSpec.upto Rows.sequentSetsSpec) own started (by kernel_rfl) func4
  (witness_row_at (enc:=enc) (C:=checked) false (zJt os) wit rfl (by kernel_rfl) (by kernel_rfl) (by kernel_rfl)
   (OpenSpec.preRow_of_cond 8 hx (by kernel_rfl) (λk hk=>by cases hk;kernel_rfl) (by kernel_rfl) (wK3 os wit))) ?_
 intro W base args ds gs before hval hW _ hcond _ hL _ _;exact wKh H enc W base args ds gs before hval hW (hcond _ rfl) hL
theorem wXz:Rows.SequentSetsUptoSaid :=
 OpenClaim.holds_of_cond 4 f4 rfl rfl rfl rfl rfl rfl rfl ⟨rfl,rfl,rfl,rfl,rfl⟩ rfl rfl rfl rfl rfl (by as_aux_lemma=>kernel_rfl) func4 vJb
  (of_decide_eq_true (by as_aux_lemma=>kernel_rfl)) vY3
  (λos started H enc _ F=>by rw[OpenClaim.pre_eq_preRow];exact xYi os started H enc F)
theorem cardUpto:Rows.SequentSetsUptoCardSaid :=
 Claim7.holds_tied_plain_at .later [] _ _ _ _ wXz (λ_ h=>by cases h) (by as_aux_lemma=>kernel_rfl) (λ_ h=>by cases h) sequentSetsUpto_row_tie rfl ⟨rfl,rfl⟩ (by as_aux_lemma=>kernel_rfl) rfl plain (by as_aux_lemma=>kernel_rfl)
end Go.Proofs.Tryz.sequentSets
namespace Go.Proofs.YtabhgbojkjcfjaaGreatDoor
theorem sequentSets_cardUpto:Rows.SequentSetsUptoCardSaid:=Go.Proofs.Tryz.sequentSets.cardUpto
#print axioms sequentSets_cardUpto
