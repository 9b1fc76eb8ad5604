/- The law SearchProves of lyceumlaw26, whe -/
import Derived.Test.YtclkffdkahljeaaGreatDoorQG
import Derived.Test.YtclkffdkahljeaaGreatDoorRF
set_option linter.all false
namespace Go.Proofs.Tryz.searchProves
open Go Go.Iv Go.ChangeShapes Go.WideShapes Go.ChangeAt Go.RowKit
open Go.Proofs.YtclkffdkahljeaaGreatDoor Go.Proofs.Tryz
set_option maxRecDepth 8000
theorem wVi:∀t∈f9.params.toList,prog.readableRec t=true/\t<prog.types.size:=by
 rw[params9];intro t ht;simp only[List.mem_cons,List.not_mem_nil,or_false] at ht;rcases ht with rfl|rfl|rfl<;>exact⟨by kernel_rfl,of_decide_eq_true (by kernel_rfl)⟩
theorem wWz (H:Type)(enc:TypeId×Value->H)(W:World)(base:Nat)(args:Array Value)(ds gs:List (DataW H))(before:List MemPlace)
  (hval:∀(j:Nat) t v,f9.params[j]?=some t->args[j]?=some v->Value.okWide prog W .any base t v)
  (hW:DataW.Whole enc prog f9.params.toList Rows.searchProvesSpec.vars false W args.toList ds gs before) (hsm:Rows.uptoSmall H (ds++gs)=true) (hL:laidMetH prog Rows.searchProvesUptoRow.laid W) :
  Calls prog 9 args W λe W'=>∃v,e=.returned v/\Rows.searchProvesSpec.post enc prog f9 false true false false W args v W':=by
 have hW':=hW;obtain⟨p,q,hA,hV,rfl,hfz,hnd⟩:=hW;have hsum:=of_decide_eq_true hsm;rw[params9] at hA hval;obtain⟨v0,vs0,d0,ds0,p0,q0,hargs,rfl,rfl,⟨n0,h0⟩,r0⟩:=trodAll_cons hA;obtain⟨v1,vs1,d1,ds1,p1,q1,rfl,rfl,rfl,⟨n1,h1⟩,r1⟩:=trodAll_cons r0;obtain⟨v2,vs2,d2,ds2,p2,q2,rfl,rfl,rfl,⟨n2,h2⟩,r2⟩:=trodAll_cons r1;obtain⟨rfl,rfl,rfl⟩:=trodAll_nil r2;obtain rfl:args=#[v0,v1,v2]:=by cases args;simp_all
 obtain⟨rfl,rfl⟩:=trodVars_none hV;simp only[List.append_nil,Rows.uptoBulkAll] at hsum;obtain⟨b0,rfl,k0⟩:=wYa (hval 0 _ v0 rfl rfl);obtain⟨s1,x1,hx1,hs1,hb1⟩:=vK8 n1 _ _ h1 (show Rows.uptoBulk d1<=1048576 by omega);have k1:=vQ1 (hval 1 _ v1 rfl rfl) hx1 hs1;have hb1:wFms s1.l+wFms s1.r<=2*Rows.uptoBulk d1:=hb1;obtain⟨b2,rfl,k2,hz2⟩:=wY9 (hval 2 _ v2 rfl rfl) h2;exact wWb rfl hW' rfl rfl wVi (uWt hL) (VL.cons k0 (VL.cons k1 (VL.cons k2 VL.nil)))
  (zVp gl0 G0 T0 b0 s1 x1 hs1 ⟨by omega,by omega⟩ b2 hz2 _)
def wit:Array Value:=#[.bool false,.agg #[.slice none 0 0,.slice none 0 0],.int .u8 0]
theorem vKd (os:Os){H:Type}(enc:TypeId×Value->H):∃places,DataW.whole enc prog ((zK3 os).forCall (λ_ _=>0) ⟨#[],wit,[]⟩).memory f9.params.toList Rows.searchProvesSpec.vars false wit.toList 8 =
  some ([.lit (.bool false),.agg [.nil,.nil],.lit (.int .u8 0)],[],places):=⟨[],by kernel_rfl⟩
set_option maxRecDepth 100000 in
theorem xGj (os:Os)(started:os.Started)(H:Type)(enc:TypeId×Value->H)(F:Stop.Interp) :
  ReturnsInHanded {} checked os 9 .any ((Rows.OpenSpec.upto Rows.searchProvesSpec).preRow enc prog f9 Rows.searchProvesUptoRow.domain false Rows.searchProvesUptoRow.laid) (((Rows.OpenSpec.upto Rows.searchProvesSpec).at F).post enc prog f9 false true false false):=by
 obtain⟨places,hx⟩:=vKd os enc;refine returnsInHanded_of_row (C:=checked) (s:=Rows.OpenSpec.upto Rows.searchProvesSpec) own started (by kernel_rfl) func9
  (witness_row_at (enc:=enc) (C:=checked) false (zK3 os) wit rfl (by kernel_rfl) (by kernel_rfl) (by kernel_rfl)
   (OpenSpec.preRow_of_cond 8 hx (by kernel_rfl) (λk hk=>by cases hk;kernel_rfl) (by kernel_rfl) (wWd os wit))) ?_
 intro W base args ds gs before hval hW _ hcond _ hL _ _;exact wWz H enc W base args ds gs before hval hW (hcond _ rfl) hL
theorem wV9:Rows.SearchProvesUptoSaid :=
 OpenClaim.holds_of_cond 9 f9 rfl rfl rfl rfl rfl rfl rfl ⟨rfl,rfl,rfl,rfl,rfl⟩ rfl rfl rfl rfl rfl (by as_aux_lemma=>kernel_rfl) func9 vY3
  (of_decide_eq_true (by as_aux_lemma=>kernel_rfl)) uZy
  (λos started H enc _ F=>by rw[OpenClaim.pre_eq_preRow];exact xGj os started H enc F)
theorem cardUpto:Rows.SearchProvesUptoCardSaid :=
 Claim7.holds_tied_plain_at .later [] _ _ _ _ wV9 (λ_ h=>by cases h) (by as_aux_lemma=>kernel_rfl) (λ_ h=>by cases h) searchProvesUpto_row_tie rfl ⟨rfl,rfl⟩ (by as_aux_lemma=>kernel_rfl) rfl plain (by as_aux_lemma=>kernel_rfl)
end Go.Proofs.Tryz.searchProves
namespace Go.Proofs.YtclkffdkahljeaaGreatDoor
theorem searchProves_cardUpto:Rows.SearchProvesUptoCardSaid:=Go.Proofs.Tryz.searchProves.cardUpto
#print axioms searchProves_cardUpto
