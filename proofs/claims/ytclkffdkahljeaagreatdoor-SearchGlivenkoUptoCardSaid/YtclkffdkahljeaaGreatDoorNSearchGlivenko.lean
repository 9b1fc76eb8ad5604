/- The law SearchGlivenko of lyceumlaw26, w -/
import Derived.Test.YtclkffdkahljeaaGreatDoorQG
import Derived.Test.YtclkffdkahljeaaGreatDoorRF
set_option linter.all false
namespace Go.Proofs.Tryz.searchGlivenko
open Go Go.Iv Go.ChangeShapes Go.WideShapes Go.ChangeAt Go.RowKit
open Go.Proofs.YtclkffdkahljeaaGreatDoor Go.Proofs.Tryz
set_option maxRecDepth 8000
theorem wQp:∀t∈f5.params.toList,prog.readableRec t=true/\t<prog.types.size:=by
 rw[params5];intro t ht;simp only[List.mem_cons,List.not_mem_nil,or_false] at ht;rcases ht with rfl|rfl|rfl<;>exact⟨by kernel_rfl,of_decide_eq_true (by kernel_rfl)⟩
theorem wZx (H:Type)(enc:TypeId×Value->H)(W:World)(base:Nat)(args:Array Value)(ds gs:List (DataW H))(before:List MemPlace)
  (hval:∀(j:Nat) t v,f5.params[j]?=some t->args[j]?=some v->Value.okWide prog W .any base t v)
  (hW:DataW.Whole enc prog f5.params.toList Rows.searchGlivenkoSpec.vars false W args.toList ds gs before) (hsm:Rows.uptoSmall H (ds++gs)=true) (hL:laidMetH prog Rows.searchGlivenkoUptoRow.laid W) :
  Calls prog 5 args W λe W'=>∃v,e=.returned v/\Rows.searchGlivenkoSpec.post enc prog f5 false true false false W args v W':=by
 have hW':=hW;obtain⟨p,q,hA,hV,rfl,hfz,hnd⟩:=hW;have hsum:=of_decide_eq_true hsm;rw[params5] at hA hval;obtain⟨v0,vs0,d0,ds0,p0,q0,hargs,rfl,rfl,⟨n0,h0⟩,r0⟩:=trodAll_cons hA;obtain⟨v1,vs1,d1,ds1,p1,q1,rfl,rfl,rfl,⟨n1,h1⟩,r1⟩:=trodAll_cons r0;obtain⟨v2,vs2,d2,ds2,p2,q2,rfl,rfl,rfl,⟨n2,h2⟩,r2⟩:=trodAll_cons r1;obtain⟨rfl,rfl,rfl⟩:=trodAll_nil r2;obtain rfl:args=#[v0,v1,v2]:=by cases args;simp_all
 obtain⟨rfl,rfl⟩:=trodVars_none hV;simp only[List.append_nil,Rows.uptoBulkAll] at hsum;obtain⟨w0,tg0,xs0,l0,hc0,k0,htg0,hl0,hbl0⟩:=xJ9 h0 (show Rows.uptoBulk d0<=1048576 by omega) (λm _=>xGp m);have e0:=xWl wXr (hval 0 _ v0 rfl rfl) hc0;subst e0;have hbl0:yYq l0+1<=Rows.uptoBulk d0:=hbl0;obtain⟨f1,x1,hx1,hf1,hb1⟩:=xGp n1 _ _ h1 (show Rows.uptoBulk d1<=1048576 by omega);have k1:=wZm (hval 1 _ v1 rfl rfl) hx1 hf1;have hb1:xQz f1<=Rows.uptoBulk d1:=hb1;obtain⟨b2,rfl,k2⟩:=wX6 (hval 2 _ v2 rfl rfl);exact wZc rfl hW' rfl rfl wQp (uQ5 hL) (VL.cons k0 (VL.cons k1 (VL.cons k2 VL.nil)))
  (zQo gl0 G0 T0 l0 tg0 xs0 htg0 hl0 (by have:=zZ7 l0;omega) f1 x1 hf1 (by have:=xZf f1;omega) b2 _)
def wit:Array Value:=#[.slice none 0 0,.agg #[.int .u8 0,.string ⟨#[]⟩,.slice none 0 0,.slice none 0 0],.bool false]
theorem wGl (os:Os){H:Type}(enc:TypeId×Value->H):∃places,DataW.whole enc prog ((zX1 os).forCall (λ_ _=>0) ⟨#[],wit,[]⟩).memory f5.params.toList Rows.searchGlivenkoSpec.vars false wit.toList 8 =
  some ([.nil,.agg [.lit (.int .u8 0),.lit (.string []),.nil,.nil],.lit (.bool false)],[],places):=⟨[],by kernel_rfl⟩
set_option maxRecDepth 100000 in
theorem xKt (os:Os)(started:os.Started)(H:Type)(enc:TypeId×Value->H)(F:Stop.Interp) :
  ReturnsInHanded {} checked os 5 .any ((Rows.OpenSpec.upto Rows.searchGlivenkoSpec).preRow enc prog f5 Rows.searchGlivenkoUptoRow.domain false Rows.searchGlivenkoUptoRow.laid) (((Rows.OpenSpec.upto Rows.searchGlivenkoSpec).at F).post enc prog f5 false true false false):=by
 obtain⟨places,hx⟩:=wGl os enc;refine returnsInHanded_of_row (C:=checked) (s:=Rows.OpenSpec.upto Rows.searchGlivenkoSpec) own started (by kernel_rfl) func5
  (witness_row_at (enc:=enc) (C:=checked) false (zX1 os) wit rfl (by kernel_rfl) (by kernel_rfl) (by kernel_rfl)
   (OpenSpec.preRow_of_cond 8 hx (by kernel_rfl) (λk hk=>by cases hk;kernel_rfl) (by kernel_rfl) (wZe os wit))) ?_
 intro W base args ds gs before hval hW _ hcond _ hL _ _;exact wZx H enc W base args ds gs before hval hW (hcond _ rfl) hL
theorem wQh:Rows.SearchGlivenkoUptoSaid :=
 OpenClaim.holds_of_cond 5 f5 rfl rfl rfl rfl rfl rfl rfl ⟨rfl,rfl,rfl,rfl,rfl⟩ rfl rfl rfl rfl rfl (by as_aux_lemma=>kernel_rfl) func5 vZ8
  (of_decide_eq_true (by as_aux_lemma=>kernel_rfl)) vVr
  (λos started H enc _ F=>by rw[OpenClaim.pre_eq_preRow];exact xKt os started H enc F)
theorem cardUpto:Rows.SearchGlivenkoUptoCardSaid :=
 Claim7.holds_tied_plain_at .later [] _ _ _ _ wQh (λ_ h=>by cases h) (by as_aux_lemma=>kernel_rfl) (λ_ h=>by cases h) searchGlivenkoUpto_row_tie rfl ⟨rfl,rfl⟩ (by as_aux_lemma=>kernel_rfl) rfl plain (by as_aux_lemma=>kernel_rfl)
end Go.Proofs.Tryz.searchGlivenko
namespace Go.Proofs.YtclkffdkahljeaaGreatDoor
theorem searchGlivenko_cardUpto:Rows.SearchGlivenkoUptoCardSaid:=Go.Proofs.Tryz.searchGlivenko.cardUpto
#print axioms searchGlivenko_cardUpto
