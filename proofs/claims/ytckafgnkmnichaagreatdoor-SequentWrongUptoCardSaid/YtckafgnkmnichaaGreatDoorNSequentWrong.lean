/- The law SequentWrong of lyceumlaw19, where what it reads is of bulk at most 1048576: proved here: the second form's card. -/
import Derived.Test.YtckafgnkmnichaaGreatDoorQJ
import Derived.Test.YtckafgnkmnichaaGreatDoorRF
import Derived.Test.YtckafgnkmnichaaGreatDoorCards
import Derived.Test.YtckafgnkmnichaaGreatDoorTie
import Derived.WalkKit
import Derived.ProofKit
import Derived.OpenShut
import Derived.Deep.DeepHandedRow
set_option linter.all false
namespace Go.Proofs.Tryz.sequentWrong
open Go Go.Iv Go.ChangeShapes Go.WideShapes Go.ChangeAt Go.RowKit
open Go.Proofs.YtckafgnkmnichaaGreatDoor Go.Proofs.Tryz
set_option maxRecDepth 8000

theorem reads_ok:∀ t ∈ f11.params.toList,prog.readableRec t = true ∧ t < prog.types.size:=by
  rw [params11]
  intro t ht
  simp only [List.mem_cons,List.not_mem_nil,or_false] at ht
  rcases ht with rfl | rfl | rfl <;> exact ⟨by kernel_rfl,of_decide_eq_true (by kernel_rfl)⟩

theorem contract (H:Type) (enc:TypeId × Value → H) (W:World) (base:Nat) (args:Array Value) (ds gs:List (DataW H)) (before:List MemPlace)
    (hval:∀ (j:Nat) t v,f11.params[j]? = some t → args[j]? = some v → Value.okWide prog W .any base t v)
    (hW:DataW.Whole enc prog f11.params.toList Rows.sequentWrongSpec.vars false W args.toList ds gs before) (hsm:Rows.uptoSmall H (ds ++ gs) = true) (hL:laidMetH prog Rows.sequentWrongUptoRow.laid W) :
    Calls prog 11 args W fun e W' => ∃ v,e = .returned v ∧ Rows.sequentWrongSpec.post enc prog f11 false true false false W args v W':=by
  have hW':=hW
  obtain ⟨p,q,hA,hV,rfl,hfz,hnd⟩:=hW
  have hsum:=of_decide_eq_true hsm
  rw [params11] at hA hval
  obtain ⟨v0,vs0,d0,ds0,p0,q0,hargs,rfl,rfl,⟨n0,h0⟩,r0⟩:=trodAll_cons hA
  obtain ⟨v1,vs1,d1,ds1,p1,q1,rfl,rfl,rfl,⟨n1,h1⟩,r1⟩:=trodAll_cons r0
  obtain ⟨v2,vs2,d2,ds2,p2,q2,rfl,rfl,rfl,⟨n2,h2⟩,r2⟩:=trodAll_cons r1
  obtain ⟨rfl,rfl,rfl⟩:=trodAll_nil r2
  obtain rfl:args = #[v0,v1,v2]:=by cases args; simp_all
  obtain ⟨rfl,rfl⟩:=trodVars_none hV
  simp only [List.append_nil,Rows.uptoBulkAll] at hsum
  obtain ⟨b0,rfl,k0,hz0⟩:=byte_val (hval 0 _ v0 rfl rfl) h0
  obtain ⟨t1,x1,hx1,ht1,hb1⟩:=tree_of n1 _ _ h1 (show Rows.uptoBulk d1 ≤ 1048576 by omega)
  have k1:=tree_val (hval 1 _ v1 rfl rfl) hx1 ht1
  have hb1:wTr t1 + t1.steps ≤ 2 * Rows.uptoBulk d1:=hb1
  obtain ⟨b2,rfl,k2,hz2⟩:=byte_val (hval 2 _ v2 rfl rfl) h2
  exact law_post rfl hW' rfl rfl reads_ok (good0 hL) (VL.cons k0 (VL.cons k1 (VL.cons k2 VL.nil)))
    (SequentWrong_c b0 t1 x1 ht1 (by omega) (by omega) b2 hz2)

def wit:Array Value:=#[.int .u8 0,.agg #[.int .u8 0,.slice none 0 0,.slice none 0 0,.int .u8 0,.string ⟨#[]⟩,.slice none 0 0,.slice none 0 0,.bool false,.string ⟨#[]⟩,.slice none 0 0,.string ⟨#[]⟩,.slice none 0 0],.int .u8 0]
theorem reads (os:Os) {H:Type} (enc:TypeId × Value → H):∃ places,DataW.whole enc prog ((laidWorld os).forCall (fun _ _ => 0) ⟨#[],wit,[]⟩).memory f11.params.toList Rows.sequentWrongSpec.vars false wit.toList 8 =
    some ([.lit (.int .u8 0),.agg [.lit (.int .u8 0),.agg [.nil,.nil],.agg [.lit (.int .u8 0),.lit (.string []),.nil,.nil],.agg [.lit (.bool false),.lit (.string []),.nil],.lit (.string []),.nil],.lit (.int .u8 0)],[],places):=⟨[],by kernel_rfl⟩

set_option maxRecDepth 100000 in
theorem liftedUpto (os:Os) (started:os.Started) (H:Type) (enc:TypeId × Value → H) (F:Stop.Interp) :
    ReturnsInHanded {} checked os 11 .any ((Rows.OpenSpec.upto Rows.sequentWrongSpec).preRow enc prog f11 Rows.sequentWrongUptoRow.domain false Rows.sequentWrongUptoRow.laid) (((Rows.OpenSpec.upto Rows.sequentWrongSpec).at F).post enc prog f11 false true false false):=by
  obtain ⟨places,hx⟩:=reads os enc
  refine returnsInHanded_of_row (C:=checked) (s:=Rows.OpenSpec.upto Rows.sequentWrongSpec) own started (by kernel_rfl) func11
    (witness_row_at (enc:=enc) (C:=checked) false (laidWorld os) wit rfl (by kernel_rfl) (by kernel_rfl) (by kernel_rfl)
      (OpenSpec.preRow_of_cond 8 hx (by kernel_rfl) (fun k hk => by cases hk; kernel_rfl) (by kernel_rfl) (laid_met os wit))) ?_
  intro W base args ds gs before hval hW _ hcond _ hL _ _
  exact contract H enc W base args ds gs before hval hW (hcond _ rfl) hL

theorem saidUpto:Rows.SequentWrongUptoSaid :=
  OpenClaim.holds_of_cond 11 f11 rfl rfl rfl rfl rfl rfl rfl ⟨rfl,rfl,rfl,rfl,rfl⟩ rfl rfl rfl rfl rfl (by as_aux_lemma => kernel_rfl) func11 closed
    (of_decide_eq_true (by as_aux_lemma => kernel_rfl)) wrapT
    (fun os started H enc _ F => by rw [OpenClaim.pre_eq_preRow]; exact liftedUpto os started H enc F)

theorem cardUpto:Rows.SequentWrongUptoCardSaid :=
  Claim7.holds_tied_plain_at .later [] _ _ _ _ saidUpto (fun _ h => by cases h) (by as_aux_lemma => kernel_rfl) (fun _ h => by cases h) sequentWrongUpto_row_tie rfl ⟨rfl,rfl⟩ (by as_aux_lemma => kernel_rfl) rfl plain (by as_aux_lemma => kernel_rfl)

end Go.Proofs.Tryz.sequentWrong
namespace Go.Proofs.YtckafgnkmnichaaGreatDoor
theorem sequentWrong_cardUpto:Rows.SequentWrongUptoCardSaid:=Go.Proofs.Tryz.sequentWrong.cardUpto
#print axioms sequentWrong_cardUpto
end Go.Proofs.YtckafgnkmnichaaGreatDoor
