/-
  NARROWER THAN 'FOR EVERY INPUT', by the rows' own cells (each row's printed sentence says how): SearchWrong: loops, laid · SearchDecides: loops, laid · SearchGlivenko: loops, laid · SearchDisjoint: loops, laid · SearchOrders: loops, laid · SearchSteps: loops, laid · SearchProves: loops, laid.
  DERIVED. THE GIVEN ROWS OF THIS SEAT. 7 by the template 'for every input the law returns true; each argument reads behind the call as it read before'; 0 by the template 'total and deterministic' (their statements: YtclkffdkahljeaaGreatDoorTotals.lean).
  GIVEN WITH THE SEED: the statements are not yours to turn. If you find one false, say at which input.
  Laid BY PROGRAM, IN A SANDBOX (cutbox-rows.mjs): the forced cells as the released guide's own fill.sh prints them over the translation 575f6d74e624db9b… (all of the seat's roots in one cut). By AI agents, Wed Nov 11 2026. No macro, syntax, notation, axiom, sorry.
-/
import Derived.Test.YtclkffdkahljeaaGreatDoorChecked
import GoSem.Claim
import GoSem.ClaimJoined
import GoSem.ClaimMapViews
import Derived.JoinedTies
import Derived.KernelRfl
namespace Go.Proofs.YtclkffdkahljeaaGreatDoor
/- THE CELL 'sum', in the pinned program and in every row, IS THE sha256 OF THE DUMP (.gsa) THAT YtclkffdkahljeaaGreatDoorProg.lean LOADS. Nothing in Lean hashes anything: it is a label: what it is worth is what the hold of that sum in a sandbox is worth. -/
noncomputable def Tryz.pinned : Pinned := { name := "ytclkffdkahljeaagreatdoor", sum := "575f6d74e624db9b2fc9be3f107b421a81279091be6a0ad5dc4b93d70daf82a7", checked := Tryz.checked }
namespace Rows
def none {H : Type} : Left H := { results := [], args := [] }

/- WHAT THE LISTED PACKAGE-LEVEL VARIABLES READ AS WHEN THE CALL BEGINS. Each datum BY PROGRAM (the guide's laid-datum.mjs) off the statement by which the dump's own 'gosem.cut.vars' lays the variable. In a bare row this is a premise. The card (YtclkffdkahljeaaGreatDoorCards.lean) ties it to the program's text. -/
def laid_math_bits_deBruijn32tab {H : Type} : DataW H := .agg [.lit (.int .u8 0), .lit (.int .u8 1), .lit (.int .u8 28), .lit (.int .u8 2), .lit (.int .u8 29), .lit (.int .u8 14), .lit (.int .u8 24), .lit (.int .u8 3), .lit (.int .u8 30), .lit (.int .u8 22), .lit (.int .u8 20), .lit (.int .u8 15), .lit (.int .u8 25), .lit (.int .u8 17), .lit (.int .u8 4), .lit (.int .u8 8), .lit (.int .u8 31), .lit (.int .u8 27), .lit (.int .u8 13), .lit (.int .u8 23), .lit (.int .u8 21), .lit (.int .u8 19), .lit (.int .u8 16), .lit (.int .u8 7), .lit (.int .u8 26), .lit (.int .u8 12), .lit (.int .u8 18), .lit (.int .u8 6), .lit (.int .u8 11), .lit (.int .u8 5), .lit (.int .u8 10), .lit (.int .u8 9)]
def laid_math_bits_deBruijn64tab {H : Type} : DataW H := .agg [.lit (.int .u8 0), .lit (.int .u8 1), .lit (.int .u8 56), .lit (.int .u8 2), .lit (.int .u8 57), .lit (.int .u8 49), .lit (.int .u8 28), .lit (.int .u8 3), .lit (.int .u8 61), .lit (.int .u8 58), .lit (.int .u8 42), .lit (.int .u8 50), .lit (.int .u8 38), .lit (.int .u8 29), .lit (.int .u8 17), .lit (.int .u8 4), .lit (.int .u8 62), .lit (.int .u8 47), .lit (.int .u8 59), .lit (.int .u8 36), .lit (.int .u8 45), .lit (.int .u8 43), .lit (.int .u8 51), .lit (.int .u8 22), .lit (.int .u8 53), .lit (.int .u8 39), .lit (.int .u8 33), .lit (.int .u8 30), .lit (.int .u8 24), .lit (.int .u8 18), .lit (.int .u8 12), .lit (.int .u8 5), .lit (.int .u8 63), .lit (.int .u8 55), .lit (.int .u8 48), .lit (.int .u8 27), .lit (.int .u8 60), .lit (.int .u8 41), .lit (.int .u8 37), .lit (.int .u8 16), .lit (.int .u8 46), .lit (.int .u8 35), .lit (.int .u8 44), .lit (.int .u8 21), .lit (.int .u8 52), .lit (.int .u8 32), .lit (.int .u8 23), .lit (.int .u8 11), .lit (.int .u8 54), .lit (.int .u8 26), .lit (.int .u8 40), .lit (.int .u8 15), .lit (.int .u8 34), .lit (.int .u8 20), .lit (.int .u8 31), .lit (.int .u8 10), .lit (.int .u8 25), .lit (.int .u8 14), .lit (.int .u8 19), .lit (.int .u8 9), .lit (.int .u8 13), .lit (.int .u8 8), .lit (.int .u8 7), .lit (.int .u8 6)]
def laid_internal_strconv_uint64pow10 {H : Type} : DataW H := .agg [.lit (.int .u64 1), .lit (.int .u64 10), .lit (.int .u64 100), .lit (.int .u64 1000), .lit (.int .u64 10000), .lit (.int .u64 100000), .lit (.int .u64 1000000), .lit (.int .u64 10000000), .lit (.int .u64 100000000), .lit (.int .u64 1000000000), .lit (.int .u64 10000000000), .lit (.int .u64 100000000000), .lit (.int .u64 1000000000000), .lit (.int .u64 10000000000000), .lit (.int .u64 100000000000000), .lit (.int .u64 1000000000000000), .lit (.int .u64 10000000000000000), .lit (.int .u64 100000000000000000), .lit (.int .u64 1000000000000000000), .lit (.int .u64 10000000000000000000)]
def laid_lyceum_syntax_rows {H : Type} : DataW H := .agg [.agg [.lit (.bool false), .lit (.bool false), .lit (.int .u8 0), .lit (.int .i64 0), .lit (.int .i64 0)], .agg [.lit (.bool true), .lit (.bool true), .lit (.int .u8 1), .lit (.int .i64 4), .lit (.int .i64 0)], .agg [.lit (.bool true), .lit (.bool true), .lit (.int .u8 0), .lit (.int .i64 0), .lit (.int .i64 0)], .agg [.lit (.bool true), .lit (.bool true), .lit (.int .u8 0), .lit (.int .i64 0), .lit (.int .i64 1)], .agg [.lit (.bool true), .lit (.bool true), .lit (.int .u8 0), .lit (.int .i64 0), .lit (.int .i64 2)], .agg [.lit (.bool true), .lit (.bool true), .lit (.int .u8 0), .lit (.int .i64 0), .lit (.int .i64 2)], .agg [.lit (.bool true), .lit (.bool true), .lit (.int .u8 0), .lit (.int .i64 0), .lit (.int .i64 2)], .agg [.lit (.bool true), .lit (.bool true), .lit (.int .u8 0), .lit (.int .i64 0), .lit (.int .i64 2)], .agg [.lit (.bool true), .lit (.bool true), .lit (.int .u8 2), .lit (.int .i64 0), .lit (.int .i64 1)], .agg [.lit (.bool true), .lit (.bool true), .lit (.int .u8 2), .lit (.int .i64 0), .lit (.int .i64 1)], .agg [.lit (.bool true), .lit (.bool true), .lit (.int .u8 0), .lit (.int .i64 0), .lit (.int .i64 1)], .agg [.lit (.bool true), .lit (.bool true), .lit (.int .u8 0), .lit (.int .i64 0), .lit (.int .i64 1)], .agg [.lit (.bool true), .lit (.bool true), .lit (.int .u8 0), .lit (.int .i64 0), .lit (.int .i64 1)], .agg [.lit (.bool true), .lit (.bool true), .lit (.int .u8 0), .lit (.int .i64 0), .lit (.int .i64 1)], .agg [.lit (.bool true), .lit (.bool true), .lit (.int .u8 0), .lit (.int .i64 0), .lit (.int .i64 2)], .agg [.lit (.bool false), .lit (.bool true), .lit (.int .u8 3), .lit (.int .i64 0), .lit (.int .i64 0)], .agg [.lit (.bool false), .lit (.bool true), .lit (.int .u8 3), .lit (.int .i64 2), .lit (.int .i64 0)]]

/-- 'lyceumlaw26.SearchWrong': WHATEVER THE INPUT: true; the input reads as it did. -/
def searchWrongSpec : ChangeSpec := { name := "searchWrong", fn := fun _ => fun
  | [d1, d2, d3, d4] => { results := [.lit (.bool true)], args := [d1, d2, d3, d4] }
  | _ => none }
def searchWrongRow : OpenClaim := { program := "ytclkffdkahljeaagreatdoor", sum := "575f6d74e624db9b2fc9be3f107b421a81279091be6a0ad5dc4b93d70daf82a7", func := "lyceum/lyceumlaw26.SearchWrong", spec := "searchWrong", inPlace := ["internal/bytealg.abigen_runtime_cmpstring"], unfollowed := true, recurses := true, named := ["lyceum/syntax.rows", "internal/strconv.uint64pow10", "math/bits.deBruijn32tab", "math/bits.deBruijn64tab"], loops := true, plainKeys := false, apart := false, laid := [("math/bits.deBruijn32tab", laid_math_bits_deBruijn32tab), ("math/bits.deBruijn64tab", laid_math_bits_deBruijn64tab), ("internal/strconv.uint64pow10", laid_internal_strconv_uint64pow10), ("lyceum/syntax.rows", laid_lyceum_syntax_rows)] }
def SearchWrongSaid : Prop := searchWrongRow.holds Tryz.pinned (OpenSpec.ofChange searchWrongSpec)

/-- ITS FALSE NEIGHBOUR: 'it returns false'. Refute it at one input. -/
def searchWrongWrong : ChangeSpec := { name := "searchWrong", fn := fun _ => fun
  | [d1, d2, d3, d4] => { results := [.lit (.bool false)], args := [d1, d2, d3, d4] }
  | _ => none }
def SearchWrongWrongFalsely : Prop := searchWrongRow.holds Tryz.pinned (OpenSpec.ofChange searchWrongWrong)

/-- 'lyceumlaw26.SearchDecides': WHATEVER THE INPUT: true; the input reads as it did. -/
def searchDecidesSpec : ChangeSpec := { name := "searchDecides", fn := fun _ => fun
  | [d1, d2] => { results := [.lit (.bool true)], args := [d1, d2] }
  | _ => none }
def searchDecidesRow : OpenClaim := { program := "ytclkffdkahljeaagreatdoor", sum := "575f6d74e624db9b2fc9be3f107b421a81279091be6a0ad5dc4b93d70daf82a7", func := "lyceum/lyceumlaw26.SearchDecides", spec := "searchDecides", inPlace := ["internal/bytealg.abigen_runtime_cmpstring"], unfollowed := true, recurses := true, named := ["lyceum/syntax.rows", "internal/strconv.uint64pow10", "math/bits.deBruijn32tab", "math/bits.deBruijn64tab"], loops := true, plainKeys := false, apart := false, laid := [("math/bits.deBruijn32tab", laid_math_bits_deBruijn32tab), ("math/bits.deBruijn64tab", laid_math_bits_deBruijn64tab), ("internal/strconv.uint64pow10", laid_internal_strconv_uint64pow10), ("lyceum/syntax.rows", laid_lyceum_syntax_rows)] }
def SearchDecidesSaid : Prop := searchDecidesRow.holds Tryz.pinned (OpenSpec.ofChange searchDecidesSpec)

/-- ITS FALSE NEIGHBOUR: 'it returns false'. Refute it at one input. -/
def searchDecidesWrong : ChangeSpec := { name := "searchDecides", fn := fun _ => fun
  | [d1, d2] => { results := [.lit (.bool false)], args := [d1, d2] }
  | _ => none }
def SearchDecidesWrongFalsely : Prop := searchDecidesRow.holds Tryz.pinned (OpenSpec.ofChange searchDecidesWrong)

/-- 'lyceumlaw26.SearchGlivenko': WHATEVER THE INPUT: true; the input reads as it did. -/
def searchGlivenkoSpec : ChangeSpec := { name := "searchGlivenko", fn := fun _ => fun
  | [d1, d2, d3] => { results := [.lit (.bool true)], args := [d1, d2, d3] }
  | _ => none }
def searchGlivenkoRow : OpenClaim := { program := "ytclkffdkahljeaagreatdoor", sum := "575f6d74e624db9b2fc9be3f107b421a81279091be6a0ad5dc4b93d70daf82a7", func := "lyceum/lyceumlaw26.SearchGlivenko", spec := "searchGlivenko", inPlace := ["internal/bytealg.abigen_runtime_cmpstring"], unfollowed := true, recurses := true, named := ["lyceum/syntax.rows", "internal/strconv.uint64pow10", "math/bits.deBruijn32tab", "math/bits.deBruijn64tab"], loops := true, plainKeys := false, apart := false, laid := [("math/bits.deBruijn32tab", laid_math_bits_deBruijn32tab), ("math/bits.deBruijn64tab", laid_math_bits_deBruijn64tab), ("internal/strconv.uint64pow10", laid_internal_strconv_uint64pow10), ("lyceum/syntax.rows", laid_lyceum_syntax_rows)] }
def SearchGlivenkoSaid : Prop := searchGlivenkoRow.holds Tryz.pinned (OpenSpec.ofChange searchGlivenkoSpec)

/-- ITS FALSE NEIGHBOUR: 'it returns false'. Refute it at one input. -/
def searchGlivenkoWrong : ChangeSpec := { name := "searchGlivenko", fn := fun _ => fun
  | [d1, d2, d3] => { results := [.lit (.bool false)], args := [d1, d2, d3] }
  | _ => none }
def SearchGlivenkoWrongFalsely : Prop := searchGlivenkoRow.holds Tryz.pinned (OpenSpec.ofChange searchGlivenkoWrong)

/-- 'lyceumlaw26.SearchDisjoint': WHATEVER THE INPUT: true; the input reads as it did. -/
def searchDisjointSpec : ChangeSpec := { name := "searchDisjoint", fn := fun _ => fun
  | [d1, d2] => { results := [.lit (.bool true)], args := [d1, d2] }
  | _ => none }
def searchDisjointRow : OpenClaim := { program := "ytclkffdkahljeaagreatdoor", sum := "575f6d74e624db9b2fc9be3f107b421a81279091be6a0ad5dc4b93d70daf82a7", func := "lyceum/lyceumlaw26.SearchDisjoint", spec := "searchDisjoint", inPlace := ["internal/bytealg.abigen_runtime_cmpstring"], unfollowed := true, recurses := true, named := ["lyceum/syntax.rows", "internal/strconv.uint64pow10", "math/bits.deBruijn32tab", "math/bits.deBruijn64tab"], loops := true, plainKeys := false, apart := false, laid := [("math/bits.deBruijn32tab", laid_math_bits_deBruijn32tab), ("math/bits.deBruijn64tab", laid_math_bits_deBruijn64tab), ("internal/strconv.uint64pow10", laid_internal_strconv_uint64pow10), ("lyceum/syntax.rows", laid_lyceum_syntax_rows)] }
def SearchDisjointSaid : Prop := searchDisjointRow.holds Tryz.pinned (OpenSpec.ofChange searchDisjointSpec)

/-- ITS FALSE NEIGHBOUR: 'it returns false'. Refute it at one input. -/
def searchDisjointWrong : ChangeSpec := { name := "searchDisjoint", fn := fun _ => fun
  | [d1, d2] => { results := [.lit (.bool false)], args := [d1, d2] }
  | _ => none }
def SearchDisjointWrongFalsely : Prop := searchDisjointRow.holds Tryz.pinned (OpenSpec.ofChange searchDisjointWrong)

/-- 'lyceumlaw26.SearchOrders': WHATEVER THE INPUT: true; the input reads as it did. -/
def searchOrdersSpec : ChangeSpec := { name := "searchOrders", fn := fun _ => fun
  | [d1, d2, d3] => { results := [.lit (.bool true)], args := [d1, d2, d3] }
  | _ => none }
def searchOrdersRow : OpenClaim := { program := "ytclkffdkahljeaagreatdoor", sum := "575f6d74e624db9b2fc9be3f107b421a81279091be6a0ad5dc4b93d70daf82a7", func := "lyceum/lyceumlaw26.SearchOrders", spec := "searchOrders", inPlace := ["internal/bytealg.abigen_runtime_cmpstring"], unfollowed := true, recurses := true, named := ["lyceum/syntax.rows", "internal/strconv.uint64pow10", "math/bits.deBruijn32tab", "math/bits.deBruijn64tab"], loops := true, plainKeys := false, apart := false, laid := [("math/bits.deBruijn32tab", laid_math_bits_deBruijn32tab), ("math/bits.deBruijn64tab", laid_math_bits_deBruijn64tab), ("internal/strconv.uint64pow10", laid_internal_strconv_uint64pow10), ("lyceum/syntax.rows", laid_lyceum_syntax_rows)] }
def SearchOrdersSaid : Prop := searchOrdersRow.holds Tryz.pinned (OpenSpec.ofChange searchOrdersSpec)

/-- ITS FALSE NEIGHBOUR: 'it returns false'. Refute it at one input. -/
def searchOrdersWrong : ChangeSpec := { name := "searchOrders", fn := fun _ => fun
  | [d1, d2, d3] => { results := [.lit (.bool false)], args := [d1, d2, d3] }
  | _ => none }
def SearchOrdersWrongFalsely : Prop := searchOrdersRow.holds Tryz.pinned (OpenSpec.ofChange searchOrdersWrong)

/-- 'lyceumlaw26.SearchSteps': WHATEVER THE INPUT: true; the input reads as it did. -/
def searchStepsSpec : ChangeSpec := { name := "searchSteps", fn := fun _ => fun
  | [d1, d2] => { results := [.lit (.bool true)], args := [d1, d2] }
  | _ => none }
def searchStepsRow : OpenClaim := { program := "ytclkffdkahljeaagreatdoor", sum := "575f6d74e624db9b2fc9be3f107b421a81279091be6a0ad5dc4b93d70daf82a7", func := "lyceum/lyceumlaw26.SearchSteps", spec := "searchSteps", inPlace := ["internal/bytealg.abigen_runtime_cmpstring"], unfollowed := true, recurses := true, named := ["lyceum/syntax.rows", "internal/strconv.uint64pow10", "math/bits.deBruijn32tab", "math/bits.deBruijn64tab"], loops := true, plainKeys := false, apart := false, laid := [("math/bits.deBruijn32tab", laid_math_bits_deBruijn32tab), ("math/bits.deBruijn64tab", laid_math_bits_deBruijn64tab), ("internal/strconv.uint64pow10", laid_internal_strconv_uint64pow10), ("lyceum/syntax.rows", laid_lyceum_syntax_rows)] }
def SearchStepsSaid : Prop := searchStepsRow.holds Tryz.pinned (OpenSpec.ofChange searchStepsSpec)

/-- ITS FALSE NEIGHBOUR: 'it returns false'. Refute it at one input. -/
def searchStepsWrong : ChangeSpec := { name := "searchSteps", fn := fun _ => fun
  | [d1, d2] => { results := [.lit (.bool false)], args := [d1, d2] }
  | _ => none }
def SearchStepsWrongFalsely : Prop := searchStepsRow.holds Tryz.pinned (OpenSpec.ofChange searchStepsWrong)

/-- 'lyceumlaw26.SearchProves': WHATEVER THE INPUT: true; the input reads as it did. -/
def searchProvesSpec : ChangeSpec := { name := "searchProves", fn := fun _ => fun
  | [d1, d2, d3] => { results := [.lit (.bool true)], args := [d1, d2, d3] }
  | _ => none }
def searchProvesRow : OpenClaim := { program := "ytclkffdkahljeaagreatdoor", sum := "575f6d74e624db9b2fc9be3f107b421a81279091be6a0ad5dc4b93d70daf82a7", func := "lyceum/lyceumlaw26.SearchProves", spec := "searchProves", inPlace := ["internal/bytealg.abigen_runtime_cmpstring"], unfollowed := true, recurses := true, named := ["lyceum/syntax.rows", "internal/strconv.uint64pow10", "math/bits.deBruijn32tab", "math/bits.deBruijn64tab"], loops := true, plainKeys := false, apart := false, laid := [("math/bits.deBruijn32tab", laid_math_bits_deBruijn32tab), ("math/bits.deBruijn64tab", laid_math_bits_deBruijn64tab), ("internal/strconv.uint64pow10", laid_internal_strconv_uint64pow10), ("lyceum/syntax.rows", laid_lyceum_syntax_rows)] }
def SearchProvesSaid : Prop := searchProvesRow.holds Tryz.pinned (OpenSpec.ofChange searchProvesSpec)

/-- ITS FALSE NEIGHBOUR: 'it returns false'. Refute it at one input. -/
def searchProvesWrong : ChangeSpec := { name := "searchProves", fn := fun _ => fun
  | [d1, d2, d3] => { results := [.lit (.bool false)], args := [d1, d2, d3] }
  | _ => none }
def SearchProvesWrongFalsely : Prop := searchProvesRow.holds Tryz.pinned (OpenSpec.ofChange searchProvesWrong)

/- THE SECOND FORM. 'bulk': how many values and letters a reading holds, each counted each time it is reached (what is shared counts as often as it is met; a slice's spare places count too). A statement '..UptoSaid' is the law's where the arguments, and the package variables that the reading takes, are together of bulk at most 1048576: NARROWER than '..Said'. Prove '..Said' where nothing that the law and all that it calls make is longer than what came in: it says more and counts as full. Else prove '..UptoSaid'. A law counts once. -/
mutual
def uptoBulk {H : Type} : DataW H → Nat
  | .lit (.string bytes) => bytes.length + 1
  | .lit _ => 1
  | .nil => 1
  | .ptr d => uptoBulk d + 1
  | .slice elems spare => uptoBulkAll elems + uptoBulkAll spare + 1
  | .agg parts => uptoBulkAll parts + 1
  | .iface _ d => uptoBulk d + 1
  | .map entries => uptoBulkEntries entries + 1
  | .held _ => 1
def uptoBulkAll {H : Type} : List (DataW H) → Nat
  | [] => 0
  | d :: r => uptoBulk d + uptoBulkAll r
def uptoBulkEntries {H : Type} : List (Lit × DataW H) → Nat
  | [] => 0
  | x :: r => uptoBulkEntry x + uptoBulkEntries r
def uptoBulkEntry {H : Type} : Lit × DataW H → Nat
  | (.string bytes, d) => bytes.length + uptoBulk d + 1
  | (_, d) => uptoBulk d + 1
 end
def uptoSmall : (H : Type) → List (DataW H) → Bool := fun _ ds => decide (uptoBulkAll ds ≤ 1048576)
def OpenSpec.upto (s : _root_.Go.ChangeSpec) : _root_.Go.OpenSpec := { _root_.Go.OpenSpec.ofChange s with cond := some uptoSmall }

/-- 'lyceumlaw26.SearchWrong', WHERE WHAT IT READS IS OF BULK AT MOST 1048576: true; the input reads as it did. -/
def searchWrongUptoRow : OpenClaim := { program := "ytclkffdkahljeaagreatdoor", sum := "575f6d74e624db9b2fc9be3f107b421a81279091be6a0ad5dc4b93d70daf82a7", func := "lyceum/lyceumlaw26.SearchWrong", spec := "searchWrong", inPlace := ["internal/bytealg.abigen_runtime_cmpstring"], unfollowed := true, recurses := true, named := ["lyceum/syntax.rows", "internal/strconv.uint64pow10", "math/bits.deBruijn32tab", "math/bits.deBruijn64tab"], loops := true, plainKeys := false, apart := false, laid := [("math/bits.deBruijn32tab", laid_math_bits_deBruijn32tab), ("math/bits.deBruijn64tab", laid_math_bits_deBruijn64tab), ("internal/strconv.uint64pow10", laid_internal_strconv_uint64pow10), ("lyceum/syntax.rows", laid_lyceum_syntax_rows)], narrowed := true }
def SearchWrongUptoSaid : Prop := searchWrongUptoRow.holds Tryz.pinned (OpenSpec.upto searchWrongSpec)

/-- 'lyceumlaw26.SearchDecides', WHERE WHAT IT READS IS OF BULK AT MOST 1048576: true; the input reads as it did. -/
def searchDecidesUptoRow : OpenClaim := { program := "ytclkffdkahljeaagreatdoor", sum := "575f6d74e624db9b2fc9be3f107b421a81279091be6a0ad5dc4b93d70daf82a7", func := "lyceum/lyceumlaw26.SearchDecides", spec := "searchDecides", inPlace := ["internal/bytealg.abigen_runtime_cmpstring"], unfollowed := true, recurses := true, named := ["lyceum/syntax.rows", "internal/strconv.uint64pow10", "math/bits.deBruijn32tab", "math/bits.deBruijn64tab"], loops := true, plainKeys := false, apart := false, laid := [("math/bits.deBruijn32tab", laid_math_bits_deBruijn32tab), ("math/bits.deBruijn64tab", laid_math_bits_deBruijn64tab), ("internal/strconv.uint64pow10", laid_internal_strconv_uint64pow10), ("lyceum/syntax.rows", laid_lyceum_syntax_rows)], narrowed := true }
def SearchDecidesUptoSaid : Prop := searchDecidesUptoRow.holds Tryz.pinned (OpenSpec.upto searchDecidesSpec)

/-- 'lyceumlaw26.SearchGlivenko', WHERE WHAT IT READS IS OF BULK AT MOST 1048576: true; the input reads as it did. -/
def searchGlivenkoUptoRow : OpenClaim := { program := "ytclkffdkahljeaagreatdoor", sum := "575f6d74e624db9b2fc9be3f107b421a81279091be6a0ad5dc4b93d70daf82a7", func := "lyceum/lyceumlaw26.SearchGlivenko", spec := "searchGlivenko", inPlace := ["internal/bytealg.abigen_runtime_cmpstring"], unfollowed := true, recurses := true, named := ["lyceum/syntax.rows", "internal/strconv.uint64pow10", "math/bits.deBruijn32tab", "math/bits.deBruijn64tab"], loops := true, plainKeys := false, apart := false, laid := [("math/bits.deBruijn32tab", laid_math_bits_deBruijn32tab), ("math/bits.deBruijn64tab", laid_math_bits_deBruijn64tab), ("internal/strconv.uint64pow10", laid_internal_strconv_uint64pow10), ("lyceum/syntax.rows", laid_lyceum_syntax_rows)], narrowed := true }
def SearchGlivenkoUptoSaid : Prop := searchGlivenkoUptoRow.holds Tryz.pinned (OpenSpec.upto searchGlivenkoSpec)

/-- 'lyceumlaw26.SearchDisjoint', WHERE WHAT IT READS IS OF BULK AT MOST 1048576: true; the input reads as it did. -/
def searchDisjointUptoRow : OpenClaim := { program := "ytclkffdkahljeaagreatdoor", sum := "575f6d74e624db9b2fc9be3f107b421a81279091be6a0ad5dc4b93d70daf82a7", func := "lyceum/lyceumlaw26.SearchDisjoint", spec := "searchDisjoint", inPlace := ["internal/bytealg.abigen_runtime_cmpstring"], unfollowed := true, recurses := true, named := ["lyceum/syntax.rows", "internal/strconv.uint64pow10", "math/bits.deBruijn32tab", "math/bits.deBruijn64tab"], loops := true, plainKeys := false, apart := false, laid := [("math/bits.deBruijn32tab", laid_math_bits_deBruijn32tab), ("math/bits.deBruijn64tab", laid_math_bits_deBruijn64tab), ("internal/strconv.uint64pow10", laid_internal_strconv_uint64pow10), ("lyceum/syntax.rows", laid_lyceum_syntax_rows)], narrowed := true }
def SearchDisjointUptoSaid : Prop := searchDisjointUptoRow.holds Tryz.pinned (OpenSpec.upto searchDisjointSpec)

/-- 'lyceumlaw26.SearchOrders', WHERE WHAT IT READS IS OF BULK AT MOST 1048576: true; the input reads as it did. -/
def searchOrdersUptoRow : OpenClaim := { program := "ytclkffdkahljeaagreatdoor", sum := "575f6d74e624db9b2fc9be3f107b421a81279091be6a0ad5dc4b93d70daf82a7", func := "lyceum/lyceumlaw26.SearchOrders", spec := "searchOrders", inPlace := ["internal/bytealg.abigen_runtime_cmpstring"], unfollowed := true, recurses := true, named := ["lyceum/syntax.rows", "internal/strconv.uint64pow10", "math/bits.deBruijn32tab", "math/bits.deBruijn64tab"], loops := true, plainKeys := false, apart := false, laid := [("math/bits.deBruijn32tab", laid_math_bits_deBruijn32tab), ("math/bits.deBruijn64tab", laid_math_bits_deBruijn64tab), ("internal/strconv.uint64pow10", laid_internal_strconv_uint64pow10), ("lyceum/syntax.rows", laid_lyceum_syntax_rows)], narrowed := true }
def SearchOrdersUptoSaid : Prop := searchOrdersUptoRow.holds Tryz.pinned (OpenSpec.upto searchOrdersSpec)

/-- 'lyceumlaw26.SearchSteps', WHERE WHAT IT READS IS OF BULK AT MOST 1048576: true; the input reads as it did. -/
def searchStepsUptoRow : OpenClaim := { program := "ytclkffdkahljeaagreatdoor", sum := "575f6d74e624db9b2fc9be3f107b421a81279091be6a0ad5dc4b93d70daf82a7", func := "lyceum/lyceumlaw26.SearchSteps", spec := "searchSteps", inPlace := ["internal/bytealg.abigen_runtime_cmpstring"], unfollowed := true, recurses := true, named := ["lyceum/syntax.rows", "internal/strconv.uint64pow10", "math/bits.deBruijn32tab", "math/bits.deBruijn64tab"], loops := true, plainKeys := false, apart := false, laid := [("math/bits.deBruijn32tab", laid_math_bits_deBruijn32tab), ("math/bits.deBruijn64tab", laid_math_bits_deBruijn64tab), ("internal/strconv.uint64pow10", laid_internal_strconv_uint64pow10), ("lyceum/syntax.rows", laid_lyceum_syntax_rows)], narrowed := true }
def SearchStepsUptoSaid : Prop := searchStepsUptoRow.holds Tryz.pinned (OpenSpec.upto searchStepsSpec)

/-- 'lyceumlaw26.SearchProves', WHERE WHAT IT READS IS OF BULK AT MOST 1048576: true; the input reads as it did. -/
def searchProvesUptoRow : OpenClaim := { program := "ytclkffdkahljeaagreatdoor", sum := "575f6d74e624db9b2fc9be3f107b421a81279091be6a0ad5dc4b93d70daf82a7", func := "lyceum/lyceumlaw26.SearchProves", spec := "searchProves", inPlace := ["internal/bytealg.abigen_runtime_cmpstring"], unfollowed := true, recurses := true, named := ["lyceum/syntax.rows", "internal/strconv.uint64pow10", "math/bits.deBruijn32tab", "math/bits.deBruijn64tab"], loops := true, plainKeys := false, apart := false, laid := [("math/bits.deBruijn32tab", laid_math_bits_deBruijn32tab), ("math/bits.deBruijn64tab", laid_math_bits_deBruijn64tab), ("internal/strconv.uint64pow10", laid_internal_strconv_uint64pow10), ("lyceum/syntax.rows", laid_lyceum_syntax_rows)], narrowed := true }
def SearchProvesUptoSaid : Prop := searchProvesUptoRow.holds Tryz.pinned (OpenSpec.upto searchProvesSpec)

end Rows
end Go.Proofs.YtclkffdkahljeaaGreatDoor
