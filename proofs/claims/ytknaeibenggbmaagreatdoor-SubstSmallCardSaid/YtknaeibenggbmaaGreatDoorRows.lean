/-
  NARROWER THAN 'FOR EVERY INPUT', by the rows' own cells (each row's printed sentence says how): SubstPuts: loops, laid · SubstAlphas: loops, laid · SubstNothing: loops, laid · SubstStays: loops, laid · SubstNormals: loops, laid · SubstRenames: loops, laid · SubstWrong: loops, laid · SubstFrees: loops, laid · SubstTerms: loops, laid · SubstLemma: loops, laid · SubstAsks: loops, laid · SubstSmall: laid.
  DERIVED. THE GIVEN ROWS OF THIS SEAT. 12 by the template 'for every input the law returns true; each argument reads behind the call as it read before'; 0 by the template 'total and deterministic' (their statements: YtknaeibenggbmaaGreatDoorTotals.lean).
  GIVEN WITH THE SEED: the statements are not yours to turn. If you find one false, say at which input.
  Laid BY PROGRAM, IN A SANDBOX (cutbox-rows.mjs): the forced cells as the released guide's own fill.sh prints them over the translation 75ef8ac0cdb416a5… (all of the seat's roots in one cut). By AI agents, Wed Nov 11 2026. No macro, syntax, notation, axiom, sorry.
-/
import Derived.Test.YtknaeibenggbmaaGreatDoorChecked
import GoSem.Claim
import GoSem.ClaimJoined
import GoSem.ClaimMapViews
import Derived.JoinedTies
import Derived.KernelRfl
namespace Go.Proofs.YtknaeibenggbmaaGreatDoor
/- THE CELL 'sum', in the pinned program and in every row, IS THE sha256 OF THE DUMP (.gsa) THAT YtknaeibenggbmaaGreatDoorProg.lean LOADS. Nothing in Lean hashes anything: it is a label: what it is worth is what the hold of that sum in a sandbox is worth. -/
noncomputable def Tryz.pinned : Pinned := { name := "ytknaeibenggbmaagreatdoor", sum := "75ef8ac0cdb416a5fbf4eaf2af6f2422dab2fb53572c58089e9954119aeb53ea", checked := Tryz.checked }
namespace Rows
def none {H : Type} : Left H := { results := [], args := [] }

/- WHAT THE LISTED PACKAGE-LEVEL VARIABLES READ AS WHEN THE CALL BEGINS. Each datum BY PROGRAM (the guide's laid-datum.mjs) off the statement by which the dump's own 'gosem.cut.vars' lays the variable. In a bare row this is a premise. The card (YtknaeibenggbmaaGreatDoorCards.lean) ties it to the program's text. -/
def laid_math_bits_deBruijn32tab {H : Type} : DataW H := .agg [.lit (.int .u8 0), .lit (.int .u8 1), .lit (.int .u8 28), .lit (.int .u8 2), .lit (.int .u8 29), .lit (.int .u8 14), .lit (.int .u8 24), .lit (.int .u8 3), .lit (.int .u8 30), .lit (.int .u8 22), .lit (.int .u8 20), .lit (.int .u8 15), .lit (.int .u8 25), .lit (.int .u8 17), .lit (.int .u8 4), .lit (.int .u8 8), .lit (.int .u8 31), .lit (.int .u8 27), .lit (.int .u8 13), .lit (.int .u8 23), .lit (.int .u8 21), .lit (.int .u8 19), .lit (.int .u8 16), .lit (.int .u8 7), .lit (.int .u8 26), .lit (.int .u8 12), .lit (.int .u8 18), .lit (.int .u8 6), .lit (.int .u8 11), .lit (.int .u8 5), .lit (.int .u8 10), .lit (.int .u8 9)]
def laid_math_bits_deBruijn64tab {H : Type} : DataW H := .agg [.lit (.int .u8 0), .lit (.int .u8 1), .lit (.int .u8 56), .lit (.int .u8 2), .lit (.int .u8 57), .lit (.int .u8 49), .lit (.int .u8 28), .lit (.int .u8 3), .lit (.int .u8 61), .lit (.int .u8 58), .lit (.int .u8 42), .lit (.int .u8 50), .lit (.int .u8 38), .lit (.int .u8 29), .lit (.int .u8 17), .lit (.int .u8 4), .lit (.int .u8 62), .lit (.int .u8 47), .lit (.int .u8 59), .lit (.int .u8 36), .lit (.int .u8 45), .lit (.int .u8 43), .lit (.int .u8 51), .lit (.int .u8 22), .lit (.int .u8 53), .lit (.int .u8 39), .lit (.int .u8 33), .lit (.int .u8 30), .lit (.int .u8 24), .lit (.int .u8 18), .lit (.int .u8 12), .lit (.int .u8 5), .lit (.int .u8 63), .lit (.int .u8 55), .lit (.int .u8 48), .lit (.int .u8 27), .lit (.int .u8 60), .lit (.int .u8 41), .lit (.int .u8 37), .lit (.int .u8 16), .lit (.int .u8 46), .lit (.int .u8 35), .lit (.int .u8 44), .lit (.int .u8 21), .lit (.int .u8 52), .lit (.int .u8 32), .lit (.int .u8 23), .lit (.int .u8 11), .lit (.int .u8 54), .lit (.int .u8 26), .lit (.int .u8 40), .lit (.int .u8 15), .lit (.int .u8 34), .lit (.int .u8 20), .lit (.int .u8 31), .lit (.int .u8 10), .lit (.int .u8 25), .lit (.int .u8 14), .lit (.int .u8 19), .lit (.int .u8 9), .lit (.int .u8 13), .lit (.int .u8 8), .lit (.int .u8 7), .lit (.int .u8 6)]
def laid_internal_strconv_uint64pow10 {H : Type} : DataW H := .agg [.lit (.int .u64 1), .lit (.int .u64 10), .lit (.int .u64 100), .lit (.int .u64 1000), .lit (.int .u64 10000), .lit (.int .u64 100000), .lit (.int .u64 1000000), .lit (.int .u64 10000000), .lit (.int .u64 100000000), .lit (.int .u64 1000000000), .lit (.int .u64 10000000000), .lit (.int .u64 100000000000), .lit (.int .u64 1000000000000), .lit (.int .u64 10000000000000), .lit (.int .u64 100000000000000), .lit (.int .u64 1000000000000000), .lit (.int .u64 10000000000000000), .lit (.int .u64 100000000000000000), .lit (.int .u64 1000000000000000000), .lit (.int .u64 10000000000000000000)]
def laid_lyceum_syntax_rows {H : Type} : DataW H := .agg [.agg [.lit (.bool false), .lit (.bool false), .lit (.int .u8 0), .lit (.int .i64 0), .lit (.int .i64 0)], .agg [.lit (.bool true), .lit (.bool true), .lit (.int .u8 1), .lit (.int .i64 4), .lit (.int .i64 0)], .agg [.lit (.bool true), .lit (.bool true), .lit (.int .u8 0), .lit (.int .i64 0), .lit (.int .i64 0)], .agg [.lit (.bool true), .lit (.bool true), .lit (.int .u8 0), .lit (.int .i64 0), .lit (.int .i64 1)], .agg [.lit (.bool true), .lit (.bool true), .lit (.int .u8 0), .lit (.int .i64 0), .lit (.int .i64 2)], .agg [.lit (.bool true), .lit (.bool true), .lit (.int .u8 0), .lit (.int .i64 0), .lit (.int .i64 2)], .agg [.lit (.bool true), .lit (.bool true), .lit (.int .u8 0), .lit (.int .i64 0), .lit (.int .i64 2)], .agg [.lit (.bool true), .lit (.bool true), .lit (.int .u8 0), .lit (.int .i64 0), .lit (.int .i64 2)], .agg [.lit (.bool true), .lit (.bool true), .lit (.int .u8 2), .lit (.int .i64 0), .lit (.int .i64 1)], .agg [.lit (.bool true), .lit (.bool true), .lit (.int .u8 2), .lit (.int .i64 0), .lit (.int .i64 1)], .agg [.lit (.bool true), .lit (.bool true), .lit (.int .u8 0), .lit (.int .i64 0), .lit (.int .i64 1)], .agg [.lit (.bool true), .lit (.bool true), .lit (.int .u8 0), .lit (.int .i64 0), .lit (.int .i64 1)], .agg [.lit (.bool true), .lit (.bool true), .lit (.int .u8 0), .lit (.int .i64 0), .lit (.int .i64 1)], .agg [.lit (.bool true), .lit (.bool true), .lit (.int .u8 0), .lit (.int .i64 0), .lit (.int .i64 1)], .agg [.lit (.bool true), .lit (.bool true), .lit (.int .u8 0), .lit (.int .i64 0), .lit (.int .i64 2)], .agg [.lit (.bool false), .lit (.bool true), .lit (.int .u8 3), .lit (.int .i64 0), .lit (.int .i64 0)], .agg [.lit (.bool false), .lit (.bool true), .lit (.int .u8 3), .lit (.int .i64 2), .lit (.int .i64 0)]]

/-- 'lyceumlaw03.SubstPuts': WHATEVER THE INPUT: true; the input reads as it did. -/
def substPutsSpec : ChangeSpec := { name := "substPuts", fn := fun _ => fun
  | [d1, d2] => { results := [.lit (.bool true)], args := [d1, d2] }
  | _ => none }
def substPutsRow : OpenClaim := { program := "ytknaeibenggbmaagreatdoor", sum := "75ef8ac0cdb416a5fbf4eaf2af6f2422dab2fb53572c58089e9954119aeb53ea", func := "lyceum/lyceumlaw03.SubstPuts", spec := "substPuts", unfollowed := true, recurses := true, named := ["lyceum/syntax.rows", "internal/strconv.uint64pow10", "math/bits.deBruijn32tab", "math/bits.deBruijn64tab"], loops := true, apart := false, laid := [("math/bits.deBruijn32tab", laid_math_bits_deBruijn32tab), ("math/bits.deBruijn64tab", laid_math_bits_deBruijn64tab), ("internal/strconv.uint64pow10", laid_internal_strconv_uint64pow10), ("lyceum/syntax.rows", laid_lyceum_syntax_rows)] }
def SubstPutsSaid : Prop := substPutsRow.holds Tryz.pinned (OpenSpec.ofChange substPutsSpec)

/-- ITS FALSE NEIGHBOUR: 'it returns false'. Refute it at one input. -/
def substPutsWrong : ChangeSpec := { name := "substPuts", fn := fun _ => fun
  | [d1, d2] => { results := [.lit (.bool false)], args := [d1, d2] }
  | _ => none }
def SubstPutsWrongFalsely : Prop := substPutsRow.holds Tryz.pinned (OpenSpec.ofChange substPutsWrong)

/-- 'lyceumlaw03.SubstAlphas': WHATEVER THE INPUT: true; the input reads as it did. -/
def substAlphasSpec : ChangeSpec := { name := "substAlphas", fn := fun _ => fun
  | [d1, d2] => { results := [.lit (.bool true)], args := [d1, d2] }
  | _ => none }
def substAlphasRow : OpenClaim := { program := "ytknaeibenggbmaagreatdoor", sum := "75ef8ac0cdb416a5fbf4eaf2af6f2422dab2fb53572c58089e9954119aeb53ea", func := "lyceum/lyceumlaw03.SubstAlphas", spec := "substAlphas", unfollowed := true, recurses := true, named := ["lyceum/syntax.rows", "internal/strconv.uint64pow10", "math/bits.deBruijn32tab", "math/bits.deBruijn64tab"], loops := true, apart := false, laid := [("math/bits.deBruijn32tab", laid_math_bits_deBruijn32tab), ("math/bits.deBruijn64tab", laid_math_bits_deBruijn64tab), ("internal/strconv.uint64pow10", laid_internal_strconv_uint64pow10), ("lyceum/syntax.rows", laid_lyceum_syntax_rows)] }
def SubstAlphasSaid : Prop := substAlphasRow.holds Tryz.pinned (OpenSpec.ofChange substAlphasSpec)

/-- ITS FALSE NEIGHBOUR: 'it returns false'. Refute it at one input. -/
def substAlphasWrong : ChangeSpec := { name := "substAlphas", fn := fun _ => fun
  | [d1, d2] => { results := [.lit (.bool false)], args := [d1, d2] }
  | _ => none }
def SubstAlphasWrongFalsely : Prop := substAlphasRow.holds Tryz.pinned (OpenSpec.ofChange substAlphasWrong)

/-- 'lyceumlaw03.SubstNothing': WHATEVER THE INPUT: true; the input reads as it did. -/
def substNothingSpec : ChangeSpec := { name := "substNothing", fn := fun _ => fun
  | [d1, d2, d3] => { results := [.lit (.bool true)], args := [d1, d2, d3] }
  | _ => none }
def substNothingRow : OpenClaim := { program := "ytknaeibenggbmaagreatdoor", sum := "75ef8ac0cdb416a5fbf4eaf2af6f2422dab2fb53572c58089e9954119aeb53ea", func := "lyceum/lyceumlaw03.SubstNothing", spec := "substNothing", unfollowed := true, recurses := true, named := ["lyceum/syntax.rows", "internal/strconv.uint64pow10", "math/bits.deBruijn32tab", "math/bits.deBruijn64tab"], loops := true, apart := false, laid := [("math/bits.deBruijn32tab", laid_math_bits_deBruijn32tab), ("math/bits.deBruijn64tab", laid_math_bits_deBruijn64tab), ("internal/strconv.uint64pow10", laid_internal_strconv_uint64pow10), ("lyceum/syntax.rows", laid_lyceum_syntax_rows)] }
def SubstNothingSaid : Prop := substNothingRow.holds Tryz.pinned (OpenSpec.ofChange substNothingSpec)

/-- ITS FALSE NEIGHBOUR: 'it returns false'. Refute it at one input. -/
def substNothingWrong : ChangeSpec := { name := "substNothing", fn := fun _ => fun
  | [d1, d2, d3] => { results := [.lit (.bool false)], args := [d1, d2, d3] }
  | _ => none }
def SubstNothingWrongFalsely : Prop := substNothingRow.holds Tryz.pinned (OpenSpec.ofChange substNothingWrong)

/-- 'lyceumlaw03.SubstStays': WHATEVER THE INPUT: true; the input reads as it did. -/
def substStaysSpec : ChangeSpec := { name := "substStays", fn := fun _ => fun
  | [d1, d2] => { results := [.lit (.bool true)], args := [d1, d2] }
  | _ => none }
def substStaysRow : OpenClaim := { program := "ytknaeibenggbmaagreatdoor", sum := "75ef8ac0cdb416a5fbf4eaf2af6f2422dab2fb53572c58089e9954119aeb53ea", func := "lyceum/lyceumlaw03.SubstStays", spec := "substStays", unfollowed := true, recurses := true, named := ["lyceum/syntax.rows", "internal/strconv.uint64pow10", "math/bits.deBruijn32tab", "math/bits.deBruijn64tab"], loops := true, apart := false, laid := [("math/bits.deBruijn32tab", laid_math_bits_deBruijn32tab), ("math/bits.deBruijn64tab", laid_math_bits_deBruijn64tab), ("internal/strconv.uint64pow10", laid_internal_strconv_uint64pow10), ("lyceum/syntax.rows", laid_lyceum_syntax_rows)] }
def SubstStaysSaid : Prop := substStaysRow.holds Tryz.pinned (OpenSpec.ofChange substStaysSpec)

/-- ITS FALSE NEIGHBOUR: 'it returns false'. Refute it at one input. -/
def substStaysWrong : ChangeSpec := { name := "substStays", fn := fun _ => fun
  | [d1, d2] => { results := [.lit (.bool false)], args := [d1, d2] }
  | _ => none }
def SubstStaysWrongFalsely : Prop := substStaysRow.holds Tryz.pinned (OpenSpec.ofChange substStaysWrong)

/-- 'lyceumlaw03.SubstNormals': WHATEVER THE INPUT: true; the input reads as it did. -/
def substNormalsSpec : ChangeSpec := { name := "substNormals", fn := fun _ => fun
  | [d1, d2] => { results := [.lit (.bool true)], args := [d1, d2] }
  | _ => none }
def substNormalsRow : OpenClaim := { program := "ytknaeibenggbmaagreatdoor", sum := "75ef8ac0cdb416a5fbf4eaf2af6f2422dab2fb53572c58089e9954119aeb53ea", func := "lyceum/lyceumlaw03.SubstNormals", spec := "substNormals", unfollowed := true, recurses := true, named := ["lyceum/syntax.rows", "internal/strconv.uint64pow10", "math/bits.deBruijn32tab", "math/bits.deBruijn64tab"], loops := true, apart := false, laid := [("math/bits.deBruijn32tab", laid_math_bits_deBruijn32tab), ("math/bits.deBruijn64tab", laid_math_bits_deBruijn64tab), ("internal/strconv.uint64pow10", laid_internal_strconv_uint64pow10), ("lyceum/syntax.rows", laid_lyceum_syntax_rows)] }
def SubstNormalsSaid : Prop := substNormalsRow.holds Tryz.pinned (OpenSpec.ofChange substNormalsSpec)

/-- ITS FALSE NEIGHBOUR: 'it returns false'. Refute it at one input. -/
def substNormalsWrong : ChangeSpec := { name := "substNormals", fn := fun _ => fun
  | [d1, d2] => { results := [.lit (.bool false)], args := [d1, d2] }
  | _ => none }
def SubstNormalsWrongFalsely : Prop := substNormalsRow.holds Tryz.pinned (OpenSpec.ofChange substNormalsWrong)

/-- 'lyceumlaw03.SubstRenames': WHATEVER THE INPUT: true; the input reads as it did. -/
def substRenamesSpec : ChangeSpec := { name := "substRenames", fn := fun _ => fun
  | [d1, d2] => { results := [.lit (.bool true)], args := [d1, d2] }
  | _ => none }
def substRenamesRow : OpenClaim := { program := "ytknaeibenggbmaagreatdoor", sum := "75ef8ac0cdb416a5fbf4eaf2af6f2422dab2fb53572c58089e9954119aeb53ea", func := "lyceum/lyceumlaw03.SubstRenames", spec := "substRenames", unfollowed := true, recurses := true, named := ["lyceum/syntax.rows", "internal/strconv.uint64pow10", "math/bits.deBruijn32tab", "math/bits.deBruijn64tab"], loops := true, apart := false, laid := [("math/bits.deBruijn32tab", laid_math_bits_deBruijn32tab), ("math/bits.deBruijn64tab", laid_math_bits_deBruijn64tab), ("internal/strconv.uint64pow10", laid_internal_strconv_uint64pow10), ("lyceum/syntax.rows", laid_lyceum_syntax_rows)] }
def SubstRenamesSaid : Prop := substRenamesRow.holds Tryz.pinned (OpenSpec.ofChange substRenamesSpec)

/-- ITS FALSE NEIGHBOUR: 'it returns false'. Refute it at one input. -/
def substRenamesWrong : ChangeSpec := { name := "substRenames", fn := fun _ => fun
  | [d1, d2] => { results := [.lit (.bool false)], args := [d1, d2] }
  | _ => none }
def SubstRenamesWrongFalsely : Prop := substRenamesRow.holds Tryz.pinned (OpenSpec.ofChange substRenamesWrong)

/-- 'lyceumlaw03.SubstWrong': WHATEVER THE INPUT: true; the input reads as it did. -/
def substWrongSpec : ChangeSpec := { name := "substWrong", fn := fun _ => fun
  | [d1, d2, d3] => { results := [.lit (.bool true)], args := [d1, d2, d3] }
  | _ => none }
def substWrongRow : OpenClaim := { program := "ytknaeibenggbmaagreatdoor", sum := "75ef8ac0cdb416a5fbf4eaf2af6f2422dab2fb53572c58089e9954119aeb53ea", func := "lyceum/lyceumlaw03.SubstWrong", spec := "substWrong", unfollowed := true, recurses := true, named := ["lyceum/syntax.rows", "internal/strconv.uint64pow10", "math/bits.deBruijn32tab", "math/bits.deBruijn64tab"], loops := true, apart := false, laid := [("math/bits.deBruijn32tab", laid_math_bits_deBruijn32tab), ("math/bits.deBruijn64tab", laid_math_bits_deBruijn64tab), ("internal/strconv.uint64pow10", laid_internal_strconv_uint64pow10), ("lyceum/syntax.rows", laid_lyceum_syntax_rows)] }
def SubstWrongSaid : Prop := substWrongRow.holds Tryz.pinned (OpenSpec.ofChange substWrongSpec)

/-- ITS FALSE NEIGHBOUR: 'it returns false'. Refute it at one input. -/
def substWrongWrong : ChangeSpec := { name := "substWrong", fn := fun _ => fun
  | [d1, d2, d3] => { results := [.lit (.bool false)], args := [d1, d2, d3] }
  | _ => none }
def SubstWrongWrongFalsely : Prop := substWrongRow.holds Tryz.pinned (OpenSpec.ofChange substWrongWrong)

/-- 'lyceumlaw03.SubstFrees': WHATEVER THE INPUT: true; the input reads as it did. -/
def substFreesSpec : ChangeSpec := { name := "substFrees", fn := fun _ => fun
  | [d1, d2, d3] => { results := [.lit (.bool true)], args := [d1, d2, d3] }
  | _ => none }
def substFreesRow : OpenClaim := { program := "ytknaeibenggbmaagreatdoor", sum := "75ef8ac0cdb416a5fbf4eaf2af6f2422dab2fb53572c58089e9954119aeb53ea", func := "lyceum/lyceumlaw03.SubstFrees", spec := "substFrees", unfollowed := true, recurses := true, named := ["lyceum/syntax.rows", "internal/strconv.uint64pow10", "math/bits.deBruijn32tab", "math/bits.deBruijn64tab"], loops := true, apart := false, laid := [("math/bits.deBruijn32tab", laid_math_bits_deBruijn32tab), ("math/bits.deBruijn64tab", laid_math_bits_deBruijn64tab), ("internal/strconv.uint64pow10", laid_internal_strconv_uint64pow10), ("lyceum/syntax.rows", laid_lyceum_syntax_rows)] }
def SubstFreesSaid : Prop := substFreesRow.holds Tryz.pinned (OpenSpec.ofChange substFreesSpec)

/-- ITS FALSE NEIGHBOUR: 'it returns false'. Refute it at one input. -/
def substFreesWrong : ChangeSpec := { name := "substFrees", fn := fun _ => fun
  | [d1, d2, d3] => { results := [.lit (.bool false)], args := [d1, d2, d3] }
  | _ => none }
def SubstFreesWrongFalsely : Prop := substFreesRow.holds Tryz.pinned (OpenSpec.ofChange substFreesWrong)

/-- 'lyceumlaw03.SubstTerms': WHATEVER THE INPUT: true; the input reads as it did. -/
def substTermsSpec : ChangeSpec := { name := "substTerms", fn := fun _ => fun
  | [d1, d2] => { results := [.lit (.bool true)], args := [d1, d2] }
  | _ => none }
def substTermsRow : OpenClaim := { program := "ytknaeibenggbmaagreatdoor", sum := "75ef8ac0cdb416a5fbf4eaf2af6f2422dab2fb53572c58089e9954119aeb53ea", func := "lyceum/lyceumlaw03.SubstTerms", spec := "substTerms", unfollowed := true, recurses := true, named := ["lyceum/syntax.rows", "internal/strconv.uint64pow10", "math/bits.deBruijn32tab", "math/bits.deBruijn64tab"], loops := true, apart := false, laid := [("math/bits.deBruijn32tab", laid_math_bits_deBruijn32tab), ("math/bits.deBruijn64tab", laid_math_bits_deBruijn64tab), ("internal/strconv.uint64pow10", laid_internal_strconv_uint64pow10), ("lyceum/syntax.rows", laid_lyceum_syntax_rows)] }
def SubstTermsSaid : Prop := substTermsRow.holds Tryz.pinned (OpenSpec.ofChange substTermsSpec)

/-- ITS FALSE NEIGHBOUR: 'it returns false'. Refute it at one input. -/
def substTermsWrong : ChangeSpec := { name := "substTerms", fn := fun _ => fun
  | [d1, d2] => { results := [.lit (.bool false)], args := [d1, d2] }
  | _ => none }
def SubstTermsWrongFalsely : Prop := substTermsRow.holds Tryz.pinned (OpenSpec.ofChange substTermsWrong)

/-- 'lyceumlaw03.SubstLemma': WHATEVER THE INPUT: true; the input reads as it did. -/
def substLemmaSpec : ChangeSpec := { name := "substLemma", fn := fun _ => fun
  | [d1, d2, d3, d4, d5] => { results := [.lit (.bool true)], args := [d1, d2, d3, d4, d5] }
  | _ => none }
def substLemmaRow : OpenClaim := { program := "ytknaeibenggbmaagreatdoor", sum := "75ef8ac0cdb416a5fbf4eaf2af6f2422dab2fb53572c58089e9954119aeb53ea", func := "lyceum/lyceumlaw03.SubstLemma", spec := "substLemma", unfollowed := true, recurses := true, named := ["lyceum/syntax.rows", "internal/strconv.uint64pow10", "math/bits.deBruijn32tab", "math/bits.deBruijn64tab"], loops := true, apart := false, laid := [("math/bits.deBruijn32tab", laid_math_bits_deBruijn32tab), ("math/bits.deBruijn64tab", laid_math_bits_deBruijn64tab), ("internal/strconv.uint64pow10", laid_internal_strconv_uint64pow10), ("lyceum/syntax.rows", laid_lyceum_syntax_rows)] }
def SubstLemmaSaid : Prop := substLemmaRow.holds Tryz.pinned (OpenSpec.ofChange substLemmaSpec)

/-- ITS FALSE NEIGHBOUR: 'it returns false'. Refute it at one input. -/
def substLemmaWrong : ChangeSpec := { name := "substLemma", fn := fun _ => fun
  | [d1, d2, d3, d4, d5] => { results := [.lit (.bool false)], args := [d1, d2, d3, d4, d5] }
  | _ => none }
def SubstLemmaWrongFalsely : Prop := substLemmaRow.holds Tryz.pinned (OpenSpec.ofChange substLemmaWrong)

/-- 'lyceumlaw03.SubstAsks': WHATEVER THE INPUT: true; the input reads as it did. -/
def substAsksSpec : ChangeSpec := { name := "substAsks", fn := fun _ => fun
  | [d1, d2] => { results := [.lit (.bool true)], args := [d1, d2] }
  | _ => none }
def substAsksRow : OpenClaim := { program := "ytknaeibenggbmaagreatdoor", sum := "75ef8ac0cdb416a5fbf4eaf2af6f2422dab2fb53572c58089e9954119aeb53ea", func := "lyceum/lyceumlaw03.SubstAsks", spec := "substAsks", unfollowed := true, recurses := true, named := ["internal/strconv.uint64pow10", "math/bits.deBruijn32tab", "math/bits.deBruijn64tab", "lyceum/syntax.rows"], loops := true, apart := false, laid := [("math/bits.deBruijn32tab", laid_math_bits_deBruijn32tab), ("math/bits.deBruijn64tab", laid_math_bits_deBruijn64tab), ("internal/strconv.uint64pow10", laid_internal_strconv_uint64pow10), ("lyceum/syntax.rows", laid_lyceum_syntax_rows)] }
def SubstAsksSaid : Prop := substAsksRow.holds Tryz.pinned (OpenSpec.ofChange substAsksSpec)

/-- ITS FALSE NEIGHBOUR: 'it returns false'. Refute it at one input. -/
def substAsksWrong : ChangeSpec := { name := "substAsks", fn := fun _ => fun
  | [d1, d2] => { results := [.lit (.bool false)], args := [d1, d2] }
  | _ => none }
def SubstAsksWrongFalsely : Prop := substAsksRow.holds Tryz.pinned (OpenSpec.ofChange substAsksWrong)

/-- 'lyceumlaw03.SubstSmall': WHATEVER THE INPUT: true; the input reads as it did. -/
def substSmallSpec : ChangeSpec := { name := "substSmall", fn := fun _ => fun
  | [] => { results := [.lit (.bool true)], args := [] }
  | _ => none }
def substSmallRow : OpenClaim := { program := "ytknaeibenggbmaagreatdoor", sum := "75ef8ac0cdb416a5fbf4eaf2af6f2422dab2fb53572c58089e9954119aeb53ea", func := "lyceum/lyceumlaw03.SubstSmall", spec := "substSmall", unfollowed := true, recurses := true, named := ["lyceum/syntax.rows", "internal/strconv.uint64pow10", "math/bits.deBruijn32tab", "math/bits.deBruijn64tab"], apart := false, laid := [("math/bits.deBruijn32tab", laid_math_bits_deBruijn32tab), ("math/bits.deBruijn64tab", laid_math_bits_deBruijn64tab), ("internal/strconv.uint64pow10", laid_internal_strconv_uint64pow10), ("lyceum/syntax.rows", laid_lyceum_syntax_rows)] }
def SubstSmallSaid : Prop := substSmallRow.holds Tryz.pinned (OpenSpec.ofChange substSmallSpec)

/-- ITS FALSE NEIGHBOUR: 'it returns false'. Refute it at one input. -/
def substSmallWrong : ChangeSpec := { name := "substSmall", fn := fun _ => fun
  | [] => { results := [.lit (.bool false)], args := [] }
  | _ => none }
def SubstSmallWrongFalsely : Prop := substSmallRow.holds Tryz.pinned (OpenSpec.ofChange substSmallWrong)

/- THE SECOND FORM. 'bulk': how many values and letters a reading holds, each counted each time it is reached (what is shared counts as often as it is met; a slice's spare places count too). A statement '..UptoSaid' is the law's where the arguments, and the package variables that the reading takes, are together of bulk at most 1048576: NARROWER than '..Said'. Prove '..Said' where nothing that the law and all that it calls make is longer than what came in: it says more and counts as full. Else prove '..UptoSaid'. A law counts once. -/
mutual
def uptoBulk {H : Type} : DataW H → Nat
  | .lit (.string bytes) => bytes.length + 1
  | .lit _ => 1
  | .nil => 1
  | .ptr d => uptoBulk d + 1
  | .slice elems spare => uptoBulkAll elems + uptoBulkAll spare + 1
  | .agg parts => uptoBulkAll parts + 1
  | .iface _ d => uptoBulk d + 1
  | .map entries => uptoBulkEntries entries + 1
  | .held _ => 1
def uptoBulkAll {H : Type} : List (DataW H) → Nat
  | [] => 0
  | d :: r => uptoBulk d + uptoBulkAll r
def uptoBulkEntries {H : Type} : List (Lit × DataW H) → Nat
  | [] => 0
  | x :: r => uptoBulkEntry x + uptoBulkEntries r
def uptoBulkEntry {H : Type} : Lit × DataW H → Nat
  | (.string bytes, d) => bytes.length + uptoBulk d + 1
  | (_, d) => uptoBulk d + 1
 end
def uptoSmall : (H : Type) → List (DataW H) → Bool := fun _ ds => decide (uptoBulkAll ds ≤ 1048576)
def OpenSpec.upto (s : _root_.Go.ChangeSpec) : _root_.Go.OpenSpec := { _root_.Go.OpenSpec.ofChange s with cond := some uptoSmall }

/-- 'lyceumlaw03.SubstPuts', WHERE WHAT IT READS IS OF BULK AT MOST 1048576: true; the input reads as it did. -/
def substPutsUptoRow : OpenClaim := { program := "ytknaeibenggbmaagreatdoor", sum := "75ef8ac0cdb416a5fbf4eaf2af6f2422dab2fb53572c58089e9954119aeb53ea", func := "lyceum/lyceumlaw03.SubstPuts", spec := "substPuts", unfollowed := true, recurses := true, named := ["lyceum/syntax.rows", "internal/strconv.uint64pow10", "math/bits.deBruijn32tab", "math/bits.deBruijn64tab"], loops := true, apart := false, laid := [("math/bits.deBruijn32tab", laid_math_bits_deBruijn32tab), ("math/bits.deBruijn64tab", laid_math_bits_deBruijn64tab), ("internal/strconv.uint64pow10", laid_internal_strconv_uint64pow10), ("lyceum/syntax.rows", laid_lyceum_syntax_rows)], narrowed := true }
def SubstPutsUptoSaid : Prop := substPutsUptoRow.holds Tryz.pinned (OpenSpec.upto substPutsSpec)

/-- 'lyceumlaw03.SubstAlphas', WHERE WHAT IT READS IS OF BULK AT MOST 1048576: true; the input reads as it did. -/
def substAlphasUptoRow : OpenClaim := { program := "ytknaeibenggbmaagreatdoor", sum := "75ef8ac0cdb416a5fbf4eaf2af6f2422dab2fb53572c58089e9954119aeb53ea", func := "lyceum/lyceumlaw03.SubstAlphas", spec := "substAlphas", unfollowed := true, recurses := true, named := ["lyceum/syntax.rows", "internal/strconv.uint64pow10", "math/bits.deBruijn32tab", "math/bits.deBruijn64tab"], loops := true, apart := false, laid := [("math/bits.deBruijn32tab", laid_math_bits_deBruijn32tab), ("math/bits.deBruijn64tab", laid_math_bits_deBruijn64tab), ("internal/strconv.uint64pow10", laid_internal_strconv_uint64pow10), ("lyceum/syntax.rows", laid_lyceum_syntax_rows)], narrowed := true }
def SubstAlphasUptoSaid : Prop := substAlphasUptoRow.holds Tryz.pinned (OpenSpec.upto substAlphasSpec)

/-- 'lyceumlaw03.SubstNothing', WHERE WHAT IT READS IS OF BULK AT MOST 1048576: true; the input reads as it did. -/
def substNothingUptoRow : OpenClaim := { program := "ytknaeibenggbmaagreatdoor", sum := "75ef8ac0cdb416a5fbf4eaf2af6f2422dab2fb53572c58089e9954119aeb53ea", func := "lyceum/lyceumlaw03.SubstNothing", spec := "substNothing", unfollowed := true, recurses := true, named := ["lyceum/syntax.rows", "internal/strconv.uint64pow10", "math/bits.deBruijn32tab", "math/bits.deBruijn64tab"], loops := true, apart := false, laid := [("math/bits.deBruijn32tab", laid_math_bits_deBruijn32tab), ("math/bits.deBruijn64tab", laid_math_bits_deBruijn64tab), ("internal/strconv.uint64pow10", laid_internal_strconv_uint64pow10), ("lyceum/syntax.rows", laid_lyceum_syntax_rows)], narrowed := true }
def SubstNothingUptoSaid : Prop := substNothingUptoRow.holds Tryz.pinned (OpenSpec.upto substNothingSpec)

/-- 'lyceumlaw03.SubstStays', WHERE WHAT IT READS IS OF BULK AT MOST 1048576: true; the input reads as it did. -/
def substStaysUptoRow : OpenClaim := { program := "ytknaeibenggbmaagreatdoor", sum := "75ef8ac0cdb416a5fbf4eaf2af6f2422dab2fb53572c58089e9954119aeb53ea", func := "lyceum/lyceumlaw03.SubstStays", spec := "substStays", unfollowed := true, recurses := true, named := ["lyceum/syntax.rows", "internal/strconv.uint64pow10", "math/bits.deBruijn32tab", "math/bits.deBruijn64tab"], loops := true, apart := false, laid := [("math/bits.deBruijn32tab", laid_math_bits_deBruijn32tab), ("math/bits.deBruijn64tab", laid_math_bits_deBruijn64tab), ("internal/strconv.uint64pow10", laid_internal_strconv_uint64pow10), ("lyceum/syntax.rows", laid_lyceum_syntax_rows)], narrowed := true }
def SubstStaysUptoSaid : Prop := substStaysUptoRow.holds Tryz.pinned (OpenSpec.upto substStaysSpec)

/-- 'lyceumlaw03.SubstNormals', WHERE WHAT IT READS IS OF BULK AT MOST 1048576: true; the input reads as it did. -/
def substNormalsUptoRow : OpenClaim := { program := "ytknaeibenggbmaagreatdoor", sum := "75ef8ac0cdb416a5fbf4eaf2af6f2422dab2fb53572c58089e9954119aeb53ea", func := "lyceum/lyceumlaw03.SubstNormals", spec := "substNormals", unfollowed := true, recurses := true, named := ["lyceum/syntax.rows", "internal/strconv.uint64pow10", "math/bits.deBruijn32tab", "math/bits.deBruijn64tab"], loops := true, apart := false, laid := [("math/bits.deBruijn32tab", laid_math_bits_deBruijn32tab), ("math/bits.deBruijn64tab", laid_math_bits_deBruijn64tab), ("internal/strconv.uint64pow10", laid_internal_strconv_uint64pow10), ("lyceum/syntax.rows", laid_lyceum_syntax_rows)], narrowed := true }
def SubstNormalsUptoSaid : Prop := substNormalsUptoRow.holds Tryz.pinned (OpenSpec.upto substNormalsSpec)

/-- 'lyceumlaw03.SubstRenames', WHERE WHAT IT READS IS OF BULK AT MOST 1048576: true; the input reads as it did. -/
def substRenamesUptoRow : OpenClaim := { program := "ytknaeibenggbmaagreatdoor", sum := "75ef8ac0cdb416a5fbf4eaf2af6f2422dab2fb53572c58089e9954119aeb53ea", func := "lyceum/lyceumlaw03.SubstRenames", spec := "substRenames", unfollowed := true, recurses := true, named := ["lyceum/syntax.rows", "internal/strconv.uint64pow10", "math/bits.deBruijn32tab", "math/bits.deBruijn64tab"], loops := true, apart := false, laid := [("math/bits.deBruijn32tab", laid_math_bits_deBruijn32tab), ("math/bits.deBruijn64tab", laid_math_bits_deBruijn64tab), ("internal/strconv.uint64pow10", laid_internal_strconv_uint64pow10), ("lyceum/syntax.rows", laid_lyceum_syntax_rows)], narrowed := true }
def SubstRenamesUptoSaid : Prop := substRenamesUptoRow.holds Tryz.pinned (OpenSpec.upto substRenamesSpec)

/-- 'lyceumlaw03.SubstWrong', WHERE WHAT IT READS IS OF BULK AT MOST 1048576: true; the input reads as it did. -/
def substWrongUptoRow : OpenClaim := { program := "ytknaeibenggbmaagreatdoor", sum := "75ef8ac0cdb416a5fbf4eaf2af6f2422dab2fb53572c58089e9954119aeb53ea", func := "lyceum/lyceumlaw03.SubstWrong", spec := "substWrong", unfollowed := true, recurses := true, named := ["lyceum/syntax.rows", "internal/strconv.uint64pow10", "math/bits.deBruijn32tab", "math/bits.deBruijn64tab"], loops := true, apart := false, laid := [("math/bits.deBruijn32tab", laid_math_bits_deBruijn32tab), ("math/bits.deBruijn64tab", laid_math_bits_deBruijn64tab), ("internal/strconv.uint64pow10", laid_internal_strconv_uint64pow10), ("lyceum/syntax.rows", laid_lyceum_syntax_rows)], narrowed := true }
def SubstWrongUptoSaid : Prop := substWrongUptoRow.holds Tryz.pinned (OpenSpec.upto substWrongSpec)

/-- 'lyceumlaw03.SubstFrees', WHERE WHAT IT READS IS OF BULK AT MOST 1048576: true; the input reads as it did. -/
def substFreesUptoRow : OpenClaim := { program := "ytknaeibenggbmaagreatdoor", sum := "75ef8ac0cdb416a5fbf4eaf2af6f2422dab2fb53572c58089e9954119aeb53ea", func := "lyceum/lyceumlaw03.SubstFrees", spec := "substFrees", unfollowed := true, recurses := true, named := ["lyceum/syntax.rows", "internal/strconv.uint64pow10", "math/bits.deBruijn32tab", "math/bits.deBruijn64tab"], loops := true, apart := false, laid := [("math/bits.deBruijn32tab", laid_math_bits_deBruijn32tab), ("math/bits.deBruijn64tab", laid_math_bits_deBruijn64tab), ("internal/strconv.uint64pow10", laid_internal_strconv_uint64pow10), ("lyceum/syntax.rows", laid_lyceum_syntax_rows)], narrowed := true }
def SubstFreesUptoSaid : Prop := substFreesUptoRow.holds Tryz.pinned (OpenSpec.upto substFreesSpec)

/-- 'lyceumlaw03.SubstTerms', WHERE WHAT IT READS IS OF BULK AT MOST 1048576: true; the input reads as it did. -/
def substTermsUptoRow : OpenClaim := { program := "ytknaeibenggbmaagreatdoor", sum := "75ef8ac0cdb416a5fbf4eaf2af6f2422dab2fb53572c58089e9954119aeb53ea", func := "lyceum/lyceumlaw03.SubstTerms", spec := "substTerms", unfollowed := true, recurses := true, named := ["lyceum/syntax.rows", "internal/strconv.uint64pow10", "math/bits.deBruijn32tab", "math/bits.deBruijn64tab"], loops := true, apart := false, laid := [("math/bits.deBruijn32tab", laid_math_bits_deBruijn32tab), ("math/bits.deBruijn64tab", laid_math_bits_deBruijn64tab), ("internal/strconv.uint64pow10", laid_internal_strconv_uint64pow10), ("lyceum/syntax.rows", laid_lyceum_syntax_rows)], narrowed := true }
def SubstTermsUptoSaid : Prop := substTermsUptoRow.holds Tryz.pinned (OpenSpec.upto substTermsSpec)

/-- 'lyceumlaw03.SubstLemma', WHERE WHAT IT READS IS OF BULK AT MOST 1048576: true; the input reads as it did. -/
def substLemmaUptoRow : OpenClaim := { program := "ytknaeibenggbmaagreatdoor", sum := "75ef8ac0cdb416a5fbf4eaf2af6f2422dab2fb53572c58089e9954119aeb53ea", func := "lyceum/lyceumlaw03.SubstLemma", spec := "substLemma", unfollowed := true, recurses := true, named := ["lyceum/syntax.rows", "internal/strconv.uint64pow10", "math/bits.deBruijn32tab", "math/bits.deBruijn64tab"], loops := true, apart := false, laid := [("math/bits.deBruijn32tab", laid_math_bits_deBruijn32tab), ("math/bits.deBruijn64tab", laid_math_bits_deBruijn64tab), ("internal/strconv.uint64pow10", laid_internal_strconv_uint64pow10), ("lyceum/syntax.rows", laid_lyceum_syntax_rows)], narrowed := true }
def SubstLemmaUptoSaid : Prop := substLemmaUptoRow.holds Tryz.pinned (OpenSpec.upto substLemmaSpec)

/-- 'lyceumlaw03.SubstAsks', WHERE WHAT IT READS IS OF BULK AT MOST 1048576: true; the input reads as it did. -/
def substAsksUptoRow : OpenClaim := { program := "ytknaeibenggbmaagreatdoor", sum := "75ef8ac0cdb416a5fbf4eaf2af6f2422dab2fb53572c58089e9954119aeb53ea", func := "lyceum/lyceumlaw03.SubstAsks", spec := "substAsks", unfollowed := true, recurses := true, named := ["internal/strconv.uint64pow10", "math/bits.deBruijn32tab", "math/bits.deBruijn64tab", "lyceum/syntax.rows"], loops := true, apart := false, laid := [("math/bits.deBruijn32tab", laid_math_bits_deBruijn32tab), ("math/bits.deBruijn64tab", laid_math_bits_deBruijn64tab), ("internal/strconv.uint64pow10", laid_internal_strconv_uint64pow10), ("lyceum/syntax.rows", laid_lyceum_syntax_rows)], narrowed := true }
def SubstAsksUptoSaid : Prop := substAsksUptoRow.holds Tryz.pinned (OpenSpec.upto substAsksSpec)

/-- 'lyceumlaw03.SubstSmall', WHERE WHAT IT READS IS OF BULK AT MOST 1048576: true; the input reads as it did. -/
def substSmallUptoRow : OpenClaim := { program := "ytknaeibenggbmaagreatdoor", sum := "75ef8ac0cdb416a5fbf4eaf2af6f2422dab2fb53572c58089e9954119aeb53ea", func := "lyceum/lyceumlaw03.SubstSmall", spec := "substSmall", unfollowed := true, recurses := true, named := ["lyceum/syntax.rows", "internal/strconv.uint64pow10", "math/bits.deBruijn32tab", "math/bits.deBruijn64tab"], apart := false, laid := [("math/bits.deBruijn32tab", laid_math_bits_deBruijn32tab), ("math/bits.deBruijn64tab", laid_math_bits_deBruijn64tab), ("internal/strconv.uint64pow10", laid_internal_strconv_uint64pow10), ("lyceum/syntax.rows", laid_lyceum_syntax_rows)], narrowed := true }
def SubstSmallUptoSaid : Prop := substSmallUptoRow.holds Tryz.pinned (OpenSpec.upto substSmallSpec)

end Rows
end Go.Proofs.YtknaeibenggbmaaGreatDoor
