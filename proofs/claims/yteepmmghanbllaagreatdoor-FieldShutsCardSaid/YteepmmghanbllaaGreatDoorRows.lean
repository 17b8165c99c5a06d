/-
  NARROWER THAN 'FOR EVERY INPUT', by the rows' own cells (each row's printed sentence says how): FieldReaches: laid · FieldGates: laid · FieldCrosses: laid · FieldPens: laid · FieldCloses: laid · FieldShuts: laid · FieldProves: laid · FieldStronger: laid · FieldWalks: laid · FieldBest: laid.
  DERIVED. THE GIVEN ROWS OF THIS SEAT. 10 by the template 'for every input the law returns true; each argument reads behind the call as it read before'; 0 by the template 'total and deterministic' (their statements: YteepmmghanbllaaGreatDoorTotals.lean).
  GIVEN WITH THE SEED: the statements are not yours to turn. If you find one false, say at which input.
  Laid BY PROGRAM, IN A SANDBOX (cutbox-rows.mjs): the forced cells as the released guide's own fill.sh prints them over the translation 0f0d4a126244541f… (all of the seat's roots in one cut). By AI agents, Wed Nov 11 2026. No macro, syntax, notation, axiom, sorry.
-/
import Derived.Test.YteepmmghanbllaaGreatDoorChecked
import GoSem.PinnedTables
import GoSem.Claim
import GoSem.ClaimJoined
import GoSem.ClaimMapViews
import Derived.JoinedTies
import Derived.KernelRfl
namespace Go.Proofs.YteepmmghanbllaaGreatDoor
/- THE CELL 'sum', in the pinned program and in every row, IS THE sha256 OF THE DUMP (.gsa) THAT YteepmmghanbllaaGreatDoorProg.lean LOADS. Nothing in Lean hashes anything: it is a label: what it is worth is what the hold of that sum in a sandbox is worth. -/
noncomputable def Tryz.pinned : Pinned := { name := "yteepmmghanbllaagreatdoor", sum := "0f0d4a126244541fc9f5f0d0d3c5c7b45e64887c1b33ddc5a0559a5495f0da16", checked := Tryz.checked }
namespace Rows
def none {H : Type} : Left H := { results := [], args := [] }

/- WHAT THE LISTED PACKAGE-LEVEL VARIABLES READ AS WHEN THE CALL BEGINS. Each datum BY PROGRAM (the guide's laid-datum.mjs) off the statement by which the dump's own 'gosem.cut.vars' lays the variable. In a bare row this is a premise. The card (YteepmmghanbllaaGreatDoorCards.lean) ties it to the program's text. -/
def laid_math_bits_deBruijn32tab {H : Type} : DataW H := .agg [.lit (.int .u8 0), .lit (.int .u8 1), .lit (.int .u8 28), .lit (.int .u8 2), .lit (.int .u8 29), .lit (.int .u8 14), .lit (.int .u8 24), .lit (.int .u8 3), .lit (.int .u8 30), .lit (.int .u8 22), .lit (.int .u8 20), .lit (.int .u8 15), .lit (.int .u8 25), .lit (.int .u8 17), .lit (.int .u8 4), .lit (.int .u8 8), .lit (.int .u8 31), .lit (.int .u8 27), .lit (.int .u8 13), .lit (.int .u8 23), .lit (.int .u8 21), .lit (.int .u8 19), .lit (.int .u8 16), .lit (.int .u8 7), .lit (.int .u8 26), .lit (.int .u8 12), .lit (.int .u8 18), .lit (.int .u8 6), .lit (.int .u8 11), .lit (.int .u8 5), .lit (.int .u8 10), .lit (.int .u8 9)]
def laid_math_bits_deBruijn64tab {H : Type} : DataW H := .agg [.lit (.int .u8 0), .lit (.int .u8 1), .lit (.int .u8 56), .lit (.int .u8 2), .lit (.int .u8 57), .lit (.int .u8 49), .lit (.int .u8 28), .lit (.int .u8 3), .lit (.int .u8 61), .lit (.int .u8 58), .lit (.int .u8 42), .lit (.int .u8 50), .lit (.int .u8 38), .lit (.int .u8 29), .lit (.int .u8 17), .lit (.int .u8 4), .lit (.int .u8 62), .lit (.int .u8 47), .lit (.int .u8 59), .lit (.int .u8 36), .lit (.int .u8 45), .lit (.int .u8 43), .lit (.int .u8 51), .lit (.int .u8 22), .lit (.int .u8 53), .lit (.int .u8 39), .lit (.int .u8 33), .lit (.int .u8 30), .lit (.int .u8 24), .lit (.int .u8 18), .lit (.int .u8 12), .lit (.int .u8 5), .lit (.int .u8 63), .lit (.int .u8 55), .lit (.int .u8 48), .lit (.int .u8 27), .lit (.int .u8 60), .lit (.int .u8 41), .lit (.int .u8 37), .lit (.int .u8 16), .lit (.int .u8 46), .lit (.int .u8 35), .lit (.int .u8 44), .lit (.int .u8 21), .lit (.int .u8 52), .lit (.int .u8 32), .lit (.int .u8 23), .lit (.int .u8 11), .lit (.int .u8 54), .lit (.int .u8 26), .lit (.int .u8 40), .lit (.int .u8 15), .lit (.int .u8 34), .lit (.int .u8 20), .lit (.int .u8 31), .lit (.int .u8 10), .lit (.int .u8 25), .lit (.int .u8 14), .lit (.int .u8 19), .lit (.int .u8 9), .lit (.int .u8 13), .lit (.int .u8 8), .lit (.int .u8 7), .lit (.int .u8 6)]
def laid_internal_strconv_uint64pow10 {H : Type} : DataW H := .agg [.lit (.int .u64 1), .lit (.int .u64 10), .lit (.int .u64 100), .lit (.int .u64 1000), .lit (.int .u64 10000), .lit (.int .u64 100000), .lit (.int .u64 1000000), .lit (.int .u64 10000000), .lit (.int .u64 100000000), .lit (.int .u64 1000000000), .lit (.int .u64 10000000000), .lit (.int .u64 100000000000), .lit (.int .u64 1000000000000), .lit (.int .u64 10000000000000), .lit (.int .u64 100000000000000), .lit (.int .u64 1000000000000000), .lit (.int .u64 10000000000000000), .lit (.int .u64 100000000000000000), .lit (.int .u64 1000000000000000000), .lit (.int .u64 10000000000000000000)]
def laid_unicode_utf8_acceptRanges {H : Type} : DataW H := .agg [.agg [.lit (.int .u8 128), .lit (.int .u8 191)], .agg [.lit (.int .u8 160), .lit (.int .u8 191)], .agg [.lit (.int .u8 128), .lit (.int .u8 159)], .agg [.lit (.int .u8 144), .lit (.int .u8 191)], .agg [.lit (.int .u8 128), .lit (.int .u8 143)], .agg [.lit (.int .u8 0), .lit (.int .u8 0)], .agg [.lit (.int .u8 0), .lit (.int .u8 0)], .agg [.lit (.int .u8 0), .lit (.int .u8 0)], .agg [.lit (.int .u8 0), .lit (.int .u8 0)], .agg [.lit (.int .u8 0), .lit (.int .u8 0)], .agg [.lit (.int .u8 0), .lit (.int .u8 0)], .agg [.lit (.int .u8 0), .lit (.int .u8 0)], .agg [.lit (.int .u8 0), .lit (.int .u8 0)], .agg [.lit (.int .u8 0), .lit (.int .u8 0)], .agg [.lit (.int .u8 0), .lit (.int .u8 0)], .agg [.lit (.int .u8 0), .lit (.int .u8 0)]]
def laid_strconv_ErrRange {H : Type} : DataW H := .iface "*errors.errorString" (.ptr (.agg [.lit (.string [118, 97, 108, 117, 101, 32, 111, 117, 116, 32, 111, 102, 32, 114, 97, 110, 103, 101])]))
def laid_strconv_ErrSyntax {H : Type} : DataW H := .iface "*errors.errorString" (.ptr (.agg [.lit (.string [105, 110, 118, 97, 108, 105, 100, 32, 115, 121, 110, 116, 97, 120])]))
def laid_copestone_plan_copes {H : Type} : DataW H := .agg [.lit (.string [110, 111, 110, 101]), .lit (.string [102, 108, 97, 116]), .lit (.string [117, 112, 114, 105, 103, 104, 116]), .lit (.string [98, 117, 99, 107])]
def laid_copestone_plan_openings {H : Type} : DataW H := .agg [.lit (.string []), .lit (.string [115, 109, 111, 111, 116]), .lit (.string [108, 117, 110, 107, 121]), .lit (.string [115, 116, 105, 108, 101]), .lit (.string [103, 97, 116, 101])]
/-- One of Go's own tables, pinned by name: the form's constant. -/
def laid_unicode_utf8_first : DataW Unit := Go.Pinned.utf8First

/-- 'copestonelaw09.FieldReaches': WHATEVER THE INPUT: true; the input reads as it did. -/
def fieldReachesSpec : ChangeSpec := { name := "fieldReaches", fn := fun _ => fun
  | [d1, d2] => { results := [.lit (.bool true)], args := [d1, d2] }
  | _ => none }
def fieldReachesRow : OpenClaim := { program := "yteepmmghanbllaagreatdoor", sum := "0f0d4a126244541fc9f5f0d0d3c5c7b45e64887c1b33ddc5a0559a5495f0da16", func := "copestone/copestonelaw09.FieldReaches", spec := "fieldReaches", inPlace := ["internal/bytealg.IndexByteString", "internal/bytealg.IndexString", "internal/bytealg.CountString"], unfollowed := true, recurses := true, named := ["internal/bytealg.MaxLen", "unicode/utf8.first", "unicode/utf8.acceptRanges", "copestone/plan.copes", "strconv.ErrSyntax", "strconv.ErrRange", "internal/strconv.uint64pow10", "math/bits.deBruijn32tab", "math/bits.deBruijn64tab", "copestone/plan.openings"], apart := false, laid := [("math/bits.deBruijn32tab", laid_math_bits_deBruijn32tab), ("math/bits.deBruijn64tab", laid_math_bits_deBruijn64tab), ("internal/strconv.uint64pow10", laid_internal_strconv_uint64pow10), ("unicode/utf8.acceptRanges", laid_unicode_utf8_acceptRanges), ("strconv.ErrRange", laid_strconv_ErrRange), ("strconv.ErrSyntax", laid_strconv_ErrSyntax), ("copestone/plan.copes", laid_copestone_plan_copes), ("copestone/plan.openings", laid_copestone_plan_openings), ("unicode/utf8.first", laid_unicode_utf8_first)] }
def FieldReachesSaid : Prop := fieldReachesRow.holds Tryz.pinned (OpenSpec.ofChange fieldReachesSpec)

/-- ITS FALSE NEIGHBOUR: 'it returns false'. Refute it at one input. -/
def fieldReachesWrong : ChangeSpec := { name := "fieldReaches", fn := fun _ => fun
  | [d1, d2] => { results := [.lit (.bool false)], args := [d1, d2] }
  | _ => none }
def FieldReachesWrongFalsely : Prop := fieldReachesRow.holds Tryz.pinned (OpenSpec.ofChange fieldReachesWrong)

/-- 'copestonelaw09.FieldGates': WHATEVER THE INPUT: true; the input reads as it did. -/
def fieldGatesSpec : ChangeSpec := { name := "fieldGates", fn := fun _ => fun
  | [d1, d2, d3] => { results := [.lit (.bool true)], args := [d1, d2, d3] }
  | _ => none }
def fieldGatesRow : OpenClaim := { program := "yteepmmghanbllaagreatdoor", sum := "0f0d4a126244541fc9f5f0d0d3c5c7b45e64887c1b33ddc5a0559a5495f0da16", func := "copestone/copestonelaw09.FieldGates", spec := "fieldGates", inPlace := ["internal/bytealg.IndexByteString", "internal/bytealg.IndexString", "internal/bytealg.CountString"], unfollowed := true, recurses := true, named := ["internal/bytealg.MaxLen", "unicode/utf8.first", "unicode/utf8.acceptRanges", "copestone/plan.copes", "strconv.ErrSyntax", "strconv.ErrRange", "internal/strconv.uint64pow10", "math/bits.deBruijn32tab", "math/bits.deBruijn64tab", "copestone/plan.openings"], apart := false, laid := [("math/bits.deBruijn32tab", laid_math_bits_deBruijn32tab), ("math/bits.deBruijn64tab", laid_math_bits_deBruijn64tab), ("internal/strconv.uint64pow10", laid_internal_strconv_uint64pow10), ("unicode/utf8.acceptRanges", laid_unicode_utf8_acceptRanges), ("strconv.ErrRange", laid_strconv_ErrRange), ("strconv.ErrSyntax", laid_strconv_ErrSyntax), ("copestone/plan.copes", laid_copestone_plan_copes), ("copestone/plan.openings", laid_copestone_plan_openings), ("unicode/utf8.first", laid_unicode_utf8_first)] }
def FieldGatesSaid : Prop := fieldGatesRow.holds Tryz.pinned (OpenSpec.ofChange fieldGatesSpec)

/-- ITS FALSE NEIGHBOUR: 'it returns false'. Refute it at one input. -/
def fieldGatesWrong : ChangeSpec := { name := "fieldGates", fn := fun _ => fun
  | [d1, d2, d3] => { results := [.lit (.bool false)], args := [d1, d2, d3] }
  | _ => none }
def FieldGatesWrongFalsely : Prop := fieldGatesRow.holds Tryz.pinned (OpenSpec.ofChange fieldGatesWrong)

/-- 'copestonelaw09.FieldCrosses': WHATEVER THE INPUT: true; the input reads as it did. -/
def fieldCrossesSpec : ChangeSpec := { name := "fieldCrosses", fn := fun _ => fun
  | [d1, d2, d3] => { results := [.lit (.bool true)], args := [d1, d2, d3] }
  | _ => none }
def fieldCrossesRow : OpenClaim := { program := "yteepmmghanbllaagreatdoor", sum := "0f0d4a126244541fc9f5f0d0d3c5c7b45e64887c1b33ddc5a0559a5495f0da16", func := "copestone/copestonelaw09.FieldCrosses", spec := "fieldCrosses", inPlace := ["internal/bytealg.IndexByteString", "internal/bytealg.IndexString", "internal/bytealg.CountString"], unfollowed := true, recurses := true, named := ["internal/bytealg.MaxLen", "unicode/utf8.first", "unicode/utf8.acceptRanges", "copestone/plan.copes", "strconv.ErrSyntax", "strconv.ErrRange", "internal/strconv.uint64pow10", "math/bits.deBruijn32tab", "math/bits.deBruijn64tab", "copestone/plan.openings"], apart := false, laid := [("math/bits.deBruijn32tab", laid_math_bits_deBruijn32tab), ("math/bits.deBruijn64tab", laid_math_bits_deBruijn64tab), ("internal/strconv.uint64pow10", laid_internal_strconv_uint64pow10), ("unicode/utf8.acceptRanges", laid_unicode_utf8_acceptRanges), ("strconv.ErrRange", laid_strconv_ErrRange), ("strconv.ErrSyntax", laid_strconv_ErrSyntax), ("copestone/plan.copes", laid_copestone_plan_copes), ("copestone/plan.openings", laid_copestone_plan_openings), ("unicode/utf8.first", laid_unicode_utf8_first)] }
def FieldCrossesSaid : Prop := fieldCrossesRow.holds Tryz.pinned (OpenSpec.ofChange fieldCrossesSpec)

/-- ITS FALSE NEIGHBOUR: 'it returns false'. Refute it at one input. -/
def fieldCrossesWrong : ChangeSpec := { name := "fieldCrosses", fn := fun _ => fun
  | [d1, d2, d3] => { results := [.lit (.bool false)], args := [d1, d2, d3] }
  | _ => none }
def FieldCrossesWrongFalsely : Prop := fieldCrossesRow.holds Tryz.pinned (OpenSpec.ofChange fieldCrossesWrong)

/-- 'copestonelaw09.FieldPens': WHATEVER THE INPUT: true; the input reads as it did. -/
def fieldPensSpec : ChangeSpec := { name := "fieldPens", fn := fun _ => fun
  | [d1, d2, d3] => { results := [.lit (.bool true)], args := [d1, d2, d3] }
  | _ => none }
def fieldPensRow : OpenClaim := { program := "yteepmmghanbllaagreatdoor", sum := "0f0d4a126244541fc9f5f0d0d3c5c7b45e64887c1b33ddc5a0559a5495f0da16", func := "copestone/copestonelaw09.FieldPens", spec := "fieldPens", inPlace := ["internal/bytealg.IndexByteString", "internal/bytealg.IndexString", "internal/bytealg.CountString"], unfollowed := true, recurses := true, named := ["internal/bytealg.MaxLen", "unicode/utf8.first", "unicode/utf8.acceptRanges", "copestone/plan.copes", "strconv.ErrSyntax", "strconv.ErrRange", "internal/strconv.uint64pow10", "math/bits.deBruijn32tab", "math/bits.deBruijn64tab", "copestone/plan.openings"], apart := false, laid := [("math/bits.deBruijn32tab", laid_math_bits_deBruijn32tab), ("math/bits.deBruijn64tab", laid_math_bits_deBruijn64tab), ("internal/strconv.uint64pow10", laid_internal_strconv_uint64pow10), ("unicode/utf8.acceptRanges", laid_unicode_utf8_acceptRanges), ("strconv.ErrRange", laid_strconv_ErrRange), ("strconv.ErrSyntax", laid_strconv_ErrSyntax), ("copestone/plan.copes", laid_copestone_plan_copes), ("copestone/plan.openings", laid_copestone_plan_openings), ("unicode/utf8.first", laid_unicode_utf8_first)] }
def FieldPensSaid : Prop := fieldPensRow.holds Tryz.pinned (OpenSpec.ofChange fieldPensSpec)

/-- ITS FALSE NEIGHBOUR: 'it returns false'. Refute it at one input. -/
def fieldPensWrong : ChangeSpec := { name := "fieldPens", fn := fun _ => fun
  | [d1, d2, d3] => { results := [.lit (.bool false)], args := [d1, d2, d3] }
  | _ => none }
def FieldPensWrongFalsely : Prop := fieldPensRow.holds Tryz.pinned (OpenSpec.ofChange fieldPensWrong)

/-- 'copestonelaw09.FieldCloses': WHATEVER THE INPUT: true; the input reads as it did. -/
def fieldClosesSpec : ChangeSpec := { name := "fieldCloses", fn := fun _ => fun
  | [d1, d2, d3] => { results := [.lit (.bool true)], args := [d1, d2, d3] }
  | _ => none }
def fieldClosesRow : OpenClaim := { program := "yteepmmghanbllaagreatdoor", sum := "0f0d4a126244541fc9f5f0d0d3c5c7b45e64887c1b33ddc5a0559a5495f0da16", func := "copestone/copestonelaw09.FieldCloses", spec := "fieldCloses", inPlace := ["internal/bytealg.IndexByteString", "internal/bytealg.IndexString", "internal/bytealg.CountString"], unfollowed := true, recurses := true, named := ["internal/bytealg.MaxLen", "unicode/utf8.first", "unicode/utf8.acceptRanges", "copestone/plan.copes", "strconv.ErrSyntax", "strconv.ErrRange", "internal/strconv.uint64pow10", "math/bits.deBruijn32tab", "math/bits.deBruijn64tab", "copestone/plan.openings"], apart := false, laid := [("math/bits.deBruijn32tab", laid_math_bits_deBruijn32tab), ("math/bits.deBruijn64tab", laid_math_bits_deBruijn64tab), ("internal/strconv.uint64pow10", laid_internal_strconv_uint64pow10), ("unicode/utf8.acceptRanges", laid_unicode_utf8_acceptRanges), ("strconv.ErrRange", laid_strconv_ErrRange), ("strconv.ErrSyntax", laid_strconv_ErrSyntax), ("copestone/plan.copes", laid_copestone_plan_copes), ("copestone/plan.openings", laid_copestone_plan_openings), ("unicode/utf8.first", laid_unicode_utf8_first)] }
def FieldClosesSaid : Prop := fieldClosesRow.holds Tryz.pinned (OpenSpec.ofChange fieldClosesSpec)

/-- ITS FALSE NEIGHBOUR: 'it returns false'. Refute it at one input. -/
def fieldClosesWrong : ChangeSpec := { name := "fieldCloses", fn := fun _ => fun
  | [d1, d2, d3] => { results := [.lit (.bool false)], args := [d1, d2, d3] }
  | _ => none }
def FieldClosesWrongFalsely : Prop := fieldClosesRow.holds Tryz.pinned (OpenSpec.ofChange fieldClosesWrong)

/-- 'copestonelaw09.FieldShuts': WHATEVER THE INPUT: true; the input reads as it did. -/
def fieldShutsSpec : ChangeSpec := { name := "fieldShuts", fn := fun _ => fun
  | [d1, d2, d3, d4, d5] => { results := [.lit (.bool true)], args := [d1, d2, d3, d4, d5] }
  | _ => none }
def fieldShutsRow : OpenClaim := { program := "yteepmmghanbllaagreatdoor", sum := "0f0d4a126244541fc9f5f0d0d3c5c7b45e64887c1b33ddc5a0559a5495f0da16", func := "copestone/copestonelaw09.FieldShuts", spec := "fieldShuts", inPlace := ["internal/bytealg.IndexByteString", "internal/bytealg.IndexString", "internal/bytealg.CountString"], unfollowed := true, recurses := true, named := ["internal/bytealg.MaxLen", "unicode/utf8.first", "unicode/utf8.acceptRanges", "copestone/plan.copes", "strconv.ErrSyntax", "strconv.ErrRange", "internal/strconv.uint64pow10", "math/bits.deBruijn32tab", "math/bits.deBruijn64tab", "copestone/plan.openings"], apart := false, laid := [("math/bits.deBruijn32tab", laid_math_bits_deBruijn32tab), ("math/bits.deBruijn64tab", laid_math_bits_deBruijn64tab), ("internal/strconv.uint64pow10", laid_internal_strconv_uint64pow10), ("unicode/utf8.acceptRanges", laid_unicode_utf8_acceptRanges), ("strconv.ErrRange", laid_strconv_ErrRange), ("strconv.ErrSyntax", laid_strconv_ErrSyntax), ("copestone/plan.copes", laid_copestone_plan_copes), ("copestone/plan.openings", laid_copestone_plan_openings), ("unicode/utf8.first", laid_unicode_utf8_first)] }
def FieldShutsSaid : Prop := fieldShutsRow.holds Tryz.pinned (OpenSpec.ofChange fieldShutsSpec)

/-- ITS FALSE NEIGHBOUR: 'it returns false'. Refute it at one input. -/
def fieldShutsWrong : ChangeSpec := { name := "fieldShuts", fn := fun _ => fun
  | [d1, d2, d3, d4, d5] => { results := [.lit (.bool false)], args := [d1, d2, d3, d4, d5] }
  | _ => none }
def FieldShutsWrongFalsely : Prop := fieldShutsRow.holds Tryz.pinned (OpenSpec.ofChange fieldShutsWrong)

/-- 'copestonelaw09.FieldProves': WHATEVER THE INPUT: true; the input reads as it did. -/
def fieldProvesSpec : ChangeSpec := { name := "fieldProves", fn := fun _ => fun
  | [d1, d2, d3, d4, d5, d6] => { results := [.lit (.bool true)], args := [d1, d2, d3, d4, d5, d6] }
  | _ => none }
def fieldProvesRow : OpenClaim := { program := "yteepmmghanbllaagreatdoor", sum := "0f0d4a126244541fc9f5f0d0d3c5c7b45e64887c1b33ddc5a0559a5495f0da16", func := "copestone/copestonelaw09.FieldProves", spec := "fieldProves", inPlace := ["internal/bytealg.IndexByteString", "internal/bytealg.IndexString", "internal/bytealg.CountString"], unfollowed := true, recurses := true, named := ["internal/bytealg.MaxLen", "unicode/utf8.first", "unicode/utf8.acceptRanges", "copestone/plan.copes", "strconv.ErrSyntax", "strconv.ErrRange", "internal/strconv.uint64pow10", "math/bits.deBruijn32tab", "math/bits.deBruijn64tab", "copestone/plan.openings"], apart := false, laid := [("math/bits.deBruijn32tab", laid_math_bits_deBruijn32tab), ("math/bits.deBruijn64tab", laid_math_bits_deBruijn64tab), ("internal/strconv.uint64pow10", laid_internal_strconv_uint64pow10), ("unicode/utf8.acceptRanges", laid_unicode_utf8_acceptRanges), ("strconv.ErrRange", laid_strconv_ErrRange), ("strconv.ErrSyntax", laid_strconv_ErrSyntax), ("copestone/plan.copes", laid_copestone_plan_copes), ("copestone/plan.openings", laid_copestone_plan_openings), ("unicode/utf8.first", laid_unicode_utf8_first)] }
def FieldProvesSaid : Prop := fieldProvesRow.holds Tryz.pinned (OpenSpec.ofChange fieldProvesSpec)

/-- ITS FALSE NEIGHBOUR: 'it returns false'. Refute it at one input. -/
def fieldProvesWrong : ChangeSpec := { name := "fieldProves", fn := fun _ => fun
  | [d1, d2, d3, d4, d5, d6] => { results := [.lit (.bool false)], args := [d1, d2, d3, d4, d5, d6] }
  | _ => none }
def FieldProvesWrongFalsely : Prop := fieldProvesRow.holds Tryz.pinned (OpenSpec.ofChange fieldProvesWrong)

/-- 'copestonelaw09.FieldStronger': WHATEVER THE INPUT: true; the input reads as it did. -/
def fieldStrongerSpec : ChangeSpec := { name := "fieldStronger", fn := fun _ => fun
  | [d1, d2, d3] => { results := [.lit (.bool true)], args := [d1, d2, d3] }
  | _ => none }
def fieldStrongerRow : OpenClaim := { program := "yteepmmghanbllaagreatdoor", sum := "0f0d4a126244541fc9f5f0d0d3c5c7b45e64887c1b33ddc5a0559a5495f0da16", func := "copestone/copestonelaw09.FieldStronger", spec := "fieldStronger", inPlace := ["internal/bytealg.IndexByteString", "internal/bytealg.IndexString", "internal/bytealg.CountString"], unfollowed := true, recurses := true, named := ["internal/bytealg.MaxLen", "unicode/utf8.first", "unicode/utf8.acceptRanges", "copestone/plan.copes", "strconv.ErrSyntax", "strconv.ErrRange", "internal/strconv.uint64pow10", "math/bits.deBruijn32tab", "math/bits.deBruijn64tab", "copestone/plan.openings"], apart := false, laid := [("math/bits.deBruijn32tab", laid_math_bits_deBruijn32tab), ("math/bits.deBruijn64tab", laid_math_bits_deBruijn64tab), ("internal/strconv.uint64pow10", laid_internal_strconv_uint64pow10), ("unicode/utf8.acceptRanges", laid_unicode_utf8_acceptRanges), ("strconv.ErrRange", laid_strconv_ErrRange), ("strconv.ErrSyntax", laid_strconv_ErrSyntax), ("copestone/plan.copes", laid_copestone_plan_copes), ("copestone/plan.openings", laid_copestone_plan_openings), ("unicode/utf8.first", laid_unicode_utf8_first)] }
def FieldStrongerSaid : Prop := fieldStrongerRow.holds Tryz.pinned (OpenSpec.ofChange fieldStrongerSpec)

/-- ITS FALSE NEIGHBOUR: 'it returns false'. Refute it at one input. -/
def fieldStrongerWrong : ChangeSpec := { name := "fieldStronger", fn := fun _ => fun
  | [d1, d2, d3] => { results := [.lit (.bool false)], args := [d1, d2, d3] }
  | _ => none }
def FieldStrongerWrongFalsely : Prop := fieldStrongerRow.holds Tryz.pinned (OpenSpec.ofChange fieldStrongerWrong)

/-- 'copestonelaw09.FieldWalks': WHATEVER THE INPUT: true; the input reads as it did. -/
def fieldWalksSpec : ChangeSpec := { name := "fieldWalks", fn := fun _ => fun
  | [d1, d2, d3] => { results := [.lit (.bool true)], args := [d1, d2, d3] }
  | _ => none }
def fieldWalksRow : OpenClaim := { program := "yteepmmghanbllaagreatdoor", sum := "0f0d4a126244541fc9f5f0d0d3c5c7b45e64887c1b33ddc5a0559a5495f0da16", func := "copestone/copestonelaw09.FieldWalks", spec := "fieldWalks", inPlace := ["internal/bytealg.IndexByteString", "internal/bytealg.IndexString", "internal/bytealg.CountString"], unfollowed := true, recurses := true, named := ["internal/bytealg.MaxLen", "unicode/utf8.first", "unicode/utf8.acceptRanges", "copestone/plan.copes", "strconv.ErrSyntax", "strconv.ErrRange", "internal/strconv.uint64pow10", "math/bits.deBruijn32tab", "math/bits.deBruijn64tab", "copestone/plan.openings"], apart := false, laid := [("math/bits.deBruijn32tab", laid_math_bits_deBruijn32tab), ("math/bits.deBruijn64tab", laid_math_bits_deBruijn64tab), ("internal/strconv.uint64pow10", laid_internal_strconv_uint64pow10), ("unicode/utf8.acceptRanges", laid_unicode_utf8_acceptRanges), ("strconv.ErrRange", laid_strconv_ErrRange), ("strconv.ErrSyntax", laid_strconv_ErrSyntax), ("copestone/plan.copes", laid_copestone_plan_copes), ("copestone/plan.openings", laid_copestone_plan_openings), ("unicode/utf8.first", laid_unicode_utf8_first)] }
def FieldWalksSaid : Prop := fieldWalksRow.holds Tryz.pinned (OpenSpec.ofChange fieldWalksSpec)

/-- ITS FALSE NEIGHBOUR: 'it returns false'. Refute it at one input. -/
def fieldWalksWrong : ChangeSpec := { name := "fieldWalks", fn := fun _ => fun
  | [d1, d2, d3] => { results := [.lit (.bool false)], args := [d1, d2, d3] }
  | _ => none }
def FieldWalksWrongFalsely : Prop := fieldWalksRow.holds Tryz.pinned (OpenSpec.ofChange fieldWalksWrong)

/-- 'copestonelaw09.FieldBest': WHATEVER THE INPUT: true; the input reads as it did. -/
def fieldBestSpec : ChangeSpec := { name := "fieldBest", fn := fun _ => fun
  | [d1, d2, d3] => { results := [.lit (.bool true)], args := [d1, d2, d3] }
  | _ => none }
def fieldBestRow : OpenClaim := { program := "yteepmmghanbllaagreatdoor", sum := "0f0d4a126244541fc9f5f0d0d3c5c7b45e64887c1b33ddc5a0559a5495f0da16", func := "copestone/copestonelaw09.FieldBest", spec := "fieldBest", inPlace := ["internal/bytealg.IndexByteString", "internal/bytealg.IndexString", "internal/bytealg.CountString"], unfollowed := true, recurses := true, named := ["internal/bytealg.MaxLen", "unicode/utf8.first", "unicode/utf8.acceptRanges", "copestone/plan.copes", "strconv.ErrSyntax", "strconv.ErrRange", "internal/strconv.uint64pow10", "math/bits.deBruijn32tab", "math/bits.deBruijn64tab", "copestone/plan.openings"], apart := false, laid := [("math/bits.deBruijn32tab", laid_math_bits_deBruijn32tab), ("math/bits.deBruijn64tab", laid_math_bits_deBruijn64tab), ("internal/strconv.uint64pow10", laid_internal_strconv_uint64pow10), ("unicode/utf8.acceptRanges", laid_unicode_utf8_acceptRanges), ("strconv.ErrRange", laid_strconv_ErrRange), ("strconv.ErrSyntax", laid_strconv_ErrSyntax), ("copestone/plan.copes", laid_copestone_plan_copes), ("copestone/plan.openings", laid_copestone_plan_openings), ("unicode/utf8.first", laid_unicode_utf8_first)] }
def FieldBestSaid : Prop := fieldBestRow.holds Tryz.pinned (OpenSpec.ofChange fieldBestSpec)

/-- ITS FALSE NEIGHBOUR: 'it returns false'. Refute it at one input. -/
def fieldBestWrong : ChangeSpec := { name := "fieldBest", fn := fun _ => fun
  | [d1, d2, d3] => { results := [.lit (.bool false)], args := [d1, d2, d3] }
  | _ => none }
def FieldBestWrongFalsely : Prop := fieldBestRow.holds Tryz.pinned (OpenSpec.ofChange fieldBestWrong)

/- THE SECOND FORM. 'bulk': how many values and letters a reading holds, each counted each time it is reached (what is shared counts as often as it is met; a slice's spare places count too). A statement '..UptoSaid' is the law's where the arguments, and the package variables that the reading takes, are together of bulk at most 1048576: NARROWER than '..Said'. Prove '..Said' where nothing that the law and all that it calls make is longer than what came in: it says more and counts as full. Else prove '..UptoSaid'. A law counts once. -/
mutual
def uptoBulk {H : Type} : DataW H → Nat
  | .lit (.string bytes) => bytes.length + 1
  | .lit _ => 1
  | .nil => 1
  | .ptr d => uptoBulk d + 1
  | .slice elems spare => uptoBulkAll elems + uptoBulkAll spare + 1
  | .agg parts => uptoBulkAll parts + 1
  | .iface _ d => uptoBulk d + 1
  | .map entries => uptoBulkEntries entries + 1
  | .held _ => 1
def uptoBulkAll {H : Type} : List (DataW H) → Nat
  | [] => 0
  | d :: r => uptoBulk d + uptoBulkAll r
def uptoBulkEntries {H : Type} : List (Lit × DataW H) → Nat
  | [] => 0
  | x :: r => uptoBulkEntry x + uptoBulkEntries r
def uptoBulkEntry {H : Type} : Lit × DataW H → Nat
  | (.string bytes, d) => bytes.length + uptoBulk d + 1
  | (_, d) => uptoBulk d + 1
 end
def uptoSmall : (H : Type) → List (DataW H) → Bool := fun _ ds => decide (uptoBulkAll ds ≤ 1048576)
def OpenSpec.upto (s : _root_.Go.ChangeSpec) : _root_.Go.OpenSpec := { _root_.Go.OpenSpec.ofChange s with cond := some uptoSmall }

/-- 'copestonelaw09.FieldReaches', WHERE WHAT IT READS IS OF BULK AT MOST 1048576: true; the input reads as it did. -/
def fieldReachesUptoRow : OpenClaim := { program := "yteepmmghanbllaagreatdoor", sum := "0f0d4a126244541fc9f5f0d0d3c5c7b45e64887c1b33ddc5a0559a5495f0da16", func := "copestone/copestonelaw09.FieldReaches", spec := "fieldReaches", inPlace := ["internal/bytealg.IndexByteString", "internal/bytealg.IndexString", "internal/bytealg.CountString"], unfollowed := true, recurses := true, named := ["internal/bytealg.MaxLen", "unicode/utf8.first", "unicode/utf8.acceptRanges", "copestone/plan.copes", "strconv.ErrSyntax", "strconv.ErrRange", "internal/strconv.uint64pow10", "math/bits.deBruijn32tab", "math/bits.deBruijn64tab", "copestone/plan.openings"], apart := false, laid := [("math/bits.deBruijn32tab", laid_math_bits_deBruijn32tab), ("math/bits.deBruijn64tab", laid_math_bits_deBruijn64tab), ("internal/strconv.uint64pow10", laid_internal_strconv_uint64pow10), ("unicode/utf8.acceptRanges", laid_unicode_utf8_acceptRanges), ("strconv.ErrRange", laid_strconv_ErrRange), ("strconv.ErrSyntax", laid_strconv_ErrSyntax), ("copestone/plan.copes", laid_copestone_plan_copes), ("copestone/plan.openings", laid_copestone_plan_openings), ("unicode/utf8.first", laid_unicode_utf8_first)], narrowed := true }
def FieldReachesUptoSaid : Prop := fieldReachesUptoRow.holds Tryz.pinned (OpenSpec.upto fieldReachesSpec)

/-- 'copestonelaw09.FieldGates', WHERE WHAT IT READS IS OF BULK AT MOST 1048576: true; the input reads as it did. -/
def fieldGatesUptoRow : OpenClaim := { program := "yteepmmghanbllaagreatdoor", sum := "0f0d4a126244541fc9f5f0d0d3c5c7b45e64887c1b33ddc5a0559a5495f0da16", func := "copestone/copestonelaw09.FieldGates", spec := "fieldGates", inPlace := ["internal/bytealg.IndexByteString", "internal/bytealg.IndexString", "internal/bytealg.CountString"], unfollowed := true, recurses := true, named := ["internal/bytealg.MaxLen", "unicode/utf8.first", "unicode/utf8.acceptRanges", "copestone/plan.copes", "strconv.ErrSyntax", "strconv.ErrRange", "internal/strconv.uint64pow10", "math/bits.deBruijn32tab", "math/bits.deBruijn64tab", "copestone/plan.openings"], apart := false, laid := [("math/bits.deBruijn32tab", laid_math_bits_deBruijn32tab), ("math/bits.deBruijn64tab", laid_math_bits_deBruijn64tab), ("internal/strconv.uint64pow10", laid_internal_strconv_uint64pow10), ("unicode/utf8.acceptRanges", laid_unicode_utf8_acceptRanges), ("strconv.ErrRange", laid_strconv_ErrRange), ("strconv.ErrSyntax", laid_strconv_ErrSyntax), ("copestone/plan.copes", laid_copestone_plan_copes), ("copestone/plan.openings", laid_copestone_plan_openings), ("unicode/utf8.first", laid_unicode_utf8_first)], narrowed := true }
def FieldGatesUptoSaid : Prop := fieldGatesUptoRow.holds Tryz.pinned (OpenSpec.upto fieldGatesSpec)

/-- 'copestonelaw09.FieldCrosses', WHERE WHAT IT READS IS OF BULK AT MOST 1048576: true; the input reads as it did. -/
def fieldCrossesUptoRow : OpenClaim := { program := "yteepmmghanbllaagreatdoor", sum := "0f0d4a126244541fc9f5f0d0d3c5c7b45e64887c1b33ddc5a0559a5495f0da16", func := "copestone/copestonelaw09.FieldCrosses", spec := "fieldCrosses", inPlace := ["internal/bytealg.IndexByteString", "internal/bytealg.IndexString", "internal/bytealg.CountString"], unfollowed := true, recurses := true, named := ["internal/bytealg.MaxLen", "unicode/utf8.first", "unicode/utf8.acceptRanges", "copestone/plan.copes", "strconv.ErrSyntax", "strconv.ErrRange", "internal/strconv.uint64pow10", "math/bits.deBruijn32tab", "math/bits.deBruijn64tab", "copestone/plan.openings"], apart := false, laid := [("math/bits.deBruijn32tab", laid_math_bits_deBruijn32tab), ("math/bits.deBruijn64tab", laid_math_bits_deBruijn64tab), ("internal/strconv.uint64pow10", laid_internal_strconv_uint64pow10), ("unicode/utf8.acceptRanges", laid_unicode_utf8_acceptRanges), ("strconv.ErrRange", laid_strconv_ErrRange), ("strconv.ErrSyntax", laid_strconv_ErrSyntax), ("copestone/plan.copes", laid_copestone_plan_copes), ("copestone/plan.openings", laid_copestone_plan_openings), ("unicode/utf8.first", laid_unicode_utf8_first)], narrowed := true }
def FieldCrossesUptoSaid : Prop := fieldCrossesUptoRow.holds Tryz.pinned (OpenSpec.upto fieldCrossesSpec)

/-- 'copestonelaw09.FieldPens', WHERE WHAT IT READS IS OF BULK AT MOST 1048576: true; the input reads as it did. -/
def fieldPensUptoRow : OpenClaim := { program := "yteepmmghanbllaagreatdoor", sum := "0f0d4a126244541fc9f5f0d0d3c5c7b45e64887c1b33ddc5a0559a5495f0da16", func := "copestone/copestonelaw09.FieldPens", spec := "fieldPens", inPlace := ["internal/bytealg.IndexByteString", "internal/bytealg.IndexString", "internal/bytealg.CountString"], unfollowed := true, recurses := true, named := ["internal/bytealg.MaxLen", "unicode/utf8.first", "unicode/utf8.acceptRanges", "copestone/plan.copes", "strconv.ErrSyntax", "strconv.ErrRange", "internal/strconv.uint64pow10", "math/bits.deBruijn32tab", "math/bits.deBruijn64tab", "copestone/plan.openings"], apart := false, laid := [("math/bits.deBruijn32tab", laid_math_bits_deBruijn32tab), ("math/bits.deBruijn64tab", laid_math_bits_deBruijn64tab), ("internal/strconv.uint64pow10", laid_internal_strconv_uint64pow10), ("unicode/utf8.acceptRanges", laid_unicode_utf8_acceptRanges), ("strconv.ErrRange", laid_strconv_ErrRange), ("strconv.ErrSyntax", laid_strconv_ErrSyntax), ("copestone/plan.copes", laid_copestone_plan_copes), ("copestone/plan.openings", laid_copestone_plan_openings), ("unicode/utf8.first", laid_unicode_utf8_first)], narrowed := true }
def FieldPensUptoSaid : Prop := fieldPensUptoRow.holds Tryz.pinned (OpenSpec.upto fieldPensSpec)

/-- 'copestonelaw09.FieldCloses', WHERE WHAT IT READS IS OF BULK AT MOST 1048576: true; the input reads as it did. -/
def fieldClosesUptoRow : OpenClaim := { program := "yteepmmghanbllaagreatdoor", sum := "0f0d4a126244541fc9f5f0d0d3c5c7b45e64887c1b33ddc5a0559a5495f0da16", func := "copestone/copestonelaw09.FieldCloses", spec := "fieldCloses", inPlace := ["internal/bytealg.IndexByteString", "internal/bytealg.IndexString", "internal/bytealg.CountString"], unfollowed := true, recurses := true, named := ["internal/bytealg.MaxLen", "unicode/utf8.first", "unicode/utf8.acceptRanges", "copestone/plan.copes", "strconv.ErrSyntax", "strconv.ErrRange", "internal/strconv.uint64pow10", "math/bits.deBruijn32tab", "math/bits.deBruijn64tab", "copestone/plan.openings"], apart := false, laid := [("math/bits.deBruijn32tab", laid_math_bits_deBruijn32tab), ("math/bits.deBruijn64tab", laid_math_bits_deBruijn64tab), ("internal/strconv.uint64pow10", laid_internal_strconv_uint64pow10), ("unicode/utf8.acceptRanges", laid_unicode_utf8_acceptRanges), ("strconv.ErrRange", laid_strconv_ErrRange), ("strconv.ErrSyntax", laid_strconv_ErrSyntax), ("copestone/plan.copes", laid_copestone_plan_copes), ("copestone/plan.openings", laid_copestone_plan_openings), ("unicode/utf8.first", laid_unicode_utf8_first)], narrowed := true }
def FieldClosesUptoSaid : Prop := fieldClosesUptoRow.holds Tryz.pinned (OpenSpec.upto fieldClosesSpec)

/-- 'copestonelaw09.FieldShuts', WHERE WHAT IT READS IS OF BULK AT MOST 1048576: true; the input reads as it did. -/
def fieldShutsUptoRow : OpenClaim := { program := "yteepmmghanbllaagreatdoor", sum := "0f0d4a126244541fc9f5f0d0d3c5c7b45e64887c1b33ddc5a0559a5495f0da16", func := "copestone/copestonelaw09.FieldShuts", spec := "fieldShuts", inPlace := ["internal/bytealg.IndexByteString", "internal/bytealg.IndexString", "internal/bytealg.CountString"], unfollowed := true, recurses := true, named := ["internal/bytealg.MaxLen", "unicode/utf8.first", "unicode/utf8.acceptRanges", "copestone/plan.copes", "strconv.ErrSyntax", "strconv.ErrRange", "internal/strconv.uint64pow10", "math/bits.deBruijn32tab", "math/bits.deBruijn64tab", "copestone/plan.openings"], apart := false, laid := [("math/bits.deBruijn32tab", laid_math_bits_deBruijn32tab), ("math/bits.deBruijn64tab", laid_math_bits_deBruijn64tab), ("internal/strconv.uint64pow10", laid_internal_strconv_uint64pow10), ("unicode/utf8.acceptRanges", laid_unicode_utf8_acceptRanges), ("strconv.ErrRange", laid_strconv_ErrRange), ("strconv.ErrSyntax", laid_strconv_ErrSyntax), ("copestone/plan.copes", laid_copestone_plan_copes), ("copestone/plan.openings", laid_copestone_plan_openings), ("unicode/utf8.first", laid_unicode_utf8_first)], narrowed := true }
def FieldShutsUptoSaid : Prop := fieldShutsUptoRow.holds Tryz.pinned (OpenSpec.upto fieldShutsSpec)

/-- 'copestonelaw09.FieldProves', WHERE WHAT IT READS IS OF BULK AT MOST 1048576: true; the input reads as it did. -/
def fieldProvesUptoRow : OpenClaim := { program := "yteepmmghanbllaagreatdoor", sum := "0f0d4a126244541fc9f5f0d0d3c5c7b45e64887c1b33ddc5a0559a5495f0da16", func := "copestone/copestonelaw09.FieldProves", spec := "fieldProves", inPlace := ["internal/bytealg.IndexByteString", "internal/bytealg.IndexString", "internal/bytealg.CountString"], unfollowed := true, recurses := true, named := ["internal/bytealg.MaxLen", "unicode/utf8.first", "unicode/utf8.acceptRanges", "copestone/plan.copes", "strconv.ErrSyntax", "strconv.ErrRange", "internal/strconv.uint64pow10", "math/bits.deBruijn32tab", "math/bits.deBruijn64tab", "copestone/plan.openings"], apart := false, laid := [("math/bits.deBruijn32tab", laid_math_bits_deBruijn32tab), ("math/bits.deBruijn64tab", laid_math_bits_deBruijn64tab), ("internal/strconv.uint64pow10", laid_internal_strconv_uint64pow10), ("unicode/utf8.acceptRanges", laid_unicode_utf8_acceptRanges), ("strconv.ErrRange", laid_strconv_ErrRange), ("strconv.ErrSyntax", laid_strconv_ErrSyntax), ("copestone/plan.copes", laid_copestone_plan_copes), ("copestone/plan.openings", laid_copestone_plan_openings), ("unicode/utf8.first", laid_unicode_utf8_first)], narrowed := true }
def FieldProvesUptoSaid : Prop := fieldProvesUptoRow.holds Tryz.pinned (OpenSpec.upto fieldProvesSpec)

/-- 'copestonelaw09.FieldStronger', WHERE WHAT IT READS IS OF BULK AT MOST 1048576: true; the input reads as it did. -/
def fieldStrongerUptoRow : OpenClaim := { program := "yteepmmghanbllaagreatdoor", sum := "0f0d4a126244541fc9f5f0d0d3c5c7b45e64887c1b33ddc5a0559a5495f0da16", func := "copestone/copestonelaw09.FieldStronger", spec := "fieldStronger", inPlace := ["internal/bytealg.IndexByteString", "internal/bytealg.IndexString", "internal/bytealg.CountString"], unfollowed := true, recurses := true, named := ["internal/bytealg.MaxLen", "unicode/utf8.first", "unicode/utf8.acceptRanges", "copestone/plan.copes", "strconv.ErrSyntax", "strconv.ErrRange", "internal/strconv.uint64pow10", "math/bits.deBruijn32tab", "math/bits.deBruijn64tab", "copestone/plan.openings"], apart := false, laid := [("math/bits.deBruijn32tab", laid_math_bits_deBruijn32tab), ("math/bits.deBruijn64tab", laid_math_bits_deBruijn64tab), ("internal/strconv.uint64pow10", laid_internal_strconv_uint64pow10), ("unicode/utf8.acceptRanges", laid_unicode_utf8_acceptRanges), ("strconv.ErrRange", laid_strconv_ErrRange), ("strconv.ErrSyntax", laid_strconv_ErrSyntax), ("copestone/plan.copes", laid_copestone_plan_copes), ("copestone/plan.openings", laid_copestone_plan_openings), ("unicode/utf8.first", laid_unicode_utf8_first)], narrowed := true }
def FieldStrongerUptoSaid : Prop := fieldStrongerUptoRow.holds Tryz.pinned (OpenSpec.upto fieldStrongerSpec)

/-- 'copestonelaw09.FieldWalks', WHERE WHAT IT READS IS OF BULK AT MOST 1048576: true; the input reads as it did. -/
def fieldWalksUptoRow : OpenClaim := { program := "yteepmmghanbllaagreatdoor", sum := "0f0d4a126244541fc9f5f0d0d3c5c7b45e64887c1b33ddc5a0559a5495f0da16", func := "copestone/copestonelaw09.FieldWalks", spec := "fieldWalks", inPlace := ["internal/bytealg.IndexByteString", "internal/bytealg.IndexString", "internal/bytealg.CountString"], unfollowed := true, recurses := true, named := ["internal/bytealg.MaxLen", "unicode/utf8.first", "unicode/utf8.acceptRanges", "copestone/plan.copes", "strconv.ErrSyntax", "strconv.ErrRange", "internal/strconv.uint64pow10", "math/bits.deBruijn32tab", "math/bits.deBruijn64tab", "copestone/plan.openings"], apart := false, laid := [("math/bits.deBruijn32tab", laid_math_bits_deBruijn32tab), ("math/bits.deBruijn64tab", laid_math_bits_deBruijn64tab), ("internal/strconv.uint64pow10", laid_internal_strconv_uint64pow10), ("unicode/utf8.acceptRanges", laid_unicode_utf8_acceptRanges), ("strconv.ErrRange", laid_strconv_ErrRange), ("strconv.ErrSyntax", laid_strconv_ErrSyntax), ("copestone/plan.copes", laid_copestone_plan_copes), ("copestone/plan.openings", laid_copestone_plan_openings), ("unicode/utf8.first", laid_unicode_utf8_first)], narrowed := true }
def FieldWalksUptoSaid : Prop := fieldWalksUptoRow.holds Tryz.pinned (OpenSpec.upto fieldWalksSpec)

/-- 'copestonelaw09.FieldBest', WHERE WHAT IT READS IS OF BULK AT MOST 1048576: true; the input reads as it did. -/
def fieldBestUptoRow : OpenClaim := { program := "yteepmmghanbllaagreatdoor", sum := "0f0d4a126244541fc9f5f0d0d3c5c7b45e64887c1b33ddc5a0559a5495f0da16", func := "copestone/copestonelaw09.FieldBest", spec := "fieldBest", inPlace := ["internal/bytealg.IndexByteString", "internal/bytealg.IndexString", "internal/bytealg.CountString"], unfollowed := true, recurses := true, named := ["internal/bytealg.MaxLen", "unicode/utf8.first", "unicode/utf8.acceptRanges", "copestone/plan.copes", "strconv.ErrSyntax", "strconv.ErrRange", "internal/strconv.uint64pow10", "math/bits.deBruijn32tab", "math/bits.deBruijn64tab", "copestone/plan.openings"], apart := false, laid := [("math/bits.deBruijn32tab", laid_math_bits_deBruijn32tab), ("math/bits.deBruijn64tab", laid_math_bits_deBruijn64tab), ("internal/strconv.uint64pow10", laid_internal_strconv_uint64pow10), ("unicode/utf8.acceptRanges", laid_unicode_utf8_acceptRanges), ("strconv.ErrRange", laid_strconv_ErrRange), ("strconv.ErrSyntax", laid_strconv_ErrSyntax), ("copestone/plan.copes", laid_copestone_plan_copes), ("copestone/plan.openings", laid_copestone_plan_openings), ("unicode/utf8.first", laid_unicode_utf8_first)], narrowed := true }
def FieldBestUptoSaid : Prop := fieldBestUptoRow.holds Tryz.pinned (OpenSpec.upto fieldBestSpec)

end Rows
end Go.Proofs.YteepmmghanbllaaGreatDoor
