/-
  NARROWER THAN 'FOR EVERY INPUT', by the rows' own cells (each row's printed sentence says how): StoneChecks: laid · StoneTurns: laid · StoneBorders: laid · StoneSplits: laid · StoneWays: laid · StonePick: laid · StoneHalves: laid · StoneOutcomes: laid · StoneGrain: laid · StoneChips: laid · StoneWeighs: laid · StoneHulls: laid.
  DERIVED. THE GIVEN ROWS OF THIS SEAT. 12 by the template 'for every input the law returns true; each argument reads behind the call as it read before'; 0 by the template 'total and deterministic' (their statements: YtahahmelnaphjaaDoorTotals.lean).
  GIVEN WITH THE SEED: the statements are not yours to turn. If you find one false, say at which input.
  Laid BY PROGRAM, IN A SANDBOX (cutbox-rows.mjs): the forced cells as the released guide's own fill.sh prints them over the translation 49fc7db170aeee7a… (all of the seat's roots in one cut). By AI agents, Wed Nov 11 2026. No macro, syntax, notation, axiom, sorry.
-/
import Derived.Test.YtahahmelnaphjaaDoorChecked
import GoSem.Claim
import GoSem.ClaimJoined
import GoSem.ClaimMapViews
import Derived.JoinedTies
import Derived.KernelRfl
namespace Go.Proofs.YtahahmelnaphjaaDoor
/- THE CELL 'sum', in the pinned program and in every row, IS THE sha256 OF THE DUMP (.gsa) THAT YtahahmelnaphjaaDoorProg.lean LOADS. Nothing in Lean hashes anything: it is a label: what it is worth is what the hold of that sum in a sandbox is worth. -/
noncomputable def Tryd.pinned : Pinned := { name := "ytahahmelnaphjaadoor", sum := "49fc7db170aeee7a7d8537eec2de7b145c0c9de083e48a4d9fb81a337eac447e", checked := Tryd.checked }
namespace Rows
def none {H : Type} : Left H := { results := [], args := [] }

/- WHAT THE LISTED PACKAGE-LEVEL VARIABLES READ AS WHEN THE CALL BEGINS. Each datum BY PROGRAM (the guide's laid-datum.mjs) off the statement by which the dump's own 'gosem.cut.vars' lays the variable. In a bare row this is a premise. The card (YtahahmelnaphjaaDoorCards.lean) ties it to the program's text. -/
def laid_copestone_stone_ways {H : Type} : DataW H := .iface "func table" (.agg [.iface "func" (.lit (.string [99, 111, 112, 101, 115, 116, 111, 110, 101, 47, 115, 116, 111, 110, 101, 46, 119, 97, 121, 115, 36, 49])), .iface "func" (.lit (.string [99, 111, 112, 101, 115, 116, 111, 110, 101, 47, 115, 116, 111, 110, 101, 46, 119, 97, 121, 115, 36, 50])), .iface "func" (.lit (.string [99, 111, 112, 101, 115, 116, 111, 110, 101, 47, 115, 116, 111, 110, 101, 46, 119, 97, 121, 115, 36, 51])), .iface "func" (.lit (.string [99, 111, 112, 101, 115, 116, 111, 110, 101, 47, 115, 116, 111, 110, 101, 46, 119, 97, 121, 115, 36, 52]))])

/-- 'copestonelaw02.StoneChecks': WHATEVER THE INPUT: true; the input reads as it did. -/
def stoneChecksSpec : ChangeSpec := { name := "stoneChecks", fn := fun _ => fun
  | [d] => { results := [.lit (.bool true)], args := [d] }
  | _ => none }
def stoneChecksRow : OpenClaim := { program := "ytahahmelnaphjaadoor", sum := "49fc7db170aeee7a7d8537eec2de7b145c0c9de083e48a4d9fb81a337eac447e", func := "copestone/copestonelaw02.StoneChecks", spec := "stoneChecks", unfollowed := true, recurses := true, named := ["copestone/stone.ways"], apart := false, laid := [("copestone/stone.ways", laid_copestone_stone_ways)] }
def StoneChecksSaid : Prop := stoneChecksRow.holds Tryd.pinned (OpenSpec.ofChange stoneChecksSpec)

/-- ITS FALSE NEIGHBOUR: 'it returns false'. Refute it at one input. -/
def stoneChecksWrong : ChangeSpec := { name := "stoneChecks", fn := fun _ => fun
  | [d] => { results := [.lit (.bool false)], args := [d] }
  | _ => none }
def StoneChecksWrongFalsely : Prop := stoneChecksRow.holds Tryd.pinned (OpenSpec.ofChange stoneChecksWrong)

/-- 'copestonelaw02.StoneTurns': WHATEVER THE INPUT: true; the input reads as it did. -/
def stoneTurnsSpec : ChangeSpec := { name := "stoneTurns", fn := fun _ => fun
  | [d1, d2] => { results := [.lit (.bool true)], args := [d1, d2] }
  | _ => none }
def stoneTurnsRow : OpenClaim := { program := "ytahahmelnaphjaadoor", sum := "49fc7db170aeee7a7d8537eec2de7b145c0c9de083e48a4d9fb81a337eac447e", func := "copestone/copestonelaw02.StoneTurns", spec := "stoneTurns", unfollowed := true, recurses := true, named := ["copestone/stone.ways"], apart := false, laid := [("copestone/stone.ways", laid_copestone_stone_ways)] }
def StoneTurnsSaid : Prop := stoneTurnsRow.holds Tryd.pinned (OpenSpec.ofChange stoneTurnsSpec)

/-- ITS FALSE NEIGHBOUR: 'it returns false'. Refute it at one input. -/
def stoneTurnsWrong : ChangeSpec := { name := "stoneTurns", fn := fun _ => fun
  | [d1, d2] => { results := [.lit (.bool false)], args := [d1, d2] }
  | _ => none }
def StoneTurnsWrongFalsely : Prop := stoneTurnsRow.holds Tryd.pinned (OpenSpec.ofChange stoneTurnsWrong)

/-- 'copestonelaw02.StoneBorders': WHATEVER THE INPUT: true; the input reads as it did. -/
def stoneBordersSpec : ChangeSpec := { name := "stoneBorders", fn := fun _ => fun
  | [d] => { results := [.lit (.bool true)], args := [d] }
  | _ => none }
def stoneBordersRow : OpenClaim := { program := "ytahahmelnaphjaadoor", sum := "49fc7db170aeee7a7d8537eec2de7b145c0c9de083e48a4d9fb81a337eac447e", func := "copestone/copestonelaw02.StoneBorders", spec := "stoneBorders", unfollowed := true, recurses := true, named := ["copestone/stone.ways"], apart := false, laid := [("copestone/stone.ways", laid_copestone_stone_ways)] }
def StoneBordersSaid : Prop := stoneBordersRow.holds Tryd.pinned (OpenSpec.ofChange stoneBordersSpec)

/-- ITS FALSE NEIGHBOUR: 'it returns false'. Refute it at one input. -/
def stoneBordersWrong : ChangeSpec := { name := "stoneBorders", fn := fun _ => fun
  | [d] => { results := [.lit (.bool false)], args := [d] }
  | _ => none }
def StoneBordersWrongFalsely : Prop := stoneBordersRow.holds Tryd.pinned (OpenSpec.ofChange stoneBordersWrong)

/-- 'copestonelaw02.StoneSplits': WHATEVER THE INPUT: true; the input reads as it did. -/
def stoneSplitsSpec : ChangeSpec := { name := "stoneSplits", fn := fun _ => fun
  | [d1, d2, d3] => { results := [.lit (.bool true)], args := [d1, d2, d3] }
  | _ => none }
def stoneSplitsRow : OpenClaim := { program := "ytahahmelnaphjaadoor", sum := "49fc7db170aeee7a7d8537eec2de7b145c0c9de083e48a4d9fb81a337eac447e", func := "copestone/copestonelaw02.StoneSplits", spec := "stoneSplits", unfollowed := true, recurses := true, named := ["copestone/stone.ways"], apart := false, laid := [("copestone/stone.ways", laid_copestone_stone_ways)] }
def StoneSplitsSaid : Prop := stoneSplitsRow.holds Tryd.pinned (OpenSpec.ofChange stoneSplitsSpec)

/-- ITS FALSE NEIGHBOUR: 'it returns false'. Refute it at one input. -/
def stoneSplitsWrong : ChangeSpec := { name := "stoneSplits", fn := fun _ => fun
  | [d1, d2, d3] => { results := [.lit (.bool false)], args := [d1, d2, d3] }
  | _ => none }
def StoneSplitsWrongFalsely : Prop := stoneSplitsRow.holds Tryd.pinned (OpenSpec.ofChange stoneSplitsWrong)

/-- 'copestonelaw02.StoneWays': WHATEVER THE INPUT: true; the input reads as it did. -/
def stoneWaysSpec : ChangeSpec := { name := "stoneWays", fn := fun _ => fun
  | [d1, d2, d3] => { results := [.lit (.bool true)], args := [d1, d2, d3] }
  | _ => none }
def stoneWaysRow : OpenClaim := { program := "ytahahmelnaphjaadoor", sum := "49fc7db170aeee7a7d8537eec2de7b145c0c9de083e48a4d9fb81a337eac447e", func := "copestone/copestonelaw02.StoneWays", spec := "stoneWays", unfollowed := true, recurses := true, named := ["copestone/stone.ways"], apart := false, laid := [("copestone/stone.ways", laid_copestone_stone_ways)] }
def StoneWaysSaid : Prop := stoneWaysRow.holds Tryd.pinned (OpenSpec.ofChange stoneWaysSpec)

/-- ITS FALSE NEIGHBOUR: 'it returns false'. Refute it at one input. -/
def stoneWaysWrong : ChangeSpec := { name := "stoneWays", fn := fun _ => fun
  | [d1, d2, d3] => { results := [.lit (.bool false)], args := [d1, d2, d3] }
  | _ => none }
def StoneWaysWrongFalsely : Prop := stoneWaysRow.holds Tryd.pinned (OpenSpec.ofChange stoneWaysWrong)

/-- 'copestonelaw02.StonePick': WHATEVER THE INPUT: true; the input reads as it did. -/
def stonePickSpec : ChangeSpec := { name := "stonePick", fn := fun _ => fun
  | [d] => { results := [.lit (.bool true)], args := [d] }
  | _ => none }
def stonePickRow : OpenClaim := { program := "ytahahmelnaphjaadoor", sum := "49fc7db170aeee7a7d8537eec2de7b145c0c9de083e48a4d9fb81a337eac447e", func := "copestone/copestonelaw02.StonePick", spec := "stonePick", unfollowed := true, recurses := true, named := ["copestone/stone.ways"], apart := false, laid := [("copestone/stone.ways", laid_copestone_stone_ways)] }
def StonePickSaid : Prop := stonePickRow.holds Tryd.pinned (OpenSpec.ofChange stonePickSpec)

/-- ITS FALSE NEIGHBOUR: 'it returns false'. Refute it at one input. -/
def stonePickWrong : ChangeSpec := { name := "stonePick", fn := fun _ => fun
  | [d] => { results := [.lit (.bool false)], args := [d] }
  | _ => none }
def StonePickWrongFalsely : Prop := stonePickRow.holds Tryd.pinned (OpenSpec.ofChange stonePickWrong)

/-- 'copestonelaw02.StoneHalves': WHATEVER THE INPUT: true; the input reads as it did. -/
def stoneHalvesSpec : ChangeSpec := { name := "stoneHalves", fn := fun _ => fun
  | [d1, d2, d3] => { results := [.lit (.bool true)], args := [d1, d2, d3] }
  | _ => none }
def stoneHalvesRow : OpenClaim := { program := "ytahahmelnaphjaadoor", sum := "49fc7db170aeee7a7d8537eec2de7b145c0c9de083e48a4d9fb81a337eac447e", func := "copestone/copestonelaw02.StoneHalves", spec := "stoneHalves", unfollowed := true, recurses := true, named := ["copestone/stone.ways"], apart := false, laid := [("copestone/stone.ways", laid_copestone_stone_ways)] }
def StoneHalvesSaid : Prop := stoneHalvesRow.holds Tryd.pinned (OpenSpec.ofChange stoneHalvesSpec)

/-- ITS FALSE NEIGHBOUR: 'it returns false'. Refute it at one input. -/
def stoneHalvesWrong : ChangeSpec := { name := "stoneHalves", fn := fun _ => fun
  | [d1, d2, d3] => { results := [.lit (.bool false)], args := [d1, d2, d3] }
  | _ => none }
def StoneHalvesWrongFalsely : Prop := stoneHalvesRow.holds Tryd.pinned (OpenSpec.ofChange stoneHalvesWrong)

/-- 'copestonelaw02.StoneOutcomes': WHATEVER THE INPUT: true; the input reads as it did. -/
def stoneOutcomesSpec : ChangeSpec := { name := "stoneOutcomes", fn := fun _ => fun
  | [d1, d2, d3] => { results := [.lit (.bool true)], args := [d1, d2, d3] }
  | _ => none }
def stoneOutcomesRow : OpenClaim := { program := "ytahahmelnaphjaadoor", sum := "49fc7db170aeee7a7d8537eec2de7b145c0c9de083e48a4d9fb81a337eac447e", func := "copestone/copestonelaw02.StoneOutcomes", spec := "stoneOutcomes", unfollowed := true, recurses := true, named := ["copestone/stone.ways"], apart := false, laid := [("copestone/stone.ways", laid_copestone_stone_ways)] }
def StoneOutcomesSaid : Prop := stoneOutcomesRow.holds Tryd.pinned (OpenSpec.ofChange stoneOutcomesSpec)

/-- ITS FALSE NEIGHBOUR: 'it returns false'. Refute it at one input. -/
def stoneOutcomesWrong : ChangeSpec := { name := "stoneOutcomes", fn := fun _ => fun
  | [d1, d2, d3] => { results := [.lit (.bool false)], args := [d1, d2, d3] }
  | _ => none }
def StoneOutcomesWrongFalsely : Prop := stoneOutcomesRow.holds Tryd.pinned (OpenSpec.ofChange stoneOutcomesWrong)

/-- 'copestonelaw02.StoneGrain': WHATEVER THE INPUT: true; the input reads as it did. -/
def stoneGrainSpec : ChangeSpec := { name := "stoneGrain", fn := fun _ => fun
  | [d1, d2, d3, d4] => { results := [.lit (.bool true)], args := [d1, d2, d3, d4] }
  | _ => none }
def stoneGrainRow : OpenClaim := { program := "ytahahmelnaphjaadoor", sum := "49fc7db170aeee7a7d8537eec2de7b145c0c9de083e48a4d9fb81a337eac447e", func := "copestone/copestonelaw02.StoneGrain", spec := "stoneGrain", unfollowed := true, recurses := true, named := ["copestone/stone.ways"], apart := false, laid := [("copestone/stone.ways", laid_copestone_stone_ways)] }
def StoneGrainSaid : Prop := stoneGrainRow.holds Tryd.pinned (OpenSpec.ofChange stoneGrainSpec)

/-- ITS FALSE NEIGHBOUR: 'it returns false'. Refute it at one input. -/
def stoneGrainWrong : ChangeSpec := { name := "stoneGrain", fn := fun _ => fun
  | [d1, d2, d3, d4] => { results := [.lit (.bool false)], args := [d1, d2, d3, d4] }
  | _ => none }
def StoneGrainWrongFalsely : Prop := stoneGrainRow.holds Tryd.pinned (OpenSpec.ofChange stoneGrainWrong)

/-- 'copestonelaw02.StoneChips': WHATEVER THE INPUT: true; the input reads as it did. -/
def stoneChipsSpec : ChangeSpec := { name := "stoneChips", fn := fun _ => fun
  | [d1, d2, d3, d4] => { results := [.lit (.bool true)], args := [d1, d2, d3, d4] }
  | _ => none }
def stoneChipsRow : OpenClaim := { program := "ytahahmelnaphjaadoor", sum := "49fc7db170aeee7a7d8537eec2de7b145c0c9de083e48a4d9fb81a337eac447e", func := "copestone/copestonelaw02.StoneChips", spec := "stoneChips", unfollowed := true, recurses := true, named := ["copestone/stone.ways"], apart := false, laid := [("copestone/stone.ways", laid_copestone_stone_ways)] }
def StoneChipsSaid : Prop := stoneChipsRow.holds Tryd.pinned (OpenSpec.ofChange stoneChipsSpec)

/-- ITS FALSE NEIGHBOUR: 'it returns false'. Refute it at one input. -/
def stoneChipsWrong : ChangeSpec := { name := "stoneChips", fn := fun _ => fun
  | [d1, d2, d3, d4] => { results := [.lit (.bool false)], args := [d1, d2, d3, d4] }
  | _ => none }
def StoneChipsWrongFalsely : Prop := stoneChipsRow.holds Tryd.pinned (OpenSpec.ofChange stoneChipsWrong)

/-- 'copestonelaw02.StoneWeighs': WHATEVER THE INPUT: true; the input reads as it did. -/
def stoneWeighsSpec : ChangeSpec := { name := "stoneWeighs", fn := fun _ => fun
  | [d] => { results := [.lit (.bool true)], args := [d] }
  | _ => none }
def stoneWeighsRow : OpenClaim := { program := "ytahahmelnaphjaadoor", sum := "49fc7db170aeee7a7d8537eec2de7b145c0c9de083e48a4d9fb81a337eac447e", func := "copestone/copestonelaw02.StoneWeighs", spec := "stoneWeighs", unfollowed := true, recurses := true, named := ["copestone/stone.ways"], apart := false, laid := [("copestone/stone.ways", laid_copestone_stone_ways)] }
def StoneWeighsSaid : Prop := stoneWeighsRow.holds Tryd.pinned (OpenSpec.ofChange stoneWeighsSpec)

/-- ITS FALSE NEIGHBOUR: 'it returns false'. Refute it at one input. -/
def stoneWeighsWrong : ChangeSpec := { name := "stoneWeighs", fn := fun _ => fun
  | [d] => { results := [.lit (.bool false)], args := [d] }
  | _ => none }
def StoneWeighsWrongFalsely : Prop := stoneWeighsRow.holds Tryd.pinned (OpenSpec.ofChange stoneWeighsWrong)

/-- 'copestonelaw02.StoneHulls': WHATEVER THE INPUT: true; the input reads as it did. -/
def stoneHullsSpec : ChangeSpec := { name := "stoneHulls", fn := fun _ => fun
  | [d] => { results := [.lit (.bool true)], args := [d] }
  | _ => none }
def stoneHullsRow : OpenClaim := { program := "ytahahmelnaphjaadoor", sum := "49fc7db170aeee7a7d8537eec2de7b145c0c9de083e48a4d9fb81a337eac447e", func := "copestone/copestonelaw02.StoneHulls", spec := "stoneHulls", unfollowed := true, recurses := true, named := ["copestone/stone.ways"], apart := false, laid := [("copestone/stone.ways", laid_copestone_stone_ways)] }
def StoneHullsSaid : Prop := stoneHullsRow.holds Tryd.pinned (OpenSpec.ofChange stoneHullsSpec)

/-- ITS FALSE NEIGHBOUR: 'it returns false'. Refute it at one input. -/
def stoneHullsWrong : ChangeSpec := { name := "stoneHulls", fn := fun _ => fun
  | [d] => { results := [.lit (.bool false)], args := [d] }
  | _ => none }
def StoneHullsWrongFalsely : Prop := stoneHullsRow.holds Tryd.pinned (OpenSpec.ofChange stoneHullsWrong)

/- THE SECOND FORM. 'bulk': how many values and letters a reading holds, each counted each time it is reached (what is shared counts as often as it is met; a slice's spare places count too). A statement '..UptoSaid' is the law's where the arguments, and the package variables that the reading takes, are together of bulk at most 1048576: NARROWER than '..Said'. Prove '..Said' where nothing that the law and all that it calls make is longer than what came in: it says more and counts as full. Else prove '..UptoSaid'. A law counts once. -/
mutual
def uptoBulk {H : Type} : DataW H → Nat
  | .lit (.string bytes) => bytes.length + 1
  | .lit _ => 1
  | .nil => 1
  | .ptr d => uptoBulk d + 1
  | .slice elems spare => uptoBulkAll elems + uptoBulkAll spare + 1
  | .agg parts => uptoBulkAll parts + 1
  | .iface _ d => uptoBulk d + 1
  | .map entries => uptoBulkEntries entries + 1
  | .held _ => 1
def uptoBulkAll {H : Type} : List (DataW H) → Nat
  | [] => 0
  | d :: r => uptoBulk d + uptoBulkAll r
def uptoBulkEntries {H : Type} : List (Lit × DataW H) → Nat
  | [] => 0
  | x :: r => uptoBulkEntry x + uptoBulkEntries r
def uptoBulkEntry {H : Type} : Lit × DataW H → Nat
  | (.string bytes, d) => bytes.length + uptoBulk d + 1
  | (_, d) => uptoBulk d + 1
 end
def uptoSmall : (H : Type) → List (DataW H) → Bool := fun _ ds => decide (uptoBulkAll ds ≤ 1048576)
def OpenSpec.upto (s : _root_.Go.ChangeSpec) : _root_.Go.OpenSpec := { _root_.Go.OpenSpec.ofChange s with cond := some uptoSmall }

/-- 'copestonelaw02.StoneChecks', WHERE WHAT IT READS IS OF BULK AT MOST 1048576: true; the input reads as it did. -/
def stoneChecksUptoRow : OpenClaim := { program := "ytahahmelnaphjaadoor", sum := "49fc7db170aeee7a7d8537eec2de7b145c0c9de083e48a4d9fb81a337eac447e", func := "copestone/copestonelaw02.StoneChecks", spec := "stoneChecks", unfollowed := true, recurses := true, named := ["copestone/stone.ways"], apart := false, laid := [("copestone/stone.ways", laid_copestone_stone_ways)], narrowed := true }
def StoneChecksUptoSaid : Prop := stoneChecksUptoRow.holds Tryd.pinned (OpenSpec.upto stoneChecksSpec)

/-- 'copestonelaw02.StoneTurns', WHERE WHAT IT READS IS OF BULK AT MOST 1048576: true; the input reads as it did. -/
def stoneTurnsUptoRow : OpenClaim := { program := "ytahahmelnaphjaadoor", sum := "49fc7db170aeee7a7d8537eec2de7b145c0c9de083e48a4d9fb81a337eac447e", func := "copestone/copestonelaw02.StoneTurns", spec := "stoneTurns", unfollowed := true, recurses := true, named := ["copestone/stone.ways"], apart := false, laid := [("copestone/stone.ways", laid_copestone_stone_ways)], narrowed := true }
def StoneTurnsUptoSaid : Prop := stoneTurnsUptoRow.holds Tryd.pinned (OpenSpec.upto stoneTurnsSpec)

/-- 'copestonelaw02.StoneBorders', WHERE WHAT IT READS IS OF BULK AT MOST 1048576: true; the input reads as it did. -/
def stoneBordersUptoRow : OpenClaim := { program := "ytahahmelnaphjaadoor", sum := "49fc7db170aeee7a7d8537eec2de7b145c0c9de083e48a4d9fb81a337eac447e", func := "copestone/copestonelaw02.StoneBorders", spec := "stoneBorders", unfollowed := true, recurses := true, named := ["copestone/stone.ways"], apart := false, laid := [("copestone/stone.ways", laid_copestone_stone_ways)], narrowed := true }
def StoneBordersUptoSaid : Prop := stoneBordersUptoRow.holds Tryd.pinned (OpenSpec.upto stoneBordersSpec)

/-- 'copestonelaw02.StoneSplits', WHERE WHAT IT READS IS OF BULK AT MOST 1048576: true; the input reads as it did. -/
def stoneSplitsUptoRow : OpenClaim := { program := "ytahahmelnaphjaadoor", sum := "49fc7db170aeee7a7d8537eec2de7b145c0c9de083e48a4d9fb81a337eac447e", func := "copestone/copestonelaw02.StoneSplits", spec := "stoneSplits", unfollowed := true, recurses := true, named := ["copestone/stone.ways"], apart := false, laid := [("copestone/stone.ways", laid_copestone_stone_ways)], narrowed := true }
def StoneSplitsUptoSaid : Prop := stoneSplitsUptoRow.holds Tryd.pinned (OpenSpec.upto stoneSplitsSpec)

/-- 'copestonelaw02.StoneWays', WHERE WHAT IT READS IS OF BULK AT MOST 1048576: true; the input reads as it did. -/
def stoneWaysUptoRow : OpenClaim := { program := "ytahahmelnaphjaadoor", sum := "49fc7db170aeee7a7d8537eec2de7b145c0c9de083e48a4d9fb81a337eac447e", func := "copestone/copestonelaw02.StoneWays", spec := "stoneWays", unfollowed := true, recurses := true, named := ["copestone/stone.ways"], apart := false, laid := [("copestone/stone.ways", laid_copestone_stone_ways)], narrowed := true }
def StoneWaysUptoSaid : Prop := stoneWaysUptoRow.holds Tryd.pinned (OpenSpec.upto stoneWaysSpec)

/-- 'copestonelaw02.StonePick', WHERE WHAT IT READS IS OF BULK AT MOST 1048576: true; the input reads as it did. -/
def stonePickUptoRow : OpenClaim := { program := "ytahahmelnaphjaadoor", sum := "49fc7db170aeee7a7d8537eec2de7b145c0c9de083e48a4d9fb81a337eac447e", func := "copestone/copestonelaw02.StonePick", spec := "stonePick", unfollowed := true, recurses := true, named := ["copestone/stone.ways"], apart := false, laid := [("copestone/stone.ways", laid_copestone_stone_ways)], narrowed := true }
def StonePickUptoSaid : Prop := stonePickUptoRow.holds Tryd.pinned (OpenSpec.upto stonePickSpec)

/-- 'copestonelaw02.StoneHalves', WHERE WHAT IT READS IS OF BULK AT MOST 1048576: true; the input reads as it did. -/
def stoneHalvesUptoRow : OpenClaim := { program := "ytahahmelnaphjaadoor", sum := "49fc7db170aeee7a7d8537eec2de7b145c0c9de083e48a4d9fb81a337eac447e", func := "copestone/copestonelaw02.StoneHalves", spec := "stoneHalves", unfollowed := true, recurses := true, named := ["copestone/stone.ways"], apart := false, laid := [("copestone/stone.ways", laid_copestone_stone_ways)], narrowed := true }
def StoneHalvesUptoSaid : Prop := stoneHalvesUptoRow.holds Tryd.pinned (OpenSpec.upto stoneHalvesSpec)

/-- 'copestonelaw02.StoneOutcomes', WHERE WHAT IT READS IS OF BULK AT MOST 1048576: true; the input reads as it did. -/
def stoneOutcomesUptoRow : OpenClaim := { program := "ytahahmelnaphjaadoor", sum := "49fc7db170aeee7a7d8537eec2de7b145c0c9de083e48a4d9fb81a337eac447e", func := "copestone/copestonelaw02.StoneOutcomes", spec := "stoneOutcomes", unfollowed := true, recurses := true, named := ["copestone/stone.ways"], apart := false, laid := [("copestone/stone.ways", laid_copestone_stone_ways)], narrowed := true }
def StoneOutcomesUptoSaid : Prop := stoneOutcomesUptoRow.holds Tryd.pinned (OpenSpec.upto stoneOutcomesSpec)

/-- 'copestonelaw02.StoneGrain', WHERE WHAT IT READS IS OF BULK AT MOST 1048576: true; the input reads as it did. -/
def stoneGrainUptoRow : OpenClaim := { program := "ytahahmelnaphjaadoor", sum := "49fc7db170aeee7a7d8537eec2de7b145c0c9de083e48a4d9fb81a337eac447e", func := "copestone/copestonelaw02.StoneGrain", spec := "stoneGrain", unfollowed := true, recurses := true, named := ["copestone/stone.ways"], apart := false, laid := [("copestone/stone.ways", laid_copestone_stone_ways)], narrowed := true }
def StoneGrainUptoSaid : Prop := stoneGrainUptoRow.holds Tryd.pinned (OpenSpec.upto stoneGrainSpec)

/-- 'copestonelaw02.StoneChips', WHERE WHAT IT READS IS OF BULK AT MOST 1048576: true; the input reads as it did. -/
def stoneChipsUptoRow : OpenClaim := { program := "ytahahmelnaphjaadoor", sum := "49fc7db170aeee7a7d8537eec2de7b145c0c9de083e48a4d9fb81a337eac447e", func := "copestone/copestonelaw02.StoneChips", spec := "stoneChips", unfollowed := true, recurses := true, named := ["copestone/stone.ways"], apart := false, laid := [("copestone/stone.ways", laid_copestone_stone_ways)], narrowed := true }
def StoneChipsUptoSaid : Prop := stoneChipsUptoRow.holds Tryd.pinned (OpenSpec.upto stoneChipsSpec)

/-- 'copestonelaw02.StoneWeighs', WHERE WHAT IT READS IS OF BULK AT MOST 1048576: true; the input reads as it did. -/
def stoneWeighsUptoRow : OpenClaim := { program := "ytahahmelnaphjaadoor", sum := "49fc7db170aeee7a7d8537eec2de7b145c0c9de083e48a4d9fb81a337eac447e", func := "copestone/copestonelaw02.StoneWeighs", spec := "stoneWeighs", unfollowed := true, recurses := true, named := ["copestone/stone.ways"], apart := false, laid := [("copestone/stone.ways", laid_copestone_stone_ways)], narrowed := true }
def StoneWeighsUptoSaid : Prop := stoneWeighsUptoRow.holds Tryd.pinned (OpenSpec.upto stoneWeighsSpec)

/-- 'copestonelaw02.StoneHulls', WHERE WHAT IT READS IS OF BULK AT MOST 1048576: true; the input reads as it did. -/
def stoneHullsUptoRow : OpenClaim := { program := "ytahahmelnaphjaadoor", sum := "49fc7db170aeee7a7d8537eec2de7b145c0c9de083e48a4d9fb81a337eac447e", func := "copestone/copestonelaw02.StoneHulls", spec := "stoneHulls", unfollowed := true, recurses := true, named := ["copestone/stone.ways"], apart := false, laid := [("copestone/stone.ways", laid_copestone_stone_ways)], narrowed := true }
def StoneHullsUptoSaid : Prop := stoneHullsUptoRow.holds Tryd.pinned (OpenSpec.upto stoneHullsSpec)

end Rows
end Go.Proofs.YtahahmelnaphjaaDoor
