/-
  No cell of these rows narrows 'for every input' (looked for: loops, veiled, ifaces, maps, wideKeys, modest, calm, conditions, laid).
  DERIVED. THE GIVEN ROWS OF THIS SEAT. 17 by the template 'for every input the law returns true; each argument reads behind the call as it read before'; 0 by the template 'total and deterministic' (their statements: YtepjhdblmghckaaTotals.lean).
  GIVEN WITH THE SEED: the statements are not yours to turn. If you find one false, say at which input.
  Laid BY PROGRAM, IN A SANDBOX (cutbox-rows.mjs): the forced cells as the released guide's own fill.sh prints them over the translation c36b5ddb207165f5… (all of the seat's roots in one cut). By AI agents, Wed Nov 11 2026. No macro, syntax, notation, axiom, sorry.
-/
import Derived.Test.YtepjhdblmghckaaChecked
import GoSem.Claim
import GoSem.ClaimJoined
import GoSem.ClaimMapViews
import Derived.JoinedTies
import Derived.KernelRfl
namespace Go.Proofs.Ytepjhdblmghckaa
/- THE CELL 'sum', in the pinned program and in every row, IS THE sha256 OF THE DUMP (.gsa) THAT YtepjhdblmghckaaProg.lean LOADS. Nothing in Lean hashes anything: it is a label: what it is worth is what the hold of that sum in a sandbox is worth. -/
noncomputable def Try.pinned : Pinned := { name := "ytepjhdblmghckaa", sum := "c36b5ddb207165f53f58191f59b5f0325a55d63e82ccdb1846ce55c668aae00d", checked := Try.checked }
namespace Rows
def none {H : Type} : Left H := { results := [], args := [] }

/-- 'bibelotlaw07.PancakeForts': WHATEVER THE INPUT: true; the input reads as it did. -/
def pancakeFortsSpec : ChangeSpec := { name := "pancakeForts", fn := fun _ => fun
  | [d1, d2] => { results := [.lit (.bool true)], args := [d1, d2] }
  | _ => none }
def pancakeFortsRow : OpenClaim := { program := "ytepjhdblmghckaa", sum := "c36b5ddb207165f53f58191f59b5f0325a55d63e82ccdb1846ce55c668aae00d", func := "bibelot/bibelotlaw07.PancakeForts", spec := "pancakeForts", unfollowed := true, recurses := true, plainKeys := false, apart := false }
def PancakeFortsSaid : Prop := pancakeFortsRow.holds Try.pinned (OpenSpec.ofChange pancakeFortsSpec)

/-- ITS FALSE NEIGHBOUR: 'it returns false'. Refute it at one input. -/
def pancakeFortsWrong : ChangeSpec := { name := "pancakeForts", fn := fun _ => fun
  | [d1, d2] => { results := [.lit (.bool false)], args := [d1, d2] }
  | _ => none }
def PancakeFortsWrongFalsely : Prop := pancakeFortsRow.holds Try.pinned (OpenSpec.ofChange pancakeFortsWrong)

/-- 'bibelotlaw07.PancakeMetric': WHATEVER THE INPUT: true; the input reads as it did. -/
def pancakeMetricSpec : ChangeSpec := { name := "pancakeMetric", fn := fun _ => fun
  | [d1, d2, d3] => { results := [.lit (.bool true)], args := [d1, d2, d3] }
  | _ => none }
def pancakeMetricRow : OpenClaim := { program := "ytepjhdblmghckaa", sum := "c36b5ddb207165f53f58191f59b5f0325a55d63e82ccdb1846ce55c668aae00d", func := "bibelot/bibelotlaw07.PancakeMetric", spec := "pancakeMetric", unfollowed := true, recurses := true, plainKeys := false, apart := false }
def PancakeMetricSaid : Prop := pancakeMetricRow.holds Try.pinned (OpenSpec.ofChange pancakeMetricSpec)

/-- ITS FALSE NEIGHBOUR: 'it returns false'. Refute it at one input. -/
def pancakeMetricWrong : ChangeSpec := { name := "pancakeMetric", fn := fun _ => fun
  | [d1, d2, d3] => { results := [.lit (.bool false)], args := [d1, d2, d3] }
  | _ => none }
def PancakeMetricWrongFalsely : Prop := pancakeMetricRow.holds Try.pinned (OpenSpec.ofChange pancakeMetricWrong)

/-- 'bibelotlaw07.PancakeFlips': WHATEVER THE INPUT: true; the input reads as it did. -/
def pancakeFlipsSpec : ChangeSpec := { name := "pancakeFlips", fn := fun _ => fun
  | [d1, d2, d3] => { results := [.lit (.bool true)], args := [d1, d2, d3] }
  | _ => none }
def pancakeFlipsRow : OpenClaim := { program := "ytepjhdblmghckaa", sum := "c36b5ddb207165f53f58191f59b5f0325a55d63e82ccdb1846ce55c668aae00d", func := "bibelot/bibelotlaw07.PancakeFlips", spec := "pancakeFlips", unfollowed := true, recurses := true, plainKeys := false, apart := false }
def PancakeFlipsSaid : Prop := pancakeFlipsRow.holds Try.pinned (OpenSpec.ofChange pancakeFlipsSpec)

/-- ITS FALSE NEIGHBOUR: 'it returns false'. Refute it at one input. -/
def pancakeFlipsWrong : ChangeSpec := { name := "pancakeFlips", fn := fun _ => fun
  | [d1, d2, d3] => { results := [.lit (.bool false)], args := [d1, d2, d3] }
  | _ => none }
def PancakeFlipsWrongFalsely : Prop := pancakeFlipsRow.holds Try.pinned (OpenSpec.ofChange pancakeFlipsWrong)

/-- 'bibelotlaw07.PancakePictures': WHATEVER THE INPUT: true; the input reads as it did. -/
def pancakePicturesSpec : ChangeSpec := { name := "pancakePictures", fn := fun _ => fun
  | [d1, d2] => { results := [.lit (.bool true)], args := [d1, d2] }
  | _ => none }
def pancakePicturesRow : OpenClaim := { program := "ytepjhdblmghckaa", sum := "c36b5ddb207165f53f58191f59b5f0325a55d63e82ccdb1846ce55c668aae00d", func := "bibelot/bibelotlaw07.PancakePictures", spec := "pancakePictures", unfollowed := true, recurses := true, plainKeys := false, apart := false }
def PancakePicturesSaid : Prop := pancakePicturesRow.holds Try.pinned (OpenSpec.ofChange pancakePicturesSpec)

/-- ITS FALSE NEIGHBOUR: 'it returns false'. Refute it at one input. -/
def pancakePicturesWrong : ChangeSpec := { name := "pancakePictures", fn := fun _ => fun
  | [d1, d2] => { results := [.lit (.bool false)], args := [d1, d2] }
  | _ => none }
def PancakePicturesWrongFalsely : Prop := pancakePicturesRow.holds Try.pinned (OpenSpec.ofChange pancakePicturesWrong)

/-- 'bibelotlaw07.PancakeSmall': WHATEVER THE INPUT: true; the input reads as it did. -/
def pancakeSmallSpec : ChangeSpec := { name := "pancakeSmall", fn := fun _ => fun
  | [d1, d2] => { results := [.lit (.bool true)], args := [d1, d2] }
  | _ => none }
def pancakeSmallRow : OpenClaim := { program := "ytepjhdblmghckaa", sum := "c36b5ddb207165f53f58191f59b5f0325a55d63e82ccdb1846ce55c668aae00d", func := "bibelot/bibelotlaw07.PancakeSmall", spec := "pancakeSmall", unfollowed := true, recurses := true, plainKeys := false, apart := false }
def PancakeSmallSaid : Prop := pancakeSmallRow.holds Try.pinned (OpenSpec.ofChange pancakeSmallSpec)

/-- ITS FALSE NEIGHBOUR: 'it returns false'. Refute it at one input. -/
def pancakeSmallWrong : ChangeSpec := { name := "pancakeSmall", fn := fun _ => fun
  | [d1, d2] => { results := [.lit (.bool false)], args := [d1, d2] }
  | _ => none }
def PancakeSmallWrongFalsely : Prop := pancakeSmallRow.holds Try.pinned (OpenSpec.ofChange pancakeSmallWrong)

/-- 'bibelotlaw07.PancakeBurntMetric': WHATEVER THE INPUT: true; the input reads as it did. -/
def pancakeBurntMetricSpec : ChangeSpec := { name := "pancakeBurntMetric", fn := fun _ => fun
  | [d1, d2, d3] => { results := [.lit (.bool true)], args := [d1, d2, d3] }
  | _ => none }
def pancakeBurntMetricRow : OpenClaim := { program := "ytepjhdblmghckaa", sum := "c36b5ddb207165f53f58191f59b5f0325a55d63e82ccdb1846ce55c668aae00d", func := "bibelot/bibelotlaw07.PancakeBurntMetric", spec := "pancakeBurntMetric", unfollowed := true, recurses := true, plainKeys := false, apart := false }
def PancakeBurntMetricSaid : Prop := pancakeBurntMetricRow.holds Try.pinned (OpenSpec.ofChange pancakeBurntMetricSpec)

/-- ITS FALSE NEIGHBOUR: 'it returns false'. Refute it at one input. -/
def pancakeBurntMetricWrong : ChangeSpec := { name := "pancakeBurntMetric", fn := fun _ => fun
  | [d1, d2, d3] => { results := [.lit (.bool false)], args := [d1, d2, d3] }
  | _ => none }
def PancakeBurntMetricWrongFalsely : Prop := pancakeBurntMetricRow.holds Try.pinned (OpenSpec.ofChange pancakeBurntMetricWrong)

/-- 'bibelotlaw07.PancakeWorst': WHATEVER THE INPUT: true; the input reads as it did. -/
def pancakeWorstSpec : ChangeSpec := { name := "pancakeWorst", fn := fun _ => fun
  | [d] => { results := [.lit (.bool true)], args := [d] }
  | _ => none }
def pancakeWorstRow : OpenClaim := { program := "ytepjhdblmghckaa", sum := "c36b5ddb207165f53f58191f59b5f0325a55d63e82ccdb1846ce55c668aae00d", func := "bibelot/bibelotlaw07.PancakeWorst", spec := "pancakeWorst", unfollowed := true, recurses := true, plainKeys := false, apart := false }
def PancakeWorstSaid : Prop := pancakeWorstRow.holds Try.pinned (OpenSpec.ofChange pancakeWorstSpec)

/-- ITS FALSE NEIGHBOUR: 'it returns false'. Refute it at one input. -/
def pancakeWorstWrong : ChangeSpec := { name := "pancakeWorst", fn := fun _ => fun
  | [d] => { results := [.lit (.bool false)], args := [d] }
  | _ => none }
def PancakeWorstWrongFalsely : Prop := pancakeWorstRow.holds Try.pinned (OpenSpec.ofChange pancakeWorstWrong)

/-- 'bibelotlaw07.PancakeTurns': WHATEVER THE INPUT: true; the input reads as it did. -/
def pancakeTurnsSpec : ChangeSpec := { name := "pancakeTurns", fn := fun _ => fun
  | [d1, d2, d3] => { results := [.lit (.bool true)], args := [d1, d2, d3] }
  | _ => none }
def pancakeTurnsRow : OpenClaim := { program := "ytepjhdblmghckaa", sum := "c36b5ddb207165f53f58191f59b5f0325a55d63e82ccdb1846ce55c668aae00d", func := "bibelot/bibelotlaw07.PancakeTurns", spec := "pancakeTurns", unfollowed := true, recurses := true, plainKeys := false, apart := false }
def PancakeTurnsSaid : Prop := pancakeTurnsRow.holds Try.pinned (OpenSpec.ofChange pancakeTurnsSpec)

/-- ITS FALSE NEIGHBOUR: 'it returns false'. Refute it at one input. -/
def pancakeTurnsWrong : ChangeSpec := { name := "pancakeTurns", fn := fun _ => fun
  | [d1, d2, d3] => { results := [.lit (.bool false)], args := [d1, d2, d3] }
  | _ => none }
def PancakeTurnsWrongFalsely : Prop := pancakeTurnsRow.holds Try.pinned (OpenSpec.ofChange pancakeTurnsWrong)

/-- 'bibelotlaw07.PancakeSteps': WHATEVER THE INPUT: true; the input reads as it did. -/
def pancakeStepsSpec : ChangeSpec := { name := "pancakeSteps", fn := fun _ => fun
  | [d1, d2, d3] => { results := [.lit (.bool true)], args := [d1, d2, d3] }
  | _ => none }
def pancakeStepsRow : OpenClaim := { program := "ytepjhdblmghckaa", sum := "c36b5ddb207165f53f58191f59b5f0325a55d63e82ccdb1846ce55c668aae00d", func := "bibelot/bibelotlaw07.PancakeSteps", spec := "pancakeSteps", unfollowed := true, recurses := true, plainKeys := false, apart := false }
def PancakeStepsSaid : Prop := pancakeStepsRow.holds Try.pinned (OpenSpec.ofChange pancakeStepsSpec)

/-- ITS FALSE NEIGHBOUR: 'it returns false'. Refute it at one input. -/
def pancakeStepsWrong : ChangeSpec := { name := "pancakeSteps", fn := fun _ => fun
  | [d1, d2, d3] => { results := [.lit (.bool false)], args := [d1, d2, d3] }
  | _ => none }
def PancakeStepsWrongFalsely : Prop := pancakeStepsRow.holds Try.pinned (OpenSpec.ofChange pancakeStepsWrong)

/-- 'bibelotlaw07.PancakeGates': WHATEVER THE INPUT: true; the input reads as it did. -/
def pancakeGatesSpec : ChangeSpec := { name := "pancakeGates", fn := fun _ => fun
  | [d1, d2, d3] => { results := [.lit (.bool true)], args := [d1, d2, d3] }
  | _ => none }
def pancakeGatesRow : OpenClaim := { program := "ytepjhdblmghckaa", sum := "c36b5ddb207165f53f58191f59b5f0325a55d63e82ccdb1846ce55c668aae00d", func := "bibelot/bibelotlaw07.PancakeGates", spec := "pancakeGates", unfollowed := true, recurses := true, plainKeys := false, apart := false }
def PancakeGatesSaid : Prop := pancakeGatesRow.holds Try.pinned (OpenSpec.ofChange pancakeGatesSpec)

/-- ITS FALSE NEIGHBOUR: 'it returns false'. Refute it at one input. -/
def pancakeGatesWrong : ChangeSpec := { name := "pancakeGates", fn := fun _ => fun
  | [d1, d2, d3] => { results := [.lit (.bool false)], args := [d1, d2, d3] }
  | _ => none }
def PancakeGatesWrongFalsely : Prop := pancakeGatesRow.holds Try.pinned (OpenSpec.ofChange pancakeGatesWrong)

/-- 'bibelotlaw07.PancakeDistances': WHATEVER THE INPUT: true; the input reads as it did. -/
def pancakeDistancesSpec : ChangeSpec := { name := "pancakeDistances", fn := fun _ => fun
  | [d1, d2, d3] => { results := [.lit (.bool true)], args := [d1, d2, d3] }
  | _ => none }
def pancakeDistancesRow : OpenClaim := { program := "ytepjhdblmghckaa", sum := "c36b5ddb207165f53f58191f59b5f0325a55d63e82ccdb1846ce55c668aae00d", func := "bibelot/bibelotlaw07.PancakeDistances", spec := "pancakeDistances", unfollowed := true, recurses := true, plainKeys := false, apart := false }
def PancakeDistancesSaid : Prop := pancakeDistancesRow.holds Try.pinned (OpenSpec.ofChange pancakeDistancesSpec)

/-- ITS FALSE NEIGHBOUR: 'it returns false'. Refute it at one input. -/
def pancakeDistancesWrong : ChangeSpec := { name := "pancakeDistances", fn := fun _ => fun
  | [d1, d2, d3] => { results := [.lit (.bool false)], args := [d1, d2, d3] }
  | _ => none }
def PancakeDistancesWrongFalsely : Prop := pancakeDistancesRow.holds Try.pinned (OpenSpec.ofChange pancakeDistancesWrong)

/-- 'bibelotlaw07.PancakeOrderTurns': WHATEVER THE INPUT: true; the input reads as it did. -/
def pancakeOrderTurnsSpec : ChangeSpec := { name := "pancakeOrderTurns", fn := fun _ => fun
  | [d1, d2] => { results := [.lit (.bool true)], args := [d1, d2] }
  | _ => none }
def pancakeOrderTurnsRow : OpenClaim := { program := "ytepjhdblmghckaa", sum := "c36b5ddb207165f53f58191f59b5f0325a55d63e82ccdb1846ce55c668aae00d", func := "bibelot/bibelotlaw07.PancakeOrderTurns", spec := "pancakeOrderTurns", unfollowed := true, recurses := true, plainKeys := false, apart := false }
def PancakeOrderTurnsSaid : Prop := pancakeOrderTurnsRow.holds Try.pinned (OpenSpec.ofChange pancakeOrderTurnsSpec)

/-- ITS FALSE NEIGHBOUR: 'it returns false'. Refute it at one input. -/
def pancakeOrderTurnsWrong : ChangeSpec := { name := "pancakeOrderTurns", fn := fun _ => fun
  | [d1, d2] => { results := [.lit (.bool false)], args := [d1, d2] }
  | _ => none }
def PancakeOrderTurnsWrongFalsely : Prop := pancakeOrderTurnsRow.holds Try.pinned (OpenSpec.ofChange pancakeOrderTurnsWrong)

/-- 'bibelotlaw07.PancakePevzner': WHATEVER THE INPUT: true; the input reads as it did. -/
def pancakePevznerSpec : ChangeSpec := { name := "pancakePevzner", fn := fun _ => fun
  | [d1, d2] => { results := [.lit (.bool true)], args := [d1, d2] }
  | _ => none }
def pancakePevznerRow : OpenClaim := { program := "ytepjhdblmghckaa", sum := "c36b5ddb207165f53f58191f59b5f0325a55d63e82ccdb1846ce55c668aae00d", func := "bibelot/bibelotlaw07.PancakePevzner", spec := "pancakePevzner", unfollowed := true, recurses := true, plainKeys := false, apart := false }
def PancakePevznerSaid : Prop := pancakePevznerRow.holds Try.pinned (OpenSpec.ofChange pancakePevznerSpec)

/-- ITS FALSE NEIGHBOUR: 'it returns false'. Refute it at one input. -/
def pancakePevznerWrong : ChangeSpec := { name := "pancakePevzner", fn := fun _ => fun
  | [d1, d2] => { results := [.lit (.bool false)], args := [d1, d2] }
  | _ => none }
def PancakePevznerWrongFalsely : Prop := pancakePevznerRow.holds Try.pinned (OpenSpec.ofChange pancakePevznerWrong)

/-- 'bibelotlaw07.PancakeBurnt': WHATEVER THE INPUT: true; the input reads as it did. -/
def pancakeBurntSpec : ChangeSpec := { name := "pancakeBurnt", fn := fun _ => fun
  | [d1, d2, d3] => { results := [.lit (.bool true)], args := [d1, d2, d3] }
  | _ => none }
def pancakeBurntRow : OpenClaim := { program := "ytepjhdblmghckaa", sum := "c36b5ddb207165f53f58191f59b5f0325a55d63e82ccdb1846ce55c668aae00d", func := "bibelot/bibelotlaw07.PancakeBurnt", spec := "pancakeBurnt", unfollowed := true, recurses := true, plainKeys := false, apart := false }
def PancakeBurntSaid : Prop := pancakeBurntRow.holds Try.pinned (OpenSpec.ofChange pancakeBurntSpec)

/-- ITS FALSE NEIGHBOUR: 'it returns false'. Refute it at one input. -/
def pancakeBurntWrong : ChangeSpec := { name := "pancakeBurnt", fn := fun _ => fun
  | [d1, d2, d3] => { results := [.lit (.bool false)], args := [d1, d2, d3] }
  | _ => none }
def PancakeBurntWrongFalsely : Prop := pancakeBurntRow.holds Try.pinned (OpenSpec.ofChange pancakeBurntWrong)

/-- 'bibelotlaw07.PancakeRows': WHATEVER THE INPUT: true; the input reads as it did. -/
def pancakeRowsSpec : ChangeSpec := { name := "pancakeRows", fn := fun _ => fun
  | [d1, d2] => { results := [.lit (.bool true)], args := [d1, d2] }
  | _ => none }
def pancakeRowsRow : OpenClaim := { program := "ytepjhdblmghckaa", sum := "c36b5ddb207165f53f58191f59b5f0325a55d63e82ccdb1846ce55c668aae00d", func := "bibelot/bibelotlaw07.PancakeRows", spec := "pancakeRows", unfollowed := true, recurses := true, plainKeys := false, apart := false }
def PancakeRowsSaid : Prop := pancakeRowsRow.holds Try.pinned (OpenSpec.ofChange pancakeRowsSpec)

/-- ITS FALSE NEIGHBOUR: 'it returns false'. Refute it at one input. -/
def pancakeRowsWrong : ChangeSpec := { name := "pancakeRows", fn := fun _ => fun
  | [d1, d2] => { results := [.lit (.bool false)], args := [d1, d2] }
  | _ => none }
def PancakeRowsWrongFalsely : Prop := pancakeRowsRow.holds Try.pinned (OpenSpec.ofChange pancakeRowsWrong)

/-- 'bibelotlaw07.PancakeChecks': WHATEVER THE INPUT: true; the input reads as it did. -/
def pancakeChecksSpec : ChangeSpec := { name := "pancakeChecks", fn := fun _ => fun
  | [d1, d2, d3] => { results := [.lit (.bool true)], args := [d1, d2, d3] }
  | _ => none }
def pancakeChecksRow : OpenClaim := { program := "ytepjhdblmghckaa", sum := "c36b5ddb207165f53f58191f59b5f0325a55d63e82ccdb1846ce55c668aae00d", func := "bibelot/bibelotlaw07.PancakeChecks", spec := "pancakeChecks", unfollowed := true, recurses := true, plainKeys := false, apart := false }
def PancakeChecksSaid : Prop := pancakeChecksRow.holds Try.pinned (OpenSpec.ofChange pancakeChecksSpec)

/-- ITS FALSE NEIGHBOUR: 'it returns false'. Refute it at one input. -/
def pancakeChecksWrong : ChangeSpec := { name := "pancakeChecks", fn := fun _ => fun
  | [d1, d2, d3] => { results := [.lit (.bool false)], args := [d1, d2, d3] }
  | _ => none }
def PancakeChecksWrongFalsely : Prop := pancakeChecksRow.holds Try.pinned (OpenSpec.ofChange pancakeChecksWrong)

/-- 'bibelotlaw07.PancakeOwn': WHATEVER THE INPUT: true; the input reads as it did. -/
def pancakeOwnSpec : ChangeSpec := { name := "pancakeOwn", fn := fun _ => fun
  | [d1, d2, d3] => { results := [.lit (.bool true)], args := [d1, d2, d3] }
  | _ => none }
def pancakeOwnRow : OpenClaim := { program := "ytepjhdblmghckaa", sum := "c36b5ddb207165f53f58191f59b5f0325a55d63e82ccdb1846ce55c668aae00d", func := "bibelot/bibelotlaw07.PancakeOwn", spec := "pancakeOwn", unfollowed := true, recurses := true, plainKeys := false, apart := false }
def PancakeOwnSaid : Prop := pancakeOwnRow.holds Try.pinned (OpenSpec.ofChange pancakeOwnSpec)

/-- ITS FALSE NEIGHBOUR: 'it returns false'. Refute it at one input. -/
def pancakeOwnWrong : ChangeSpec := { name := "pancakeOwn", fn := fun _ => fun
  | [d1, d2, d3] => { results := [.lit (.bool false)], args := [d1, d2, d3] }
  | _ => none }
def PancakeOwnWrongFalsely : Prop := pancakeOwnRow.holds Try.pinned (OpenSpec.ofChange pancakeOwnWrong)

/- THE SECOND FORM. 'bulk': how many values and letters a reading holds, each counted each time it is reached (what is shared counts as often as it is met; a slice's spare places count too). A statement '..UptoSaid' is the law's where the arguments, and the package variables that the reading takes, are together of bulk at most 1048576: NARROWER than '..Said'. Prove '..Said' where nothing that the law and all that it calls make is longer than what came in: it says more and counts as full. Else prove '..UptoSaid'. A law counts once. -/
mutual
def uptoBulk {H : Type} : DataW H → Nat
  | .lit (.string bytes) => bytes.length + 1
  | .lit _ => 1
  | .nil => 1
  | .ptr d => uptoBulk d + 1
  | .slice elems spare => uptoBulkAll elems + uptoBulkAll spare + 1
  | .agg parts => uptoBulkAll parts + 1
  | .iface _ d => uptoBulk d + 1
  | .map entries => uptoBulkEntries entries + 1
  | .held _ => 1
def uptoBulkAll {H : Type} : List (DataW H) → Nat
  | [] => 0
  | d :: r => uptoBulk d + uptoBulkAll r
def uptoBulkEntries {H : Type} : List (Lit × DataW H) → Nat
  | [] => 0
  | x :: r => uptoBulkEntry x + uptoBulkEntries r
def uptoBulkEntry {H : Type} : Lit × DataW H → Nat
  | (.string bytes, d) => bytes.length + uptoBulk d + 1
  | (_, d) => uptoBulk d + 1
 end
def uptoSmall : (H : Type) → List (DataW H) → Bool := fun _ ds => decide (uptoBulkAll ds ≤ 1048576)
def OpenSpec.upto (s : _root_.Go.ChangeSpec) : _root_.Go.OpenSpec := { _root_.Go.OpenSpec.ofChange s with cond := some uptoSmall }

/-- 'bibelotlaw07.PancakeForts', WHERE WHAT IT READS IS OF BULK AT MOST 1048576: true; the input reads as it did. -/
def pancakeFortsUptoRow : OpenClaim := { program := "ytepjhdblmghckaa", sum := "c36b5ddb207165f53f58191f59b5f0325a55d63e82ccdb1846ce55c668aae00d", func := "bibelot/bibelotlaw07.PancakeForts", spec := "pancakeForts", unfollowed := true, recurses := true, plainKeys := false, apart := false, narrowed := true }
def PancakeFortsUptoSaid : Prop := pancakeFortsUptoRow.holds Try.pinned (OpenSpec.upto pancakeFortsSpec)

/-- 'bibelotlaw07.PancakeMetric', WHERE WHAT IT READS IS OF BULK AT MOST 1048576: true; the input reads as it did. -/
def pancakeMetricUptoRow : OpenClaim := { program := "ytepjhdblmghckaa", sum := "c36b5ddb207165f53f58191f59b5f0325a55d63e82ccdb1846ce55c668aae00d", func := "bibelot/bibelotlaw07.PancakeMetric", spec := "pancakeMetric", unfollowed := true, recurses := true, plainKeys := false, apart := false, narrowed := true }
def PancakeMetricUptoSaid : Prop := pancakeMetricUptoRow.holds Try.pinned (OpenSpec.upto pancakeMetricSpec)

/-- 'bibelotlaw07.PancakeFlips', WHERE WHAT IT READS IS OF BULK AT MOST 1048576: true; the input reads as it did. -/
def pancakeFlipsUptoRow : OpenClaim := { program := "ytepjhdblmghckaa", sum := "c36b5ddb207165f53f58191f59b5f0325a55d63e82ccdb1846ce55c668aae00d", func := "bibelot/bibelotlaw07.PancakeFlips", spec := "pancakeFlips", unfollowed := true, recurses := true, plainKeys := false, apart := false, narrowed := true }
def PancakeFlipsUptoSaid : Prop := pancakeFlipsUptoRow.holds Try.pinned (OpenSpec.upto pancakeFlipsSpec)

/-- 'bibelotlaw07.PancakePictures', WHERE WHAT IT READS IS OF BULK AT MOST 1048576: true; the input reads as it did. -/
def pancakePicturesUptoRow : OpenClaim := { program := "ytepjhdblmghckaa", sum := "c36b5ddb207165f53f58191f59b5f0325a55d63e82ccdb1846ce55c668aae00d", func := "bibelot/bibelotlaw07.PancakePictures", spec := "pancakePictures", unfollowed := true, recurses := true, plainKeys := false, apart := false, narrowed := true }
def PancakePicturesUptoSaid : Prop := pancakePicturesUptoRow.holds Try.pinned (OpenSpec.upto pancakePicturesSpec)

/-- 'bibelotlaw07.PancakeSmall', WHERE WHAT IT READS IS OF BULK AT MOST 1048576: true; the input reads as it did. -/
def pancakeSmallUptoRow : OpenClaim := { program := "ytepjhdblmghckaa", sum := "c36b5ddb207165f53f58191f59b5f0325a55d63e82ccdb1846ce55c668aae00d", func := "bibelot/bibelotlaw07.PancakeSmall", spec := "pancakeSmall", unfollowed := true, recurses := true, plainKeys := false, apart := false, narrowed := true }
def PancakeSmallUptoSaid : Prop := pancakeSmallUptoRow.holds Try.pinned (OpenSpec.upto pancakeSmallSpec)

/-- 'bibelotlaw07.PancakeBurntMetric', WHERE WHAT IT READS IS OF BULK AT MOST 1048576: true; the input reads as it did. -/
def pancakeBurntMetricUptoRow : OpenClaim := { program := "ytepjhdblmghckaa", sum := "c36b5ddb207165f53f58191f59b5f0325a55d63e82ccdb1846ce55c668aae00d", func := "bibelot/bibelotlaw07.PancakeBurntMetric", spec := "pancakeBurntMetric", unfollowed := true, recurses := true, plainKeys := false, apart := false, narrowed := true }
def PancakeBurntMetricUptoSaid : Prop := pancakeBurntMetricUptoRow.holds Try.pinned (OpenSpec.upto pancakeBurntMetricSpec)

/-- 'bibelotlaw07.PancakeWorst', WHERE WHAT IT READS IS OF BULK AT MOST 1048576: true; the input reads as it did. -/
def pancakeWorstUptoRow : OpenClaim := { program := "ytepjhdblmghckaa", sum := "c36b5ddb207165f53f58191f59b5f0325a55d63e82ccdb1846ce55c668aae00d", func := "bibelot/bibelotlaw07.PancakeWorst", spec := "pancakeWorst", unfollowed := true, recurses := true, plainKeys := false, apart := false, narrowed := true }
def PancakeWorstUptoSaid : Prop := pancakeWorstUptoRow.holds Try.pinned (OpenSpec.upto pancakeWorstSpec)

/-- 'bibelotlaw07.PancakeTurns', WHERE WHAT IT READS IS OF BULK AT MOST 1048576: true; the input reads as it did. -/
def pancakeTurnsUptoRow : OpenClaim := { program := "ytepjhdblmghckaa", sum := "c36b5ddb207165f53f58191f59b5f0325a55d63e82ccdb1846ce55c668aae00d", func := "bibelot/bibelotlaw07.PancakeTurns", spec := "pancakeTurns", unfollowed := true, recurses := true, plainKeys := false, apart := false, narrowed := true }
def PancakeTurnsUptoSaid : Prop := pancakeTurnsUptoRow.holds Try.pinned (OpenSpec.upto pancakeTurnsSpec)

/-- 'bibelotlaw07.PancakeSteps', WHERE WHAT IT READS IS OF BULK AT MOST 1048576: true; the input reads as it did. -/
def pancakeStepsUptoRow : OpenClaim := { program := "ytepjhdblmghckaa", sum := "c36b5ddb207165f53f58191f59b5f0325a55d63e82ccdb1846ce55c668aae00d", func := "bibelot/bibelotlaw07.PancakeSteps", spec := "pancakeSteps", unfollowed := true, recurses := true, plainKeys := false, apart := false, narrowed := true }
def PancakeStepsUptoSaid : Prop := pancakeStepsUptoRow.holds Try.pinned (OpenSpec.upto pancakeStepsSpec)

/-- 'bibelotlaw07.PancakeGates', WHERE WHAT IT READS IS OF BULK AT MOST 1048576: true; the input reads as it did. -/
def pancakeGatesUptoRow : OpenClaim := { program := "ytepjhdblmghckaa", sum := "c36b5ddb207165f53f58191f59b5f0325a55d63e82ccdb1846ce55c668aae00d", func := "bibelot/bibelotlaw07.PancakeGates", spec := "pancakeGates", unfollowed := true, recurses := true, plainKeys := false, apart := false, narrowed := true }
def PancakeGatesUptoSaid : Prop := pancakeGatesUptoRow.holds Try.pinned (OpenSpec.upto pancakeGatesSpec)

/-- 'bibelotlaw07.PancakeDistances', WHERE WHAT IT READS IS OF BULK AT MOST 1048576: true; the input reads as it did. -/
def pancakeDistancesUptoRow : OpenClaim := { program := "ytepjhdblmghckaa", sum := "c36b5ddb207165f53f58191f59b5f0325a55d63e82ccdb1846ce55c668aae00d", func := "bibelot/bibelotlaw07.PancakeDistances", spec := "pancakeDistances", unfollowed := true, recurses := true, plainKeys := false, apart := false, narrowed := true }
def PancakeDistancesUptoSaid : Prop := pancakeDistancesUptoRow.holds Try.pinned (OpenSpec.upto pancakeDistancesSpec)

/-- 'bibelotlaw07.PancakeOrderTurns', WHERE WHAT IT READS IS OF BULK AT MOST 1048576: true; the input reads as it did. -/
def pancakeOrderTurnsUptoRow : OpenClaim := { program := "ytepjhdblmghckaa", sum := "c36b5ddb207165f53f58191f59b5f0325a55d63e82ccdb1846ce55c668aae00d", func := "bibelot/bibelotlaw07.PancakeOrderTurns", spec := "pancakeOrderTurns", unfollowed := true, recurses := true, plainKeys := false, apart := false, narrowed := true }
def PancakeOrderTurnsUptoSaid : Prop := pancakeOrderTurnsUptoRow.holds Try.pinned (OpenSpec.upto pancakeOrderTurnsSpec)

/-- 'bibelotlaw07.PancakePevzner', WHERE WHAT IT READS IS OF BULK AT MOST 1048576: true; the input reads as it did. -/
def pancakePevznerUptoRow : OpenClaim := { program := "ytepjhdblmghckaa", sum := "c36b5ddb207165f53f58191f59b5f0325a55d63e82ccdb1846ce55c668aae00d", func := "bibelot/bibelotlaw07.PancakePevzner", spec := "pancakePevzner", unfollowed := true, recurses := true, plainKeys := false, apart := false, narrowed := true }
def PancakePevznerUptoSaid : Prop := pancakePevznerUptoRow.holds Try.pinned (OpenSpec.upto pancakePevznerSpec)

/-- 'bibelotlaw07.PancakeBurnt', WHERE WHAT IT READS IS OF BULK AT MOST 1048576: true; the input reads as it did. -/
def pancakeBurntUptoRow : OpenClaim := { program := "ytepjhdblmghckaa", sum := "c36b5ddb207165f53f58191f59b5f0325a55d63e82ccdb1846ce55c668aae00d", func := "bibelot/bibelotlaw07.PancakeBurnt", spec := "pancakeBurnt", unfollowed := true, recurses := true, plainKeys := false, apart := false, narrowed := true }
def PancakeBurntUptoSaid : Prop := pancakeBurntUptoRow.holds Try.pinned (OpenSpec.upto pancakeBurntSpec)

/-- 'bibelotlaw07.PancakeRows', WHERE WHAT IT READS IS OF BULK AT MOST 1048576: true; the input reads as it did. -/
def pancakeRowsUptoRow : OpenClaim := { program := "ytepjhdblmghckaa", sum := "c36b5ddb207165f53f58191f59b5f0325a55d63e82ccdb1846ce55c668aae00d", func := "bibelot/bibelotlaw07.PancakeRows", spec := "pancakeRows", unfollowed := true, recurses := true, plainKeys := false, apart := false, narrowed := true }
def PancakeRowsUptoSaid : Prop := pancakeRowsUptoRow.holds Try.pinned (OpenSpec.upto pancakeRowsSpec)

/-- 'bibelotlaw07.PancakeChecks', WHERE WHAT IT READS IS OF BULK AT MOST 1048576: true; the input reads as it did. -/
def pancakeChecksUptoRow : OpenClaim := { program := "ytepjhdblmghckaa", sum := "c36b5ddb207165f53f58191f59b5f0325a55d63e82ccdb1846ce55c668aae00d", func := "bibelot/bibelotlaw07.PancakeChecks", spec := "pancakeChecks", unfollowed := true, recurses := true, plainKeys := false, apart := false, narrowed := true }
def PancakeChecksUptoSaid : Prop := pancakeChecksUptoRow.holds Try.pinned (OpenSpec.upto pancakeChecksSpec)

/-- 'bibelotlaw07.PancakeOwn', WHERE WHAT IT READS IS OF BULK AT MOST 1048576: true; the input reads as it did. -/
def pancakeOwnUptoRow : OpenClaim := { program := "ytepjhdblmghckaa", sum := "c36b5ddb207165f53f58191f59b5f0325a55d63e82ccdb1846ce55c668aae00d", func := "bibelot/bibelotlaw07.PancakeOwn", spec := "pancakeOwn", unfollowed := true, recurses := true, plainKeys := false, apart := false, narrowed := true }
def PancakeOwnUptoSaid : Prop := pancakeOwnUptoRow.holds Try.pinned (OpenSpec.upto pancakeOwnSpec)

end Rows
end Go.Proofs.Ytepjhdblmghckaa
