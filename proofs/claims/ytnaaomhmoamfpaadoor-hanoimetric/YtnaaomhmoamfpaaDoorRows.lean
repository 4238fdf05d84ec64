/-
  NARROWER THAN 'FOR EVERY INPUT', by the rows' own cells (each row's printed sentence says how): HanoiTotals: laid · HanoiFrames: laid · HanoiFewest: laid · HanoiUnranks: laid · HanoiStewart: laid · HanoiBetween: laid · HanoiMoves: laid · HanoiFarthest: laid · HanoiAll: laid · HanoiHinz: laid · HanoiDistances: laid · HanoiRings: laid · HanoiGros: laid · HanoiPlays: laid · HanoiFrameWays: laid · HanoiMetric: laid · HanoiWays: laid · HanoiTwo: laid · HanoiOwn: laid · HanoiChecks: laid.
  DERIVED. THE GIVEN ROWS OF THIS SEAT. 20 by the template 'for every input the law returns true; each argument reads behind the call as it read before'; 0 by the template 'total and deterministic' (their statements: YtnaaomhmoamfpaaDoorTotals.lean).
  GIVEN WITH THE SEED: the statements are not yours to turn. If you find one false, say at which input.
  Laid BY PROGRAM, IN A SANDBOX (cutbox-rows.mjs): the forced cells as the released guide's own fill.sh prints them over the translation 29242faac574a317… (all of the seat's roots in one cut). By AI agents, Wed Nov 11 2026. No macro, syntax, notation, axiom, sorry.
-/
import Derived.Test.YtnaaomhmoamfpaaDoorChecked
import GoSem.PinnedTables
import GoSem.Claim
import GoSem.ClaimJoined
import GoSem.ClaimMapViews
import Derived.JoinedTies
import Derived.KernelRfl
namespace Go.Proofs.YtnaaomhmoamfpaaDoor
/- THE CELL 'sum', in the pinned program and in every row, IS THE sha256 OF THE DUMP (.gsa) THAT YtnaaomhmoamfpaaDoorProg.lean LOADS. Nothing in Lean hashes anything: it is a label: what it is worth is what the hold of that sum in a sandbox is worth. -/
noncomputable def Tryd.pinned : Pinned := { name := "ytnaaomhmoamfpaadoor", sum := "29242faac574a317805a0061ece47b9c12857844fdcd29ba331640847a6b3e59", checked := Tryd.checked }
namespace Rows
def none {H : Type} : Left H := { results := [], args := [] }

/- WHAT THE LISTED PACKAGE-LEVEL VARIABLES READ AS WHEN THE CALL BEGINS. Each datum BY PROGRAM (the guide's laid-datum.mjs) off the statement by which the dump's own 'gosem.cut.vars' lays the variable. In a bare row this is a premise. The card (YtnaaomhmoamfpaaDoorCards.lean) ties it to the program's text. -/
def laid_unicode_utf8_acceptRanges {H : Type} : DataW H := .agg [.agg [.lit (.int .u8 128), .lit (.int .u8 191)], .agg [.lit (.int .u8 160), .lit (.int .u8 191)], .agg [.lit (.int .u8 128), .lit (.int .u8 159)], .agg [.lit (.int .u8 144), .lit (.int .u8 191)], .agg [.lit (.int .u8 128), .lit (.int .u8 143)], .agg [.lit (.int .u8 0), .lit (.int .u8 0)], .agg [.lit (.int .u8 0), .lit (.int .u8 0)], .agg [.lit (.int .u8 0), .lit (.int .u8 0)], .agg [.lit (.int .u8 0), .lit (.int .u8 0)], .agg [.lit (.int .u8 0), .lit (.int .u8 0)], .agg [.lit (.int .u8 0), .lit (.int .u8 0)], .agg [.lit (.int .u8 0), .lit (.int .u8 0)], .agg [.lit (.int .u8 0), .lit (.int .u8 0)], .agg [.lit (.int .u8 0), .lit (.int .u8 0)], .agg [.lit (.int .u8 0), .lit (.int .u8 0)], .agg [.lit (.int .u8 0), .lit (.int .u8 0)]]
/-- One of Go's own tables, pinned by name: the form's constant. -/
def laid_unicode_utf8_first : DataW Unit := Go.Pinned.utf8First

/-- 'bibelotlaw03.HanoiTotals': WHATEVER THE INPUT: true; the input reads as it did. -/
def hanoiTotalsSpec : ChangeSpec := { name := "hanoiTotals", fn := fun _ => fun
  | [d] => { results := [.lit (.bool true)], args := [d] }
  | _ => none }
def hanoiTotalsRow : OpenClaim := { program := "ytnaaomhmoamfpaadoor", sum := "29242faac574a317805a0061ece47b9c12857844fdcd29ba331640847a6b3e59", func := "bibelot/bibelotlaw03.HanoiTotals", spec := "hanoiTotals", inPlace := ["internal/bytealg.IndexByteString", "internal/bytealg.IndexString", "internal/abi.NoEscape"], unfollowed := true, recurses := true, named := ["unicode/utf8.first", "unicode/utf8.acceptRanges", "internal/bytealg.MaxLen"], plainKeys := false, apart := false, laid := [("unicode/utf8.acceptRanges", laid_unicode_utf8_acceptRanges), ("unicode/utf8.first", laid_unicode_utf8_first)] }
def HanoiTotalsSaid : Prop := hanoiTotalsRow.holds Tryd.pinned (OpenSpec.ofChange hanoiTotalsSpec)

/-- ITS FALSE NEIGHBOUR: 'it returns false'. Refute it at one input. -/
def hanoiTotalsWrong : ChangeSpec := { name := "hanoiTotals", fn := fun _ => fun
  | [d] => { results := [.lit (.bool false)], args := [d] }
  | _ => none }
def HanoiTotalsWrongFalsely : Prop := hanoiTotalsRow.holds Tryd.pinned (OpenSpec.ofChange hanoiTotalsWrong)

/-- 'bibelotlaw03.HanoiFrames': WHATEVER THE INPUT: true; the input reads as it did. -/
def hanoiFramesSpec : ChangeSpec := { name := "hanoiFrames", fn := fun _ => fun
  | [d1, d2] => { results := [.lit (.bool true)], args := [d1, d2] }
  | _ => none }
def hanoiFramesRow : OpenClaim := { program := "ytnaaomhmoamfpaadoor", sum := "29242faac574a317805a0061ece47b9c12857844fdcd29ba331640847a6b3e59", func := "bibelot/bibelotlaw03.HanoiFrames", spec := "hanoiFrames", inPlace := ["internal/bytealg.IndexByteString", "internal/bytealg.IndexString", "internal/abi.NoEscape"], unfollowed := true, recurses := true, named := ["unicode/utf8.first", "unicode/utf8.acceptRanges", "internal/bytealg.MaxLen"], plainKeys := false, apart := false, laid := [("unicode/utf8.acceptRanges", laid_unicode_utf8_acceptRanges), ("unicode/utf8.first", laid_unicode_utf8_first)] }
def HanoiFramesSaid : Prop := hanoiFramesRow.holds Tryd.pinned (OpenSpec.ofChange hanoiFramesSpec)

/-- ITS FALSE NEIGHBOUR: 'it returns false'. Refute it at one input. -/
def hanoiFramesWrong : ChangeSpec := { name := "hanoiFrames", fn := fun _ => fun
  | [d1, d2] => { results := [.lit (.bool false)], args := [d1, d2] }
  | _ => none }
def HanoiFramesWrongFalsely : Prop := hanoiFramesRow.holds Tryd.pinned (OpenSpec.ofChange hanoiFramesWrong)

/-- 'bibelotlaw03.HanoiFewest': WHATEVER THE INPUT: true; the input reads as it did. -/
def hanoiFewestSpec : ChangeSpec := { name := "hanoiFewest", fn := fun _ => fun
  | [d1, d2] => { results := [.lit (.bool true)], args := [d1, d2] }
  | _ => none }
def hanoiFewestRow : OpenClaim := { program := "ytnaaomhmoamfpaadoor", sum := "29242faac574a317805a0061ece47b9c12857844fdcd29ba331640847a6b3e59", func := "bibelot/bibelotlaw03.HanoiFewest", spec := "hanoiFewest", inPlace := ["internal/bytealg.IndexByteString", "internal/bytealg.IndexString", "internal/abi.NoEscape"], unfollowed := true, recurses := true, named := ["unicode/utf8.first", "unicode/utf8.acceptRanges", "internal/bytealg.MaxLen"], plainKeys := false, apart := false, laid := [("unicode/utf8.acceptRanges", laid_unicode_utf8_acceptRanges), ("unicode/utf8.first", laid_unicode_utf8_first)] }
def HanoiFewestSaid : Prop := hanoiFewestRow.holds Tryd.pinned (OpenSpec.ofChange hanoiFewestSpec)

/-- ITS FALSE NEIGHBOUR: 'it returns false'. Refute it at one input. -/
def hanoiFewestWrong : ChangeSpec := { name := "hanoiFewest", fn := fun _ => fun
  | [d1, d2] => { results := [.lit (.bool false)], args := [d1, d2] }
  | _ => none }
def HanoiFewestWrongFalsely : Prop := hanoiFewestRow.holds Tryd.pinned (OpenSpec.ofChange hanoiFewestWrong)

/-- 'bibelotlaw03.HanoiUnranks': WHATEVER THE INPUT: true; the input reads as it did. -/
def hanoiUnranksSpec : ChangeSpec := { name := "hanoiUnranks", fn := fun _ => fun
  | [d1, d2] => { results := [.lit (.bool true)], args := [d1, d2] }
  | _ => none }
def hanoiUnranksRow : OpenClaim := { program := "ytnaaomhmoamfpaadoor", sum := "29242faac574a317805a0061ece47b9c12857844fdcd29ba331640847a6b3e59", func := "bibelot/bibelotlaw03.HanoiUnranks", spec := "hanoiUnranks", inPlace := ["internal/abi.NoEscape", "internal/bytealg.IndexByteString", "internal/bytealg.IndexString"], unfollowed := true, recurses := true, named := ["unicode/utf8.first", "unicode/utf8.acceptRanges", "internal/bytealg.MaxLen"], plainKeys := false, apart := false, laid := [("unicode/utf8.acceptRanges", laid_unicode_utf8_acceptRanges), ("unicode/utf8.first", laid_unicode_utf8_first)] }
def HanoiUnranksSaid : Prop := hanoiUnranksRow.holds Tryd.pinned (OpenSpec.ofChange hanoiUnranksSpec)

/-- ITS FALSE NEIGHBOUR: 'it returns false'. Refute it at one input. -/
def hanoiUnranksWrong : ChangeSpec := { name := "hanoiUnranks", fn := fun _ => fun
  | [d1, d2] => { results := [.lit (.bool false)], args := [d1, d2] }
  | _ => none }
def HanoiUnranksWrongFalsely : Prop := hanoiUnranksRow.holds Tryd.pinned (OpenSpec.ofChange hanoiUnranksWrong)

/-- 'bibelotlaw03.HanoiStewart': WHATEVER THE INPUT: true; the input reads as it did. -/
def hanoiStewartSpec : ChangeSpec := { name := "hanoiStewart", fn := fun _ => fun
  | [d1, d2] => { results := [.lit (.bool true)], args := [d1, d2] }
  | _ => none }
def hanoiStewartRow : OpenClaim := { program := "ytnaaomhmoamfpaadoor", sum := "29242faac574a317805a0061ece47b9c12857844fdcd29ba331640847a6b3e59", func := "bibelot/bibelotlaw03.HanoiStewart", spec := "hanoiStewart", inPlace := ["internal/bytealg.IndexByteString", "internal/bytealg.IndexString", "internal/abi.NoEscape"], unfollowed := true, recurses := true, named := ["unicode/utf8.first", "unicode/utf8.acceptRanges", "internal/bytealg.MaxLen"], plainKeys := false, apart := false, laid := [("unicode/utf8.acceptRanges", laid_unicode_utf8_acceptRanges), ("unicode/utf8.first", laid_unicode_utf8_first)] }
def HanoiStewartSaid : Prop := hanoiStewartRow.holds Tryd.pinned (OpenSpec.ofChange hanoiStewartSpec)

/-- ITS FALSE NEIGHBOUR: 'it returns false'. Refute it at one input. -/
def hanoiStewartWrong : ChangeSpec := { name := "hanoiStewart", fn := fun _ => fun
  | [d1, d2] => { results := [.lit (.bool false)], args := [d1, d2] }
  | _ => none }
def HanoiStewartWrongFalsely : Prop := hanoiStewartRow.holds Tryd.pinned (OpenSpec.ofChange hanoiStewartWrong)

/-- 'bibelotlaw03.HanoiBetween': WHATEVER THE INPUT: true; the input reads as it did. -/
def hanoiBetweenSpec : ChangeSpec := { name := "hanoiBetween", fn := fun _ => fun
  | [d1, d2, d3] => { results := [.lit (.bool true)], args := [d1, d2, d3] }
  | _ => none }
def hanoiBetweenRow : OpenClaim := { program := "ytnaaomhmoamfpaadoor", sum := "29242faac574a317805a0061ece47b9c12857844fdcd29ba331640847a6b3e59", func := "bibelot/bibelotlaw03.HanoiBetween", spec := "hanoiBetween", inPlace := ["internal/bytealg.IndexByteString", "internal/bytealg.IndexString", "internal/abi.NoEscape"], unfollowed := true, recurses := true, named := ["unicode/utf8.first", "unicode/utf8.acceptRanges", "internal/bytealg.MaxLen"], plainKeys := false, apart := false, laid := [("unicode/utf8.acceptRanges", laid_unicode_utf8_acceptRanges), ("unicode/utf8.first", laid_unicode_utf8_first)] }
def HanoiBetweenSaid : Prop := hanoiBetweenRow.holds Tryd.pinned (OpenSpec.ofChange hanoiBetweenSpec)

/-- ITS FALSE NEIGHBOUR: 'it returns false'. Refute it at one input. -/
def hanoiBetweenWrong : ChangeSpec := { name := "hanoiBetween", fn := fun _ => fun
  | [d1, d2, d3] => { results := [.lit (.bool false)], args := [d1, d2, d3] }
  | _ => none }
def HanoiBetweenWrongFalsely : Prop := hanoiBetweenRow.holds Tryd.pinned (OpenSpec.ofChange hanoiBetweenWrong)

/-- 'bibelotlaw03.HanoiMoves': WHATEVER THE INPUT: true; the input reads as it did. -/
def hanoiMovesSpec : ChangeSpec := { name := "hanoiMoves", fn := fun _ => fun
  | [d1, d2] => { results := [.lit (.bool true)], args := [d1, d2] }
  | _ => none }
def hanoiMovesRow : OpenClaim := { program := "ytnaaomhmoamfpaadoor", sum := "29242faac574a317805a0061ece47b9c12857844fdcd29ba331640847a6b3e59", func := "bibelot/bibelotlaw03.HanoiMoves", spec := "hanoiMoves", inPlace := ["internal/bytealg.IndexByteString", "internal/bytealg.IndexString", "internal/abi.NoEscape"], unfollowed := true, recurses := true, named := ["unicode/utf8.first", "unicode/utf8.acceptRanges", "internal/bytealg.MaxLen"], plainKeys := false, apart := false, laid := [("unicode/utf8.acceptRanges", laid_unicode_utf8_acceptRanges), ("unicode/utf8.first", laid_unicode_utf8_first)] }
def HanoiMovesSaid : Prop := hanoiMovesRow.holds Tryd.pinned (OpenSpec.ofChange hanoiMovesSpec)

/-- ITS FALSE NEIGHBOUR: 'it returns false'. Refute it at one input. -/
def hanoiMovesWrong : ChangeSpec := { name := "hanoiMoves", fn := fun _ => fun
  | [d1, d2] => { results := [.lit (.bool false)], args := [d1, d2] }
  | _ => none }
def HanoiMovesWrongFalsely : Prop := hanoiMovesRow.holds Tryd.pinned (OpenSpec.ofChange hanoiMovesWrong)

/-- 'bibelotlaw03.HanoiFarthest': WHATEVER THE INPUT: true; the input reads as it did. -/
def hanoiFarthestSpec : ChangeSpec := { name := "hanoiFarthest", fn := fun _ => fun
  | [d1, d2, d3] => { results := [.lit (.bool true)], args := [d1, d2, d3] }
  | _ => none }
def hanoiFarthestRow : OpenClaim := { program := "ytnaaomhmoamfpaadoor", sum := "29242faac574a317805a0061ece47b9c12857844fdcd29ba331640847a6b3e59", func := "bibelot/bibelotlaw03.HanoiFarthest", spec := "hanoiFarthest", inPlace := ["internal/bytealg.IndexByteString", "internal/bytealg.IndexString", "internal/abi.NoEscape"], unfollowed := true, recurses := true, named := ["unicode/utf8.first", "unicode/utf8.acceptRanges", "internal/bytealg.MaxLen"], plainKeys := false, apart := false, laid := [("unicode/utf8.acceptRanges", laid_unicode_utf8_acceptRanges), ("unicode/utf8.first", laid_unicode_utf8_first)] }
def HanoiFarthestSaid : Prop := hanoiFarthestRow.holds Tryd.pinned (OpenSpec.ofChange hanoiFarthestSpec)

/-- ITS FALSE NEIGHBOUR: 'it returns false'. Refute it at one input. -/
def hanoiFarthestWrong : ChangeSpec := { name := "hanoiFarthest", fn := fun _ => fun
  | [d1, d2, d3] => { results := [.lit (.bool false)], args := [d1, d2, d3] }
  | _ => none }
def HanoiFarthestWrongFalsely : Prop := hanoiFarthestRow.holds Tryd.pinned (OpenSpec.ofChange hanoiFarthestWrong)

/-- 'bibelotlaw03.HanoiAll': WHATEVER THE INPUT: true; the input reads as it did. -/
def hanoiAllSpec : ChangeSpec := { name := "hanoiAll", fn := fun _ => fun
  | [d1, d2] => { results := [.lit (.bool true)], args := [d1, d2] }
  | _ => none }
def hanoiAllRow : OpenClaim := { program := "ytnaaomhmoamfpaadoor", sum := "29242faac574a317805a0061ece47b9c12857844fdcd29ba331640847a6b3e59", func := "bibelot/bibelotlaw03.HanoiAll", spec := "hanoiAll", inPlace := ["internal/bytealg.IndexByteString", "internal/bytealg.IndexString", "internal/abi.NoEscape"], unfollowed := true, recurses := true, named := ["unicode/utf8.first", "unicode/utf8.acceptRanges", "internal/bytealg.MaxLen"], plainKeys := false, apart := false, laid := [("unicode/utf8.acceptRanges", laid_unicode_utf8_acceptRanges), ("unicode/utf8.first", laid_unicode_utf8_first)] }
def HanoiAllSaid : Prop := hanoiAllRow.holds Tryd.pinned (OpenSpec.ofChange hanoiAllSpec)

/-- ITS FALSE NEIGHBOUR: 'it returns false'. Refute it at one input. -/
def hanoiAllWrong : ChangeSpec := { name := "hanoiAll", fn := fun _ => fun
  | [d1, d2] => { results := [.lit (.bool false)], args := [d1, d2] }
  | _ => none }
def HanoiAllWrongFalsely : Prop := hanoiAllRow.holds Tryd.pinned (OpenSpec.ofChange hanoiAllWrong)

/-- 'bibelotlaw03.HanoiHinz': WHATEVER THE INPUT: true; the input reads as it did. -/
def hanoiHinzSpec : ChangeSpec := { name := "hanoiHinz", fn := fun _ => fun
  | [d1, d2, d3] => { results := [.lit (.bool true)], args := [d1, d2, d3] }
  | _ => none }
def hanoiHinzRow : OpenClaim := { program := "ytnaaomhmoamfpaadoor", sum := "29242faac574a317805a0061ece47b9c12857844fdcd29ba331640847a6b3e59", func := "bibelot/bibelotlaw03.HanoiHinz", spec := "hanoiHinz", inPlace := ["internal/bytealg.IndexByteString", "internal/bytealg.IndexString", "internal/abi.NoEscape"], unfollowed := true, recurses := true, named := ["unicode/utf8.first", "unicode/utf8.acceptRanges", "internal/bytealg.MaxLen"], plainKeys := false, apart := false, laid := [("unicode/utf8.acceptRanges", laid_unicode_utf8_acceptRanges), ("unicode/utf8.first", laid_unicode_utf8_first)] }
def HanoiHinzSaid : Prop := hanoiHinzRow.holds Tryd.pinned (OpenSpec.ofChange hanoiHinzSpec)

/-- ITS FALSE NEIGHBOUR: 'it returns false'. Refute it at one input. -/
def hanoiHinzWrong : ChangeSpec := { name := "hanoiHinz", fn := fun _ => fun
  | [d1, d2, d3] => { results := [.lit (.bool false)], args := [d1, d2, d3] }
  | _ => none }
def HanoiHinzWrongFalsely : Prop := hanoiHinzRow.holds Tryd.pinned (OpenSpec.ofChange hanoiHinzWrong)

/-- 'bibelotlaw03.HanoiDistances': WHATEVER THE INPUT: true; the input reads as it did. -/
def hanoiDistancesSpec : ChangeSpec := { name := "hanoiDistances", fn := fun _ => fun
  | [d1, d2, d3] => { results := [.lit (.bool true)], args := [d1, d2, d3] }
  | _ => none }
def hanoiDistancesRow : OpenClaim := { program := "ytnaaomhmoamfpaadoor", sum := "29242faac574a317805a0061ece47b9c12857844fdcd29ba331640847a6b3e59", func := "bibelot/bibelotlaw03.HanoiDistances", spec := "hanoiDistances", inPlace := ["internal/bytealg.IndexByteString", "internal/bytealg.IndexString", "internal/abi.NoEscape"], unfollowed := true, recurses := true, named := ["unicode/utf8.first", "unicode/utf8.acceptRanges", "internal/bytealg.MaxLen"], plainKeys := false, apart := false, laid := [("unicode/utf8.acceptRanges", laid_unicode_utf8_acceptRanges), ("unicode/utf8.first", laid_unicode_utf8_first)] }
def HanoiDistancesSaid : Prop := hanoiDistancesRow.holds Tryd.pinned (OpenSpec.ofChange hanoiDistancesSpec)

/-- ITS FALSE NEIGHBOUR: 'it returns false'. Refute it at one input. -/
def hanoiDistancesWrong : ChangeSpec := { name := "hanoiDistances", fn := fun _ => fun
  | [d1, d2, d3] => { results := [.lit (.bool false)], args := [d1, d2, d3] }
  | _ => none }
def HanoiDistancesWrongFalsely : Prop := hanoiDistancesRow.holds Tryd.pinned (OpenSpec.ofChange hanoiDistancesWrong)

/-- 'bibelotlaw03.HanoiRings': WHATEVER THE INPUT: true; the input reads as it did. -/
def hanoiRingsSpec : ChangeSpec := { name := "hanoiRings", fn := fun _ => fun
  | [d1, d2] => { results := [.lit (.bool true)], args := [d1, d2] }
  | _ => none }
def hanoiRingsRow : OpenClaim := { program := "ytnaaomhmoamfpaadoor", sum := "29242faac574a317805a0061ece47b9c12857844fdcd29ba331640847a6b3e59", func := "bibelot/bibelotlaw03.HanoiRings", spec := "hanoiRings", inPlace := ["internal/bytealg.IndexByteString", "internal/bytealg.IndexString", "internal/abi.NoEscape"], unfollowed := true, recurses := true, named := ["unicode/utf8.first", "unicode/utf8.acceptRanges", "internal/bytealg.MaxLen"], plainKeys := false, apart := false, laid := [("unicode/utf8.acceptRanges", laid_unicode_utf8_acceptRanges), ("unicode/utf8.first", laid_unicode_utf8_first)] }
def HanoiRingsSaid : Prop := hanoiRingsRow.holds Tryd.pinned (OpenSpec.ofChange hanoiRingsSpec)

/-- ITS FALSE NEIGHBOUR: 'it returns false'. Refute it at one input. -/
def hanoiRingsWrong : ChangeSpec := { name := "hanoiRings", fn := fun _ => fun
  | [d1, d2] => { results := [.lit (.bool false)], args := [d1, d2] }
  | _ => none }
def HanoiRingsWrongFalsely : Prop := hanoiRingsRow.holds Tryd.pinned (OpenSpec.ofChange hanoiRingsWrong)

/-- 'bibelotlaw03.HanoiGros': WHATEVER THE INPUT: true; the input reads as it did. -/
def hanoiGrosSpec : ChangeSpec := { name := "hanoiGros", fn := fun _ => fun
  | [d1, d2, d3] => { results := [.lit (.bool true)], args := [d1, d2, d3] }
  | _ => none }
def hanoiGrosRow : OpenClaim := { program := "ytnaaomhmoamfpaadoor", sum := "29242faac574a317805a0061ece47b9c12857844fdcd29ba331640847a6b3e59", func := "bibelot/bibelotlaw03.HanoiGros", spec := "hanoiGros", inPlace := ["internal/bytealg.IndexByteString", "internal/bytealg.IndexString", "internal/abi.NoEscape"], unfollowed := true, recurses := true, named := ["unicode/utf8.first", "unicode/utf8.acceptRanges", "internal/bytealg.MaxLen"], plainKeys := false, apart := false, laid := [("unicode/utf8.acceptRanges", laid_unicode_utf8_acceptRanges), ("unicode/utf8.first", laid_unicode_utf8_first)] }
def HanoiGrosSaid : Prop := hanoiGrosRow.holds Tryd.pinned (OpenSpec.ofChange hanoiGrosSpec)

/-- ITS FALSE NEIGHBOUR: 'it returns false'. Refute it at one input. -/
def hanoiGrosWrong : ChangeSpec := { name := "hanoiGros", fn := fun _ => fun
  | [d1, d2, d3] => { results := [.lit (.bool false)], args := [d1, d2, d3] }
  | _ => none }
def HanoiGrosWrongFalsely : Prop := hanoiGrosRow.holds Tryd.pinned (OpenSpec.ofChange hanoiGrosWrong)

/-- 'bibelotlaw03.HanoiPlays': WHATEVER THE INPUT: true; the input reads as it did. -/
def hanoiPlaysSpec : ChangeSpec := { name := "hanoiPlays", fn := fun _ => fun
  | [d1, d2, d3] => { results := [.lit (.bool true)], args := [d1, d2, d3] }
  | _ => none }
def hanoiPlaysRow : OpenClaim := { program := "ytnaaomhmoamfpaadoor", sum := "29242faac574a317805a0061ece47b9c12857844fdcd29ba331640847a6b3e59", func := "bibelot/bibelotlaw03.HanoiPlays", spec := "hanoiPlays", inPlace := ["internal/bytealg.IndexByteString", "internal/bytealg.IndexString", "internal/abi.NoEscape"], unfollowed := true, recurses := true, named := ["unicode/utf8.first", "unicode/utf8.acceptRanges", "internal/bytealg.MaxLen"], plainKeys := false, apart := false, laid := [("unicode/utf8.acceptRanges", laid_unicode_utf8_acceptRanges), ("unicode/utf8.first", laid_unicode_utf8_first)] }
def HanoiPlaysSaid : Prop := hanoiPlaysRow.holds Tryd.pinned (OpenSpec.ofChange hanoiPlaysSpec)

/-- ITS FALSE NEIGHBOUR: 'it returns false'. Refute it at one input. -/
def hanoiPlaysWrong : ChangeSpec := { name := "hanoiPlays", fn := fun _ => fun
  | [d1, d2, d3] => { results := [.lit (.bool false)], args := [d1, d2, d3] }
  | _ => none }
def HanoiPlaysWrongFalsely : Prop := hanoiPlaysRow.holds Tryd.pinned (OpenSpec.ofChange hanoiPlaysWrong)

/-- 'bibelotlaw03.HanoiFrameWays': WHATEVER THE INPUT: true; the input reads as it did. -/
def hanoiFrameWaysSpec : ChangeSpec := { name := "hanoiFrameWays", fn := fun _ => fun
  | [d1, d2] => { results := [.lit (.bool true)], args := [d1, d2] }
  | _ => none }
def hanoiFrameWaysRow : OpenClaim := { program := "ytnaaomhmoamfpaadoor", sum := "29242faac574a317805a0061ece47b9c12857844fdcd29ba331640847a6b3e59", func := "bibelot/bibelotlaw03.HanoiFrameWays", spec := "hanoiFrameWays", inPlace := ["internal/bytealg.IndexByteString", "internal/bytealg.IndexString", "internal/abi.NoEscape"], unfollowed := true, recurses := true, named := ["unicode/utf8.first", "unicode/utf8.acceptRanges", "internal/bytealg.MaxLen"], plainKeys := false, apart := false, laid := [("unicode/utf8.acceptRanges", laid_unicode_utf8_acceptRanges), ("unicode/utf8.first", laid_unicode_utf8_first)] }
def HanoiFrameWaysSaid : Prop := hanoiFrameWaysRow.holds Tryd.pinned (OpenSpec.ofChange hanoiFrameWaysSpec)

/-- ITS FALSE NEIGHBOUR: 'it returns false'. Refute it at one input. -/
def hanoiFrameWaysWrong : ChangeSpec := { name := "hanoiFrameWays", fn := fun _ => fun
  | [d1, d2] => { results := [.lit (.bool false)], args := [d1, d2] }
  | _ => none }
def HanoiFrameWaysWrongFalsely : Prop := hanoiFrameWaysRow.holds Tryd.pinned (OpenSpec.ofChange hanoiFrameWaysWrong)

/-- 'bibelotlaw03.HanoiMetric': WHATEVER THE INPUT: true; the input reads as it did. -/
def hanoiMetricSpec : ChangeSpec := { name := "hanoiMetric", fn := fun _ => fun
  | [d1, d2, d3] => { results := [.lit (.bool true)], args := [d1, d2, d3] }
  | _ => none }
def hanoiMetricRow : OpenClaim := { program := "ytnaaomhmoamfpaadoor", sum := "29242faac574a317805a0061ece47b9c12857844fdcd29ba331640847a6b3e59", func := "bibelot/bibelotlaw03.HanoiMetric", spec := "hanoiMetric", inPlace := ["internal/bytealg.IndexByteString", "internal/bytealg.IndexString", "internal/abi.NoEscape"], unfollowed := true, recurses := true, named := ["unicode/utf8.first", "unicode/utf8.acceptRanges", "internal/bytealg.MaxLen"], plainKeys := false, apart := false, laid := [("unicode/utf8.acceptRanges", laid_unicode_utf8_acceptRanges), ("unicode/utf8.first", laid_unicode_utf8_first)] }
def HanoiMetricSaid : Prop := hanoiMetricRow.holds Tryd.pinned (OpenSpec.ofChange hanoiMetricSpec)

/-- ITS FALSE NEIGHBOUR: 'it returns false'. Refute it at one input. -/
def hanoiMetricWrong : ChangeSpec := { name := "hanoiMetric", fn := fun _ => fun
  | [d1, d2, d3] => { results := [.lit (.bool false)], args := [d1, d2, d3] }
  | _ => none }
def HanoiMetricWrongFalsely : Prop := hanoiMetricRow.holds Tryd.pinned (OpenSpec.ofChange hanoiMetricWrong)

/-- 'bibelotlaw03.HanoiWays': WHATEVER THE INPUT: true; the input reads as it did. -/
def hanoiWaysSpec : ChangeSpec := { name := "hanoiWays", fn := fun _ => fun
  | [d1, d2, d3] => { results := [.lit (.bool true)], args := [d1, d2, d3] }
  | _ => none }
def hanoiWaysRow : OpenClaim := { program := "ytnaaomhmoamfpaadoor", sum := "29242faac574a317805a0061ece47b9c12857844fdcd29ba331640847a6b3e59", func := "bibelot/bibelotlaw03.HanoiWays", spec := "hanoiWays", inPlace := ["internal/bytealg.IndexByteString", "internal/bytealg.IndexString", "internal/abi.NoEscape"], unfollowed := true, recurses := true, named := ["unicode/utf8.first", "unicode/utf8.acceptRanges", "internal/bytealg.MaxLen"], plainKeys := false, apart := false, laid := [("unicode/utf8.acceptRanges", laid_unicode_utf8_acceptRanges), ("unicode/utf8.first", laid_unicode_utf8_first)] }
def HanoiWaysSaid : Prop := hanoiWaysRow.holds Tryd.pinned (OpenSpec.ofChange hanoiWaysSpec)

/-- ITS FALSE NEIGHBOUR: 'it returns false'. Refute it at one input. -/
def hanoiWaysWrong : ChangeSpec := { name := "hanoiWays", fn := fun _ => fun
  | [d1, d2, d3] => { results := [.lit (.bool false)], args := [d1, d2, d3] }
  | _ => none }
def HanoiWaysWrongFalsely : Prop := hanoiWaysRow.holds Tryd.pinned (OpenSpec.ofChange hanoiWaysWrong)

/-- 'bibelotlaw03.HanoiTwo': WHATEVER THE INPUT: true; the input reads as it did. -/
def hanoiTwoSpec : ChangeSpec := { name := "hanoiTwo", fn := fun _ => fun
  | [d1, d2, d3] => { results := [.lit (.bool true)], args := [d1, d2, d3] }
  | _ => none }
def hanoiTwoRow : OpenClaim := { program := "ytnaaomhmoamfpaadoor", sum := "29242faac574a317805a0061ece47b9c12857844fdcd29ba331640847a6b3e59", func := "bibelot/bibelotlaw03.HanoiTwo", spec := "hanoiTwo", inPlace := ["internal/bytealg.IndexByteString", "internal/bytealg.IndexString", "internal/abi.NoEscape"], unfollowed := true, recurses := true, named := ["unicode/utf8.first", "unicode/utf8.acceptRanges", "internal/bytealg.MaxLen"], plainKeys := false, apart := false, laid := [("unicode/utf8.acceptRanges", laid_unicode_utf8_acceptRanges), ("unicode/utf8.first", laid_unicode_utf8_first)] }
def HanoiTwoSaid : Prop := hanoiTwoRow.holds Tryd.pinned (OpenSpec.ofChange hanoiTwoSpec)

/-- ITS FALSE NEIGHBOUR: 'it returns false'. Refute it at one input. -/
def hanoiTwoWrong : ChangeSpec := { name := "hanoiTwo", fn := fun _ => fun
  | [d1, d2, d3] => { results := [.lit (.bool false)], args := [d1, d2, d3] }
  | _ => none }
def HanoiTwoWrongFalsely : Prop := hanoiTwoRow.holds Tryd.pinned (OpenSpec.ofChange hanoiTwoWrong)

/-- 'bibelotlaw03.HanoiOwn': WHATEVER THE INPUT: true; the input reads as it did. -/
def hanoiOwnSpec : ChangeSpec := { name := "hanoiOwn", fn := fun _ => fun
  | [d1, d2, d3] => { results := [.lit (.bool true)], args := [d1, d2, d3] }
  | _ => none }
def hanoiOwnRow : OpenClaim := { program := "ytnaaomhmoamfpaadoor", sum := "29242faac574a317805a0061ece47b9c12857844fdcd29ba331640847a6b3e59", func := "bibelot/bibelotlaw03.HanoiOwn", spec := "hanoiOwn", inPlace := ["internal/bytealg.IndexByteString", "internal/bytealg.IndexString", "internal/abi.NoEscape"], unfollowed := true, recurses := true, named := ["unicode/utf8.first", "unicode/utf8.acceptRanges", "internal/bytealg.MaxLen"], plainKeys := false, apart := false, laid := [("unicode/utf8.acceptRanges", laid_unicode_utf8_acceptRanges), ("unicode/utf8.first", laid_unicode_utf8_first)] }
def HanoiOwnSaid : Prop := hanoiOwnRow.holds Tryd.pinned (OpenSpec.ofChange hanoiOwnSpec)

/-- ITS FALSE NEIGHBOUR: 'it returns false'. Refute it at one input. -/
def hanoiOwnWrong : ChangeSpec := { name := "hanoiOwn", fn := fun _ => fun
  | [d1, d2, d3] => { results := [.lit (.bool false)], args := [d1, d2, d3] }
  | _ => none }
def HanoiOwnWrongFalsely : Prop := hanoiOwnRow.holds Tryd.pinned (OpenSpec.ofChange hanoiOwnWrong)

/-- 'bibelotlaw03.HanoiChecks': WHATEVER THE INPUT: true; the input reads as it did. -/
def hanoiChecksSpec : ChangeSpec := { name := "hanoiChecks", fn := fun _ => fun
  | [d1, d2] => { results := [.lit (.bool true)], args := [d1, d2] }
  | _ => none }
def hanoiChecksRow : OpenClaim := { program := "ytnaaomhmoamfpaadoor", sum := "29242faac574a317805a0061ece47b9c12857844fdcd29ba331640847a6b3e59", func := "bibelot/bibelotlaw03.HanoiChecks", spec := "hanoiChecks", inPlace := ["internal/bytealg.IndexByteString", "internal/bytealg.IndexString", "internal/abi.NoEscape"], unfollowed := true, recurses := true, named := ["unicode/utf8.first", "unicode/utf8.acceptRanges", "internal/bytealg.MaxLen"], plainKeys := false, apart := false, laid := [("unicode/utf8.acceptRanges", laid_unicode_utf8_acceptRanges), ("unicode/utf8.first", laid_unicode_utf8_first)] }
def HanoiChecksSaid : Prop := hanoiChecksRow.holds Tryd.pinned (OpenSpec.ofChange hanoiChecksSpec)

/-- ITS FALSE NEIGHBOUR: 'it returns false'. Refute it at one input. -/
def hanoiChecksWrong : ChangeSpec := { name := "hanoiChecks", fn := fun _ => fun
  | [d1, d2] => { results := [.lit (.bool false)], args := [d1, d2] }
  | _ => none }
def HanoiChecksWrongFalsely : Prop := hanoiChecksRow.holds Tryd.pinned (OpenSpec.ofChange hanoiChecksWrong)

/- THE SECOND FORM. 'bulk': how many values and letters a reading holds, each counted each time it is reached (what is shared counts as often as it is met; a slice's spare places count too). A statement '..UptoSaid' is the law's where the arguments, and the package variables that the reading takes, are together of bulk at most 1048576: NARROWER than '..Said'. Prove '..Said' where nothing that the law and all that it calls make is longer than what came in: it says more and counts as full. Else prove '..UptoSaid'. A law counts once. -/
mutual
def uptoBulk {H : Type} : DataW H → Nat
  | .lit (.string bytes) => bytes.length + 1
  | .lit _ => 1
  | .nil => 1
  | .ptr d => uptoBulk d + 1
  | .slice elems spare => uptoBulkAll elems + uptoBulkAll spare + 1
  | .agg parts => uptoBulkAll parts + 1
  | .iface _ d => uptoBulk d + 1
  | .map entries => uptoBulkEntries entries + 1
  | .held _ => 1
def uptoBulkAll {H : Type} : List (DataW H) → Nat
  | [] => 0
  | d :: r => uptoBulk d + uptoBulkAll r
def uptoBulkEntries {H : Type} : List (Lit × DataW H) → Nat
  | [] => 0
  | x :: r => uptoBulkEntry x + uptoBulkEntries r
def uptoBulkEntry {H : Type} : Lit × DataW H → Nat
  | (.string bytes, d) => bytes.length + uptoBulk d + 1
  | (_, d) => uptoBulk d + 1
 end
def uptoSmall : (H : Type) → List (DataW H) → Bool := fun _ ds => decide (uptoBulkAll ds ≤ 1048576)
def OpenSpec.upto (s : _root_.Go.ChangeSpec) : _root_.Go.OpenSpec := { _root_.Go.OpenSpec.ofChange s with cond := some uptoSmall }

/-- 'bibelotlaw03.HanoiTotals', WHERE WHAT IT READS IS OF BULK AT MOST 1048576: true; the input reads as it did. -/
def hanoiTotalsUptoRow : OpenClaim := { program := "ytnaaomhmoamfpaadoor", sum := "29242faac574a317805a0061ece47b9c12857844fdcd29ba331640847a6b3e59", func := "bibelot/bibelotlaw03.HanoiTotals", spec := "hanoiTotals", inPlace := ["internal/bytealg.IndexByteString", "internal/bytealg.IndexString", "internal/abi.NoEscape"], unfollowed := true, recurses := true, named := ["unicode/utf8.first", "unicode/utf8.acceptRanges", "internal/bytealg.MaxLen"], plainKeys := false, apart := false, laid := [("unicode/utf8.acceptRanges", laid_unicode_utf8_acceptRanges), ("unicode/utf8.first", laid_unicode_utf8_first)], narrowed := true }
def HanoiTotalsUptoSaid : Prop := hanoiTotalsUptoRow.holds Tryd.pinned (OpenSpec.upto hanoiTotalsSpec)

/-- 'bibelotlaw03.HanoiFrames', WHERE WHAT IT READS IS OF BULK AT MOST 1048576: true; the input reads as it did. -/
def hanoiFramesUptoRow : OpenClaim := { program := "ytnaaomhmoamfpaadoor", sum := "29242faac574a317805a0061ece47b9c12857844fdcd29ba331640847a6b3e59", func := "bibelot/bibelotlaw03.HanoiFrames", spec := "hanoiFrames", inPlace := ["internal/bytealg.IndexByteString", "internal/bytealg.IndexString", "internal/abi.NoEscape"], unfollowed := true, recurses := true, named := ["unicode/utf8.first", "unicode/utf8.acceptRanges", "internal/bytealg.MaxLen"], plainKeys := false, apart := false, laid := [("unicode/utf8.acceptRanges", laid_unicode_utf8_acceptRanges), ("unicode/utf8.first", laid_unicode_utf8_first)], narrowed := true }
def HanoiFramesUptoSaid : Prop := hanoiFramesUptoRow.holds Tryd.pinned (OpenSpec.upto hanoiFramesSpec)

/-- 'bibelotlaw03.HanoiFewest', WHERE WHAT IT READS IS OF BULK AT MOST 1048576: true; the input reads as it did. -/
def hanoiFewestUptoRow : OpenClaim := { program := "ytnaaomhmoamfpaadoor", sum := "29242faac574a317805a0061ece47b9c12857844fdcd29ba331640847a6b3e59", func := "bibelot/bibelotlaw03.HanoiFewest", spec := "hanoiFewest", inPlace := ["internal/bytealg.IndexByteString", "internal/bytealg.IndexString", "internal/abi.NoEscape"], unfollowed := true, recurses := true, named := ["unicode/utf8.first", "unicode/utf8.acceptRanges", "internal/bytealg.MaxLen"], plainKeys := false, apart := false, laid := [("unicode/utf8.acceptRanges", laid_unicode_utf8_acceptRanges), ("unicode/utf8.first", laid_unicode_utf8_first)], narrowed := true }
def HanoiFewestUptoSaid : Prop := hanoiFewestUptoRow.holds Tryd.pinned (OpenSpec.upto hanoiFewestSpec)

/-- 'bibelotlaw03.HanoiUnranks', WHERE WHAT IT READS IS OF BULK AT MOST 1048576: true; the input reads as it did. -/
def hanoiUnranksUptoRow : OpenClaim := { program := "ytnaaomhmoamfpaadoor", sum := "29242faac574a317805a0061ece47b9c12857844fdcd29ba331640847a6b3e59", func := "bibelot/bibelotlaw03.HanoiUnranks", spec := "hanoiUnranks", inPlace := ["internal/abi.NoEscape", "internal/bytealg.IndexByteString", "internal/bytealg.IndexString"], unfollowed := true, recurses := true, named := ["unicode/utf8.first", "unicode/utf8.acceptRanges", "internal/bytealg.MaxLen"], plainKeys := false, apart := false, laid := [("unicode/utf8.acceptRanges", laid_unicode_utf8_acceptRanges), ("unicode/utf8.first", laid_unicode_utf8_first)], narrowed := true }
def HanoiUnranksUptoSaid : Prop := hanoiUnranksUptoRow.holds Tryd.pinned (OpenSpec.upto hanoiUnranksSpec)

/-- 'bibelotlaw03.HanoiStewart', WHERE WHAT IT READS IS OF BULK AT MOST 1048576: true; the input reads as it did. -/
def hanoiStewartUptoRow : OpenClaim := { program := "ytnaaomhmoamfpaadoor", sum := "29242faac574a317805a0061ece47b9c12857844fdcd29ba331640847a6b3e59", func := "bibelot/bibelotlaw03.HanoiStewart", spec := "hanoiStewart", inPlace := ["internal/bytealg.IndexByteString", "internal/bytealg.IndexString", "internal/abi.NoEscape"], unfollowed := true, recurses := true, named := ["unicode/utf8.first", "unicode/utf8.acceptRanges", "internal/bytealg.MaxLen"], plainKeys := false, apart := false, laid := [("unicode/utf8.acceptRanges", laid_unicode_utf8_acceptRanges), ("unicode/utf8.first", laid_unicode_utf8_first)], narrowed := true }
def HanoiStewartUptoSaid : Prop := hanoiStewartUptoRow.holds Tryd.pinned (OpenSpec.upto hanoiStewartSpec)

/-- 'bibelotlaw03.HanoiBetween', WHERE WHAT IT READS IS OF BULK AT MOST 1048576: true; the input reads as it did. -/
def hanoiBetweenUptoRow : OpenClaim := { program := "ytnaaomhmoamfpaadoor", sum := "29242faac574a317805a0061ece47b9c12857844fdcd29ba331640847a6b3e59", func := "bibelot/bibelotlaw03.HanoiBetween", spec := "hanoiBetween", inPlace := ["internal/bytealg.IndexByteString", "internal/bytealg.IndexString", "internal/abi.NoEscape"], unfollowed := true, recurses := true, named := ["unicode/utf8.first", "unicode/utf8.acceptRanges", "internal/bytealg.MaxLen"], plainKeys := false, apart := false, laid := [("unicode/utf8.acceptRanges", laid_unicode_utf8_acceptRanges), ("unicode/utf8.first", laid_unicode_utf8_first)], narrowed := true }
def HanoiBetweenUptoSaid : Prop := hanoiBetweenUptoRow.holds Tryd.pinned (OpenSpec.upto hanoiBetweenSpec)

/-- 'bibelotlaw03.HanoiMoves', WHERE WHAT IT READS IS OF BULK AT MOST 1048576: true; the input reads as it did. -/
def hanoiMovesUptoRow : OpenClaim := { program := "ytnaaomhmoamfpaadoor", sum := "29242faac574a317805a0061ece47b9c12857844fdcd29ba331640847a6b3e59", func := "bibelot/bibelotlaw03.HanoiMoves", spec := "hanoiMoves", inPlace := ["internal/bytealg.IndexByteString", "internal/bytealg.IndexString", "internal/abi.NoEscape"], unfollowed := true, recurses := true, named := ["unicode/utf8.first", "unicode/utf8.acceptRanges", "internal/bytealg.MaxLen"], plainKeys := false, apart := false, laid := [("unicode/utf8.acceptRanges", laid_unicode_utf8_acceptRanges), ("unicode/utf8.first", laid_unicode_utf8_first)], narrowed := true }
def HanoiMovesUptoSaid : Prop := hanoiMovesUptoRow.holds Tryd.pinned (OpenSpec.upto hanoiMovesSpec)

/-- 'bibelotlaw03.HanoiFarthest', WHERE WHAT IT READS IS OF BULK AT MOST 1048576: true; the input reads as it did. -/
def hanoiFarthestUptoRow : OpenClaim := { program := "ytnaaomhmoamfpaadoor", sum := "29242faac574a317805a0061ece47b9c12857844fdcd29ba331640847a6b3e59", func := "bibelot/bibelotlaw03.HanoiFarthest", spec := "hanoiFarthest", inPlace := ["internal/bytealg.IndexByteString", "internal/bytealg.IndexString", "internal/abi.NoEscape"], unfollowed := true, recurses := true, named := ["unicode/utf8.first", "unicode/utf8.acceptRanges", "internal/bytealg.MaxLen"], plainKeys := false, apart := false, laid := [("unicode/utf8.acceptRanges", laid_unicode_utf8_acceptRanges), ("unicode/utf8.first", laid_unicode_utf8_first)], narrowed := true }
def HanoiFarthestUptoSaid : Prop := hanoiFarthestUptoRow.holds Tryd.pinned (OpenSpec.upto hanoiFarthestSpec)

/-- 'bibelotlaw03.HanoiAll', WHERE WHAT IT READS IS OF BULK AT MOST 1048576: true; the input reads as it did. -/
def hanoiAllUptoRow : OpenClaim := { program := "ytnaaomhmoamfpaadoor", sum := "29242faac574a317805a0061ece47b9c12857844fdcd29ba331640847a6b3e59", func := "bibelot/bibelotlaw03.HanoiAll", spec := "hanoiAll", inPlace := ["internal/bytealg.IndexByteString", "internal/bytealg.IndexString", "internal/abi.NoEscape"], unfollowed := true, recurses := true, named := ["unicode/utf8.first", "unicode/utf8.acceptRanges", "internal/bytealg.MaxLen"], plainKeys := false, apart := false, laid := [("unicode/utf8.acceptRanges", laid_unicode_utf8_acceptRanges), ("unicode/utf8.first", laid_unicode_utf8_first)], narrowed := true }
def HanoiAllUptoSaid : Prop := hanoiAllUptoRow.holds Tryd.pinned (OpenSpec.upto hanoiAllSpec)

/-- 'bibelotlaw03.HanoiHinz', WHERE WHAT IT READS IS OF BULK AT MOST 1048576: true; the input reads as it did. -/
def hanoiHinzUptoRow : OpenClaim := { program := "ytnaaomhmoamfpaadoor", sum := "29242faac574a317805a0061ece47b9c12857844fdcd29ba331640847a6b3e59", func := "bibelot/bibelotlaw03.HanoiHinz", spec := "hanoiHinz", inPlace := ["internal/bytealg.IndexByteString", "internal/bytealg.IndexString", "internal/abi.NoEscape"], unfollowed := true, recurses := true, named := ["unicode/utf8.first", "unicode/utf8.acceptRanges", "internal/bytealg.MaxLen"], plainKeys := false, apart := false, laid := [("unicode/utf8.acceptRanges", laid_unicode_utf8_acceptRanges), ("unicode/utf8.first", laid_unicode_utf8_first)], narrowed := true }
def HanoiHinzUptoSaid : Prop := hanoiHinzUptoRow.holds Tryd.pinned (OpenSpec.upto hanoiHinzSpec)

/-- 'bibelotlaw03.HanoiDistances', WHERE WHAT IT READS IS OF BULK AT MOST 1048576: true; the input reads as it did. -/
def hanoiDistancesUptoRow : OpenClaim := { program := "ytnaaomhmoamfpaadoor", sum := "29242faac574a317805a0061ece47b9c12857844fdcd29ba331640847a6b3e59", func := "bibelot/bibelotlaw03.HanoiDistances", spec := "hanoiDistances", inPlace := ["internal/bytealg.IndexByteString", "internal/bytealg.IndexString", "internal/abi.NoEscape"], unfollowed := true, recurses := true, named := ["unicode/utf8.first", "unicode/utf8.acceptRanges", "internal/bytealg.MaxLen"], plainKeys := false, apart := false, laid := [("unicode/utf8.acceptRanges", laid_unicode_utf8_acceptRanges), ("unicode/utf8.first", laid_unicode_utf8_first)], narrowed := true }
def HanoiDistancesUptoSaid : Prop := hanoiDistancesUptoRow.holds Tryd.pinned (OpenSpec.upto hanoiDistancesSpec)

/-- 'bibelotlaw03.HanoiRings', WHERE WHAT IT READS IS OF BULK AT MOST 1048576: true; the input reads as it did. -/
def hanoiRingsUptoRow : OpenClaim := { program := "ytnaaomhmoamfpaadoor", sum := "29242faac574a317805a0061ece47b9c12857844fdcd29ba331640847a6b3e59", func := "bibelot/bibelotlaw03.HanoiRings", spec := "hanoiRings", inPlace := ["internal/bytealg.IndexByteString", "internal/bytealg.IndexString", "internal/abi.NoEscape"], unfollowed := true, recurses := true, named := ["unicode/utf8.first", "unicode/utf8.acceptRanges", "internal/bytealg.MaxLen"], plainKeys := false, apart := false, laid := [("unicode/utf8.acceptRanges", laid_unicode_utf8_acceptRanges), ("unicode/utf8.first", laid_unicode_utf8_first)], narrowed := true }
def HanoiRingsUptoSaid : Prop := hanoiRingsUptoRow.holds Tryd.pinned (OpenSpec.upto hanoiRingsSpec)

/-- 'bibelotlaw03.HanoiGros', WHERE WHAT IT READS IS OF BULK AT MOST 1048576: true; the input reads as it did. -/
def hanoiGrosUptoRow : OpenClaim := { program := "ytnaaomhmoamfpaadoor", sum := "29242faac574a317805a0061ece47b9c12857844fdcd29ba331640847a6b3e59", func := "bibelot/bibelotlaw03.HanoiGros", spec := "hanoiGros", inPlace := ["internal/bytealg.IndexByteString", "internal/bytealg.IndexString", "internal/abi.NoEscape"], unfollowed := true, recurses := true, named := ["unicode/utf8.first", "unicode/utf8.acceptRanges", "internal/bytealg.MaxLen"], plainKeys := false, apart := false, laid := [("unicode/utf8.acceptRanges", laid_unicode_utf8_acceptRanges), ("unicode/utf8.first", laid_unicode_utf8_first)], narrowed := true }
def HanoiGrosUptoSaid : Prop := hanoiGrosUptoRow.holds Tryd.pinned (OpenSpec.upto hanoiGrosSpec)

/-- 'bibelotlaw03.HanoiPlays', WHERE WHAT IT READS IS OF BULK AT MOST 1048576: true; the input reads as it did. -/
def hanoiPlaysUptoRow : OpenClaim := { program := "ytnaaomhmoamfpaadoor", sum := "29242faac574a317805a0061ece47b9c12857844fdcd29ba331640847a6b3e59", func := "bibelot/bibelotlaw03.HanoiPlays", spec := "hanoiPlays", inPlace := ["internal/bytealg.IndexByteString", "internal/bytealg.IndexString", "internal/abi.NoEscape"], unfollowed := true, recurses := true, named := ["unicode/utf8.first", "unicode/utf8.acceptRanges", "internal/bytealg.MaxLen"], plainKeys := false, apart := false, laid := [("unicode/utf8.acceptRanges", laid_unicode_utf8_acceptRanges), ("unicode/utf8.first", laid_unicode_utf8_first)], narrowed := true }
def HanoiPlaysUptoSaid : Prop := hanoiPlaysUptoRow.holds Tryd.pinned (OpenSpec.upto hanoiPlaysSpec)

/-- 'bibelotlaw03.HanoiFrameWays', WHERE WHAT IT READS IS OF BULK AT MOST 1048576: true; the input reads as it did. -/
def hanoiFrameWaysUptoRow : OpenClaim := { program := "ytnaaomhmoamfpaadoor", sum := "29242faac574a317805a0061ece47b9c12857844fdcd29ba331640847a6b3e59", func := "bibelot/bibelotlaw03.HanoiFrameWays", spec := "hanoiFrameWays", inPlace := ["internal/bytealg.IndexByteString", "internal/bytealg.IndexString", "internal/abi.NoEscape"], unfollowed := true, recurses := true, named := ["unicode/utf8.first", "unicode/utf8.acceptRanges", "internal/bytealg.MaxLen"], plainKeys := false, apart := false, laid := [("unicode/utf8.acceptRanges", laid_unicode_utf8_acceptRanges), ("unicode/utf8.first", laid_unicode_utf8_first)], narrowed := true }
def HanoiFrameWaysUptoSaid : Prop := hanoiFrameWaysUptoRow.holds Tryd.pinned (OpenSpec.upto hanoiFrameWaysSpec)

/-- 'bibelotlaw03.HanoiMetric', WHERE WHAT IT READS IS OF BULK AT MOST 1048576: true; the input reads as it did. -/
def hanoiMetricUptoRow : OpenClaim := { program := "ytnaaomhmoamfpaadoor", sum := "29242faac574a317805a0061ece47b9c12857844fdcd29ba331640847a6b3e59", func := "bibelot/bibelotlaw03.HanoiMetric", spec := "hanoiMetric", inPlace := ["internal/bytealg.IndexByteString", "internal/bytealg.IndexString", "internal/abi.NoEscape"], unfollowed := true, recurses := true, named := ["unicode/utf8.first", "unicode/utf8.acceptRanges", "internal/bytealg.MaxLen"], plainKeys := false, apart := false, laid := [("unicode/utf8.acceptRanges", laid_unicode_utf8_acceptRanges), ("unicode/utf8.first", laid_unicode_utf8_first)], narrowed := true }
def HanoiMetricUptoSaid : Prop := hanoiMetricUptoRow.holds Tryd.pinned (OpenSpec.upto hanoiMetricSpec)

/-- 'bibelotlaw03.HanoiWays', WHERE WHAT IT READS IS OF BULK AT MOST 1048576: true; the input reads as it did. -/
def hanoiWaysUptoRow : OpenClaim := { program := "ytnaaomhmoamfpaadoor", sum := "29242faac574a317805a0061ece47b9c12857844fdcd29ba331640847a6b3e59", func := "bibelot/bibelotlaw03.HanoiWays", spec := "hanoiWays", inPlace := ["internal/bytealg.IndexByteString", "internal/bytealg.IndexString", "internal/abi.NoEscape"], unfollowed := true, recurses := true, named := ["unicode/utf8.first", "unicode/utf8.acceptRanges", "internal/bytealg.MaxLen"], plainKeys := false, apart := false, laid := [("unicode/utf8.acceptRanges", laid_unicode_utf8_acceptRanges), ("unicode/utf8.first", laid_unicode_utf8_first)], narrowed := true }
def HanoiWaysUptoSaid : Prop := hanoiWaysUptoRow.holds Tryd.pinned (OpenSpec.upto hanoiWaysSpec)

/-- 'bibelotlaw03.HanoiTwo', WHERE WHAT IT READS IS OF BULK AT MOST 1048576: true; the input reads as it did. -/
def hanoiTwoUptoRow : OpenClaim := { program := "ytnaaomhmoamfpaadoor", sum := "29242faac574a317805a0061ece47b9c12857844fdcd29ba331640847a6b3e59", func := "bibelot/bibelotlaw03.HanoiTwo", spec := "hanoiTwo", inPlace := ["internal/bytealg.IndexByteString", "internal/bytealg.IndexString", "internal/abi.NoEscape"], unfollowed := true, recurses := true, named := ["unicode/utf8.first", "unicode/utf8.acceptRanges", "internal/bytealg.MaxLen"], plainKeys := false, apart := false, laid := [("unicode/utf8.acceptRanges", laid_unicode_utf8_acceptRanges), ("unicode/utf8.first", laid_unicode_utf8_first)], narrowed := true }
def HanoiTwoUptoSaid : Prop := hanoiTwoUptoRow.holds Tryd.pinned (OpenSpec.upto hanoiTwoSpec)

/-- 'bibelotlaw03.HanoiOwn', WHERE WHAT IT READS IS OF BULK AT MOST 1048576: true; the input reads as it did. -/
def hanoiOwnUptoRow : OpenClaim := { program := "ytnaaomhmoamfpaadoor", sum := "29242faac574a317805a0061ece47b9c12857844fdcd29ba331640847a6b3e59", func := "bibelot/bibelotlaw03.HanoiOwn", spec := "hanoiOwn", inPlace := ["internal/bytealg.IndexByteString", "internal/bytealg.IndexString", "internal/abi.NoEscape"], unfollowed := true, recurses := true, named := ["unicode/utf8.first", "unicode/utf8.acceptRanges", "internal/bytealg.MaxLen"], plainKeys := false, apart := false, laid := [("unicode/utf8.acceptRanges", laid_unicode_utf8_acceptRanges), ("unicode/utf8.first", laid_unicode_utf8_first)], narrowed := true }
def HanoiOwnUptoSaid : Prop := hanoiOwnUptoRow.holds Tryd.pinned (OpenSpec.upto hanoiOwnSpec)

/-- 'bibelotlaw03.HanoiChecks', WHERE WHAT IT READS IS OF BULK AT MOST 1048576: true; the input reads as it did. -/
def hanoiChecksUptoRow : OpenClaim := { program := "ytnaaomhmoamfpaadoor", sum := "29242faac574a317805a0061ece47b9c12857844fdcd29ba331640847a6b3e59", func := "bibelot/bibelotlaw03.HanoiChecks", spec := "hanoiChecks", inPlace := ["internal/bytealg.IndexByteString", "internal/bytealg.IndexString", "internal/abi.NoEscape"], unfollowed := true, recurses := true, named := ["unicode/utf8.first", "unicode/utf8.acceptRanges", "internal/bytealg.MaxLen"], plainKeys := false, apart := false, laid := [("unicode/utf8.acceptRanges", laid_unicode_utf8_acceptRanges), ("unicode/utf8.first", laid_unicode_utf8_first)], narrowed := true }
def HanoiChecksUptoSaid : Prop := hanoiChecksUptoRow.holds Tryd.pinned (OpenSpec.upto hanoiChecksSpec)

end Rows
end Go.Proofs.YtnaaomhmoamfpaaDoor
