/-
  DERIVED. GIVEN WITH THE SEED: THE CARDS: each row of YtnaaomhmoamfpaaDoorRows.lean that lists a variable, with what it lists TIED to the program's text (the seventh form; the later family's looks); each row that meets fmt, with fmt's text TOLD by the authors' own Lean function (tested against real Go, not proved from fmt's source: count such statements apart). THE CARD IS WHAT COUNTS. Prove the row's statement (the work); the ties are given (YtnaaomhmoamfpaaDoorTie.lean); close each card by the builder's one call (the guide's Derived/Test/ToyasCard.lean, 'card_holds'). Laid BY PROGRAM, IN A SANDBOX (cutbox-door.mjs). By AI agents, Wed Nov 11 2026. No macro, syntax, notation, axiom, sorry.
-/
import Derived.Test.YtnaaomhmoamfpaaDoorRows
import GoSem.ClaimSeven
namespace Go.Proofs.YtnaaomhmoamfpaaDoor
namespace Rows

/-- THE TIED CARD OF 'bibelotlaw03.HanoiTotals'. -/
def hanoiTotalsCard : Claim7 := { stood := { row := hanoiTotalsRow, standIns := [], harness := (true, "0b7658f01de11f64729abe891a45aecbcd4033d7a27c0b02aab61465db0a64af"), looks := false }, kinds := [], alts := [], laidByText := true, laidKinds := [.data, .pinned], laidTests := true, laidLooks := .later }
def HanoiTotalsCardSaid : Prop := Claim7.holds Tryd.pinned (.plain (OpenSpec.ofChange hanoiTotalsSpec)) hanoiTotalsCard

/-- THE TIED CARD OF 'bibelotlaw03.HanoiFrames'. -/
def hanoiFramesCard : Claim7 := { stood := { row := hanoiFramesRow, standIns := [], harness := (true, "0b7658f01de11f64729abe891a45aecbcd4033d7a27c0b02aab61465db0a64af"), looks := false }, kinds := [], alts := [], laidByText := true, laidKinds := [.data, .pinned], laidTests := true, laidLooks := .later }
def HanoiFramesCardSaid : Prop := Claim7.holds Tryd.pinned (.plain (OpenSpec.ofChange hanoiFramesSpec)) hanoiFramesCard

/-- THE TIED CARD OF 'bibelotlaw03.HanoiFewest'. -/
def hanoiFewestCard : Claim7 := { stood := { row := hanoiFewestRow, standIns := [], harness := (true, "0b7658f01de11f64729abe891a45aecbcd4033d7a27c0b02aab61465db0a64af"), looks := false }, kinds := [], alts := [], laidByText := true, laidKinds := [.data, .pinned], laidTests := true, laidLooks := .later }
def HanoiFewestCardSaid : Prop := Claim7.holds Tryd.pinned (.plain (OpenSpec.ofChange hanoiFewestSpec)) hanoiFewestCard

/-- THE TIED CARD OF 'bibelotlaw03.HanoiUnranks'. -/
def hanoiUnranksCard : Claim7 := { stood := { row := hanoiUnranksRow, standIns := [], harness := (true, "0b7658f01de11f64729abe891a45aecbcd4033d7a27c0b02aab61465db0a64af"), looks := false }, kinds := [], alts := [], laidByText := true, laidKinds := [.data, .pinned], laidTests := true, laidLooks := .later }
def HanoiUnranksCardSaid : Prop := Claim7.holds Tryd.pinned (.plain (OpenSpec.ofChange hanoiUnranksSpec)) hanoiUnranksCard

/-- THE TIED CARD OF 'bibelotlaw03.HanoiStewart'. -/
def hanoiStewartCard : Claim7 := { stood := { row := hanoiStewartRow, standIns := [], harness := (true, "0b7658f01de11f64729abe891a45aecbcd4033d7a27c0b02aab61465db0a64af"), looks := false }, kinds := [], alts := [], laidByText := true, laidKinds := [.data, .pinned], laidTests := true, laidLooks := .later }
def HanoiStewartCardSaid : Prop := Claim7.holds Tryd.pinned (.plain (OpenSpec.ofChange hanoiStewartSpec)) hanoiStewartCard

/-- THE TIED CARD OF 'bibelotlaw03.HanoiBetween'. -/
def hanoiBetweenCard : Claim7 := { stood := { row := hanoiBetweenRow, standIns := [], harness := (true, "0b7658f01de11f64729abe891a45aecbcd4033d7a27c0b02aab61465db0a64af"), looks := false }, kinds := [], alts := [], laidByText := true, laidKinds := [.data, .pinned], laidTests := true, laidLooks := .later }
def HanoiBetweenCardSaid : Prop := Claim7.holds Tryd.pinned (.plain (OpenSpec.ofChange hanoiBetweenSpec)) hanoiBetweenCard

/-- THE TIED CARD OF 'bibelotlaw03.HanoiMoves'. -/
def hanoiMovesCard : Claim7 := { stood := { row := hanoiMovesRow, standIns := [], harness := (true, "0b7658f01de11f64729abe891a45aecbcd4033d7a27c0b02aab61465db0a64af"), looks := false }, kinds := [], alts := [], laidByText := true, laidKinds := [.data, .pinned], laidTests := true, laidLooks := .later }
def HanoiMovesCardSaid : Prop := Claim7.holds Tryd.pinned (.plain (OpenSpec.ofChange hanoiMovesSpec)) hanoiMovesCard

/-- THE TIED CARD OF 'bibelotlaw03.HanoiFarthest'. -/
def hanoiFarthestCard : Claim7 := { stood := { row := hanoiFarthestRow, standIns := [], harness := (true, "0b7658f01de11f64729abe891a45aecbcd4033d7a27c0b02aab61465db0a64af"), looks := false }, kinds := [], alts := [], laidByText := true, laidKinds := [.data, .pinned], laidTests := true, laidLooks := .later }
def HanoiFarthestCardSaid : Prop := Claim7.holds Tryd.pinned (.plain (OpenSpec.ofChange hanoiFarthestSpec)) hanoiFarthestCard

/-- THE TIED CARD OF 'bibelotlaw03.HanoiAll'. -/
def hanoiAllCard : Claim7 := { stood := { row := hanoiAllRow, standIns := [], harness := (true, "0b7658f01de11f64729abe891a45aecbcd4033d7a27c0b02aab61465db0a64af"), looks := false }, kinds := [], alts := [], laidByText := true, laidKinds := [.data, .pinned], laidTests := true, laidLooks := .later }
def HanoiAllCardSaid : Prop := Claim7.holds Tryd.pinned (.plain (OpenSpec.ofChange hanoiAllSpec)) hanoiAllCard

/-- THE TIED CARD OF 'bibelotlaw03.HanoiHinz'. -/
def hanoiHinzCard : Claim7 := { stood := { row := hanoiHinzRow, standIns := [], harness := (true, "0b7658f01de11f64729abe891a45aecbcd4033d7a27c0b02aab61465db0a64af"), looks := false }, kinds := [], alts := [], laidByText := true, laidKinds := [.data, .pinned], laidTests := true, laidLooks := .later }
def HanoiHinzCardSaid : Prop := Claim7.holds Tryd.pinned (.plain (OpenSpec.ofChange hanoiHinzSpec)) hanoiHinzCard

/-- THE TIED CARD OF 'bibelotlaw03.HanoiDistances'. -/
def hanoiDistancesCard : Claim7 := { stood := { row := hanoiDistancesRow, standIns := [], harness := (true, "0b7658f01de11f64729abe891a45aecbcd4033d7a27c0b02aab61465db0a64af"), looks := false }, kinds := [], alts := [], laidByText := true, laidKinds := [.data, .pinned], laidTests := true, laidLooks := .later }
def HanoiDistancesCardSaid : Prop := Claim7.holds Tryd.pinned (.plain (OpenSpec.ofChange hanoiDistancesSpec)) hanoiDistancesCard

/-- THE TIED CARD OF 'bibelotlaw03.HanoiRings'. -/
def hanoiRingsCard : Claim7 := { stood := { row := hanoiRingsRow, standIns := [], harness := (true, "0b7658f01de11f64729abe891a45aecbcd4033d7a27c0b02aab61465db0a64af"), looks := false }, kinds := [], alts := [], laidByText := true, laidKinds := [.data, .pinned], laidTests := true, laidLooks := .later }
def HanoiRingsCardSaid : Prop := Claim7.holds Tryd.pinned (.plain (OpenSpec.ofChange hanoiRingsSpec)) hanoiRingsCard

/-- THE TIED CARD OF 'bibelotlaw03.HanoiGros'. -/
def hanoiGrosCard : Claim7 := { stood := { row := hanoiGrosRow, standIns := [], harness := (true, "0b7658f01de11f64729abe891a45aecbcd4033d7a27c0b02aab61465db0a64af"), looks := false }, kinds := [], alts := [], laidByText := true, laidKinds := [.data, .pinned], laidTests := true, laidLooks := .later }
def HanoiGrosCardSaid : Prop := Claim7.holds Tryd.pinned (.plain (OpenSpec.ofChange hanoiGrosSpec)) hanoiGrosCard

/-- THE TIED CARD OF 'bibelotlaw03.HanoiPlays'. -/
def hanoiPlaysCard : Claim7 := { stood := { row := hanoiPlaysRow, standIns := [], harness := (true, "0b7658f01de11f64729abe891a45aecbcd4033d7a27c0b02aab61465db0a64af"), looks := false }, kinds := [], alts := [], laidByText := true, laidKinds := [.data, .pinned], laidTests := true, laidLooks := .later }
def HanoiPlaysCardSaid : Prop := Claim7.holds Tryd.pinned (.plain (OpenSpec.ofChange hanoiPlaysSpec)) hanoiPlaysCard

/-- THE TIED CARD OF 'bibelotlaw03.HanoiFrameWays'. -/
def hanoiFrameWaysCard : Claim7 := { stood := { row := hanoiFrameWaysRow, standIns := [], harness := (true, "0b7658f01de11f64729abe891a45aecbcd4033d7a27c0b02aab61465db0a64af"), looks := false }, kinds := [], alts := [], laidByText := true, laidKinds := [.data, .pinned], laidTests := true, laidLooks := .later }
def HanoiFrameWaysCardSaid : Prop := Claim7.holds Tryd.pinned (.plain (OpenSpec.ofChange hanoiFrameWaysSpec)) hanoiFrameWaysCard

/-- THE TIED CARD OF 'bibelotlaw03.HanoiMetric'. -/
def hanoiMetricCard : Claim7 := { stood := { row := hanoiMetricRow, standIns := [], harness := (true, "0b7658f01de11f64729abe891a45aecbcd4033d7a27c0b02aab61465db0a64af"), looks := false }, kinds := [], alts := [], laidByText := true, laidKinds := [.data, .pinned], laidTests := true, laidLooks := .later }
def HanoiMetricCardSaid : Prop := Claim7.holds Tryd.pinned (.plain (OpenSpec.ofChange hanoiMetricSpec)) hanoiMetricCard

/-- THE TIED CARD OF 'bibelotlaw03.HanoiWays'. -/
def hanoiWaysCard : Claim7 := { stood := { row := hanoiWaysRow, standIns := [], harness := (true, "0b7658f01de11f64729abe891a45aecbcd4033d7a27c0b02aab61465db0a64af"), looks := false }, kinds := [], alts := [], laidByText := true, laidKinds := [.data, .pinned], laidTests := true, laidLooks := .later }
def HanoiWaysCardSaid : Prop := Claim7.holds Tryd.pinned (.plain (OpenSpec.ofChange hanoiWaysSpec)) hanoiWaysCard

/-- THE TIED CARD OF 'bibelotlaw03.HanoiTwo'. -/
def hanoiTwoCard : Claim7 := { stood := { row := hanoiTwoRow, standIns := [], harness := (true, "0b7658f01de11f64729abe891a45aecbcd4033d7a27c0b02aab61465db0a64af"), looks := false }, kinds := [], alts := [], laidByText := true, laidKinds := [.data, .pinned], laidTests := true, laidLooks := .later }
def HanoiTwoCardSaid : Prop := Claim7.holds Tryd.pinned (.plain (OpenSpec.ofChange hanoiTwoSpec)) hanoiTwoCard

/-- THE TIED CARD OF 'bibelotlaw03.HanoiOwn'. -/
def hanoiOwnCard : Claim7 := { stood := { row := hanoiOwnRow, standIns := [], harness := (true, "0b7658f01de11f64729abe891a45aecbcd4033d7a27c0b02aab61465db0a64af"), looks := false }, kinds := [], alts := [], laidByText := true, laidKinds := [.data, .pinned], laidTests := true, laidLooks := .later }
def HanoiOwnCardSaid : Prop := Claim7.holds Tryd.pinned (.plain (OpenSpec.ofChange hanoiOwnSpec)) hanoiOwnCard

/-- THE TIED CARD OF 'bibelotlaw03.HanoiChecks'. -/
def hanoiChecksCard : Claim7 := { stood := { row := hanoiChecksRow, standIns := [], harness := (true, "0b7658f01de11f64729abe891a45aecbcd4033d7a27c0b02aab61465db0a64af"), looks := false }, kinds := [], alts := [], laidByText := true, laidKinds := [.data, .pinned], laidTests := true, laidLooks := .later }
def HanoiChecksCardSaid : Prop := Claim7.holds Tryd.pinned (.plain (OpenSpec.ofChange hanoiChecksSpec)) hanoiChecksCard

/-- THE SECOND FORM's CARD OF 'bibelotlaw03.HanoiTotals'. -/
def hanoiTotalsUptoCard : Claim7 := { stood := { row := hanoiTotalsUptoRow, standIns := [], harness := (true, "0b7658f01de11f64729abe891a45aecbcd4033d7a27c0b02aab61465db0a64af"), looks := false }, kinds := [], alts := [], laidByText := true, laidKinds := [.data, .pinned], laidTests := true, laidLooks := .later }
def HanoiTotalsUptoCardSaid : Prop := Claim7.holds Tryd.pinned (.plain (OpenSpec.upto hanoiTotalsSpec)) hanoiTotalsUptoCard

/-- THE SECOND FORM's CARD OF 'bibelotlaw03.HanoiFrames'. -/
def hanoiFramesUptoCard : Claim7 := { stood := { row := hanoiFramesUptoRow, standIns := [], harness := (true, "0b7658f01de11f64729abe891a45aecbcd4033d7a27c0b02aab61465db0a64af"), looks := false }, kinds := [], alts := [], laidByText := true, laidKinds := [.data, .pinned], laidTests := true, laidLooks := .later }
def HanoiFramesUptoCardSaid : Prop := Claim7.holds Tryd.pinned (.plain (OpenSpec.upto hanoiFramesSpec)) hanoiFramesUptoCard

/-- THE SECOND FORM's CARD OF 'bibelotlaw03.HanoiFewest'. -/
def hanoiFewestUptoCard : Claim7 := { stood := { row := hanoiFewestUptoRow, standIns := [], harness := (true, "0b7658f01de11f64729abe891a45aecbcd4033d7a27c0b02aab61465db0a64af"), looks := false }, kinds := [], alts := [], laidByText := true, laidKinds := [.data, .pinned], laidTests := true, laidLooks := .later }
def HanoiFewestUptoCardSaid : Prop := Claim7.holds Tryd.pinned (.plain (OpenSpec.upto hanoiFewestSpec)) hanoiFewestUptoCard

/-- THE SECOND FORM's CARD OF 'bibelotlaw03.HanoiUnranks'. -/
def hanoiUnranksUptoCard : Claim7 := { stood := { row := hanoiUnranksUptoRow, standIns := [], harness := (true, "0b7658f01de11f64729abe891a45aecbcd4033d7a27c0b02aab61465db0a64af"), looks := false }, kinds := [], alts := [], laidByText := true, laidKinds := [.data, .pinned], laidTests := true, laidLooks := .later }
def HanoiUnranksUptoCardSaid : Prop := Claim7.holds Tryd.pinned (.plain (OpenSpec.upto hanoiUnranksSpec)) hanoiUnranksUptoCard

/-- THE SECOND FORM's CARD OF 'bibelotlaw03.HanoiStewart'. -/
def hanoiStewartUptoCard : Claim7 := { stood := { row := hanoiStewartUptoRow, standIns := [], harness := (true, "0b7658f01de11f64729abe891a45aecbcd4033d7a27c0b02aab61465db0a64af"), looks := false }, kinds := [], alts := [], laidByText := true, laidKinds := [.data, .pinned], laidTests := true, laidLooks := .later }
def HanoiStewartUptoCardSaid : Prop := Claim7.holds Tryd.pinned (.plain (OpenSpec.upto hanoiStewartSpec)) hanoiStewartUptoCard

/-- THE SECOND FORM's CARD OF 'bibelotlaw03.HanoiBetween'. -/
def hanoiBetweenUptoCard : Claim7 := { stood := { row := hanoiBetweenUptoRow, standIns := [], harness := (true, "0b7658f01de11f64729abe891a45aecbcd4033d7a27c0b02aab61465db0a64af"), looks := false }, kinds := [], alts := [], laidByText := true, laidKinds := [.data, .pinned], laidTests := true, laidLooks := .later }
def HanoiBetweenUptoCardSaid : Prop := Claim7.holds Tryd.pinned (.plain (OpenSpec.upto hanoiBetweenSpec)) hanoiBetweenUptoCard

/-- THE SECOND FORM's CARD OF 'bibelotlaw03.HanoiMoves'. -/
def hanoiMovesUptoCard : Claim7 := { stood := { row := hanoiMovesUptoRow, standIns := [], harness := (true, "0b7658f01de11f64729abe891a45aecbcd4033d7a27c0b02aab61465db0a64af"), looks := false }, kinds := [], alts := [], laidByText := true, laidKinds := [.data, .pinned], laidTests := true, laidLooks := .later }
def HanoiMovesUptoCardSaid : Prop := Claim7.holds Tryd.pinned (.plain (OpenSpec.upto hanoiMovesSpec)) hanoiMovesUptoCard

/-- THE SECOND FORM's CARD OF 'bibelotlaw03.HanoiFarthest'. -/
def hanoiFarthestUptoCard : Claim7 := { stood := { row := hanoiFarthestUptoRow, standIns := [], harness := (true, "0b7658f01de11f64729abe891a45aecbcd4033d7a27c0b02aab61465db0a64af"), looks := false }, kinds := [], alts := [], laidByText := true, laidKinds := [.data, .pinned], laidTests := true, laidLooks := .later }
def HanoiFarthestUptoCardSaid : Prop := Claim7.holds Tryd.pinned (.plain (OpenSpec.upto hanoiFarthestSpec)) hanoiFarthestUptoCard

/-- THE SECOND FORM's CARD OF 'bibelotlaw03.HanoiAll'. -/
def hanoiAllUptoCard : Claim7 := { stood := { row := hanoiAllUptoRow, standIns := [], harness := (true, "0b7658f01de11f64729abe891a45aecbcd4033d7a27c0b02aab61465db0a64af"), looks := false }, kinds := [], alts := [], laidByText := true, laidKinds := [.data, .pinned], laidTests := true, laidLooks := .later }
def HanoiAllUptoCardSaid : Prop := Claim7.holds Tryd.pinned (.plain (OpenSpec.upto hanoiAllSpec)) hanoiAllUptoCard

/-- THE SECOND FORM's CARD OF 'bibelotlaw03.HanoiHinz'. -/
def hanoiHinzUptoCard : Claim7 := { stood := { row := hanoiHinzUptoRow, standIns := [], harness := (true, "0b7658f01de11f64729abe891a45aecbcd4033d7a27c0b02aab61465db0a64af"), looks := false }, kinds := [], alts := [], laidByText := true, laidKinds := [.data, .pinned], laidTests := true, laidLooks := .later }
def HanoiHinzUptoCardSaid : Prop := Claim7.holds Tryd.pinned (.plain (OpenSpec.upto hanoiHinzSpec)) hanoiHinzUptoCard

/-- THE SECOND FORM's CARD OF 'bibelotlaw03.HanoiDistances'. -/
def hanoiDistancesUptoCard : Claim7 := { stood := { row := hanoiDistancesUptoRow, standIns := [], harness := (true, "0b7658f01de11f64729abe891a45aecbcd4033d7a27c0b02aab61465db0a64af"), looks := false }, kinds := [], alts := [], laidByText := true, laidKinds := [.data, .pinned], laidTests := true, laidLooks := .later }
def HanoiDistancesUptoCardSaid : Prop := Claim7.holds Tryd.pinned (.plain (OpenSpec.upto hanoiDistancesSpec)) hanoiDistancesUptoCard

/-- THE SECOND FORM's CARD OF 'bibelotlaw03.HanoiRings'. -/
def hanoiRingsUptoCard : Claim7 := { stood := { row := hanoiRingsUptoRow, standIns := [], harness := (true, "0b7658f01de11f64729abe891a45aecbcd4033d7a27c0b02aab61465db0a64af"), looks := false }, kinds := [], alts := [], laidByText := true, laidKinds := [.data, .pinned], laidTests := true, laidLooks := .later }
def HanoiRingsUptoCardSaid : Prop := Claim7.holds Tryd.pinned (.plain (OpenSpec.upto hanoiRingsSpec)) hanoiRingsUptoCard

/-- THE SECOND FORM's CARD OF 'bibelotlaw03.HanoiGros'. -/
def hanoiGrosUptoCard : Claim7 := { stood := { row := hanoiGrosUptoRow, standIns := [], harness := (true, "0b7658f01de11f64729abe891a45aecbcd4033d7a27c0b02aab61465db0a64af"), looks := false }, kinds := [], alts := [], laidByText := true, laidKinds := [.data, .pinned], laidTests := true, laidLooks := .later }
def HanoiGrosUptoCardSaid : Prop := Claim7.holds Tryd.pinned (.plain (OpenSpec.upto hanoiGrosSpec)) hanoiGrosUptoCard

/-- THE SECOND FORM's CARD OF 'bibelotlaw03.HanoiPlays'. -/
def hanoiPlaysUptoCard : Claim7 := { stood := { row := hanoiPlaysUptoRow, standIns := [], harness := (true, "0b7658f01de11f64729abe891a45aecbcd4033d7a27c0b02aab61465db0a64af"), looks := false }, kinds := [], alts := [], laidByText := true, laidKinds := [.data, .pinned], laidTests := true, laidLooks := .later }
def HanoiPlaysUptoCardSaid : Prop := Claim7.holds Tryd.pinned (.plain (OpenSpec.upto hanoiPlaysSpec)) hanoiPlaysUptoCard

/-- THE SECOND FORM's CARD OF 'bibelotlaw03.HanoiFrameWays'. -/
def hanoiFrameWaysUptoCard : Claim7 := { stood := { row := hanoiFrameWaysUptoRow, standIns := [], harness := (true, "0b7658f01de11f64729abe891a45aecbcd4033d7a27c0b02aab61465db0a64af"), looks := false }, kinds := [], alts := [], laidByText := true, laidKinds := [.data, .pinned], laidTests := true, laidLooks := .later }
def HanoiFrameWaysUptoCardSaid : Prop := Claim7.holds Tryd.pinned (.plain (OpenSpec.upto hanoiFrameWaysSpec)) hanoiFrameWaysUptoCard

/-- THE SECOND FORM's CARD OF 'bibelotlaw03.HanoiMetric'. -/
def hanoiMetricUptoCard : Claim7 := { stood := { row := hanoiMetricUptoRow, standIns := [], harness := (true, "0b7658f01de11f64729abe891a45aecbcd4033d7a27c0b02aab61465db0a64af"), looks := false }, kinds := [], alts := [], laidByText := true, laidKinds := [.data, .pinned], laidTests := true, laidLooks := .later }
def HanoiMetricUptoCardSaid : Prop := Claim7.holds Tryd.pinned (.plain (OpenSpec.upto hanoiMetricSpec)) hanoiMetricUptoCard

/-- THE SECOND FORM's CARD OF 'bibelotlaw03.HanoiWays'. -/
def hanoiWaysUptoCard : Claim7 := { stood := { row := hanoiWaysUptoRow, standIns := [], harness := (true, "0b7658f01de11f64729abe891a45aecbcd4033d7a27c0b02aab61465db0a64af"), looks := false }, kinds := [], alts := [], laidByText := true, laidKinds := [.data, .pinned], laidTests := true, laidLooks := .later }
def HanoiWaysUptoCardSaid : Prop := Claim7.holds Tryd.pinned (.plain (OpenSpec.upto hanoiWaysSpec)) hanoiWaysUptoCard

/-- THE SECOND FORM's CARD OF 'bibelotlaw03.HanoiTwo'. -/
def hanoiTwoUptoCard : Claim7 := { stood := { row := hanoiTwoUptoRow, standIns := [], harness := (true, "0b7658f01de11f64729abe891a45aecbcd4033d7a27c0b02aab61465db0a64af"), looks := false }, kinds := [], alts := [], laidByText := true, laidKinds := [.data, .pinned], laidTests := true, laidLooks := .later }
def HanoiTwoUptoCardSaid : Prop := Claim7.holds Tryd.pinned (.plain (OpenSpec.upto hanoiTwoSpec)) hanoiTwoUptoCard

/-- THE SECOND FORM's CARD OF 'bibelotlaw03.HanoiOwn'. -/
def hanoiOwnUptoCard : Claim7 := { stood := { row := hanoiOwnUptoRow, standIns := [], harness := (true, "0b7658f01de11f64729abe891a45aecbcd4033d7a27c0b02aab61465db0a64af"), looks := false }, kinds := [], alts := [], laidByText := true, laidKinds := [.data, .pinned], laidTests := true, laidLooks := .later }
def HanoiOwnUptoCardSaid : Prop := Claim7.holds Tryd.pinned (.plain (OpenSpec.upto hanoiOwnSpec)) hanoiOwnUptoCard

/-- THE SECOND FORM's CARD OF 'bibelotlaw03.HanoiChecks'. -/
def hanoiChecksUptoCard : Claim7 := { stood := { row := hanoiChecksUptoRow, standIns := [], harness := (true, "0b7658f01de11f64729abe891a45aecbcd4033d7a27c0b02aab61465db0a64af"), looks := false }, kinds := [], alts := [], laidByText := true, laidKinds := [.data, .pinned], laidTests := true, laidLooks := .later }
def HanoiChecksUptoCardSaid : Prop := Claim7.holds Tryd.pinned (.plain (OpenSpec.upto hanoiChecksSpec)) hanoiChecksUptoCard
end Rows
end Go.Proofs.YtnaaomhmoamfpaaDoor
