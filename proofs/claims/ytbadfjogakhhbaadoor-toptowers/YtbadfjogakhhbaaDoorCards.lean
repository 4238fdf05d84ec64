/-
  DERIVED. GIVEN WITH THE SEED: THE CARDS: each row of YtbadfjogakhhbaaDoorRows.lean that lists a variable, with what it lists TIED to the program's text (the seventh form; the later family's looks); each row that meets fmt, with fmt's text TOLD by the authors' own Lean function (tested against real Go, not proved from fmt's source: count such statements apart). THE CARD IS WHAT COUNTS. Prove the row's statement (the work); the ties are given (YtbadfjogakhhbaaDoorTie.lean); close each card by the builder's one call (the guide's Derived/Test/ToyasCard.lean, 'card_holds'). Laid BY PROGRAM, IN A SANDBOX (cutbox-door.mjs). By AI agents, Wed Nov 11 2026. No macro, syntax, notation, axiom, sorry.
-/
import Derived.Test.YtbadfjogakhhbaaDoorRows
import GoSem.ClaimSeven
namespace Go.Proofs.YtbadfjogakhhbaaDoor
namespace Rows

/-- THE TIED CARD OF 'bibelottop.TopTowers'. -/
def topTowersCard : Claim7 := { stood := { row := topTowersRow, standIns := [], harness := (true, "048e0f6cb7eab0441e063d06811842b16294de3c252ae3aa35d793dd4bbfeadb"), looks := false }, kinds := [], alts := [], laidByText := true, laidKinds := [.data, .data, .data], laidTests := true, laidLooks := .later }
def TopTowersCardSaid : Prop := Claim7.holds Tryd.pinned (.plain (OpenSpec.ofChange topTowersSpec)) topTowersCard

/-- THE TIED CARD OF 'bibelottop.TopKnights'. -/
def topKnightsCard : Claim7 := { stood := { row := topKnightsRow, standIns := [], harness := (true, "048e0f6cb7eab0441e063d06811842b16294de3c252ae3aa35d793dd4bbfeadb"), looks := false }, kinds := [], alts := [], laidByText := true, laidKinds := [.data, .data, .data], laidTests := true, laidLooks := .later }
def TopKnightsCardSaid : Prop := Claim7.holds Tryd.pinned (.plain (OpenSpec.ofChange topKnightsSpec)) topKnightsCard

/-- THE SECOND FORM's CARD OF 'bibelottop.TopTowers'. -/
def topTowersUptoCard : Claim7 := { stood := { row := topTowersUptoRow, standIns := [], harness := (true, "048e0f6cb7eab0441e063d06811842b16294de3c252ae3aa35d793dd4bbfeadb"), looks := false }, kinds := [], alts := [], laidByText := true, laidKinds := [.data, .data, .data], laidTests := true, laidLooks := .later }
def TopTowersUptoCardSaid : Prop := Claim7.holds Tryd.pinned (.plain (OpenSpec.upto topTowersSpec)) topTowersUptoCard

/-- THE SECOND FORM's CARD OF 'bibelottop.TopKnights'. -/
def topKnightsUptoCard : Claim7 := { stood := { row := topKnightsUptoRow, standIns := [], harness := (true, "048e0f6cb7eab0441e063d06811842b16294de3c252ae3aa35d793dd4bbfeadb"), looks := false }, kinds := [], alts := [], laidByText := true, laidKinds := [.data, .data, .data], laidTests := true, laidLooks := .later }
def TopKnightsUptoCardSaid : Prop := Claim7.holds Tryd.pinned (.plain (OpenSpec.upto topKnightsSpec)) topKnightsUptoCard
end Rows
end Go.Proofs.YtbadfjogakhhbaaDoor
