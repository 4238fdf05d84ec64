/-
  DERIVED. GIVEN WITH THE SEED: THE CARDS: each row of YtbadfjogakhhbaaGreatDoorRows.lean that lists a variable, with what it lists TIED to the program's text (the seventh form; the later family's looks); each row that meets fmt, with fmt's text TOLD by the authors' own Lean function (tested against real Go, not proved from fmt's source: count such statements apart). THE CARD IS WHAT COUNTS. Prove the row's statement (the work); the ties are given (YtbadfjogakhhbaaGreatDoorTie.lean); close each card by the builder's one call (the guide's Derived/Test/ToyasCard.lean, 'card_holds'). Laid BY PROGRAM, IN A SANDBOX (cutbox-door.mjs). By AI agents, Wed Nov 11 2026. No macro, syntax, notation, axiom, sorry.
-/
import Derived.Test.YtbadfjogakhhbaaGreatDoorRows
import GoSem.ClaimSeven
namespace Go.Proofs.YtbadfjogakhhbaaGreatDoor
namespace Rows

/-- THE TIED CARD OF 'bibelottop.TopTastes'. -/
def topTastesCard : Claim7 := { stood := { row := topTastesRow, standIns := [], harness := (true, "c51cf9616c895de041ef5aa51cee2da50cfcf707751b80e5883434578698372b"), looks := false }, kinds := [], alts := [], laidByText := true, laidKinds := [.data, .data, .data, .data], laidTests := true, laidLooks := .later }
def TopTastesCardSaid : Prop := Claim7.holds Tryz.pinned (.plain (OpenSpec.ofChange topTastesSpec)) topTastesCard

/-- THE TIED CARD OF 'bibelottop.TopRings'. -/
def topRingsCard : Claim7 := { stood := { row := topRingsRow, standIns := [], harness := (true, "c51cf9616c895de041ef5aa51cee2da50cfcf707751b80e5883434578698372b"), looks := false }, kinds := [], alts := [], laidByText := true, laidKinds := [.data, .data, .data, .data], laidTests := true, laidLooks := .later }
def TopRingsCardSaid : Prop := Claim7.holds Tryz.pinned (.plain (OpenSpec.ofChange topRingsSpec)) topRingsCard

/-- THE SECOND FORM's CARD OF 'bibelottop.TopTastes'. -/
def topTastesUptoCard : Claim7 := { stood := { row := topTastesUptoRow, standIns := [], harness := (true, "c51cf9616c895de041ef5aa51cee2da50cfcf707751b80e5883434578698372b"), looks := false }, kinds := [], alts := [], laidByText := true, laidKinds := [.data, .data, .data, .data], laidTests := true, laidLooks := .later }
def TopTastesUptoCardSaid : Prop := Claim7.holds Tryz.pinned (.plain (OpenSpec.upto topTastesSpec)) topTastesUptoCard

/-- THE SECOND FORM's CARD OF 'bibelottop.TopRings'. -/
def topRingsUptoCard : Claim7 := { stood := { row := topRingsUptoRow, standIns := [], harness := (true, "c51cf9616c895de041ef5aa51cee2da50cfcf707751b80e5883434578698372b"), looks := false }, kinds := [], alts := [], laidByText := true, laidKinds := [.data, .data, .data, .data], laidTests := true, laidLooks := .later }
def TopRingsUptoCardSaid : Prop := Claim7.holds Tryz.pinned (.plain (OpenSpec.upto topRingsSpec)) topRingsUptoCard
end Rows
end Go.Proofs.YtbadfjogakhhbaaGreatDoor
