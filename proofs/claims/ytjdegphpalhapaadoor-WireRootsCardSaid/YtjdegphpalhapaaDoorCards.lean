/-
  DERIVED. GIVEN WITH THE SEED: THE CARDS: each row of YtjdegphpalhapaaDoorRows.lean that lists a variable, with what it lists TIED to the program's text (the seventh form; the later family's looks); each row that meets fmt, with fmt's text TOLD by the authors' own Lean function (tested against real Go, not proved from fmt's source: count such statements apart). THE CARD IS WHAT COUNTS. Prove the row's statement (the work); the ties are given (YtjdegphpalhapaaDoorTie.lean); close each card by the builder's one call (the guide's Derived/Test/ToyasCard.lean, 'card_holds'). Laid BY PROGRAM, IN A SANDBOX (cutbox-door.mjs). By AI agents, Wed Nov 11 2026. No macro, syntax, notation, axiom, sorry.
-/
import Derived.Test.YtjdegphpalhapaaDoorRows
import GoSem.ClaimSeven
namespace Go.Proofs.YtjdegphpalhapaaDoor
namespace Rows

/-- THE TIED CARD OF 'assentlaw04.WireIds'. -/
def wireIdsCard : Claim7 := { stood := { row := wireIdsRow, standIns := [], harness := (true, "e647e58a2a893e44d45c4b24d4740b72ba932e77727ee4746f7b43c8b1dfeed0"), looks := false }, kinds := [], alts := [], laidByText := true, laidKinds := [.data, .data, .data], laidTests := true, laidLooks := .later }
def WireIdsCardSaid : Prop := Claim7.holds Tryd.pinned (.plain (OpenSpec.ofChange wireIdsSpec)) wireIdsCard

/-- THE TIED CARD OF 'assentlaw04.WireRoots'. -/
def wireRootsCard : Claim7 := { stood := { row := wireRootsRow, standIns := [], harness := (true, "e647e58a2a893e44d45c4b24d4740b72ba932e77727ee4746f7b43c8b1dfeed0"), looks := false }, kinds := [], alts := [], laidByText := true, laidKinds := [.data, .data, .data], laidTests := true, laidLooks := .later }
def WireRootsCardSaid : Prop := Claim7.holds Tryd.pinned (.plain (OpenSpec.ofChange wireRootsSpec)) wireRootsCard

/-- THE SECOND FORM's CARD OF 'assentlaw04.WireIds'. -/
def wireIdsUptoCard : Claim7 := { stood := { row := wireIdsUptoRow, standIns := [], harness := (true, "e647e58a2a893e44d45c4b24d4740b72ba932e77727ee4746f7b43c8b1dfeed0"), looks := false }, kinds := [], alts := [], laidByText := true, laidKinds := [.data, .data, .data], laidTests := true, laidLooks := .later }
def WireIdsUptoCardSaid : Prop := Claim7.holds Tryd.pinned (.plain (OpenSpec.upto wireIdsSpec)) wireIdsUptoCard

/-- THE SECOND FORM's CARD OF 'assentlaw04.WireRoots'. -/
def wireRootsUptoCard : Claim7 := { stood := { row := wireRootsUptoRow, standIns := [], harness := (true, "e647e58a2a893e44d45c4b24d4740b72ba932e77727ee4746f7b43c8b1dfeed0"), looks := false }, kinds := [], alts := [], laidByText := true, laidKinds := [.data, .data, .data], laidTests := true, laidLooks := .later }
def WireRootsUptoCardSaid : Prop := Claim7.holds Tryd.pinned (.plain (OpenSpec.upto wireRootsSpec)) wireRootsUptoCard
end Rows
end Go.Proofs.YtjdegphpalhapaaDoor
