/-
  DERIVED. GIVEN WITH THE SEED: THE CARDS: each row of YteiaifhnikknbaaDoorRows.lean that lists a variable, with what it lists TIED to the program's text (the seventh form; the later family's looks); each row that meets fmt, with fmt's text TOLD by the authors' own Lean function (tested against real Go, not proved from fmt's source: count such statements apart). THE CARD IS WHAT COUNTS. Prove the row's statement (the work); the ties are given (YteiaifhnikknbaaDoorTie.lean); close each card by the builder's one call (the guide's Derived/Test/ToyasCard.lean, 'card_holds'). Laid BY PROGRAM, IN A SANDBOX (cutbox-door.mjs). By AI agents, Wed Nov 11 2026. No macro, syntax, notation, axiom, sorry.
-/
import Derived.Test.YteiaifhnikknbaaDoorRows
import GoSem.ClaimSeven
namespace Go.Proofs.YteiaifhnikknbaaDoor
namespace Rows

/-- THE TIED CARD OF 'ratlinelaw22.StoreTurns'. -/
def storeTurnsCard : Claim7 := { stood := { row := storeTurnsRow, standIns := [], harness := (true, "a64f57eff6f558d1dd16b2f38b2e427f2da7108a680067d7ae8bf41ac6ccb260"), looks := false }, kinds := [], alts := [], laidByText := true, laidKinds := [.data], laidTests := true, laidLooks := .later }
def StoreTurnsCardSaid : Prop := Claim7.holds Tryd.pinned (.plain (OpenSpec.ofChange storeTurnsSpec)) storeTurnsCard

/-- THE TIED CARD OF 'ratlinelaw22.StoreTells'. -/
def storeTellsCard : Claim7 := { stood := { row := storeTellsRow, standIns := [], harness := (true, "a64f57eff6f558d1dd16b2f38b2e427f2da7108a680067d7ae8bf41ac6ccb260"), looks := false }, kinds := [], alts := [], laidByText := true, laidKinds := [.data], laidTests := true, laidLooks := .later }
def StoreTellsCardSaid : Prop := Claim7.holds Tryd.pinned (.plain (OpenSpec.ofChange storeTellsSpec)) storeTellsCard

/-- THE TIED CARD OF 'ratlinelaw22.StoreNone'. -/
def storeNoneCard : Claim7 := { stood := { row := storeNoneRow, standIns := [], harness := (true, "a64f57eff6f558d1dd16b2f38b2e427f2da7108a680067d7ae8bf41ac6ccb260"), looks := false }, kinds := [], alts := [], laidByText := true, laidKinds := [.data], laidTests := true, laidLooks := .later }
def StoreNoneCardSaid : Prop := Claim7.holds Tryd.pinned (.plain (OpenSpec.ofChange storeNoneSpec)) storeNoneCard

/-- THE TIED CARD OF 'ratlinelaw22.StoreGuards'. -/
def storeGuardsCard : Claim7 := { stood := { row := storeGuardsRow, standIns := [], harness := (true, "a64f57eff6f558d1dd16b2f38b2e427f2da7108a680067d7ae8bf41ac6ccb260"), looks := false }, kinds := [], alts := [], laidByText := true, laidKinds := [.data], laidTests := true, laidLooks := .later }
def StoreGuardsCardSaid : Prop := Claim7.holds Tryd.pinned (.plain (OpenSpec.ofChange storeGuardsSpec)) storeGuardsCard

/-- THE SECOND FORM's CARD OF 'ratlinelaw22.StoreTurns'. -/
def storeTurnsUptoCard : Claim7 := { stood := { row := storeTurnsUptoRow, standIns := [], harness := (true, "a64f57eff6f558d1dd16b2f38b2e427f2da7108a680067d7ae8bf41ac6ccb260"), looks := false }, kinds := [], alts := [], laidByText := true, laidKinds := [.data], laidTests := true, laidLooks := .later }
def StoreTurnsUptoCardSaid : Prop := Claim7.holds Tryd.pinned (.plain (OpenSpec.upto storeTurnsSpec)) storeTurnsUptoCard

/-- THE SECOND FORM's CARD OF 'ratlinelaw22.StoreTells'. -/
def storeTellsUptoCard : Claim7 := { stood := { row := storeTellsUptoRow, standIns := [], harness := (true, "a64f57eff6f558d1dd16b2f38b2e427f2da7108a680067d7ae8bf41ac6ccb260"), looks := false }, kinds := [], alts := [], laidByText := true, laidKinds := [.data], laidTests := true, laidLooks := .later }
def StoreTellsUptoCardSaid : Prop := Claim7.holds Tryd.pinned (.plain (OpenSpec.upto storeTellsSpec)) storeTellsUptoCard

/-- THE SECOND FORM's CARD OF 'ratlinelaw22.StoreNone'. -/
def storeNoneUptoCard : Claim7 := { stood := { row := storeNoneUptoRow, standIns := [], harness := (true, "a64f57eff6f558d1dd16b2f38b2e427f2da7108a680067d7ae8bf41ac6ccb260"), looks := false }, kinds := [], alts := [], laidByText := true, laidKinds := [.data], laidTests := true, laidLooks := .later }
def StoreNoneUptoCardSaid : Prop := Claim7.holds Tryd.pinned (.plain (OpenSpec.upto storeNoneSpec)) storeNoneUptoCard

/-- THE SECOND FORM's CARD OF 'ratlinelaw22.StoreGuards'. -/
def storeGuardsUptoCard : Claim7 := { stood := { row := storeGuardsUptoRow, standIns := [], harness := (true, "a64f57eff6f558d1dd16b2f38b2e427f2da7108a680067d7ae8bf41ac6ccb260"), looks := false }, kinds := [], alts := [], laidByText := true, laidKinds := [.data], laidTests := true, laidLooks := .later }
def StoreGuardsUptoCardSaid : Prop := Claim7.holds Tryd.pinned (.plain (OpenSpec.upto storeGuardsSpec)) storeGuardsUptoCard
end Rows
end Go.Proofs.YteiaifhnikknbaaDoor
