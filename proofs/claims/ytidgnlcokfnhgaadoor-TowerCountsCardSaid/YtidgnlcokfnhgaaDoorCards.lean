/-
  DERIVED. GIVEN WITH THE SEED: THE CARDS: each row of YtidgnlcokfnhgaaDoorRows.lean that lists a variable, with what it lists TIED to the program's text (the seventh form; the later family's looks); each row that meets fmt, with fmt's text TOLD by the authors' own Lean function (tested against real Go, not proved from fmt's source: count such statements apart). THE CARD IS WHAT COUNTS. Prove the row's statement (the work); the ties are given (YtidgnlcokfnhgaaDoorTie.lean); close each card by the builder's one call (the guide's Derived/Test/ToyasCard.lean, 'card_holds'). Laid BY PROGRAM, IN A SANDBOX (cutbox-door.mjs). By AI agents, Wed Nov 11 2026. No macro, syntax, notation, axiom, sorry.
-/
import Derived.Test.YtidgnlcokfnhgaaDoorRows
import GoSem.ClaimSeven
namespace Go.Proofs.YtidgnlcokfnhgaaDoor
namespace Rows

/-- THE TIED CARD OF 'ratlinelaw18.TowerTells'. -/
def towerTellsCard : Claim7 := { stood := { row := towerTellsRow, standIns := [], harness := (true, "30608792bae2739ef619ad40d7b1143d2a706234f0f44e2effceaf306511e89c"), looks := false }, kinds := [], alts := [], laidByText := true, laidKinds := [.data], laidTests := true, laidLooks := .later }
def TowerTellsCardSaid : Prop := Claim7.holds Tryd.pinned (.plain (OpenSpec.ofChange towerTellsSpec)) towerTellsCard

/-- THE TIED CARD OF 'ratlinelaw18.TowerCounts'. -/
def towerCountsCard : Claim7 := { stood := { row := towerCountsRow, standIns := [], harness := (true, "30608792bae2739ef619ad40d7b1143d2a706234f0f44e2effceaf306511e89c"), looks := false }, kinds := [], alts := [], laidByText := true, laidKinds := [.data], laidTests := true, laidLooks := .later }
def TowerCountsCardSaid : Prop := Claim7.holds Tryd.pinned (.plain (OpenSpec.ofChange towerCountsSpec)) towerCountsCard

/-- THE TIED CARD OF 'ratlinelaw18.TowerRound'. -/
def towerRoundCard : Claim7 := { stood := { row := towerRoundRow, standIns := [], harness := (true, "30608792bae2739ef619ad40d7b1143d2a706234f0f44e2effceaf306511e89c"), looks := false }, kinds := [], alts := [], laidByText := true, laidKinds := [.data], laidTests := true, laidLooks := .later }
def TowerRoundCardSaid : Prop := Claim7.holds Tryd.pinned (.plain (OpenSpec.ofChange towerRoundSpec)) towerRoundCard

/-- THE TIED CARD OF 'ratlinelaw18.TowerSteps'. -/
def towerStepsCard : Claim7 := { stood := { row := towerStepsRow, standIns := [], harness := (true, "30608792bae2739ef619ad40d7b1143d2a706234f0f44e2effceaf306511e89c"), looks := false }, kinds := [], alts := [], laidByText := true, laidKinds := [.data], laidTests := true, laidLooks := .later }
def TowerStepsCardSaid : Prop := Claim7.holds Tryd.pinned (.plain (OpenSpec.ofChange towerStepsSpec)) towerStepsCard

/-- THE SECOND FORM's CARD OF 'ratlinelaw18.TowerTells'. -/
def towerTellsUptoCard : Claim7 := { stood := { row := towerTellsUptoRow, standIns := [], harness := (true, "30608792bae2739ef619ad40d7b1143d2a706234f0f44e2effceaf306511e89c"), looks := false }, kinds := [], alts := [], laidByText := true, laidKinds := [.data], laidTests := true, laidLooks := .later }
def TowerTellsUptoCardSaid : Prop := Claim7.holds Tryd.pinned (.plain (OpenSpec.upto towerTellsSpec)) towerTellsUptoCard

/-- THE SECOND FORM's CARD OF 'ratlinelaw18.TowerCounts'. -/
def towerCountsUptoCard : Claim7 := { stood := { row := towerCountsUptoRow, standIns := [], harness := (true, "30608792bae2739ef619ad40d7b1143d2a706234f0f44e2effceaf306511e89c"), looks := false }, kinds := [], alts := [], laidByText := true, laidKinds := [.data], laidTests := true, laidLooks := .later }
def TowerCountsUptoCardSaid : Prop := Claim7.holds Tryd.pinned (.plain (OpenSpec.upto towerCountsSpec)) towerCountsUptoCard

/-- THE SECOND FORM's CARD OF 'ratlinelaw18.TowerRound'. -/
def towerRoundUptoCard : Claim7 := { stood := { row := towerRoundUptoRow, standIns := [], harness := (true, "30608792bae2739ef619ad40d7b1143d2a706234f0f44e2effceaf306511e89c"), looks := false }, kinds := [], alts := [], laidByText := true, laidKinds := [.data], laidTests := true, laidLooks := .later }
def TowerRoundUptoCardSaid : Prop := Claim7.holds Tryd.pinned (.plain (OpenSpec.upto towerRoundSpec)) towerRoundUptoCard

/-- THE SECOND FORM's CARD OF 'ratlinelaw18.TowerSteps'. -/
def towerStepsUptoCard : Claim7 := { stood := { row := towerStepsUptoRow, standIns := [], harness := (true, "30608792bae2739ef619ad40d7b1143d2a706234f0f44e2effceaf306511e89c"), looks := false }, kinds := [], alts := [], laidByText := true, laidKinds := [.data], laidTests := true, laidLooks := .later }
def TowerStepsUptoCardSaid : Prop := Claim7.holds Tryd.pinned (.plain (OpenSpec.upto towerStepsSpec)) towerStepsUptoCard
end Rows
end Go.Proofs.YtidgnlcokfnhgaaDoor
