/-
  No cell of these rows narrows 'for every input' (looked for: loops, veiled, ifaces, maps, wideKeys, modest, calm, conditions, laid).
  DERIVED. THE GIVEN ROWS OF THIS SEAT. 5 by the template 'for every input the law returns true; each argument reads behind the call as it read before'; 0 by the template 'total and deterministic' (their statements: YtlofgmcbanldnaaTotals.lean).
  GIVEN WITH THE SEED: the statements are not yours to turn. If you find one false, say at which input.
  Laid BY PROGRAM, IN A SANDBOX (cutbox-rows.mjs): the forced cells as the released guide's own fill.sh prints them over the translation 7d1a42ca4c6dc264… (all of the seat's roots in one cut). By AI agents, Wed Nov 11 2026. No macro, syntax, notation, axiom, sorry.
-/
import Derived.Test.YtlofgmcbanldnaaChecked
import GoSem.Claim
import GoSem.ClaimJoined
import GoSem.ClaimMapViews
import Derived.JoinedTies
import Derived.KernelRfl
namespace Go.Proofs.Ytlofgmcbanldnaa
/- THE CELL 'sum', in the pinned program and in every row, IS THE sha256 OF THE DUMP (.gsa) THAT YtlofgmcbanldnaaProg.lean LOADS. Nothing in Lean hashes anything: it is a label: what it is worth is what the hold of that sum in a sandbox is worth. -/
noncomputable def Try.pinned : Pinned := { name := "ytlofgmcbanldnaa", sum := "7d1a42ca4c6dc2646d29990501f60eeea89a49b7e4b5284f1979668596bb4431", checked := Try.checked }
namespace Rows
def none {H : Type} : Left H := { results := [], args := [] }

/-- 'ratlinelaw13.CellsPlain': WHATEVER THE INPUT: true; the input reads as it did. -/
def cellsPlainSpec : ChangeSpec := { name := "cellsPlain", fn := fun _ => fun
  | [d1, d2] => { results := [.lit (.bool true)], args := [d1, d2] }
  | _ => none }
def cellsPlainRow : OpenClaim := { program := "ytlofgmcbanldnaa", sum := "7d1a42ca4c6dc2646d29990501f60eeea89a49b7e4b5284f1979668596bb4431", func := "ratline/ratlinelaw13.CellsPlain", spec := "cellsPlain", apart := false }
def CellsPlainSaid : Prop := cellsPlainRow.holds Try.pinned (OpenSpec.ofChange cellsPlainSpec)

/-- ITS FALSE NEIGHBOUR: 'it returns false'. Refute it at one input. -/
def cellsPlainWrong : ChangeSpec := { name := "cellsPlain", fn := fun _ => fun
  | [d1, d2] => { results := [.lit (.bool false)], args := [d1, d2] }
  | _ => none }
def CellsPlainWrongFalsely : Prop := cellsPlainRow.holds Try.pinned (OpenSpec.ofChange cellsPlainWrong)

/-- 'ratlinelaw13.CellsLast': WHATEVER THE INPUT: true; the input reads as it did. -/
def cellsLastSpec : ChangeSpec := { name := "cellsLast", fn := fun _ => fun
  | [d1, d2] => { results := [.lit (.bool true)], args := [d1, d2] }
  | _ => none }
def cellsLastRow : OpenClaim := { program := "ytlofgmcbanldnaa", sum := "7d1a42ca4c6dc2646d29990501f60eeea89a49b7e4b5284f1979668596bb4431", func := "ratline/ratlinelaw13.CellsLast", spec := "cellsLast", apart := false }
def CellsLastSaid : Prop := cellsLastRow.holds Try.pinned (OpenSpec.ofChange cellsLastSpec)

/-- ITS FALSE NEIGHBOUR: 'it returns false'. Refute it at one input. -/
def cellsLastWrong : ChangeSpec := { name := "cellsLast", fn := fun _ => fun
  | [d1, d2] => { results := [.lit (.bool false)], args := [d1, d2] }
  | _ => none }
def CellsLastWrongFalsely : Prop := cellsLastRow.holds Try.pinned (OpenSpec.ofChange cellsLastWrong)

/-- 'ratlinelaw13.CellsNotes': WHATEVER THE INPUT: true; the input reads as it did. -/
def cellsNotesSpec : ChangeSpec := { name := "cellsNotes", fn := fun _ => fun
  | [d1, d2] => { results := [.lit (.bool true)], args := [d1, d2] }
  | _ => none }
def cellsNotesRow : OpenClaim := { program := "ytlofgmcbanldnaa", sum := "7d1a42ca4c6dc2646d29990501f60eeea89a49b7e4b5284f1979668596bb4431", func := "ratline/ratlinelaw13.CellsNotes", spec := "cellsNotes", apart := false }
def CellsNotesSaid : Prop := cellsNotesRow.holds Try.pinned (OpenSpec.ofChange cellsNotesSpec)

/-- ITS FALSE NEIGHBOUR: 'it returns false'. Refute it at one input. -/
def cellsNotesWrong : ChangeSpec := { name := "cellsNotes", fn := fun _ => fun
  | [d1, d2] => { results := [.lit (.bool false)], args := [d1, d2] }
  | _ => none }
def CellsNotesWrongFalsely : Prop := cellsNotesRow.holds Try.pinned (OpenSpec.ofChange cellsNotesWrong)

/-- 'ratlinelaw13.CellsTells': WHATEVER THE INPUT: true; the input reads as it did. -/
def cellsTellsSpec : ChangeSpec := { name := "cellsTells", fn := fun _ => fun
  | [d1, d2, d3] => { results := [.lit (.bool true)], args := [d1, d2, d3] }
  | _ => none }
def cellsTellsRow : OpenClaim := { program := "ytlofgmcbanldnaa", sum := "7d1a42ca4c6dc2646d29990501f60eeea89a49b7e4b5284f1979668596bb4431", func := "ratline/ratlinelaw13.CellsTells", spec := "cellsTells", apart := false }
def CellsTellsSaid : Prop := cellsTellsRow.holds Try.pinned (OpenSpec.ofChange cellsTellsSpec)

/-- ITS FALSE NEIGHBOUR: 'it returns false'. Refute it at one input. -/
def cellsTellsWrong : ChangeSpec := { name := "cellsTells", fn := fun _ => fun
  | [d1, d2, d3] => { results := [.lit (.bool false)], args := [d1, d2, d3] }
  | _ => none }
def CellsTellsWrongFalsely : Prop := cellsTellsRow.holds Try.pinned (OpenSpec.ofChange cellsTellsWrong)

/-- 'ratlinelaw13.CellsWrong': WHATEVER THE INPUT: true; the input reads as it did. -/
def cellsWrongSpec : ChangeSpec := { name := "cellsWrong", fn := fun _ => fun
  | [d1, d2, d3] => { results := [.lit (.bool true)], args := [d1, d2, d3] }
  | _ => none }
def cellsWrongRow : OpenClaim := { program := "ytlofgmcbanldnaa", sum := "7d1a42ca4c6dc2646d29990501f60eeea89a49b7e4b5284f1979668596bb4431", func := "ratline/ratlinelaw13.CellsWrong", spec := "cellsWrong", apart := false }
def CellsWrongSaid : Prop := cellsWrongRow.holds Try.pinned (OpenSpec.ofChange cellsWrongSpec)

/-- ITS FALSE NEIGHBOUR: 'it returns false'. Refute it at one input. -/
def cellsWrongWrong : ChangeSpec := { name := "cellsWrong", fn := fun _ => fun
  | [d1, d2, d3] => { results := [.lit (.bool false)], args := [d1, d2, d3] }
  | _ => none }
def CellsWrongWrongFalsely : Prop := cellsWrongRow.holds Try.pinned (OpenSpec.ofChange cellsWrongWrong)

/- THE SECOND FORM. 'bulk': how many values and letters a reading holds, each counted each time it is reached (what is shared counts as often as it is met; a slice's spare places count too). A statement '..UptoSaid' is the law's where the arguments, and the package variables that the reading takes, are together of bulk at most 1048576: NARROWER than '..Said'. Prove '..Said' where nothing that the law and all that it calls make is longer than what came in: it says more and counts as full. Else prove '..UptoSaid'. A law counts once. -/
mutual
def uptoBulk {H : Type} : DataW H → Nat
  | .lit (.string bytes) => bytes.length + 1
  | .lit _ => 1
  | .nil => 1
  | .ptr d => uptoBulk d + 1
  | .slice elems spare => uptoBulkAll elems + uptoBulkAll spare + 1
  | .agg parts => uptoBulkAll parts + 1
  | .iface _ d => uptoBulk d + 1
  | .map entries => uptoBulkEntries entries + 1
  | .held _ => 1
def uptoBulkAll {H : Type} : List (DataW H) → Nat
  | [] => 0
  | d :: r => uptoBulk d + uptoBulkAll r
def uptoBulkEntries {H : Type} : List (Lit × DataW H) → Nat
  | [] => 0
  | x :: r => uptoBulkEntry x + uptoBulkEntries r
def uptoBulkEntry {H : Type} : Lit × DataW H → Nat
  | (.string bytes, d) => bytes.length + uptoBulk d + 1
  | (_, d) => uptoBulk d + 1
 end
def uptoSmall : (H : Type) → List (DataW H) → Bool := fun _ ds => decide (uptoBulkAll ds ≤ 1048576)
def OpenSpec.upto (s : _root_.Go.ChangeSpec) : _root_.Go.OpenSpec := { _root_.Go.OpenSpec.ofChange s with cond := some uptoSmall }

/-- 'ratlinelaw13.CellsPlain', WHERE WHAT IT READS IS OF BULK AT MOST 1048576: true; the input reads as it did. -/
def cellsPlainUptoRow : OpenClaim := { program := "ytlofgmcbanldnaa", sum := "7d1a42ca4c6dc2646d29990501f60eeea89a49b7e4b5284f1979668596bb4431", func := "ratline/ratlinelaw13.CellsPlain", spec := "cellsPlain", apart := false, narrowed := true }
def CellsPlainUptoSaid : Prop := cellsPlainUptoRow.holds Try.pinned (OpenSpec.upto cellsPlainSpec)

/-- 'ratlinelaw13.CellsLast', WHERE WHAT IT READS IS OF BULK AT MOST 1048576: true; the input reads as it did. -/
def cellsLastUptoRow : OpenClaim := { program := "ytlofgmcbanldnaa", sum := "7d1a42ca4c6dc2646d29990501f60eeea89a49b7e4b5284f1979668596bb4431", func := "ratline/ratlinelaw13.CellsLast", spec := "cellsLast", apart := false, narrowed := true }
def CellsLastUptoSaid : Prop := cellsLastUptoRow.holds Try.pinned (OpenSpec.upto cellsLastSpec)

/-- 'ratlinelaw13.CellsNotes', WHERE WHAT IT READS IS OF BULK AT MOST 1048576: true; the input reads as it did. -/
def cellsNotesUptoRow : OpenClaim := { program := "ytlofgmcbanldnaa", sum := "7d1a42ca4c6dc2646d29990501f60eeea89a49b7e4b5284f1979668596bb4431", func := "ratline/ratlinelaw13.CellsNotes", spec := "cellsNotes", apart := false, narrowed := true }
def CellsNotesUptoSaid : Prop := cellsNotesUptoRow.holds Try.pinned (OpenSpec.upto cellsNotesSpec)

/-- 'ratlinelaw13.CellsTells', WHERE WHAT IT READS IS OF BULK AT MOST 1048576: true; the input reads as it did. -/
def cellsTellsUptoRow : OpenClaim := { program := "ytlofgmcbanldnaa", sum := "7d1a42ca4c6dc2646d29990501f60eeea89a49b7e4b5284f1979668596bb4431", func := "ratline/ratlinelaw13.CellsTells", spec := "cellsTells", apart := false, narrowed := true }
def CellsTellsUptoSaid : Prop := cellsTellsUptoRow.holds Try.pinned (OpenSpec.upto cellsTellsSpec)

/-- 'ratlinelaw13.CellsWrong', WHERE WHAT IT READS IS OF BULK AT MOST 1048576: true; the input reads as it did. -/
def cellsWrongUptoRow : OpenClaim := { program := "ytlofgmcbanldnaa", sum := "7d1a42ca4c6dc2646d29990501f60eeea89a49b7e4b5284f1979668596bb4431", func := "ratline/ratlinelaw13.CellsWrong", spec := "cellsWrong", apart := false, narrowed := true }
def CellsWrongUptoSaid : Prop := cellsWrongUptoRow.holds Try.pinned (OpenSpec.upto cellsWrongSpec)

end Rows
end Go.Proofs.Ytlofgmcbanldnaa
