/-
  NARROWER THAN 'FOR EVERY INPUT', by the rows' own cells (each row's printed sentence says how): TowerTells: laid · TowerCounts: laid · TowerRound: laid · TowerSteps: laid.
  DERIVED. THE GIVEN ROWS OF THIS SEAT. 4 by the template 'for every input the law returns true; each argument reads behind the call as it read before'; 0 by the template 'total and deterministic' (their statements: YtidgnlcokfnhgaaDoorTotals.lean).
  GIVEN WITH THE SEED: the statements are not yours to turn. If you find one false, say at which input.
  Laid BY PROGRAM, IN A SANDBOX (cutbox-rows.mjs): the forced cells as the released guide's own fill.sh prints them over the translation 8035974da9c9724a… (all of the seat's roots in one cut). By AI agents, Wed Nov 11 2026. No macro, syntax, notation, axiom, sorry.
-/
import Derived.Test.YtidgnlcokfnhgaaDoorChecked
import GoSem.Claim
import GoSem.ClaimJoined
import GoSem.ClaimMapViews
import Derived.JoinedTies
import Derived.KernelRfl
namespace Go.Proofs.YtidgnlcokfnhgaaDoor
/- THE CELL 'sum', in the pinned program and in every row, IS THE sha256 OF THE DUMP (.gsa) THAT YtidgnlcokfnhgaaDoorProg.lean LOADS. Nothing in Lean hashes anything: it is a label: what it is worth is what the hold of that sum in a sandbox is worth. -/
noncomputable def Tryd.pinned : Pinned := { name := "ytidgnlcokfnhgaadoor", sum := "8035974da9c9724ad2a33c57714dfee0abb3ba44bbd336f2a7571d372ce92ef8", checked := Tryd.checked }
namespace Rows
def none {H : Type} : Left H := { results := [], args := [] }

/- WHAT THE LISTED PACKAGE-LEVEL VARIABLES READ AS WHEN THE CALL BEGINS. Each datum BY PROGRAM (the guide's laid-datum.mjs) off the statement by which the dump's own 'gosem.cut.vars' lays the variable. In a bare row this is a premise. The card (YtidgnlcokfnhgaaDoorCards.lean) ties it to the program's text. -/
def laid_math_bits_deBruijn32tab {H : Type} : DataW H := .agg [.lit (.int .u8 0), .lit (.int .u8 1), .lit (.int .u8 28), .lit (.int .u8 2), .lit (.int .u8 29), .lit (.int .u8 14), .lit (.int .u8 24), .lit (.int .u8 3), .lit (.int .u8 30), .lit (.int .u8 22), .lit (.int .u8 20), .lit (.int .u8 15), .lit (.int .u8 25), .lit (.int .u8 17), .lit (.int .u8 4), .lit (.int .u8 8), .lit (.int .u8 31), .lit (.int .u8 27), .lit (.int .u8 13), .lit (.int .u8 23), .lit (.int .u8 21), .lit (.int .u8 19), .lit (.int .u8 16), .lit (.int .u8 7), .lit (.int .u8 26), .lit (.int .u8 12), .lit (.int .u8 18), .lit (.int .u8 6), .lit (.int .u8 11), .lit (.int .u8 5), .lit (.int .u8 10), .lit (.int .u8 9)]

/-- 'ratlinelaw18.TowerTells': WHATEVER THE INPUT: true; the input reads as it did. -/
def towerTellsSpec : ChangeSpec := { name := "towerTells", fn := fun _ => fun
  | [d1, d2, d3, d4] => { results := [.lit (.bool true)], args := [d1, d2, d3, d4] }
  | _ => none }
def towerTellsRow : OpenClaim := { program := "ytidgnlcokfnhgaadoor", sum := "8035974da9c9724ad2a33c57714dfee0abb3ba44bbd336f2a7571d372ce92ef8", func := "ratline/ratlinelaw18.TowerTells", spec := "towerTells", unfollowed := true, recurses := true, named := ["math/bits.deBruijn32tab"], apart := false, laid := [("math/bits.deBruijn32tab", laid_math_bits_deBruijn32tab)] }
def TowerTellsSaid : Prop := towerTellsRow.holds Tryd.pinned (OpenSpec.ofChange towerTellsSpec)

/-- ITS FALSE NEIGHBOUR: 'it returns false'. Refute it at one input. -/
def towerTellsWrong : ChangeSpec := { name := "towerTells", fn := fun _ => fun
  | [d1, d2, d3, d4] => { results := [.lit (.bool false)], args := [d1, d2, d3, d4] }
  | _ => none }
def TowerTellsWrongFalsely : Prop := towerTellsRow.holds Tryd.pinned (OpenSpec.ofChange towerTellsWrong)

/-- 'ratlinelaw18.TowerCounts': WHATEVER THE INPUT: true; the input reads as it did. -/
def towerCountsSpec : ChangeSpec := { name := "towerCounts", fn := fun _ => fun
  | [d1, d2, d3] => { results := [.lit (.bool true)], args := [d1, d2, d3] }
  | _ => none }
def towerCountsRow : OpenClaim := { program := "ytidgnlcokfnhgaadoor", sum := "8035974da9c9724ad2a33c57714dfee0abb3ba44bbd336f2a7571d372ce92ef8", func := "ratline/ratlinelaw18.TowerCounts", spec := "towerCounts", unfollowed := true, recurses := true, named := ["math/bits.deBruijn32tab"], apart := false, laid := [("math/bits.deBruijn32tab", laid_math_bits_deBruijn32tab)] }
def TowerCountsSaid : Prop := towerCountsRow.holds Tryd.pinned (OpenSpec.ofChange towerCountsSpec)

/-- ITS FALSE NEIGHBOUR: 'it returns false'. Refute it at one input. -/
def towerCountsWrong : ChangeSpec := { name := "towerCounts", fn := fun _ => fun
  | [d1, d2, d3] => { results := [.lit (.bool false)], args := [d1, d2, d3] }
  | _ => none }
def TowerCountsWrongFalsely : Prop := towerCountsRow.holds Tryd.pinned (OpenSpec.ofChange towerCountsWrong)

/-- 'ratlinelaw18.TowerRound': WHATEVER THE INPUT: true; the input reads as it did. -/
def towerRoundSpec : ChangeSpec := { name := "towerRound", fn := fun _ => fun
  | [d1, d2, d3, d4] => { results := [.lit (.bool true)], args := [d1, d2, d3, d4] }
  | _ => none }
def towerRoundRow : OpenClaim := { program := "ytidgnlcokfnhgaadoor", sum := "8035974da9c9724ad2a33c57714dfee0abb3ba44bbd336f2a7571d372ce92ef8", func := "ratline/ratlinelaw18.TowerRound", spec := "towerRound", unfollowed := true, recurses := true, named := ["math/bits.deBruijn32tab"], apart := false, laid := [("math/bits.deBruijn32tab", laid_math_bits_deBruijn32tab)] }
def TowerRoundSaid : Prop := towerRoundRow.holds Tryd.pinned (OpenSpec.ofChange towerRoundSpec)

/-- ITS FALSE NEIGHBOUR: 'it returns false'. Refute it at one input. -/
def towerRoundWrong : ChangeSpec := { name := "towerRound", fn := fun _ => fun
  | [d1, d2, d3, d4] => { results := [.lit (.bool false)], args := [d1, d2, d3, d4] }
  | _ => none }
def TowerRoundWrongFalsely : Prop := towerRoundRow.holds Tryd.pinned (OpenSpec.ofChange towerRoundWrong)

/-- 'ratlinelaw18.TowerSteps': WHATEVER THE INPUT: true; the input reads as it did. -/
def towerStepsSpec : ChangeSpec := { name := "towerSteps", fn := fun _ => fun
  | [d1, d2] => { results := [.lit (.bool true)], args := [d1, d2] }
  | _ => none }
def towerStepsRow : OpenClaim := { program := "ytidgnlcokfnhgaadoor", sum := "8035974da9c9724ad2a33c57714dfee0abb3ba44bbd336f2a7571d372ce92ef8", func := "ratline/ratlinelaw18.TowerSteps", spec := "towerSteps", unfollowed := true, recurses := true, named := ["math/bits.deBruijn32tab"], apart := false, laid := [("math/bits.deBruijn32tab", laid_math_bits_deBruijn32tab)] }
def TowerStepsSaid : Prop := towerStepsRow.holds Tryd.pinned (OpenSpec.ofChange towerStepsSpec)

/-- ITS FALSE NEIGHBOUR: 'it returns false'. Refute it at one input. -/
def towerStepsWrong : ChangeSpec := { name := "towerSteps", fn := fun _ => fun
  | [d1, d2] => { results := [.lit (.bool false)], args := [d1, d2] }
  | _ => none }
def TowerStepsWrongFalsely : Prop := towerStepsRow.holds Tryd.pinned (OpenSpec.ofChange towerStepsWrong)

/- THE SECOND FORM. 'bulk': how many values and letters a reading holds, each counted each time it is reached (what is shared counts as often as it is met; a slice's spare places count too). A statement '..UptoSaid' is the law's where the arguments, and the package variables that the reading takes, are together of bulk at most 1048576: NARROWER than '..Said'. Prove '..Said' where nothing that the law and all that it calls make is longer than what came in: it says more and counts as full. Else prove '..UptoSaid'. A law counts once. -/
mutual
def uptoBulk {H : Type} : DataW H → Nat
  | .lit (.string bytes) => bytes.length + 1
  | .lit _ => 1
  | .nil => 1
  | .ptr d => uptoBulk d + 1
  | .slice elems spare => uptoBulkAll elems + uptoBulkAll spare + 1
  | .agg parts => uptoBulkAll parts + 1
  | .iface _ d => uptoBulk d + 1
  | .map entries => uptoBulkEntries entries + 1
  | .held _ => 1
def uptoBulkAll {H : Type} : List (DataW H) → Nat
  | [] => 0
  | d :: r => uptoBulk d + uptoBulkAll r
def uptoBulkEntries {H : Type} : List (Lit × DataW H) → Nat
  | [] => 0
  | x :: r => uptoBulkEntry x + uptoBulkEntries r
def uptoBulkEntry {H : Type} : Lit × DataW H → Nat
  | (.string bytes, d) => bytes.length + uptoBulk d + 1
  | (_, d) => uptoBulk d + 1
 end
def uptoSmall : (H : Type) → List (DataW H) → Bool := fun _ ds => decide (uptoBulkAll ds ≤ 1048576)
def OpenSpec.upto (s : _root_.Go.ChangeSpec) : _root_.Go.OpenSpec := { _root_.Go.OpenSpec.ofChange s with cond := some uptoSmall }

/-- 'ratlinelaw18.TowerTells', WHERE WHAT IT READS IS OF BULK AT MOST 1048576: true; the input reads as it did. -/
def towerTellsUptoRow : OpenClaim := { program := "ytidgnlcokfnhgaadoor", sum := "8035974da9c9724ad2a33c57714dfee0abb3ba44bbd336f2a7571d372ce92ef8", func := "ratline/ratlinelaw18.TowerTells", spec := "towerTells", unfollowed := true, recurses := true, named := ["math/bits.deBruijn32tab"], apart := false, laid := [("math/bits.deBruijn32tab", laid_math_bits_deBruijn32tab)], narrowed := true }
def TowerTellsUptoSaid : Prop := towerTellsUptoRow.holds Tryd.pinned (OpenSpec.upto towerTellsSpec)

/-- 'ratlinelaw18.TowerCounts', WHERE WHAT IT READS IS OF BULK AT MOST 1048576: true; the input reads as it did. -/
def towerCountsUptoRow : OpenClaim := { program := "ytidgnlcokfnhgaadoor", sum := "8035974da9c9724ad2a33c57714dfee0abb3ba44bbd336f2a7571d372ce92ef8", func := "ratline/ratlinelaw18.TowerCounts", spec := "towerCounts", unfollowed := true, recurses := true, named := ["math/bits.deBruijn32tab"], apart := false, laid := [("math/bits.deBruijn32tab", laid_math_bits_deBruijn32tab)], narrowed := true }
def TowerCountsUptoSaid : Prop := towerCountsUptoRow.holds Tryd.pinned (OpenSpec.upto towerCountsSpec)

/-- 'ratlinelaw18.TowerRound', WHERE WHAT IT READS IS OF BULK AT MOST 1048576: true; the input reads as it did. -/
def towerRoundUptoRow : OpenClaim := { program := "ytidgnlcokfnhgaadoor", sum := "8035974da9c9724ad2a33c57714dfee0abb3ba44bbd336f2a7571d372ce92ef8", func := "ratline/ratlinelaw18.TowerRound", spec := "towerRound", unfollowed := true, recurses := true, named := ["math/bits.deBruijn32tab"], apart := false, laid := [("math/bits.deBruijn32tab", laid_math_bits_deBruijn32tab)], narrowed := true }
def TowerRoundUptoSaid : Prop := towerRoundUptoRow.holds Tryd.pinned (OpenSpec.upto towerRoundSpec)

/-- 'ratlinelaw18.TowerSteps', WHERE WHAT IT READS IS OF BULK AT MOST 1048576: true; the input reads as it did. -/
def towerStepsUptoRow : OpenClaim := { program := "ytidgnlcokfnhgaadoor", sum := "8035974da9c9724ad2a33c57714dfee0abb3ba44bbd336f2a7571d372ce92ef8", func := "ratline/ratlinelaw18.TowerSteps", spec := "towerSteps", unfollowed := true, recurses := true, named := ["math/bits.deBruijn32tab"], apart := false, laid := [("math/bits.deBruijn32tab", laid_math_bits_deBruijn32tab)], narrowed := true }
def TowerStepsUptoSaid : Prop := towerStepsUptoRow.holds Tryd.pinned (OpenSpec.upto towerStepsSpec)

end Rows
end Go.Proofs.YtidgnlcokfnhgaaDoor
