/-
  No cell of these rows narrows 'for every input' (looked for: loops, veiled, ifaces, maps, wideKeys, modest, calm, conditions, laid).
  DERIVED. THE GIVEN ROWS OF THIS SEAT. 5 by the template 'for every input the law returns true; each argument reads behind the call as it read before'; 0 by the template 'total and deterministic' (their statements: YtncfbccihofaoaaTotals.lean).
  GIVEN WITH THE SEED: the statements are not yours to turn. If you find one false, say at which input.
  Laid BY PROGRAM, IN A SANDBOX (cutbox-rows.mjs): the forced cells as the released guide's own fill.sh prints them over the translation 0e6615b842783fe5… (all of the seat's roots in one cut). By AI agents, Wed Nov 11 2026. No macro, syntax, notation, axiom, sorry.
-/
import Derived.Test.YtncfbccihofaoaaChecked
import GoSem.Claim
import GoSem.ClaimJoined
import GoSem.ClaimMapViews
import Derived.JoinedTies
import Derived.KernelRfl
namespace Go.Proofs.Ytncfbccihofaoaa
/- THE CELL 'sum', in the pinned program and in every row, IS THE sha256 OF THE DUMP (.gsa) THAT YtncfbccihofaoaaProg.lean LOADS. Nothing in Lean hashes anything: it is a label: what it is worth is what the hold of that sum in a sandbox is worth. -/
noncomputable def Try.pinned : Pinned := { name := "ytncfbccihofaoaa", sum := "0e6615b842783fe55e0cefee944de35a4f04e2c99cd0300c955bdba067cc9671", checked := Try.checked }
namespace Rows
def none {H : Type} : Left H := { results := [], args := [] }

/-- 'ratlinelaw14.LocksOne': WHATEVER THE INPUT: true; the input reads as it did. -/
def locksOneSpec : ChangeSpec := { name := "locksOne", fn := fun _ => fun
  | [d1, d2] => { results := [.lit (.bool true)], args := [d1, d2] }
  | _ => none }
def locksOneRow : OpenClaim := { program := "ytncfbccihofaoaa", sum := "0e6615b842783fe55e0cefee944de35a4f04e2c99cd0300c955bdba067cc9671", func := "ratline/ratlinelaw14.LocksOne", spec := "locksOne", unfollowed := true, recurses := true, apart := false }
def LocksOneSaid : Prop := locksOneRow.holds Try.pinned (OpenSpec.ofChange locksOneSpec)

/-- ITS FALSE NEIGHBOUR: 'it returns false'. Refute it at one input. -/
def locksOneWrong : ChangeSpec := { name := "locksOne", fn := fun _ => fun
  | [d1, d2] => { results := [.lit (.bool false)], args := [d1, d2] }
  | _ => none }
def LocksOneWrongFalsely : Prop := locksOneRow.holds Try.pinned (OpenSpec.ofChange locksOneWrong)

/-- 'ratlinelaw14.LocksTells': WHATEVER THE INPUT: true; the input reads as it did. -/
def locksTellsSpec : ChangeSpec := { name := "locksTells", fn := fun _ => fun
  | [d1, d2, d3] => { results := [.lit (.bool true)], args := [d1, d2, d3] }
  | _ => none }
def locksTellsRow : OpenClaim := { program := "ytncfbccihofaoaa", sum := "0e6615b842783fe55e0cefee944de35a4f04e2c99cd0300c955bdba067cc9671", func := "ratline/ratlinelaw14.LocksTells", spec := "locksTells", unfollowed := true, recurses := true, apart := false }
def LocksTellsSaid : Prop := locksTellsRow.holds Try.pinned (OpenSpec.ofChange locksTellsSpec)

/-- ITS FALSE NEIGHBOUR: 'it returns false'. Refute it at one input. -/
def locksTellsWrong : ChangeSpec := { name := "locksTells", fn := fun _ => fun
  | [d1, d2, d3] => { results := [.lit (.bool false)], args := [d1, d2, d3] }
  | _ => none }
def LocksTellsWrongFalsely : Prop := locksTellsRow.holds Try.pinned (OpenSpec.ofChange locksTellsWrong)

/-- 'ratlinelaw14.LocksSleep': WHATEVER THE INPUT: true; the input reads as it did. -/
def locksSleepSpec : ChangeSpec := { name := "locksSleep", fn := fun _ => fun
  | [d1, d2] => { results := [.lit (.bool true)], args := [d1, d2] }
  | _ => none }
def locksSleepRow : OpenClaim := { program := "ytncfbccihofaoaa", sum := "0e6615b842783fe55e0cefee944de35a4f04e2c99cd0300c955bdba067cc9671", func := "ratline/ratlinelaw14.LocksSleep", spec := "locksSleep", unfollowed := true, recurses := true, apart := false }
def LocksSleepSaid : Prop := locksSleepRow.holds Try.pinned (OpenSpec.ofChange locksSleepSpec)

/-- ITS FALSE NEIGHBOUR: 'it returns false'. Refute it at one input. -/
def locksSleepWrong : ChangeSpec := { name := "locksSleep", fn := fun _ => fun
  | [d1, d2] => { results := [.lit (.bool false)], args := [d1, d2] }
  | _ => none }
def LocksSleepWrongFalsely : Prop := locksSleepRow.holds Try.pinned (OpenSpec.ofChange locksSleepWrong)

/-- 'ratlinelaw14.LocksCan': WHATEVER THE INPUT: true; the input reads as it did. -/
def locksCanSpec : ChangeSpec := { name := "locksCan", fn := fun _ => fun
  | [d1, d2, d3] => { results := [.lit (.bool true)], args := [d1, d2, d3] }
  | _ => none }
def locksCanRow : OpenClaim := { program := "ytncfbccihofaoaa", sum := "0e6615b842783fe55e0cefee944de35a4f04e2c99cd0300c955bdba067cc9671", func := "ratline/ratlinelaw14.LocksCan", spec := "locksCan", unfollowed := true, recurses := true, apart := false }
def LocksCanSaid : Prop := locksCanRow.holds Try.pinned (OpenSpec.ofChange locksCanSpec)

/-- ITS FALSE NEIGHBOUR: 'it returns false'. Refute it at one input. -/
def locksCanWrong : ChangeSpec := { name := "locksCan", fn := fun _ => fun
  | [d1, d2, d3] => { results := [.lit (.bool false)], args := [d1, d2, d3] }
  | _ => none }
def LocksCanWrongFalsely : Prop := locksCanRow.holds Try.pinned (OpenSpec.ofChange locksCanWrong)

/-- 'ratlinelaw14.LocksWrong': WHATEVER THE INPUT: true; the input reads as it did. -/
def locksWrongSpec : ChangeSpec := { name := "locksWrong", fn := fun _ => fun
  | [d1, d2] => { results := [.lit (.bool true)], args := [d1, d2] }
  | _ => none }
def locksWrongRow : OpenClaim := { program := "ytncfbccihofaoaa", sum := "0e6615b842783fe55e0cefee944de35a4f04e2c99cd0300c955bdba067cc9671", func := "ratline/ratlinelaw14.LocksWrong", spec := "locksWrong", unfollowed := true, recurses := true, apart := false }
def LocksWrongSaid : Prop := locksWrongRow.holds Try.pinned (OpenSpec.ofChange locksWrongSpec)

/-- ITS FALSE NEIGHBOUR: 'it returns false'. Refute it at one input. -/
def locksWrongWrong : ChangeSpec := { name := "locksWrong", fn := fun _ => fun
  | [d1, d2] => { results := [.lit (.bool false)], args := [d1, d2] }
  | _ => none }
def LocksWrongWrongFalsely : Prop := locksWrongRow.holds Try.pinned (OpenSpec.ofChange locksWrongWrong)

/- THE SECOND FORM. 'bulk': how many values and letters a reading holds, each counted each time it is reached (what is shared counts as often as it is met; a slice's spare places count too). A statement '..UptoSaid' is the law's where the arguments, and the package variables that the reading takes, are together of bulk at most 1048576: NARROWER than '..Said'. Prove '..Said' where nothing that the law and all that it calls make is longer than what came in: it says more and counts as full. Else prove '..UptoSaid'. A law counts once. -/
mutual
def uptoBulk {H : Type} : DataW H → Nat
  | .lit (.string bytes) => bytes.length + 1
  | .lit _ => 1
  | .nil => 1
  | .ptr d => uptoBulk d + 1
  | .slice elems spare => uptoBulkAll elems + uptoBulkAll spare + 1
  | .agg parts => uptoBulkAll parts + 1
  | .iface _ d => uptoBulk d + 1
  | .map entries => uptoBulkEntries entries + 1
  | .held _ => 1
def uptoBulkAll {H : Type} : List (DataW H) → Nat
  | [] => 0
  | d :: r => uptoBulk d + uptoBulkAll r
def uptoBulkEntries {H : Type} : List (Lit × DataW H) → Nat
  | [] => 0
  | x :: r => uptoBulkEntry x + uptoBulkEntries r
def uptoBulkEntry {H : Type} : Lit × DataW H → Nat
  | (.string bytes, d) => bytes.length + uptoBulk d + 1
  | (_, d) => uptoBulk d + 1
 end
def uptoSmall : (H : Type) → List (DataW H) → Bool := fun _ ds => decide (uptoBulkAll ds ≤ 1048576)
def OpenSpec.upto (s : _root_.Go.ChangeSpec) : _root_.Go.OpenSpec := { _root_.Go.OpenSpec.ofChange s with cond := some uptoSmall }

/-- 'ratlinelaw14.LocksOne', WHERE WHAT IT READS IS OF BULK AT MOST 1048576: true; the input reads as it did. -/
def locksOneUptoRow : OpenClaim := { program := "ytncfbccihofaoaa", sum := "0e6615b842783fe55e0cefee944de35a4f04e2c99cd0300c955bdba067cc9671", func := "ratline/ratlinelaw14.LocksOne", spec := "locksOne", unfollowed := true, recurses := true, apart := false, narrowed := true }
def LocksOneUptoSaid : Prop := locksOneUptoRow.holds Try.pinned (OpenSpec.upto locksOneSpec)

/-- 'ratlinelaw14.LocksTells', WHERE WHAT IT READS IS OF BULK AT MOST 1048576: true; the input reads as it did. -/
def locksTellsUptoRow : OpenClaim := { program := "ytncfbccihofaoaa", sum := "0e6615b842783fe55e0cefee944de35a4f04e2c99cd0300c955bdba067cc9671", func := "ratline/ratlinelaw14.LocksTells", spec := "locksTells", unfollowed := true, recurses := true, apart := false, narrowed := true }
def LocksTellsUptoSaid : Prop := locksTellsUptoRow.holds Try.pinned (OpenSpec.upto locksTellsSpec)

/-- 'ratlinelaw14.LocksSleep', WHERE WHAT IT READS IS OF BULK AT MOST 1048576: true; the input reads as it did. -/
def locksSleepUptoRow : OpenClaim := { program := "ytncfbccihofaoaa", sum := "0e6615b842783fe55e0cefee944de35a4f04e2c99cd0300c955bdba067cc9671", func := "ratline/ratlinelaw14.LocksSleep", spec := "locksSleep", unfollowed := true, recurses := true, apart := false, narrowed := true }
def LocksSleepUptoSaid : Prop := locksSleepUptoRow.holds Try.pinned (OpenSpec.upto locksSleepSpec)

/-- 'ratlinelaw14.LocksCan', WHERE WHAT IT READS IS OF BULK AT MOST 1048576: true; the input reads as it did. -/
def locksCanUptoRow : OpenClaim := { program := "ytncfbccihofaoaa", sum := "0e6615b842783fe55e0cefee944de35a4f04e2c99cd0300c955bdba067cc9671", func := "ratline/ratlinelaw14.LocksCan", spec := "locksCan", unfollowed := true, recurses := true, apart := false, narrowed := true }
def LocksCanUptoSaid : Prop := locksCanUptoRow.holds Try.pinned (OpenSpec.upto locksCanSpec)

/-- 'ratlinelaw14.LocksWrong', WHERE WHAT IT READS IS OF BULK AT MOST 1048576: true; the input reads as it did. -/
def locksWrongUptoRow : OpenClaim := { program := "ytncfbccihofaoaa", sum := "0e6615b842783fe55e0cefee944de35a4f04e2c99cd0300c955bdba067cc9671", func := "ratline/ratlinelaw14.LocksWrong", spec := "locksWrong", unfollowed := true, recurses := true, apart := false, narrowed := true }
def LocksWrongUptoSaid : Prop := locksWrongUptoRow.holds Try.pinned (OpenSpec.upto locksWrongSpec)

end Rows
end Go.Proofs.Ytncfbccihofaoaa
