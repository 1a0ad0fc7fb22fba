/-
  No cell of these rows narrows 'for every input' (looked for: loops, veiled, ifaces, maps, wideKeys, modest, calm, conditions, laid).
  DERIVED. THE GIVEN ROWS OF THIS SEAT. 6 by the template 'for every input the law returns true; each argument reads behind the call as it read before'; 0 by the template 'total and deterministic' (their statements: YtkpjfdhjkgdcbaaTotals.lean).
  GIVEN WITH THE SEED: the statements are not yours to turn. If you find one false, say at which input.
  Laid BY PROGRAM, IN A SANDBOX (cutbox-rows.mjs): the forced cells as the released guide's own fill.sh prints them over the translation 627e4ff11cc02d6a… (all of the seat's roots in one cut). By AI agents, Wed Nov 11 2026. No macro, syntax, notation, axiom, sorry.
-/
import Derived.Test.YtkpjfdhjkgdcbaaChecked
import GoSem.Claim
import GoSem.ClaimJoined
import GoSem.ClaimMapViews
import Derived.JoinedTies
import Derived.KernelRfl
namespace Go.Proofs.Ytkpjfdhjkgdcbaa
/- THE CELL 'sum', in the pinned program and in every row, IS THE sha256 OF THE DUMP (.gsa) THAT YtkpjfdhjkgdcbaaProg.lean LOADS. Nothing in Lean hashes anything: it is a label: what it is worth is what the hold of that sum in a sandbox is worth. -/
noncomputable def Try.pinned : Pinned := { name := "ytkpjfdhjkgdcbaa", sum := "627e4ff11cc02d6a15be63e67f4eba9d65108ed01dbbd79a49970ba1fd5edf95", checked := Try.checked }
namespace Rows
def none {H : Type} : Left H := { results := [], args := [] }

/-- 'ratlinelaw19.SkipAlone': WHATEVER THE INPUT: true; the input reads as it did. -/
def skipAloneSpec : ChangeSpec := { name := "skipAlone", fn := fun _ => fun
  | [d1, d2] => { results := [.lit (.bool true)], args := [d1, d2] }
  | _ => none }
def skipAloneRow : OpenClaim := { program := "ytkpjfdhjkgdcbaa", sum := "627e4ff11cc02d6a15be63e67f4eba9d65108ed01dbbd79a49970ba1fd5edf95", func := "ratline/ratlinelaw19.SkipAlone", spec := "skipAlone", unfollowed := true, recurses := true, plainKeys := false, apart := false }
def SkipAloneSaid : Prop := skipAloneRow.holds Try.pinned (OpenSpec.ofChange skipAloneSpec)

/-- ITS FALSE NEIGHBOUR: 'it returns false'. Refute it at one input. -/
def skipAloneWrong : ChangeSpec := { name := "skipAlone", fn := fun _ => fun
  | [d1, d2] => { results := [.lit (.bool false)], args := [d1, d2] }
  | _ => none }
def SkipAloneWrongFalsely : Prop := skipAloneRow.holds Try.pinned (OpenSpec.ofChange skipAloneWrong)

/-- 'ratlinelaw19.SkipSorted': WHATEVER THE INPUT: true; the input reads as it did. -/
def skipSortedSpec : ChangeSpec := { name := "skipSorted", fn := fun _ => fun
  | [d1, d2, d3] => { results := [.lit (.bool true)], args := [d1, d2, d3] }
  | _ => none }
def skipSortedRow : OpenClaim := { program := "ytkpjfdhjkgdcbaa", sum := "627e4ff11cc02d6a15be63e67f4eba9d65108ed01dbbd79a49970ba1fd5edf95", func := "ratline/ratlinelaw19.SkipSorted", spec := "skipSorted", unfollowed := true, recurses := true, plainKeys := false, apart := false }
def SkipSortedSaid : Prop := skipSortedRow.holds Try.pinned (OpenSpec.ofChange skipSortedSpec)

/-- ITS FALSE NEIGHBOUR: 'it returns false'. Refute it at one input. -/
def skipSortedWrong : ChangeSpec := { name := "skipSorted", fn := fun _ => fun
  | [d1, d2, d3] => { results := [.lit (.bool false)], args := [d1, d2, d3] }
  | _ => none }
def SkipSortedWrongFalsely : Prop := skipSortedRow.holds Try.pinned (OpenSpec.ofChange skipSortedWrong)

/-- 'ratlinelaw19.SkipFree': WHATEVER THE INPUT: true; the input reads as it did. -/
def skipFreeSpec : ChangeSpec := { name := "skipFree", fn := fun _ => fun
  | [d1, d2, d3] => { results := [.lit (.bool true)], args := [d1, d2, d3] }
  | _ => none }
def skipFreeRow : OpenClaim := { program := "ytkpjfdhjkgdcbaa", sum := "627e4ff11cc02d6a15be63e67f4eba9d65108ed01dbbd79a49970ba1fd5edf95", func := "ratline/ratlinelaw19.SkipFree", spec := "skipFree", unfollowed := true, recurses := true, plainKeys := false, apart := false }
def SkipFreeSaid : Prop := skipFreeRow.holds Try.pinned (OpenSpec.ofChange skipFreeSpec)

/-- ITS FALSE NEIGHBOUR: 'it returns false'. Refute it at one input. -/
def skipFreeWrong : ChangeSpec := { name := "skipFree", fn := fun _ => fun
  | [d1, d2, d3] => { results := [.lit (.bool false)], args := [d1, d2, d3] }
  | _ => none }
def SkipFreeWrongFalsely : Prop := skipFreeRow.holds Try.pinned (OpenSpec.ofChange skipFreeWrong)

/-- 'ratlinelaw19.SkipRaces': WHATEVER THE INPUT: true; the input reads as it did. -/
def skipRacesSpec : ChangeSpec := { name := "skipRaces", fn := fun _ => fun
  | [d1, d2, d3] => { results := [.lit (.bool true)], args := [d1, d2, d3] }
  | _ => none }
def skipRacesRow : OpenClaim := { program := "ytkpjfdhjkgdcbaa", sum := "627e4ff11cc02d6a15be63e67f4eba9d65108ed01dbbd79a49970ba1fd5edf95", func := "ratline/ratlinelaw19.SkipRaces", spec := "skipRaces", unfollowed := true, recurses := true, plainKeys := false, apart := false }
def SkipRacesSaid : Prop := skipRacesRow.holds Try.pinned (OpenSpec.ofChange skipRacesSpec)

/-- ITS FALSE NEIGHBOUR: 'it returns false'. Refute it at one input. -/
def skipRacesWrong : ChangeSpec := { name := "skipRaces", fn := fun _ => fun
  | [d1, d2, d3] => { results := [.lit (.bool false)], args := [d1, d2, d3] }
  | _ => none }
def SkipRacesWrongFalsely : Prop := skipRacesRow.holds Try.pinned (OpenSpec.ofChange skipRacesWrong)

/-- 'ratlinelaw19.SkipTells': WHATEVER THE INPUT: true; the input reads as it did. -/
def skipTellsSpec : ChangeSpec := { name := "skipTells", fn := fun _ => fun
  | [d1, d2, d3] => { results := [.lit (.bool true)], args := [d1, d2, d3] }
  | _ => none }
def skipTellsRow : OpenClaim := { program := "ytkpjfdhjkgdcbaa", sum := "627e4ff11cc02d6a15be63e67f4eba9d65108ed01dbbd79a49970ba1fd5edf95", func := "ratline/ratlinelaw19.SkipTells", spec := "skipTells", unfollowed := true, recurses := true, plainKeys := false, apart := false }
def SkipTellsSaid : Prop := skipTellsRow.holds Try.pinned (OpenSpec.ofChange skipTellsSpec)

/-- ITS FALSE NEIGHBOUR: 'it returns false'. Refute it at one input. -/
def skipTellsWrong : ChangeSpec := { name := "skipTells", fn := fun _ => fun
  | [d1, d2, d3] => { results := [.lit (.bool false)], args := [d1, d2, d3] }
  | _ => none }
def SkipTellsWrongFalsely : Prop := skipTellsRow.holds Try.pinned (OpenSpec.ofChange skipTellsWrong)

/-- 'ratlinelaw19.SkipWrong': WHATEVER THE INPUT: true; the input reads as it did. -/
def skipWrongSpec : ChangeSpec := { name := "skipWrong", fn := fun _ => fun
  | [d1, d2, d3, d4, d5] => { results := [.lit (.bool true)], args := [d1, d2, d3, d4, d5] }
  | _ => none }
def skipWrongRow : OpenClaim := { program := "ytkpjfdhjkgdcbaa", sum := "627e4ff11cc02d6a15be63e67f4eba9d65108ed01dbbd79a49970ba1fd5edf95", func := "ratline/ratlinelaw19.SkipWrong", spec := "skipWrong", unfollowed := true, recurses := true, plainKeys := false, apart := false }
def SkipWrongSaid : Prop := skipWrongRow.holds Try.pinned (OpenSpec.ofChange skipWrongSpec)

/-- ITS FALSE NEIGHBOUR: 'it returns false'. Refute it at one input. -/
def skipWrongWrong : ChangeSpec := { name := "skipWrong", fn := fun _ => fun
  | [d1, d2, d3, d4, d5] => { results := [.lit (.bool false)], args := [d1, d2, d3, d4, d5] }
  | _ => none }
def SkipWrongWrongFalsely : Prop := skipWrongRow.holds Try.pinned (OpenSpec.ofChange skipWrongWrong)

/- THE SECOND FORM. 'bulk': how many values and letters a reading holds, each counted each time it is reached (what is shared counts as often as it is met; a slice's spare places count too). A statement '..UptoSaid' is the law's where the arguments, and the package variables that the reading takes, are together of bulk at most 1048576: NARROWER than '..Said'. Prove '..Said' where nothing that the law and all that it calls make is longer than what came in: it says more and counts as full. Else prove '..UptoSaid'. A law counts once. -/
mutual
def uptoBulk {H : Type} : DataW H → Nat
  | .lit (.string bytes) => bytes.length + 1
  | .lit _ => 1
  | .nil => 1
  | .ptr d => uptoBulk d + 1
  | .slice elems spare => uptoBulkAll elems + uptoBulkAll spare + 1
  | .agg parts => uptoBulkAll parts + 1
  | .iface _ d => uptoBulk d + 1
  | .map entries => uptoBulkEntries entries + 1
  | .held _ => 1
def uptoBulkAll {H : Type} : List (DataW H) → Nat
  | [] => 0
  | d :: r => uptoBulk d + uptoBulkAll r
def uptoBulkEntries {H : Type} : List (Lit × DataW H) → Nat
  | [] => 0
  | x :: r => uptoBulkEntry x + uptoBulkEntries r
def uptoBulkEntry {H : Type} : Lit × DataW H → Nat
  | (.string bytes, d) => bytes.length + uptoBulk d + 1
  | (_, d) => uptoBulk d + 1
 end
def uptoSmall : (H : Type) → List (DataW H) → Bool := fun _ ds => decide (uptoBulkAll ds ≤ 1048576)
def OpenSpec.upto (s : _root_.Go.ChangeSpec) : _root_.Go.OpenSpec := { _root_.Go.OpenSpec.ofChange s with cond := some uptoSmall }

/-- 'ratlinelaw19.SkipAlone', WHERE WHAT IT READS IS OF BULK AT MOST 1048576: true; the input reads as it did. -/
def skipAloneUptoRow : OpenClaim := { program := "ytkpjfdhjkgdcbaa", sum := "627e4ff11cc02d6a15be63e67f4eba9d65108ed01dbbd79a49970ba1fd5edf95", func := "ratline/ratlinelaw19.SkipAlone", spec := "skipAlone", unfollowed := true, recurses := true, plainKeys := false, apart := false, narrowed := true }
def SkipAloneUptoSaid : Prop := skipAloneUptoRow.holds Try.pinned (OpenSpec.upto skipAloneSpec)

/-- 'ratlinelaw19.SkipSorted', WHERE WHAT IT READS IS OF BULK AT MOST 1048576: true; the input reads as it did. -/
def skipSortedUptoRow : OpenClaim := { program := "ytkpjfdhjkgdcbaa", sum := "627e4ff11cc02d6a15be63e67f4eba9d65108ed01dbbd79a49970ba1fd5edf95", func := "ratline/ratlinelaw19.SkipSorted", spec := "skipSorted", unfollowed := true, recurses := true, plainKeys := false, apart := false, narrowed := true }
def SkipSortedUptoSaid : Prop := skipSortedUptoRow.holds Try.pinned (OpenSpec.upto skipSortedSpec)

/-- 'ratlinelaw19.SkipFree', WHERE WHAT IT READS IS OF BULK AT MOST 1048576: true; the input reads as it did. -/
def skipFreeUptoRow : OpenClaim := { program := "ytkpjfdhjkgdcbaa", sum := "627e4ff11cc02d6a15be63e67f4eba9d65108ed01dbbd79a49970ba1fd5edf95", func := "ratline/ratlinelaw19.SkipFree", spec := "skipFree", unfollowed := true, recurses := true, plainKeys := false, apart := false, narrowed := true }
def SkipFreeUptoSaid : Prop := skipFreeUptoRow.holds Try.pinned (OpenSpec.upto skipFreeSpec)

/-- 'ratlinelaw19.SkipRaces', WHERE WHAT IT READS IS OF BULK AT MOST 1048576: true; the input reads as it did. -/
def skipRacesUptoRow : OpenClaim := { program := "ytkpjfdhjkgdcbaa", sum := "627e4ff11cc02d6a15be63e67f4eba9d65108ed01dbbd79a49970ba1fd5edf95", func := "ratline/ratlinelaw19.SkipRaces", spec := "skipRaces", unfollowed := true, recurses := true, plainKeys := false, apart := false, narrowed := true }
def SkipRacesUptoSaid : Prop := skipRacesUptoRow.holds Try.pinned (OpenSpec.upto skipRacesSpec)

/-- 'ratlinelaw19.SkipTells', WHERE WHAT IT READS IS OF BULK AT MOST 1048576: true; the input reads as it did. -/
def skipTellsUptoRow : OpenClaim := { program := "ytkpjfdhjkgdcbaa", sum := "627e4ff11cc02d6a15be63e67f4eba9d65108ed01dbbd79a49970ba1fd5edf95", func := "ratline/ratlinelaw19.SkipTells", spec := "skipTells", unfollowed := true, recurses := true, plainKeys := false, apart := false, narrowed := true }
def SkipTellsUptoSaid : Prop := skipTellsUptoRow.holds Try.pinned (OpenSpec.upto skipTellsSpec)

/-- 'ratlinelaw19.SkipWrong', WHERE WHAT IT READS IS OF BULK AT MOST 1048576: true; the input reads as it did. -/
def skipWrongUptoRow : OpenClaim := { program := "ytkpjfdhjkgdcbaa", sum := "627e4ff11cc02d6a15be63e67f4eba9d65108ed01dbbd79a49970ba1fd5edf95", func := "ratline/ratlinelaw19.SkipWrong", spec := "skipWrong", unfollowed := true, recurses := true, plainKeys := false, apart := false, narrowed := true }
def SkipWrongUptoSaid : Prop := skipWrongUptoRow.holds Try.pinned (OpenSpec.upto skipWrongSpec)

end Rows
end Go.Proofs.Ytkpjfdhjkgdcbaa
