/- Law 22 StoreTurns: the walk, whole. -/
import Derived.Test.YteiaifhnikknbaaDoorStAwake
namespace Go.Proofs.YteiaifhnikknbaaDoor
open Go.RowKit
theorem storeTurns (w : World) (hT : Tab w) (ao : Option Addr) (cap : Nat) (l : List UInt8) (hcap : l.length ≤ cap) (hR : Reads w 1 (.slice ao l.length cap) l.length (u8s l)) (hm : l.length ≤ maxLen) :
    Calls Tryd.prog 3 #[.slice ao l.length cap] w fun e w' => e = .returned (.bool true) ∧ Below w.heap.size w w' := by
  unfold maxLen at hm
  obtain ⟨m, h⟩ : ∃ m : Nat, (if (40 : Int) < (l.length : Int) then (40 : Int) else (l.length : Int)) = (m : Int) := by
    by_cases h : (40 : Int) < l.length
    · exact ⟨40, by rw [if_pos h]; rfl⟩
    · exact ⟨l.length, by rw [if_neg h]⟩
  exact turns_ok awake22 w hT ao l.length cap m l rfl (by omega) hR hcap h
end Go.Proofs.YteiaifhnikknbaaDoor
