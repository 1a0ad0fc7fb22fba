/- The walks over package cells. -/
import Derived.Test.YtncfbccihofaoaaCells
import Derived.Test.YtncfbccihofaoaaProg
namespace Go.Proofs.Ytncfbccihofaoaa
open Go.RowKit

theorem infoAcc : (Try.prog.info? 38).map (fun i => (i.zero, i.size, i.bytes)) = some (some (.agg #[.int .i64 0, .int .u8 0, .int .i64 0]), 3, 24) := by kernel_rfl

set_option maxHeartbeats 400000 in
theorem is_yes (w : World) (p : Nat) (h : w.cell? ⟨p, 0, none⟩ = some (.bool true)) :
    Calls Try.prog 28 #[.pointer (some ⟨p, 0, none⟩)] w fun e w' => e = .returned (.bool true) ∧ w = w' := by
  go_enter Try.func28, Try.ntmps28
  go_wp2
  go_ret
  exact ⟨rfl, rfl⟩

set_option maxHeartbeats 400000 in
theorem is_nil (w : World) :
    Calls Try.prog 28 #[.pointer none] w fun e w' => e = .returned (.bool false) ∧ w = w' := by
  go_enter Try.func28, Try.ntmps28
  go_wp2
  go_ret
  exact ⟨rfl, rfl⟩

set_option maxHeartbeats 400000 in
theorem is_no (w : World) (p : Nat) (h : w.cell? ⟨p, 0, none⟩ = some (.bool false)) :
    Calls Try.prog 28 #[.pointer (some ⟨p, 0, none⟩)] w fun e w' => e = .returned (.bool false) ∧ w = w' := by
  go_enter Try.func28, Try.ntmps28
  go_wp2
  go_ret
  exact ⟨rfl, rfl⟩

/-- Is there such a task, and such a place? -/
def okAt (n : Nat) (task at_ : Int) : Bool := decide (0 ≤ task ∧ task < 64 ∧ 0 ≤ at_ ∧ at_ < n)









end Go.Proofs.Ytncfbccihofaoaa
