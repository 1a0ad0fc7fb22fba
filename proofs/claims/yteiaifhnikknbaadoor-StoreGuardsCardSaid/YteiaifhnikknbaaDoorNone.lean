/- The walks over package cells, of a memory that is none. -/
import Derived.Test.YteiaifhnikknbaaDoorCellsW
namespace Go.Proofs.YteiaifhnikknbaaDoor
open Go.RowKit

/-- A memory that is none: nil, or one that New did not answer. -/
def NoCells (w : World) (v : Value) : Prop := v = .pointer none ∨ ∃ p, v = .pointer (some ⟨p, 0, none⟩) ∧ w.cell? ⟨p, 0, none⟩ = some (.bool false)
theorem NoCells.alloc {w : World} {v : Value} (h : NoCells w v) (o : Obj) : NoCells (w.alloc o) v :=
  h.imp id fun ⟨p, hv, hc⟩ => ⟨p, hv, (World.cell?_of_block (w := w) (Below.heap_alloc w o p (World.block_lt_of_cell? w _ hc))).trans hc⟩

theorem is_none (w : World) (v : Value) (h : NoCells w v) : Calls Tryd.prog 70 #[v] w fun e w' => e = .returned (.bool false) ∧ w = w' := by
  rcases h with rfl | ⟨p, rfl, hc⟩
  · exact is_nil w
  · exact is_no w p hc

set_option maxHeartbeats 400000 in
theorem atomic_none (w : World) (v : Value) (h : NoCells w v) (t a : Int) :
    Calls Tryd.prog 66 #[v, .int .i64 t, .int .i64 a] w fun e w' => e = .returned (.tuple #[.pointer none, .int .i64 1]) ∧ w = w' := by
  go_enter Tryd.func66, Tryd.ntmps66
  go_wp2_with (go_at_call 70; refine (is_none _ _ h).mono ?_; rintro e w' ⟨rfl, rfl⟩)
  go_ret2
  exact ⟨rfl, rfl⟩


set_option maxHeartbeats 400000 in
theorem load_none (w : World) (v : Value) (h : NoCells w v) (t a : Int) :
    Calls Tryd.prog 32 #[v, .int .i64 t, .int .i64 a] w fun e w' => e = .returned (.tuple #[.int .u64 0, .int .i64 1]) ∧ w = w' := by
  go_enter Tryd.func32, Tryd.ntmps32
  go_wp2_with (go_at_call 66; refine (atomic_none _ _ h _ _).mono ?_; rintro e w' ⟨rfl, rfl⟩)
  go_ret2
  exact ⟨rfl, rfl⟩

set_option maxHeartbeats 400000 in
theorem store_none (w : World) (v : Value) (h : NoCells w v) (t a x : Int) :
    Calls Tryd.prog 59 #[v, .int .i64 t, .int .i64 a, .int .u64 x] w fun e w' => e = .returned (.int .i64 1) ∧ w = w' := by
  go_enter Tryd.func59, Tryd.ntmps59
  go_wp2_with (go_at_call 66; refine (atomic_none _ _ h _ _).mono ?_; rintro e w' ⟨rfl, rfl⟩)
  go_ret
  exact ⟨rfl, rfl⟩





set_option maxHeartbeats 400000 in
theorem many_none (w : World) (v : Value) (h : NoCells w v) :
    Calls Tryd.prog 48 #[v] w fun e w' => e = .returned (.tuple #[.int .i64 0, .int .i64 0]) ∧ w = w' := by
  go_enter Tryd.func48, Tryd.ntmps48
  go_wp2_with (go_at_call 70; refine (is_none _ _ h).mono ?_; rintro e w' ⟨rfl, rfl⟩)
  go_ret2
  exact ⟨rfl, rfl⟩

set_option maxHeartbeats 400000 in
theorem trace_none (w : World) (v : Value) (h : NoCells w v) :
    Calls Tryd.prog 42 #[v] w fun e w' => e = .returned (.slice none 0 0) ∧ w = w' := by
  go_enter Tryd.func42, Tryd.ntmps42
  go_wp2_with (go_at_call 70; refine (is_none _ _ h).mono ?_; rintro e w' ⟨rfl, rfl⟩)
  go_ret
  exact ⟨rfl, rfl⟩

set_option maxHeartbeats 400000 in
theorem note_none (w : World) (v : Value) (h : NoCells w v) (t x a : Int) :
    Calls Tryd.prog 64 #[v, .agg #[.int .i64 t, .int .u8 x, .int .i64 a]] w fun e w' => e = .returned (.int .i64 1) ∧ Below w.heap.size w w' := by
  go_enter Tryd.func64, Tryd.ntmps64
  go_wp2_with (go_at_call 70; refine (is_none _ _ (h.alloc _)).mono ?_; rintro e w' ⟨rfl, rfl⟩)
  go_ret
  exact ⟨rfl, (Below.refl _ _).alloc (Nat.le_refl _) _⟩

end Go.Proofs.YteiaifhnikknbaaDoor
