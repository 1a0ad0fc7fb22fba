/- The walks over package cells, of a memory that is none. -/
import Derived.Test.YtefdbllphepdeaaCellsW
namespace Go.Proofs.Ytefdbllphepdeaa
open Go.RowKit

/-- A memory that is none: nil, or one that New did not answer. -/
def NoCells (w : World) (v : Value) : Prop := v = .pointer none ∨ ∃ p, v = .pointer (some ⟨p, 0, none⟩) ∧ w.cell? ⟨p, 0, none⟩ = some (.bool false)
theorem NoCells.alloc {w : World} {v : Value} (h : NoCells w v) (o : Obj) : NoCells (w.alloc o) v :=
  h.imp id fun ⟨p, hv, hc⟩ => ⟨p, hv, (World.cell?_of_block (w := w) (Below.heap_alloc w o p (World.block_lt_of_cell? w _ hc))).trans hc⟩

theorem is_none (w : World) (v : Value) (h : NoCells w v) : Calls Try.prog 22 #[v] w fun e w' => e = .returned (.bool false) ∧ w = w' := by
  rcases h with rfl | ⟨p, rfl, hc⟩
  · exact is_nil w
  · exact is_no w p hc

set_option maxHeartbeats 400000 in
theorem atomic_none (w : World) (v : Value) (h : NoCells w v) (t a : Int) :
    Calls Try.prog 25 #[v, .int .i64 t, .int .i64 a] w fun e w' => e = .returned (.tuple #[.pointer none, .int .i64 1]) ∧ w = w' := by
  go_enter Try.func25, Try.ntmps25
  go_wp2_with (go_at_call 22; refine (is_none _ _ h).mono ?_; rintro e w' ⟨rfl, rfl⟩)
  go_ret2
  exact ⟨rfl, rfl⟩


set_option maxHeartbeats 400000 in
theorem load_none (w : World) (v : Value) (h : NoCells w v) (t a : Int) :
    Calls Try.prog 20 #[v, .int .i64 t, .int .i64 a] w fun e w' => e = .returned (.tuple #[.int .u64 0, .int .i64 1]) ∧ w = w' := by
  go_enter Try.func20, Try.ntmps20
  go_wp2_with (go_at_call 25; refine (atomic_none _ _ h _ _).mono ?_; rintro e w' ⟨rfl, rfl⟩)
  go_ret2
  exact ⟨rfl, rfl⟩

set_option maxHeartbeats 400000 in
theorem store_none (w : World) (v : Value) (h : NoCells w v) (t a x : Int) :
    Calls Try.prog 16 #[v, .int .i64 t, .int .i64 a, .int .u64 x] w fun e w' => e = .returned (.int .i64 1) ∧ w = w' := by
  go_enter Try.func16, Try.ntmps16
  go_wp2_with (go_at_call 25; refine (atomic_none _ _ h _ _).mono ?_; rintro e w' ⟨rfl, rfl⟩)
  go_ret
  exact ⟨rfl, rfl⟩


set_option maxHeartbeats 400000 in
theorem add_none (w : World) (v : Value) (h : NoCells w v) (t a x : Int) :
    Calls Try.prog 21 #[v, .int .i64 t, .int .i64 a, .int .u64 x] w fun e w' => e = .returned (.tuple #[.int .u64 0, .int .i64 1]) ∧ w = w' := by
  go_enter Try.func21, Try.ntmps21
  go_wp2_with (go_at_call 25; refine (atomic_none _ _ h _ _).mono ?_; rintro e w' ⟨rfl, rfl⟩)
  go_ret2
  exact ⟨rfl, rfl⟩



set_option maxHeartbeats 400000 in
theorem many_none (w : World) (v : Value) (h : NoCells w v) :
    Calls Try.prog 24 #[v] w fun e w' => e = .returned (.tuple #[.int .i64 0, .int .i64 0]) ∧ w = w' := by
  go_enter Try.func24, Try.ntmps24
  go_wp2_with (go_at_call 22; refine (is_none _ _ h).mono ?_; rintro e w' ⟨rfl, rfl⟩)
  go_ret2
  exact ⟨rfl, rfl⟩

set_option maxHeartbeats 400000 in
theorem trace_none (w : World) (v : Value) (h : NoCells w v) :
    Calls Try.prog 12 #[v] w fun e w' => e = .returned (.slice none 0 0) ∧ w = w' := by
  go_enter Try.func12, Try.ntmps12
  go_wp2_with (go_at_call 22; refine (is_none _ _ h).mono ?_; rintro e w' ⟨rfl, rfl⟩)
  go_ret
  exact ⟨rfl, rfl⟩


end Go.Proofs.Ytefdbllphepdeaa
