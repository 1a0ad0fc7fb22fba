/- The walks over package cells, of a memory that is none. -/
import Derived.Test.YtkpjfdhjkgdcbaaCellsW
namespace Go.Proofs.Ytkpjfdhjkgdcbaa
open Go.RowKit

/-- A memory that is none: nil, or one that New did not answer. -/
def NoCells (w : World) (v : Value) : Prop := v = .pointer none ∨ ∃ p, v = .pointer (some ⟨p, 0, none⟩) ∧ w.cell? ⟨p, 0, none⟩ = some (.bool false)
theorem NoCells.alloc {w : World} {v : Value} (h : NoCells w v) (o : Obj) : NoCells (w.alloc o) v :=
  h.imp id fun ⟨p, hv, hc⟩ => ⟨p, hv, (World.cell?_of_block (w := w) (Below.heap_alloc w o p (World.block_lt_of_cell? w _ hc))).trans hc⟩

theorem is_none (w : World) (v : Value) (h : NoCells w v) : Calls Try.prog 40 #[v] w fun e w' => e = .returned (.bool false) ∧ w = w' := by
  rcases h with rfl | ⟨p, rfl, hc⟩
  · exact is_nil w
  · exact is_no w p hc

set_option maxHeartbeats 400000 in
theorem atomic_none (w : World) (v : Value) (h : NoCells w v) (t a : Int) :
    Calls Try.prog 69 #[v, .int .i64 t, .int .i64 a] w fun e w' => e = .returned (.tuple #[.pointer none, .int .i64 1]) ∧ w = w' := by
  go_enter Try.func69, Try.ntmps69
  go_wp2_with (go_at_call 40; refine (is_none _ _ h).mono ?_; rintro e w' ⟨rfl, rfl⟩)
  go_ret2
  exact ⟨rfl, rfl⟩

set_option maxHeartbeats 400000 in
theorem plain_none (w : World) (v : Value) (h : NoCells w v) (t a : Int) :
    Calls Try.prog 76 #[v, .int .i64 t, .int .i64 a] w fun e w' => e = .returned (.tuple #[.pointer none, .int .i64 1]) ∧ w = w' := by
  go_enter Try.func76, Try.ntmps76
  go_wp2_with (go_at_call 40; refine (is_none _ _ h).mono ?_; rintro e w' ⟨rfl, rfl⟩)
  go_ret2
  exact ⟨rfl, rfl⟩

set_option maxHeartbeats 400000 in
theorem load_none (w : World) (v : Value) (h : NoCells w v) (t a : Int) :
    Calls Try.prog 53 #[v, .int .i64 t, .int .i64 a] w fun e w' => e = .returned (.tuple #[.int .u64 0, .int .i64 1]) ∧ w = w' := by
  go_enter Try.func53, Try.ntmps53
  go_wp2_with (go_at_call 69; refine (atomic_none _ _ h _ _).mono ?_; rintro e w' ⟨rfl, rfl⟩)
  go_ret2
  exact ⟨rfl, rfl⟩

set_option maxHeartbeats 400000 in
theorem store_none (w : World) (v : Value) (h : NoCells w v) (t a x : Int) :
    Calls Try.prog 99 #[v, .int .i64 t, .int .i64 a, .int .u64 x] w fun e w' => e = .returned (.int .i64 1) ∧ w = w' := by
  go_enter Try.func99, Try.ntmps99
  go_wp2_with (go_at_call 69; refine (atomic_none _ _ h _ _).mono ?_; rintro e w' ⟨rfl, rfl⟩)
  go_ret
  exact ⟨rfl, rfl⟩

set_option maxHeartbeats 400000 in
theorem swap_none (w : World) (v : Value) (h : NoCells w v) (t a x y : Int) :
    Calls Try.prog 100 #[v, .int .i64 t, .int .i64 a, .int .u64 x, .int .u64 y] w fun e w' => e = .returned (.tuple #[.bool false, .int .i64 1]) ∧ w = w' := by
  go_enter Try.func100, Try.ntmps100
  go_wp2_with (go_at_call 69; refine (atomic_none _ _ h _ _).mono ?_; rintro e w' ⟨rfl, rfl⟩)
  go_ret2
  exact ⟨rfl, rfl⟩

set_option maxHeartbeats 400000 in
theorem add_none (w : World) (v : Value) (h : NoCells w v) (t a x : Int) :
    Calls Try.prog 80 #[v, .int .i64 t, .int .i64 a, .int .u64 x] w fun e w' => e = .returned (.tuple #[.int .u64 0, .int .i64 1]) ∧ w = w' := by
  go_enter Try.func80, Try.ntmps80
  go_wp2_with (go_at_call 69; refine (atomic_none _ _ h _ _).mono ?_; rintro e w' ⟨rfl, rfl⟩)
  go_ret2
  exact ⟨rfl, rfl⟩

set_option maxHeartbeats 400000 in
theorem read_none (w : World) (v : Value) (h : NoCells w v) (t a : Int) :
    Calls Try.prog 61 #[v, .int .i64 t, .int .i64 a] w fun e w' => e = .returned (.tuple #[.slice none 0 0, .int .i64 1]) ∧ w = w' := by
  go_enter Try.func61, Try.ntmps61
  go_wp2_with (go_at_call 76; refine (plain_none _ _ h _ _).mono ?_; rintro e w' ⟨rfl, rfl⟩)
  go_ret2
  exact ⟨rfl, rfl⟩

set_option maxHeartbeats 400000 in
theorem write_none (w : World) (v : Value) (h : NoCells w v) (t a : Int) (vb : Value) :
    Calls Try.prog 88 #[v, .int .i64 t, .int .i64 a, vb] w fun e w' => e = .returned (.int .i64 1) ∧ w = w' := by
  go_enter Try.func88, Try.ntmps88
  go_wp2_with (go_at_call 76; refine (plain_none _ _ h _ _).mono ?_; rintro e w' ⟨rfl, rfl⟩)
  go_ret
  exact ⟨rfl, rfl⟩

set_option maxHeartbeats 400000 in
theorem many_none (w : World) (v : Value) (h : NoCells w v) :
    Calls Try.prog 57 #[v] w fun e w' => e = .returned (.tuple #[.int .i64 0, .int .i64 0]) ∧ w = w' := by
  go_enter Try.func57, Try.ntmps57
  go_wp2_with (go_at_call 40; refine (is_none _ _ h).mono ?_; rintro e w' ⟨rfl, rfl⟩)
  go_ret2
  exact ⟨rfl, rfl⟩

set_option maxHeartbeats 400000 in
theorem trace_none (w : World) (v : Value) (h : NoCells w v) :
    Calls Try.prog 19 #[v] w fun e w' => e = .returned (.slice none 0 0) ∧ w = w' := by
  go_enter Try.func19, Try.ntmps19
  go_wp2_with (go_at_call 40; refine (is_none _ _ h).mono ?_; rintro e w' ⟨rfl, rfl⟩)
  go_ret
  exact ⟨rfl, rfl⟩


end Go.Proofs.Ytkpjfdhjkgdcbaa
