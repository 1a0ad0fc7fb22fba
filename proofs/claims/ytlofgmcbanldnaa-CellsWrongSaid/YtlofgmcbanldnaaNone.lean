/- The walks over package cells, of a memory that is none. -/
import Derived.Test.YtlofgmcbanldnaaCellsW
namespace Go.Proofs.Ytlofgmcbanldnaa
open Go.RowKit

/-- A memory that is none: nil, or one that New did not answer. -/
def NoCells (w : World) (v : Value) : Prop := v = .pointer none ∨ ∃ p, v = .pointer (some ⟨p, 0, none⟩) ∧ w.cell? ⟨p, 0, none⟩ = some (.bool false)
theorem NoCells.alloc {w : World} {v : Value} (h : NoCells w v) (o : Obj) : NoCells (w.alloc o) v :=
  h.imp id fun ⟨p, hv, hc⟩ => ⟨p, hv, (World.cell?_of_block (w := w) (Below.heap_alloc w o p (World.block_lt_of_cell? w _ hc))).trans hc⟩

theorem is_none (w : World) (v : Value) (h : NoCells w v) : Calls Try.prog 34 #[v] w fun e w' => e = .returned (.bool false) ∧ w = w' := by
  rcases h with rfl | ⟨p, rfl, hc⟩
  · exact is_nil w
  · exact is_no w p hc

set_option maxHeartbeats 400000 in
theorem atomic_none (w : World) (v : Value) (h : NoCells w v) (t a : Int) :
    Calls Try.prog 33 #[v, .int .i64 t, .int .i64 a] w fun e w' => e = .returned (.tuple #[.pointer none, .int .i64 1]) ∧ w = w' := by
  go_enter Try.func33, Try.ntmps33
  go_wp2_with (go_at_call 34; refine (is_none _ _ h).mono ?_; rintro e w' ⟨rfl, rfl⟩)
  go_ret2
  exact ⟨rfl, rfl⟩

set_option maxHeartbeats 400000 in
theorem plain_none (w : World) (v : Value) (h : NoCells w v) (t a : Int) :
    Calls Try.prog 30 #[v, .int .i64 t, .int .i64 a] w fun e w' => e = .returned (.tuple #[.pointer none, .int .i64 1]) ∧ w = w' := by
  go_enter Try.func30, Try.ntmps30
  go_wp2_with (go_at_call 34; refine (is_none _ _ h).mono ?_; rintro e w' ⟨rfl, rfl⟩)
  go_ret2
  exact ⟨rfl, rfl⟩

set_option maxHeartbeats 400000 in
theorem load_none (w : World) (v : Value) (h : NoCells w v) (t a : Int) :
    Calls Try.prog 11 #[v, .int .i64 t, .int .i64 a] w fun e w' => e = .returned (.tuple #[.int .u64 0, .int .i64 1]) ∧ w = w' := by
  go_enter Try.func11, Try.ntmps11
  go_wp2_with (go_at_call 33; refine (atomic_none _ _ h _ _).mono ?_; rintro e w' ⟨rfl, rfl⟩)
  go_ret2
  exact ⟨rfl, rfl⟩

set_option maxHeartbeats 400000 in
theorem store_none (w : World) (v : Value) (h : NoCells w v) (t a x : Int) :
    Calls Try.prog 13 #[v, .int .i64 t, .int .i64 a, .int .u64 x] w fun e w' => e = .returned (.int .i64 1) ∧ w = w' := by
  go_enter Try.func13, Try.ntmps13
  go_wp2_with (go_at_call 33; refine (atomic_none _ _ h _ _).mono ?_; rintro e w' ⟨rfl, rfl⟩)
  go_ret
  exact ⟨rfl, rfl⟩

set_option maxHeartbeats 400000 in
theorem swap_none (w : World) (v : Value) (h : NoCells w v) (t a x y : Int) :
    Calls Try.prog 14 #[v, .int .i64 t, .int .i64 a, .int .u64 x, .int .u64 y] w fun e w' => e = .returned (.tuple #[.bool false, .int .i64 1]) ∧ w = w' := by
  go_enter Try.func14, Try.ntmps14
  go_wp2_with (go_at_call 33; refine (atomic_none _ _ h _ _).mono ?_; rintro e w' ⟨rfl, rfl⟩)
  go_ret2
  exact ⟨rfl, rfl⟩

set_option maxHeartbeats 400000 in
theorem add_none (w : World) (v : Value) (h : NoCells w v) (t a x : Int) :
    Calls Try.prog 15 #[v, .int .i64 t, .int .i64 a, .int .u64 x] w fun e w' => e = .returned (.tuple #[.int .u64 0, .int .i64 1]) ∧ w = w' := by
  go_enter Try.func15, Try.ntmps15
  go_wp2_with (go_at_call 33; refine (atomic_none _ _ h _ _).mono ?_; rintro e w' ⟨rfl, rfl⟩)
  go_ret2
  exact ⟨rfl, rfl⟩

set_option maxHeartbeats 400000 in
theorem read_none (w : World) (v : Value) (h : NoCells w v) (t a : Int) :
    Calls Try.prog 10 #[v, .int .i64 t, .int .i64 a] w fun e w' => e = .returned (.tuple #[.slice none 0 0, .int .i64 1]) ∧ w = w' := by
  go_enter Try.func10, Try.ntmps10
  go_wp2_with (go_at_call 30; refine (plain_none _ _ h _ _).mono ?_; rintro e w' ⟨rfl, rfl⟩)
  go_ret2
  exact ⟨rfl, rfl⟩

set_option maxHeartbeats 400000 in
theorem write_none (w : World) (v : Value) (h : NoCells w v) (t a : Int) (vb : Value) :
    Calls Try.prog 9 #[v, .int .i64 t, .int .i64 a, vb] w fun e w' => e = .returned (.int .i64 1) ∧ w = w' := by
  go_enter Try.func9, Try.ntmps9
  go_wp2_with (go_at_call 30; refine (plain_none _ _ h _ _).mono ?_; rintro e w' ⟨rfl, rfl⟩)
  go_ret
  exact ⟨rfl, rfl⟩

set_option maxHeartbeats 400000 in
theorem many_none (w : World) (v : Value) (h : NoCells w v) :
    Calls Try.prog 27 #[v] w fun e w' => e = .returned (.tuple #[.int .i64 0, .int .i64 0]) ∧ w = w' := by
  go_enter Try.func27, Try.ntmps27
  go_wp2_with (go_at_call 34; refine (is_none _ _ h).mono ?_; rintro e w' ⟨rfl, rfl⟩)
  go_ret2
  exact ⟨rfl, rfl⟩

set_option maxHeartbeats 400000 in
theorem trace_none (w : World) (v : Value) (h : NoCells w v) :
    Calls Try.prog 16 #[v] w fun e w' => e = .returned (.slice none 0 0) ∧ w = w' := by
  go_enter Try.func16, Try.ntmps16
  go_wp2_with (go_at_call 34; refine (is_none _ _ h).mono ?_; rintro e w' ⟨rfl, rfl⟩)
  go_ret
  exact ⟨rfl, rfl⟩

set_option maxHeartbeats 400000 in
theorem note_none (w : World) (v : Value) (h : NoCells w v) (t x a : Int) :
    Calls Try.prog 17 #[v, .agg #[.int .i64 t, .int .u8 x, .int .i64 a]] w fun e w' => e = .returned (.int .i64 1) ∧ Below w.heap.size w w' := by
  go_enter Try.func17, Try.ntmps17
  go_wp2_with (go_at_call 34; refine (is_none _ _ (h.alloc _)).mono ?_; rintro e w' ⟨rfl, rfl⟩)
  go_ret
  exact ⟨rfl, (Below.refl _ _).alloc (Nat.le_refl _) _⟩

end Go.Proofs.Ytlofgmcbanldnaa
