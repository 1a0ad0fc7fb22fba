/- Law 18's awake. -/
import Derived.Test.YtidgnlcokfnhgaaDoorTowerHts
namespace Go.Proofs.YtidgnlcokfnhgaaDoor
open Go.RowKit

theorem height_to (w : World) (hT : Tab w) (x m r : Int) (hx0 : 0 ≤ x) (hx : x < 4294967296) (hm : m ≤ 9223372036854775807) (hr : hgt x m = r) :
    Calls Tryd.prog 9 #[.int .u32 x, .int .i64 m] w fun e w' => e = .returned (.int .i64 r) ∧ w = w' := by subst hr; exact height_any w hT x m hx0 hx hm
/-- A block that was made just now, as a slice. -/
theorem reads_new (w : World) (t n : Nat) (cs : List Value) (hn : cs.length = n) : Reads (w.alloc (.cells cs.toArray t)) 1 (.slice (some ⟨w.heap.size, 0, none⟩) n n) n cs :=
  ⟨by omega, .inr ⟨w.heap.size, 0, n, rfl, Nat.le_refl _, fun j u hu => by rw [Nat.zero_add]; exact (Blk.new w t cs).cell j hu⟩⟩
theorem Tab.alloc {w : World} (h : Tab w) (o : Obj) : Tab (w.alloc o) := h.later ((Below.refl _ _).alloc (Nat.le_refl _) _)

set_option maxRecDepth 100000 in
set_option maxHeartbeats 2000000 in
theorem awake18 (w : World) (hT : Tab w) : Calls Tryd.prog 7 #[] w fun e w' => e = .returned (.bool true) ∧ Below w.heap.size w w' := by
  have n1 : hgt 3 6 = 1 := by decide +kernel
  have n2 : hgt 4 6 = 2 := by decide +kernel
  have n3 : hgt 32 6 = 3 := by decide +kernel
  have n4 : hgt 64 6 = 4 := by decide +kernel
  have n5 : hgt 0 6 = 6 := by decide +kernel
  have n6 : hgt 64 2 = 2 := by decide +kernel
  have n7 : heights [1, 4] 5 6 = [1, 2, 1, 2, 1] := by decide +kernel
  have n8 : (way [1, 2, 1, 1]).1 = 3 := by decide +kernel
  have n9 : (way [3, 1, 2]).1 = 2 := by decide +kernel
  have N1 := Lib.hid n1; have N2 := Lib.hid n2; have N3 := Lib.hid n3; have N4 := Lib.hid n4; have N5 := Lib.hid n5; have N6 := Lib.hid n6; have N7 := Lib.hid n7; have N8 := Lib.hid n8; have N9 := Lib.hid n9
  clear n1 n2 n3 n4 n5 n6 n7 n8 n9
  go_enter Tryd.func7, Tryd.ntmps7
  go_wp2_with fail
  refine (height_to w hT 3 6 1 (by decide) (by decide) (by decide) N1.out).mono ?_
  rintro e w' ⟨rfl, rfl⟩
  go_wp2_with fail
  refine (height_to w hT 4 6 2 (by decide) (by decide) (by decide) N2.out).mono ?_
  rintro e w' ⟨rfl, rfl⟩
  go_wp2_with fail
  refine (height_to w hT 32 6 3 (by decide) (by decide) (by decide) N3.out).mono ?_
  rintro e w' ⟨rfl, rfl⟩
  go_wp2_with fail
  refine (height_to w hT 64 6 4 (by decide) (by decide) (by decide) N4.out).mono ?_
  rintro e w' ⟨rfl, rfl⟩
  go_wp2_with fail
  refine (height_to w hT 0 6 6 (by decide) (by decide) (by decide) N5.out).mono ?_
  rintro e w' ⟨rfl, rfl⟩
  go_wp2_with fail
  refine (height_to w hT 64 2 2 (by decide) (by decide) (by decide) N6.out).mono ?_
  rintro e w' ⟨rfl, rfl⟩
  go_wp2_with fail
  have hR := reads_new w 22 2 (u32s [1, 4]) rfl
  have hTa := hT.alloc (.cells #[.int .u32 1, .int .u32 4] 22)
  refine (heights_any _ hTa _ 2 5 6 [1, 4] hR (by intro x hx; simp at hx; rcases hx with rfl | rfl <;> omega) (by omega) (by omega)).mono ?_
  rintro e w1 ⟨v1, rfl, hr1, hb1⟩
  have hrr : Row w1 3 1 v1 5 (ints [1, 2, 1, 2, 1]) (fun k => (w.alloc (.cells #[.int .u32 1, .int .u32 4] 22)).heap.size ≤ k) := by rw [← N7.out]; exact hr1
  have hB1 : Below w.heap.size w w1 := ((Below.refl _ w).alloc (Nat.le_refl _) _).trans (hb1.mono (by simp))
  have hT1 := hT.later hB1
  clear hr1 hR hTa hb1
  go_wp2_with fail
  have hr2 := hrr.reads.alloc (.cells #[.int .i64 1, .int .i64 2, .int .i64 1, .int .i64 2, .int .i64 1] 3)
  have hr3 := reads_new w1 3 5 (ints [1, 2, 1, 2, 1]) rfl
  refine (lowInts _ _ _ 5 5 [1, 2, 1, 2, 1] [1, 2, 1, 2, 1] hr2 hr3 (by omega)).mono ?_
  rintro e w2 ⟨rfl, hq2⟩
  have hB2 : Below w.heap.size w w2 := (hB1.alloc hB1.size _).trans (hq2.below _)
  clear hrr hr2 hr3 hq2 hB1 hT1
  go_wp2_with fail
  have hs1 := reads_new w2 3 4 (ints [1, 2, 1, 1]) rfl
  refine (steps_any _ _ 4 [1, 2, 1, 1] hs1 (by omega)).mono ?_
  rintro e w3 ⟨rfl, hb3⟩
  rw [N8.out]
  have hB3 : Below w.heap.size w w3 := (hB2.alloc hB2.size _).trans (hb3.mono (by have := hB2.size; simp; omega))
  clear hs1 hb3 hB2
  go_wp2_with fail
  have hs2 := reads_new w3 3 3 (ints [3, 1, 2]) rfl
  refine (steps_any _ _ 3 [3, 1, 2] hs2 (by omega)).mono ?_
  rintro e w4 ⟨rfl, hb4⟩
  rw [N9.out]
  have hB4 : Below w.heap.size w w4 := (hB3.alloc hB3.size _).trans (hb4.mono (by have := hB3.size; simp; omega))
  clear hs2 hb4 hB3
  go_wp2_with fail
  go_ret
  exact ⟨rfl, hB4⟩
end Go.Proofs.YtidgnlcokfnhgaaDoor
