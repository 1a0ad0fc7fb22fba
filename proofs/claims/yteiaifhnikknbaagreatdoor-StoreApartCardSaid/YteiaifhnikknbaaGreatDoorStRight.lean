/- The walks over store.Right and disk.New. -/
import Derived.Test.YteiaifhnikknbaaGreatDoorData22
import Derived.Test.YteiaifhnikknbaaGreatDoorView22
import Derived.Deep.RegionHeld3

namespace Go.Proofs.YteiaifhnikknbaaGreatDoor
open Go.RowKit

structure Cfg where
  units : Int
  imms : Int
  lists : Int
  group : Int
  sync : Bool
  heights : List Int
def u32s (l : List Int) : List Value := l.map (Value.int .u32)
def cfC (K : Cfg) (sh : Value) : List Value := [.int .u64 K.units, .int .i64 K.imms, .int .i64 K.lists, .int .i64 K.group, .bool K.sync, sh]
def rightB (K : Cfg) : Bool := decide (6 ≤ K.units ∧ K.units ≤ 20000 ∧ 1 ≤ K.imms ∧ K.imms ≤ 8 ∧ 2 ≤ K.lists ∧ K.lists ≤ 64 ∧ 1 ≤ K.group ∧ K.group ≤ 32 ∧ K.heights.length ≤ 1000 ∧ 2 + K.lists * skA K.units ≤ 100000)
/-- Its numbers may be. -/
structure Cfg.Wf (K : Cfg) : Prop where
  u : 0 ≤ K.units ∧ K.units ≤ 18446744073709551615
  n : K.heights.length ≤ 9223372036854775807

variable {K : Cfg} {w : World}
theorem lists_le {l a : Int} (h0 : 0 ≤ l) (h1 : l ≤ 64) (a0 : 0 ≤ a) : 0 ≤ l * a ∧ l * a ≤ 64 * a := ⟨Int.mul_nonneg h0 a0, Int.mul_le_mul_of_nonneg_right h1 a0⟩
set_option maxRecDepth 100000 in
set_option maxHeartbeats 1000000 in
theorem right_yes (h : rightB K = true) (ao : Option Addr) (c : Nat) : Calls Tryz.prog 35 #[.agg (cfC K (.slice ao K.heights.length c)).toArray] w fun e w' => e = .returned (.bool true) ∧ Below w.heap.size w w' := by
  obtain ⟨h1, h2, h3, h4, h5, h6, h7, h8, h9, h10⟩ := of_decide_eq_true h
  obtain ⟨n, hn⟩ : ∃ n, K.heights.length = n := ⟨_, rfl⟩
  obtain ⟨a, ha⟩ : ∃ a, skA K.units = a := ⟨_, rfl⟩
  have a1 : 14 ≤ a ∧ a ≤ 200000 := by rw [← ha]; unfold skA; omega
  have hl := lists_le (l := K.lists) (a := a) (by omega) h6 (by omega)
  have hsz : ∀ W, Calls Tryz.prog 37 #[.int .u64 K.units] W fun e w' => e = .returned (.tuple #[.int .i64 a, .int .i64 (skP K.units)]) ∧ W = w' := fun W => by rw [← ha]; exact size_yes W K.units h1 (by omega)
  rw [ha] at h10
  rw [hn] at h9
  rw [hn]
  obtain ⟨W, hW⟩ : ∃ W, w.alloc (.cells (cfC K (.slice ao n c)).toArray 25) = W := ⟨_, rfl⟩
  have k1 : Blk W w.heap.size 25 (cfC K (.slice ao n c)) := by rw [← hW]; exact Blk.new _ _ _
  have hB : Below w.heap.size w W := by rw [← hW]; exact (Below.refl _ _).alloc (Nat.le_refl _) _
  have d0 := k1.cell 0 rfl
  have d1 := k1.cell 1 rfl
  have d2 := k1.cell 2 rfl
  have d3 := k1.cell 3 rfl
  have d5 := k1.cell 5 rfl
  have HSZ := Lib.hid hsz
  clear h hn ha hsz k1
  go_enter Tryz.func35, Tryz.ntmps35
  go_wp2_with (go_at_call 37; refine (HSZ.out _).mono ?_; rintro e w' ⟨rfl, rfl⟩)
  go_ret
  exact ⟨rfl, hB⟩
set_option maxRecDepth 100000 in
set_option maxHeartbeats 2000000 in
theorem right_no (hw : K.Wf) (h : rightB K = false) (ao : Option Addr) (c : Nat) : Calls Tryz.prog 35 #[.agg (cfC K (.slice ao K.heights.length c)).toArray] w fun e w' => e = .returned (.bool false) ∧ Below w.heap.size w w' := by
  have h0 := of_decide_eq_false h
  obtain ⟨u0, u1⟩ := hw.u
  have u2 := hw.n
  obtain ⟨n, hn⟩ : ∃ n, K.heights.length = n := ⟨_, rfl⟩
  obtain ⟨a, ha⟩ : ∃ a, skA K.units = a := ⟨_, rfl⟩
  rw [ha, hn] at h0
  rw [hn] at u2
  rw [hn]
  obtain ⟨W, hW⟩ : ∃ W, w.alloc (.cells (cfC K (.slice ao n c)).toArray 25) = W := ⟨_, rfl⟩
  have k1 : Blk W w.heap.size 25 (cfC K (.slice ao n c)) := by rw [← hW]; exact Blk.new _ _ _
  have hB : Below w.heap.size w W := by rw [← hW]; exact (Below.refl _ _).alloc (Nat.le_refl _) _
  have d0 := k1.cell 0 rfl
  have d1 := k1.cell 1 rfl
  have d2 := k1.cell 2 rfl
  have d3 := k1.cell 3 rfl
  have d5 := k1.cell 5 rfl
  clear k1
  by_cases c1 : 20000 < K.units
  · clear h h0 ha hn hw
    go_enter Tryz.func35, Tryz.ntmps35
    go_wp2
    go_ret
    exact ⟨rfl, hB⟩
  by_cases c2 : K.imms < 1
  · clear h h0 ha hn hw
    go_enter Tryz.func35, Tryz.ntmps35
    go_wp2
    go_ret
    exact ⟨rfl, hB⟩
  by_cases c3 : 8 < K.imms
  · clear h h0 ha hn hw
    go_enter Tryz.func35, Tryz.ntmps35
    go_wp2
    go_ret
    exact ⟨rfl, hB⟩
  by_cases c4 : K.lists < 2
  · clear h h0 ha hn hw
    go_enter Tryz.func35, Tryz.ntmps35
    go_wp2
    go_ret
    exact ⟨rfl, hB⟩
  by_cases c5 : 64 < K.lists
  · clear h h0 ha hn hw
    go_enter Tryz.func35, Tryz.ntmps35
    go_wp2
    go_ret
    exact ⟨rfl, hB⟩
  by_cases c6 : K.group < 1
  · clear h h0 ha hn hw
    go_enter Tryz.func35, Tryz.ntmps35
    go_wp2
    go_ret
    exact ⟨rfl, hB⟩
  by_cases c7 : 32 < K.group
  · clear h h0 ha hn hw
    go_enter Tryz.func35, Tryz.ntmps35
    go_wp2
    go_ret
    exact ⟨rfl, hB⟩
  by_cases c8 : 1000 < n
  · clear h h0 ha hn hw
    go_enter Tryz.func35, Tryz.ntmps35
    go_wp2
    go_ret
    exact ⟨rfl, hB⟩
  by_cases c9 : K.units < 6
  · have hsz : ∀ W, Calls Tryz.prog 37 #[.int .u64 K.units] W fun e w' => e = .returned (.tuple #[.int .i64 0, .int .i64 0]) ∧ W = w' := fun W => size_no W K.units (.inl c9)
    have HSZ := Lib.hid hsz
    clear h h0 ha hn hw hsz
    go_enter Tryz.func35, Tryz.ntmps35
    go_wp2_with (go_at_call 37; refine (HSZ.out _).mono ?_; rintro e w' ⟨rfl, rfl⟩)
    go_ret
    exact ⟨rfl, hB⟩
  · have hsz : ∀ W, Calls Tryz.prog 37 #[.int .u64 K.units] W fun e w' => e = .returned (.tuple #[.int .i64 a, .int .i64 (skP K.units)]) ∧ W = w' := fun W => by rw [← ha]; exact size_yes W K.units (by omega) (by omega)
    have a1 : 14 ≤ a ∧ a ≤ 200000 := by rw [← ha]; unfold skA; omega
    have hl := lists_le (l := K.lists) (a := a) (by omega) (by omega) (by omega)
    have h10 : (2 + K.lists * a ≤ 100000) = False := by simp; omega
    have HSZ := Lib.hid hsz
    clear h h0 ha hn hw hsz
    go_enter Tryz.func35, Tryz.ntmps35
    go_wp2_with (go_at_call 37; refine (HSZ.out _).mono ?_; rintro e w' ⟨rfl, rfl⟩)
    go_ret
    exact ⟨rfl, hB⟩
theorem right_any (hw : K.Wf) {sh : Value} (hR : Reads w 1 sh K.heights.length (u32s K.heights)) : Calls Tryz.prog 35 #[.agg (cfC K sh).toArray] w fun e w' => e = .returned (.bool (rightB K)) ∧ Below w.heap.size w w' := by
  obtain ⟨ao, c, rfl⟩ := hR.slice
  cases h : rightB K
  · exact right_no hw h ao c
  · exact right_yes h ao c

theorem cloneInt_nil (w : World) (c : Nat) : Calls Tryz.prog 43 #[.slice none 0 c] w fun e w' => e = .returned (.slice none 0 0) ∧ w = w' := by
  have heq := fun (W : World) (a : Option Addr) (n c : Nat) => Lib.run_eql_slice_nil (P := Tryz.prog) W 53 3 a n c 0 0 Tryz.underlying53
  go_enter Tryz.func43, Tryz.ntmps43
  go_wp2
  go_ret
  exact ⟨rfl, rfl⟩
set_option maxRecDepth 100000 in
set_option maxHeartbeats 2000000 in
theorem disknew_nil (w : World) (cap : Int) (h0 : 0 ≤ cap) : Calls Tryz.prog 15 #[.int .i64 cap, .agg #[.slice none 0 0, .slice none 0 0]] w fun e w' => ∃ d, e = .returned (.pointer (some ⟨d, 0, none⟩)) ∧ Below w.heap.size w w' := by
  have hmm := @run_makeMap Tryz.prog
  obtain ⟨W, hW⟩ : ∃ W, w.alloc (.cells #[.slice none 0 0, .slice none 0 0] 55) = W := ⟨_, rfl⟩
  have k0 : Blk W w.heap.size 55 [.slice none 0 0, .slice none 0 0] := by rw [← hW]; exact Blk.new w 55 [.slice none 0 0, .slice none 0 0]
  have hB : Below w.heap.size w W := by rw [← hW]; exact (Below.refl _ _).alloc (Nat.le_refl _) _
  have c0 := k0.cell 0 rfl
  have c1 := k0.cell 1 rfl
  go_enter Tryz.func15, Tryz.ntmps15
  go_upto_region 1 with fail
  go_region_held3 (fun w' => w'.cell? ⟨w.heap.size, 0, none⟩ = some (.slice none 0 0) ∧ w'.cell? ⟨w.heap.size, 1, none⟩ = some (.slice none 0 0)) (go_keep) ((go_at_call 43; refine (cloneInt_nil _ _).mono ?_; rintro e w' ⟨rfl, rfl⟩))
  all_goals go_wp2
  all_goals go_ret
  all_goals first | exact ⟨_, rfl, ((hB.alloc hB.size _).alloc (by have := hB.size; simp; omega) _).drew⟩ | exact ⟨⟨_, rfl⟩, ((hB.alloc hB.size _).alloc (by have := hB.size; simp; omega) _).drew⟩ | exact ((hB.alloc hB.size _).alloc (by have := hB.size; simp; omega) _).drew
end Go.Proofs.YteiaifhnikknbaaGreatDoor
