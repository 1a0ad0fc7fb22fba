/- slices.Clone at bytes and at accesses. -/
import Derived.Test.YtkpjfdhjkgdcbaaCellsOps

namespace Go.Proofs.Ytkpjfdhjkgdcbaa
open Go.RowKit

theorem infoU8 : (Try.prog.info? 5).map (fun i => (i.zero, i.size, i.bytes)) = some (some (.int .u8 0), 1, 1) := by kernel_rfl

set_option maxRecDepth 100000 in
set_option maxHeartbeats 400000 in
theorem cloneB_nil (w : World) (c : Nat) : Calls Try.prog 77 #[.slice none 0 c] w fun e w' => e = .returned (.slice none 0 0) ∧ w = w' := by
  have heq := fun (W : World) (a : Option Addr) (n c : Nat) => Lib.run_eql_slice_nil (P := Try.prog) W 51 5 a n c 0 0 Try.underlying51
  go_enter Try.func77, Try.ntmps77
  go_wp2
  go_ret
  exact ⟨rfl, rfl⟩

set_option maxRecDepth 100000 in
set_option maxHeartbeats 400000 in
theorem cloneB_some (w : World) (a : Addr) (n c : Nat) (xs : List Value) (hl : xs.length = n * 1) (hc : ∀ j u, xs[j]? = some u → w.cell? (a.add j) = some u) (h1 : ∀ u ∈ xs, u.oneCell' = true) (hn : n ≤ 4000000000) :
    Calls Try.prog 77 #[.slice (some a) n c] w fun e w' => ∃ v, e = .returned v ∧ w'.ownsRow w.heap.size 5 1 v n xs ∧ Below w.heap.size w w' := by
  obtain ⟨i0, hi, hz0, hz1, hz2⟩ := info_parts infoU8
  have own0 : (w.alloc (.cells #[] 5)).ownsRow w.heap.size 5 1 (.slice (some ⟨w.heap.size, 0, none⟩) 0 0) 0 [] :=
    World.ownsRow_made w #[] 0 (Nat.le_refl _) (by unfold maxLen; omega) (by simp)
  have hc' : ∀ j u, xs[j]? = some u → (w.alloc (.cells #[] 5)).cell? (a.add j) = some u := fun j u hu => cell_alloc_keep _ _ _ (hc j u hu)
  have HC := Lib.hid hc'
  have HL := Lib.hid hl
  clear hc hc' hl
  have heq := fun (W : World) (a : Option Addr) (n c : Nat) => Lib.run_eql_slice_nil (P := Try.prog) W 51 5 a n c 0 0 Try.underlying51
  go_enter Try.func77, Try.ntmps77
  go_wp2_with (at_builtin; refine wpList_append_own_at _ rfl _ _ 51 rfl w.heap.size 5 i0 (.int .u8 0) 1 1 Try.underlying51 hi hz0 hz1 hz2 rfl (by decide) (.slice (some ⟨w.heap.size, 0, none⟩) 0 0) 0 [] rfl own0 a n c xs rfl HL.out HC.out h1 (by unfold maxLen; omega) (by omega) (by simp) ?_)
  intro v' w1 hown hgrow _ _
  have hB : Below w.heap.size w w1 := ((Below.refl _ w).alloc (Nat.le_refl _) _).grown hgrow (by simp) (fun k h => by simp [Value.ownBlock] at h; omega)
  have HO := Lib.hid hown
  clear hown hgrow own0
  go_wp2
  go_ret
  exact ⟨_, rfl, by simpa using HO.out, hB⟩

set_option maxRecDepth 100000 in
set_option maxHeartbeats 400000 in
theorem cloneA_nil (w : World) (c : Nat) : Calls Try.prog 41 #[.slice none 0 c] w fun e w' => e = .returned (.slice none 0 0) ∧ w = w' := by
  have heq := fun (W : World) (a : Option Addr) (n c : Nat) => Lib.run_eql_slice_nil (P := Try.prog) W 61 64 a n c 0 0 Try.underlying61
  go_enter Try.func41, Try.ntmps41
  go_wp2
  go_ret
  exact ⟨rfl, rfl⟩

set_option maxRecDepth 100000 in
set_option maxHeartbeats 400000 in
theorem cloneA_some (w : World) (a : Addr) (n c : Nat) (xs : List Value) (hl : xs.length = n * 3) (hc : ∀ j u, xs[j]? = some u → w.cell? (a.add j) = some u) (h1 : ∀ u ∈ xs, u.oneCell' = true) (hn : n ≤ 4000000000) :
    Calls Try.prog 41 #[.slice (some a) n c] w fun e w' => ∃ v, e = .returned v ∧ w'.ownsRow w.heap.size 64 3 v n xs ∧ Below w.heap.size w w' := by
  obtain ⟨i0, hi, hz0, hz1, hz2⟩ := info_parts infoAcc
  have own0 : (w.alloc (.cells #[] 64)).ownsRow w.heap.size 64 3 (.slice (some ⟨w.heap.size, 0, none⟩) 0 0) 0 [] :=
    World.ownsRow_made w #[] 0 (Nat.le_refl _) (by unfold maxLen; omega) (by simp)
  have hc' : ∀ j u, xs[j]? = some u → (w.alloc (.cells #[] 64)).cell? (a.add j) = some u := fun j u hu => cell_alloc_keep _ _ _ (hc j u hu)
  have HC := Lib.hid hc'
  have HL := Lib.hid hl
  clear hc hc' hl
  have heq := fun (W : World) (a : Option Addr) (n c : Nat) => Lib.run_eql_slice_nil (P := Try.prog) W 61 64 a n c 0 0 Try.underlying61
  go_enter Try.func41, Try.ntmps41
  go_wp2_with (at_builtin; refine wpList_append_own_at _ rfl _ _ 61 rfl w.heap.size 64 i0 (.agg #[.int .i64 0, .int .u8 0, .int .i64 0]) 3 24 Try.underlying61 hi hz0 hz1 hz2 rfl (by decide) (.slice (some ⟨w.heap.size, 0, none⟩) 0 0) 0 [] rfl own0 a n c xs rfl HL.out HC.out h1 (by unfold maxLen; omega) (by omega) (by simp) ?_)
  intro v' w1 hown hgrow _ _
  have hB : Below w.heap.size w w1 := ((Below.refl _ w).alloc (Nat.le_refl _) _).grown hgrow (by simp) (fun k h => by simp [Value.ownBlock] at h; omega)
  have HO := Lib.hid hown
  clear hown hgrow own0
  go_wp2
  go_ret
  exact ⟨_, rfl, by simpa using HO.out, hB⟩

end Go.Proofs.Ytkpjfdhjkgdcbaa
