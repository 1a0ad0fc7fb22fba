/- Law 22's Made, of a configuration that is right (for the seat of StoreApart). -/
import Derived.Test.YteiaifhnikknbaaGreatDoorStAwake
import Derived.Test.YteiaifhnikknbaaGreatDoorLoadBlk

namespace Go.Proofs.YteiaifhnikknbaaGreatDoor
open Go.RowKit

variable {w w' : World} {K : Cfg}
/-- What Made answers. -/
def MadeP (K : Cfg) (w : World) (e : Ending) (w' : World) : Prop :=
  ∃ B q A O, e = .returned (.tuple #[.pointer (some ⟨q.p, 0, none⟩), .bool true]) ∧ w.heap.size ≤ B ∧ Sx B w' q K ⟨66, false, 0, fun _ => none⟩ (newS K ⟨[], 0, 0, 0⟩) (newG ⟨[], 0, 0, 0⟩ 1) A O ∧ Below w.heap.size w w'
set_option maxRecDepth 100000 in
set_option maxHeartbeats 1000000 in
theorem made_yes (hr : rightB K = true) {sh : Value} (hR : Reads w 1 sh K.heights.length (u32s K.heights)) :
    Calls Tryz.prog 5 #[.agg (cfC K sh).toArray] w (MadeP K w) := by
  obtain ⟨W, hW⟩ : ∃ W, w.alloc (.cells (cfC K sh).toArray 25) = W := ⟨_, rfl⟩
  have k1 : Blk W w.heap.size 25 (cfC K sh) := by rw [← hW]; exact Blk.new _ _ _
  have hB : Below w.heap.size w W := by rw [← hW]; exact (Below.refl _ _).alloc (Nat.le_refl _) _
  have k1d : Blk W.drew w.heap.size 25 (cfC K sh) := k1
  have hBd : Below w.heap.size w W.drew := hB.trans (Quiet.below ⟨1, rfl⟩ _)
  go_enter Tryz.func5, Tryz.ntmps5
  go_upto_region 1 with fail
  refine wp_region_held_drew (S := (fun x => Blk x w.heap.size 25 (cfC K sh) ∧ Below w.heap.size w x)) (by kernel_rfl) ⟨k1d, hBd⟩ (fun hHeld => ?_)
  refine wpAnyH_take (i := 0) (v := .agg (cfC K sh).toArray) rfl (by kernel_rfl) (by kernel_rfl) (by kernel_rfl) (fun _ _ _ h => h) (yieldsIf_load_blk (by kernel_rfl) 25 (.tmp 1) (by rfl) w.heap.size (by rfl) (cfC K sh) (fun w h => h.1) _ Tryz.underlying25 (by rfl) infoCf) (by assumption) ?_
  try simp only [Act.put, List.getElem_toArray, List.getElem_cons_zero, List.getElem_cons_succ, List.setIfInBounds_toArray, List.set_cons_zero, List.set_cons_succ]
  refine wpAnyH_take (i := 1) (v := ?_) rfl (by kernel_rfl) (by kernel_rfl) (by kernel_rfl) (fun _ _ _ h => h) (Or.inl ⟨by kernel_rfl, ?_⟩) (by assumption) ?_
  rotate_left
  · (intro w hSw; (try dsimp only at hSw); go_simp; try with_reducible rfl)
  try simp only [Act.put, List.getElem_toArray, List.getElem_cons_zero, List.getElem_cons_succ, List.setIfInBounds_toArray, List.set_cons_zero, List.set_cons_succ]
  refine wpAnyH_take (i := 3) (v := ?_) rfl (by kernel_rfl) (by kernel_rfl) (by kernel_rfl) (fun _ _ _ h => h) (Or.inl ⟨by kernel_rfl, ?_⟩) (by assumption) ?_
  rotate_left
  · (intro w hSw; (try dsimp only at hSw); go_simp; try with_reducible rfl)
  try simp only [Act.put, List.getElem_toArray, List.getElem_cons_zero, List.getElem_cons_succ, List.setIfInBounds_toArray, List.set_cons_zero, List.set_cons_succ]
  refine wpAnyH_ready (rs := [2]) (by kernel_rfl) (by simp) ?_
  refine AllReadyH.cons rfl (fun KK hKK => ?_) AllReadyH.nil
  go_simp
  refine (disknew_nil _ _ (by decide)).mono ?_
  rintro e y1 ⟨d, rfl, hC1⟩
  have u1 : Blk y1 w.heap.size 25 (cfC K sh) ∧ Below w.heap.size w y1 := ⟨k1d.keep (hC1.block _ k1d.lt), hBd.trans (hC1.mono hBd.size)⟩
  refine hKK.out _ _ u1 (fun hHeld1 => ?_)
  clear hKK KK hHeld
  try simp only [Act.put, List.getElem_toArray, List.getElem_cons_zero, List.getElem_cons_succ, List.setIfInBounds_toArray, List.set_cons_zero, List.set_cons_succ]
  refine wpAnyH_ready (rs := [4]) (by kernel_rfl) (by simp) ?_
  refine AllReadyH.cons rfl (fun KK hKK => ?_) AllReadyH.nil
  go_simp
  refine (stnew_yes hr (sh := sh) (st := .slice none 0 0) (V := ⟨[], 0, 0, 0⟩) (hR.below u1.2) ⟨rfl, .inl ⟨rfl, _, _, rfl⟩⟩ (Nat.zero_le _) _ 1 (by decide) (by decide) (by decide)).mono ?_
  intro e y2 h2
  obtain ⟨q, A, O, rfl, hS2, hC2⟩ := h2.sx
  have u2 : Blk y2 w.heap.size 25 (cfC K sh) ∧ Below w.heap.size w y2 := ⟨u1.1.keep (hC2.block _ u1.1.lt), u1.2.trans (hC2.mono u1.2.size)⟩
  refine hKK.out _ _ u2 (fun hHeld2 => ?_)
  clear hKK KK hHeld1
  try simp only [Act.put, List.getElem_toArray, List.getElem_cons_zero, List.getElem_cons_succ, List.setIfInBounds_toArray, List.set_cons_zero, List.set_cons_succ]
  refine wpAnyH_take (i := 5) (v := ?_) rfl (by kernel_rfl) (by kernel_rfl) (by kernel_rfl) (fun _ _ _ h => h) (Or.inl ⟨by kernel_rfl, ?_⟩) (by assumption) ?_
  rotate_left
  · (intro w hSw; (try dsimp only at hSw); go_simp; try with_reducible rfl)
  try simp only [Act.put, List.getElem_toArray, List.getElem_cons_zero, List.getElem_cons_succ, List.setIfInBounds_toArray, List.set_cons_zero, List.set_cons_succ]
  refine wpAnyH_take (i := 6) (v := ?_) rfl (by kernel_rfl) (by kernel_rfl) (by kernel_rfl) (fun _ _ _ h => h) (Or.inl ⟨by kernel_rfl, ?_⟩) (by assumption) ?_
  rotate_left
  · (intro w hSw; (try dsimp only at hSw); go_simp; try with_reducible rfl)
  try simp only [Act.put, List.getElem_toArray, List.getElem_cons_zero, List.getElem_cons_succ, List.setIfInBounds_toArray, List.set_cons_zero, List.set_cons_succ]
  refine wpAnyH_take (i := 7) (v := ?_) rfl (by kernel_rfl) (by kernel_rfl) (by kernel_rfl) (fun _ _ _ h => h) (Or.inl ⟨by kernel_rfl, ?_⟩) (by assumption) ?_
  rotate_left
  · (intro w hSw; (try dsimp only at hSw); go_simp; try with_reducible rfl)
  try simp only [Act.put, List.getElem_toArray, List.getElem_cons_zero, List.getElem_cons_succ, List.setIfInBounds_toArray, List.set_cons_zero, List.set_cons_succ]
  refine wpAnyH_take (i := 8) (v := ?_) rfl (by kernel_rfl) (by kernel_rfl) (by kernel_rfl) (fun _ _ _ h => h) (Or.inl ⟨by kernel_rfl, ?_⟩) (by assumption) ?_
  rotate_left
  · (intro w hSw; (try dsimp only at hSw); go_simp; try with_reducible rfl)
  try simp only [Act.put, List.getElem_toArray, List.getElem_cons_zero, List.getElem_cons_succ, List.setIfInBounds_toArray, List.set_cons_zero, List.set_cons_succ]
  refine wpAnyH_take (i := 9) (v := ?_) rfl (by kernel_rfl) (by kernel_rfl) (by kernel_rfl) (fun _ _ _ h => h) (Or.inl ⟨by kernel_rfl, ?_⟩) (by assumption) ?_
  rotate_left
  · (intro w hSw; (try dsimp only at hSw); go_simp; try with_reducible rfl)
  try simp only [Act.put, List.getElem_toArray, List.getElem_cons_zero, List.getElem_cons_succ, List.setIfInBounds_toArray, List.set_cons_zero, List.set_cons_succ]
  refine wpAnyH_done (by kernel_rfl) ?_ _

  have hsz := u1.2.size
  clear k1 k1d hBd hB u1 hC1
  go_wp2_with (first | (go_at_call 11; refine (scells_any hS2).mono ?_; rintro e w' ⟨rfl, rfl⟩) | (go_at_call 16; refine (slocks_any hS2).mono ?_; rintro e w' ⟨rfl, rfl⟩))
  go_ret2
  unfold MadeP
  exact ⟨y1.heap.size, q, A, O, rfl, hsz, hS2, u2.2⟩
end Go.Proofs.YteiaifhnikknbaaGreatDoor
