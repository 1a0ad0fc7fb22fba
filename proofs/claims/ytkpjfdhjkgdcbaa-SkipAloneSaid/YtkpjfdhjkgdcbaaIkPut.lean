/- nums.PutText and ikey.Put. -/
import Derived.Test.YtkpjfdhjkgdcbaaNumsPut
import Derived.Lib.AppendStr
import Derived.Lib.EndianBits

namespace Go.Proofs.Ytkpjfdhjkgdcbaa
open Go.RowKit

theorem strCells_u8s (s : ByteArray) : Lib.strCells s = u8s s.data.toList := rfl
set_option maxRecDepth 100000 in
set_option maxHeartbeats 1000000 in
theorem putText_any (w : World) (vb : Value) (bs : List UInt8) (hR : Reads w 1 vb bs.length (u8s bs)) (hm : bs.length ≤ 500) (s : ByteArray) (hs : s.size ≤ 64) :
    Calls Try.prog 92 #[vb, .string s] w fun e W' => ∃ v, e = .returned v ∧ Row W' 5 1 v (bs ++ vput s.size ++ s.data.toList).length (u8s (bs ++ vput s.size ++ s.data.toList)) (fun k => w.heap.size ≤ k) ∧ Below w.heap.size w W' := by
  obtain ⟨i0, hi, hz0, hz1, hz2⟩ := info_parts infoU8'
  have hp := numsPut_any w vb bs hR (by omega) s.size (by omega)
  have HP := Lib.hid hp
  have hvl : (vput s.size).length ≤ 10 := vput_len 9 _ (by omega)
  obtain ⟨N, hN⟩ : ∃ N, (bs ++ vput s.size).length = N := ⟨_, rfl⟩
  have hNb : N ≤ 510 := by rw [← hN, List.length_append]; omega
  have HN := Lib.hid hN
  obtain ⟨z, hz⟩ : ∃ z, s.size = z := ⟨_, rfl⟩
  have hzl : s.data.toList.length = z := by rw [← hz]; rfl
  have hz64 : s.size ≤ 9223372036854775807 := by omega
  have HZ := Lib.hid hz
  clear hp hvl hN hz
  go_enter Try.func92, Try.ntmps92
  go_wp2_with (first | (go_at_call 91; refine HP.out.mono ?_; rintro e w1 ⟨v1, rfl, hr1, hb1⟩; rw [HN.out] at hr1) | (at_builtin; refine Lib.wpList_append_own_string _ rfl _ _ 51 9 rfl w.heap.size 5 i0 Try.underlying51 Try.underlying9 hi hz0 hz1 hz2 v1 N (u8s (bs ++ vput s.size)) rfl hr1.at_base' s rfl (by unfold maxLen; omega) (by omega) hb1.size ?_; intro v2 w2 hown2 hg2 _))
  go_ret
  have hB2 : Below w.heap.size w w2 := hb1.grown hg2 hb1.size (fun k e => hr1.home k e)
  refine ⟨v2, rfl, ?_, hB2⟩
  have h3 := Row.of_owns' hown2
  rw [strCells_u8s] at h3
  have e1 : (bs ++ vput s.size ++ s.data.toList).length = N + s.size := by rw [List.length_append, HN.out, hzl, HZ.out]
  have e2 : u8s (bs ++ vput s.size ++ s.data.toList) = u8s (bs ++ vput s.size) ++ u8s s.data.toList := by simp [u8s]
  rw [e1, e2]
  exact h3
theorem or_low (s k : Int) (h0 : 0 ≤ s) (h1 : s ≤ 72057594037927935) (k0 : 0 ≤ k) (k1 : k ≤ 1) : bits BinOp.or IntKind.u64 (s * 2) k = s * 2 + k := by
  exact bits_join .u64 64 (by decide) (fun n h0 h1 => wraps_u64 n h0 h1) 1 (s * 2) k (by omega) (by omega) (by omega) k0 (by omega) (by omega)
set_option maxRecDepth 100000 in
set_option maxHeartbeats 2000000 in
theorem ikPut_any (w : World) (k : IK) (hw : k.Wf) (hr : k.right = true) :
    Calls Try.prog 89 #[.slice none 0 0, .agg (ikC k).toArray] w fun e W' => ∃ v, e = .returned v ∧ Row W' 5 1 v (encK k).length (u8s (encK k)) (fun k => w.heap.size ≤ k) ∧ Below w.heap.size w W' := by
  obtain ⟨h1, h2, h3, h4⟩ := of_decide_eq_true hr
  obtain ⟨W, hW⟩ : ∃ W, w.alloc (.cells (ikC k).toArray 36) = W := ⟨_, rfl⟩
  have k1 : Blk W w.heap.size 36 (ikC k) := by rw [← hW]; exact Blk.new _ _ _
  have hB : Below w.heap.size w W := by rw [← hW]; exact (Below.refl _ _).alloc (Nat.le_refl _) _
  obtain ⟨m, hme⟩ : ∃ m, (k.seq * 2 + k.kind).toNat = m := ⟨_, rfl⟩
  have s0 := hw.s0
  have q0 := hw.k0
  have hm : m < 18446744073709551616 := by omega
  have hor : bits BinOp.or IntKind.u64 (k.seq * 2) k.kind = (m : Int) := by rw [or_low _ _ s0 h3 q0 h4]; omega
  have henc : encK k = ([] ++ vput k.key.size ++ k.key.data.toList) ++ vput m := by rw [encK, hme, vput_small (x := k.key.size) (by omega), ByteArray.toList_eq]; simp
  have hk64 : k.key.size ≤ 64 := h2
  have hl70 : ([] ++ vput k.key.size ++ k.key.data.toList).length ≤ 70 := by rw [vput_small (x := k.key.size) (by omega)]; simp; omega
  obtain ⟨L, hL⟩ : ∃ L, [] ++ vput k.key.size ++ k.key.data.toList = L := ⟨_, rfl⟩
  rw [hL] at henc hl70
  have HLL := Lib.hid hL
  have HE := Lib.hid henc
  have HME := Lib.hid hme
  have hright := (right_any19 W k)
  rw [hr] at hright
  have HR := Lib.hid hright
  clear henc hme hright hr hw hL
  go_enter Try.func89, Try.ntmps89
  go_upto_region 3 with (first | (refine wpList_load_blk rfl 36 _ rfl w.heap.size (by rfl) (ikC k) k1 _ Try.underlying36 rfl infoIk ?_) | (go_at_call 59; refine HR.out.mono ?_; rintro e x0 ⟨rfl, hb0⟩))
  have k1d : Blk x0.drew w.heap.size 36 (ikC k) := k1.keep (hb0.block _ k1.lt)
  have hBd : Below w.heap.size w x0.drew := (hB.trans (hb0.mono hB.size)).trans (Quiet.below ⟨1, rfl⟩ _)
  refine wp_region_held_drew (S := (fun x => Blk x w.heap.size 36 (ikC k) ∧ Below w.heap.size w x)) (by kernel_rfl) ⟨k1d, hBd⟩ (fun hHeld => ?_)
  refine wpAnyH_take (i := 0) (v := ?_) rfl (by kernel_rfl) (by kernel_rfl) (by kernel_rfl) (fun _ _ _ h => h) (Or.inl ⟨by kernel_rfl, ?_⟩) (by assumption) ?_
  rotate_left
  · (intro w hSw; (try dsimp only at hSw); go_simp; try with_reducible rfl)
  try simp only [Act.put, List.getElem_toArray, List.getElem_cons_zero, List.getElem_cons_succ, List.setIfInBounds_toArray, List.set_cons_zero, List.set_cons_succ]
  refine wpAnyH_take (i := 1) (v := ?_) rfl (by kernel_rfl) (by kernel_rfl) (by kernel_rfl) (fun _ _ _ h => h) (Or.inl ⟨by kernel_rfl, ?_⟩) (by assumption) ?_
  rotate_left
  · (intro w hSw; (try dsimp only at hSw); go_simp; try with_reducible rfl)
  try simp only [Act.put, List.getElem_toArray, List.getElem_cons_zero, List.getElem_cons_succ, List.setIfInBounds_toArray, List.set_cons_zero, List.set_cons_succ]
  refine wpAnyH_take (i := 2) (v := ?_) rfl (by kernel_rfl) (by kernel_rfl) (by kernel_rfl) (fun _ _ _ h => h) (Or.inl ⟨by kernel_rfl, ?_⟩) (by assumption) ?_
  rotate_left
  · (intro y hSw; have hc := hSw.1.cell 0 (v := .string k.key) rfl; go_simp; try with_reducible rfl)
  try simp only [Act.put, List.getElem_toArray, List.getElem_cons_zero, List.getElem_cons_succ, List.setIfInBounds_toArray, List.set_cons_zero, List.set_cons_succ]
  refine wpAnyH_take (i := 4) (v := ?_) rfl (by kernel_rfl) (by kernel_rfl) (by kernel_rfl) (fun _ _ _ h => h) (Or.inl ⟨by kernel_rfl, ?_⟩) (by assumption) ?_
  rotate_left
  · (intro w hSw; (try dsimp only at hSw); go_simp; try with_reducible rfl)
  try simp only [Act.put, List.getElem_toArray, List.getElem_cons_zero, List.getElem_cons_succ, List.setIfInBounds_toArray, List.set_cons_zero, List.set_cons_succ]
  refine wpAnyH_take (i := 5) (v := ?_) rfl (by kernel_rfl) (by kernel_rfl) (by kernel_rfl) (fun _ _ _ h => h) (Or.inl ⟨by kernel_rfl, ?_⟩) (by assumption) ?_
  rotate_left
  · (intro y hSw; have hc := hSw.1.cell 1 (v := .int .u64 k.seq) rfl; go_simp; try with_reducible rfl)
  try simp only [Act.put, List.getElem_toArray, List.getElem_cons_zero, List.getElem_cons_succ, List.setIfInBounds_toArray, List.set_cons_zero, List.set_cons_succ]
  refine wpAnyH_take (i := 6) (v := .int .u64 (k.seq * 2)) rfl (by kernel_rfl) (by kernel_rfl) (by kernel_rfl) (fun _ _ _ h => h) (Or.inl ⟨by kernel_rfl, ?_⟩) (by assumption) ?_
  · (intro y hSw; (try dsimp only at hSw); have hw2 : IntKind.u64.wrap (k.seq * 2) = k.seq * 2 := wraps_u64 _ (by omega) (by omega); go_simp; try with_reducible rfl)
  try simp only [Act.put, List.getElem_toArray, List.getElem_cons_zero, List.getElem_cons_succ, List.setIfInBounds_toArray, List.set_cons_zero, List.set_cons_succ]
  refine wpAnyH_take (i := 7) (v := ?_) rfl (by kernel_rfl) (by kernel_rfl) (by kernel_rfl) (fun _ _ _ h => h) (Or.inl ⟨by kernel_rfl, ?_⟩) (by assumption) ?_
  rotate_left
  · (intro w hSw; (try dsimp only at hSw); go_simp; try with_reducible rfl)
  try simp only [Act.put, List.getElem_toArray, List.getElem_cons_zero, List.getElem_cons_succ, List.setIfInBounds_toArray, List.set_cons_zero, List.set_cons_succ]
  refine wpAnyH_take (i := 8) (v := ?_) rfl (by kernel_rfl) (by kernel_rfl) (by kernel_rfl) (fun _ _ _ h => h) (Or.inl ⟨by kernel_rfl, ?_⟩) (by assumption) ?_
  rotate_left
  · (intro y hSw; have hc := hSw.1.cell 2 (v := .int .u8 k.kind) rfl; go_simp; try with_reducible rfl)
  try simp only [Act.put, List.getElem_toArray, List.getElem_cons_zero, List.getElem_cons_succ, List.setIfInBounds_toArray, List.set_cons_zero, List.set_cons_succ]
  refine wpAnyH_take (i := 9) (v := .int .u64 k.kind) rfl (by kernel_rfl) (by kernel_rfl) (by kernel_rfl) (fun _ _ _ h => h) (Or.inl ⟨by kernel_rfl, ?_⟩) (by assumption) ?_
  · (intro y hSw; (try dsimp only at hSw); have hw2 : IntKind.u64.wrap k.kind = k.kind := wraps_u64 _ (by omega) (by omega); go_simp; try with_reducible rfl)
  try simp only [Act.put, List.getElem_toArray, List.getElem_cons_zero, List.getElem_cons_succ, List.setIfInBounds_toArray, List.set_cons_zero, List.set_cons_succ]
  refine wpAnyH_take (i := 10) (v := .int .u64 (m : Int)) rfl (by kernel_rfl) (by kernel_rfl) (by kernel_rfl) (fun _ _ _ h => h) (Or.inl ⟨by kernel_rfl, ?_⟩) (by assumption) ?_
  · (intro y hSw; (try dsimp only at hSw); go_simp; try with_reducible rfl)
  try simp only [Act.put, List.getElem_toArray, List.getElem_cons_zero, List.getElem_cons_succ, List.setIfInBounds_toArray, List.set_cons_zero, List.set_cons_succ]
  refine wpAnyH_ready (rs := [3]) (by kernel_rfl) (by simp) ?_
  refine AllReadyH.cons rfl (fun KK hKK => ?_) AllReadyH.nil
  go_simp
  refine (putText_any _ _ [] ⟨rfl, .inl ⟨rfl, _, _, rfl⟩⟩ (by decide) k.key hk64).mono ?_
  rintro e x1 ⟨v1, rfl, hr1, hb1⟩
  rw [HLL.out] at hr1
  obtain ⟨ao1, c1, rfl⟩ := hr1.slice
  have u1 : Blk x1 w.heap.size 36 (ikC k) ∧ Below w.heap.size w x1 := ⟨k1d.keep (hb1.block _ k1d.lt), hBd.trans (hb1.mono hBd.size)⟩
  refine hKK.out _ _ u1 (fun hHeld1 => ?_)
  clear hKK KK hHeld
  try simp only [Act.put, List.getElem_toArray, List.getElem_cons_zero, List.getElem_cons_succ, List.setIfInBounds_toArray, List.set_cons_zero, List.set_cons_succ]
  refine wpAnyH_ready (rs := [11]) (by kernel_rfl) (by simp) ?_
  refine AllReadyH.cons rfl (fun KK hKK => ?_) AllReadyH.nil
  go_simp
  refine (numsPut_any _ _ _ hr1.reads (by omega) m hm).mono ?_
  rintro e x2 ⟨v2, rfl, hr2, hb2⟩
  have u2 : Blk x2 w.heap.size 36 (ikC k) ∧ Below w.heap.size w x2 := ⟨u1.1.keep (hb2.block _ u1.1.lt), u1.2.trans (hb2.mono u1.2.size)⟩
  refine hKK.out _ _ u2 (fun hHeld2 => ?_)
  clear hKK KK hHeld1
  try simp only [Act.put, List.getElem_toArray, List.getElem_cons_zero, List.getElem_cons_succ, List.setIfInBounds_toArray, List.set_cons_zero, List.set_cons_succ]
  refine wpAnyH_take (i := 12) (v := ?_) rfl (by kernel_rfl) (by kernel_rfl) (by kernel_rfl) (fun _ _ _ h => h) (Or.inl ⟨by kernel_rfl, ?_⟩) (by assumption) ?_
  rotate_left
  · (intro w hSw; (try dsimp only at hSw); go_simp; try with_reducible rfl)
  try simp only [Act.put, List.getElem_toArray, List.getElem_cons_zero, List.getElem_cons_succ, List.setIfInBounds_toArray, List.set_cons_zero, List.set_cons_succ]
  refine wpAnyH_done (by kernel_rfl) ?_ _

  go_wp2_with fail
  go_ret
  refine ⟨_, rfl, ?_, u2.2⟩
  rw [HE.out]
  exact hr2.mono fun j _ hj => Nat.le_trans u1.2.size hj
end Go.Proofs.Ytkpjfdhjkgdcbaa
