/- The document's answers of chapter 22: Fail, New, Height. -/
import Derived.Test.YteiaifhnikknbaaDoorRef22
namespace Go.Proofs.YteiaifhnikknbaaDoor
open Go.RowKit

variable {w w' : World} {G : Gd} {sl sd si st : Value} {K : Cfg}
theorem gC_bad (G : Gd) (er : Int) (sl sd si st : Value) : (gC G sl sd si st).set 4 (.int .i64 er) = gC { G with bad := er } sl sd si st := rfl
set_option maxRecDepth 100000 in
set_option maxHeartbeats 1000000 in
theorem refFail_any (h : GR w G sl sd si st) (er : Int) :
    Calls Tryd.prog 25 #[.agg (gC G sl sd si st).toArray, .int .i64 er] w fun e w' => e = .returned (.agg (gC (failG G er) sl sd si st).toArray) ∧ Below w.heap.size w w' := by
  obtain ⟨W, hW, k1, k2, hB, hsz⟩ := two_boxes w (gC G sl sd si st) [.slice none 0 0, .slice none 0 0, .int .i64 0, .int .u64 0, .int .i64 0, .int .i64 0, .slice none 0 0, .int .u64 0, .int .u64 0, .slice none 0 0, .bool false] 31 31
  have c4 := k1.cell 4 (v := .int .i64 G.bad) rfl
  have f4 := k1.frozen 4
  have o1 := h.l.slice_one
  have o2 := h.d.slice_one
  have o3 := h.i.slice_one
  have o4 := h.t.slice_one
  obtain ⟨b, hb⟩ : ∃ b, G.bad = b := ⟨_, rfl⟩
  rw [hb] at c4
  by_cases h0 : b = 0
  · have e1 : failG G er = { G with bad := er } := by simp [failG, hb, h0]
    rw [e1]
    have hb0 : (b == 0) = true := by simp [h0]
    have k3 : Blk (W.setCell ⟨w.heap.size, 4, none⟩ (.int .i64 er)) w.heap.size 31 (gC { G with bad := er } sl sd si st) := k1.set 4 _
    have k4 := k2.set_other (a := ⟨w.heap.size, 4, none⟩) (by simp) (.int .i64 er)
    clear h0 hb e1 h
    go_enter Tryd.func25, Tryd.ntmps25
    go_wp2_with (first | (refine wpList_load_blk rfl 31 _ rfl w.heap.size (by rfl) (gC { G with bad := er } sl sd si st) k3 _ Tryd.underlying31 rfl infoG ?_) | (refine wpList_store_blk rfl 31 _ _ rfl (w.heap.size + 1) (gC { G with bad := er } sl sd si st) (by rfl) (by rfl) _ k4 infoG rfl (gC_one _ o1 o2 o3 o4) ?_))
    have k5 := k4.setRow (gC { G with bad := er } sl sd si st)
    exact bodyPost_ret (results_cell_one (P := Tryd.prog) Tryd.results25 rfl (k5.loadRow _ Tryd.underlying31 rfl infoG)) rfl ⟨rfl, below_setRow (hB.setCell (p := ⟨w.heap.size, 4, none⟩) (Nat.le_refl _) _) (by omega) _⟩
  · have e1 : failG G er = G := by simp [failG, hb, h0]
    rw [e1]
    have hb0 : (b == 0) = false := by simp [h0]
    clear h0 hb e1 h
    go_enter Tryd.func25, Tryd.ntmps25
    go_wp2_with (first | (refine wpList_load_blk rfl 31 _ rfl w.heap.size (by rfl) (gC G sl sd si st) k1 _ Tryd.underlying31 rfl infoG ?_) | (refine wpList_store_blk rfl 31 _ _ rfl (w.heap.size + 1) (gC G sl sd si st) (by rfl) (by rfl) _ k2 infoG rfl (gC_one _ o1 o2 o3 o4) ?_))
    have k5 := k2.setRow (gC G sl sd si st)
    exact bodyPost_ret (results_cell_one (P := Tryd.prog) Tryd.results25 rfl (k5.loadRow _ Tryd.underlying31 rfl infoG)) rfl ⟨rfl, below_setRow hB (by omega) _⟩

set_option maxRecDepth 100000 in
set_option maxHeartbeats 1000000 in
theorem refNew_any {V : Ver} {ta : Option Addr} {tn tc : Nat} (log : Int) (l0 : 0 ≤ log) (l1 : log < 18446744073709551615) :
    Calls Tryd.prog 33 #[.agg (vrC V (.slice ta tn tc)).toArray, .int .u64 log] w fun e w' => e = .returned (.agg (gC (newG V log) (.slice none 0 0) (.slice none 0 0) (.slice none 0 0) (.slice ta tn tc)).toArray) ∧ Below w.heap.size w w' := by
  obtain ⟨W, hW, k1, k2, hB, hsz⟩ := two_boxes w (vrC V (.slice ta tn tc)) [.slice none 0 0, .slice none 0 0, .int .i64 0, .int .u64 0, .int .i64 0, .int .i64 0, .slice none 0 0, .int .u64 0, .int .u64 0, .slice none 0 0, .bool false] 51 31
  have c0 := k1.cell 0 (v := .slice ta tn tc) rfl
  have c2 := k1.cell 2 (v := .int .u64 V.last) rfl
  have c3 := k1.cell 3 (v := .int .u64 V.next) rfl
  obtain ⟨nx, hnx⟩ : ∃ nx, V.next = nx := ⟨_, rfl⟩
  rw [hnx] at c3
  obtain ⟨G1, hG1⟩ : ∃ G1 : Gd, G1 = ⟨[], [], 0, V.last, 0, 0, [], log, nx, V.tables, false⟩ := ⟨_, rfl⟩
  have q0 := Blk.new W 31 [.slice none 0 0, .slice none 0 0, .int .i64 0, .int .u64 0, .int .i64 0, .int .i64 0, .slice none 0 0, .int .u64 0, .int .u64 0, .slice none 0 0, .bool false]
  have q1 := q0.setRow (gC ⟨[], [], 0, V.last, 0, 0, [], log, nx, V.tables, false⟩ (.slice none 0 0) (.slice none 0 0) (.slice none 0 0) (.slice ta tn tc))
  have c8 := q1.cell 8 (v := .int .u64 nx) rfl
  have f8 := q1.frozen 8
  have p2 := (k2.alloc (.cells #[.slice none 0 0, .slice none 0 0, .int .i64 0, .int .u64 0, .int .i64 0, .int .i64 0, .slice none 0 0, .int .u64 0, .int .u64 0, .slice none 0 0, .bool false] 31)).setRow_other (b' := W.heap.size) (by omega) (gC ⟨[], [], 0, V.last, 0, 0, [], log, nx, V.tables, false⟩ (.slice none 0 0) (.slice none 0 0) (.slice none 0 0) (.slice ta tn tc)).toArray
  have hBw : Below w.heap.size w ((W.alloc (.cells #[.slice none 0 0, .slice none 0 0, .int .i64 0, .int .u64 0, .int .i64 0, .int .i64 0, .slice none 0 0, .int .u64 0, .int .u64 0, .slice none 0 0, .bool false] 31)).setRow W.heap.size (gC ⟨[], [], 0, V.last, 0, 0, [], log, nx, V.tables, false⟩ (.slice none 0 0) (.slice none 0 0) (.slice none 0 0) (.slice ta tn tc)).toArray) := below_setRow (hB.alloc hB.size _) hB.size _
  have hsw := hB.size
  have hne : W.heap.size ≠ w.heap.size + 1 := by omega
  have HZ := Lib.hid hsz
  clear hsz
  by_cases h1 : nx < log + 1
  · have e1 : newG V log = ⟨[], [], 0, V.last, 0, 0, [], log, log + 1, V.tables, false⟩ := by simp [newG, hnx, h1]
    rw [e1]
    have q2 := q1.set 8 (.int .u64 (log + 1))
    have p3 := p2.set_other (a := ⟨W.heap.size, 8, none⟩) (Ne.symm hne) (.int .u64 (log + 1))
    clear hnx e1 hG1
    go_enter Tryd.func33, Tryd.ntmps33
    go_wp2_with (first | (refine wpList_store_blk rfl 31 _ _ rfl W.heap.size (gC ⟨[], [], 0, V.last, 0, 0, [], log, nx, V.tables, false⟩ (.slice none 0 0) (.slice none 0 0) (.slice none 0 0) (.slice ta tn tc)) (by rfl) (by rfl) _ q0 infoG rfl (gC_one _ rfl rfl rfl rfl) ?_) | (refine wpList_load_blk rfl 31 _ rfl W.heap.size (by rfl) (gC ⟨[], [], 0, V.last, 0, 0, [], log, log + 1, V.tables, false⟩ (.slice none 0 0) (.slice none 0 0) (.slice none 0 0) (.slice ta tn tc)) q2 _ Tryd.underlying31 rfl infoG ?_) | (refine wpList_store_blk rfl 31 _ _ rfl (w.heap.size + 1) (gC ⟨[], [], 0, V.last, 0, 0, [], log, log + 1, V.tables, false⟩ (.slice none 0 0) (.slice none 0 0) (.slice none 0 0) (.slice ta tn tc)) (by rfl) (by rfl) _ p3 infoG rfl (gC_one _ rfl rfl rfl rfl) ?_))
    have k5 := p3.setRow (gC ⟨[], [], 0, V.last, 0, 0, [], log, log + 1, V.tables, false⟩ (.slice none 0 0) (.slice none 0 0) (.slice none 0 0) (.slice ta tn tc))
    exact bodyPost_ret (results_cell_one (P := Tryd.prog) Tryd.results33 rfl (k5.loadRow _ Tryd.underlying31 rfl infoG)) rfl ⟨rfl, below_setRow (hBw.setCell (p := ⟨W.heap.size, 8, none⟩) hsw _) (by omega) _⟩
  · have e1 : newG V log = ⟨[], [], 0, V.last, 0, 0, [], log, nx, V.tables, false⟩ := by simp [newG, hnx, h1]
    rw [e1]
    clear hnx e1 hG1
    go_enter Tryd.func33, Tryd.ntmps33
    go_wp2_with (first | (refine wpList_store_blk rfl 31 _ _ rfl W.heap.size (gC ⟨[], [], 0, V.last, 0, 0, [], log, nx, V.tables, false⟩ (.slice none 0 0) (.slice none 0 0) (.slice none 0 0) (.slice ta tn tc)) (by rfl) (by rfl) _ q0 infoG rfl (gC_one _ rfl rfl rfl rfl) ?_) | (refine wpList_load_blk rfl 31 _ rfl W.heap.size (by rfl) (gC ⟨[], [], 0, V.last, 0, 0, [], log, nx, V.tables, false⟩ (.slice none 0 0) (.slice none 0 0) (.slice none 0 0) (.slice ta tn tc)) q1 _ Tryd.underlying31 rfl infoG ?_) | (refine wpList_store_blk rfl 31 _ _ rfl (w.heap.size + 1) (gC ⟨[], [], 0, V.last, 0, 0, [], log, nx, V.tables, false⟩ (.slice none 0 0) (.slice none 0 0) (.slice none 0 0) (.slice ta tn tc)) (by rfl) (by rfl) _ p2 infoG rfl (gC_one _ rfl rfl rfl rfl) ?_))
    have k5 := p2.setRow (gC ⟨[], [], 0, V.last, 0, 0, [], log, nx, V.tables, false⟩ (.slice none 0 0) (.slice none 0 0) (.slice none 0 0) (.slice ta tn tc))
    exact bodyPost_ret (results_cell_one (P := Tryd.prog) Tryd.results33 rfl (k5.loadRow _ Tryd.underlying31 rfl infoG)) rfl ⟨rfl, below_setRow hBw (by omega) _⟩

set_option maxRecDepth 100000 in
set_option maxHeartbeats 1000000 in
theorem refHeight22 (ao : Option Addr) (c : Nat) (hR : Reads w 1 (.slice ao K.heights.length c) K.heights.length (u32s K.heights)) (hu : ∀ x ∈ K.heights, 0 ≤ x ∧ x < 4294967296) (hn : K.heights.length ≤ 4000000000) (seq : Int) (s0 : 0 ≤ seq) (s1 : seq ≤ 18446744073709551615) :
    Calls Tryd.prog 35 #[.agg (cfC K (.slice ao K.heights.length c)).toArray, .int .u64 seq] w fun e w' => e = .returned (.int .i64 (stHeight K seq)) ∧ Below w.heap.size w w' := by
  obtain ⟨n, hnn⟩ : ∃ n, K.heights.length = n := ⟨_, rfl⟩
  rw [hnn] at hR hn
  rw [hnn]
  obtain ⟨W, hW⟩ : ∃ W, w.alloc (.cells (cfC K (.slice ao n c)).toArray 49) = W := ⟨_, rfl⟩
  have k1 : Blk W w.heap.size 49 (cfC K (.slice ao n c)) := by rw [← hW]; exact Blk.new _ _ _
  have hB : Below w.heap.size w W := by rw [← hW]; exact (Below.refl _ _).alloc (Nat.le_refl _) _
  have hR2 := hR.below hB
  have c5 := k1.cell 5 (v := .slice ao n c) rfl
  by_cases hn0 : n = 0
  · have hc : K.heights = [] := List.eq_nil_of_length_eq_zero (by omega)
    have e1 : stHeight K seq = 1 := by simp [stHeight, hc]
    rw [e1]
    rw [hn0] at c5 hW
    rw [hn0]
    clear hR k1 hc e1 hu hn hR2 hn0 hnn
    go_enter Tryd.func35, Tryd.ntmps35
    go_wp2
    go_ret
    exact ⟨rfl, hB⟩
  · obtain ⟨j, hj⟩ : ∃ j : Nat, seq % (n : Int) = (j : Int) := ⟨(seq % (n : Int)).toNat, by have := Int.emod_nonneg seq (show (n : Int) ≠ 0 by omega); omega⟩
    have hjn : j < n := by have := Int.emod_lt_of_pos seq (show (0 : Int) < n by omega); omega
    obtain ⟨y, hy⟩ : ∃ y, K.heights[j]? = some y := ⟨_, List.getElem?_eq_getElem (by omega)⟩
    have hyb := hu y (List.mem_of_getElem? hy)
    have e1 : stHeight K seq = hgt y 6 := by
      rw [stHeight, if_neg (by intro h; rw [h] at hnn; simp at hnn; omega), hnn, hj, Int.toNat_natCast, List.getD_eq_getElem?_getD, hy]; rfl
    rw [e1]
    rcases hR2.form with ⟨h0, _⟩ | ⟨b, off, c', he, hc2, hcell⟩
    · omega
    · cases he
      have cy := hcell j (.int .u32 y) (by simp [u32s, hy])
      have hht : ∀ k, Calls Tryd.prog 69 #[.int .u32 y, .int .i64 6] (W.drewN k) fun e w' => e = .returned (.int .i64 (hgt y 6)) ∧ w' = W.drewN k := fun k => (refHeight_any (W.drewN k) y 6 hyb.1 hyb.2 (by decide)).mono (by rintro e w' ⟨rfl, rfl⟩; exact ⟨rfl, rfl⟩)
      have HH := Lib.hid hht
      have b0 : (0 : Int) ≤ (j : Int) := by omega
      have b1 : (j : Int) < (n : Int) := by omega
      have hw1 : IntKind.u64.wrap (n : Int) = n := IntWalk.u64_in _ (by omega)
      have hw2 : IntKind.u64.wrap (j : Int) = j := IntWalk.u64_in _ (by omega)
      have hw3 : IntKind.i64.wrap (j : Int) = j := IntWalk.i64_in _ (by omega)
      have hne : ((n : Int) == 0) = false := by simp; omega
      have hne2 : ¬ n = 0 := hn0
      have hne3 : ¬ (n : Int) = 0 := by omega
      have htm : seq.tmod (n : Int) = (j : Int) := by rw [Int.tmod_eq_emod_of_nonneg s0, hj]
      clear hR k1 e1 hu hcell hht hy hnn hn0 hR2
      go_enter Tryd.func35, Tryd.ntmps35
      go_upto_region 3 with fail
      go_quiet ((go_at_call 69; exact Calls.quiet_of_same (HH.out _)))
      go_wp2
      go_ret
      exact ⟨rfl, hB.trans (Quiet.below ⟨⟨_, rfl⟩⟩ _)⟩
end Go.Proofs.YteiaifhnikknbaaDoor
