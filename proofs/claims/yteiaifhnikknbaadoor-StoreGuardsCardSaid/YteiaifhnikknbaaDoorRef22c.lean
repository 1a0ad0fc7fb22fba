/- The document's Rotate. -/
import Derived.Test.YteiaifhnikknbaaDoorRef22b
import Derived.Test.YteiaifhnikknbaaDoorAppR
namespace Go.Proofs.YteiaifhnikknbaaDoor
open Go.RowKit

variable {w w' : World} {G : Gd} {sl sd si st : Value} {K : Cfg}
set_option maxRecDepth 100000 in
set_option maxHeartbeats 2000000 in
theorem refRotate_any (h : GR w G sl sd si st) (hs : G.Small 1000000) (log : Int) (l0 : 0 ≤ log) (l1 : log < 18446744073709551615) :
    Calls Tryd.prog 22 #[.agg (gC G sl sd si st).toArray, .int .u64 log] w fun e w' => ∃ si', e = .returned (.agg (gC (rotG G log) sl sd si' st).toArray) ∧ GR w' (rotG G log) sl sd si' st ∧ Below w.heap.size w w' := by
  obtain ⟨W, hW, k1, k2, hB, hsz⟩ := two_boxes w (gC G sl sd si st) [.slice none 0 0, .slice none 0 0, .int .i64 0, .int .u64 0, .int .i64 0, .int .i64 0, .slice none 0 0, .int .u64 0, .int .u64 0, .slice none 0 0, .bool false] 31 31
  obtain ⟨i0, hi, hz0, hz1, hz2⟩ := info_parts infoIm
  have o1 := h.l.slice_one
  have o2 := h.d.slice_one
  have o4 := h.t.slice_one
  obtain ⟨n, hn⟩ : ∃ n, G.imms.length = n := ⟨_, rfl⟩
  have hn6 : n ≤ 1000000 := by rw [← hn]; exact hs.i
  have hRi := h.i.below hB
  rw [hn] at hRi
  obtain ⟨gm, hgm⟩ : ∃ gm, G.mem = gm := ⟨_, rfl⟩
  obtain ⟨gl, hgl⟩ : ∃ gl, G.log = gl := ⟨_, rfl⟩
  obtain ⟨gn, hgn⟩ : ∃ gn, G.next = gn := ⟨_, rfl⟩
  have c6 := k1.cell 6 rfl
  have c5 := k1.cell 5 (v := .int .i64 G.mem) rfl
  have c7 := k1.cell 7 (v := .int .u64 G.log) rfl
  rw [hgm] at c5
  rw [hgl] at c7
  have hone := ims_one G.imms
  have HN := Lib.hid hn
  have HR := Lib.hid h
  have HO := Lib.hid hone
  have HRI := Lib.hid hRi
  have HM := Lib.hid hgm
  have HL := Lib.hid hgl
  have HNX := Lib.hid hgn
  have HZ := Lib.hid hsz
  clear hn h hone hRi hs hgm hgl hgn hsz
  go_enter Tryd.func22, Tryd.ntmps22
  go_upto_region 4 with (first | (at_builtin; refine wpList_append_reads rfl (.tmp 6) (.tmp 8) 28 (by rfl) W.heap.size 94 i0 (.agg #[.int .i64 0, .int .u64 0]) 2 16 Tryd.underlying28 hi hz0 hz1 hz2 rfl (by decide) (.slice none 0 0) 0 [] (by rfl) (World.ownsRow_nil _ _ _ _) _ n (ims G.imms) (by rfl) HRI.out HO.out (by unfold maxLen; omega) (by omega) (Nat.le_refl _) ?_; intro v5 w5 hown5 hg5 hat5; simp only [Nat.zero_add, List.nil_append] at hown5; have r5 := Row.of_owns hown5; have m5 := k1.grown hg5 (by simp [Value.ownBlock]); have n5 := k2.grown hg5 (by simp [Value.ownBlock]); have c5 := m5.cell 5 (v := .int .i64 G.mem) rfl; have c7 := m5.cell 7 (v := .int .u64 G.log) rfl; rw [HM.out] at c5; rw [HL.out] at c7; have hB5 : Below W.heap.size W w5 := (Below.refl _ W).grown hg5 (Nat.le_refl _) (fun k e => by cases e)) | (at_builtin; refine wpList_append_own_at _ rfl (.tmp 10) (.tmp 16) 28 (by rfl) W.heap.size 94 i0 (.agg #[.int .i64 0, .int .u64 0]) 2 16 Tryd.underlying28 hi hz0 hz1 hz2 rfl (by decide) v5 n (ims G.imms) (by rfl) (r5.at_base.alloc _) ⟨w5.heap.size, 0, none⟩ 1 1 [.int .i64 gm, .int .u64 gl] (by rfl) rfl (cells_new _ _ (by rfl) _ _) (by simp [Value.oneCell']) (by unfold maxLen; omega) (by omega) (by have := hB5.size; simp; omega) ?_; intro v6 w6 hown6 hg6 _ hat6; obtain ⟨g6, cp6, rfl⟩ := owns_succ hown6; have r6 := Row.of_owns hown6; have m6 := (m5.alloc (.cells #[.int .i64 gm, .int .u64 gl] 94)).grown hg6 (r5.ne_blk m5 (by decide)); have n6 := (n5.alloc (.cells #[.int .i64 gm, .int .u64 gl] 94)).grown hg6 (r5.ne_blk n5 (by decide)); have f6 := m6.frozen 6; have c6 := m6.cell 6 (v := si) rfl; have hB6 := (hB5.alloc hB5.size (.cells #[.int .i64 gm, .int .u64 gl] 94)).grown hg6 (by have := hB5.size; simp; omega) r5.home))
  obtain ⟨Wa, hWa⟩ : ∃ Wa, w6.setCell ⟨w.heap.size, 6, none⟩ (.slice (some ⟨g6, 0, none⟩) (n + 1) cp6) = Wa := ⟨_, rfl⟩
  have m7 := m6.set 6 (.slice (some ⟨g6, 0, none⟩) (n + 1) cp6)
  have n7 := n6.set_other (a := ⟨w.heap.size, 6, none⟩) (by simp) (.slice (some ⟨g6, 0, none⟩) (n + 1) cp6)
  have q7 := r6.setCell (a := ⟨w.heap.size, 6, none⟩) (r6.ne_blk m6 (by decide)) (.slice (some ⟨g6, 0, none⟩) (n + 1) cp6)
  have hB7 : Below w.heap.size w Wa := by rw [← hWa]; exact (hB.trans (hB6.mono hB.size)).setCell (p := ⟨w.heap.size, 6, none⟩) (Nat.le_refl _) _
  rw [hWa] at m7 n7 q7
  try rw [hWa]
  have y5 := m7.cell 5 (v := .int .i64 G.mem) rfl
  have y8 := m7.cell 8 (v := .int .u64 G.next) rfl
  have y7 := m7.cell 7 (v := .int .u64 G.log) rfl
  have z5 := m7.frozen 5
  have z7 := m7.frozen 7
  have z8 := m7.frozen 8
  rw [HM.out] at y5
  rw [HNX.out] at y8
  clear hWa m6 n6 r6 hB6 hown6 hg6 hat6 m5 n5 r5 hg5 hat5 hown5 c5 c6 c7 f6 k1 k2
  by_cases hlt : gn < log + 1
  · have hrg : rotG G log = { G with imms := G.imms ++ [⟨G.mem, G.log⟩], mem := wrap64 (gm + 1), log := log, next := log + 1 } := by simp [rotG, HM.out, HNX.out, hlt]
    have T1 := ((m7.set 5 (.int .i64 (wrap64 (gm + 1)))).set 7 (.int .u64 log)).set 8 (.int .u64 (log + 1))
    have T2 := ((n7.set_other (a := ⟨w.heap.size, 5, none⟩) (by simp) (.int .i64 (wrap64 (gm + 1)))).set_other (a := ⟨w.heap.size, 7, none⟩) (by simp) (.int .u64 log)).set_other (a := ⟨w.heap.size, 8, none⟩) (by simp) (.int .u64 (log + 1))
    have hgc : gC (rotG G log) sl sd (.slice (some ⟨g6, 0, none⟩) (n + 1) cp6) st = ((((gC G sl sd si st).set 6 (.slice (some ⟨g6, 0, none⟩) (n + 1) cp6)).set 5 (.int .i64 (wrap64 (gm + 1)))).set 7 (.int .u64 log)).set 8 (.int .u64 (log + 1)) := by
      rw [hrg]
      rfl
    have hB8 := ((hB7.setCell (p := ⟨w.heap.size, 5, none⟩) (Nat.le_refl _) (.int .i64 (wrap64 (gm + 1)))).setCell (p := ⟨w.heap.size, 7, none⟩) (Nat.le_refl _) (.int .u64 log)).setCell (p := ⟨w.heap.size, 8, none⟩) (Nat.le_refl _) (.int .u64 (log + 1))
    have hQ : (Value.slice (some ⟨g6, 0, none⟩) (n + 1) cp6).ownBlock ≠ some w.heap.size := q7.ne_blk m7 (by decide)
    have q8 := q7.keep (w' := (((Wa.setCell ⟨w.heap.size, 5, none⟩ (.int .i64 (wrap64 (gm + 1)))).setCell ⟨w.heap.size, 7, none⟩ (.int .u64 log)).setCell ⟨w.heap.size, 8, none⟩ (.int .u64 (log + 1)))) (fun k hk => ((Below.heap_setCell _ _ _ _ (fun e => hQ (by rw [← (show k = w.heap.size from e)]; exact hk))).trans (Below.heap_setCell _ _ _ _ (fun e => hQ (by rw [← (show k = w.heap.size from e)]; exact hk)))).trans (Below.heap_setCell _ _ _ _ (fun e => hQ (by rw [← (show k = w.heap.size from e)]; exact hk))))
    obtain ⟨Wn, hWn⟩ : ∃ Wn, (((Wa.setCell ⟨w.heap.size, 5, none⟩ (.int .i64 (wrap64 (gm + 1)))).setCell ⟨w.heap.size, 7, none⟩ (.int .u64 log)).setCell ⟨w.heap.size, 8, none⟩ (.int .u64 (log + 1))) = Wn := ⟨_, rfl⟩
    rw [hWn] at T1 T2 hB8 q8
    rw [← hgc] at T1
    obtain ⟨C, hC⟩ : ∃ C, gC (rotG G log) sl sd (.slice (some ⟨g6, 0, none⟩) (n + 1) cp6) st = C := ⟨_, rfl⟩
    have hCl : C.length = 11 := by rw [← hC]; rfl
    have hone : ∀ u ∈ C, u.oneCell' = true := by rw [← hC]; exact gC_one _ o1 o2 rfl o4
    rw [hC] at T1
    have HC := Lib.hid hC
    have HCL := Lib.hid hCl
    have HONE := Lib.hid hone
    have HIN : Hid ((Tryd.prog.info? 31).map (·.size) = some C.length) := Lib.hid (by rw [hCl]; exact infoG)
    have Q8 := Lib.hid q8
    clear hC hCl hone hgc hrg q8 q7 m7 n7
    go_wp2_with (first | (refine wpList_load_blk rfl 31 _ rfl w.heap.size (by rfl) C T1 _ Tryd.underlying31 rfl HIN.out ?_) | (refine wpList_store_blk rfl 31 _ _ rfl (w.heap.size + 1) C (by rfl) (by rfl) _ T2 HIN.out (by rw [HCL.out]; rfl) HONE.out ?_))
    have r4 := T2.setRow C
    have hbz := below_setRow hB8 (b := w.heap.size + 1) (by omega) C.toArray
    refine bodyPost_ret (results_cell_one (P := Tryd.prog) Tryd.results22 rfl (r4.loadRow _ Tryd.underlying31 rfl HIN.out)) rfl ⟨(.slice (some ⟨g6, 0, none⟩) (n + 1) cp6), by rw [HC.out], ⟨HR.out.l.below hbz, HR.out.d.below hbz, ?_, HR.out.t.below hbz⟩, hbz⟩
    have e5 := (Q8.out.setRow T2 (by decide) C.toArray).reads
    have l1 : (rotG G log).imms.length = n + 1 := by simp [rotG, HN.out]
    have l2 : ims (rotG G log).imms = ims G.imms ++ [.int .i64 gm, .int .u64 gl] := by simp [rotG, ims, Imm.cells, HM.out, HL.out]
    rw [l1, l2]
    exact e5
  · have hrg : rotG G log = { G with imms := G.imms ++ [⟨G.mem, G.log⟩], mem := wrap64 (gm + 1), log := log } := by
      have h8 : ¬ G.next < log + 1 := by rw [HNX.out]; exact hlt
      simp [rotG, HM.out, h8]
    have T1 := (m7.set 5 (.int .i64 (wrap64 (gm + 1)))).set 7 (.int .u64 log)
    have T2 := (n7.set_other (a := ⟨w.heap.size, 5, none⟩) (by simp) (.int .i64 (wrap64 (gm + 1)))).set_other (a := ⟨w.heap.size, 7, none⟩) (by simp) (.int .u64 log)
    have hgc : gC (rotG G log) sl sd (.slice (some ⟨g6, 0, none⟩) (n + 1) cp6) st = ((((gC G sl sd si st).set 6 (.slice (some ⟨g6, 0, none⟩) (n + 1) cp6)).set 5 (.int .i64 (wrap64 (gm + 1)))).set 7 (.int .u64 log)) := by
      rw [hrg]
      rfl
    have hB8 := (hB7.setCell (p := ⟨w.heap.size, 5, none⟩) (Nat.le_refl _) (.int .i64 (wrap64 (gm + 1)))).setCell (p := ⟨w.heap.size, 7, none⟩) (Nat.le_refl _) (.int .u64 log)
    have hQ : (Value.slice (some ⟨g6, 0, none⟩) (n + 1) cp6).ownBlock ≠ some w.heap.size := q7.ne_blk m7 (by decide)
    have q8 := q7.keep (w' := ((Wa.setCell ⟨w.heap.size, 5, none⟩ (.int .i64 (wrap64 (gm + 1)))).setCell ⟨w.heap.size, 7, none⟩ (.int .u64 log))) (fun k hk => (Below.heap_setCell _ _ _ _ (fun e => hQ (by rw [← (show k = w.heap.size from e)]; exact hk))).trans (Below.heap_setCell _ _ _ _ (fun e => hQ (by rw [← (show k = w.heap.size from e)]; exact hk))))
    obtain ⟨Wn, hWn⟩ : ∃ Wn, ((Wa.setCell ⟨w.heap.size, 5, none⟩ (.int .i64 (wrap64 (gm + 1)))).setCell ⟨w.heap.size, 7, none⟩ (.int .u64 log)) = Wn := ⟨_, rfl⟩
    rw [hWn] at T1 T2 hB8 q8
    have y8n := T1.cell 8 (v := .int .u64 G.next) rfl
    rw [HNX.out] at y8n
    rw [← hgc] at T1
    obtain ⟨C, hC⟩ : ∃ C, gC (rotG G log) sl sd (.slice (some ⟨g6, 0, none⟩) (n + 1) cp6) st = C := ⟨_, rfl⟩
    have hCl : C.length = 11 := by rw [← hC]; rfl
    have hone : ∀ u ∈ C, u.oneCell' = true := by rw [← hC]; exact gC_one _ o1 o2 rfl o4
    rw [hC] at T1
    have HC := Lib.hid hC
    have HCL := Lib.hid hCl
    have HONE := Lib.hid hone
    have HIN : Hid ((Tryd.prog.info? 31).map (·.size) = some C.length) := Lib.hid (by rw [hCl]; exact infoG)
    have Q8 := Lib.hid q8
    clear hC hCl hone hgc hrg q8 q7 m7 n7
    go_wp2_with (first | (refine wpList_load_blk rfl 31 _ rfl w.heap.size (by rfl) C T1 _ Tryd.underlying31 rfl HIN.out ?_) | (refine wpList_store_blk rfl 31 _ _ rfl (w.heap.size + 1) C (by rfl) (by rfl) _ T2 HIN.out (by rw [HCL.out]; rfl) HONE.out ?_))
    have r4 := T2.setRow C
    have hbz := below_setRow hB8 (b := w.heap.size + 1) (by omega) C.toArray
    refine bodyPost_ret (results_cell_one (P := Tryd.prog) Tryd.results22 rfl (r4.loadRow _ Tryd.underlying31 rfl HIN.out)) rfl ⟨(.slice (some ⟨g6, 0, none⟩) (n + 1) cp6), by rw [HC.out], ⟨HR.out.l.below hbz, HR.out.d.below hbz, ?_, HR.out.t.below hbz⟩, hbz⟩
    have e5 := (Q8.out.setRow T2 (by decide) C.toArray).reads
    have l1 : (rotG G log).imms.length = n + 1 := by simp [rotG, HN.out]
    have l2 : ims (rotG G log).imms = ims G.imms ++ [.int .i64 gm, .int .u64 gl] := by simp [rotG, ims, Imm.cells, HM.out, HL.out]
    rw [l1, l2]
    exact e5
end Go.Proofs.YteiaifhnikknbaaDoor
