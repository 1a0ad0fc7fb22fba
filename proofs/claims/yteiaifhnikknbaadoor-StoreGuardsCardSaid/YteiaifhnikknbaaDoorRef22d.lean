/- The document's Install. -/
import Derived.Test.YteiaifhnikknbaaDoorRef22c
import Derived.Test.YteiaifhnikknbaaDoorLow22
namespace Go.Proofs.YteiaifhnikknbaaDoor
open Go.RowKit

variable {w w' : World} {G : Gd} {sl sd si st : Value} {K : Cfg}
def mtC (m : Meta) : List Value := [.int .u64 m.num, .int .u64 m.size, .string m.least, .string m.most]
set_option maxRecDepth 100000 in
set_option maxHeartbeats 4000000 in
theorem refInstall_any (h : GR w G sl sd si st) (hs : G.Small 1000000) (m : Meta) :
    Calls Tryd.prog 23 #[.agg (gC G sl sd si st).toArray, .agg (mtC m).toArray] w fun e w' => ∃ si' st', e = .returned (.agg (gC (instG G m) sl sd si' st').toArray) ∧ GR w' (instG G m) sl sd si' st' ∧ Below w.heap.size w w' := by
  obtain ⟨W, hW, k1, k3, k2, hB, hsz⟩ := three_boxes w (gC G sl sd si st) (mtC m) [.slice none 0 0, .slice none 0 0, .int .i64 0, .int .u64 0, .int .i64 0, .int .i64 0, .slice none 0 0, .int .u64 0, .int .u64 0, .slice none 0 0, .bool false] 31 37 31
  have o1 := h.l.slice_one
  have o2 := h.d.slice_one
  have o3 := h.i.slice_one
  have o4 := h.t.slice_one
  cases hm : G.imms with
  | nil =>
    have e1 : instG G m = G := by simp [instG, hm]
    rw [e1]
    have hi := h.i
    rw [hm] at hi
    obtain ⟨ai, ci, he⟩ := hi.slice
    rw [List.length_nil] at he
    subst he
    have c6 := k1.cell 6 rfl
    have HR := Lib.hid h
    have HZ := Lib.hid hsz
    clear h hs hm e1 hi hsz
    go_enter Tryd.func23, Tryd.ntmps23
    go_wp2_with (first | (refine wpList_load_blk rfl 31 _ rfl w.heap.size (by rfl) (gC G sl sd (.slice ai 0 ci) st) k1 _ Tryd.underlying31 rfl infoG ?_) | (refine wpList_store_blk rfl 31 _ _ rfl (w.heap.size + 1 + 1) (gC G sl sd (.slice ai 0 ci) st) (by rfl) (by rfl) _ k2 infoG rfl (gC_one _ o1 o2 o3 o4) ?_))
    have k5 := k2.setRow (gC G sl sd (.slice ai 0 ci) st)
    have hbz := below_setRow hB (b := w.heap.size + 1 + 1) (by omega) (gC G sl sd (.slice ai 0 ci) st).toArray
    exact bodyPost_ret (results_cell_one (P := Tryd.prog) Tryd.results23 rfl (k5.loadRow _ Tryd.underlying31 rfl infoG)) rfl ⟨_, _, rfl, HR.out.below hbz, hbz⟩
  | cons x r =>
    have e1 : instG G m = { G with imms := r, tables := G.tables ++ [m] } := by simp [instG, hm]
    obtain ⟨i0, hi, hz0, hz1, hz2⟩ := info_parts infoIm
    obtain ⟨j0, hj, hy0, hy1, hy2⟩ := info_parts infoMt
    obtain ⟨n, hn⟩ : ∃ n, r.length = n := ⟨_, rfl⟩
    have hn6 : n + 1 ≤ 1000000 := by have := hs.i; rw [hm] at this; simp at this; omega
    obtain ⟨nt, hnt⟩ : ∃ nt, G.tables.length = nt := ⟨_, rfl⟩
    have hnt6 : nt ≤ 1000000 := by rw [← hnt]; exact hs.t
    have hii := h.i.below hB
    rw [hm] at hii
    have hl1 : (x :: r).length = n + 1 := by simp [hn]
    obtain ⟨N, hNN⟩ : ∃ N, n + 1 = N := ⟨_, rfl⟩
    rw [hNN] at hl1 hn6
    have hN1 : 1 ≤ N := by omega
    have hN2 : ((N : Int) == 0) = false := by simp; omega
    rw [hl1] at hii
    rcases hii.form with ⟨h0, _⟩ | ⟨ib, io, ic, he, hic, _⟩
    · omega
    · subst he
      have htt := h.t.below hB
      rw [hnt] at htt
      have c6 := k1.cell 6 rfl
      have HM := Lib.hid hm
      have HN := Lib.hid hn
      have HNT := Lib.hid hnt
      have HR := Lib.hid h
      have HI := Lib.hid hii
      have HTT := Lib.hid htt
      have HE := Lib.hid e1
      have HZ := Lib.hid hsz
      have HMO := Lib.hid (mts_one G.tables)
      have HNN := Lib.hid hNN
      have HL1 := Lib.hid hl1
      clear h hs hm hn hnt hii htt e1 hl1 hsz hNN
      go_enter Tryd.func23, Tryd.ntmps23
      go_wp2_with fail
      go_loopw [5, 6] (fun s5 s6 wx => ∃ (k : Nat), k + 1 ≤ N ∧ s6 = .int .i64 ((k : Int) + 1) ∧ Row wx 94 2 s5 k (ims (r.take k)) (fun j => W.heap.size ≤ j) ∧ Below W.heap.size W wx) (fun _ s6 _ => N - (intOf s6).toNat)
      case atStart => exact ⟨0, by have := HNN.out; omega, rfl, Row.nil _ _ _ _, Below.refl _ _⟩
      case round =>
        obtain ⟨k, hk, rfl, hrow, hbx⟩ := hrel
        have kx := k1.keep (hbx.block _ k1.lt)
        have c6 := kx.cell 6 (v := .slice (some ⟨ib, io, none⟩) N ic) rfl
        by_cases hlt : k + 1 < N
        · have hkr : k < r.length := by have := HN.out; have := HNN.out; omega
          obtain ⟨a, ha⟩ : ∃ a, r[k]'hkr = a := ⟨_, rfl⟩
          have hb1 : k + 1 < (x :: r).length := by rw [HL1.out]; exact hlt
          have ha2 : (x :: r)[k + 1]'hb1 = a := by simpa using ha
          have y := (HI.out.below hbx).flat (f := Imm.cells) (fun _ => rfl) (k + 1) hb1 HL1.out
          have x0 := y 0 (.int .i64 a.list) (by rw [ha2]; rfl)
          have x1 := y 1 (.int .u64 a.log) (by rw [ha2]; rfl)
          simp only [Nat.add_zero, ← Nat.add_assoc] at x0 x1
          have ht2 : r.take (k + 1) = r.take k ++ [a] := by rw [List.take_succ_eq_append_getElem hkr, ha]
          have e2 : ims (r.take (k + 1)) = ims (r.take k) ++ [.int .i64 a.list, .int .u64 a.log] := by rw [ht2]; simp [ims, Imm.cells]
          have E2 := Lib.hid e2
          have hbs := hbx.size
          have KX := Lib.hid kx
          clear y ha ha2 ht2 e2 kx
          go_wp2_with (at_builtin; refine wpList_append_own_at _ rfl (.tmp 20) (.tmp 26) 28 (by rfl) W.heap.size 94 i0 (.agg #[.int .i64 0, .int .u64 0]) 2 16 Tryd.underlying28 hi hz0 hz1 hz2 rfl (by decide) _ k (ims (r.take k)) (by rfl) (hrow.at_base.alloc _) ⟨wr.heap.size, 0, none⟩ 1 1 [.int .i64 a.list, .int .u64 a.log] (by rfl) rfl (cells_new _ _ (by rfl) _ _) (by simp [Value.oneCell']) (by unfold maxLen; omega) (by omega) (by simp; omega) ?_; intro v6 w6 hown6 hg6 _ hat6)
          go_roundw
          case rel => exact ⟨k + 1, by omega, by go_num, by rw [E2.out]; exact Row.of_owns hown6, (hbx.alloc hbs _).grown hg6 (by simp; omega) hrow.home⟩
          case measure => simp [intOf]; omega
        · have hkn : k = n := by have := HNN.out; omega
          have htk : r.take k = r := List.take_of_length_le (by rw [HN.out, hkn]; exact Nat.le_refl _)
          subst hkn
          rw [htk] at hrow
          have hx2 := k2.keep (hbx.block _ k2.lt)
          have hx3 := k3.keep (hbx.block _ k3.lt)
          obtain ⟨v5, c5, h5⟩ := hrow.slice
          subst h5
          have c9 := kx.cell 9 (v := st) rfl
          have hrow2 := hrow
          have hbs := hbx.size
          have hkN : ((k : Int) + 1 < (N : Int)) = False := by simp; omega
          go_upto_region 10 with (at_builtin; refine wpList_append_reads rfl (.tmp 28) (.tmp 30) 29 (by rfl) wr.heap.size 37 j0 (.agg #[.int .u64 0, .int .u64 0, .string ⟨#[]⟩, .string ⟨#[]⟩]) 4 48 Tryd.underlying29 hj hy0 hy1 hy2 rfl (by decide) (.slice none 0 0) 0 [] (by rfl) (World.ownsRow_nil _ _ _ _) _ nt (mts G.tables) (by rfl) (HTT.out.below hbx) HMO.out (by unfold maxLen; omega) (by omega) (Nat.le_refl _) ?_; intro v7 w7 hown7 hg7 hat7; simp only [Nat.zero_add, List.nil_append] at hown7)
          have r7 := Row.of_owns hown7
          have hB7 : Below wr.heap.size wr w7 := (Below.refl _ wr).grown hg7 (Nat.le_refl _) (fun k e => by cases e)
          have m7 := kx.keep (hB7.block _ kx.lt)
          have n7 := hx2.keep (hB7.block _ hx2.lt)
          have p7 := hx3.keep (hB7.block _ hx3.lt)
          have q7 := hrow2.below hB7
          have f6 := m7.frozen 6
          have c6' := m7.cell 6 (v := .slice (some ⟨ib, io, none⟩) N ic) rfl
          obtain ⟨Wa, hWa⟩ : ∃ Wa, w7.setCell ⟨w.heap.size, 6, none⟩ (.slice v5 k c5) = Wa := ⟨_, rfl⟩
          have m8 := m7.set 6 (.slice v5 k c5)
          have n8 := n7.set_other (a := ⟨w.heap.size, 6, none⟩) (by simp; omega) (.slice v5 k c5)
          have p8 := p7.set_other (a := ⟨w.heap.size, 6, none⟩) (by simp) (.slice v5 k c5)
          have q8 := q7.setCell (a := ⟨w.heap.size, 6, none⟩) (q7.ne_blk m7 (by decide)) (.slice v5 k c5)
          have r8 := r7.setCell (a := ⟨w.heap.size, 6, none⟩) (r7.ne_blk m7 (by decide)) (.slice v5 k c5)
          have hB8 : Below w.heap.size w Wa := by rw [← hWa]; exact ((hB.trans (hbx.mono hB.size)).trans (hB7.mono (by have := hB.size; omega))).setCell (p := ⟨w.heap.size, 6, none⟩) (Nat.le_refl _) _
          rw [hWa] at m8 n8 p8 q8 r8
          have hsW : wr.heap.size ≤ Wa.heap.size := by rw [← hWa]; simpa [World.setCell] using hB7.size
          go_upto_region 11 with fail
          try rw [hWa]
          have f9 := m8.frozen 9
          have c9' := m8.cell 9 (v := st) rfl
          clear hWa m7 n7 p7 q7 r7 hown7 hg7 hat7 c6 c9 c6' f6 hrow hrow2 kx hx2 hx3
          go_upto_region 12 with (first | (refine wpList_load_blk rfl 37 _ rfl (w.heap.size + 1) (by rfl) [.int .u64 m.num, .int .u64 m.size, .string m.least, .string m.most] p8 _ Tryd.underlying37 rfl (by kernel_rfl) ?_) | (at_builtin; refine wpList_append_own_at _ rfl (.tmp 34) (.tmp 36) 29 (by rfl) wr.heap.size 37 j0 (.agg #[.int .u64 0, .int .u64 0, .string ⟨#[]⟩, .string ⟨#[]⟩]) 4 48 Tryd.underlying29 hj hy0 hy1 hy2 rfl (by decide) v7 nt (mts G.tables) (by rfl) (r8.at_base.alloc _) ⟨Wa.heap.size, 0, none⟩ 1 1 (mtC m) (by rfl) rfl (cells_new _ _ (by rfl) _ _) (by intro u hu; simp [mtC] at hu; rcases hu with rfl | rfl | rfl | rfl <;> rfl) (by unfold maxLen; omega) (by omega) (by simp; omega) ?_; intro v9 w9 hown9 hg9 _ hat9; obtain ⟨g9, cp9, rfl⟩ := owns_succ hown9; have m9 := (m8.alloc (.cells (mtC m).toArray 37)).grown hg9 (r8.ne_blk m8 (by decide)); have f9 := m9.frozen 9; have c9 := m9.cell 9 (v := st) rfl))
          have n9 := (n8.alloc (.cells (mtC m).toArray 37)).grown hg9 (r8.ne_blk n8 (by decide))
          have q9 := (q8.alloc (.cells (mtC m).toArray 37)).grown hg9 ((q8.alloc (.cells (mtC m).toArray 37)).ne_row (r8.alloc (.cells (mtC m).toArray 37)) (by decide))
          have r9 := Row.of_owns hown9
          have hB9 : Below w.heap.size w w9 := (hB8.alloc hB8.size _).grown hg9 (by have := hB8.size; simp; omega) (fun j hj => by have := r8.home j hj; have := hB.size; omega)
          have m10 := m9.set 9 (.slice (some ⟨g9, 0, none⟩) (nt + 1) cp9)
          have n10 := n9.set_other (a := ⟨w.heap.size, 9, none⟩) (by simp; omega) (.slice (some ⟨g9, 0, none⟩) (nt + 1) cp9)
          have q10 := q9.setCell (a := ⟨w.heap.size, 9, none⟩) (q9.ne_blk m9 (by decide)) (.slice (some ⟨g9, 0, none⟩) (nt + 1) cp9)
          have r10 := r9.setCell (a := ⟨w.heap.size, 9, none⟩) (r9.ne_blk m9 (by decide)) (.slice (some ⟨g9, 0, none⟩) (nt + 1) cp9)
          have hB10 := hB9.setCell (p := ⟨w.heap.size, 9, none⟩) (Nat.le_refl _) (.slice (some ⟨g9, 0, none⟩) (nt + 1) cp9)
          have hgc : ((gC G sl sd (.slice (some ⟨ib, io, none⟩) N ic) st).set 6 (.slice v5 k c5)).set 9 (.slice (some ⟨g9, 0, none⟩) (nt + 1) cp9) = gC (instG G m) sl sd (.slice v5 k c5) (.slice (some ⟨g9, 0, none⟩) (nt + 1) cp9) := by rw [HE.out]; rfl
          obtain ⟨C, hC⟩ : ∃ C, gC (instG G m) sl sd (.slice v5 k c5) (.slice (some ⟨g9, 0, none⟩) (nt + 1) cp9) = C := ⟨_, rfl⟩
          have hone : ∀ u ∈ C, u.oneCell' = true := by rw [← hC]; exact gC_one _ o1 o2 rfl rfl
          have hCl : C.length = 11 := by rw [← hC]; rfl
          rw [hgc, hC] at m10
          have HC := Lib.hid hC
          have HCL := Lib.hid hCl
          have HONE := Lib.hid hone
          have HIN : Hid ((Tryd.prog.info? 31).map (·.size) = some C.length) := Lib.hid (by rw [hCl]; exact infoG)
          have Q10 := Lib.hid q10
          have R10 := Lib.hid r10
          clear hC hCl hone hgc q10 r10 q9 r9 n9 m9 f9 c9 m8 n8 p8 q8 r8 c9' hg9 hown9 hat9
          go_wp2_with (first | (refine wpList_load_blk rfl 31 _ rfl w.heap.size (by rfl) C m10 _ Tryd.underlying31 rfl HIN.out ?_) | (refine wpList_store_blk rfl 31 _ _ rfl (w.heap.size + 1 + 1) C (by rfl) (by rfl) _ n10 HIN.out (by rw [HCL.out]; rfl) HONE.out ?_))
          have r4 := n10.setRow C
          have hbz := below_setRow hB10 (b := w.heap.size + 1 + 1) (by omega) C.toArray
          refine bodyPost_ret (results_cell_one (P := Tryd.prog) Tryd.results23 rfl (r4.loadRow _ Tryd.underlying31 rfl HIN.out)) rfl ⟨.slice v5 k c5, (.slice (some ⟨g9, 0, none⟩) (nt + 1) cp9), by rw [HC.out], ?_, hbz⟩
          have e5 := (Q10.out.setRow n10 (by decide) C.toArray).reads
          have e6 := (R10.out.setRow n10 (by decide) C.toArray).reads
          rw [HE.out]
          refine ⟨HR.out.l.below hbz, HR.out.d.below hbz, ?_, ?_⟩
          · show Reads _ 2 (.slice v5 k c5) r.length (ims r)
            rw [HN.out]
            exact e5
          · have l1 : (G.tables ++ [m]).length = nt + 1 := by simp [HNT.out]
            have l2 : mts (G.tables ++ [m]) = mts G.tables ++ mtC m := by simp [mts, Meta.cells, mtC]
            show Reads _ 4 (.slice (some ⟨g9, 0, none⟩) (nt + 1) cp9) (G.tables ++ [m]).length (mts (G.tables ++ [m]))
            rw [l1, l2]
            exact e6
end Go.Proofs.YteiaifhnikknbaaDoor
