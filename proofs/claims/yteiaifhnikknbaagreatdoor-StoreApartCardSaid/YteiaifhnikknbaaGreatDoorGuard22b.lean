/- The walks over what is guarded: Keep, Fail, Rotate, Install. -/
import Derived.Test.YteiaifhnikknbaaGreatDoorGuard22

namespace Go.Proofs.YteiaifhnikknbaaGreatDoor
open Go.RowKit

variable {w w' : World} {G : Gd} {sl sd si st : Value} {A B : Nat → Prop}
def keepG (G : Gd) : Int := match G.imms with | [] => G.log | i :: _ => i.log
set_option maxRecDepth 100000 in
set_option maxHeartbeats 1000000 in
theorem keep_any (h : GR w G sl sd si st) (hs : G.imms.length ≤ 1000000) :
    Calls Tryz.prog 32 #[.agg (gC G sl sd si st).toArray] w fun e w' => e = .returned (.int .u64 (keepG G)) ∧ Below w.heap.size w w' := by
  have k1 := Blk.new w 67 (gC G sl sd si st)
  have hB : Below w.heap.size w (w.alloc (.cells (gC G sl sd si st).toArray 67)) := (Below.refl _ _).alloc (Nat.le_refl _) _
  have hi := h.i.below hB
  obtain ⟨W, hW⟩ : ∃ W, w.alloc (.cells (gC G sl sd si st).toArray 67) = W := ⟨_, rfl⟩
  rw [hW] at k1 hB hi
  have a6 := k1.cell 6 rfl
  have a7 := k1.cell 7 rfl
  clear h
  cases hm : G.imms with
  | nil =>
    have e1 : keepG G = G.log := by simp [keepG, hm]
    rw [e1]
    rw [hm] at hi
    obtain ⟨ao, c, e⟩ := hi.slice
    rw [List.length_nil] at e
    subst e
    clear hm e1 hi
    go_enter Tryz.func32, Tryz.ntmps32
    go_wp2
    go_ret
    exact ⟨rfl, hB⟩
  | cons x l =>
    have e1 : keepG G = x.log := by simp [keepG, hm]
    rw [e1]
    rw [hm] at hi hs
    obtain ⟨n, hn⟩ : ∃ n, (x :: l).length = n := ⟨_, rfl⟩
    have hn0 : 0 < n := by rw [← hn]; simp
    rw [hn] at hi hs
    rcases hi.form with ⟨h0, _⟩ | ⟨b, off, c, rfl, hc, hr⟩
    · omega
    · have d1 := hr 1 (.int .u64 x.log) rfl
      clear hm e1 hi hr
      go_enter Tryz.func32, Tryz.ntmps32
      go_wp2
      go_ret
      exact ⟨rfl, hB⟩

def failG (G : Gd) (e : Int) : Gd := if G.bad = 0 then { G with bad := e } else G
theorem cells_new (w : World) (N : Nat) (hN : w.heap.size = N) (cs : List Value) (t : Nat) : ∀ j u, cs[j]? = some u → (w.alloc (.cells cs.toArray t)).cell? ((⟨N, 0, none⟩ : Addr).add j) = some u := by
  subst hN
  intro j u hu
  have := (Blk.new w t cs).cell j hu
  rw [addr_plain, Nat.zero_add]
  exact this
theorem Row.four {e size n b : Nat} {v : Value} {xs cs : List Value} (h : Row w e size v n xs A) (k : Blk w b 67 cs) (hne : 67 ≠ e) (x y z u : Value) : Row ((((w.setCell ⟨b, 6, none⟩ x).setCell ⟨b, 5, none⟩ y).setCell ⟨b, 7, none⟩ z).setCell ⟨b, 8, none⟩ u) e size v n xs A := by
  have hn := h.ne_blk k hne
  exact (((h.setCell (a := ⟨b, 6, none⟩) hn x).setCell (a := ⟨b, 5, none⟩) hn y).setCell (a := ⟨b, 7, none⟩) hn z).setCell (a := ⟨b, 8, none⟩) hn u
def rotG (G : Gd) (log : Int) : Gd := { G with imms := G.imms ++ [⟨G.mem, G.log⟩], mem := wrap64 (G.mem + 1), log := log, next := if G.next < log + 1 then log + 1 else G.next }
set_option maxRecDepth 100000 in
set_option maxHeartbeats 4000000 in
theorem rotate_any (h : GR w G sl sd si st) (hs : G.Small 1000000) (log : Int) (hl0 : 0 ≤ log) (hl1 : log < 18446744073709551615) :
    Calls Tryz.prog 29 #[.agg (gC G sl sd si st).toArray, .int .u64 log] w fun e w' => ∃ sl' sd' si' st', e = .returned (.agg (gC (rotG G log) sl' sd' si' st').toArray) ∧ GH w' (rotG G log) sl' sd' si' st' w.heap.size ∧ Below w.heap.size w w' := by
  obtain ⟨W, hW, k1, k2, hB, hsz⟩ := two_boxes w (gC G sl sd si st) [.slice none 0 0, .slice none 0 0, .int .i64 0, .int .u64 0, .int .i64 0, .int .i64 0, .slice none 0 0, .int .u64 0, .int .u64 0, .slice none 0 0, .bool false] 67 67
  obtain ⟨i0, hi, hz0, hz1, hz2⟩ := info_parts infoIm
  have hown := own_any (h.below hB) hs
  have HOW := Lib.hid hown
  obtain ⟨n, hn⟩ : ∃ n, G.imms.length = n := ⟨_, rfl⟩
  have hn6 : n ≤ 1000000 := by rw [← hn]; exact hs.i
  have HN := Lib.hid hn
  clear hown h hn
  go_enter Tryz.func29, Tryz.ntmps29
  go_upto_region 3 with (first | (refine wpList_load_blk rfl 67 _ rfl w.heap.size (by rfl) (gC G sl sd si st) k1 _ Tryz.underlying67 rfl infoG ?_) | (go_at_call 54; refine HOW.out.mono ?_; rintro e w1 ⟨v1, v2, v3, v4, rfl, hO, hB1⟩; have m1 := k1.keep (hB1.block _ k1.lt); have m2 := k2.keep (hB1.block _ k2.lt); have q1 := m1.setRow (gC G v1 v2 v3 v4); have q2 := m2.setRow_other (b' := w.heap.size) (by omega) (gC G v1 v2 v3 v4).toArray; have ho := Lib.hid (gC_one (sl := v1) (sd := v2) (si := v3) (st := v4) G hO.l.slice_one hO.d.slice_one hO.i.slice_one hO.t.slice_one); have hBq := below_setRow (hB.trans (hB1.mono hB.size)) (b := w.heap.size) (Nat.le_refl _) (gC G v1 v2 v3 v4).toArray; have hOq : GO (w1.setRow w.heap.size (gC G v1 v2 v3 v4).toArray) G v1 v2 v3 v4 (fun k => W.heap.size ≤ k) := hO.keep fun k hk _ => heap_setRow_other _ _ _ (by omega); have hk3 := hOq.i; rw [HN.out] at hk3; have c5 := q1.cell 5 rfl; have c6 := q1.cell 6 rfl; have c7 := q1.cell 7 rfl; have c8 := q1.cell 8 rfl) | (refine wpList_store_blk rfl 67 _ _ rfl w.heap.size (gC G v1 v2 v3 v4) (by rfl) (by rfl) _ m1 infoG rfl ho.out ?_) | (at_builtin; refine wpList_append_own_at _ rfl (.tmp 8) (.tmp 14) 65 (by rfl) W.heap.size 141 i0 (.agg #[.int .i64 0, .int .u64 0]) 2 16 Tryz.underlying65 hi hz0 hz1 hz2 rfl (by decide) v3 n (ims G.imms) (by rfl) (hk3.at_base.alloc _) ⟨w1.heap.size, 0, none⟩ 1 1 [.int .i64 G.mem, .int .u64 G.log] (by rfl) rfl (cells_new _ _ (setRow_size _ _ _) _ _) (by simp [Value.oneCell']) (by unfold maxLen; omega) (by omega) (by have := hB1.size; simp [setRow_size]; omega) ?_; intro v5 w3 hown5 hg5 _ hat5; obtain ⟨g5, cp5, rfl⟩ := owns_succ hown5; have r1 := (q1.alloc (.cells #[.int .i64 G.mem, .int .u64 G.log] 141)).grown hg5 (hk3.ne_blk q1 (by decide)); have r2 := (q2.alloc (.cells #[.int .i64 G.mem, .int .u64 G.log] 141)).grown hg5 (hk3.ne_blk q2 (by decide)); have x6 := r1.cell 6 rfl; have f6 := r1.frozen 6; have s1 := r1.set 6 (.slice (some ⟨g5, 0, none⟩) (n + 1) cp5); have s2 := r2.set_other (a := ⟨w.heap.size, 6, none⟩) (by simp) (.slice (some ⟨g5, 0, none⟩) (n + 1) cp5); have hB5 : Below w.heap.size w w3 := ((hBq.alloc hBq.size (.cells #[.int .i64 G.mem, .int .u64 G.log] 141)).grown hg5 (by have := hBq.size; simp at this ⊢; omega) (fun k h => by have := hk3.home k h; omega)); have u1 := (hOq.l.alloc (.cells #[.int .i64 G.mem, .int .u64 G.log] 141)).grown hg5 (hOq.l.ne_row hk3 (by decide)); have u2 := (hOq.d.alloc (.cells #[.int .i64 G.mem, .int .u64 G.log] 141)).grown hg5 (hOq.d.ne_row hk3 (by decide)); have u4 := (hOq.t.alloc (.cells #[.int .i64 G.mem, .int .u64 G.log] 141)).grown hg5 (hOq.t.ne_row hk3 (by decide)); have u3 := Row.of_owns hown5; clear q1 q2 c5 c6 c7 c8 hown5 hg5 hat5 hk3 hOq hBq ho m1 m2 hO k1 k2))
  have y5 := s1.cell 5 (v := .int .i64 G.mem) rfl
  have y7 := s1.cell 7 (v := .int .u64 G.log) rfl
  have y8 := s1.cell 8 (v := .int .u64 G.next) rfl
  have z5 := s1.frozen 5
  have z7 := s1.frozen 7
  have z8 := s1.frozen 8
  obtain ⟨Wa, hWa⟩ : ∃ Wa, w3.setCell ⟨w.heap.size, 6, none⟩ (.slice (some ⟨g5, 0, none⟩) (n + 1) cp5) = Wa := ⟨_, rfl⟩
  rw [hWa] at y5 y7 y8 z5 z7 z8
  try rw [hWa]
  obtain ⟨gm, hgm⟩ : ∃ gm, G.mem = gm := ⟨_, rfl⟩
  obtain ⟨gn, hgn⟩ : ∃ gn, G.next = gn := ⟨_, rfl⟩
  have hss := s1
  rw [hWa] at hss
  rw [hgm] at y5
  rw [hgn] at y8
  have S1 := Lib.hid s1
  have S2 := Lib.hid s2
  have SS := Lib.hid hss
  clear s1 s2 hss x6 f6 HOW
  obtain ⟨nx, hnx⟩ : ∃ nx, (if gn < log + 1 then log + 1 else gn) = nx := ⟨_, rfl⟩
  have hgc : ((((gC G v1 v2 v3 v4).set 6 (.slice (some ⟨g5, 0, none⟩) (n + 1) cp5)).set 5 (.int .i64 (wrap64 (gm + 1)))).set 7 (.int .u64 log)).set 8 (.int .u64 nx) = gC (rotG G log) v1 v2 (.slice (some ⟨g5, 0, none⟩) (n + 1) cp5) v4 := by
    subst hnx hgm hgn
    rfl
  have T1 := ((SS.out.set 5 (.int .i64 (wrap64 (gm + 1)))).set 7 (.int .u64 log)).set 8 (.int .u64 nx)
  have T2 := S2.out
  rw [hWa] at T2
  replace T2 := ((T2.set_other (a := ⟨w.heap.size, 5, none⟩) (by simp) (.int .i64 (wrap64 (gm + 1)))).set_other (a := ⟨w.heap.size, 7, none⟩) (by simp) (.int .u64 log)).set_other (a := ⟨w.heap.size, 8, none⟩) (by simp) (.int .u64 nx)
  rw [hgc] at T1
  have hone := Lib.hid (gC_one (rotG G log) u1.slice_one u2.slice_one u3.slice_one u4.slice_one)
  have e1 := u1.four r1 (by decide) (.slice (some ⟨g5, 0, none⟩) (n + 1) cp5) (.int .i64 (wrap64 (gm + 1))) (.int .u64 log) (.int .u64 nx)
  have e2 := u2.four r1 (by decide) (.slice (some ⟨g5, 0, none⟩) (n + 1) cp5) (.int .i64 (wrap64 (gm + 1))) (.int .u64 log) (.int .u64 nx)
  have e3 := u3.four r1 (by decide) (.slice (some ⟨g5, 0, none⟩) (n + 1) cp5) (.int .i64 (wrap64 (gm + 1))) (.int .u64 log) (.int .u64 nx)
  have e4 := u4.four r1 (by decide) (.slice (some ⟨g5, 0, none⟩) (n + 1) cp5) (.int .i64 (wrap64 (gm + 1))) (.int .u64 log) (.int .u64 nx)
  rw [hWa] at e1 e2 e3 e4
  have hB6 := hB5.setCell (p := ⟨w.heap.size, 6, none⟩) (Nat.le_refl _) (.slice (some ⟨g5, 0, none⟩) (n + 1) cp5)
  rw [hWa] at hB6
  have hB7 := ((hB6.setCell (p := ⟨w.heap.size, 5, none⟩) (Nat.le_refl _) (.int .i64 (wrap64 (gm + 1)))).setCell (p := ⟨w.heap.size, 7, none⟩) (Nat.le_refl _) (.int .u64 log)).setCell (p := ⟨w.heap.size, 8, none⟩) (Nat.le_refl _) (.int .u64 nx)
  have hfin : GH ((((Wa.setCell ⟨w.heap.size, 5, none⟩ (.int .i64 (wrap64 (gm + 1)))).setCell ⟨w.heap.size, 7, none⟩ (.int .u64 log)).setCell ⟨w.heap.size, 8, none⟩ (.int .u64 nx)).setRow (w.heap.size + 1) (gC (rotG G log) v1 v2 (.slice (some ⟨g5, 0, none⟩) (n + 1) cp5) v4).toArray) (rotG G log) v1 v2 (.slice (some ⟨g5, 0, none⟩) (n + 1) cp5) v4 w.heap.size := by
    refine ⟨⟨(e1.setRow T2 (by decide) _).reads, (e2.setRow T2 (by decide) _).reads, ?_, (e4.setRow T2 (by decide) _).reads⟩, fun k hk => Nat.le_trans hB.size (u1.home k hk), fun k hk => Nat.le_trans hB.size (u2.home k hk), fun k hk => Nat.le_trans hB.size (u3.home k hk), fun k hk => Nat.le_trans hB.size (u4.home k hk)⟩
    have e5 := (e3.setRow T2 (by decide) (gC (rotG G log) v1 v2 (.slice (some ⟨g5, 0, none⟩) (n + 1) cp5) v4).toArray).reads
    have l1 : (rotG G log).imms.length = n + 1 := by simp [rotG, HN.out]
    have l2 : ims (rotG G log).imms = ims G.imms ++ [.int .i64 G.mem, .int .u64 G.log] := by simp [rotG, ims, Imm.cells]
    rw [l1, l2]
    exact e5
  have HF := Lib.hid hfin
  have HX := Lib.hid hnx
  clear hgc e1 e2 e3 e4 u1 u2 u3 u4 r1 r2 hfin hnx SS S1 S2 hB5 hB6 hWa
  have hnx := HX.out
  go_upto_region 4 with fail
  clear hnx y5 y7 y8 z5 z7 z8 hgm hgn HX
  obtain ⟨C, hC⟩ : ∃ C, gC (rotG G log) v1 v2 (.slice (some ⟨g5, 0, none⟩) (n + 1) cp5) v4 = C := ⟨_, rfl⟩
  have hCl : C.length = 11 := by rw [← hC]; rfl
  rw [hC] at T1 hone HF
  have HC := Lib.hid hC
  have HCL := Lib.hid hCl
  have HIN : Hid ((Tryz.prog.info? 67).map (·.size) = some C.length) := Lib.hid (by rw [hCl]; exact infoG)
  clear hC hCl
  obtain ⟨Wz, hWz⟩ : ∃ Wz, ((Wa.setCell ⟨w.heap.size, 5, none⟩ (.int .i64 (wrap64 (gm + 1)))).setCell ⟨w.heap.size, 7, none⟩ (.int .u64 log)).setCell ⟨w.heap.size, 8, none⟩ (.int .u64 nx) = Wz := ⟨_, rfl⟩
  rw [hWz] at T1 T2 HF hB7
  rw [hWz]
  clear hWz
  go_wp2_with (first | (refine wpList_load_blk rfl 67 _ rfl w.heap.size (by rfl) C T1 _ Tryz.underlying67 rfl HIN.out ?_) | (refine wpList_store_blk rfl 67 _ _ rfl (w.heap.size + 1) C (by rfl) (by rfl) _ T2 HIN.out (by rw [HCL.out]; rfl) hone.out ?_))
  have r4 := T2.setRow C
  exact bodyPost_ret (results_cell_one (P := Tryz.prog) Tryz.results29 rfl (r4.loadRow _ Tryz.underlying67 rfl HIN.out)) rfl ⟨v1, v2, .slice (some ⟨g5, 0, none⟩) (n + 1) cp5, v4, by rw [HC.out], HF.out, below_setRow hB7 (by omega) _⟩
end Go.Proofs.YteiaifhnikknbaaGreatDoor
