/- The walks over ratlineref13. -/
import Derived.Test.YtlofgmcbanldnaaNote
import Derived.Test.YtlofgmcbanldnaaAppR
import Derived.Test.YtlofgmcbanldnaaRowOps
namespace Go.Proofs.Ytlofgmcbanldnaa
open Go.RowKit

theorem Row.below {w w' : World} {e size n : Nat} {v : Value} {xs : List Value} {A : Nat → Prop} (h : Row w e size v n xs A) (hb : Below w.heap.size w w') : Row w' e size v n xs A := h.keep fun _ hk => hb.block _ (h.lt hk)
theorem Row.wider {w : World} {e size n : Nat} {v : Value} {xs : List Value} {A B : Nat → Prop} (h : Row w e size v n xs A) (hAB : ∀ k, A k → B k) : Row w e size v n xs B := h.mono fun k _ hk => hAB k hk
theorem Row.of_owns {w : World} {base e size n : Nat} {v : Value} {xs : List Value} (h : w.ownsRow base e size v n xs) : Row w e size v n xs (fun k => base ≤ k) :=
  ⟨⟨h.1, h.2.imp id fun ⟨g, cap, cur, h1, _, h2⟩ => ⟨g, cap, cur, h1, Nat.zero_le _, h2⟩⟩, fun k hk => (h.lt k hk).1⟩
theorem Row.slice_one {w : World} {e size n : Nat} {v : Value} {xs : List Value} {A : Nat → Prop} (h : Row w e size v n xs A) : v.oneCell' = true := by obtain ⟨ao, c, rfl⟩ := h.slice; rfl

/-- The reference's state: its three slices, in blocks of H. -/
structure R13 (w : World) (sa sp st : Value) (pls : List Value) (S : Mem) (H : Nat → Prop) : Prop where
  at_ : Row w 32 1 sa S.atomics.length (u64s S.atomics) H
  pl : Row w 27 1 sp pls.length pls H
  len : pls.length = S.plains.length
  row : ∀ (i : Nat) (v : Value) (b : List UInt8), pls[i]? = some v → S.plains[i]? = some b → Row w 5 1 v b.length (u8s b) H
  tr : Row w 40 3 st S.trace.length (accs S.trace) H

variable {w w' : World} {sa sp st : Value} {pls : List Value} {S : Mem} {H : Nat → Prop}
theorem R13.keep (h : R13 w sa sp st pls S H) (hs : ∀ k, H k → k < w.heap.size → w'.heap[k]? = w.heap[k]?) : R13 w' sa sp st pls S H :=
  ⟨h.at_.keep fun k hk => hs k (h.at_.home k hk) (h.at_.lt hk), h.pl.keep fun k hk => hs k (h.pl.home k hk) (h.pl.lt hk), h.len,
   fun i v b hv hb => (h.row i v b hv hb).keep fun k hk => hs k ((h.row i v b hv hb).home k hk) ((h.row i v b hv hb).lt hk), h.tr.keep fun k hk => hs k (h.tr.home k hk) (h.tr.lt hk)⟩
theorem R13.below (h : R13 w sa sp st pls S H) (hb : Below w.heap.size w w') : R13 w' sa sp st pls S H := h.keep fun k _ hk => hb.block k hk
theorem R13.mono {H' : Nat → Prop} (h : R13 w sa sp st pls S H) (hH : ∀ k, k < w.heap.size → H k → H' k) : R13 w sa sp st pls S H' :=
  ⟨h.at_.mono hH, h.pl.mono hH, h.len, fun i v b hv hb => (h.row i v b hv hb).mono hH, h.tr.mono hH⟩
theorem R13.wider {H' : Nat → Prop} (h : R13 w sa sp st pls S H) (hH : ∀ k, H k → H' k) : R13 w sa sp st pls S H' := h.mono fun k _ hk => hH k hk
theorem R13.noted (h : R13 w sa sp st pls S H) (a : Acc) {st' : Value} (hr : Row w 40 3 st' (S.trace.length + 1) (accs (S.trace ++ [a])) H) : R13 w sa sp st' pls (S.note a) H :=
  ⟨h.at_, h.pl, h.len, h.row, by simpa [Mem.note] using hr⟩
theorem R13.put (h : R13 w sa sp st pls S H) (i x : Int) {sa' : Value} (hr : Row w 32 1 sa' S.atomics.length (u64s (S.put i x).atomics) H) : R13 w sa' sp st pls (S.put i x) H :=
  ⟨by simpa [Mem.put] using hr, h.pl, h.len, h.row, h.tr⟩
theorem R13.slices (h : R13 w sa sp st pls S H) : ∃ aa ca ap cp at' ct, sa = .slice aa S.atomics.length ca ∧ sp = .slice ap S.plains.length cp ∧ st = .slice at' S.trace.length ct := by
  obtain ⟨aa, ca, rfl⟩ := h.at_.slice
  obtain ⟨ap, cp, rfl⟩ := h.pl.slice
  obtain ⟨at', ct, rfl⟩ := h.tr.slice
  exact ⟨aa, ca, ap, cp, at', ct, rfl, by rw [h.len], rfl⟩

set_option maxHeartbeats 1000000 in
theorem rmay_ok (aa ap at' : Option Addr) (n ca m cp k ct : Nat) (t wh a : Int) (h : okNote ⟨List.replicate n 0, List.replicate m [], []⟩ ⟨t, wh, a⟩ = true) :
    Calls Try.prog 37 #[.agg #[.slice aa n ca, .slice ap m cp, .slice at' k ct], .agg #[.int .i64 t, .int .u8 wh, .int .i64 a]] w fun e w' => e = .returned (.bool true) ∧ Below w.heap.size w w' := by
  have h' := of_decide_eq_true h
  simp only [List.length_replicate] at h'
  clear h
  obtain ⟨h1, h2, h3, h4, h5, h6, h7, h8⟩ := h'
  have hq : (wh ≤ 5 ∧ a < n) ∨ (6 ≤ wh ∧ wh ≤ 7 ∧ a < m) ∨ (8 ≤ wh ∧ a = 0) := by omega
  have hB : Below w.heap.size w ((w.alloc (.cells #[.slice aa n ca, .slice ap m cp, .slice at' k ct] 55)).alloc (.cells #[.int .i64 t, .int .u8 wh, .int .i64 a] 40)) := ((Below.refl _ _).alloc (Nat.le_refl _) _).alloc (by simp) _
  clear h6 h7 h8
  rcases hq with ⟨q1, q2⟩ | ⟨q1, q2, q3⟩ | ⟨q1, rfl⟩
  all_goals
    go_enter Try.func37, Try.ntmps37
    go_wp2
    go_ret
    exact ⟨rfl, hB⟩

set_option maxHeartbeats 1000000 in
theorem rmay_no (aa ap at' : Option Addr) (n ca m cp k ct : Nat) (t wh a : Int) (h : okNote ⟨List.replicate n 0, List.replicate m [], []⟩ ⟨t, wh, a⟩ = false) :
    Calls Try.prog 37 #[.agg #[.slice aa n ca, .slice ap m cp, .slice at' k ct], .agg #[.int .i64 t, .int .u8 wh, .int .i64 a]] w fun e w' => e = .returned (.bool false) ∧ Below w.heap.size w w' := by
  have h' := of_decide_eq_false h
  simp only [List.length_replicate] at h'
  clear h
  have hq : t < 0 ∨ (0 ≤ t ∧ 63 < t) ∨ (0 ≤ t ∧ t ≤ 63 ∧ a < 0) ∨ (0 ≤ t ∧ t ≤ 63 ∧ 0 ≤ a ∧ wh < 1) ∨ (0 ≤ t ∧ t ≤ 63 ∧ 0 ≤ a ∧ 1 ≤ wh ∧ 9 < wh) ∨ (0 ≤ t ∧ t ≤ 63 ∧ 0 ≤ a ∧ 1 ≤ wh ∧ wh ≤ 5 ∧ n ≤ a) ∨ (0 ≤ t ∧ t ≤ 63 ∧ 0 ≤ a ∧ 1 ≤ wh ∧ 6 ≤ wh ∧ wh ≤ 7 ∧ m ≤ a) ∨ (0 ≤ t ∧ t ≤ 63 ∧ 0 ≤ a ∧ 1 ≤ wh ∧ 8 ≤ wh ∧ wh ≤ 9 ∧ ¬ a = 0) := by omega
  have hB : Below w.heap.size w ((w.alloc (.cells #[.slice aa n ca, .slice ap m cp, .slice at' k ct] 55)).alloc (.cells #[.int .i64 t, .int .u8 wh, .int .i64 a] 40)) := ((Below.refl _ _).alloc (Nat.le_refl _) _).alloc (by simp) _
  clear h'
  rcases hq with q | ⟨q, q1⟩ | ⟨q, q1, q2⟩ | ⟨q, q1, q2, q3⟩ | ⟨q, q1, q2, q3, q4⟩ | ⟨q, q1, q2, q3, q4, q5⟩ | ⟨q, q1, q2, q3, q4, q5, q6⟩ | ⟨q, q1, q2, q3, q4, q5, q6⟩
  all_goals
    go_enter Try.func37, Try.ntmps37
    go_wp2
    go_ret
    first | exact ⟨rfl, hB⟩ | exact ⟨by simp; omega, hB⟩

theorem okNote_len (S : Mem) (a : Acc) : okNote ⟨List.replicate S.atomics.length 0, List.replicate S.plains.length [], []⟩ a = okNote S a := by simp [okNote]
theorem info13 : (Try.prog.info? 55).map (·.size) = some 3 := by kernel_rfl

theorem rmay_t (h : R13 w sa sp st pls S H) (a : Acc) (hok : okNote S a = true) (w1 : World) :
    Calls Try.prog 37 #[.agg #[sa, sp, st], .agg #[.int .i64 a.task, .int .u8 a.what, .int .i64 a.at_]] w1 fun e w' => e = .returned (.bool true) ∧ Below w1.heap.size w1 w' := by
  obtain ⟨aa, ca, ap, cp, at', ct, rfl, rfl, rfl⟩ := h.slices
  exact rmay_ok (w := w1) aa ap at' S.atomics.length ca S.plains.length cp S.trace.length ct a.task a.what a.at_ (by rw [okNote_len]; exact hok)
theorem rmay_f (h : R13 w sa sp st pls S H) (a : Acc) (hok : okNote S a = false) (w1 : World) :
    Calls Try.prog 37 #[.agg #[sa, sp, st], .agg #[.int .i64 a.task, .int .u8 a.what, .int .i64 a.at_]] w1 fun e w' => e = .returned (.bool false) ∧ Below w1.heap.size w1 w' := by
  obtain ⟨aa, ca, ap, cp, at', ct, rfl, rfl, rfl⟩ := h.slices
  exact rmay_no (w := w1) aa ap at' S.atomics.length ca S.plains.length cp S.trace.length ct a.task a.what a.at_ (by rw [okNote_len]; exact hok)
theorem ones3 {a b c : Value} (ha : a.oneCell' = true) (hb : b.oneCell' = true) (hc : c.oneCell' = true) : ∀ u ∈ [a, b, c], u.oneCell' = true := by
  intro u hu
  simp at hu
  rcases hu with rfl | rfl | rfl
  · exact ha
  · exact hb
  · exact hc
theorem R13.ones (h : R13 w sa sp st pls S H) : ∀ u ∈ [sa, sp, st], u.oneCell' = true := by
  intro u hu
  simp at hu
  rcases hu with rfl | rfl | rfl
  · exact h.at_.slice_one
  · exact h.pl.slice_one
  · exact h.tr.slice_one

set_option maxRecDepth 100000 in
set_option maxHeartbeats 1000000 in
theorem rnote_ok (h : R13 w sa sp st pls S H) (hn : S.trace.length < trMax) (a : Acc) (hok : okNote S a = true) :
    Calls Try.prog 26 #[.agg #[sa, sp, st], .agg #[.int .i64 a.task, .int .u8 a.what, .int .i64 a.at_]] w fun e w' => ∃ st', e = .returned (.tuple #[.agg #[sa, sp, st'], .int .i64 0]) ∧ R13 w' sa sp st' pls (S.note a) (fun k => H k ∨ w.heap.size ≤ k) ∧ Below w.heap.size w w' := by
  obtain ⟨i0, hi, hz0, hz1, hz2⟩ := info_parts infoAcc
  obtain ⟨W, hW, k1, k2, k3, hB, hs⟩ := three_boxes w [sa, sp, st] [.int .i64 a.task, .int .u8 a.what, .int .i64 a.at_] [.slice none 0 0, .slice none 0 0, .slice none 0 0] 55 40 55
  have hmay := rmay_t h a hok W
  obtain ⟨k, hk'⟩ : ∃ k, S.trace.length = k := ⟨_, rfl⟩
  have HR := Lib.hid h
  have hr := h.tr.reads
  rw [hk'] at hn hr
  have HK := Lib.hid hk'
  have HRD := Lib.hid hr
  unfold trMax at hn
  have c0 := k1.cell 0 rfl
  have c1 := k1.cell 1 rfl
  have c2 := k1.cell 2 rfl
  have d0 := k2.cell 0 rfl
  have d1 := k2.cell 1 rfl
  have d2 := k2.cell 2 rfl
  clear hk' h hok hr
  go_enter Try.func26, Try.ntmps26
  go_wp2_with (first | (go_at_call 37; refine hmay.mono ?_; rintro e w1 ⟨rfl, hB1⟩; have m1 := k1.keep (hB1.block _ k1.lt); have m2 := k2.keep (hB1.block _ k2.lt); have m3 := k3.keep (hB1.block _ k3.lt); have e2 := m1.cell 2 rfl; have g0 := m2.cell 0 rfl; have g1 := m2.cell 1 rfl; have g2' := m2.cell 2 rfl; have hr := (HRD.out.below (hB.trans (hB1.mono hB.size))); have own0 : w1.ownsRow w.heap.size 40 3 (.slice none 0 0) 0 [] := World.ownsRow_nil _ _ _ _; have hb0 : w.heap.size ≤ w1.heap.size := by have := hB1.size; omega) | (at_builtin; refine wpList_append_reads rfl (.tmp 12) (.tmp 14) 47 (by rfl) w.heap.size 40 i0 (.agg #[.int .i64 0, .int .u8 0, .int .i64 0]) 3 24 Try.underlying47 hi hz0 hz1 hz2 rfl (by decide) (.slice none 0 0) 0 [] (by rfl) own0 st k (accs S.trace) (by rfl) hr (accs_one S.trace) (by unfold maxLen; omega) (by omega) hb0 ?_; intro v1 w2 hown1 hg1 hat1; have hb1 : w.heap.size ≤ w2.heap.size := Nat.le_trans hb0 hg1.size; rw [Nat.zero_add, List.nil_append] at hown1; have n2 := m2.grown hg1 (by simp [Value.ownBlock]); have p0 := n2.cell 0 rfl; have p1 := n2.cell 1 rfl; have p2 := n2.cell 2 rfl) | (at_builtin; refine wpList_append_own_at _ rfl (.tmp 16) (.tmp 18) 47 (by rfl) w.heap.size 40 i0 (.agg #[.int .i64 0, .int .u8 0, .int .i64 0]) 3 24 Try.underlying47 hi hz0 hz1 hz2 rfl (by decide) v1 k (accs S.trace) (by rfl) (hown1.alloc _) ⟨w2.heap.size, 0, none⟩ 1 1 a.cells (by rfl) rfl (cells_three w2 _ _ _ _) (by simp [Acc.cells, Value.oneCell']) (by unfold maxLen; omega) (by omega) (by simp; omega) ?_; intro v2 w3 hown2 hg2 _ hat2; obtain ⟨g3, cp3, rfl⟩ := owns_succ hown2; have hb2 := two_appends hg1 hat1 hg2; have q1 := m1.keep (hb2.block _ m1.lt); have q3 := m3.keep (hb2.block _ m3.lt); have r1 := q1.set 2 (.slice (some ⟨g3, 0, none⟩) (k + 1) cp3); have r3 := q3.set_other (a := ⟨w.heap.size, 2, none⟩) (by simp; omega) (.slice (some ⟨g3, 0, none⟩) (k + 1) cp3); have j2 := q1.cell 2 rfl; have f2 := q1.frozen 2) | (refine wpList_load_blk rfl 55 _ rfl w.heap.size (by rfl) [sa, sp, st] k1 _ Try.underlying55 rfl info13 ?_) | (refine wpList_load_blk rfl 55 _ rfl w.heap.size (by rfl) [sa, sp, .slice (some ⟨g3, 0, none⟩) (k + 1) cp3] r1 _ Try.underlying55 rfl info13 ?_) | (refine wpList_store_blk rfl 55 _ _ rfl (w.heap.size + 1 + 1) [sa, sp, .slice (some ⟨g3, 0, none⟩) (k + 1) cp3] (by rfl) (by rfl) _ r3 info13 rfl (ones3 HR.out.at_.slice_one HR.out.pl.slice_one rfl) ?_))
  have r4 := r3.setRow [sa, sp, .slice (some ⟨g3, 0, none⟩) (k + 1) cp3]
  have hBz := (hB.trans (hB1.mono hB.size)).trans (hb2.mono (by have := hB1.size; omega))
  have hBe := below_setRow (hBz.setCell (p := ⟨w.heap.size, 2, none⟩) (Nat.le_refl _) (.slice (some ⟨g3, 0, none⟩) (k + 1) cp3)) (b := w.heap.size + 1 + 1) (by omega) #[sa, sp, .slice (some ⟨g3, 0, none⟩) (k + 1) cp3]
  refine bodyPost_ret (results_cell_tmp (P := Try.prog) Try.results26 rfl (r4.loadRow _ Try.underlying55 rfl info13) _ rfl) rfl ⟨_, rfl, ?_, hBe⟩
  refine ((HR.out.below hBe).wider fun k h => .inl h).noted a ?_
  rw [HK.out, accs_append]
  have s1 := (Row.of_owns hown2).setCell (a := ⟨w.heap.size, 2, none⟩) ((Row.of_owns hown2).ne_blk q1 (by decide)) (.slice (some ⟨g3, 0, none⟩) (k + 1) cp3)
  have s2 := s1.setRow r3 (by decide) #[sa, sp, .slice (some ⟨g3, 0, none⟩) (k + 1) cp3]
  exact s2.wider fun k h => .inr h
end Go.Proofs.Ytlofgmcbanldnaa
