/- The walks over ratlineref14. -/
import Derived.Test.YtncfbccihofaoaaSt14
namespace Go.Proofs.Ytncfbccihofaoaa
open Go.RowKit Go.Maps

variable {w : World} {L : Lk} {tv : Value} {tr : List Acc} {H : Nat → Prop}

/-- The state's box, and the result's. -/
theorem two_boxes (w : World) (C Z : List Value) (t : Nat) : ∃ W, (w.alloc (.cells C.toArray t)).alloc (.cells Z.toArray t) = W ∧ Blk W w.heap.size t C ∧ Blk W (w.heap.size + 1) t Z ∧ Below w.heap.size w W ∧ W.heap.size = w.heap.size + 2 :=
  ⟨_, rfl, (Blk.new w t C).alloc _, by have := Blk.new (w.alloc (.cells C.toArray t)) t Z; simpa using this, (((Below.refl _ _).alloc (Nat.le_refl _) _).alloc (by simp) _), by simp⟩
theorem Row.below {w' : World} {e size n : Nat} {v : Value} {xs : List Value} {A : Nat → Prop} (h : Row w e size v n xs A) (hb : Below w.heap.size w w') : Row w' e size v n xs A := h.keep fun _ hk => hb.block _ (h.lt hk)
theorem Row.slice_one {e size n : Nat} {v : Value} {xs : List Value} {A : Nat → Prop} (h : Row w e size v n xs A) : v.oneCell' = true := by obtain ⟨ao, c, rfl⟩ := h.slice; rfl

theorem two_appends {W w1 w2 : World} {v1 : Value} {o : Obj} (hg1 : W.grownBy w1 (Value.slice none 0 0).ownBlock) (hat1 : v1.ownBlock = (Value.slice none 0 0).ownBlock ∨ v1.ownBlock = some W.heap.size) (hg2 : (w1.alloc o).grownBy w2 v1.ownBlock) : Below W.heap.size W w2 := by
  have h1 : Below W.heap.size W w1 := (Below.refl _ W).grown hg1 (Nat.le_refl _) (fun k h => by cases h)
  refine (h1.alloc h1.size o).grown hg2 ?_ ?_
  · have := h1.size; simp; omega
  · intro k hk
    rcases hat1 with h | h
    · rw [h] at hk; cases hk
    · rw [h] at hk; cases hk; exact Nat.le_refl _

theorem Row.of_owns {base e size n : Nat} {v : Value} {xs : List Value} (h : w.ownsRow base e size v n xs) : Row w e size v n xs (fun k => base ≤ k) :=
  ⟨⟨h.1, h.2.imp id fun ⟨g, cap, cur, h1, _, h2⟩ => ⟨g, cap, cur, h1, Nat.zero_le _, h2⟩⟩, fun k hk => (h.lt k hk).1⟩
theorem Row.setRow {e size n : Nat} {v : Value} {xs : List Value} {A : Nat → Prop} (h : Row w e size v n xs A) {b t : Nat} {cs : List Value} (hb : Blk w b t cs) (hne : t ≠ e) (ds : Array Value) : Row (w.setRow b ds) e size v n xs A :=
  h.keep fun k hk => heap_setRow_other _ _ _ (fun e0 => h.ne_blk hb hne (e0 ▸ hk))
theorem below_setRow {B : Nat} {a w : World} (h : Below B a w) {b : Nat} (hb : B ≤ b) (c : Array Value) : Below B a (w.setRow b c) :=
  ⟨h.os, h.tape, h.output, by rw [setRow_size]; exact h.size, fun k hk => (heap_setRow_other w b c (by omega)).trans (h.block k hk)⟩

set_option maxRecDepth 100000 in
set_option maxHeartbeats 1000000 in
theorem rnoted (hR : Row w 38 3 tv tr.length (accs tr) H) (hn : tr.length < trMax) (task what : Int) :
    Calls Try.prog 34 #[.agg (stC L tv).toArray, .int .i64 task, .int .u8 what] w fun e w' => ∃ tv', e = .returned (.agg (stC L tv').toArray) ∧ Row w' 38 3 tv' (tr.length + 1) (accs (tr ++ [⟨task, what, 0⟩])) (fun k => w.heap.size ≤ k) ∧ Below w.heap.size w w' := by
  obtain ⟨Z, hZl, hz⟩ := zeroSt
  obtain ⟨i0, hi, hz0, hz1, hz2⟩ := info_parts infoAcc
  have hl := stC_len L tv
  have h67 := stC_tr L tv
  have hset := fun tv' => stC_set67 L tv tv'
  have hlen' := fun tv' => stC_len L tv'
  have hone' := fun tv' => stC_one L tv'
  obtain ⟨C, hC⟩ : ∃ C, stC L tv = C := ⟨_, rfl⟩
  rw [hC] at hl h67 hset
  rw [hC]
  clear hC
  obtain ⟨W, hW, k1, k2, hB, hs⟩ := two_boxes w C Z 47
  have hr := hR.reads.below hB
  have c67 := k1.cell 67 h67
  have hLE := Lib.hid hlen'
  have hSE := Lib.hid hset
  have hOE := Lib.hid hone'
  have hZ := Lib.hid hZl
  have hl' := Lib.hid hl
  have hl67 := Lib.hid h67
  unfold trMax at hn
  clear hlen' hset hone' hZl hl h67
  go_enter Try.func34, Try.ntmps34
  go_upto_region 1 with fail
  clear hz
  have own0 : W.ownsRow w.heap.size 38 3 (.slice none 0 0) 0 [] := World.ownsRow_nil _ _ _ _
  obtain ⟨n, hn'⟩ : ∃ n, tr.length = n := ⟨_, rfl⟩
  have hN := Lib.hid hn'
  rw [hn'] at hr hn
  clear hn' hR hW
  have hb0 : w.heap.size ≤ W.heap.size := hB.size
  go_wp2_with (first | (at_builtin; refine wpList_append_reads rfl (.tmp 8) (.tmp 10) 29 (by rfl) w.heap.size 38 i0 (.agg #[.int .i64 0, .int .u8 0, .int .i64 0]) 3 24 Try.underlying29 hi hz0 hz1 hz2 rfl (by decide) (.slice none 0 0) 0 [] (by rfl) own0 tv n (accs tr) (by rfl) hr (accs_one tr) (by unfold maxLen; omega) (by omega) hb0 ?_; intro v1 w1 hown1 hg1 hat1; have hb1 : w.heap.size ≤ w1.heap.size := Nat.le_trans hb0 hg1.size; rw [Nat.zero_add, List.nil_append] at hown1) | (at_builtin; refine wpList_append_own_at _ rfl (.tmp 12) (.tmp 16) 29 (by rfl) w.heap.size 38 i0 (.agg #[.int .i64 0, .int .u8 0, .int .i64 0]) 3 24 Try.underlying29 hi hz0 hz1 hz2 rfl (by decide) v1 n (accs tr) (by rfl) (hown1.alloc _) ⟨w1.heap.size, 0, none⟩ 1 1 [.int .i64 task, .int .u8 what, .int .i64 0] (by rfl) rfl (cells_three w1 _ _ _ _) (by simp [Value.oneCell']) (by unfold maxLen; omega) (by omega) (by simp; omega) ?_; intro v2 w2 hown2 hg2 _ hat2; obtain ⟨g2, cp2, rfl⟩ := owns_succ hown2; have hb2 := two_appends hg1 hat1 hg2; have m1 := k1.keep (hb2.block _ k1.lt); have m2 := k2.keep (hb2.block _ k2.lt); have n1 := m1.set 67 (.slice (some ⟨g2, 0, none⟩) (n + 1) cp2); rw [hSE.out] at n1; have n2 := m2.set_other (a := ⟨w.heap.size, 67, none⟩) (by simp) (.slice (some ⟨g2, 0, none⟩) (n + 1) cp2); have c2 := m1.cell 67 hl67.out; have f2 := m1.frozen 67) | (refine wpList_load_row rfl 47 (.tmp 3) (by rfl) w.heap.size (by rfl) 47 (stC L (.slice (some ⟨g2, 0, none⟩) (n + 1) cp2)).toArray (0, 0) _ n1 Try.underlying47 rfl (sizeSt _ (hLE.out _)) ?_) | (refine wpList_store_row rfl 47 (.tmp 6) (.tmp 19) (by rfl) (w.heap.size + 1) (stC L (.slice (some ⟨g2, 0, none⟩) (n + 1) cp2)).toArray (by rfl) (by rfl) 47 Z.toArray n2 (sizeSt _ (hLE.out _)) (by simp [hZ.out, hLE.out]) (all_oneCell_toArray (hOE.out _ rfl)) ?_))
  have n3 := n2.setRow (stC L (.slice (some ⟨g2, 0, none⟩) (n + 1) cp2))
  refine bodyPost_ret (results_cell_row (P := Try.prog) Try.results34 _ _ (w.heap.size + 1) 47 (stC L (.slice (some ⟨g2, 0, none⟩) (n + 1) cp2)).toArray (0, 0) _ rfl n3 Try.underlying47 rfl (sizeSt _ (hLE.out _))) rfl ⟨_, rfl, ?_, ?_⟩
  · rw [hN.out, accs_append]
    exact ((Row.of_owns hown2).setCell (a := ⟨w.heap.size, 67, none⟩) ((Row.of_owns hown2).ne_blk m1 (by decide)) _).setRow n2 (by decide) _
  · exact below_setRow ((hB.trans (hb2.mono hB.size)).setCell (p := ⟨w.heap.size, 67, none⟩) (Nat.le_refl _) _) (by omega) _

structure Good (L : Lk) : Prop where
  at_ : ∀ i c, L.sl i = some c → 0 ≤ c ∧ c ≤ 1000
theorem Good.pos {L : Lk} (h : Good L) (i : Nat) : 0 ≤ svI (L.sl i) ∧ svI (L.sl i) ≤ 1001 ∧ ((L.sl i).isSome = true ↔ 0 < svI (L.sl i)) := by
  cases hs : L.sl i with
  | none => simp [svI]
  | some c => have := h.at_ i c hs; simp [svI]; omega
theorem Row.wider {e size n : Nat} {v : Value} {xs : List Value} {A B : Nat → Prop} (h : Row w e size v n xs A) (hAB : ∀ k, A k → B k) : Row w e size v n xs B := h.mono fun k _ hk => hAB k hk

set_option maxRecDepth 100000 in
set_option maxHeartbeats 2000000 in
theorem rlock (hR : Row w 38 3 tv tr.length (accs tr) H) (hn : tr.length < trMax) (hg : Good L) (t : Int) :
    Calls Try.prog 18 #[.agg (stC L tv).toArray, .int .i64 t] w fun e w' => ∃ tv', e = .returned (.tuple #[.agg (stC (lockL L t) tv').toArray, .int .i64 (lockE L t)]) ∧ Row w' 38 3 tv' (tr ++ lockN L t).length (accs (tr ++ lockN L t)) (fun k => H k ∨ w.heap.size ≤ k) ∧ Below w.heap.size w w' := by
  have hset := stC_held L tv true t
  obtain ⟨Z, hZl, hz⟩ := zeroSt
  have hl := stC_len L tv
  have ho := stC_one L tv hR.slice_one
  have h0 : (stC L tv)[0]? = some (.int .i64 L.conds) := rfl
  have h1 : (stC L tv)[1]? = some (.bool L.held) := rfl
  have h2 : (stC L tv)[2]? = some (.int .i64 L.holder) := rfl
  have hsl := fun i h => stC_sl L tv i h
  obtain ⟨C, hC⟩ : ∃ C, stC L tv = C := ⟨_, rfl⟩
  rw [hC] at hset hl h0 h1 h2 hsl ho
  obtain ⟨W, hW, k1, k2, hB, hs⟩ := two_boxes w C Z 47
  have hrow : Row W 38 3 tv tr.length (accs tr) (fun k => H k ∨ w.heap.size ≤ k) := (hR.below hB).wider fun k h => .inl h
  have c0 := k1.cell 0 h0
  have c1 := k1.cell 1 h1
  have c2 := k1.cell 2 h2
  have f1 := k1.frozen 1
  have f2 := k1.frozen 2
  have hC' := Lib.hid hC
  rw [hC]
  have HZ := Lib.hid hZl
  have HL := Lib.hid hl
  have HO := Lib.hid ho
  have HSL := Lib.hid hsl
  clear hZl hl h0 h1 h2 ho hC hsl
  have HS := Lib.hid hset
  clear hset
  by_cases ht : 0 ≤ t ∧ t < 64
  · have csl := k1.cell _ (HSL.out t.toNat (by omega))
    have hp := hg.pos t.toNat
    obtain ⟨sv, hsv⟩ : ∃ sv, svI (L.sl t.toNat) = sv := ⟨_, rfl⟩
    rw [hsv] at csl hp
    cases hss : L.sl t.toNat with
    | some c =>
      have e1 : lockE L t = 142 := by simp [lockE, ht, hss]
      have e2 : lockL L t = L := by simp [lockL, e1]
      have e3 : lockN L t = [] := by simp [lockN, e1]
      have hpos : 0 < sv := hp.2.2.1 (by rw [hss]; rfl)
      obtain ⟨ht0, ht1⟩ := ht
      rw [e1, e2, e3, List.append_nil]
      clear e1 e2 e3 hp hsv hss
      go_enter Try.func18, Try.ntmps18
      go_wp2_with (first | (refine wpList_load_row rfl 47 _ rfl (w.heap.size) (by rfl) 47 C.toArray (0, 0) _ k1 Try.underlying47 rfl (sizeSt _ (HL.out)) ?_) | (refine wpList_store_row rfl 47 _ _ rfl (w.heap.size + 1) C.toArray (by rfl) (by rfl) 47 Z.toArray k2 (sizeSt _ (HL.out)) (by simp [HZ.out, HL.out]) (all_oneCell_toArray (HO.out)) ?_))
      exact bodyPost_ret (results_cell_tmp (P := Try.prog) Try.results18 rfl ((k2.setRow C).load HL.out) _ rfl) rfl ⟨tv, by rw [hC'.out]; rfl, hrow.setRow k2 (by decide) _, below_setRow hB (by omega) _⟩
    | none =>
      obtain rfl : sv = 0 := by rw [← hsv, hss]; rfl
      cases hh : L.held with
      | true =>
        rw [hh] at c1
        have e1 : lockE L t = 140 := by simp [lockE, ht, hss, hh]
        have e2 : lockL L t = L := by simp [lockL, e1]
        have e3 : lockN L t = [] := by simp [lockN, e1]
        obtain ⟨ht0, ht1⟩ := ht
        rw [e1, e2, e3, List.append_nil]
        clear e1 e2 e3 hp hsv hss hh
        go_enter Try.func18, Try.ntmps18
        go_wp2_with (first | (refine wpList_load_row rfl 47 _ rfl (w.heap.size) (by rfl) 47 C.toArray (0, 0) _ k1 Try.underlying47 rfl (sizeSt _ (HL.out)) ?_) | (refine wpList_store_row rfl 47 _ _ rfl (w.heap.size + 1) C.toArray (by rfl) (by rfl) 47 Z.toArray k2 (sizeSt _ (HL.out)) (by simp [HZ.out, HL.out]) (all_oneCell_toArray (HO.out)) ?_))
        exact bodyPost_ret (results_cell_tmp (P := Try.prog) Try.results18 rfl ((k2.setRow C).load HL.out) _ rfl) rfl ⟨tv, by rw [hC'.out]; rfl, hrow.setRow k2 (by decide) _, below_setRow hB (by omega) _⟩
      | false =>
        rw [hh] at c1
        have e1 : lockE L t = 0 := by simp [lockE, ht, hss, hh]
        have e2 : lockL L t = { L with held := true, holder := t } := by simp [lockL, e1]
        have e3 : lockN L t = [⟨t, 8, 0⟩] := by simp [lockN, e1]
        obtain ⟨ht0, ht1⟩ := ht
        rw [e1, e2, e3]
        clear e1 e2 e3 hp hsv hss hh
        have n1 := (k1.set 1 (.bool true)).set 2 (.int .i64 t)
        rw [HS.out] at n1
        have n2 := (k2.set_other (a := ⟨w.heap.size, 1, none⟩) (by simp) (.bool true)).set_other (a := ⟨w.heap.size, 2, none⟩) (by simp) (.int .i64 t)
        have nR := ((hR.below hB).setCell (a := ⟨w.heap.size, 1, none⟩) ((hR.below hB).ne_blk k1 (by decide)) (.bool true)).setCell (a := ⟨w.heap.size, 2, none⟩) ((hR.below hB).ne_blk k1 (by decide)) (.int .i64 t)
        have nB : Below w.heap.size w ((W.setCell ⟨w.heap.size, 1, none⟩ (.bool true)).setCell ⟨w.heap.size, 2, none⟩ (.int .i64 t)) := (hB.setCell (p := ⟨w.heap.size, 1, none⟩) (Nat.le_refl _) _).setCell (p := ⟨w.heap.size, 2, none⟩) (Nat.le_refl _) _
        obtain ⟨C2, hC2⟩ : ∃ C2, stC { L with held := true, holder := t } tv = C2 := ⟨_, rfl⟩
        have hnot := rnoted (L := { L with held := true, holder := t }) nR hn t 8
        rw [hC2] at n1 hnot
        have HL2 : Hid (C2.length = 68) := Lib.hid (by rw [← hC2]; exact stC_len _ _)
        clear hC2 hn
        go_enter Try.func18, Try.ntmps18
        go_wp2_with (first | (refine wpList_load_row rfl 47 _ rfl (w.heap.size) (by rfl) 47 C2.toArray (0, 0) _ n1 Try.underlying47 rfl (sizeSt _ (HL2.out)) ?_) | (go_at_call 34; refine hnot.mono ?_; rintro e w2 ⟨tv2, rfl, hr2, hb2⟩; have n22 := n2.keep (hb2.block _ n2.lt)) | (refine wpList_store_row rfl 47 _ _ rfl (w.heap.size + 1) (stC { L with held := true, holder := t } tv2).toArray (by rfl) (by rfl) 47 Z.toArray n22 (sizeSt _ (stC_len _ _)) (by simp [HZ.out, stC_len _ _]) (all_oneCell_toArray (stC_one _ _ hr2.slice_one)) ?_))
        refine bodyPost_ret (results_cell_tmp (P := Try.prog) Try.results18 rfl ((n22.setRow _).load (stC_len _ _)) _ rfl) rfl ⟨tv2, rfl, ?_, below_setRow (nB.trans (hb2.mono nB.size)) (by omega) _⟩
        have := hr2.setRow n22 (by decide) (stC { L with held := true, holder := t } tv2).toArray
        rw [List.length_append]
        exact this.wider fun k h => .inr (Nat.le_trans (by have := nB.size; omega) h)
  · have e1 : lockE L t = 2 := by simp [lockE, ht]
    have e2 : lockL L t = L := by simp [lockL, e1]
    have e3 : lockN L t = [] := by simp [lockN, e1]
    rw [e1, e2, e3, List.append_nil]
    clear e1 e2 e3
    have ht' : t < 0 ∨ 0 ≤ t ∧ 63 < t := by omega
    clear ht
    rcases ht' with h | ⟨h, h'⟩
    all_goals
      go_enter Try.func18, Try.ntmps18
      go_wp2_with (first | (refine wpList_load_row rfl 47 _ rfl (w.heap.size) (by rfl) 47 C.toArray (0, 0) _ k1 Try.underlying47 rfl (sizeSt _ (HL.out)) ?_) | (refine wpList_store_row rfl 47 _ _ rfl (w.heap.size + 1) C.toArray (by rfl) (by rfl) 47 Z.toArray k2 (sizeSt _ (HL.out)) (by simp [HZ.out, HL.out]) (all_oneCell_toArray (HO.out)) ?_))
      exact bodyPost_ret (results_cell_tmp (P := Try.prog) Try.results18 rfl ((k2.setRow C).load HL.out) _ rfl) rfl ⟨tv, by rw [hC'.out]; rfl, hrow.setRow k2 (by decide) _, below_setRow hB (by omega) _⟩

set_option maxRecDepth 100000 in
set_option maxHeartbeats 2000000 in
theorem runlock (hR : Row w 38 3 tv tr.length (accs tr) H) (hn : tr.length < trMax) (hc0 : 0 ≤ L.conds) (t : Int) :
    Calls Try.prog 20 #[.agg (stC L tv).toArray, .int .i64 t] w fun e w' => ∃ tv', e = .returned (.tuple #[.agg (stC (unlockL L t) tv').toArray, .int .i64 (holdsE L t 0)]) ∧ Row w' 38 3 tv' (tr ++ unlockN L t).length (accs (tr ++ unlockN L t)) (fun k => H k ∨ w.heap.size ≤ k) ∧ Below w.heap.size w w' := by
  have hset := stC_held L tv false 0
  obtain ⟨Z, hZl, hz⟩ := zeroSt
  have hl := stC_len L tv
  have ho := stC_one L tv hR.slice_one
  have h0 : (stC L tv)[0]? = some (.int .i64 L.conds) := rfl
  have h1 : (stC L tv)[1]? = some (.bool L.held) := rfl
  have h2 : (stC L tv)[2]? = some (.int .i64 L.holder) := rfl
  have hsl := fun i h => stC_sl L tv i h
  obtain ⟨C, hC⟩ : ∃ C, stC L tv = C := ⟨_, rfl⟩
  rw [hC] at hset hl h0 h1 h2 hsl ho
  obtain ⟨W, hW, k1, k2, hB, hs⟩ := two_boxes w C Z 47
  have hrow : Row W 38 3 tv tr.length (accs tr) (fun k => H k ∨ w.heap.size ≤ k) := (hR.below hB).wider fun k h => .inl h
  have c0 := k1.cell 0 h0
  have c1 := k1.cell 1 h1
  have c2 := k1.cell 2 h2
  have f1 := k1.frozen 1
  have f2 := k1.frozen 2
  have hC' := Lib.hid hC
  rw [hC]
  have HZ := Lib.hid hZl
  have HL := Lib.hid hl
  have HO := Lib.hid ho
  have HSL := Lib.hid hsl
  clear hZl hl h0 h1 h2 ho hC hsl
  have HS := Lib.hid hset
  clear hset
  by_cases ht : 0 ≤ t ∧ t < 64
  · cases hh : L.held with
    | false =>
      rw [hh] at c1
      have e1 : holdsE L t 0 = 141 := by simp only [holdsE, hh]; rw [if_neg (by omega)]; simp
      have e2 : unlockL L t = L := by simp [unlockL, e1]
      have e3 : unlockN L t = [] := by simp [unlockN, e1]
      obtain ⟨ht0, ht1⟩ := ht
      rw [e1, e2, e3, List.append_nil]
      clear e1 e2 e3 hh
      go_enter Try.func20, Try.ntmps20
      go_wp2_with (first | (refine wpList_load_row rfl 47 _ rfl (w.heap.size) (by rfl) 47 C.toArray (0, 0) _ k1 Try.underlying47 rfl (sizeSt _ (HL.out)) ?_) | (refine wpList_store_row rfl 47 _ _ rfl (w.heap.size + 1) C.toArray (by rfl) (by rfl) 47 Z.toArray k2 (sizeSt _ (HL.out)) (by simp [HZ.out, HL.out]) (all_oneCell_toArray (HO.out)) ?_))
      exact bodyPost_ret (results_cell_tmp (P := Try.prog) Try.results20 rfl ((k2.setRow C).load HL.out) _ rfl) rfl ⟨tv, by rw [hC'.out]; rfl, hrow.setRow k2 (by decide) _, below_setRow hB (by omega) _⟩
    | true =>
      rw [hh] at c1
      by_cases hq : L.holder = t
      · have e1 : holdsE L t 0 = 0 := by simp only [holdsE, hh, hq]; rw [if_neg (by omega)]; simp
        have e2 : unlockL L t = { L with held := false, holder := 0 } := by simp [unlockL, e1]
        have e3 : unlockN L t = [⟨t, 9, 0⟩] := by simp [unlockN, e1]
        obtain ⟨ht0, ht1⟩ := ht
        rw [e1, e2, e3]
        rw [hq] at c2
        clear e1 e2 e3 hh hq
        have n1 := (k1.set 1 (.bool false)).set 2 (.int .i64 0)
        rw [HS.out] at n1
        have n2 := (k2.set_other (a := ⟨w.heap.size, 1, none⟩) (by simp) (.bool false)).set_other (a := ⟨w.heap.size, 2, none⟩) (by simp) (.int .i64 0)
        have nR := ((hR.below hB).setCell (a := ⟨w.heap.size, 1, none⟩) ((hR.below hB).ne_blk k1 (by decide)) (.bool false)).setCell (a := ⟨w.heap.size, 2, none⟩) ((hR.below hB).ne_blk k1 (by decide)) (.int .i64 0)
        have nB : Below w.heap.size w ((W.setCell ⟨w.heap.size, 1, none⟩ (.bool false)).setCell ⟨w.heap.size, 2, none⟩ (.int .i64 0)) := (hB.setCell (p := ⟨w.heap.size, 1, none⟩) (Nat.le_refl _) _).setCell (p := ⟨w.heap.size, 2, none⟩) (Nat.le_refl _) _
        obtain ⟨C2, hC2⟩ : ∃ C2, stC { L with held := false, holder := 0 } tv = C2 := ⟨_, rfl⟩
        have hnot := rnoted (L := { L with held := false, holder := 0 }) nR hn t 9
        rw [hC2] at n1 hnot
        have HL2 : Hid (C2.length = 68) := Lib.hid (by rw [← hC2]; exact stC_len _ _)
        clear hC2 hn
        go_enter Try.func20, Try.ntmps20
        go_wp2_with (first | (refine wpList_load_row rfl 47 _ rfl (w.heap.size) (by rfl) 47 C2.toArray (0, 0) _ n1 Try.underlying47 rfl (sizeSt _ (HL2.out)) ?_) | (go_at_call 34; refine hnot.mono ?_; rintro e w2 ⟨tv2, rfl, hr2, hb2⟩; have n22 := n2.keep (hb2.block _ n2.lt)) | (refine wpList_store_row rfl 47 _ _ rfl (w.heap.size + 1) (stC { L with held := false, holder := 0 } tv2).toArray (by rfl) (by rfl) 47 Z.toArray n22 (sizeSt _ (stC_len _ _)) (by simp [HZ.out, stC_len _ _]) (all_oneCell_toArray (stC_one _ _ hr2.slice_one)) ?_))
        refine bodyPost_ret (results_cell_tmp (P := Try.prog) Try.results20 rfl ((n22.setRow _).load (stC_len _ _)) _ rfl) rfl ⟨tv2, rfl, ?_, below_setRow (nB.trans (hb2.mono nB.size)) (by omega) _⟩
        have := hr2.setRow n22 (by decide) (stC { L with held := false, holder := 0 } tv2).toArray
        rw [List.length_append]
        exact this.wider fun k h => .inr (Nat.le_trans (by have := nB.size; omega) h)
      · have e1 : holdsE L t 0 = 141 := by simp only [holdsE, hh]; rw [if_neg (by omega)]; simp [hq]
        have e2 : unlockL L t = L := by simp [unlockL, e1]
        have e3 : unlockN L t = [] := by simp [unlockN, e1]
        obtain ⟨ht0, ht1⟩ := ht
        rw [e1, e2, e3, List.append_nil]
        clear e1 e2 e3 hh
        go_enter Try.func20, Try.ntmps20
        go_wp2_with (first | (refine wpList_load_row rfl 47 _ rfl (w.heap.size) (by rfl) 47 C.toArray (0, 0) _ k1 Try.underlying47 rfl (sizeSt _ (HL.out)) ?_) | (refine wpList_store_row rfl 47 _ _ rfl (w.heap.size + 1) C.toArray (by rfl) (by rfl) 47 Z.toArray k2 (sizeSt _ (HL.out)) (by simp [HZ.out, HL.out]) (all_oneCell_toArray (HO.out)) ?_))
        exact bodyPost_ret (results_cell_tmp (P := Try.prog) Try.results20 rfl ((k2.setRow C).load HL.out) _ rfl) rfl ⟨tv, by rw [hC'.out]; rfl, hrow.setRow k2 (by decide) _, below_setRow hB (by omega) _⟩
  · have e1 : holdsE L t 0 = 2 := by simp only [holdsE]; rw [if_pos (.inl ht)]
    have e2 : unlockL L t = L := by simp [unlockL, e1]
    have e3 : unlockN L t = [] := by simp [unlockN, e1]
    rw [e1, e2, e3, List.append_nil]
    clear e1 e2 e3
    have ht' : t < 0 ∨ 0 ≤ t ∧ 63 < t := by omega
    clear ht
    rcases ht' with h | ⟨h, h'⟩
    all_goals
      go_enter Try.func20, Try.ntmps20
      go_wp2_with (first | (refine wpList_load_row rfl 47 _ rfl (w.heap.size) (by rfl) 47 C.toArray (0, 0) _ k1 Try.underlying47 rfl (sizeSt _ (HL.out)) ?_) | (refine wpList_store_row rfl 47 _ _ rfl (w.heap.size + 1) C.toArray (by rfl) (by rfl) 47 Z.toArray k2 (sizeSt _ (HL.out)) (by simp [HZ.out, HL.out]) (all_oneCell_toArray (HO.out)) ?_))
      exact bodyPost_ret (results_cell_tmp (P := Try.prog) Try.results20 rfl ((k2.setRow C).load HL.out) _ rfl) rfl ⟨tv, by rw [hC'.out]; rfl, hrow.setRow k2 (by decide) _, below_setRow hB (by omega) _⟩

set_option maxRecDepth 100000 in
set_option maxHeartbeats 2000000 in
theorem rwait (hR : Row w 38 3 tv tr.length (accs tr) H) (hn : tr.length < trMax) (hc0 : 0 ≤ L.conds) (hc1 : L.conds ≤ 1000) (t cond : Int) :
    Calls Try.prog 22 #[.agg (stC L tv).toArray, .int .i64 t, .int .i64 cond] w fun e w' => ∃ tv', e = .returned (.tuple #[.agg (stC (waitL L t cond) tv').toArray, .int .i64 (onE L t cond)]) ∧ Row w' 38 3 tv' (tr ++ waitN L t cond).length (accs (tr ++ waitN L t cond)) (fun k => H k ∨ w.heap.size ≤ k) ∧ Below w.heap.size w w' := by
  have hun := fun W hRW => runlock (w := W) (H := H) hRW hn hc0 t (L := L) (tv := tv)
  obtain ⟨Z, hZl, hz⟩ := zeroSt
  have hl := stC_len L tv
  have ho := stC_one L tv hR.slice_one
  have h0 : (stC L tv)[0]? = some (.int .i64 L.conds) := rfl
  have h1 : (stC L tv)[1]? = some (.bool L.held) := rfl
  have h2 : (stC L tv)[2]? = some (.int .i64 L.holder) := rfl
  have hsl := fun i h => stC_sl L tv i h
  obtain ⟨C, hC⟩ : ∃ C, stC L tv = C := ⟨_, rfl⟩
  rw [hC] at hun hl h0 h1 h2 hsl ho
  obtain ⟨W, hW, k1, k2, hB, hs⟩ := two_boxes w C Z 47
  have hrow : Row W 38 3 tv tr.length (accs tr) (fun k => H k ∨ w.heap.size ≤ k) := (hR.below hB).wider fun k h => .inl h
  have c0 := k1.cell 0 h0
  have c1 := k1.cell 1 h1
  have c2 := k1.cell 2 h2
  have f1 := k1.frozen 1
  have f2 := k1.frozen 2
  have hC' := Lib.hid hC
  rw [hC]
  have HZ := Lib.hid hZl
  have HL := Lib.hid hl
  have HO := Lib.hid ho
  have HSL := Lib.hid hsl
  clear hZl hl h0 h1 h2 ho hC hsl
  have hunW := hun W (hR.below hB)
  have HU := Lib.hid hunW
  clear hun hunW
  obtain ⟨cs, hcs⟩ : ∃ cs, L.conds = cs := ⟨_, rfl⟩
  rw [hcs] at c0 hc0 hc1
  by_cases hv : (0 ≤ t ∧ t < 64) ∧ (0 ≤ cond ∧ cond < cs)
  · obtain ⟨⟨ht0, ht1⟩, hd0, hd1⟩ := hv
    have eo : onE L t cond = holdsE L t 0 := by
      unfold onE holdsE
      rw [if_neg (show ¬ cond = L.conds by omega), if_neg (show ¬ (¬(0 ≤ t ∧ t < 64) ∨ cond < 0 ∨ L.conds < cond) by omega), if_neg (show ¬ (¬(0 ≤ t ∧ t < 64) ∨ (0 : Int) < 0 ∨ L.conds < 0) by omega)]
    by_cases h0 : holdsE L t 0 = 0
    · have e1 : onE L t cond = 0 := eo.trans h0
      have e2 : waitL L t cond = { (unlockL L t) with sl := slUp (unlockL L t).sl t.toNat (some cond) } := by simp [waitL, e1, unlockL, h0]
      have e3 : waitN L t cond = unlockN L t := by simp [waitN, e1, unlockN, h0]
      have hU := HU.out
      rw [h0] at hU
      rw [e1, e2, e3]
      clear e1 e2 e3 eo h0 HU hcs
      have hup := fun tv' => stC_up (unlockL L t) tv' t.toNat (by omega) (some cond)
      obtain ⟨L1, hL1⟩ : ∃ L1, unlockL L t = L1 := ⟨_, rfl⟩
      obtain ⟨N1, hN1⟩ : ∃ N1, unlockN L t = N1 := ⟨_, rfl⟩
      rw [hL1, hN1] at hU
      rw [hL1] at hup
      rw [hL1, hN1]
      have HUP := Lib.hid hup
      clear hL1 hN1 hup
      go_enter Try.func22, Try.ntmps22
      go_upto_region 3 with fail
      go_wp2_with (first | (go_at_call 20; refine hU.mono ?_; rintro e w1 ⟨tv1, rfl, hr1, hb1⟩; have n2 := k2.keep (hb1.block _ k2.lt); have n3 := Blk.new w1 47 Z; have m3 := n3.setRow (stC L1 tv1); have g3 := m3.cell _ (stC_sl L1 tv1 t.toNat (by omega)); have f3 := m3.frozen (3 + t.toNat); have q3 := m3.set (3 + t.toNat) (.int .i64 (svI (some cond))); rw [HUP.out] at q3; have q2 := ((n2.alloc (.cells Z.toArray 47)).keep (heap_setRow_other _ w1.heap.size (stC L1 tv1).toArray (by have := n2.lt; omega))).set_other (a := ⟨w1.heap.size, 3 + t.toNat, none⟩) (by have := n2.lt; simp; omega) (.int .i64 (svI (some cond)))) | (refine wpList_load_row rfl 47 _ rfl (w.heap.size) (by rfl) 47 C.toArray (0, 0) _ k1 Try.underlying47 rfl (sizeSt _ (HL.out)) ?_) | (refine wpList_store_row rfl 47 _ _ rfl (w1.heap.size) (stC L1 tv1).toArray (by rfl) (by rfl) 47 Z.toArray n3 (sizeSt _ (stC_len _ _)) (by simp [HZ.out, stC_len _ _]) (all_oneCell_toArray (stC_one _ _ hr1.slice_one)) ?_) | (refine wpList_load_row rfl 47 _ rfl (w1.heap.size) (by rfl) 47 (stC { L1 with sl := slUp L1.sl t.toNat (some cond) } tv1).toArray (0, 0) _ q3 Try.underlying47 rfl (sizeSt _ (stC_len _ _)) ?_) | (refine wpList_store_row rfl 47 _ _ rfl (w.heap.size + 1) (stC { L1 with sl := slUp L1.sl t.toNat (some cond) } tv1).toArray (by rfl) (by rfl) 47 Z.toArray q2 (sizeSt _ (stC_len _ _)) (by simp [HZ.out, stC_len _ _]) (all_oneCell_toArray (stC_one _ _ hr1.slice_one)) ?_))
      refine bodyPost_ret (results_cell_tmp (P := Try.prog) Try.results22 rfl ((q2.setRow _).load (stC_len _ _)) _ rfl) rfl ⟨tv1, rfl, ?_, ?_⟩
      · have r1 := ((hr1.alloc (.cells Z.toArray 47)).setRow n3 (by decide) (stC L1 tv1).toArray)
        have r2 := r1.setCell (a := ⟨w1.heap.size, 3 + t.toNat, none⟩) (r1.ne_blk m3 (by decide)) (.int .i64 (svI (some cond)))
        have r3 := r2.setRow q2 (by decide) (stC { L1 with sl := slUp L1.sl t.toNat (some cond) } tv1).toArray
        exact r3.wider fun k h => h.imp id fun h => by omega
      · have b1 := (hB.trans (hb1.mono (by omega))).alloc (by have := hB.size; have := hb1.size; omega) (.cells Z.toArray 47)
        have b2 := below_setRow b1 (b := w1.heap.size) (by have := hB.size; have := hb1.size; omega) (stC L1 tv1).toArray
        exact below_setRow (b2.setCell (p := ⟨w1.heap.size, 3 + t.toNat, none⟩) (by have := hB.size; have := hb1.size; show w.heap.size ≤ w1.heap.size; omega) _) (by omega) _
    · have h141 : holdsE L t 0 = 141 := by
        simp only [holdsE] at h0 ⊢
        rw [if_neg (show ¬ (¬(0 ≤ t ∧ t < 64) ∨ (0 : Int) < 0 ∨ L.conds < 0) by omega)] at h0 ⊢
        split at h0
        · rw [if_pos ‹_›]
        · exact absurd rfl h0
      have e1 : onE L t cond = 141 := eo.trans h141
      have e2 : waitL L t cond = L := by simp [waitL, e1]
      have e3 : waitN L t cond = [] := by simp [waitN, e1]
      have hU := HU.out
      have e5 : unlockN L t = [] := by simp [unlockN, h141]
      rw [h141, e5] at hU
      rw [e1, e2, e3, List.append_nil]
      clear e1 e2 e3 e5 eo h0 HU hcs h141
      obtain ⟨L1, hL1⟩ : ∃ L1, unlockL L t = L1 := ⟨_, rfl⟩
      rw [hL1] at hU
      clear hL1
      go_enter Try.func22, Try.ntmps22
      go_upto_region 3 with fail
      go_wp2_with (first | (go_at_call 20; refine hU.mono ?_; rintro e w1 ⟨tv1, rfl, hr1, hb1⟩; have n1 := k1.keep (hb1.block _ k1.lt); have n2 := k2.keep (hb1.block _ k2.lt); have n3 := Blk.new w1 47 Z; have q1 := (n1.alloc (.cells Z.toArray 47)).keep (heap_setRow_other _ w1.heap.size (stC L1 tv1).toArray (by have := n1.lt; omega)); have q2 := (n2.alloc (.cells Z.toArray 47)).keep (heap_setRow_other _ w1.heap.size (stC L1 tv1).toArray (by have := n2.lt; omega))) | (refine wpList_load_row rfl 47 _ rfl (w.heap.size) (by rfl) 47 C.toArray (0, 0) _ k1 Try.underlying47 rfl (sizeSt _ (HL.out)) ?_) | (refine wpList_store_row rfl 47 _ _ rfl (w1.heap.size) (stC L1 tv1).toArray (by rfl) (by rfl) 47 Z.toArray n3 (sizeSt _ (stC_len _ _)) (by simp [HZ.out, stC_len _ _]) (all_oneCell_toArray (stC_one _ _ hr1.slice_one)) ?_) | (refine wpList_load_row rfl 47 _ rfl (w.heap.size) (by rfl) 47 C.toArray (0, 0) _ q1 Try.underlying47 rfl (sizeSt _ (HL.out)) ?_) | (refine wpList_store_row rfl 47 _ _ rfl (w.heap.size + 1) C.toArray (by rfl) (by rfl) 47 Z.toArray q2 (sizeSt _ (HL.out)) (by simp [HZ.out, HL.out]) (all_oneCell_toArray (HO.out)) ?_))
      refine bodyPost_ret (results_cell_tmp (P := Try.prog) Try.results22 rfl ((q2.setRow _).load HL.out) _ rfl) rfl ⟨tv, by rw [hC'.out]; rfl, ?_, ?_⟩
      · have r0 := (hrow.keep (fun k hk => hb1.block k (hrow.lt hk))).alloc (.cells Z.toArray 47)
        exact (r0.setRow n3 (by decide) (stC L1 tv1).toArray).setRow q2 (by decide) C.toArray
      · have b1 := (hB.trans (hb1.mono (by omega))).alloc (by have := hB.size; have := hb1.size; omega) (.cells Z.toArray 47)
        have b2 := below_setRow b1 (b := w1.heap.size) (by have := hB.size; have := hb1.size; omega) (stC L1 tv1).toArray
        exact below_setRow b2 (by omega) _
  · have e1 : onE L t cond = 2 := by
      unfold onE holdsE
      by_cases hq : cond = L.conds
      · rw [if_pos hq]
      · rw [if_neg hq, if_pos (by omega)]
    have e2 : waitL L t cond = L := by simp [waitL, e1]
    have e3 : waitN L t cond = [] := by simp [waitN, e1]
    rw [e1, e2, e3, List.append_nil]
    clear e1 e2 e3 hcs HU
    have hv' : t < 0 ∨ (0 ≤ t ∧ 63 < t) ∨ (0 ≤ t ∧ t ≤ 63 ∧ cond < 0) ∨ (0 ≤ t ∧ t ≤ 63 ∧ 0 ≤ cond ∧ cs ≤ cond) := by omega
    clear hv
    rcases hv' with h | ⟨h, h'⟩ | ⟨h, h', h''⟩ | ⟨h, h', h'', h3⟩
    all_goals
      go_enter Try.func22, Try.ntmps22
      go_wp2_with (first | (refine wpList_load_row rfl 47 _ rfl (w.heap.size) (by rfl) 47 C.toArray (0, 0) _ k1 Try.underlying47 rfl (sizeSt _ (HL.out)) ?_) | (refine wpList_store_row rfl 47 _ _ rfl (w.heap.size + 1) C.toArray (by rfl) (by rfl) 47 Z.toArray k2 (sizeSt _ (HL.out)) (by simp [HZ.out, HL.out]) (all_oneCell_toArray (HO.out)) ?_))
      exact bodyPost_ret (results_cell_tmp (P := Try.prog) Try.results22 rfl ((k2.setRow C).load HL.out) _ rfl) rfl ⟨tv, by rw [hC'.out]; rfl, hrow.setRow k2 (by decide) _, below_setRow hB (by omega) _⟩

def slTo (sl : Nat → Option Int) (c : Int) (k : Nat) : Nat → Option Int := fun i => if i < k ∧ sl i = some c then none else sl i
def cntTo (sl : Nat → Option Int) (c : Int) (k : Nat) : Nat := ((List.range k).filter fun t => ((sl t).map fun d => decide (d = c)).getD false).length
theorem cntTo_succ (sl : Nat → Option Int) (c : Int) (k : Nat) : cntTo sl c (k + 1) = cntTo sl c k + if sl k = some c then 1 else 0 := by
  unfold cntTo
  rw [List.range_succ, List.filter_append, List.length_append]
  cases hs : sl k with
  | none => simp [hs]
  | some d => by_cases e : d = c <;> simp [hs, e]
theorem cntTo_le (sl : Nat → Option Int) (c : Int) (k : Nat) : cntTo sl c k ≤ k := by
  have := List.length_filter_le (fun t => ((sl t).map fun d => decide (d = c)).getD false) (List.range k)
  simpa [cntTo] using this
theorem slTo_yes (L : Lk) (tv : Value) (c : Int) (k : Nat) (hk : k < 64) (h : L.sl k = some c) : (stC { L with sl := slTo L.sl c k } tv).set (3 + k) (.int .i64 0) = stC { L with sl := slTo L.sl c (k + 1) } tv := by
  have := stC_up { L with sl := slTo L.sl c k } tv k hk none
  rw [show svI none = 0 from rfl] at this
  rw [this]
  congr 2
  funext i
  simp only [slUp, slTo]
  by_cases e : i = k
  · subst e; simp [h]
  · rw [if_neg e]
    by_cases h1 : i < k
    · simp [h1, show i < k + 1 by omega]
    · simp [h1, show ¬ i < k + 1 by omega]
theorem slTo_no (sl : Nat → Option Int) (c : Int) (k : Nat) (h : ¬ sl k = some c) : slTo sl c (k + 1) = slTo sl c k := by
  funext i
  simp only [slTo]
  by_cases e : i = k
  · subst e; simp [h]
  · by_cases h1 : i < k
    · simp [h1, show i < k + 1 by omega]
    · simp [h1, show ¬ i < k + 1 by omega]
theorem slTo_all (L : Lk) (tv : Value) (c : Int) : stC { L with sl := slTo L.sl c 64 } tv = stC { L with sl := slWake L.sl c } tv := by
  simp only [stC]
  congr 4
  refine List.map_congr_left fun i hi => ?_
  have : i < 64 := by simpa using hi
  simp [slTo, slWake, this]

set_option maxRecDepth 100000 in
set_option maxHeartbeats 2000000 in
theorem rwake (hR : Row w 38 3 tv tr.length (accs tr) H) (hg : Good L) (hc0 : 0 ≤ L.conds) (hc1 : L.conds ≤ 1000) (t cond : Int) :
    Calls Try.prog 24 #[.agg (stC L tv).toArray, .int .i64 t, .int .i64 cond] w fun e w' => e = .returned (.tuple #[.agg (stC (wakeL L t cond) tv).toArray, .int .i64 (wakeM L t cond), .int .i64 (onE L t cond)]) ∧ Row w' 38 3 tv tr.length (accs tr) (fun k => H k ∨ w.heap.size ≤ k) ∧ Below w.heap.size w w' := by
  obtain ⟨Z, hZl, hz⟩ := zeroSt
  have hl := stC_len L tv
  have ho := stC_one L tv hR.slice_one
  have h0 : (stC L tv)[0]? = some (.int .i64 L.conds) := rfl
  have h1 : (stC L tv)[1]? = some (.bool L.held) := rfl
  have h2 : (stC L tv)[2]? = some (.int .i64 L.holder) := rfl
  have hsl := fun i h => stC_sl L tv i h
  obtain ⟨C, hC⟩ : ∃ C, stC L tv = C := ⟨_, rfl⟩
  rw [hC] at hl h0 h1 h2 hsl ho
  obtain ⟨W, hW, k1, k2, hB, hs⟩ := two_boxes w C Z 47
  have hrow : Row W 38 3 tv tr.length (accs tr) (fun k => H k ∨ w.heap.size ≤ k) := (hR.below hB).wider fun k h => .inl h
  have c0 := k1.cell 0 h0
  have c1 := k1.cell 1 h1
  have c2 := k1.cell 2 h2
  have f1 := k1.frozen 1
  have f2 := k1.frozen 2
  have hC' := Lib.hid hC
  rw [hC]
  have HZ := Lib.hid hZl
  have HL := Lib.hid hl
  have HO := Lib.hid ho
  have HSL := Lib.hid hsl
  clear hZl hl h0 h1 h2 ho hC hsl
  obtain ⟨cs, hcs⟩ : ∃ cs, L.conds = cs := ⟨_, rfl⟩
  rw [hcs] at c0 hc0 hc1
  by_cases hv : (0 ≤ t ∧ t < 64) ∧ (0 ≤ cond ∧ cond < cs)
  · obtain ⟨⟨ht0, ht1⟩, hd0, hd1⟩ := hv
    cases hh : L.held with
    | false =>
      rw [hh] at c1
      have e1 : onE L t cond = 141 := by simp only [onE, holdsE, hh]; rw [if_neg (by omega), if_neg (by omega)]; simp
      have e2 : wakeL L t cond = L := by simp [wakeL, e1]
      have e3 : wakeM L t cond = 0 := by simp [wakeM, e1]
      rw [e1, e2, e3]
      clear e1 e2 e3 hh hcs
      go_enter Try.func24, Try.ntmps24
      go_wp2_with (first | (refine wpList_load_row rfl 47 _ rfl (w.heap.size) (by rfl) 47 C.toArray (0, 0) _ k1 Try.underlying47 rfl (sizeSt _ (HL.out)) ?_) | (refine wpList_store_row rfl 47 _ _ rfl (w.heap.size + 1) C.toArray (by rfl) (by rfl) 47 Z.toArray k2 (sizeSt _ (HL.out)) (by simp [HZ.out, HL.out]) (all_oneCell_toArray (HO.out)) ?_))
      exact bodyPost_ret (results_cell_tmp2 (P := Try.prog) Try.results24 rfl ((k2.setRow C).load HL.out) _ _ rfl rfl) rfl ⟨by rw [hC'.out]; rfl, hrow.setRow k2 (by decide) _, below_setRow hB (by omega) _⟩
    | true =>
      rw [hh] at c1
      by_cases hq : L.holder = t
      · have e1 : onE L t cond = 0 := by simp only [onE, holdsE, hh, hq]; rw [if_neg (by omega), if_neg (by omega)]; simp
        have e2 : wakeL L t cond = { L with sl := slWake L.sl cond } := by simp [wakeL, e1]
        have e3 : wakeM L t cond = (cntTo L.sl cond 64 : Nat) := by simp only [wakeM, e1, if_pos]; rfl
        rw [e1, e2, e3]
        rw [hq] at c2
        have k10 : Blk W w.heap.size 47 (stC { L with sl := slTo L.sl cond 0 } tv) := by
          rw [show slTo L.sl cond 0 = L.sl by funext i; simp [slTo], hC'.out]; exact k1
        clear e1 e2 e3 hh hcs hq HSL HL HO hC'
        go_enter Try.func24, Try.ntmps24
        go_wp2_with fail
        clear c0 c1 c2 f1 f2 hW hR
        go_loopw [9, 10] (fun m i wr => ∃ k : Nat, k ≤ 64 ∧ i = .int .i64 k ∧ m = .int .i64 (cntTo L.sl cond k) ∧ Blk wr w.heap.size 47 (stC { L with sl := slTo L.sl cond k } tv) ∧ Blk wr (w.heap.size + 1) 47 Z ∧ Row wr 38 3 tv tr.length (accs tr) (fun k => H k ∨ w.heap.size ≤ k) ∧ Below w.heap.size w wr) (fun _ i _ => 64 - (intOf i).toNat)
        case atStart => exact ⟨0, by omega, rfl, rfl, k10, k2, hrow, hB⟩
        case round =>
          clear k10 k1 k2 hrow hB
          obtain ⟨k, hk, rfl, rfl, k1, k2, hrow, hB⟩ := hrel
          by_cases hlt : k < 64
          · have ck := k1.cell _ (stC_sl _ tv k hlt)
            have fk := k1.frozen (3 + k)
            have hsk : slTo L.sl cond k k = L.sl k := by simp [slTo]
            rw [show (({ L with sl := slTo L.sl cond k } : Lk).sl k) = L.sl k from hsk] at ck
            have hcs := cntTo_succ L.sl cond k
            have hcl := cntTo_le L.sl cond k
            have hgk := hg.pos k
            by_cases hs : L.sl k = some cond
            · rw [if_pos hs] at hcs
              have k1' := k1.set (3 + k) (.int .i64 0)
              rw [slTo_yes L tv cond k hlt hs] at k1'
              have k2' := k2.set_other (a := ⟨w.heap.size, 3 + k, none⟩) (by simp) (.int .i64 0)
              have hrow' := hrow.setCell (a := ⟨w.heap.size, 3 + k, none⟩) (hrow.ne_blk k1 (by decide)) (.int .i64 0)
              have hB' := hB.setCell (p := ⟨w.heap.size, 3 + k, none⟩) (Nat.le_refl _) (.int .i64 0)
              rw [hs, show svI (some cond) = cond + 1 from rfl] at ck
              have HCS := Lib.hid hcs
              obtain ⟨m, hm⟩ : ∃ m, cntTo L.sl cond k = m := ⟨_, rfl⟩
              rw [hm] at hcl HCS
              rw [hm]
              clear k1 k2 hrow hB hcs hsk hs hgk hm
              go_wp2_with fail
              go_roundw
              case rel => exact ⟨k + 1, by omega, by go_num, by rw [HCS.out]; go_num, k1', k2', hrow', hB'⟩
              case measure => simp [intOf]; omega
            · rw [if_neg hs, Nat.add_zero] at hcs
              rw [← slTo_no L.sl cond k hs] at k1
              obtain ⟨sv, hsv⟩ : ∃ sv, svI (L.sl k) = sv := ⟨_, rfl⟩
              have hne : ¬ sv = cond + 1 := by
                intro e
                rw [← hsv] at e
                cases hk2 : L.sl k with
                | none => rw [hk2] at e; simp [svI] at e; omega
                | some c => rw [hk2] at e; simp [svI] at e; exact hs (by rw [hk2, e])
              rw [hsv] at ck hgk
              have HCS := Lib.hid hcs
              obtain ⟨m, hm⟩ : ∃ m, cntTo L.sl cond k = m := ⟨_, rfl⟩
              rw [hm] at hcl HCS
              rw [hm]
              clear hcs hsk hs hm hsv
              go_wp2_with fail
              go_roundw
              case rel => exact ⟨k + 1, by omega, by go_num, by rw [HCS.out]; rfl, k1, k2, hrow, hB⟩
              case measure => simp [intOf]; omega
          · obtain rfl : k = 64 := by omega
            rw [slTo_all] at k1
            go_wp2_with (first | (refine wpList_load_row rfl 47 _ rfl (w.heap.size) (by rfl) 47 (stC { L with sl := slWake L.sl cond } tv).toArray (0, 0) _ k1 Try.underlying47 rfl (sizeSt _ (stC_len _ _)) ?_) | (refine wpList_store_row rfl 47 _ _ rfl (w.heap.size + 1) (stC { L with sl := slWake L.sl cond } tv).toArray (by rfl) (by rfl) 47 Z.toArray k2 (sizeSt _ (stC_len _ _)) (by simp [HZ.out, stC_len _ _]) (all_oneCell_toArray (stC_one _ _ hrow.slice_one)) ?_))
            exact bodyPost_ret (results_cell_tmp2 (P := Try.prog) Try.results24 rfl ((k2.setRow _).load (stC_len _ _)) _ _ rfl rfl) rfl ⟨rfl, hrow.setRow k2 (by decide) _, below_setRow hB (by omega) _⟩
      · have e1 : onE L t cond = 141 := by simp only [onE, holdsE, hh]; rw [if_neg (by omega), if_neg (by omega)]; simp [hq]
        have e2 : wakeL L t cond = L := by simp [wakeL, e1]
        have e3 : wakeM L t cond = 0 := by simp [wakeM, e1]
        rw [e1, e2, e3]
        clear e1 e2 e3 hh hcs
        go_enter Try.func24, Try.ntmps24
        go_wp2_with (first | (refine wpList_load_row rfl 47 _ rfl (w.heap.size) (by rfl) 47 C.toArray (0, 0) _ k1 Try.underlying47 rfl (sizeSt _ (HL.out)) ?_) | (refine wpList_store_row rfl 47 _ _ rfl (w.heap.size + 1) C.toArray (by rfl) (by rfl) 47 Z.toArray k2 (sizeSt _ (HL.out)) (by simp [HZ.out, HL.out]) (all_oneCell_toArray (HO.out)) ?_))
        exact bodyPost_ret (results_cell_tmp2 (P := Try.prog) Try.results24 rfl ((k2.setRow C).load HL.out) _ _ rfl rfl) rfl ⟨by rw [hC'.out]; rfl, hrow.setRow k2 (by decide) _, below_setRow hB (by omega) _⟩
  · have e1 : onE L t cond = 2 := by
      unfold onE holdsE
      by_cases hq : cond = L.conds
      · rw [if_pos hq]
      · rw [if_neg hq, if_pos (by omega)]
    have e2 : wakeL L t cond = L := by simp [wakeL, e1]
    have e3 : wakeM L t cond = 0 := by simp [wakeM, e1]
    rw [e1, e2, e3]
    clear e1 e2 e3 hcs
    have hv' : t < 0 ∨ (0 ≤ t ∧ 63 < t) ∨ (0 ≤ t ∧ t ≤ 63 ∧ cond < 0) ∨ (0 ≤ t ∧ t ≤ 63 ∧ 0 ≤ cond ∧ cs ≤ cond) := by omega
    clear hv
    rcases hv' with h | ⟨h, h'⟩ | ⟨h, h', h''⟩ | ⟨h, h', h'', h3⟩
    all_goals
      go_enter Try.func24, Try.ntmps24
      go_wp2_with (first | (refine wpList_load_row rfl 47 _ rfl (w.heap.size) (by rfl) 47 C.toArray (0, 0) _ k1 Try.underlying47 rfl (sizeSt _ (HL.out)) ?_) | (refine wpList_store_row rfl 47 _ _ rfl (w.heap.size + 1) C.toArray (by rfl) (by rfl) 47 Z.toArray k2 (sizeSt _ (HL.out)) (by simp [HZ.out, HL.out]) (all_oneCell_toArray (HO.out)) ?_))
      exact bodyPost_ret (results_cell_tmp2 (P := Try.prog) Try.results24 rfl ((k2.setRow C).load HL.out) _ _ rfl rfl) rfl ⟨by rw [hC'.out]; rfl, hrow.setRow k2 (by decide) _, below_setRow hB (by omega) _⟩

set_option maxRecDepth 100000 in
set_option maxHeartbeats 2000000 in
theorem rcan (hR : Row w 38 3 tv tr.length (accs tr) H) (hg : Good L) (t : Int) :
    Calls Try.prog 26 #[.agg (stC L tv).toArray, .int .i64 t] w fun e w' => e = .returned (.bool (canB L t)) ∧ Below w.heap.size w w' := by
  have hl := stC_len L tv
  have h1 : (stC L tv)[1]? = some (.bool L.held) := rfl
  have hsl := fun i h => stC_sl L tv i h
  obtain ⟨C, hC⟩ : ∃ C, stC L tv = C := ⟨_, rfl⟩
  rw [hC] at hl h1 hsl
  rw [hC]
  have k1 := Blk.new w 47 C
  have hB : Below w.heap.size w (w.alloc (.cells C.toArray 47)) := (Below.refl _ _).alloc (Nat.le_refl _) _
  obtain ⟨W, hW⟩ : ∃ W, w.alloc (.cells C.toArray 47) = W := ⟨_, rfl⟩
  rw [hW] at k1 hB
  have c1 := k1.cell 1 h1
  clear hl h1 hC
  by_cases ht : 0 ≤ t ∧ t < 64
  · have csl := k1.cell _ (hsl t.toNat (by omega))
    have hp := hg.pos t.toNat
    obtain ⟨sv, hsv⟩ : ∃ sv, svI (L.sl t.toNat) = sv := ⟨_, rfl⟩
    rw [hsv] at csl hp
    clear hsl
    cases hss : L.sl t.toNat with
    | some c =>
      have e1 : canB L t = false := by simp [canB, lockE, ht, hss]
      have hpos : 0 < sv := hp.2.2.1 (by rw [hss]; rfl)
      obtain ⟨ht0, ht1⟩ := ht
      rw [e1]
      clear e1 hp hsv hss
      go_enter Try.func26, Try.ntmps26
      go_wp2_with fail
      go_ret
      exact ⟨rfl, hB⟩
    | none =>
      obtain rfl : sv = 0 := by rw [← hsv, hss]; rfl
      cases hh : L.held
      all_goals
        rw [hh] at c1
        first | (have e1 : canB L t = true := by simp [canB, lockE, ht, hss, hh]) | (have e1 : canB L t = false := by simp [canB, lockE, ht, hss, hh])
        obtain ⟨ht0, ht1⟩ := ht
        rw [e1]
        clear e1 hp hsv hss hh
        go_enter Try.func26, Try.ntmps26
        go_wp2_with fail
        go_ret
        exact ⟨rfl, hB⟩
  · have e1 : canB L t = false := by simp [canB, lockE, ht]
    rw [e1]
    clear e1 hsl
    have ht' : t < 0 ∨ 0 ≤ t ∧ 63 < t := by omega
    clear ht
    rcases ht' with h | ⟨h, h'⟩
    all_goals
      go_enter Try.func26, Try.ntmps26
      go_wp2_with fail
      go_ret
      exact ⟨rfl, hB⟩

theorem builtSt (n : Int) : Try.prog.built 47 [(0, .int .i64 n)] = some (stC ⟨n, false, 0, fun _ => none⟩ (.slice none 0 0)).toArray := by kernel_rfl
theorem builtSt0 : Try.prog.built 47 [] = some (stC ⟨0, false, 0, fun _ => none⟩ (.slice none 0 0)).toArray := by kernel_rfl

theorem wpList_built {ops : Array Oper} {rest : List Oper} {o : Oper} {a : Act} {Q : Exit → Act → World → Prop} (hg : o.guard = none) (t : TypeId) (parts : Array (Nat × Operand)) (ho : o.op = .build t parts) (cs : Array Value)
    (hf : Try.prog.built t (parts.map fun (i, x) => (i, a.eval x)).toList = some cs) (h : wpList Try.prog ops Q rest (a.put o.dst (.agg cs)) w) : wpList Try.prog ops Q (o :: rest) a w :=
  wpList_build hg t parts ho (by rw [hf]; rfl) (by rw [hf]; exact h)
set_option maxRecDepth 100000 in
set_option maxHeartbeats 2000000 in
theorem rnew_ok (n : Int) (h0 : 0 ≤ n) (h1 : n ≤ 1000) :
    Calls Try.prog 16 #[.int .i64 n] w fun e w' => e = .returned (.tuple #[.agg (stC ⟨n, false, 0, fun _ => none⟩ (.slice none 0 0)).toArray, .int .i64 0]) ∧ Below w.heap.size w w' := by
  obtain ⟨Z, hZl, hz⟩ := zeroSt
  have hb := builtSt n
  obtain ⟨C, hC⟩ : ∃ C, stC ⟨n, false, 0, fun _ => none⟩ (.slice none 0 0) = C := ⟨_, rfl⟩
  have hl : C.length = 68 := by rw [← hC]; exact stC_len _ _
  have ho : ∀ u ∈ C, u.oneCell' = true := by rw [← hC]; exact stC_one _ _ rfl
  rw [hC] at hb
  rw [hC]
  have k2 := Blk.new w 47 Z
  have hB : Below w.heap.size w (w.alloc (.cells Z.toArray 47)) := (Below.refl _ _).alloc (Nat.le_refl _) _
  have HZ := Lib.hid hZl
  have HL := Lib.hid hl
  have HO := Lib.hid ho
  have HB := Lib.hid hb
  clear hZl hl ho hC hb
  go_enter Try.func16, Try.ntmps16
  go_wp2_with (first | (refine wpList_built rfl _ _ rfl C.toArray (by simp [Act.eval, HB.out]) ?_) | (refine wpList_store_row rfl 47 _ _ rfl (w.heap.size) C.toArray (by rfl) (by rfl) 47 Z.toArray k2 (sizeSt _ (HL.out)) (by simp [HZ.out, HL.out]) (all_oneCell_toArray (HO.out)) ?_))
  exact bodyPost_ret (results_cell_tmp (P := Try.prog) Try.results16 rfl ((k2.setRow C).load HL.out) _ rfl) rfl ⟨rfl, below_setRow hB (Nat.le_refl _) _⟩
set_option maxRecDepth 100000 in
set_option maxHeartbeats 2000000 in
theorem rnew_no (n : Int) (h : n < 0 ∨ 1000 < n) :
    Calls Try.prog 16 #[.int .i64 n] w fun e w' => e = .returned (.tuple #[.agg (stC ⟨0, false, 0, fun _ => none⟩ (.slice none 0 0)).toArray, .int .i64 2]) ∧ Below w.heap.size w w' := by
  obtain ⟨Z, hZl, hz⟩ := zeroSt
  have hb := builtSt0
  obtain ⟨C, hC⟩ : ∃ C, stC ⟨0, false, 0, fun _ => none⟩ (.slice none 0 0) = C := ⟨_, rfl⟩
  have hl : C.length = 68 := by rw [← hC]; exact stC_len _ _
  have ho : ∀ u ∈ C, u.oneCell' = true := by rw [← hC]; exact stC_one _ _ rfl
  rw [hC] at hb
  rw [hC]
  have k2 := Blk.new w 47 Z
  have hB : Below w.heap.size w (w.alloc (.cells Z.toArray 47)) := (Below.refl _ _).alloc (Nat.le_refl _) _
  have HZ := Lib.hid hZl
  have HL := Lib.hid hl
  have HO := Lib.hid ho
  have HB := Lib.hid hb
  clear hZl hl ho hC hb
  have h' : n < 0 ∨ 0 ≤ n ∧ 1000 < n := by omega
  clear h
  rcases h' with h | ⟨h, h'⟩
  all_goals
    go_enter Try.func16, Try.ntmps16
    go_wp2_with (first | (refine wpList_built rfl _ _ rfl C.toArray (by simp [Act.eval, HB.out]) ?_) | (refine wpList_store_row rfl 47 _ _ rfl (w.heap.size) C.toArray (by rfl) (by rfl) 47 Z.toArray k2 (sizeSt _ (HL.out)) (by simp [HZ.out, HL.out]) (all_oneCell_toArray (HO.out)) ?_))
    exact bodyPost_ret (results_cell_tmp (P := Try.prog) Try.results16 rfl ((k2.setRow C).load HL.out) _ rfl) rfl ⟨rfl, below_setRow hB (Nat.le_refl _) _⟩
end Go.Proofs.Ytncfbccihofaoaa
