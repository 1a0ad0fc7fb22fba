/- (*Store).Config and (*Store).Set of a store that was made. -/
import Derived.Test.YteiaifhnikknbaaDoorStOps
import Derived.Test.YteiaifhnikknbaaDoorStNone
namespace Go.Proofs.YteiaifhnikknbaaDoor
open Go.RowKit

variable {B : Nat} {w w' : World} {q : SRef} {K : Cfg} {L L' : Lk} {S S' : Mem} {G : Gd} {A O : Nat → Prop}
theorem cfC_one (K : Cfg) {sh : Value} (h : sh.oneCell' = true) : ∀ u ∈ cfC K sh, u.oneCell' = true := by
  intro u hu
  simp only [cfC] at hu
  simp at hu
  rcases hu with rfl | rfl | rfl | rfl | rfl | rfl <;> first | assumption | rfl
theorem cfC_set (K : Cfg) (a b : Value) : (cfC K a).set 5 b = cfC K b := rfl
set_option maxRecDepth 100000 in
set_option maxHeartbeats 1000000 in
theorem sconfig_any (h : Sx B w q K L S G A O) (hn : K.heights.length ≤ 1000000) :
    Calls Tryd.prog 36 #[.pointer (some ⟨q.p, 0, none⟩)] w fun e w' => ∃ sh, e = .returned (.agg (cfC K sh).toArray) ∧ Below w.heap.size w w' := by
  obtain ⟨W, hW⟩ : ∃ W, w.alloc (.cells #[.int .u64 0, .int .i64 0, .int .i64 0, .int .i64 0, .bool false, .slice none 0 0] 49) = W := ⟨_, rfl⟩
  have hB : Below w.heap.size w W := by rw [← hW]; exact (Below.refl _ _).alloc (Nat.le_refl _) _
  have k1 : Blk W w.heap.size 49 [.int .u64 0, .int .i64 0, .int .i64 0, .int .i64 0, .bool false, .slice none 0 0] := by rw [← hW]; exact Blk.new _ _ _
  have hsz : W.heap.size = w.heap.size + 1 := by rw [← hW]; simp
  have h1 := h.below hB
  have c6 := h1.c6
  obtain ⟨sh, sll, sl, sd, si, st, m1, m2, -, -⟩ := h1.st.ex
  have hr := m1.range 0 (cfC K sh) (fun j v hv => by rw [stC, List.append_assoc, Nat.zero_add, List.getElem?_append_left (List.getElem?_eq_some_iff.1 hv).1]; exact hv)
  have r0 := m2.reads
  have o0 : sh.oneCell' = true := m2.slice_one
  have k2 := Blk.new W 49 [.int .u64 0, .int .i64 0, .int .i64 0, .int .i64 0, .bool false, .slice none 0 0]
  have k3 := k2.setRow (cfC K sh)
  have a1 := k1.alloc (.cells #[.int .u64 0, .int .i64 0, .int .i64 0, .int .i64 0, .bool false, .slice none 0 0] 49)
  have a2 := a1.setRow_other (b' := W.heap.size) (by omega) (cfC K sh).toArray
  have x5 := k3.cell 5 (v := sh) rfl
  have hBe : Below W.heap.size W ((W.alloc (.cells #[.int .u64 0, .int .i64 0, .int .i64 0, .int .i64 0, .bool false, .slice none 0 0] 49)).setRow W.heap.size (cfC K sh).toArray) := below_setRow ((Below.refl _ _).alloc (Nat.le_refl _) _) (Nat.le_refl _) _
  have r1 := r0.below hBe
  have hcl := cloneU3_any _ sh _ _ r1 (u32s_one _) (by omega)
  have HCL := Lib.hid hcl
  have HZ := Lib.hid hsz
  have O1 := Lib.hid o0
  have HBE := Lib.hid hBe
  have hle : w.heap.size ≤ W.heap.size := hB.size
  clear hcl r0 r1 m1 m2 h1 h hsz o0 hBe a1
  go_enter Tryd.func36, Tryd.ntmps36
  go_wp2_with (first | (go_at_call 61; refine (sis_yes _ _ _ c6).mono ?_; rintro e w' ⟨rfl, rfl⟩) | (refine wpList_load_mid rfl 49 _ rfl q.p 0 (by rfl) (cfC K sh) _ hr Tryd.underlying49 rfl infoCf ?_) | (refine wpList_store_blk rfl 49 _ _ rfl W.heap.size (cfC K sh) (by rfl) (by rfl) _ k2 infoCf rfl (cfC_one K O1.out) ?_) | (go_at_call 54; refine HCL.out.mono ?_; rintro e w3 ⟨v', rfl, hr3, hB3⟩; have k4 := k3.keep (hB3.block _ k3.lt); have a4 := a2.keep (hB3.block _ a2.lt); have f5 := k4.frozen 5; have y5 := k4.cell 5 (v := sh) rfl; have k5 := k4.set 5 v'; rw [cfC_set] at k5; have a5 := a4.set_other (a := ⟨W.heap.size, 5, none⟩) (by have := HZ.out; simp; omega) v'; have o5 := Lib.hid hr3.slice_one; obtain ⟨ao3, cp3, rfl⟩ := hr3.slice) | (refine wpList_load_blk rfl 49 _ rfl W.heap.size (by rfl) (cfC K (.slice ao3 K.heights.length cp3)) k5 _ Tryd.underlying49 rfl infoCf ?_) | (refine wpList_store_blk rfl 49 _ _ rfl w.heap.size (cfC K (.slice ao3 K.heights.length cp3)) (by rfl) (by rfl) _ a5 infoCf rfl (cfC_one K o5.out) ?_))
  have a6 := a5.setRow (cfC K (.slice ao3 K.heights.length cp3))
  have hle2 : W.heap.size ≤ ((W.alloc (.cells #[.int .u64 0, .int .i64 0, .int .i64 0, .int .i64 0, .bool false, .slice none 0 0] 49)).setRow W.heap.size (cfC K sh).toArray).heap.size := HBE.out.size

  exact bodyPost_ret (results_cell_one (P := Tryd.prog) Tryd.results36 rfl (a6.loadRow _ Tryd.underlying49 rfl infoCf)) rfl ⟨_, rfl, below_setRow (Below.setCell (p := ⟨W.heap.size, 5, none⟩) (hB.trans ((HBE.out.trans (hB3.mono hle2)).mono hle)) hle _) (Nat.le_refl _) _⟩


/-- What Set does for who holds the mutex. -/
def SetP (B : Nat) (q : SRef) (K : Cfg) (L : Lk) (S : Mem) (G : Gd) (A : Nat → Prop) (w : World) (e : Ending) (w' : World) : Prop :=
  ∃ A' O', e = .returned (.int .i64 0) ∧ Sx B w' q K L S G A' O' ∧ (∀ k, A' k → A k) ∧ Only (fun k => A k ∨ k = q.p) w w'
theorem stC_put (sh sll sl sd si st tl td ti tt : Value) (G' : Gd) : putL (stC K sh q sll G sl sd si st) 10 (gC G' tl td ti tt) = stC K sh q sll G' tl td ti tt := rfl
set_option maxRecDepth 100000 in
set_option maxHeartbeats 2000000 in
theorem set_yes (h : Sx B w q K L S G A O) {G' : Gd} {sl sd si st : Value} (hG : ∀ w', Only A w w' → GR w' G' sl sd si st) (hs : G'.Small 1000000) (t : Int) (ht : L.held = true → 0 ≤ L.holder ∧ L.holder < 64) (hp : 0 < S.plains.length) (hn : S.trace.length < trMax) (hE : L.held = true ∧ L.holder = t) :
    Calls Tryd.prog 37 #[.pointer (some ⟨q.p, 0, none⟩), .int .i64 t, .agg (gC G' sl sd si st).toArray] w (SetP B q K L (S.note ⟨t, 7, 0⟩) G' A w) := by
  obtain ⟨W, hW⟩ : ∃ W, w.alloc (.cells (gC G' sl sd si st).toArray 31) = W := ⟨_, rfl⟩
  have hBW : Below w.heap.size w W := by rw [← hW]; exact (Below.refl _ _).alloc (Nat.le_refl _) _
  have k1 : Blk W w.heap.size 31 (gC G' sl sd si st) := by rw [← hW]; exact Blk.new _ _ _
  have h1 : Sx B W q K L S G (fun k => A k ∧ k ≠ w.heap.size) O := by rw [← hW]; exact h.box _
  have hb1 := held_any h1 t 7 (.inr rfl) ht hp hn
  have e1 : heldE L t = 0 := by rw [heldE, if_pos hE]
  have e2 : heldS L S t 7 = S.note ⟨t, 7, 0⟩ := by rw [heldS, if_pos hE]
  rw [e1, e2] at hb1
  have H := Lib.hid h
  have HB := Lib.hid hb1
  have HG := Lib.hid hG
  have hlt : w.heap.size < W.heap.size := k1.lt
  clear hb1 h1 ht hp hn e1 e2 hE h hG
  go_enter Tryd.func37, Tryd.ntmps37
  go_upto_region 2 with (go_at_call 65; refine HB.out.mono ?_; rintro e w2 ⟨rfl, h2, hB2, hO2⟩)
  have hOw : Only A w w2 := (Only.of_below hBW).trans (hO2.mono fun _ _ h => h.1)
  have how := own_any (HG.out w2 hOw) hs
  have k2 := k1.keep (hO2.block _ k1.lt (fun h => h.2 rfl))
  have HOW := Lib.hid how
  have H2 := Lib.hid h2
  have HOw := Lib.hid hOw
  have hs2 := hO2.size
  clear how h2 hB2 hO2 HB hOw
  go_wp2_with (first | (refine wpList_load_blk rfl 31 _ rfl w.heap.size (by rfl) (gC G' sl sd si st) k2 _ Tryd.underlying31 rfl infoG ?_) | (go_at_call 45; refine HOW.out.mono ?_; rintro e w3 ⟨v1, v2, v3, v4, rfl, hG3, hB3⟩; have h3 := H2.out.aside hB3; obtain ⟨sh, sll, ul, ud, ui, ut, m1, m2, m3, m4⟩ := h3.st.ex; have hth := m1.there 10 11 (by rw [stC_len]; decide); have o4 := Lib.hid (gC_one (sl := v1) (sd := v2) (si := v3) (st := v4) G' hG3.l.slice_one hG3.d.slice_one hG3.i.slice_one hG3.t.slice_one)) | (refine wpList_store_mid rfl 31 _ _ rfl q.p 10 (gC G' v1 v2 v3 v4).toArray (by rfl) (by rfl) hth infoG (all_oneCell_toArray o4.out) ?_))
  go_ret
  unfold SetP
  obtain ⟨Wz, hWz⟩ : ∃ Wz, w3.setCells q.p 10 (gC G' v1 v2 v3 v4) = Wz := ⟨_, rfl⟩
  have hup : Only (fun k => k = q.p) w3 Wz := by rw [← hWz]; exact Only.many (A := fun k => k = q.p) rfl _ _ (Only.refl _ _)
  have hot : ∀ k, k ≠ q.p → Wz.heap[k]? = w3.heap[k]? := fun k hk => by rw [← hWz]; exact heap_many _ _ _ _ hk
  have n1 := m1.many (gC G' v1 v2 v3 v4) 10
  rw [stC_put, hWz] at n1
  have hrow : ∀ {e size n : Nat} {v : Value} {xs : List Value} {P : Nat → Prop}, Row w3 e size v n xs P → 80 ≠ e → Row Wz e size v n xs P := fun hr hne => by rw [← hWz]; exact hr.many m1 hne _ _
  have hw3 : Wz.heap.size = w3.heap.size := by rw [← hWz]; exact size_many _ _ _ _
  rw [hWz]
  have hop := h3.st.op
  have hsz3 := hB3.size
  have hb2 := H2.out.bs
  obtain ⟨m0, hm0, hk0⟩ := H2.out.lk
  have hpl := hk0.main.lt
  have hql := hk0.map.lt
  obtain ⟨m, hm, hk⟩ := h3.lk
  refine ⟨fun k => (A k ∧ k ≠ w.heap.size) ∧ ¬ (w2.heap.size ≤ k ∧ k < w3.heap.size), fun k => O k ∨ (w2.heap.size ≤ k ∧ k < w3.heap.size), rfl, ⟨⟨m, hm, hk.same (Same.of_only hup fun k _ h1 h2 => (h3.off k (by rw [h2]; exact hop)).2.2 h1)⟩, ⟨⟨sh, sll, v1, v2, v3, v4, n1, (hrow m2 (by decide)).wider fun k hk => .inl hk, (hrow m3 (by decide)).wider fun k hk => .inl hk, ⟨?_, ?_, ?_, ?_⟩⟩, ?_, h3.st.len, .inl hop⟩, h3.fresh.only hup, fun k hk => h3.base k hk, ?_, h3.bp, h3.bq, by rw [hw3]; exact h3.bs⟩, fun k hk => hk.1.1, ?_⟩
  · exact (hrow (hG3.l.mono fun k h1 h2 => .inr ⟨h2, h1⟩) (by decide))
  · exact (hrow (hG3.d.mono fun k h1 h2 => .inr ⟨h2, h1⟩) (by decide))
  · exact (hrow (hG3.i.mono fun k h1 h2 => .inr ⟨h2, h1⟩) (by decide))
  · exact (hrow (hG3.t.mono fun k h1 h2 => .inr ⟨h2, h1⟩) (by decide))
  · intro i k hk
    obtain ⟨a1, a2, a3, a4⟩ := h3.st.ks i k hk
    exact ⟨⟨a1.list.keep (hot _ (a1.list.ne m1 (by decide))), a1.arena.keep (hot _ (a1.arena.ne m1 (by decide)))⟩, .inl a2, .inl a3, a4⟩
  · intro k hk
    rcases hk with hk | hk
    · obtain ⟨a1, a2, a3⟩ := h3.off k hk
      exact ⟨a1, by rw [hw3]; exact a2, a3⟩
    · refine ⟨by omega, by rw [hw3]; exact hk.2, fun hl => ?_⟩
      rcases hl with hl | hl | hl
      · exact hl.2 hk
      · rw [hl] at hk; omega
      · rw [hl] at hk; omega
  · exact ((HOw.out.mono (B := fun k => A k ∨ k = q.p) fun _ _ h => .inl h).trans (Only.of_below hB3)).trans (hup.mono fun _ _ h => .inr h)

set_option maxRecDepth 100000 in
set_option maxHeartbeats 2000000 in
theorem set_no (h : Sx B w q K L S G A O) (g : Array Value) (t : Int) (hE : L.held = false) :
    Calls Tryd.prog 37 #[.pointer (some ⟨q.p, 0, none⟩), .int .i64 t, .agg g] w fun e w' => e = .returned (.int .i64 141) ∧ Sx B w' q K L S G A O ∧ Below w.heap.size w w' := by
  obtain ⟨W, hW⟩ : ∃ W, w.alloc (.cells g 31) = W := ⟨_, rfl⟩
  have hBW : Below w.heap.size w W := by rw [← hW]; exact (Below.refl _ _).alloc (Nat.le_refl _) _
  have h1 := h.below hBW
  have hb1 : Calls Tryd.prog 65 #[.pointer (some ⟨q.p, 0, none⟩), .int .i64 t, .int .u8 7] W fun e w' => e = .returned (.int .i64 141) ∧ W = w' := by
    have c6 := h1.c6
    have c7 := h1.c7
    obtain ⟨m, hm, hk⟩ := h1.lk
    have hh := holder_any hk
    rw [hE] at hh
    have HH := Lib.hid hh
    clear hh hk hm h1 h hBW hW
    go_enter Tryd.func65, Tryd.ntmps65
    go_wp2_with (first | (go_at_call 61; refine (sis_yes _ _ _ c6).mono ?_; rintro e w' ⟨rfl, rfl⟩) | (go_at_call 80; refine HH.out.mono ?_; rintro e w' ⟨rfl, rfl⟩))
    go_ret
    exact ⟨rfl, rfl⟩
  have HB := Lib.hid hb1
  have H1 := Lib.hid h1
  clear hb1 h h1
  go_enter Tryd.func37, Tryd.ntmps37
  go_wp2_with (go_at_call 65; refine HB.out.mono ?_; rintro e w' ⟨rfl, rfl⟩)
  go_ret
  exact ⟨rfl, H1.out, hBW⟩
end Go.Proofs.YteiaifhnikknbaaDoor
