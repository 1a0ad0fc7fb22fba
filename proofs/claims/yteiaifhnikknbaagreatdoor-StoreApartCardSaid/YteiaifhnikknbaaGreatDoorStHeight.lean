/- The walk over (*Store).Height. -/
import Derived.Test.YteiaifhnikknbaaGreatDoorStNew
import Derived.Test.YteiaifhnikknbaaGreatDoorLaidTab
import Derived.Deep.QuietTactic
import Derived.BigQuiet
import Derived.IntWalk

namespace Go.Proofs.YteiaifhnikknbaaGreatDoor
open Go.RowKit

structure Sx (B : Nat) (w : World) (q : SRef) (K : Cfg) (L : Lk) (S : Mem) (G : Gd) (A O : Nat → Prop) : Prop where
  lk : Lks w q.r L S A
  st : StAt w q K G O
  fresh : Fresh A w
  base : ∀ k, A k → B ≤ k
  off : ∀ k, O k → B ≤ k ∧ k < w.heap.size ∧ ¬ LA q.r A k
  bp : B ≤ q.r.p
  bq : B ≤ q.r.q
  bs : B ≤ w.heap.size

variable {B : Nat} {w w' : World} {q : SRef} {K : Cfg} {L L' : Lk} {S S' : Mem} {G : Gd} {A O : Nat → Prop}
theorem StMade.sx {V : Ver} {log : Int} {e : Ending} (h : StMade K V log w e w') : ∃ q A O, e = .returned (.tuple #[.pointer (some ⟨q.p, 0, none⟩), .int .i64 0]) ∧ Sx w.heap.size w' q K ⟨66, false, 0, fun _ => none⟩ (newS K V) (newG V log) A O ∧ Below w.heap.size w w' := by
  obtain ⟨q, A, O, h1, h2, h3, h4, h5, h6, h7, h8, h9⟩ := h
  exact ⟨q, A, O, h1, ⟨h2, h3, h4, h5, h6, h7, h8, h9.size⟩, h9⟩
theorem Sx.under (h : Sx B w q K L S G A O) (hO : Only (LA q.r A) w w') : Below B w w' :=
  hO.below h.bs (fun k hk hl => by have := h.bp; have := h.bq; rcases hl with hl | hl | hl; · have := h.base k hl; omega
                                   all_goals omega)
theorem Sx.only (h : Sx B w q K L S G A O) (hO : Only (LA q.r A) w w') (hL : Lks w' q.r L' S' A) : Sx B w' q K L' S' G A O :=
  ⟨hL, h.st.same (Same.of_only hO fun k _ hk => (h.off k hk).2.2), h.fresh.only hO, h.base, fun k hk => ⟨(h.off k hk).1, Nat.lt_of_lt_of_le (h.off k hk).2.1 hO.size, (h.off k hk).2.2⟩, h.bp, h.bq, Nat.le_trans h.bs hO.size⟩
theorem Sx.below (h : Sx B w q K L S G A O) (hb : Below w.heap.size w w') : Sx B w' q K L S G A O := by
  obtain ⟨m, hm, hk⟩ := h.lk
  exact h.only (Only.of_below hb) ⟨m, hm, hk.same (Same.of_below _ hb)⟩
theorem Sx.cells (h : Sx B w q K L S G A O) : Cells w q.r.c S A := by obtain ⟨m, hm, hk⟩ := h.lk; exact hk.mem
theorem Sx.mem (h : Sx B w q K L S G A O) (hC : Cells w' q.r.c S' A) (hO : Only A w w') (hl : S.trace.length ≤ S'.trace.length) : Sx B w' q K L S' G A O := by
  obtain ⟨m, hm, hk⟩ := h.lk
  exact h.only (hO.la q.r) ⟨m, Nat.le_trans hm hl, hk.only hO hC⟩
theorem Sx.up (h : Sx B w q K L S G A O) (hO : Only A w w') : Below B w w' := h.under (hO.la q.r)
theorem Sx.c6 (h : Sx B w q K L S G A O) : w.cell? ⟨q.p, 6, none⟩ = some (.pointer (some ⟨q.r.c.p, 0, none⟩)) := by obtain ⟨sh, sll, sl, sd, si, st, h1, _⟩ := h.st.ex; exact h1.cell 6 rfl
theorem Sx.c7 (h : Sx B w q K L S G A O) : w.cell? ⟨q.p, 7, none⟩ = some (.pointer (some ⟨q.r.p, 0, none⟩)) := by obtain ⟨sh, sll, sl, sd, si, st, h1, _⟩ := h.st.ex; exact h1.cell 7 rfl

/-- What was laid meanwhile is not the memory's. -/
theorem Sx.aside (h : Sx B w q K L S G A O) (hb : Below w.heap.size w w') : Sx B w' q K L S G (fun k => A k ∧ ¬ (w.heap.size ≤ k ∧ k < w'.heap.size)) O := by
  have h1 := h.below hb
  obtain ⟨m, hm, hk⟩ := h.lk
  obtain ⟨m1, hm1, hk1⟩ := h1.lk
  exact ⟨⟨m1, hm1, hk1.main, hk1.map, (hk.mem.mono (B := fun k => A k ∧ ¬ (w.heap.size ≤ k ∧ k < w'.heap.size)) fun k hl hA => ⟨hA, by omega⟩).keep (Same.of_below _ hb), fun h => hk1.hp h.1, fun h => hk1.hq h.1⟩, h1.st, ⟨fun k hl => ⟨h1.fresh.new k hl, by omega⟩⟩, fun k hl => h.base k hl.1,
    fun k hk => ⟨(h1.off k hk).1, (h1.off k hk).2.1, fun hl => (h1.off k hk).2.2 (hl.imp (fun h => h.1) id)⟩, h.bp, h.bq, h1.bs⟩
/-- Something that is neither the store's nor the memory's is written. -/
theorem Sx.apart {P : Nat → Prop} (h : Sx B w q K L S G A O) (hup : Only P w w') (hP : ∀ k, P k → ¬ LA q.r A k ∧ ¬ O k) : Sx B w' q K L S G A O := by
  obtain ⟨m, hm, hk⟩ := h.lk
  exact ⟨⟨m, hm, hk.same (Same.of_only hup fun k _ h1 h2 => (hP k h2).1 h1)⟩, h.st.same (Same.of_only hup fun k _ h1 h2 => (hP k h2).2 h1), h.fresh.only hup, h.base, fun k hk => ⟨(h.off k hk).1, Nat.lt_of_lt_of_le (h.off k hk).2.1 hup.size, (h.off k hk).2.2⟩, h.bp, h.bq, Nat.le_trans h.bs hup.size⟩
theorem Sx.box (h : Sx B w q K L S G A O) (o : Obj) : Sx B (w.alloc o) q K L S G (fun k => A k ∧ k ≠ w.heap.size) O := by
  have h1 := h.below ((Below.refl _ w).alloc (Nat.le_refl _) o)
  obtain ⟨m, hm, hk⟩ := h.lk
  obtain ⟨m1, hm1, hk1⟩ := h1.lk
  exact ⟨⟨m1, hm1, hk1.main, hk1.map, (hk.mem.sans (Nat.le_refl _)).alloc _, fun h => hk1.hp h.1, fun h => hk1.hq h.1⟩, h1.st, h.fresh.sans (by simp) (by simp), fun k hl => h.base k hl.1,
    fun k hk => ⟨(h1.off k hk).1, (h1.off k hk).2.1, fun hl => (h1.off k hk).2.2 (hl.imp (fun h => h.1) id)⟩, h.bp, h.bq, h1.bs⟩
/-- A variable is laid, and filled. -/
theorem Sx.var (h : Sx B w q K L S G A O) (o : Obj) (cs : Array Value) : Sx B ((w.alloc o).setRow w.heap.size cs) q K L S G (fun k => A k ∧ k ≠ w.heap.size) O := by
  refine (h.box o).apart (P := fun k => k = w.heap.size) (Only.setRow (A := fun k => k = w.heap.size) (Only.refl _ _) rfl _) ?_
  rintro k rfl
  obtain ⟨m, hm, hk⟩ := h.lk
  exact ⟨fun hl => hl.elim (fun h => h.2 rfl) (fun hl => hl.elim (fun e => by have := hk.main.lt; omega) (fun e => by have := hk.map.lt; omega)), fun hl => by have := (h.off _ hl).2.1; omega⟩
theorem Sx.unbox {b : Nat} {P : Nat → Prop} {w0 : World} {L0 : Lk} {S0 : Mem} {G0 : Gd} (h0 : Sx B w0 q K L0 S0 G0 A O) (h : Sx B w q K L S G (fun k => (A k ∧ k ≠ b) ∧ P k) O) : Sx B w q K L S G (fun k => A k ∧ P k) O := by
  obtain ⟨m0, hm0, hk0⟩ := h0.lk
  obtain ⟨m, hm, hk⟩ := h.lk
  exact ⟨⟨m, hm, hk.main, hk.map, hk.mem.mono (fun k _ hA => ⟨hA.1.1, hA.2⟩), fun h => hk0.hp h.1, fun h => hk0.hq h.1⟩, h.st, ⟨fun k hl => ⟨(h.fresh.new k hl).1.1, (h.fresh.new k hl).2⟩⟩, fun k hl => h0.base k hl.1, fun k hk => ⟨(h.off k hk).1, (h.off k hk).2.1, fun hl => (h0.off k hk).2.2 (hl.imp (fun h => h.1) id)⟩, h.bp, h.bq, h.bs⟩
theorem Sx.poked {P : Nat → Prop} {w3 w4 : World} {L0 : Lk} {S0 : Mem} {G0 : Gd} (h0 : Sx B w q K L0 S0 G0 A O) (h3 : Sx B w3 q K L S G (fun k => (A k ∧ k ≠ w.heap.size) ∧ P k) O) (hup : Only (fun k => k = w.heap.size) w3 w4) : Sx B w4 q K L S G (fun k => A k ∧ P k) O := by
  refine h0.unbox (b := w.heap.size) (h3.apart hup ?_)
  rintro k rfl
  obtain ⟨m0, hm0, hk0⟩ := h0.lk
  exact ⟨fun hl => hl.elim (fun h => h.1.2 rfl) (fun hl => hl.elim (fun e => by have := hk0.main.lt; omega) (fun e => by have := hk0.map.lt; omega)), fun hl => by have := (h0.off _ hl).2.1; omega⟩
theorem Sx.wider {A' : Nat → Prop} (h : Sx B w q K L S G A O) (hA : ∀ k, A k ↔ A' k) : Sx B w q K L S G A' O := by
  have e : A = A' := funext fun k => propext (hA k)
  rw [← e]; exact h

set_option maxHeartbeats 400000 in
theorem sis_yes (w : World) (p : Nat) (a : Addr) (h : w.cell? ⟨p, 6, none⟩ = some (.pointer (some a))) : Calls Tryz.prog 17 #[.pointer (some ⟨p, 0, none⟩)] w fun e w' => e = .returned (.bool true) ∧ w = w' := by
  go_enter Tryz.func17, Tryz.ntmps17
  go_wp2
  go_ret
  exact ⟨rfl, rfl⟩
set_option maxHeartbeats 400000 in
theorem scells_any (h : Sx B w q K L S G A O) : Calls Tryz.prog 11 #[.pointer (some ⟨q.p, 0, none⟩)] w fun e w' => e = .returned (.pointer (some ⟨q.r.c.p, 0, none⟩)) ∧ w = w' := by
  have c6 := h.c6
  go_enter Tryz.func11, Tryz.ntmps11
  go_wp2_with (go_at_call 17; refine (sis_yes _ _ _ c6).mono ?_; rintro e w' ⟨rfl, rfl⟩)
  go_ret
  exact ⟨rfl, rfl⟩
set_option maxHeartbeats 400000 in
theorem slocks_any (h : Sx B w q K L S G A O) : Calls Tryz.prog 16 #[.pointer (some ⟨q.p, 0, none⟩)] w fun e w' => e = .returned (.pointer (some ⟨q.r.p, 0, none⟩)) ∧ w = w' := by
  have c6 := h.c6
  have c7 := h.c7
  go_enter Tryz.func16, Tryz.ntmps16
  go_wp2_with (go_at_call 17; refine (sis_yes _ _ _ c6).mono ?_; rintro e w' ⟨rfl, rfl⟩)
  go_ret
  exact ⟨rfl, rfl⟩
theorem slock_any (h : Sx B w q K L S G A O) (n : Int) (hw : (Lit.int .i64 n).wf = true) (hn : S.trace.length < trMax) :
    Calls Tryz.prog 27 #[.pointer (some ⟨q.r.p, 0, none⟩), .int .i64 n] w fun e w' => e = .returned (.int .i64 (lockE L n)) ∧ Sx B w' q K (lockL L n) (S.notes (lockN L n)) G A O ∧ Below B w w' := by
  obtain ⟨m, hm, hk⟩ := h.lk
  refine (lock_any hk h.fresh hn n hw).mono ?_
  rintro e w' ⟨rfl, hk', hO⟩
  exact ⟨rfl, h.only hO ⟨m, by simp [Mem.notes]; omega, hk'⟩, h.under hO⟩

/-- What 'held' answers. -/
def heldE (L : Lk) (t : Int) : Int := if L.held = true ∧ L.holder = t then 0 else 141
def heldS (L : Lk) (S : Mem) (t what : Int) : Mem := if L.held = true ∧ L.holder = t then S.note ⟨t, what, 0⟩ else S
set_option maxRecDepth 100000 in
set_option maxHeartbeats 1000000 in
theorem held_any (h : Sx B w q K L S G A O) (t what : Int) (hw : what = 6 ∨ what = 7) (ht : L.held = true → 0 ≤ L.holder ∧ L.holder < 64) (hp : 0 < S.plains.length) (hn : S.trace.length < trMax) :
    Calls Tryz.prog 53 #[.pointer (some ⟨q.p, 0, none⟩), .int .i64 t, .int .u8 what] w fun e w' => e = .returned (.int .i64 (heldE L t)) ∧ Sx B w' q K L (heldS L S t what) G A O ∧ Below B w w' ∧ Only A w w' := by
  have c6 := h.c6
  have c7 := h.c7
  obtain ⟨m, hm, hk⟩ := h.lk
  have hh := holder_any hk
  by_cases hd : L.held = true
  · rw [hd] at hh
    have e1 : holderV L = L.holder := by simp [holderV, hd]
    rw [e1] at hh
    obtain ⟨l, hl⟩ : ∃ l, L.holder = l := ⟨_, rfl⟩
    by_cases hlt : l = t
    · subst hlt
      have e2 : heldE L l = 0 := by simp [heldE, hd, hl]
      have e3 : heldS L S l what = S.note ⟨l, what, 0⟩ := by simp [heldS, hd, hl]
      rw [e2, e3]
      rw [hl] at hh
      have ht2 := ht hd
      rw [hl] at ht2
      have hok : okNote S ⟨l, what, 0⟩ = true := by unfold okNote; exact decide_eq_true ⟨by show 0 ≤ l; omega, by show l < 64; omega, by show (0:Int) ≤ 0; omega, by show 1 ≤ what; omega, by show what ≤ 9; omega, fun h => by have : what ≤ 5 := h; omega, fun _ _ => by show (0:Int) < S.plains.length; omega, fun h => by have : 8 ≤ what := h; omega⟩
      have hnt := note_ok h.cells h.fresh hn ⟨l, what, 0⟩ hok
      have HNT := Lib.hid hnt
      have HH := Lib.hid hh
      clear hnt hh hk hm hok hl e1 e2 e3 hd ht ht2 hw
      go_enter Tryz.func53, Tryz.ntmps53
      go_wp2_with (first | (go_at_call 17; refine (sis_yes _ _ _ c6).mono ?_; rintro e w' ⟨rfl, rfl⟩) | (go_at_call 64; refine HH.out.mono ?_; rintro e w' ⟨rfl, rfl⟩) | (go_at_call 52; refine HNT.out.mono ?_; rintro e w2 ⟨rfl, hC2, hO2⟩))
      go_ret
      exact ⟨rfl, h.mem hC2 hO2 (by simp [Mem.note]), h.up hO2, hO2⟩
    · have e2 : heldE L t = 141 := by simp [heldE, hl, hlt]
      have e3 : heldS L S t what = S := by simp [heldS, hl, hlt]
      rw [e2, e3]
      rw [hl] at hh
      have hbn : (l != t) = true := by simp [hlt]
      have HH := Lib.hid hh
      clear hh hk hm hl e1 e2 e3 hd ht hw hlt
      go_enter Tryz.func53, Tryz.ntmps53
      go_wp2_with (first | (go_at_call 17; refine (sis_yes _ _ _ c6).mono ?_; rintro e w' ⟨rfl, rfl⟩) | (go_at_call 64; refine HH.out.mono ?_; rintro e w' ⟨rfl, rfl⟩))
      go_ret
      exact ⟨rfl, h, Below.refl _ _, Only.refl _ _⟩
  · have hd2 : L.held = false := by simpa using hd
    rw [hd2] at hh
    have e1 : holderV L = 0 := by simp [holderV, hd2]
    rw [e1] at hh
    have e2 : heldE L t = 141 := by simp [heldE, hd2]
    have e3 : heldS L S t what = S := by simp [heldS, hd2]
    rw [e2, e3]
    have HH := Lib.hid hh
    clear hh hk hm e1 e2 e3 hd hd2 ht hw
    go_enter Tryz.func53, Tryz.ntmps53
    go_wp2_with (first | (go_at_call 17; refine (sis_yes _ _ _ c6).mono ?_; rintro e w' ⟨rfl, rfl⟩) | (go_at_call 64; refine HH.out.mono ?_; rintro e w' ⟨rfl, rfl⟩))
    go_ret
    exact ⟨rfl, h, Below.refl _ _, Only.refl _ _⟩

/-- What Get answers. -/
def GotP (B : Nat) (q : SRef) (K : Cfg) (L : Lk) (S' : Mem) (G : Gd) (A O : Nat → Prop) (w : World) (E : Int) (e : Ending) (w' : World) : Prop :=
  (∃ sl sd si st N, e = .returned (.tuple #[.agg (gC (if E = 0 then G else gz) sl sd si st).toArray, .int .i64 E]) ∧ w.heap.size ≤ N ∧ N ≤ w'.heap.size ∧ GH w' (if E = 0 then G else gz) sl sd si st N ∧ Sx B w' q K L S' G (fun k => A k ∧ ¬ (N ≤ k ∧ k < w'.heap.size)) O) ∧ Only A w w'
theorem gz_gh (w : World) (N : Nat) : GH w gz (.slice none 0 0) (.slice none 0 0) (.slice none 0 0) (.slice none 0 0) N :=
  ⟨⟨⟨rfl, .inl ⟨rfl, _, _, rfl⟩⟩, ⟨rfl, .inl ⟨rfl, _, _, rfl⟩⟩, ⟨rfl, .inl ⟨rfl, _, _, rfl⟩⟩, ⟨rfl, .inl ⟨rfl, _, _, rfl⟩⟩⟩, (fun k h => by cases h), (fun k h => by cases h), (fun k h => by cases h), (fun k h => by cases h)⟩
theorem gz_cells : gZ = gC gz (.slice none 0 0) (.slice none 0 0) (.slice none 0 0) (.slice none 0 0) := rfl
set_option maxRecDepth 100000 in
set_option maxHeartbeats 2000000 in
theorem get_any (h : Sx B w q K L S G A O) (hs : G.Small 1000000) (t : Int) (ht : L.held = true → 0 ≤ L.holder ∧ L.holder < 64) (hp : 0 < S.plains.length) (hn : S.trace.length < trMax) :
    Calls Tryz.prog 28 #[.pointer (some ⟨q.p, 0, none⟩), .int .i64 t] w (GotP B q K L (heldS L S t 6) G A O w (heldE L t)) := by
  obtain ⟨W, hW⟩ : ∃ W, w.alloc (.cells #[.slice none 0 0, .slice none 0 0, .int .i64 0, .int .u64 0, .int .i64 0, .int .i64 0, .slice none 0 0, .int .u64 0, .int .u64 0, .slice none 0 0, .bool false] 67) = W := ⟨_, rfl⟩
  have hBW : Below w.heap.size w W := by rw [← hW]; exact (Below.refl _ _).alloc (Nat.le_refl _) _
  have k1 : Blk W w.heap.size 67 gZ := by rw [← hW]; exact Blk.new _ _ _
  have h1 : Sx B W q K L S G (fun k => A k ∧ k ≠ w.heap.size) O := by rw [← hW]; exact h.box _
  have hlt : W.heap.size = w.heap.size + 1 := by rw [← hW]; simp
  have hb1 := held_any h1 t 6 (.inl rfl) ht hp hn
  have H := Lib.hid h
  have HB := Lib.hid hb1
  have hbs := h.bs
  by_cases hE : L.held = true ∧ L.holder = t
  · have e1 : heldE L t = 0 := by rw [heldE, if_pos hE]
    rw [e1] at HB ⊢
    have HE := Lib.hid e1
    clear hb1 h1 ht hp hn e1 hE h
    go_enter Tryz.func28, Tryz.ntmps28
    go_upto_region 4 with (go_at_call 53; refine HB.out.mono ?_; rintro e w2 ⟨rfl, h2, hB2, hO2⟩)
    obtain ⟨sh, sll, sl, sd, si, st, m1, m2, m3, m4⟩ := h2.st.ex
    have hr := m1.range 10 (gC G sl sd si st) (fun j v hv => by rw [stC, List.getElem?_append_right (by simp [cfC])]; simpa [cfC] using hv)
    have how := own_any m4.gr hs
    have k2 := k1.keep (hO2.block _ k1.lt (fun h => h.2 rfl))
    have HOW := Lib.hid how
    have H2 := Lib.hid h2
    have HB2 := Lib.hid hB2
    have HO2 := Lib.hid hO2
    clear how h2 hB2 m1 m2 m3 m4 HB hO2
    go_wp2_with (first | (refine wpList_load_mid rfl 67 _ rfl q.p 10 (by rfl) (gC G sl sd si st) _ hr Tryz.underlying67 rfl infoG ?_) | (go_at_call 54; refine HOW.out.mono ?_; rintro e w3 ⟨v1, v2, v3, v4, rfl, hG3, hB3⟩; have k3 := k2.keep (hB3.block _ k2.lt)) | (refine wpList_store_blk rfl 67 _ _ rfl w.heap.size (gC G v1 v2 v3 v4) (by rfl) (by rfl) gZ k3 infoG rfl (gC_one _ hG3.l.slice_one hG3.d.slice_one hG3.i.slice_one hG3.t.slice_one) ?_))
    have k4 := k3.setRow (gC G v1 v2 v3 v4)
    have hsz2 := HO2.out.size
    have hsz3 := hB3.size
    refine bodyPost_ret (results_cell_tmp (P := Tryz.prog) Tryz.results28 rfl (k4.loadRow _ Tryz.underlying67 rfl infoG) (.int .i64 0) rfl) rfl ?_
    have h3 := H2.out.aside hB3
    have hO4 := H.out.poked h3 (Only.setRow (A := fun k => k = w.heap.size) (Only.refl _ w3) rfl (gC G v1 v2 v3 v4).toArray)
    refine ⟨⟨v1, v2, v3, v4, w2.heap.size, rfl, by omega, by rw [setRow_size]; exact hsz3, ?_, hO4.wider fun k => by rw [setRow_size]⟩, ?_⟩
    · exact hG3.gh.keep (fun k h1 _ => heap_setRow_other _ _ _ (by omega))
    · have hAw : A w.heap.size := H.out.fresh.new _ (Nat.le_refl _)
      exact (((Only.of_below hBW : Only A w W).trans (HO2.out.mono fun _ _ h => h.1)).trans (Only.of_below hB3)).setRow hAw _
  · have e1 : heldE L t = 141 := by rw [heldE, if_neg hE]
    rw [e1] at HB ⊢
    clear hb1 h1 ht hp hn e1 hE h
    go_enter Tryz.func28, Tryz.ntmps28
    go_wp2_with (first | (go_at_call 53; refine HB.out.mono ?_; rintro e w2 ⟨rfl, h2, hB2, hO2⟩; have k2 := k1.keep (hO2.block _ k1.lt (fun h => h.2 rfl))) | (refine wpList_store_blk rfl 67 _ _ rfl w.heap.size gZ (by rfl) (by rfl) gZ k2 infoG rfl (gC_one gz rfl rfl rfl rfl) ?_))
    have k4 := k2.setRow gZ
    refine bodyPost_ret (results_cell_tmp (P := Tryz.prog) Tryz.results28 rfl (k4.loadRow _ Tryz.underlying67 rfl infoG) (.int .i64 141) rfl) rfl ?_
    have h3 : Sx B w2 q K L (heldS L S t 6) G (fun k => (A k ∧ k ≠ w.heap.size) ∧ True) O := h2.wider fun k => by simp
    have hO4 := H.out.poked h3 (Only.setRow (A := fun k => k = w.heap.size) (Only.refl _ w2) rfl gZ.toArray)
    refine ⟨⟨_, _, _, _, (w2.setRow w.heap.size gZ.toArray).heap.size, rfl, ?_, Nat.le_refl _, gz_gh _ _, hO4.wider fun k => ⟨fun h => ⟨h.1, by omega⟩, fun h => ⟨h.1, trivial⟩⟩⟩, ?_⟩
    · rw [setRow_size]; have := hO2.size; omega
    · have hAw : A w.heap.size := H.out.fresh.new _ (Nat.le_refl _)
      exact ((Only.of_below hBW : Only A w W).trans (hO2.mono fun _ _ h => h.1)).setRow hAw _
end Go.Proofs.YteiaifhnikknbaaGreatDoor


namespace Go.Proofs.YteiaifhnikknbaaGreatDoor
open Go.RowKit

def stHeight (K : Cfg) (seq : Int) : Int := if K.heights = [] then 1 else hgt (K.heights.getD (seq % K.heights.length).toNat 0) 6
variable {B : Nat} {w w' : World} {q : SRef} {K : Cfg} {L L' : Lk} {S S' : Mem} {G : Gd} {A O : Nat → Prop}
set_option maxRecDepth 100000 in
set_option maxHeartbeats 1000000 in
theorem sheight_any (h : Sx B w q K L S G A O) (hT : Tab w) (hu : ∀ x ∈ K.heights, 0 ≤ x ∧ x < 4294967296) (hn : K.heights.length ≤ 4000000000) (seq : Int) (s0 : 0 ≤ seq) (s1 : seq ≤ 18446744073709551615) :
    Calls Tryz.prog 7 #[.pointer (some ⟨q.p, 0, none⟩), .int .u64 seq] w fun e w' => e = .returned (.int .i64 (stHeight K seq)) ∧ Quiet w w' := by
  have c6 := h.c6
  obtain ⟨sh, sll, sl, sd, si, st, k1, hr, _⟩ := h.st.ex
  have c5 := k1.cell 5 (v := sh) rfl
  cases hc : K.heights with
  | nil =>
    have e1 : stHeight K seq = 1 := by simp [stHeight, hc]
    rw [e1]
    rw [hc] at hr
    obtain ⟨ao, c, e⟩ := hr.slice
    rw [List.length_nil] at e
    subst e
    clear hr k1 hc e1 hu hn h hT
    go_enter Tryz.func7, Tryz.ntmps7
    go_wp2_with (go_at_call 17; refine (sis_yes _ _ _ c6).mono ?_; rintro e w' ⟨rfl, rfl⟩)
    go_ret
    exact ⟨rfl, Quiet.refl _⟩
  | cons x l =>
    obtain ⟨n, hnn⟩ : ∃ n, K.heights.length = n := ⟨_, rfl⟩
    have hn0 : 0 < n := by rw [← hnn, hc]; simp
    rw [hnn] at hr hn
    obtain ⟨j, hj⟩ : ∃ j : Nat, seq % (n : Int) = (j : Int) := ⟨(seq % (n : Int)).toNat, by have := Int.emod_nonneg seq (show (n : Int) ≠ 0 by omega); omega⟩
    have hjn : j < n := by have := Int.emod_lt_of_pos seq (show (0 : Int) < n by omega); omega
    obtain ⟨y, hy⟩ : ∃ y, K.heights[j]? = some y := ⟨_, List.getElem?_eq_getElem (by omega)⟩
    have hyb := hu y (List.mem_of_getElem? hy)
    have e1 : stHeight K seq = hgt y 6 := by
      rw [stHeight, if_neg (by rw [hc]; simp), hnn, hj, Int.toNat_natCast, List.getD_eq_getElem?_getD, hy]; rfl
    rw [e1]
    rcases hr.reads.form with ⟨h0, _⟩ | ⟨b, off, c, rfl, hc2, hcell⟩
    · omega
    · have cy := hcell j (.int .u32 y) (by simp [u32s, hy])
      have hht : ∀ k, Calls Tryz.prog 18 #[.int .u32 y, .int .i64 6] (w.drewN k) fun e w' => e = .returned (.int .i64 (hgt y 6)) ∧ w' = w.drewN k := fun k => (height_any (w.drewN k) (hT.later (Quiet.below ⟨⟨k, rfl⟩⟩ _)) y 6 hyb.1 hyb.2 (by decide)).mono (by rintro e w' ⟨rfl, rfl⟩; exact ⟨rfl, rfl⟩)
      have HT := Lib.hid hht
      have b0 : (0 : Int) ≤ (j : Int) := by omega
      have b1 : (j : Int) < (n : Int) := by omega
      have hw1 : IntKind.u64.wrap (n : Int) = n := IntWalk.u64_in _ (by omega)
      have hne : ((n : Int) == 0) = false := by simp; omega
      have hne2 : ¬ n = 0 := by omega
      have hne3 : ¬ (n : Int) = 0 := by omega
      have hw2 : IntKind.u64.wrap (j : Int) = j := IntWalk.u64_in _ (by omega)
      have htm : seq.tmod (n : Int) = (j : Int) := by rw [Int.tmod_eq_emod_of_nonneg s0, hj]
      clear hr k1 hc e1 hu hcell h hT hht hy hnn
      go_enter Tryz.func7, Tryz.ntmps7
      go_upto_region 5 with (go_at_call 17; refine (sis_yes _ _ _ c6).mono ?_; rintro e w' ⟨rfl, rfl⟩)
      go_quiet ((go_at_call 18; exact Calls.quiet_of_same (HT.out _)))
      go_wp2
      go_ret
      exact ⟨rfl, ⟨_, rfl⟩⟩
end Go.Proofs.YteiaifhnikknbaaGreatDoor
