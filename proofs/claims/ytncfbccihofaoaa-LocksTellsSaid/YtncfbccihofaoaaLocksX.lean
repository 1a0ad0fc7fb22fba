/- The contracts of a mutex in a loop, beside blocks of the loop's own. -/
import Derived.Test.YtncfbccihofaoaaLocksAwake
import Derived.Test.YtncfbccihofaoaaOpen14
namespace Go.Proofs.Ytncfbccihofaoaa
open Go.RowKit Go.Maps

structure Lx (A : Nat → Prop) (B : Nat) (w : World) (r : LRef) (L : Lk) (S : Mem) : Prop where
  lk : Lks w r L S A
  base : ∀ k, A k → B ≤ k
  fresh : Fresh A w
  bp : B ≤ r.p
  bq : B ≤ r.q
  bs : B ≤ w.heap.size

variable {A : Nat → Prop} {B : Nat} {w w' : World} {r : LRef} {L : Lk} {S S' : Mem}
theorem Lw.lx (h : Lw B w r L S) : Lx (LB B r) B w r L S := ⟨h.lk, fun _ hk => hk.1, h.fresh, h.bp, h.bq, h.bs⟩
theorem Lx.lw (h : Lx A B w r L S) : Lw B w r L S := by
  obtain ⟨m, hm, hk⟩ := h.lk
  exact ⟨⟨m, hm, hk.main, hk.map, hk.mem.mono (fun k _ hA => ⟨h.base k hA, fun e => hk.hp (e ▸ hA), fun e => hk.hq (e ▸ hA)⟩), fun h => h.2.1 rfl, fun h => h.2.2 rfl⟩, h.bp, h.bq, h.bs⟩
theorem Lx.under (h : Lx A B w r L S) (hO : Only (LA r A) w w') : Below B w w' :=
  hO.below h.bs (fun k hk hl => by have := h.bp; have := h.bq; rcases hl with hl | hl | hl; · have := h.base k hl; omega
                                   all_goals omega)
theorem Lx.p_lt (h : Lx A B w r L S) : r.p < w.heap.size ∧ r.q < w.heap.size := by obtain ⟨m, hm, hk⟩ := h.lk; exact ⟨hk.main.lt, hk.map.lt⟩
theorem Lx.of (h : Lx A B w r L S) {m : Nat} {L' : Lk} (hk : LksAt w' r L' S' A m) (hm : m ≤ S'.trace.length) (hO : Only (LA r A) w w') : Lx A B w' r L' S' :=
  ⟨⟨m, hm, hk⟩, h.base, ⟨fun k hl => h.fresh.new k (Nat.le_trans hO.size hl)⟩, h.bp, h.bq, Nat.le_trans h.bs hO.size⟩
theorem Lx.below (h : Lx A B w r L S) (hb : Below w.heap.size w w') : Lx A B w' r L S := by
  obtain ⟨m, hm, hk⟩ := h.lk
  exact h.of (hk.same (Same.of_below _ hb)) hm (Only.of_below hb)
theorem Lx.drewN (h : Lx A B w r L S) (n : Nat) : Lx A B (w.drewN n) r L S := h.below ⟨rfl, rfl, rfl, Nat.le_refl _, fun _ _ => rfl⟩
/-- A box of the loop's own is laid. -/
theorem Lx.box (h : Lx A B w r L S) (o : Obj) : Lx (fun k => A k ∧ k ≠ w.heap.size) B (w.alloc o) r L S := by
  obtain ⟨m, hm, hk⟩ := h.lk
  have h1 := hk.same (Same.of_below (LA r A) ((Below.refl _ w).alloc (Nat.le_refl _) o))
  exact ⟨⟨m, hm, h1.main, h1.map, (hk.mem.sans (Nat.le_refl _)).alloc _, fun h => h1.hp h.1, fun h => h1.hq h.1⟩, fun k hl => h.base k hl.1, h.fresh.sans (by simp) (by simp), h.bp, h.bq, by have := h.bs; simp; omega⟩
theorem Lx.unbox {b : Nat} (h : Lx (fun k => A k ∧ k ≠ b) B w r L S) (hp : ¬ A r.p) (hq : ¬ A r.q) (hb : ∀ k, A k → B ≤ k) : Lx A B w r L S := by
  obtain ⟨m, hm, hk⟩ := h.lk
  exact ⟨⟨m, hm, hk.main, hk.map, hk.mem.mono (fun k _ hA => hA.1), hp, hq⟩, hb, ⟨fun k hl => (h.fresh.new k hl).1⟩, h.bp, h.bq, h.bs⟩
theorem Lx.nots (h : Lx A B w r L S) : ¬ A r.p ∧ ¬ A r.q := by obtain ⟨m, hm, hk⟩ := h.lk; exact ⟨hk.hp, hk.hq⟩

theorem lock_x (h : Lx A B w r L S) (n : Int) (hw : (Lit.int .i64 n).wf = true) (hn : S.trace.length < trMax) :
    Calls Try.prog 17 #[.pointer (some ⟨r.p, 0, none⟩), .int .i64 n] w fun e w' => e = .returned (.int .i64 (lockE L n)) ∧ Lx A B w' r (lockL L n) (S.notes (lockN L n)) ∧ Only (LA r A) w w' := by
  obtain ⟨m, hm, hk⟩ := h.lk
  refine (lock_any hk h.fresh hn n hw).mono ?_
  rintro e w' ⟨rfl, hk', hO⟩
  exact ⟨rfl, h.of hk' (by simp [Mem.notes]; omega) hO, hO⟩
theorem unlock_x (h : Lx A B w r L S) (n : Int) (hn : S.trace.length < trMax) :
    Calls Try.prog 19 #[.pointer (some ⟨r.p, 0, none⟩), .int .i64 n] w fun e w' => e = .returned (.int .i64 (holdsE L n 0)) ∧ Lx A B w' r (unlockL L n) (S.notes (unlockN L n)) ∧ Only (LA r A) w w' := by
  obtain ⟨m, hm, hk⟩ := h.lk
  refine (unlock_any hk h.fresh hn n).mono ?_
  rintro e w' ⟨rfl, hk', hO⟩
  exact ⟨rfl, h.of hk' (by simp [Mem.notes]; omega) hO, hO⟩
theorem wait_x (h : Lx A B w r L S) (n cond : Int) (hw : (Lit.int .i64 cond).wf = true) (hn : S.trace.length < trMax) :
    Calls Try.prog 21 #[.pointer (some ⟨r.p, 0, none⟩), .int .i64 n, .int .i64 cond] w fun e w' => e = .returned (.int .i64 (onE L n cond)) ∧ Lx A B w' r (waitL L n cond) (S.notes (waitN L n cond)) ∧ Only (LA r A) w w' := by
  obtain ⟨m, hm, hk⟩ := h.lk
  refine (wait_any hk hm h.fresh hn n cond hw).mono ?_
  rintro e w' ⟨rfl, ⟨m', hm', hk'⟩, hO⟩
  exact ⟨rfl, h.of hk' hm' hO, hO⟩
theorem wake_x (h : Lx A B w r L S) (n cond : Int) :
    Calls Try.prog 23 #[.pointer (some ⟨r.p, 0, none⟩), .int .i64 n, .int .i64 cond] w fun e w' => e = .returned (.tuple #[.int .i64 (wakeM L n cond), .int .i64 (onE L n cond)]) ∧ Lx A B w' r (wakeL L n cond) S ∧ Only (LA r A) w w' := by
  obtain ⟨m, hm, hk⟩ := h.lk
  refine (wake_any hk h.fresh n cond).mono ?_
  rintro e w' ⟨rfl, hk', hO⟩
  exact ⟨rfl, h.of hk' hm hO, hO⟩
theorem ltrace_x (h : Lx A B w r L S) (hn : S.trace.length < trMax) : Calls Try.prog 9 #[.pointer (some ⟨r.c.p, 0, none⟩)] w fun e w' => ∃ v, e = .returned v ∧ Row w' 38 3 v S.trace.length (accs S.trace) (fun k => w.heap.size ≤ k) ∧ Lx A B w' r L S ∧ Below w.heap.size w w' := by
  refine (ltrace_w h.lw hn).mono ?_
  rintro e w' ⟨v, rfl, hr, hb⟩
  exact ⟨v, rfl, hr, h.below hb, hb⟩

theorem lock_zero {n : Int} (h : lockE L n = 0) : (0 ≤ n ∧ n < 64) ∧ L.sl n.toNat = none ∧ L.held = false := by
  unfold lockE at h
  split at h
  · cases h
  · split at h
    · cases h
    · split at h
      · cases h
      · rename_i h1 h2 h3
        exact ⟨by omega, by simpa using h2, by simpa using h3⟩
def doE (L : Lk) (what t c : Int) : Int := if what % 5 ≤ 1 then lockE L t else if what % 5 = 2 then holdsE L t 0 else onE L t c
def doL (L : Lk) (what t c : Int) : Lk := if what % 5 ≤ 1 then lockL L t else if what % 5 = 2 then unlockL L t else if what % 5 = 3 then waitL L t c else wakeL L t c
def doN (L : Lk) (what t c : Int) : List Acc := if what % 5 ≤ 1 then lockN L t else if what % 5 = 2 then unlockN L t else if what % 5 = 3 then waitN L t c else []

theorem six_in (t : Int) : 0 ≤ (wrap64 (t.tmod 6 + 6)).tmod 6 ∧ (wrap64 (t.tmod 6 + 6)).tmod 6 < 6 := by
  have h1 := Int.tmod_lt_of_pos t (b := 6) (by decide)
  have h2 := Int.lt_tmod_of_pos t (b := 6) (by decide)
  have h3 : wrap64 (t.tmod 6 + 6) = t.tmod 6 + 6 := by unfold wrap64; omega
  rw [h3]
  exact ⟨Int.tmod_nonneg _ (by omega), Int.tmod_lt_of_pos _ (by decide)⟩
theorem cond_in (t n : Int) (h0 : 1 ≤ n) (hn : n ≤ 4) : 0 ≤ (wrap64 (t.tmod n + n)).tmod n ∧ (wrap64 (t.tmod n + n)).tmod n < n := by
  have h1 := Int.tmod_lt_of_pos t (b := n) (by omega)
  have h2 := Int.lt_tmod_of_pos t (b := n) (by omega)
  have h3 : wrap64 (t.tmod n + n) = t.tmod n + n := by unfold wrap64; omega
  rw [h3]
  exact ⟨Int.tmod_nonneg _ (by omega), Int.tmod_lt_of_pos _ (by omega)⟩

set_option maxRecDepth 100000 in
set_option maxHeartbeats 2000000 in
theorem does_x (h : Lx A B w r L S) (hn : S.trace.length < trMax) (what task cond n : Int) (hw0 : 0 ≤ what ∧ what ≤ 255) (n0 : 1 ≤ n) (n1 : n ≤ 4) (t c : Int) (ht : (wrap64 (task.tmod 6 + 6)).tmod 6 = t) (hc : (wrap64 (cond.tmod n + n)).tmod n = c)
    (t0 : 0 ≤ t ∧ t < 6) (c0 : 0 ≤ c ∧ c < n) :
    Calls Try.prog 11 #[.pointer (some ⟨r.p, 0, none⟩), .agg #[.int .u8 what, .int .i64 task, .int .i64 cond], .int .i64 n] w fun e w' => e = .returned (.tuple #[.int .i64 t, .int .i64 c, .int .i64 (doE L what t c)]) ∧ Lx A B w' r (doL L what t c) (S.notes (doN L what t c)) ∧ Only (LA r A) w w' := by
  have hwt : (Lit.int .i64 t).wf = true := WalkArith.wf_i64 (by omega)
  have hwc : (Lit.int .i64 c).wf = true := WalkArith.wf_i64 (by omega)
  have hn0 : ¬ n = 0 := by omega
  go_enter Try.func11, Try.ntmps11
  go_upto_region 1 with fail
  go_cut [9, 10] (fun s9 s10 wx => s9 = .int .i64 t ∧ s10 = .int .i64 c ∧ ∃ N, wx = (w.alloc (.cells #[.int .u8 what, .int .i64 task, .int .i64 cond] 28)).drewN N)
  case first =>
    go_quiet (fail)
    go_wp2_with fail
    all_goals go_meet
    exact ⟨rfl, rfl, _, rfl⟩
  case rest =>
    obtain ⟨rfl, rfl, N, rfl⟩ := hcut
    have hOb : Only (LA r A) w ((w.alloc (.cells #[.int .u8 what, .int .i64 task, .int .i64 cond] 28)).drewN N) := ((Only.refl _ w).alloc _).drewN N
    have hb : Lx A B ((w.alloc (.cells #[.int .u8 what, .int .i64 task, .int .i64 cond] 28)).drewN N) r L S := (h.below ((Below.refl _ w).alloc (Nat.le_refl _) _)).drewN N
    clear h ht hc
    have hq : what % 5 = 0 ∨ what % 5 = 1 ∨ what % 5 = 2 ∨ what % 5 = 3 ∨ what % 5 = 4 := by omega
    rcases hq with q0 | q0 | q0 | q0 | q0
    · go_wp2_with (go_at_call 17; refine (lock_x hb t hwt hn).mono ?_; rintro e w2 ⟨rfl, hL2, hO2⟩)
      exact bodyPost_ret (v := .tuple #[.int .i64 t, .int .i64 c, .int .i64 (lockE L t)]) (by simp [results, Try.results11, go_sem]) rfl ⟨by simp [doE, q0], by simpa [doL, doN, q0] using hL2, hOb.trans hO2⟩
    · go_wp2_with (go_at_call 17; refine (lock_x hb t hwt hn).mono ?_; rintro e w2 ⟨rfl, hL2, hO2⟩)
      exact bodyPost_ret (v := .tuple #[.int .i64 t, .int .i64 c, .int .i64 (lockE L t)]) (by simp [results, Try.results11, go_sem]) rfl ⟨by simp [doE, q0], by simpa [doL, doN, q0] using hL2, hOb.trans hO2⟩
    · go_wp2_with (go_at_call 19; refine (unlock_x hb t hn).mono ?_; rintro e w2 ⟨rfl, hL2, hO2⟩)
      exact bodyPost_ret (v := .tuple #[.int .i64 t, .int .i64 c, .int .i64 (holdsE L t 0)]) (by simp [results, Try.results11, go_sem]) rfl ⟨by simp [doE, q0], by simpa [doL, doN, q0] using hL2, hOb.trans hO2⟩
    · go_wp2_with (go_at_call 21; refine (wait_x hb t c hwc hn).mono ?_; rintro e w2 ⟨rfl, hL2, hO2⟩)
      exact bodyPost_ret (v := .tuple #[.int .i64 t, .int .i64 c, .int .i64 (onE L t c)]) (by simp [results, Try.results11, go_sem]) rfl ⟨by simp [doE, q0], by simpa [doL, doN, q0] using hL2, hOb.trans hO2⟩
    · go_wp2_with (go_at_call 23; refine (wake_x hb t c).mono ?_; rintro e w2 ⟨rfl, hL2, hO2⟩)
      exact bodyPost_ret (v := .tuple #[.int .i64 t, .int .i64 c, .int .i64 (onE L t c)]) (by simp [results, Try.results11, go_sem]) rfl ⟨by simp [doE, q0], by simpa [doL, doN, q0, Mem.notes] using hL2, hOb.trans hO2⟩

end Go.Proofs.Ytncfbccihofaoaa
