/- The walks over Load, Store, Swap, Add. -/
import Derived.Test.YtkpjfdhjkgdcbaaTraced

namespace Go.Proofs.Ytkpjfdhjkgdcbaa
open Go.RowKit

theorem okAt_at {n : Nat} {task at_ : Int} (h : okAt n task at_ = true) : 0 ≤ at_ ∧ at_ < n := by
  obtain ⟨_, _, h3, h4⟩ := of_decide_eq_true h
  exact ⟨h3, h4⟩

theorem Cells.atomCell {w : World} {c : CRef} {S : Mem} {A : Nat → Prop} (h : Cells w c S A) {i : Int} (h0 : 0 ≤ i) (h1 : i < S.atomics.length) : w.cell? ⟨c.ab, i.toNat, none⟩ = some (.int .u64 (S.at_ i)) :=
  let ⟨_, _, k⟩ := h; k.atomCell h0 h1
theorem Cells.atomFrozen {w : World} {c : CRef} {S : Mem} {A : Nat → Prop} (h : Cells w c S A) (i : Nat) : w.frozen? ⟨c.ab, i, none⟩ = false := let ⟨_, _, k⟩ := h; k.atomFrozen i
theorem Cells.stored {w : World} {c : CRef} {S : Mem} {A : Nat → Prop} (h : Cells w c S A) (i x : Int) : Cells (w.setCell ⟨c.ab, i.toNat, none⟩ (.int .u64 x)) c (S.put i x) A ∧ Only A w (w.setCell ⟨c.ab, i.toNat, none⟩ (.int .u64 x)) :=
  let ⟨_, _, k⟩ := h; ⟨⟨_, _, (k.stored i x).1⟩, (k.stored i x).2⟩

set_option maxHeartbeats 400000 in
theorem load_ok {w : World} {c : CRef} {S : Mem} {A : Nat → Prop} (hC : Cells w c S A) (hF : Fresh A w) (hn : S.trace.length < trMax) (task at_ : Int) (h : okAt S.atomics.length task at_ = true) :
    Calls Try.prog 53 #[.pointer (some ⟨c.p, 0, none⟩), .int .i64 task, .int .i64 at_] w fun e w' => e = .returned (.tuple #[.int .u64 (S.at_ at_), .int .i64 0]) ∧ Cells w' c (S.note ⟨task, 1, at_⟩) A ∧ Only A w w' := by
  obtain ⟨h0, h1⟩ := okAt_at h
  go_enter Try.func53, Try.ntmps53
  go_wp2_with (first | (go_at_call 69; refine (atomic_ok hC _ _ h).mono ?_; rintro e w' ⟨rfl, rfl⟩) | (go_at_call 70; refine (traced_any hC hF hn _ _ _).mono ?_; rintro e w1 ⟨rfl, hC1, hO1⟩; have hx := hC1.atomCell (i := at_) h0 h1))
  go_ret2
  exact ⟨rfl, hC1, hO1⟩

set_option maxHeartbeats 400000 in
theorem load_no {w : World} {c : CRef} {S : Mem} {A : Nat → Prop} (hC : Cells w c S A) (task at_ : Int) (h : okAt S.atomics.length task at_ = false) :
    Calls Try.prog 53 #[.pointer (some ⟨c.p, 0, none⟩), .int .i64 task, .int .i64 at_] w fun e w' => e = .returned (.tuple #[.int .u64 0, .int .i64 2]) ∧ w = w' := by
  go_enter Try.func53, Try.ntmps53
  go_wp2_with (first | (go_at_call 69; refine (atomic_no hC _ _ h).mono ?_; rintro e w' ⟨rfl, rfl⟩))
  go_ret2
  exact ⟨rfl, rfl⟩

set_option maxHeartbeats 400000 in
theorem store_ok {w : World} {c : CRef} {S : Mem} {A : Nat → Prop} (hC : Cells w c S A) (hF : Fresh A w) (hn : S.trace.length < trMax) (task at_ x : Int) (h : okAt S.atomics.length task at_ = true) :
    Calls Try.prog 99 #[.pointer (some ⟨c.p, 0, none⟩), .int .i64 task, .int .i64 at_, .int .u64 x] w fun e w' => e = .returned (.int .i64 0) ∧ Cells w' c ((S.note ⟨task, 2, at_⟩).put at_ x) A ∧ Only A w w' := by
  obtain ⟨h0, h1⟩ := okAt_at h
  go_enter Try.func99, Try.ntmps99
  go_wp2_with (first | (go_at_call 69; refine (atomic_ok hC _ _ h).mono ?_; rintro e w' ⟨rfl, rfl⟩) | (go_at_call 70; refine (traced_any hC hF hn _ _ _).mono ?_; rintro e w1 ⟨rfl, hC1, hO1⟩; have hx := hC1.atomCell (i := at_) h0 h1; have hf := hC1.atomFrozen at_.toNat))
  go_ret
  exact ⟨rfl, (hC1.stored at_ x).1, hO1.trans (hC1.stored at_ x).2⟩

set_option maxHeartbeats 400000 in
theorem store_no {w : World} {c : CRef} {S : Mem} {A : Nat → Prop} (hC : Cells w c S A) (task at_ x : Int) (h : okAt S.atomics.length task at_ = false) :
    Calls Try.prog 99 #[.pointer (some ⟨c.p, 0, none⟩), .int .i64 task, .int .i64 at_, .int .u64 x] w fun e w' => e = .returned (.int .i64 2) ∧ w = w' := by
  go_enter Try.func99, Try.ntmps99
  go_wp2_with (first | (go_at_call 69; refine (atomic_no hC _ _ h).mono ?_; rintro e w' ⟨rfl, rfl⟩))
  go_ret
  exact ⟨rfl, rfl⟩

set_option maxHeartbeats 400000 in
theorem swap_done {w : World} {c : CRef} {S : Mem} {A : Nat → Prop} (hC : Cells w c S A) (hF : Fresh A w) (hn : S.trace.length < trMax) (task at_ was x : Int) (h : okAt S.atomics.length task at_ = true) (hw : (S.at_ at_ != was) = false) :
    Calls Try.prog 100 #[.pointer (some ⟨c.p, 0, none⟩), .int .i64 task, .int .i64 at_, .int .u64 was, .int .u64 x] w fun e w' => e = .returned (.tuple #[.bool true, .int .i64 0]) ∧ Cells w' c ((S.note ⟨task, 3, at_⟩).put at_ x) A ∧ Only A w w' := by
  obtain ⟨h0, h1⟩ := okAt_at h
  have hx0 := hC.atomCell (i := at_) h0 h1
  go_enter Try.func100, Try.ntmps100
  go_wp2_with (first | (go_at_call 69; refine (atomic_ok hC _ _ h).mono ?_; rintro e w' ⟨rfl, rfl⟩) | (go_at_call 70; refine (traced_any hC hF hn _ _ _).mono ?_; rintro e w1 ⟨rfl, hC1, hO1⟩; have hx := hC1.atomCell (i := at_) h0 h1; have hf := hC1.atomFrozen at_.toNat))
  go_ret2
  exact ⟨rfl, (hC1.stored at_ x).1, hO1.trans (hC1.stored at_ x).2⟩

set_option maxHeartbeats 400000 in
theorem swap_fail {w : World} {c : CRef} {S : Mem} {A : Nat → Prop} (hC : Cells w c S A) (hF : Fresh A w) (hn : S.trace.length < trMax) (task at_ was x : Int) (h : okAt S.atomics.length task at_ = true) (hw : (S.at_ at_ != was) = true) :
    Calls Try.prog 100 #[.pointer (some ⟨c.p, 0, none⟩), .int .i64 task, .int .i64 at_, .int .u64 was, .int .u64 x] w fun e w' => e = .returned (.tuple #[.bool false, .int .i64 0]) ∧ Cells w' c (S.note ⟨task, 4, at_⟩) A ∧ Only A w w' := by
  obtain ⟨h0, h1⟩ := okAt_at h
  have hx0 := hC.atomCell (i := at_) h0 h1
  go_enter Try.func100, Try.ntmps100
  go_wp2_with (first | (go_at_call 69; refine (atomic_ok hC _ _ h).mono ?_; rintro e w' ⟨rfl, rfl⟩) | (go_at_call 70; refine (traced_any hC hF hn _ _ _).mono ?_; rintro e w1 ⟨rfl, hC1, hO1⟩))
  go_ret2
  exact ⟨rfl, hC1, hO1⟩

set_option maxHeartbeats 400000 in
theorem swap_no {w : World} {c : CRef} {S : Mem} {A : Nat → Prop} (hC : Cells w c S A) (task at_ was x : Int) (h : okAt S.atomics.length task at_ = false) :
    Calls Try.prog 100 #[.pointer (some ⟨c.p, 0, none⟩), .int .i64 task, .int .i64 at_, .int .u64 was, .int .u64 x] w fun e w' => e = .returned (.tuple #[.bool false, .int .i64 2]) ∧ w = w' := by
  go_enter Try.func100, Try.ntmps100
  go_wp2_with (first | (go_at_call 69; refine (atomic_no hC _ _ h).mono ?_; rintro e w' ⟨rfl, rfl⟩))
  go_ret2
  exact ⟨rfl, rfl⟩

set_option maxHeartbeats 400000 in
theorem add_ok {w : World} {c : CRef} {S : Mem} {A : Nat → Prop} (hC : Cells w c S A) (hF : Fresh A w) (hn : S.trace.length < trMax) (task at_ x : Int) (h : okAt S.atomics.length task at_ = true) :
    Calls Try.prog 80 #[.pointer (some ⟨c.p, 0, none⟩), .int .i64 task, .int .i64 at_, .int .u64 x] w fun e w' => e = .returned (.tuple #[.int .u64 (IntKind.u64.wrap (S.at_ at_ + x)), .int .i64 0]) ∧ Cells w' c ((S.note ⟨task, 5, at_⟩).put at_ (IntKind.u64.wrap (S.at_ at_ + x))) A ∧ Only A w w' := by
  obtain ⟨h0, h1⟩ := okAt_at h
  go_enter Try.func80, Try.ntmps80
  go_wp2_with (first | (go_at_call 69; refine (atomic_ok hC _ _ h).mono ?_; rintro e w' ⟨rfl, rfl⟩) | (go_at_call 70; refine (traced_any hC hF hn _ _ _).mono ?_; rintro e w1 ⟨rfl, hC1, hO1⟩; have hx := hC1.atomCell (i := at_) h0 h1; have hf := hC1.atomFrozen at_.toNat))
  go_ret2
  exact ⟨rfl, (hC1.stored at_ _).1, hO1.trans (hC1.stored at_ _).2⟩

set_option maxHeartbeats 400000 in
theorem add_no {w : World} {c : CRef} {S : Mem} {A : Nat → Prop} (hC : Cells w c S A) (task at_ x : Int) (h : okAt S.atomics.length task at_ = false) :
    Calls Try.prog 80 #[.pointer (some ⟨c.p, 0, none⟩), .int .i64 task, .int .i64 at_, .int .u64 x] w fun e w' => e = .returned (.tuple #[.int .u64 0, .int .i64 2]) ∧ w = w' := by
  go_enter Try.func80, Try.ntmps80
  go_wp2_with (first | (go_at_call 69; refine (atomic_no hC _ _ h).mono ?_; rintro e w' ⟨rfl, rfl⟩))
  go_ret2
  exact ⟨rfl, rfl⟩

/-! The same, the state behind told by an equation. -/
theorem load_to {w : World} {c : CRef} {S : Mem} {A : Nat → Prop} (hC : Cells w c S A) (hF : Fresh A w) (hn : S.trace.length < trMax) (task at_ : Int) (h : okAt S.atomics.length task at_ = true) (x : Int) (S' : Mem) (hx : S.at_ at_ = x) (hS : S.note ⟨task, 1, at_⟩ = S') :
    Calls Try.prog 53 #[.pointer (some ⟨c.p, 0, none⟩), .int .i64 task, .int .i64 at_] w fun e w' => e = .returned (.tuple #[.int .u64 x, .int .i64 0]) ∧ Cells w' c S' A ∧ Only A w w' := by
  subst hx; subst hS; exact load_ok hC hF hn task at_ h

theorem store_to {w : World} {c : CRef} {S : Mem} {A : Nat → Prop} (hC : Cells w c S A) (hF : Fresh A w) (hn : S.trace.length < trMax) (task at_ x : Int) (h : okAt S.atomics.length task at_ = true) (S' : Mem) (hS : (S.note ⟨task, 2, at_⟩).put at_ x = S') :
    Calls Try.prog 99 #[.pointer (some ⟨c.p, 0, none⟩), .int .i64 task, .int .i64 at_, .int .u64 x] w fun e w' => e = .returned (.int .i64 0) ∧ Cells w' c S' A ∧ Only A w w' := by
  subst hS; exact store_ok hC hF hn task at_ x h

theorem swap_to {w : World} {c : CRef} {S : Mem} {A : Nat → Prop} (hC : Cells w c S A) (hF : Fresh A w) (hn : S.trace.length < trMax) (task at_ was x : Int) (h : okAt S.atomics.length task at_ = true) (r : Bool) (S' : Mem) (hr : (S.at_ at_ == was) = r) (hS : (if r then (S.note ⟨task, 3, at_⟩).put at_ x else S.note ⟨task, 4, at_⟩) = S') :
    Calls Try.prog 100 #[.pointer (some ⟨c.p, 0, none⟩), .int .i64 task, .int .i64 at_, .int .u64 was, .int .u64 x] w fun e w' => e = .returned (.tuple #[.bool r, .int .i64 0]) ∧ Cells w' c S' A ∧ Only A w w' := by
  subst hS
  cases r with
  | true => exact swap_done hC hF hn task at_ was x h (by simp only [bne, hr]; rfl)
  | false => exact swap_fail hC hF hn task at_ was x h (by simp only [bne, hr]; rfl)

theorem add_to {w : World} {c : CRef} {S : Mem} {A : Nat → Prop} (hC : Cells w c S A) (hF : Fresh A w) (hn : S.trace.length < trMax) (task at_ x : Int) (h : okAt S.atomics.length task at_ = true) (y : Int) (S' : Mem) (hy : IntKind.u64.wrap (S.at_ at_ + x) = y) (hS : (S.note ⟨task, 5, at_⟩).put at_ y = S') :
    Calls Try.prog 80 #[.pointer (some ⟨c.p, 0, none⟩), .int .i64 task, .int .i64 at_, .int .u64 x] w fun e w' => e = .returned (.tuple #[.int .u64 y, .int .i64 0]) ∧ Cells w' c S' A ∧ Only A w w' := by
  subst hS; subst hy; exact add_ok hC hF hn task at_ x h

end Go.Proofs.Ytkpjfdhjkgdcbaa
