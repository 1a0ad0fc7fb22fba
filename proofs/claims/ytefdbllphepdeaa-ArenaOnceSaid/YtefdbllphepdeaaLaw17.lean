/- Law 17's helpers: made, awake. -/
import Derived.Test.YtefdbllphepdeaaArena
import Derived.Test.YtefdbllphepdeaaNone
namespace Go.Proofs.Ytefdbllphepdeaa
open Go.RowKit

set_option maxHeartbeats 400000 in
theorem anew_none (w : World) (v : Value) (h : NoCells w v) (a u : Int) :
    Calls Try.prog 14 #[v, .int .i64 a, .int .u64 u] w fun e w' => e = .returned (.tuple #[.pointer none, .int .i64 2]) ∧ w = w' := by
  by_cases ha : 0 ≤ a
  all_goals
    go_enter Try.func14, Try.ntmps14
    go_wp2_with (go_at_call 24; refine (many_none _ _ h).mono ?_; rintro e w' ⟨rfl, rfl⟩)
    all_goals go_ret2
    all_goals exact ⟨rfl, rfl⟩

/-- What made leaves: an arena of so many units upon the second one of 3 cells. -/
structure Made17 (w w' : World) (q : Nat) (c : CRef) (units : Int) (A : Nat → Prop) : Prop where
  arena : ArenaAt w' q c 1 units A
  cells : Cells w' c (Mem.new 3 0) A
  fresh : Fresh A w'
  below : Below w.heap.size w w'
  base : ∀ k, A k → w.heap.size ≤ k
  qb : w.heap.size ≤ q

set_option maxHeartbeats 400000 in
theorem made17_ok (w : World) (units : Int) (h1 : 1 ≤ units) (h2 : units ≤ 1073741824) :
    Calls Try.prog 7 #[.int .u64 units] w fun e w' => ∃ q c, e = .returned (.tuple #[.pointer (some ⟨q, 0, none⟩), .pointer (some ⟨c.p, 0, none⟩), .bool true]) ∧ Made17 w w' q c units (fun k => w.heap.size ≤ k ∧ k ≠ q) := by
  go_enter Try.func7, Try.ntmps7
  go_wp2_with fail
  refine (new_ok _ 3 0 (by decide) (by decide)).mono ?_
  rintro e w1 ⟨c, rfl, hC, hB⟩
  go_wp2_with fail
  refine (anew_ok hC 1 units (decide_eq_true ⟨by omega, by decide, h1, h2⟩)).mono ?_
  rintro e w2 ⟨q, rfl, hq, hQ2, hC2, hB2⟩
  go_wp2_with fail
  go_ret3
  refine ⟨q, c, rfl, hQ2, hC2, ⟨fun k hk => ⟨?_, ?_⟩⟩, hB.trans (hB2.mono hB.size), fun k hk => hk.1, Nat.le_trans hB.size hq⟩
  · have := hB.size; have := hB2.size; omega
  · have := hQ2.blk.lt; omega

theorem take_to {w : World} {q : Nat} {c : CRef} {S : Mem} {A : Nat → Prop} {at_ units : Int} (hQ : ArenaAt w q c at_ units A) (hC : Cells w c S A) (hF : Fresh A w) (hn : S.trace.length < trMax) (task need : Int) (h1 : 1 ≤ need) (h2 : need ≤ 1048576)
    (h : okAt S.atomics.length task at_ = true) (r er : Int) (S' : Mem) (hr : takeR (S.at_ at_) units need = (r, er)) (hS : S.added task at_ need = S') :
    Calls Try.prog 9 #[.pointer (some ⟨q, 0, none⟩), .int .i64 task, .int .u64 need] w fun e w' => e = .returned (.tuple #[.int .u64 r, .int .i64 er]) ∧ Cells w' c S' A ∧ Only A w w' := by
  have := take_ok hQ hC hF hn task need h1 h2 h
  rw [hr, hS] at this
  exact this
theorem left_to {w : World} {q : Nat} {c : CRef} {S : Mem} {A : Nat → Prop} {at_ units : Int} (hQ : ArenaAt w q c at_ units A) (hC : Cells w c S A) (hF : Fresh A w) (hn : S.trace.length < trMax) (task : Int) (hu : 0 ≤ units) (hu2 : units ≤ 1073741824) (hx0 : 0 ≤ S.at_ at_)
    (h : okAt S.atomics.length task at_ = true) (r : Int) (S' : Mem) (hr : (if S.at_ at_ ≤ units then units - S.at_ at_ else 0) = r) (hS : S.note ⟨task, 1, at_⟩ = S') :
    Calls Try.prog 8 #[.pointer (some ⟨q, 0, none⟩), .int .i64 task] w fun e w' => e = .returned (.tuple #[.int .u64 r, .int .i64 0]) ∧ Cells w' c S' A ∧ Only A w w' := by
  subst hr; subst hS; exact left_ok hQ hC hF hn task hu hu2 hx0 h

theorem take_refused {w : World} {q : Nat} {c : CRef} {S : Mem} {A : Nat → Prop} {at_ units : Int} (hQ : ArenaAt w q c at_ units A) (hC : Cells w c S A) (task need : Int)
    (h : ¬ (okAt S.atomics.length task at_ = true ∧ 1 ≤ need ∧ need ≤ 1048576)) :
    Calls Try.prog 9 #[.pointer (some ⟨q, 0, none⟩), .int .i64 task, .int .u64 need] w fun e w' => e = .returned (.tuple #[.int .u64 0, .int .i64 2]) ∧ Quiet w w' := by
  by_cases hn : 1 ≤ need ∧ need ≤ 1048576
  · refine take_task hQ hC task need hn.1 hn.2 ?_
    cases ho : okAt S.atomics.length task at_ with
    | false => rfl
    | true => exact absurd ⟨ho, hn⟩ h
  · exact take_need hQ task need (by omega)

set_option maxRecDepth 100000 in
set_option maxHeartbeats 1000000 in
theorem awake17 (w : World) : Calls Try.prog 10 #[] w fun e w' => e = .returned (.bool true) ∧ Below w.heap.size w w' := by
  go_enter Try.func10, Try.ntmps10
  go_wp2_with fail
  refine (made17_ok _ 10 (by decide) (by decide)).mono ?_
  rintro e w1 ⟨q, c, rfl, hQ1, hC1, hF1, hB1, hb, hq⟩
  go_wp2_with fail
  refine (take_to hQ1 hC1 hF1 (by decide) 0 4 (by decide) (by decide) (by decide) 0 0 ⟨[0, 4, 0], [], [⟨0, 5, 1⟩]⟩ rfl rfl).mono ?_
  rintro e w2 ⟨rfl, hC2, hO2⟩
  have hQ2 := hQ1.only hO2
  have hF2 := hF1.only hO2
  clear hC1 hQ1 hF1
  go_wp2_with fail
  refine (take_to hQ2 hC2 hF2 (by decide) 1 5 (by decide) (by decide) (by decide) 4 0 ⟨[0, 9, 0], [], [⟨0, 5, 1⟩, ⟨1, 5, 1⟩]⟩ rfl rfl).mono ?_
  rintro e w3 ⟨rfl, hC3, hO3⟩
  have hQ3 := hQ2.only hO3
  have hF3 := hF2.only hO3
  clear hC2 hQ2 hF2
  go_wp2_with fail
  refine (left_to hQ3 hC3 hF3 (by decide) 2 (by decide) (by decide) (by decide) (by decide) 1 ⟨[0, 9, 0], [], [⟨0, 5, 1⟩, ⟨1, 5, 1⟩, ⟨2, 1, 1⟩]⟩ rfl rfl).mono ?_
  rintro e w4 ⟨rfl, hC4, hO4⟩
  have hQ4 := hQ3.only hO4
  have hF4 := hF3.only hO4
  clear hC3 hQ3 hF3
  go_wp2_with fail
  refine (take_to hQ4 hC4 hF4 (by decide) 0 2 (by decide) (by decide) (by decide) 0 13 ⟨[0, 11, 0], [], [⟨0, 5, 1⟩, ⟨1, 5, 1⟩, ⟨2, 1, 1⟩, ⟨0, 5, 1⟩]⟩ rfl rfl).mono ?_
  rintro e w5 ⟨rfl, hC5, hO5⟩
  have hQ5 := hQ4.only hO5
  have hF5 := hF4.only hO5
  clear hC4 hQ4 hF4
  go_wp2_with fail
  refine (left_to hQ5 hC5 hF5 (by decide) 2 (by decide) (by decide) (by decide) (by decide) 0 ⟨[0, 11, 0], [], [⟨0, 5, 1⟩, ⟨1, 5, 1⟩, ⟨2, 1, 1⟩, ⟨0, 5, 1⟩, ⟨2, 1, 1⟩]⟩ rfl rfl).mono ?_
  rintro e w6 ⟨rfl, hC6, hO6⟩
  have hQ6 := hQ5.only hO6
  have hF6 := hF5.only hO6
  clear hC5 hQ5 hF5
  go_wp2_with fail
  refine (take_to hQ6 hC6 hF6 (by decide) 0 1 (by decide) (by decide) (by decide) 0 13 ⟨[0, 12, 0], [], [⟨0, 5, 1⟩, ⟨1, 5, 1⟩, ⟨2, 1, 1⟩, ⟨0, 5, 1⟩, ⟨2, 1, 1⟩, ⟨0, 5, 1⟩]⟩ rfl rfl).mono ?_
  rintro e w7 ⟨rfl, hC7, hO7⟩
  have hQ7 := hQ6.only hO7
  have hB7 := hB1.trans ((((((hO2.trans hO3).trans hO4).trans hO5).trans hO6).trans hO7).below hB1.size (fun k hk h => by have := hb k h; omega))
  clear hC6 hQ6 hF6 hO2 hO3 hO4 hO5 hO6 hO7 hC7 hb hB1
  go_wp2_with (first | (go_at_call 14; refine (anew_none _ _ (.inl rfl) _ _).mono ?_; rintro e w' ⟨rfl, rfl⟩) | (go_at_call 15; refine (need_any _ 2 3 5 (by decide) (by decide) (by decide) (by decide) (by decide) (by decide)).mono ?_; rintro e w' ⟨rfl, rfl⟩) | (go_at_call 11; refine (units_ok hQ7).mono ?_; rintro e w' ⟨rfl, rfl⟩))
  go_ret
  exact ⟨rfl, hB7⟩

end Go.Proofs.Ytefdbllphepdeaa
