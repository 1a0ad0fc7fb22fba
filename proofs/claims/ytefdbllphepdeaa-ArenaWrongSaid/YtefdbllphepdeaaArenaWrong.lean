/- The walk over law 17's ArenaWrong. -/
import Derived.Test.YtefdbllphepdeaaLaw17
namespace Go.Proofs.Ytefdbllphepdeaa
open Go.RowKit

/-- The two arenas that are none, in the round's world. -/
structure TwoNoArena (w wr : World) : Prop where
  zero : Blk wr w.heap.size 42 [.pointer none, .int .i64 0, .int .u64 0]
  two : Blk wr (w.heap.size + 1) 25 [.pointer none, .pointer (some ⟨w.heap.size, 0, none⟩)]
  below : Below w.heap.size w wr
theorem TwoNoArena.at_ {w wr : World} (h : TwoNoArena w wr) (k : Nat) (hk : k < 2) : ∃ a, wr.cell? ⟨w.heap.size + 1, k, none⟩ = some (.pointer a) ∧ NoArena wr (.pointer a) := by
  match k, hk with
  | 0, _ => exact ⟨none, h.two.cell 0 rfl, .inl rfl⟩
  | 1, _ => exact ⟨some ⟨w.heap.size, 0, none⟩, h.two.cell 1 rfl, .inr ⟨_, rfl, h.zero.cell 0 rfl⟩⟩

set_option maxRecDepth 100000 in
set_option maxHeartbeats 1000000 in
theorem arenaWrong (w : World) (task need : Int) :
    Calls Try.prog 5 #[.int .i64 task, .int .u64 need] w fun e w' => e = .returned (.bool true) ∧ Below w.heap.size w w' := by
  have h0 : TwoNoArena w ((w.alloc (.cells #[.pointer none, .int .i64 0, .int .u64 0] 42)).alloc (.cells #[.pointer none, .pointer (some ⟨w.heap.size, 0, none⟩)] 25)) :=
    ⟨(Blk.new w _ _).alloc _, by have := Blk.new (w.alloc (.cells #[.pointer none, .int .i64 0, .int .u64 0] 42)) 25 [.pointer none, .pointer (some ⟨w.heap.size, 0, none⟩)]; simpa using this,
      ((Below.refl _ w).alloc (Nat.le_refl _) _).alloc (by simp) _⟩
  go_enter Try.func5, Try.ntmps5
  go_wp2_with fail
  go_loopw [23] (fun i wr => ∃ k : Nat, k ≤ 2 ∧ i = .int .i64 k ∧ TwoNoArena w wr) (fun i _ => 2 - (intOf i).toNat)
  case atStart => exact ⟨0, by omega, rfl, h0⟩
  case round =>
    clear h0
    obtain ⟨k, hk, rfl, hT⟩ := hrel
    by_cases hlt : k < 2
    · obtain ⟨a, hc, hN⟩ := hT.at_ k hlt
      go_wp2_with (first | (go_at_call 9; refine (take_none _ _ hN _ _).mono ?_; rintro e w' ⟨rfl, rfl⟩) | (go_at_call 8; refine (left_none _ _ hN _).mono ?_; rintro e w' ⟨rfl, rfl⟩) | (go_at_call 11; refine (units_none _ _ hN).mono ?_; rintro e w' ⟨rfl, rfl⟩))
      go_roundw
      case rel => exact ⟨k + 1, by omega, by go_num, hT⟩
      case measure => simp [intOf]; omega
    · have hB0 := hT.below
      clear hT
      go_wp2_with fail
      refine (made17_ok _ 100 (by decide) (by decide)).mono ?_
      rintro e w1 ⟨q, c, rfl, hQ, hC, hF, hB1, hb, hq⟩
      have hB := hB0.trans (hB1.mono hB0.size)
      have hle : w.heap.size ≤ wr.heap.size := hB0.size
      have hb1 : wr.heap.size ≤ w1.heap.size := hB1.size
      clear hB1 hB0
      have ho3 : okAt (Mem.new 3 0).atomics.length task 1 = decide (0 ≤ task ∧ task < 64) := by unfold okAt; rw [Bool.eq_iff_iff]; simp [Mem.new]
      have hcase : (task < 0) ∨ (0 ≤ task ∧ 64 ≤ task) ∨ (0 ≤ task ∧ task < 64 ∧ need < 1) ∨ (0 ≤ task ∧ task < 64 ∧ 1 ≤ need ∧ 1048576 < need) ∨ (0 ≤ task ∧ task < 64 ∧ 1 ≤ need ∧ need ≤ 1048576) := by omega
      rcases hcase with t0 | ⟨t0, t1⟩ | ⟨t0, t1, n0⟩ | ⟨t0, t1, n0, n1⟩ | ⟨t0, t1, n0, n1⟩
      all_goals have HO := Lib.hid ho3; clear ho3
      iterate 2
        ·
          first | (have e1 : (0 ≤ task) = False := by simp; omega) | (have e1 : (task < 64) = False := by simp; omega)
          go_wp2_with fail
          refine (take_refused hQ hC _ _ (by rw [HO.out]; simp; omega)).mono ?_
          rintro e w2 ⟨rfl, hq2⟩
          have hQ2 := hQ.only (hq2.only _)
          have hC2 := hC.quiet hq2
          have hB2 := hB.trans (hq2.below _)
          have hs2 : w1.heap.size ≤ w2.heap.size := (hq2.below 0).size
          clear hQ hC hB hq2
          go_wp2_with (go_at_call 12; refine (trace_ok hC2 (by decide)).mono ?_; rintro e w3 ⟨v3, rfl, hr3, hc3, hb3⟩; obtain ⟨ao, cap, rfl⟩ := hr3.slice)
          have hQ3 := hQ2.only (Only.of_below hb3)
          have hC3 := hc3.mono (B := fun k => wr.heap.size ≤ k ∧ k ≠ q) (fun _ _ h => h.1)
          have hF3 : Fresh (fun k => wr.heap.size ≤ k ∧ k ≠ q) w3 := ⟨fun k hk => hF.new k (by have := hb3.size; omega)⟩
          have hB3 := hB2.trans (hb3.mono hB2.size)
          clear hQ2 hC2 hB2 hr3 hc3 hF
          refine (left_task hQ3 hC3 _ (by rw [HO.out]; simp; omega)).mono ?_
          rintro e w4 ⟨rfl, hq4⟩
          have hB4 := hB3.trans (hq4.below _)
          clear hQ3 hC3 hF3 hB3 hb3
          go_wp2_with (go_at_call 10; refine (awake17 _).mono ?_; rintro e w5 ⟨rfl, hb5⟩)
          go_ret
          exact ⟨rfl, hB4.trans (hb5.mono hB4.size)⟩
      iterate 2
        ·
          first | (have e1 : (1 ≤ need) = False := by simp; omega) | (have e1 : (need ≤ 1048576) = False := by simp; omega)
          go_wp2_with fail
          refine (take_refused hQ hC _ _ (by rw [HO.out]; simp; omega)).mono ?_
          rintro e w2 ⟨rfl, hq2⟩
          have hQ2 := hQ.only (hq2.only _)
          have hC2 := hC.quiet hq2
          have hB2 := hB.trans (hq2.below _)
          have hs2 : w1.heap.size ≤ w2.heap.size := (hq2.below 0).size
          clear hQ hC hB hq2
          go_wp2_with (go_at_call 12; refine (trace_ok hC2 (by decide)).mono ?_; rintro e w3 ⟨v3, rfl, hr3, hc3, hb3⟩; obtain ⟨ao, cap, rfl⟩ := hr3.slice)
          have hQ3 := hQ2.only (Only.of_below hb3)
          have hC3 := hc3.mono (B := fun k => wr.heap.size ≤ k ∧ k ≠ q) (fun _ _ h => h.1)
          have hF3 : Fresh (fun k => wr.heap.size ≤ k ∧ k ≠ q) w3 := ⟨fun k hk => hF.new k (by have := hb3.size; omega)⟩
          have hB3 := hB2.trans (hb3.mono hB2.size)
          clear hQ2 hC2 hB2 hr3 hc3 hF
          refine (left_ok hQ3 hC3 hF3 (by decide) _ (by decide) (by decide) (by decide) (by rw [HO.out]; simp; omega)).mono ?_
          rintro e w4 ⟨rfl, hC4, hO4⟩
          have hB4 := hB3.trans ((hO4.below (Nat.le_trans hle (Nat.le_trans hb1 (by have := hb3.size; omega))) (fun k hk h => by have := h.1; omega)))
          clear hQ3 hC3 hF3 hB3 hC4
          go_wp2_with (go_at_call 10; refine (awake17 _).mono ?_; rintro e w5 ⟨rfl, hb5⟩)
          go_ret
          exact ⟨rfl, hB4.trans (hb5.mono hB4.size)⟩
      · go_wp2_with fail
        obtain ⟨r, hre⟩ : ∃ r, takeR ((Mem.new 3 0).at_ 1) 100 need = (r, 13) ∨ takeR ((Mem.new 3 0).at_ 1) 100 need = (r, 0) := by
          unfold takeR
          split
          · exact ⟨_, .inl rfl⟩
          · exact ⟨_, .inr rfl⟩
        have hx0 : ((Mem.new 3 0).added task 1 need).at_ 1 = need := by
          show (0 + need) % 18446744073709551616 = need
          omega
        have hl : ((Mem.new 3 0).added task 1 need).trace.length < trMax := by show 1 < trMax; decide
        have hlen : ((Mem.new 3 0).added task 1 need).atomics.length = (Mem.new 3 0).atomics.length := by rfl
        rcases hre with hr | hr
        all_goals
          refine (take_to hQ hC hF (by decide) task need n0 n1 (by rw [HO.out]; simp; omega) _ _ _ hr rfl).mono ?_
          rintro e w2 ⟨rfl, hC2, hO2⟩
          have hQ2 := hQ.only hO2
          have hF2 := hF.only hO2
          have hB2 := hB.trans (hO2.below (Nat.le_trans hle hb1) (fun k hk h => by have := h.1; omega))
          have hs2 := hO2.size
          clear hQ hC hF hB hO2 hr
          go_wp2_with fail
          refine (left_ok hQ2 hC2 hF2 hl task (by decide) (by decide) (by rw [hx0]; omega) (by rw [hlen, HO.out]; simp; omega)).mono ?_
          rintro e w4 ⟨rfl, hC4, hO4⟩
          have hB4 := hB2.trans (hO4.below (by omega) (fun k hk h => by have := h.1; omega))
          clear hQ2 hC2 hF2 hB2 hC4 hO4
          go_wp2_with (go_at_call 10; refine (awake17 _).mono ?_; rintro e w5 ⟨rfl, hb5⟩)
          all_goals go_ret
          all_goals exact ⟨rfl, hB4.trans (hb5.mono hB4.size)⟩

end Go.Proofs.Ytefdbllphepdeaa
