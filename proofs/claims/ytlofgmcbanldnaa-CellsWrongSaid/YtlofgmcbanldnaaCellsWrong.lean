/- The walk over law 13's CellsWrong. -/
import Derived.Test.YtlofgmcbanldnaaLaw13
import Derived.Test.YtlofgmcbanldnaaNone
import Derived.Test.YtlofgmcbanldnaaNoteNo
namespace Go.Proofs.Ytlofgmcbanldnaa
open Go.RowKit

theorem NoCells.below {w w' : World} {v : Value} (h : NoCells w v) (hb : Below w.heap.size w w') : NoCells w' v :=
  h.imp id fun ⟨p, hv, hc⟩ => ⟨p, hv, (hb.cell (p := ⟨p, 0, none⟩) (World.block_lt_of_cell? w _ hc)).trans hc⟩

/-- The two memories that are none, in the round's world. -/
structure TwoNone (w wr : World) : Prop where
  zero : Blk wr w.heap.size 73 [.bool false, .slice none 0 0, .slice none 0 0, .slice none 0 0]
  two : Blk wr (w.heap.size + 1) 23 [.pointer none, .pointer (some ⟨w.heap.size, 0, none⟩)]
  below : Below w.heap.size w wr
theorem TwoNone.go {w wr wr' : World} (h : TwoNone w wr) (hb : Below wr.heap.size wr wr') : TwoNone w wr' :=
  ⟨h.zero.keep (hb.block _ h.zero.lt), h.two.keep (hb.block _ h.two.lt), h.below.trans (hb.mono h.below.size)⟩
theorem TwoNone.at_ {w wr : World} (h : TwoNone w wr) (k : Nat) (hk : k < 2) : ∃ a, wr.cell? ⟨w.heap.size + 1, k, none⟩ = some (.pointer a) ∧ NoCells wr (.pointer a) := by
  match k, hk with
  | 0, _ => exact ⟨none, h.two.cell 0 rfl, .inl rfl⟩
  | 1, _ => exact ⟨some ⟨w.heap.size, 0, none⟩, h.two.cell 1 rfl, .inr ⟨_, rfl, h.zero.cell 0 rfl⟩⟩

set_option maxRecDepth 100000 in
set_option maxHeartbeats 1000000 in
theorem cellsWrong (w : World) (task at_ x : Int) :
    Calls Try.prog 7 #[.int .i64 task, .int .i64 at_, .int .u64 x] w fun e w' => e = .returned (.bool true) ∧ Below w.heap.size w w' := by
  have h0 : TwoNone w ((w.alloc (.cells #[.bool false, .slice none 0 0, .slice none 0 0, .slice none 0 0] 73)).alloc (.cells #[.pointer none, .pointer (some ⟨w.heap.size, 0, none⟩)] 23)) :=
    ⟨(Blk.new w _ _).alloc _, by have := Blk.new (w.alloc (.cells #[.bool false, .slice none 0 0, .slice none 0 0, .slice none 0 0] 73)) 23 [.pointer none, .pointer (some ⟨w.heap.size, 0, none⟩)]; simpa using this,
      ((Below.refl _ w).alloc (Nat.le_refl _) _).alloc (by simp) _⟩
  go_enter Try.func7, Try.ntmps7
  go_wp2_with fail
  go_loopw [30] (fun i wr => ∃ k : Nat, k ≤ 2 ∧ i = .int .i64 k ∧ TwoNone w wr) (fun i _ => 2 - (intOf i).toNat)
  case atStart => exact ⟨0, by omega, rfl, h0⟩
  case round =>
    clear h0
    obtain ⟨k, hk, rfl, hT⟩ := hrel
    by_cases hlt : k < 2
    · obtain ⟨a, hc, hN⟩ := hT.at_ k hlt
      go_wp2_with (first | (go_at_call 11; refine (load_none _ _ hN _ _).mono ?_; rintro e w' ⟨rfl, rfl⟩) | (go_at_call 14; refine (swap_none _ _ hN _ _ _ _).mono ?_; rintro e w' ⟨rfl, rfl⟩) | (go_at_call 15; refine (add_none _ _ hN _ _ _).mono ?_; rintro e w' ⟨rfl, rfl⟩) | (go_at_call 10; refine (read_none _ _ hN _ _).mono ?_; rintro e w' ⟨rfl, rfl⟩) | (go_at_call 27; refine (many_none _ _ hN).mono ?_; rintro e w' ⟨rfl, rfl⟩) | (go_at_call 13; refine (store_none _ _ hN _ _ _).mono ?_; rintro e w' ⟨rfl, rfl⟩) | (go_at_call 9; refine (write_none _ _ hN _ _ _).mono ?_; rintro e w' ⟨rfl, rfl⟩) | (go_at_call 29; refine (acc_any _ _ _ _).mono ?_; rintro e w' ⟨rfl, rfl⟩) | (go_at_call 17; refine (note_none _ _ (hN.alloc _) _ _ _).mono ?_; rintro e w' ⟨rfl, hbn⟩; have hbw := ((Below.refl wr.heap.size wr).alloc (Nat.le_refl _) (.cells #[.int .i64 0, .int .u8 1, .int .i64 0] 40)).trans (hbn.mono (by simp)); have hN2 := hN.below hbw) | (go_at_call 16; refine (trace_none _ _ hN2).mono ?_; rintro e w' ⟨rfl, rfl⟩))
      go_roundw
      case rel => exact ⟨k + 1, by omega, by go_num, hT.go hbw⟩
      case measure => simp [intOf]; omega
    · have hB0 := hT.below
      clear hT
      go_wp2_with fail
      refine (made13_ok _ 2 3 (by decide) (by decide)).mono ?_
      rintro e w1 ⟨c, rfl, hC, hB1⟩
      have hF : Fresh (fun k => wr.heap.size ≤ k) w1 := ⟨fun k hk => Nat.le_trans hB1.size hk⟩
      have hB := hB0.trans (hB1.mono hB0.size)
      have hB0s := hB0.size
      clear hB0
      have hcase : (okAt 2 task at_ = true ∧ okAt 3 task at_ = true ∧ 0 ≤ task ∧ task < 64 ∧ 0 ≤ at_ ∧ at_ < 2) ∨ (okAt 2 task at_ = false ∧ okAt 3 task at_ = true ∧ 0 ≤ task ∧ task < 64 ∧ 2 ≤ at_ ∧ at_ < 3) ∨ (okAt 2 task at_ = false ∧ okAt 3 task at_ = false ∧ (task < 0 ∨ (0 ≤ task ∧ 64 ≤ task) ∨ (0 ≤ task ∧ task < 64 ∧ at_ < 0) ∨ (0 ≤ task ∧ task < 64 ∧ 0 ≤ at_ ∧ 3 ≤ at_))) := by
        unfold okAt
        by_cases h1 : 0 ≤ task ∧ task < 64 ∧ 0 ≤ at_ ∧ at_ < 2
        · refine .inl ⟨decide_eq_true (by simpa using h1), decide_eq_true (by simp; omega), h1⟩
        · by_cases h2 : 0 ≤ task ∧ task < 64 ∧ 0 ≤ at_ ∧ at_ < 3
          · refine .inr (.inl ⟨decide_eq_false (by simpa using h1), decide_eq_true (by simpa using h2), by omega⟩)
          · refine .inr (.inr ⟨decide_eq_false (by simpa using h1), decide_eq_false (by simpa using h2), by omega⟩)
      rcases hcase with ⟨o2, o3, t0, t1, a0, a1⟩ | ⟨o2, o3, t0, t1, a0, a1⟩ | ⟨o2, o3, hd⟩
      · have a2 : at_ < 3 := by omega
        go_wp2_with fail
        refine (store_ok hC hF (by decide) _ _ _ o2).mono ?_
        rintro e w2 ⟨rfl, hC2, hO2⟩
        have hF2 := hF.only hO2
        go_wp2_with fail
        refine (write_new hC2 hF2 (by simp [Mem.new, Mem.note, Mem.put, trMax]) _ _ (by simpa [Mem.new, Mem.note, Mem.put] using o3) [1] 1 rfl (by decide) _ _ rfl).mono ?_
        rintro e w3 ⟨rfl, hC3, hO3⟩
        have hB3 := hB.trans (((hO2.trans hO3).below hB1.size (fun k hk => by omega)).mono hB0s)
        clear hB hO2 hO3 hC2 hF2 hC hF hB1
        go_wp2_with (first | (go_at_call 16; refine (trace_ok hC3 (by simp [Mem.new, Mem.note, Mem.put, Mem.lay, trMax])).mono ?_; rintro e w4 ⟨v4, rfl, hr4, hc4, hb4⟩; obtain ⟨ao, cap, rfl⟩ := hr4.slice; have hB4 := hB3.trans (hb4.mono hB3.size); clear hr4 hc4 hC3 hb4) | (go_at_call 12; refine (awake13 _).mono ?_; rintro e w5 ⟨rfl, hb5⟩; have hB5 := hB4.trans (hb5.mono hB4.size)))
        go_ret
        exact ⟨rfl, hB5⟩
      · have a2 : ¬ at_ < 2 := by omega
        have a3 : 0 ≤ at_ := by omega
        go_wp2_with fail
        refine (store_no hC _ _ _ o2).mono ?_
        rintro e w2 ⟨rfl, rfl⟩
        go_wp2_with fail
        refine (write_new hC hF (by simp [Mem.new, trMax]) _ _ (by simpa [Mem.new] using o3) [1] 1 rfl (by decide) _ _ rfl).mono ?_
        rintro e w3 ⟨rfl, hC3, hO3⟩
        have hB3 := hB.trans ((hO3.below hB1.size (fun k hk => by omega)).mono hB0s)
        clear hB hO3 hC hF hB1
        go_wp2_with (first | (go_at_call 16; refine (trace_ok hC3 (by simp [Mem.new, Mem.note, Mem.put, Mem.lay, trMax])).mono ?_; rintro e w4 ⟨v4, rfl, hr4, hc4, hb4⟩; obtain ⟨ao, cap, rfl⟩ := hr4.slice; have hB4 := hB3.trans (hb4.mono hB3.size); clear hr4 hc4 hC3 hb4) | (go_at_call 12; refine (awake13 _).mono ?_; rintro e w5 ⟨rfl, hb5⟩; have hB5 := hB4.trans (hb5.mono hB4.size)))
        go_ret
        first | exact ⟨rfl, hB5⟩ | exact ⟨by simp; omega, hB5⟩
      · rcases hd with hd | ⟨hd1, hd2⟩ | ⟨hd1, hd2, hd3⟩ | ⟨hd1, hd2, hd3, hd4⟩
        all_goals
          go_wp2_with fail
          refine (store_no hC _ _ _ o2).mono ?_
          rintro e w2 ⟨rfl, rfl⟩
          go_wp2_with fail
          refine (write_no (hC.alloc _) _ _ (by simpa [Mem.new] using o3) _).mono ?_
          rintro e w3 ⟨rfl, rfl⟩
          go_wp2_with (first | (go_at_call 16; refine (trace_ok (hC.alloc _) (by simp [Mem.new, trMax])).mono ?_; rintro e w4 ⟨v4, rfl, hr4, hc4, hb4⟩; obtain ⟨ao, cap, rfl⟩ := hr4.slice; have hB4 := (hB.alloc hB.size _).trans (hb4.mono (by have := hB.size; simp; omega)); clear hr4 hc4 hb4) | (go_at_call 12; refine (awake13 _).mono ?_; rintro e w5 ⟨rfl, hb5⟩; have hB5 := hB4.trans (hb5.mono hB4.size)))
          all_goals go_ret
          all_goals first | exact ⟨rfl, hB5⟩ | exact ⟨by simp; omega, hB5⟩

end Go.Proofs.Ytlofgmcbanldnaa
