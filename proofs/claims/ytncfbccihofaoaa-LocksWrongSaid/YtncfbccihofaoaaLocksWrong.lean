/- The walk over law 14's LocksWrong. -/
import Derived.Test.YtncfbccihofaoaaLocksAwake
namespace Go.Proofs.Ytncfbccihofaoaa
open Go.RowKit Go.Maps

/-- A mutex that is none: nil, or one that New did not answer. -/
def NoLocks (w : World) (v : Value) : Prop := v = .pointer none ∨ ∃ p, v = .pointer (some ⟨p, 0, none⟩) ∧ w.cell? ⟨p, 0, none⟩ = some (.pointer none)
set_option maxHeartbeats 400000 in
theorem lis_none (w : World) (v : Value) (h : NoLocks w v) : Calls Try.prog 30 #[v] w fun e w' => e = .returned (.bool false) ∧ w = w' := by
  rcases h with rfl | ⟨p, rfl, hc⟩
  all_goals
    go_enter Try.func30, Try.ntmps30
    go_wp2
    go_ret
    exact ⟨rfl, rfl⟩
set_option maxHeartbeats 400000 in
theorem lock_none (w : World) (v : Value) (h : NoLocks w v) (n : Int) : Calls Try.prog 17 #[v, .int .i64 n] w fun e w' => e = .returned (.int .i64 1) ∧ w = w' := by
  go_enter Try.func17, Try.ntmps17
  go_wp2_with (go_at_call 30; refine (lis_none _ _ h).mono ?_; rintro e w' ⟨rfl, rfl⟩)
  go_ret
  exact ⟨rfl, rfl⟩
set_option maxHeartbeats 400000 in
theorem holds_none (w : World) (v : Value) (h : NoLocks w v) (n c : Int) : Calls Try.prog 35 #[v, .int .i64 n, .int .i64 c] w fun e w' => e = .returned (.int .i64 1) ∧ w = w' := by
  go_enter Try.func35, Try.ntmps35
  go_wp2_with (go_at_call 30; refine (lis_none _ _ h).mono ?_; rintro e w' ⟨rfl, rfl⟩)
  go_ret
  exact ⟨rfl, rfl⟩
set_option maxHeartbeats 400000 in
theorem unlock_none (w : World) (v : Value) (h : NoLocks w v) (n : Int) : Calls Try.prog 19 #[v, .int .i64 n] w fun e w' => e = .returned (.int .i64 1) ∧ w = w' := by
  go_enter Try.func19, Try.ntmps19
  go_wp2_with (go_at_call 35; refine (holds_none _ _ h _ _).mono ?_; rintro e w' ⟨rfl, rfl⟩)
  go_ret
  exact ⟨rfl, rfl⟩
set_option maxHeartbeats 400000 in
theorem on_none (w : World) (v : Value) (h : NoLocks w v) (n c : Int) : Calls Try.prog 37 #[v, .int .i64 n, .int .i64 c] w fun e w' => e = .returned (.int .i64 1) ∧ w = w' := by
  go_enter Try.func37, Try.ntmps37
  go_wp2_with (first | (go_at_call 30; refine (lis_none _ _ h).mono ?_; rintro e w' ⟨rfl, rfl⟩) | (go_at_call 35; refine (holds_none _ _ h _ _).mono ?_; rintro e w' ⟨rfl, rfl⟩))
  go_ret
  exact ⟨rfl, rfl⟩
set_option maxHeartbeats 400000 in
theorem wait_none (w : World) (v : Value) (h : NoLocks w v) (n c : Int) : Calls Try.prog 21 #[v, .int .i64 n, .int .i64 c] w fun e w' => e = .returned (.int .i64 1) ∧ w = w' := by
  go_enter Try.func21, Try.ntmps21
  go_wp2_with (first | (go_at_call 37; refine (on_none _ _ h _ _).mono ?_; rintro e w' ⟨rfl, rfl⟩))
  go_ret
  exact ⟨rfl, rfl⟩
theorem NoLocks.below {w w' : World} {v : Value} (h : NoLocks w v) (hb : Below w.heap.size w w') : NoLocks w' v :=
  h.imp id fun ⟨p, hv, hc⟩ => ⟨p, hv, (hb.cell (p := ⟨p, 0, none⟩) (World.block_lt_of_cell? w _ hc)).trans hc⟩
set_option maxHeartbeats 400000 in
theorem wake_none (w : World) (v : Value) (h : NoLocks w v) (n c : Int) : Calls Try.prog 23 #[v, .int .i64 n, .int .i64 c] w fun e w' => e = .returned (.tuple #[.int .i64 0, .int .i64 1]) ∧ Below w.heap.size w w' := by
  have hB := (Below.refl _ w).alloc (Nat.le_refl _) (.cells #[.int .i64 c] 3)
  go_enter Try.func23, Try.ntmps23
  go_wp2_with (first | (go_at_call 37; refine (on_none _ _ (h.below hB) _ _).mono ?_; rintro e w' ⟨rfl, rfl⟩))
  go_ret2
  exact ⟨rfl, hB⟩
set_option maxHeartbeats 400000 in
theorem holder_none (w : World) (v : Value) (h : NoLocks w v) : Calls Try.prog 12 #[v] w fun e w' => e = .returned (.tuple #[.int .i64 0, .bool false]) ∧ w = w' := by
  go_enter Try.func12, Try.ntmps12
  go_wp2_with (first | (go_at_call 30; refine (lis_none _ _ h).mono ?_; rintro e w' ⟨rfl, rfl⟩))
  go_ret2
  exact ⟨rfl, rfl⟩
set_option maxHeartbeats 400000 in
theorem sleeps_none (w : World) (v : Value) (h : NoLocks w v) (n : Int) : Calls Try.prog 10 #[v, .int .i64 n] w fun e w' => e = .returned (.tuple #[.int .i64 0, .bool false]) ∧ w = w' := by
  go_enter Try.func10, Try.ntmps10
  go_wp2_with (first | (go_at_call 30; refine (lis_none _ _ h).mono ?_; rintro e w' ⟨rfl, rfl⟩))
  go_ret2
  exact ⟨rfl, rfl⟩
set_option maxHeartbeats 400000 in
theorem can_none (w : World) (v : Value) (h : NoLocks w v) (n : Int) : Calls Try.prog 25 #[v, .int .i64 n] w fun e w' => e = .returned (.bool false) ∧ w = w' := by
  go_enter Try.func25, Try.ntmps25
  go_wp2_with (first | (go_at_call 10; refine (sleeps_none _ _ h _).mono ?_; rintro e w' ⟨rfl, rfl⟩) | (go_at_call 30; refine (lis_none _ _ h).mono ?_; rintro e w' ⟨rfl, rfl⟩))
  go_ret
  exact ⟨rfl, rfl⟩

/-- The two that are none, in the round's world. -/
structure TwoNoLocks (w wr : World) : Prop where
  zero : Blk wr w.heap.size 65 [.pointer none, .int .i64 0, .bool false, .int .i64 0, .map none]
  two : Blk wr (w.heap.size + 1) 23 [.pointer none, .pointer (some ⟨w.heap.size, 0, none⟩)]
  below : Below w.heap.size w wr
theorem TwoNoLocks.go {w wr wr' : World} (h : TwoNoLocks w wr) (hb : Below wr.heap.size wr wr') : TwoNoLocks w wr' :=
  ⟨h.zero.keep (hb.block _ h.zero.lt), h.two.keep (hb.block _ h.two.lt), h.below.trans (hb.mono h.below.size)⟩
theorem TwoNoLocks.at_ {w wr : World} (h : TwoNoLocks w wr) (k : Nat) (hk : k < 2) : ∃ a, wr.cell? ⟨w.heap.size + 1, k, none⟩ = some (.pointer a) ∧ NoLocks wr (.pointer a) := by
  match k, hk with
  | 0, _ => exact ⟨none, h.two.cell 0 rfl, .inl rfl⟩
  | 1, _ => exact ⟨some ⟨w.heap.size, 0, none⟩, h.two.cell 1 rfl, .inr ⟨_, rfl, h.zero.cell 0 rfl⟩⟩

set_option maxRecDepth 100000 in
set_option maxHeartbeats 1000000 in
theorem locksWrong (w : World) (task cond : Int) (ht : (Lit.int .i64 task).wf = true) (hc : (Lit.int .i64 cond).wf = true) :
    Calls Try.prog 7 #[.int .i64 task, .int .i64 cond] w fun e w' => e = .returned (.bool true) ∧ Below w.heap.size w w' := by
  have h0 : TwoNoLocks w ((w.alloc (.cells #[.pointer none, .int .i64 0, .bool false, .int .i64 0, .map none] 65)).alloc (.cells #[.pointer none, .pointer (some ⟨w.heap.size, 0, none⟩)] 23)) :=
    ⟨(Blk.new w _ _).alloc _, by have := Blk.new (w.alloc (.cells #[.pointer none, .int .i64 0, .bool false, .int .i64 0, .map none] 65)) 23 [.pointer none, .pointer (some ⟨w.heap.size, 0, none⟩)]; simpa using this,
      ((Below.refl _ w).alloc (Nat.le_refl _) _).alloc (by simp) _⟩
  go_enter Try.func7, Try.ntmps7
  go_wp2_with fail
  go_loopw [30] (fun i wr => ∃ k : Nat, k ≤ 2 ∧ i = .int .i64 k ∧ TwoNoLocks w wr) (fun i _ => 2 - (intOf i).toNat)
  case atStart => exact ⟨0, by omega, rfl, h0⟩
  case round =>
    clear h0
    obtain ⟨k, hk, rfl, hT⟩ := hrel
    by_cases hlt : k < 2
    · obtain ⟨a, hca, hN⟩ := hT.at_ k hlt
      go_wp2_with (first | (go_at_call 23; refine (wake_none _ _ hN _ _).mono ?_; rintro e w1 ⟨rfl, hb1⟩; have hN1 := hN.below hb1) | (go_at_call 12; refine (holder_none _ _ hN1).mono ?_; rintro e w' ⟨rfl, rfl⟩) | (go_at_call 10; refine (sleeps_none _ _ hN1 _).mono ?_; rintro e w' ⟨rfl, rfl⟩) | (go_at_call 17; refine (lock_none _ _ hN1 _).mono ?_; rintro e w' ⟨rfl, rfl⟩) | (go_at_call 19; refine (unlock_none _ _ hN1 _).mono ?_; rintro e w' ⟨rfl, rfl⟩) | (go_at_call 21; refine (wait_none _ _ hN1 _ _).mono ?_; rintro e w' ⟨rfl, rfl⟩) | (go_at_call 25; refine (can_none _ _ hN1 _).mono ?_; rintro e w' ⟨rfl, rfl⟩))
      go_roundw
      case rel => exact ⟨k + 1, by omega, by go_num, hT.go hb1⟩
      case measure => simp [intOf]; omega
    · have hB0 := hT.below
      clear hT
      have hNC : NoCells (wr.alloc (.cells #[.bool false, .slice none 0 0, .slice none 0 0, .slice none 0 0] 70)) (.pointer (some ⟨wr.heap.size, 0, none⟩)) := .inr ⟨_, rfl, by rw [World.cell?_alloc_at _ _ _ _ (by simp)]; rfl⟩
      go_wp2_with (first | (go_at_call 15; refine (newL_none _ hNC).mono ?_; rintro e w1 ⟨rfl, hB1⟩))
      have hBx := (hB0.alloc hB0.size (.cells #[.bool false, .slice none 0 0, .slice none 0 0, .slice none 0 0] 70)).trans (hB1.mono (by have := hB0.size; simp; omega))
      clear hB1 hB0 hNC
      refine (made14_ok _ 2 (by decide) (by decide)).mono ?_
      rintro e w2 ⟨r, rfl, hL2, hB2⟩
      have hB := hBx.trans (hB2.mono hBx.size)
      have hs1 := hBx.size
      clear hBx hB2
      by_cases hf : 0 ≤ task ∧ task < 64
      · have el : lockE ⟨2, false, 0, fun _ => none⟩ task = 0 := by simp [lockE, hf]
        go_wp2_with fail
        refine (lock_to hL2 task ht (by decide) 0 ⟨2, true, task, fun _ => none⟩ ⟨[], [], [⟨task, 8, 0⟩]⟩ el (by simp [lockL, el]) (by simp [lockN, el, Mem.notes, Mem.new])).mono ?_
        rintro e w3 ⟨rfl, hL3, hB3⟩
        have hBc := hB.trans (hB3.mono hs1)
        clear hB hL2 hB3
        by_cases hd : 0 ≤ cond ∧ cond < 2
        · have eo : onE ⟨2, true, task, fun _ => none⟩ task cond = 0 := by simp only [onE, holdsE]; rw [if_neg (by omega), if_neg (by omega)]; simp
          have ew : slWake (fun _ => none) cond = fun _ => none := by funext i; simp [slWake]
          go_wp2_with fail
          refine (wake_to hL3 task cond 0 0 ⟨2, true, task, fun _ => none⟩ (by simp [wakeM, eo, slCount]) eo (by simp [wakeL, eo, ew])).mono ?_
          rintro e w4 ⟨rfl, hL4, hB4⟩
          replace hBc := hBc.trans (hB4.mono hs1)
          clear hB4 hL3
          go_wp2_with fail
          refine (wait_to hL4 task cond hc (by simp [trMax]) 0 ⟨2, false, 0, slUp (fun _ => none) task.toNat (some cond)⟩ ⟨[], [], [⟨task, 8, 0⟩, ⟨task, 9, 0⟩]⟩ eo (by simp [waitL, eo]) (by simp [waitN, eo, Mem.notes])).mono ?_
          rintro e w5 ⟨rfl, hL5, hB5⟩
          replace hBc := hBc.trans (hB5.mono hs1)
          clear hB5 hL4
          go_wp2_with (first | (go_at_call 10; refine (sleeps_to hL5 task ht (some cond) (by simp [slAt, hf, slUp])).mono ?_; rintro e w' ⟨rfl, rfl⟩) | (go_at_call 9; refine (ltrace_w hL5 (by simp [trMax])).mono ?_; rintro e w6 ⟨v6, rfl, hr6, hb6⟩; obtain ⟨ao, cap, rfl⟩ := hr6.slice; have hBd := hBc.trans (hb6.mono hBc.size)) | (go_at_call 13; refine (awake14 _).mono ?_; rintro e w7 ⟨rfl, hb7⟩; have hBe := hBd.trans (hb7.mono hBd.size)))
          go_ret
          exact ⟨rfl, hBe⟩
        · have eo : onE ⟨2, true, task, fun _ => none⟩ task cond = 2 := by
            simp only [onE, holdsE]
            by_cases h2 : cond = 2
            · rw [if_pos h2]
            · rw [if_neg h2, if_pos (by omega)]
          go_wp2_with fail
          refine (wake_to hL3 task cond 0 2 ⟨2, true, task, fun _ => none⟩ (by simp [wakeM, eo]) eo (by simp [wakeL, eo])).mono ?_
          rintro e w4 ⟨rfl, hL4, hB4⟩
          replace hBc := hBc.trans (hB4.mono hs1)
          clear hB4 hL3
          go_wp2_with fail
          refine (wait_to hL4 task cond hc (by simp [trMax]) 2 ⟨2, true, task, fun _ => none⟩ ⟨[], [], [⟨task, 8, 0⟩]⟩ eo (by simp [waitL, eo]) (by simp [waitN, eo, Mem.notes])).mono ?_
          rintro e w5 ⟨rfl, hL5, hB5⟩
          replace hBc := hBc.trans (hB5.mono hs1)
          clear hB5 hL4 hL5
          have hd' : cond < 0 ∨ (0 ≤ cond ∧ ¬ cond < 2) := by omega
          rcases hd' with hd' | ⟨hd1, hd2⟩
          all_goals
            first | (have e1 : (0 ≤ cond) = False := by simp; omega) | (have e1 : (cond < 2) = False := by simp; omega)
            go_wp2_with (first | (go_at_call 13; refine (awake14 _).mono ?_; rintro e w7 ⟨rfl, hb7⟩; have hBe := hBc.trans (hb7.mono hBc.size)))
            go_ret
            exact ⟨rfl, hBe⟩
      · have el : lockE ⟨2, false, 0, fun _ => none⟩ task = 2 := by simp [lockE, hf]
        have eu : holdsE ⟨2, false, 0, fun _ => none⟩ task 0 = 2 := by simp only [holdsE]; rw [if_pos (.inl hf)]
        have eo : onE ⟨2, false, 0, fun _ => none⟩ task cond = 2 := by 
          simp only [onE, holdsE]
          by_cases h2 : cond = 2
          · rw [if_pos h2]
          · rw [if_neg h2, if_pos (.inl hf)]
        have hf' : task < 0 ∨ (0 ≤ task ∧ ¬ task < 64) := by omega
        have hd' : cond < 0 ∨ (0 ≤ cond ∧ ¬ cond < 2) ∨ (0 ≤ cond ∧ cond < 2) := by omega
        rcases hf' with hf' | ⟨hf1, hf2⟩ <;> rcases hd' with hd' | ⟨hd1, hd2⟩ | ⟨hd1, hd2⟩
        all_goals
          first | (have e2 : (0 ≤ cond) = False := by simp; omega) | (have e2 : (cond < 2) = False := by simp; omega) | skip
          first | (have e1 : (0 ≤ task) = False := by simp; omega) | (have e1 : (task < 64) = False := by simp; omega)
          go_wp2_with fail
          refine (lock_to hL2 task ht (by decide) 2 ⟨2, false, 0, fun _ => none⟩ (Mem.new 0 0) el (by simp [lockL, el]) (by simp [lockN, el, Mem.notes, Mem.new])).mono ?_
          rintro e w3 ⟨rfl, hL3, hB3⟩
          have hBc := hB.trans (hB3.mono hs1)
          clear hB hL2 hB3
          go_wp2_with (first | (go_at_call 9; refine (ltrace_w hL3 (by decide)).mono ?_; rintro e w4 ⟨v4, rfl, hr4, hb4⟩; obtain ⟨ao, cap, rfl⟩ := hr4.slice; have hL4 := hL3.below hb4; have hBd := hBc.trans (hb4.mono hBc.size)) | (go_at_call 19; refine (unlock_to hL4 task (by decide) 2 ⟨2, false, 0, fun _ => none⟩ (Mem.new 0 0) eu (by simp [unlockL, eu]) (by simp [unlockN, eu, Mem.notes, Mem.new])).mono ?_; rintro e w5 ⟨rfl, hL5, hb5⟩; have hBe := hBd.trans (hb5.mono hs1)) | (go_at_call 23; refine (wake_to hL5 task cond 0 2 ⟨2, false, 0, fun _ => none⟩ (by simp [wakeM, eo]) eo (by simp [wakeL, eo])).mono ?_; rintro e w6 ⟨rfl, hL6, hb6⟩; have hBf := hBe.trans (hb6.mono hs1)) | (go_at_call 21; refine (wait_to hL6 task cond hc (by decide) 2 ⟨2, false, 0, fun _ => none⟩ (Mem.new 0 0) eo (by simp [waitL, eo]) (by simp [waitN, eo, Mem.notes, Mem.new])).mono ?_; rintro e w7 ⟨rfl, hL7, hb7⟩; have hBg := hBf.trans (hb7.mono hs1); clear hBc hBd hBe hBf hL3 hL4 hL5 hL6 hb7 hb6 hb5 hb4) | (go_at_call 13; refine (awake14 _).mono ?_; rintro e w8 ⟨rfl, hb8⟩; have hBh := hBg.trans (hb8.mono hBg.size)))
          all_goals go_ret
          all_goals exact ⟨rfl, hBh⟩

end Go.Proofs.Ytncfbccihofaoaa
