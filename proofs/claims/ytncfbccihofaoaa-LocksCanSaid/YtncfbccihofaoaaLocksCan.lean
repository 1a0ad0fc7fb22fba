/- The walk over law 14's LocksCan. -/
import Derived.Test.YtncfbccihofaoaaLocksX
import Derived.Deep.DeepCutAuto
namespace Go.Proofs.Ytncfbccihofaoaa
open Go.RowKit Go.Maps

theorem doL_conds (L : Lk) (what t c : Int) : (doL L what t c).conds = L.conds := by
  unfold doL lockL unlockL waitL wakeL
  repeat' split
  all_goals rfl
theorem doN_one (L : Lk) (what t c : Int) : (doN L what t c).length ≤ 1 := by
  unfold doN lockN unlockN waitN
  repeat' split
  all_goals simp

set_option maxRecDepth 100000 in
set_option maxHeartbeats 2000000 in
theorem locksCan (w : World) (many : Int) (hu0 : 0 ≤ many) (hu1 : many ≤ 255) (ao : Option Addr) (cap : Nat) (l : List Op) (hcap : l.length ≤ cap) (hl : ArgRow w 3 (.slice ao l.length cap) Op.cells Op.Fits l) (task : Int) (hwt : (Lit.int .i64 task).wf = true) :
    Calls Try.prog 6 #[.int .u8 many, .slice ao l.length cap, .int .i64 task] w fun e w' => e = .returned (.bool true) ∧ Below w.heap.size w w' := by
  obtain ⟨m, hm', hm1, hm2, -⟩ := cut_min 60 l.length
  have hm : (if (60 : Int) < (l.length : Int) then (60 : Int) else (l.length : Int)) = (m : Int) := hm'
  clear hm'
  have hm3 : m ≤ cap := by omega
  go_enter Try.func6, Try.ntmps6
  go_wp2_with fail
  obtain ⟨n, hn⟩ : ∃ n, 1 + many % 4 = n := ⟨_, rfl⟩
  rw [hn]
  have n0 : 1 ≤ n := by omega
  have n1 : n ≤ 4 := by omega
  clear hn hu0 hu1
  refine (made14_ok _ n (by omega) (by omega)).mono ?_
  rintro e w1 ⟨r, rfl, hL1, hB1⟩
  have hI0 : Lx (LB w.heap.size r) w.heap.size w1 r ⟨n, false, 0, fun _ => none⟩ (Mem.new 0 0) ∧ Below w.heap.size w w1 := ⟨hL1.lx, hB1⟩
  obtain ⟨A, hA⟩ : ∃ A, A = LB w.heap.size r := ⟨_, rfl⟩
  rw [← hA] at hI0
  clear hA hL1 hB1
  go_wp2_with fail
  clear hm
  go_loopw [35] (fun i wr => ∃ k : Nat, k ≤ m ∧ i = .int .i64 k ∧ ∃ (L : Lk) (S : Mem), Lx A w.heap.size wr r L S ∧ S.trace.length ≤ k ∧ L.conds = n ∧ Below w.heap.size w wr) (fun i _ => m - (intOf i).toNat)
  case atStart => exact ⟨0, by omega, rfl, _, _, hI0.1, Nat.zero_le _, rfl, hI0.2⟩
  case round =>
    clear hI0
    obtain ⟨k, hk, rfl, L, S, hI, hS, hcd, hB⟩ := hrel
    by_cases hlt : k < m
    · have hkl : k < l.length := by omega
      obtain ⟨b, off, rfl, hx⟩ := hl.cell hB (by decide) k hkl
      have hfit := hl.good l[k] (List.getElem_mem _)
      obtain ⟨o, ho⟩ : ∃ o, o = l[k] := ⟨_, rfl⟩
      rw [← ho] at hx hfit
      have x0 := hx 0 _ rfl
      have x1 := hx 1 _ rfl
      have x2 := hx 2 _ rfl
      simp only [Nat.add_zero] at x0
      have hw := fits_u8 hfit.what
      have hI1 := hI.below ((Below.refl _ wr).alloc (Nat.le_refl _) (.cells #[.int .u8 o.what, .int .i64 o.task, .int .i64 o.cond] 28))
      have hB1 := hB.alloc hB.size (.cells #[.int .u8 o.what, .int .i64 o.task, .int .i64 o.cond] 28)
      clear hx hfit ho hI hB
      have ht6 := six_in o.task
      have hc6 := cond_in o.cond n n0 n1
      obtain ⟨t, ht⟩ : ∃ t, (wrap64 (o.task.tmod 6 + 6)).tmod 6 = t := ⟨_, rfl⟩
      obtain ⟨c, hc⟩ : ∃ c, (wrap64 (o.cond.tmod n + n)).tmod n = c := ⟨_, rfl⟩
      rw [ht] at ht6
      rw [hc] at hc6
      go_wp2_with fail
      refine (does_x hI1 (by unfold trMax; omega) o.what o.task o.cond n hw n0 n1 t c ht hc ht6 hc6).mono ?_
      rintro e w2 ⟨rfl, hI2, hO2⟩
      have hB2 := hB1.trans (hI1.under hO2)
      have hcd2 := (doL_conds L o.what t c).trans hcd
      have hS2 : (S.notes (doN L o.what t c)).trace.length ≤ k + 1 := by
        have := doN_one L o.what t c
        simp [Mem.notes]; omega
      clear hI1 hB1 hO2
      go_wp2_with fail
      go_roundw
      case rel => exact ⟨k + 1, by omega, by go_num, _, _, hI2, hS2, hcd2, hB2⟩
      case measure => simp [intOf]; omega
    · clear hl
      have hS' : S.trace.length < trMax := by unfold trMax; omega
      have hL := hI.lw
      by_cases hc : lockE L task = 0
      · have h1 := lock_zero hc
        have e1 : lockL L task = { L with held := true, holder := task } := by simp [lockL, hc]
        have e2 : canB { L with held := true, holder := task } task = false := by simp [canB, lockE, h1.1, h1.2.1]
        have e3 : holdsE { L with held := true, holder := task } task 0 = 0 := by
          have := h1.1
          simp only [holdsE]; rw [if_neg (by omega)]; simp
        have e4 : unlockL { L with held := true, holder := task } task = { L with held := false, holder := 0 } := by simp [unlockL, e3]
        have e5 : canB { L with held := false, holder := 0 } task = true := by simp [canB, lockE, h1.1, h1.2.1]
        have hS2 : (S.notes (lockN L task)).trace.length < trMax := by unfold trMax; simp [Mem.notes, lockN, hc]; omega
        have e6 : canB L task = true := by simp [canB, hc]
        go_wp2_with (first | (go_at_call 25; refine (can_to hL task hwt true e6).mono ?_; rintro e w' ⟨rfl, rfl⟩) | (go_at_call 17; refine (lock_to hL task hwt hS' 0 _ _ hc e1 rfl).mono ?_; rintro e w2 ⟨rfl, hL2, hB2⟩; have hB3 := hB.trans hB2) | (go_at_call 12; refine (holder_to hL2 task true rfl rfl).mono ?_; rintro e w' ⟨rfl, rfl⟩) | (go_at_call 25; refine (can_to hL2 task hwt false e2).mono ?_; rintro e w' ⟨rfl, rfl⟩) | (go_at_call 19; refine (unlock_to hL2 task hS2 0 _ _ e3 e4 rfl).mono ?_; rintro e w3 ⟨rfl, hL3, hB4⟩; have hB5 := hB3.trans hB4) | (go_at_call 25; refine (can_to hL3 task hwt true e5).mono ?_; rintro e w' ⟨rfl, rfl⟩) | (go_at_call 13; refine (awake14 _).mono ?_; rintro e w4 ⟨rfl, hb4⟩; have hB6 := hB5.trans (hb4.mono hB5.size)))
        go_ret
        exact ⟨rfl, hB6⟩
      · have e6 : canB L task = false := by simp [canB, hc]
        have e1 : lockL L task = L := by simp [lockL, hc]
        have e0 : (lockE L task == 0) = false := by simpa using hc
        go_wp2_with (first | (go_at_call 25; refine (can_to hL task hwt false e6).mono ?_; rintro e w' ⟨rfl, rfl⟩) | (go_at_call 17; refine (lock_to hL task hwt hS' _ _ _ rfl e1 rfl).mono ?_; rintro e w2 ⟨rfl, hL2, hB2⟩; have hB3 := hB.trans hB2) | (go_at_call 13; refine (awake14 _).mono ?_; rintro e w4 ⟨rfl, hb4⟩; have hB6 := hB3.trans (hb4.mono hB3.size)))
        go_ret
        exact ⟨rfl, hB6⟩

end Go.Proofs.Ytncfbccihofaoaa
