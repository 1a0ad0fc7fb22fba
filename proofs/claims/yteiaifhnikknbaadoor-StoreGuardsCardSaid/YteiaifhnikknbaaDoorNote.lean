/- The walk over (*Cells).Note. -/
import Derived.Test.YteiaifhnikknbaaDoorCellsNew
namespace Go.Proofs.YteiaifhnikknbaaDoor
open Go.RowKit

set_option maxHeartbeats 1000000 in
theorem note_a {w : World} {c : CRef} {S : Mem} {A : Nat → Prop} (hC : Cells w c S A) (hF : Fresh A w) (hn : S.trace.length < trMax) (task what at_ : Int) (t1 : 0 ≤ task) (t2 : task < 64) (t3 : 0 ≤ at_) (h1 : 1 ≤ what) (h2 : what ≤ 5) (h3 : at_ < S.atomics.length) :
    Calls Tryd.prog 64 #[.pointer (some ⟨c.p, 0, none⟩), .agg #[.int .i64 task, .int .u8 what, .int .i64 at_]] w fun e w' => e = .returned (.int .i64 0) ∧ Cells w' c (S.note ⟨task, what, at_⟩) A ∧ Only A w w' := by
  obtain ⟨tv, pls, hC⟩ := hC
  have hlt := hC.main.lt
  have c0 := hC.c0
  have c1 := hC.c1
  have c2 := hC.c2
  have c3 := hC.c3
  go_enter Tryd.func64, Tryd.ntmps64
  go_wp2_with (first | (go_at_call 70; refine (is_yes _ _ (cell_alloc_keep _ _ _ c0)).mono ?_; rintro e w' ⟨rfl, rfl⟩))
  obtain ⟨i0, hi, hz0, hz1, hz2⟩ := info_parts infoAcc
  have hSa : Same A w ((w.alloc (.cells #[.int .i64 task, .int .u8 what, .int .i64 at_] 96)).alloc (.cells #[.int .i64 task, .int .u8 what, .int .i64 at_] 96)).drew :=
    ((Same.alloc A w _).trans (by simp) (Same.alloc A _ _)).trans (by simp; omega) (Same.drew A _)
  have hCa := hC.keep hSa
  have hFa := ((hF.alloc (.cells #[.int .i64 task, .int .u8 what, .int .i64 at_] 96)).alloc (.cells #[.int .i64 task, .int .u8 what, .int .i64 at_] 96)).drew
  have hnews := Lib.hid (cells_three' (w.alloc (.cells #[.int .i64 task, .int .u8 what, .int .i64 at_] 96)).drew (w.heap.size + 1) (by simp) (.int .i64 task) (.int .u8 what) (.int .i64 at_) 96)
  have hnn : S.trace.length < 1000000000 := hn
  have hO0 : Only A w ((w.alloc (.cells #[.int .i64 task, .int .u8 what, .int .i64 at_] 96)).alloc (.cells #[.int .i64 task, .int .u8 what, .int .i64 at_] 96)).drew := (((Only.refl A w).alloc _).alloc _).drew
  clear hSa hC c0 c1 c2 t1 t2 t3 h3 h1 h2
  go_region_law ((refine step_append_own rfl _ _ 89 rfl 0 96 i0 (.agg #[.int .i64 0, .int .u8 0, .int .i64 0]) 3 24 Tryd.underlying89 hi hz0 hz1 hz2 rfl (by decide) tv S.trace.length (accs S.trace) rfl hCa.trace.owns ⟨w.heap.size + 1, 0, none⟩ 1 1 [.int .i64 task, .int .u8 what, .int .i64 at_] rfl rfl hnews.out (by simp [Value.oneCell']) (by unfold maxLen; omega) (by omega) (Nat.zero_le _) ?_; intro v' w1 hown hgrow _ hat; obtain ⟨hC2, hO2⟩ := hCa.noted hFa ⟨task, what, at_⟩ hown hgrow (hat.imp id fun h => ⟨_, h, by simp⟩); have m1 := hCa.main.grown hgrow (hCa.trace.ne_blk hCa.main (by decide)); have k3 := m1.cell 3 rfl; have f3 := m1.frozen 3; obtain ⟨g, cap, rfl⟩ := owns_succ hown; clear hown hgrow hat m1))
  all_goals go_wp2
  all_goals go_ret
  all_goals exact ⟨rfl, ⟨_, _, hC2⟩, hO0.trans hO2⟩

set_option maxHeartbeats 1000000 in
theorem note_b6 {w : World} {c : CRef} {S : Mem} {A : Nat → Prop} (hC : Cells w c S A) (hF : Fresh A w) (hn : S.trace.length < trMax) (task at_ : Int) (t1 : 0 ≤ task) (t2 : task < 64) (t3 : 0 ≤ at_) (h3 : at_ < S.plains.length) :
    Calls Tryd.prog 64 #[.pointer (some ⟨c.p, 0, none⟩), .agg #[.int .i64 task, .int .u8 6, .int .i64 at_]] w fun e w' => e = .returned (.int .i64 0) ∧ Cells w' c (S.note ⟨task, 6, at_⟩) A ∧ Only A w w' := by
  obtain ⟨tv, pls, hC⟩ := hC
  have hlt := hC.main.lt
  have c0 := hC.c0
  have c1 := hC.c1
  have c2 := hC.c2
  have c3 := hC.c3
  rw [← hC.rows] at h3
  go_enter Tryd.func64, Tryd.ntmps64
  go_wp2_with (first | (go_at_call 70; refine (is_yes _ _ (cell_alloc_keep _ _ _ c0)).mono ?_; rintro e w' ⟨rfl, rfl⟩))
  obtain ⟨i0, hi, hz0, hz1, hz2⟩ := info_parts infoAcc
  have hSa : Same A w ((w.alloc (.cells #[.int .i64 task, .int .u8 6, .int .i64 at_] 96)).alloc (.cells #[.int .i64 task, .int .u8 6, .int .i64 at_] 96)).drew :=
    ((Same.alloc A w _).trans (by simp) (Same.alloc A _ _)).trans (by simp; omega) (Same.drew A _)
  have hCa := hC.keep hSa
  have hFa := ((hF.alloc (.cells #[.int .i64 task, .int .u8 6, .int .i64 at_] 96)).alloc (.cells #[.int .i64 task, .int .u8 6, .int .i64 at_] 96)).drew
  have hnews := Lib.hid (cells_three' (w.alloc (.cells #[.int .i64 task, .int .u8 6, .int .i64 at_] 96)).drew (w.heap.size + 1) (by simp) (.int .i64 task) (.int .u8 6) (.int .i64 at_) 96)
  have hnn : S.trace.length < 1000000000 := hn
  have hO0 : Only A w ((w.alloc (.cells #[.int .i64 task, .int .u8 6, .int .i64 at_] 96)).alloc (.cells #[.int .i64 task, .int .u8 6, .int .i64 at_] 96)).drew := (((Only.refl A w).alloc _).alloc _).drew
  clear hSa hC c0 c1 c2 t1 t2 t3 h3 
  go_region_law ((refine step_append_own rfl _ _ 89 rfl 0 96 i0 (.agg #[.int .i64 0, .int .u8 0, .int .i64 0]) 3 24 Tryd.underlying89 hi hz0 hz1 hz2 rfl (by decide) tv S.trace.length (accs S.trace) rfl hCa.trace.owns ⟨w.heap.size + 1, 0, none⟩ 1 1 [.int .i64 task, .int .u8 6, .int .i64 at_] rfl rfl hnews.out (by simp [Value.oneCell']) (by unfold maxLen; omega) (by omega) (Nat.zero_le _) ?_; intro v' w1 hown hgrow _ hat; obtain ⟨hC2, hO2⟩ := hCa.noted hFa ⟨task, 6, at_⟩ hown hgrow (hat.imp id fun h => ⟨_, h, by simp⟩); have m1 := hCa.main.grown hgrow (hCa.trace.ne_blk hCa.main (by decide)); have k3 := m1.cell 3 rfl; have f3 := m1.frozen 3; obtain ⟨g, cap, rfl⟩ := owns_succ hown; clear hown hgrow hat m1))
  all_goals go_wp2
  all_goals go_ret
  all_goals exact ⟨rfl, ⟨_, _, hC2⟩, hO0.trans hO2⟩

set_option maxHeartbeats 1000000 in
theorem note_b7 {w : World} {c : CRef} {S : Mem} {A : Nat → Prop} (hC : Cells w c S A) (hF : Fresh A w) (hn : S.trace.length < trMax) (task at_ : Int) (t1 : 0 ≤ task) (t2 : task < 64) (t3 : 0 ≤ at_) (h3 : at_ < S.plains.length) :
    Calls Tryd.prog 64 #[.pointer (some ⟨c.p, 0, none⟩), .agg #[.int .i64 task, .int .u8 7, .int .i64 at_]] w fun e w' => e = .returned (.int .i64 0) ∧ Cells w' c (S.note ⟨task, 7, at_⟩) A ∧ Only A w w' := by
  obtain ⟨tv, pls, hC⟩ := hC
  have hlt := hC.main.lt
  have c0 := hC.c0
  have c1 := hC.c1
  have c2 := hC.c2
  have c3 := hC.c3
  rw [← hC.rows] at h3
  go_enter Tryd.func64, Tryd.ntmps64
  go_wp2_with (first | (go_at_call 70; refine (is_yes _ _ (cell_alloc_keep _ _ _ c0)).mono ?_; rintro e w' ⟨rfl, rfl⟩))
  obtain ⟨i0, hi, hz0, hz1, hz2⟩ := info_parts infoAcc
  have hSa : Same A w ((w.alloc (.cells #[.int .i64 task, .int .u8 7, .int .i64 at_] 96)).alloc (.cells #[.int .i64 task, .int .u8 7, .int .i64 at_] 96)).drew :=
    ((Same.alloc A w _).trans (by simp) (Same.alloc A _ _)).trans (by simp; omega) (Same.drew A _)
  have hCa := hC.keep hSa
  have hFa := ((hF.alloc (.cells #[.int .i64 task, .int .u8 7, .int .i64 at_] 96)).alloc (.cells #[.int .i64 task, .int .u8 7, .int .i64 at_] 96)).drew
  have hnews := Lib.hid (cells_three' (w.alloc (.cells #[.int .i64 task, .int .u8 7, .int .i64 at_] 96)).drew (w.heap.size + 1) (by simp) (.int .i64 task) (.int .u8 7) (.int .i64 at_) 96)
  have hnn : S.trace.length < 1000000000 := hn
  have hO0 : Only A w ((w.alloc (.cells #[.int .i64 task, .int .u8 7, .int .i64 at_] 96)).alloc (.cells #[.int .i64 task, .int .u8 7, .int .i64 at_] 96)).drew := (((Only.refl A w).alloc _).alloc _).drew
  clear hSa hC c0 c1 c2 t1 t2 t3 h3 
  go_region_law ((refine step_append_own rfl _ _ 89 rfl 0 96 i0 (.agg #[.int .i64 0, .int .u8 0, .int .i64 0]) 3 24 Tryd.underlying89 hi hz0 hz1 hz2 rfl (by decide) tv S.trace.length (accs S.trace) rfl hCa.trace.owns ⟨w.heap.size + 1, 0, none⟩ 1 1 [.int .i64 task, .int .u8 7, .int .i64 at_] rfl rfl hnews.out (by simp [Value.oneCell']) (by unfold maxLen; omega) (by omega) (Nat.zero_le _) ?_; intro v' w1 hown hgrow _ hat; obtain ⟨hC2, hO2⟩ := hCa.noted hFa ⟨task, 7, at_⟩ hown hgrow (hat.imp id fun h => ⟨_, h, by simp⟩); have m1 := hCa.main.grown hgrow (hCa.trace.ne_blk hCa.main (by decide)); have k3 := m1.cell 3 rfl; have f3 := m1.frozen 3; obtain ⟨g, cap, rfl⟩ := owns_succ hown; clear hown hgrow hat m1))
  all_goals go_wp2
  all_goals go_ret
  all_goals exact ⟨rfl, ⟨_, _, hC2⟩, hO0.trans hO2⟩

set_option maxHeartbeats 1000000 in
theorem note_c {w : World} {c : CRef} {S : Mem} {A : Nat → Prop} (hC : Cells w c S A) (hF : Fresh A w) (hn : S.trace.length < trMax) (task what at_ : Int) (t1 : 0 ≤ task) (t2 : task < 64) (t3 : 0 ≤ at_) (h1 : 8 ≤ what) (h2 : what ≤ 9) (h3 : at_ < 1) :
    Calls Tryd.prog 64 #[.pointer (some ⟨c.p, 0, none⟩), .agg #[.int .i64 task, .int .u8 what, .int .i64 at_]] w fun e w' => e = .returned (.int .i64 0) ∧ Cells w' c (S.note ⟨task, what, at_⟩) A ∧ Only A w w' := by
  obtain ⟨tv, pls, hC⟩ := hC
  have hlt := hC.main.lt
  have c0 := hC.c0
  have c1 := hC.c1
  have c2 := hC.c2
  have c3 := hC.c3
  have e6 : (what == 6) = false := by simp; omega
  have e7 : (what == 7) = false := by simp; omega
  go_enter Tryd.func64, Tryd.ntmps64
  go_wp2_with (first | (go_at_call 70; refine (is_yes _ _ (cell_alloc_keep _ _ _ c0)).mono ?_; rintro e w' ⟨rfl, rfl⟩))
  obtain ⟨i0, hi, hz0, hz1, hz2⟩ := info_parts infoAcc
  have hSa : Same A w ((w.alloc (.cells #[.int .i64 task, .int .u8 what, .int .i64 at_] 96)).alloc (.cells #[.int .i64 task, .int .u8 what, .int .i64 at_] 96)).drew :=
    ((Same.alloc A w _).trans (by simp) (Same.alloc A _ _)).trans (by simp; omega) (Same.drew A _)
  have hCa := hC.keep hSa
  have hFa := ((hF.alloc (.cells #[.int .i64 task, .int .u8 what, .int .i64 at_] 96)).alloc (.cells #[.int .i64 task, .int .u8 what, .int .i64 at_] 96)).drew
  have hnews := Lib.hid (cells_three' (w.alloc (.cells #[.int .i64 task, .int .u8 what, .int .i64 at_] 96)).drew (w.heap.size + 1) (by simp) (.int .i64 task) (.int .u8 what) (.int .i64 at_) 96)
  have hnn : S.trace.length < 1000000000 := hn
  have hO0 : Only A w ((w.alloc (.cells #[.int .i64 task, .int .u8 what, .int .i64 at_] 96)).alloc (.cells #[.int .i64 task, .int .u8 what, .int .i64 at_] 96)).drew := (((Only.refl A w).alloc _).alloc _).drew
  clear hSa hC c0 c1 c2 t1 t2 t3 h3 h1 h2
  go_region_law ((refine step_append_own rfl _ _ 89 rfl 0 96 i0 (.agg #[.int .i64 0, .int .u8 0, .int .i64 0]) 3 24 Tryd.underlying89 hi hz0 hz1 hz2 rfl (by decide) tv S.trace.length (accs S.trace) rfl hCa.trace.owns ⟨w.heap.size + 1, 0, none⟩ 1 1 [.int .i64 task, .int .u8 what, .int .i64 at_] rfl rfl hnews.out (by simp [Value.oneCell']) (by unfold maxLen; omega) (by omega) (Nat.zero_le _) ?_; intro v' w1 hown hgrow _ hat; obtain ⟨hC2, hO2⟩ := hCa.noted hFa ⟨task, what, at_⟩ hown hgrow (hat.imp id fun h => ⟨_, h, by simp⟩); have m1 := hCa.main.grown hgrow (hCa.trace.ne_blk hCa.main (by decide)); have k3 := m1.cell 3 rfl; have f3 := m1.frozen 3; obtain ⟨g, cap, rfl⟩ := owns_succ hown; clear hown hgrow hat m1))
  all_goals go_wp2
  all_goals go_ret
  all_goals exact ⟨rfl, ⟨_, _, hC2⟩, hO0.trans hO2⟩

/-- Note, of whatever may be noted. -/
theorem note_ok {w : World} {c : CRef} {S : Mem} {A : Nat → Prop} (hC : Cells w c S A) (hF : Fresh A w) (hn : S.trace.length < trMax) (a : Acc) (h : okNote S a = true) :
    Calls Tryd.prog 64 #[.pointer (some ⟨c.p, 0, none⟩), .agg #[.int .i64 a.task, .int .u8 a.what, .int .i64 a.at_]] w fun e w' => e = .returned (.int .i64 0) ∧ Cells w' c (S.note a) A ∧ Only A w w' := by
  obtain ⟨h1, h2, h3, h4, h5, h6, h7, h8⟩ := of_decide_eq_true h
  obtain ⟨task, what, at_⟩ := a
  simp only at h1 h2 h3 h4 h5 h6 h7 h8
  by_cases k5 : what ≤ 5
  · exact note_a hC hF hn task what at_ h1 h2 h3 h4 k5 (h6 k5)
  · by_cases k6 : what = 6
    · subst k6
      exact note_b6 hC hF hn task at_ h1 h2 h3 (h7 (by omega) (by omega))
    · by_cases k7 : what = 7
      · subst k7
        exact note_b7 hC hF hn task at_ h1 h2 h3 (h7 (by omega) (by omega))
      · exact note_c hC hF hn task what at_ h1 h2 h3 (by omega) h5 (h8 (by omega))

end Go.Proofs.YteiaifhnikknbaaDoor
