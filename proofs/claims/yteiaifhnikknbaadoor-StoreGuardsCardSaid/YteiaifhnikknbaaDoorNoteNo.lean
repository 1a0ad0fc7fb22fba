/- The walk over (*Cells).Note, of what may not be noted. -/
import Derived.Test.YteiaifhnikknbaaDoorCellsNew
namespace Go.Proofs.YteiaifhnikknbaaDoor
open Go.RowKit

set_option maxHeartbeats 1000000 in
theorem noteNo_a {w : World} {c : CRef} {S : Mem} {A : Nat → Prop} (hC : Cells w c S A) (task what at_ : Int) (h1 : 1 ≤ what) (h2 : what ≤ 5) (h3 : ¬ (0 ≤ task ∧ task < 64 ∧ 0 ≤ at_ ∧ at_ < S.atomics.length)) :
    Calls Tryd.prog 64 #[.pointer (some ⟨c.p, 0, none⟩), .agg #[.int .i64 task, .int .u8 what, .int .i64 at_]] w fun e w' => e = .returned (.int .i64 2) ∧ Below w.heap.size w w' := by
  obtain ⟨tv, pls, hC⟩ := hC
  have hlt := hC.main.lt
  have c0 := hC.c0
  have c1 := hC.c1
  have c2 := hC.c2
  clear hC
  go_enter Tryd.func64, Tryd.ntmps64
  go_wp2_with (first | (go_at_call 70; refine (is_yes _ _ (cell_alloc_keep _ _ _ c0)).mono ?_; rintro e w' ⟨rfl, rfl⟩))
  all_goals go_ret
  all_goals exact ⟨rfl, (Below.refl _ _).alloc (Nat.le_refl _) _⟩

set_option maxHeartbeats 1000000 in
theorem noteNo_b6 {w : World} {c : CRef} {S : Mem} {A : Nat → Prop} (hC : Cells w c S A) (task at_ : Int) (h3 : ¬ (0 ≤ task ∧ task < 64 ∧ 0 ≤ at_ ∧ at_ < S.plains.length)) :
    Calls Tryd.prog 64 #[.pointer (some ⟨c.p, 0, none⟩), .agg #[.int .i64 task, .int .u8 6, .int .i64 at_]] w fun e w' => e = .returned (.int .i64 2) ∧ Below w.heap.size w w' := by
  obtain ⟨tv, pls, hC⟩ := hC
  have hlt := hC.main.lt
  have c0 := hC.c0
  have c1 := hC.c1
  have c2 := hC.c2
  rw [← hC.rows] at h3
  clear hC
  go_enter Tryd.func64, Tryd.ntmps64
  go_wp2_with (first | (go_at_call 70; refine (is_yes _ _ (cell_alloc_keep _ _ _ c0)).mono ?_; rintro e w' ⟨rfl, rfl⟩))
  all_goals go_ret
  all_goals exact ⟨rfl, (Below.refl _ _).alloc (Nat.le_refl _) _⟩

set_option maxHeartbeats 1000000 in
theorem noteNo_b7 {w : World} {c : CRef} {S : Mem} {A : Nat → Prop} (hC : Cells w c S A) (task at_ : Int) (h3 : ¬ (0 ≤ task ∧ task < 64 ∧ 0 ≤ at_ ∧ at_ < S.plains.length)) :
    Calls Tryd.prog 64 #[.pointer (some ⟨c.p, 0, none⟩), .agg #[.int .i64 task, .int .u8 7, .int .i64 at_]] w fun e w' => e = .returned (.int .i64 2) ∧ Below w.heap.size w w' := by
  obtain ⟨tv, pls, hC⟩ := hC
  have hlt := hC.main.lt
  have c0 := hC.c0
  have c1 := hC.c1
  have c2 := hC.c2
  rw [← hC.rows] at h3
  clear hC
  go_enter Tryd.func64, Tryd.ntmps64
  go_wp2_with (first | (go_at_call 70; refine (is_yes _ _ (cell_alloc_keep _ _ _ c0)).mono ?_; rintro e w' ⟨rfl, rfl⟩))
  all_goals go_ret
  all_goals exact ⟨rfl, (Below.refl _ _).alloc (Nat.le_refl _) _⟩

set_option maxHeartbeats 1000000 in
theorem noteNo_c {w : World} {c : CRef} {S : Mem} {A : Nat → Prop} (hC : Cells w c S A) (task what at_ : Int) (h1 : 8 ≤ what) (h2 : what ≤ 9) (h3 : ¬ (0 ≤ task ∧ task < 64 ∧ 0 ≤ at_ ∧ at_ < 1)) :
    Calls Tryd.prog 64 #[.pointer (some ⟨c.p, 0, none⟩), .agg #[.int .i64 task, .int .u8 what, .int .i64 at_]] w fun e w' => e = .returned (.int .i64 2) ∧ Below w.heap.size w w' := by
  obtain ⟨tv, pls, hC⟩ := hC
  have hlt := hC.main.lt
  have c0 := hC.c0
  have c1 := hC.c1
  have c2 := hC.c2
  have e6 : (what == 6) = false := by simp; omega
  have e7 : (what == 7) = false := by simp; omega
  clear hC
  go_enter Tryd.func64, Tryd.ntmps64
  go_wp2_with (first | (go_at_call 70; refine (is_yes _ _ (cell_alloc_keep _ _ _ c0)).mono ?_; rintro e w' ⟨rfl, rfl⟩))
  all_goals go_ret
  all_goals exact ⟨rfl, (Below.refl _ _).alloc (Nat.le_refl _) _⟩

set_option maxHeartbeats 1000000 in
theorem noteNo_d {w : World} {c : CRef} {S : Mem} {A : Nat → Prop} (hC : Cells w c S A) (task what at_ : Int) (h1 : what < 1 ∨ 9 < what) :
    Calls Tryd.prog 64 #[.pointer (some ⟨c.p, 0, none⟩), .agg #[.int .i64 task, .int .u8 what, .int .i64 at_]] w fun e w' => e = .returned (.int .i64 2) ∧ Below w.heap.size w w' := by
  obtain ⟨tv, pls, hC⟩ := hC
  have hlt := hC.main.lt
  have c0 := hC.c0
  have c1 := hC.c1
  have c2 := hC.c2
  have e6 : (what == 6) = false := by simp; omega
  have e7 : (what == 7) = false := by simp; omega
  clear hC
  go_enter Tryd.func64, Tryd.ntmps64
  go_wp2_with (first | (go_at_call 70; refine (is_yes _ _ (cell_alloc_keep _ _ _ c0)).mono ?_; rintro e w' ⟨rfl, rfl⟩))
  all_goals go_ret
  all_goals exact ⟨rfl, (Below.refl _ _).alloc (Nat.le_refl _) _⟩

theorem note_no {w : World} {c : CRef} {S : Mem} {A : Nat → Prop} (hC : Cells w c S A) (a : Acc) (h : okNote S a = false) :
    Calls Tryd.prog 64 #[.pointer (some ⟨c.p, 0, none⟩), .agg #[.int .i64 a.task, .int .u8 a.what, .int .i64 a.at_]] w fun e w' => e = .returned (.int .i64 2) ∧ Below w.heap.size w w' := by
  have h1 := of_decide_eq_false h
  obtain ⟨task, what, at_⟩ := a
  simp only at h1
  by_cases k0 : what < 1 ∨ 9 < what
  · exact noteNo_d hC task what at_ k0
  · by_cases k5 : what ≤ 5
    · exact noteNo_a hC task what at_ (by omega) k5 (by omega)
    · by_cases k6 : what = 6
      · subst k6
        exact noteNo_b6 hC task at_ (by omega)
      · by_cases k7 : what = 7
        · subst k7
          exact noteNo_b7 hC task at_ (by omega)
        · exact noteNo_c hC task what at_ (by omega) (by omega) (by omega)

end Go.Proofs.YteiaifhnikknbaaDoor
