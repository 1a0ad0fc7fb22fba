/- The walks over ratlineref17. -/
import Derived.Test.YtefdbllphepdeaaCellsW
namespace Go.Proofs.Ytefdbllphepdeaa
open Go.RowKit

set_option maxHeartbeats 400000 in
theorem refTake_bad (w : World) (x n task need : Int) (h : (need = 0) ∨ (1048576 < need) ∨ (task < 0) ∨ (63 < task)) (hd : 0 ≤ need) :
    Calls Try.prog 18 #[.int .u64 x, .int .u64 n, .int .i64 task, .int .u64 need] w fun e w' => e = .returned (.tuple #[.int .u64 x, .int .u64 0, .int .i64 2]) ∧ w = w' := by
  have h' : (need = 0) ∨ (1 ≤ need ∧ 1048576 < need) ∨ (1 ≤ need ∧ need ≤ 1048576 ∧ task < 0) ∨ (1 ≤ need ∧ need ≤ 1048576 ∧ 0 ≤ task ∧ 63 < task) := by omega
  clear h hd
  rcases h' with rfl | ⟨h1, h2⟩ | ⟨h1, h2, h3⟩ | ⟨h1, h2, h3, h4⟩
  all_goals
    go_enter Try.func18, Try.ntmps18
    go_wp2
    go_ret3
    exact ⟨rfl, rfl⟩

set_option maxHeartbeats 400000 in
theorem refTake_full (w : World) (x n task need : Int) (h1 : 1 ≤ need) (h2 : need ≤ 1048576) (h3 : 0 ≤ task) (h4 : task ≤ 63) (x0 : 0 ≤ x) (x1 : x + need < 18446744073709551616) (hn : n < x + need) :
    Calls Try.prog 18 #[.int .u64 x, .int .u64 n, .int .i64 task, .int .u64 need] w fun e w' => e = .returned (.tuple #[.int .u64 (x + need), .int .u64 0, .int .i64 13]) ∧ w = w' := by
  have e0 : (need = 0) = False := by simp; omega
  have e1 : (1048576 < need) = False := by simp; omega
  have e2 : (task < 0) = False := by simp; omega
  have e3 : (63 < task) = False := by simp; omega
  go_enter Try.func18, Try.ntmps18
  go_wp2
  go_ret3
  exact ⟨rfl, rfl⟩

set_option maxHeartbeats 400000 in
theorem refTake_fit (w : World) (x n task need : Int) (h1 : 1 ≤ need) (h2 : need ≤ 1048576) (h3 : 0 ≤ task) (h4 : task ≤ 63) (x0 : 0 ≤ x) (x1 : x + need < 18446744073709551616) (hn : x + need ≤ n) :
    Calls Try.prog 18 #[.int .u64 x, .int .u64 n, .int .i64 task, .int .u64 need] w fun e w' => e = .returned (.tuple #[.int .u64 (x + need), .int .u64 x, .int .i64 0]) ∧ w = w' := by
  have e0 : (need = 0) = False := by simp; omega
  have e1 : (1048576 < need) = False := by simp; omega
  have e2 : (task < 0) = False := by simp; omega
  have e3 : (63 < task) = False := by simp; omega
  go_enter Try.func18, Try.ntmps18
  go_wp2
  go_ret3
  exact ⟨rfl, rfl⟩

set_option maxHeartbeats 400000 in
theorem refLeft_bad (w : World) (x n task : Int) (h : task < 0 ∨ (0 ≤ task ∧ 63 < task)) :
    Calls Try.prog 17 #[.int .u64 x, .int .u64 n, .int .i64 task] w fun e w' => e = .returned (.tuple #[.int .u64 0, .int .i64 2]) ∧ w = w' := by
  rcases h with h1 | ⟨h1, h2⟩
  all_goals
    go_enter Try.func17, Try.ntmps17
    go_wp2
    go_ret2
    exact ⟨rfl, rfl⟩

set_option maxHeartbeats 400000 in
theorem refLeft_none (w : World) (x n task : Int) (h1 : 0 ≤ task) (h2 : task ≤ 63) (h : n ≤ x) :
    Calls Try.prog 17 #[.int .u64 x, .int .u64 n, .int .i64 task] w fun e w' => e = .returned (.tuple #[.int .u64 0, .int .i64 0]) ∧ w = w' := by
  go_enter Try.func17, Try.ntmps17
  go_wp2
  go_ret2
  exact ⟨rfl, rfl⟩

set_option maxHeartbeats 400000 in
theorem refLeft_some (w : World) (x n task : Int) (h1 : 0 ≤ task) (h2 : task ≤ 63) (h : x < n) (x0 : 0 ≤ x) (n1 : n ≤ 1073741824) :
    Calls Try.prog 17 #[.int .u64 x, .int .u64 n, .int .i64 task] w fun e w' => e = .returned (.tuple #[.int .u64 (n - x), .int .i64 0]) ∧ w = w' := by
  go_enter Try.func17, Try.ntmps17
  go_wp2
  go_ret2
  exact ⟨rfl, rfl⟩

end Go.Proofs.Ytefdbllphepdeaa
