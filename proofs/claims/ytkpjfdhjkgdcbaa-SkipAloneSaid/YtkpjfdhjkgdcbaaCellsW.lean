/- The walks over package cells. -/
import Derived.Test.YtkpjfdhjkgdcbaaCells
import Derived.Test.YtkpjfdhjkgdcbaaProg

namespace Go.Proofs.Ytkpjfdhjkgdcbaa
open Go.RowKit

theorem infoAcc : (Try.prog.info? 64).map (fun i => (i.zero, i.size, i.bytes)) = some (some (.agg #[.int .i64 0, .int .u8 0, .int .i64 0]), 3, 24) := by kernel_rfl

set_option maxHeartbeats 400000 in
theorem is_yes (w : World) (p : Nat) (h : w.cell? ⟨p, 0, none⟩ = some (.bool true)) :
    Calls Try.prog 40 #[.pointer (some ⟨p, 0, none⟩)] w fun e w' => e = .returned (.bool true) ∧ w = w' := by
  go_enter Try.func40, Try.ntmps40
  go_wp2
  go_ret
  exact ⟨rfl, rfl⟩

set_option maxHeartbeats 400000 in
theorem is_nil (w : World) :
    Calls Try.prog 40 #[.pointer none] w fun e w' => e = .returned (.bool false) ∧ w = w' := by
  go_enter Try.func40, Try.ntmps40
  go_wp2
  go_ret
  exact ⟨rfl, rfl⟩

set_option maxHeartbeats 400000 in
theorem is_no (w : World) (p : Nat) (h : w.cell? ⟨p, 0, none⟩ = some (.bool false)) :
    Calls Try.prog 40 #[.pointer (some ⟨p, 0, none⟩)] w fun e w' => e = .returned (.bool false) ∧ w = w' := by
  go_enter Try.func40, Try.ntmps40
  go_wp2
  go_ret
  exact ⟨rfl, rfl⟩

/-- Is there such a task, and such a place? -/
def okAt (n : Nat) (task at_ : Int) : Bool := decide (0 ≤ task ∧ task < 64 ∧ 0 ≤ at_ ∧ at_ < n)

set_option maxHeartbeats 400000 in
theorem placeU_ok (w : World) (ab n c : Nat) (task at_ : Int) (h : okAt n task at_ = true) :
    Calls Try.prog 82 #[.slice (some ⟨ab, 0, none⟩) n c, .int .i64 task, .int .i64 at_] w fun e w' => e = .returned (.tuple #[.pointer (some ⟨ab, at_.toNat, none⟩), .int .i64 0]) ∧ w = w' := by
  obtain ⟨h1, h2, h3, h4⟩ := of_decide_eq_true h
  clear h
  go_enter Try.func82, Try.ntmps82
  go_wp2
  go_ret2
  exact ⟨rfl, rfl⟩

set_option maxHeartbeats 400000 in
theorem placeU_no (w : World) (ab n c : Nat) (task at_ : Int) (h : okAt n task at_ = false) :
    Calls Try.prog 82 #[.slice (some ⟨ab, 0, none⟩) n c, .int .i64 task, .int .i64 at_] w fun e w' => e = .returned (.tuple #[.pointer none, .int .i64 2]) ∧ w = w' := by
  have h1 := of_decide_eq_false h
  clear h
  go_enter Try.func82, Try.ntmps82
  go_wp2
  all_goals go_ret2
  all_goals exact ⟨rfl, rfl⟩

set_option maxHeartbeats 400000 in
theorem placeB_ok (w : World) (ab n c : Nat) (task at_ : Int) (h : okAt n task at_ = true) :
    Calls Try.prog 86 #[.slice (some ⟨ab, 0, none⟩) n c, .int .i64 task, .int .i64 at_] w fun e w' => e = .returned (.tuple #[.pointer (some ⟨ab, at_.toNat, none⟩), .int .i64 0]) ∧ w = w' := by
  obtain ⟨h1, h2, h3, h4⟩ := of_decide_eq_true h
  clear h
  go_enter Try.func86, Try.ntmps86
  go_wp2
  go_ret2
  exact ⟨rfl, rfl⟩

set_option maxHeartbeats 400000 in
theorem placeB_no (w : World) (ab n c : Nat) (task at_ : Int) (h : okAt n task at_ = false) :
    Calls Try.prog 86 #[.slice (some ⟨ab, 0, none⟩) n c, .int .i64 task, .int .i64 at_] w fun e w' => e = .returned (.tuple #[.pointer none, .int .i64 2]) ∧ w = w' := by
  have h1 := of_decide_eq_false h
  clear h
  go_enter Try.func86, Try.ntmps86
  go_wp2
  all_goals go_ret2
  all_goals exact ⟨rfl, rfl⟩

set_option maxHeartbeats 400000 in
theorem atomic_ok {w : World} {c : CRef} {S : Mem} {A : Nat → Prop} (hC : Cells w c S A) (task at_ : Int) (h : okAt S.atomics.length task at_ = true) :
    Calls Try.prog 69 #[.pointer (some ⟨c.p, 0, none⟩), .int .i64 task, .int .i64 at_] w fun e w' => e = .returned (.tuple #[.pointer (some ⟨c.ab, at_.toNat, none⟩), .int .i64 0]) ∧ w = w' := by
  obtain ⟨tv, pls, hC⟩ := hC
  have h0 := hC.c0
  have h1 := hC.c1
  go_enter Try.func69, Try.ntmps69
  go_wp2_with (first | (go_at_call 40; refine (is_yes _ _ h0).mono ?_; rintro e w' ⟨rfl, rfl⟩) | (go_at_call 82; refine (placeU_ok _ _ _ _ _ _ h).mono ?_; rintro e w' ⟨rfl, rfl⟩))
  go_ret2
  exact ⟨rfl, rfl⟩

set_option maxHeartbeats 400000 in
theorem atomic_no {w : World} {c : CRef} {S : Mem} {A : Nat → Prop} (hC : Cells w c S A) (task at_ : Int) (h : okAt S.atomics.length task at_ = false) :
    Calls Try.prog 69 #[.pointer (some ⟨c.p, 0, none⟩), .int .i64 task, .int .i64 at_] w fun e w' => e = .returned (.tuple #[.pointer none, .int .i64 2]) ∧ w = w' := by
  obtain ⟨tv, pls, hC⟩ := hC
  have h0 := hC.c0
  have h1 := hC.c1
  go_enter Try.func69, Try.ntmps69
  go_wp2_with (first | (go_at_call 40; refine (is_yes _ _ h0).mono ?_; rintro e w' ⟨rfl, rfl⟩) | (go_at_call 82; refine (placeU_no _ _ _ _ _ _ h).mono ?_; rintro e w' ⟨rfl, rfl⟩))
  go_ret2
  exact ⟨rfl, rfl⟩

set_option maxHeartbeats 400000 in
theorem plain_ok {w : World} {c : CRef} {S : Mem} {A : Nat → Prop} (hC : Cells w c S A) (task at_ : Int) (h : okAt S.plains.length task at_ = true) :
    Calls Try.prog 76 #[.pointer (some ⟨c.p, 0, none⟩), .int .i64 task, .int .i64 at_] w fun e w' => e = .returned (.tuple #[.pointer (some ⟨c.pb, at_.toNat, none⟩), .int .i64 0]) ∧ w = w' := by
  obtain ⟨tv, pls, hC⟩ := hC
  have h0 := hC.c0
  have h1 := hC.c2
  rw [← hC.rows] at h
  go_enter Try.func76, Try.ntmps76
  go_wp2_with (first | (go_at_call 40; refine (is_yes _ _ h0).mono ?_; rintro e w' ⟨rfl, rfl⟩) | (go_at_call 86; refine (placeB_ok _ _ _ _ _ _ h).mono ?_; rintro e w' ⟨rfl, rfl⟩))
  go_ret2
  exact ⟨rfl, rfl⟩

set_option maxHeartbeats 400000 in
theorem plain_no {w : World} {c : CRef} {S : Mem} {A : Nat → Prop} (hC : Cells w c S A) (task at_ : Int) (h : okAt S.plains.length task at_ = false) :
    Calls Try.prog 76 #[.pointer (some ⟨c.p, 0, none⟩), .int .i64 task, .int .i64 at_] w fun e w' => e = .returned (.tuple #[.pointer none, .int .i64 2]) ∧ w = w' := by
  obtain ⟨tv, pls, hC⟩ := hC
  have h0 := hC.c0
  have h1 := hC.c2
  rw [← hC.rows] at h
  go_enter Try.func76, Try.ntmps76
  go_wp2_with (first | (go_at_call 40; refine (is_yes _ _ h0).mono ?_; rintro e w' ⟨rfl, rfl⟩) | (go_at_call 86; refine (placeB_no _ _ _ _ _ _ h).mono ?_; rintro e w' ⟨rfl, rfl⟩))
  go_ret2
  exact ⟨rfl, rfl⟩

end Go.Proofs.Ytkpjfdhjkgdcbaa
