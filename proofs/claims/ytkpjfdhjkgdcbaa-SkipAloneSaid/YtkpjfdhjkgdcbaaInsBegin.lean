/- Begin. -/
import Derived.Test.YtkpjfdhjkgdcbaaInsStep

namespace Go.Proofs.Ytkpjfdhjkgdcbaa
open Go.RowKit

def ins0 (task : Int) (e : En) (height : Int) : Ins := ⟨task, e, height, 0, 0, fun _ => 0, fun _ => 0, false, 1, 0⟩
theorem infoEn19 : (Try.prog.info? 38).map (·.size) = some 4 := by kernel_rfl
set_option maxRecDepth 100000 in
set_option maxHeartbeats 2000000 in
theorem begin_ok {w : World} {k : SkRef} {c : CRef} (h : SkAt w k c) (task height : Int) (e : En) (t0 : 0 ≤ task) (t1 : task < 64) (h0 : 1 ≤ height) (h1 : height ≤ 6) (hr : e.right = true) :
    Calls Try.prog 24 #[.pointer (some ⟨k.lp, 0, none⟩), .int .i64 task, .agg (enC e).toArray, .int .i64 height] w fun r w' => ∃ ip, r = .returned (.tuple #[.pointer (some ⟨ip, 0, none⟩), .int .i64 0]) ∧ InsAt w' k ip (ins0 task e height) ∧ w.heap.size ≤ ip ∧ Below w.heap.size w w' := by
  obtain ⟨W, hW⟩ : ∃ W, w.alloc (.cells (enC e).toArray 38) = W := ⟨_, rfl⟩
  have k1 : Blk W w.heap.size 38 (enC e) := by rw [← hW]; exact Blk.new _ _ _
  have hB : Below w.heap.size w W := by rw [← hW]; exact (Below.refl _ _).alloc (Nat.le_refl _) _
  have hS : SkAt W k c := h.below hB
  have hen := entry_any W e
  rw [hr] at hen
  have HEN := Lib.hid hen
  clear hen hr h
  go_enter Try.func24, Try.ntmps24
  go_upto_region 7 with (first | (go_at_call 44; refine (lis_yes hS).mono ?_; rintro r w' ⟨rfl, rfl⟩) | (refine wpList_load_blk rfl 38 _ rfl w.heap.size (by rfl) (enC e) k1 _ Try.underlying38 rfl infoEn19 ?_) | (go_at_call 35; refine HEN.out.mono ?_; rintro r w1 ⟨rfl, hb1⟩))
  have k2 : Blk w1 w.heap.size 38 [.string e.k.key, .int .u64 e.k.seq, .int .u8 e.k.kind, .string e.val] := k1.keep (hb1.block _ k1.lt)
  go_wp2_with (refine wpList_load_blk rfl 38 _ rfl w.heap.size (by rfl) [.string e.k.key, .int .u64 e.k.seq, .int .u8 e.k.kind, .string e.val] k2 _ Try.underlying38 rfl infoEn19 ?_)
  go_ret2
  have hB1 := hB.trans (hb1.mono hB.size)
  exact ⟨w1.heap.size, rfl, Blk.new w1 106 (insC k w1.heap.size (ins0 task e height)), hB1.size, hB1.alloc hB1.size _⟩
set_option maxRecDepth 100000 in
set_option maxHeartbeats 2000000 in
theorem begin_key {w : World} {k : SkRef} {c : CRef} (h : SkAt w k c) (task height : Int) (e : En) (t0 : 0 ≤ task) (t1 : task < 64) (h0 : 1 ≤ height) (h1 : height ≤ 6) (hr : e.right = false) :
    Calls Try.prog 24 #[.pointer (some ⟨k.lp, 0, none⟩), .int .i64 task, .agg (enC e).toArray, .int .i64 height] w fun r w' => r = .returned (.tuple #[.pointer none, .int .i64 30]) ∧ Below w.heap.size w w' := by
  obtain ⟨W, hW⟩ : ∃ W, w.alloc (.cells (enC e).toArray 38) = W := ⟨_, rfl⟩
  have k1 : Blk W w.heap.size 38 (enC e) := by rw [← hW]; exact Blk.new _ _ _
  have hB : Below w.heap.size w W := by rw [← hW]; exact (Below.refl _ _).alloc (Nat.le_refl _) _
  have hS : SkAt W k c := h.below hB
  have hen := entry_any W e
  rw [hr] at hen
  have HEN := Lib.hid hen
  clear hen hr h
  go_enter Try.func24, Try.ntmps24
  go_wp2_with (first | (go_at_call 44; refine (lis_yes hS).mono ?_; rintro r w' ⟨rfl, rfl⟩) | (refine wpList_load_blk rfl 38 _ rfl w.heap.size (by rfl) (enC e) k1 _ Try.underlying38 rfl infoEn19 ?_) | (go_at_call 35; refine HEN.out.mono ?_; rintro r w1 ⟨rfl, hb1⟩))
  go_ret2
  exact ⟨rfl, hB.trans (hb1.mono hB.size)⟩
set_option maxRecDepth 100000 in
set_option maxHeartbeats 2000000 in
theorem begin_arg {w : World} {k : SkRef} {c : CRef} (h : SkAt w k c) (task height : Int) (e : En) (hno : ¬ (0 ≤ task ∧ task < 64 ∧ 1 ≤ height ∧ height ≤ 6)) :
    Calls Try.prog 24 #[.pointer (some ⟨k.lp, 0, none⟩), .int .i64 task, .agg (enC e).toArray, .int .i64 height] w fun r w' => r = .returned (.tuple #[.pointer none, .int .i64 2]) ∧ Below w.heap.size w w' := by
  obtain ⟨W, hW⟩ : ∃ W, w.alloc (.cells (enC e).toArray 38) = W := ⟨_, rfl⟩
  have hB : Below w.heap.size w W := by rw [← hW]; exact (Below.refl _ _).alloc (Nat.le_refl _) _
  have hS : SkAt W k c := h.below hB
  by_cases q0 : task < 0
  · go_enter Try.func24, Try.ntmps24
    go_wp2_with (go_at_call 44; refine (lis_yes hS).mono ?_; rintro r w' ⟨rfl, rfl⟩)
    go_ret2
    exact ⟨rfl, hB⟩
  by_cases q1 : 64 ≤ task
  · go_enter Try.func24, Try.ntmps24
    go_wp2_with (go_at_call 44; refine (lis_yes hS).mono ?_; rintro r w' ⟨rfl, rfl⟩)
    go_ret2
    exact ⟨rfl, hB⟩
  by_cases q2 : height < 1
  · go_enter Try.func24, Try.ntmps24
    go_wp2_with (go_at_call 44; refine (lis_yes hS).mono ?_; rintro r w' ⟨rfl, rfl⟩)
    go_ret2
    exact ⟨rfl, hB⟩
  have q3 : 6 < height := by omega
  go_enter Try.func24, Try.ntmps24
  go_wp2_with (go_at_call 44; refine (lis_yes hS).mono ?_; rintro r w' ⟨rfl, rfl⟩)
  go_ret2
  exact ⟨rfl, hB⟩
end Go.Proofs.Ytkpjfdhjkgdcbaa
