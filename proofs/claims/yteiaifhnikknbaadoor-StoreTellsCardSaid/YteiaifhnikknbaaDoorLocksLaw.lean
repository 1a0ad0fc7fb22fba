/- The contracts of a mutex that a law has made; the helpers of law 14. -/
import Derived.Test.YteiaifhnikknbaaDoorLocks
import Derived.Test.YteiaifhnikknbaaDoorNone
import Derived.Test.YteiaifhnikknbaaDoorNoteNo
import Derived.Test.YteiaifhnikknbaaDoorLow
namespace Go.Proofs.YteiaifhnikknbaaDoor
open Go.RowKit Go.Maps

/-- The memory's blocks: what has been laid since B, but the mutex' own. -/
def LB (B : Nat) (r : LRef) (k : Nat) : Prop := B ≤ k ∧ k ≠ r.p ∧ k ≠ r.q
structure Lw (B : Nat) (w : World) (r : LRef) (L : Lk) (S : Mem) : Prop where
  lk : Lks w r L S (LB B r)
  bp : B ≤ r.p
  bq : B ≤ r.q
  bs : B ≤ w.heap.size

variable {B : Nat} {w w' : World} {r : LRef} {L : Lk} {S S' : Mem}
theorem Lw.fresh (h : Lw B w r L S) : Fresh (LB B r) w := by
  obtain ⟨m, _, hk⟩ := h.lk
  exact ⟨fun k hl => ⟨Nat.le_trans h.bs hl, by have := hk.main.lt; omega, by have := hk.map.lt; omega⟩⟩
theorem Lw.under (h : Lw B w r L S) (hO : Only (LA r (LB B r)) w w') : Below B w w' :=
  hO.below h.bs (fun k hk hl => by have := h.bp; have := h.bq; rcases hl with hl | hl | hl <;> first | exact absurd hl.1 (by omega) | omega)
theorem Lw.below (h : Lw B w r L S) (hb : Below w.heap.size w w') : Lw B w' r L S := by
  obtain ⟨m, hm, hk⟩ := h.lk
  exact ⟨⟨m, hm, hk.same (Same.of_below _ hb)⟩, h.bp, h.bq, Nat.le_trans h.bs hb.size⟩
theorem Lw.alloc (h : Lw B w r L S) (o : Obj) : Lw B (w.alloc o) r L S := h.below ((Below.refl _ w).alloc (Nat.le_refl _) o)
theorem Lw.quiet (h : Lw B w r L S) (hq : Quiet w w') : Lw B w' r L S := h.below (hq.below _)

theorem lock_to (h : Lw B w r L S) (n : Int) (hw : (Lit.int .i64 n).wf = true) (hn : S.trace.length < trMax) (E : Int) (L' : Lk) (S' : Mem) (hE : lockE L n = E) (hL : lockL L n = L') (hS : S.notes (lockN L n) = S') :
    Calls Tryd.prog 30 #[.pointer (some ⟨r.p, 0, none⟩), .int .i64 n] w fun e w' => e = .returned (.int .i64 E) ∧ Lw B w' r L' S' ∧ Below B w w' := by
  subst hE hL hS
  obtain ⟨m, hm, hk⟩ := h.lk
  refine (lock_any hk h.fresh hn n hw).mono ?_
  rintro e w' ⟨rfl, hk', hO⟩
  exact ⟨rfl, ⟨⟨m, by simp [Mem.notes]; omega, hk'⟩, h.bp, h.bq, Nat.le_trans h.bs hO.size⟩, h.under hO⟩
theorem unlock_to (h : Lw B w r L S) (n : Int) (hn : S.trace.length < trMax) (E : Int) (L' : Lk) (S' : Mem) (hE : holdsE L n 0 = E) (hL : unlockL L n = L') (hS : S.notes (unlockN L n) = S') :
    Calls Tryd.prog 43 #[.pointer (some ⟨r.p, 0, none⟩), .int .i64 n] w fun e w' => e = .returned (.int .i64 E) ∧ Lw B w' r L' S' ∧ Below B w w' := by
  subst hE hL hS
  obtain ⟨m, hm, hk⟩ := h.lk
  refine (unlock_any hk h.fresh hn n).mono ?_
  rintro e w' ⟨rfl, hk', hO⟩
  exact ⟨rfl, ⟨⟨m, by simp [Mem.notes]; omega, hk'⟩, h.bp, h.bq, Nat.le_trans h.bs hO.size⟩, h.under hO⟩
theorem holder_to (h : Lw B w r L S) (V : Int) (b : Bool) (hV : holderV L = V) (hb : L.held = b) : Calls Tryd.prog 80 #[.pointer (some ⟨r.p, 0, none⟩)] w fun e w' => e = .returned (.tuple #[.int .i64 V, .bool b]) ∧ w = w' := by
  subst hV hb
  obtain ⟨m, hm, hk⟩ := h.lk
  exact holder_any hk
/-- The memory's trace. -/
theorem ltrace_w (h : Lw B w r L S) (hn : S.trace.length < trMax) : Calls Tryd.prog 42 #[.pointer (some ⟨r.c.p, 0, none⟩)] w fun e w' => ∃ v, e = .returned v ∧ Row w' 96 3 v S.trace.length (accs S.trace) (fun k => w.heap.size ≤ k) ∧ Below w.heap.size w w' := by
  obtain ⟨m, hm, hk⟩ := h.lk
  refine (trace_ok hk.mem hn).mono ?_
  rintro e w' ⟨v, rfl, hr, hc, hb⟩
  exact ⟨v, rfl, hr, hb⟩

set_option maxHeartbeats 1000000 in
theorem newL_ok {c : CRef} (hC : Cells w c S (fun k => B ≤ k)) (hB : B ≤ w.heap.size) (conds : Int) (h0 : 0 ≤ conds) (h1 : conds ≤ 1000) :
    Calls Tryd.prog 56 #[.pointer (some ⟨c.p, 0, none⟩), .int .i64 conds] w fun e w' => ∃ r : LRef, r.c = c ∧ e = .returned (.tuple #[.pointer (some ⟨r.p, 0, none⟩), .int .i64 0]) ∧ Lw B w' r ⟨conds, false, 0, fun _ => none⟩ S ∧ Below w.heap.size w w' := by
  have hmm := @run_makeMap Tryd.prog
  go_enter Tryd.func56, Tryd.ntmps56
  go_wp2_with (first | (go_at_call 64; refine (noteNo_d hC 0 0 0 (by omega)).mono ?_; rintro e w1 ⟨rfl, hB1⟩))
  go_ret2
  have hs := hB1.size
  refine ⟨⟨w1.heap.size + 1, w1.heap.size, c⟩, rfl, rfl, ⟨⟨0, Nat.zero_le _, ?_, ?_, ?_, fun h => h.2.1 rfl, fun h => h.2.2 rfl⟩, by simp; omega, by simp; omega, by simp; omega⟩, ?_⟩
  · have := Blk.new (w1.alloc (.map #[] 0)) 122 [.pointer (some ⟨c.p, 0, none⟩), .int .i64 conds, .bool false, .int .i64 0, .map (some w1.heap.size)]
    simpa using this
  · exact (World.ownsMap_made w1 Tryd.prog 3 _).alloc _
  · have h2 : Cells w c S (LB B ⟨w1.heap.size + 1, w1.heap.size, c⟩) := hC.mono fun k hk hA => ⟨hA, by simp; omega, by simp; omega⟩
    exact ((h2.keep (Same.of_below _ hB1)).alloc _).alloc _
  · exact (hB1.alloc (by omega) _).alloc (by simp; omega) _

set_option maxHeartbeats 1000000 in
theorem newL_nil (conds : Int) : Calls Tryd.prog 56 #[.pointer none, .int .i64 conds] w fun e w' => e = .returned (.tuple #[.pointer none, .int .i64 2]) ∧ w = w' := by
  go_enter Tryd.func56, Tryd.ntmps56
  go_wp2_with fail
  go_ret2
  exact ⟨rfl, rfl⟩
set_option maxHeartbeats 1000000 in
theorem newL_none (a : Addr) (hN : NoCells w (.pointer (some a))) : Calls Tryd.prog 56 #[.pointer (some a), .int .i64 1] w fun e w' => e = .returned (.tuple #[.pointer none, .int .i64 2]) ∧ Below w.heap.size w w' := by
  go_enter Tryd.func56, Tryd.ntmps56
  go_wp2_with (first | (go_at_call 64; refine (note_none _ _ hN 0 0 0).mono ?_; rintro e w1 ⟨rfl, hB1⟩))
  go_ret2
  exact ⟨rfl, hB1⟩
set_option maxHeartbeats 1000000 in
theorem newL_no (a : Addr) (conds : Int) (hc : conds < 0 ∨ 1000 < conds) : Calls Tryd.prog 56 #[.pointer (some a), .int .i64 conds] w fun e w' => e = .returned (.tuple #[.pointer none, .int .i64 2]) ∧ w = w' := by
  rcases hc with hc | hc
  · go_enter Tryd.func56, Tryd.ntmps56
    go_wp2_with fail
    go_ret2
    exact ⟨rfl, rfl⟩
  · have h0 : ¬ conds < 0 := by omega
    go_enter Tryd.func56, Tryd.ntmps56
    go_wp2_with fail
    go_ret2
    exact ⟨rfl, rfl⟩


end Go.Proofs.YteiaifhnikknbaaDoor
