/- The walks over skip.Size, skip.New. -/
import Derived.Test.YtkpjfdhjkgdcbaaArena

namespace Go.Proofs.Ytkpjfdhjkgdcbaa
open Go.RowKit

def skA (u : Int) : Int := 8 + 6 * (u / 6)
def skP (u : Int) : Int := 2 * (u / 6)
set_option maxHeartbeats 400000 in
theorem size_yes (w : World) (u : Int) (h1 : 6 ≤ u) (h2 : u ≤ 1073741824) : Calls Try.prog 21 #[.int .u64 u] w fun e w' => e = .returned (.tuple #[.int .i64 (skA u), .int .i64 (skP u)]) ∧ w = w' := by
  go_enter Try.func21, Try.ntmps21
  go_wp2
  go_ret2
  exact ⟨rfl, rfl⟩
set_option maxHeartbeats 400000 in
theorem size_no (w : World) (u : Int) (h : u < 6 ∨ 1073741824 < u) : Calls Try.prog 21 #[.int .u64 u] w fun e w' => e = .returned (.tuple #[.int .i64 0, .int .i64 0]) ∧ w = w' := by
  rcases h with h | h
  · go_enter Try.func21, Try.ntmps21
    go_wp2
    go_ret2
    exact ⟨rfl, rfl⟩
  · have h0 : ¬ u < 6 := by omega
    go_enter Try.func21, Try.ntmps21
    go_wp2
    go_ret2
    exact ⟨rfl, rfl⟩

/-- A skip list lies in its struct, and its arena's. -/
structure SkRef where
  lp : Nat
  aq : Nat
  first : Int
  plain : Int
  units : Int
def skC (c : CRef) (k : SkRef) : List Value := [.pointer (some ⟨c.p, 0, none⟩), .pointer (some ⟨k.aq, 0, none⟩), .int .i64 k.first, .int .i64 k.plain, .int .i64 (k.units / 6)]
structure SkAt (w : World) (k : SkRef) (c : CRef) : Prop where
  list : Blk w k.lp 98 (skC c k)
  arena : Blk w k.aq 163 [.pointer (some ⟨c.p, 0, none⟩), .int .i64 k.first, .int .u64 k.units]
theorem SkAt.same {w w' : World} {k : SkRef} {c : CRef} {O : Nat → Prop} (h : SkAt w k c) (h1 : O k.lp) (h2 : O k.aq) (hs : Same O w w') : SkAt w' k c := ⟨h.list.same h1 hs, h.arena.same h2 hs⟩
theorem SkAt.below {w w' : World} {k : SkRef} {c : CRef} (h : SkAt w k c) (hb : Below w.heap.size w w') : SkAt w' k c := ⟨h.list.keep (hb.block _ h.list.lt), h.arena.keep (hb.block _ h.arena.lt)⟩

set_option maxHeartbeats 1000000 in
theorem sknew_ok {w : World} {c : CRef} {S : Mem} {A : Nat → Prop} (hC : Cells w c S A) (first plain units : Int) (h1 : 6 ≤ units) (h2 : units ≤ 1073741824) (f0 : 0 ≤ first) (p0 : 0 ≤ plain) (f1 : first ≤ S.atomics.length - skA units) (p1 : plain ≤ S.plains.length - skP units) :
    Calls Try.prog 34 #[.pointer (some ⟨c.p, 0, none⟩), .int .i64 first, .int .i64 plain, .int .u64 units] w fun e w' => ∃ lp aq, e = .returned (.tuple #[.pointer (some ⟨lp, 0, none⟩), .int .i64 0]) ∧ SkAt w' ⟨lp, aq, first, plain, units⟩ c ∧ w.heap.size ≤ lp ∧ w.heap.size ≤ aq ∧ Below w.heap.size w w' := by
  obtain ⟨a, ha⟩ : ∃ a, skA units = a := ⟨_, rfl⟩
  obtain ⟨p, hp⟩ : ∃ p, skP units = p := ⟨_, rfl⟩
  obtain ⟨na, hna⟩ : ∃ na, S.atomics.length = na := ⟨_, rfl⟩
  obtain ⟨np, hnp⟩ : ∃ np, S.plains.length = np := ⟨_, rfl⟩
  have hsm := hC.small
  have a1 : 14 ≤ a ∧ a ≤ 2000000000 := by rw [← ha]; unfold skA; omega
  have a2 : 2 ≤ p ∧ p ≤ 2000000000 := by rw [← hp]; unfold skP; omega
  rw [hna, ha] at f1
  rw [hnp, hp] at p1
  rw [hna, hnp] at hsm
  have e0 : (a == 0) = false := by simp; omega
  have hsz := size_yes w units h1 h2
  rw [ha, hp] at hsz
  have hmy := many_ok hC
  rw [hna, hnp] at hmy
  have hok : okUnits S.atomics.length first units = true := by rw [hna]; exact decide_eq_true (by omega)
  have hq : ∀ n, Calls Try.prog 58 #[.pointer (some ⟨c.p, 0, none⟩), .int .i64 first, .int .u64 units] (w.drewN n) fun e w' => ∃ q, e = .returned (.tuple #[.pointer (some ⟨q, 0, none⟩), .int .i64 0]) ∧ w.heap.size ≤ q ∧ Blk w' q 163 [.pointer (some ⟨c.p, 0, none⟩), .int .i64 first, .int .u64 units] ∧ Below w.heap.size w w' :=
    fun n => (anew_ok (hC.drewN n) first units hok).mono (by rintro e w' ⟨q, rfl, hq1, hq2, _, hB⟩; exact ⟨q, rfl, hq1, hq2.blk, ⟨hB.os, hB.tape, hB.output, hB.size, hB.block⟩⟩)
  have HQ := Lib.hid hq
  have HSZ := Lib.hid hsz
  have HMY := Lib.hid hmy
  clear hq hsz hmy hok ha hp hna hnp hC
  go_enter Try.func34, Try.ntmps34
  go_wp2_with (first | (go_at_call 21; refine HSZ.out.mono ?_; rintro e w' ⟨rfl, rfl⟩) | (go_at_call 57; refine HMY.out.mono ?_; rintro e w' ⟨rfl, hq⟩; obtain ⟨nq, rfl⟩ := hq) | (go_at_call 58; refine (HQ.out _).mono ?_; rintro e w2 ⟨q, rfl, hq1, hq2, hB⟩))
  go_ret2
  have hs := hB.size
  have hb := Blk.new w2 98 (skC c ⟨w2.heap.size, q, first, plain, units⟩)
  exact ⟨w2.heap.size, q, rfl, ⟨hb, hq2.alloc _⟩, hs, hq1, hB.alloc hs _⟩
end Go.Proofs.Ytkpjfdhjkgdcbaa
