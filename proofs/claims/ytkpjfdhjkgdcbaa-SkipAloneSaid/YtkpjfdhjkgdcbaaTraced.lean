/- The walk over (*Cells).traced. -/
import Derived.Test.YtkpjfdhjkgdcbaaCellsW

namespace Go.Proofs.Ytkpjfdhjkgdcbaa
open Go.RowKit

/-- A row that is known in a world with one block more. -/
theorem cells_three (w : World) (a b c : Value) (t : Nat) : ∀ j u, [a, b, c][j]? = some u → (w.alloc (.cells #[a, b, c] t)).cell? ((⟨w.heap.size, 0, none⟩ : Addr).add j) = some u := by
  intro j u hu
  have hb : Blk (w.alloc (.cells #[a, b, c] t)) w.heap.size t [a, b, c] := Blk.new w t [a, b, c]
  have := hb.cell j hu
  have e : (⟨w.heap.size, 0, none⟩ : Addr).add j = ⟨w.heap.size, j, none⟩ := by unfold Addr.add; split <;> simp_all
  rw [e]; exact this

theorem cells_three' (w : World) (N : Nat) (hN : w.heap.size = N) (a b c : Value) (t : Nat) : ∀ j u, [a, b, c][j]? = some u → (w.alloc (.cells #[a, b, c] t)).cell? ((⟨N, 0, none⟩ : Addr).add j) = some u := by
  subst hN; exact cells_three w a b c t

set_option maxHeartbeats 400000 in
theorem traced_any {w : World} {c : CRef} {S : Mem} {A : Nat → Prop} (hC : Cells w c S A) (hF : Fresh A w) (hn : S.trace.length < trMax) (task what at_ : Int) :
    Calls Try.prog 70 #[.pointer (some ⟨c.p, 0, none⟩), .int .i64 task, .int .u8 what, .int .i64 at_] w fun e w' => e = .returned (.tuple #[]) ∧ Cells w' c (S.note ⟨task, what, at_⟩) A ∧ Only A w w' := by
  obtain ⟨tv, pls, hC⟩ := hC
  have h3 := hC.c3
  obtain ⟨i0, hi, hz0, hz1, hz2⟩ := info_parts infoAcc
  unfold trMax at hn
  have hCa := hC.keep (Same.alloc A w (.cells #[.int .i64 task, .int .u8 what, .int .i64 at_] 64))
  go_enter Try.func70, Try.ntmps70
  go_wp2_with (at_builtin; refine wpList_append_own_at _ rfl _ _ 61 rfl 0 64 i0 (.agg #[.int .i64 0, .int .u8 0, .int .i64 0]) 3 24 Try.underlying61 hi hz0 hz1 hz2 rfl (by decide) tv S.trace.length (accs S.trace) rfl hCa.trace.owns ⟨w.heap.size, 0, none⟩ 1 1 [.int .i64 task, .int .u8 what, .int .i64 at_] rfl rfl (cells_three w _ _ _ _) (by simp [Value.oneCell']) (by unfold maxLen; omega) (by omega) (Nat.zero_le _) ?_)
  intro v' w1 hown hgrow _ hat
  have hFa := hF.alloc (.cells #[.int .i64 task, .int .u8 what, .int .i64 at_] 64)
  obtain ⟨hC2, hO2⟩ := hCa.noted hFa ⟨task, what, at_⟩ hown hgrow (hat.imp id fun h => ⟨_, h, by simp⟩)
  have hO := ((Only.refl A w).alloc (.cells #[.int .i64 task, .int .u8 what, .int .i64 at_] 64)).trans hO2
  have m1 := hCa.main.grown hgrow (hCa.trace.ne_blk hCa.main (by decide))
  have k3 := m1.cell 3 rfl
  have f3 := m1.frozen 3
  obtain ⟨g, cap, rfl⟩ := owns_succ hown
  clear hown hgrow hat hC hCa hO2 h3 hi hz0 hz1 hz2 hF hFa m1
  have HO := Lib.hid hO
  clear hO
  go_wp2
  go_end0
  exact ⟨rfl, ⟨_, _, hC2⟩, HO.out⟩

end Go.Proofs.Ytkpjfdhjkgdcbaa
