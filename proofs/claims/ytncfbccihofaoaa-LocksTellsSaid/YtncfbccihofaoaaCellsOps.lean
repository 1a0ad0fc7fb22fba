/- The walks over Load, Store, Swap, Add. -/
import Derived.Test.YtncfbccihofaoaaTraced
namespace Go.Proofs.Ytncfbccihofaoaa
open Go.RowKit

theorem okAt_at {n : Nat} {task at_ : Int} (h : okAt n task at_ = true) : 0 ≤ at_ ∧ at_ < n := by
  obtain ⟨_, _, h3, h4⟩ := of_decide_eq_true h
  exact ⟨h3, h4⟩

theorem Cells.atomCell {w : World} {c : CRef} {S : Mem} {A : Nat → Prop} (h : Cells w c S A) {i : Int} (h0 : 0 ≤ i) (h1 : i < S.atomics.length) : w.cell? ⟨c.ab, i.toNat, none⟩ = some (.int .u64 (S.at_ i)) :=
  let ⟨_, _, k⟩ := h; k.atomCell h0 h1
theorem Cells.atomFrozen {w : World} {c : CRef} {S : Mem} {A : Nat → Prop} (h : Cells w c S A) (i : Nat) : w.frozen? ⟨c.ab, i, none⟩ = false := let ⟨_, _, k⟩ := h; k.atomFrozen i
theorem Cells.stored {w : World} {c : CRef} {S : Mem} {A : Nat → Prop} (h : Cells w c S A) (i x : Int) : Cells (w.setCell ⟨c.ab, i.toNat, none⟩ (.int .u64 x)) c (S.put i x) A ∧ Only A w (w.setCell ⟨c.ab, i.toNat, none⟩ (.int .u64 x)) :=
  let ⟨_, _, k⟩ := h; ⟨⟨_, _, (k.stored i x).1⟩, (k.stored i x).2⟩










/-! The same, the state behind told by an equation. -/




end Go.Proofs.Ytncfbccihofaoaa
