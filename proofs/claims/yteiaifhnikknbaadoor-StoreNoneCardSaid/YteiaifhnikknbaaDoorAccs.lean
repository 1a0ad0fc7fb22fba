/- Accesses in a row; boxes that are nobody's. -/
import Derived.Test.YteiaifhnikknbaaDoorCells
namespace Go.Proofs.YteiaifhnikknbaaDoor
open Go.RowKit

/-- The three cells of an access in a row of accesses. -/
theorem accs_get (l : List Acc) (k : Nat) (h : k < l.length) : (accs l)[k * 3]? = some (.int .i64 l[k].task) ∧ (accs l)[k * 3 + 1]? = some (.int .u8 l[k].what) ∧ (accs l)[k * 3 + 2]? = some (.int .i64 l[k].at_) := by
  induction l generalizing k with
  | nil => simp at h
  | cons a l ih =>
    have e : accs (a :: l) = .int .i64 a.task :: .int .u8 a.what :: .int .i64 a.at_ :: accs l := rfl
    cases k with
    | zero => rw [e]; simp
    | succ k =>
      have := ih k (by simpa using h)
      rw [e, show (k + 1) * 3 = k * 3 + 1 + 1 + 1 by omega]
      simpa using this

theorem Reads.acc {w : World} {n b off c : Nat} {l : List Acc} (h : Reads w 3 (.slice (some ⟨b, off, none⟩) n c) n (accs l)) (k : Nat) (hk : k < l.length) :
    w.cell? ⟨b, off + k * 3, none⟩ = some (.int .i64 l[k].task) ∧ w.cell? ⟨b, off + k * 3 + 1, none⟩ = some (.int .u8 l[k].what) ∧ w.cell? ⟨b, off + k * 3 + 2, none⟩ = some (.int .i64 l[k].at_) := by
  have hl := h.len
  rw [accs_length] at hl
  obtain ⟨h0, h1, h2⟩ := accs_get l k hk
  rcases h.form with ⟨rfl, _⟩ | ⟨b', off', c', e, _, hr⟩
  · omega
  · cases e
    exact ⟨hr _ _ h0, hr _ _ h1, hr _ _ h2⟩

theorem Cells.sans {w : World} {c : CRef} {S : Mem} {A : Nat → Prop} (h : Cells w c S A) {g : Nat} (hg : w.heap.size ≤ g) : Cells w c S (fun k => A k ∧ k ≠ g) := h.mono fun k hk hA => ⟨hA, by omega⟩
theorem Fresh.sans {w w' : World} {A : Nat → Prop} (h : Fresh A w) {g : Nat} (hs : w.heap.size ≤ w'.heap.size) (hg : g < w'.heap.size) : Fresh (fun k => A k ∧ k ≠ g) w' := ⟨fun k hk => ⟨h.new k (by omega), by omega⟩⟩
theorem Only.sans {w w' : World} {A : Nat → Prop} {g : Nat} (h : Only (fun k => A k ∧ k ≠ g) w w') : Only A w w' := h.mono fun _ _ hk => hk.1

end Go.Proofs.YteiaifhnikknbaaDoor
