/- The walk over (*Cells).traced. -/
import Derived.Test.YtncfbccihofaoaaCellsW
namespace Go.Proofs.Ytncfbccihofaoaa
open Go.RowKit

/-- A row that is known in a world with one block more. -/
theorem cells_three (w : World) (a b c : Value) (t : Nat) : ∀ j u, [a, b, c][j]? = some u → (w.alloc (.cells #[a, b, c] t)).cell? ((⟨w.heap.size, 0, none⟩ : Addr).add j) = some u := by
  intro j u hu
  have hb : Blk (w.alloc (.cells #[a, b, c] t)) w.heap.size t [a, b, c] := Blk.new w t [a, b, c]
  have := hb.cell j hu
  have e : (⟨w.heap.size, 0, none⟩ : Addr).add j = ⟨w.heap.size, j, none⟩ := by unfold Addr.add; split <;> simp_all
  rw [e]; exact this

theorem cells_three' (w : World) (N : Nat) (hN : w.heap.size = N) (a b c : Value) (t : Nat) : ∀ j u, [a, b, c][j]? = some u → (w.alloc (.cells #[a, b, c] t)).cell? ((⟨N, 0, none⟩ : Addr).add j) = some u := by
  subst hN; exact cells_three w a b c t


end Go.Proofs.Ytncfbccihofaoaa
