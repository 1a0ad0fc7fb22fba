/- Numbers that come in, in slices. -/
import Derived.Test.YteiaifhnikknbaaDoorOpen
namespace Go.Proofs.YteiaifhnikknbaaDoor
open Go.RowKit Go.ChangeShapes Go.WideShapes Go.Deep

/-- A number that fits its kind. -/
def fits (k : IntKind) (n : Int) : Prop := (Lit.int k n).wf = true
theorem fits_u8 {m : Int} (h : fits .u8 m) : 0 ≤ m ∧ m ≤ 255 := by
  have h' : (Lit.int .u8 m).wf = true := h
  simp [Lit.wf, IntKind.min, IntKind.max, IntKind.signed, IntKind.bits] at h'
  omega
theorem fits_u16 {m : Int} (h : fits .u16 m) : 0 ≤ m ∧ m ≤ 65535 := by
  have h' : (Lit.int .u16 m).wf = true := h
  simp [Lit.wf, IntKind.min, IntKind.max, IntKind.signed, IntKind.bits] at h'
  omega
theorem fits_u32 {m : Int} (h : fits .u32 m) : 0 ≤ m ∧ m ≤ 4294967295 := by
  have h' : (Lit.int .u32 m).wf = true := h
  simp [Lit.wf, IntKind.min, IntKind.max, IntKind.signed, IntKind.bits] at h'
  omega
theorem fits_i64 {m : Int} (h : fits .i64 m) : -9223372036854775808 ≤ m ∧ m ≤ 9223372036854775807 := by
  have h' : (Lit.int .i64 m).wf = true := h
  simp [Lit.wf, IntKind.min, IntKind.max, IntKind.signed, IntKind.bits] at h'
  omega
theorem fits_u64 {m : Int} (h : fits .u64 m) : 0 ≤ m ∧ m ≤ 18446744073709551615 := by
  have h' : (Lit.int .u64 m).wf = true := h
  simp [Lit.wf, IntKind.min, IntKind.max, IntKind.signed, IntKind.bits] at h'
  omega

/-- An element's cells, where it lies. -/
theorem ArgRow.cell {w : World} {size : Nat} {ao : Option Addr} {cap : Nat} {α : Type} {f : α → List Value} {good : α → Prop} {l : List α} (h : ArgRow w size (.slice ao l.length cap) f good l) {wr : World} (hb : Below w.heap.size w wr) (hpos : 0 < size) (k : Nat) (hk : k < l.length) :
    ∃ b off, ao = some ⟨b, off, none⟩ ∧ ∀ j u, (f l[k])[j]? = some u → wr.cell? ⟨b, off + k * size + j, none⟩ = some u := by
  have hr := h.reads.below hb
  have hlen := hr.len
  have hl : (l.flatMap f).length = l.length * size := flatMap_len f size l h.size
  rcases hr.form with ⟨h0, _⟩ | ⟨b, off, c', e, _, hc⟩
  · omega
  · cases e
    refine ⟨b, off, rfl, fun j u hu => ?_⟩
    have hj : j < size := by
      have := (List.getElem?_eq_some_iff.1 hu).1
      rw [h.size _ (List.getElem_mem _)] at this
      exact this
    have e := flatMap_get f size l h.size k j l[k] (List.getElem?_eq_getElem hk) hj
    rw [hu] at e
    have := hc _ _ e
    rw [← Nat.add_assoc] at this
    exact this
end Go.Proofs.YteiaifhnikknbaaDoor
