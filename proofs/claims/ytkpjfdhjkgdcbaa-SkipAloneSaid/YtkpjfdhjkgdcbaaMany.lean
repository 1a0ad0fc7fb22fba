/- Structs in the midst of a block: out of it, into it. -/
import Derived.Test.YtkpjfdhjkgdcbaaRowOps

namespace Go.Proofs.Ytkpjfdhjkgdcbaa
open Go.RowKit

def putL : List Value → Nat → List Value → List Value
  | X, _, [] => X
  | X, o, v :: r => putL (X.set o v) (o + 1) r
theorem Blk.many {b t : Nat} : ∀ (vs : List Value) (o : Nat) {w : World} {X : List Value}, Blk w b t X → Blk (w.setCells b o vs) b t (putL X o vs)
  | [], _, _, _, h => h
  | v :: r, o, _, _, h => Blk.many r (o + 1) (h.set o v)
theorem heap_many (b : Nat) : ∀ (vs : List Value) (o : Nat) (w : World) {k : Nat}, k ≠ b → (w.setCells b o vs).heap[k]? = w.heap[k]?
  | [], _, _, _, _ => rfl
  | v :: r, o, w, _, hk => (heap_many b r (o + 1) _ hk).trans (Below.heap_setCell _ _ _ _ hk)
theorem size_many (b : Nat) : ∀ (vs : List Value) (o : Nat) (w : World), (w.setCells b o vs).heap.size = w.heap.size
  | [], _, _ => rfl
  | v :: r, o, w => (size_many b r (o + 1) _).trans (by simp [World.setCell])
theorem Only.many {A : Nat → Prop} {a : World} {b : Nat} (hb : A b) : ∀ (vs : List Value) (o : Nat) {w : World}, Only A a w → Only A a (w.setCells b o vs)
  | [], _, _, h => h
  | v :: r, o, _, h => Only.many hb r (o + 1) (h.setCell (p := ⟨b, o, none⟩) hb v)
theorem Below.many {B b : Nat} {a : World} (hb : B ≤ b) : ∀ (vs : List Value) (o : Nat) {w : World}, Below B a w → Below B a (w.setCells b o vs)
  | [], _, _, h => h
  | v :: r, o, _, h => Below.many hb r (o + 1) (h.setCell (p := ⟨b, o, none⟩) hb v)
theorem Blk.many_other {w : World} {b b' t : Nat} {cs : List Value} (h : Blk w b t cs) (hne : b ≠ b') (vs : List Value) (o : Nat) : Blk (w.setCells b' o vs) b t cs := h.keep (heap_many b' vs o w hne)
theorem Row.many {w : World} {e size n : Nat} {v : Value} {xs : List Value} {A : Nat → Prop} (h : Row w e size v n xs A) {b t : Nat} {cs : List Value} (hb : Blk w b t cs) (hne : t ≠ e) (vs : List Value) (o : Nat) : Row (w.setCells b o vs) e size v n xs A :=
  h.keep fun k hk => heap_many b vs o w (fun e0 => h.ne_blk hb hne (e0 ▸ hk))
theorem Blk.range {w : World} {b t : Nat} {C : List Value} (h : Blk w b t C) (o : Nat) (cs : List Value) (hc : ∀ j v, cs[j]? = some v → C[o + j]? = some v) : w.rangeAt b o cs := fun j v hv => h.cell (o + j) (hc j v hv)
theorem Blk.there {w : World} {b t : Nat} {C : List Value} (h : Blk w b t C) (o n : Nat) (hn : o + n ≤ C.length) : w.there b o n := fun j hj =>
  ⟨by rw [h.cell (o + j) (List.getElem?_eq_getElem (by omega))]; rfl, h.frozen (o + j)⟩
end Go.Proofs.Ytkpjfdhjkgdcbaa
