/- Whole structs out of and into blocks that are known whole; results that lie in memory. -/
import Derived.Test.YtkpjfdhjkgdcbaaBase
import Derived.Test.YtkpjfdhjkgdcbaaProg
import Derived.Deep.WholeRow
import Derived.Deep.MidRow

namespace Go.Proofs.Ytkpjfdhjkgdcbaa
open Go.RowKit

section
variable {P : Program} {fn : Func} {p q r : Tmp} {ty : TypeId} {tmps : Array Value} {w w' : World} {ad : Addr} {cs : Array Value}
theorem results_cell_one (h : fn.results = #[.cell p ty]) (hp : tmps.getD p undef = .pointer (some ad)) (hl : (loadVar ty ad).run P w = .ok (.agg cs) w) :
    (results fn tmps).run P w = .ok (.agg cs) w := by
  have hp' : tmps[p]?.getD undef = .pointer (some ad) := by simpa using hp
  simp [results, h, hp', asAddr, hl]
theorem results_cell_tmp (h : fn.results = #[.cell p ty, .tmp q]) (hp : tmps.getD p undef = .pointer (some ad)) (hl : (loadVar ty ad).run P w = .ok (.agg cs) w) (x : Value) (hx : tmps.getD q undef = x) :
    (results fn tmps).run P w = .ok (.tuple #[.agg cs, x]) w := by
  have hp' : tmps[p]?.getD undef = .pointer (some ad) := by simpa using hp
  have hx' : tmps[q]?.getD undef = x := by simpa using hx
  simp [results, h, hp', asAddr, hl, hx']
theorem results_cell_tmp2 (h : fn.results = #[.cell p ty, .tmp q, .tmp r]) (hp : tmps.getD p undef = .pointer (some ad)) (hl : (loadVar ty ad).run P w = .ok (.agg cs) w) (x y : Value) (hx : tmps.getD q undef = x) (hy : tmps.getD r undef = y) :
    (results fn tmps).run P w = .ok (.tuple #[.agg cs, x, y]) w := by
  have hp' : tmps[p]?.getD undef = .pointer (some ad) := by simpa using hp
  have hx' : tmps[q]?.getD undef = x := by simpa using hx
  have hy' : tmps[r]?.getD undef = y := by simpa using hy
  simp [results, h, hp', asAddr, hl, hx', hy']
theorem Blk.loadRow {b t : Nat} {C : List Value} (h : Blk w b t C) (d : TypeDesc) (hu : P.underlying ty = some d) (hd : (match d with | .struct _ | .array _ _ => true | _ => false) = true) (hi : (P.info? ty).map (·.size) = some C.length) : (loadVar ty ⟨b, 0, none⟩).run P w = .ok (.agg C.toArray) w :=
  run_loadVar_row w b t ty C.toArray (0, 0) d h hu hd (by rw [hi]; simp)
theorem wpList_built {ops : Array Oper} {rest : List Oper} {o : Oper} {a : Act} {Q : Exit → Act → World → Prop} (hg : o.guard = none) (t : TypeId) (parts : Array (Nat × Operand)) (ho : o.op = .build t parts) (cs : Array Value)
    (hf : P.built t (parts.map fun (i, x) => (i, a.eval x)).toList = some cs) (h : wpList P ops Q rest (a.put o.dst (.agg cs)) w) : wpList P ops Q (o :: rest) a w :=
  wpList_build hg t parts ho (by rw [hf]; rfl) (by rw [hf]; exact h)
/-- The arms that load and store a struct at a block that is known whole. -/
theorem wpList_load_blk {ops : Array Oper} {rest : List Oper} {o : Oper} {a : Act} {Q : Exit → Act → World → Prop} (hgd : o.guard = none) (ty : TypeId) (x : Operand) (ho : o.op = .load ty x) (b : Nat) (hx : a.eval x = .pointer (some ⟨b, 0, none⟩)) (C : List Value) {t : TypeId} (hk : Blk w b t C)
    (d : TypeDesc) (hu : P.underlying ty = some d) (hd : (match d with | .struct _ | .array _ _ => true | _ => false) = true) (hi : (P.info? ty).map (·.size) = some C.length)
    (h : wpList P ops Q rest (a.put o.dst (.agg C.toArray)) w) : wpList P ops Q (o :: rest) a w :=
  wpList_load_row hgd ty x ho b hx t C.toArray (0, 0) d hk hu hd (by rw [hi]; simp) h
theorem wpList_store_blk {ops : Array Oper} {rest : List Oper} {o : Oper} {a : Act} {Q : Exit → Act → World → Prop} (hgd : o.guard = none) (ty : TypeId) (x y : Operand) (ho : o.op = .store ty x y) (b : Nat) (C : List Value) (hx : a.eval x = .pointer (some ⟨b, 0, none⟩)) (hy : a.eval y = .agg C.toArray)
    {t : TypeId} (old : List Value) (hk : Blk w b t old) (hi : (P.info? ty).map (·.size) = some C.length) (hl : old.length = C.length) (h1 : ∀ u ∈ C, u.oneCell' = true)
    (h : wpList P ops Q rest (a.put o.dst undef) (w.setRow b C.toArray)) : wpList P ops Q (o :: rest) a w :=
  wpList_store_row hgd ty x y ho b C.toArray hx hy t old.toArray hk (by rw [hi]; simp) (by simpa using hl) (all_oneCell_toArray h1) h
end

theorem Blk.setRow {w : World} {b t : Nat} {cs : List Value} (h : Blk w b t cs) (ds : List Value) : Blk (w.setRow b ds.toArray) b t ds := setRow_heap w b _ _ t (0, 0) h
theorem heap_setRow_other (w : World) (b : Nat) (c : Array Value) {k : Nat} (hk : k ≠ b) : (w.setRow b c).heap[k]? = w.heap[k]? := by
  show (w.heap.modify b _)[k]? = _
  rw [Array.getElem?_modify, if_neg (Ne.symm hk)]
theorem setRow_size (w : World) (b : Nat) (c : Array Value) : (w.setRow b c).heap.size = w.heap.size := by
  show (w.heap.modify b _).size = _
  simp
theorem Blk.setRow_other {w : World} {b b' t : Nat} {cs : List Value} (h : Blk w b t cs) (hne : b ≠ b') (c : Array Value) : Blk (w.setRow b' c) b t cs := h.keep (heap_setRow_other w b' c hne)
theorem Only.setRow {A : Nat → Prop} {a w : World} (h : Only A a w) {b : Nat} (hb : A b) (c : Array Value) : Only A a (w.setRow b c) :=
  h.trans ⟨rfl, rfl, rfl, by rw [setRow_size]; exact Nat.le_refl _, fun k _ hk => heap_setRow_other w b c (fun e => hk (e ▸ hb))⟩
theorem Row.setRow {w : World} {e size n : Nat} {v : Value} {xs : List Value} {A : Nat → Prop} (h : Row w e size v n xs A) {b t : Nat} {cs : List Value} (hb : Blk w b t cs) (hne : t ≠ e) (ds : Array Value) : Row (w.setRow b ds) e size v n xs A :=
  h.keep fun k hk => heap_setRow_other _ _ _ (fun e0 => h.ne_blk hb hne (e0 ▸ hk))
theorem below_setRow {B : Nat} {a w : World} (h : Below B a w) {b : Nat} (hb : B ≤ b) (c : Array Value) : Below B a (w.setRow b c) :=
  ⟨h.os, h.tape, h.output, by rw [setRow_size]; exact h.size, fun k hk => (heap_setRow_other w b c (by omega)).trans (h.block k hk)⟩
theorem two_appends {W w1 w2 : World} {v1 : Value} {o : Obj} (hg1 : W.grownBy w1 (Value.slice none 0 0).ownBlock) (hat1 : v1.ownBlock = (Value.slice none 0 0).ownBlock ∨ v1.ownBlock = some W.heap.size) (hg2 : (w1.alloc o).grownBy w2 v1.ownBlock) : Below W.heap.size W w2 := by
  have h1 : Below W.heap.size W w1 := (Below.refl _ W).grown hg1 (Nat.le_refl _) (fun k h => by cases h)
  refine (h1.alloc h1.size o).grown hg2 ?_ ?_
  · have := h1.size; simp; omega
  · intro k hk
    rcases hat1 with h | h
    · rw [h] at hk; cases hk
    · rw [h] at hk; cases hk; exact Nat.le_refl _
theorem three_boxes (w : World) (C D E : List Value) (t u s : Nat) : ∃ W, ((w.alloc (.cells C.toArray t)).alloc (.cells D.toArray u)).alloc (.cells E.toArray s) = W ∧ Blk W w.heap.size t C ∧ Blk W (w.heap.size + 1) u D ∧ Blk W (w.heap.size + 1 + 1) s E ∧ Below w.heap.size w W ∧ W.heap.size = w.heap.size + 3 :=
  ⟨_, rfl, ((Blk.new w t C).alloc _).alloc _, (by have := (Blk.new (w.alloc (.cells C.toArray t)) u D).alloc (.cells E.toArray s); simpa using this),
   (by have := Blk.new ((w.alloc (.cells C.toArray t)).alloc (.cells D.toArray u)) s E; simpa using this), ((((Below.refl _ _).alloc (Nat.le_refl _) _).alloc (by simp) _).alloc (by simp; omega) _), by simp⟩
theorem two_boxes (w : World) (C Z : List Value) (t u : Nat) : ∃ W, (w.alloc (.cells C.toArray t)).alloc (.cells Z.toArray u) = W ∧ Blk W w.heap.size t C ∧ Blk W (w.heap.size + 1) u Z ∧ Below w.heap.size w W ∧ W.heap.size = w.heap.size + 2 :=
  ⟨_, rfl, (Blk.new w t C).alloc _, by have := Blk.new (w.alloc (.cells C.toArray t)) u Z; simpa using this, (((Below.refl _ _).alloc (Nat.le_refl _) _).alloc (by simp) _), by simp⟩
end Go.Proofs.Ytkpjfdhjkgdcbaa
