/- The memory of layer 13, as the heap holds it. -/
import Derived.Test.YtkpjfdhjkgdcbaaBase

namespace Go.Proofs.Ytkpjfdhjkgdcbaa
open Go.RowKit

/-- An access. -/
structure Acc where
  task : Int
  what : Int
  at_ : Int
  deriving DecidableEq
/-- A memory, as plain data. -/
structure Mem where
  atomics : List Int
  plains : List (List UInt8)
  trace : List Acc

def Acc.cells (a : Acc) : List Value := [.int .i64 a.task, .int .u8 a.what, .int .i64 a.at_]
def accs (l : List Acc) : List Value := l.flatMap Acc.cells
def u64s (l : List Int) : List Value := l.map (Value.int .u64)
def u8s (l : List UInt8) : List Value := l.map fun c => Value.int .u8 (c.toNat : Int)
def Mem.note (S : Mem) (a : Acc) : Mem := { S with trace := S.trace ++ [a] }

theorem accs_length (l : List Acc) : (accs l).length = l.length * 3 := by
  induction l with
  | nil => rfl
  | cons a l ih =>
    have : accs (a :: l) = a.cells ++ accs l := rfl
    rw [this, List.length_append, ih]
    simp [Acc.cells]; omega
theorem accs_append (l m : List Acc) : accs (l ++ m) = accs l ++ accs m := by simp [accs]
theorem u64s_length (l : List Int) : (u64s l).length = l.length := by simp [u64s]
theorem u8s_length (l : List UInt8) : (u8s l).length = l.length := by simp [u8s]

/-- Where a memory lies: its struct, its cells, its places (these blocks stay). -/
structure CRef where
  p : Nat
  ab : Nat
  pb : Nat

def trMax : Nat := 1000000000

/-- A memory S lies at c, all its blocks in A. -/
structure CellsAt (w : World) (c : CRef) (S : Mem) (A : Nat → Prop) (tv : Value) (pls : List Value) : Prop where
  main : Blk w c.p 124 [.bool true, .slice (some ⟨c.ab, 0, none⟩) S.atomics.length S.atomics.length, .slice (some ⟨c.pb, 0, none⟩) pls.length pls.length, tv]
  atom : Blk w c.ab 34 (u64s S.atomics)
  plain : Blk w c.pb 51 pls
  trace : Row w 64 3 tv S.trace.length (accs S.trace) A
  rows : pls.length = S.plains.length
  row : ∀ (i : Nat) (v : Value) (b : List UInt8), pls[i]? = some v → S.plains[i]? = some b → Row w 5 1 v b.length (u8s b) A
  hp : A c.p
  hab : A c.ab
  hpb : A c.pb
  small : S.atomics.length ≤ 100000 ∧ S.plains.length ≤ 100000

def Cells (w : World) (c : CRef) (S : Mem) (A : Nat → Prop) : Prop := ∃ tv pls, CellsAt w c S A tv pls

theorem CellsAt.keep {w w' : World} {c : CRef} {S : Mem} {A : Nat → Prop} {tv : Value} {pls : List Value} (h : CellsAt w c S A tv pls) (hs : Same A w w') : CellsAt w' c S A tv pls :=
  ⟨h.main.same h.hp hs, h.atom.same h.hab hs, h.plain.same h.hpb hs, h.trace.same hs, h.rows, fun i v b hi hb => (h.row i v b hi hb).same hs, h.hp, h.hab, h.hpb, h.small⟩
theorem Cells.keep {w w' : World} {c : CRef} {S : Mem} {A : Nat → Prop} (h : Cells w c S A) (hs : Same A w w') : Cells w' c S A :=
  let ⟨tv, pls, k⟩ := h; ⟨tv, pls, k.keep hs⟩
theorem Cells.mono {w : World} {c : CRef} {S : Mem} {A B : Nat → Prop} (h : Cells w c S A) (hAB : ∀ k, k < w.heap.size → A k → B k) : Cells w c S B :=
  let ⟨tv, pls, k⟩ := h
  ⟨tv, pls, k.main, k.atom, k.plain, k.trace.mono hAB, k.rows, fun i v b hi hb => (k.row i v b hi hb).mono hAB, hAB _ k.main.lt k.hp, hAB _ k.atom.lt k.hab, hAB _ k.plain.lt k.hpb, k.small⟩
theorem Cells.alloc {w : World} {c : CRef} {S : Mem} {A : Nat → Prop} (h : Cells w c S A) (o : Obj) : Cells (w.alloc o) c S A := h.keep (Same.alloc A w o)
theorem Cells.drew {w : World} {c : CRef} {S : Mem} {A : Nat → Prop} (h : Cells w c S A) : Cells w.drew c S A := h.keep (Same.drew A w)
theorem Cells.drewN {w : World} {c : CRef} {S : Mem} {A : Nat → Prop} (h : Cells w c S A) (n : Nat) : Cells (w.drewN n) c S A := h.keep (Same.drewN A w n)
theorem Cells.quiet {w w' : World} {c : CRef} {S : Mem} {A : Nat → Prop} (h : Cells w c S A) (hq : Quiet w w') : Cells w' c S A := h.keep (hq.same A)
theorem Cells.lt {w : World} {c : CRef} {S : Mem} {A : Nat → Prop} (h : Cells w c S A) : c.p < w.heap.size := let ⟨_, _, k⟩ := h; k.main.lt
theorem Cells.small {w : World} {c : CRef} {S : Mem} {A : Nat → Prop} (h : Cells w c S A) : S.atomics.length ≤ 100000 ∧ S.plains.length ≤ 100000 := let ⟨_, _, k⟩ := h; k.small

/-- What the struct's cells hold. -/
theorem CellsAt.c0 {w : World} {c : CRef} {S : Mem} {A : Nat → Prop} {tv : Value} {pls : List Value} (h : CellsAt w c S A tv pls) : w.cell? ⟨c.p, 0, none⟩ = some (.bool true) := h.main.cell 0 rfl
theorem CellsAt.c1 {w : World} {c : CRef} {S : Mem} {A : Nat → Prop} {tv : Value} {pls : List Value} (h : CellsAt w c S A tv pls) : w.cell? ⟨c.p, 1, none⟩ = some (.slice (some ⟨c.ab, 0, none⟩) S.atomics.length S.atomics.length) := h.main.cell 1 rfl
theorem CellsAt.c2 {w : World} {c : CRef} {S : Mem} {A : Nat → Prop} {tv : Value} {pls : List Value} (h : CellsAt w c S A tv pls) : w.cell? ⟨c.p, 2, none⟩ = some (.slice (some ⟨c.pb, 0, none⟩) pls.length pls.length) := h.main.cell 2 rfl
theorem CellsAt.c3 {w : World} {c : CRef} {S : Mem} {A : Nat → Prop} {tv : Value} {pls : List Value} (h : CellsAt w c S A tv pls) : w.cell? ⟨c.p, 3, none⟩ = some tv := h.main.cell 3 rfl
theorem CellsAt.f {w : World} {c : CRef} {S : Mem} {A : Nat → Prop} {tv : Value} {pls : List Value} (h : CellsAt w c S A tv pls) (i : Nat) : w.frozen? ⟨c.p, i, none⟩ = false := h.main.frozen i

def Mem.at_ (S : Mem) (i : Int) : Int := S.atomics.getD i.toNat 0
def Mem.place (S : Mem) (i : Int) : List UInt8 := S.plains.getD i.toNat []
def Mem.put (S : Mem) (i x : Int) : Mem := { S with atomics := S.atomics.set i.toNat x }
def Mem.lay (S : Mem) (i : Int) (b : List UInt8) : Mem := { S with plains := S.plains.set i.toNat b }
theorem CellsAt.atomCell {w : World} {c : CRef} {S : Mem} {A : Nat → Prop} {tv : Value} {pls : List Value} (h : CellsAt w c S A tv pls) {i : Int} (h0 : 0 ≤ i) (h1 : i < S.atomics.length) : w.cell? ⟨c.ab, i.toNat, none⟩ = some (.int .u64 (S.at_ i)) := by
  refine h.atom.cell _ ?_
  simp [u64s, Mem.at_, List.getElem?_eq_getElem (show i.toNat < S.atomics.length by omega)]
theorem CellsAt.atomFrozen {w : World} {c : CRef} {S : Mem} {A : Nat → Prop} {tv : Value} {pls : List Value} (h : CellsAt w c S A tv pls) (i : Nat) : w.frozen? ⟨c.ab, i, none⟩ = false := h.atom.frozen i
theorem Row.ne_row {w : World} {e size n e' size' n' : Nat} {v v' : Value} {xs xs' : List Value} {A A' : Nat → Prop} (h : Row w e size v n xs A) (h' : Row w e' size' v' n' xs' A') (hne : e ≠ e') : v.ownBlock = none ∨ v.ownBlock ≠ v'.ownBlock := by
  rcases hv : v.ownBlock with _ | k
  · exact .inl rfl
  · refine .inr fun e0 => ?_
    obtain ⟨cur, hc⟩ := h.tag hv
    obtain ⟨cur', hc'⟩ := h'.tag e0.symm
    rw [hc] at hc'
    injection hc' with hc'
    injection hc' with _ ht
    exact hne ht
/-- A number is stored. -/
theorem CellsAt.stored {w : World} {c : CRef} {S : Mem} {A : Nat → Prop} {tv : Value} {pls : List Value} (h : CellsAt w c S A tv pls) (i x : Int) :
    CellsAt (w.setCell ⟨c.ab, i.toNat, none⟩ (.int .u64 x)) c (S.put i x) A tv pls ∧ Only A w (w.setCell ⟨c.ab, i.toNat, none⟩ (.int .u64 x)) := by
  constructor
  · refine ⟨?_, ?_, h.plain.set_other (h.plain.ne h.atom (by decide)) _, h.trace.setCell (h.trace.ne_blk h.atom (by decide)) _, h.rows, fun k v b hv hb => (h.row k v b hv hb).setCell ((h.row k v b hv hb).ne_blk h.atom (by decide)) _, h.hp, h.hab, h.hpb, ?_⟩
    · have := h.main.set_other (a := ⟨c.ab, i.toNat, none⟩) (h.main.ne h.atom (by decide)) (.int .u64 x)
      simpa [Mem.put] using this
    · have := h.atom.set i.toNat (.int .u64 x)
      simpa [Mem.put, u64s, List.map_set] using this
    · simpa [Mem.put] using h.small
  · exact (Only.refl A w).setCell h.hab _

theorem CellsAt.plainCell {w : World} {c : CRef} {S : Mem} {A : Nat → Prop} {tv : Value} {pls : List Value} (h : CellsAt w c S A tv pls) {i : Int} (h0 : 0 ≤ i) (h1 : i < S.plains.length) :
    ∃ v, w.cell? ⟨c.pb, i.toNat, none⟩ = some v ∧ Row w 5 1 v (S.place i).length (u8s (S.place i)) A := by
  have hl : i.toNat < pls.length := by rw [h.rows]; omega
  refine ⟨pls[i.toNat], h.plain.cell _ (List.getElem?_eq_getElem hl), h.row i.toNat _ _ (List.getElem?_eq_getElem hl) ?_⟩
  simp [Mem.place, List.getElem?_eq_getElem (show i.toNat < S.plains.length by omega)]
/-- Bytes are laid at a place. -/
theorem CellsAt.laid {w : World} {c : CRef} {S : Mem} {A : Nat → Prop} {tv : Value} {pls : List Value} (h : CellsAt w c S A tv pls) (i : Int) {v : Value} {b : List UInt8} (hv : Row w 5 1 v b.length (u8s b) A) :
    CellsAt (w.setCell ⟨c.pb, i.toNat, none⟩ v) c (S.lay i b) A tv (pls.set i.toNat v) ∧ Only A w (w.setCell ⟨c.pb, i.toNat, none⟩ v) := by
  constructor
  · refine ⟨?_, h.atom.set_other (h.atom.ne h.plain (by decide)) _, h.plain.set i.toNat v, h.trace.setCell (h.trace.ne_blk h.plain (by decide)) _, ?_, ?_, h.hp, h.hab, h.hpb, ?_⟩
    · have := h.main.set_other (a := ⟨c.pb, i.toNat, none⟩) (h.main.ne h.plain (by decide)) v
      simpa [Mem.lay] using this
    · simpa [Mem.lay] using h.rows
    · intro k u b' hu hb
      simp only [Mem.lay, List.getElem?_set] at hu hb
      split at hu
      · rename_i e
        subst e
        simp only [if_true] at hb
        split at hu
        · rename_i hl
          rw [if_pos (by rw [← h.rows]; exact hl)] at hb
          cases hu; cases hb
          exact hv.setCell (hv.ne_blk h.plain (by decide)) _
        · cases hu
      · rename_i e
        rw [if_neg e] at hb
        exact (h.row k u b' hu hb).setCell ((h.row k u b' hu hb).ne_blk h.plain (by decide)) _
    · simpa [Mem.lay] using h.small
  · exact (Only.refl A w).setCell h.hpb _
theorem u8s_one (l : List UInt8) : ∀ u ∈ u8s l, u.oneCell' = true := by
  intro u hu
  simp only [u8s, List.mem_map] at hu
  obtain ⟨c, _, rfl⟩ := hu
  rfl
theorem accs_one (l : List Acc) : ∀ u ∈ accs l, u.oneCell' = true := by
  intro u hu
  simp only [accs, List.mem_flatMap, Acc.cells] at hu
  obtain ⟨a, _, hu⟩ := hu
  simp at hu
  rcases hu with rfl | rfl | rfl <;> rfl

/-- Behind the append onto the trace and the store of it. -/
theorem CellsAt.noted {w w1 : World} {c : CRef} {S : Mem} {A : Nat → Prop} {tv tv' : Value} {pls : List Value} (h : CellsAt w c S A tv pls) (hF : Fresh A w) (a : Acc)
    (hrow : w1.ownsRow 0 64 3 tv' (S.trace.length + 1) (accs S.trace ++ a.cells)) (hg : w.grownBy w1 tv.ownBlock) (hat : tv'.ownBlock = tv.ownBlock ∨ ∃ b, tv'.ownBlock = some b ∧ w.heap.size ≤ b) :
    CellsAt (w1.setCell ⟨c.p, 3, none⟩ tv') c (S.note a) A tv' pls ∧ Only A w (w1.setCell ⟨c.p, 3, none⟩ tv') := by
  have hp1 : tv.ownBlock ≠ some c.p := h.trace.ne_blk h.main (by decide)
  have ha1 : tv.ownBlock ≠ some c.ab := h.trace.ne_blk h.atom (by decide)
  have hb1 : tv.ownBlock ≠ some c.pb := h.trace.ne_blk h.plain (by decide)
  have m1 := h.main.grown hg hp1
  have hR : Row w1 64 3 tv' (S.trace.length + 1) (accs S.trace ++ a.cells) A := by
    refine ⟨hrow, fun k hk => ?_⟩
    rcases hat with e | ⟨b, e, hb⟩
    · exact h.trace.home k (e ▸ hk)
    · rw [e] at hk; cases hk; exact hF.new _ hb
  have hpt : tv'.ownBlock ≠ some c.p := hR.ne_blk m1 (by decide)
  constructor
  · refine ⟨?_, (h.atom.grown hg ha1).set_other (h.atom.ne h.main (by decide)) _, (h.plain.grown hg hb1).set_other (h.plain.ne h.main (by decide)) _, ?_, h.rows, ?_, h.hp, h.hab, h.hpb, h.small⟩
    · exact m1.set 3 tv'
    · have := hR.setCell (a := ⟨c.p, 3, none⟩) hpt tv'
      simpa [Mem.note, accs_append, accs] using this
    · intro i v b hi hb
      have hr := h.row i v b hi hb
      refine (hr.grown hg ?_).setCell ?_ tv'
      · exact hr.ne_row h.trace (by decide)
      · exact (hr.ne_blk h.main (by decide))
  · exact ((Only.refl A w).grown hg h.trace.home).setCell h.hp tv'

end Go.Proofs.Ytkpjfdhjkgdcbaa
