/- The walks over cells.New and (*Cells).Note. -/
import Derived.Test.YtkpjfdhjkgdcbaaCellsRw

namespace Go.Proofs.Ytkpjfdhjkgdcbaa
open Go.RowKit

theorem infoU64 : (Try.prog.info? 34).map (fun i => (i.zero, i.size, i.bytes)) = some (some (.int .u64 0), 1, 8) := by kernel_rfl
theorem infoBs : (Try.prog.info? 51).map (fun i => (i.zero, i.size, i.bytes)) = some (some (.slice none 0 0), 1, 24) := by kernel_rfl

def Mem.new (n m : Nat) : Mem := ⟨List.replicate n 0, List.replicate m [], []⟩

theorem made_one (z : Value) (hz : z.cells = #[z]) (n : Nat) : madeCells z.cells n = (List.replicate n z).toArray := by
  rw [hz]
  apply Array.ext
  · simp [size_madeCells]
  · intro i h1 h2
    simp [madeCells, Nat.mod_one]

/-- make([]T, n), n a number of its own. -/
theorem run_make {P : Program} (t e : TypeId) (z : Value) (bytes : Nat) (ht : P.underlying t = some (.slice e)) (hinfo : (P.info? e).map (fun i => (i.zero, i.size, i.bytes)) = some (some z, 1, bytes)) (hz : z.cells = #[z]) (hb0 : 0 < bytes)
    (m : Nat) (hn : m * bytes ≤ 281474976710656) (W : World) :
    (Instr.makeSlice t (.int .i64 (m : Int)) (.int .i64 (m : Int))).run P W = .ok (.slice (some ⟨W.heap.size, 0, none⟩) m m) (W.alloc (.cells (List.replicate m z).toArray e)) := by
  have hm : m ≤ 281474976710656 := Nat.le_trans (Nat.le_mul_of_pos_right _ hb0) hn
  have := run_make_row' t e z bytes ht hinfo hz .i64 .i64 m (by rw [Nat.mul_comm]; exact hn) (by omega) W
  rw [← hz, made_one z hz] at this
  exact this

theorem Blk.drew {w : World} {b t : Nat} {cs : List Value} (h : Blk w b t cs) : Blk w.drew b t cs := h
theorem alloc3 (w : World) (t1 t2 t3 : Nat) (c1 c2 c3 : Array Value) :
    Blk (((w.alloc (.cells c1 t1)).alloc (.cells c2 t2)).alloc (.cells c3 t3)).drew w.heap.size t1 c1.toList ∧
    Blk (((w.alloc (.cells c1 t1)).alloc (.cells c2 t2)).alloc (.cells c3 t3)).drew (w.heap.size + 1) t2 c2.toList ∧
    Blk (((w.alloc (.cells c1 t1)).alloc (.cells c2 t2)).alloc (.cells c3 t3)).drew (w.heap.size + 1 + 1) t3 c3.toList ∧
    Below w.heap.size w (((w.alloc (.cells c1 t1)).alloc (.cells c2 t2)).alloc (.cells c3 t3)).drew := by
  have b1 := Blk.new w t1 c1.toList
  have b2 := Blk.new (w.alloc (.cells c1 t1)) t2 c2.toList
  have b3 := Blk.new ((w.alloc (.cells c1 t1)).alloc (.cells c2 t2)) t3 c3.toList
  simp only [Array.toArray_toList, World.size_alloc] at b1 b2 b3
  exact ⟨((b1.alloc _).alloc _).drew, (b2.alloc _).drew, b3.drew, ((((Below.refl _ w).alloc (Nat.le_refl _) _).alloc (by simp) _).alloc (by simp; omega) _).drew⟩

theorem new_at (w W : World) (n m p ab pb : Nat) (hn : n ≤ 100000) (hm : m ≤ 100000) (hp : w.heap.size ≤ p) (ha : w.heap.size ≤ ab) (hb : w.heap.size ≤ pb)
    (h1 : Blk W ab 34 (Array.replicate n (.int .u64 0)).toList) (h2 : Blk W pb 51 (Array.replicate m (.slice none 0 0)).toList)
    (h3 : Blk W p 124 [.bool true, .slice (some ⟨ab, 0, none⟩) n n, .slice (some ⟨pb, 0, none⟩) m m, .slice none 0 0]) :
    Cells W ⟨p, ab, pb⟩ (Mem.new n m) (fun k => w.heap.size ≤ k) := by
  refine ⟨.slice none 0 0, List.replicate m (.slice none 0 0), ?_, ?_, ?_, Row.nil _ _ _ _, by simp [Mem.new], ?_, hp, ha, hb, by simp [Mem.new]; omega⟩
  · simpa [Mem.new] using h3
  · simpa [Mem.new, u64s] using h1
  · simpa [Mem.new] using h2
  · intro i v b hv hb'
    simp only [Mem.new, List.getElem?_replicate] at hv hb'
    split at hv
    · rename_i hi
      rw [if_pos hi] at hb'
      cases hv; cases hb'
      exact Row.nil _ _ _ _
    · cases hv

set_option maxHeartbeats 400000 in
theorem new_ok (w : World) (n m : Nat) (hn : n ≤ 100000) (hm : m ≤ 100000) :
    Calls Try.prog 33 #[.int .i64 n, .int .i64 m] w fun e w' => ∃ c : CRef, e = .returned (.tuple #[.pointer (some ⟨c.p, 0, none⟩), .int .i64 0]) ∧ Cells w' c (Mem.new n m) (fun k => w.heap.size ≤ k) ∧ Below w.heap.size w w' := by
  have hmk1 := fun W => run_make (P := Try.prog) 121 34 (.int .u64 0) 8 Try.underlying121 infoU64 rfl (by decide) n (by omega) W
  have hmk2 := fun W => run_make (P := Try.prog) 122 51 (.slice none 0 0) 24 Try.underlying122 infoBs rfl (by decide) m (by omega) W
  go_enter Try.func33, Try.ntmps33
  go_wp2
  all_goals go_region
  all_goals go_wp2
  all_goals go_ret2
  all_goals
    obtain ⟨b1, b2, b3, hB⟩ := alloc3 w _ _ _ _ _ _
    first
      | exact ⟨⟨w.heap.size + 1 + 1, w.heap.size, w.heap.size + 1⟩, rfl, new_at w _ n m _ _ _ hn hm (by omega) (by omega) (by omega) b1 b2 b3, hB⟩
      | exact ⟨⟨w.heap.size + 1 + 1, w.heap.size + 1, w.heap.size⟩, rfl, new_at w _ n m _ _ _ hn hm (by omega) (by omega) (by omega) b2 b1 b3, hB⟩

set_option maxHeartbeats 400000 in
theorem new_no (w : World) (n m : Int) (h : decide (0 ≤ n ∧ 0 ≤ m ∧ n ≤ 100000 ∧ m ≤ 100000) = false) :
    Calls Try.prog 33 #[.int .i64 n, .int .i64 m] w fun e w' => e = .returned (.tuple #[.pointer none, .int .i64 2]) ∧ w = w' := by
  have h1 := of_decide_eq_false h
  clear h
  go_enter Try.func33, Try.ntmps33
  go_wp2
  all_goals go_ret2
  all_goals exact ⟨rfl, rfl⟩

/-- May an access be noted? -/
def okNote (S : Mem) (a : Acc) : Bool :=
  decide (0 ≤ a.task ∧ a.task < 64 ∧ 0 ≤ a.at_ ∧ 1 ≤ a.what ∧ a.what ≤ 9 ∧ (a.what ≤ 5 → a.at_ < S.atomics.length) ∧ (6 ≤ a.what → a.what ≤ 7 → a.at_ < S.plains.length) ∧ (8 ≤ a.what → a.at_ < 1))

end Go.Proofs.Ytkpjfdhjkgdcbaa
