/- What CellsLast's loops keep: a memory, and the numbers that it should have, beside it. -/
import Derived.Test.YtlofgmcbanldnaaLaw13
import Derived.Test.YtlofgmcbanldnaaAccs
namespace Go.Proofs.Ytlofgmcbanldnaa
open Go.RowKit

/-- A memory's cells are at_, nt accesses were traced; the row at g has the numbers hv; all since w. -/
structure LInv (A : Nat → Prop) (w wr : World) (c : CRef) (g : Nat) (at_ hv : List Int) (nt : Nat) : Prop where
  ex : ∃ S, Cells wr c S A ∧ S.atomics = at_ ∧ S.trace.length = nt
  row : Blk wr g 32 (u64s hv)
  fresh : Fresh A wr
  below : Below w.heap.size w wr
  base : ∀ k, A k → w.heap.size ≤ k
  ng : ¬ A g
  gb : w.heap.size ≤ g

theorem LInv.only {A : Nat → Prop} {w wr w' : World} {c : CRef} {g : Nat} {at_ hv at' : List Int} {nt nt' : Nat} (h : LInv A w wr c g at_ hv nt) (hO : Only A wr w') (hC : ∃ S, Cells w' c S A ∧ S.atomics = at' ∧ S.trace.length = nt') : LInv A w w' c g at' hv nt' :=
  ⟨hC, h.row.keep (hO.block _ h.row.lt h.ng), h.fresh.only hO, h.below.trans (hO.below h.below.size (fun k hk hA => by have := h.base k hA; omega)), h.base, h.ng, h.gb⟩
theorem LInv.drewN {A : Nat → Prop} {w wr : World} {c : CRef} {g : Nat} {at_ hv : List Int} {nt : Nat} (h : LInv A w wr c g at_ hv nt) (k : Nat) : LInv A w (wr.drewN k) c g at_ hv nt :=
  h.only ((Only.refl A wr).drewN k) (let ⟨S, hC, h1, h2⟩ := h.ex; ⟨S, Cells.drewN hC k, h1, h2⟩)
theorem LInv.drew {A : Nat → Prop} {w wr : World} {c : CRef} {g : Nat} {at_ hv : List Int} {nt : Nat} (h : LInv A w wr c g at_ hv nt) : LInv A w wr.drew c g at_ hv nt :=
  h.only (Only.refl A wr).drew (let ⟨S, hC, h1, h2⟩ := h.ex; ⟨S, Cells.drew hC, h1, h2⟩)
theorem LInv.box {A : Nat → Prop} {w wr : World} {c : CRef} {g : Nat} {at_ hv : List Int} {nt : Nat} (h : LInv A w wr c g at_ hv nt) (o : Obj) : LInv (fun k => A k ∧ k ≠ wr.heap.size) w (wr.alloc o) c g at_ hv nt :=
  ⟨let ⟨S, hC, h1, h2⟩ := h.ex; ⟨S, (hC.sans (Nat.le_refl _)).alloc _, h1, h2⟩, h.row.alloc _, h.fresh.sans (by simp) (by simp), h.below.alloc h.below.size _, fun k hk => h.base k hk.1, fun hA => h.ng hA.1, h.gb⟩
theorem LInv.unbox {A : Nat → Prop} {w wr : World} {c : CRef} {g b : Nat} {at_ hv : List Int} {nt : Nat} (h : LInv (fun k => A k ∧ k ≠ b) w wr c g at_ hv nt) (hng : ¬ A g) (hb : ∀ k, A k → w.heap.size ≤ k) : LInv A w wr c g at_ hv nt :=
  ⟨let ⟨S, hC, h1, h2⟩ := h.ex; ⟨S, hC.mono fun _ _ hA => hA.1, h1, h2⟩, h.row, ⟨fun k hk => (h.fresh.new k hk).1⟩, h.below, hb, hng, h.gb⟩
/-- The row beside it has another number. -/
theorem LInv.set {A : Nat → Prop} {w wr : World} {c : CRef} {g : Nat} {at_ hv : List Int} {nt : Nat} (h : LInv A w wr c g at_ hv nt) (i : Nat) (x : Int) : LInv A w (wr.setCell ⟨g, i, none⟩ (.int .u64 x)) c g at_ (hv.set i x) nt :=
  ⟨let ⟨S, hC, h1, h2⟩ := h.ex; ⟨S, hC.keep ⟨fun k hA _ => Below.heap_setCell _ _ _ _ (fun e => h.ng (by have e' : k = g := e; exact e' ▸ hA))⟩, h1, h2⟩,
   by have := h.row.set i (.int .u64 x); simpa [u64s, List.map_set] using this, ⟨fun k hk => h.fresh.new k (by simpa using hk)⟩, h.below.setCell h.gb _, h.base, h.ng, h.gb⟩
theorem LInv.cell {A : Nat → Prop} {w wr : World} {c : CRef} {g : Nat} {at_ hv : List Int} {nt : Nat} (h : LInv A w wr c g at_ hv nt) (i : Nat) (hi : i < hv.length) : wr.cell? ⟨g, i, none⟩ = some (.int .u64 (hv.getD i 0)) :=
  h.row.cell i (by simp [u64s, List.getElem?_eq_getElem hi])

section
variable {A : Nat → Prop} {w wr : World} {c : CRef} {g : Nat} {at_ hv : List Int} {nt : Nat}
theorem linv_load (h : LInv A w wr c g at_ hv nt) (hn : nt < trMax) (task : Int) (i : Nat) (t0 : 0 ≤ task) (t1 : task < 64) (hi : i < at_.length) (x : Int) (hx : at_.getD i 0 = x) :
    Calls Try.prog 11 #[.pointer (some ⟨c.p, 0, none⟩), .int .i64 task, .int .i64 i] wr fun e w' => e = .returned (.tuple #[.int .u64 x, .int .i64 0]) ∧ LInv A w w' c g at_ hv (nt + 1) ∧ Only A wr w' := by
  obtain ⟨S, hC, h1, h2⟩ := h.ex
  refine (load_to hC h.fresh (by rw [h2]; exact hn) task i (by rw [h1]; exact decide_eq_true ⟨t0, t1, by omega, by omega⟩) x _ (by unfold Mem.at_; rw [h1]; exact hx) rfl).mono ?_
  rintro e w' ⟨rfl, hC', hO⟩
  exact ⟨rfl, h.only hO ⟨_, hC', h1, by simp [Mem.note, h2]⟩, hO⟩
theorem linv_store (h : LInv A w wr c g at_ hv nt) (hn : nt < trMax) (task : Int) (i : Nat) (x : Int) (t0 : 0 ≤ task) (t1 : task < 64) (hi : i < at_.length) :
    Calls Try.prog 13 #[.pointer (some ⟨c.p, 0, none⟩), .int .i64 task, .int .i64 i, .int .u64 x] wr fun e w' => e = .returned (.int .i64 0) ∧ LInv A w w' c g (at_.set i x) hv (nt + 1) ∧ Only A wr w' := by
  obtain ⟨S, hC, h1, h2⟩ := h.ex
  refine (store_ok hC h.fresh (by rw [h2]; exact hn) task i x (by rw [h1]; exact decide_eq_true ⟨t0, t1, by omega, by omega⟩)).mono ?_
  rintro e w' ⟨rfl, hC', hO⟩
  exact ⟨rfl, h.only hO ⟨_, hC', by simp [Mem.put, Mem.note, h1], by simp [Mem.put, Mem.note, h2]⟩, hO⟩
theorem linv_add (h : LInv A w wr c g at_ hv nt) (hn : nt < trMax) (task : Int) (i : Nat) (x : Int) (t0 : 0 ≤ task) (t1 : task < 64) (hi : i < at_.length) (y : Int) (hy : IntKind.u64.wrap (at_.getD i 0 + x) = y) :
    Calls Try.prog 15 #[.pointer (some ⟨c.p, 0, none⟩), .int .i64 task, .int .i64 i, .int .u64 x] wr fun e w' => e = .returned (.tuple #[.int .u64 y, .int .i64 0]) ∧ LInv A w w' c g (at_.set i y) hv (nt + 1) ∧ Only A wr w' := by
  obtain ⟨S, hC, h1, h2⟩ := h.ex
  refine (add_to hC h.fresh (by rw [h2]; exact hn) task i x (by rw [h1]; exact decide_eq_true ⟨t0, t1, by omega, by omega⟩) y _ (by unfold Mem.at_; rw [h1]; exact hy) rfl).mono ?_
  rintro e w' ⟨rfl, hC', hO⟩
  exact ⟨rfl, h.only hO ⟨_, hC', by simp [Mem.put, Mem.note, h1], by simp [Mem.put, Mem.note, h2]⟩, hO⟩
theorem linv_swap (h : LInv A w wr c g at_ hv nt) (hn : nt < trMax) (task : Int) (i : Nat) (was x : Int) (t0 : 0 ≤ task) (t1 : task < 64) (hi : i < at_.length) (he : at_.getD i 0 = was) :
    Calls Try.prog 14 #[.pointer (some ⟨c.p, 0, none⟩), .int .i64 task, .int .i64 i, .int .u64 was, .int .u64 x] wr fun e w' => e = .returned (.tuple #[.bool true, .int .i64 0]) ∧ LInv A w w' c g (at_.set i x) hv (nt + 1) ∧ Only A wr w' := by
  obtain ⟨S, hC, h1, h2⟩ := h.ex
  refine (swap_to hC h.fresh (by rw [h2]; exact hn) task i was x (by rw [h1]; exact decide_eq_true ⟨t0, t1, by omega, by omega⟩) true _ (by unfold Mem.at_; rw [h1]; simpa using he) rfl).mono ?_
  rintro e w' ⟨rfl, hC', hO⟩
  exact ⟨rfl, h.only hO ⟨_, hC', by simp [Mem.put, Mem.note, h1], by simp [Mem.put, Mem.note, h2]⟩, hO⟩
theorem linv_swap_no (h : LInv A w wr c g at_ hv nt) (hn : nt < trMax) (task : Int) (i : Nat) (was x : Int) (t0 : 0 ≤ task) (t1 : task < 64) (hi : i < at_.length) (he : at_.getD i 0 ≠ was) :
    Calls Try.prog 14 #[.pointer (some ⟨c.p, 0, none⟩), .int .i64 task, .int .i64 i, .int .u64 was, .int .u64 x] wr fun e w' => e = .returned (.tuple #[.bool false, .int .i64 0]) ∧ LInv A w w' c g at_ hv (nt + 1) ∧ Only A wr w' := by
  obtain ⟨S, hC, h1, h2⟩ := h.ex
  refine (swap_to hC h.fresh (by rw [h2]; exact hn) task i was x (by rw [h1]; exact decide_eq_true ⟨t0, t1, by omega, by omega⟩) false _ (by unfold Mem.at_; rw [h1]; simpa using he) rfl).mono ?_
  rintro e w' ⟨rfl, hC', hO⟩
  exact ⟨rfl, h.only hO ⟨_, hC', by simp [Mem.note, h1], by simp [Mem.note, h2]⟩, hO⟩
theorem linv_trace (h : LInv A w wr c g at_ hv nt) (hn : nt < trMax) :
    Calls Try.prog 16 #[.pointer (some ⟨c.p, 0, none⟩)] wr fun e w' => ∃ ao cap, e = .returned (.slice ao nt cap) ∧ LInv A w w' c g at_ hv nt ∧ Below wr.heap.size wr w' := by
  obtain ⟨S, hC, h1, h2⟩ := h.ex
  refine (trace_ok hC (by rw [h2]; exact hn)).mono ?_
  rintro e w' ⟨v, rfl, hr, hc, hb⟩
  rw [h2] at hr
  obtain ⟨ao, cap, rfl⟩ := hr.slice
  exact ⟨ao, cap, rfl, h.only (Only.of_below hb) ⟨S, hc.mono fun _ _ hk => hk.1, h1, h2⟩, hb⟩
end

end Go.Proofs.Ytlofgmcbanldnaa
