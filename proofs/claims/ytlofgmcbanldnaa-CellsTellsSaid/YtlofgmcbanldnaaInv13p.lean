/- What CellsPlain's loops keep: a memory's places, and the texts that they should have, beside it. -/
import Derived.Test.YtlofgmcbanldnaaLaw13
import Derived.Test.YtlofgmcbanldnaaAccs
import Derived.Test.YtlofgmcbanldnaaAppR
namespace Go.Proofs.Ytlofgmcbanldnaa
open Go.RowKit

def strs (l : List (List UInt8)) : List Value := l.map fun b => Value.string ⟨b.toArray⟩

/-- A memory's places are P, nt accesses were traced; the row at g has the texts hv; all since w. -/
structure PInv (A : Nat → Prop) (w wr : World) (c : CRef) (g : Nat) (P hv : List (List UInt8)) (nt : Nat) : Prop where
  ex : ∃ S, Cells wr c S A ∧ S.plains = P ∧ S.trace.length = nt ∧ S.atomics = []
  row : Blk wr g 9 (strs hv)
  fresh : Fresh A wr
  below : Below w.heap.size w wr
  base : ∀ k, A k → w.heap.size ≤ k
  ng : ¬ A g
  gb : w.heap.size ≤ g
  short : ∀ b ∈ P, b.length ≤ 50

section
variable {A : Nat → Prop} {w wr w' : World} {c : CRef} {g : Nat} {P hv : List (List UInt8)} {nt : Nat}
theorem PInv.only {P' : List (List UInt8)} {nt' : Nat} (h : PInv A w wr c g P hv nt) (hO : Only A wr w') (hC : ∃ S, Cells w' c S A ∧ S.plains = P' ∧ S.trace.length = nt' ∧ S.atomics = []) (hs : ∀ b ∈ P', b.length ≤ 50) : PInv A w w' c g P' hv nt' :=
  ⟨hC, h.row.keep (hO.block _ h.row.lt h.ng), h.fresh.only hO, h.below.trans (hO.below h.below.size (fun k hk hA => by have := h.base k hA; omega)), h.base, h.ng, h.gb, hs⟩
/-- A block is nobody's. -/
theorem PInv.sans (h : PInv A w wr c g P hv nt) {b : Nat} (hb : wr.heap.size ≤ b) (o : Obj) (ho : b = wr.heap.size) : PInv (fun k => A k ∧ k ≠ b) w (wr.alloc o) c g P hv nt := by
  subst ho
  exact ⟨let ⟨S, hC, h1⟩ := h.ex; ⟨S, (hC.sans (Nat.le_refl _)).alloc _, h1⟩, h.row.alloc _, h.fresh.sans (by simp) (by simp), h.below.alloc h.below.size _, fun k hk => h.base k hk.1, fun hA => h.ng hA.1, h.gb, h.short⟩
theorem PInv.unbox {b : Nat} (h : PInv (fun k => A k ∧ k ≠ b) w wr c g P hv nt) (hng : ¬ A g) (hb : ∀ k, A k → w.heap.size ≤ k) : PInv A w wr c g P hv nt :=
  ⟨let ⟨S, hC, h1⟩ := h.ex; ⟨S, hC.mono fun _ _ hA => hA.1, h1⟩, h.row, ⟨fun k hk => (h.fresh.new k hk).1⟩, h.below, hb, hng, h.gb, h.short⟩
/-- A cell that is nobody's is stored. -/
theorem PInv.poke (h : PInv A w wr c g P hv nt) {a : Addr} (hA : ¬ A a.block) (hg : a.block ≠ g) (hw : w.heap.size ≤ a.block) (u : Value) : PInv A w (wr.setCell a u) c g P hv nt :=
  ⟨let ⟨S, hC, h1⟩ := h.ex; ⟨S, hC.keep (Same.setCell hA u), h1⟩, h.row.set_other (fun e => hg e.symm) u, ⟨fun k hk => h.fresh.new k (by simpa using hk)⟩, h.below.setCell hw u, h.base, h.ng, h.gb, h.short⟩
/-- The row beside it has another text. -/
theorem PInv.set (h : PInv A w wr c g P hv nt) (i : Nat) (b : List UInt8) : PInv A w (wr.setCell ⟨g, i, none⟩ (.string ⟨b.toArray⟩)) c g P (hv.set i b) nt :=
  ⟨let ⟨S, hC, h1⟩ := h.ex; ⟨S, hC.keep (Same.setCell h.ng _), h1⟩, by have := h.row.set i (.string ⟨b.toArray⟩); simpa [strs, List.map_set] using this, ⟨fun k hk => h.fresh.new k (by simpa using hk)⟩, h.below.setCell h.gb _, h.base, h.ng, h.gb, h.short⟩
theorem PInv.cell (h : PInv A w wr c g P hv nt) (i : Nat) (hi : i < hv.length) : wr.cell? ⟨g, i, none⟩ = some (.string ⟨(hv.getD i []).toArray⟩) ∧ wr.frozen? ⟨g, i, none⟩ = false :=
  ⟨h.row.cell i (by simp [strs, List.getElem?_eq_getElem hi]), h.row.frozen i⟩

theorem pinv_write (h : PInv A w wr c g P hv nt) (hn : nt < trMax) (task : Int) (i : Nat) (t0 : 0 ≤ task) (t1 : task < 64) (hi : i < P.length) (vb : Value) (b : List UInt8) (n : Nat) (hb : b.length = n) (hbn : n ≤ 50) (hR : Reads wr 1 vb n (u8s b)) (hd : ∀ k, vb.ownBlock = some k → ¬ A k) :
    Calls Try.prog 9 #[.pointer (some ⟨c.p, 0, none⟩), .int .i64 task, .int .i64 i, vb] wr fun e w' => e = .returned (.int .i64 0) ∧ PInv A w w' c g (P.set i b) hv (nt + 1) ∧ Only A wr w' := by
  obtain ⟨S, hC, h1, h2, h3⟩ := h.ex
  refine (write_to hC h.fresh (by rw [h2]; exact hn) task i (by rw [h1]; exact decide_eq_true ⟨t0, t1, by omega, by omega⟩) vb b n hb hR hd (by omega) _ rfl).mono ?_
  rintro e w' ⟨rfl, hC', hO⟩
  refine ⟨rfl, h.only hO ⟨_, hC', by simp [Mem.lay, Mem.note, h1], by simp [Mem.lay, Mem.note, h2], by simp [Mem.lay, Mem.note, h3]⟩ ?_, hO⟩
  intro b' hb'
  rcases List.mem_or_eq_of_mem_set hb' with h' | h'
  · exact h.short b' h'
  · subst h'; omega
/-- What a Read leaves: a row that is nobody's. -/
theorem pinv_read (h : PInv A w wr c g P hv nt) (hn : nt < trMax) (task : Int) (i : Nat) (t0 : 0 ≤ task) (t1 : task < 64) (hi : i < P.length) :
    Calls Try.prog 10 #[.pointer (some ⟨c.p, 0, none⟩), .int .i64 task, .int .i64 i] wr fun e w' => ∃ v, e = .returned (.tuple #[v, .int .i64 0]) ∧
      Row w' 5 1 v (P.getD i []).length (u8s (P.getD i [])) (fun k => wr.heap.size ≤ k) ∧ (∃ A', PInv A' w w' c g P hv (nt + 1) ∧ (∀ k, v.ownBlock = some k → ¬ A' k) ∧ (∀ k, A' k → A k)) ∧ Only A wr w' := by
  obtain ⟨S, hC, h1, h2, h3⟩ := h.ex
  refine (read_ok hC h.fresh (by rw [h2]; exact hn) ⟨?_⟩ task i (by rw [h1]; exact decide_eq_true ⟨t0, t1, by omega, by omega⟩)).mono ?_
  · intro b hb; rw [h1] at hb; have := h.short b hb; omega
  · rintro e w' ⟨v, rfl, hP⟩
    obtain ⟨hr, hc, hO⟩ := hP
    have hpl : S.place i = P.getD i [] := by unfold Mem.place; rw [h1]; rfl
    rw [hpl] at hr
    refine ⟨v, rfl, hr, ⟨(fun k => A k ∧ v.ownBlock ≠ some k), ?_, fun k hk hA => hA.2 hk, fun k hk => hk.1⟩, hO⟩
    refine ⟨⟨_, hc, by simp [Mem.note, h1], by simp [Mem.note, h2], by simp [Mem.note, h3]⟩, h.row.keep (hO.block _ h.row.lt h.ng), ⟨fun k hk => ⟨h.fresh.new k (Nat.le_trans hO.size hk), fun e => by have := hr.lt e; omega⟩⟩, h.below.trans (hO.below h.below.size (fun k hk hA => by have := h.base k hA; omega)), fun k hk => h.base k hk.1, fun hA => h.ng hA.1, h.gb, h.short⟩
/-- More blocks may be the memory's. -/
theorem PInv.mono {B : Nat → Prop} (h : PInv A w wr c g P hv nt) (hAB : ∀ k, A k → B k) (hng : ¬ B g) (hb : ∀ k, B k → w.heap.size ≤ k) : PInv B w wr c g P hv nt :=
  ⟨let ⟨S, hC, h1⟩ := h.ex; ⟨S, hC.mono fun k _ hA => hAB k hA, h1⟩, h.row, ⟨fun k hk => hAB k (h.fresh.new k hk)⟩, h.below, hb, hng, h.gb, h.short⟩
theorem pinv_load (h : PInv A w wr c g P hv nt) :
    Calls Try.prog 11 #[.pointer (some ⟨c.p, 0, none⟩), .int .i64 0, .int .i64 0] wr fun e w' => e = .returned (.tuple #[.int .u64 0, .int .i64 2]) ∧ wr = w' := by
  obtain ⟨S, hC, h1, h2, h3⟩ := h.ex
  exact load_no hC 0 0 (by rw [h3]; rfl)
/-- A row that was made since is nobody's. -/
theorem PInv.aside (h : PInv A w wr c g P hv nt) (hb : Below wr.heap.size wr w') (v : Value) (hv' : ∀ k, v.ownBlock = some k → wr.heap.size ≤ k ∧ k < w'.heap.size) : PInv (fun k => A k ∧ v.ownBlock ≠ some k) w w' c g P hv nt := by
  obtain ⟨S, hC, h1⟩ := h.ex
  refine ⟨⟨S, (hC.older hb).mono fun k _ hk => ⟨hk.1, fun e => by have := (hv' k e).1; omega⟩, h1⟩, h.row.keep (hb.block _ h.row.lt), ⟨fun k hk => ⟨h.fresh.new k (Nat.le_trans hb.size hk), fun e => by have := (hv' k e).2; omega⟩⟩, h.below.trans (hb.mono h.below.size), fun k hk => h.base k hk.1, fun hA => h.ng hA.1, h.gb, h.short⟩
theorem PInv.drewN (h : PInv A w wr c g P hv nt) (k : Nat) : PInv A w (wr.drewN k) c g P hv nt :=
  h.only ((Only.refl A wr).drewN k) (let ⟨S, hC, h1⟩ := h.ex; ⟨S, Cells.drewN hC k, h1⟩) h.short
end
/-- Bytes, as cells. -/
def AllU8 (xs : List Value) : Prop := ∀ u ∈ xs, ∃ x : Int, u = .int .u8 x ∧ 0 ≤ x ∧ x < 256
theorem allU8 (b : List UInt8) : AllU8 (u8s b) := by
  intro u hu
  simp only [u8s, List.mem_map] at hu
  obtain ⟨c, _, rfl⟩ := hu
  have := c.toNat_lt
  exact ⟨_, rfl, by omega, by omega⟩
theorem AllU8.set {xs : List Value} (h : AllU8 xs) (i : Nat) (x : Int) (h0 : 0 ≤ x) (h1 : x < 256) : AllU8 (xs.set i (.int .u8 x)) := by
  intro u hu
  rcases List.mem_or_eq_of_mem_set hu with h' | h'
  · exact h u h'
  · exact ⟨x, h', h0, h1⟩
theorem Row.u8At {w : World} {ao : Option Addr} {n cp : Nat} {xs : List Value} {B : Nat → Prop} (h : Row w 5 1 (.slice ao n cp) n xs B) (hx : AllU8 xs) (k : Nat) (hk : k < n) :
    ∃ g x, ao = some ⟨g, 0, none⟩ ∧ w.cell? ⟨g, k, none⟩ = some (.int .u8 x) ∧ w.frozen? ⟨g, k, none⟩ = false ∧ 0 ≤ x ∧ x < 256 ∧ B g := by
  have hl := h.owns.1
  rcases h.form with ⟨e, h0⟩ | ⟨g, cap, e, hB, _, _⟩
  · omega
  · cases e
    have hk' : k < xs.length := by omega
    obtain ⟨x, hu, h0, h1⟩ := hx xs[k] (List.getElem_mem hk')
    obtain ⟨c1, c2⟩ := h.at_ k _ (List.getElem?_eq_getElem hk')
    rw [hu] at c1
    exact ⟨g, x, rfl, c1, c2, h0, h1, hB⟩
end Go.Proofs.Ytlofgmcbanldnaa
