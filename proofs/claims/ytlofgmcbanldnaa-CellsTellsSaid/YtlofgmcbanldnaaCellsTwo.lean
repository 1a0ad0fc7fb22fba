/- A memory and the reference's state of it, side by side; beside them blocks of the law's own. -/
import Derived.Test.YtlofgmcbanldnaaRef13b
import Derived.Test.YtlofgmcbanldnaaLaw13
import Derived.Test.YtlofgmcbanldnaaNoteNo
import Derived.Test.YtlofgmcbanldnaaOpen13b
import Derived.Test.YtlofgmcbanldnaaInv13p
namespace Go.Proofs.Ytlofgmcbanldnaa
open Go.RowKit

structure TwoAt (A X : Nat → Prop) (sa sp st : Value) (pls : List Value) (w0 w : World) (c : CRef) (S : Mem) (bs : Nat) (S0 : Mem) : Prop where
  mem : Cells w c S A
  base : ∀ k, A k → w0.heap.size ≤ k
  fresh : Fresh A w
  blk : Blk w bs 55 [sa, sp, st]
  r : R13 w sa sp st pls S0 (fun k => ¬ A k ∧ ¬ X k)
  nb : ¬ A bs
  nx : ¬ X bs
  dx : ∀ k, X k → ¬ A k ∧ w0.heap.size ≤ k
  lx : ∀ k, X k → k < w.heap.size
  gb : w0.heap.size ≤ bs
  below : Below w0.heap.size w0 w

variable {A X : Nat → Prop} {sa sp st : Value} {pls : List Value} {w0 w w' : World} {c : CRef} {S S' S0 S1 : Mem} {bs : Nat}
theorem TwoAt.only (h : TwoAt A X sa sp st pls w0 w c S bs S0) (hO : Only A w w') (hL : Cells w' c S' A) : TwoAt A X sa sp st pls w0 w' c S' bs S0 :=
  ⟨hL, h.base, h.fresh.only hO, h.blk.keep (hO.block _ h.blk.lt h.nb), h.r.keep (fun k hk hl => hO.block _ hl hk.1), h.nb, h.nx, h.dx, fun k hk => Nat.lt_of_lt_of_le (h.lx k hk) hO.size, h.gb, h.below.trans (hO.below h.below.size (fun k hk hA => by have := h.base k hA; omega))⟩
theorem TwoAt.under (h : TwoAt A X sa sp st pls w0 w c S bs S0) (hb : Below w.heap.size w w') : TwoAt A X sa sp st pls w0 w' c S bs S0 :=
  h.only (Only.of_below hb) (h.mem.keep (Same.of_below _ hb))
/-- What was made since is the reference's. -/
theorem TwoAt.aside (h : TwoAt A X sa sp st pls w0 w c S bs S0) (hb : Below w.heap.size w w') : TwoAt (fun k => A k ∧ ¬ (w.heap.size ≤ k ∧ k < w'.heap.size)) X sa sp st pls w0 w' c S bs S0 := by
  have h1 := h.under hb
  refine ⟨?_, fun k hk => h.base k hk.1, ⟨fun k hk => ⟨h.fresh.new k (Nat.le_trans hb.size hk), by omega⟩⟩, h1.blk, h1.r.wider fun k hk => ⟨fun hA => hk.1 hA.1, hk.2⟩, fun hA => h.nb hA.1, h.nx, fun k hk => ⟨fun hA => (h.dx k hk).1 hA.1, (h.dx k hk).2⟩, h1.lx, h.gb, h1.below⟩
  exact (h.mem.mono (B := fun k => A k ∧ ¬ (w.heap.size ≤ k ∧ k < w'.heap.size)) fun k hk hA => ⟨hA, by omega⟩).keep (Same.of_below _ hb)
/-- What was made since is the law's own. -/
theorem TwoAt.mine (h : TwoAt A X sa sp st pls w0 w c S bs S0) (hb : Below w.heap.size w w') : TwoAt (fun k => A k ∧ ¬ (w.heap.size ≤ k ∧ k < w'.heap.size)) (fun k => X k ∨ (w.heap.size ≤ k ∧ k < w'.heap.size)) sa sp st pls w0 w' c S bs S0 := by
  have h1 := h.aside hb
  refine ⟨h1.mem, h1.base, h1.fresh, h1.blk, ?_, h1.nb, ?_, ?_, fun k hk => hk.elim (fun h3 => h1.lx k h3) (fun h3 => h3.2), h.gb, h1.below⟩
  · refine R13.below (R13.mono h.r fun k hk h2 => ⟨fun hA => h2.1 hA.1, ?_⟩) hb
    rintro (h3 | h3)
    · exact h2.2 h3
    · omega
  · rintro (h3 | h3)
    · exact h.nx h3
    · have := h.blk.lt; omega
  · rintro k (h3 | h3)
    · exact h1.dx k h3
    · exact ⟨fun hA => hA.2 h3, Nat.le_trans h.below.size h3.1⟩
theorem TwoAt.own (h : TwoAt A X sa sp st pls w0 w c S bs S0) (hO : Only A w w') {v : Value} (hC : Cells w' c S' (fun k => A k ∧ v.ownBlock ≠ some k)) (hv : ∀ k, v.ownBlock = some k → w.heap.size ≤ k ∧ k < w'.heap.size) : TwoAt (fun k => A k ∧ v.ownBlock ≠ some k) (fun k => X k ∨ v.ownBlock = some k) sa sp st pls w0 w' c S' bs S0 := by
  have h1 := h.only hO (hC.mono fun k _ hk => hk.1)
  refine ⟨hC, fun k hk => h.base k hk.1, ⟨fun k hk => ⟨h1.fresh.new k hk, fun e => by have := (hv k e).2; omega⟩⟩, h1.blk, ?_, fun hA => h.nb hA.1, ?_, ?_, fun k hk => hk.elim (fun h3 => h1.lx k h3) (fun h3 => (hv k h3).2), h.gb, h1.below⟩
  · refine (h.r.mono (H' := fun k => ¬ (A k ∧ v.ownBlock ≠ some k) ∧ ¬ (X k ∨ v.ownBlock = some k)) fun k hk h2 => ⟨fun hA => h2.1 hA.1, ?_⟩).keep fun k hk hl => hO.block k hl (fun hA => hk.1 ⟨hA, fun e => hk.2 (.inr e)⟩)
    rintro (h3 | h3)
    · exact h2.2 h3
    · have := (hv k h3).1; omega
  · rintro (h3 | h3)
    · exact h.nx h3
    · have := h.blk.lt; have := (hv _ h3).1; omega
  · rintro k (h3 | h3)
    · exact ⟨fun hA => (h.dx k h3).1 hA.1, (h.dx k h3).2⟩
    · exact ⟨fun hA => hA.2 h3, Nat.le_trans h.below.size (hv k h3).1⟩
theorem TwoAt.poke (h : TwoAt A X sa sp st pls w0 w c S bs S0) {p : Addr} (hp : X p.block) (u : Value) : TwoAt A X sa sp st pls w0 (w.setCell p u) c S bs S0 := by
  have hne : ∀ k, ¬ X k → (w.setCell p u).heap[k]? = w.heap[k]? := fun k hk => Below.heap_setCell _ _ _ _ (fun e => hk (e ▸ hp))
  exact ⟨h.mem.keep ⟨fun k hk _ => hne k (fun hX => (h.dx k hX).1 hk)⟩, h.base, ⟨fun k hk => h.fresh.new k (by simpa using hk)⟩, h.blk.keep (hne _ h.nx), h.r.keep fun k hk _ => hne k hk.2, h.nb, h.nx, h.dx, fun k hk => by simpa using h.lx k hk, h.gb, h.below.setCell (h.dx _ hp).2 _⟩
theorem TwoAt.forget (h : TwoAt A X sa sp st pls w0 w c S bs S0) : TwoAt A (fun _ => False) sa sp st pls w0 w c S bs S0 :=
  ⟨h.mem, h.base, h.fresh, h.blk, h.r.wider fun k hk => ⟨hk.1, fun h => h⟩, h.nb, fun h => h, fun k h => h.elim, fun k h => h.elim, h.gb, h.below⟩
theorem TwoAt.stored (h : TwoAt A X sa sp st pls w0 w c S bs S0) {sa' sp' st' : Value} {pls' : List Value} (hR : R13 w sa' sp' st' pls' S1 (fun k => ¬ A k ∧ ¬ X k)) : TwoAt A X sa' sp' st' pls' w0 (w.setRow bs #[sa', sp', st']) c S bs S1 :=
  ⟨h.mem.keep ⟨fun k hk _ => heap_setRow_other _ _ _ (fun e => h.nb (e ▸ hk))⟩, h.base, ⟨fun k hk => h.fresh.new k (by rw [setRow_size] at hk; exact hk)⟩, h.blk.setRow _, hR.setRow h.blk _, h.nb, h.nx, h.dx, fun k hk => by rw [setRow_size]; exact h.lx k hk, h.gb, below_setRow h.below h.gb _⟩
/-- Behind a call of the reference. -/
structure Aft (A X : Nat → Prop) (w0 w w' : World) (c : CRef) (S : Mem) (bs : Nat) (S1 : Mem) (sa' sp' st' : Value) : Prop where
  two : ∃ A' pls', TwoAt A' X sa' sp' st' pls' w0 (w'.setRow bs #[sa', sp', st']) c S bs S1
  old : ∃ x y z, Blk w' bs 55 [x, y, z]
  ones : ∀ u ∈ [sa', sp', st'], u.oneCell' = true
  bl : Below w.heap.size w w'
theorem TwoAt.aft (h : TwoAt A X sa sp st pls w0 w c S bs S0) (hb : Below w.heap.size w w') {sa' sp' st' : Value} {pls' : List Value} (hR : R13 w' sa' sp' st' pls' S1 (fun k => (¬ A k ∧ ¬ X k) ∨ w.heap.size ≤ k)) : Aft A X w0 w w' c S bs S1 sa' sp' st' := by
  have h1 := h.aside hb
  refine ⟨⟨_, pls', h1.stored (S1 := S1) (hR.mono fun k hk h2 => ⟨fun hA => ?_, fun hX => ?_⟩)⟩, ⟨_, _, _, h1.blk⟩, hR.ones, hb⟩
  · rcases h2 with h2 | h2
    · exact h2.1 hA.1
    · exact hA.2 ⟨h2, hk⟩
  · rcases h2 with h2 | h2
    · exact h2.2 hX
    · have := h.lx k hX; omega

/-- What the law's memory is, besides. -/
structure Fit13 (S : Mem) (na np k : Nat) : Prop where
  at_ : S.atomics.length = na
  pl : S.plains.length = np
  short : S.Short
  tr : S.trace.length ≤ k
theorem Fit13.note {na np k : Nat} (h : Fit13 S na np k) (a : Acc) : Fit13 (S.note a) na np (k + 1) := ⟨h.at_, h.pl, h.short.note a, by have := h.tr; simp [Mem.note]; omega⟩
theorem Fit13.put {na np k : Nat} (h : Fit13 S na np k) (i x : Int) : Fit13 (S.put i x) na np k := ⟨by simpa [Mem.put] using h.at_, h.pl, h.short.put i x, h.tr⟩
theorem Fit13.lay {na np k : Nat} (h : Fit13 S na np k) (i : Int) {b : List UInt8} (hb : b.length ≤ 4000000000) : Fit13 (S.lay i b) na np k := ⟨h.at_, by simpa [Mem.lay] using h.pl, h.short.lay i hb, h.tr⟩
theorem Fit13.up {na np k : Nat} (h : Fit13 S na np k) : Fit13 S na np (k + 1) := ⟨h.at_, h.pl, h.short, by have := h.tr; omega⟩
end Go.Proofs.Ytlofgmcbanldnaa
