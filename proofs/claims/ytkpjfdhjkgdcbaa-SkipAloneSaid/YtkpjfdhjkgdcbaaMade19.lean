/- The law's own list, and entries. -/
import Derived.Test.YtkpjfdhjkgdcbaaSkPut

namespace Go.Proofs.Ytkpjfdhjkgdcbaa
open Go.RowKit

/-- The law's entry of a key, of a sequence. -/
def entS (key : ByteArray) (seq : Int) (val : ByteArray) : En := ⟨⟨key, seq, 1⟩, val⟩
set_option maxHeartbeats 1000000 in
theorem ent_any (w : World) (key val : ByteArray) (seq : Int) : Calls Try.prog 32 #[.string key, .int .u64 seq, .string val] w fun e w' => e = .returned (.agg (enC (entS key seq val)).toArray) ∧ Below w.heap.size w w' := by
  go_enter Try.func32, Try.ntmps32
  go_wp2
  have k1 := Blk.new w 38 (enC (entS key seq val))
  refine bodyPost_ret (results_cell_one (P := Try.prog) Try.results32 rfl (k1.loadRow _ Try.underlying38 rfl infoEn19)) rfl ⟨rfl, (Below.refl _ _).alloc (Nat.le_refl _) _⟩
/-- What the law's own list is. -/
structure MadeAt (w0 w : World) (k : SkRef) (c : CRef) (u : Int) (A : Nat → Prop) : Prop where
  first : k.first = 3
  plain : k.plain = 2
  units : k.units = u
  lx : Lx w k c (Mem.new (skA u + 5).toNat (skP u + 4).toNat) A
  new : ∀ j, A j → w0.heap.size ≤ j
  below : Below w0.heap.size w0 w
theorem Mem.new_short (n m : Nat) : (Mem.new n m).Short := ⟨fun b hb => by have := List.eq_of_mem_replicate hb; subst this; exact Nat.zero_le _⟩
set_option maxHeartbeats 1000000 in
theorem made_any (w : World) (units : Int) (h1 : 6 ≤ units) (h2 : units ≤ 90000) : Calls Try.prog 12 #[.int .u64 units] w fun e w' => ∃ k c A, e = .returned (.tuple #[.pointer (some ⟨k.lp, 0, none⟩), .pointer (some ⟨c.p, 0, none⟩), .bool true]) ∧ MadeAt w w' k c units A := by
  have hsz := size_yes w units h1 (by omega)
  obtain ⟨a, ha⟩ : ∃ a : Nat, skA units = a := ⟨(skA units).toNat, by unfold skA; omega⟩
  obtain ⟨p, hp⟩ : ∃ p : Nat, skP units = p := ⟨(skP units).toNat, by unfold skP; omega⟩
  have a1 : a ≤ 90008 ∧ p ≤ 30000 := by unfold skA at ha; unfold skP at hp; omega
  have hnew := new_ok w (a + 5) (p + 4) (by omega) (by omega)
  have hsk : ∀ (W : World) (c : CRef) (A : Nat → Prop), Cells W c (Mem.new (a + 5) (p + 4)) A → _ := fun W c A hC => sknew_ok hC 3 2 units h1 (by omega) (by omega) (by omega) (by rw [ha]; simp [Mem.new]; omega) (by rw [hp]; simp [Mem.new]; omega)
  rw [ha, hp] at hsz
  have e1 : ((a : Int) + 5) = ((a + 5 : Nat) : Int) := by omega
  have e2 : ((p : Int) + 4) = ((p + 4 : Nat) : Int) := by omega
  rw [← e1, ← e2] at hnew
  have HSZ := Lib.hid hsz
  have HNW := Lib.hid hnew
  clear hsz hnew e1 e2
  go_enter Try.func12, Try.ntmps12
  go_wp2_with (first | (go_at_call 21; refine HSZ.out.mono ?_; rintro e w' ⟨rfl, rfl⟩) | (go_at_call 33; refine HNW.out.mono ?_; rintro e w1 ⟨c, rfl, hC1, hB1⟩) | (go_at_call 34; refine (hsk w1 c _ hC1).mono ?_; rintro e w2 ⟨lp, aq, rfl, hS2, hlp, haq, hB2⟩))
  go_ret3
  have hB := hB1.trans (hB2.mono hB1.size)
  refine ⟨⟨lp, aq, 3, 2, units⟩, c, (fun j => w.heap.size ≤ j ∧ j ≠ lp ∧ j ≠ aq), rfl, ⟨rfl, rfl, rfl, ⟨hS2, ?_, ⟨fun j hj => ⟨Nat.le_trans hB.size hj, fun q => absurd hS2.list.lt (by subst q; exact Nat.not_lt.mpr hj), fun q => absurd hS2.arena.lt (by subst q; exact Nat.not_lt.mpr hj)⟩⟩, fun q => q.2.1 rfl, fun q => q.2.2 rfl, (show (0 : Int) ≤ 3 by decide), (show (0 : Int) ≤ 2 by decide), ?_, ?_, h1, by show units ≤ _; omega, Mem.new_short _ _⟩, fun j hj => hj.1, hB⟩⟩
  · have := Cells.older hC1 hB2
    rw [ha, hp, show ((a : Int) + 5).toNat = a + 5 by omega, show ((p : Int) + 4).toNat = p + 4 by omega]
    exact this.mono fun j _ hj => ⟨hj.1, fun q => absurd hlp (by rw [← q]; exact Nat.not_le.mpr hj.2), fun q => absurd haq (by rw [← q]; exact Nat.not_le.mpr hj.2)⟩
  · rw [ha, hp]
    simp only [Mem.new, List.length_replicate]
    unfold skA at ha
    show (3 : Int) + 8 + 6 * (units / 6) ≤ _
    omega
  · rw [ha, hp]
    simp only [Mem.new, List.length_replicate]
    unfold skP at hp
    show (2 : Int) + 2 * (units / 6) ≤ _
    omega
end Go.Proofs.Ytkpjfdhjkgdcbaa
