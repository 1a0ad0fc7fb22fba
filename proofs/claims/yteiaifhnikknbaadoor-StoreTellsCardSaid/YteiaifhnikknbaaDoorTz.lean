/- math/bits.TrailingZeros32, and a number's height: the walks. -/
import Derived.Test.YteiaifhnikknbaaDoorBase
import Derived.Test.YteiaifhnikknbaaDoorTowerPlain
import Derived.Test.YteiaifhnikknbaaDoorProg
import Derived.Laws.Bits64b
namespace Go.Proofs.YteiaifhnikknbaaDoor
open Go.RowKit

/-- The table of the library's lies in its variable. -/
structure Tab (w : World) : Prop where
  at_ : ∀ j, j < 32 → w.cell? ⟨0, j, none⟩ = some (.int .u8 (Lib.deBruijn32tab.getD j 0 : Nat))
theorem Tab.lt {w : World} (h : Tab w) : 0 < w.heap.size := World.block_lt_of_cell? w _ (h.at_ 0 (by decide))
theorem Tab.below {w w' : World} {B : Nat} (h : Tab w) (hb : Below B w w') (hB : 0 < B) : Tab w' := ⟨fun j hj => (hb.cell hB).trans (h.at_ j hj)⟩
theorem Tab.later {w w' : World} (h : Tab w) (hb : Below w.heap.size w w') : Tab w' := h.below hb h.lt

theorem wrap_u32'' (n : Int) : IntKind.u32.wrap n = n % 4294967296 := by simp [IntKind.wrap, IntKind.signed, IntKind.bits]
theorem bits_and_u32_nat' (a b : Nat) (ha : a < 4294967296) (hb : b < 4294967296) : bits .and .u32 (a : Int) (b : Int) = ((a &&& b : Nat) : Int) := by
  have hx : a &&& b < 2 ^ 32 := Nat.and_lt_two_pow _ (by omega)
  have h1 : (BitVec.ofInt 32 (a : Int)).toNat = a := by
    rw [BitVec.ofInt_natCast, BitVec.toNat_ofNat]; exact Nat.mod_eq_of_lt (by omega)
  have h2 : (BitVec.ofInt 32 (b : Int)).toNat = b := by
    rw [BitVec.ofInt_natCast, BitVec.toNat_ofNat]; exact Nat.mod_eq_of_lt (by omega)
  show IntKind.u32.wrap ((BitVec.ofInt 32 (a : Int) &&& BitVec.ofInt 32 (b : Int)).toNat : Int) = _
  rw [BitVec.toNat_and, h1, h2, wrap_u32'']
  omega
theorem tz32_key (x a : Nat) (hx : x < 4294967296) (hx0 : x ≠ 0) (hlow : x &&& (4294967296 - x) = a) :
    bits BinOp.and IntKind.u32 (x : Int) (-(x : Int) % 4294967296) * 125613361 % 4294967296 / 134217728 = ((a * 125613361 % 4294967296 / 134217728 : Nat) : Int) := by
  have e1 : -(x : Int) % 4294967296 = ((4294967296 - x : Nat) : Int) := by omega
  rw [e1, bits_and_u32_nat' x _ hx (by omega), hlow]
  omega

set_option maxHeartbeats 1000000 in
theorem tz32_core (x k idx : Nat) (w : World) (hx0 : ((x : Int) == 0) = false)
    (key : bits BinOp.and IntKind.u32 (x : Int) (-(x : Int) % 4294967296) * 125613361 % 4294967296 / 134217728 = (idx : Int))
    (hi : idx < 32) (hk : k < 32) (hcell : w.cell? ⟨0, idx, none⟩ = some (.int .u8 k)) :
    Calls Tryd.prog 82 #[.int .u32 x] w fun e w' => e = .returned (.int .i64 k) ∧ w = w' := by
  go_enter Tryd.func82, Tryd.ntmps82
  go_wp2_with (simp only [key])
  go_ret
  exact ⟨rfl, rfl⟩

theorem tz32 (x : Nat) (hx : x < 4294967296) (h0 : x ≠ 0) (w : World) (hT : Tab w) :
    Calls Tryd.prog 82 #[.int .u32 x] w fun e w' => e = .returned (.int .i64 (Lib.ctz 32 x : Nat)) ∧ w = w' := by
  obtain ⟨hlow, hk⟩ := Lib.lowest_bit 32 x h0 hx
  obtain ⟨hi, htab⟩ := Lib.deBruijn32_at _ hk
  have hcell := hT.at_ _ hi
  rw [htab] at hcell
  exact tz32_core x _ _ w (by simp; omega) (tz32_key x _ hx h0 hlow) hi hk hcell

set_option maxHeartbeats 1000000 in
theorem height_low (w : World) (x m : Int) (h : m < 1) :
    Calls Tryd.prog 68 #[.int .u32 x, .int .i64 m] w fun e w' => e = .returned (.int .i64 0) ∧ w = w' := by
  go_enter Tryd.func68, Tryd.ntmps68
  go_wp2
  go_ret
  exact ⟨rfl, rfl⟩
set_option maxHeartbeats 1000000 in
theorem height_zero (w : World) (m : Int) (h : 1 ≤ m) :
    Calls Tryd.prog 68 #[.int .u32 0, .int .i64 m] w fun e w' => e = .returned (.int .i64 m) ∧ w = w' := by
  go_enter Tryd.func68, Tryd.ntmps68
  go_wp2
  go_ret
  exact ⟨rfl, rfl⟩
set_option maxHeartbeats 1000000 in
theorem height_some (w : World) (hT : Tab w) (x : Nat) (hx : x < 4294967296) (h0 : x ≠ 0) (m : Int) (h : 1 ≤ m) (hm : m ≤ 9223372036854775807) :
    Calls Tryd.prog 68 #[.int .u32 x, .int .i64 m] w fun e w' => e = .returned (.int .i64 (if m < 1 + (v4 x : Int) then m else 1 + (v4 x : Int))) ∧ w = w' := by
  have hb : ((x : Int) == 0) = false := by simp; omega
  obtain ⟨c, hc⟩ : ∃ c, Lib.ctz 32 x = c := ⟨_, rfl⟩
  have hc32 : c < 32 := by obtain ⟨_, _, h1⟩ := ctz_spec x h0 hx; omega
  have hcall := tz32 x hx h0 w hT
  have hv : v4 x = c / 2 := by unfold v4; rw [hc]
  rw [hc] at hcall
  rw [hv]
  have HC := Lib.hid hcall
  clear hcall hc hv
  go_enter Tryd.func68, Tryd.ntmps68
  go_wp2_with (go_at_call 82; refine HC.out.mono ?_; rintro e w' ⟨rfl, rfl⟩)
  all_goals go_ret
  all_goals first | exact ⟨rfl, rfl⟩ | (refine ⟨?_, rfl⟩; congr 2; first | omega | (split <;> omega))

theorem height_any (w : World) (hT : Tab w) (x m : Int) (hx0 : 0 ≤ x) (hx : x < 4294967296) (hm : m ≤ 9223372036854775807) :
    Calls Tryd.prog 68 #[.int .u32 x, .int .i64 m] w fun e w' => e = .returned (.int .i64 (hgt x m)) ∧ w = w' := by
  rcases Int.lt_or_le m 1 with h | h
  · rw [hgt_low h]; exact height_low w _ m h
  · by_cases h0 : x = 0
    · subst h0; rw [hgt_zero h]; exact height_zero w m h
    · obtain ⟨n, rfl⟩ := Int.eq_ofNat_of_zero_le hx0
      have e : hgt (n : Int) m = if m < 1 + (v4 n : Int) then m else 1 + (v4 n : Int) := by
        unfold hgt; rw [if_neg (by omega), if_neg (by omega), Int.toNat_natCast]
      rw [e]
      exact height_some w hT n (by omega) (by omega) m h hm

end Go.Proofs.YteiaifhnikknbaaDoor
