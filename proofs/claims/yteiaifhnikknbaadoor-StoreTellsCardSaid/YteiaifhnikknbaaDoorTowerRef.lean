/- The reference's heights and way: the walks. -/
import Derived.Test.YteiaifhnikknbaaDoorTz
import Derived.Test.YteiaifhnikknbaaDoorLowInts
namespace Go.Proofs.YteiaifhnikknbaaDoor
open Go.RowKit

set_option maxHeartbeats 1000000 in
theorem refHeight_low (w : World) (x m : Int) (h : m < 1) :
    Calls Tryd.prog 69 #[.int .u32 x, .int .i64 m] w fun e w' => e = .returned (.int .i64 0) ∧ w = w' := by
  go_enter Tryd.func69, Tryd.ntmps69
  go_wp2
  go_ret
  exact ⟨rfl, rfl⟩
set_option maxHeartbeats 1000000 in
theorem refHeight_zero (w : World) (m : Int) (h : 1 ≤ m) :
    Calls Tryd.prog 69 #[.int .u32 0, .int .i64 m] w fun e w' => e = .returned (.int .i64 m) ∧ w = w' := by
  go_enter Tryd.func69, Tryd.ntmps69
  go_wp2
  go_ret
  exact ⟨rfl, rfl⟩
set_option maxHeartbeats 1000000 in
theorem refHeight_some (w : World) (x : Nat) (hx : x < 4294967296) (h0 : x ≠ 0) (m : Int) (h : 1 ≤ m) (hm : m ≤ 9223372036854775807) :
    Calls Tryd.prog 69 #[.int .u32 x, .int .i64 m] w fun e w' => e = .returned (.int .i64 (if m < 1 + (v4 x : Int) then m else 1 + (v4 x : Int))) ∧ w = w' := by
  have hb : ((x : Int) == 0) = false := by simp; omega
  have hlt := v4_lt x h0 hx
  obtain ⟨v, hv⟩ : ∃ v, v4 x = v := ⟨_, rfl⟩
  rw [hv] at hlt
  rw [hv]
  have HV := Lib.hid hv
  clear hv
  have hcase : (if m < 1 + (v : Int) then m else 1 + (v : Int)) = if m < 1 + (v : Int) then m else (v : Int) + 1 := by split <;> omega
  rw [hcase]
  clear hcase
  rcases Int.lt_or_le m (1 + (v : Int)) with hmv | hmv
  all_goals first | rw [if_pos hmv] | rw [if_neg (by omega)]
  all_goals
   go_enter Tryd.func69, Tryd.ntmps69
   go_wp2
   go_loop [0, 5] (fun y h => ∃ n j : Nat, n ≠ 0 ∧ n ≤ x ∧ j + v4 n ≤ v ∧ v ≤ j + v4 n ∧ y = .int .u32 n ∧ h = .int .i64 ((j : Int) + 1)) (fun y _ => (intOf y).toNat)
   case atStart => exact ⟨x, 0, h0, Nat.le_refl _, by have := HV.out; omega, by have := HV.out; omega, rfl, rfl⟩
   case round =>
     obtain ⟨n, j, hn0, hnx, hj1, hj2, rfl, rfl⟩ := hrel
     by_cases h4 : n % 4 = 0
     · have e1 : (((n : Int) % 4) == 0) = true := by simp; omega
       have e2 := v4_four n hn0 (by omega) h4
       have e3 : ((n : Int) / 4) = ((n / 4 : Nat) : Int) := by omega
       have j1 : j < 16 := by omega
       have E2 := Lib.hid (show j + 1 + v4 (n / 4) ≤ v ∧ v ≤ j + 1 + v4 (n / 4) by omega)
       have E3 := Lib.hid e3
       have H4 := Lib.hid h4
       clear e2 e3 h4 hj1 hj2
       go_wp2
       go_round
       case rel => exact ⟨n / 4, j + 1, by have := H4.out; omega, by omega, E2.out.1, E2.out.2, by rw [E3.out], by go_num⟩
       case measure => simp [intOf]; omega
     · have e1 : (((n : Int) % 4) == 0) = false := by simp; omega
       have e2 := v4_not n hn0 (by omega) h4
       have ev : v = j := by omega
       subst ev
       clear h4 e2 hj1 hj2
       go_wp2
       go_ret
       exact ⟨rfl, rfl⟩

theorem refHeight_any (w : World) (x m : Int) (hx0 : 0 ≤ x) (hx : x < 4294967296) (hm : m ≤ 9223372036854775807) :
    Calls Tryd.prog 69 #[.int .u32 x, .int .i64 m] w fun e w' => e = .returned (.int .i64 (hgt x m)) ∧ w = w' := by
  rcases Int.lt_or_le m 1 with h | h
  · rw [hgt_low h]; exact refHeight_low w _ m h
  · by_cases h0 : x = 0
    · subst h0; rw [hgt_zero h]; exact refHeight_zero w m h
    · obtain ⟨n, rfl⟩ := Int.eq_ofNat_of_zero_le hx0
      have e : hgt (n : Int) m = if m < 1 + (v4 n : Int) then m else 1 + (v4 n : Int) := by
        unfold hgt; rw [if_neg (by omega), if_neg (by omega), Int.toNat_natCast]
      rw [e]
      exact refHeight_some w n (by omega) (by omega) m h hm

end Go.Proofs.YteiaifhnikknbaaDoor
