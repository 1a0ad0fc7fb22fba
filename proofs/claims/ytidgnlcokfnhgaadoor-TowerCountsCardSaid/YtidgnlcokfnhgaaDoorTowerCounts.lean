/- The walk over law 18's TowerCounts. -/
import Derived.Test.YtidgnlcokfnhgaaDoorLaw18
import Derived.Test.YtidgnlcokfnhgaaDoorTowerCnt
namespace Go.Proofs.YtidgnlcokfnhgaaDoor
open Go.RowKit

/-- The counts, beside one another. -/
def hav (f m n : Nat) : List Int := (List.range 14).map fun (h : Nat) => ((cnt f m (h : Int) n : Nat) : Int)
theorem hav_zero (f m : Nat) : hav f m 0 = List.replicate 14 0 := by simp [hav, cnt]; rfl
theorem hav_get (f m n h : Nat) (hh : h < 14) : (hav f m n).getD h 0 = ((cnt f m h n : Nat) : Int) := by simp [hav, hh]
theorem hav_succ (f m n h : Nat) (hh : h < 14) (e : hgt ((f + n : Nat) : Int) m = h) : hav f m (n + 1) = (hav f m n).set h (((cnt f m h n : Nat) : Int) + 1) := by
  apply List.ext_getElem
  · simp [hav]
  · intro i h1 h2
    rw [List.getElem_set]
    simp only [hav, List.getElem_map, List.getElem_range, cnt]
    by_cases e2 : h = i
    · subst e2; rw [if_pos e, if_pos rfl]; simp
    · rw [if_neg (fun e3 => e2 (by rw [e] at e3; omega)), if_neg e2]; simp
theorem ints_set (l : List Int) (i : Nat) (x : Int) : (ints l).set i (.int .i64 x) = ints (l.set i x) := by simp [ints, List.map_set]
theorem ints_at (l : List Int) (i : Nat) (h : i < l.length) : (ints l)[i]? = some (.int .i64 (l.getD i 0)) := by simp [ints, List.getElem?_eq_getElem h]
/-- The run's beginning. -/
theorem run_from (k : Nat) (hk : k ≤ 5) (a : Nat) (ha : a < 4294967296) : (a / 4 ^ k * 4 ^ k) % 4 ^ k = 0 ∧ a / 4 ^ k * 4 ^ k + 4 ^ k ≤ 4294967296 := by
  refine ⟨Nat.mul_mod_left _ _, ?_⟩
  have : k = 0 ∨ k = 1 ∨ k = 2 ∨ k = 3 ∨ k = 4 ∨ k = 5 := by omega
  rcases this with rfl | rfl | rfl | rfl | rfl | rfl <;> simp only [Nat.reducePow] <;> omega
theorem pow_le (k : Nat) (hk : k ≤ 5) : 1 ≤ 4 ^ k ∧ 4 ^ k ≤ 1024 := by
  have : k = 0 ∨ k = 1 ∨ k = 2 ∨ k = 3 ∨ k = 4 ∨ k = 5 := by omega
  rcases this with rfl | rfl | rfl | rfl | rfl | rfl <;> simp only [Nat.reducePow] <;> omega

set_option maxRecDepth 100000 in
set_option maxHeartbeats 8000000 in
theorem towerCounts (w : World) (hT : Tab w) (power at_ most : Int) (hp0 : 0 ≤ power) (hp1 : power ≤ 255) (ha0 : 0 ≤ at_) (ha1 : at_ < 4294967296) (hm0 : 0 ≤ most) (hm1 : most ≤ 255) :
    Calls Tryd.prog 4 #[.int .u8 power, .int .u32 at_, .int .u8 most] w fun e w' => e = .returned (.bool true) ∧ Below w.heap.size w w' := by
  obtain ⟨m, hm⟩ : ∃ m : Nat, 1 + most % 12 = (m : Int) := ⟨(1 + most % 12).toNat, by omega⟩
  have hmb : 1 ≤ m ∧ m ≤ 12 := by omega
  obtain ⟨m0, m1⟩ := hmb
  obtain ⟨k, hk⟩ : ∃ k : Nat, 1 + power % 5 = (k : Int) := ⟨(1 + power % 5).toNat, by omega⟩
  have hkb : 1 ≤ k ∧ k ≤ 5 := by omega
  obtain ⟨k0, k1⟩ := hkb
  have HTT := Lib.hid hT
  clear hT
  go_enter Tryd.func4, Tryd.ntmps4
  go_upto_region 2 with fail
  clear hm hk
  go_cut [9] (fun s9 wx => ∃ S : Nat, s9 = .int .u32 S ∧ Hid (S = 4 ^ k) ∧ w = wx)
  case first =>
    go_wp2_with fail
    all_goals go_meet
    refine ⟨4 ^ k, ?_, Lib.hid rfl, rfl⟩
    have : k = 1 ∨ k = 2 ∨ k = 3 ∨ k = 4 ∨ k = 5 := by omega
    rcases this with rfl | rfl | rfl | rfl | rfl <;> exact congrArg (Value.int .u32) (by decide)
  case rest =>
    obtain ⟨S, rfl, HS, rfl⟩ := hcut
    obtain ⟨a, rfl⟩ := Int.eq_ofNat_of_zero_le ha0
    obtain ⟨hf1, hf2⟩ := run_from k k1 a (by omega)
    obtain ⟨hS1, hS2⟩ := pow_le k k1
    rw [← HS.out] at hf1 hf2 hS1 hS2
    obtain ⟨F, hF⟩ : ∃ F, a / S * S = F := ⟨_, rfl⟩
    rw [hF] at hf1 hf2
    obtain ⟨D, hD⟩ : ∃ D, a / S = D := ⟨_, rfl⟩
    have hDa0 : D ≤ a := by rw [← hD]; exact Nat.div_le_self _ _
    have hDa : D ≤ 4294967295 := by omega
    clear hDa0
    have hD' : (a : Int) / (S : Int) = (D : Int) := by rw [← hD]; simp
    rw [hD] at hF
    have hF' : (D : Int) * (S : Int) = (F : Int) := by rw [← hF]; simp
    clear hD
    have HF1 := Lib.hid hf1
    clear hF hf1 hp0 hp1 hm0 hm1 ha0 ha1
    have hblk0 : Blk (w.alloc (.cells (List.replicate 14 (Value.int .i64 0)).toArray 31)) w.heap.size 31 (ints (hav F m 0)) := by rw [hav_zero]; exact Blk.new w _ _
    have hT0 := HTT.out
    go_wp2_with fail
    clear hF' hD' hDa
    go_loopw [36] (fun i wr => ∃ j : Nat, j ≤ S ∧ i = .int .u32 j ∧ Blk wr w.heap.size 31 (ints (hav F m j)) ∧ Below w.heap.size w wr) (fun i _ => S - (intOf i).toNat)
    case atStart => exact ⟨0, Nat.zero_le _, rfl, hblk0, (Below.refl _ _).alloc (Nat.le_refl _) _⟩
    case round =>
      clear hblk0
      obtain ⟨j, hj, rfl, hb, hB⟩ := hrel
      by_cases hlt : j < S
      · obtain ⟨hg0, hg1⟩ := hgt_bd (x := ((F + j : Nat) : Int)) (m := (m : Int)) (by omega)
        obtain ⟨h, hh⟩ : ∃ h : Nat, hgt ((F + j : Nat) : Int) (m : Int) = (h : Int) := ⟨(hgt ((F + j : Nat) : Int) (m : Int)).toNat, by omega⟩
        rw [hh] at hg0 hg1
        have h14 : h < 14 := by omega
        have hcall := height_to wr (hT0.later hB) ((F + j : Nat) : Int) (m : Int) (h : Int) (by omega) (by omega) (by omega) hh
        have hc := hb.cell h (ints_at _ h (by simp [hav]; exact h14))
        rw [hav_get _ _ _ _ h14] at hc
        have hf := hb.frozen h
        have hb2 := hb.set h (.int .i64 (((cnt F m h j : Nat) : Int) + 1))
        rw [ints_set, ← hav_succ F m j h h14 hh] at hb2
        have hB2 := hB.setCell (p := ⟨w.heap.size, h, none⟩) (Nat.le_refl _) (.int .i64 (((cnt F m h j : Nat) : Int) + 1))
        have hcb := cnt_le F m h j
        obtain ⟨C, hC⟩ : ∃ C, cnt F (m : Int) (h : Int) j = C := ⟨_, rfl⟩
        rw [hC] at hc hb2 hB2 hcb
        have HC := Lib.hid hcall
        clear hcall hC hh hb hB
        have hcast : ((F + j : Nat) : Int) = (F : Int) + (j : Int) := by simp
        go_wp2_with (go_at_call 9; rw [← hcast]; refine HC.out.mono ?_; rintro e w' ⟨rfl, rfl⟩)
        go_roundw
        case rel => exact ⟨j + 1, by omega, by go_num, hb2, hB2⟩
        case measure => simp [intOf]; omega
      · have hjS : j = S := by omega
        have hbS : Blk wr w.heap.size 31 (ints (hav F m S)) := by rw [← hjS]; exact hb
        obtain ⟨m1', hm1⟩ : ∃ x : Nat, m = x + 1 := ⟨m - 1, by omega⟩
        have hmm : (m : Int) - 1 = (m1' : Int) := by omega
        obtain ⟨q, hq, hqk, hqm, hq2⟩ : ∃ q : Nat, (if (m1' : Int) < (k : Int) then (m1' : Int) else (k : Int)) = (q : Int) ∧ q ≤ k ∧ q < m ∧ (q = k ∨ q = m1') := by
          rcases Nat.lt_or_ge m1' k with h | h
          · exact ⟨m1', by rw [if_pos (by omega)], by omega, by omega, .inr rfl⟩
          · exact ⟨k, by rw [if_neg (by omega)], by omega, by omega, .inl rfl⟩
        have hqn : (if m1' < k then (m1' : Int) else (k : Int)) = (q : Int) := by
          rw [← hq]; split
          · rw [if_pos (by omega)]
          · rw [if_neg (by omega)]
        have hleft := fun j h1 h2 => upTo_left (k := k) (f := F) (m := m) (by omega) (by rw [← HS.out]; exact HF1.out) (by rw [← HS.out]; exact hf2) j h1 h2
        have hall := upTo_all F m (by omega) S
        rw [← HS.out] at hleft
        have HLE := Lib.hid hleft
        have HAL := Lib.hid hall
        have HM1 := Lib.hid hm1
        clear hb hleft hall hm1 hq2
        go_wp2_with fail
        clear hjS hlt hj
        go_loop [14, 15, 16] (fun l h p => ∃ j : Nat, j ≤ q ∧ l = .int .i64 ((4 ^ (k - j) : Nat) : Int) ∧ h = .int .i64 ((j : Int) + 1)) (fun _ h _ => q + 1 - (intOf h).toNat)
        case atStart => exact ⟨0, Nat.zero_le _, by rw [Nat.sub_zero, HS.out], by simp⟩
        case round =>
          obtain ⟨j, hj, rfl, rfl⟩ := hrel
          by_cases hlt : j < q
          · have e1 := HLE.out j (by omega) (by omega)
            have e2 := HLE.out (j + 1) (by omega) (by omega)
            simp only [upTo] at e2
            have e3 : k - j = (k - (j + 1)) + 1 := by omega
            obtain ⟨x, hx⟩ : ∃ x, 4 ^ (k - (j + 1)) = x := ⟨_, rfl⟩
            have hp : 4 ^ (k - j) = 4 * x := by rw [e3, Nat.pow_succ, hx, Nat.mul_comm]
            rw [hp] at e1
            rw [hx] at e2
            have hc := hbS.cell (j + 1) (ints_at _ (j + 1) (by simp [hav]; omega))
            rw [hav_get _ _ _ _ (by omega)] at hc
            obtain ⟨C, hC⟩ : ∃ C, cnt F (m : Int) (((j + 1 : Nat) : Int)) S = C := ⟨_, rfl⟩
            have hC' : cnt F (m : Int) ((j : Int) + 1) S = C := by rw [← hC]; simp
            rw [hC] at hc
            rw [hC'] at e2
            have h3 : C = 3 * x := by omega
            have hx4 : x ≤ 1024 := by omega
            subst h3
            rw [hp]
            have n1 : ((4 * x : Nat) : Int) / 4 = (x : Int) := by omega
            have n2 : ((4 * x : Nat) : Int) - (x : Int) = ((3 * x : Nat) : Int) := by omega
            have n3 : ((4 * x : Nat) : Int) - ((3 * x : Nat) : Int) = (x : Int) := by omega
            obtain ⟨y4, hy4⟩ : ∃ y, 4 * x = y := ⟨_, rfl⟩
            obtain ⟨y3, hy3⟩ : ∃ y, 3 * x = y := ⟨_, rfl⟩
            rw [hy4] at n1 n2 n3
            rw [hy3] at n2 n3 hc
            have y4b : y4 ≤ 4096 := by omega
            have y3b : y3 ≤ 4096 := by omega
            have HX := Lib.hid hx
            have hj2 : (0 : Int) ≤ (j : Int) + 1 := by omega
            have hj3 : (j : Int) + 1 < 14 := by omega
            have hj4 : ((j : Int) + 1).toNat = j + 1 := by omega
            rw [hy4]
            clear hx hC hC' e1 e2 e3 hp hbS hy4 hy3 hB
            go_wp2_with fail
            go_round
            case rel => exact ⟨j + 1, by omega, by rw [HX.out], by go_num⟩
            case measure => simp [intOf]; omega
          · have hjq : j = q := by omega
            have e1 := HLE.out q hqk hqm
            rw [hjq]
            obtain ⟨L, hL⟩ : ∃ L, 4 ^ (k - q) = L := ⟨_, rfl⟩
            rw [hL] at e1
            rw [hL]
            obtain ⟨U, hU⟩ : ∃ U, upTo F (m : Int) S q = U := ⟨_, rfl⟩
            rw [hU] at e1
            have HU := Lib.hid hU
            have E1 := Lib.hid e1
            have hL4 : L ≤ 1024 := by omega
            have hqq : ((q : Int) + 1 ≤ (q : Int)) = False := by simp; omega
            clear hjq hL hU e1 hlt hj
            go_wp2_with fail
            clear hqq
            go_loop [17, 18] (fun r h => ∃ d r' : Nat, q ≤ d ∧ d ≤ m ∧ r = .int .i64 r' ∧ h = .int .i64 ((d : Int) + 1) ∧ r' ≤ d * 1024 ∧ Hid (r' + U = upTo F (m : Int) S d)) (fun _ h => m + 1 - (intOf h).toNat)
            case atStart => exact ⟨q, 0, Nat.le_refl _, by omega, rfl, rfl, by omega, Lib.hid (by have := HU.out; omega)⟩
            case round =>
              obtain ⟨d, r, hd0, hd1, rfl, rfl, hr, HR⟩ := hrel
              by_cases hlt : d < m
              · have hc := hbS.cell (d + 1) (ints_at _ (d + 1) (by simp [hav]; omega))
                rw [hav_get _ _ _ _ (by omega)] at hc
                obtain ⟨C, hC⟩ : ∃ C, cnt F (m : Int) (((d + 1 : Nat) : Int)) S = C := ⟨_, rfl⟩
                have hC' : cnt F (m : Int) ((d : Int) + 1) S = C := by rw [← hC]; simp
                have hC4 : C ≤ 1024 := by rw [← hC]; exact Nat.le_trans (cnt_le _ _ _ _) hS2
                rw [hC] at hc
                have hs : r + C + U = upTo F (m : Int) S (d + 1) := by simp only [upTo]; rw [hC']; have := HR.out; omega
                have HS2 := Lib.hid hs
                have hj2 : (0 : Int) ≤ (d : Int) + 1 := by omega
                have hj3 : (d : Int) + 1 < 14 := by omega
                have hj4 : ((d : Int) + 1).toNat = d + 1 := by omega
                clear hC hC' hs hbS hB
                go_wp2_with fail
                go_round
                case rel => exact ⟨d + 1, r + C, by omega, by omega, by go_num, by go_num, by omega, HS2⟩
                case measure => simp [intOf]; omega
              · have hdm : d = m := by omega
                have hrL : r = L := by have h1 := HR.out; have h2 := HAL.out; have h3 := E1.out; rw [hdm] at h1; omega
                have hrb : ((r : Int) == (L : Int)) = true := by rw [hrL]; simp
                have hdm' : ((d : Int) + 1 ≤ (m : Int)) = False := by simp; omega
                have hTr := hT0.later hB
                clear hdm hrL hbS
                go_wp2_with (go_at_call 7; refine (awake18 _ hTr).mono ?_; rintro e w5 ⟨rfl, hb5⟩)
                go_ret
                exact ⟨rfl, hB.trans (hb5.mono hB.size)⟩
end Go.Proofs.YtidgnlcokfnhgaaDoor
