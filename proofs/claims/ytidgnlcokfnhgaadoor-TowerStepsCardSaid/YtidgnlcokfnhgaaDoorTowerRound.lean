/- The walk over law 18's TowerRound. -/
import Derived.Test.YtidgnlcokfnhgaaDoorLaw18
namespace Go.Proofs.YtidgnlcokfnhgaaDoor
open Go.RowKit

theorem Reads.intAt {w : World} {ao : Option Addr} {n c : Nat} {l : List Int} (h : Reads w 1 (.slice ao n c) n (ints l)) (k : Nat) (hk : k < l.length) :
    ∃ b off, ao = some ⟨b, off, none⟩ ∧ w.cell? ⟨b, off + k, none⟩ = some (.int .i64 (l.getD k 0)) := by
  have hl := h.len
  rw [ints_length] at hl
  rcases h.form with ⟨h0, _⟩ | ⟨b', off', c', e, _, hr⟩
  · omega
  · cases e
    exact ⟨b', off', rfl, hr k _ (by simp [ints, List.getElem?_eq_getElem hk])⟩
theorem Reads.u32At {w : World} {ao : Option Addr} {n c : Nat} {l : List Int} (h : Reads w 1 (.slice ao n c) n (u32s l)) (k : Nat) (hk : k < l.length) :
    ∃ b off, ao = some ⟨b, off, none⟩ ∧ w.cell? ⟨b, off + k, none⟩ = some (.int .u32 (l.getD k 0)) := by
  have hl := h.len
  simp only [u32s, List.length_map] at hl
  rcases h.form with ⟨h0, _⟩ | ⟨b', off', c', e, _, hr⟩
  · omega
  · cases e
    exact ⟨b', off', rfl, hr k _ (by simp [u32s, List.getElem?_eq_getElem hk])⟩
theorem quiet_left {P : Program} {f : FuncId} {args : Array Value} {w : World} {n : Nat} {v : Value} (h : Calls P f args (w.drewN n) fun e w' => e = .returned v ∧ w.drewN n = w') : Calls P f args (w.drewN n) fun e w'' => e = .returned v ∧ ∃ m, w'' = w.drewN m :=
  h.mono fun _ _ ⟨he, hm⟩ => ⟨he, n, hm.symm⟩
theorem Tab.quiet {w w' : World} (h : Tab w) (hq : Quiet w w') : Tab w' := h.later (hq.below _)
theorem manyOf_nat (n : Nat) (h : n ≤ 100000) : manyOf (n : Int) = n := by
  unfold manyOf; rw [if_neg (by omega), if_neg (by omega)]; omega
theorem manyOf_neg (n : Nat) : manyOf (-(n : Int)) = 0 := by
  unfold manyOf
  split
  · rfl
  · rw [if_neg (by omega)]; omega
theorem manyOf_great : manyOf 1099511627776 = 100000 := by decide +kernel

set_option maxRecDepth 100000 in
set_option maxHeartbeats 2000000 in
theorem towerRound_long (w : World) (hT : Tab w) (many a b : Int) (ao : Option Addr) (len cap : Nat) (h : 60 < len) :
    Calls Tryd.prog 5 #[.slice ao len cap, .int .u16 many, .int .u8 a, .int .u8 b] w fun e w' => e = .returned (.bool true) ∧ Below w.heap.size w w' := by
  go_enter Tryd.func5, Tryd.ntmps5
  go_wp2_with (go_at_call 7; refine (awake18 _ hT).mono ?_; rintro e w5 ⟨rfl, hb5⟩)
  go_ret
  exact ⟨rfl, hb5⟩

set_option maxRecDepth 100000 in
set_option maxHeartbeats 8000000 in
theorem towerRound_any (w : World) (hT : Tab w) (many a b : Int) (hm0 : 0 ≤ many) (hm1 : many ≤ 65535) (ha0 : 0 ≤ a) (ha1 : a ≤ 255) (hb0 : 0 ≤ b) (hb1 : b ≤ 255) (ao : Option Addr) (len cap : Nat) (nums : List Int) (h0 : 0 < len) (hlen : len ≤ 60) (hR : Reads w 1 (.slice ao len cap) len (u32s nums)) (hU : U32s nums) :
    Calls Tryd.prog 5 #[.slice ao len cap, .int .u16 many, .int .u8 a, .int .u8 b] w fun e w' => e = .returned (.bool true) ∧ Below w.heap.size w w' := by
  obtain ⟨P, hP⟩ : ∃ P, (if b < a then b else a) = P := ⟨_, rfl⟩
  obtain ⟨Q, hQ⟩ : ∃ P, (if a < b then b else a) = P := ⟨_, rfl⟩
  have hP0 : 0 ≤ P ∧ P ≤ 255 := by rw [← hP]; split <;> omega
  have hQ0 : 0 ≤ Q ∧ Q ≤ 255 := by rw [← hQ]; split <;> omega
  obtain ⟨hP1, hP2⟩ := hP0
  obtain ⟨hQ1, hQ2⟩ := hQ0
  obtain ⟨p, hp⟩ : ∃ p, 1 + P % 40 = p := ⟨_, rfl⟩
  obtain ⟨q, hq⟩ : ∃ q, 1 + Q % 40 = q := ⟨_, rfl⟩
  have hpq : 1 ≤ p ∧ p ≤ 40 ∧ 1 ≤ q ∧ q ≤ 40 := by omega
  obtain ⟨p1, p2, q1, q2⟩ := hpq
  obtain ⟨L, hL⟩ : ∃ P', (if q < p then q else p) = P' := ⟨_, rfl⟩
  obtain ⟨X, hX⟩ : ∃ P', (if p < q then q else p) = P' := ⟨_, rfl⟩
  have hLX : 1 ≤ L ∧ L ≤ X ∧ X ≤ 40 := by rw [← hL, ← hX]; split <;> split <;> omega
  obtain ⟨l1, l2, l3⟩ := hLX
  obtain ⟨n, hn⟩ : ∃ n : Nat, many % 501 = (n : Int) := ⟨(many % 501).toNat, by omega⟩
  have hn1 : n ≤ 500 := by omega
  go_enter Tryd.func5, Tryd.ntmps5
  go_wp2_with fail
  clear hP hQ hp hq hL hX hn
  have c1 := fun W (hT : Tab W) (hR : Reads W 1 (.slice ao len cap) len (u32s nums)) => heights_any W hT _ len (n : Int) L nums hR hU (by omega) (by omega)
  have c2 := fun W (hT : Tab W) (hR : Reads W 1 (.slice ao len cap) len (u32s nums)) => heights_any W hT _ len (n : Int) X nums hR hU (by omega) (by omega)
  have c3 := fun W (hT : Tab W) (hR : Reads W 1 (.slice ao len cap) len (u32s nums)) => heights_any W hT _ len (-(n : Int)) L nums hR hU (by omega) (by omega)
  have c4 := fun W (hT : Tab W) (hR : Reads W 1 (.slice ao len cap) len (u32s nums)) => heights_any W hT _ len 1099511627776 1 nums hR hU (by omega) (by omega)
  simp only [manyOf_nat n (by omega)] at c1 c2
  simp only [manyOf_neg] at c3
  simp only [manyOf_great] at c4
  have C1 := Lib.hid c1; have C2 := Lib.hid c2; have C3 := Lib.hid c3; have C4 := Lib.hid c4
  clear c1 c2 c3 c4
  refine (C1.out w hT hR).mono ?_
  rintro e w1 ⟨v1, rfl, hr1, hb1⟩
  go_wp2_with fail
  refine (C2.out w1 (hT.later hb1) (hR.below hb1)).mono ?_
  rintro e w2 ⟨v2, rfl, hr2, hb2⟩
  have hB2 := hb1.trans (hb2.mono hb1.size)
  have hr1' := hr1.reads.below hb2
  have hr2' := hr2.reads
  obtain ⟨ao1, cp1, rfl⟩ := hr1.slice
  obtain ⟨ao2, cp2, rfl⟩ := hr2.slice
  clear hr1 hr2 hb1 hb2
  go_wp2_with fail
  refine (C3.out w2 (hT.later hB2) (hR.below hB2)).mono ?_
  rintro e w3 ⟨v3, rfl, hr3, hb3⟩
  have hB3 := hB2.trans (hb3.mono hB2.size)
  have hr1 := hr1'.below hb3
  have hr2 := hr2'.below hb3
  obtain ⟨ao3, cp3, rfl⟩ := hr3.slice
  clear hr1' hr2' hr3 hB2 hb3
  go_wp2_with fail
  refine (C4.out w3 (hT.later hB3) (hR.below hB3)).mono ?_
  rintro e w4 ⟨v4', rfl, hr4, hb4⟩
  have hB4 := hB3.trans (hb4.mono hB3.size)
  have hr1' := hr1.below hb4
  have hr2' := hr2.below hb4
  obtain ⟨ao4, cp4, rfl⟩ := hr4.slice
  clear hr1 hr2 hr4 hB3 hb4
  go_wp2_with fail
  have hT4 := hT.later hB4
  have hR4 := hR.below hB4
  have hl : len = nums.length := by have := hR.len; simpa [u32s] using this.symm
  have HLEN := Lib.hid hl
  clear hl hR hT C1 C2 C3 C4
  go_loopw [75] (fun i wr => ∃ k : Nat, k ≤ n ∧ i = .int .i64 k ∧ Quiet w4 wr) (fun i _ => n - (intOf i).toNat)
  case atStart => exact ⟨0, Nat.zero_le _, rfl, Quiet.refl _⟩
  case round =>
    obtain ⟨k, hk, rfl, hq⟩ := hrel
    by_cases hlt : k < n
    · obtain ⟨g1, o1, rfl, x1⟩ := (hr1'.quiet hq).intAt k (by rw [heights_length]; exact hlt)
      obtain ⟨g2, o2, rfl, x2⟩ := (hr2'.quiet hq).intAt k (by rw [heights_length]; exact hlt)
      rw [heights_get _ _ _ _ hlt] at x1 x2
      have hpk := hU.pick k
      obtain ⟨z, hz⟩ : ∃ z, pickN nums k = z := ⟨_, rfl⟩
      rw [hz] at x1 x2 hpk
      have hle := hgt_le (x := z) l1 l2
      have hmin := hgt_min (x := z) l1 l2
      have hcall := fun W hW => height_any W hW z L hpk.1 hpk.2 (by omega)
      obtain ⟨a', ha'⟩ : ∃ a', hgt z L = a' := ⟨_, rfl⟩
      obtain ⟨b', hb'⟩ : ∃ b', hgt z X = b' := ⟨_, rfl⟩
      rw [ha'] at x1 hle hmin hcall
      rw [hb'] at x2 hle hmin
      have hne : (a' != a') = false := by simp
      have hmin' := hmin.symm
      have HC := Lib.hid hcall
      have HZ := Lib.hid hz
      have hTk := hT4.quiet hq
      clear ha' hb' hmin hcall hz
      have hkm : k % len < len := Nat.mod_lt _ h0
      obtain ⟨b, off, rfl, x3⟩ := (hR4.quiet hq).u32At (k % len) (by rw [← HLEN.out]; exact hkm)
      have hx3 : nums.getD (k % len) 0 = z := by rw [← HZ.out]; unfold pickN; rw [if_neg (by have := HLEN.out; omega), HLEN.out]
      rw [hx3] at x3
      obtain ⟨j, hj⟩ : ∃ j, k % len = j := ⟨_, rfl⟩
      rw [hj] at x3 hkm
      have hmod : ((k : Int) % (len : Int)) = (j : Int) := by omega
      clear hx3 hj hr1' hr2' hR4
      go_wp2_with fail
      go_quiet ((go_at_call 9; exact quiet_left (HC.out _ (hTk.quiet ⟨⟨_, rfl⟩⟩))))
      go_wp2_with fail
      go_roundw
      case rel => exact ⟨k + 1, by omega, by go_num, hq.trans ⟨⟨_, rfl⟩⟩⟩
      case measure => simp [intOf]; omega
    · have hTk := hT4.quiet hq
      have hB5 := hB4.trans (hq.below _)
      clear hr1' hr2' hR4 hq
      go_wp2_with fail
      refine (height_low _ 7 0 (by decide)).mono ?_
      rintro e w' ⟨rfl, rfl⟩
      go_wp2_with fail
      refine (height_low _ 0 (-5) (by decide)).mono ?_
      rintro e w' ⟨rfl, rfl⟩
      go_wp2_with fail
      refine (awake18 _ hTk).mono ?_
      rintro e w6 ⟨rfl, hb6⟩
      go_wp2_with fail
      go_ret
      exact ⟨rfl, hB5.trans (hb6.mono hB5.size)⟩

set_option maxRecDepth 100000 in
set_option maxHeartbeats 8000000 in
theorem towerRound_zero (w : World) (hT : Tab w) (many a b : Int) (hm0 : 0 ≤ many) (hm1 : many ≤ 65535) (ha0 : 0 ≤ a) (ha1 : a ≤ 255) (hb0 : 0 ≤ b) (hb1 : b ≤ 255) (ao : Option Addr) (cap : Nat) (nums : List Int) (hR : Reads w 1 (.slice ao 0 cap) 0 (u32s nums)) (hU : U32s nums) :
    Calls Tryd.prog 5 #[.slice ao 0 cap, .int .u16 many, .int .u8 a, .int .u8 b] w fun e w' => e = .returned (.bool true) ∧ Below w.heap.size w w' := by
  obtain ⟨P, hP⟩ : ∃ P, (if b < a then b else a) = P := ⟨_, rfl⟩
  obtain ⟨Q, hQ⟩ : ∃ P, (if a < b then b else a) = P := ⟨_, rfl⟩
  have hP0 : 0 ≤ P ∧ P ≤ 255 := by rw [← hP]; split <;> omega
  have hQ0 : 0 ≤ Q ∧ Q ≤ 255 := by rw [← hQ]; split <;> omega
  obtain ⟨hP1, hP2⟩ := hP0
  obtain ⟨hQ1, hQ2⟩ := hQ0
  obtain ⟨p, hp⟩ : ∃ p, 1 + P % 40 = p := ⟨_, rfl⟩
  obtain ⟨q, hq⟩ : ∃ q, 1 + Q % 40 = q := ⟨_, rfl⟩
  have hpq : 1 ≤ p ∧ p ≤ 40 ∧ 1 ≤ q ∧ q ≤ 40 := by omega
  obtain ⟨p1, p2, q1, q2⟩ := hpq
  obtain ⟨L, hL⟩ : ∃ P', (if q < p then q else p) = P' := ⟨_, rfl⟩
  obtain ⟨X, hX⟩ : ∃ P', (if p < q then q else p) = P' := ⟨_, rfl⟩
  have hLX : 1 ≤ L ∧ L ≤ X ∧ X ≤ 40 := by rw [← hL, ← hX]; split <;> split <;> omega
  obtain ⟨l1, l2, l3⟩ := hLX
  obtain ⟨n, hn⟩ : ∃ n : Nat, many % 501 = (n : Int) := ⟨(many % 501).toNat, by omega⟩
  have hn1 : n ≤ 500 := by omega
  go_enter Tryd.func5, Tryd.ntmps5
  go_wp2_with fail
  clear hP hQ hp hq hL hX hn
  have c1 := fun W (hT : Tab W) (hR : Reads W 1 (.slice ao 0 cap) 0 (u32s nums)) => heights_any W hT _ 0 (n : Int) L nums hR hU (by omega) (by omega)
  have c2 := fun W (hT : Tab W) (hR : Reads W 1 (.slice ao 0 cap) 0 (u32s nums)) => heights_any W hT _ 0 (n : Int) X nums hR hU (by omega) (by omega)
  have c3 := fun W (hT : Tab W) (hR : Reads W 1 (.slice ao 0 cap) 0 (u32s nums)) => heights_any W hT _ 0 (-(n : Int)) L nums hR hU (by omega) (by omega)
  have c4 := fun W (hT : Tab W) (hR : Reads W 1 (.slice ao 0 cap) 0 (u32s nums)) => heights_any W hT _ 0 1099511627776 1 nums hR hU (by omega) (by omega)
  simp only [manyOf_nat n (by omega)] at c1 c2
  simp only [manyOf_neg] at c3
  simp only [manyOf_great] at c4
  have C1 := Lib.hid c1; have C2 := Lib.hid c2; have C3 := Lib.hid c3; have C4 := Lib.hid c4
  clear c1 c2 c3 c4
  refine (C1.out w hT hR).mono ?_
  rintro e w1 ⟨v1, rfl, hr1, hb1⟩
  go_wp2_with fail
  refine (C2.out w1 (hT.later hb1) (hR.below hb1)).mono ?_
  rintro e w2 ⟨v2, rfl, hr2, hb2⟩
  have hB2 := hb1.trans (hb2.mono hb1.size)
  have hr1' := hr1.reads.below hb2
  have hr2' := hr2.reads
  obtain ⟨ao1, cp1, rfl⟩ := hr1.slice
  obtain ⟨ao2, cp2, rfl⟩ := hr2.slice
  clear hr1 hr2 hb1 hb2
  go_wp2_with fail
  refine (C3.out w2 (hT.later hB2) (hR.below hB2)).mono ?_
  rintro e w3 ⟨v3, rfl, hr3, hb3⟩
  have hB3 := hB2.trans (hb3.mono hB2.size)
  have hr1 := hr1'.below hb3
  have hr2 := hr2'.below hb3
  obtain ⟨ao3, cp3, rfl⟩ := hr3.slice
  clear hr1' hr2' hr3 hB2 hb3
  go_wp2_with fail
  refine (C4.out w3 (hT.later hB3) (hR.below hB3)).mono ?_
  rintro e w4 ⟨v4', rfl, hr4, hb4⟩
  have hB4 := hB3.trans (hb4.mono hB3.size)
  have hr1' := hr1.below hb4
  have hr2' := hr2.below hb4
  obtain ⟨ao4, cp4, rfl⟩ := hr4.slice
  clear hr1 hr2 hr4 hB3 hb4
  go_wp2_with fail
  have hT4 := hT.later hB4
  have hR4 := hR.below hB4
  have hl : 0 = nums.length := by have := hR.len; simpa [u32s] using this.symm
  have HLEN := Lib.hid hl
  clear hl hR hT C1 C2 C3 C4
  go_loopw [75] (fun i wr => ∃ k : Nat, k ≤ n ∧ i = .int .i64 k ∧ Quiet w4 wr) (fun i _ => n - (intOf i).toNat)
  case atStart => exact ⟨0, Nat.zero_le _, rfl, Quiet.refl _⟩
  case round =>
    obtain ⟨k, hk, rfl, hq⟩ := hrel
    by_cases hlt : k < n
    · obtain ⟨g1, o1, rfl, x1⟩ := (hr1'.quiet hq).intAt k (by rw [heights_length]; exact hlt)
      obtain ⟨g2, o2, rfl, x2⟩ := (hr2'.quiet hq).intAt k (by rw [heights_length]; exact hlt)
      rw [heights_get _ _ _ _ hlt] at x1 x2
      have hpk := hU.pick k
      obtain ⟨z, hz⟩ : ∃ z, pickN nums k = z := ⟨_, rfl⟩
      rw [hz] at x1 x2 hpk
      have hle := hgt_le (x := z) l1 l2
      have hmin := hgt_min (x := z) l1 l2
      have hcall := fun W hW => height_any W hW z L hpk.1 hpk.2 (by omega)
      obtain ⟨a', ha'⟩ : ∃ a', hgt z L = a' := ⟨_, rfl⟩
      obtain ⟨b', hb'⟩ : ∃ b', hgt z X = b' := ⟨_, rfl⟩
      rw [ha'] at x1 hle hmin hcall
      rw [hb'] at x2 hle hmin
      have hne : (a' != a') = false := by simp
      have hmin' := hmin.symm
      have HC := Lib.hid hcall
      have HZ := Lib.hid hz
      have hTk := hT4.quiet hq
      clear ha' hb' hmin hcall hz
      have hz0 : z = 0 := by rw [← HZ.out]; unfold pickN; rw [if_pos HLEN.out.symm]
      subst hz0
      clear hr1' hr2' hR4
      go_wp2_with fail
      go_quiet ((go_at_call 9; exact quiet_left (HC.out _ (hTk.quiet ⟨⟨_, rfl⟩⟩))))
      go_wp2_with fail
      go_roundw
      case rel => exact ⟨k + 1, by omega, by go_num, hq.trans ⟨⟨_, rfl⟩⟩⟩
      case measure => simp [intOf]; omega
    · have hTk := hT4.quiet hq
      have hB5 := hB4.trans (hq.below _)
      clear hr1' hr2' hR4 hq
      go_wp2_with fail
      refine (height_low _ 7 0 (by decide)).mono ?_
      rintro e w' ⟨rfl, rfl⟩
      go_wp2_with fail
      refine (height_low _ 0 (-5) (by decide)).mono ?_
      rintro e w' ⟨rfl, rfl⟩
      go_wp2_with fail
      refine (awake18 _ hTk).mono ?_
      rintro e w6 ⟨rfl, hb6⟩
      go_wp2_with fail
      go_ret
      exact ⟨rfl, hB5.trans (hb6.mono hB5.size)⟩

theorem towerRound (w : World) (hT : Tab w) (many a b : Int) (hm0 : 0 ≤ many) (hm1 : many ≤ 65535) (ha0 : 0 ≤ a) (ha1 : a ≤ 255) (hb0 : 0 ≤ b) (hb1 : b ≤ 255) (ao : Option Addr) (len cap : Nat) (nums : List Int) (hR : Reads w 1 (.slice ao len cap) len (u32s nums)) (hU : U32s nums) :
    Calls Tryd.prog 5 #[.slice ao len cap, .int .u16 many, .int .u8 a, .int .u8 b] w fun e w' => e = .returned (.bool true) ∧ Below w.heap.size w w' := by
  rcases Nat.lt_or_ge 60 len with h | h
  · exact towerRound_long w hT many a b ao len cap h
  · rcases Nat.eq_zero_or_pos len with rfl | h0
    · exact towerRound_zero w hT many a b hm0 hm1 ha0 ha1 hb0 hb1 ao cap nums hR hU
    · exact towerRound_any w hT many a b hm0 hm1 ha0 ha1 hb0 hb1 ao len cap nums h0 h hR hU
end Go.Proofs.YtidgnlcokfnhgaaDoor
