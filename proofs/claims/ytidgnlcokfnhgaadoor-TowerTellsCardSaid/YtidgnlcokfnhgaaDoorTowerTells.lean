/- The walk over law 18's TowerTells. -/
import Derived.Test.YtidgnlcokfnhgaaDoorLaw18
namespace Go.Proofs.YtidgnlcokfnhgaaDoor
open Go.RowKit

set_option maxRecDepth 100000 in
set_option maxHeartbeats 2000000 in
theorem towerTells_long (w : World) (hT : Tab w) (num most many : Int) (ao : Option Addr) (len cap : Nat) (h : 60 < len) :
    Calls Tryd.prog 3 #[.int .u32 num, .int .i64 most, .slice ao len cap, .int .i64 many] w fun e w' => e = .returned (.bool true) ∧ Below w.heap.size w w' := by
  go_enter Tryd.func3, Tryd.ntmps3
  go_wp2_with (go_at_call 7; refine (awake18 _ hT).mono ?_; rintro e w5 ⟨rfl, hb5⟩)
  go_ret
  exact ⟨rfl, hb5⟩

set_option maxRecDepth 100000 in
set_option maxHeartbeats 4000000 in
theorem towerTells_any (w : World) (hT : Tab w) (num most many : Int) (hn0 : 0 ≤ num) (hn1 : num < 4294967296) (hm : most ≤ 9223372036854775807) (ao : Option Addr) (len cap : Nat) (nums : List Int) (hlen : len ≤ 60) (hR : Reads w 1 (.slice ao len cap) len (u32s nums)) (hU : U32s nums) :
    Calls Tryd.prog 3 #[.int .u32 num, .int .i64 most, .slice ao len cap, .int .i64 many] w fun e w' => e = .returned (.bool true) ∧ Below w.heap.size w w' := by
  obtain ⟨M, hM⟩ : ∃ M : Int, M = if 300 < many then 300 else many := ⟨_, rfl⟩
  have hcase : (300 < many ∧ M = 300) ∨ (many ≤ 300 ∧ M = many) := by
    rcases Int.lt_or_le 300 many with h | h
    · exact .inl ⟨h, by rw [hM, if_pos h]⟩
    · exact .inr ⟨h, by rw [hM, if_neg (by omega)]⟩
  have hmn := manyOf_le M
  clear hM
  obtain ⟨n, hn⟩ : ∃ n, manyOf M = n := ⟨_, rfl⟩
  obtain ⟨L1, hL1⟩ : ∃ L, heights nums n 20 = L := ⟨_, rfl⟩
  obtain ⟨L2, hL2⟩ : ∃ L, heights nums n most = L := ⟨_, rfl⟩
  obtain ⟨hg, hhg⟩ : ∃ h, hgt num most = h := ⟨_, rfl⟩
  have hpos := heights_pos nums n 20 (by omega)
  rw [hL1] at hpos
  have c1 := fun W (hR : Reads W 1 (.slice ao len cap) len (u32s nums)) => refHeights_any (w := W) (m := 20) (many := M) _ len nums hR hU (by omega) (by omega)
  have c2 := fun W (hR : Reads W 1 (.slice ao len cap) len (u32s nums)) => refHeights_any (w := W) (m := most) (many := M) _ len nums hR hU (by omega) hm
  have c3 := fun W (hT : Tab W) (hR : Reads W 1 (.slice ao len cap) len (u32s nums)) => heights_any W hT _ len M most nums hR hU (by omega) hm
  have c4 := fun W (hT : Tab W) => height_any W hT num most hn0 hn1 hm
  have c5 := fun W => refHeight_any W num most hn0 hn1 hm
  simp only [hn] at c1 c2 c3
  simp only [hL1] at c1
  simp only [hL2] at c2 c3
  simp only [hhg] at c4 c5
  rw [hn] at hmn
  have HP := Lib.hid hpos
  have C1 := Lib.hid c1; have C2 := Lib.hid c2; have C3 := Lib.hid c3; have C4 := Lib.hid c4; have C5 := Lib.hid c5
  clear hL1 hL2 hhg hn hpos c1 c2 c3 c4 c5
  rcases hcase with ⟨h300, rfl⟩ | ⟨h300, rfl⟩
  all_goals
    go_enter Tryd.func3, Tryd.ntmps3
    go_wp2_with fail
    refine (C1.out w hR).mono ?_
    rintro e w1 ⟨v1, rfl, hr1, hb1⟩
    go_wp2_with fail
    refine (C4.out w1 (hT.later hb1)).mono ?_
    rintro e w' ⟨rfl, rfl⟩
    go_wp2_with fail
    refine (C5.out w1).mono ?_
    rintro e w' ⟨rfl, rfl⟩
    go_wp2_with fail
    refine (C3.out w1 (hT.later hb1) (hR.below hb1)).mono ?_
    rintro e w2 ⟨v2, rfl, hr2, hb2⟩
    have hB2 := hb1.trans (hb2.mono hb1.size)
    have hr1' := hr1.reads.below hb2
    clear hr1
    go_wp2_with fail
    refine (C2.out w2 (hR.below hB2)).mono ?_
    rintro e w3 ⟨v3, rfl, hr3, hb3⟩
    have hB3 := hB2.trans (hb3.mono hB2.size)
    have hr1'' := hr1'.below hb3
    have hr2' := hr2.reads.below hb3
    clear hr1' hr2 hB2 hb1 hb2 hb3
    go_wp2_with fail
    refine (lowInts _ _ _ n n L2 L2 hr2' hr3.reads (by omega)).mono ?_
    rintro e w4 ⟨rfl, hq4⟩
    have hB4 := hB3.trans (hq4.below _)
    have hs := hr1''.quiet hq4
    clear hr1'' hr2' hr3 hq4 hB3
    go_wp2_with fail
    refine (steps_any _ _ n L1 hs (by omega)).mono ?_
    rintro e w5 ⟨rfl, hb5⟩
    have hB5 := hB4.trans (hb5.mono hB4.size)
    have hs5 := hs.below hb5
    clear hs hB4 hb5
    go_wp2_with fail
    refine (refSteps_any _ _ n L1 hs5 (by omega) (fun x hx => by have := HP.out x hx; omega)).mono ?_
    rintro e w' ⟨rfl, rfl⟩
    go_wp2_with fail
    refine (awake18 _ (hT.later hB5)).mono ?_
    rintro e w6 ⟨rfl, hb6⟩
    go_wp2_with fail
    go_ret
    exact ⟨rfl, hB5.trans (hb6.mono hB5.size)⟩
theorem towerTells (w : World) (hT : Tab w) (num most many : Int) (hn0 : 0 ≤ num) (hn1 : num < 4294967296) (hm : most ≤ 9223372036854775807) (ao : Option Addr) (len cap : Nat) (nums : List Int) (hR : Reads w 1 (.slice ao len cap) len (u32s nums)) (hU : U32s nums) :
    Calls Tryd.prog 3 #[.int .u32 num, .int .i64 most, .slice ao len cap, .int .i64 many] w fun e w' => e = .returned (.bool true) ∧ Below w.heap.size w w' := by
  rcases Nat.lt_or_ge 60 len with h | h
  · exact towerTells_long w hT num most many ao len cap h
  · exact towerTells_any w hT num most many hn0 hn1 hm ao len cap nums h hR hU
end Go.Proofs.YtidgnlcokfnhgaaDoor
