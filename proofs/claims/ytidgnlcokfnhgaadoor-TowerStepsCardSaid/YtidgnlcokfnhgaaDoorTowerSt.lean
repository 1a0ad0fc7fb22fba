/- The walk over law 18's TowerSteps. -/
import Derived.Test.YtidgnlcokfnhgaaDoorTowerRound
import Derived.Test.YtidgnlcokfnhgaaDoorAppR
namespace Go.Proofs.YtidgnlcokfnhgaaDoor
open Go.RowKit

/-! The way, plainly. -/
/-- Do heights fall (or stay)? -/
def falls : List Int → Bool
  | [] => true
  | [_] => true
  | a :: b :: l => decide (b ≤ a) && falls (b :: l)
theorem way_high (l : List Int) (hp : ∀ h ∈ l, 1 ≤ h) : 0 ≤ (way l).2 := by
  induction l with
  | nil => simp [way]
  | cons h l ih =>
    have := ih (fun x hx => hp x (by simp [hx]))
    have h1 := hp h (by simp)
    rcases Int.lt_or_le h (way l).2 with h2 | h2
    · rw [way_miss h2]; exact this
    · rw [way_hit h2]; omega
theorem way_pos (l : List Int) (hp : ∀ h ∈ l, 1 ≤ h) (h0 : l ≠ []) : 1 ≤ (way l).1 := by
  induction l with
  | nil => exact absurd rfl h0
  | cons h l ih =>
    rcases Int.lt_or_le h (way l).2 with h2 | h2
    · rw [way_miss h2]
      refine ih (fun x hx => hp x (by simp [hx])) ?_
      rintro rfl
      have := hp h (by simp)
      simp [way] at h2; omega
    · rw [way_hit h2]; simp
theorem way_full : ∀ (l : List Int), (∀ h ∈ l, 1 ≤ h) → ((way l).1 = l.length ↔ falls l = true)
  | [], _ => by simp [way, falls]
  | [h], hp => by
    have h1 := hp h (by simp)
    have : (way []).2 ≤ h := by simp [way]; omega
    rw [way_hit this]; simp [way, falls]
  | a :: b :: l, hp => by
    have ih := way_full (b :: l) (fun x hx => hp x (by simp [hx]))
    have hlen := way_len (b :: l)
    rcases Int.lt_or_le a (way (b :: l)).2 with h2 | h2
    · rw [way_miss h2]
      constructor
      · intro h; simp at h hlen; omega
      · intro h
        simp only [falls, Bool.and_eq_true, decide_eq_true_eq] at h
        have hfull := ih.2 h.2
        exfalso
        -- all are gone over: the highest behind is b
        have hb : (way (b :: l)).2 = b := by
          rcases Int.lt_or_le b (way l).2 with h3 | h3
          · rw [way_miss h3] at hfull
            have := way_len l; simp at hfull; omega
          · rw [way_hit h3]
        omega
    · rw [way_hit h2]
      simp only [falls, Bool.and_eq_true, decide_eq_true_eq, List.length_cons]
      constructor
      · intro h
        have hfull : (way (b :: l)).1 = (b :: l).length := by simp; omega
        have hb : (way (b :: l)).2 = b := by
          rcases Int.lt_or_le b (way l).2 with h3 | h3
          · rw [way_miss h3] at hfull
            have := way_len l; simp at hfull; omega
          · rw [way_hit h3]
        exact ⟨by omega, ih.1 hfull⟩
      · intro h
        have := ih.2 h.2
        simp at this; omega
/-- A node behind all that is T high: the way over those ahead that are no lower. -/
theorem way_snoc_top (T : Int) : ∀ (l : List Int), (∀ h ∈ l, h ≤ T) → 0 ≤ T → way (l ++ [T]) = (l.countP (fun h => decide (h = T)) + 1, T)
  | [], _, h0 => by simp [way, wayStep, h0]
  | h :: l, hl, h0 => by
    have ih := way_snoc_top T l (fun x hx => hl x (by simp [hx])) h0
    have hh := hl h (by simp)
    rw [List.cons_append, way_cons, ih]
    by_cases e : h = T
    · subst e; simp [wayStep]
    · rw [List.countP_cons_of_neg (by simpa using e)]
      unfold wayStep
      rw [if_neg (by simp; omega)]
theorem way_snoc_one : ∀ (l : List Int), (∀ h ∈ l, 1 ≤ h) → (way (l ++ [1])).1 = (way l).1 + 1 ∧ (way (l ++ [1])).2 = (if (way l).2 < 1 then 1 else (way l).2)
  | [], _ => by simp [way, wayStep]
  | h :: l, hl => by
    obtain ⟨i1, i2⟩ := way_snoc_one l (fun x hx => hl x (by simp [hx]))
    have hh := hl h (by simp)
    have hc : (way (l ++ [1])).2 ≤ h ↔ (way l).2 ≤ h := by rw [i2]; split <;> omega
    rw [List.cons_append]
    rcases Int.lt_or_le h (way l).2 with h2 | h2
    · rw [way_miss h2, way_miss (by rcases Int.lt_or_le h (way (l ++ [1])).2 with h3 | h3; exact h3; have := hc.1 h3; omega)]
      exact ⟨i1, i2⟩
    · rw [way_hit h2, way_hit (hc.2 h2)]
      refine ⟨by simp [i1], ?_⟩
      simp only []
      rw [if_neg (by omega)]
theorem falls_snoc : ∀ (l : List Int) (x : Int), falls (l ++ [x]) = (falls l && (decide (l = []) || decide (x ≤ l.getLastD 0)))
  | [], x => by simp [falls]
  | [a], x => by simp [falls]
  | a :: b :: l, x => by
    have := falls_snoc (b :: l) x
    simp only [List.cons_append] at this ⊢
    simp only [falls, this, Bool.and_assoc]
    congr 1
theorem falls_take {l : List Int} {k : Nat} (h : k + 1 < l.length) : falls (l.take (k + 1 + 1)) = (falls (l.take (k + 1)) && decide (l.getD (k + 1) 0 ≤ l.getD k 0)) := by
  rw [List.take_succ_eq_append_getElem h, falls_snoc]
  have h1 : l.take (k + 1) ≠ [] := by
    intro e
    have := congrArg List.length e
    rw [List.length_take] at this
    simp at this; subst this; simp at h
  have h2 : (l.take (k + 1)).getLastD 0 = l.getD k 0 := by
    rw [List.take_succ_eq_append_getElem (by omega), getD_lt (by omega), List.getLastD_concat]
  rw [decide_eq_false h1, h2, getD_lt h]
  simp
theorem falls_one (l : List Int) (h : 0 < l.length) : falls (l.take (0 + 1)) = true := by
  rw [List.take_succ_eq_append_getElem h]; simp [falls]
theorem take_all_le {l : List Int} {k : Nat} {T x : Int} (h : k < l.length) (hx : l.getD k 0 = x) (hT : ∀ y ∈ l.take k, y ≤ T) : ∀ y ∈ l.take (k + 1), y ≤ (if T < x then x else T) := by
  intro y hy
  rw [List.take_succ_eq_append_getElem h] at hy
  rw [getD_lt h] at hx
  rcases List.mem_append.1 hy with h1 | h1
  · have := hT y h1; split <;> omega
  · simp at h1; subst h1; rw [hx]; split <;> omega
theorem count_take {l : List Int} {k : Nat} {T : Int} (h : k < l.length) : (l.take (k + 1)).countP (fun h => decide (h = T)) = (l.take k).countP (fun h => decide (h = T)) + (if l.getD k 0 = T then 1 else 0) := by
  rw [List.take_succ_eq_append_getElem h, List.countP_append, getD_lt h]
  congr 1
  simp [List.countP_cons]

set_option maxRecDepth 100000 in
set_option maxHeartbeats 2000000 in
theorem towerSteps_out (w : World) (hT : Tab w) (most : Int) (ao : Option Addr) (len cap : Nat) (h : len = 0 ∨ 60 < len) :
    Calls Tryd.prog 6 #[.slice ao len cap, .int .u8 most] w fun e w' => e = .returned (.bool true) ∧ Below w.heap.size w w' := by
  have hst := steps_any w (.slice none 0 0) 0 [] (Row.nil w 3 1 (fun _ => True)).reads (by omega)
  have h00 : (((way []).1 : Nat) : Int) = 0 := rfl
  rw [h00] at hst
  have HS := Lib.hid hst
  clear hst h00
  rcases h with rfl | h
  · go_enter Tryd.func6, Tryd.ntmps6
    go_wp2_with fail
    refine HS.out.mono ?_
    rintro e w1 ⟨rfl, hb1⟩
    go_wp2_with fail
    refine (awake18 _ (hT.later hb1)).mono ?_
    rintro e w2 ⟨rfl, hb2⟩
    go_wp2_with fail
    go_ret
    exact ⟨rfl, hb1.trans (hb2.mono hb1.size)⟩
  · have hne : ((len : Int) == 0) = false := by simp; omega
    go_enter Tryd.func6, Tryd.ntmps6
    go_wp2_with fail
    refine HS.out.mono ?_
    rintro e w1 ⟨rfl, hb1⟩
    go_wp2_with fail
    refine (awake18 _ (hT.later hb1)).mono ?_
    rintro e w2 ⟨rfl, hb2⟩
    go_wp2_with fail
    go_ret
    exact ⟨rfl, hb1.trans (hb2.mono hb1.size)⟩

set_option maxRecDepth 100000 in
set_option maxHeartbeats 8000000 in
theorem towerSteps_any (w : World) (hT : Tab w) (most : Int) (hm0 : 0 ≤ most) (hm1 : most ≤ 255) (ao : Option Addr) (len cap : Nat) (nums : List Int) (h0 : 1 ≤ len) (hlen : len ≤ 60) (hR : Reads w 1 (.slice ao len cap) len (u32s nums)) (hU : U32s nums) :
    Calls Tryd.prog 6 #[.slice ao len cap, .int .u8 most] w fun e w' => e = .returned (.bool true) ∧ Below w.heap.size w w' := by
  have hne : ((len : Int) == 0) = false := by simp; omega
  obtain ⟨i0, hi, hz0, hz1, hz2⟩ := info_parts infoInt
  obtain ⟨m, hm⟩ : ∃ m, 1 + most % 12 = m := ⟨_, rfl⟩
  have hmb : 1 ≤ m ∧ m ≤ 12 := by omega
  obtain ⟨mb0, mb1⟩ := hmb
  have hh := fun W (hT : Tab W) (hR : Reads W 1 (.slice ao len cap) len (u32s nums)) => heights_any W hT _ len (len : Int) m nums hR hU (by omega) (by omega)
  simp only [manyOf_nat len (by omega)] at hh
  obtain ⟨L, hL⟩ : ∃ L, heights nums len m = L := ⟨_, rfl⟩
  have hLl : L.length = len := by rw [← hL, heights_length]
  have hpos := heights_pos nums len m mb0
  rw [hL] at hpos
  simp only [hL] at hh
  have HP := Lib.hid hpos
  have HL := Lib.hid hLl
  have HH := Lib.hid hh
  clear hL hLl hpos hh
  go_enter Tryd.func6, Tryd.ntmps6
  go_wp2_with fail
  refine (HH.out w hT hR).mono ?_
  rintro e w1 ⟨v1, rfl, hr1, hb1⟩
  have hT1 := hT.later hb1
  have HT0 := Lib.hid hT
  clear HH hR hT hm
  go_wp2_with fail
  refine (steps_any _ _ len L hr1.reads (by omega)).mono ?_
  rintro e w2 ⟨rfl, hb2⟩
  have hB2 := hb1.trans (hb2.mono hb1.size)
  have hr2 := hr1.reads.below hb2
  have hT2 := hT1.later hb2
  obtain ⟨ao1, cp1, rfl⟩ := hr1.slice
  obtain ⟨N, hN⟩ : ∃ N, (way L).1 = N := ⟨_, rfl⟩
  have hN1 : 1 ≤ N := by rw [← hN]; exact way_pos L (fun h hh => (HP.out h hh).1) (by rintro rfl; have := HL.out; simp at this; omega)
  have hN2 : N ≤ len := by rw [← hN, ← HL.out]; exact way_len L
  rw [hN]
  have HN := Lib.hid hN
  clear hr1 hb1 hb2 hT1 hN
  go_wp2_with fail
  obtain ⟨b1, o1, rfl, hc1⟩ := hr2.intAt 0 (by rw [HL.out]; omega)
  clear hc1
  go_loopw [8, 9, 43] (fun t f i wr => ∃ (k : Nat) (T : Int) (fl : Bool), k ≤ len ∧ i = .int .i64 k ∧ t = .int .i64 T ∧ f = .bool fl ∧ 0 ≤ T ∧ T ≤ 12 ∧ Hid (∀ y ∈ L.take k, y ≤ T) ∧ Hid (falls (L.take k) = fl) ∧ Quiet w2 wr) (fun _ _ i _ => len - (intOf i).toNat)
  case atStart => exact ⟨0, 0, true, Nat.zero_le _, rfl, rfl, rfl, by omega, by omega, Lib.hid (by simp), Lib.hid (by simp [falls]), Quiet.refl _⟩
  case round =>
    obtain ⟨k, T, fl, hk, rfl, rfl, rfl, ht0, ht1, HTk, HF, hq⟩ := hrel
    by_cases hlt : k < len
    · have hkL : k < L.length := by rw [HL.out]; exact hlt
      have x1 := (hr2.quiet hq).int k hkL
      have hxb := HP.out (L.getD k 0) (by rw [getD_lt hkL]; exact List.getElem_mem _)
      obtain ⟨x, hx⟩ : ∃ x, L.getD k 0 = x := ⟨_, rfl⟩
      rw [hx] at x1 hxb
      obtain ⟨xb0, xb1⟩ := hxb
      have hTn := take_all_le hkL hx HTk.out
      obtain ⟨T', hT'⟩ : ∃ T', (if T < x then x else T) = T' := ⟨_, rfl⟩
      rw [hT'] at hTn
      have hT'b : 0 ≤ T' ∧ T' ≤ 12 := by rw [← hT']; split <;> omega
      have HTn := Lib.hid hTn
      have HX := Lib.hid hx
      clear hTn hx
      rcases Nat.eq_zero_or_pos k with hk0 | hk0
      · have hfl : fl = true := by rw [← HF.out, hk0]; simp [falls]
        subst hfl
        have HF1 := Lib.hid (show falls (L.take (k + 1)) = true by rw [hk0]; exact falls_one L (by omega))
        have hz : (((k : Nat) : Int) == 0) = true := by simp [hk0]
        clear hr2 HF hk0
        go_wp2_with fail
        go_quiet (fail)
        go_wp2_with fail
        go_roundw
        case rel => exact ⟨k + 1, T', true, by omega, by go_num, rfl, rfl, hT'b.1, hT'b.2, HTn, HF1, hq.trans ⟨⟨_, rfl⟩⟩⟩
        case measure => simp [intOf]; omega
      · obtain ⟨j, hj⟩ : ∃ j, k = j + 1 := ⟨k - 1, by omega⟩
        have y1 := (hr2.quiet hq).int j (by omega)
        have hft := falls_take (l := L) (k := j) (by omega)
        rw [← hj, HF.out, HX.out] at hft
        obtain ⟨y, hy⟩ : ∃ y, L.getD j 0 = y := ⟨_, rfl⟩
        rw [hy] at y1 hft
        clear hy
        have hkn : (((k : Nat) : Int) == 0) = false := by simp; omega
        have hj1 : (((k : Nat) : Int)) - 1 = (j : Int) := by omega
        have hj2 : (0 : Int) ≤ (j : Int) := by omega
        have hj3 : (j : Int) < (len : Int) := by omega
        have HJ := Lib.hid hj
        clear hj
        cases fl
        · have HF1 := Lib.hid (show falls (L.take (k + 1)) = false by rw [hft]; rfl)
          clear hr2 hft HF
          go_wp2_with fail
          go_quiet (fail)
          go_wp2_with fail
          go_roundw
          case rel => exact ⟨k + 1, T', false, by omega, by go_num, rfl, rfl, hT'b.1, hT'b.2, HTn, HF1, hq.trans ⟨⟨_, rfl⟩⟩⟩
          case measure => simp [intOf]; omega
        · by_cases hxy : x ≤ y
          · have HF1 := Lib.hid (show falls (L.take (k + 1)) = true by rw [hft, decide_eq_true hxy]; rfl)
            clear hr2 hft HF
            go_wp2_with fail
            go_quiet (fail)
            go_wp2_with fail
            go_roundw
            case rel => exact ⟨k + 1, T', true, by omega, by go_num, rfl, rfl, hT'b.1, hT'b.2, HTn, HF1, hq.trans ⟨⟨_, rfl⟩⟩⟩
            case measure => simp [intOf]; omega
          · have HF1 := Lib.hid (show falls (L.take (k + 1)) = false by rw [hft, decide_eq_false hxy]; rfl)
            have hxy' : (x ≤ y) = False := by simp; omega
            clear hr2 hft HF
            go_wp2_with fail
            go_quiet (fail)
            go_wp2_with fail
            go_roundw
            case rel => exact ⟨k + 1, T', false, by omega, by go_num, rfl, rfl, hT'b.1, hT'b.2, HTn, HF1, hq.trans ⟨⟨_, rfl⟩⟩⟩
            case measure => simp [intOf]; omega
    · have hkl : k = len := by omega
      have hall : ∀ y ∈ L, y ≤ T := by have := HTk.out; rwa [hkl, ← HL.out, List.take_length] at this
      have hfull : falls L = fl := by have := HF.out; rwa [hkl, ← HL.out, List.take_length] at this
      have hnf : ((N : Int) == (len : Int)) = fl := by
        have := way_full L (fun h hh => (HP.out h hh).1)
        rw [HN.out, HL.out, hfull] at this
        cases fl
        · simp at this ⊢; omega
        · simp at this ⊢; omega
      have HALL := Lib.hid hall
      have HNF := Lib.hid hnf
      have hr3 := hr2.quiet hq
      have hB3 := hB2.trans (hq.below _)
      have hT3 := hT2.quiet hq
      clear hall hfull HTk HF hkl hnf hr2 hB2 hT2 hq
      go_wp2_with fail
      go_loop [12, 68] (fun tops i => ∃ k c : Nat, k ≤ len ∧ c ≤ k ∧ i = .int .i64 k ∧ tops = .int .i64 c ∧ Hid ((L.take k).countP (fun h => decide (h = T)) = c)) (fun _ i => len - (intOf i).toNat)
      case atStart => exact ⟨0, 0, by omega, by omega, rfl, rfl, Lib.hid (by simp)⟩
      case round =>
        obtain ⟨k, c, hk, hc, rfl, rfl, HCT⟩ := hrel
        by_cases hlt : k < len
        · have hkL : k < L.length := by rw [HL.out]; exact hlt
          have x1 := hr3.int k hkL
          have hct := count_take (T := T) hkL
          rw [HCT.out] at hct
          obtain ⟨x, hx⟩ : ∃ x, L.getD k 0 = x := ⟨_, rfl⟩
          rw [hx] at x1 hct
          clear hx
          by_cases hxT : x = T
          · have hb : (x == T) = true := by simp [hxT]
            rw [if_pos hxT] at hct
            have HC2 := Lib.hid hct
            clear hct hxT hr3
            go_wp2_with fail
            go_round
            case rel => exact ⟨k + 1, c + 1, by omega, by omega, by go_num, by go_num, HC2⟩
            case measure => simp [intOf]; omega
          · have hb : (x == T) = false := by simp [hxT]
            rw [if_neg hxT] at hct
            have HC2 := Lib.hid hct
            clear hct hxT hr3
            go_wp2_with fail
            go_round
            case rel => exact ⟨k + 1, c, by omega, by omega, by go_num, rfl, HC2⟩
            case measure => simp [intOf]; omega
        · have hkl : k = len := by omega
          have hct : L.countP (fun h => decide (h = T)) = c := by have := HCT.out; rwa [hkl, ← HL.out, List.take_length] at this
          have hw1 : (way (L ++ [T])).1 = c + 1 := by rw [way_snoc_top T L HALL.out ht0, hct]
          have hw2 : (way (L ++ [1])).1 = N + 1 := by rw [(way_snoc_one L (fun h hh => (HP.out h hh).1)).1, HN.out]
          have HW1 := Lib.hid hw1
          have HW2 := Lib.hid hw2
          have own0 : (wr.alloc (.cells #[] 3)).ownsRow wr.heap.size 3 1 (.slice (some ⟨wr.heap.size, 0, none⟩) 0 0) 0 [] := World.ownsRow_made wr #[] 0 (Nat.le_refl _) (by unfold maxLen; omega) (by simp)
          clear hkl hct hw1 hw2 HCT
          go_wp2_with (first | (at_builtin; refine wpList_append_reads rfl (.tmp 78) (.tmp 79) 25 (by rfl) wr.heap.size 3 i0 (.int .i64 0) 1 8 Tryd.underlying25 hi hz0 hz1 hz2 rfl (by decide) (.slice (some ⟨wr.heap.size, 0, none⟩) 0 0) 0 [] (by rfl) own0 _ len (ints L) (by rfl) (hr3.alloc _) (ints_one L) (by unfold maxLen; omega) (by omega) (by simp) ?_; intro v2 w4 hown4 hg4 hat4; simp only [Nat.zero_add, List.nil_append] at hown4; have hb4 : Below wr.heap.size wr w4 := ((Below.refl _ wr).alloc (Nat.le_refl _) _).grown hg4 (by simp) (fun k h => by simp [Value.ownBlock] at h; omega); clear hg4 hat4 own0) | (at_builtin; refine wpList_append_reads rfl (.tmp 80) (.tmp 82) 25 (by rfl) wr.heap.size 3 i0 (.int .i64 0) 1 8 Tryd.underlying25 hi hz0 hz1 hz2 rfl (by decide) v2 len (ints L) (by rfl) (hown4.alloc _) _ 1 [.int .i64 T] (by rfl) (reads_new w4 3 1 [.int .i64 T] rfl) (by simp [Value.oneCell']) (by unfold maxLen; omega) (by omega) (by have := hb4.size; simp; omega) ?_; intro v3 w5 hown5 hg5 hat5; have hb5 : Below wr.heap.size wr w5 := (hb4.alloc hb4.size _).grown hg5 (by have := hb4.size; simp; omega) (fun k h => (hown4.lt k h).1); clear hg5 hat5 hown4; have own1 : (w5.alloc (.cells #[] 3)).ownsRow w5.heap.size 3 1 (.slice (some ⟨w5.heap.size, 0, none⟩) 0 0) 0 [] := World.ownsRow_made w5 #[] 0 (Nat.le_refl _) (by unfold maxLen; omega) (by simp); have hr5 := hr3.below hb5) | (at_builtin; refine wpList_append_reads rfl (.tmp 84) (.tmp 85) 25 (by rfl) w5.heap.size 3 i0 (.int .i64 0) 1 8 Tryd.underlying25 hi hz0 hz1 hz2 rfl (by decide) (.slice (some ⟨w5.heap.size, 0, none⟩) 0 0) 0 [] (by rfl) own1 _ len (ints L) (by rfl) (hr5.alloc _) (ints_one L) (by unfold maxLen; omega) (by omega) (by simp) ?_; intro v6 w6 hown6 hg6 hat6; simp only [Nat.zero_add, List.nil_append] at hown6; have hb6 : Below w5.heap.size w5 w6 := ((Below.refl _ w5).alloc (Nat.le_refl _) _).grown hg6 (by simp) (fun k h => by simp [Value.ownBlock] at h; omega); clear hg6 hat6 own1) | (at_builtin; refine wpList_append_reads rfl (.tmp 86) (.tmp 87) 25 (by rfl) w5.heap.size 3 i0 (.int .i64 0) 1 8 Tryd.underlying25 hi hz0 hz1 hz2 rfl (by decide) v6 len (ints L) (by rfl) (hown6.alloc _) _ 1 [.int .i64 1] (by rfl) (reads_new w6 3 1 [.int .i64 1] rfl) (by simp [Value.oneCell']) (by unfold maxLen; omega) (by omega) (by have := hb6.size; simp; omega) ?_; intro v7 w7 hown7 hg7 hat7; have hb7 : Below w5.heap.size w5 w7 := (hb6.alloc hb6.size _).grown hg7 (by have := hb6.size; simp; omega) (fun k h => (hown6.lt k h).1); clear hg7 hat7 hown6))
          have hS3 : Reads w7 1 v3 (len + 1) (ints (L ++ [T])) := by rw [ints_append]; exact (Row.mk (A := fun _ => True) ⟨hown5.1, hown5.2.imp id fun ⟨g, cap, cur, h1, _, h2⟩ => ⟨g, cap, cur, h1, Nat.zero_le _, h2⟩⟩ (fun _ _ => trivial)).reads.below hb7
          have hS7 : Reads w7 1 v7 (len + 1) (ints (L ++ [1])) := by rw [ints_append]; exact (Row.mk (A := fun _ => True) ⟨hown7.1, hown7.2.imp id fun ⟨g, cap, cur, h1, _, h2⟩ => ⟨g, cap, cur, h1, Nat.zero_le _, h2⟩⟩ (fun _ _ => trivial)).reads
          have hB7 : Below w.heap.size w w7 := (hB3.trans (hb5.mono hB3.size)).trans (hb7.mono (Nat.le_trans hB3.size hb5.size))
          have hnf := HNF.out
          clear hown5 hown7 hr5 hr3 hb4 hb5 hb6 hb7 hB3 hT3
          go_wp2_with fail
          refine (steps_any _ _ (len + 1) (L ++ [T]) hS3 (by omega)).mono ?_
          rintro e w8 ⟨rfl, hb8⟩
          rw [HW1.out]
          have hS8 := hS7.below hb8
          have hB8 := hB7.trans (hb8.mono hB7.size)
          clear hS3 hS7 hB7 hb8
          go_wp2_with fail
          refine (steps_any _ _ (len + 1) (L ++ [1]) hS8 (by omega)).mono ?_
          rintro e w9 ⟨rfl, hb9⟩
          rw [HW2.out]
          have hB9 := hB8.trans (hb9.mono hB8.size)
          clear hS8 hB8 hb9
          go_wp2_with fail
          refine (awake18 _ (HT0.out.later hB9)).mono ?_
          rintro e w10 ⟨rfl, hb10⟩
          go_wp2_with fail
          go_ret
          exact ⟨rfl, hB9.trans (hb10.mono hB9.size)⟩

theorem towerSteps (w : World) (hT : Tab w) (most : Int) (hm0 : 0 ≤ most) (hm1 : most ≤ 255) (ao : Option Addr) (len cap : Nat) (nums : List Int) (hR : Reads w 1 (.slice ao len cap) len (u32s nums)) (hU : U32s nums) :
    Calls Tryd.prog 6 #[.slice ao len cap, .int .u8 most] w fun e w' => e = .returned (.bool true) ∧ Below w.heap.size w w' := by
  rcases Nat.eq_zero_or_pos len with h | h
  · exact towerSteps_out w hT most ao len cap (.inl h)
  · rcases Nat.lt_or_ge 60 len with h1 | h1
    · exact towerSteps_out w hT most ao len cap (.inr h1)
    · exact towerSteps_any w hT most hm0 hm1 ao len cap nums h h1 hR hU
end Go.Proofs.YtidgnlcokfnhgaaDoor
