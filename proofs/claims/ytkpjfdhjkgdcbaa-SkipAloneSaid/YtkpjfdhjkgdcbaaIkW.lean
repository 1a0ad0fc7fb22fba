/- The walks over ikey.Compare, Right, Entry. -/
import Derived.Test.YtkpjfdhjkgdcbaaIk
import Derived.Test.YtkpjfdhjkgdcbaaRowOps
import Derived.Deep.RegionHeld3

namespace Go.Proofs.Ytkpjfdhjkgdcbaa
open Go.RowKit

set_option maxHeartbeats 400000 in
theorem nan_s (w : World) (a : ByteArray) : Calls Try.prog 83 #[.string a] w fun e w' => e = .returned (.bool false) ∧ w = w' := by
  go_enter Try.func83, Try.ntmps83
  go_wp2
  go_ret
  exact ⟨rfl, rfl⟩
set_option maxHeartbeats 400000 in
theorem nan_u (w : World) (a : Int) : Calls Try.prog 84 #[.int .u64 a] w fun e w' => e = .returned (.bool false) ∧ w = w' := by
  go_enter Try.func84, Try.ntmps84
  go_wp2
  go_ret
  exact ⟨rfl, rfl⟩
set_option maxHeartbeats 400000 in
theorem nan_b (w : World) (a : Int) : Calls Try.prog 85 #[.int .u8 a] w fun e w' => e = .returned (.bool false) ∧ w = w' := by
  go_enter Try.func85, Try.ntmps85
  go_wp2
  go_ret
  exact ⟨rfl, rfl⟩
set_option maxHeartbeats 400000 in
theorem cmpu_any (w : World) (a b : Int) : Calls Try.prog 73 #[.int .u64 a, .int .u64 b] w fun e w' => e = .returned (.int .i64 (cmpI a b)) ∧ w = w' := by
  unfold cmpI
  by_cases h1 : a < b
  · rw [if_pos h1]
    go_enter Try.func73, Try.ntmps73
    go_wp2_with (go_at_call 84; refine (nan_u _ _).mono ?_; rintro e w' ⟨rfl, rfl⟩)
    go_ret
    exact ⟨rfl, rfl⟩
  · rw [if_neg h1]
    by_cases h2 : b < a
    · rw [if_pos h2]
      go_enter Try.func73, Try.ntmps73
      go_wp2_with (go_at_call 84; refine (nan_u _ _).mono ?_; rintro e w' ⟨rfl, rfl⟩)
      go_ret
      exact ⟨rfl, rfl⟩
    · rw [if_neg h2]
      go_enter Try.func73, Try.ntmps73
      go_wp2_with (go_at_call 84; refine (nan_u _ _).mono ?_; rintro e w' ⟨rfl, rfl⟩)
      go_ret
      exact ⟨rfl, rfl⟩
set_option maxHeartbeats 400000 in
theorem cmpb_any (w : World) (a b : Int) : Calls Try.prog 74 #[.int .u8 a, .int .u8 b] w fun e w' => e = .returned (.int .i64 (cmpI a b)) ∧ w = w' := by
  unfold cmpI
  by_cases h1 : a < b
  · rw [if_pos h1]
    go_enter Try.func74, Try.ntmps74
    go_wp2_with (go_at_call 85; refine (nan_b _ _).mono ?_; rintro e w' ⟨rfl, rfl⟩)
    go_ret
    exact ⟨rfl, rfl⟩
  · rw [if_neg h1]
    by_cases h2 : b < a
    · rw [if_pos h2]
      go_enter Try.func74, Try.ntmps74
      go_wp2_with (go_at_call 85; refine (nan_b _ _).mono ?_; rintro e w' ⟨rfl, rfl⟩)
      go_ret
      exact ⟨rfl, rfl⟩
    · rw [if_neg h2]
      go_enter Try.func74, Try.ntmps74
      go_wp2_with (go_at_call 85; refine (nan_b _ _).mono ?_; rintro e w' ⟨rfl, rfl⟩)
      go_ret
      exact ⟨rfl, rfl⟩
set_option maxHeartbeats 400000 in
theorem cmps_any (w : World) (a b : ByteArray) : Calls Try.prog 72 #[.string a, .string b] w fun e w' => e = .returned (.int .i64 (cmpS a b)) ∧ w = w' := by
  unfold cmpS
  cases h1 : Go.Op.bytesLess a.toList b.toList
  · cases h2 : a.toList == b.toList
    · go_enter Try.func72, Try.ntmps72
      go_wp2_with (go_at_call 83; refine (nan_s _ _).mono ?_; rintro e w' ⟨rfl, rfl⟩)
      go_ret
      exact ⟨rfl, rfl⟩
    · go_enter Try.func72, Try.ntmps72
      go_wp2_with (go_at_call 83; refine (nan_s _ _).mono ?_; rintro e w' ⟨rfl, rfl⟩)
      go_ret
      exact ⟨rfl, rfl⟩
  · go_enter Try.func72, Try.ntmps72
    go_wp2_with (go_at_call 83; refine (nan_s _ _).mono ?_; rintro e w' ⟨rfl, rfl⟩)
    go_ret
    exact ⟨rfl, rfl⟩

theorem orI_pos {a b c : Int} (h : a ≠ 0) : orI a b c = a := by rw [orI, if_pos h]
structure OrRel (a b c : Int) (k : Nat) : Prop where
  z0 : 0 < k → a = 0
  z1 : 1 < k → b = 0
  z2 : 2 < k → c = 0
set_option maxRecDepth 100000 in
set_option maxHeartbeats 1000000 in
theorem or_any (w : World) (g : Nat) (a b c : Int) (h0 : w.cell? ⟨g, 0, none⟩ = some (.int .i64 a)) (h1 : w.cell? ⟨g, 1, none⟩ = some (.int .i64 b)) (h2 : w.cell? ⟨g, 2, none⟩ = some (.int .i64 c)) :
    Calls Try.prog 71 #[.slice (some ⟨g, 0, none⟩) 3 3] w fun e w' => e = .returned (.int .i64 (orI a b c)) ∧ w = w' := by
  obtain ⟨r, hr⟩ : ∃ r, orI a b c = r := ⟨_, rfl⟩
  rw [hr]
  have HR := Lib.hid hr
  clear hr
  go_enter Try.func71, Try.ntmps71
  go_wp2
  go_loopw [8] (fun i wx => ∃ k : Nat, k ≤ 3 ∧ i = .int .i64 k ∧ OrRel a b c k ∧ w = wx) (fun i _ => 3 - (intOf i).toNat)
  case atStart => exact ⟨0, by omega, rfl, ⟨by omega, by omega, by omega⟩, rfl⟩
  case round =>
    obtain ⟨k, hk, rfl, ⟨z0, z1, z2⟩, rfl⟩ := hrel
    have hcase : k = 0 ∨ k = 1 ∨ k = 2 ∨ k = 3 := by omega
    have Z0 := Lib.hid z0
    have Z1 := Lib.hid z1
    have Z2 := Lib.hid z2
    clear z0 z1 z2
    rcases hcase with rfl | rfl | rfl | rfl
    · by_cases ha : a = 0
      · have hb : (a != 0) = false := by simp [ha]
        have HA := Lib.hid ha
        clear ha
        go_wp2
        go_roundw
        case rel => exact ⟨1, by omega, by go_num, ⟨fun _ => HA.out, by omega, by omega⟩, by trivial⟩
        case measure => simp [intOf]
      · have hb : (a != 0) = true := by simp [ha]
        have HA := Lib.hid ha
        clear ha
        go_wp2
        go_ret
        exact ⟨by rw [← HR.out, orI, if_pos HA.out]; rfl, rfl⟩
    · by_cases hb0 : b = 0
      · have hb : (b != 0) = false := by simp [hb0]
        have HA := Lib.hid hb0
        clear hb0
        go_wp2
        go_roundw
        case rel => exact ⟨2, by omega, by go_num, ⟨fun _ => Z0.out (by omega), fun _ => HA.out, by omega⟩, by trivial⟩
        case measure => simp [intOf]
      · have hb : (b != 0) = true := by simp [hb0]
        have HA := Lib.hid hb0
        clear hb0
        go_wp2
        go_ret
        exact ⟨by rw [← HR.out, orI, if_neg (by simpa using Z0.out (by omega)), if_pos HA.out]; rfl, rfl⟩
    · by_cases hc0 : c = 0
      · have hb : (c != 0) = false := by simp [hc0]
        have HA := Lib.hid hc0
        clear hc0
        go_wp2
        go_roundw
        case rel => exact ⟨3, by omega, by go_num, ⟨fun _ => Z0.out (by omega), fun _ => Z1.out (by omega), fun _ => HA.out⟩, by trivial⟩
        case measure => simp [intOf]
      · have hb : (c != 0) = true := by simp [hc0]
        have HA := Lib.hid hc0
        clear hc0
        go_wp2
        go_ret
        exact ⟨by rw [← HR.out, orI, if_neg (by simpa using Z0.out (by omega)), if_neg (by simpa using Z1.out (by omega))]; rfl, rfl⟩
    · go_wp2
      go_ret
      exact ⟨by rw [← HR.out, orI, if_neg (by simpa using Z0.out (by omega)), if_neg (by simpa using Z1.out (by omega)), Z2.out (by omega)]; rfl, rfl⟩

def ikC (k : IK) : List Value := [.string k.key, .int .u64 k.seq, .int .u8 k.kind]
set_option maxRecDepth 100000 in
set_option maxHeartbeats 1000000 in
theorem right_any19 (w : World) (k : IK) : Calls Try.prog 59 #[.agg (ikC k).toArray] w fun e w' => e = .returned (.bool k.right) ∧ Below w.heap.size w w' := by
  obtain ⟨W, hW⟩ : ∃ W, w.alloc (.cells (ikC k).toArray 36) = W := ⟨_, rfl⟩
  have k1 : Blk W w.heap.size 36 (ikC k) := by rw [← hW]; exact Blk.new _ _ _
  have hB : Below w.heap.size w W := by rw [← hW]; exact (Below.refl _ _).alloc (Nat.le_refl _) _
  have c0 := k1.cell 0 (v := .string k.key) rfl
  have c1 := k1.cell 1 (v := .int .u64 k.seq) rfl
  have c2 := k1.cell 2 (v := .int .u8 k.kind) rfl
  obtain ⟨n, hn⟩ : ∃ n, k.key.size = n := ⟨_, rfl⟩
  have hlen : k.key.toList = [] ↔ n = 0 := by
    rw [← hn]
    constructor
    · intro h; have := congrArg List.length h; rw [ByteArray.toList_eq] at this; exact this
    · intro h; apply List.eq_nil_of_length_eq_zero; rw [ByteArray.toList_eq]; exact h
  by_cases r0 : n = 0
  · have e : k.right = false := decide_eq_false (by rw [hn]; omega)
    rw [e]
    have hl := hlen.2 r0
    have he : k.key.toList.isEmpty = true := by rw [hl]; rfl
    clear hlen k1 e
    go_enter Try.func59, Try.ntmps59
    go_wp2
    go_ret
    exact ⟨rfl, hB⟩
  have hl : ¬ k.key.toList = [] := fun h => r0 (hlen.1 h)
  have he : k.key.toList.isEmpty = false := by cases h : k.key.toList with | nil => exact absurd h hl | cons _ _ => rfl
  by_cases r1 : n ≤ 64
  · by_cases r2 : k.seq ≤ 72057594037927935
    · by_cases r3 : k.kind ≤ 1
      · have e : k.right = true := decide_eq_true (by rw [hn]; omega)
        rw [e]
        have f1 : (k.key.size : Int) ≤ 64 := by omega
        clear hlen k1 e hn
        go_enter Try.func59, Try.ntmps59
        go_wp2
        go_ret
        exact ⟨rfl, hB⟩
      · have e : k.right = false := decide_eq_false (by rw [hn]; omega)
        rw [e]
        have f1 : (k.key.size : Int) ≤ 64 := by omega
        clear hlen k1 e hn
        go_enter Try.func59, Try.ntmps59
        go_wp2
        go_ret
        exact ⟨rfl, hB⟩
    · have e : k.right = false := decide_eq_false (by rw [hn]; omega)
      rw [e]
      have f1 : (k.key.size : Int) ≤ 64 := by omega
      clear hlen k1 e hn
      go_enter Try.func59, Try.ntmps59
      go_wp2
      go_ret
      exact ⟨rfl, hB⟩
  · have e : k.right = false := decide_eq_false (by rw [hn]; omega)
    rw [e]
    have f1 : ¬ (k.key.size : Int) ≤ 64 := by omega
    clear hlen k1 e hn
    go_enter Try.func59, Try.ntmps59
    go_wp2
    go_ret
    exact ⟨rfl, hB⟩

def enC (e : En) : List Value := [.string e.k.key, .int .u64 e.k.seq, .int .u8 e.k.kind, .string e.val]
theorem infoIk : (Try.prog.info? 36).map (·.size) = some 3 := by kernel_rfl
theorem infoEn : (Try.prog.info? 38).map (·.size) = some 4 := by kernel_rfl
theorem ikC_one (k : IK) : ∀ u ∈ ikC k, u.oneCell' = true := by
  intro u hu
  simp [ikC] at hu
  rcases hu with rfl | rfl | rfl <;> rfl
theorem enC_one (k : En) : ∀ u ∈ enC k, u.oneCell' = true := by
  intro u hu
  simp [enC] at hu
  rcases hu with rfl | rfl | rfl | rfl <;> rfl
set_option maxRecDepth 100000 in
set_option maxHeartbeats 1000000 in
theorem entry_any (w : World) (e : En) : Calls Try.prog 35 #[.agg (enC e).toArray] w fun r w' => r = .returned (.bool e.right) ∧ Below w.heap.size w w' := by
  obtain ⟨W, hW⟩ : ∃ W, w.alloc (.cells (enC e).toArray 38) = W := ⟨_, rfl⟩
  have k1 : Blk W w.heap.size 38 (enC e) := by rw [← hW]; exact Blk.new _ _ _
  have hB : Below w.heap.size w W := by rw [← hW]; exact (Below.refl _ _).alloc (Nat.le_refl _) _
  have c0 := k1.cell 0 (v := .string e.k.key) rfl
  have c1 := k1.cell 1 (v := .int .u64 e.k.seq) rfl
  have c2 := k1.cell 2 (v := .int .u8 e.k.kind) rfl
  have c3 := k1.cell 3 (v := .string e.val) rfl
  have hr := right_any19 W e.k
  have HR := Lib.hid (show Calls Try.prog 59 #[.agg #[.string e.k.key, .int .u64 e.k.seq, .int .u8 e.k.kind]] W fun r w' => r = .returned (.bool e.k.right) ∧ Below W.heap.size W w' from hr)
  obtain ⟨n, hn⟩ : ∃ n, e.val.size = n := ⟨_, rfl⟩
  have hfin : ∀ (b : Bool) (m : Nat), (m = if e.k.kind = 0 then 0 else 256) → e.k.right = b → e.right = (b && decide (n ≤ m)) := fun b m h1 h2 => by rw [En.right, h2, hn, h1]
  have HF := Lib.hid hfin
  clear hr hfin
  cases hb : e.k.right
  · have e1 : e.right = false := by rw [En.right, hb]; rfl
    rw [e1]
    rw [hb] at HR
    clear hb e1
    by_cases hk : e.k.kind = 0
    · have hk2 : (e.k.kind == 0) = true := by simp [hk]
      have HK := Lib.hid hk
      clear hk
      go_enter Try.func35, Try.ntmps35
      go_wp2_with (go_at_call 59; refine HR.out.mono ?_; rintro r w2 ⟨rfl, hB2⟩)
      go_ret
      exact ⟨rfl, hB.trans (hB2.mono hB.size)⟩
    · have hk2 : (e.k.kind == 0) = false := by simp [hk]
      clear hk
      go_enter Try.func35, Try.ntmps35
      go_wp2_with (go_at_call 59; refine HR.out.mono ?_; rintro r w2 ⟨rfl, hB2⟩)
      go_ret
      exact ⟨rfl, hB.trans (hB2.mono hB.size)⟩
  · rw [hb] at HR
    have hB2 : ∀ w2, Below W.heap.size W w2 → w2.cell? ⟨w.heap.size, 3, none⟩ = some (.string e.val) := fun w2 h => (h.cell (p := ⟨w.heap.size, 3, none⟩) k1.lt).trans c3
    by_cases hk : e.k.kind = 0
    · have hk2 : (e.k.kind == 0) = true := by simp [hk]
      have e1 : e.right = decide (n ≤ 0) := by rw [HF.out true 0 (by rw [if_pos hk]) hb]; rfl
      rw [e1]
      clear e1 hb hk HF
      go_enter Try.func35, Try.ntmps35
      go_wp2_with (go_at_call 59; refine HR.out.mono ?_; rintro r w2 ⟨rfl, hB3⟩; have c4 := hB2 w2 hB3)
      go_ret
      exact ⟨(show Ending.returned (.bool (decide (n = 0))) = .returned (.bool (decide (n ≤ 0))) by rw [decide_eq_decide.2 (show n = 0 ↔ n ≤ 0 by omega)]), hB.trans (hB3.mono hB.size)⟩
    · have hk2 : (e.k.kind == 0) = false := by simp [hk]
      have e1 : e.right = decide (n ≤ 256) := by rw [HF.out true 256 (by rw [if_neg hk]) hb]; rfl
      rw [e1]
      clear e1 hb hk HF
      go_enter Try.func35, Try.ntmps35
      go_wp2_with (go_at_call 59; refine HR.out.mono ?_; rintro r w2 ⟨rfl, hB3⟩; have c4 := hB2 w2 hB3)
      go_ret
      exact ⟨(show Ending.returned (.bool (decide ((n : Int) ≤ 256))) = .returned (.bool (decide (n ≤ 256))) by rw [decide_eq_decide.2 (show (n : Int) ≤ 256 ↔ n ≤ 256 by omega)]), hB.trans (hB3.mono hB.size)⟩
end Go.Proofs.Ytkpjfdhjkgdcbaa
