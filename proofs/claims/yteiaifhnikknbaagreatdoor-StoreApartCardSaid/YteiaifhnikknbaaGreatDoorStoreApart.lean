/- Law 22 StoreApart: the walk. -/
import Derived.Test.YteiaifhnikknbaaGreatDoorTurns22
import Derived.Test.YteiaifhnikknbaaGreatDoorMade22
import Derived.Deep.CutBlock

namespace Go.Proofs.YteiaifhnikknbaaGreatDoor
open Go.RowKit

theorem newS_len {K : Cfg} (h1 : 0 ≤ K.lists * skA K.units) (h2 : 0 ≤ K.lists * skP K.units) : ((newS K ⟨[], 0, 0, 0⟩).atomics.length : Int) = 2 + K.lists * skA K.units ∧ ((newS K ⟨[], 0, 0, 0⟩).plains.length : Int) = 65 + K.lists * skP K.units := by
  unfold newS newM Mem.new Mem.put Mem.note
  simp only [List.length_set, List.length_replicate]
  omega
theorem rep_zero {α : Type} (n i : Nat) (x : α) : (List.replicate n x).getD i x = x := by
  rw [List.getD_eq_getElem?_getD, List.getElem?_replicate]
  split <;> rfl
theorem newS_zero (K : Cfg) (i : Int) : (newS K ⟨[], 0, 0, 0⟩).at_ i = 0 ∧ (newS K ⟨[], 0, 0, 0⟩).place i = [] := by
  unfold newS newM Mem.new Mem.put Mem.note Mem.at_ Mem.place
  refine ⟨?_, rep_zero _ _ _⟩
  show ((List.replicate _ (0 : Int)).set _ 0).getD i.toNat 0 = 0
  have : (List.replicate (2 + K.lists * skA K.units).toNat (0 : Int)).set (0 : Int).toNat 0 = List.replicate (2 + K.lists * skA K.units).toNat 0 := by
    apply List.ext_getElem?
    intro j
    rw [List.getElem?_set]
    split
    · rename_i h; subst h; simp only [List.length_replicate, List.getElem?_replicate]
    · rfl
  rw [this]
  exact rep_zero _ _ _
theorem newS_short (K : Cfg) : (newS K ⟨[], 0, 0, 0⟩).Short := ⟨fun b hb => by have := List.eq_of_mem_replicate hb; subst this; exact Nat.zero_le _⟩
/-- StoreApart's configuration. -/
def apK (u l : Int) (hs : List Int) : Cfg := ⟨u, 2, l, 8, true, hs⟩
theorem apK_right (u l : Int) (hs : List Int) (u0 : 7 ≤ u) (u1 : u ≤ 101) (l0 : 2 ≤ l) (l1 : l ≤ 5) (hn : hs.length ≤ 20) : rightB (apK u l hs) = true := by
  have h1 : skA u ≤ 104 := by unfold skA; omega
  have h2 := Int.mul_le_mul l1 h1 (show 0 ≤ skA u by unfold skA; omega) (show (0 : Int) ≤ 5 by decide)
  exact decide_eq_true ⟨by show 6 ≤ u; omega, by show u ≤ 20000; omega, (show (1 : Int) ≤ 2 by decide), (show (2 : Int) ≤ 8 by decide), by show 2 ≤ l; omega, by show l ≤ 64; omega, (show (1 : Int) ≤ 8 by decide), (show (8 : Int) ≤ 32 by decide), by show hs.length ≤ 1000; omega, by show 2 + l * skA u ≤ 100000; omega⟩
set_option maxRecDepth 100000 in
set_option maxHeartbeats 4000000 in
theorem storeApart (w : World) (hT : Tab w) (un ls a b sq : Int) (ao : Option Addr) (c : Nat) (hs : List Int) (u0 : 0 ≤ un) (u1 : un ≤ 255) (l0 : 0 ≤ ls) (l1 : ls ≤ 255) (a0 : 0 ≤ a) (a1 : a ≤ 255) (b0 : 0 ≤ b) (b1 : b ≤ 255) (s0 : 0 ≤ sq) (s1 : sq ≤ 18446744073709551615)
    (hr : Reads w 1 (.slice ao hs.length c) hs.length (u32s hs)) (hc : hs.length ≤ c) (hg : ∀ x ∈ hs, 0 ≤ x ∧ x < 4294967296) :
    Calls Tryz.prog 3 #[.int .u8 un, .int .u8 ls, .int .u8 a, .int .u8 b, .slice ao hs.length c, .int .u64 sq] w fun e w' => e = .returned (.bool true) ∧ Below w.heap.size w w' := by
  obtain ⟨n, hn⟩ : ∃ n, hs.length = n := ⟨_, rfl⟩
  obtain ⟨m, hm', hm1, hm2, hm3⟩ : ∃ m : Nat, (if (20 : Int) < (n : Int) then (20 : Int) else (n : Int)) = (m : Int) ∧ m ≤ n ∧ m ≤ 20 ∧ m = min n 20 := ⟨min n 20, by split <;> omega, by omega, by omega, rfl⟩
  obtain ⟨uu, huu⟩ : ∃ uu : Int, 7 + un % 95 = uu := ⟨_, rfl⟩
  obtain ⟨ll, hll⟩ : ∃ ll : Int, 2 + ls % 4 = ll := ⟨_, rfl⟩
  have huu2 : IntKind.u64.wrap (7 + IntKind.u64.wrap (un.tmod 95)) = uu := (by rw [Int.tmod_eq_emod_of_nonneg u0, IntKind.wrap_u64, IntKind.wrap_u64]; omega)
  have hll2 : IntKind.i64.wrap (2 + IntKind.i64.wrap (ls.tmod 4)) = ll := (by rw [Int.tmod_eq_emod_of_nonneg l0, IntKind.wrap_i64, IntKind.wrap_i64]; omega)
  have HUU := Lib.hid huu2
  have HLL := Lib.hid hll2
  clear huu2 hll2
  have HM := Lib.hid hm'
  have uu0 : 7 ≤ uu ∧ uu ≤ 101 := by omega
  have ll0 : 2 ≤ ll ∧ ll ≤ 5 := by omega
  have hrd : Reads w 1 (.slice ao m c) m (u32s (hs.take m)) := by
    have hl : (u32s (hs.take m)).length = m * 1 := by simp [u32s]; omega
    refine ⟨hl, ?_⟩
    rw [hn] at hr hc
    rcases hr.form with ⟨h0, ao', c', e⟩ | ⟨b', off, c', e, hc', hcell⟩
    · cases e
      have : m = 0 := by omega
      subst this
      exact .inl ⟨rfl, _, _, rfl⟩
    · cases e
      refine .inr ⟨b', off, _, rfl, by omega, fun j u hu => hcell j u ?_⟩
      have : u32s (hs.take m) = (u32s hs).take m := by simp [u32s, List.map_take]
      rw [this, List.getElem?_take] at hu
      split at hu
      · exact hu
      · cases hu
  rw [hn] at hc ⊢
  have HRD := Lib.hid hrd
  have HG := Lib.hid hg
  have HN := Lib.hid hn
  have HM3 := Lib.hid hm3
  have HT := Lib.hid hT
  clear huu hll hm' hrd hg hn hm3 hr hT
  go_enter Tryz.func3, Tryz.ntmps3
  go_upto_region 2 with (first | (go_at_call 4; refine (small_any _).mono ?_; rintro e w1 ⟨sh, rfl, hR1, hB1⟩; obtain ⟨W1, hW1⟩ : ∃ W, w1.alloc (.cells #[.int .u64 0, .int .i64 0, .int .i64 0, .int .i64 0, .bool false, .slice none 0 0] 25) = W := ⟨_, rfl⟩; have kz : Blk W1 w1.heap.size 25 [.int .u64 0, .int .i64 0, .int .i64 0, .int .i64 0, .bool false, .slice none 0 0] := (by rw [← hW1]; exact Blk.new w1 _ _); have hBz : Below w.heap.size w W1 := (by rw [← hW1]; exact hB1.alloc hB1.size _)) | (refine wpList_store_blk rfl 25 _ _ rfl w1.heap.size (cfC smallK sh) (by rfl) (by rfl) [.int .u64 0, .int .i64 0, .int .i64 0, .int .i64 0, .bool false, .slice none 0 0] kz infoCf (by rfl) (by obtain ⟨_, _, e⟩ := hR1.slice; rw [e]; simp [cfC, Value.oneCell']) ?_))
  obtain ⟨W2, hW2⟩ : ∃ W, W1.setRow w1.heap.size (cfC smallK sh).toArray = W := ⟨_, rfl⟩
  have kc0 : Blk W2 w1.heap.size 25 (cfC smallK sh) := by rw [← hW2]; exact kz.setRow _
  have hBc : Below w.heap.size w W2 := by rw [← hW2]; exact below_setRow hBz hB1.size _
  rw [hW2]
  have hbx : w.heap.size ≤ w1.heap.size := hB1.size
  obtain ⟨bx, hbxe⟩ : ∃ bx, w1.heap.size = bx := ⟨_, rfl⟩
  rw [hbxe] at kc0 hbx
  rw [hbxe]
  have kc : Blk W2.drew bx 25 (cfC smallK sh) := kc0.keep rfl
  clear hW2 kz hBz hW1 hR1 hB1 hbxe
  refine wp_region_held_drew (S := (fun _ => True)) (by kernel_rfl) trivial (fun hHeld => ?_)
  refine wpAnyH_take (i := 0) (v := ?_) rfl (by kernel_rfl) (by kernel_rfl) (by kernel_rfl) (fun _ _ _ h => h) (Or.inl ⟨by kernel_rfl, ?_⟩) (by assumption) ?_
  rotate_left
  · (intro w hSw; (try dsimp only at hSw); go_simp; try with_reducible rfl)
  try simp only [Act.put, List.getElem_toArray, List.getElem_cons_zero, List.getElem_cons_succ, List.setIfInBounds_toArray, List.set_cons_zero, List.set_cons_succ]
  refine wpAnyH_take (i := 1) (v := ?_) rfl (by kernel_rfl) (by kernel_rfl) (by kernel_rfl) (fun _ _ _ h => h) (Or.inl ⟨by kernel_rfl, ?_⟩) (by assumption) ?_
  rotate_left
  · (intro w hSw; (try dsimp only at hSw); go_simp; try with_reducible rfl)
  try simp only [Act.put, List.getElem_toArray, List.getElem_cons_zero, List.getElem_cons_succ, List.setIfInBounds_toArray, List.set_cons_zero, List.set_cons_succ]
  refine wpAnyH_take (i := 2) (v := ?_) rfl (by kernel_rfl) (by kernel_rfl) (by kernel_rfl) (fun _ _ _ h => h) (Or.inl ⟨by kernel_rfl, ?_⟩) (by assumption) ?_
  rotate_left
  · (intro w hSw; (try dsimp only at hSw); go_simp; try with_reducible rfl)
  try simp only [Act.put, List.getElem_toArray, List.getElem_cons_zero, List.getElem_cons_succ, List.setIfInBounds_toArray, List.set_cons_zero, List.set_cons_succ]
  refine wpAnyH_take (i := 3) (v := .int .u64 uu) rfl (by kernel_rfl) (by kernel_rfl) (by kernel_rfl) (fun _ _ _ h => h) (Or.inl ⟨by kernel_rfl, ?_⟩) (by assumption) ?_
  · (intro y hSw; (try dsimp only at hSw); go_simp; exact HUU.out)
  try simp only [Act.put, List.getElem_toArray, List.getElem_cons_zero, List.getElem_cons_succ, List.setIfInBounds_toArray, List.set_cons_zero, List.set_cons_succ]
  refine wpAnyH_take (i := 4) (v := ?_) rfl (by kernel_rfl) (by kernel_rfl) (by kernel_rfl) (fun _ _ _ h => h) (Or.inl ⟨by kernel_rfl, ?_⟩) (by assumption) ?_
  rotate_left
  · (intro w hSw; (try dsimp only at hSw); go_simp; try with_reducible rfl)
  try simp only [Act.put, List.getElem_toArray, List.getElem_cons_zero, List.getElem_cons_succ, List.setIfInBounds_toArray, List.set_cons_zero, List.set_cons_succ]
  refine wpAnyH_take (i := 5) (v := ?_) rfl (by kernel_rfl) (by kernel_rfl) (by kernel_rfl) (fun _ _ _ h => h) (Or.inl ⟨by kernel_rfl, ?_⟩) (by assumption) ?_
  rotate_left
  · (intro w hSw; (try dsimp only at hSw); go_simp; try with_reducible rfl)
  try simp only [Act.put, List.getElem_toArray, List.getElem_cons_zero, List.getElem_cons_succ, List.setIfInBounds_toArray, List.set_cons_zero, List.set_cons_succ]
  refine wpAnyH_take (i := 6) (v := ?_) rfl (by kernel_rfl) (by kernel_rfl) (by kernel_rfl) (fun _ _ _ h => h) (Or.inl ⟨by kernel_rfl, ?_⟩) (by assumption) ?_
  rotate_left
  · (intro w hSw; (try dsimp only at hSw); go_simp; try with_reducible rfl)
  try simp only [Act.put, List.getElem_toArray, List.getElem_cons_zero, List.getElem_cons_succ, List.setIfInBounds_toArray, List.set_cons_zero, List.set_cons_succ]
  refine wpAnyH_take (i := 7) (v := .int .i64 ll) rfl (by kernel_rfl) (by kernel_rfl) (by kernel_rfl) (fun _ _ _ h => h) (Or.inl ⟨by kernel_rfl, ?_⟩) (by assumption) ?_
  · (intro y hSw; (try dsimp only at hSw); go_simp; exact HLL.out)
  try simp only [Act.put, List.getElem_toArray, List.getElem_cons_zero, List.getElem_cons_succ, List.setIfInBounds_toArray, List.set_cons_zero, List.set_cons_succ]
  refine wpAnyH_take (i := 8) (v := ?_) rfl (by kernel_rfl) (by kernel_rfl) (by kernel_rfl) (fun _ _ _ h => h) (Or.inl ⟨by kernel_rfl, ?_⟩) (by assumption) ?_
  rotate_left
  · (intro w hSw; (try dsimp only at hSw); go_simp; try with_reducible rfl)
  try simp only [Act.put, List.getElem_toArray, List.getElem_cons_zero, List.getElem_cons_succ, List.setIfInBounds_toArray, List.set_cons_zero, List.set_cons_succ]
  refine wpAnyH_take (i := 9) (v := ?_) rfl (by kernel_rfl) (by kernel_rfl) (by kernel_rfl) (fun _ _ _ h => h) (Or.inl ⟨by kernel_rfl, ?_⟩) (by assumption) ?_
  rotate_left
  · (intro w hSw; (try dsimp only at hSw); go_simp; try with_reducible rfl)
  try simp only [Act.put, List.getElem_toArray, List.getElem_cons_zero, List.getElem_cons_succ, List.setIfInBounds_toArray, List.set_cons_zero, List.set_cons_succ]
  refine wpAnyH_take (i := 10) (v := ?_) rfl (by kernel_rfl) (by kernel_rfl) (by kernel_rfl) (fun _ _ _ h => h) (Or.inl ⟨by kernel_rfl, ?_⟩) (by assumption) ?_
  rotate_left
  · (intro w hSw; (try dsimp only at hSw); go_simp; try with_reducible rfl)
  try simp only [Act.put, List.getElem_toArray, List.getElem_cons_zero, List.getElem_cons_succ, List.setIfInBounds_toArray, List.set_cons_zero, List.set_cons_succ]
  refine wpAnyH_take (i := 11) (v := .int .i64 (m : Int)) rfl (by kernel_rfl) (by kernel_rfl) (by kernel_rfl) (fun _ _ _ h => h) (Or.inl ⟨by kernel_rfl, ?_⟩) (by assumption) ?_
  · (intro y hSw; (try dsimp only at hSw); have hmm := HM.out; go_simp; try with_reducible rfl)
  try simp only [Act.put, List.getElem_toArray, List.getElem_cons_zero, List.getElem_cons_succ, List.setIfInBounds_toArray, List.set_cons_zero, List.set_cons_succ]
  refine wpAnyH_take (i := 12) (v := .slice ao m c) rfl (by kernel_rfl) (by kernel_rfl) (by kernel_rfl) (fun _ _ _ h => h) (Or.inl ⟨by kernel_rfl, ?_⟩) (by assumption) ?_
  · (intro y hSw; (try dsimp only at hSw); go_simp; intro hcm; exfalso; omega)
  try simp only [Act.put, List.getElem_toArray, List.getElem_cons_zero, List.getElem_cons_succ, List.setIfInBounds_toArray, List.set_cons_zero, List.set_cons_succ]
  refine wpAnyH_take (i := 13) (v := ?_) rfl (by kernel_rfl) (by kernel_rfl) (by kernel_rfl) (fun _ _ _ h => h) (Or.inl ⟨by kernel_rfl, ?_⟩) (by assumption) ?_
  rotate_left
  · (intro w hSw; (try dsimp only at hSw); go_simp; try with_reducible rfl)
  try simp only [Act.put, List.getElem_toArray, List.getElem_cons_zero, List.getElem_cons_succ, List.setIfInBounds_toArray, List.set_cons_zero, List.set_cons_succ]
  refine wpAnyH_ready (rs := [14]) (by kernel_rfl) (by simp) ?_
  refine AllReadyH.cons rfl (fun KK hKK => ?_) AllReadyH.nil
  have g0 := kc.cell 0 (v := .int .u64 60) rfl
  have f0 := kc.frozen 0
  go_simp
  refine hKK.out _ _ trivial (fun hHeld1 => ?_)
  clear hKK KK hHeld
  try simp only [Act.put, List.getElem_toArray, List.getElem_cons_zero, List.getElem_cons_succ, List.setIfInBounds_toArray, List.set_cons_zero, List.set_cons_succ]
  refine wpAnyH_take (i := 15) (v := ?_) rfl (by kernel_rfl) (by kernel_rfl) (by kernel_rfl) (fun _ _ _ h => h) (Or.inl ⟨by kernel_rfl, ?_⟩) (by assumption) ?_
  rotate_left
  · (intro w hSw; (try dsimp only at hSw); go_simp; try with_reducible rfl)
  try simp only [Act.put, List.getElem_toArray, List.getElem_cons_zero, List.getElem_cons_succ, List.setIfInBounds_toArray, List.set_cons_zero, List.set_cons_succ]
  refine wpAnyH_ready (rs := [16]) (by kernel_rfl) (by simp) ?_
  refine AllReadyH.cons rfl (fun KK hKK => ?_) AllReadyH.nil
  have k2 : Blk (W2.setCell ⟨bx, 0, none⟩ (.int .u64 uu)).drew bx _ _ := kc.set 0 (.int .u64 uu)
  have g0 := k2.cell 2 (v := .int .i64 3) rfl
  have f0 := k2.frozen 2
  go_simp
  refine hKK.out _ _ trivial (fun hHeld2 => ?_)
  clear hKK KK hHeld1
  try simp only [Act.put, List.getElem_toArray, List.getElem_cons_zero, List.getElem_cons_succ, List.setIfInBounds_toArray, List.set_cons_zero, List.set_cons_succ]
  refine wpAnyH_take (i := 17) (v := ?_) rfl (by kernel_rfl) (by kernel_rfl) (by kernel_rfl) (fun _ _ _ h => h) (Or.inl ⟨by kernel_rfl, ?_⟩) (by assumption) ?_
  rotate_left
  · (intro w hSw; (try dsimp only at hSw); go_simp; try with_reducible rfl)
  try simp only [Act.put, List.getElem_toArray, List.getElem_cons_zero, List.getElem_cons_succ, List.setIfInBounds_toArray, List.set_cons_zero, List.set_cons_succ]
  refine wpAnyH_ready (rs := [18]) (by kernel_rfl) (by simp) ?_
  refine AllReadyH.cons rfl (fun KK hKK => ?_) AllReadyH.nil
  have k3 : Blk ((W2.setCell ⟨bx, 0, none⟩ (.int .u64 uu)).setCell ⟨bx, 2, none⟩ (.int .i64 ll)).drew bx _ _ := k2.set 2 (.int .i64 ll)
  have g0 := k3.cell 5 (v := sh) rfl
  have f0 := k3.frozen 5
  go_simp
  refine hKK.out _ _ trivial (fun hHeld3 => ?_)
  clear hKK KK hHeld2
  try simp only [Act.put, List.getElem_toArray, List.getElem_cons_zero, List.getElem_cons_succ, List.setIfInBounds_toArray, List.set_cons_zero, List.set_cons_succ]
  refine wpAnyH_done (by kernel_rfl) ?_ _

  have k4 : Blk (((W2.setCell ⟨bx, 0, none⟩ (.int .u64 uu)).setCell ⟨bx, 2, none⟩ (.int .i64 ll)).setCell ⟨bx, 5, none⟩ (.slice ao m c)).drew bx 25 (cfC (apK uu ll (hs.take m)) (.slice ao m c)) := k3.set 5 (.slice ao m c)
  obtain ⟨W5, hW5⟩ : ∃ W, (((W2.setCell ⟨bx, 0, none⟩ (.int .u64 uu)).setCell ⟨bx, 2, none⟩ (.int .i64 ll)).setCell ⟨bx, 5, none⟩ (.slice ao m c)).drew = W := ⟨_, rfl⟩
  rw [hW5] at k4
  have k5 : Blk W5 bx 25 (cfC (apK uu ll (hs.take m)) (.slice ao m c)) := k4
  have hB5 : Below w.heap.size w W5 := by rw [← hW5]; exact ((((hBc).setCell hbx _).setCell hbx _).setCell hbx _).drew
  rw [hW5]
  clear hW5 k4 k3 k2 kc kc0 hBc
  obtain ⟨K, hK⟩ : ∃ K, apK uu ll (hs.take m) = K := ⟨_, rfl⟩
  have hKl : K.lists = ll := by rw [← hK]; rfl
  have hKu : K.units = uu := by rw [← hK]; rfl
  have hKh : K.heights = hs.take m := by rw [← hK]; rfl
  have hKn : (hs.take m).length = m := by have := HN.out; rw [List.length_take]; omega
  have hKr : rightB K = true := by rw [← hK]; exact apK_right uu ll _ uu0.1 uu0.2 ll0.1 ll0.2 (by rw [hKn]; exact hm2)
  have k5' : Blk W5 bx 25 (cfC K (.slice ao m c)) := by rw [← hK]; exact k5
  have hmd := made_yes hKr (w := W5) (sh := .slice ao m c) (by rw [hKh, hKn]; exact HRD.out.below hB5)
  have HMD := Lib.hid hmd
  have HKL := Lib.hid hKl
  have HKU := Lib.hid hKu
  have HKH := Lib.hid hKh
  have HKN := Lib.hid hKn
  have HKE := Lib.hid hK
  clear k5 hmd hKl hKu hKh hKn hKr hK
  go_upto_region 6 with (first | (refine wpList_load_blk rfl 25 _ rfl bx (by rfl) (cfC K (.slice ao m c)) k5' _ Tryz.underlying25 rfl infoCf ?_) | (go_at_call 5; refine HMD.out.mono ?_; rintro e w3 ⟨B, q, A, O, rfl, hBb, hS3, hB3⟩))
  have k6 := k5'.keep (hB3.block _ k5'.lt)
  have hbB : bx < B := Nat.lt_of_lt_of_le k5'.lt hBb
  have hB6 := hB5.trans (hB3.mono hB5.size)
  obtain ⟨xi, hxi⟩ : ∃ xi : Nat, a % ll = (xi : Int) := ⟨(a % ll).toNat, by have := Int.emod_nonneg a (b := ll) (by omega); omega⟩
  obtain ⟨yi, hyi⟩ : ∃ yi : Nat, b % ll = (yi : Int) := ⟨(b % ll).toNat, by have := Int.emod_nonneg b (b := ll) (by omega); omega⟩
  have hx1 : (xi : Int) < ll := by have := Int.emod_lt_of_pos a (b := ll) (by omega); omega
  have hy1 : (yi : Int) < ll := by have := Int.emod_lt_of_pos b (b := ll) (by omega); omega
  have hxt : a.tmod ll = (xi : Int) := by rw [Int.tmod_eq_emod_of_nonneg a0, hxi]
  have hyt : b.tmod ll = (yi : Int) := by rw [Int.tmod_eq_emod_of_nonneg b0, hyi]
  have wa : IntKind.i64.wrap a = a := by rw [IntKind.wrap_i64]; omega
  have wb : IntKind.i64.wrap b = b := by rw [IntKind.wrap_i64]; omega
  have hl0 : (ll == 0) = false := by rw [beq_eq_false_iff_ne]; omega
  have hl1 : ¬ ll = 0 := by omega
  have c2 : w3.cell? ⟨bx, 2, none⟩ = some (.int .i64 ll) := k6.cell 2 (by rw [← HKL.out]; rfl)
  have HS3 := Lib.hid hS3
  have HB6 := Lib.hid hB6
  have HK6 := Lib.hid k6
  clear hS3 hB6 k6 hB3 hBb HMD k5' hB5 hxi hyi
  go_cut [16, 17] (fun s16 s17 wx => s16 = .int .i64 (xi : Int) ∧ s17 = .int .i64 (yi : Int) ∧ ∃ N, wx = w3.drewN N)
  case first =>
    go_quiet (fail)
    go_wp2_with fail
    all_goals go_meet
    exact ⟨rfl, rfl, _, rfl⟩
  case rest =>
  obtain ⟨rfl, rfl, N, hwN⟩ := hcut
  obtain ⟨w4, hw4⟩ : ∃ z, z = wc := ⟨_, rfl⟩
  subst hw4
  have hBN : Below w3.heap.size w3 w4 := by rw [hwN]; exact ⟨rfl, rfl, rfl, Nat.le_refl _, fun _ _ => rfl⟩
  have hS4 := HS3.out.below hBN
  have k4 : Blk w4 bx 25 (cfC K (.slice ao m c)) := HK6.out.keep (by rw [hwN]; rfl)
  have hB4 := HB6.out.trans (hBN.mono HB6.out.size)
  clear hwN
  have c2' : w4.cell? ⟨bx, 2, none⟩ = some (.int .i64 ll) := k4.cell 2 (by rw [← HKL.out]; rfl)
  have hlen := hS4.st.len
  rw [HKL.out] at hlen
  obtain ⟨kx, hkx⟩ : ∃ kx, q.ks[xi]? = some kx := ⟨_, List.getElem?_eq_getElem (by omega)⟩
  obtain ⟨ky, hky⟩ : ∃ ky, q.ks[yi]? = some ky := ⟨_, List.getElem?_eq_getElem (by omega)⟩
  have hl64 : K.lists ≤ 64 := by rw [HKL.out]; omega
  have HL1 := Lib.hid (slist_out hS4 (-1) (.inl (by decide)))
  have HL2 := Lib.hid (slist_out hS4 ll (.inr (by rw [HKL.out]; exact Int.le_refl _)))
  have HL3 := Lib.hid (slist_yes hS4 xi kx hkx hl64)
  have HL4 := Lib.hid (slist_yes hS4 yi ky hky hl64)
  have hht := sheight_any hS4 (HT.out.later hB4) (by rw [HKH.out]; exact fun z hz => HG.out z (List.mem_of_mem_take hz)) (by rw [HKH.out, HKN.out]; omega) sq s0 s1
  obtain ⟨H, hH⟩ : ∃ H, stHeight K sq = H := ⟨_, rfl⟩
  have hHr : 1 ≤ H ∧ H ≤ 6 ∧ (m = 0 → H = 1) := by
    rw [← hH]
    unfold stHeight
    split
    · exact ⟨Int.le_refl 1, by decide, fun _ => rfl⟩
    · rename_i hne
      have := hgt_bd (x := K.heights.getD (sq % K.heights.length).toNat 0) (m := 6) (by decide)
      refine ⟨this.1, this.2, fun h0 => absurd ?_ hne⟩
      rw [HKH.out, h0]; rfl
  rw [hH] at hht
  have HHT := Lib.hid hht
  have HS4 := Lib.hid hS4
  have HB4 := Lib.hid hB4
  have HK4 := Lib.hid k4
  have HKX := Lib.hid hkx
  have c5' := k4.cell 5 (v := .slice ao m c) rfl
  have c0' : w4.cell? ⟨bx, 0, none⟩ = some (.int .u64 uu) := k4.cell 0 (by rw [← HKU.out]; rfl)
  clear hht hS4 hB4 k4 hBN hlen hkx hky hl64 hH HS3 HB6 HK6 c2
  go_upto_region 9 with (first | (go_at_call 6; have q := HL1.out; clear HL1; refine q.mono ?_; clear q; rintro e w' ⟨rfl, rfl⟩) | (go_at_call 6; have q := HL2.out; clear HL2; refine q.mono ?_; clear q; rintro e w' ⟨rfl, rfl⟩) | (go_at_call 6; have q := HL3.out; clear HL3; refine q.mono ?_; clear q; rintro e w' ⟨rfl, rfl⟩) | (go_at_call 6; have q := HL4.out; clear HL4; refine q.mono ?_; clear q; rintro e w' ⟨rfl, rfl⟩))
  go_upto_region 10 with (go_at_call 7; have q := HHT.out; clear HHT; refine q.mono ?_; clear q; rintro e w5 ⟨rfl, hq5⟩)
  have hB5 : Below w4.heap.size w4 w5 := hq5.below _
  have d5 : w5.cell? ⟨bx, 5, none⟩ = some (.slice ao m c) := (HK4.out.keep (hB5.block _ HK4.out.lt)).cell 5 rfl
  clear c5' c2' c0'
  go_cut [104] (fun s104 wx => s104 = .bool false ∧ wx = w5)
  case first =>
    have h1 : ¬ H < 1 := by omega
    have h2 : ¬ H > 6 := by omega
    by_cases hm0 : m = 0
    · subst hm0
      have hH1 := hHr.2.2 rfl
      subst hH1
      clear hHr
      go_wp2_with fail
      go_meet
      exact ⟨rfl, rfl⟩
    · have hmb : ((m : Int) == 0) = false := by rw [beq_eq_false_iff_ne]; omega
      have hmc : ¬ (m : Int) = 0 := by omega
      clear hHr
      go_wp2_with fail
      go_meet
      exact ⟨rfl, rfl⟩
  case rest =>
  obtain ⟨rfl, rfl⟩ := hcut
  obtain ⟨w6, hw6⟩ : ∃ z, z = wc := ⟨_, rfl⟩
  subst hw6
  obtain ⟨W7, hW7⟩ : ∃ W, w6.alloc (.cells #[.string ⟨#[]⟩, .int .u64 0, .int .u8 0, .string ⟨#[]⟩] 36) = W := ⟨_, rfl⟩
  have kz : Blk W7 w6.heap.size 36 [.string ⟨#[]⟩, .int .u64 0, .int .u8 0, .string ⟨#[]⟩] := by rw [← hW7]; exact Blk.new w6 _ _
  go_upto_region 13 with (refine wpList_store_blk rfl 36 _ _ rfl w6.heap.size (enC kEnt) (by rfl) (by rfl) [.string ⟨#[]⟩, .int .u64 0, .int .u8 0, .string ⟨#[]⟩] kz infoEn19 (by rfl) (by simp [enC, kEnt, Value.oneCell']) ?_)
  have hS5 := HS4.out.below hB5
  have hS6 := hS5.var (.cells #[.string ⟨#[]⟩, .int .u64 0, .int .u8 0, .string ⟨#[]⟩] 36) (enC kEnt).toArray
  have hB46 := HB4.out.trans (hB5.mono HB4.out.size)
  rw [hW7] at hS6
  obtain ⟨W8, hW8⟩ : ∃ W, W7.setRow w6.heap.size (enC kEnt).toArray = W := ⟨_, rfl⟩
  have ke0 : Blk W8 w6.heap.size 36 (enC kEnt) := by rw [← hW8]; exact kz.setRow _
  have hB68 : Below w6.heap.size w6 W8 := by rw [← hW8, ← hW7]; exact below_setRow ((Below.refl _ _).alloc (Nat.le_refl _) _) (Nat.le_refl _) _
  rw [hW8] at hS6
  rw [hW8]
  obtain ⟨e0, he0⟩ : ∃ e0, w6.heap.size = e0 := ⟨_, rfl⟩
  have HB8 := Lib.hid (hB46.trans (hB68.mono hB46.size))
  have k8 := (HK4.out.keep (hB5.block _ HK4.out.lt)).keep (hB68.block _ (Nat.lt_of_lt_of_le HK4.out.lt hB5.size))
  rw [he0] at hS6 ke0
  rw [he0]
  have ke : Blk W8.drew e0 36 (enC kEnt) := ke0.keep rfl
  have HS6 := Lib.hid (hS6.below (w' := W8.drew) ⟨rfl, rfl, rfl, Nat.le_refl _, fun _ _ => rfl⟩)
  have k9 : Blk W8.drew bx 25 (cfC K (.slice ao m c)) := k8.keep rfl
  have HB9 := Lib.hid (show Below w.heap.size w W8.drew from HB8.out.drew)
  clear hS6 ke0 hW8 hW7 kz hB68 he0 hB46 hS5 d5 hB5 HB8 k8
  have u6 : 6 ≤ K.units ∧ K.units ≤ 20000 := by rw [HKU.out]; omega
  have n1 : 0 ≤ K.lists * skA K.units := Int.mul_nonneg (by rw [HKL.out]; omega) (by unfold skA; omega)
  have n2 : 0 ≤ K.lists * skP K.units := Int.mul_nonneg (by rw [HKL.out]; omega) (by unfold skP; omega)
  have hns := newS_len n1 n2
  have HPUT := Lib.hid (stput HS6.out (fun i => (newS_zero K i).1) (fun i => (newS_zero K i).2) (by show 1 ≤ 10; decide) (newS_short K) u6.1 u6.2 hns.1 hns.2 xi kx HKX.out)
  clear hns n1 n2 u6
  refine wp_region_held_drew (S := (fun x => Blk x e0 36 (enC kEnt))) (by kernel_rfl) ke (fun hHeld => ?_)
  refine wpAnyH_take (i := 0) (v := ?_) rfl (by kernel_rfl) (by kernel_rfl) (by kernel_rfl) (fun _ _ _ h => h) (Or.inl ⟨by kernel_rfl, ?_⟩) (by assumption) ?_
  rotate_left
  · (intro w hSw; (try dsimp only at hSw); go_simp; try with_reducible rfl)
  try simp only [Act.put, List.getElem_toArray, List.getElem_cons_zero, List.getElem_cons_succ, List.setIfInBounds_toArray, List.set_cons_zero, List.set_cons_succ]
  refine wpAnyH_take (i := 1) (v := ?_) rfl (by kernel_rfl) (by kernel_rfl) (by kernel_rfl) (fun _ _ _ h => h) (Or.inl ⟨by kernel_rfl, ?_⟩) (by assumption) ?_
  rotate_left
  · (intro w hSw; (try dsimp only at hSw); go_simp; try with_reducible rfl)
  try simp only [Act.put, List.getElem_toArray, List.getElem_cons_zero, List.getElem_cons_succ, List.setIfInBounds_toArray, List.set_cons_zero, List.set_cons_succ]
  refine wpAnyH_take (i := 3) (v := .agg (enC kEnt).toArray) rfl (by kernel_rfl) (by kernel_rfl) (by kernel_rfl) (fun _ _ _ h => h) (yieldsIf_load_blk (by kernel_rfl) 36 (.tmp 19) (by rfl) e0 (by rfl) (enC kEnt) (fun w h => h) _ Tryz.underlying36 (by rfl) infoEn19) (by assumption) ?_
  try simp only [Act.put, List.getElem_toArray, List.getElem_cons_zero, List.getElem_cons_succ, List.setIfInBounds_toArray, List.set_cons_zero, List.set_cons_succ]
  refine wpAnyH_ready (rs := [2]) (by kernel_rfl) (by simp) ?_
  refine AllReadyH.cons rfl (fun KK hKK => ?_) AllReadyH.nil
  go_simp
  refine (slist_yes HS6.out xi kx HKX.out (by rw [HKL.out]; omega)).mono ?_
  rintro e y1 ⟨rfl, rfl⟩
  refine hKK.out _ _ ke (fun hHeld1 => ?_)
  clear hKK KK hHeld
  try simp only [Act.put, List.getElem_toArray, List.getElem_cons_zero, List.getElem_cons_succ, List.setIfInBounds_toArray, List.set_cons_zero, List.set_cons_succ]
  refine wpAnyH_ready (rs := [4]) (by kernel_rfl) (by simp) ?_
  refine AllReadyH.cons rfl (fun KK hKK => ?_) AllReadyH.nil
  go_simp
  have q := HPUT.out
  refine q.mono ?_
  clear q
  rintro e y2 ⟨rfl, S2, hS7, hLS, hO7, htr7⟩
  have ke2 := ke.keep (hO7.block _ ke.lt (fun h => h.2 rfl))
  refine hKK.out _ _ ke2 (fun hHeld2 => ?_)
  clear hKK KK hHeld1
  try simp only [Act.put, List.getElem_toArray, List.getElem_cons_zero, List.getElem_cons_succ, List.setIfInBounds_toArray, List.set_cons_zero, List.set_cons_succ]
  refine wpAnyH_take (i := 5) (v := .bool false) rfl (by kernel_rfl) (by kernel_rfl) (by kernel_rfl) (fun _ _ _ h => h) (Or.inl ⟨by kernel_rfl, ?_⟩) (by assumption) ?_
  · (intro y hSw; (try dsimp only at hSw); go_simp; try with_reducible rfl)
  try simp only [Act.put, List.getElem_toArray, List.getElem_cons_zero, List.getElem_cons_succ, List.setIfInBounds_toArray, List.set_cons_zero, List.set_cons_succ]
  refine wpAnyH_done (by kernel_rfl) ?_ _

  have hbA : ¬ (fun k => A k ∧ k ≠ e0) bx := fun h => by have := HS6.out.base bx h; omega
  have k10 := k9.keep (hO7.block _ k9.lt hbA)
  have e2 : y2.cell? ⟨bx, 2, none⟩ = some (.int .i64 ll) := k10.cell 2 (by rw [← HKL.out]; rfl)
  have HB10 := Lib.hid (HB9.out.trans ((HS6.out.up hO7).mono (by omega)))
  have HS7 := Lib.hid hS7
  have HLS := Lib.hid hLS
  have HK10 := Lib.hid k10
  clear hS7 hLS k10 k9 hO7 ke ke2 HPUT HB9 HS6 hbA
  go_wp2_with fail
  obtain ⟨A', hA'⟩ : ∃ A', (fun k => A k ∧ k ≠ e0) = A' := ⟨_, rfl⟩
  rw [hA'] at HS7
  clear hA'
  go_loopw [115] (fun s115 wr => ∃ (i : Nat) (S : Mem), (i : Int) ≤ ll ∧ s115 = .int .i64 i ∧ Sx B wr q K ⟨66, false, 0, fun _ => none⟩ S (newG ⟨[], 0, 0, 0⟩ 1) A' O ∧ LS K q xi S ∧ S.trace.length ≤ 1000000 + 10 * i ∧ Blk wr bx 25 (cfC K (.slice ao m c)) ∧ Below w.heap.size w wr) (fun s115 _ => 100 - (intOf s115).toNat)
  case atStart => exact ⟨0, S2, by omega, rfl, HS7.out, HLS.out, htr7, HK10.out, HB10.out⟩
  case round =>
    obtain ⟨i, S, hi, rfl, hS, hL, htr, hk, hB⟩ := hrel
    by_cases hlt : (i : Int) < ll
    · have hll := hS.st.len
      rw [HKL.out] at hll
      obtain ⟨kn, hkn⟩ : ∃ kn, q.ks[i]? = some kn := ⟨_, List.getElem?_eq_getElem (by omega)⟩
      have u6 : 6 ≤ K.units ∧ K.units ≤ 20000 := by rw [HKU.out]; omega
      have lx := hS.lx hL.short u6.1 u6.2 hL.la hL.lp i kn hkn
      have hku : kn.units = uu := by rw [(hS.st.ks i kn hkn).2.2.2, ← HKU.out]; rfl
      obtain ⟨xv, hxv⟩ : ∃ xv : Int, (if i = xi then (1 : Int) else 0) = xv := ⟨_, rfl⟩
      obtain ⟨av, hav⟩ : ∃ av : Int, (if i = xi then (6 : Int) else 0) = av := ⟨_, rfl⟩
      have hx2 : (0 ≤ xv ∧ xv ≤ 1) ∧ 0 ≤ av ∧ av ≤ 6 := by rw [← hxv, ← hav]; split <;> decide
      have hnx := lnext_any lx (by unfold trMax; omega) 0 0 0 (by decide) (by decide) (by decide) (by omega) (by decide) (by decide) xv ((hL.next i kn hkn).trans hxv) hx2.1.1 (by omega)
      have HNX := Lib.hid hnx
      have HLY := Lib.hid (slist_yes hS i kn hkn (by rw [HKL.out]; omega))
      have HSS := Lib.hid hS
      have HKN2 := Lib.hid hkn
      have HLL2 := Lib.hid hL
      have HKK := Lib.hid hk
      have HBB := Lib.hid hB
      have HXV := Lib.hid hxv
      have HAV := Lib.hid hav
      have HKUU := Lib.hid hku
      have HTR := Lib.hid htr
      clear hll u6 lx hku hxv hav hnx hS hkn hL hk hB htr e2
      go_upto_region 20 with (first | (go_at_call 6; have q := HLY.out; clear HLY; refine q.mono ?_; clear q; rintro e w' ⟨rfl, rfl⟩) | (go_at_call 9; have q := HNX.out; clear HNX; refine q.mono ?_; clear q; rintro e y3 ⟨rfl, hC3, hO3⟩; have hS3 := HSS.out.mem hC3 hO3 (by simp [Mem.note]); have HL5 := Lib.hid (slist_yes hS3 i kn HKN2.out (by rw [HKL.out]; omega)); have u6 : 6 ≤ K.units ∧ K.units ≤ 20000 := (by rw [HKU.out]; omega); have hL3 := HLL2.out.note ⟨0, 1, cellI kn 0 0⟩; have lx3 := hS3.lx hL3.short u6.1 u6.2 hL3.la hL3.lp i kn HKN2.out; have hlf := lleft_any lx3 (by have := HTR.out; show (_ ++ _ : List Acc).length < trMax; rw [List.length_append, List.length_singleton]; unfold trMax; omega) 0 (by decide) (by decide) av ((hL3.asked i kn HKN2.out).trans HAV.out) hx2.2.1 (uu - av) (by rw [HKUU.out]; exact if_pos (by omega)); have HLF := Lib.hid hlf; clear hlf u6 lx3) | (go_at_call 6; have q := HL5.out; clear HL5; refine q.mono ?_; clear q; rintro e w' ⟨rfl, rfl⟩) | (go_at_call 10; have q := HLF.out; clear HLF; refine q.mono ?_; clear q; rintro e y4 ⟨rfl, hC4, hO4⟩; have hS4 := hS3.mem hC4 hO4 (by simp [Mem.note])))
      have hbA : ¬ A' bx := fun h => by have := HSS.out.base bx h; omega
      have k3 := HKK.out.keep (hO3.block _ HKK.out.lt hbA)
      have k4 := k3.keep (hO4.block _ k3.lt hbA)
      have z0 : y4.cell? ⟨bx, 0, none⟩ = some (.int .u64 uu) := k4.cell 0 (by rw [← HKU.out]; rfl)
      have hB3 := HBB.out.trans ((HSS.out.up hO3).mono (by omega))
      have HB4' := Lib.hid (hB3.trans ((hS3.up hO4).mono (by omega)))
      have HS4' := Lib.hid hS4
      have HK4' := Lib.hid k4
      have HTR4 : (S.note ⟨0, 1, cellI kn 0 0⟩ |>.note ⟨0, 1, kn.first⟩).trace.length ≤ 1000000 + 10 * (i + 1) := by
        have := HTR.out
        show ((_ ++ _ : List Acc) ++ _).length ≤ _
        rw [List.length_append, List.length_append, List.length_singleton, List.length_singleton]
        omega
      have HTR5 := Lib.hid HTR4
      clear hS4 hS3 hB3 k3 k4 hC3 hC4 hO3 hO4 HTR4 HKK HBB HSS HTR hbA
      by_cases hix : i = xi
      · subst hix
        have hx1' : xv = 1 := by rw [← HXV.out, if_pos rfl]
        have ha1' : av = 6 := by rw [← HAV.out, if_pos rfl]
        subst hx1'
        subst ha1'
        clear HXV HAV
        go_wp2_with fail
        go_roundw
        case rel => exact ⟨i + 1, _, by omega, by go_num, HS4'.out, (HLL2.out.note _).note _, HTR5.out, HK4'.out, HB4'.out⟩
        case measure => simp [intOf]; omega
      · have hx1' : xv = 0 := by rw [← HXV.out, if_neg hix]
        have ha1' : av = 0 := by rw [← HAV.out, if_neg hix]
        subst hx1'
        subst ha1'
        have hne : ((i : Int) == (xi : Int)) = false := by rw [beq_eq_false_iff_ne]; omega
        have hne2 : ¬ (i : Int) = (xi : Int) := by omega
        clear HXV HAV
        go_wp2_with fail
        go_roundw
        case rel => exact ⟨i + 1, _, by omega, by go_num, HS4'.out, (HLL2.out.note _).note _, HTR5.out, HK4'.out, HB4'.out⟩
        case measure => simp [intOf]; omega
    · have hla := hL.la
      have n1 : 0 ≤ K.lists * skA K.units := Int.mul_nonneg (by rw [HKL.out]; omega) (by unfold skA; rw [HKU.out]; omega)
      have hld := load_to hS.cells hS.fresh (by have : (i : Int) ≤ 5 := (by omega); unfold trMax; omega) 0 0 (decide_eq_true (by omega)) 0 _ hL.z0 rfl
      have HLD := Lib.hid hld
      have HSS := Lib.hid hS
      have HLL2 := Lib.hid hL
      have HBB := Lib.hid hB
      have HTR := Lib.hid htr
      have HLA := Lib.hid hla
      have HN1 := Lib.hid n1
      clear hld hS hL hB hk htr e2 hla n1
      go_wp2_with (first | (go_at_call 11; refine (scells_any HSS.out).mono ?_; rintro e w' ⟨rfl, rfl⟩) | (go_at_call 12; have q := HLD.out; clear HLD; refine q.mono ?_; clear q; rintro e y5 ⟨rfl, hC5, hO5⟩; have hS5 := HSS.out.mem hC5 hO5 (by simp [Mem.note]); have hld := load_to hS5.cells hS5.fresh (by have := HTR.out; have : (i : Int) ≤ 5 := (by omega); show (_ ++ _ : List Acc).length < trMax; rw [List.length_append, List.length_singleton]; unfold trMax; omega) 0 1 (decide_eq_true (by have := HLA.out; have := HN1.out; show _ ∧ _ ∧ _; simp only [Mem.note]; omega)) 0 _ HLL2.out.z1 rfl; have HLD2 := Lib.hid hld; have HB5 := Lib.hid (HBB.out.trans ((HSS.out.up hO5).mono (by omega))); have hub := hS5; clear hld) | (go_at_call 11; refine (scells_any hS5).mono ?_; rintro e w' ⟨rfl, rfl⟩) | (go_at_call 12; have q := HLD2.out; clear HLD2; refine q.mono ?_; clear q; rintro e y6 ⟨rfl, hC6, hO6⟩; have HB6 := Lib.hid (HB5.out.trans ((hS5.up hO6).mono (by omega)))) | (go_at_call 13; refine (awake22 _ (HT.out.later HB6.out)).mono ?_; rintro e y7 ⟨rfl, hB7⟩))
      go_ret
      exact ⟨rfl, HB6.out.trans (hB7.mono HB6.out.size)⟩
end Go.Proofs.YteiaifhnikknbaaGreatDoor
