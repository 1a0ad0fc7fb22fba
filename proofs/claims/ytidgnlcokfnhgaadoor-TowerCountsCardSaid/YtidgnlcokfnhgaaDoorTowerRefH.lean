/- The reference's heights of many numbers: the walk. -/
import Derived.Test.YtidgnlcokfnhgaaDoorTowerRef
namespace Go.Proofs.YtidgnlcokfnhgaaDoor
open Go.RowKit

def u32s (l : List Int) : List Value := l.map (Value.int .u32)
theorem Reads.u32 {w : World} {n b off c : Nat} {l : List Int} (h : Reads w 1 (.slice (some ⟨b, off, none⟩) n c) n (u32s l)) (k : Nat) (hk : k < l.length) :
    w.cell? ⟨b, off + k, none⟩ = some (.int .u32 (l.getD k 0)) := by
  have hl := h.len
  simp only [u32s, List.length_map] at hl
  rcases h.form with ⟨rfl, _⟩ | ⟨b', off', c', e, _, hr⟩
  · omega
  · cases e
    exact hr k _ (by simp [u32s, List.getElem?_eq_getElem hk])
/-- Numbers of 32 bits. -/
def U32s (l : List Int) : Prop := ∀ x ∈ l, 0 ≤ x ∧ x < 4294967296
theorem U32s.get {l : List Int} (h : U32s l) {i : Nat} (hi : i < l.length) : 0 ≤ l.getD i 0 ∧ l.getD i 0 < 4294967296 := by
  rw [List.getD_eq_getElem?_getD, List.getElem?_eq_getElem hi]
  exact h _ (List.getElem_mem hi)
theorem U32s.pick {l : List Int} (h : U32s l) (i : Nat) : 0 ≤ pickN l i ∧ pickN l i < 4294967296 := by
  unfold pickN
  split
  · omega
  · exact h.get (Nat.mod_lt _ (by omega))
theorem infoInt : (Tryd.prog.info? 3).map (fun i => (i.zero, i.size, i.bytes)) = some (some (.int .i64 0), 1, 8) := by kernel_rfl
theorem cell_one (w : World) (N : Nat) (hN : w.heap.size = N) (a : Value) (t : Nat) : ∀ j u, [a][j]? = some u → (w.alloc (.cells #[a] t)).cell? ((⟨N, 0, none⟩ : Addr).add j) = some u := by
  subst hN
  intro j u hu
  have hb : Blk (w.alloc (.cells #[a] t)) w.heap.size t [a] := Blk.new w t [a]
  rw [addr_plain, Nat.zero_add]
  exact hb.cell j hu

/-- A row of the call's own, behind one append more. -/
theorem row_more {w wr w1 : World} {e : TypeId} {v v' : Value} {k : Nat} {xs : List Value} {x : Value} {o : Obj} (h : Row wr e 1 v k xs (fun b => w.heap.size ≤ b)) (hB : Below w.heap.size w wr)
    (hown : w1.ownsRow 0 e 1 v' (k + 1) (xs ++ [x])) (hg : (wr.alloc o).grownBy w1 v.ownBlock) (hat : v'.ownBlock = v.ownBlock ∨ v'.ownBlock = some (wr.alloc o).heap.size) :
    Row w1 e 1 v' (k + 1) (xs ++ [x]) (fun b => w.heap.size ≤ b) ∧ Below w.heap.size w w1 := by
  have hs := hB.size
  refine ⟨⟨hown, fun b hb => ?_⟩, (hB.alloc hs o).grown hg (by simp; omega) (fun b hb => h.home b hb)⟩
  rcases hat with e1 | e1
  · exact h.home b (e1 ▸ hb)
  · rw [e1] at hb; simp at hb; omega

theorem mod_step {k n : Nat} (h : 0 < n) (he : k % n + 1 = n) : (k + 1) % n = 0 := by
  have h1 := Nat.div_add_mod k n
  have : k + 1 = n * (k / n + 1) := by rw [Nat.mul_succ]; omega
  rw [this]; exact Nat.mul_mod_right _ _
theorem mod_step' {k n : Nat} (h : 0 < n) (he : k % n + 1 ≠ n) : (k + 1) % n = k % n + 1 := by
  have h1 := Nat.div_add_mod k n
  have h2 := Nat.mod_lt k h
  have : k + 1 = n * (k / n) + (k % n + 1) := by omega
  rw [this, Nat.mul_add_mod, Nat.mod_eq_of_lt (by omega)]

section
variable {w : World} {m many : Int}
set_option maxRecDepth 100000 in
set_option maxHeartbeats 2000000 in
theorem refHeights_none (ao : Option Addr) (c : Nat) (hm : m ≤ 9223372036854775807) :
    Calls Tryd.prog 8 #[.slice ao 0 c, .int .i64 many, .int .i64 m] w fun e w' => ∃ v, e = .returned v ∧ Row w' 3 1 v (manyOf many) (ints (heights [] (manyOf many) m)) (fun k => w.heap.size ≤ k) ∧ Below w.heap.size w w' := by
  obtain ⟨i0, hi, hz0, hz1, hz2⟩ := info_parts infoInt
  have hle := manyOf_le many
  have hmany : ∀ k : Nat, k < manyOf many ↔ ((k : Int) < many ∧ (k : Int) < 100000) := by intro k; unfold manyOf; split; omega; split <;> omega
  obtain ⟨n, hn⟩ : ∃ n, manyOf many = n := ⟨_, rfl⟩
  rw [hn] at hle hmany
  rw [hn]
  have HM := Lib.hid hmany
  clear hmany hn
  have hp : ∀ k, pickN [] k = 0 := fun k => rfl
  have HP := Lib.hid hp
  clear hp
  go_enter Tryd.func8, Tryd.ntmps8
  go_wp2
  go_loopw [7, 8, 9] (fun out at_ i wr => ∃ k : Nat, k ≤ n ∧ i = .int .i64 k ∧ at_ = .int .i64 0 ∧ Row wr 3 1 out k (ints (heights [] k m)) (fun b => w.heap.size ≤ b) ∧ Below w.heap.size w wr) (fun _ _ i _ => n - (intOf i).toNat)
  case atStart => exact ⟨0, Nat.zero_le _, rfl, rfl, Row.nil _ _ _ _, Below.refl _ _⟩
  case round =>
    obtain ⟨k, hk, rfl, rfl, hR, hB⟩ := hrel
    by_cases hlt : k < n
    · obtain ⟨l1, l2⟩ := (HM.out k).1 hlt
      have hcall := fun W => refHeight_any W 0 m (by decide) (by decide) hm
      have hs := Lib.hid (heights_succ [] k m)
      go_wp2_with (first | (go_at_call 10; refine (hcall _).mono ?_; rintro e w' ⟨rfl, rfl⟩) | (at_builtin; refine wpList_append_own_at _ rfl _ _ 25 rfl 0 3 i0 (.int .i64 0) 1 8 Tryd.underlying25 hi hz0 hz1 hz2 rfl (by decide) _ k (ints (heights [] k m)) rfl (hR.alloc _).owns ⟨wr.heap.size, 0, none⟩ 1 1 [.int .i64 (hgt 0 m)] rfl rfl (cell_one _ _ rfl _ _) (by simp [Value.oneCell']) (by unfold maxLen; omega) (by omega) (Nat.zero_le _) ?_; intro v' w1 hown hgrow _ hat))
      obtain ⟨hR1, hB1⟩ := row_more hR hB hown hgrow hat
      clear hown hgrow hat hR hB hcall
      go_roundw
      case rel => exact ⟨k + 1, by omega, by go_num, rfl, by rw [hs.out, HP.out, ints_append]; exact hR1, hB1⟩
      case measure => simp [intOf]; omega
    · obtain rfl : k = n := by omega
      by_cases l1 : (k : Int) < many
      · have l2 : ((k : Int) < 100000) = False := by simp only [eq_iff_iff, iff_false]; exact fun h => hlt ((HM.out k).2 ⟨l1, h⟩)
        go_wp2
        go_ret
        exact ⟨_, rfl, hR, hB⟩
      · go_wp2
        go_ret
        exact ⟨_, rfl, hR, hB⟩

set_option maxRecDepth 100000 in
set_option maxHeartbeats 2000000 in
theorem refHeights_some (b off c : Nat) (nums : List Int) (h0 : 0 < nums.length) (hR0 : Reads w 1 (.slice (some ⟨b, off, none⟩) nums.length c) nums.length (u32s nums)) (hU : U32s nums) (hl : nums.length ≤ 4000000000) (hm : m ≤ 9223372036854775807) :
    Calls Tryd.prog 8 #[.slice (some ⟨b, off, none⟩) nums.length c, .int .i64 many, .int .i64 m] w fun e w' => ∃ v, e = .returned v ∧ Row w' 3 1 v (manyOf many) (ints (heights nums (manyOf many) m)) (fun k => w.heap.size ≤ k) ∧ Below w.heap.size w w' := by
  obtain ⟨i0, hi, hz0, hz1, hz2⟩ := info_parts infoInt
  have hle := manyOf_le many
  have hmany : ∀ k : Nat, k < manyOf many ↔ ((k : Int) < many ∧ (k : Int) < 100000) := by intro k; unfold manyOf; split; omega; split <;> omega
  obtain ⟨n, hn⟩ : ∃ n, manyOf many = n := ⟨_, rfl⟩
  rw [hn] at hle hmany
  rw [hn]
  have HM := Lib.hid hmany
  clear hmany hn
  go_enter Tryd.func8, Tryd.ntmps8
  go_wp2
  go_loopw [7, 8, 9] (fun out at_ i wr => ∃ k a : Nat, k ≤ n ∧ a < nums.length ∧ Hid (a = k % nums.length) ∧ i = .int .i64 k ∧ at_ = .int .i64 a ∧ Row wr 3 1 out k (ints (heights nums k m)) (fun b => w.heap.size ≤ b) ∧ Below w.heap.size w wr) (fun _ _ i _ => n - (intOf i).toNat)
  case atStart => exact ⟨0, 0, Nat.zero_le _, h0, Lib.hid (by simp), rfl, rfl, Row.nil _ _ _ _, Below.refl _ _⟩
  case round =>
    obtain ⟨k, a, hk, ha, HA, rfl, rfl, hR, hB⟩ := hrel
    by_cases hlt : k < n
    · obtain ⟨l1, l2⟩ := (HM.out k).1 hlt
      have hx := (hR0.below hB).u32 a ha
      obtain ⟨x, hxe⟩ : ∃ x, nums.getD a 0 = x := ⟨_, rfl⟩
      have hx0 := hU.get ha
      rw [hxe] at hx hx0
      have hp : pickN nums k = x := by unfold pickN; rw [if_neg (by omega), ← HA.out, hxe]
      have HP := Lib.hid hp
      clear hxe hp
      have hcall := fun W => refHeight_any W x m hx0.1 hx0.2 hm
      have hs := Lib.hid (heights_succ nums k m)
      by_cases hend : a + 1 = nums.length
      · have he1 : ((a : Int) + 1 == nums.length) = true := by simp; omega
        have HN := Lib.hid (show 0 = (k + 1) % nums.length from (mod_step h0 (by rw [← HA.out]; exact hend)).symm)
        clear hend
        go_wp2_with (first | (go_at_call 10; refine (hcall _).mono ?_; rintro e w' ⟨rfl, rfl⟩) | (at_builtin; refine wpList_append_own_at _ rfl _ _ 25 rfl 0 3 i0 (.int .i64 0) 1 8 Tryd.underlying25 hi hz0 hz1 hz2 rfl (by decide) _ k (ints (heights nums k m)) rfl (hR.alloc _).owns ⟨wr.heap.size, 0, none⟩ 1 1 [.int .i64 (hgt x m)] rfl rfl (cell_one _ _ rfl _ _) (by simp [Value.oneCell']) (by unfold maxLen; omega) (by omega) (Nat.zero_le _) ?_; intro v' w1 hown hgrow _ hat))
        obtain ⟨hR1, hB1⟩ := row_more hR hB hown hgrow hat
        clear hown hgrow hat hR hB hcall
        go_roundw
        case rel => exact ⟨k + 1, 0, by omega, h0, HN, by go_num, rfl, by rw [hs.out, HP.out, ints_append]; exact hR1, hB1⟩
        case measure => simp [intOf]; omega
      · have he1 : ((a : Int) + 1 == nums.length) = false := by simp; omega
        have HN := Lib.hid (show a + 1 = (k + 1) % nums.length from by rw [mod_step' h0 (by rw [← HA.out]; exact hend), ← HA.out])
        clear hend
        go_wp2_with (first | (go_at_call 10; refine (hcall _).mono ?_; rintro e w' ⟨rfl, rfl⟩) | (at_builtin; refine wpList_append_own_at _ rfl _ _ 25 rfl 0 3 i0 (.int .i64 0) 1 8 Tryd.underlying25 hi hz0 hz1 hz2 rfl (by decide) _ k (ints (heights nums k m)) rfl (hR.alloc _).owns ⟨wr.heap.size, 0, none⟩ 1 1 [.int .i64 (hgt x m)] rfl rfl (cell_one _ _ rfl _ _) (by simp [Value.oneCell']) (by unfold maxLen; omega) (by omega) (Nat.zero_le _) ?_; intro v' w1 hown hgrow _ hat))
        obtain ⟨hR1, hB1⟩ := row_more hR hB hown hgrow hat
        clear hown hgrow hat hR hB hcall
        go_roundw
        case rel => exact ⟨k + 1, a + 1, by omega, by have := HN.out; have := Nat.mod_lt (k + 1) h0; omega, HN, by go_num, by go_num, by rw [hs.out, HP.out, ints_append]; exact hR1, hB1⟩
        case measure => simp [intOf]; omega
    · obtain rfl : k = n := by omega
      by_cases l1 : (k : Int) < many
      · have l2 : ((k : Int) < 100000) = False := by simp only [eq_iff_iff, iff_false]; exact fun h => hlt ((HM.out k).2 ⟨l1, h⟩)
        go_wp2
        go_ret
        exact ⟨_, rfl, hR, hB⟩
      · go_wp2
        go_ret
        exact ⟨_, rfl, hR, hB⟩

/-- The reference's heights, of whatever numbers can be read. -/
theorem refHeights_any (v : Value) (k : Nat) (nums : List Int) (hR0 : Reads w 1 v k (u32s nums)) (hU : U32s nums) (hl : k ≤ 4000000000) (hm : m ≤ 9223372036854775807) :
    Calls Tryd.prog 8 #[v, .int .i64 many, .int .i64 m] w fun e w' => ∃ v, e = .returned v ∧ Row w' 3 1 v (manyOf many) (ints (heights nums (manyOf many) m)) (fun k => w.heap.size ≤ k) ∧ Below w.heap.size w w' := by
  obtain rfl : nums.length = k := by have := hR0.len; simpa [u32s] using this
  rcases hR0.form with ⟨h0, ao, c, rfl⟩ | ⟨b, off, c, rfl, _⟩
  · obtain rfl : nums = [] := List.eq_nil_of_length_eq_zero h0
    exact refHeights_none ao c hm
  · rcases Nat.eq_zero_or_pos nums.length with h0 | h0
    · obtain rfl : nums = [] := List.eq_nil_of_length_eq_zero h0
      exact refHeights_none _ c hm
    · exact refHeights_some b off c nums h0 hR0 hU hl hm
end
end Go.Proofs.YtidgnlcokfnhgaaDoor
