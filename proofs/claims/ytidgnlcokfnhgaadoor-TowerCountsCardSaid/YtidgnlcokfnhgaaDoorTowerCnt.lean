/- How many numbers of a run have which height: plain mathematics. -/
import Derived.Test.YtidgnlcokfnhgaaDoorTowerPlain
namespace Go.Proofs.YtidgnlcokfnhgaaDoor

/-- How many of the first n numbers from 'from_' on have the height h. -/
def cnt (from_ : Nat) (m : Int) (h : Int) : Nat → Nat
  | 0 => 0
  | n + 1 => cnt from_ m h n + if hgt ((from_ + n : Nat) : Int) m = h then 1 else 0
theorem cnt_le (f : Nat) (m h : Int) (n : Nat) : cnt f m h n ≤ n := by
  induction n with
  | zero => simp [cnt]
  | succ n ih => simp only [cnt]; split <;> omega

/-- 4 divides i, of a run from a multiple of 4^k on, as often as it divides from_ + i. -/
theorem v4_pow : ∀ (k f i : Nat), f % 4 ^ k = 0 → 0 < i → i < 4 ^ k → f + i < 4294967296 → v4 (f + i) = v4 i
  | 0, f, i, _, h0, h1, _ => by simp at h1; omega
  | k + 1, f, i, hf, h0, h1, h2 => by
    have hp : 4 ^ (k + 1) = 4 * 4 ^ k := by rw [Nat.pow_succ, Nat.mul_comm]
    have hf4 : f % 4 = 0 := by
      have := Nat.mod_mod_of_dvd f (show 4 ∣ 4 ^ (k + 1) from ⟨4 ^ k, hp⟩)
      rw [hf] at this; omega
    by_cases h4 : i % 4 = 0
    · rw [v4_four (f + i) (by omega) h2 (by omega), v4_four i (by omega) (by omega) h4, show (f + i) / 4 = f / 4 + i / 4 by omega]
      rw [v4_pow k (f / 4) (i / 4) ?_ (by omega) (by rw [hp] at h1; omega) (by omega)]
      obtain ⟨q, hq⟩ : ∃ q, f = 4 ^ (k + 1) * q := ⟨f / 4 ^ (k + 1), by have := Nat.div_add_mod f (4 ^ (k + 1)); omega⟩
      rw [hq, hp, Nat.mul_assoc, Nat.mul_div_cancel_left _ (by omega)]
      exact Nat.mul_mod_right _ _
    · rw [v4_not (f + i) (by omega) h2 (by omega), v4_not i (by omega) (by omega) h4]
theorem v4_lt_of {k i : Nat} (h0 : 0 < i) (h1 : i < 4 ^ k) (h2 : i < 4294967296) : v4 i < k := by
  induction k generalizing i with
  | zero => simp at h1; omega
  | succ k ih =>
    by_cases h4 : i % 4 = 0
    · rw [v4_four i (by omega) h2 h4]
      have := ih (i := i / 4) (by omega) (by rw [Nat.pow_succ] at h1; omega) (by omega)
      omega
    · rw [v4_not i (by omega) h2 h4]; omega
theorem v4_ge_pow : ∀ (k f : Nat), f % 4 ^ k = 0 → f ≠ 0 → f < 4294967296 → k ≤ v4 f
  | 0, f, _, _, _ => Nat.zero_le _
  | k + 1, f, hf, h0, h1 => by
    have hp : 4 ^ (k + 1) = 4 * 4 ^ k := by rw [Nat.pow_succ, Nat.mul_comm]
    obtain ⟨q, hq⟩ : ∃ q, f = 4 ^ (k + 1) * q := ⟨f / 4 ^ (k + 1), by have := Nat.div_add_mod f (4 ^ (k + 1)); omega⟩
    have hq4 : f = 4 * (4 ^ k * q) := by rw [hq, hp, Nat.mul_assoc]
    rw [v4_four f h0 h1 (by omega)]
    have := v4_ge_pow k (f / 4) (by rw [hq4, Nat.mul_div_cancel_left _ (by omega)]; exact Nat.mul_mod_right _ _) (by omega) (by omega)
    omega

/-- The height of a run's number, below the greatest: that of its place. -/
theorem hgt_run {k f i : Nat} {m h : Int} (hf : f % 4 ^ k = 0) (hi : i < 4 ^ k) (h2 : f + i < 4294967296) (h1 : 1 ≤ h) (hk : h ≤ k) (hm : h < m) :
    (hgt ((f + i : Nat) : Int) m = h) ↔ (0 < i ∧ (v4 i : Int) = h - 1) := by
  have hm1 : 1 ≤ m := by omega
  rcases Nat.eq_zero_or_pos i with rfl | h0
  · simp only [Nat.lt_irrefl, false_and, iff_false, Nat.add_zero]
    rw [Nat.add_zero] at h2
    by_cases hf0 : f = 0
    · subst hf0
      have : hgt ((0 : Nat) : Int) m = m := hgt_zero hm1
      rw [this]; omega
    · have hv := v4_ge_pow k f hf hf0 h2
      intro e
      rcases Int.lt_or_le m (1 + (v4 f : Int)) with h3 | h3
      · rw [hgt_most hm1 (by omega) (by simpa using h3)] at e; omega
      · rw [hgt_val hm1 (by omega) (by simpa using h3)] at e; simp at e; omega
  · have hv := v4_pow k f i hf h0 hi h2
    have e : ((f + i : Nat) : Int).toNat = f + i := Int.toNat_natCast _
    rcases Int.lt_or_le m (1 + (v4 (f + i) : Int)) with h3 | h3
    · rw [hgt_most hm1 (by omega) (by rw [e]; exact h3)]
      constructor
      · intro h4; omega
      · rintro ⟨_, h4⟩; omega
    · rw [hgt_val hm1 (by omega) (by rw [e]; exact h3), e, hv]
      constructor
      · intro h4; exact ⟨h0, by omega⟩
      · rintro ⟨_, h4⟩; omega

/-- How many places below n have a number that 4 divides just j times. -/
def runs (j : Nat) : Nat → Nat
  | 0 => 0
  | n + 1 => runs j n + if 0 < n ∧ v4 n = j then 1 else 0
theorem cnt_runs {k f : Nat} {m : Int} (j : Nat) (hf : f % 4 ^ k = 0) (hj : j < k) (hm : (j : Int) + 1 < m) : ∀ n, n ≤ 4 ^ k → f + n ≤ 4294967296 → cnt f m ((j : Int) + 1) n = runs j n
  | 0, _, _ => rfl
  | n + 1, h1, h2 => by
    simp only [cnt, runs]
    rw [cnt_runs j hf hj hm n (by omega) (by omega)]
    have := hgt_run (k := k) (f := f) (i := n) (m := m) (h := (j : Int) + 1) hf (by omega) (by omega) (by omega) (by omega) hm
    by_cases e : 0 < n ∧ v4 n = j
    · rw [if_pos e, if_pos (this.2 ⟨e.1, by omega⟩)]
    · rw [if_neg e, if_neg (fun h => e ⟨(this.1 h).1, by have := (this.1 h).2; omega⟩)]
/-- Three parts of four, of what is left. -/
theorem runs_all : ∀ k, k < 6 → ∀ j, j < k → runs j (4 ^ k) = 3 * 4 ^ (k - 1 - j) := by decide +kernel

/-- The counts up to a height. -/
def upTo (f : Nat) (m : Int) (n : Nat) : Nat → Nat
  | 0 => 0
  | h + 1 => upTo f m n h + cnt f m ((h : Int) + 1) n
theorem upTo_all (f : Nat) (m : Nat) (hm : 1 ≤ m) (n : Nat) : upTo f m n m = n := by
  have key : ∀ (i : Nat) (g : Nat), (∀ h, h ≤ g → upTo f m (i + 1) h = upTo f m i h + if (hgt ((f + i : Nat) : Int) m) ≤ h then 1 else 0) := by
    intro i g h hg
    clear hg
    have hb := hgt_bd (x := ((f + i : Nat) : Int)) (m := (m : Int)) (by omega)
    induction h with
    | zero => simp only [upTo]; rw [if_neg (by omega)]
    | succ h ih =>
      simp only [upTo, cnt]
      rw [ih]
      by_cases e : hgt ((f + i : Nat) : Int) (m : Int) = (h : Int) + 1
      · rw [if_pos e, if_neg (by omega), if_pos (by omega)]; omega
      · rw [if_neg e]
        by_cases e2 : hgt ((f + i : Nat) : Int) (m : Int) ≤ (h : Int)
        · rw [if_pos e2, if_pos (by omega)]; omega
        · rw [if_neg e2, if_neg (by omega)]; omega
  induction n with
  | zero =>
    have : ∀ h, upTo f m 0 h = 0 := by
      intro h
      induction h with
      | zero => rfl
      | succ h ih => simp [upTo, cnt, ih]
    exact this m
  | succ n ih =>
    have hb := hgt_bd (x := ((f + n : Nat) : Int)) (m := (m : Int)) (by omega)
    rw [key n m m (Nat.le_refl _), ih, if_pos hb.2]
/-- What is left behind j heights. -/
theorem upTo_left {k f m : Nat} (hk : k < 6) (hf : f % 4 ^ k = 0) (h2 : f + 4 ^ k ≤ 4294967296) : ∀ j, j ≤ k → j < m → upTo f m (4 ^ k) j + 4 ^ (k - j) = 4 ^ k
  | 0, _, _ => by simp [upTo]
  | j + 1, h1, h3 => by
    have ih := upTo_left (m := m) hk hf h2 j (by omega) (by omega)
    simp only [upTo]
    rw [cnt_runs (k := k) (m := (m : Int)) j hf (by omega) (by omega) (4 ^ k) (Nat.le_refl _) h2, runs_all k hk j (by omega)]
    have e : k - j = (k - 1 - j) + 1 := by omega
    have e2 : k - (j + 1) = k - 1 - j := by omega
    rw [e, Nat.pow_succ] at ih
    rw [e2]; omega
end Go.Proofs.YtidgnlcokfnhgaaDoor
