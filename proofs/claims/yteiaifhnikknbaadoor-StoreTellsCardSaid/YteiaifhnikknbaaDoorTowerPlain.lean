/- Heights of numbers, and the way over nodes: plain mathematics; no program here. -/
import Derived.Lib.TrailingZeros
namespace Go.Proofs.YteiaifhnikknbaaDoor

/-! How often 4 divides a number. -/
theorem val_unique : ∀ (a b m n : Nat), 2 ^ a * (2 * m + 1) = 2 ^ b * (2 * n + 1) → a = b
  | 0, 0, _, _, _ => rfl
  | 0, b + 1, m, n, h => by rw [Nat.pow_succ, Nat.mul_assoc, Nat.mul_left_comm] at h; omega
  | a + 1, 0, m, n, h => by rw [Nat.pow_succ, Nat.mul_assoc, Nat.mul_left_comm] at h; omega
  | a + 1, b + 1, m, n, h => by
    rw [Nat.pow_succ, Nat.pow_succ, Nat.mul_assoc, Nat.mul_left_comm, Nat.mul_assoc (2 ^ b), Nat.mul_left_comm (2 ^ b)] at h
    rw [val_unique a b m n (by omega)]
theorem ctz_spec (x : Nat) (h0 : x ≠ 0) (h : x < 4294967296) : ∃ m, x = 2 ^ Lib.ctz 32 x * (2 * m + 1) ∧ Lib.ctz 32 x < 32 := by
  have := Lib.ctzFrom_spec 32 x (by omega) (by simpa using h)
  simpa [Lib.ctz, h0] using this
theorem ctz_of (x c m : Nat) (h : x < 4294967296) (e : x = 2 ^ c * (2 * m + 1)) : Lib.ctz 32 x = c := by
  have h0 : x ≠ 0 := by
    rw [e]; have := Nat.two_pow_pos c
    exact Nat.mul_ne_zero (by omega) (by omega)
  obtain ⟨m', e', _⟩ := ctz_spec x h0 h
  exact val_unique _ _ m' m (e'.symm.trans e)

/-- How often 4 divides x (x ≠ 0). -/
def v4 (x : Nat) : Nat := Lib.ctz 32 x / 2
theorem v4_lt (x : Nat) (h0 : x ≠ 0) (h : x < 4294967296) : v4 x < 16 := by
  obtain ⟨_, _, h1⟩ := ctz_spec x h0 h
  unfold v4; omega
theorem v4_four (x : Nat) (h0 : x ≠ 0) (h : x < 4294967296) (h4 : x % 4 = 0) : v4 x = v4 (x / 4) + 1 := by
  obtain ⟨y, rfl⟩ : ∃ y, x = 4 * y := ⟨x / 4, by omega⟩
  have hy : 4 * y / 4 = y := by omega
  obtain ⟨m, e, _⟩ := ctz_spec y (by omega) (by omega)
  have : Lib.ctz 32 (4 * y) = Lib.ctz 32 y + 2 := by
    refine ctz_of _ _ m h ?_
    have : 2 ^ (Lib.ctz 32 y + 2) * (2 * m + 1) = 4 * (2 ^ Lib.ctz 32 y * (2 * m + 1)) := by
      rw [Nat.pow_add, Nat.mul_comm (2 ^ Lib.ctz 32 y), Nat.mul_assoc]
    rw [this, ← e]
  unfold v4
  rw [hy, this]; omega
theorem v4_not (x : Nat) (h0 : x ≠ 0) (h : x < 4294967296) (h4 : x % 4 ≠ 0) : v4 x = 0 := by
  obtain ⟨m, e, _⟩ := ctz_spec x h0 h
  unfold v4
  match hc : Lib.ctz 32 x with
  | 0 => rfl
  | 1 => rfl
  | c + 2 =>
    exfalso
    rw [hc, Nat.pow_succ, Nat.pow_succ, Nat.mul_assoc, Nat.mul_assoc, Nat.mul_left_comm, Nat.mul_left_comm (2 ^ c)] at e
    omega

/-- A number's height. -/
def hgt (x m : Int) : Int := if m < 1 then 0 else if x = 0 then m else if m < 1 + (v4 x.toNat : Int) then m else 1 + (v4 x.toNat : Int)
theorem hgt_low {x m : Int} (h : m < 1) : hgt x m = 0 := by simp [hgt, h]
theorem hgt_zero {m : Int} (h : 1 ≤ m) : hgt 0 m = m := by simp [hgt]; omega
theorem hgt_most {x m : Int} (h : 1 ≤ m) (h0 : x ≠ 0) (h1 : m < 1 + (v4 x.toNat : Int)) : hgt x m = m := by
  unfold hgt; rw [if_neg (by omega), if_neg h0, if_pos h1]
theorem hgt_val {x m : Int} (h : 1 ≤ m) (h0 : x ≠ 0) (h1 : 1 + (v4 x.toNat : Int) ≤ m) : hgt x m = 1 + (v4 x.toNat : Int) := by
  unfold hgt; rw [if_neg (by omega), if_neg h0, if_neg (by omega)]
theorem hgt_bd {x m : Int} (h : 1 ≤ m) : 1 ≤ hgt x m ∧ hgt x m ≤ m := by
  unfold hgt; rw [if_neg (by omega)]
  split
  · omega
  · split <;> omega
theorem hgt_min {x a b : Int} (h : 1 ≤ a) (hab : a ≤ b) : hgt x a = (if a < hgt x b then a else hgt x b) := by
  by_cases h0 : x = 0
  · subst h0; rw [hgt_zero h, hgt_zero (by omega)]; split <;> omega
  · rcases Int.lt_or_le b (1 + (v4 x.toNat : Int)) with h1 | h1
    · rw [hgt_most (by omega) h0 h1, hgt_most h h0 (by omega)]; split <;> omega
    · rw [hgt_val (by omega) h0 h1]
      rcases Int.lt_or_le a (1 + (v4 x.toNat : Int)) with h2 | h2
      · rw [hgt_most h h0 h2, if_pos h2]
      · rw [hgt_val h h0 h2, if_neg (by omega)]
theorem hgt_le {x a b : Int} (h : 1 ≤ a) (hab : a ≤ b) : hgt x a ≤ hgt x b := by
  rw [hgt_min h hab]; split <;> omega

/-- The number at i, round and round. -/
def pickN (nums : List Int) (i : Nat) : Int := if nums.length = 0 then 0 else nums.getD (i % nums.length) 0
def heights (nums : List Int) (n : Nat) (m : Int) : List Int := (List.range n).map fun i => hgt (pickN nums i) m
theorem heights_length (nums : List Int) (n : Nat) (m : Int) : (heights nums n m).length = n := by simp [heights]
theorem heights_succ (nums : List Int) (n : Nat) (m : Int) : heights nums (n + 1) m = heights nums n m ++ [hgt (pickN nums n) m] := by simp [heights, List.range_succ]
theorem heights_get (nums : List Int) (n : Nat) (m : Int) (i : Nat) (h : i < n) : (heights nums n m).getD i 0 = hgt (pickN nums i) m := by
  simp [heights, h]
theorem heights_pos (nums : List Int) (n : Nat) (m : Int) (hm : 1 ≤ m) : ∀ h ∈ heights nums n m, 1 ≤ h ∧ h ≤ m := by
  intro h hh
  simp only [heights, List.mem_map] at hh
  obtain ⟨i, _, rfl⟩ := hh
  exact hgt_bd hm
/-- How many heights are told. -/
def manyOf (many : Int) : Nat := if many < 0 then 0 else if 100000 < many then 100000 else many.toNat
theorem manyOf_le (many : Int) : manyOf many ≤ 100000 := by unfold manyOf; split; omega; split <;> omega

theorem manyOf_int (many : Int) : (if 100000 < (if many < 0 then 0 else many) then 100000 else (if many < 0 then 0 else many)) = (manyOf many : Int) := by
  rcases Int.lt_or_le many 0 with h | h
  · have e : manyOf many = 0 := by unfold manyOf; rw [if_pos h]
    rw [e, if_pos h]; rfl
  · have e0 : (if many < 0 then 0 else many) = many := if_neg (by omega)
    rw [e0]
    rcases Int.lt_or_le 100000 many with h1 | h1
    · have e : manyOf many = 100000 := by unfold manyOf; rw [if_neg (by omega), if_pos h1]
      rw [e, if_pos h1]; rfl
    · have e : manyOf many = many.toNat := by unfold manyOf; rw [if_neg (by omega), if_neg (by omega)]
      rw [e, if_neg (by omega)]; omega

/-! The way. -/
def wayStep (h : Int) (s : Nat × Int) : Nat × Int := if s.2 ≤ h then (s.1 + 1, h) else s
def way (l : List Int) : Nat × Int := l.foldr wayStep (0, 0)
theorem way_nil : way [] = (0, 0) := rfl
theorem way_cons (h : Int) (l : List Int) : way (h :: l) = wayStep h (way l) := rfl
theorem way_hit {h : Int} {l : List Int} (hh : (way l).2 ≤ h) : way (h :: l) = ((way l).1 + 1, h) := by rw [way_cons, wayStep, if_pos hh]
theorem way_miss {h : Int} {l : List Int} (hh : h < (way l).2) : way (h :: l) = way l := by rw [way_cons, wayStep, if_neg (by omega)]
theorem way_le {L : Int} (hL : 0 ≤ L) : ∀ {l : List Int}, (∀ h ∈ l, h ≤ L) → (way l).2 ≤ L
  | [], _ => hL
  | h :: l, hl => by
    have := way_le hL (l := l) (fun x hx => hl x (by simp [hx]))
    rcases Int.lt_or_le h (way l).2 with h1 | h1
    · rw [way_miss h1]; exact this
    · rw [way_hit h1]; exact hl h (by simp)
theorem way_len (l : List Int) : (way l).1 ≤ l.length := by
  induction l with
  | nil => simp [way]
  | cons h l ih =>
    rcases Int.lt_or_le h (way l).2 with h1 | h1
    · rw [way_miss h1]; simp; omega
    · rw [way_hit h1]; simp; omega
/-- Nodes below L ahead of one that is L high, all behind it at most so high. -/
theorem way_over {L : Int} (hL : 0 ≤ L) (xs ys : List Int) (hx : ∀ h ∈ xs, h < L) (hy : ∀ h ∈ ys, h ≤ L) : way (xs ++ L :: ys) = ((way ys).1 + 1, L) := by
  induction xs with
  | nil => exact way_hit (way_le hL hy)
  | cons h xs ih =>
    have h1 := ih (fun x hx' => hx x (by simp [hx']))
    rw [List.cons_append, way_miss (by rw [h1]; exact hx h (by simp)), h1]
theorem drop_split (l : List Int) (a b : Nat) (hab : a ≤ b) (hb : b < l.length) : l.drop a = (l.drop a).take (b - a) ++ l[b] :: l.drop (b + 1) := by
  have h1 : (l.drop a).drop (b - a) = l.drop b := by rw [List.drop_drop]; congr 1; omega
  rw [← List.drop_eq_getElem_cons hb, ← h1, List.take_append_drop]
/-- One step of the way, on a level. -/
theorem way_next {L : Int} (hL : 0 ≤ L) (l : List Int) (a b : Nat) (hab : a ≤ b) (hb : b < l.length) (hx : ∀ i, a ≤ i → i < b → l.getD i 0 < L) (hat : L ≤ l.getD b 0) (hall : ∀ i, a ≤ i → i < l.length → l.getD i 0 ≤ L) :
    (way (l.drop a)).1 = (way (l.drop (b + 1))).1 + 1 := by
  have hLb : l[b] = L := by
    have h1 := hall b hab hb
    rw [List.getD_eq_getElem?_getD, List.getElem?_eq_getElem hb] at h1 hat
    simp at h1 hat; omega
  rw [drop_split l a b hab hb, hLb, way_over hL]
  · intro h hh
    obtain ⟨i, hi, rfl⟩ := List.getElem_of_mem hh
    have hi' : i < b - a := by have := hi; rw [List.length_take] at this; omega
    have := hx (a + i) (by omega) (by omega)
    rw [List.getD_eq_getElem?_getD, List.getElem?_eq_getElem (by omega)] at this
    simpa using this
  · intro h hh
    obtain ⟨i, hi, rfl⟩ := List.getElem_of_mem hh
    rw [List.length_drop] at hi
    have := hall (b + 1 + i) (by omega) (by omega)
    rw [List.getD_eq_getElem?_getD, List.getElem?_eq_getElem (by omega)] at this
    simpa using this

/-- The highest one. -/
def topOf (l : List Int) : Int := l.foldl (fun t h => if t < h then h else t) 0
end Go.Proofs.YteiaifhnikknbaaDoor
