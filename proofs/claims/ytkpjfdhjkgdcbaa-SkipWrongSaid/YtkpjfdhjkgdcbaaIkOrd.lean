/- The order of internal keys. -/
import Derived.Test.YtkpjfdhjkgdcbaaIk
namespace Go.Proofs.Ytkpjfdhjkgdcbaa
open Go.RowKit

theorem bl_irrefl : ∀ a : List UInt8, Go.Op.bytesLess a a = false
  | [] => rfl
  | a :: l => by simp [Go.Op.bytesLess, bl_irrefl l]
theorem bl_tri : ∀ a b : List UInt8, Go.Op.bytesLess a b = false → Go.Op.bytesLess b a = false → a = b
  | [], [], _, _ => rfl
  | [], _ :: _, h, _ => by simp [Go.Op.bytesLess] at h
  | _ :: _, [], _, h => by simp [Go.Op.bytesLess] at h
  | a :: x, b :: y, h, g => by
    simp only [Go.Op.bytesLess, Bool.or_eq_false_iff, decide_eq_false_iff_not, Bool.and_eq_false_iff, beq_eq_false_iff_ne] at h g
    have hab : a = b := by
      apply UInt8.toNat_inj.1
      have h1 := h.1
      have g1 := g.1
      rw [UInt8.lt_iff_toNat_lt] at h1 g1
      omega
    subst hab
    rw [bl_tri x y (h.2.resolve_left (by simp)) (g.2.resolve_left (by simp))]
theorem bl_trans : ∀ a b c : List UInt8, Go.Op.bytesLess a b = true → Go.Op.bytesLess b c = true → Go.Op.bytesLess a c = true
  | _, [], _, h, _ => by simp [Go.Op.bytesLess] at h
  | _, _ :: _, [], _, h => by simp [Go.Op.bytesLess] at h
  | [], _ :: _, _ :: _, _, _ => by simp [Go.Op.bytesLess]
  | a :: x, b :: y, c :: z, h, g => by
    simp only [Go.Op.bytesLess, Bool.or_eq_true, decide_eq_true_eq, Bool.and_eq_true, beq_iff_eq] at h g ⊢
    rcases h with h | ⟨rfl, h⟩ <;> rcases g with g | ⟨rfl, g⟩
    · left; rw [UInt8.lt_iff_toNat_lt] at *; omega
    · left; exact h
    · left; exact g
    · right; exact ⟨rfl, bl_trans x y z h g⟩
theorem bl_asymm (a b : List UInt8) (h : Go.Op.bytesLess a b = true) : Go.Op.bytesLess b a = false := by
  cases hc : Go.Op.bytesLess b a
  · rfl
  · have := bl_trans a b a h hc
    rw [bl_irrefl] at this
    cases this
/-- The strict order of keys. -/
def IK.lt (a b : IK) : Prop := Go.Op.bytesLess a.key.toList b.key.toList = true ∨ (a.key.toList = b.key.toList ∧ (b.seq < a.seq ∨ (b.seq = a.seq ∧ b.kind < a.kind)))
theorem cmpI_neg {a b : Int} : cmpI a b < 0 ↔ a < b := by
  unfold cmpI
  split
  · constructor <;> intro _ <;> omega
  · split <;> constructor <;> intro _ <;> omega
theorem cmpI_zero {a b : Int} : cmpI a b = 0 ↔ a = b := by
  unfold cmpI
  split
  · constructor <;> intro _ <;> omega
  · split <;> constructor <;> intro _ <;> omega
theorem IK.cmp_lt (a b : IK) : a.cmp b < 0 ↔ a.lt b := by
  unfold IK.cmp IK.lt orI cmpS
  cases h1 : Go.Op.bytesLess a.key.toList b.key.toList
  · by_cases h2 : a.key.toList = b.key.toList
    · simp only [h2, beq_self_eq_true, Bool.false_eq_true, if_false, if_true, ne_eq, not_true_eq_false, true_and, false_or]
      by_cases h3 : cmpI b.seq a.seq = 0
      · rw [if_neg (by simpa using h3)]
        have h4 := cmpI_zero.1 h3
        rw [cmpI_neg]
        omega
      · rw [if_pos h3, cmpI_neg]
        have := mt cmpI_zero.2 h3
        omega
    · simp [h2]
  · simp
theorem IK.cmp_zero (a b : IK) : a.cmp b = 0 ↔ a.key.toList = b.key.toList ∧ a.seq = b.seq ∧ a.kind = b.kind := by
  unfold IK.cmp orI cmpS
  cases h1 : Go.Op.bytesLess a.key.toList b.key.toList
  · by_cases h2 : a.key.toList = b.key.toList
    · simp only [h2, beq_self_eq_true, Bool.false_eq_true, if_false, if_true, ne_eq, not_true_eq_false, true_and]
      by_cases h3 : cmpI b.seq a.seq = 0
      · rw [if_neg (by simpa using h3)]
        have h4 := cmpI_zero.1 h3
        rw [cmpI_zero]
        omega
      · rw [if_pos h3]
        have h6 := mt cmpI_zero.2 h3
        constructor
        · intro h; exact absurd h h3
        · intro h; omega
    · simp [h2]
  · constructor
    · intro h; simp at h
    · rintro ⟨h2, _⟩
      rw [h2, bl_irrefl] at h1
      cases h1
theorem key_ext {a b : ByteArray} (h : a.toList = b.toList) : a = b := by
  rw [ByteArray.toList_eq, ByteArray.toList_eq] at h
  cases a; cases b
  simp only [ByteArray.mk.injEq]
  exact Array.toList_inj.1 h
theorem IK.cmp_eq {a b : IK} (h : a.cmp b = 0) : a = b := by
  obtain ⟨h1, h2, h3⟩ := (IK.cmp_zero a b).1 h
  cases a; cases b
  simp only at h1 h2 h3
  rw [key_ext h1, h2, h3]
theorem IK.cmp_self (a : IK) : a.cmp a = 0 := (IK.cmp_zero a a).2 ⟨rfl, rfl, rfl⟩
theorem IK.lt_irrefl (a : IK) : ¬ a.lt a := by rw [← IK.cmp_lt, IK.cmp_self]; decide
theorem IK.lt_trans {a b c : IK} (h : a.lt b) (g : b.lt c) : a.lt c := by
  unfold IK.lt at *
  rcases h with h | ⟨h1, h2⟩ <;> rcases g with g | ⟨g1, g2⟩
  · left; exact bl_trans _ _ _ h g
  · left; rw [← g1]; exact h
  · left; rw [h1]; exact g
  · right; exact ⟨h1.trans g1, by omega⟩
theorem IK.lt_tri (a b : IK) : a.lt b ∨ a = b ∨ b.lt a := by
  unfold IK.lt
  cases h1 : Go.Op.bytesLess a.key.toList b.key.toList
  · cases h2 : Go.Op.bytesLess b.key.toList a.key.toList
    · have h3 := bl_tri _ _ h1 h2
      have h4 := key_ext h3
      by_cases h5 : a.seq = b.seq
      · by_cases h6 : a.kind = b.kind
        · right; left; cases a; cases b; simp_all
        · rcases Int.lt_or_gt_of_ne h6 with h7 | h7
          · right; right; right; exact ⟨h3.symm, .inr ⟨h5, h7⟩⟩
          · left; right; exact ⟨h3, .inr ⟨h5.symm, h7⟩⟩
      · rcases Int.lt_or_gt_of_ne h5 with h7 | h7
        · right; right; right; exact ⟨h3.symm, .inl h7⟩
        · left; right; exact ⟨h3, .inl h7⟩
    · right; right; left; rfl
  · left; left; rfl
theorem IK.lt_asymm {a b : IK} (h : a.lt b) : ¬ b.lt a := fun g => IK.lt_irrefl a (IK.lt_trans h g)
end Go.Proofs.Ytkpjfdhjkgdcbaa
