/- The walk over ratlinelow.Ints: are two rows of numbers the same? -/
import Derived.Test.YtkpjfdhjkgdcbaaBase
import Derived.Test.YtkpjfdhjkgdcbaaProg

namespace Go.Proofs.Ytkpjfdhjkgdcbaa
open Go.RowKit

def ints (l : List Int) : List Value := l.map (Value.int .i64)
theorem ints_length (l : List Int) : (ints l).length = l.length := by simp [ints]
theorem ints_append (l m : List Int) : ints (l ++ m) = ints l ++ ints m := by simp [ints]
theorem ints_one (l : List Int) : ∀ u ∈ ints l, u.oneCell' = true := by
  intro u hu
  simp only [ints, List.mem_map] at hu
  obtain ⟨c, _, rfl⟩ := hu
  rfl
theorem Reads.int {w : World} {n b off c : Nat} {l : List Int} (h : Reads w 1 (.slice (some ⟨b, off, none⟩) n c) n (ints l)) (k : Nat) (hk : k < l.length) :
    w.cell? ⟨b, off + k, none⟩ = some (.int .i64 (l.getD k 0)) := by
  have hl := h.len
  rw [ints_length] at hl
  rcases h.form with ⟨rfl, _⟩ | ⟨b', off', c', e, _, hr⟩
  · omega
  · cases e
    exact hr k _ (by simp [ints, List.getElem?_eq_getElem hk])
theorem take_succ_of' {α : Type} {l m : List α} {k : Nat} (h : l.take k = m.take k) (h1 : k < l.length) (h2 : k < m.length) (h3 : l[k] = m[k]) : l.take (k + 1) = m.take (k + 1) := by
  rw [List.take_succ_eq_append_getElem h1, List.take_succ_eq_append_getElem h2, h, h3]
theorem getD_lt {l : List Int} {k : Nat} (h : k < l.length) : l.getD k 0 = l[k] := by rw [List.getD_eq_getElem?_getD, List.getElem?_eq_getElem h]; rfl

set_option maxHeartbeats 1000000 in
theorem lowInts_same (w : World) (b1 o1 c1 b2 o2 c2 : Nat) (l m : List Int) (h1 : Reads w 1 (.slice (some ⟨b1, o1, none⟩) l.length c1) l.length (ints l)) (h2 : Reads w 1 (.slice (some ⟨b2, o2, none⟩) m.length c2) m.length (ints m)) (hl : l.length ≤ 4000000000)
    (hlm : l.length = m.length) :
    Calls Try.prog 60 #[.slice (some ⟨b1, o1, none⟩) l.length c1, .slice (some ⟨b2, o2, none⟩) m.length c2] w fun e w' => e = .returned (.bool (decide (l = m))) ∧ Quiet w w' := by
  have hne : ((l.length : Int) != m.length) = false := by simp [hlm]
  have HLM := Lib.hid hlm
  clear hlm
  go_enter Try.func60, Try.ntmps60
  go_wp2
  go_loopw [13] (fun i wr => ∃ k : Nat, k ≤ l.length ∧ i = .int .i64 k ∧ l.take k = m.take k ∧ Quiet w wr) (fun i _ => l.length - (intOf i).toNat)
  case atStart => exact ⟨0, Nat.zero_le _, rfl, by simp, Quiet.refl w⟩
  case round =>
    obtain ⟨k, hk, rfl, ht, hq⟩ := hrel
    by_cases hlt : k < l.length
    · have hltm : k < m.length := by have := HLM.out; omega
      have x1 := (h1.quiet hq).int k hlt
      have y1 := (h2.quiet hq).int k hltm
      rw [getD_lt hlt] at x1
      rw [getD_lt hltm] at y1
      have hk1 : k + 1 ≤ 9223372036854775807 := by omega
      generalize hla : l[k] = x at x1
      generalize hma : m[k] = y at y1
      have HX := Lib.hid hla
      have HY := Lib.hid hma
      have HT := Lib.hid ht
      clear hla hma ht h1 h2
      by_cases hxy : x = y
      · have hne3 : (x != y) = false := by simp [hxy]
        have HXY := Lib.hid hxy
        clear hxy
        go_wp2_with fail
        go_quiet (fail)
        go_wp2
        go_roundw
        case rel => exact ⟨k + 1, by omega, by go_num, take_succ_of' HT.out hlt hltm (by rw [HX.out, HY.out, HXY.out]), hq.trans ⟨_, rfl⟩⟩
        case measure => simp [intOf]; omega
      · have hne3 : (x != y) = true := by simp [hxy]
        go_wp2_with fail
        go_quiet (fail)
        go_wp2
        go_ret
        refine ⟨?_, hq.trans ⟨_, rfl⟩⟩
        have : l ≠ m := fun e => hxy (by rw [← HX.out, ← HY.out]; simp only [e])
        simp [this]
    · have hkl : k = l.length := by omega
      have hlm : l = m := by
        have hlen := HLM.out
        rw [hkl, List.take_of_length_le (Nat.le_refl _), List.take_of_length_le (by omega)] at ht
        exact ht
      have HE := Lib.hid hlm
      clear hlm ht hkl h1 h2
      go_wp2
      go_ret
      exact ⟨by simp [HE.out], hq⟩

set_option maxHeartbeats 1000000 in
theorem lowInts_len (w : World) (a1 a2 : Option Addr) (n c1 m c2 : Nat) (hlm : ((n : Int) != m) = true) :
    Calls Try.prog 60 #[.slice a1 n c1, .slice a2 m c2] w fun e w' => e = .returned (.bool false) ∧ Quiet w w' := by
  go_enter Try.func60, Try.ntmps60
  go_wp2
  go_ret
  exact ⟨rfl, Quiet.refl w⟩

set_option maxHeartbeats 1000000 in
theorem lowInts_nil (w : World) (a1 a2 : Option Addr) (c1 c2 : Nat) :
    Calls Try.prog 60 #[.slice a1 0 c1, .slice a2 0 c2] w fun e w' => e = .returned (.bool true) ∧ Quiet w w' := by
  go_enter Try.func60, Try.ntmps60
  go_wp2
  go_loopw [13] (fun i wr => i = .int .i64 0 ∧ w = wr) (fun _ _ => 0)
  case atStart => exact ⟨rfl, rfl⟩
  case round =>
    obtain ⟨rfl, rfl⟩ := hrel
    go_wp2
    go_ret
    exact ⟨rfl, Quiet.refl w⟩

/-- ratlinelow.Ints, of whatever can be read. -/
theorem lowInts (w : World) (v1 v2 : Value) (n1 n2 : Nat) (l m : List Int) (h1 : Reads w 1 v1 n1 (ints l)) (h2 : Reads w 1 v2 n2 (ints m)) (hl : n1 ≤ 4000000000) :
    Calls Try.prog 60 #[v1, v2] w fun e w' => e = .returned (.bool (decide (l = m))) ∧ Quiet w w' := by
  obtain rfl : l.length = n1 := by have := h1.len; simpa [ints_length] using this
  obtain rfl : m.length = n2 := by have := h2.len; simpa [ints_length] using this
  by_cases hlm : l.length = m.length
  · rcases h1.form with ⟨h0, ao, c, rfl⟩ | ⟨b1, o1, c1, rfl, _⟩
    · obtain rfl : l = [] := List.eq_nil_of_length_eq_zero h0
      obtain rfl : m = [] := List.eq_nil_of_length_eq_zero (by simpa using hlm.symm)
      obtain ⟨ao2, c2, rfl⟩ := h2.slice
      exact (lowInts_nil w _ _ _ _).mono (by rintro e w' ⟨rfl, hq⟩; exact ⟨rfl, hq⟩)
    · rcases h2.form with ⟨h0, ao, c, rfl⟩ | ⟨b2, o2, c2, rfl, _⟩
      · obtain rfl : m = [] := List.eq_nil_of_length_eq_zero h0
        obtain rfl : l = [] := List.eq_nil_of_length_eq_zero (by simpa using hlm)
        exact (lowInts_nil w _ _ _ _).mono (by rintro e w' ⟨rfl, hq⟩; exact ⟨rfl, hq⟩)
      · exact lowInts_same w b1 o1 c1 b2 o2 c2 l m h1 h2 hl hlm
  · obtain ⟨a1, c1, rfl⟩ := h1.slice
    obtain ⟨a2, c2, rfl⟩ := h2.slice
    refine (lowInts_len w a1 a2 _ c1 _ c2 (by simp; omega)).mono ?_
    rintro e w' ⟨rfl, hq⟩
    have : l ≠ m := fun e => hlm (by rw [e])
    exact ⟨by simp [this], hq⟩
end Go.Proofs.Ytkpjfdhjkgdcbaa
