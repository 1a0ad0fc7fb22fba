/- The reference's way over nodes: the walk. -/
import Derived.Test.YtidgnlcokfnhgaaDoorTowerRefH
namespace Go.Proofs.YtidgnlcokfnhgaaDoor
open Go.RowKit

set_option maxHeartbeats 1000000 in
theorem refSteps_none (w : World) (ao : Option Addr) (c : Nat) :
    Calls Tryd.prog 14 #[.slice ao 0 c] w fun e w' => e = .returned (.int .i64 0) ∧ w = w' := by
  go_enter Tryd.func14, Tryd.ntmps14
  go_wp2
  go_loop [3, 4] (fun t i => t = .int .i64 0 ∧ i = .int .i64 0) (fun _ _ => 0)
  case atStart => exact ⟨rfl, rfl⟩
  case round =>
    obtain ⟨rfl, rfl⟩ := hrel
    go_wp2
    go_loop [5, 6, 7] (fun a n l => a = .int .i64 0 ∧ n = .int .i64 0 ∧ l = .int .i64 0) (fun _ _ _ => 0)
    case atStart => exact ⟨rfl, rfl, rfl⟩
    case round =>
      obtain ⟨rfl, rfl, rfl⟩ := hrel
      go_wp2
      go_ret
      exact ⟨rfl, rfl⟩

/-- What the way keeps on a level. -/
structure WayAt (l : List Int) (a c : Nat) (lv : Int) : Prop where
  a_le : a ≤ l.length
  low : ∀ i, a ≤ i → i < l.length → l.getD i 0 ≤ lv
  sum : c + (way (l.drop a)).1 = (way l).1
theorem WayAt.le {l : List Int} {a c : Nat} {lv : Int} (h : WayAt l a c lv) : c ≤ l.length := by have := h.sum; have := way_len l; omega
theorem WayAt.down {l : List Int} {a c : Nat} {lv : Int} (h : WayAt l a c lv) (hx : ∀ i, a ≤ i → i < l.length → l.getD i 0 < lv) : WayAt l a c (lv - 1) := ⟨h.a_le, fun i h1 h2 => by have := hx i h1 h2; omega, h.sum⟩
theorem WayAt.next {l : List Int} {a c b : Nat} {lv : Int} (h : WayAt l a c lv) (h0 : 0 ≤ lv) (hab : a ≤ b) (hb : b < l.length) (hx : ∀ i, a ≤ i → i < b → l.getD i 0 < lv) (hat : lv ≤ l.getD b 0) : WayAt l (b + 1) (c + 1) lv :=
  ⟨hb, fun i h1 h2 => h.low i (by omega) h2, by have := way_next h0 l a b hab hb hx hat h.low; have := h.sum; omega⟩
theorem WayAt.done {l : List Int} {a c : Nat} (h : WayAt l a c 0) (hp : ∀ x ∈ l, 1 ≤ x) : c = (way l).1 := by
  have : a = l.length := by
    rcases Nat.lt_or_ge a l.length with h1 | h1
    · have h2 := h.low a (Nat.le_refl _) h1
      rw [getD_lt h1] at h2
      have := hp _ (List.getElem_mem h1); omega
    · have := h.a_le; omega
  have e := h.sum
  rw [this, List.drop_length] at e
  simpa [way] using e

set_option maxRecDepth 100000 in
set_option maxHeartbeats 2000000 in
theorem refSteps_some (w : World) (b off c : Nat) (l : List Int) (h0 : 0 < l.length) (hR : Reads w 1 (.slice (some ⟨b, off, none⟩) l.length c) l.length (ints l)) (hl : l.length ≤ 4000000000) (hp : ∀ x ∈ l, 1 ≤ x ∧ x ≤ 1000000) :
    Calls Tryd.prog 14 #[.slice (some ⟨b, off, none⟩) l.length c] w fun e w' => e = .returned (.int .i64 ((way l).1 : Nat)) ∧ w = w' := by
  have hbd : ∀ i, i < l.length → 1 ≤ l.getD i 0 ∧ l.getD i 0 ≤ 1000000 := fun i hi => by rw [getD_lt hi]; exact hp _ (List.getElem_mem hi)
  have HB := Lib.hid hbd
  have HP := Lib.hid hp
  clear hbd hp
  go_enter Tryd.func14, Tryd.ntmps14
  go_wp2
  go_loop [3, 4] (fun t i => ∃ (k : Nat) (m : Int), k ≤ l.length ∧ i = .int .i64 k ∧ t = .int .i64 m ∧ 0 ≤ m ∧ m ≤ 1000000 ∧ Hid (∀ j, j < k → l.getD j 0 ≤ m)) (fun _ i => l.length - (intOf i).toNat)
  case atStart => exact ⟨0, 0, Nat.zero_le _, rfl, rfl, by omega, by omega, Lib.hid (fun j hj => by omega)⟩
  case round =>
    obtain ⟨k, m, hk, rfl, rfl, hm0, hm1, HM⟩ := hrel
    by_cases hlt : k < l.length
    · have hx := hR.int k hlt
      obtain ⟨x1, x2⟩ := HB.out k hlt
      obtain ⟨x, hxe⟩ : ∃ x, l.getD k 0 = x := ⟨_, rfl⟩
      rw [hxe] at hx x1 x2
      have HX := Lib.hid hxe
      clear hxe
      go_wp2
      · have hlt' : m < x := by assumption
        go_round
        case rel => exact ⟨k + 1, x, by omega, by go_num, rfl, by omega, by omega, Lib.hid (fun j hj => by
          rcases Nat.lt_or_ge j k with h | h
          · have := HM.out j h; omega
          · obtain rfl : j = k := by omega
            rw [HX.out]; omega)⟩
        case measure => simp [intOf]; omega
      · have hge : x ≤ m := by assumption
        go_round
        case rel => exact ⟨k + 1, m, by omega, by go_num, rfl, by omega, by omega, Lib.hid (fun j hj => by
          rcases Nat.lt_or_ge j k with h | h
          · have := HM.out j h; omega
          · obtain rfl : j = k := by omega
            rw [HX.out]; omega)⟩
        case measure => simp [intOf]; omega
    · have HT : WayAt l 0 0 m := ⟨Nat.zero_le _, fun i _ hi => HM.out i (by omega), by simp⟩
      clear HM
      go_wp2
      clear hlt hk
      go_loop [5, 6, 7] (fun at_ n lv => ∃ (a c : Nat) (v : Int), at_ = .int .i64 a ∧ n = .int .i64 c ∧ lv = .int .i64 v ∧ 0 ≤ v ∧ v ≤ 1000000 ∧ c ≤ l.length ∧ WayAt l a c v) (fun _ _ lv => (intOf lv).toNat)
      case atStart => exact ⟨0, 0, m, rfl, rfl, rfl, hm0, hm1, by omega, HT⟩
      case round =>
        obtain ⟨a, c, v, rfl, rfl, rfl, v0, v1, hc, hW⟩ := hrel
        by_cases hv : 1 ≤ v
        · go_wp2
          go_loop [5, 6, 8] (fun at_ n _ => ∃ (a c : Nat), at_ = .int .i64 a ∧ n = .int .i64 c ∧ a ≤ l.length ∧ c ≤ l.length ∧ WayAt l a c v) (fun at_ _ _ => l.length - (intOf at_).toNat)
          case atStart => exact ⟨a, c, rfl, rfl, hW.a_le, hc, hW⟩
          case round =>
            clear hW hc
            obtain ⟨a1, c1, rfl, rfl, ha1, hc1, hW1⟩ := hrel
            go_wp2
            go_loop [8] (fun nx => ∃ (d : Nat), nx = .int .i64 d ∧ a1 ≤ d ∧ d ≤ l.length ∧ Hid (∀ i, a1 ≤ i → i < d → l.getD i 0 < v)) (fun nx => l.length - (intOf nx).toNat)
            case atStart => exact ⟨a1, rfl, by omega, by omega, Lib.hid (fun i h1 h2 => by omega)⟩
            case round =>
              obtain ⟨d, rfl, hd0, hd1, HD⟩ := hrel
              by_cases hdl : d < l.length
              · have hx := hR.int d hdl
                obtain ⟨x1, x2⟩ := HB.out d hdl
                obtain ⟨x, hxe⟩ : ∃ x, l.getD d 0 = x := ⟨_, rfl⟩
                rw [hxe] at hx x1 x2
                have HX := Lib.hid hxe
                clear hxe
                have hne : ((d : Int) == l.length) = false := by simp; omega
                by_cases hxv : x < v
                · go_wp2
                  go_round
                  case rel => exact ⟨d + 1, by go_num, by omega, by omega, Lib.hid (fun i h1 h2 => by
                    rcases Nat.lt_or_ge i d with h | h
                    · exact HD.out i h1 h
                    · obtain rfl : i = d := by omega
                      rw [HX.out]; omega)⟩
                  case measure => simp [intOf]; omega
                · have hW2 := hW1.next (by omega) hd0 hdl HD.out (by rw [HX.out]; omega)
                  have hc2 := hW2.le
                  go_wp2
                  go_round
                  case rel => exact ⟨d + 1, c1 + 1, by go_num, by go_num, by omega, hc2, hW2⟩
                  case measure => simp [intOf]; omega
              · have hdl' : d = l.length := by omega
                have hne : ((d : Int) == l.length) = true := by simp; omega
                have hW2 := hW1.down (fun i h1 h2 => HD.out i h1 (by omega))
                have hc2 := hW2.le
                clear hdl'
                go_wp2
                go_round
                case rel => exact ⟨a1, c1, v - 1, rfl, rfl, by go_num, by omega, by omega, hc2, hW2⟩
                case measure => simp [intOf]; omega
        · obtain rfl : v = 0 := by omega
          have hfin := Lib.hid (hW.done (fun x hx => (HP.out x hx).1))
          clear hW
          go_wp2
          go_ret
          exact ⟨congrArg (fun n : Nat => Ending.returned (.int .i64 (n : Int))) hfin.out, rfl⟩

theorem refSteps_any (w : World) (v : Value) (k : Nat) (l : List Int) (hR : Reads w 1 v k (ints l)) (hl : k ≤ 4000000000) (hp : ∀ x ∈ l, 1 ≤ x ∧ x ≤ 1000000) :
    Calls Tryd.prog 14 #[v] w fun e w' => e = .returned (.int .i64 ((way l).1 : Nat)) ∧ w = w' := by
  obtain rfl : l.length = k := by have := hR.len; simpa [ints_length] using this
  rcases hR.form with ⟨h0, ao, c, rfl⟩ | ⟨b, off, c, rfl, _⟩
  · obtain rfl : l = [] := List.eq_nil_of_length_eq_zero h0
    exact refSteps_none w ao c
  · rcases Nat.eq_zero_or_pos l.length with h0 | h0
    · obtain rfl : l = [] := List.eq_nil_of_length_eq_zero h0
      exact refSteps_none w _ c
    · exact refSteps_some w b off c l h0 hR hl hp
end Go.Proofs.YtidgnlcokfnhgaaDoor
