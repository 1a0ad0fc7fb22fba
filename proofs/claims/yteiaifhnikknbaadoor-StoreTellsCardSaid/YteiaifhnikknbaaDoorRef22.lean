/- The document's answers of chapter 22, the plain ones: Right, New, Height, Keep, Fail; Few. -/
import Derived.Test.YteiaifhnikknbaaDoorStNew
import Derived.Test.YteiaifhnikknbaaDoorLaidTab
import Derived.Test.YteiaifhnikknbaaDoorTowerRef
import Derived.Test.YteiaifhnikknbaaDoorStHeight
namespace Go.Proofs.YteiaifhnikknbaaDoor
open Go.RowKit

variable {w w' : World} {G : Gd} {sl sd si st : Value} {K : Cfg}
set_option maxHeartbeats 400000 in
theorem size19_yes (w : World) (u : Int) (h1 : 6 ≤ u) (h2 : u ≤ 1073741824) : Calls Tryd.prog 50 #[.int .u64 u] w fun e w' => e = .returned (.tuple #[.int .i64 (skA u), .int .i64 (skP u)]) ∧ w = w' := by
  go_enter Tryd.func50, Tryd.ntmps50
  go_wp2
  go_ret2
  exact ⟨rfl, rfl⟩
set_option maxRecDepth 100000 in
set_option maxHeartbeats 2000000 in
theorem refRight_any (hw : K.Wf) (ao : Option Addr) (c : Nat) : Calls Tryd.prog 18 #[.agg (cfC K (.slice ao K.heights.length c)).toArray] w fun e w' => e = .returned (.bool (rightB K)) ∧ Below w.heap.size w w' := by
  obtain ⟨n, hn⟩ : ∃ n, K.heights.length = n := ⟨_, rfl⟩
  obtain ⟨a, ha⟩ : ∃ a, skA K.units = a := ⟨_, rfl⟩
  have hB0 : rightB K = decide (6 ≤ K.units ∧ K.units ≤ 20000 ∧ 1 ≤ K.imms ∧ K.imms ≤ 8 ∧ 2 ≤ K.lists ∧ K.lists ≤ 64 ∧ 1 ≤ K.group ∧ K.group ≤ 32 ∧ n ≤ 1000 ∧ 2 + K.lists * a ≤ 100000) := by rw [← hn, ← ha]; rfl
  rw [hB0, hn]
  obtain ⟨u0, u1⟩ := hw.u
  have u2 := hw.n
  rw [hn] at u2
  obtain ⟨W, hW⟩ : ∃ W, w.alloc (.cells (cfC K (.slice ao n c)).toArray 49) = W := ⟨_, rfl⟩
  have k1 : Blk W w.heap.size 49 (cfC K (.slice ao n c)) := by rw [← hW]; exact Blk.new _ _ _
  have hB : Below w.heap.size w W := by rw [← hW]; exact (Below.refl _ _).alloc (Nat.le_refl _) _
  have d0 := k1.cell 0 rfl
  have d1 := k1.cell 1 rfl
  have d2 := k1.cell 2 rfl
  have d3 := k1.cell 3 rfl
  have d5 := k1.cell 5 rfl
  have hsz : 6 ≤ K.units → K.units ≤ 20000 → Calls Tryd.prog 50 #[.int .u64 K.units] W fun e w' => e = .returned (.tuple #[.int .i64 a, .int .i64 (skP K.units)]) ∧ W = w' := fun h1 h2 => by rw [← ha]; exact size19_yes W K.units h1 (by omega)
  have a1 : 6 ≤ K.units → K.units ≤ 20000 → 14 ≤ a ∧ a ≤ 200000 := fun h1 h2 => by rw [← ha]; unfold skA; omega
  have hfin : ∀ (b : Bool), (6 ≤ K.units ∧ K.units ≤ 20000 ∧ 1 ≤ K.imms ∧ K.imms ≤ 8 ∧ 2 ≤ K.lists ∧ K.lists ≤ 64 ∧ 1 ≤ K.group ∧ K.group ≤ 32 ∧ n ≤ 1000 ∧ 2 + K.lists * a ≤ 100000 ↔ b = true) → decide (6 ≤ K.units ∧ K.units ≤ 20000 ∧ 1 ≤ K.imms ∧ K.imms ≤ 8 ∧ 2 ≤ K.lists ∧ K.lists ≤ 64 ∧ 1 ≤ K.group ∧ K.group ≤ 32 ∧ n ≤ 1000 ∧ 2 + K.lists * a ≤ 100000) = b := fun b h => by
    cases b
    · exact decide_eq_false fun h1 => by simpa using h.1 h1
    · exact decide_eq_true (h.2 rfl)
  have HS := Lib.hid hsz
  have HF := Lib.hid hfin
  clear hsz hfin hB0 ha hn hw k1
  have two : ∀ (p q : Prop), (p → False) → ¬ p := fun _ _ h => h
  clear two
  by_cases c0 : K.units < 6
  · rw [HF.out false ⟨fun h => by omega, fun h => by cases h⟩]
    clear a1
    go_enter Tryd.func18, Tryd.ntmps18
    go_wp2
    go_ret
    exact ⟨rfl, hB⟩
  by_cases c1 : 20000 < K.units
  · rw [HF.out false ⟨fun h => by omega, fun h => by cases h⟩]
    clear a1
    go_enter Tryd.func18, Tryd.ntmps18
    go_wp2
    go_ret
    exact ⟨rfl, hB⟩
  have a2 := a1 (by omega) (by omega)
  have hs2 := HS.out (by omega) (by omega)
  have HS2 := Lib.hid hs2
  clear a1 hs2
  by_cases c2 : K.imms < 1
  · rw [HF.out false ⟨fun h => by omega, fun h => by cases h⟩]
    go_enter Tryd.func18, Tryd.ntmps18
    go_wp2
    go_ret
    exact ⟨rfl, hB⟩
  by_cases c3 : 8 < K.imms
  · rw [HF.out false ⟨fun h => by omega, fun h => by cases h⟩]
    go_enter Tryd.func18, Tryd.ntmps18
    go_wp2
    go_ret
    exact ⟨rfl, hB⟩
  by_cases c4 : K.lists < 2
  · rw [HF.out false ⟨fun h => by omega, fun h => by cases h⟩]
    go_enter Tryd.func18, Tryd.ntmps18
    go_wp2
    go_ret
    exact ⟨rfl, hB⟩
  by_cases c5 : 64 < K.lists
  · rw [HF.out false ⟨fun h => by omega, fun h => by cases h⟩]
    go_enter Tryd.func18, Tryd.ntmps18
    go_wp2
    go_ret
    exact ⟨rfl, hB⟩
  by_cases c6 : K.group < 1
  · rw [HF.out false ⟨fun h => by omega, fun h => by cases h⟩]
    go_enter Tryd.func18, Tryd.ntmps18
    go_wp2
    go_ret
    exact ⟨rfl, hB⟩
  by_cases c7 : 32 < K.group
  · rw [HF.out false ⟨fun h => by omega, fun h => by cases h⟩]
    go_enter Tryd.func18, Tryd.ntmps18
    go_wp2
    go_ret
    exact ⟨rfl, hB⟩
  by_cases c8 : 1000 < n
  · rw [HF.out false ⟨fun h => by omega, fun h => by cases h⟩]
    go_enter Tryd.func18, Tryd.ntmps18
    go_wp2
    go_ret
    exact ⟨rfl, hB⟩
  have hl := lists_le (l := K.lists) (a := a) (by omega) (by omega) (by omega)
  by_cases c9 : 2 + K.lists * a ≤ 100000
  · rw [HF.out true ⟨fun _ => rfl, fun _ => by omega⟩]
    go_enter Tryd.func18, Tryd.ntmps18
    go_wp2_with (go_at_call 50; refine HS2.out.mono ?_; rintro e w' ⟨rfl, rfl⟩)
    go_ret
    exact ⟨rfl, hB⟩
  · rw [HF.out false ⟨fun h => by omega, fun h => by cases h⟩]
    have c10 : (2 + K.lists * a ≤ 100000) = False := by simpa using c9
    clear c9
    go_enter Tryd.func18, Tryd.ntmps18
    go_wp2_with (go_at_call 50; refine HS2.out.mono ?_; rintro e w' ⟨rfl, rfl⟩)
    go_ret
    exact ⟨rfl, hB⟩

/-- What is few. -/
def fewB (G : Gd) : Bool := decide (G.l.length ≤ 64 ∧ G.done.length ≤ 64 ∧ G.imms.length ≤ 20 ∧ G.tables.length ≤ 20)
set_option maxRecDepth 100000 in
set_option maxHeartbeats 1000000 in
theorem few_any (h : GR w G sl sd si st) : Calls Tryd.prog 15 #[.agg (gC G sl sd si st).toArray] w fun e w' => e = .returned (.bool (fewB G)) ∧ Below w.heap.size w w' := by
  obtain ⟨a1, c1, rfl⟩ := h.l.slice
  obtain ⟨a2, c2, rfl⟩ := h.d.slice
  obtain ⟨a3, c3, rfl⟩ := h.i.slice
  obtain ⟨a4, c4, rfl⟩ := h.t.slice
  clear h
  obtain ⟨n1, hn1⟩ : ∃ n1, G.l.length = n1 := ⟨_, rfl⟩
  obtain ⟨n2, hn2⟩ : ∃ n2, G.done.length = n2 := ⟨_, rfl⟩
  obtain ⟨n3, hn3⟩ : ∃ n3, G.imms.length = n3 := ⟨_, rfl⟩
  obtain ⟨n4, hn4⟩ : ∃ n4, G.tables.length = n4 := ⟨_, rfl⟩
  have e : fewB G = decide (n1 ≤ 64 ∧ n2 ≤ 64 ∧ n3 ≤ 20 ∧ n4 ≤ 20) := by rw [← hn1, ← hn2, ← hn3, ← hn4]; rfl
  rw [e, hn1, hn2, hn3, hn4]
  obtain ⟨W, hW⟩ : ∃ W, w.alloc (.cells (gC G (.slice a1 n1 c1) (.slice a2 n2 c2) (.slice a3 n3 c3) (.slice a4 n4 c4)).toArray 31) = W := ⟨_, rfl⟩
  have k1 : Blk W w.heap.size 31 (gC G (.slice a1 n1 c1) (.slice a2 n2 c2) (.slice a3 n3 c3) (.slice a4 n4 c4)) := by rw [← hW]; exact Blk.new _ _ _
  have hB : Below w.heap.size w W := by rw [← hW]; exact (Below.refl _ _).alloc (Nat.le_refl _) _
  have d0 := k1.cell 0 rfl
  have d1 := k1.cell 1 rfl
  have d6 := k1.cell 6 rfl
  have d9 := k1.cell 9 rfl
  clear k1 hn1 hn2 hn3 hn4 e
  by_cases h1 : n1 ≤ 64
  · by_cases h2 : n2 ≤ 64
    · by_cases h3 : n3 ≤ 20
      · by_cases h4 : n4 ≤ 20
        · rw [decide_eq_true ⟨h1, h2, h3, h4⟩]
          have e4 : decide ((n4 : Int) ≤ 20) = true := decide_eq_true (by omega)
          have E4 := Lib.hid e4
          clear e4 h4
          go_enter Tryd.func15, Tryd.ntmps15
          go_wp2
          go_ret
          exact ⟨by show Ending.returned (.bool (decide ((n4 : Int) ≤ 20))) = _; rw [E4.out], hB⟩
        · rw [decide_eq_false (fun h => h4 h.2.2.2)]
          have e4 : decide ((n4 : Int) ≤ 20) = false := decide_eq_false (by omega)
          have E4 := Lib.hid e4
          clear e4 h4
          go_enter Tryd.func15, Tryd.ntmps15
          go_wp2
          go_ret
          exact ⟨by show Ending.returned (.bool (decide ((n4 : Int) ≤ 20))) = _; rw [E4.out], hB⟩
      · rw [decide_eq_false (fun h => h3 h.2.2.1)]
        go_enter Tryd.func15, Tryd.ntmps15
        go_wp2
        go_ret
        exact ⟨rfl, hB⟩
    · rw [decide_eq_false (fun h => h2 h.2.1)]
      go_enter Tryd.func15, Tryd.ntmps15
      go_wp2
      go_ret
      exact ⟨rfl, hB⟩
  · rw [decide_eq_false (fun h => h1 h.1)]
    go_enter Tryd.func15, Tryd.ntmps15
    go_wp2
    go_ret
    exact ⟨rfl, hB⟩

set_option maxRecDepth 100000 in
set_option maxHeartbeats 1000000 in
theorem refKeep_any (h : GR w G sl sd si st) (hs : G.imms.length ≤ 1000000) :
    Calls Tryd.prog 24 #[.agg (gC G sl sd si st).toArray] w fun e w' => e = .returned (.int .u64 (keepG G)) ∧ Below w.heap.size w w' := by
  have hi := h.i
  obtain ⟨ai, ci, rfl⟩ := hi.slice
  obtain ⟨W, hW⟩ : ∃ W, w.alloc (.cells (gC G sl sd (.slice ai G.imms.length ci) st).toArray 31) = W := ⟨_, rfl⟩
  have k1 : Blk W w.heap.size 31 (gC G sl sd (.slice ai G.imms.length ci) st) := by rw [← hW]; exact Blk.new _ _ _
  have hB : Below w.heap.size w W := by rw [← hW]; exact (Below.refl _ _).alloc (Nat.le_refl _) _
  have hi2 := hi.below hB
  clear h hi
  cases hm : G.imms with
  | nil =>
    have e1 : keepG G = G.log := by simp [keepG, hm]
    have c6 := k1.cell 6 (v := .slice ai G.imms.length ci) rfl
    have c7 := k1.cell 7 (v := .int .u64 G.log) rfl
    rw [hm] at c6
    rw [List.length_nil] at c6
    rw [hm, List.length_nil] at hW
    rw [e1, List.length_nil]
    clear hi2 hm hs k1 e1
    go_enter Tryd.func24, Tryd.ntmps24
    go_wp2
    go_loop [3] (fun s => s = .int .i64 0) (fun _ => 0)
    case atStart => exact rfl
    case round =>
      obtain rfl := hrel
      go_wp2
      go_ret
      exact ⟨rfl, hB⟩
  | cons x l =>
    have e1 : keepG G = x.log := by simp [keepG, hm]
    obtain ⟨n, hn⟩ : ∃ n, G.imms.length = n := ⟨_, rfl⟩
    have hn0 : 0 < n := by rw [← hn, hm]; simp
    have c6 := k1.cell 6 (v := .slice ai G.imms.length ci) rfl
    rw [hn] at hi2 c6 hs hW
    have hn2 : (x :: l).length = n := by rw [← hm]; exact hn
    rw [e1, hn2]
    rcases hi2.form with ⟨h0, _⟩ | ⟨b, off, c, he, hc, hr⟩
    · omega
    · cases he
      have x1 := hr 1 (.int .u64 x.log) (by rw [hm]; rfl)
      clear hr hi2 hm hn k1 e1 hn2
      go_enter Tryd.func24, Tryd.ntmps24
      go_wp2
      go_loop [3] (fun s => s = .int .i64 0) (fun _ => 0)
      case atStart => exact rfl
      case round =>
        obtain rfl := hrel
        go_wp2
        go_ret
        exact ⟨rfl, hB⟩
end Go.Proofs.YteiaifhnikknbaaDoor
