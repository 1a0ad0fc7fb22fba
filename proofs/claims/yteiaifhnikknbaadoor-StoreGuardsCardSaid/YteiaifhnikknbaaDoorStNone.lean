/- A store that is none; New of what may not be. -/
import Derived.Test.YteiaifhnikknbaaDoorStNew
namespace Go.Proofs.YteiaifhnikknbaaDoor
open Go.RowKit

def NoStore (w : World) (v : Value) : Prop := v = .pointer none ∨ ∃ p, v = .pointer (some ⟨p, 0, none⟩) ∧ w.cell? ⟨p, 6, none⟩ = some (.pointer none)
theorem NoStore.below {w w' : World} {v : Value} (h : NoStore w v) (hb : Below w.heap.size w w') : NoStore w' v :=
  h.imp id fun ⟨p, hv, hc⟩ => ⟨p, hv, (hb.cell (p := ⟨p, 6, none⟩) (World.block_lt_of_cell? w _ hc)).trans hc⟩
def k0 : Cfg := ⟨0, 0, 0, 0, false, []⟩
def gzL : List Value := [.slice none 0 0, .slice none 0 0, .int .i64 0, .int .u64 0, .int .i64 0, .int .i64 0, .slice none 0 0, .int .u64 0, .int .u64 0, .slice none 0 0, .bool false]
variable {w : World} {v : Value}
set_option maxHeartbeats 400000 in
theorem sis_none (h : NoStore w v) : Calls Tryd.prog 61 #[v] w fun e w' => e = .returned (.bool false) ∧ w = w' := by
  rcases h with rfl | ⟨p, rfl, hc⟩
  · go_enter Tryd.func61, Tryd.ntmps61
    go_wp2
    go_ret
    exact ⟨rfl, rfl⟩
  · go_enter Tryd.func61, Tryd.ntmps61
    go_wp2
    go_ret
    exact ⟨rfl, rfl⟩
set_option maxHeartbeats 400000 in
theorem scells_none (h : NoStore w v) : Calls Tryd.prog 29 #[v] w fun e w' => e = .returned (.pointer none) ∧ w = w' := by
  go_enter Tryd.func29, Tryd.ntmps29
  go_wp2_with (go_at_call 61; refine (sis_none h).mono ?_; rintro e w' ⟨rfl, rfl⟩)
  go_ret
  exact ⟨rfl, rfl⟩
set_option maxHeartbeats 400000 in
theorem slocks_none (h : NoStore w v) : Calls Tryd.prog 28 #[v] w fun e w' => e = .returned (.pointer none) ∧ w = w' := by
  go_enter Tryd.func28, Tryd.ntmps28
  go_wp2_with (go_at_call 61; refine (sis_none h).mono ?_; rintro e w' ⟨rfl, rfl⟩)
  go_ret
  exact ⟨rfl, rfl⟩
set_option maxHeartbeats 400000 in
theorem sdisk_none (h : NoStore w v) : Calls Tryd.prog 38 #[v] w fun e w' => e = .returned (.pointer none) ∧ w = w' := by
  go_enter Tryd.func38, Tryd.ntmps38
  go_wp2_with (go_at_call 61; refine (sis_none h).mono ?_; rintro e w' ⟨rfl, rfl⟩)
  go_ret
  exact ⟨rfl, rfl⟩
set_option maxHeartbeats 400000 in
theorem slist_none (h : NoStore w v) (n : Int) : Calls Tryd.prog 39 #[v, .int .i64 n] w fun e w' => e = .returned (.pointer none) ∧ w = w' := by
  go_enter Tryd.func39, Tryd.ntmps39
  go_wp2_with (go_at_call 61; refine (sis_none h).mono ?_; rintro e w' ⟨rfl, rfl⟩)
  go_ret
  exact ⟨rfl, rfl⟩
set_option maxHeartbeats 400000 in
theorem sheight_none (h : NoStore w v) (n : Int) : Calls Tryd.prog 34 #[v, .int .u64 n] w fun e w' => e = .returned (.int .i64 0) ∧ w = w' := by
  go_enter Tryd.func34, Tryd.ntmps34
  go_wp2_with (go_at_call 61; refine (sis_none h).mono ?_; rintro e w' ⟨rfl, rfl⟩)
  go_ret
  exact ⟨rfl, rfl⟩
set_option maxHeartbeats 400000 in
theorem sheld_none (h : NoStore w v) (t what : Int) : Calls Tryd.prog 65 #[v, .int .i64 t, .int .u8 what] w fun e w' => e = .returned (.int .i64 1) ∧ w = w' := by
  go_enter Tryd.func65, Tryd.ntmps65
  go_wp2_with (go_at_call 61; refine (sis_none h).mono ?_; rintro e w' ⟨rfl, rfl⟩)
  go_ret
  exact ⟨rfl, rfl⟩
set_option maxRecDepth 100000 in
set_option maxHeartbeats 1000000 in
theorem sconfig_none (h : NoStore w v) : Calls Tryd.prog 36 #[v] w fun e w' => e = .returned (.agg #[.int .u64 0, .int .i64 0, .int .i64 0, .int .i64 0, .bool false, .slice none 0 0]) ∧ Below w.heap.size w w' := by
  obtain ⟨W, hW⟩ : ∃ W, w.alloc (.cells #[.int .u64 0, .int .i64 0, .int .i64 0, .int .i64 0, .bool false, .slice none 0 0] 49) = W := ⟨_, rfl⟩
  have hB : Below w.heap.size w W := by rw [← hW]; exact (Below.refl _ _).alloc (Nat.le_refl _) _
  have k1 : Blk W w.heap.size 49 [.int .u64 0, .int .i64 0, .int .i64 0, .int .i64 0, .bool false, .slice none 0 0] := by rw [← hW]; exact Blk.new _ _ _
  have h1 := h.below hB
  have H1 := Lib.hid h1
  clear h h1
  go_enter Tryd.func36, Tryd.ntmps36
  go_wp2_with (first | (go_at_call 61; refine (sis_none H1.out).mono ?_; rintro e w' ⟨rfl, rfl⟩) | (refine wpList_store_blk rfl 49 _ _ rfl w.heap.size [.int .u64 0, .int .i64 0, .int .i64 0, .int .i64 0, .bool false, .slice none 0 0] (by rfl) (by rfl) _ k1 infoCf rfl (by intro u hu; simp at hu; rcases hu with rfl | rfl | rfl | rfl | rfl | rfl <;> rfl) ?_))
  have k2 := k1.setRow [.int .u64 0, .int .i64 0, .int .i64 0, .int .i64 0, .bool false, .slice none 0 0]
  exact bodyPost_ret (results_cell_one (P := Tryd.prog) Tryd.results36 rfl (k2.loadRow _ Tryd.underlying49 rfl infoCf)) rfl ⟨rfl, below_setRow hB (Nat.le_refl _) _⟩
set_option maxRecDepth 100000 in
set_option maxHeartbeats 1000000 in
theorem sget_none (h : NoStore w v) (t : Int) : Calls Tryd.prog 31 #[v, .int .i64 t] w fun e w' => e = .returned (.tuple #[.agg #[.slice none 0 0, .slice none 0 0, .int .i64 0, .int .u64 0, .int .i64 0, .int .i64 0, .slice none 0 0, .int .u64 0, .int .u64 0, .slice none 0 0, .bool false], .int .i64 1]) ∧ Below w.heap.size w w' := by
  obtain ⟨W, hW⟩ : ∃ W, w.alloc (.cells #[.slice none 0 0, .slice none 0 0, .int .i64 0, .int .u64 0, .int .i64 0, .int .i64 0, .slice none 0 0, .int .u64 0, .int .u64 0, .slice none 0 0, .bool false] 31) = W := ⟨_, rfl⟩
  have hB : Below w.heap.size w W := by rw [← hW]; exact (Below.refl _ _).alloc (Nat.le_refl _) _
  have k1 : Blk W w.heap.size 31 gzL := by rw [← hW]; exact Blk.new _ _ _
  have h1 := h.below hB
  have H1 := Lib.hid h1
  clear h h1
  go_enter Tryd.func31, Tryd.ntmps31
  go_wp2_with (first | (go_at_call 65; refine (sheld_none H1.out _ _).mono ?_; rintro e w' ⟨rfl, rfl⟩) | (refine wpList_store_blk rfl 31 _ _ rfl w.heap.size gzL (by rfl) (by rfl) _ k1 infoG rfl (gC_one gz rfl rfl rfl rfl) ?_))
  have k2 := k1.setRow gzL
  exact bodyPost_ret (results_cell_tmp (P := Tryd.prog) Tryd.results31 rfl (k2.loadRow _ Tryd.underlying31 rfl infoG) (.int .i64 1) rfl) rfl ⟨rfl, below_setRow hB (Nat.le_refl _) _⟩
set_option maxRecDepth 100000 in
set_option maxHeartbeats 1000000 in
theorem sset_none (h : NoStore w v) (t : Int) (g : Array Value) : Calls Tryd.prog 37 #[v, .int .i64 t, .agg g] w fun e w' => e = .returned (.int .i64 1) ∧ Below w.heap.size w w' := by
  obtain ⟨W, hW⟩ : ∃ W, w.alloc (.cells g 31) = W := ⟨_, rfl⟩
  have hB : Below w.heap.size w W := by rw [← hW]; exact (Below.refl _ _).alloc (Nat.le_refl _) _
  have h1 := h.below hB
  have H1 := Lib.hid h1
  clear h h1
  go_enter Tryd.func37, Tryd.ntmps37
  go_wp2_with (first | (go_at_call 65; refine (sheld_none H1.out _ _).mono ?_; rintro e w' ⟨rfl, rfl⟩))
  go_ret
  exact ⟨rfl, hB⟩
set_option maxRecDepth 100000 in
set_option maxHeartbeats 1000000 in
theorem stnew_nodisk {K : Cfg} {sh : Value} (h : rightB K = true) (hs : Reads w 1 sh K.heights.length (u32s K.heights)) (vs : Array Value) (log : Int) :
    Calls Tryd.prog 26 #[.agg (cfC K sh).toArray, .pointer none, .agg vs, .int .u64 log] w fun e w' => e = .returned (.tuple #[.pointer none, .int .i64 2]) ∧ Below w.heap.size w w' := by
  obtain ⟨ao, co, rfl⟩ := hs.slice
  obtain ⟨W, hW⟩ : ∃ W, (w.alloc (.cells (cfC K (.slice ao K.heights.length co)).toArray 49)).alloc (.cells vs 51) = W := ⟨_, rfl⟩
  have k1 : Blk W w.heap.size 49 (cfC K (.slice ao K.heights.length co)) := by rw [← hW]; exact (Blk.new w _ _).alloc _
  have hB : Below w.heap.size w W := by rw [← hW]; exact ((Below.refl _ _).alloc (Nat.le_refl _) _).alloc (by simp) _
  have hr := right_yes (w := W) h ao co
  have HR := Lib.hid hr
  clear hr h hs
  go_enter Tryd.func26, Tryd.ntmps26
  go_wp2_with (first | (refine wpList_load_blk rfl 49 _ rfl w.heap.size (by rfl) (cfC K (.slice ao K.heights.length co)) k1 _ Tryd.underlying49 rfl infoCf ?_) | (go_at_call 17; refine HR.out.mono ?_; rintro e w1 ⟨rfl, hB1⟩))
  go_ret2
  exact ⟨rfl, hB.trans (hB1.mono hB.size)⟩
set_option maxRecDepth 100000 in
set_option maxHeartbeats 1000000 in
theorem stnew_no {K : Cfg} {sh : Value} (hw : K.Wf) (h : rightB K = false) (hs : Reads w 1 sh K.heights.length (u32s K.heights)) (d : Addr) (vs : Array Value) (log : Int) :
    Calls Tryd.prog 26 #[.agg (cfC K sh).toArray, .pointer (some d), .agg vs, .int .u64 log] w fun e w' => e = .returned (.tuple #[.pointer none, .int .i64 2]) ∧ Below w.heap.size w w' := by
  obtain ⟨ao, co, rfl⟩ := hs.slice
  obtain ⟨W, hW⟩ : ∃ W, (w.alloc (.cells (cfC K (.slice ao K.heights.length co)).toArray 49)).alloc (.cells vs 51) = W := ⟨_, rfl⟩
  have k1 : Blk W w.heap.size 49 (cfC K (.slice ao K.heights.length co)) := by rw [← hW]; exact (Blk.new w _ _).alloc _
  have hB : Below w.heap.size w W := by rw [← hW]; exact ((Below.refl _ _).alloc (Nat.le_refl _) _).alloc (by simp) _
  have hr := right_no (w := W) hw h ao co
  have HR := Lib.hid hr
  clear hr h hs hw
  go_enter Tryd.func26, Tryd.ntmps26
  go_wp2_with (first | (refine wpList_load_blk rfl 49 _ rfl w.heap.size (by rfl) (cfC K (.slice ao K.heights.length co)) k1 _ Tryd.underlying49 rfl infoCf ?_) | (go_at_call 17; refine HR.out.mono ?_; rintro e w1 ⟨rfl, hB1⟩))
  go_ret2
  exact ⟨rfl, hB.trans (hB1.mono hB.size)⟩
end Go.Proofs.YteiaifhnikknbaaDoor
