/- Of a list that is none. -/
import Derived.Test.YtkpjfdhjkgdcbaaInsBegin
namespace Go.Proofs.Ytkpjfdhjkgdcbaa
open Go.RowKit

/-- No list: nil, or one that New did not answer. -/
structure NoList (w : World) (v : Value) : Prop where
  form : v = .pointer none ∨ ∃ a, v = .pointer (some ⟨a, 0, none⟩) ∧ Blk w a 98 [.pointer none, .pointer none, .int .i64 0, .int .i64 0, .int .i64 0]
theorem NoList.below {w w' : World} {v : Value} (h : NoList w v) (hb : Below w.heap.size w w') : NoList w' v := ⟨h.form.imp id fun ⟨a, e, k⟩ => ⟨a, e, k.keep (hb.block _ k.lt)⟩⟩
set_option maxHeartbeats 400000 in
theorem lis_none {w : World} {v : Value} (h : NoList w v) : Calls Try.prog 44 #[v] w fun e w' => e = .returned (.bool false) ∧ w = w' := by
  rcases h.form with rfl | ⟨a, rfl, hk⟩
  · go_enter Try.func44, Try.ntmps44
    go_wp2
    go_ret
    exact ⟨rfl, rfl⟩
  · have c1 := hk.cell 1 (v := .pointer none) rfl
    go_enter Try.func44, Try.ntmps44
    go_wp2
    go_ret
    exact ⟨rfl, rfl⟩
theorem lnext_none {w : World} {v : Value} (h : NoList w v) (t n l : Int) : Calls Try.prog 29 #[v, .int .i64 t, .int .i64 n, .int .i64 l] w fun e w' => e = .returned (.tuple #[.int .i64 0, .int .i64 1]) ∧ w = w' := by
  have hi := Lib.hid (lis_none h)
  clear h
  go_enter Try.func29, Try.ntmps29
  go_wp2_with (go_at_call 44; refine hi.out.mono ?_; rintro e w' ⟨rfl, rfl⟩)
  go_ret2
  exact ⟨rfl, rfl⟩
theorem lread_none {w : World} {v : Value} (h : NoList w v) (t n l : Int) : Calls Try.prog 38 #[v, .int .i64 t, .int .i64 n, .int .i64 l] w fun e w' => e = .returned (.tuple #[.slice none 0 0, .int .i64 1]) ∧ w = w' := by
  have hi := Lib.hid (lis_none h)
  clear h
  go_enter Try.func38, Try.ntmps38
  go_wp2_with (go_at_call 44; refine hi.out.mono ?_; rintro e w' ⟨rfl, rfl⟩)
  go_ret2
  exact ⟨rfl, rfl⟩
theorem lleft_none {w : World} {v : Value} (h : NoList w v) (t : Int) : Calls Try.prog 31 #[v, .int .i64 t] w fun e w' => e = .returned (.tuple #[.int .u64 0, .int .i64 1]) ∧ w = w' := by
  have hi := Lib.hid (lis_none h)
  clear h
  go_enter Try.func31, Try.ntmps31
  go_wp2_with (go_at_call 44; refine hi.out.mono ?_; rintro e w' ⟨rfl, rfl⟩)
  go_ret2
  exact ⟨rfl, rfl⟩
theorem lval_none {w : World} {v : Value} (h : NoList w v) (t n : Int) : Calls Try.prog 18 #[v, .int .i64 t, .int .i64 n] w fun e w' => e = .returned (.tuple #[.string ⟨#[]⟩, .int .i64 1]) ∧ w = w' := by
  have hi := Lib.hid (lread_none h t n 1)
  have ht : (convert 51 9 (.slice none 0 0)).run Try.prog w = .ok (.string ⟨#[]⟩) w := (Row.nil w 5 1 (fun _ => True)).text (L := [])
  clear h
  go_enter Try.func18, Try.ntmps18
  go_wp2_with (go_at_call 38; refine hi.out.mono ?_; rintro e w' ⟨rfl, rfl⟩)
  go_ret2
  exact ⟨rfl, rfl⟩
theorem begin_none {w : World} {v : Value} (h : NoList w v) (task height : Int) (e : En) : Calls Try.prog 24 #[v, .int .i64 task, .agg (enC e).toArray, .int .i64 height] w fun r w' => r = .returned (.tuple #[.pointer none, .int .i64 1]) ∧ Below w.heap.size w w' := by
  obtain ⟨W, hW⟩ : ∃ W, w.alloc (.cells (enC e).toArray 38) = W := ⟨_, rfl⟩
  have hB : Below w.heap.size w W := by rw [← hW]; exact (Below.refl _ _).alloc (Nat.le_refl _) _
  have hi := Lib.hid (lis_none (h.below hB))
  clear h
  go_enter Try.func24, Try.ntmps24
  go_wp2_with (go_at_call 44; refine hi.out.mono ?_; rintro r w' ⟨rfl, rfl⟩)
  go_ret2
  exact ⟨rfl, hB⟩
/-- Step of an insert that is none. -/
theorem step_nil (w : World) : Calls Try.prog 26 #[.pointer none] w fun r w' => r = .returned (.tuple #[.bool false, .int .i64 1]) ∧ w = w' := by
  go_enter Try.func26, Try.ntmps26
  go_wp2
  go_ret2
  exact ⟨rfl, rfl⟩
theorem step_none {w : World} {a : Nat} (h : w.cell? ⟨a, 0, none⟩ = some (.pointer none)) : Calls Try.prog 26 #[.pointer (some ⟨a, 0, none⟩)] w fun r w' => r = .returned (.tuple #[.bool false, .int .i64 1]) ∧ w = w' := by
  go_enter Try.func26, Try.ntmps26
  go_wp2
  go_ret2
  exact ⟨rfl, rfl⟩
theorem put_none {w : World} {v : Value} (h : NoList w v) (task height : Int) (e : En) : Calls Try.prog 13 #[v, .int .i64 task, .agg (enC e).toArray, .int .i64 height] w fun r w' => r = .returned (.int .i64 1) ∧ Below w.heap.size w w' := by
  obtain ⟨W, hW⟩ : ∃ W, w.alloc (.cells (enC e).toArray 38) = W := ⟨_, rfl⟩
  have k1 : Blk W w.heap.size 38 (enC e) := by rw [← hW]; exact Blk.new _ _ _
  have hB : Below w.heap.size w W := by rw [← hW]; exact (Below.refl _ _).alloc (Nat.le_refl _) _
  have hi := Lib.hid (begin_none (h.below hB) task height e)
  clear h
  go_enter Try.func13, Try.ntmps13
  go_wp2_with (first | (refine wpList_load_blk rfl 38 _ rfl w.heap.size (by rfl) (enC e) k1 _ Try.underlying38 rfl infoEn19 ?_) | (go_at_call 24; refine hi.out.mono ?_; rintro r w1 ⟨rfl, hb1⟩))
  go_loopw [10] (fun f wr => f = .int .i64 1 ∧ w1 = wr) (fun _ _ => 0)
  case atStart => exact ⟨rfl, rfl⟩
  case round =>
    obtain ⟨rfl, rfl⟩ := hrel
    go_wp2
    go_ret
    exact ⟨rfl, hB.trans (hb1.mono hB.size)⟩
set_option maxRecDepth 100000 in
set_option maxHeartbeats 1000000 in
theorem lkey_none {w : World} {v : Value} (h : NoList w v) (task node : Int) : Calls Try.prog 15 #[v, .int .i64 task, .int .i64 node] w fun r w' => r = .returned (.tuple #[.agg (ikC ik0).toArray, .int .i64 1]) ∧ Below w.heap.size w w' := by
  obtain ⟨W0, hW0⟩ : ∃ W, w.alloc (.cells #[.string ⟨#[]⟩, .int .u64 0, .int .u8 0] 36) = W := ⟨_, rfl⟩
  have k0 : Blk W0 w.heap.size 36 (ikC ik0) := by rw [← hW0]; exact Blk.new _ _ (ikC ik0)
  have hB0 : Below w.heap.size w W0 := by rw [← hW0]; exact (Below.refl _ _).alloc (Nat.le_refl _) _
  have hi := Lib.hid (lread_none (h.below hB0) task node 0)
  clear h
  go_enter Try.func15, Try.ntmps15
  go_upto_region 3 with (first | (go_at_call 38; refine hi.out.mono ?_; rintro e w1 ⟨rfl, rfl⟩) | (go_at_call 39; refine (ikTake_nil _ _ _).mono ?_; rintro e w2 ⟨rfl, hb2⟩; obtain ⟨W3, hW3⟩ : ∃ W, w2.alloc (.cells #[.string ⟨#[]⟩, .int .u64 0, .int .u8 0] 36) = W := ⟨_, rfl⟩; have k3 : Blk W3 w2.heap.size 36 (ikC ik0) := by rw [← hW3]; exact Blk.new _ _ (ikC ik0)) | (refine wpList_store_blk rfl 36 _ _ rfl w2.heap.size (ikC ik0) (by rfl) (by rfl) (ikC ik0) k3 infoIk rfl (ikC_one ik0) ?_))
  have hB3 : Below W0.heap.size W0 W3 := by rw [← hW3]; exact hb2.alloc hb2.size _
  have hlt : w.heap.size < w2.heap.size := Nat.lt_of_lt_of_le k0.lt hb2.size
  have q3 : Blk W3 w.heap.size 36 (ikC ik0) := k0.keep (hB3.block _ k0.lt)
  have q4 := q3.setRow_other (Nat.ne_of_lt hlt) (ikC ik0).toArray
  have hB4 := below_setRow (hB0.trans (hB3.mono hB0.size)) (b := w2.heap.size) (Nat.le_of_lt hlt) (ikC ik0).toArray
  obtain ⟨W4, hW4⟩ : ∃ W, W3.setRow w2.heap.size (ikC ik0).toArray = W := ⟨_, rfl⟩
  rw [hW4] at q4 hB4
  simp only [hW4]
  go_wp2_with (refine wpList_store_blk rfl 36 _ _ rfl w.heap.size (ikC ik0) (by rfl) (by rfl) (ikC ik0) q4 infoIk rfl (ikC_one ik0) ?_)
  have r5 := q4.setRow (ikC ik0)
  exact bodyPost_ret (results_cell_tmp (P := Try.prog) Try.results15 rfl (r5.loadRow _ Try.underlying36 rfl infoIk) _ rfl) rfl ⟨rfl, below_setRow hB4 (Nat.le_refl _) _⟩
end Go.Proofs.Ytkpjfdhjkgdcbaa
