/- Nodes and levels that there are not. -/
import Derived.Test.YtkpjfdhjkgdcbaaSkipNone
namespace Go.Proofs.Ytkpjfdhjkgdcbaa
open Go.RowKit

set_option maxHeartbeats 1000000 in
theorem lnext_arg {w : World} {k : SkRef} {c : CRef} (h : SkAt w k c) (task node level : Int) (hno : ¬ (0 ≤ node ∧ node ≤ k.units / 6 ∧ 0 ≤ level ∧ level < 6)) :
    Calls Try.prog 29 #[.pointer (some ⟨k.lp, 0, none⟩), .int .i64 task, .int .i64 node, .int .i64 level] w fun e w' => e = .returned (.tuple #[.int .i64 0, .int .i64 2]) ∧ w = w' := by
  have c4 := h.list.cell 4 (v := .int .i64 (k.units / 6)) rfl
  obtain ⟨U, hU⟩ : ∃ U, k.units / 6 = U := ⟨_, rfl⟩
  rw [hU] at c4 hno
  clear hU
  by_cases q0 : node < 0
  · go_enter Try.func29, Try.ntmps29
    go_wp2_with (go_at_call 44; refine (lis_yes h).mono ?_; rintro e w' ⟨rfl, rfl⟩)
    go_ret2
    exact ⟨rfl, rfl⟩
  by_cases q1 : U < node
  · go_enter Try.func29, Try.ntmps29
    go_wp2_with (go_at_call 44; refine (lis_yes h).mono ?_; rintro e w' ⟨rfl, rfl⟩)
    go_ret2
    exact ⟨rfl, rfl⟩
  by_cases q2 : level < 0
  · go_enter Try.func29, Try.ntmps29
    go_wp2_with (go_at_call 44; refine (lis_yes h).mono ?_; rintro e w' ⟨rfl, rfl⟩)
    go_ret2
    exact ⟨rfl, rfl⟩
  have q3 : 6 ≤ level := by omega
  go_enter Try.func29, Try.ntmps29
  go_wp2_with (go_at_call 44; refine (lis_yes h).mono ?_; rintro e w' ⟨rfl, rfl⟩)
  go_ret2
  exact ⟨rfl, rfl⟩
set_option maxHeartbeats 1000000 in
theorem lread_arg {w : World} {k : SkRef} {c : CRef} (h : SkAt w k c) (task node behind : Int) (hno : ¬ (1 ≤ node ∧ node ≤ k.units / 6)) :
    Calls Try.prog 38 #[.pointer (some ⟨k.lp, 0, none⟩), .int .i64 task, .int .i64 node, .int .i64 behind] w fun e w' => e = .returned (.tuple #[.slice none 0 0, .int .i64 2]) ∧ w = w' := by
  have c4 := h.list.cell 4 (v := .int .i64 (k.units / 6)) rfl
  obtain ⟨U, hU⟩ : ∃ U, k.units / 6 = U := ⟨_, rfl⟩
  rw [hU] at c4 hno
  clear hU
  by_cases q0 : node < 1
  · go_enter Try.func38, Try.ntmps38
    go_wp2_with (go_at_call 44; refine (lis_yes h).mono ?_; rintro e w' ⟨rfl, rfl⟩)
    go_ret2
    exact ⟨rfl, rfl⟩
  have q1 : U < node := by omega
  go_enter Try.func38, Try.ntmps38
  go_wp2_with (go_at_call 44; refine (lis_yes h).mono ?_; rintro e w' ⟨rfl, rfl⟩)
  go_ret2
  exact ⟨rfl, rfl⟩
set_option maxRecDepth 100000 in
set_option maxHeartbeats 1000000 in
theorem lkey_err {w : World} {v : Value} (task node err : Int) (he : ¬ err = 0) (h : ∀ W, Below w.heap.size w W → Calls Try.prog 38 #[v, .int .i64 task, .int .i64 node, .int .i64 0] W fun e w' => e = .returned (.tuple #[.slice none 0 0, .int .i64 err]) ∧ Quiet W w') : Calls Try.prog 15 #[v, .int .i64 task, .int .i64 node] w fun r w' => r = .returned (.tuple #[.agg (ikC ik0).toArray, .int .i64 err]) ∧ Below w.heap.size w w' := by
  obtain ⟨W0, hW0⟩ : ∃ W, w.alloc (.cells #[.string ⟨#[]⟩, .int .u64 0, .int .u8 0] 36) = W := ⟨_, rfl⟩
  have k0 : Blk W0 w.heap.size 36 (ikC ik0) := by rw [← hW0]; exact Blk.new _ _ (ikC ik0)
  have hB0 : Below w.heap.size w W0 := by rw [← hW0]; exact (Below.refl _ _).alloc (Nat.le_refl _) _
  have hi := Lib.hid (h W0 hB0)
  have he0 : (err == 0) = false := by simpa using he
  clear h
  go_enter Try.func15, Try.ntmps15
  go_upto_region 3 with (first | (go_at_call 38; refine hi.out.mono ?_; rintro e w1 ⟨rfl, hq1⟩) | (go_at_call 39; refine (ikTake_nil _ _ _).mono ?_; rintro e w2 ⟨rfl, hb2⟩; obtain ⟨W3, hW3⟩ : ∃ W, w2.alloc (.cells #[.string ⟨#[]⟩, .int .u64 0, .int .u8 0] 36) = W := ⟨_, rfl⟩; have k3 : Blk W3 w2.heap.size 36 (ikC ik0) := by rw [← hW3]; exact Blk.new _ _ (ikC ik0)) | (refine wpList_store_blk rfl 36 _ _ rfl w2.heap.size (ikC ik0) (by rfl) (by rfl) (ikC ik0) k3 infoIk rfl (ikC_one ik0) ?_))
  have hq := hq1.below W0.heap.size
  have hb2' : Below W0.heap.size W0 w2 := hq.trans (hb2.mono hq.size)
  have hB3 : Below W0.heap.size W0 W3 := by rw [← hW3]; exact hb2'.alloc hb2'.size _
  have hlt : w.heap.size < w2.heap.size := Nat.lt_of_lt_of_le k0.lt hb2'.size
  have q3 : Blk W3 w.heap.size 36 (ikC ik0) := k0.keep (hB3.block _ k0.lt)
  have q4 := q3.setRow_other (Nat.ne_of_lt hlt) (ikC ik0).toArray
  have hB4 := below_setRow (hB0.trans (hB3.mono hB0.size)) (b := w2.heap.size) (Nat.le_of_lt hlt) (ikC ik0).toArray
  obtain ⟨W4, hW4⟩ : ∃ W, W3.setRow w2.heap.size (ikC ik0).toArray = W := ⟨_, rfl⟩
  rw [hW4] at q4 hB4
  simp only [hW4]
  go_wp2_with (refine wpList_store_blk rfl 36 _ _ rfl w.heap.size (ikC ik0) (by rfl) (by rfl) (ikC ik0) q4 infoIk rfl (ikC_one ik0) ?_)
  have r5 := q4.setRow (ikC ik0)
  exact bodyPost_ret (results_cell_tmp (P := Try.prog) Try.results15 rfl (r5.loadRow _ Try.underlying36 rfl infoIk) _ rfl) rfl ⟨rfl, below_setRow hB4 (Nat.le_refl _) _⟩
set_option maxHeartbeats 2000000 in
theorem lnext_task {w : World} {k : SkRef} {c : CRef} {S : Mem} {A : Nat → Prop} (h : Lx w k c S A) (task node level : Int) (ht : ¬ (0 ≤ task ∧ task < 64)) (n0 : 0 ≤ node) (n1 : node ≤ k.units / 6) (l0 : 0 ≤ level) (l1 : level < 6) :
    Calls Try.prog 29 #[.pointer (some ⟨k.lp, 0, none⟩), .int .i64 task, .int .i64 node, .int .i64 level] w fun e w' => e = .returned (.tuple #[.int .i64 0, .int .i64 2]) ∧ Quiet w w' := by
  have c4 := h.sk.list.cell 4 (v := .int .i64 (k.units / 6)) rfl
  obtain ⟨U, hU⟩ : ∃ U, k.units / 6 = U := ⟨_, rfl⟩
  have u0 := h.u0
  have u1 := h.u1
  have sm := h.mem.small
  have f0 := h.f0
  have f1 := h.f1
  have g1 : ¬ node < 0 := by omega
  rw [hU] at f1 n1 c4
  have g2 : ¬ node > U := by omega
  have hok : okAt S.atomics.length task (cellI k node level) = false := decide_eq_false (fun q => ht ⟨q.1, q.2.1⟩)
  have HOK := Lib.hid hok
  have hl1 : k.first ≤ 100000 := by omega
  have hn2 : node ≤ 200000000 := by omega
  have hL1 : Lx w.drew k c S A := h.quiet ⟨⟨1, rfl⟩⟩
  clear hok hU ht
  go_enter Try.func29, Try.ntmps29
  go_upto_region 5 with (go_at_call 44; refine (lis_yes h.sk).mono ?_; rintro e w' ⟨rfl, rfl⟩)
  refine wp_region_held_drew (S := (fun x => SkAt x k c)) (by kernel_rfl) hL1.sk (fun hHeld => ?_)
  refine wpAnyH_take (i := 0) (v := ?_) rfl (by kernel_rfl) (by kernel_rfl) (by kernel_rfl) (fun _ _ _ h => h) (Or.inl ⟨by kernel_rfl, ?_⟩) (by assumption) ?_
  rotate_left
  · (intro w hSw; (try dsimp only at hSw); go_simp; try with_reducible rfl)
  try simp only [Act.put, List.getElem_toArray, List.getElem_cons_zero, List.getElem_cons_succ, List.setIfInBounds_toArray, List.set_cons_zero, List.set_cons_succ]
  refine wpAnyH_take (i := 1) (v := ?_) rfl (by kernel_rfl) (by kernel_rfl) (by kernel_rfl) (fun _ _ _ h => h) (Or.inl ⟨by kernel_rfl, ?_⟩) (by assumption) ?_
  rotate_left
  · (intro w hSw; (try dsimp only at hSw); go_simp; try with_reducible rfl)
  try simp only [Act.put, List.getElem_toArray, List.getElem_cons_zero, List.getElem_cons_succ, List.setIfInBounds_toArray, List.set_cons_zero, List.set_cons_succ]
  refine wpAnyH_take (i := 2) (v := ?_) rfl (by kernel_rfl) (by kernel_rfl) (by kernel_rfl) (fun _ _ _ h => h) (Or.inl ⟨by kernel_rfl, ?_⟩) (by assumption) ?_
  rotate_left
  · (intro w hSw; (try dsimp only at hSw); go_simp; try with_reducible rfl)
  try simp only [Act.put, List.getElem_toArray, List.getElem_cons_zero, List.getElem_cons_succ, List.setIfInBounds_toArray, List.set_cons_zero, List.set_cons_succ]
  refine wpAnyH_take (i := 3) (v := .pointer (some ⟨c.p, 0, none⟩)) rfl (by kernel_rfl) (by kernel_rfl) (by kernel_rfl) (fun _ _ _ h => h) (Or.inl ⟨by kernel_rfl, ?_⟩) (by assumption) ?_
  · (intro y hSw; have hc := hSw.list.cell 0 (v := .pointer (some ⟨c.p, 0, none⟩)) rfl; go_simp; try with_reducible rfl)
  try simp only [Act.put, List.getElem_toArray, List.getElem_cons_zero, List.getElem_cons_succ, List.setIfInBounds_toArray, List.set_cons_zero, List.set_cons_succ]
  refine wpAnyH_take (i := 4) (v := ?_) rfl (by kernel_rfl) (by kernel_rfl) (by kernel_rfl) (fun _ _ _ h => h) (Or.inl ⟨by kernel_rfl, ?_⟩) (by assumption) ?_
  rotate_left
  · (intro w hSw; (try dsimp only at hSw); go_simp; try with_reducible rfl)
  try simp only [Act.put, List.getElem_toArray, List.getElem_cons_zero, List.getElem_cons_succ, List.setIfInBounds_toArray, List.set_cons_zero, List.set_cons_succ]
  refine wpAnyH_take (i := 5) (v := ?_) rfl (by kernel_rfl) (by kernel_rfl) (by kernel_rfl) (fun _ _ _ h => h) (Or.inl ⟨by kernel_rfl, ?_⟩) (by assumption) ?_
  rotate_left
  · (intro w hSw; (try dsimp only at hSw); go_simp; try with_reducible rfl)
  try simp only [Act.put, List.getElem_toArray, List.getElem_cons_zero, List.getElem_cons_succ, List.setIfInBounds_toArray, List.set_cons_zero, List.set_cons_succ]
  refine wpAnyH_take (i := 6) (v := ?_) rfl (by kernel_rfl) (by kernel_rfl) (by kernel_rfl) (fun _ _ _ h => h) (Or.inl ⟨by kernel_rfl, ?_⟩) (by assumption) ?_
  rotate_left
  · (intro w hSw; (try dsimp only at hSw); go_simp; try with_reducible rfl)
  try simp only [Act.put, List.getElem_toArray, List.getElem_cons_zero, List.getElem_cons_succ, List.setIfInBounds_toArray, List.set_cons_zero, List.set_cons_succ]
  refine wpAnyH_take (i := 7) (v := ?_) rfl (by kernel_rfl) (by kernel_rfl) (by kernel_rfl) (fun _ _ _ h => h) (Or.inl ⟨by kernel_rfl, ?_⟩) (by assumption) ?_
  rotate_left
  · (intro w hSw; (try dsimp only at hSw); go_simp; try with_reducible rfl)
  try simp only [Act.put, List.getElem_toArray, List.getElem_cons_zero, List.getElem_cons_succ, List.setIfInBounds_toArray, List.set_cons_zero, List.set_cons_succ]
  refine wpAnyH_ready (rs := [8]) (by kernel_rfl) (by simp) ?_
  refine AllReadyH.cons rfl (fun KK hKK => ?_) AllReadyH.nil
  go_simp
  refine (lcell_any hL1.sk _ _ f0 hl1 n0 hn2 l0 l1).mono ?_
  rintro e x1 ⟨rfl, rfl⟩
  refine hKK.out _ _ hL1.sk (fun hHeld1 => ?_)
  clear hKK KK hHeld
  try simp only [Act.put, List.getElem_toArray, List.getElem_cons_zero, List.getElem_cons_succ, List.setIfInBounds_toArray, List.set_cons_zero, List.set_cons_succ]
  refine wpAnyH_ready (rs := [9]) (by kernel_rfl) (by simp) ?_
  refine AllReadyH.cons rfl (fun KK hKK => ?_) AllReadyH.nil
  go_simp
  refine (load_no hL1.mem task _ HOK.out).mono ?_
  rintro e x2 ⟨rfl, rfl⟩
  refine hKK.out _ _ hL1.sk (fun hHeld2 => ?_)
  clear hKK KK hHeld1
  try simp only [Act.put, List.getElem_toArray, List.getElem_cons_zero, List.getElem_cons_succ, List.setIfInBounds_toArray, List.set_cons_zero, List.set_cons_succ]
  refine wpAnyH_take (i := 10) (v := ?_) rfl (by kernel_rfl) (by kernel_rfl) (by kernel_rfl) (fun _ _ _ h => h) (Or.inl ⟨by kernel_rfl, ?_⟩) (by assumption) ?_
  rotate_left
  · (intro w hSw; (try dsimp only at hSw); go_simp; try with_reducible rfl)
  try simp only [Act.put, List.getElem_toArray, List.getElem_cons_zero, List.getElem_cons_succ, List.setIfInBounds_toArray, List.set_cons_zero, List.set_cons_succ]
  refine wpAnyH_take (i := 11) (v := ?_) rfl (by kernel_rfl) (by kernel_rfl) (by kernel_rfl) (fun _ _ _ h => h) (Or.inl ⟨by kernel_rfl, ?_⟩) (by assumption) ?_
  rotate_left
  · (intro w hSw; (try dsimp only at hSw); go_simp; try with_reducible rfl)
  try simp only [Act.put, List.getElem_toArray, List.getElem_cons_zero, List.getElem_cons_succ, List.setIfInBounds_toArray, List.set_cons_zero, List.set_cons_succ]
  refine wpAnyH_take (i := 12) (v := ?_) rfl (by kernel_rfl) (by kernel_rfl) (by kernel_rfl) (fun _ _ _ h => h) (Or.inl ⟨by kernel_rfl, ?_⟩) (by assumption) ?_
  rotate_left
  · (intro w hSw; (try dsimp only at hSw); go_simp; try with_reducible rfl)
  try simp only [Act.put, List.getElem_toArray, List.getElem_cons_zero, List.getElem_cons_succ, List.setIfInBounds_toArray, List.set_cons_zero, List.set_cons_succ]
  refine wpAnyH_take (i := 13) (v := ?_) rfl (by kernel_rfl) (by kernel_rfl) (by kernel_rfl) (fun _ _ _ h => h) (Or.inl ⟨by kernel_rfl, ?_⟩) (by assumption) ?_
  rotate_left
  · (intro w hSw; (try dsimp only at hSw); go_simp; try with_reducible rfl)
  try simp only [Act.put, List.getElem_toArray, List.getElem_cons_zero, List.getElem_cons_succ, List.setIfInBounds_toArray, List.set_cons_zero, List.set_cons_succ]
  refine wpAnyH_take (i := 14) (v := ?_) rfl (by kernel_rfl) (by kernel_rfl) (by kernel_rfl) (fun _ _ _ h => h) (Or.inl ⟨by kernel_rfl, ?_⟩) (by assumption) ?_
  rotate_left
  · (intro w hSw; (try dsimp only at hSw); go_simp; try with_reducible rfl)
  try simp only [Act.put, List.getElem_toArray, List.getElem_cons_zero, List.getElem_cons_succ, List.setIfInBounds_toArray, List.set_cons_zero, List.set_cons_succ]
  refine wpAnyH_done (by kernel_rfl) ?_ _

  go_wp2_with fail
  go_ret2
  exact ⟨rfl, ⟨⟨1, rfl⟩⟩⟩
set_option maxHeartbeats 2000000 in
theorem lread_task {w : World} {k : SkRef} {c : CRef} {S : Mem} {A : Nat → Prop} (h : Lx w k c S A) (task node behind : Int) (ht : ¬ (0 ≤ task ∧ task < 64)) (n0 : 1 ≤ node) (n1 : node ≤ k.units / 6) (b0 : 0 ≤ behind) (b1 : behind ≤ 1) :
    Calls Try.prog 38 #[.pointer (some ⟨k.lp, 0, none⟩), .int .i64 task, .int .i64 node, .int .i64 behind] w fun e w' => e = .returned (.tuple #[.slice none 0 0, .int .i64 2]) ∧ Quiet w w' := by
  have c4 := h.sk.list.cell 4 (v := .int .i64 (k.units / 6)) rfl
  obtain ⟨U, hU⟩ : ∃ U, k.units / 6 = U := ⟨_, rfl⟩
  have u0 := h.u0
  have u1 := h.u1
  have sm := h.mem.small
  have p0 := h.p0
  have p1 := h.p1
  have g1 : ¬ node < 1 := by omega
  rw [hU] at p1 n1 c4
  have g2 : ¬ node > U := by omega
  obtain ⟨P, hP⟩ : ∃ P, placeI k node = P := ⟨_, rfl⟩
  have hPu : P = k.plain + 2 * (node - 1) := by rw [← hP, placeI]
  have hP0 : 0 ≤ P ∧ P + 2 ≤ S.plains.length := by omega
  clear hPu
  obtain ⟨p, hpe⟩ : ∃ p, P + behind = p := ⟨_, rfl⟩
  have hok : okAt S.plains.length task p = false := decide_eq_false (fun q => ht ⟨q.1, q.2.1⟩)
  have HOK := Lib.hid hok
  have HPI := Lib.hid hP
  have hp1 : k.plain ≤ 100000 := by omega
  have hn2 : node ≤ 200000000 := by omega
  clear hok hP hU ht
  have hL1 : Lx w.drew k c S A := h.quiet ⟨⟨1, rfl⟩⟩
  go_enter Try.func38, Try.ntmps38
  go_upto_region 5 with (go_at_call 44; refine (lis_yes h.sk).mono ?_; rintro e w' ⟨rfl, rfl⟩)
  refine wp_region_held_drew (S := (fun x => SkAt x k c)) (by kernel_rfl) hL1.sk (fun hHeld => ?_)
  refine wpAnyH_take (i := 0) (v := ?_) rfl (by kernel_rfl) (by kernel_rfl) (by kernel_rfl) (fun _ _ _ h => h) (Or.inl ⟨by kernel_rfl, ?_⟩) (by assumption) ?_
  rotate_left
  · (intro w hSw; (try dsimp only at hSw); go_simp; try with_reducible rfl)
  try simp only [Act.put, List.getElem_toArray, List.getElem_cons_zero, List.getElem_cons_succ, List.setIfInBounds_toArray, List.set_cons_zero, List.set_cons_succ]
  refine wpAnyH_take (i := 1) (v := ?_) rfl (by kernel_rfl) (by kernel_rfl) (by kernel_rfl) (fun _ _ _ h => h) (Or.inl ⟨by kernel_rfl, ?_⟩) (by assumption) ?_
  rotate_left
  · (intro w hSw; (try dsimp only at hSw); go_simp; try with_reducible rfl)
  try simp only [Act.put, List.getElem_toArray, List.getElem_cons_zero, List.getElem_cons_succ, List.setIfInBounds_toArray, List.set_cons_zero, List.set_cons_succ]
  refine wpAnyH_take (i := 2) (v := ?_) rfl (by kernel_rfl) (by kernel_rfl) (by kernel_rfl) (fun _ _ _ h => h) (Or.inl ⟨by kernel_rfl, ?_⟩) (by assumption) ?_
  rotate_left
  · (intro w hSw; (try dsimp only at hSw); go_simp; try with_reducible rfl)
  try simp only [Act.put, List.getElem_toArray, List.getElem_cons_zero, List.getElem_cons_succ, List.setIfInBounds_toArray, List.set_cons_zero, List.set_cons_succ]
  refine wpAnyH_take (i := 3) (v := .pointer (some ⟨c.p, 0, none⟩)) rfl (by kernel_rfl) (by kernel_rfl) (by kernel_rfl) (fun _ _ _ h => h) (Or.inl ⟨by kernel_rfl, ?_⟩) (by assumption) ?_
  · (intro y hSw; have hc := hSw.list.cell 0 (v := .pointer (some ⟨c.p, 0, none⟩)) rfl; go_simp; try with_reducible rfl)
  try simp only [Act.put, List.getElem_toArray, List.getElem_cons_zero, List.getElem_cons_succ, List.setIfInBounds_toArray, List.set_cons_zero, List.set_cons_succ]
  refine wpAnyH_take (i := 4) (v := ?_) rfl (by kernel_rfl) (by kernel_rfl) (by kernel_rfl) (fun _ _ _ h => h) (Or.inl ⟨by kernel_rfl, ?_⟩) (by assumption) ?_
  rotate_left
  · (intro w hSw; (try dsimp only at hSw); go_simp; try with_reducible rfl)
  try simp only [Act.put, List.getElem_toArray, List.getElem_cons_zero, List.getElem_cons_succ, List.setIfInBounds_toArray, List.set_cons_zero, List.set_cons_succ]
  refine wpAnyH_take (i := 5) (v := ?_) rfl (by kernel_rfl) (by kernel_rfl) (by kernel_rfl) (fun _ _ _ h => h) (Or.inl ⟨by kernel_rfl, ?_⟩) (by assumption) ?_
  rotate_left
  · (intro w hSw; (try dsimp only at hSw); go_simp; try with_reducible rfl)
  try simp only [Act.put, List.getElem_toArray, List.getElem_cons_zero, List.getElem_cons_succ, List.setIfInBounds_toArray, List.set_cons_zero, List.set_cons_succ]
  refine wpAnyH_take (i := 6) (v := ?_) rfl (by kernel_rfl) (by kernel_rfl) (by kernel_rfl) (fun _ _ _ h => h) (Or.inl ⟨by kernel_rfl, ?_⟩) (by assumption) ?_
  rotate_left
  · (intro w hSw; (try dsimp only at hSw); go_simp; try with_reducible rfl)
  try simp only [Act.put, List.getElem_toArray, List.getElem_cons_zero, List.getElem_cons_succ, List.setIfInBounds_toArray, List.set_cons_zero, List.set_cons_succ]
  refine wpAnyH_take (i := 8) (v := ?_) rfl (by kernel_rfl) (by kernel_rfl) (by kernel_rfl) (fun _ _ _ h => h) (Or.inl ⟨by kernel_rfl, ?_⟩) (by assumption) ?_
  rotate_left
  · (intro w hSw; (try dsimp only at hSw); go_simp; try with_reducible rfl)
  try simp only [Act.put, List.getElem_toArray, List.getElem_cons_zero, List.getElem_cons_succ, List.setIfInBounds_toArray, List.set_cons_zero, List.set_cons_succ]
  refine wpAnyH_ready (rs := [7]) (by kernel_rfl) (by simp) ?_
  refine AllReadyH.cons rfl (fun KK hKK => ?_) AllReadyH.nil
  go_simp
  refine (lplace_any hL1.sk _ p0 hp1 (by omega) hn2).mono ?_
  rintro e x1 ⟨rfl, rfl⟩
  refine hKK.out _ _ hL1.sk (fun hHeld1 => ?_)
  clear hKK KK hHeld
  try simp only [Act.put, List.getElem_toArray, List.getElem_cons_zero, List.getElem_cons_succ, List.setIfInBounds_toArray, List.set_cons_zero, List.set_cons_succ]
  rw [HPI.out]
  refine wpAnyH_take (i := 9) (v := .int .i64 p) rfl (by kernel_rfl) (by kernel_rfl) (by kernel_rfl) (fun _ _ _ h => h) (Or.inl ⟨by kernel_rfl, ?_⟩) (by assumption) ?_
  · (intro y hSw; (try dsimp only at hSw); go_simp; rw [IntKind.wrap_i64]; omega)
  try simp only [Act.put, List.getElem_toArray, List.getElem_cons_zero, List.getElem_cons_succ, List.setIfInBounds_toArray, List.set_cons_zero, List.set_cons_succ]
  refine wpAnyH_ready (rs := [10]) (by kernel_rfl) (by simp) ?_
  refine AllReadyH.cons rfl (fun KK hKK => ?_) AllReadyH.nil
  go_simp
  refine (read_no hL1.mem task p HOK.out).mono ?_
  rintro e x2 ⟨rfl, rfl⟩
  refine hKK.out _ _ hL1.sk (fun hHeld2 => ?_)
  clear hKK KK hHeld1
  try simp only [Act.put, List.getElem_toArray, List.getElem_cons_zero, List.getElem_cons_succ, List.setIfInBounds_toArray, List.set_cons_zero, List.set_cons_succ]
  refine wpAnyH_take (i := 11) (v := ?_) rfl (by kernel_rfl) (by kernel_rfl) (by kernel_rfl) (fun _ _ _ h => h) (Or.inl ⟨by kernel_rfl, ?_⟩) (by assumption) ?_
  rotate_left
  · (intro w hSw; (try dsimp only at hSw); go_simp; try with_reducible rfl)
  try simp only [Act.put, List.getElem_toArray, List.getElem_cons_zero, List.getElem_cons_succ, List.setIfInBounds_toArray, List.set_cons_zero, List.set_cons_succ]
  refine wpAnyH_take (i := 12) (v := ?_) rfl (by kernel_rfl) (by kernel_rfl) (by kernel_rfl) (fun _ _ _ h => h) (Or.inl ⟨by kernel_rfl, ?_⟩) (by assumption) ?_
  rotate_left
  · (intro w hSw; (try dsimp only at hSw); go_simp; try with_reducible rfl)
  try simp only [Act.put, List.getElem_toArray, List.getElem_cons_zero, List.getElem_cons_succ, List.setIfInBounds_toArray, List.set_cons_zero, List.set_cons_succ]
  refine wpAnyH_take (i := 13) (v := ?_) rfl (by kernel_rfl) (by kernel_rfl) (by kernel_rfl) (fun _ _ _ h => h) (Or.inl ⟨by kernel_rfl, ?_⟩) (by assumption) ?_
  rotate_left
  · (intro w hSw; (try dsimp only at hSw); go_simp; try with_reducible rfl)
  try simp only [Act.put, List.getElem_toArray, List.getElem_cons_zero, List.getElem_cons_succ, List.setIfInBounds_toArray, List.set_cons_zero, List.set_cons_succ]
  refine wpAnyH_take (i := 14) (v := ?_) rfl (by kernel_rfl) (by kernel_rfl) (by kernel_rfl) (fun _ _ _ h => h) (Or.inl ⟨by kernel_rfl, ?_⟩) (by assumption) ?_
  rotate_left
  · (intro w hSw; (try dsimp only at hSw); go_simp; try with_reducible rfl)
  try simp only [Act.put, List.getElem_toArray, List.getElem_cons_zero, List.getElem_cons_succ, List.setIfInBounds_toArray, List.set_cons_zero, List.set_cons_succ]
  refine wpAnyH_done (by kernel_rfl) ?_ _

  go_wp2_with fail
  go_ret2
  exact ⟨rfl, ⟨⟨1, rfl⟩⟩⟩
end Go.Proofs.Ytkpjfdhjkgdcbaa
