/- The walks over a skip list's own operations. -/
import Derived.Test.YtkpjfdhjkgdcbaaIkTake
import Derived.Test.YtkpjfdhjkgdcbaaIkCmp
import Derived.Test.YtkpjfdhjkgdcbaaSkNew

namespace Go.Proofs.Ytkpjfdhjkgdcbaa
open Go.RowKit

/-- A node's next one at a level: which cell. -/
def cellI (k : SkRef) (node level : Int) : Int := if node = 0 then k.first + 2 + level else k.first + 8 + 6 * (node - 1) + level
/-- A node's key: which place. -/
def placeI (k : SkRef) (node : Int) : Int := k.plain + 2 * (node - 1)
/-- A skip list of a memory S: its own blocks are not the memory's. -/
structure Lx (w : World) (k : SkRef) (c : CRef) (S : Mem) (A : Nat → Prop) : Prop where
  sk : SkAt w k c
  mem : Cells w c S A
  fresh : Fresh A w
  hl : ¬ A k.lp
  ha : ¬ A k.aq
  f0 : 0 ≤ k.first
  p0 : 0 ≤ k.plain
  f1 : k.first + 8 + 6 * (k.units / 6) ≤ S.atomics.length
  p1 : k.plain + 2 * (k.units / 6) ≤ S.plains.length
  u0 : 6 ≤ k.units
  u1 : k.units ≤ 1073741824
  short : S.Short
/-- What the list's operations need of two memories. -/
structure Mem.Like (S S' : Mem) : Prop where
  a : S'.atomics.length = S.atomics.length
  p : S'.plains.length = S.plains.length
  s : S.Short → S'.Short
theorem Mem.Like.note (S : Mem) (x : Acc) : S.Like (S.note x) := ⟨rfl, rfl, fun h => h.note x⟩
theorem Mem.Like.put (S : Mem) (i x : Int) : S.Like (S.put i x) := ⟨by simp [Mem.put], rfl, fun h => h.put i x⟩
theorem Mem.Like.lay (S : Mem) (i : Int) {b : List UInt8} (hb : b.length ≤ 4000000000) : S.Like (S.lay i b) := ⟨rfl, by simp [Mem.lay], fun h => h.lay i hb⟩
theorem Mem.Like.trans {S S' S'' : Mem} (h : S.Like S') (g : S'.Like S'') : S.Like S'' := ⟨g.a.trans h.a, g.p.trans h.p, fun k => g.s (h.s k)⟩
theorem Lx.next {w w' : World} {k : SkRef} {c : CRef} {S S' : Mem} {A : Nat → Prop} (h : Lx w k c S A) (hC : Cells w' c S' A) (ho : Only A w w') (hl : S.Like S') : Lx w' k c S' A :=
  ⟨⟨h.sk.list.keep (ho.block _ h.sk.list.lt h.hl), h.sk.arena.keep (ho.block _ h.sk.arena.lt h.ha)⟩, hC, h.fresh.only ho, h.hl, h.ha, h.f0, h.p0, by rw [hl.a]; exact h.f1, by rw [hl.p]; exact h.p1, h.u0, h.u1, hl.s h.short⟩
/-- Of a world where others' blocks have changed. -/
theorem Lx.aside {w w' : World} {k : SkRef} {c : CRef} {S : Mem} {A B : Nat → Prop} (h : Lx w k c S A) (ho : Only B w w') (hA : ∀ j, j < w.heap.size → A j → ¬ B j) (h1 : ¬ B k.lp) (h2 : ¬ B k.aq) : Lx w' k c S A :=
  ⟨⟨h.sk.list.keep (ho.block _ h.sk.list.lt h1), h.sk.arena.keep (ho.block _ h.sk.arena.lt h2)⟩, h.mem.keep ⟨fun j hj hl => ho.block j hl (hA j hl hj)⟩, h.fresh.only ho, h.hl, h.ha, h.f0, h.p0, h.f1, h.p1, h.u0, h.u1, h.short⟩
theorem Lx.below {w w' : World} {k : SkRef} {c : CRef} {S : Mem} {A : Nat → Prop} (h : Lx w k c S A) (hb : Below w.heap.size w w') : Lx w' k c S A :=
  ⟨h.sk.below hb, h.mem.keep ⟨fun j _ hl => hb.block j hl⟩, ⟨fun j hj => h.fresh.new j (Nat.le_trans hb.size hj)⟩, h.hl, h.ha, h.f0, h.p0, h.f1, h.p1, h.u0, h.u1, h.short⟩
theorem Lx.quiet {w w' : World} {k : SkRef} {c : CRef} {S : Mem} {A : Nat → Prop} (h : Lx w k c S A) (hq : Quiet w w') : Lx w' k c S A := h.below (hq.below _)

set_option maxHeartbeats 400000 in
theorem lis_yes {w : World} {k : SkRef} {c : CRef} (h : SkAt w k c) : Calls Try.prog 44 #[.pointer (some ⟨k.lp, 0, none⟩)] w fun e w' => e = .returned (.bool true) ∧ w = w' := by
  have c1 := h.list.cell 1 (v := .pointer (some ⟨k.aq, 0, none⟩)) rfl
  go_enter Try.func44, Try.ntmps44
  go_wp2
  go_ret
  exact ⟨rfl, rfl⟩
set_option maxHeartbeats 400000 in
theorem lcell_any {w : World} {k : SkRef} {c : CRef} (h : SkAt w k c) (node level : Int) (f0 : 0 ≤ k.first) (f1 : k.first ≤ 100000) (n0 : 0 ≤ node) (n1 : node ≤ 200000000) (l0 : 0 ≤ level) (l1 : level < 6) :
    Calls Try.prog 54 #[.pointer (some ⟨k.lp, 0, none⟩), .int .i64 node, .int .i64 level] w fun e w' => e = .returned (.int .i64 (cellI k node level)) ∧ w = w' := by
  have c2 := h.list.cell 2 (v := .int .i64 k.first) rfl
  by_cases hz : node = 0
  · subst hz
    rw [show cellI k 0 level = k.first + 2 + level from rfl]
    go_enter Try.func54, Try.ntmps54
    go_wp2
    go_ret
    exact ⟨rfl, rfl⟩
  · rw [show cellI k node level = k.first + 8 + 6 * (node - 1) + level by rw [cellI, if_neg hz]]
    go_enter Try.func54, Try.ntmps54
    go_wp2
    go_ret
    exact ⟨rfl, rfl⟩
set_option maxHeartbeats 400000 in
theorem lplace_any {w : World} {k : SkRef} {c : CRef} (h : SkAt w k c) (node : Int) (p0 : 0 ≤ k.plain) (p1 : k.plain ≤ 100000) (n0 : 0 ≤ node) (n1 : node ≤ 200000000) :
    Calls Try.prog 62 #[.pointer (some ⟨k.lp, 0, none⟩), .int .i64 node] w fun e w' => e = .returned (.int .i64 (placeI k node)) ∧ w = w' := by
  have c2 := h.list.cell 3 (v := .int .i64 k.plain) rfl
  go_enter Try.func62, Try.ntmps62
  go_wp2
  go_ret
  exact ⟨rfl, rfl⟩
set_option maxHeartbeats 2000000 in
theorem lnext_any {w : World} {k : SkRef} {c : CRef} {S : Mem} {A : Nat → Prop} (h : Lx w k c S A) (hn : S.trace.length < trMax) (task node level : Int) (t0 : 0 ≤ task) (t1 : task < 64) (n0 : 0 ≤ node) (n1 : node ≤ k.units / 6) (l0 : 0 ≤ level) (l1 : level < 6) (x : Int) (hx : S.at_ (cellI k node level) = x) (x0 : 0 ≤ x) (x1 : x ≤ 9223372036854775807) :
    Calls Try.prog 29 #[.pointer (some ⟨k.lp, 0, none⟩), .int .i64 task, .int .i64 node, .int .i64 level] w fun e w' => e = .returned (.tuple #[.int .i64 x, .int .i64 0]) ∧ Cells w' c (S.note ⟨task, 1, cellI k node level⟩) A ∧ Only A w w' := by
  have c4 := h.sk.list.cell 4 (v := .int .i64 (k.units / 6)) rfl
  obtain ⟨U, hU⟩ : ∃ U, k.units / 6 = U := ⟨_, rfl⟩
  have u0 := h.u0
  have u1 := h.u1
  have sm := h.mem.small
  have f0 := h.f0
  have f1 := h.f1
  have g1 : ¬ node < 0 := by omega
  rw [hU] at f1 n1 c4
  have g2 : ¬ node > U := by omega
  have hok : okAt S.atomics.length task (cellI k node level) = true := decide_eq_true (by unfold cellI; split <;> omega)
  have HOK := Lib.hid hok
  have HX := Lib.hid hx
  have hl1 : k.first ≤ 100000 := by omega
  have hn2 : node ≤ 200000000 := by omega
  clear hok hx hU
  go_enter Try.func29, Try.ntmps29
  go_upto_region 5 with (go_at_call 44; refine (lis_yes h.sk).mono ?_; rintro e w' ⟨rfl, rfl⟩)
  have hO1 : Only A w w.drew := (Only.refl A w).drew
  have hL1 : Lx w.drew k c S A := h.quiet ⟨⟨1, rfl⟩⟩
  refine wp_region_held_drew (S := (fun x => SkAt x k c)) (by kernel_rfl) hL1.sk (fun hHeld => ?_)
  refine wpAnyH_take (i := 0) (v := ?_) rfl (by kernel_rfl) (by kernel_rfl) (by kernel_rfl) (fun _ _ _ h => h) (Or.inl ⟨by kernel_rfl, ?_⟩) (by assumption) ?_
  rotate_left
  · (intro w hSw; (try dsimp only at hSw); go_simp; try with_reducible rfl)
  try simp only [Act.put, List.getElem_toArray, List.getElem_cons_zero, List.getElem_cons_succ, List.setIfInBounds_toArray, List.set_cons_zero, List.set_cons_succ]
  refine wpAnyH_take (i := 1) (v := ?_) rfl (by kernel_rfl) (by kernel_rfl) (by kernel_rfl) (fun _ _ _ h => h) (Or.inl ⟨by kernel_rfl, ?_⟩) (by assumption) ?_
  rotate_left
  · (intro w hSw; (try dsimp only at hSw); go_simp; try with_reducible rfl)
  try simp only [Act.put, List.getElem_toArray, List.getElem_cons_zero, List.getElem_cons_succ, List.setIfInBounds_toArray, List.set_cons_zero, List.set_cons_succ]
  refine wpAnyH_take (i := 2) (v := ?_) rfl (by kernel_rfl) (by kernel_rfl) (by kernel_rfl) (fun _ _ _ h => h) (Or.inl ⟨by kernel_rfl, ?_⟩) (by assumption) ?_
  rotate_left
  · (intro w hSw; (try dsimp only at hSw); go_simp; try with_reducible rfl)
  try simp only [Act.put, List.getElem_toArray, List.getElem_cons_zero, List.getElem_cons_succ, List.setIfInBounds_toArray, List.set_cons_zero, List.set_cons_succ]
  refine wpAnyH_take (i := 3) (v := .pointer (some ⟨c.p, 0, none⟩)) rfl (by kernel_rfl) (by kernel_rfl) (by kernel_rfl) (fun _ _ _ h => h) (Or.inl ⟨by kernel_rfl, ?_⟩) (by assumption) ?_
  · (intro y hSw; have hc := hSw.list.cell 0 (v := .pointer (some ⟨c.p, 0, none⟩)) rfl; go_simp; try with_reducible rfl)
  try simp only [Act.put, List.getElem_toArray, List.getElem_cons_zero, List.getElem_cons_succ, List.setIfInBounds_toArray, List.set_cons_zero, List.set_cons_succ]
  refine wpAnyH_take (i := 4) (v := ?_) rfl (by kernel_rfl) (by kernel_rfl) (by kernel_rfl) (fun _ _ _ h => h) (Or.inl ⟨by kernel_rfl, ?_⟩) (by assumption) ?_
  rotate_left
  · (intro w hSw; (try dsimp only at hSw); go_simp; try with_reducible rfl)
  try simp only [Act.put, List.getElem_toArray, List.getElem_cons_zero, List.getElem_cons_succ, List.setIfInBounds_toArray, List.set_cons_zero, List.set_cons_succ]
  refine wpAnyH_take (i := 5) (v := ?_) rfl (by kernel_rfl) (by kernel_rfl) (by kernel_rfl) (fun _ _ _ h => h) (Or.inl ⟨by kernel_rfl, ?_⟩) (by assumption) ?_
  rotate_left
  · (intro w hSw; (try dsimp only at hSw); go_simp; try with_reducible rfl)
  try simp only [Act.put, List.getElem_toArray, List.getElem_cons_zero, List.getElem_cons_succ, List.setIfInBounds_toArray, List.set_cons_zero, List.set_cons_succ]
  refine wpAnyH_take (i := 6) (v := ?_) rfl (by kernel_rfl) (by kernel_rfl) (by kernel_rfl) (fun _ _ _ h => h) (Or.inl ⟨by kernel_rfl, ?_⟩) (by assumption) ?_
  rotate_left
  · (intro w hSw; (try dsimp only at hSw); go_simp; try with_reducible rfl)
  try simp only [Act.put, List.getElem_toArray, List.getElem_cons_zero, List.getElem_cons_succ, List.setIfInBounds_toArray, List.set_cons_zero, List.set_cons_succ]
  refine wpAnyH_take (i := 7) (v := ?_) rfl (by kernel_rfl) (by kernel_rfl) (by kernel_rfl) (fun _ _ _ h => h) (Or.inl ⟨by kernel_rfl, ?_⟩) (by assumption) ?_
  rotate_left
  · (intro w hSw; (try dsimp only at hSw); go_simp; try with_reducible rfl)
  try simp only [Act.put, List.getElem_toArray, List.getElem_cons_zero, List.getElem_cons_succ, List.setIfInBounds_toArray, List.set_cons_zero, List.set_cons_succ]
  refine wpAnyH_ready (rs := [8]) (by kernel_rfl) (by simp) ?_
  refine AllReadyH.cons rfl (fun KK hKK => ?_) AllReadyH.nil
  go_simp
  refine (lcell_any hL1.sk _ _ f0 hl1 n0 hn2 l0 l1).mono ?_
  rintro e x1 ⟨rfl, rfl⟩
  refine hKK.out _ _ hL1.sk (fun hHeld1 => ?_)
  clear hKK KK hHeld
  try simp only [Act.put, List.getElem_toArray, List.getElem_cons_zero, List.getElem_cons_succ, List.setIfInBounds_toArray, List.set_cons_zero, List.set_cons_succ]
  refine wpAnyH_ready (rs := [9]) (by kernel_rfl) (by simp) ?_
  refine AllReadyH.cons rfl (fun KK hKK => ?_) AllReadyH.nil
  go_simp
  refine (load_to hL1.mem hL1.fresh hn task _ HOK.out x _ HX.out rfl).mono ?_
  rintro e x2 ⟨rfl, hC2, hO2⟩
  have u2 := hO1.trans hO2
  have hL2 := hL1.next hC2 hO2 (Mem.Like.note _ _)
  refine hKK.out _ _ hL2.sk (fun hHeld2 => ?_)
  clear hKK KK hHeld1
  try simp only [Act.put, List.getElem_toArray, List.getElem_cons_zero, List.getElem_cons_succ, List.setIfInBounds_toArray, List.set_cons_zero, List.set_cons_succ]
  refine wpAnyH_take (i := 10) (v := ?_) rfl (by kernel_rfl) (by kernel_rfl) (by kernel_rfl) (fun _ _ _ h => h) (Or.inl ⟨by kernel_rfl, ?_⟩) (by assumption) ?_
  rotate_left
  · (intro w hSw; (try dsimp only at hSw); go_simp; try with_reducible rfl)
  try simp only [Act.put, List.getElem_toArray, List.getElem_cons_zero, List.getElem_cons_succ, List.setIfInBounds_toArray, List.set_cons_zero, List.set_cons_succ]
  refine wpAnyH_take (i := 11) (v := ?_) rfl (by kernel_rfl) (by kernel_rfl) (by kernel_rfl) (fun _ _ _ h => h) (Or.inl ⟨by kernel_rfl, ?_⟩) (by assumption) ?_
  rotate_left
  · (intro w hSw; (try dsimp only at hSw); go_simp; try with_reducible rfl)
  try simp only [Act.put, List.getElem_toArray, List.getElem_cons_zero, List.getElem_cons_succ, List.setIfInBounds_toArray, List.set_cons_zero, List.set_cons_succ]
  refine wpAnyH_take (i := 12) (v := ?_) rfl (by kernel_rfl) (by kernel_rfl) (by kernel_rfl) (fun _ _ _ h => h) (Or.inl ⟨by kernel_rfl, ?_⟩) (by assumption) ?_
  rotate_left
  · (intro w hSw; (try dsimp only at hSw); go_simp; try with_reducible rfl)
  try simp only [Act.put, List.getElem_toArray, List.getElem_cons_zero, List.getElem_cons_succ, List.setIfInBounds_toArray, List.set_cons_zero, List.set_cons_succ]
  refine wpAnyH_take (i := 13) (v := ?_) rfl (by kernel_rfl) (by kernel_rfl) (by kernel_rfl) (fun _ _ _ h => h) (Or.inl ⟨by kernel_rfl, ?_⟩) (by assumption) ?_
  rotate_left
  · (intro w hSw; (try dsimp only at hSw); go_simp; try with_reducible rfl)
  try simp only [Act.put, List.getElem_toArray, List.getElem_cons_zero, List.getElem_cons_succ, List.setIfInBounds_toArray, List.set_cons_zero, List.set_cons_succ]
  refine wpAnyH_take (i := 14) (v := ?_) rfl (by kernel_rfl) (by kernel_rfl) (by kernel_rfl) (fun _ _ _ h => h) (Or.inl ⟨by kernel_rfl, ?_⟩) (by assumption) ?_
  rotate_left
  · (intro w hSw; (try dsimp only at hSw); go_simp; try with_reducible rfl)
  try simp only [Act.put, List.getElem_toArray, List.getElem_cons_zero, List.getElem_cons_succ, List.setIfInBounds_toArray, List.set_cons_zero, List.set_cons_succ]
  refine wpAnyH_done (by kernel_rfl) ?_ _

  go_wp2_with fail
  go_ret2
  exact ⟨rfl, hC2, u2⟩
theorem SkAt.only {w w' : World} {k : SkRef} {c : CRef} {A : Nat → Prop} (h : SkAt w k c) (h1 : ¬ A k.lp) (h2 : ¬ A k.aq) (ho : Only A w w') : SkAt w' k c := ⟨h.list.keep (ho.block _ h.list.lt h1), h.arena.keep (ho.block _ h.arena.lt h2)⟩
set_option maxHeartbeats 2000000 in
theorem lread_any {w : World} {k : SkRef} {c : CRef} {S : Mem} {A : Nat → Prop} (h : Lx w k c S A) (hn : S.trace.length < trMax) (task node behind : Int) (t0 : 0 ≤ task) (t1 : task < 64) (n0 : 1 ≤ node) (n1 : node ≤ k.units / 6) (b0 : 0 ≤ behind) (b1 : behind ≤ 1) (p : Int) (hp : placeI k node + behind = p) :
    Calls Try.prog 38 #[.pointer (some ⟨k.lp, 0, none⟩), .int .i64 task, .int .i64 node, .int .i64 behind] w fun e w' => ∃ v, e = .returned (.tuple #[v, .int .i64 0]) ∧ ReadPost w c S A task p v w' := by
  have c4 := h.sk.list.cell 4 (v := .int .i64 (k.units / 6)) rfl
  obtain ⟨U, hU⟩ : ∃ U, k.units / 6 = U := ⟨_, rfl⟩
  have u0 := h.u0
  have u1 := h.u1
  have sm := h.mem.small
  have p0 := h.p0
  have p1 := h.p1
  have g1 : ¬ node < 1 := by omega
  rw [hU] at p1 n1 c4
  have g2 : ¬ node > U := by omega
  obtain ⟨P, hP⟩ : ∃ P, placeI k node = P := ⟨_, rfl⟩
  have hPu : P = k.plain + 2 * (node - 1) := by rw [← hP, placeI]
  rw [hP] at hp
  have hP0 : 0 ≤ P ∧ P + 2 ≤ S.plains.length := by omega
  clear hPu
  have hok : okAt S.plains.length task p = true := decide_eq_true (by omega)
  have hpe : P + behind = p := hp
  have HOK := Lib.hid hok
  have HPI := Lib.hid hP
  have hp1 : k.plain ≤ 100000 := by omega
  have hn2 : node ≤ 200000000 := by omega
  clear hok hP hp hU
  have hO1 : Only A w w.drew := (Only.refl A w).drew
  have hL1 : Lx w.drew k c S A := h.quiet ⟨⟨1, rfl⟩⟩
  go_enter Try.func38, Try.ntmps38
  go_upto_region 5 with (go_at_call 44; refine (lis_yes h.sk).mono ?_; rintro e w' ⟨rfl, rfl⟩)
  refine wp_region_held_drew (S := (fun x => SkAt x k c)) (by kernel_rfl) hL1.sk (fun hHeld => ?_)
  refine wpAnyH_take (i := 0) (v := ?_) rfl (by kernel_rfl) (by kernel_rfl) (by kernel_rfl) (fun _ _ _ h => h) (Or.inl ⟨by kernel_rfl, ?_⟩) (by assumption) ?_
  rotate_left
  · (intro w hSw; (try dsimp only at hSw); go_simp; try with_reducible rfl)
  try simp only [Act.put, List.getElem_toArray, List.getElem_cons_zero, List.getElem_cons_succ, List.setIfInBounds_toArray, List.set_cons_zero, List.set_cons_succ]
  refine wpAnyH_take (i := 1) (v := ?_) rfl (by kernel_rfl) (by kernel_rfl) (by kernel_rfl) (fun _ _ _ h => h) (Or.inl ⟨by kernel_rfl, ?_⟩) (by assumption) ?_
  rotate_left
  · (intro w hSw; (try dsimp only at hSw); go_simp; try with_reducible rfl)
  try simp only [Act.put, List.getElem_toArray, List.getElem_cons_zero, List.getElem_cons_succ, List.setIfInBounds_toArray, List.set_cons_zero, List.set_cons_succ]
  refine wpAnyH_take (i := 2) (v := ?_) rfl (by kernel_rfl) (by kernel_rfl) (by kernel_rfl) (fun _ _ _ h => h) (Or.inl ⟨by kernel_rfl, ?_⟩) (by assumption) ?_
  rotate_left
  · (intro w hSw; (try dsimp only at hSw); go_simp; try with_reducible rfl)
  try simp only [Act.put, List.getElem_toArray, List.getElem_cons_zero, List.getElem_cons_succ, List.setIfInBounds_toArray, List.set_cons_zero, List.set_cons_succ]
  refine wpAnyH_take (i := 3) (v := .pointer (some ⟨c.p, 0, none⟩)) rfl (by kernel_rfl) (by kernel_rfl) (by kernel_rfl) (fun _ _ _ h => h) (Or.inl ⟨by kernel_rfl, ?_⟩) (by assumption) ?_
  · (intro y hSw; have hc := hSw.list.cell 0 (v := .pointer (some ⟨c.p, 0, none⟩)) rfl; go_simp; try with_reducible rfl)
  try simp only [Act.put, List.getElem_toArray, List.getElem_cons_zero, List.getElem_cons_succ, List.setIfInBounds_toArray, List.set_cons_zero, List.set_cons_succ]
  refine wpAnyH_take (i := 4) (v := ?_) rfl (by kernel_rfl) (by kernel_rfl) (by kernel_rfl) (fun _ _ _ h => h) (Or.inl ⟨by kernel_rfl, ?_⟩) (by assumption) ?_
  rotate_left
  · (intro w hSw; (try dsimp only at hSw); go_simp; try with_reducible rfl)
  try simp only [Act.put, List.getElem_toArray, List.getElem_cons_zero, List.getElem_cons_succ, List.setIfInBounds_toArray, List.set_cons_zero, List.set_cons_succ]
  refine wpAnyH_take (i := 5) (v := ?_) rfl (by kernel_rfl) (by kernel_rfl) (by kernel_rfl) (fun _ _ _ h => h) (Or.inl ⟨by kernel_rfl, ?_⟩) (by assumption) ?_
  rotate_left
  · (intro w hSw; (try dsimp only at hSw); go_simp; try with_reducible rfl)
  try simp only [Act.put, List.getElem_toArray, List.getElem_cons_zero, List.getElem_cons_succ, List.setIfInBounds_toArray, List.set_cons_zero, List.set_cons_succ]
  refine wpAnyH_take (i := 6) (v := ?_) rfl (by kernel_rfl) (by kernel_rfl) (by kernel_rfl) (fun _ _ _ h => h) (Or.inl ⟨by kernel_rfl, ?_⟩) (by assumption) ?_
  rotate_left
  · (intro w hSw; (try dsimp only at hSw); go_simp; try with_reducible rfl)
  try simp only [Act.put, List.getElem_toArray, List.getElem_cons_zero, List.getElem_cons_succ, List.setIfInBounds_toArray, List.set_cons_zero, List.set_cons_succ]
  refine wpAnyH_take (i := 8) (v := ?_) rfl (by kernel_rfl) (by kernel_rfl) (by kernel_rfl) (fun _ _ _ h => h) (Or.inl ⟨by kernel_rfl, ?_⟩) (by assumption) ?_
  rotate_left
  · (intro w hSw; (try dsimp only at hSw); go_simp; try with_reducible rfl)
  try simp only [Act.put, List.getElem_toArray, List.getElem_cons_zero, List.getElem_cons_succ, List.setIfInBounds_toArray, List.set_cons_zero, List.set_cons_succ]
  refine wpAnyH_ready (rs := [7]) (by kernel_rfl) (by simp) ?_
  refine AllReadyH.cons rfl (fun KK hKK => ?_) AllReadyH.nil
  go_simp
  refine (lplace_any hL1.sk _ p0 hp1 (by omega) hn2).mono ?_
  rintro e x1 ⟨rfl, rfl⟩
  refine hKK.out _ _ hL1.sk (fun hHeld1 => ?_)
  clear hKK KK hHeld
  try simp only [Act.put, List.getElem_toArray, List.getElem_cons_zero, List.getElem_cons_succ, List.setIfInBounds_toArray, List.set_cons_zero, List.set_cons_succ]
  rw [HPI.out]
  refine wpAnyH_take (i := 9) (v := .int .i64 p) rfl (by kernel_rfl) (by kernel_rfl) (by kernel_rfl) (fun _ _ _ h => h) (Or.inl ⟨by kernel_rfl, ?_⟩) (by assumption) ?_
  · (intro y hSw; (try dsimp only at hSw); go_simp; rw [IntKind.wrap_i64]; omega)
  try simp only [Act.put, List.getElem_toArray, List.getElem_cons_zero, List.getElem_cons_succ, List.setIfInBounds_toArray, List.set_cons_zero, List.set_cons_succ]
  refine wpAnyH_ready (rs := [10]) (by kernel_rfl) (by simp) ?_
  refine AllReadyH.cons rfl (fun KK hKK => ?_) AllReadyH.nil
  go_simp
  refine (read_ok hL1.mem hL1.fresh hn hL1.short task p HOK.out).mono ?_
  rintro e x2 ⟨v, rfl, hR⟩
  refine hKK.out _ _ (hL1.sk.only hL1.hl hL1.ha hR.only) (fun hHeld2 => ?_)
  clear hKK KK hHeld1
  try simp only [Act.put, List.getElem_toArray, List.getElem_cons_zero, List.getElem_cons_succ, List.setIfInBounds_toArray, List.set_cons_zero, List.set_cons_succ]
  refine wpAnyH_take (i := 11) (v := ?_) rfl (by kernel_rfl) (by kernel_rfl) (by kernel_rfl) (fun _ _ _ h => h) (Or.inl ⟨by kernel_rfl, ?_⟩) (by assumption) ?_
  rotate_left
  · (intro w hSw; (try dsimp only at hSw); go_simp; try with_reducible rfl)
  try simp only [Act.put, List.getElem_toArray, List.getElem_cons_zero, List.getElem_cons_succ, List.setIfInBounds_toArray, List.set_cons_zero, List.set_cons_succ]
  refine wpAnyH_take (i := 12) (v := ?_) rfl (by kernel_rfl) (by kernel_rfl) (by kernel_rfl) (fun _ _ _ h => h) (Or.inl ⟨by kernel_rfl, ?_⟩) (by assumption) ?_
  rotate_left
  · (intro w hSw; (try dsimp only at hSw); go_simp; try with_reducible rfl)
  try simp only [Act.put, List.getElem_toArray, List.getElem_cons_zero, List.getElem_cons_succ, List.setIfInBounds_toArray, List.set_cons_zero, List.set_cons_succ]
  refine wpAnyH_take (i := 13) (v := ?_) rfl (by kernel_rfl) (by kernel_rfl) (by kernel_rfl) (fun _ _ _ h => h) (Or.inl ⟨by kernel_rfl, ?_⟩) (by assumption) ?_
  rotate_left
  · (intro w hSw; (try dsimp only at hSw); go_simp; try with_reducible rfl)
  try simp only [Act.put, List.getElem_toArray, List.getElem_cons_zero, List.getElem_cons_succ, List.setIfInBounds_toArray, List.set_cons_zero, List.set_cons_succ]
  refine wpAnyH_take (i := 14) (v := ?_) rfl (by kernel_rfl) (by kernel_rfl) (by kernel_rfl) (fun _ _ _ h => h) (Or.inl ⟨by kernel_rfl, ?_⟩) (by assumption) ?_
  rotate_left
  · (intro w hSw; (try dsimp only at hSw); go_simp; try with_reducible rfl)
  try simp only [Act.put, List.getElem_toArray, List.getElem_cons_zero, List.getElem_cons_succ, List.setIfInBounds_toArray, List.set_cons_zero, List.set_cons_succ]
  refine wpAnyH_done (by kernel_rfl) ?_ _

  go_wp2_with fail
  go_ret2
  exact ⟨v, rfl, hR.row.mono fun j _ hj => hj, hR.cells, hO1.trans hR.only⟩
end Go.Proofs.Ytkpjfdhjkgdcbaa
