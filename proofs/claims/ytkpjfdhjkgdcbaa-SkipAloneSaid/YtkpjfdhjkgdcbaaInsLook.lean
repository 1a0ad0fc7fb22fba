/- An insert's Read. -/
import Derived.Test.YtkpjfdhjkgdcbaaInsLoad
import Derived.Test.YtkpjfdhjkgdcbaaLoadBlk

namespace Go.Proofs.Ytkpjfdhjkgdcbaa
open Go.RowKit

theorem lkey_any {w : World} {k : SkRef} {c : CRef} {S : Mem} {A : Nat → Prop} (h : Lx w k c S A) (hn : S.trace.length < trMax) (task node : Int) (t0 : 0 ≤ task) (t1 : task < 64) (n0 : 1 ≤ node) (n1 : node ≤ k.units / 6) (r : IK) (hr : (r.Wf ∧ r.right = true ∧ S.place (placeI k node) = encK r) ∨ (S.place (placeI k node) = [] ∧ r = ik0)) :
    Calls Try.prog 15 #[.pointer (some ⟨k.lp, 0, none⟩), .int .i64 task, .int .i64 node] w (LKeyP w c (S.note ⟨task, 6, placeI k node⟩) A r) := by
  rcases hr with ⟨h1, h2, h3⟩ | ⟨h1, rfl⟩
  · exact lkey_enc h hn task node t0 t1 n0 n1 r h1 h2 h3
  · exact lkey_nil h hn task node t0 t1 n0 n1 h1
theorem look_mid {w0 w : World} {k : SkRef} {c : CRef} {S S0 : Mem} {A : Nat → Prop} {p q bx ip : Nat} {x : Ins} {r : IK} (kz : Blk w bx 36 (ikC ik0)) (Lq : Lx w k c S (boxA A p q)) (hzq : ¬ boxA A p q bx) (hA : A bx) (kc : InsAt w k ip x) (oq : Only (fun j => A j ∨ j = ip) w0 w) (L0 : Lx w0 k c S0 A) :
    Blk (w.setCells bx 0 (ikC r)) bx 36 (ikC r) ∧ InsAt (w.setCells bx 0 (ikC r)) k ip x ∧ Lx (w.setCells bx 0 (ikC r)) k c S A ∧ Only (fun j => A j ∨ j = ip) w0 (w.setCells bx 0 (ikC r)) := by
  have oz : Only (fun j => j = bx) w (w.setCells bx 0 (ikC r)) := Only.many (A := fun j => j = bx) rfl (ikC r) 0 (Only.refl _ _)
  have Lz := Lq.aside oz (fun j _ hj e => hzq (e ▸ hj)) (Blk.ne Lq.sk.list kz (by decide)) (Blk.ne Lq.sk.arena kz (by decide))
  refine ⟨Blk.many (ikC r) 0 kz, Blk.many_other kc (Blk.ne kc kz (by decide)) _ _, ⟨Lz.sk, Lz.mem.mono fun j _ hj => hj.1, (L0.fresh.only oq).only oz, L0.hl, L0.ha, Lz.f0, Lz.p0, Lz.f1, Lz.p1, Lz.u0, Lz.u1, Lz.short⟩, oq.trans (oz.mono fun j _ e => .inl (e ▸ hA))⟩

set_option maxRecDepth 100000 in
set_option maxHeartbeats 2000000 in
theorem ilook_any {w : World} {k : SkRef} {c : CRef} {S : Mem} {A : Nat → Prop} {ip : Nat} {x : Ins} (h : InsAt w k ip x) (L0 : Lx w k c S A) (hi : ¬ A ip) (hn : S.trace.length < trMax) (t0 : 0 ≤ x.task) (t1 : x.task < 64) (hl : x.level < 6)
    (v : Int) (hv : x.thn x.level = v) (v0 : 1 ≤ v) (v1 : v ≤ k.units / 6) (r : IK) (hr : (r.Wf ∧ r.right = true ∧ S.place (placeI k v) = encK r) ∨ (S.place (placeI k v) = [] ∧ r = ik0)) (x' : Ins) (hx' : (if r.cmp x.e.k < 0 then { x with at_ := upd x.at_ x.level v, op := 5 } else down x) = x') :
    Calls Try.prog 93 #[.pointer (some ⟨ip, 0, none⟩)] w (StepP w k c A ip x' (S.note ⟨x.task, 6, placeI k v⟩) 0) := by
  have ka : InsAt w.drew k ip x := Blk.keep h rfl
  have La : Lx w.drew k c S A := L0.quiet ⟨⟨1, rfl⟩⟩
  have kc : InsAt w.drew.drew k ip x := Blk.keep ka rfl
  have Lq : Lx w.drew.drew k c S A := La.quiet ⟨⟨1, rfl⟩⟩
  have oq : Only (fun j => A j ∨ j = ip) w w.drew.drew := (Only.refl _ w).drew.drew
  have hiq : ¬ A ip := hi
  have hat : (insC k ip x)[9 + x.level * 2 + 1]? = some (.int .i64 v) := by rw [ins_thn k ip x hl, hv]
  have HAT := Lib.hid hat
  have HR := Lib.hid hr
  have HX := Lib.hid hx'
  clear hat hr hx' hv h
  go_enter Try.func93, Try.ntmps93
  go_wp2
  refine wp_region_held_drew (S := (fun y => InsAt y k ip x ∧ SkAt y k c)) (by kernel_rfl) ⟨ka, La.sk⟩ (fun hHeld => ?_)
  refine wpAnyH_take (i := 0) (v := ?_) rfl (by kernel_rfl) (by kernel_rfl) (by kernel_rfl) (fun _ _ _ h => h) (Or.inl ⟨by kernel_rfl, ?_⟩) (by assumption) ?_
  rotate_left
  · (intro w hSw; (try dsimp only at hSw); go_simp; try with_reducible rfl)
  try simp only [Act.put, List.getElem_toArray, List.getElem_cons_zero, List.getElem_cons_succ, List.setIfInBounds_toArray, List.set_cons_zero, List.set_cons_succ]
  refine wpAnyH_take (i := 1) (v := ?_) rfl (by kernel_rfl) (by kernel_rfl) (by kernel_rfl) (fun _ _ _ h => h) (Or.inl ⟨by kernel_rfl, ?_⟩) (by assumption) ?_
  rotate_left
  · (intro w hSw; (try dsimp only at hSw); go_simp; try with_reducible rfl)
  try simp only [Act.put, List.getElem_toArray, List.getElem_cons_zero, List.getElem_cons_succ, List.setIfInBounds_toArray, List.set_cons_zero, List.set_cons_succ]
  refine wpAnyH_take (i := 2) (v := ?_) rfl (by kernel_rfl) (by kernel_rfl) (by kernel_rfl) (fun _ _ _ h => h) (Or.inl ⟨by kernel_rfl, ?_⟩) (by assumption) ?_
  rotate_left
  · (intro w hSw; (try dsimp only at hSw); go_simp; try with_reducible rfl)
  try simp only [Act.put, List.getElem_toArray, List.getElem_cons_zero, List.getElem_cons_succ, List.setIfInBounds_toArray, List.set_cons_zero, List.set_cons_succ]
  refine wpAnyH_take (i := 3) (v := ?_) rfl (by kernel_rfl) (by kernel_rfl) (by kernel_rfl) (fun _ _ _ h => h) (Or.inl ⟨by kernel_rfl, ?_⟩) (by assumption) ?_
  rotate_left
  · (intro w hSw; (try dsimp only at hSw); go_simp; try with_reducible rfl)
  try simp only [Act.put, List.getElem_toArray, List.getElem_cons_zero, List.getElem_cons_succ, List.setIfInBounds_toArray, List.set_cons_zero, List.set_cons_succ]
  refine wpAnyH_take (i := 4) (v := .int .i64 (x.level : Int)) rfl (by kernel_rfl) (by kernel_rfl) (by kernel_rfl) (fun _ _ _ h => h) (Or.inl ⟨by kernel_rfl, ?_⟩) (by assumption) ?_
  · (intro y hSw; have hc := Blk.cell hSw.1 8 (v := .int .i64 (x.level : Int)) rfl; go_simp; try with_reducible rfl)
  try simp only [Act.put, List.getElem_toArray, List.getElem_cons_zero, List.getElem_cons_succ, List.setIfInBounds_toArray, List.set_cons_zero, List.set_cons_succ]
  refine wpAnyH_take (i := 5) (v := ?_) rfl (by kernel_rfl) (by kernel_rfl) (by kernel_rfl) (fun _ _ _ h => h) (Or.inl ⟨by kernel_rfl, ?_⟩) (by assumption) ?_
  rotate_left
  · (intro w hSw; (try dsimp only at hSw); go_simp; try with_reducible rfl)
  try simp only [Act.put, List.getElem_toArray, List.getElem_cons_zero, List.getElem_cons_succ, List.setIfInBounds_toArray, List.set_cons_zero, List.set_cons_succ]
  refine wpAnyH_take (i := 6) (v := ?_) rfl (by kernel_rfl) (by kernel_rfl) (by kernel_rfl) (fun _ _ _ h => h) (Or.inl ⟨by kernel_rfl, ?_⟩) (by assumption) ?_
  rotate_left
  · (intro w hSw; (try dsimp only at hSw); go_simp; try with_reducible rfl)
  try simp only [Act.put, List.getElem_toArray, List.getElem_cons_zero, List.getElem_cons_succ, List.setIfInBounds_toArray, List.set_cons_zero, List.set_cons_succ]
  refine wpAnyH_take (i := 7) (v := .pointer (some ⟨ip, 9 + x.level * 2, none⟩)) rfl (by kernel_rfl) (by kernel_rfl) (by kernel_rfl) (fun _ _ _ h => h) (Or.inl ⟨by kernel_rfl, ?_⟩) (by assumption) ?_
  · (intro y hSw; (try dsimp only at hSw); go_simp; intro h; exfalso; omega)
  try simp only [Act.put, List.getElem_toArray, List.getElem_cons_zero, List.getElem_cons_succ, List.setIfInBounds_toArray, List.set_cons_zero, List.set_cons_succ]
  refine wpAnyH_take (i := 8) (v := ?_) rfl (by kernel_rfl) (by kernel_rfl) (by kernel_rfl) (fun _ _ _ h => h) (Or.inl ⟨by kernel_rfl, ?_⟩) (by assumption) ?_
  rotate_left
  · (intro w hSw; (try dsimp only at hSw); go_simp; try with_reducible rfl)
  try simp only [Act.put, List.getElem_toArray, List.getElem_cons_zero, List.getElem_cons_succ, List.setIfInBounds_toArray, List.set_cons_zero, List.set_cons_succ]
  refine wpAnyH_done (by kernel_rfl) ?_ _

  go_wp2_with fail
  refine wp_region_held_drew (S := (fun y => InsAt y k ip x ∧ SkAt y k c)) (by kernel_rfl) ⟨kc, Lq.sk⟩ (fun hHeld => ?_)
  refine wpAnyH_take (i := 0) (v := ?_) rfl (by kernel_rfl) (by kernel_rfl) (by kernel_rfl) (fun _ _ _ h => h) (Or.inl ⟨by kernel_rfl, ?_⟩) (by assumption) ?_
  rotate_left
  · (intro w hSw; (try dsimp only at hSw); go_simp; try with_reducible rfl)
  try simp only [Act.put, List.getElem_toArray, List.getElem_cons_zero, List.getElem_cons_succ, List.setIfInBounds_toArray, List.set_cons_zero, List.set_cons_succ]
  refine wpAnyH_take (i := 1) (v := ?_) rfl (by kernel_rfl) (by kernel_rfl) (by kernel_rfl) (fun _ _ _ h => h) (Or.inl ⟨by kernel_rfl, ?_⟩) (by assumption) ?_
  rotate_left
  · (intro w hSw; (try dsimp only at hSw); go_simp; try with_reducible rfl)
  try simp only [Act.put, List.getElem_toArray, List.getElem_cons_zero, List.getElem_cons_succ, List.setIfInBounds_toArray, List.set_cons_zero, List.set_cons_succ]
  refine wpAnyH_take (i := 2) (v := ?_) rfl (by kernel_rfl) (by kernel_rfl) (by kernel_rfl) (fun _ _ _ h => h) (Or.inl ⟨by kernel_rfl, ?_⟩) (by assumption) ?_
  rotate_left
  · (intro w hSw; (try dsimp only at hSw); go_simp; try with_reducible rfl)
  try simp only [Act.put, List.getElem_toArray, List.getElem_cons_zero, List.getElem_cons_succ, List.setIfInBounds_toArray, List.set_cons_zero, List.set_cons_succ]
  refine wpAnyH_take (i := 3) (v := .pointer (some ⟨k.lp, 0, none⟩)) rfl (by kernel_rfl) (by kernel_rfl) (by kernel_rfl) (fun _ _ _ h => h) (Or.inl ⟨by kernel_rfl, ?_⟩) (by assumption) ?_
  · (intro y hSw; have hc := Blk.cell hSw.1 0 (v := .pointer (some ⟨k.lp, 0, none⟩)) rfl; go_simp; try with_reducible rfl)
  try simp only [Act.put, List.getElem_toArray, List.getElem_cons_zero, List.getElem_cons_succ, List.setIfInBounds_toArray, List.set_cons_zero, List.set_cons_succ]
  refine wpAnyH_take (i := 4) (v := ?_) rfl (by kernel_rfl) (by kernel_rfl) (by kernel_rfl) (fun _ _ _ h => h) (Or.inl ⟨by kernel_rfl, ?_⟩) (by assumption) ?_
  rotate_left
  · (intro w hSw; (try dsimp only at hSw); go_simp; try with_reducible rfl)
  try simp only [Act.put, List.getElem_toArray, List.getElem_cons_zero, List.getElem_cons_succ, List.setIfInBounds_toArray, List.set_cons_zero, List.set_cons_succ]
  refine wpAnyH_take (i := 5) (v := ?_) rfl (by kernel_rfl) (by kernel_rfl) (by kernel_rfl) (fun _ _ _ h => h) (Or.inl ⟨by kernel_rfl, ?_⟩) (by assumption) ?_
  rotate_left
  · (intro w hSw; (try dsimp only at hSw); go_simp; try with_reducible rfl)
  try simp only [Act.put, List.getElem_toArray, List.getElem_cons_zero, List.getElem_cons_succ, List.setIfInBounds_toArray, List.set_cons_zero, List.set_cons_succ]
  refine wpAnyH_take (i := 6) (v := ?_) rfl (by kernel_rfl) (by kernel_rfl) (by kernel_rfl) (fun _ _ _ h => h) (Or.inl ⟨by kernel_rfl, ?_⟩) (by assumption) ?_
  rotate_left
  · (intro w hSw; (try dsimp only at hSw); go_simp; try with_reducible rfl)
  try simp only [Act.put, List.getElem_toArray, List.getElem_cons_zero, List.getElem_cons_succ, List.setIfInBounds_toArray, List.set_cons_zero, List.set_cons_succ]
  refine wpAnyH_take (i := 7) (v := .int .i64 x.task) rfl (by kernel_rfl) (by kernel_rfl) (by kernel_rfl) (fun _ _ _ h => h) (Or.inl ⟨by kernel_rfl, ?_⟩) (by assumption) ?_
  · (intro y hSw; have hc := Blk.cell hSw.1 1 (v := .int .i64 x.task) rfl; go_simp; try with_reducible rfl)
  try simp only [Act.put, List.getElem_toArray, List.getElem_cons_zero, List.getElem_cons_succ, List.setIfInBounds_toArray, List.set_cons_zero, List.set_cons_succ]
  refine wpAnyH_take (i := 8) (v := ?_) rfl (by kernel_rfl) (by kernel_rfl) (by kernel_rfl) (fun _ _ _ h => h) (Or.inl ⟨by kernel_rfl, ?_⟩) (by assumption) ?_
  rotate_left
  · (intro w hSw; (try dsimp only at hSw); go_simp; try with_reducible rfl)
  try simp only [Act.put, List.getElem_toArray, List.getElem_cons_zero, List.getElem_cons_succ, List.setIfInBounds_toArray, List.set_cons_zero, List.set_cons_succ]
  refine wpAnyH_take (i := 9) (v := ?_) rfl (by kernel_rfl) (by kernel_rfl) (by kernel_rfl) (fun _ _ _ h => h) (Or.inl ⟨by kernel_rfl, ?_⟩) (by assumption) ?_
  rotate_left
  · (intro w hSw; (try dsimp only at hSw); go_simp; try with_reducible rfl)
  try simp only [Act.put, List.getElem_toArray, List.getElem_cons_zero, List.getElem_cons_succ, List.setIfInBounds_toArray, List.set_cons_zero, List.set_cons_succ]
  refine wpAnyH_take (i := 10) (v := ?_) rfl (by kernel_rfl) (by kernel_rfl) (by kernel_rfl) (fun _ _ _ h => h) (Or.inl ⟨by kernel_rfl, ?_⟩) (by assumption) ?_
  rotate_left
  · (intro w hSw; (try dsimp only at hSw); go_simp; try with_reducible rfl)
  try simp only [Act.put, List.getElem_toArray, List.getElem_cons_zero, List.getElem_cons_succ, List.setIfInBounds_toArray, List.set_cons_zero, List.set_cons_succ]
  refine wpAnyH_take (i := 11) (v := .int .i64 v) rfl (by kernel_rfl) (by kernel_rfl) (by kernel_rfl) (fun _ _ _ h => h) (Or.inl ⟨by kernel_rfl, ?_⟩) (by assumption) ?_
  · (intro y hSw; have hc := Blk.cell hSw.1 (9 + x.level * 2 + 1) (v := .int .i64 v) HAT.out; go_simp; try with_reducible rfl)
  try simp only [Act.put, List.getElem_toArray, List.getElem_cons_zero, List.getElem_cons_succ, List.setIfInBounds_toArray, List.set_cons_zero, List.set_cons_succ]
  refine wpAnyH_ready (rs := [12, 16]) (by kernel_rfl) (by simp) ?_
  refine AllReadyH.cons rfl (fun KK hKK => ?_) (AllReadyH.cons rfl (fun KK hKK => ?_) AllReadyH.nil)
  · try skip
    go_simp
    refine (lkey_any Lq hn x.task v t0 t1 v0 v1 r HR.out).mono ?_
    rintro e w2 ⟨rfl, hC2, hO2⟩
    have kc : InsAt w2 k ip x := Blk.keep kc (hO2.block _ (Blk.lt kc) hiq)
    have Lq := Lq.next hC2 hO2 (Mem.Like.note _ _)
    first | (have kz := Blk.keep kz (hO2.block _ kz.lt hzq); have oq := oq.trans (hO2.mono fun j _ hj => .inl hj.1)) | have oq := oq.trans (hO2.mono fun j _ hj => .inl hj)
    refine hKK.out _ _ ⟨kc, Lq.sk⟩ (fun hHeld1 => ?_)
    clear hKK KK hHeld
    try simp only [Act.put, List.getElem_toArray, List.getElem_cons_zero, List.getElem_cons_succ, List.setIfInBounds_toArray, List.set_cons_zero, List.set_cons_succ]
    refine wpAnyH_take (i := 13) (v := ?_) rfl (by kernel_rfl) (by kernel_rfl) (by kernel_rfl) (fun _ _ _ h => h) (Or.inl ⟨by kernel_rfl, ?_⟩) (by assumption) ?_
    rotate_left
    · (intro w hSw; (try dsimp only at hSw); go_simp; try with_reducible rfl)
    try simp only [Act.put, List.getElem_toArray, List.getElem_cons_zero, List.getElem_cons_succ, List.setIfInBounds_toArray, List.set_cons_zero, List.set_cons_succ]
    refine wpAnyH_take (i := 14) (v := ?_) rfl (by kernel_rfl) (by kernel_rfl) (by kernel_rfl) (fun _ _ _ h => h) (Or.inl ⟨by kernel_rfl, ?_⟩) (by assumption) ?_
    rotate_left
    · (intro w hSw; (try dsimp only at hSw); go_simp; try with_reducible rfl)
    try simp only [Act.put, List.getElem_toArray, List.getElem_cons_zero, List.getElem_cons_succ, List.setIfInBounds_toArray, List.set_cons_zero, List.set_cons_succ]
    refine wpAnyH_take (i := 15) (v := ?_) rfl (by kernel_rfl) (by kernel_rfl) (by kernel_rfl) (fun _ _ _ h => h) (Or.inl ⟨by kernel_rfl, ?_⟩) (by assumption) ?_
    rotate_left
    · (intro w hSw; (try dsimp only at hSw); go_simp; try with_reducible rfl)
    try simp only [Act.put, List.getElem_toArray, List.getElem_cons_zero, List.getElem_cons_succ, List.setIfInBounds_toArray, List.set_cons_zero, List.set_cons_succ]
    refine wpAnyH_ready (rs := [16]) (by kernel_rfl) (by simp) ?_
    refine AllReadyH.cons rfl (fun KK hKK => ?_) AllReadyH.nil
    go_simp
    first | (have kz : Blk (w2.alloc (.cells #[.string ⟨#[]⟩, .int .u64 0, .int .u8 0] 36)) w2.heap.size 36 (ikC ik0) := Blk.new w2 _ (ikC ik0); have hba : Below w2.heap.size w2 (w2.alloc (.cells #[.string ⟨#[]⟩, .int .u64 0, .int .u8 0] 36)) := (Below.refl _ _).alloc (Nat.le_refl _) _; have hzA : A w2.heap.size := Lq.fresh.new _ (Nat.le_refl _); have hzq : ¬ boxA A w2.heap.size (w2.alloc (.cells #[.string ⟨#[]⟩, .int .u64 0, .int .u8 0] 36)).heap.size w2.heap.size := fun hA => hA.2.elim (fun h1 => Nat.lt_irrefl _ h1) (fun h1 => absurd kz.lt (Nat.not_lt.mpr h1)); have kc : InsAt _ k ip x := Blk.keep kc (hba.block _ (Blk.lt kc)); have oq := oq.trans (Only.of_below hba); have Lq := Lq.box hba; have hiq : ¬ boxA A w2.heap.size (w2.alloc (.cells #[.string ⟨#[]⟩, .int .u64 0, .int .u8 0] 36)).heap.size ip := fun hA => hi hA.1; obtain ⟨bx, hbx⟩ : ∃ bx, w2.heap.size = bx := ⟨_, rfl⟩; have hbx2 : w2.heap.size = bx := hbx) | (have kz : Blk (w.drew.drew.alloc (.cells #[.string ⟨#[]⟩, .int .u64 0, .int .u8 0] 36)) w.drew.drew.heap.size 36 (ikC ik0) := Blk.new w.drew.drew _ (ikC ik0); have hba : Below w.drew.drew.heap.size w.drew.drew (w.drew.drew.alloc (.cells #[.string ⟨#[]⟩, .int .u64 0, .int .u8 0] 36)) := (Below.refl _ _).alloc (Nat.le_refl _) _; have hzA : A w.drew.drew.heap.size := Lq.fresh.new _ (Nat.le_refl _); have hzq : ¬ boxA A w.drew.drew.heap.size (w.drew.drew.alloc (.cells #[.string ⟨#[]⟩, .int .u64 0, .int .u8 0] 36)).heap.size w.drew.drew.heap.size := fun hA => hA.2.elim (fun h1 => Nat.lt_irrefl _ h1) (fun h1 => absurd kz.lt (Nat.not_lt.mpr h1)); have kc : InsAt _ k ip x := Blk.keep kc (hba.block _ (Blk.lt kc)); have oq := oq.trans (Only.of_below hba); have Lq := Lq.box hba; have hiq : ¬ boxA A w.drew.drew.heap.size (w.drew.drew.alloc (.cells #[.string ⟨#[]⟩, .int .u64 0, .int .u8 0] 36)).heap.size ip := fun hA => hi hA.1; obtain ⟨bx, hbx⟩ : ∃ bx, w.drew.drew.heap.size = bx := ⟨_, rfl⟩; have hbx2 : w.heap.size = bx := hbx)
    refine hKK.out _ _ ⟨kc, Lq.sk⟩ (fun hHeld2 => ?_)
    clear hKK KK hHeld1
    try simp only [Act.put, List.getElem_toArray, List.getElem_cons_zero, List.getElem_cons_succ, List.setIfInBounds_toArray, List.set_cons_zero, List.set_cons_succ]
    refine wpAnyH_ready (rs := [17]) (by kernel_rfl) (by simp) ?_
    refine AllReadyH.cons rfl (fun KK hKK => ?_) AllReadyH.nil
    simp only [hbx] at kz hzq hzA Lq hiq
    try simp only [hbx, hbx2]
    refine wp_store_mid 36 (.tmp 4) (.tmp 28) rfl bx 0 (ikC r).toArray (by rfl) (by rfl) (Blk.there kz 0 3 (by decide)) infoIk (all_oneCell_toArray (ikC_one r)) ?_
    obtain ⟨kz, kc, Lz, oz⟩ := look_mid (r := r) kz Lq hzq hzA kc oq L0
    refine hKK.out _ _ ⟨kc, Lz.sk⟩ (fun hHeld3 => ?_)
    clear hKK KK hHeld2
    try simp only [Act.put, List.getElem_toArray, List.getElem_cons_zero, List.getElem_cons_succ, List.setIfInBounds_toArray, List.set_cons_zero, List.set_cons_succ]
    refine wpAnyH_take (i := 18) (v := ?_) rfl (by kernel_rfl) (by kernel_rfl) (by kernel_rfl) (fun _ _ _ h => h) (Or.inl ⟨by kernel_rfl, ?_⟩) (by assumption) ?_
    rotate_left
    · (intro w hSw; (try dsimp only at hSw); go_simp; try with_reducible rfl)
    try simp only [Act.put, List.getElem_toArray, List.getElem_cons_zero, List.getElem_cons_succ, List.setIfInBounds_toArray, List.set_cons_zero, List.set_cons_succ]
    refine wpAnyH_done (by kernel_rfl) ?_ _
    go_wp2_with fail
    try simp only [hbx] at kz kc Lz oz
    try simp only [hbx, hbx2]
    generalize hW4 : World.setCells _ bx _ _ = W4 at kz kc Lz oz ⊢
    have kzd : Blk W4.drew bx 36 (ikC r) := kz.keep rfl
    have kcd : InsAt W4.drew k ip x := Blk.keep kc rfl
    have Ld : Lx W4.drew k c _ A := Lz.quiet ⟨⟨1, rfl⟩⟩
    have od : Only (fun j => A j ∨ j = ip) w W4.drew := oz.drew
    refine wp_region_held_drew (S := (fun y => Blk y bx 36 (ikC r) ∧ InsAt y k ip x)) (by kernel_rfl) ⟨kzd, kcd⟩ (fun hHeld => ?_)
    refine wpAnyH_take (i := 0) (v := .agg (ikC r).toArray) rfl (by kernel_rfl) (by kernel_rfl) (by kernel_rfl) (fun _ _ _ h => h) (yieldsIf_load_blk (by kernel_rfl) 36 (.tmp 4) (by rfl) bx (by rfl) (ikC r) (fun w h => h.1) _ Try.underlying36 (by rfl) infoIk) (by assumption) ?_
    try simp only [Act.put, List.getElem_toArray, List.getElem_cons_zero, List.getElem_cons_succ, List.setIfInBounds_toArray, List.set_cons_zero, List.set_cons_succ]
    refine wpAnyH_take (i := 1) (v := ?_) rfl (by kernel_rfl) (by kernel_rfl) (by kernel_rfl) (fun _ _ _ h => h) (Or.inl ⟨by kernel_rfl, ?_⟩) (by assumption) ?_
    rotate_left
    · (intro w hSw; (try dsimp only at hSw); go_simp; try with_reducible rfl)
    try simp only [Act.put, List.getElem_toArray, List.getElem_cons_zero, List.getElem_cons_succ, List.setIfInBounds_toArray, List.set_cons_zero, List.set_cons_succ]
    refine wpAnyH_take (i := 2) (v := ?_) rfl (by kernel_rfl) (by kernel_rfl) (by kernel_rfl) (fun _ _ _ h => h) (Or.inl ⟨by kernel_rfl, ?_⟩) (by assumption) ?_
    rotate_left
    · (intro w hSw; (try dsimp only at hSw); go_simp; try with_reducible rfl)
    try simp only [Act.put, List.getElem_toArray, List.getElem_cons_zero, List.getElem_cons_succ, List.setIfInBounds_toArray, List.set_cons_zero, List.set_cons_succ]
    refine wpAnyH_take (i := 3) (v := ?_) rfl (by kernel_rfl) (by kernel_rfl) (by kernel_rfl) (fun _ _ _ h => h) (Or.inl ⟨by kernel_rfl, ?_⟩) (by assumption) ?_
    rotate_left
    · (intro w hSw; (try dsimp only at hSw); go_simp; try with_reducible rfl)
    try simp only [Act.put, List.getElem_toArray, List.getElem_cons_zero, List.getElem_cons_succ, List.setIfInBounds_toArray, List.set_cons_zero, List.set_cons_succ]
    refine wpAnyH_take (i := 4) (v := ?_) rfl (by kernel_rfl) (by kernel_rfl) (by kernel_rfl) (fun _ _ _ h => h) (Or.inl ⟨by kernel_rfl, ?_⟩) (by assumption) ?_
    rotate_left
    · (intro w hSw; (try dsimp only at hSw); go_simp; try with_reducible rfl)
    try simp only [Act.put, List.getElem_toArray, List.getElem_cons_zero, List.getElem_cons_succ, List.setIfInBounds_toArray, List.set_cons_zero, List.set_cons_succ]
    refine wpAnyH_take (i := 5) (v := .agg (ikC x.e.k).toArray) rfl (by kernel_rfl) (by kernel_rfl) (by kernel_rfl) (fun _ _ _ h => h) (yieldsIf_load_mid (by kernel_rfl) 36 (.tmp 34) (by rfl) ip 2 (by rfl) (ikC x.e.k) _ (fun y hSw => Blk.range hSw.2 2 (ikC x.e.k) (ikC_in k ip x)) Try.underlying36 rfl infoIk)  (by assumption) ?_
    try simp only [Act.put, List.getElem_toArray, List.getElem_cons_zero, List.getElem_cons_succ, List.setIfInBounds_toArray, List.set_cons_zero, List.set_cons_succ]
    refine wpAnyH_ready (rs := [6]) (by kernel_rfl) (by simp) ?_
    refine AllReadyH.cons rfl (fun KK hKK => ?_) AllReadyH.nil
    go_simp
    refine (compare_any _ _ _).mono ?_
    rintro e w5 ⟨rfl, hb5⟩
    have k5 : InsAt w5 k ip x := Blk.keep kcd (hb5.block _ (Blk.lt kcd))
    have L5 := Ld.below hb5
    have o5 : Only (fun j => A j ∨ j = ip) w w5 := od.trans (Only.of_below hb5)
    refine hKK.out _ _ ⟨kzd.keep (hb5.block _ kzd.lt), k5⟩ (fun hHeld1 => ?_)
    clear hKK KK hHeld
    try simp only [Act.put, List.getElem_toArray, List.getElem_cons_zero, List.getElem_cons_succ, List.setIfInBounds_toArray, List.set_cons_zero, List.set_cons_succ]
    refine wpAnyH_take (i := 7) (v := ?_) rfl (by kernel_rfl) (by kernel_rfl) (by kernel_rfl) (fun _ _ _ h => h) (Or.inl ⟨by kernel_rfl, ?_⟩) (by assumption) ?_
    rotate_left
    · (intro w hSw; (try dsimp only at hSw); go_simp; try with_reducible rfl)
    try simp only [Act.put, List.getElem_toArray, List.getElem_cons_zero, List.getElem_cons_succ, List.setIfInBounds_toArray, List.set_cons_zero, List.set_cons_succ]
    refine wpAnyH_done (by kernel_rfl) ?_ _
    clear kzd kcd Ld od kz kc Lz oz Lq
    have c9 := Blk.cell k5 _ (ins_at k ip x hl)
    have c10 := Blk.cell k5 (9 + x.level * 2 + 1) (v := .int .i64 v) HAT.out
    have c22 := Blk.cell k5 22 (v := stepV ip x.op) rfl
    have fz := Blk.frozen k5
    by_cases hlt : r.cmp x.e.k < 0
    · have hx := HX.out
      rw [if_pos hlt] at hx
      obtain ⟨w6, hw6⟩ : ∃ w6, w5.setCell ⟨ip, 9 + x.level * 2, none⟩ (.int .i64 v) = w6 := ⟨_, rfl⟩
      have k6 : InsAt w6 k ip { x with at_ := upd x.at_ x.level v } := by unfold InsAt; rw [← hw6, ← ins_set_at k ip x hl v]; exact Blk.set k5 _ _
      have L6 := L5.poke k5 hi (9 + x.level * 2) (.int .i64 v)
      rw [hw6] at L6
      have o6 : Only (fun j => A j ∨ j = ip) w w6 := by rw [← hw6]; exact o5.trans (poke_only w5 ip _ _ A)
      have c22b := Blk.cell k6 22 (v := stepV ip x.op) rfl
      have fz6 := Blk.frozen k6
      have HK7 := Lib.hid (k6.setop 5)
      have HL7 := Lib.hid (L6.poke k6 hi 22 (stepV ip 5))
      have HO7 := Lib.hid (o6.trans (poke_only w6 ip 22 (stepV ip 5) A))
      clear k6 L6 o6 k5 L5 o5
      go_wp2_with fail
      go_ret
      subst hx
      exact ⟨rfl, HK7.out, HL7.out, HO7.out⟩
    · have hx := HX.out
      rw [if_neg hlt] at hx
      have hfd := found_any k5 hl
      rw [hx] at hfd
      have HFD := Lib.hid hfd
      have HK5 := Lib.hid k5
      have HL5 := Lib.hid L5
      have HO5 := Lib.hid o5
      clear hfd hx k5 L5 o5 c9 c10 c22 fz
      go_wp2_with (go_at_call 94; refine HFD.out.mono ?_; rintro e w6 ⟨rfl, k6, o6⟩)
      go_ret
      exact ⟨rfl, k6, HL5.out.aside o6 (fun j _ hA e => hi (e ▸ hA)) (Blk.ne HL5.out.sk.list HK5.out (by decide)) (Blk.ne HL5.out.sk.arena HK5.out (by decide)), HO5.out.trans (o6.mono fun j _ e => .inr e)⟩
  · try skip
    go_simp
    first | (have kz : Blk (w2.alloc (.cells #[.string ⟨#[]⟩, .int .u64 0, .int .u8 0] 36)) w2.heap.size 36 (ikC ik0) := Blk.new w2 _ (ikC ik0); have hba : Below w2.heap.size w2 (w2.alloc (.cells #[.string ⟨#[]⟩, .int .u64 0, .int .u8 0] 36)) := (Below.refl _ _).alloc (Nat.le_refl _) _; have hzA : A w2.heap.size := Lq.fresh.new _ (Nat.le_refl _); have hzq : ¬ boxA A w2.heap.size (w2.alloc (.cells #[.string ⟨#[]⟩, .int .u64 0, .int .u8 0] 36)).heap.size w2.heap.size := fun hA => hA.2.elim (fun h1 => Nat.lt_irrefl _ h1) (fun h1 => absurd kz.lt (Nat.not_lt.mpr h1)); have kc : InsAt _ k ip x := Blk.keep kc (hba.block _ (Blk.lt kc)); have oq := oq.trans (Only.of_below hba); have Lq := Lq.box hba; have hiq : ¬ boxA A w2.heap.size (w2.alloc (.cells #[.string ⟨#[]⟩, .int .u64 0, .int .u8 0] 36)).heap.size ip := fun hA => hi hA.1; obtain ⟨bx, hbx⟩ : ∃ bx, w2.heap.size = bx := ⟨_, rfl⟩; have hbx2 : w2.heap.size = bx := hbx) | (have kz : Blk (w.drew.drew.alloc (.cells #[.string ⟨#[]⟩, .int .u64 0, .int .u8 0] 36)) w.drew.drew.heap.size 36 (ikC ik0) := Blk.new w.drew.drew _ (ikC ik0); have hba : Below w.drew.drew.heap.size w.drew.drew (w.drew.drew.alloc (.cells #[.string ⟨#[]⟩, .int .u64 0, .int .u8 0] 36)) := (Below.refl _ _).alloc (Nat.le_refl _) _; have hzA : A w.drew.drew.heap.size := Lq.fresh.new _ (Nat.le_refl _); have hzq : ¬ boxA A w.drew.drew.heap.size (w.drew.drew.alloc (.cells #[.string ⟨#[]⟩, .int .u64 0, .int .u8 0] 36)).heap.size w.drew.drew.heap.size := fun hA => hA.2.elim (fun h1 => Nat.lt_irrefl _ h1) (fun h1 => absurd kz.lt (Nat.not_lt.mpr h1)); have kc : InsAt _ k ip x := Blk.keep kc (hba.block _ (Blk.lt kc)); have oq := oq.trans (Only.of_below hba); have Lq := Lq.box hba; have hiq : ¬ boxA A w.drew.drew.heap.size (w.drew.drew.alloc (.cells #[.string ⟨#[]⟩, .int .u64 0, .int .u8 0] 36)).heap.size ip := fun hA => hi hA.1; obtain ⟨bx, hbx⟩ : ∃ bx, w.drew.drew.heap.size = bx := ⟨_, rfl⟩; have hbx2 : w.heap.size = bx := hbx)
    refine hKK.out _ _ ⟨kc, Lq.sk⟩ (fun hHeld1 => ?_)
    clear hKK KK hHeld
    try simp only [Act.put, List.getElem_toArray, List.getElem_cons_zero, List.getElem_cons_succ, List.setIfInBounds_toArray, List.set_cons_zero, List.set_cons_succ]
    refine wpAnyH_ready (rs := [12]) (by kernel_rfl) (by simp) ?_
    refine AllReadyH.cons rfl (fun KK hKK => ?_) AllReadyH.nil
    go_simp
    refine (lkey_any Lq hn x.task v t0 t1 v0 v1 r HR.out).mono ?_
    rintro e w2 ⟨rfl, hC2, hO2⟩
    have kc : InsAt w2 k ip x := Blk.keep kc (hO2.block _ (Blk.lt kc) hiq)
    have Lq := Lq.next hC2 hO2 (Mem.Like.note _ _)
    first | (have kz := Blk.keep kz (hO2.block _ kz.lt hzq); have oq := oq.trans (hO2.mono fun j _ hj => .inl hj.1)) | have oq := oq.trans (hO2.mono fun j _ hj => .inl hj)
    refine hKK.out _ _ ⟨kc, Lq.sk⟩ (fun hHeld2 => ?_)
    clear hKK KK hHeld1
    try simp only [Act.put, List.getElem_toArray, List.getElem_cons_zero, List.getElem_cons_succ, List.setIfInBounds_toArray, List.set_cons_zero, List.set_cons_succ]
    refine wpAnyH_take (i := 13) (v := ?_) rfl (by kernel_rfl) (by kernel_rfl) (by kernel_rfl) (fun _ _ _ h => h) (Or.inl ⟨by kernel_rfl, ?_⟩) (by assumption) ?_
    rotate_left
    · (intro w hSw; (try dsimp only at hSw); go_simp; try with_reducible rfl)
    try simp only [Act.put, List.getElem_toArray, List.getElem_cons_zero, List.getElem_cons_succ, List.setIfInBounds_toArray, List.set_cons_zero, List.set_cons_succ]
    refine wpAnyH_take (i := 14) (v := ?_) rfl (by kernel_rfl) (by kernel_rfl) (by kernel_rfl) (fun _ _ _ h => h) (Or.inl ⟨by kernel_rfl, ?_⟩) (by assumption) ?_
    rotate_left
    · (intro w hSw; (try dsimp only at hSw); go_simp; try with_reducible rfl)
    try simp only [Act.put, List.getElem_toArray, List.getElem_cons_zero, List.getElem_cons_succ, List.setIfInBounds_toArray, List.set_cons_zero, List.set_cons_succ]
    refine wpAnyH_take (i := 15) (v := ?_) rfl (by kernel_rfl) (by kernel_rfl) (by kernel_rfl) (fun _ _ _ h => h) (Or.inl ⟨by kernel_rfl, ?_⟩) (by assumption) ?_
    rotate_left
    · (intro w hSw; (try dsimp only at hSw); go_simp; try with_reducible rfl)
    try simp only [Act.put, List.getElem_toArray, List.getElem_cons_zero, List.getElem_cons_succ, List.setIfInBounds_toArray, List.set_cons_zero, List.set_cons_succ]
    refine wpAnyH_ready (rs := [17]) (by kernel_rfl) (by simp) ?_
    refine AllReadyH.cons rfl (fun KK hKK => ?_) AllReadyH.nil
    simp only [hbx] at kz hzq hzA Lq hiq
    try simp only [hbx, hbx2]
    refine wp_store_mid 36 (.tmp 4) (.tmp 28) rfl bx 0 (ikC r).toArray (by rfl) (by rfl) (Blk.there kz 0 3 (by decide)) infoIk (all_oneCell_toArray (ikC_one r)) ?_
    obtain ⟨kz, kc, Lz, oz⟩ := look_mid (r := r) kz Lq hzq hzA kc oq L0
    refine hKK.out _ _ ⟨kc, Lz.sk⟩ (fun hHeld3 => ?_)
    clear hKK KK hHeld2
    try simp only [Act.put, List.getElem_toArray, List.getElem_cons_zero, List.getElem_cons_succ, List.setIfInBounds_toArray, List.set_cons_zero, List.set_cons_succ]
    refine wpAnyH_take (i := 18) (v := ?_) rfl (by kernel_rfl) (by kernel_rfl) (by kernel_rfl) (fun _ _ _ h => h) (Or.inl ⟨by kernel_rfl, ?_⟩) (by assumption) ?_
    rotate_left
    · (intro w hSw; (try dsimp only at hSw); go_simp; try with_reducible rfl)
    try simp only [Act.put, List.getElem_toArray, List.getElem_cons_zero, List.getElem_cons_succ, List.setIfInBounds_toArray, List.set_cons_zero, List.set_cons_succ]
    refine wpAnyH_done (by kernel_rfl) ?_ _
    go_wp2_with fail
    try simp only [hbx] at kz kc Lz oz
    try simp only [hbx, hbx2]
    generalize hW4 : World.setCells _ bx _ _ = W4 at kz kc Lz oz ⊢
    have kzd : Blk W4.drew bx 36 (ikC r) := kz.keep rfl
    have kcd : InsAt W4.drew k ip x := Blk.keep kc rfl
    have Ld : Lx W4.drew k c _ A := Lz.quiet ⟨⟨1, rfl⟩⟩
    have od : Only (fun j => A j ∨ j = ip) w W4.drew := oz.drew
    refine wp_region_held_drew (S := (fun y => Blk y bx 36 (ikC r) ∧ InsAt y k ip x)) (by kernel_rfl) ⟨kzd, kcd⟩ (fun hHeld => ?_)
    refine wpAnyH_take (i := 0) (v := .agg (ikC r).toArray) rfl (by kernel_rfl) (by kernel_rfl) (by kernel_rfl) (fun _ _ _ h => h) (yieldsIf_load_blk (by kernel_rfl) 36 (.tmp 4) (by rfl) bx (by rfl) (ikC r) (fun w h => h.1) _ Try.underlying36 (by rfl) infoIk) (by assumption) ?_
    try simp only [Act.put, List.getElem_toArray, List.getElem_cons_zero, List.getElem_cons_succ, List.setIfInBounds_toArray, List.set_cons_zero, List.set_cons_succ]
    refine wpAnyH_take (i := 1) (v := ?_) rfl (by kernel_rfl) (by kernel_rfl) (by kernel_rfl) (fun _ _ _ h => h) (Or.inl ⟨by kernel_rfl, ?_⟩) (by assumption) ?_
    rotate_left
    · (intro w hSw; (try dsimp only at hSw); go_simp; try with_reducible rfl)
    try simp only [Act.put, List.getElem_toArray, List.getElem_cons_zero, List.getElem_cons_succ, List.setIfInBounds_toArray, List.set_cons_zero, List.set_cons_succ]
    refine wpAnyH_take (i := 2) (v := ?_) rfl (by kernel_rfl) (by kernel_rfl) (by kernel_rfl) (fun _ _ _ h => h) (Or.inl ⟨by kernel_rfl, ?_⟩) (by assumption) ?_
    rotate_left
    · (intro w hSw; (try dsimp only at hSw); go_simp; try with_reducible rfl)
    try simp only [Act.put, List.getElem_toArray, List.getElem_cons_zero, List.getElem_cons_succ, List.setIfInBounds_toArray, List.set_cons_zero, List.set_cons_succ]
    refine wpAnyH_take (i := 3) (v := ?_) rfl (by kernel_rfl) (by kernel_rfl) (by kernel_rfl) (fun _ _ _ h => h) (Or.inl ⟨by kernel_rfl, ?_⟩) (by assumption) ?_
    rotate_left
    · (intro w hSw; (try dsimp only at hSw); go_simp; try with_reducible rfl)
    try simp only [Act.put, List.getElem_toArray, List.getElem_cons_zero, List.getElem_cons_succ, List.setIfInBounds_toArray, List.set_cons_zero, List.set_cons_succ]
    refine wpAnyH_take (i := 4) (v := ?_) rfl (by kernel_rfl) (by kernel_rfl) (by kernel_rfl) (fun _ _ _ h => h) (Or.inl ⟨by kernel_rfl, ?_⟩) (by assumption) ?_
    rotate_left
    · (intro w hSw; (try dsimp only at hSw); go_simp; try with_reducible rfl)
    try simp only [Act.put, List.getElem_toArray, List.getElem_cons_zero, List.getElem_cons_succ, List.setIfInBounds_toArray, List.set_cons_zero, List.set_cons_succ]
    refine wpAnyH_take (i := 5) (v := .agg (ikC x.e.k).toArray) rfl (by kernel_rfl) (by kernel_rfl) (by kernel_rfl) (fun _ _ _ h => h) (yieldsIf_load_mid (by kernel_rfl) 36 (.tmp 34) (by rfl) ip 2 (by rfl) (ikC x.e.k) _ (fun y hSw => Blk.range hSw.2 2 (ikC x.e.k) (ikC_in k ip x)) Try.underlying36 rfl infoIk)  (by assumption) ?_
    try simp only [Act.put, List.getElem_toArray, List.getElem_cons_zero, List.getElem_cons_succ, List.setIfInBounds_toArray, List.set_cons_zero, List.set_cons_succ]
    refine wpAnyH_ready (rs := [6]) (by kernel_rfl) (by simp) ?_
    refine AllReadyH.cons rfl (fun KK hKK => ?_) AllReadyH.nil
    go_simp
    refine (compare_any _ _ _).mono ?_
    rintro e w5 ⟨rfl, hb5⟩
    have k5 : InsAt w5 k ip x := Blk.keep kcd (hb5.block _ (Blk.lt kcd))
    have L5 := Ld.below hb5
    have o5 : Only (fun j => A j ∨ j = ip) w w5 := od.trans (Only.of_below hb5)
    refine hKK.out _ _ ⟨kzd.keep (hb5.block _ kzd.lt), k5⟩ (fun hHeld1 => ?_)
    clear hKK KK hHeld
    try simp only [Act.put, List.getElem_toArray, List.getElem_cons_zero, List.getElem_cons_succ, List.setIfInBounds_toArray, List.set_cons_zero, List.set_cons_succ]
    refine wpAnyH_take (i := 7) (v := ?_) rfl (by kernel_rfl) (by kernel_rfl) (by kernel_rfl) (fun _ _ _ h => h) (Or.inl ⟨by kernel_rfl, ?_⟩) (by assumption) ?_
    rotate_left
    · (intro w hSw; (try dsimp only at hSw); go_simp; try with_reducible rfl)
    try simp only [Act.put, List.getElem_toArray, List.getElem_cons_zero, List.getElem_cons_succ, List.setIfInBounds_toArray, List.set_cons_zero, List.set_cons_succ]
    refine wpAnyH_done (by kernel_rfl) ?_ _
    clear kzd kcd Ld od kz kc Lz oz Lq
    have c9 := Blk.cell k5 _ (ins_at k ip x hl)
    have c10 := Blk.cell k5 (9 + x.level * 2 + 1) (v := .int .i64 v) HAT.out
    have c22 := Blk.cell k5 22 (v := stepV ip x.op) rfl
    have fz := Blk.frozen k5
    by_cases hlt : r.cmp x.e.k < 0
    · have hx := HX.out
      rw [if_pos hlt] at hx
      obtain ⟨w6, hw6⟩ : ∃ w6, w5.setCell ⟨ip, 9 + x.level * 2, none⟩ (.int .i64 v) = w6 := ⟨_, rfl⟩
      have k6 : InsAt w6 k ip { x with at_ := upd x.at_ x.level v } := by unfold InsAt; rw [← hw6, ← ins_set_at k ip x hl v]; exact Blk.set k5 _ _
      have L6 := L5.poke k5 hi (9 + x.level * 2) (.int .i64 v)
      rw [hw6] at L6
      have o6 : Only (fun j => A j ∨ j = ip) w w6 := by rw [← hw6]; exact o5.trans (poke_only w5 ip _ _ A)
      have c22b := Blk.cell k6 22 (v := stepV ip x.op) rfl
      have fz6 := Blk.frozen k6
      have HK7 := Lib.hid (k6.setop 5)
      have HL7 := Lib.hid (L6.poke k6 hi 22 (stepV ip 5))
      have HO7 := Lib.hid (o6.trans (poke_only w6 ip 22 (stepV ip 5) A))
      clear k6 L6 o6 k5 L5 o5
      go_wp2_with fail
      go_ret
      subst hx
      exact ⟨rfl, HK7.out, HL7.out, HO7.out⟩
    · have hx := HX.out
      rw [if_neg hlt] at hx
      have hfd := found_any k5 hl
      rw [hx] at hfd
      have HFD := Lib.hid hfd
      have HK5 := Lib.hid k5
      have HL5 := Lib.hid L5
      have HO5 := Lib.hid o5
      clear hfd hx k5 L5 o5 c9 c10 c22 fz
      go_wp2_with (go_at_call 94; refine HFD.out.mono ?_; rintro e w6 ⟨rfl, k6, o6⟩)
      go_ret
      exact ⟨rfl, k6, HL5.out.aside o6 (fun j _ hA e => hi (e ▸ hA)) (Blk.ne HL5.out.sk.list HK5.out (by decide)) (Blk.ne HL5.out.sk.arena HK5.out (by decide)), HO5.out.trans (o6.mono fun j _ e => .inr e)⟩

end Go.Proofs.Ytkpjfdhjkgdcbaa
