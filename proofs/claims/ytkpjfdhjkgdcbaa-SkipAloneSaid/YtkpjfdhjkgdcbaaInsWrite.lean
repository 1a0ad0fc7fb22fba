/- An insert's writes. -/
import Derived.Test.YtkpjfdhjkgdcbaaInsTake
import Derived.Test.YtkpjfdhjkgdcbaaMany
import Derived.Lib.ConvBytes

namespace Go.Proofs.Ytkpjfdhjkgdcbaa
open Go.RowKit

theorem ikC_in (k : SkRef) (ip : Nat) (x : Ins) : ∀ j v, (ikC x.e.k)[j]? = some v → (insC k ip x)[2 + j]? = some v := by
  intro j v hv
  match j, hv with
  | 0, hv => exact hv
  | 1, hv => exact hv
  | 2, hv => exact hv
theorem Lx.unbox {w0 w1 w : World} {k : SkRef} {c : CRef} {S : Mem} {A : Nat → Prop} {a b : Nat} (h : Lx w k c S (boxA A a b)) (hf : Fresh A w0) {B : Nat → Prop} (ho : Only A w0 w1) (ho2 : Only B w1 w) (hl : ¬ A k.lp) (ha : ¬ A k.aq) : Lx w k c S A :=
  ⟨h.sk, h.mem.mono fun j _ hj => hj.1, (hf.only ho).only ho2, hl, ha, h.f0, h.p0, h.f1, h.p1, h.u0, h.u1, h.short⟩

set_option maxRecDepth 100000 in
set_option maxHeartbeats 2000000 in
theorem ikey_any {w : World} {k : SkRef} {c : CRef} {S : Mem} {A : Nat → Prop} {ip : Nat} {x : Ins} (h : InsAt w k ip x) (L0 : Lx w k c S A) (hi : ¬ A ip) (hn : S.trace.length < trMax) (t0 : 0 ≤ x.task) (t1 : x.task < 64)
    (m0 : 1 ≤ x.node) (m1 : x.node ≤ k.units / 6) (hwf : x.e.k.Wf) (hrt : x.e.k.right = true) (p : Int) (hp : placeI k x.node = p) :
    Calls Try.prog 81 #[.pointer (some ⟨ip, 0, none⟩)] w (StepP w k c A ip { x with op := 4 } ((S.note ⟨x.task, 7, p⟩).lay p (encK x.e.k)) 0) := by
  have c22 := Blk.cell h 22 (v := stepV ip x.op) rfl
  have fz := Blk.frozen h
  obtain ⟨w1, hw1⟩ : ∃ w1, w.setCell ⟨ip, 22, none⟩ (.func (.func 87) #[.pointer (some ⟨ip, 0, none⟩)] #[]) = w1 := ⟨_, rfl⟩
  have k0 : InsAt w1 k ip { x with op := 4 } := by rw [← hw1]; exact InsAt.setop h 4
  have L00 : Lx w1 k c S A := by rw [← hw1]; exact L0.poke h hi 22 _
  have o0 : Only (fun j => A j ∨ j = ip) w w1 := by rw [← hw1]; exact poke_only w ip 22 _ A
  have kc : InsAt w1.drew k ip { x with op := 4 } := Blk.keep k0 rfl
  have L1 : Lx w1.drew k c S A := L00.quiet ⟨⟨1, rfl⟩⟩
  have hSK := L1.sk
  have p0 := L0.p0
  have p1 := L0.p1
  have u0 := L0.u0
  have u1 := L0.u1
  have sm := L0.mem.small
  have g1 : k.plain ≤ 100000 := by omega
  have n0 : 0 ≤ x.node := by omega
  have n2 : x.node ≤ 200000000 := by omega
  have hok : okAt S.plains.length x.task p = true := decide_eq_true (by rw [← hp, placeI]; omega)
  have hlen : (encK x.e.k).length ≤ 100 := by
    obtain ⟨h1, h2, h3, h4⟩ := of_decide_eq_true hrt
    have s0 := hwf.s0
    have q0 := hwf.k0
    have := vput_len 9 (x.e.k.seq * 2 + x.e.k.kind).toNat (by omega)
    have hks : x.e.k.key.toList.length = x.e.k.key.size := by rw [ByteArray.toList_eq]; rfl
    simp only [encK, List.length_append, List.length_cons, hks]
    omega
  have hpu := ikPut_any w1.drew x.e.k hwf hrt
  obtain ⟨L, hL⟩ : ∃ L, encK x.e.k = L := ⟨_, rfl⟩
  obtain ⟨n, hln⟩ : ∃ n, L.length = n := ⟨_, rfl⟩
  rw [hL] at hpu hlen
  rw [hln] at hpu hlen
  rw [hL]
  have hlk : S.Like ((S.note ⟨x.task, 7, p⟩).lay p L) := (Mem.Like.note S _).trans (Mem.Like.lay _ _ (by omega))
  have HPU := Lib.hid hpu
  have HLN := Lib.hid hln
  have HPI := Lib.hid hp
  have HOK := Lib.hid hok
  have HLK := Lib.hid hlk
  have HO := Lib.hid o0
  clear hpu hln hL hok hlk hp o0 h L0 L00 k0 hwf hrt
  go_enter Try.func81, Try.ntmps81
  go_wp2
  refine wp_region_held_drew (S := (fun y => InsAt y k ip { x with op := 4 } ∧ SkAt y k c)) (by kernel_rfl) ⟨kc, hSK⟩ (fun hHeld => ?_)
  refine wpAnyH_take (i := 0) (v := ?_) rfl (by kernel_rfl) (by kernel_rfl) (by kernel_rfl) (fun _ _ _ h => h) (Or.inl ⟨by kernel_rfl, ?_⟩) (by assumption) ?_
  rotate_left
  · (intro w hSw; (try dsimp only at hSw); go_simp; try with_reducible rfl)
  try simp only [Act.put, List.getElem_toArray, List.getElem_cons_zero, List.getElem_cons_succ, List.setIfInBounds_toArray, List.set_cons_zero, List.set_cons_succ]
  refine wpAnyH_take (i := 1) (v := ?_) rfl (by kernel_rfl) (by kernel_rfl) (by kernel_rfl) (fun _ _ _ h => h) (Or.inl ⟨by kernel_rfl, ?_⟩) (by assumption) ?_
  rotate_left
  · (intro w hSw; (try dsimp only at hSw); go_simp; try with_reducible rfl)
  try simp only [Act.put, List.getElem_toArray, List.getElem_cons_zero, List.getElem_cons_succ, List.setIfInBounds_toArray, List.set_cons_zero, List.set_cons_succ]
  refine wpAnyH_take (i := 2) (v := ?_) rfl (by kernel_rfl) (by kernel_rfl) (by kernel_rfl) (fun _ _ _ h => h) (Or.inl ⟨by kernel_rfl, ?_⟩) (by assumption) ?_
  rotate_left
  · (intro w hSw; (try dsimp only at hSw); go_simp; try with_reducible rfl)
  try simp only [Act.put, List.getElem_toArray, List.getElem_cons_zero, List.getElem_cons_succ, List.setIfInBounds_toArray, List.set_cons_zero, List.set_cons_succ]
  refine wpAnyH_take (i := 3) (v := .pointer (some ⟨k.lp, 0, none⟩)) rfl (by kernel_rfl) (by kernel_rfl) (by kernel_rfl) (fun _ _ _ h => h) (Or.inl ⟨by kernel_rfl, ?_⟩) (by assumption) ?_
  · (intro y hSw; have hc := Blk.cell hSw.1 0 (v := .pointer (some ⟨k.lp, 0, none⟩)) rfl; go_simp; try with_reducible rfl)
  try simp only [Act.put, List.getElem_toArray, List.getElem_cons_zero, List.getElem_cons_succ, List.setIfInBounds_toArray, List.set_cons_zero, List.set_cons_succ]
  refine wpAnyH_take (i := 4) (v := ?_) rfl (by kernel_rfl) (by kernel_rfl) (by kernel_rfl) (fun _ _ _ h => h) (Or.inl ⟨by kernel_rfl, ?_⟩) (by assumption) ?_
  rotate_left
  · (intro w hSw; (try dsimp only at hSw); go_simp; try with_reducible rfl)
  try simp only [Act.put, List.getElem_toArray, List.getElem_cons_zero, List.getElem_cons_succ, List.setIfInBounds_toArray, List.set_cons_zero, List.set_cons_succ]
  refine wpAnyH_take (i := 5) (v := ?_) rfl (by kernel_rfl) (by kernel_rfl) (by kernel_rfl) (fun _ _ _ h => h) (Or.inl ⟨by kernel_rfl, ?_⟩) (by assumption) ?_
  rotate_left
  · (intro w hSw; (try dsimp only at hSw); go_simp; try with_reducible rfl)
  try simp only [Act.put, List.getElem_toArray, List.getElem_cons_zero, List.getElem_cons_succ, List.setIfInBounds_toArray, List.set_cons_zero, List.set_cons_succ]
  refine wpAnyH_take (i := 6) (v := .pointer (some ⟨c.p, 0, none⟩)) rfl (by kernel_rfl) (by kernel_rfl) (by kernel_rfl) (fun _ _ _ h => h) (Or.inl ⟨by kernel_rfl, ?_⟩) (by assumption) ?_
  · (intro y hSw; have hc := hSw.2.list.cell 0 (v := .pointer (some ⟨c.p, 0, none⟩)) rfl; go_simp; try with_reducible rfl)
  try simp only [Act.put, List.getElem_toArray, List.getElem_cons_zero, List.getElem_cons_succ, List.setIfInBounds_toArray, List.set_cons_zero, List.set_cons_succ]
  refine wpAnyH_take (i := 7) (v := ?_) rfl (by kernel_rfl) (by kernel_rfl) (by kernel_rfl) (fun _ _ _ h => h) (Or.inl ⟨by kernel_rfl, ?_⟩) (by assumption) ?_
  rotate_left
  · (intro w hSw; (try dsimp only at hSw); go_simp; try with_reducible rfl)
  try simp only [Act.put, List.getElem_toArray, List.getElem_cons_zero, List.getElem_cons_succ, List.setIfInBounds_toArray, List.set_cons_zero, List.set_cons_succ]
  refine wpAnyH_take (i := 8) (v := ?_) rfl (by kernel_rfl) (by kernel_rfl) (by kernel_rfl) (fun _ _ _ h => h) (Or.inl ⟨by kernel_rfl, ?_⟩) (by assumption) ?_
  rotate_left
  · (intro w hSw; (try dsimp only at hSw); go_simp; try with_reducible rfl)
  try simp only [Act.put, List.getElem_toArray, List.getElem_cons_zero, List.getElem_cons_succ, List.setIfInBounds_toArray, List.set_cons_zero, List.set_cons_succ]
  refine wpAnyH_take (i := 9) (v := ?_) rfl (by kernel_rfl) (by kernel_rfl) (by kernel_rfl) (fun _ _ _ h => h) (Or.inl ⟨by kernel_rfl, ?_⟩) (by assumption) ?_
  rotate_left
  · (intro w hSw; (try dsimp only at hSw); go_simp; try with_reducible rfl)
  try simp only [Act.put, List.getElem_toArray, List.getElem_cons_zero, List.getElem_cons_succ, List.setIfInBounds_toArray, List.set_cons_zero, List.set_cons_succ]
  refine wpAnyH_take (i := 10) (v := .int .i64 x.task) rfl (by kernel_rfl) (by kernel_rfl) (by kernel_rfl) (fun _ _ _ h => h) (Or.inl ⟨by kernel_rfl, ?_⟩) (by assumption) ?_
  · (intro y hSw; have hc := Blk.cell hSw.1 1 (v := .int .i64 x.task) rfl; go_simp; try with_reducible rfl)
  try simp only [Act.put, List.getElem_toArray, List.getElem_cons_zero, List.getElem_cons_succ, List.setIfInBounds_toArray, List.set_cons_zero, List.set_cons_succ]
  refine wpAnyH_take (i := 11) (v := ?_) rfl (by kernel_rfl) (by kernel_rfl) (by kernel_rfl) (fun _ _ _ h => h) (Or.inl ⟨by kernel_rfl, ?_⟩) (by assumption) ?_
  rotate_left
  · (intro w hSw; (try dsimp only at hSw); go_simp; try with_reducible rfl)
  try simp only [Act.put, List.getElem_toArray, List.getElem_cons_zero, List.getElem_cons_succ, List.setIfInBounds_toArray, List.set_cons_zero, List.set_cons_succ]
  refine wpAnyH_take (i := 12) (v := ?_) rfl (by kernel_rfl) (by kernel_rfl) (by kernel_rfl) (fun _ _ _ h => h) (Or.inl ⟨by kernel_rfl, ?_⟩) (by assumption) ?_
  rotate_left
  · (intro w hSw; (try dsimp only at hSw); go_simp; try with_reducible rfl)
  try simp only [Act.put, List.getElem_toArray, List.getElem_cons_zero, List.getElem_cons_succ, List.setIfInBounds_toArray, List.set_cons_zero, List.set_cons_succ]
  refine wpAnyH_take (i := 13) (v := ?_) rfl (by kernel_rfl) (by kernel_rfl) (by kernel_rfl) (fun _ _ _ h => h) (Or.inl ⟨by kernel_rfl, ?_⟩) (by assumption) ?_
  rotate_left
  · (intro w hSw; (try dsimp only at hSw); go_simp; try with_reducible rfl)
  try simp only [Act.put, List.getElem_toArray, List.getElem_cons_zero, List.getElem_cons_succ, List.setIfInBounds_toArray, List.set_cons_zero, List.set_cons_succ]
  refine wpAnyH_take (i := 14) (v := .pointer (some ⟨k.lp, 0, none⟩)) rfl (by kernel_rfl) (by kernel_rfl) (by kernel_rfl) (fun _ _ _ h => h) (Or.inl ⟨by kernel_rfl, ?_⟩) (by assumption) ?_
  · (intro y hSw; have hc := Blk.cell hSw.1 0 (v := .pointer (some ⟨k.lp, 0, none⟩)) rfl; go_simp; try with_reducible rfl)
  try simp only [Act.put, List.getElem_toArray, List.getElem_cons_zero, List.getElem_cons_succ, List.setIfInBounds_toArray, List.set_cons_zero, List.set_cons_succ]
  refine wpAnyH_take (i := 15) (v := ?_) rfl (by kernel_rfl) (by kernel_rfl) (by kernel_rfl) (fun _ _ _ h => h) (Or.inl ⟨by kernel_rfl, ?_⟩) (by assumption) ?_
  rotate_left
  · (intro w hSw; (try dsimp only at hSw); go_simp; try with_reducible rfl)
  try simp only [Act.put, List.getElem_toArray, List.getElem_cons_zero, List.getElem_cons_succ, List.setIfInBounds_toArray, List.set_cons_zero, List.set_cons_succ]
  refine wpAnyH_take (i := 16) (v := ?_) rfl (by kernel_rfl) (by kernel_rfl) (by kernel_rfl) (fun _ _ _ h => h) (Or.inl ⟨by kernel_rfl, ?_⟩) (by assumption) ?_
  rotate_left
  · (intro w hSw; (try dsimp only at hSw); go_simp; try with_reducible rfl)
  try simp only [Act.put, List.getElem_toArray, List.getElem_cons_zero, List.getElem_cons_succ, List.setIfInBounds_toArray, List.set_cons_zero, List.set_cons_succ]
  refine wpAnyH_take (i := 17) (v := ?_) rfl (by kernel_rfl) (by kernel_rfl) (by kernel_rfl) (fun _ _ _ h => h) (Or.inl ⟨by kernel_rfl, ?_⟩) (by assumption) ?_
  rotate_left
  · (intro w hSw; (try dsimp only at hSw); go_simp; try with_reducible rfl)
  try simp only [Act.put, List.getElem_toArray, List.getElem_cons_zero, List.getElem_cons_succ, List.setIfInBounds_toArray, List.set_cons_zero, List.set_cons_succ]
  refine wpAnyH_take (i := 18) (v := .int .i64 x.node) rfl (by kernel_rfl) (by kernel_rfl) (by kernel_rfl) (fun _ _ _ h => h) (Or.inl ⟨by kernel_rfl, ?_⟩) (by assumption) ?_
  · (intro y hSw; have hc := Blk.cell hSw.1 7 (v := .int .i64 x.node) rfl; go_simp; try with_reducible rfl)
  try simp only [Act.put, List.getElem_toArray, List.getElem_cons_zero, List.getElem_cons_succ, List.setIfInBounds_toArray, List.set_cons_zero, List.set_cons_succ]
  refine wpAnyH_take (i := 20) (v := ?_) rfl (by kernel_rfl) (by kernel_rfl) (by kernel_rfl) (fun _ _ _ h => h) (Or.inl ⟨by kernel_rfl, ?_⟩) (by assumption) ?_
  rotate_left
  · (intro w hSw; (try dsimp only at hSw); go_simp; try with_reducible rfl)
  try simp only [Act.put, List.getElem_toArray, List.getElem_cons_zero, List.getElem_cons_succ, List.setIfInBounds_toArray, List.set_cons_zero, List.set_cons_succ]
  refine wpAnyH_take (i := 21) (v := ?_) rfl (by kernel_rfl) (by kernel_rfl) (by kernel_rfl) (fun _ _ _ h => h) (Or.inl ⟨by kernel_rfl, ?_⟩) (by assumption) ?_
  rotate_left
  · (intro w hSw; (try dsimp only at hSw); go_simp; try with_reducible rfl)
  try simp only [Act.put, List.getElem_toArray, List.getElem_cons_zero, List.getElem_cons_succ, List.setIfInBounds_toArray, List.set_cons_zero, List.set_cons_succ]
  refine wpAnyH_take (i := 22) (v := ?_) rfl (by kernel_rfl) (by kernel_rfl) (by kernel_rfl) (fun _ _ _ h => h) (Or.inl ⟨by kernel_rfl, ?_⟩) (by assumption) ?_
  rotate_left
  · (intro w hSw; (try dsimp only at hSw); go_simp; try with_reducible rfl)
  try simp only [Act.put, List.getElem_toArray, List.getElem_cons_zero, List.getElem_cons_succ, List.setIfInBounds_toArray, List.set_cons_zero, List.set_cons_succ]
  refine wpAnyH_take (i := 23) (v := ?_) rfl (by kernel_rfl) (by kernel_rfl) (by kernel_rfl) (fun _ _ _ h => h) (Or.inl ⟨by kernel_rfl, ?_⟩) (by assumption) ?_
  rotate_left
  · (intro w hSw; (try dsimp only at hSw); go_simp; try with_reducible rfl)
  try simp only [Act.put, List.getElem_toArray, List.getElem_cons_zero, List.getElem_cons_succ, List.setIfInBounds_toArray, List.set_cons_zero, List.set_cons_succ]
  refine wpAnyH_take (i := 24) (v := .agg (ikC x.e.k).toArray) rfl (by kernel_rfl) (by kernel_rfl) (by kernel_rfl) (fun _ _ _ h => h) (yieldsIf_load_mid (by kernel_rfl) 36 (.tmp 31) (by rfl) ip 2 (by rfl) (ikC x.e.k) _ (fun y hSw => Blk.range hSw.1 2 (ikC x.e.k) (ikC_in k ip { x with op := 4 })) Try.underlying36 rfl infoIk)  (by assumption) ?_
  try simp only [Act.put, List.getElem_toArray, List.getElem_cons_zero, List.getElem_cons_succ, List.setIfInBounds_toArray, List.set_cons_zero, List.set_cons_succ]
  refine wpAnyH_ready (rs := [19]) (by kernel_rfl) (by simp) ?_
  refine AllReadyH.cons rfl (fun KK hKK => ?_) AllReadyH.nil
  go_simp
  refine (lplace_any hSK _ p0 g1 n0 n2).mono ?_
  rintro e y1 ⟨rfl, rfl⟩
  refine hKK.out _ _ ⟨kc, hSK⟩ (fun hHeld1 => ?_)
  clear hKK KK hHeld
  try simp only [Act.put, List.getElem_toArray, List.getElem_cons_zero, List.getElem_cons_succ, List.setIfInBounds_toArray, List.set_cons_zero, List.set_cons_succ]
  rw [HPI.out]
  refine wpAnyH_ready (rs := [25]) (by kernel_rfl) (by simp) ?_
  refine AllReadyH.cons rfl (fun KK hKK => ?_) AllReadyH.nil
  go_simp
  refine HPU.out.mono ?_
  rintro e w2 ⟨v, rfl, hr, hb⟩
  have kc : InsAt w2 k ip { x with op := 4 } := Blk.keep kc (hb.block _ (Blk.lt kc))
  have Lb := L1.box hb
  have hSK := Lb.sk
  refine hKK.out _ _ ⟨kc, hSK⟩ (fun hHeld2 => ?_)
  clear hKK KK hHeld1
  try simp only [Act.put, List.getElem_toArray, List.getElem_cons_zero, List.getElem_cons_succ, List.setIfInBounds_toArray, List.set_cons_zero, List.set_cons_succ]
  refine wpAnyH_ready (rs := [26]) (by kernel_rfl) (by simp) ?_
  refine AllReadyH.cons rfl (fun KK hKK => ?_) AllReadyH.nil
  go_simp
  refine (write_to Lb.mem Lb.fresh hn x.task p HOK.out v L n HLN.out hr.reads (fun j hj hA => by rcases hA.2 with h1 | h1; exact absurd (hr.home j hj) (Nat.not_le.mpr h1); exact absurd (hr.lt hj) (Nat.not_lt.mpr h1)) (by omega) _ rfl).mono ?_
  rintro e w3 ⟨rfl, hC3, hO3⟩
  have kc : InsAt w3 k ip { x with op := 4 } := Blk.keep kc (hO3.block _ (Blk.lt kc) (fun hA => hi hA.1))
  have L3 := Lb.next hC3 hO3 HLK.out
  have hSK := L3.sk
  refine hKK.out _ _ ⟨kc, hSK⟩ (fun hHeld3 => ?_)
  clear hKK KK hHeld2
  try simp only [Act.put, List.getElem_toArray, List.getElem_cons_zero, List.getElem_cons_succ, List.setIfInBounds_toArray, List.set_cons_zero, List.set_cons_succ]
  refine wpAnyH_take (i := 27) (v := ?_) rfl (by kernel_rfl) (by kernel_rfl) (by kernel_rfl) (fun _ _ _ h => h) (Or.inl ⟨by kernel_rfl, ?_⟩) (by assumption) ?_
  rotate_left
  · (intro w hSw; (try dsimp only at hSw); go_simp; try with_reducible rfl)
  try simp only [Act.put, List.getElem_toArray, List.getElem_cons_zero, List.getElem_cons_succ, List.setIfInBounds_toArray, List.set_cons_zero, List.set_cons_succ]
  refine wpAnyH_done (by kernel_rfl) ?_ _
  go_wp2_with fail
  go_ret
  exact ⟨rfl, kc, L3.unbox L1.fresh (Only.of_below hb) hO3 L1.hl L1.ha, HO.out.trans ((Only.refl _ _).drew.trans ((Only.of_below hb).trans (hO3.mono fun j _ hj => .inl hj.1)))⟩

/-- A text turned to bytes. -/
theorem conv_bytes (w : World) (s : ByteArray) : ∃ cap W, (convert 9 51 (.string s)).run Try.prog w = .ok (.slice (some ⟨w.heap.size, 0, none⟩) s.size cap) W ∧ w.heap.size < W.heap.size ∧ Below w.heap.size w W ∧ Reads W 1 (.slice (some ⟨w.heap.size, 0, none⟩) s.size cap) s.size (u8s s.data.toList) := by
  refine ⟨_, _, Lib.run_convert_string_bytes w 9 51 5 s Try.underlying9 Try.underlying51 Try.underlying5, ?_, ?_, ?_⟩
  · rw [Lib.bytesWorld_size]; omega
  · exact ⟨rfl, rfl, rfl, by rw [Lib.bytesWorld_size]; omega, fun k hk => Lib.bytesWorld_at_old w _ s k hk⟩
  · refine ⟨by rw [u8s_length, Nat.mul_one]; rfl, .inr ⟨w.heap.size, 0, _, rfl, grownCap_ge _ _ _ _, fun j u hu => ?_⟩⟩
    have hj : j < s.size := by
      have h1 : j < (u8s s.data.toList).length := by
        rcases Nat.lt_or_ge j (u8s s.data.toList).length with h | h
        · exact h
        · rw [List.getElem?_eq_none h] at hu; cases hu
      rw [u8s_length] at h1; exact h1
    have := Lib.bytesWorld_cell w 5 s j hj
    rw [Nat.zero_add, this, ← hu, u8s, List.getElem?_map]
    have hj2 : j < s.data.toList.length := hj
    simp [List.getD, List.getElem?_eq_getElem hj2]
set_option maxRecDepth 100000 in
set_option maxHeartbeats 2000000 in
theorem ival_any {w : World} {k : SkRef} {c : CRef} {S : Mem} {A : Nat → Prop} {ip : Nat} {x : Ins} (h : InsAt w k ip x) (L0 : Lx w k c S A) (hi : ¬ A ip) (hn : S.trace.length < trMax) (t0 : 0 ≤ x.task) (t1 : x.task < 64)
    (m0 : 1 ≤ x.node) (m1 : x.node ≤ k.units / 6) (hv : x.e.val.size ≤ 256) (p : Int) (hp : placeI k x.node + 1 = p) :
    Calls Try.prog 87 #[.pointer (some ⟨ip, 0, none⟩)] w (StepP w k c A ip { x with level := 5, op := 5 } ((S.note ⟨x.task, 7, p⟩).lay p x.e.val.data.toList) 0) := by
  have c8 := Blk.cell h 8 (v := .int .i64 (x.level : Int)) rfl
  have c22 := Blk.cell h 22 (v := stepV ip x.op) rfl
  have fz := Blk.frozen h
  obtain ⟨wa, hwa⟩ : ∃ wa, w.setCell ⟨ip, 8, none⟩ (.int .i64 5) = wa := ⟨_, rfl⟩
  have ka : InsAt wa k ip { x with level := 5 } := by unfold InsAt; rw [← hwa, ← ins_set_level k ip x 5]; exact Blk.set h 8 _
  have La := L0.poke h hi 8 (.int .i64 5)
  rw [hwa] at La
  have oa : Only (fun j => A j ∨ j = ip) w wa := by rw [← hwa]; exact poke_only w ip 8 _ A
  have c22a := Blk.cell ka 22 (v := stepV ip x.op) rfl
  have fza := Blk.frozen ka
  obtain ⟨w1, hw1⟩ : ∃ w1, wa.setCell ⟨ip, 22, none⟩ (.func (.func 90) #[.pointer (some ⟨ip, 0, none⟩)] #[]) = w1 := ⟨_, rfl⟩
  have k0 : InsAt w1 k ip { x with level := 5, op := 5 } := by rw [← hw1]; exact InsAt.setop ka 5
  have L00 : Lx w1 k c S A := by rw [← hw1]; exact La.poke ka hi 22 _
  have o0 : Only (fun j => A j ∨ j = ip) w w1 := by rw [← hw1]; exact oa.trans (poke_only wa ip 22 _ A)
  have kc : InsAt w1.drew k ip { x with level := 5, op := 5 } := Blk.keep k0 rfl
  have L1 : Lx w1.drew k c S A := L00.quiet ⟨⟨1, rfl⟩⟩
  have hSK := L1.sk
  have p0 := L0.p0
  have p1 := L0.p1
  have u0 := L0.u0
  have u1 := L0.u1
  have sm := L0.mem.small
  have g1 : k.plain ≤ 100000 := by omega
  have n0 : 0 ≤ x.node := by omega
  have n2 : x.node ≤ 200000000 := by omega
  obtain ⟨q, hq⟩ : ∃ q, placeI k x.node = q := ⟨_, rfl⟩
  have hq1 : 0 ≤ q ∧ q + 2 ≤ S.plains.length := by rw [← hq, placeI]; omega
  rw [hq] at hp
  have hok : okAt S.plains.length x.task p = true := decide_eq_true (by omega)
  obtain ⟨cap, W, hcv, hWs, hb, hrd⟩ := conv_bytes w1.drew x.e.val
  obtain ⟨n, hln⟩ : ∃ n, x.e.val.size = n := ⟨_, rfl⟩
  obtain ⟨L, hL⟩ : ∃ L, x.e.val.data.toList = L := ⟨_, rfl⟩
  have hln2 : L.length = n := by rw [← hL, ← hln]; rfl
  rw [hL, hln] at hrd
  rw [hln] at hcv hv
  rw [hL]
  have hlk : S.Like ((S.note ⟨x.task, 7, p⟩).lay p L) := (Mem.Like.note S _).trans (Mem.Like.lay _ _ (by omega))
  have hpe : q + 1 = p := hp
  have HRD := Lib.hid hrd
  have HLN := Lib.hid hln2
  have HPI := Lib.hid hq
  have HOK := Lib.hid hok
  have HLK := Lib.hid hlk
  have HO := Lib.hid o0
  clear hln hln2 hL hok hlk hq hp o0 oa h L0 L00 La ka k0 hrd
  go_enter Try.func87, Try.ntmps87
  go_wp2
  refine wp_region_held_drew (S := (fun y => InsAt y k ip { x with level := 5, op := 5 } ∧ SkAt y k c)) (by kernel_rfl) ⟨kc, hSK⟩ (fun hHeld => ?_)
  refine wpAnyH_take (i := 0) (v := ?_) rfl (by kernel_rfl) (by kernel_rfl) (by kernel_rfl) (fun _ _ _ h => h) (Or.inl ⟨by kernel_rfl, ?_⟩) (by assumption) ?_
  rotate_left
  · (intro w hSw; (try dsimp only at hSw); go_simp; try with_reducible rfl)
  try simp only [Act.put, List.getElem_toArray, List.getElem_cons_zero, List.getElem_cons_succ, List.setIfInBounds_toArray, List.set_cons_zero, List.set_cons_succ]
  refine wpAnyH_take (i := 1) (v := ?_) rfl (by kernel_rfl) (by kernel_rfl) (by kernel_rfl) (fun _ _ _ h => h) (Or.inl ⟨by kernel_rfl, ?_⟩) (by assumption) ?_
  rotate_left
  · (intro w hSw; (try dsimp only at hSw); go_simp; try with_reducible rfl)
  try simp only [Act.put, List.getElem_toArray, List.getElem_cons_zero, List.getElem_cons_succ, List.setIfInBounds_toArray, List.set_cons_zero, List.set_cons_succ]
  refine wpAnyH_take (i := 2) (v := ?_) rfl (by kernel_rfl) (by kernel_rfl) (by kernel_rfl) (fun _ _ _ h => h) (Or.inl ⟨by kernel_rfl, ?_⟩) (by assumption) ?_
  rotate_left
  · (intro w hSw; (try dsimp only at hSw); go_simp; try with_reducible rfl)
  try simp only [Act.put, List.getElem_toArray, List.getElem_cons_zero, List.getElem_cons_succ, List.setIfInBounds_toArray, List.set_cons_zero, List.set_cons_succ]
  refine wpAnyH_take (i := 3) (v := .pointer (some ⟨k.lp, 0, none⟩)) rfl (by kernel_rfl) (by kernel_rfl) (by kernel_rfl) (fun _ _ _ h => h) (Or.inl ⟨by kernel_rfl, ?_⟩) (by assumption) ?_
  · (intro y hSw; have hc := Blk.cell hSw.1 0 (v := .pointer (some ⟨k.lp, 0, none⟩)) rfl; go_simp; try with_reducible rfl)
  try simp only [Act.put, List.getElem_toArray, List.getElem_cons_zero, List.getElem_cons_succ, List.setIfInBounds_toArray, List.set_cons_zero, List.set_cons_succ]
  refine wpAnyH_take (i := 4) (v := ?_) rfl (by kernel_rfl) (by kernel_rfl) (by kernel_rfl) (fun _ _ _ h => h) (Or.inl ⟨by kernel_rfl, ?_⟩) (by assumption) ?_
  rotate_left
  · (intro w hSw; (try dsimp only at hSw); go_simp; try with_reducible rfl)
  try simp only [Act.put, List.getElem_toArray, List.getElem_cons_zero, List.getElem_cons_succ, List.setIfInBounds_toArray, List.set_cons_zero, List.set_cons_succ]
  refine wpAnyH_take (i := 5) (v := ?_) rfl (by kernel_rfl) (by kernel_rfl) (by kernel_rfl) (fun _ _ _ h => h) (Or.inl ⟨by kernel_rfl, ?_⟩) (by assumption) ?_
  rotate_left
  · (intro w hSw; (try dsimp only at hSw); go_simp; try with_reducible rfl)
  try simp only [Act.put, List.getElem_toArray, List.getElem_cons_zero, List.getElem_cons_succ, List.setIfInBounds_toArray, List.set_cons_zero, List.set_cons_succ]
  refine wpAnyH_take (i := 6) (v := .pointer (some ⟨c.p, 0, none⟩)) rfl (by kernel_rfl) (by kernel_rfl) (by kernel_rfl) (fun _ _ _ h => h) (Or.inl ⟨by kernel_rfl, ?_⟩) (by assumption) ?_
  · (intro y hSw; have hc := hSw.2.list.cell 0 (v := .pointer (some ⟨c.p, 0, none⟩)) rfl; go_simp; try with_reducible rfl)
  try simp only [Act.put, List.getElem_toArray, List.getElem_cons_zero, List.getElem_cons_succ, List.setIfInBounds_toArray, List.set_cons_zero, List.set_cons_succ]
  refine wpAnyH_take (i := 7) (v := ?_) rfl (by kernel_rfl) (by kernel_rfl) (by kernel_rfl) (fun _ _ _ h => h) (Or.inl ⟨by kernel_rfl, ?_⟩) (by assumption) ?_
  rotate_left
  · (intro w hSw; (try dsimp only at hSw); go_simp; try with_reducible rfl)
  try simp only [Act.put, List.getElem_toArray, List.getElem_cons_zero, List.getElem_cons_succ, List.setIfInBounds_toArray, List.set_cons_zero, List.set_cons_succ]
  refine wpAnyH_take (i := 8) (v := ?_) rfl (by kernel_rfl) (by kernel_rfl) (by kernel_rfl) (fun _ _ _ h => h) (Or.inl ⟨by kernel_rfl, ?_⟩) (by assumption) ?_
  rotate_left
  · (intro w hSw; (try dsimp only at hSw); go_simp; try with_reducible rfl)
  try simp only [Act.put, List.getElem_toArray, List.getElem_cons_zero, List.getElem_cons_succ, List.setIfInBounds_toArray, List.set_cons_zero, List.set_cons_succ]
  refine wpAnyH_take (i := 9) (v := ?_) rfl (by kernel_rfl) (by kernel_rfl) (by kernel_rfl) (fun _ _ _ h => h) (Or.inl ⟨by kernel_rfl, ?_⟩) (by assumption) ?_
  rotate_left
  · (intro w hSw; (try dsimp only at hSw); go_simp; try with_reducible rfl)
  try simp only [Act.put, List.getElem_toArray, List.getElem_cons_zero, List.getElem_cons_succ, List.setIfInBounds_toArray, List.set_cons_zero, List.set_cons_succ]
  refine wpAnyH_take (i := 10) (v := .int .i64 x.task) rfl (by kernel_rfl) (by kernel_rfl) (by kernel_rfl) (fun _ _ _ h => h) (Or.inl ⟨by kernel_rfl, ?_⟩) (by assumption) ?_
  · (intro y hSw; have hc := Blk.cell hSw.1 1 (v := .int .i64 x.task) rfl; go_simp; try with_reducible rfl)
  try simp only [Act.put, List.getElem_toArray, List.getElem_cons_zero, List.getElem_cons_succ, List.setIfInBounds_toArray, List.set_cons_zero, List.set_cons_succ]
  refine wpAnyH_take (i := 11) (v := ?_) rfl (by kernel_rfl) (by kernel_rfl) (by kernel_rfl) (fun _ _ _ h => h) (Or.inl ⟨by kernel_rfl, ?_⟩) (by assumption) ?_
  rotate_left
  · (intro w hSw; (try dsimp only at hSw); go_simp; try with_reducible rfl)
  try simp only [Act.put, List.getElem_toArray, List.getElem_cons_zero, List.getElem_cons_succ, List.setIfInBounds_toArray, List.set_cons_zero, List.set_cons_succ]
  refine wpAnyH_take (i := 12) (v := ?_) rfl (by kernel_rfl) (by kernel_rfl) (by kernel_rfl) (fun _ _ _ h => h) (Or.inl ⟨by kernel_rfl, ?_⟩) (by assumption) ?_
  rotate_left
  · (intro w hSw; (try dsimp only at hSw); go_simp; try with_reducible rfl)
  try simp only [Act.put, List.getElem_toArray, List.getElem_cons_zero, List.getElem_cons_succ, List.setIfInBounds_toArray, List.set_cons_zero, List.set_cons_succ]
  refine wpAnyH_take (i := 13) (v := ?_) rfl (by kernel_rfl) (by kernel_rfl) (by kernel_rfl) (fun _ _ _ h => h) (Or.inl ⟨by kernel_rfl, ?_⟩) (by assumption) ?_
  rotate_left
  · (intro w hSw; (try dsimp only at hSw); go_simp; try with_reducible rfl)
  try simp only [Act.put, List.getElem_toArray, List.getElem_cons_zero, List.getElem_cons_succ, List.setIfInBounds_toArray, List.set_cons_zero, List.set_cons_succ]
  refine wpAnyH_take (i := 14) (v := .pointer (some ⟨k.lp, 0, none⟩)) rfl (by kernel_rfl) (by kernel_rfl) (by kernel_rfl) (fun _ _ _ h => h) (Or.inl ⟨by kernel_rfl, ?_⟩) (by assumption) ?_
  · (intro y hSw; have hc := Blk.cell hSw.1 0 (v := .pointer (some ⟨k.lp, 0, none⟩)) rfl; go_simp; try with_reducible rfl)
  try simp only [Act.put, List.getElem_toArray, List.getElem_cons_zero, List.getElem_cons_succ, List.setIfInBounds_toArray, List.set_cons_zero, List.set_cons_succ]
  refine wpAnyH_take (i := 15) (v := ?_) rfl (by kernel_rfl) (by kernel_rfl) (by kernel_rfl) (fun _ _ _ h => h) (Or.inl ⟨by kernel_rfl, ?_⟩) (by assumption) ?_
  rotate_left
  · (intro w hSw; (try dsimp only at hSw); go_simp; try with_reducible rfl)
  try simp only [Act.put, List.getElem_toArray, List.getElem_cons_zero, List.getElem_cons_succ, List.setIfInBounds_toArray, List.set_cons_zero, List.set_cons_succ]
  refine wpAnyH_take (i := 16) (v := ?_) rfl (by kernel_rfl) (by kernel_rfl) (by kernel_rfl) (fun _ _ _ h => h) (Or.inl ⟨by kernel_rfl, ?_⟩) (by assumption) ?_
  rotate_left
  · (intro w hSw; (try dsimp only at hSw); go_simp; try with_reducible rfl)
  try simp only [Act.put, List.getElem_toArray, List.getElem_cons_zero, List.getElem_cons_succ, List.setIfInBounds_toArray, List.set_cons_zero, List.set_cons_succ]
  refine wpAnyH_take (i := 17) (v := ?_) rfl (by kernel_rfl) (by kernel_rfl) (by kernel_rfl) (fun _ _ _ h => h) (Or.inl ⟨by kernel_rfl, ?_⟩) (by assumption) ?_
  rotate_left
  · (intro w hSw; (try dsimp only at hSw); go_simp; try with_reducible rfl)
  try simp only [Act.put, List.getElem_toArray, List.getElem_cons_zero, List.getElem_cons_succ, List.setIfInBounds_toArray, List.set_cons_zero, List.set_cons_succ]
  refine wpAnyH_take (i := 18) (v := .int .i64 x.node) rfl (by kernel_rfl) (by kernel_rfl) (by kernel_rfl) (fun _ _ _ h => h) (Or.inl ⟨by kernel_rfl, ?_⟩) (by assumption) ?_
  · (intro y hSw; have hc := Blk.cell hSw.1 7 (v := .int .i64 x.node) rfl; go_simp; try with_reducible rfl)
  try simp only [Act.put, List.getElem_toArray, List.getElem_cons_zero, List.getElem_cons_succ, List.setIfInBounds_toArray, List.set_cons_zero, List.set_cons_succ]
  refine wpAnyH_take (i := 21) (v := ?_) rfl (by kernel_rfl) (by kernel_rfl) (by kernel_rfl) (fun _ _ _ h => h) (Or.inl ⟨by kernel_rfl, ?_⟩) (by assumption) ?_
  rotate_left
  · (intro w hSw; (try dsimp only at hSw); go_simp; try with_reducible rfl)
  try simp only [Act.put, List.getElem_toArray, List.getElem_cons_zero, List.getElem_cons_succ, List.setIfInBounds_toArray, List.set_cons_zero, List.set_cons_succ]
  refine wpAnyH_take (i := 22) (v := ?_) rfl (by kernel_rfl) (by kernel_rfl) (by kernel_rfl) (fun _ _ _ h => h) (Or.inl ⟨by kernel_rfl, ?_⟩) (by assumption) ?_
  rotate_left
  · (intro w hSw; (try dsimp only at hSw); go_simp; try with_reducible rfl)
  try simp only [Act.put, List.getElem_toArray, List.getElem_cons_zero, List.getElem_cons_succ, List.setIfInBounds_toArray, List.set_cons_zero, List.set_cons_succ]
  refine wpAnyH_take (i := 23) (v := ?_) rfl (by kernel_rfl) (by kernel_rfl) (by kernel_rfl) (fun _ _ _ h => h) (Or.inl ⟨by kernel_rfl, ?_⟩) (by assumption) ?_
  rotate_left
  · (intro w hSw; (try dsimp only at hSw); go_simp; try with_reducible rfl)
  try simp only [Act.put, List.getElem_toArray, List.getElem_cons_zero, List.getElem_cons_succ, List.setIfInBounds_toArray, List.set_cons_zero, List.set_cons_succ]
  refine wpAnyH_take (i := 24) (v := ?_) rfl (by kernel_rfl) (by kernel_rfl) (by kernel_rfl) (fun _ _ _ h => h) (Or.inl ⟨by kernel_rfl, ?_⟩) (by assumption) ?_
  rotate_left
  · (intro w hSw; (try dsimp only at hSw); go_simp; try with_reducible rfl)
  try simp only [Act.put, List.getElem_toArray, List.getElem_cons_zero, List.getElem_cons_succ, List.setIfInBounds_toArray, List.set_cons_zero, List.set_cons_succ]
  refine wpAnyH_take (i := 25) (v := .string x.e.val) rfl (by kernel_rfl) (by kernel_rfl) (by kernel_rfl) (fun _ _ _ h => h) (Or.inl ⟨by kernel_rfl, ?_⟩) (by assumption) ?_
  · (intro y hSw; have hc := Blk.cell hSw.1 5 (v := .string x.e.val) rfl; go_simp; try with_reducible rfl)
  try simp only [Act.put, List.getElem_toArray, List.getElem_cons_zero, List.getElem_cons_succ, List.setIfInBounds_toArray, List.set_cons_zero, List.set_cons_succ]
  refine wpAnyH_ready (rs := [19, 26]) (by kernel_rfl) (by simp) ?_
  refine AllReadyH.cons rfl (fun KK hKK => ?_) (AllReadyH.cons rfl (fun KK hKK => ?_) AllReadyH.nil)
  · try skip
    go_simp
    refine (lplace_any hSK _ p0 g1 n0 n2).mono ?_
    rintro e y1 ⟨rfl, rfl⟩
    refine hKK.out _ _ ⟨kc, hSK⟩ (fun hHeld1 => ?_)
    clear hKK KK hHeld
    try simp only [Act.put, List.getElem_toArray, List.getElem_cons_zero, List.getElem_cons_succ, List.setIfInBounds_toArray, List.set_cons_zero, List.set_cons_succ]
    rw [HPI.out]
    refine wpAnyH_take (i := 20) (v := .int .i64 p) rfl (by kernel_rfl) (by kernel_rfl) (by kernel_rfl) (fun _ _ _ h => h) (Or.inl ⟨by kernel_rfl, ?_⟩) (by assumption) ?_
    · (intro y hSw; (try dsimp only at hSw); go_simp; rw [IntKind.wrap_i64]; omega)
    try simp only [Act.put, List.getElem_toArray, List.getElem_cons_zero, List.getElem_cons_succ, List.setIfInBounds_toArray, List.set_cons_zero, List.set_cons_succ]
    refine wpAnyH_ready (rs := [26]) (by kernel_rfl) (by simp) ?_
    refine AllReadyH.cons rfl (fun KK hKK => ?_) AllReadyH.nil
    go_simp
    have kc : InsAt W k ip { x with level := 5, op := 5 } := Blk.keep kc (hb.block _ (Blk.lt kc))
    have Lb := L1.box hb
    have hSK := Lb.sk
    refine hKK.out _ _ ⟨kc, hSK⟩ (fun hHeld2 => ?_)
    clear hKK KK hHeld1
    try simp only [Act.put, List.getElem_toArray, List.getElem_cons_zero, List.getElem_cons_succ, List.setIfInBounds_toArray, List.set_cons_zero, List.set_cons_succ]
    refine wpAnyH_ready (rs := [27]) (by kernel_rfl) (by simp) ?_
    refine AllReadyH.cons rfl (fun KK hKK => ?_) AllReadyH.nil
    go_simp
    refine (write_to Lb.mem Lb.fresh hn x.task p HOK.out _ L n HLN.out HRD.out (fun j hj hA => by cases hj; rcases hA.2 with h1 | h1; exact absurd h1 (Nat.lt_irrefl _); exact absurd hWs (Nat.not_lt.mpr h1)) (by omega) _ rfl).mono ?_
    rintro e w3 ⟨rfl, hC3, hO3⟩
    have kc : InsAt w3 k ip { x with level := 5, op := 5 } := Blk.keep kc (hO3.block _ (Blk.lt kc) (fun hA => hi hA.1))
    have L3 := Lb.next hC3 hO3 HLK.out
    have hSK := L3.sk
    refine hKK.out _ _ ⟨kc, hSK⟩ (fun hHeld3 => ?_)
    clear hKK KK hHeld2
    try simp only [Act.put, List.getElem_toArray, List.getElem_cons_zero, List.getElem_cons_succ, List.setIfInBounds_toArray, List.set_cons_zero, List.set_cons_succ]
    refine wpAnyH_take (i := 28) (v := ?_) rfl (by kernel_rfl) (by kernel_rfl) (by kernel_rfl) (fun _ _ _ h => h) (Or.inl ⟨by kernel_rfl, ?_⟩) (by assumption) ?_
    rotate_left
    · (intro w hSw; (try dsimp only at hSw); go_simp; try with_reducible rfl)
    try simp only [Act.put, List.getElem_toArray, List.getElem_cons_zero, List.getElem_cons_succ, List.setIfInBounds_toArray, List.set_cons_zero, List.set_cons_succ]
    refine wpAnyH_done (by kernel_rfl) ?_ _
    go_wp2_with fail
    go_ret
    exact ⟨rfl, kc, L3.unbox L1.fresh (Only.of_below hb) hO3 L1.hl L1.ha, HO.out.trans ((Only.refl _ _).drew.trans ((Only.of_below hb).trans (hO3.mono fun j _ hj => .inl hj.1)))⟩
  · try skip
    go_simp
    have kc : InsAt W k ip { x with level := 5, op := 5 } := Blk.keep kc (hb.block _ (Blk.lt kc))
    have Lb := L1.box hb
    have hSK := Lb.sk
    refine hKK.out _ _ ⟨kc, hSK⟩ (fun hHeld1 => ?_)
    clear hKK KK hHeld
    try simp only [Act.put, List.getElem_toArray, List.getElem_cons_zero, List.getElem_cons_succ, List.setIfInBounds_toArray, List.set_cons_zero, List.set_cons_succ]
    refine wpAnyH_ready (rs := [19]) (by kernel_rfl) (by simp) ?_
    refine AllReadyH.cons rfl (fun KK hKK => ?_) AllReadyH.nil
    go_simp
    refine (lplace_any hSK _ p0 g1 n0 n2).mono ?_
    rintro e y1 ⟨rfl, rfl⟩
    refine hKK.out _ _ ⟨kc, hSK⟩ (fun hHeld2 => ?_)
    clear hKK KK hHeld1
    try simp only [Act.put, List.getElem_toArray, List.getElem_cons_zero, List.getElem_cons_succ, List.setIfInBounds_toArray, List.set_cons_zero, List.set_cons_succ]
    rw [HPI.out]
    refine wpAnyH_take (i := 20) (v := .int .i64 p) rfl (by kernel_rfl) (by kernel_rfl) (by kernel_rfl) (fun _ _ _ h => h) (Or.inl ⟨by kernel_rfl, ?_⟩) (by assumption) ?_
    · (intro y hSw; (try dsimp only at hSw); go_simp; rw [IntKind.wrap_i64]; omega)
    try simp only [Act.put, List.getElem_toArray, List.getElem_cons_zero, List.getElem_cons_succ, List.setIfInBounds_toArray, List.set_cons_zero, List.set_cons_succ]
    refine wpAnyH_ready (rs := [27]) (by kernel_rfl) (by simp) ?_
    refine AllReadyH.cons rfl (fun KK hKK => ?_) AllReadyH.nil
    go_simp
    refine (write_to Lb.mem Lb.fresh hn x.task p HOK.out _ L n HLN.out HRD.out (fun j hj hA => by cases hj; rcases hA.2 with h1 | h1; exact absurd h1 (Nat.lt_irrefl _); exact absurd hWs (Nat.not_lt.mpr h1)) (by omega) _ rfl).mono ?_
    rintro e w3 ⟨rfl, hC3, hO3⟩
    have kc : InsAt w3 k ip { x with level := 5, op := 5 } := Blk.keep kc (hO3.block _ (Blk.lt kc) (fun hA => hi hA.1))
    have L3 := Lb.next hC3 hO3 HLK.out
    have hSK := L3.sk
    refine hKK.out _ _ ⟨kc, hSK⟩ (fun hHeld3 => ?_)
    clear hKK KK hHeld2
    try simp only [Act.put, List.getElem_toArray, List.getElem_cons_zero, List.getElem_cons_succ, List.setIfInBounds_toArray, List.set_cons_zero, List.set_cons_succ]
    refine wpAnyH_take (i := 28) (v := ?_) rfl (by kernel_rfl) (by kernel_rfl) (by kernel_rfl) (fun _ _ _ h => h) (Or.inl ⟨by kernel_rfl, ?_⟩) (by assumption) ?_
    rotate_left
    · (intro w hSw; (try dsimp only at hSw); go_simp; try with_reducible rfl)
    try simp only [Act.put, List.getElem_toArray, List.getElem_cons_zero, List.getElem_cons_succ, List.setIfInBounds_toArray, List.set_cons_zero, List.set_cons_succ]
    refine wpAnyH_done (by kernel_rfl) ?_ _
    go_wp2_with fail
    go_ret
    exact ⟨rfl, kc, L3.unbox L1.fresh (Only.of_below hb) hO3 L1.hl L1.ha, HO.out.trans ((Only.refl _ _).drew.trans ((Only.of_below hb).trans (hO3.mono fun j _ hj => .inl hj.1)))⟩

end Go.Proofs.Ytkpjfdhjkgdcbaa
