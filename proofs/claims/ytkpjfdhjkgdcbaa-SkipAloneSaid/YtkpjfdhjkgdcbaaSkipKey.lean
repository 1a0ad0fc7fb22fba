/- The walks over a skip list's Key, Val, Left. -/
import Derived.Test.YtkpjfdhjkgdcbaaSkip

namespace Go.Proofs.Ytkpjfdhjkgdcbaa
open Go.RowKit

/-- The law's own blocks beside a memory's. -/
def boxA (A : Nat → Prop) (a b : Nat) : Nat → Prop := fun j => A j ∧ (j < a ∨ b ≤ j)
theorem Lx.box {w W : World} {k : SkRef} {c : CRef} {S : Mem} {A : Nat → Prop} (h : Lx w k c S A) (hB : Below w.heap.size w W) : Lx W k c S (boxA A w.heap.size W.heap.size) := by
  have h1 : Lx w k c S (boxA A w.heap.size w.heap.size) := ⟨h.sk, h.mem.mono fun j hj hA => ⟨hA, .inl hj⟩, ⟨fun j hj => ⟨h.fresh.new j hj, .inr hj⟩⟩, fun hA => h.hl hA.1, fun hA => h.ha hA.1, h.f0, h.p0, h.f1, h.p1, h.u0, h.u1, h.short⟩
  have h2 := h1.below hB
  refine ⟨h2.sk, Cells.mono (w := W) ((h.mem.mono fun j hj hA => (⟨hA, .inl hj⟩ : boxA A w.heap.size W.heap.size j)).keep ⟨fun j _ hl => hB.block j hl⟩) fun j _ hA => hA, ⟨fun j hj => ⟨h.fresh.new j (Nat.le_trans hB.size hj), .inr hj⟩⟩, fun hA => h.hl hA.1, fun hA => h.ha hA.1, h.f0, h.p0, h.f1, h.p1, h.u0, h.u1, h.short⟩
theorem Same.setRow {A : Nat → Prop} (w : World) {b : Nat} (hb : ¬ A b) (cs : Array Value) : Same A w (w.setRow b cs) := ⟨fun j hA _ => heap_setRow_other w b cs (fun e => hb (e ▸ hA))⟩

/-- What the list's Key answers. -/
def LKeyP (w : World) (c : CRef) (S : Mem) (A : Nat → Prop) (r : IK) (e : Ending) (w' : World) : Prop :=
  e = .returned (.tuple #[.agg (ikC r).toArray, .int .i64 0]) ∧ Cells w' c S A ∧ Only A w w'
set_option maxRecDepth 100000 in
set_option maxHeartbeats 2000000 in
theorem lkey_enc {w : World} {k : SkRef} {c : CRef} {S : Mem} {A : Nat → Prop} (h : Lx w k c S A) (hn : S.trace.length < trMax) (task node : Int) (t0 : 0 ≤ task) (t1 : task < 64) (n0 : 1 ≤ node) (n1 : node ≤ k.units / 6) (r : IK) (hw : r.Wf) (hr : r.right = true) (hp : S.place (placeI k node) = encK r) :
    Calls Try.prog 15 #[.pointer (some ⟨k.lp, 0, none⟩), .int .i64 task, .int .i64 node] w (LKeyP w c (S.note ⟨task, 6, placeI k node⟩) A r) := by
  obtain ⟨p, hpp⟩ : ∃ p, placeI k node = p := ⟨_, rfl⟩
  obtain ⟨L, hL⟩ : ∃ L, encK r = L := ⟨_, rfl⟩
  have hLp : 0 < L.length := by rw [← hL, encK]; simp
  have hc' : ∀ (g : Nat) (x : World), (∀ j u, (u8s L)[j]? = some u → x.cell? ⟨g, 0 + j, none⟩ = some u) → ∀ j u, (u8s (encK r))[j]? = some u → x.cell? ⟨g, 0 + j, none⟩ = some u := fun g x hx => by rw [hL]; exact hx
  have hl' : (encK r).length = L.length := by rw [hL]
  rw [hpp] at hp
  rw [hL] at hp
  rw [hpp]
  obtain ⟨W0, hW0⟩ : ∃ W, w.alloc (.cells #[.string ⟨#[]⟩, .int .u64 0, .int .u8 0] 36) = W := ⟨_, rfl⟩
  have k0 : Blk W0 w.heap.size 36 (ikC ik0) := by rw [← hW0]; exact Blk.new _ _ (ikC ik0)
  have hB0 : Below w.heap.size w W0 := by rw [← hW0]; exact (Below.refl _ _).alloc (Nat.le_refl _) _
  have hX := h.box hB0
  have hA0 : ¬ boxA A w.heap.size W0.heap.size w.heap.size := fun hA => by have := k0.lt; rcases hA.2 with h1 | h1 <;> omega
  have hAw : A w.heap.size := h.fresh.new _ (Nat.le_refl _)
  have hrd := lread_any hX hn task node 0 t0 t1 n0 n1 (by omega) (by omega) p (by omega)
  have HRD := Lib.hid hrd
  have HP := Lib.hid hp
  have HC' := Lib.hid hc'
  have HL' := Lib.hid hl'
  have HRR := Lib.hid hr
  have HFR := Lib.hid h.fresh
  clear hrd hp hL hc' hl' hr h n0 n1 t0 t1 hpp
  go_enter Try.func15, Try.ntmps15
  go_upto_region 3 with (first | (go_at_call 38; refine HRD.out.mono ?_; rintro e w1 ⟨v1, rfl, hR⟩; have hr1 := hR.row; rw [HP.out] at hr1; obtain ⟨g, c1, rfl, hc1, hg1, hgl, hcs⟩ := hr1.real hLp) | (go_at_call 39; refine (ikTake_any _ _ _ _ _ hc1 r hw HRR.out HL'.out (HC'.out g _ hcs)).mono ?_; rintro e w2 ⟨v2, rfl, hr2, hb2⟩; obtain ⟨ao, c2, rfl⟩ := hr2.slice; obtain ⟨W3, hW3⟩ : ∃ W, w2.alloc (.cells #[.string ⟨#[]⟩, .int .u64 0, .int .u8 0] 36) = W := ⟨_, rfl⟩; have k3 : Blk W3 w2.heap.size 36 (ikC ik0) := by rw [← hW3]; exact Blk.new _ _ (ikC ik0)) | (refine wpList_store_blk rfl 36 _ _ rfl w2.heap.size (ikC r) (by rfl) (by rfl) (ikC ik0) k3 infoIk rfl (ikC_one r) ?_))
  have hB3 : Below w1.heap.size w1 W3 := by rw [← hW3]; exact hb2.alloc hb2.size _
  have k4 := k3.setRow (ikC r)
  have hlt : w.heap.size < w2.heap.size := Nat.lt_of_lt_of_le k0.lt (Nat.le_trans hR.only.size hb2.size)
  have q3 : Blk W3 w.heap.size 36 (ikC ik0) := (k0.keep (hR.only.block _ k0.lt hA0)).keep (hB3.block _ (Nat.lt_of_lt_of_le k0.lt hR.only.size))
  have q4 := q3.setRow_other (Nat.ne_of_lt hlt) (ikC r).toArray
  obtain ⟨W4, hW4⟩ : ∃ W, W3.setRow w2.heap.size (ikC r).toArray = W := ⟨_, rfl⟩
  have hA2 : A w2.heap.size := HFR.out.new _ (Nat.le_of_lt hlt)
  have hC3 : Cells W4 c (S.note ⟨task, 6, p⟩) (fun j => boxA A w.heap.size W0.heap.size j ∧ j < w1.heap.size) := by
    rw [← hW4]
    exact (Cells.mono (Cells.older hR.cells hB3) fun j _ hj => (⟨hj.1.1, hj.2⟩ : boxA A w.heap.size W0.heap.size j ∧ j < w1.heap.size)).keep (Same.setRow _ (fun hj => absurd hj.2 (Nat.not_lt.mpr hb2.size)) _)
  have hO4 : Only A w W4 := by
    rw [← hW4]
    exact (((Only.of_below hB0).trans (hR.only.mono fun j _ hj => hj.1)).trans (Only.of_below hB3)).setRow hA2 _
  rw [hW4] at k4 q4
  simp only [hW4]
  go_wp2_with (first | (refine wpList_load_blk rfl 36 _ rfl w2.heap.size (by rfl) (ikC r) k4 _ Try.underlying36 rfl infoIk ?_) | (refine wpList_store_blk rfl 36 _ _ rfl w.heap.size (ikC r) (by rfl) (by rfl) (ikC ik0) q4 infoIk rfl (ikC_one r) ?_))
  have r5 := q4.setRow (ikC r)
  refine bodyPost_ret (results_cell_tmp (P := Try.prog) Try.results15 rfl (r5.loadRow _ Try.underlying36 rfl infoIk) _ rfl) rfl ⟨rfl, ?_, hO4.setRow hAw _⟩
  exact (hC3.keep (Same.setRow _ (fun hj => hA0 hj.1) _)).mono fun j _ hj => hj.1.1
set_option maxRecDepth 100000 in
set_option maxHeartbeats 2000000 in
theorem lkey_nil {w : World} {k : SkRef} {c : CRef} {S : Mem} {A : Nat → Prop} (h : Lx w k c S A) (hn : S.trace.length < trMax) (task node : Int) (t0 : 0 ≤ task) (t1 : task < 64) (n0 : 1 ≤ node) (n1 : node ≤ k.units / 6) (hp : S.place (placeI k node) = []) :
    Calls Try.prog 15 #[.pointer (some ⟨k.lp, 0, none⟩), .int .i64 task, .int .i64 node] w (LKeyP w c (S.note ⟨task, 6, placeI k node⟩) A ik0) := by
  obtain ⟨p, hpp⟩ : ∃ p, placeI k node = p := ⟨_, rfl⟩
  rw [hpp] at hp
  rw [hpp]
  obtain ⟨W0, hW0⟩ : ∃ W, w.alloc (.cells #[.string ⟨#[]⟩, .int .u64 0, .int .u8 0] 36) = W := ⟨_, rfl⟩
  have k0 : Blk W0 w.heap.size 36 (ikC ik0) := by rw [← hW0]; exact Blk.new _ _ (ikC ik0)
  have hB0 : Below w.heap.size w W0 := by rw [← hW0]; exact (Below.refl _ _).alloc (Nat.le_refl _) _
  have hX := h.box hB0
  have hA0 : ¬ boxA A w.heap.size W0.heap.size w.heap.size := fun hA => by have := k0.lt; rcases hA.2 with h1 | h1 <;> omega
  have hAw : A w.heap.size := h.fresh.new _ (Nat.le_refl _)
  have hrd := lread_any hX hn task node 0 t0 t1 n0 n1 (by omega) (by omega) p (by omega)
  have HRD := Lib.hid hrd
  have HP := Lib.hid hp
  have HFR := Lib.hid h.fresh
  clear hrd hp h n0 n1 t0 t1 hpp
  go_enter Try.func15, Try.ntmps15
  go_upto_region 3 with (first | (go_at_call 38; refine HRD.out.mono ?_; rintro e w1 ⟨v1, rfl, hR⟩; have hr1 := hR.row; rw [HP.out] at hr1; obtain ⟨ag, c1, rfl⟩ := hr1.slice) | (go_at_call 39; refine (ikTake_nil _ _ _).mono ?_; rintro e w2 ⟨rfl, hb2⟩; obtain ⟨W3, hW3⟩ : ∃ W, w2.alloc (.cells #[.string ⟨#[]⟩, .int .u64 0, .int .u8 0] 36) = W := ⟨_, rfl⟩; have k3 : Blk W3 w2.heap.size 36 (ikC ik0) := by rw [← hW3]; exact Blk.new _ _ (ikC ik0)) | (refine wpList_store_blk rfl 36 _ _ rfl w2.heap.size (ikC ik0) (by rfl) (by rfl) (ikC ik0) k3 infoIk rfl (ikC_one ik0) ?_))
  have hB3 : Below w1.heap.size w1 W3 := by rw [← hW3]; exact hb2.alloc hb2.size _
  have hlt : w.heap.size < w2.heap.size := Nat.lt_of_lt_of_le k0.lt (Nat.le_trans hR.only.size hb2.size)
  have q3 : Blk W3 w.heap.size 36 (ikC ik0) := (k0.keep (hR.only.block _ k0.lt hA0)).keep (hB3.block _ (Nat.lt_of_lt_of_le k0.lt hR.only.size))
  have q4 := q3.setRow_other (Nat.ne_of_lt hlt) (ikC ik0).toArray
  obtain ⟨W4, hW4⟩ : ∃ W, W3.setRow w2.heap.size (ikC ik0).toArray = W := ⟨_, rfl⟩
  have hA2 : A w2.heap.size := HFR.out.new _ (Nat.le_of_lt hlt)
  have hC3 : Cells W4 c (S.note ⟨task, 6, p⟩) (fun j => boxA A w.heap.size W0.heap.size j ∧ j < w1.heap.size) := by
    rw [← hW4]
    exact (Cells.mono (Cells.older hR.cells hB3) fun j _ hj => (⟨hj.1.1, hj.2⟩ : boxA A w.heap.size W0.heap.size j ∧ j < w1.heap.size)).keep (Same.setRow _ (fun hj => absurd hj.2 (Nat.not_lt.mpr hb2.size)) _)
  have hO4 : Only A w W4 := by
    rw [← hW4]
    exact (((Only.of_below hB0).trans (hR.only.mono fun j _ hj => hj.1)).trans (Only.of_below hB3)).setRow hA2 _
  rw [hW4] at q4
  simp only [hW4]
  go_wp2_with (refine wpList_store_blk rfl 36 _ _ rfl w.heap.size (ikC ik0) (by rfl) (by rfl) (ikC ik0) q4 infoIk rfl (ikC_one ik0) ?_)
  have r5 := q4.setRow (ikC ik0)
  refine bodyPost_ret (results_cell_tmp (P := Try.prog) Try.results15 rfl (r5.loadRow _ Try.underlying36 rfl infoIk) _ rfl) rfl ⟨rfl, ?_, hO4.setRow hAw _⟩
  exact (hC3.keep (Same.setRow _ (fun hj => hA0 hj.1) _)).mono fun j _ hj => hj.1.1

/-- Bytes turned to a text. -/
theorem Row.text {w : World} {n : Nat} {v : Value} {L : List UInt8} {A : Nat → Prop} (h : Row w 5 1 v n (u8s L) A) : (convert 51 9 v).run Try.prog w = .ok (.string ⟨L.toArray⟩) w := by
  have hl : L.length = n := by have := h.owns.1; rw [u8s_length, Nat.mul_one] at this; exact this
  rcases h.form with ⟨rfl, rfl⟩ | ⟨g, cap, rfl, _, _, hc⟩
  · have : L = [] := List.eq_nil_of_length_eq_zero hl
    subst this
    exact run_convert_bytes_nil w 51 5 Try.underlying51 Try.underlying5 0 0 9 Try.underlying9
  · have e : strOfNums (L.map fun u => ((u.toNat : Nat) : Int)) = ⟨L.toArray⟩ := by have := strOfNums_key ⟨L.toArray⟩; simpa using this
    rw [← e]
    refine run_convert_bytes_arg (P := Try.prog) w 51 5 Try.underlying51 Try.underlying5 g 0 n cap (L.map fun u => ((u.toNat : Nat) : Int)) (by simp [hl]) (fun i hi => ?_) 9 Try.underlying9
    have := h.owns.cells (g := g) rfl i (.int .u8 (((L[i]'(by omega)).toNat : Nat) : Int)) (by simp [u8s, List.getElem?_eq_getElem (show i < L.length by omega)])
    rw [addr_plain] at this
    rw [this]
    simp [List.getD, List.getElem?_eq_getElem (show i < L.length by omega)]
set_option maxHeartbeats 1000000 in
theorem lval_any {w : World} {k : SkRef} {c : CRef} {S : Mem} {A : Nat → Prop} (h : Lx w k c S A) (hn : S.trace.length < trMax) (task node : Int) (t0 : 0 ≤ task) (t1 : task < 64) (n0 : 1 ≤ node) (n1 : node ≤ k.units / 6) (p : Int) (hp : placeI k node + 1 = p) (L : List UInt8) (hL : S.place p = L) :
    Calls Try.prog 18 #[.pointer (some ⟨k.lp, 0, none⟩), .int .i64 task, .int .i64 node] w fun e w' => e = .returned (.tuple #[.string ⟨L.toArray⟩, .int .i64 0]) ∧ Cells w' c (S.note ⟨task, 6, p⟩) A ∧ Only A w w' := by
  have hrd := lread_any h hn task node 1 t0 t1 n0 n1 (by omega) (by omega) p hp
  have HRD := Lib.hid hrd
  have HL := Lib.hid hL
  clear hrd hL hp
  go_enter Try.func18, Try.ntmps18
  go_upto_region 2 with (go_at_call 38; refine HRD.out.mono ?_; rintro e w1 ⟨v1, rfl, hR⟩; have hr1 := hR.row; rw [HL.out] at hr1)
  have ht := hr1.text
  go_wp2
  go_ret2
  exact ⟨rfl, hR.cells.mono fun j _ hj => hj.1, hR.only⟩
set_option maxHeartbeats 1000000 in
theorem lleft_any {w : World} {k : SkRef} {c : CRef} {S : Mem} {A : Nat → Prop} (h : Lx w k c S A) (hn : S.trace.length < trMax) (task : Int) (t0 : 0 ≤ task) (t1 : task < 64) (x : Int) (hx : S.at_ k.first = x) (hx0 : 0 ≤ x) (y : Int) (hy : (if x ≤ k.units then k.units - x else 0) = y) :
    Calls Try.prog 31 #[.pointer (some ⟨k.lp, 0, none⟩), .int .i64 task] w fun e w' => e = .returned (.tuple #[.int .u64 y, .int .i64 0]) ∧ Cells w' c (S.note ⟨task, 1, k.first⟩) A ∧ Only A w w' := by
  have f0 := h.f0
  have f1 := h.f1
  have u0 := h.u0
  have u1 := h.u1
  have hok : okAt S.atomics.length task k.first = true := decide_eq_true (by omega)
  have hl := left_ok ⟨h.sk.arena, h.ha⟩ h.mem h.fresh hn task (by omega) h.u1 (by omega) hok
  rw [hx, hy] at hl
  have HLL := Lib.hid hl
  have c1 := h.sk.list.cell 1 (v := .pointer (some ⟨k.aq, 0, none⟩)) rfl
  clear hl hok
  go_enter Try.func31, Try.ntmps31
  go_wp2_with (first | (go_at_call 44; refine (lis_yes h.sk).mono ?_; rintro e w' ⟨rfl, rfl⟩) | (go_at_call 56; refine HLL.out.mono ?_; rintro e w' ⟨rfl, hC2, hO2⟩))
  go_ret2
  exact ⟨rfl, hC2, hO2⟩
end Go.Proofs.Ytkpjfdhjkgdcbaa
