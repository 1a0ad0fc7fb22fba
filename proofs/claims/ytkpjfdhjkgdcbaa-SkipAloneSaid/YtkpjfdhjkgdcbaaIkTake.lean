/- ikey.Take. -/
import Derived.Test.YtkpjfdhjkgdcbaaTakeText

namespace Go.Proofs.Ytkpjfdhjkgdcbaa
open Go.RowKit

/-- What Take of a key answers. -/
def IkTakeP (k : IK) (w : World) (e : Ending) (w' : World) : Prop :=
  ∃ v, e = .returned (.tuple #[.agg (ikC k).toArray, v, .bool true]) ∧ Row w' 5 1 v 0 [] (fun k => w.heap.size ≤ k) ∧ Below w.heap.size w w'
set_option maxRecDepth 100000 in
set_option maxHeartbeats 2000000 in
theorem ikTake_any (w : World) (b off cap n : Nat) (hcap : n ≤ cap) (k : IK) (hw : k.Wf) (hr : k.right = true) (hl : (encK k).length = n) (hc : ∀ j u, (u8s (encK k))[j]? = some u → w.cell? ⟨b, off + j, none⟩ = some u) :
    Calls Try.prog 39 #[.slice (some ⟨b, off, none⟩) n cap] w (IkTakeP k w) := by
  obtain ⟨h1, h2, h3, h4⟩ := of_decide_eq_true hr
  have s0 := hw.s0
  have q0 := hw.k0
  obtain ⟨m, hme⟩ : ∃ m, (k.seq * 2 + k.kind).toNat = m := ⟨_, rfl⟩
  have hm : m < 144115188075855872 := by omega
  have henc : encK k = vput k.key.size ++ (k.key.data.toList ++ vput m) := by rw [encK, hme, vput_small (x := k.key.size) (by omega), ByteArray.toList_eq]; simp
  obtain ⟨L, hL⟩ : ∃ L, vput m = L := ⟨_, rfl⟩
  have hLp : 0 < L.length := by rw [← hL]; exact vput_pos m
  have hL10 : L.length ≤ 10 := by rw [← hL]; exact vput_len 9 m (by omega)
  rw [hL] at henc
  have hks : k.key.data.toList.length = k.key.size := rfl
  rw [henc] at hl hc
  have hn : n ≤ 100 := by rw [← hl, vput_small (x := k.key.size) (by omega)]; simp only [List.length_append, List.length_cons, List.length_nil, hks]; omega
  -- the result's cell
  obtain ⟨W0, hW0⟩ : ∃ W, w.alloc (.cells #[.string ⟨#[]⟩, .int .u64 0, .int .u8 0] 36) = W := ⟨_, rfl⟩
  have k0 : Blk W0 w.heap.size 36 (ikC ik0) := by rw [← hW0]; exact Blk.new _ _ (ikC ik0)
  have hB0 : Below w.heap.size w W0 := by rw [← hW0]; exact (Below.refl _ _).alloc (Nat.le_refl _) _
  have hc0 : ∀ j u, (u8s (vput k.key.size ++ (k.key.data.toList ++ L)))[j]? = some u → W0.cell? ⟨b, off + j, none⟩ = some u := fun j u hu => by
    have h := hc j u hu
    exact (World.cell?_of_block (hB0.block _ (World.block_lt_of_cell? w _ h))).trans h
  have ht := taketext_any W0 b off cap n (by omega) hcap k.key h2 L hLp hl hc0
  have HT := Lib.hid ht
  have HL := Lib.hid hL
  have HME := Lib.hid hme
  have HKK := Lib.hid hr
  clear ht hL hl hc hc0 hcap henc hr
  go_enter Try.func39, Try.ntmps39
  go_upto_region 3 with (first | (go_at_call 63; refine HT.out.mono ?_; rintro e w1 ⟨v1, rfl, hr1, hb1⟩; obtain ⟨g, c1, rfl, hc1, hg1, hgl, hcs⟩ := hr1.real hLp) | (go_at_call 64; refine (take_any _ _ _ _ _ (by omega) hc1 m (by omega) [] (by rw [List.append_nil, HL.out]) (by rw [List.append_nil, HL.out]; exact hcs)).mono ?_; rintro e w2 ⟨v2, rfl, hr2, hb2⟩))
  have k2 : Blk w2 w.heap.size 36 (ikC ik0) := (k0.keep (hb1.block _ k0.lt)).keep (hb2.block _ (Nat.lt_of_lt_of_le k0.lt hb1.size))
  have e1 : (m : Int) / 2 = k.seq := by have := HME.out; omega
  have e2 : bits BinOp.and IntKind.u64 (m : Int) 1 = k.kind := by rw [and_one_u64 _ (by omega) (by omega)]; have := HME.out; omega
  have e3 : k.kind % 256 = k.kind := by omega
  obtain ⟨W3, hW3⟩ : ∃ W, w2.alloc (.cells #[.string k.key, .int .u64 k.seq, .int .u8 k.kind] 36) = W := ⟨_, rfl⟩
  have k3 : Blk W3 w2.heap.size 36 (ikC k) := by rw [← hW3]; exact Blk.new _ _ (ikC k)
  have hB3 : Below w2.heap.size w2 W3 := by rw [← hW3]; exact (Below.refl _ _).alloc (Nat.le_refl _) _
  have d0 := k3.cell 0 (v := .string k.key) rfl
  have d1 := k3.cell 1 (v := .int .u64 k.seq) rfl
  have d2 := k3.cell 2 (v := .int .u8 k.kind) rfl
  have q2 : Blk W3 w.heap.size 36 (ikC ik0) := k2.keep (hB3.block _ k2.lt)
  have hright : Calls Try.prog 59 #[.agg #[.string k.key, .int .u64 k.seq, .int .u8 k.kind]] W3 fun e w' => e = .returned (.bool k.right) ∧ Below W3.heap.size W3 w' := right_any19 W3 k
  rw [HKK.out] at hright
  have HR := Lib.hid hright
  clear hright
  go_upto_region 6 with (go_at_call 59; refine HR.out.mono ?_; rintro e w4 ⟨rfl, hb4⟩)
  have k4 : Blk w4 w2.heap.size 36 (ikC k) := k3.keep (hb4.block _ k3.lt)
  have q4 : Blk w4 w.heap.size 36 (ikC ik0) := q2.keep (hb4.block _ q2.lt)
  have hB02 : Below w.heap.size w w2 := (hB0.trans (hb1.mono hB0.size)).trans (hb2.mono (Nat.le_trans hB0.size hb1.size))
  have hB4 : Below w.heap.size w w4 := (hB02.trans (hB3.mono hB02.size)).trans (hb4.mono (Nat.le_trans hB02.size hB3.size))
  have hr4 : Row w4 5 1 v2 0 [] (fun k => w1.heap.size ≤ k) := by
    have h := hr2.keep (w' := w4) fun j hj => (hb4.block j (Nat.lt_of_lt_of_le (hr2.lt hj) hB3.size)).trans (hB3.block j (hr2.lt hj))
    exact h
  go_wp2_with (first | (refine wpList_load_blk rfl 36 _ rfl w2.heap.size (by rfl) (ikC k) k4 _ Try.underlying36 rfl infoIk ?_) | (refine wpList_store_blk rfl 36 _ _ rfl w.heap.size (ikC k) (by rfl) (by rfl) (ikC ik0) q4 infoIk rfl (ikC_one k) ?_))
  have r5 := q4.setRow (ikC k)
  refine bodyPost_ret (results_cell_tmp2 (P := Try.prog) Try.results39 rfl (r5.loadRow _ Try.underlying36 rfl infoIk) _ _ rfl rfl) rfl ⟨v2, rfl, ?_, below_setRow hB4 (Nat.le_refl _) _⟩
  exact (hr4.setRow q4 (by decide) _).mono fun j _ hj => Nat.le_trans (Nat.le_trans hB0.size hb1.size) hj

/-- nums.TakeText of no bytes. -/
theorem taketext_nil (w : World) (ao : Option Addr) (cap : Nat) : Calls Try.prog 63 #[.slice ao 0 cap, .int .i64 64] w fun e w' => e = .returned (.tuple #[.string ⟨#[]⟩, .slice none 0 0, .bool false]) ∧ w = w' := by
  go_enter Try.func63, Try.ntmps63
  go_wp2_with (go_at_call 64; refine (take_nil _ _ _).mono ?_; rintro e w' ⟨rfl, rfl⟩)
  go_ret3
  exact ⟨rfl, rfl⟩
/-- Take of no bytes. -/
theorem ikTake_nil (w : World) (ao : Option Addr) (cap : Nat) : Calls Try.prog 39 #[.slice ao 0 cap] w fun e w' => e = .returned (.tuple #[.agg (ikC ik0).toArray, .slice none 0 0, .bool false]) ∧ Below w.heap.size w w' := by
  obtain ⟨W0, hW0⟩ : ∃ W, w.alloc (.cells #[.string ⟨#[]⟩, .int .u64 0, .int .u8 0] 36) = W := ⟨_, rfl⟩
  have k0 : Blk W0 w.heap.size 36 (ikC ik0) := by rw [← hW0]; exact Blk.new _ _ (ikC ik0)
  have hB0 : Below w.heap.size w W0 := by rw [← hW0]; exact (Below.refl _ _).alloc (Nat.le_refl _) _
  obtain ⟨W3, hW3⟩ : ∃ W, W0.alloc (.cells #[.string ⟨#[]⟩, .int .u64 0, .int .u8 0] 36) = W := ⟨_, rfl⟩
  have hB3 : Below w.heap.size w W3 := by rw [← hW3]; exact hB0.alloc hB0.size _
  have q3 : Blk W3 w.heap.size 36 (ikC ik0) := by rw [← hW3]; exact k0.keep (Below.heap_alloc _ _ _ k0.lt)
  have p3 : Blk W3 W0.heap.size 36 (ikC ik0) := by rw [← hW3]; exact Blk.new _ _ (ikC ik0)
  have hne : w.heap.size ≠ W0.heap.size := Nat.ne_of_lt k0.lt
  have r3 := q3.setRow_other hne (ikC ik0).toArray
  have hB4 := below_setRow hB3 (b := W0.heap.size) hB0.size (ikC ik0).toArray
  have e2 : bits BinOp.and IntKind.u64 0 1 = 0 := and_one_u64 0 (by omega) (by omega)
  go_enter Try.func39, Try.ntmps39
  go_wp2_with (first | (go_at_call 63; refine (taketext_nil _ _ _).mono ?_; rintro e w1 ⟨rfl, rfl⟩) | (go_at_call 64; refine (take_nil _ _ _).mono ?_; rintro e w2 ⟨rfl, rfl⟩) | (refine wpList_store_blk rfl 36 _ _ rfl w.heap.size (ikC ik0) (by rfl) (by rfl) (ikC ik0) r3 infoIk rfl (ikC_one ik0) ?_) | (refine wpList_store_blk rfl 36 _ _ rfl W0.heap.size (ikC ik0) (by rfl) (by rfl) (ikC ik0) p3 infoIk rfl (ikC_one ik0) ?_))
  have r5 := r3.setRow (ikC ik0)
  refine bodyPost_ret (results_cell_tmp2 (P := Try.prog) Try.results39 rfl (r5.loadRow _ Try.underlying36 rfl infoIk) _ _ rfl rfl) rfl ⟨rfl, below_setRow hB4 (Nat.le_refl _) _⟩
end Go.Proofs.Ytkpjfdhjkgdcbaa
