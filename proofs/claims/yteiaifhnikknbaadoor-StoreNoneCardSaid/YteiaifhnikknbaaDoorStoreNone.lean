/- Law 22 StoreNone: the walk. -/
import Derived.Test.YteiaifhnikknbaaDoorStAwake
import Derived.Test.YteiaifhnikknbaaDoorStNone
import Derived.Test.YteiaifhnikknbaaDoorOpen22
namespace Go.Proofs.YteiaifhnikknbaaDoor
open Go.RowKit

def zeroS : List Value := [.int .u64 0, .int .i64 0, .int .i64 0, .int .i64 0, .bool false, .slice none 0 0, .pointer none, .pointer none, .pointer none, .slice none 0 0, .slice none 0 0, .slice none 0 0, .int .i64 0, .int .u64 0, .int .i64 0, .int .i64 0, .slice none 0 0, .int .u64 0, .int .u64 0, .slice none 0 0, .bool false]
/-- The two stores that are none, in the round's world; the configuration's box. -/
structure TwoS (w wr : World) (K : Cfg) (sh : Value) : Prop where
  cfg : Blk wr w.heap.size 49 (cfC K sh)
  zero : Blk wr (w.heap.size + 1) 80 zeroS
  two : Blk wr (w.heap.size + 1 + 1) 57 [.pointer none, .pointer (some ⟨w.heap.size + 1, 0, none⟩)]
  below : Below w.heap.size w wr
variable {w : World} {K : Cfg} {sh : Value}
theorem TwoS.go {wr wr' : World} (h : TwoS w wr K sh) (hb : Below wr.heap.size wr wr') : TwoS w wr' K sh :=
  ⟨h.cfg.keep (hb.block _ h.cfg.lt), h.zero.keep (hb.block _ h.zero.lt), h.two.keep (hb.block _ h.two.lt), h.below.trans (hb.mono h.below.size)⟩
theorem TwoS.at_ {wr : World} (h : TwoS w wr K sh) (k : Nat) (hk : k < 2) : ∃ a, wr.cell? ⟨w.heap.size + 1 + 1, k, none⟩ = some (.pointer a) ∧ NoStore wr (.pointer a) := by
  match k, hk with
  | 0, _ => exact ⟨none, h.two.cell 0 rfl, .inl rfl⟩
  | 1, _ => exact ⟨some ⟨w.heap.size + 1, 0, none⟩, h.two.cell 1 rfl, .inr ⟨_, rfl, h.zero.cell 6 rfl⟩⟩
theorem TwoS.init (w : World) (K : Cfg) (sh : Value) : TwoS w (((w.alloc (.cells (cfC K sh).toArray 49)).alloc (.cells zeroS.toArray 80)).alloc (.cells #[.pointer none, .pointer (some ⟨w.heap.size + 1, 0, none⟩)] 57)) K sh := by
  obtain ⟨W, hW, k1, k2, k3, hB, _⟩ := three_boxes w (cfC K sh) zeroS [.pointer none, .pointer (some ⟨w.heap.size + 1, 0, none⟩)] 49 80 57
  rw [hW]
  exact ⟨k1, k2, k3, hB⟩
set_option maxRecDepth 100000 in
set_option maxHeartbeats 4000000 in
theorem storeNone (w : World) (hT : Tab w) (task n : Int) (K : Cfg) (sh : Value) (hK : CfgArg w K sh) :
    Calls Tryd.prog 5 #[.int .i64 task, .int .i64 n, .agg (cfC K sh).toArray] w fun e w' => e = .returned (.bool true) ∧ Below w.heap.size w w' := by
  obtain ⟨ao, co, hsh⟩ := hK.reads.slice
  obtain ⟨nh, hnh⟩ : ∃ nh, K.heights.length = nh := ⟨_, rfl⟩
  rw [hnh] at hsh
  subst hsh
  have h0 := TwoS.init w K (.slice ao nh co)
  have HT := Lib.hid hT
  have HK := Lib.hid hK
  have HNH := Lib.hid hnh
  clear hT hK hnh
  go_enter Tryd.func5, Tryd.ntmps5
  go_wp2_with fail
  go_loopw [19] (fun i wr => ∃ k : Nat, k ≤ 2 ∧ i = .int .i64 k ∧ TwoS w wr K (.slice ao nh co)) (fun i _ => 2 - (intOf i).toNat)
  case atStart => exact ⟨0, by omega, rfl, h0⟩
  case round =>
    clear h0
    obtain ⟨k, hk, rfl, hT⟩ := hrel
    by_cases hlt : k < 2
    · obtain ⟨a, hc, hN⟩ := hT.at_ k hlt
      have HN := Lib.hid hN
      have HTT := Lib.hid hT
      clear hT hN
      go_upto_region 5 with (first | (go_at_call 31; refine (sget_none HN.out _).mono ?_; rintro e w1 ⟨rfl, hB1⟩) | (refine wpList_store_blk rfl 31 _ _ rfl w1.heap.size gzL (by rfl) (by rfl) ([.slice none 0 0, .slice none 0 0, .int .i64 0, .int .u64 0, .int .i64 0, .int .i64 0, .slice none 0 0, .int .u64 0, .int .u64 0, .slice none 0 0, .bool false] : List Value) (Blk.new _ _ _) infoG rfl (gC_one gz rfl rfl rfl rfl) ?_))
      obtain ⟨W1, hW1⟩ : ∃ W1, (w1.alloc (.cells ([.slice none 0 0, .slice none 0 0, .int .i64 0, .int .u64 0, .int .i64 0, .int .i64 0, .slice none 0 0, .int .u64 0, .int .u64 0, .slice none 0 0, .bool false] : List Value).toArray 31)).setRow w1.heap.size gzL.toArray = W1 := ⟨_, rfl⟩
      have k1 : Blk W1 w1.heap.size 31 gzL := by rw [← hW1]; exact (Blk.new w1 31 ([.slice none 0 0, .slice none 0 0, .int .i64 0, .int .u64 0, .int .i64 0, .int .i64 0, .slice none 0 0, .int .u64 0, .int .u64 0, .slice none 0 0, .bool false] : List Value)).setRow _
      have hBw : Below wr.heap.size wr W1 := by rw [← hW1]; exact below_setRow (hB1.alloc hB1.size _) hB1.size _
      try rw [hW1]
      have HB1 := Lib.hid hBw
      clear hW1 hB1 hBw
      have cG : ∀ W, Calls Tryd.prog 21 #[.agg #[.slice none 0 0, .slice none 0 0, .int .i64 0, .int .u64 0, .int .i64 0, .int .i64 0, .slice none 0 0, .int .u64 0, .int .u64 0, .slice none 0 0, .bool false], .agg #[.slice none 0 0, .slice none 0 0, .int .i64 0, .int .u64 0, .int .i64 0, .int .i64 0, .slice none 0 0, .int .u64 0, .int .u64 0, .slice none 0 0, .bool false]] W fun e w' => e = .returned (.bool true) ∧ Below W.heap.size W w' := fun W => lowGuarded_same (G := gz) (gz_gh W 0).gr (gz_gh W 0).gr ⟨by decide, by decide, by decide, by decide⟩
      have CG := Lib.hid cG
      have hfield : ∀ W, (Instr.field 49 (.agg #[.int .u64 0, .int .i64 0, .int .i64 0, .int .i64 0, .bool false, .slice none 0 0]) 0).run Tryd.prog W = .ok (.int .u64 0) W := fun _ => by kernel_rfl
      clear cG
      have KK := Lib.hid k1
      have l0 := k1.cell 0 (v := .slice none 0 0) rfl
      have l1 := k1.cell 1 (v := .slice none 0 0) rfl
      have l2 := k1.cell 2 (v := .int .i64 0) rfl
      have l3 := k1.cell 3 (v := .int .u64 0) rfl
      have l4 := k1.cell 4 (v := .int .i64 0) rfl
      have l5 := k1.cell 5 (v := .int .i64 0) rfl
      have l6 := k1.cell 6 (v := .slice none 0 0) rfl
      have l7 := k1.cell 7 (v := .int .u64 0) rfl
      have l8 := k1.cell 8 (v := .int .u64 0) rfl
      have l9 := k1.cell 9 (v := .slice none 0 0) rfl
      have l10 := k1.cell 10 (v := .bool false) rfl
      clear k1
      go_wp2_with (first
        | (go_at_call 21; refine (CG.out _).mono ?_; rintro e w2 ⟨rfl, hB2⟩; have hX2 := HB1.out.trans (hB2.mono HB1.out.size); have m2 := KK.out.keep (hB2.block _ KK.out.lt); have y0 := m2.cell 0 (v := .slice none 0 0) rfl; have y1 := m2.cell 1 (v := .slice none 0 0) rfl; have y2 := m2.cell 2 (v := .int .i64 0) rfl; have y3 := m2.cell 3 (v := .int .u64 0) rfl; have y4 := m2.cell 4 (v := .int .i64 0) rfl; have y5 := m2.cell 5 (v := .int .i64 0) rfl; have y6 := m2.cell 6 (v := .slice none 0 0) rfl; have y7 := m2.cell 7 (v := .int .u64 0) rfl; have y8 := m2.cell 8 (v := .int .u64 0) rfl; have y9 := m2.cell 9 (v := .slice none 0 0) rfl; have y10 := m2.cell 10 (v := .bool false) rfl; have hN2 := HN.out.below hX2) | (go_at_call 37; refine (sset_none hN2 _ _).mono ?_; rintro e w3 ⟨rfl, hB3⟩; have hX3 := hX2.trans (hB3.mono hX2.size); have hN3 := HN.out.below hX3) | (go_at_call 29; refine (scells_none hN3).mono ?_; rintro e w' ⟨rfl, rfl⟩) | (go_at_call 28; refine (slocks_none hN3).mono ?_; rintro e w' ⟨rfl, rfl⟩) | (go_at_call 38; refine (sdisk_none hN3).mono ?_; rintro e w' ⟨rfl, rfl⟩) | (go_at_call 39; refine (slist_none hN3 _).mono ?_; rintro e w' ⟨rfl, rfl⟩) | (go_at_call 34; refine (sheight_none hN3 _).mono ?_; rintro e w' ⟨rfl, rfl⟩) | (go_at_call 36; refine (sconfig_none hN3).mono ?_; rintro e w4 ⟨rfl, hB4⟩; have hX4 := hX3.trans (hB4.mono hX3.size)))
      go_roundw
      case rel => exact ⟨k + 1, by omega, by go_num, HTT.out.go hX4⟩
      case measure => simp [intOf]; omega
    · have hB0 := hT.below
      have kc := hT.cfg
      clear hT
      go_upto_region 9 with (first | (go_at_call 40; refine (small_any _).mono ?_; rintro e w1 ⟨s1, rfl, hR1, hB1⟩) | (go_at_call 26; refine (stnew_nodisk smallK_right hR1 _ _).mono ?_; rintro e w2 ⟨rfl, hB2⟩))
      have hB02 := (hB0.trans (hB1.mono hB0.size)).trans (hB2.mono (Nat.le_trans hB0.size hB1.size))
      have k2 := (kc.keep (hB1.block _ kc.lt)).keep (hB2.block _ (Nat.lt_of_lt_of_le kc.lt hB1.size))
      have hR2 := HK.out.reads.below hB02
      have c0 := k2.cell 0 (v := .int .u64 K.units) rfl
      have c1 := k2.cell 1 (v := .int .i64 K.imms) rfl
      have c2 := k2.cell 2 (v := .int .i64 K.lists) rfl
      have c3 := k2.cell 3 (v := .int .i64 K.group) rfl
      have c4 := k2.cell 4 (v := .bool K.sync) rfl
      have c5 := k2.cell 5 (v := .slice ao nh co) rfl
      have hnh := HNH.out
      have hK2 := HK.out.reads
      rw [hnh] at hR2
      clear hnh hK2 hB0 hB1 hB2 hR1 kc hR2
      cases hr : rightB K
      · have hr0 := hr
        have hrt : ∀ W, Calls Tryd.prog 17 #[.agg #[.int .u64 K.units, .int .i64 K.imms, .int .i64 K.lists, .int .i64 K.group, .bool K.sync, .slice ao nh co]] W fun e w' => e = .returned (.bool false) ∧ Below W.heap.size W w' := fun W => by
          have h1 := right_no (w := W) HK.out.wf hr ao co
          rw [HNH.out] at h1
          exact h1
        have HRT := Lib.hid hrt
        clear hrt
        go_region_held3 (fun w' => w'.cell? ⟨w.heap.size, 0, none⟩ = some (.int .u64 K.units) ∧ w'.cell? ⟨w.heap.size, 1, none⟩ = some (.int .i64 K.imms) ∧ w'.cell? ⟨w.heap.size, 2, none⟩ = some (.int .i64 K.lists) ∧ w'.cell? ⟨w.heap.size, 3, none⟩ = some (.int .i64 K.group) ∧ w'.cell? ⟨w.heap.size, 4, none⟩ = some (.bool K.sync) ∧ w'.cell? ⟨w.heap.size, 5, none⟩ = some (.slice ao nh co)) (go_keep) (first
          | (go_at_call 27; refine (disknew_nil _ _ (by decide)).mono ?_; rintro e w3 ⟨d, rfl, hB3⟩; have hX3 := hB02.trans (((Below.refl _ w2).drew.trans hB3).mono hB02.size); have k3 : Blk w3 w.heap.size 49 (cfC K (.slice ao nh co)) := k2.keep (hB3.block _ k2.lt); have x0 := k3.cell 0 (v := .int .u64 K.units) rfl; have x1 := k3.cell 1 (v := .int .i64 K.imms) rfl; have x2 := k3.cell 2 (v := .int .i64 K.lists) rfl; have x3 := k3.cell 3 (v := .int .i64 K.group) rfl; have x4 := k3.cell 4 (v := .bool K.sync) rfl; have x5 := k3.cell 5 (v := .slice ao nh co) rfl)
          | (go_at_call 26; refine (stnew_no HK.out.wf hr (HK.out.reads.below hX3) _ _ 1).mono ?_; rintro e w4 ⟨rfl, hB4⟩; have hX4 := hX3.trans (hB4.mono hX3.size); have k4 := k3.keep (hB4.block _ k3.lt); have y0 := k4.cell 0 (v := .int .u64 K.units) rfl; have y1 := k4.cell 1 (v := .int .i64 K.imms) rfl; have y2 := k4.cell 2 (v := .int .i64 K.lists) rfl; have y3 := k4.cell 3 (v := .int .i64 K.group) rfl; have y4 := k4.cell 4 (v := .bool K.sync) rfl; have y5 := k4.cell 5 (v := .slice ao nh co) rfl))
        go_wp2_with (first
          | (go_at_call 14; refine (awake22 _ (HT.out.below hX6 HT.out.lt)).mono ?_; rintro e w7 ⟨rfl, hB7⟩) | (go_at_call 17; refine (HRT.out w5).mono ?_; rintro e w6 ⟨rfl, hB6⟩; have hX6 := hX5.trans (hB6.mono hX5.size)) | (go_at_call 17; refine (HRT.out _).mono ?_; rintro e w5 ⟨rfl, hB5⟩; have hX5 := hX4.trans (hB5.mono hX4.size); have k5 := k4.keep (hB5.block _ k4.lt); have z0 := k5.cell 0 (v := .int .u64 K.units) rfl; have z1 := k5.cell 1 (v := .int .i64 K.imms) rfl; have z2 := k5.cell 2 (v := .int .i64 K.lists) rfl; have z3 := k5.cell 3 (v := .int .i64 K.group) rfl; have z4 := k5.cell 4 (v := .bool K.sync) rfl; have z5 := k5.cell 5 (v := .slice ao nh co) rfl))
        go_ret
        exact ⟨rfl, hX6.trans (hB7.mono hX6.size)⟩
      · have hr0 := hr
        have hrt : ∀ W, Calls Tryd.prog 17 #[.agg #[.int .u64 K.units, .int .i64 K.imms, .int .i64 K.lists, .int .i64 K.group, .bool K.sync, .slice ao nh co]] W fun e w' => e = .returned (.bool true) ∧ Below W.heap.size W w' := fun W => by
          have h1 := right_yes (w := W) hr ao co
          rw [HNH.out] at h1
          exact h1
        have HRT := Lib.hid hrt
        clear hrt
        go_region_held3 (fun w' => w'.cell? ⟨w.heap.size, 0, none⟩ = some (.int .u64 K.units) ∧ w'.cell? ⟨w.heap.size, 1, none⟩ = some (.int .i64 K.imms) ∧ w'.cell? ⟨w.heap.size, 2, none⟩ = some (.int .i64 K.lists) ∧ w'.cell? ⟨w.heap.size, 3, none⟩ = some (.int .i64 K.group) ∧ w'.cell? ⟨w.heap.size, 4, none⟩ = some (.bool K.sync) ∧ w'.cell? ⟨w.heap.size, 5, none⟩ = some (.slice ao nh co)) (go_keep) (first
          | (go_at_call 27; refine (disknew_nil _ _ (by decide)).mono ?_; rintro e w3 ⟨d, rfl, hB3⟩; have hX3 := hB02.trans (((Below.refl _ w2).drew.trans hB3).mono hB02.size); have k3 : Blk w3 w.heap.size 49 (cfC K (.slice ao nh co)) := k2.keep (hB3.block _ k2.lt); have x0 := k3.cell 0 (v := .int .u64 K.units) rfl; have x1 := k3.cell 1 (v := .int .i64 K.imms) rfl; have x2 := k3.cell 2 (v := .int .i64 K.lists) rfl; have x3 := k3.cell 3 (v := .int .i64 K.group) rfl; have x4 := k3.cell 4 (v := .bool K.sync) rfl; have x5 := k3.cell 5 (v := .slice ao nh co) rfl)
          | (go_at_call 26; refine (stnew_yes hr (sh := .slice ao nh co) (st := .slice none 0 0) (V := ⟨[], 0, 0, 0⟩) (HK.out.reads.below hX3) ⟨rfl, .inl ⟨rfl, _, _, rfl⟩⟩ (Nat.zero_le _) _ 1 (by decide) (by decide) (by decide)).mono ?_; intro e w4 h4; obtain ⟨q4, A4, O4, rfl, hS4, hB4⟩ := h4.sx; clear h4 hS4; have hX4 := hX3.trans (hB4.mono hX3.size); have k4 := k3.keep (hB4.block _ k3.lt); have y0 := k4.cell 0 (v := .int .u64 K.units) rfl; have y1 := k4.cell 1 (v := .int .i64 K.imms) rfl; have y2 := k4.cell 2 (v := .int .i64 K.lists) rfl; have y3 := k4.cell 3 (v := .int .i64 K.group) rfl; have y4 := k4.cell 4 (v := .bool K.sync) rfl; have y5 := k4.cell 5 (v := .slice ao nh co) rfl))
        go_wp2_with (first
          | (go_at_call 14; refine (awake22 _ (HT.out.below hX6 HT.out.lt)).mono ?_; rintro e w7 ⟨rfl, hB7⟩) | (go_at_call 17; refine (HRT.out w5).mono ?_; rintro e w6 ⟨rfl, hB6⟩; have hX6 := hX5.trans (hB6.mono hX5.size)) | (go_at_call 17; refine (HRT.out _).mono ?_; rintro e w5 ⟨rfl, hB5⟩; have hX5 := hX4.trans (hB5.mono hX4.size); have k5 := k4.keep (hB5.block _ k4.lt); have z0 := k5.cell 0 (v := .int .u64 K.units) rfl; have z1 := k5.cell 1 (v := .int .i64 K.imms) rfl; have z2 := k5.cell 2 (v := .int .i64 K.lists) rfl; have z3 := k5.cell 3 (v := .int .i64 K.group) rfl; have z4 := k5.cell 4 (v := .bool K.sync) rfl; have z5 := k5.cell 5 (v := .slice ao nh co) rfl))
        go_ret
        exact ⟨rfl, hX6.trans (hB7.mono hX6.size)⟩
end Go.Proofs.YteiaifhnikknbaaDoor
