/- The walk over law 19's SkipAlone. -/
import Derived.Test.YtkpjfdhjkgdcbaaAloneKy

namespace Go.Proofs.Ytkpjfdhjkgdcbaa
open Go.RowKit

set_option pp.deepTerms true in
set_option maxRecDepth 100000 in
set_option maxHeartbeats 4000000 in
theorem skipAlone (w : World) (v : Value) (l : List Wk) (hr : Reads w 5 v l.length (wks l)) (hf : ∀ a, a ∈ l → WkFits a) (hmax : l.length ≤ 1000000000000000) (turn : Nat) (ht : turn ≤ 255) :
    Calls Try.prog 3 #[v, .int .u8 turn] w fun e w' => e = .returned (.bool true) ∧ Below w.heap.size w w' := by
  obtain ⟨m, hm⟩ : ∃ m, l.length = m := ⟨_, rfl⟩
  obtain ⟨ao, co, rfl⟩ : ∃ ao co, v = .slice ao m co := by
    rw [← hm]
    exact hr.slice
  have hmx : m ≤ 1000000000000000 := by omega
  obtain ⟨W1, hW1⟩ : ∃ W, w.alloc (.cells #[.slice ao m co] 22) = W := ⟨_, rfl⟩
  have hb1 : Below w.heap.size w W1 := by rw [← hW1]; exact (Below.refl _ _).alloc (Nat.le_refl _) _
  have hk1 : WksAt W1 (.slice (some ⟨w.heap.size, 0, none⟩) 1 1) [l] := by rw [← hW1]; exact wksAt_one hr hf
  obtain ⟨bf, hbf⟩ : ∃ b, fewB [l] 0 = b := ⟨_, rfl⟩
  have HFEW := Lib.hid (few_any W1 (.slice (some ⟨w.heap.size, 0, none⟩) 1 1) [l] none 0 0 hk1 (fun x hx => by rw [List.mem_singleton] at hx; subst hx; exact hmax) (Nat.zero_le _))
  have HW1 := Lib.hid hW1
  have HR := Lib.hid hr
  have HF := Lib.hid hf
  have HM := Lib.hid hm
  have HB1 := Lib.hid hb1
  have HBF := Lib.hid hbf
  clear hW1 hr hf hm hb1 hk1 hmax hbf
  go_enter Try.func3, Try.ntmps3
  have hW1 := HW1.out
  by_cases hgo : bf = true ∧ m ≤ 20
  · obtain ⟨hbt, hm20⟩ := hgo
    subst hbt
    go_upto_region 6 with (first | (go_at_call 9; refine HFEW.out.mono ?_; rintro x w2 ⟨rfl, hb2⟩; rw [HBF.out]; have hb02 := HB1.out.trans (hb2.mono HB1.out.size); obtain ⟨W3, hW3⟩ : ∃ W, w2.alloc (.cells #[.slice ao m co] 22) = W := ⟨_, rfl⟩; have hb03 : Below w.heap.size w W3 := (by rw [← hW3]; exact hb02.alloc hb02.size _); have hk3 : WksAt W3 (.slice (some ⟨w2.heap.size, 0, none⟩) 1 1) [l] := (by rw [← hW3]; exact wksAt_one (HR.out.below hb02) HF.out); have HUN := Lib.hid (unlike_any W3 _ [l] hk3 (by have := HM.out; simp [sumLen]; omega) (by simp)); clear hk3) | (go_at_call 11; refine HUN.out.mono ?_; rintro x w4 ⟨v4, rfl, hU4⟩; have hb04 := hb03.trans (hU4.below.mono hb03.size); obtain ⟨g4, c4, u4, rfl, z4, hr4⟩ := un_one hU4; rw [HM.out] at hr4; obtain ⟨a4, d4, rfl⟩ := hr4.slice; clear hU4))
    obtain ⟨kk, hkk⟩ : ∃ kk : Nat, (turn : Int) % ((m : Int) + 1) = kk := ⟨turn % (m + 1), by rw [Int.natCast_emod]; simp⟩
    have hkm : kk ≤ m := by
      have h1 := Int.emod_lt_of_pos (turn : Int) (b := (m : Int) + 1) (by omega)
      omega
    rw [hkk]
    obtain ⟨W5, hW5⟩ : ∃ W, w4.alloc (.cells ks12.toArray 29) = W := ⟨_, rfl⟩
    have hb5 : Below w.heap.size w W5 := by rw [← hW5]; exact hb04.alloc hb04.size _
    have hk5 : Blk W5 w4.heap.size 29 ks12 := by rw [← hW5]; exact Blk.new _ _ _
    have hr5 := hr4.alloc (.cells ks12.toArray 29)
    rw [hW5] at hr5
    have hW5' := hW5
    unfold ks12 at hW5'
    rw [hW5']
    have HB3 := Lib.hid hb03.size
    clear hW5' hkk z4 hr4 hb03 hb02
    have hb4s := hb04.size
    have hb3s := HB3.out
    go_cut [54, 55, 56] (fun s54 s55 s56 wx => s55 = .int .i64 2 ∧ s56 = .int .i64 0 ∧ ∃ b v1, s54 = .slice (some ⟨b, 0, none⟩) 2 2 ∧ AlX w wx (unRow 0 l) ((unRow 0 l).drop kk ++ (unRow 0 l).take kk) b (.slice a4 m d4) v1 w4.heap.size ks12 (fun _ => []) (fun j => w.heap.size ≤ j))
    case first =>
      --H{
      rcases hr5.form with ⟨e, hm0⟩ | ⟨g, cap, e, hg, _, hcap⟩
      · cases e
        have hk0 : kk = 0 := by omega
        subst hk0
        have hu0 : unRow 0 l = [] := List.eq_nil_of_length_eq_zero (by rw [unRow_len]; exact HM.out)
        have e1 : (W5.alloc (.cells #[] 40)).heap[W5.heap.size]? = some (.cells #[] 40) := heap_alloc_new _ _
        have b1 : Below W5.heap.size W5 (W5.alloc (.cells #[] 40)).drew := ((Below.refl _ W5).alloc (Nat.le_refl _) _).trans (Quiet.below ⟨1, rfl⟩ _)
        rw [hu0] at hr5
        go_region_law (first | fail)
        go_wp2_with fail
        go_meet
        have hown : (W5.alloc (.cells #[] 40)).drew.ownsRow W5.heap.size 40 5 (.slice (some ⟨W5.heap.size, 0, none⟩) 0 0) 0 (wks []) := own_nil5 (w := (W5.alloc (.cells #[] 40)).drew) e1 (Nat.le_refl _)
        have hx := alx_start (u0 := []) (u1 := []) b1 hb5 hr5 (fun j q => Nat.le_trans hb3s q) hk5 hown rfl rfl (by have := hb4s; omega)
        refine ⟨rfl, rfl, W5.heap.size + 1, .slice (some ⟨W5.heap.size, 0, none⟩) 0 0, rfl, ?_⟩
        have e2 : (W5.alloc (.cells #[] 40)).drew.heap.size = W5.heap.size + 1 := by show (W5.alloc (.cells #[] 40)).heap.size = _; simp
        rw [e2] at hx
        rw [hu0]
        exact hx
      · cases e
        have hul : (unRow 0 l).length = m := by rw [unRow_len]; exact HM.out
        obtain ⟨i1, hi1, hz10, hz11, hz12⟩ := info_parts infoWk
        have e1 : (W5.alloc (.cells #[] 40)).heap[W5.heap.size]? = some (.cells #[] 40) := heap_alloc_new _ _
        have b1 : Below W5.heap.size W5 (W5.alloc (.cells #[] 40)).drew := ((Below.refl _ W5).alloc (Nat.le_refl _) _).trans (Quiet.below ⟨1, rfl⟩ _)
        have rd1 := (reads_dropI hr5 hcap hul hkm).below b1
        have rt0 := reads_take hr5 hcap hul hkm
        have hkd := Nat.le_trans hkm hcap
        have hkdi : (kk : Int) ≤ (d4 : Int) := by omega
        have rd2 : Reads (W5.alloc (.cells #[] 40)).drew 5 (.slice (if d4 = kk then some ⟨g, 0, none⟩ else some ⟨g, kk * 5, none⟩) (m - kk) (d4 - kk)) (m - kk) (wks ((unRow 0 l).drop kk)) := rd1
        clear rd1
        rcases Decidable.em (d4 = kk) with hdk | hdk
        · subst hdk
          have hmd : m = d4 := by omega
          subst hmd
          go_region_law (first
            | (refine step_append_reads (by rfl) (.tmp 49) (.tmp 52) 22 (by rfl) W5.heap.size 40 i1 (.agg #[.string ⟨#[]⟩, .int .u64 0, .int .u8 0, .string ⟨#[]⟩, .int .i64 0]) 5 56 Try.underlying22 hi1 hz10 hz11 hz12 rfl (by decide) _ 0 [] (by rfl) (own_nil5 e1 (Nat.le_refl _)) _ m (wks ((unRow 0 l).take m)) (by rfl) (rt0.below b1) (wks_one _) (by unfold maxLen; omega) (by omega) b1.size ?_; intro vB w7 hownB hgB hatB; simp only [Nat.zero_add, List.nil_append] at hownB; have hB7 : Below W5.heap.size W5 w7 := b1.grown hgB b1.size (fun k e => by simp [Value.ownBlock] at e; omega); obtain ⟨aB, pB, rfl⟩ := (rowOwns hownB).slice)
            | fail)
          go_wp2_with fail
          go_meet
          have hdr : (unRow 0 l).drop m = [] := List.drop_eq_nil_of_le (by omega)
          rw [hdr, List.nil_append]
          exact ⟨rfl, rfl, _, _, rfl, alx_start hB7 hb5 hr5 (fun j q => Nat.le_trans hb3s q) hk5 hownB hul (by rw [List.length_take, hul]; omega) (by have := hb4s; omega)⟩
        · rw [if_neg hdk] at rd2
          go_region_law (first
            | (refine step_append_reads (by rfl) (.tmp 45) (.tmp 48) 22 (by rfl) W5.heap.size 40 i1 (.agg #[.string ⟨#[]⟩, .int .u64 0, .int .u8 0, .string ⟨#[]⟩, .int .i64 0]) 5 56 Try.underlying22 hi1 hz10 hz11 hz12 rfl (by decide) _ 0 [] (by rfl) (own_nil5 e1 (Nat.le_refl _)) _ (m - kk) (wks ((unRow 0 l).drop kk)) (by rfl) rd2 (wks_one _) (by unfold maxLen; omega) (by omega) b1.size ?_; intro vA w6 hownA hgA hatA; simp only [Nat.zero_add, List.nil_append] at hownA; have hB6 : Below W5.heap.size W5 w6 := b1.grown hgA b1.size (fun k e => by simp [Value.ownBlock] at e; omega); have rt1 := rt0.below hB6)
            | (refine step_append_reads (by rfl) (.tmp 49) (.tmp 52) 22 (by rfl) W5.heap.size 40 i1 (.agg #[.string ⟨#[]⟩, .int .u64 0, .int .u8 0, .string ⟨#[]⟩, .int .i64 0]) 5 56 Try.underlying22 hi1 hz10 hz11 hz12 rfl (by decide) vA (m - kk) (wks ((unRow 0 l).drop kk)) (by rfl) hownA _ kk (wks ((unRow 0 l).take kk)) (by rfl) rt1 (wks_one _) (by unfold maxLen; omega) (by omega) hB6.size ?_; intro vB w7 hownB hgB hatB; have hB7 : Below W5.heap.size W5 w7 := hB6.grown hgB hB6.size (fun k e => (hownA.lt k e).1); obtain ⟨aB, pB, rfl⟩ := (rowOwns hownB).slice)
            | fail)
          go_wp2_with fail
          go_meet
          rw [← wks_append] at hownB
          try rw [Nat.sub_add_cancel hkm] at hownB
          exact ⟨rfl, rfl, _, _, rfl, alx_start hB7 hb5 hr5 (fun j q => Nat.le_trans hb3s q) hk5 hownB hul (by rw [List.length_append, List.length_drop, List.length_take, hul]; omega) (by have := hb4s; omega)⟩
      --H}
    case rest =>
      clear hr5 hk5 hb5 hb04 hb2 HFEW HUN HW1 hW1 HR hW5
      obtain ⟨rfl, rfl, b, v1, rfl, hA⟩ := hcut
      obtain ⟨w8, rfl⟩ : ∃ z, z = wc := ⟨_, rfl⟩
      obtain ⟨u0, hu0⟩ : ∃ u, unRow 0 l = u := ⟨_, rfl⟩
      have hg0 : GoodWs u0 := by rw [← hu0]; exact GoodWs.of_un l (by have := HM.out; omega)
      have hlu : u0.length = m := by rw [← hu0, unRow_len]; exact HM.out
      rw [hu0] at hA
      obtain ⟨u1, hu1⟩ : ∃ u, u0.drop kk ++ u0.take kk = u := ⟨_, rfl⟩
      have hg1 : GoodWs u1 := by rw [← hu1]; exact hg0.turn kk
      have hmem : ∀ a, a ∈ u0 ↔ a ∈ u1 := fun a => by rw [← hu1]; exact ((turned_perm u0 kk).mem_iff).symm
      have hlu1 : u1.length = m := by rw [← hu1, (turned_perm u0 kk).length_eq, hlu]
      rw [hu1] at hA
      obtain ⟨bk, hbk⟩ : ∃ bk, w4.heap.size = bk := ⟨_, rfl⟩
      rw [hbk] at hA
      rw [hbk]
      clear hu0 hu1 hbk HM HF HB1 HBF
      have HG0 := Lib.hid hg0
      have HG1 := Lib.hid hg1
      have HMEM := Lib.hid hmem
      have HL0 := Lib.hid hlu
      have HL1 := Lib.hid hlu1
      have HA := Lib.hid hA
      clear hg0 hg1 hmem hlu hlu1 hA
      go_wp2_with fail
      go_loopw [56] (fun s56 wx => ∃ (side : Nat) (kv : List Value) (ks : Nat → List IK), side ≤ 2 ∧ s56 = .int .i64 side ∧ AlX w wx u0 u1 b (.slice a4 m d4) v1 bk kv ks (fun j => w.heap.size ≤ j) ∧ (∀ sd, sd < side → ∀ lv, lv < 6 → SK (if sd = 0 then u0 else u1) lv (ks (6 * sd + lv))) ∧ ∀ i, 6 * side ≤ i → ks i = []) (fun i _ => 2 - (intOf i).toNat)
      case atStart => exact ⟨0, _, _, by omega, rfl, HA.out, fun sd q => absurd q (Nat.not_lt_zero _), fun _ _ => rfl⟩
      case round =>
        clear HA
        obtain ⟨side, kv, ks, hside, rfl, hA, hdone, hrest⟩ := hrel
        by_cases hlt : side < 2
        · obtain ⟨us, hus⟩ : ∃ us, (if side = 0 then u0 else u1) = us := ⟨_, rfl⟩
          obtain ⟨vs, hvs⟩ : ∃ vs, (if side = 0 then (Value.slice a4 m d4) else v1) = vs := ⟨_, rfl⟩
          have zp : wr.cell? ⟨b, side, none⟩ = some vs := by
            have hs : side = 0 ∨ side = 1 := by omega
            rcases hs with rfl | rfl
            · rw [← hvs]; exact hA.p.cell 0 rfl
            · rw [← hvs]; exact hA.p.cell 1 rfl
          have hr : Row wr 40 5 vs m (wks us) (fun j => w.heap.size ≤ j) := by
            have hs : side = 0 ∨ side = 1 := by omega
            rcases hs with rfl | rfl
            · rw [← hvs, ← hus]; have := hA.r0; rw [HL0.out] at this; exact this
            · rw [← hvs, ← hus]; have := hA.r1; rw [HL1.out] at this; exact this
          have hgu : GoodWs us := by rw [← hus]; split <;> first | exact HG0.out | exact HG1.out
          have hlu : us.length = m := by rw [← hus]; split <;> first | exact HL0.out | exact HL1.out
          obtain ⟨ap, dp, rfl⟩ := hr.slice
          have HMD := Lib.hid (made_any wr 8000 (by decide) (by decide))
          go_wp2_with (go_at_call 12; refine HMD.out.mono ?_; rintro x w1 ⟨k, c, A, rfl, hM⟩; have hu := hM.units; have hL := hM.lw)
          have hA1 : AlX w w1 u0 u1 b (.slice a4 m d4) v1 bk kv ks (fun q => w.heap.size ≤ q ∧ ¬ A q) :=
            hA.to (fun q hq hh => ⟨hM.below.block q hq, hh, fun a => absurd (hM.new q a) (Nat.not_le.2 hq)⟩) (fun q hh => hh.1) (hA.below.trans (hM.below.mono hA.below.size))
          have hP0 : PutS k 2 20 RS.init [] := PutS.init 2 20 (by rw [hu]; decide)
          have HGU := Lib.hid hgu
          have HLU := Lib.hid hlu
          have HDN := Lib.hid hdone
          have HRS := Lib.hid hrest
          have HUS := Lib.hid hus
          have HSZ := Lib.hid hA.below.size
          obtain ⟨wz, rfl⟩ : ∃ z, z = wr := ⟨_, rfl⟩
          have HRW := Lib.hid hr
          clear hgu hlu hdone hrest hus hM HMD zp hA hr hvs
          go_loopw [70] (fun s70 wx => ∃ (j : Nat) (r : RS) (A' : Nat → Prop), j ≤ m ∧ s70 = .int .i64 j ∧ LW wz wx k c r.s A' ∧ PutS k 2 20 r (us.take j) ∧ AlX w wx u0 u1 b (.slice a4 m d4) v1 bk kv ks (fun q => w.heap.size ≤ q ∧ ¬ A' q)) (fun i _ => m - (intOf i).toNat)
          case atStart => exact ⟨0, RS.init, A, Nat.zero_le _, rfl, hL, by rw [List.take_zero]; exact hP0, hA1⟩
          case round =>
            clear hL hA1 hP0
            obtain ⟨j, r, A', hj, rfl, hL, hP, hA⟩ := hrel
            by_cases hjm : j < m
            · have hjl : j < us.length := by rw [HLU.out]; exact hjm
              obtain ⟨hok, hne, hnd⟩ := HGU.out.step j hjl
              have hbz := hL.below
              have hrx := (HRW.out.keep fun q hq => hbz.block q (HRW.out.lt hq)).reads
              rw [← HLU.out] at hrx
              obtain ⟨b5, o5, c5, hv5, hx⟩ := hrx.wk j hjl
              rw [HLU.out] at hv5
              cases hv5
              obtain ⟨a, ha⟩ : ∃ a, us[j] = a := ⟨_, rfl⟩
              rw [ha] at hx hok hne hnd
              have x0 := hx 0 _ rfl
              have x1 := hx 1 _ rfl
              have x2 := hx 2 _ rfl
              have x3 := hx 3 _ rfl
              have x4 := hx 4 _ rfl
              simp only [Nat.add_zero] at x0
              obtain ⟨W1, hW1⟩ : ∃ W, wr.alloc (.cells #[.string a.e.k.key, .int .u64 a.e.k.seq, .int .u8 a.e.k.kind, .string a.e.val, .int .i64 a.h] 40) = W := ⟨_, rfl⟩
              have kb : Blk W1 wr.heap.size 40 a.cells := by rw [← hW1]; exact Blk.new wr _ _
              have hb1 : Below wr.heap.size wr W1 := by rw [← hW1]; exact (Below.refl _ _).alloc (Nat.le_refl _) _
              have hL1 := hL.made hb1
              have hA1 : AlX w W1 u0 u1 b (.slice a4 m d4) v1 bk kv ks (fun q => w.heap.size ≤ q ∧ ¬ boxA A' wr.heap.size W1.heap.size q) := hA.to (fun q hq hh => ⟨hb1.block q hq, hh.1, fun z => hh.2 z.1⟩) (fun q hh => hh.1) (hA.below.trans (hb1.mono hA.below.size))
              have z0 := kb.cell 0 (v := .string a.e.k.key) rfl
              have z1 := kb.cell 1 (v := .int .u64 a.e.k.seq) rfl
              have z2 := kb.cell 2 (v := .int .u8 a.e.k.kind) rfl
              have z3 := kb.cell 3 (v := .string a.e.val) rfl
              have z4 := kb.cell 4 (v := .int .i64 a.h) rfl
              have HPUT := Lib.hid (hP.put hL1 side (by omega) (by decide) a hok (by rw [List.length_take]; omega) (by decide) (by decide) hne (by rw [hu]; exact hnd))
              have HA1 := Lib.hid hA1
              have HBA := Lib.hid (fun q => hL1.base q)
              have HAA := Lib.hid ha
              clear hL hP hA ha hx hrx hbz hL1 hA1 kb hb1 hok hne hnd
              go_wp2_with (go_at_call 13; refine HPUT.out.mono ?_; rintro x w2 ⟨rfl, r', hL2, hP2, ho2⟩)
              go_roundw
              case rel => exact ⟨j + 1, r', _, by omega, by go_num, hL2, by rw [List.take_succ_eq_append_getElem hjl, HAA.out]; exact hP2, HA1.out.to (fun q hq hh => ⟨ho2.block q hq hh.2, hh⟩) (fun q hh => hh.1) (HA1.out.below.trans (ho2.below HA1.out.below.size fun q hq z => absurd (HBA.out q z) (by have := HSZ.out; omega)))⟩
              case measure => first | (simp [intOf]; done) | (simp [intOf]; omega)
            · have htk : us.take j = us := List.take_of_length_le (by have := HLU.out; omega)
              rw [htk] at hP
              have htr := hP.tr
              rw [HLU.out] at htr
              have hl0 : (r.L 0).length = m := by rw [hP.all]; exact HLU.out
              have HRISE := Lib.hid (rise_any hL hP.rest.inv 9 (by decide) (by decide) (fun l hl => Nat.le_trans (hP.rest.inv.len l hl) (by decide)) (by unfold trMax; omega))
              have HPX := Lib.hid hP
              have HA1 := Lib.hid hA
              have HBA := Lib.hid (fun q => hL.base q)
              have HL0 := Lib.hid hl0
              clear hP hA hL hl0 htk
              go_wp2_with (go_at_call 14; refine HRISE.out.mono ?_; rintro x w2 ⟨vs, A2, t2, rfl, hvl, hvr, hL2, hs2, ho2, ht2⟩; obtain ⟨y0, y1, y2, y3, y4, y5, rfl⟩ := six_of hvl; obtain ⟨e0, f0, rfl⟩ : ∃ e f, y0 = .slice e m f := (by have := (hvr 0 (by decide) y0 rfl).slice; rw [HL0.out] at this; exact this); obtain ⟨e1, f1, rfl⟩ := (hvr 1 (by decide) y1 rfl).slice; obtain ⟨e2, f2, rfl⟩ := (hvr 2 (by decide) y2 rfl).slice; obtain ⟨e3, f3, rfl⟩ := (hvr 3 (by decide) y3 rfl).slice; obtain ⟨e4, f4, rfl⟩ := (hvr 4 (by decide) y4 rfl).slice; obtain ⟨e5, f5, rfl⟩ := (hvr 5 (by decide) y5 rfl).slice; obtain ⟨W3, hW3⟩ : ∃ W, w2.alloc (.cells #[.slice e0 m f0, .slice e1 (r.L 1).length f1, .slice e2 (r.L 2).length f2, .slice e3 (r.L 3).length f3, .slice e4 (r.L 4).length f4, .slice e5 (r.L 5).length f5] 44) = W := ⟨_, rfl⟩; obtain ⟨rv, hrv⟩ : ∃ rv : List Value, [.slice e0 m f0, .slice e1 (r.L 1).length f1, .slice e2 (r.L 2).length f2, .slice e3 (r.L 3).length f3, .slice e4 (r.L 4).length f4, .slice e5 (r.L 5).length f5] = rv := ⟨_, rfl⟩; have kbx : Blk W3 w2.heap.size 44 rv := (by rw [← hW3, ← hrv]; exact Blk.new _ _ _); have zz0 : W3.cell? ⟨w2.heap.size, 0, none⟩ = some (.slice e0 m f0) := kbx.cell 0 (by rw [← hrv]; rfl); rw [hrv] at hvr; have hb3 : Below w2.heap.size w2 W3 := (by rw [← hW3]; exact (Below.refl _ _).alloc (Nat.le_refl _) _); have hK := HA1.out.kyx (r := r) hL2 hs2 ho2 HBA.out HSZ.out hvr ht2 hb3 kbx; have HRV := Lib.hid (show rv.length = 6 by rw [← hrv]; rfl); clear hrv hvl hvr kbx hL2 hs2 ho2 ht2 hb3)
              have HK := Lib.hid hK
              have HRI := Lib.hid HPX.out.rest.inv
              clear hK hW3 zz0
              obtain ⟨wy, rfl⟩ : ∃ z, z = wr := ⟨_, rfl⟩
              obtain ⟨ab, hab⟩ : ∃ q, w2.heap.size = q := ⟨_, rfl⟩
              rw [hab] at HK
              rw [hab]
              clear hab
              go_loopw [98] (fun s98 wx => ∃ (n : Nat) (kv' : List Value) (ks' : Nat → List IK) (A3 : Nat → Prop), n ≤ 6 ∧ s98 = .int .i64 n ∧ KyX w wx k c r.s r.L A3 u0 u1 b (.slice a4 m d4) v1 bk kv' ks' ab rv wy.heap.size (1200 + 100 * n) ∧ (∀ lv, lv < n → ks' (6 * side + lv) = r.keysAt lv) ∧ (∀ i, 6 * side + n ≤ i → ks' i = []) ∧ ∀ i, i < 6 * side → ks' i = ks i) (fun i _ => 6 - (intOf i).toNat)
              case atStart => exact ⟨0, kv, ks, _, by omega, rfl, HK.out, fun lv q => absurd q (Nat.not_lt_zero _), HRS.out, fun _ _ => rfl⟩
              case round =>
                clear HK HA1
                obtain ⟨n, kv', ks', A3, hn6, rfl, hK, hd1, hr1, hs1⟩ := hrel
                by_cases hn : n < 6
                · obtain ⟨un, hun⟩ : ∃ u, rv[n]? = some u := ⟨_, List.getElem?_eq_getElem (by rw [HRV.out]; exact hn)⟩
                  have z0 := hK.box.cell n hun
                  obtain ⟨mn, hmn⟩ : ∃ q, (r.L n).length = q := ⟨_, rfl⟩
                  have hmn20 : mn ≤ 20 := by rw [← hmn]; exact HRI.out.len n hn
                  have hrow0 := hK.rows n hn un hun
                  rw [hmn] at hrow0
                  obtain ⟨an, cn, rfl⟩ := hrow0.slice
                  have HK := Lib.hid hK
                  have HD1 := Lib.hid hd1
                  have HR1 := Lib.hid hr1
                  have HS1 := Lib.hid hs1
                  have HUN := Lib.hid hun
                  have HMN := Lib.hid hmn
                  clear hK hd1 hr1 hs1 hun hmn hrow0
                  go_wp2_with fail
                  have hdn : decide ((n : Int) < 6) = true := decide_eq_true (by omega)
                  simp only [hdn]
                  clear hdn
                  obtain ⟨wv, rfl⟩ : ∃ z, z = wr := ⟨_, rfl⟩
                  go_loopw [105] (fun s105 wx => ∃ (i : Nat) (kv2 : List Value) (ks2 : Nat → List IK) (A4 : Nat → Prop), i ≤ mn ∧ s105 = .int .i64 i ∧ KyX w wx k c r.s r.L A4 u0 u1 b (.slice a4 m d4) v1 bk kv2 ks2 ab rv wy.heap.size (1200 + 100 * n + i) ∧ ks2 (6 * side + n) = (r.keysAt n).take i ∧ (∀ lv, lv < n → ks2 (6 * side + lv) = r.keysAt lv) ∧ (∀ i, 6 * side + n + 1 ≤ i → ks2 i = []) ∧ ∀ i, i < 6 * side → ks2 i = ks i) (fun i _ => mn - (intOf i).toNat)
                  case atStart => exact ⟨0, kv', ks', _, by omega, rfl, HK.out, by rw [HR1.out _ (Nat.le_refl _), List.take_zero], HD1.out, fun i q => HR1.out i (by omega), HS1.out⟩
                  case round =>
                    clear HK HR1 HS1 HD1 z0
                    obtain ⟨i, kv2, ks2, A4, him, rfl, hK, hi1, hd1, hr1, hs1⟩ := hrel
                    by_cases hi : i < mn
                    · have hil : i < (r.L n).length := by rw [HMN.out]; exact hi
                      obtain ⟨nd, hnd⟩ : ∃ q, (r.L n)[i] = q := ⟨_, rfl⟩
                      have hmem : nd ∈ r.L n := by rw [← hnd]; exact List.getElem_mem _
                      have hpn := HRI.out.node hn hmem
                      have hrow := hK.rows n hn _ HUN.out
                      rw [HMN.out] at hrow
                      rcases hrow.form with ⟨_, q⟩ | ⟨g, cap, e, _⟩
                      · omega
                      · cases e
                        have zi := hrow.atR i _ (ints_get hil)
                        rw [hnd] at zi
                        obtain ⟨x, hx⟩ : ∃ x, r.s.keys nd = x := ⟨_, rfl⟩
                        have hky := hK.keys 9 nd (by decide) (by decide) hpn.1 hpn.2 (by unfold trMax; omega)
                        rw [hx] at hky
                        have HKY := Lib.hid hky
                        have HI1 := Lib.hid hi1
                        have HD1 := Lib.hid hd1
                        have HR1 := Lib.hid hr1
                        have HS1 := Lib.hid hs1
                        have HX := Lib.hid hx
                        have HND := Lib.hid hnd
                        clear hK hi1 hd1 hr1 hs1 hx hnd hky hrow hmem hpn
                        have hzv : ((ikC x).toArray : Array Value) = #[.string x.key, .int .u64 x.seq, .int .u8 x.kind] := rfl
                        rw [hzv] at HKY
                        clear hzv
                        go_wp2_with (go_at_call 15; refine HKY.out.mono ?_; rintro e w4 ⟨rfl, hK4⟩; obtain ⟨W4, hW4⟩ : ∃ W, w4.alloc (.cells #[.string x.key, .int .u64 x.seq, .int .u8 x.kind] 36) = W := ⟨_, rfl⟩; have kx : Blk W4 w4.heap.size 36 [.string x.key, .int .u64 x.seq, .int .u8 x.kind] := (by rw [← hW4]; exact Blk.new _ _ _); have HLT4 := Lib.hid (fun (j : Nat) (u : Value) (q : Nat) (hu : kv2[j]? = some u) (hq : u.ownBlock = some q) => (hK4.al.kr j u hu).lt hq); have hK5 := hK4.made (w' := W4) (by rw [← hW4]; exact (Below.refl _ _).alloc (Nat.le_refl _) _); clear hK4)
                        obtain ⟨i0, hi0⟩ : ∃ q, side * 6 + n = q := ⟨_, rfl⟩
                        have hi6 : 6 * side + n = i0 := by omega
                        have hi12 : i0 < 12 := by omega
                        have hi1 := HI1.out
                        rw [hi6] at hi1
                        have hlen : (ks2 i0).length = i := by rw [hi1, List.length_take]; unfold RS.keysAt; rw [List.length_map, HMN.out]; omega
                        obtain ⟨vv, hvv⟩ : ∃ u, kv2[i0]? = some u := ⟨_, List.getElem?_eq_getElem (by rw [hK5.al.len]; exact hi12)⟩
                        have hb5 : Below W4.heap.size W4 (W4.alloc (.cells #[.string x.key, .int .u64 x.seq, .int .u8 x.kind] 36)).drew := ((Below.refl _ _).alloc (Nat.le_refl _) _).trans ⟨rfl, rfl, rfl, Nat.le_refl _, fun _ _ => rfl⟩
                        have hK6 := hK5.made hb5
                        have hrA := hK6.al.kr i0 vv hvv
                        rw [hlen] at hrA
                        obtain ⟨av, cv, rfl⟩ := hrA.slice
                        have hkb := hK6.al.kb
                        have y0 : W4.cell? ⟨bk, side * 6 + n, none⟩ = some (.slice av i cv) := by rw [hi0]; exact hK5.al.kb.cell i0 hvv
                        have y1 : (W4.alloc (.cells #[.string x.key, .int .u64 x.seq, .int .u8 x.kind] 36)).cell? ⟨bk, side * 6 + n, none⟩ = some (.slice av i cv) := by rw [hi0]; exact (hK5.al.kb.alloc _).cell i0 hvv
                        have hnews := Lib.hid (cells_fresh W4 ([.string x.key, .int .u64 x.seq, .int .u8 x.kind] : List Value) 36)
                        have kxd : Blk W4.drew w4.heap.size 36 [.string x.key, .int .u64 x.seq, .int .u8 x.kind] := kx.keep rfl
                        have kxa : Blk (W4.drew.alloc (.cells #[.string x.key, .int .u64 x.seq, .int .u8 x.kind] 36)) w4.heap.size 36 [.string x.key, .int .u64 x.seq, .int .u8 x.kind] := kxd.alloc _
                        have hbk : w4.heap.size ≠ bk := Blk.ne kx hK5.al.kb (by decide)
                        have HK6 := Lib.hid hK6
                        have HVV := Lib.hid hvv
                        have HLN := Lib.hid hlen
                        have HHI1 := Lib.hid hi1
                        have HHI0 := Lib.hid hi0
                        have HHI6 := Lib.hid hi6
                        obtain ⟨j0, hj, hz0, hz1, hz2⟩ := info_parts infoIk3
                        clear hK5 hK6 hvv hlen hi1 hi0 hi6 hW4 kx zi hb5
                        refine wp_region_held_drew (S := (fun y => Blk y w4.heap.size 36 [.string x.key, .int .u64 x.seq, .int .u8 x.kind])) (by kernel_rfl) kxd (fun hHeld => ?_)
                        refine wpAnyH_take (i := 0) (v := ?_) rfl (by kernel_rfl) (by kernel_rfl) (by kernel_rfl) (fun _ _ _ h => h) (Or.inl ⟨by kernel_rfl, ?_⟩) (by assumption) ?_
                        rotate_left
                        · (intro w hSw; (try dsimp only at hSw); go_simp; try with_reducible rfl)
                        try simp only [Act.put, List.getElem_toArray, List.getElem_cons_zero, List.getElem_cons_succ, List.setIfInBounds_toArray, List.set_cons_zero, List.set_cons_succ]
                        refine wpAnyH_take (i := 1) (v := ?_) rfl (by kernel_rfl) (by kernel_rfl) (by kernel_rfl) (fun _ _ _ h => h) (Or.inl ⟨by kernel_rfl, ?_⟩) (by assumption) ?_
                        rotate_left
                        · (intro w hSw; (try dsimp only at hSw); go_simp; try with_reducible rfl)
                        try simp only [Act.put, List.getElem_toArray, List.getElem_cons_zero, List.getElem_cons_succ, List.setIfInBounds_toArray, List.set_cons_zero, List.set_cons_succ]
                        refine wpAnyH_take (i := 2) (v := ?_) rfl (by kernel_rfl) (by kernel_rfl) (by kernel_rfl) (fun _ _ _ h => h) (Or.inl ⟨by kernel_rfl, ?_⟩) (by assumption) ?_
                        rotate_left
                        · (intro w hSw; (try dsimp only at hSw); go_simp; try with_reducible rfl)
                        try simp only [Act.put, List.getElem_toArray, List.getElem_cons_zero, List.getElem_cons_succ, List.setIfInBounds_toArray, List.set_cons_zero, List.set_cons_succ]
                        refine wpAnyH_take (i := 3) (v := ?_) rfl (by kernel_rfl) (by kernel_rfl) (by kernel_rfl) (fun _ _ _ h => h) (Or.inl ⟨by kernel_rfl, ?_⟩) (by assumption) ?_
                        rotate_left
                        · (intro w hSw; (try dsimp only at hSw); go_simp; try with_reducible rfl)
                        try simp only [Act.put, List.getElem_toArray, List.getElem_cons_zero, List.getElem_cons_succ, List.setIfInBounds_toArray, List.set_cons_zero, List.set_cons_succ]
                        refine wpAnyH_take (i := 4) (v := ?_) rfl (by kernel_rfl) (by kernel_rfl) (by kernel_rfl) (fun _ _ _ h => h) (Or.inl ⟨by kernel_rfl, ?_⟩) (by assumption) ?_
                        rotate_left
                        · (intro w hSw; (try dsimp only at hSw); go_simp; try with_reducible rfl)
                        try simp only [Act.put, List.getElem_toArray, List.getElem_cons_zero, List.getElem_cons_succ, List.setIfInBounds_toArray, List.set_cons_zero, List.set_cons_succ]
                        refine wpAnyH_take (i := 5) (v := ?_) rfl (by kernel_rfl) (by kernel_rfl) (by kernel_rfl) (fun _ _ _ h => h) (Or.inl ⟨by kernel_rfl, ?_⟩) (by assumption) ?_
                        rotate_left
                        · (intro w hSw; (try dsimp only at hSw); go_simp; try with_reducible rfl)
                        try simp only [Act.put, List.getElem_toArray, List.getElem_cons_zero, List.getElem_cons_succ, List.setIfInBounds_toArray, List.set_cons_zero, List.set_cons_succ]
                        refine wpAnyH_take (i := 7) (v := .agg #[.string x.key, .int .u64 x.seq, .int .u8 x.kind]) rfl (by kernel_rfl) (by kernel_rfl) (by kernel_rfl) (fun _ _ _ h => h) (Or.inl ⟨by kernel_rfl, ?_⟩) (by assumption) ?_
                        · (intro y hSw; have k0 := hSw.cell 0 (v := .string x.key) rfl; have k1 := hSw.cell 1 (v := .int .u64 x.seq) rfl; have k2 := hSw.cell 2 (v := .int .u8 x.kind) rfl; go_simp; try with_reducible rfl)
                        try simp only [Act.put, List.getElem_toArray, List.getElem_cons_zero, List.getElem_cons_succ, List.setIfInBounds_toArray, List.set_cons_zero, List.set_cons_succ]
                        refine wpAnyH_take (i := 10) (v := ?_) rfl (by kernel_rfl) (by kernel_rfl) (by kernel_rfl) (fun _ _ _ h => h) (Or.inl ⟨by kernel_rfl, ?_⟩) (by assumption) ?_
                        rotate_left
                        · (intro w hSw; (try dsimp only at hSw); go_simp; try with_reducible rfl)
                        try simp only [Act.put, List.getElem_toArray, List.getElem_cons_zero, List.getElem_cons_succ, List.setIfInBounds_toArray, List.set_cons_zero, List.set_cons_succ]
                        refine wpAnyH_ready (rs := [6, 8]) (by kernel_rfl) (by simp) ?_
                        refine AllReadyH.cons rfl (fun KK hKK => ?_) (AllReadyH.cons rfl (fun KK hKK => ?_) AllReadyH.nil)
                        · try skip
                          go_simp
                          refine hKK.out _ _ (by first | exact kxd | exact kxa) (fun hHeld1 => ?_)
                          clear hKK KK hHeld
                          try simp only [Act.put, List.getElem_toArray, List.getElem_cons_zero, List.getElem_cons_succ, List.setIfInBounds_toArray, List.set_cons_zero, List.set_cons_succ]
                          refine wpAnyH_ready (rs := [8]) (by kernel_rfl) (by simp) ?_
                          refine AllReadyH.cons rfl (fun KK hKK => ?_) AllReadyH.nil
                          go_simp
                          refine hKK.out _ _ kxa (fun hHeld2 => ?_)
                          clear hKK KK hHeld1
                          try simp only [Act.put, List.getElem_toArray, List.getElem_cons_zero, List.getElem_cons_succ, List.setIfInBounds_toArray, List.set_cons_zero, List.set_cons_succ]
                          refine wpAnyH_ready (rs := [9]) (by kernel_rfl) (by simp) ?_
                          refine AllReadyH.cons rfl (fun KK hKK => ?_) AllReadyH.nil
                          refine step_append_own rfl (.tmp 121) (.tmp 123) 27 rfl 0 36 j0 (.agg #[.string ⟨#[]⟩, .int .u64 0, .int .u8 0]) 3 32 Try.underlying27 hj hz0 hz1 hz2 rfl (by decide) (.slice av i cv) i (iks (ks2 i0)) (by rfl) hrA.owns ⟨W4.heap.size, 0, none⟩ 1 1 ([.string x.key, .int .u64 x.seq, .int .u8 x.kind] : List Value) (by rfl) rfl hnews.out (ik_one x) (by unfold maxLen; omega) (by omega) (Nat.zero_le _) ?_
                          intro v6 w6 hown6 hg6 _ hat6
                          have hK7 := HK6.out.append HVV.out x HLN.out hown6 ((Only.refl _ _).grown hg6 (fun k e => e)) (hat6.imp id fun h => ⟨_, h, Nat.le_refl _⟩)
                          have kx6 := kxa.grown hg6 (fun q => Nat.lt_irrefl _ (HLT4.out i0 _ _ HVV.out q))
                          have m6 := Blk.grown hkb hg6 (hrA.ne_blk hkb (by decide))
                          obtain ⟨g6, cp6, rfl⟩ := owns_succ hown6
                          have y2 : w6.cell? ⟨bk, side * 6 + n, none⟩ = some (.slice av i cv) := (by rw [HHI0.out]; exact m6.cell i0 HVV.out)
                          have f2 := m6.frozen (side * 6 + n)
                          rw [← HHI0.out] at hK7
                          refine hKK.out _ _ kx6 (fun hHeld3 => ?_)
                          clear hKK KK hHeld2
                          try simp only [Act.put, List.getElem_toArray, List.getElem_cons_zero, List.getElem_cons_succ, List.setIfInBounds_toArray, List.set_cons_zero, List.set_cons_succ]
                          refine wpAnyH_take (i := 11) (v := ?_) rfl (by kernel_rfl) (by kernel_rfl) (by kernel_rfl) (fun _ _ _ h => h) (Or.inl ⟨by kernel_rfl, ?_⟩) (by assumption) ?_
                          rotate_left
                          · (intro w hSw; (try dsimp only at hSw); go_simp; try with_reducible rfl)
                          try simp only [Act.put, List.getElem_toArray, List.getElem_cons_zero, List.getElem_cons_succ, List.setIfInBounds_toArray, List.set_cons_zero, List.set_cons_succ]
                          refine wpAnyH_ready (rs := [12]) (by kernel_rfl) (by simp) ?_
                          refine AllReadyH.cons rfl (fun KK hKK => ?_) AllReadyH.nil
                          go_simp
                          refine hKK.out _ _ (kx6.set_other hbk _) (fun hHeld4 => ?_)
                          clear hKK KK hHeld3
                          try simp only [Act.put, List.getElem_toArray, List.getElem_cons_zero, List.getElem_cons_succ, List.setIfInBounds_toArray, List.set_cons_zero, List.set_cons_succ]
                          refine wpAnyH_done (by kernel_rfl) ?_ _
                          go_wp2_with fail
                          go_roundw
                          case rel =>
                            have hi0 := HHI0.out
                            refine ⟨i + 1, _, _, _, by omega, by go_num, hK7, ?_, fun lv hlv => ?_, fun q hq => ?_, fun q hq => ?_⟩
                            · rw [HHI6.out, hi0, updK_self, HHI1.out, ← HX.out, ← HND.out]
                              have e : (r.keysAt n)[i]'(by unfold RS.keysAt; rw [List.length_map]; exact hil) = r.s.keys (r.L n)[i] := by unfold RS.keysAt; rw [List.getElem_map]
                              rw [← e, ← List.take_succ_eq_append_getElem]
                            · rw [updK_ne _ _ (by omega)]; exact HD1.out lv hlv
                            · rw [updK_ne _ _ (by omega)]; exact HR1.out q hq
                            · rw [updK_ne _ _ (by omega)]; exact HS1.out q hq
                          case measure => first | (simp [intOf]; done) | (simp [intOf]; omega)
                        · try skip
                          go_simp
                          refine hKK.out _ _ kxa (fun hHeld1 => ?_)
                          clear hKK KK hHeld
                          try simp only [Act.put, List.getElem_toArray, List.getElem_cons_zero, List.getElem_cons_succ, List.setIfInBounds_toArray, List.set_cons_zero, List.set_cons_succ]
                          refine wpAnyH_ready (rs := [6]) (by kernel_rfl) (by simp) ?_
                          refine AllReadyH.cons rfl (fun KK hKK => ?_) AllReadyH.nil
                          go_simp
                          refine hKK.out _ _ (by first | exact kxd | exact kxa) (fun hHeld2 => ?_)
                          clear hKK KK hHeld1
                          try simp only [Act.put, List.getElem_toArray, List.getElem_cons_zero, List.getElem_cons_succ, List.setIfInBounds_toArray, List.set_cons_zero, List.set_cons_succ]
                          refine wpAnyH_ready (rs := [9]) (by kernel_rfl) (by simp) ?_
                          refine AllReadyH.cons rfl (fun KK hKK => ?_) AllReadyH.nil
                          refine step_append_own rfl (.tmp 121) (.tmp 123) 27 rfl 0 36 j0 (.agg #[.string ⟨#[]⟩, .int .u64 0, .int .u8 0]) 3 32 Try.underlying27 hj hz0 hz1 hz2 rfl (by decide) (.slice av i cv) i (iks (ks2 i0)) (by rfl) hrA.owns ⟨W4.heap.size, 0, none⟩ 1 1 ([.string x.key, .int .u64 x.seq, .int .u8 x.kind] : List Value) (by rfl) rfl hnews.out (ik_one x) (by unfold maxLen; omega) (by omega) (Nat.zero_le _) ?_
                          intro v6 w6 hown6 hg6 _ hat6
                          have hK7 := HK6.out.append HVV.out x HLN.out hown6 ((Only.refl _ _).grown hg6 (fun k e => e)) (hat6.imp id fun h => ⟨_, h, Nat.le_refl _⟩)
                          have kx6 := kxa.grown hg6 (fun q => Nat.lt_irrefl _ (HLT4.out i0 _ _ HVV.out q))
                          have m6 := Blk.grown hkb hg6 (hrA.ne_blk hkb (by decide))
                          obtain ⟨g6, cp6, rfl⟩ := owns_succ hown6
                          have y2 : w6.cell? ⟨bk, side * 6 + n, none⟩ = some (.slice av i cv) := (by rw [HHI0.out]; exact m6.cell i0 HVV.out)
                          have f2 := m6.frozen (side * 6 + n)
                          rw [← HHI0.out] at hK7
                          refine hKK.out _ _ kx6 (fun hHeld3 => ?_)
                          clear hKK KK hHeld2
                          try simp only [Act.put, List.getElem_toArray, List.getElem_cons_zero, List.getElem_cons_succ, List.setIfInBounds_toArray, List.set_cons_zero, List.set_cons_succ]
                          refine wpAnyH_take (i := 11) (v := ?_) rfl (by kernel_rfl) (by kernel_rfl) (by kernel_rfl) (fun _ _ _ h => h) (Or.inl ⟨by kernel_rfl, ?_⟩) (by assumption) ?_
                          rotate_left
                          · (intro w hSw; (try dsimp only at hSw); go_simp; try with_reducible rfl)
                          try simp only [Act.put, List.getElem_toArray, List.getElem_cons_zero, List.getElem_cons_succ, List.setIfInBounds_toArray, List.set_cons_zero, List.set_cons_succ]
                          refine wpAnyH_ready (rs := [12]) (by kernel_rfl) (by simp) ?_
                          refine AllReadyH.cons rfl (fun KK hKK => ?_) AllReadyH.nil
                          go_simp
                          refine hKK.out _ _ (kx6.set_other hbk _) (fun hHeld4 => ?_)
                          clear hKK KK hHeld3
                          try simp only [Act.put, List.getElem_toArray, List.getElem_cons_zero, List.getElem_cons_succ, List.setIfInBounds_toArray, List.set_cons_zero, List.set_cons_succ]
                          refine wpAnyH_done (by kernel_rfl) ?_ _
                          go_wp2_with fail
                          go_roundw
                          case rel =>
                            have hi0 := HHI0.out
                            refine ⟨i + 1, _, _, _, by omega, by go_num, hK7, ?_, fun lv hlv => ?_, fun q hq => ?_, fun q hq => ?_⟩
                            · rw [HHI6.out, hi0, updK_self, HHI1.out, ← HX.out, ← HND.out]
                              have e : (r.keysAt n)[i]'(by unfold RS.keysAt; rw [List.length_map]; exact hil) = r.s.keys (r.L n)[i] := by unfold RS.keysAt; rw [List.getElem_map]
                              rw [← e, ← List.take_succ_eq_append_getElem]
                            · rw [updK_ne _ _ (by omega)]; exact HD1.out lv hlv
                            · rw [updK_ne _ _ (by omega)]; exact HR1.out q hq
                            · rw [updK_ne _ _ (by omega)]; exact HS1.out q hq
                          case measure => first | (simp [intOf]; done) | (simp [intOf]; omega)

                    · have hkl : (r.keysAt n).take i = r.keysAt n := List.take_of_length_le (by unfold RS.keysAt; rw [List.length_map, HMN.out]; omega)
                      rw [hkl] at hi1
                      have HX1 := Lib.hid hi1
                      have HX2 := Lib.hid hd1
                      have HX3 := Lib.hid hr1
                      have HX4 := Lib.hid hs1
                      have HX5 := Lib.hid hK
                      clear hK hi1 hd1 hr1 hs1 hkl
                      go_wp2_with fail
                      go_roundw
                      case rel => exact ⟨n + 1, kv2, ks2, A4, by omega, by go_num, HX5.out.mono (by omega), fun lv hlv => (by by_cases e : lv = n; exact e ▸ HX1.out; exact HX2.out lv (by omega)), fun q hq => HX3.out q (by omega), HX4.out⟩
                      case measure => first | (simp [intOf]; done) | (simp [intOf]; omega)
                · have e6 : n = 6 := by omega
                  subst e6
                  have HX1 := Lib.hid hK.al
                  have HX2 := Lib.hid hd1
                  have HX3 := Lib.hid hr1
                  have HX4 := Lib.hid hs1
                  clear hK hd1 hr1 hs1
                  go_wp2_with fail
                  go_roundw
                  case rel =>
                    refine ⟨side + 1, kv', ks', by omega, by go_num, HX1.out.to (fun q _ hh => ⟨rfl, hh.1⟩) (fun q hh => hh) HX1.out.below, fun sd hsd lv hlv => ?_, fun i hi => HX3.out i (by omega)⟩
                    by_cases e : sd = side
                    · subst e
                      rw [HUS.out, HX2.out lv hlv]
                      exact HPX.out.sk hlv
                    · rw [HX4.out _ (by omega)]
                      exact HDN.out sd (by omega) lv hlv
                  case measure => first | (simp [intOf]; done) | (simp [intOf]; omega)
        · have h2 : side = 2 := by omega
          subst h2
          have heq : ∀ lv, lv < 6 → ks lv = ks (6 + lv) := fun lv hl => by
            have q0 := hdone 0 (by decide) lv hl
            have q1 := hdone 1 (by decide) lv hl
            rw [if_pos rfl, Nat.mul_zero, Nat.zero_add] at q0
            rw [if_neg (by decide)] at q1
            exact q0.unique q1 HMEM.out
          have HEQ := Lib.hid heq
          have HA2 := Lib.hid hA
          have HAW := Lib.hid awake19
          clear hdone hrest heq hA
          go_wp2_with fail
          obtain ⟨wy, rfl⟩ : ∃ z, z = wr := ⟨_, rfl⟩
          go_loopw [130] (fun s130 wx => ∃ n : Nat, n ≤ 6 ∧ s130 = .int .i64 n ∧ Quiet wy wx) (fun i _ => 6 - (intOf i).toNat)
          case atStart => exact ⟨0, by omega, rfl, Quiet.refl _⟩
          case round =>
            obtain ⟨n, hn6, rfl, hq⟩ := hrel
            have hB := HA2.out.below.trans ((hq.below wy.heap.size).mono HA2.out.below.size)
            have hA := HA2.out.to (w' := wr) (fun q hq' hh => ⟨(hq.below wy.heap.size).block q hq', hh⟩) (fun q hh => hh) hB
            by_cases hn : n < 6
            · obtain ⟨p0, hp0⟩ : ∃ u, kv[n]? = some u := ⟨_, List.getElem?_eq_getElem (by rw [hA.len]; omega)⟩
              obtain ⟨p1, hp1⟩ : ∃ u, kv[6 + n]? = some u := ⟨_, List.getElem?_eq_getElem (by rw [hA.len]; omega)⟩
              have r0 := hA.kr n p0 hp0
              have r1 := hA.kr (6 + n) p1 hp1
              rw [← HEQ.out n hn] at r1
              obtain ⟨mn, hmn⟩ : ∃ q, (ks n).length = q := ⟨_, rfl⟩
              rw [hmn] at r0 r1
              obtain ⟨a0, c0, rfl⟩ := r0.slice
              obtain ⟨a1, c1, rfl⟩ := r1.slice
              have y0 := hA.kb.cell n hp0
              have y1 := hA.kb.cell (6 + n) hp1
              have HMN := Lib.hid hmn
              have R0 := Lib.hid r0
              have R1 := Lib.hid r1
              have HB := Lib.hid hB
              have HKB := Lib.hid hA.kb
              have HP0 := Lib.hid hp0
              have HP1 := Lib.hid hp1
              clear hp0 hp1 r0 r1 hmn hA hB
              go_wp2_with fail
              refine wp_region_held_drew (S := (fun y => Quiet wr y)) (by kernel_rfl) ⟨⟨1, rfl⟩⟩ (fun hHeld => ?_)
              refine wpAnyH_take (i := 0) (v := ?_) rfl (by kernel_rfl) (by kernel_rfl) (by kernel_rfl) (fun _ _ _ h => h) (Or.inl ⟨by kernel_rfl, ?_⟩) (by assumption) ?_
              rotate_left
              · (intro w hSw; (try dsimp only at hSw); go_simp; try with_reducible rfl)
              try simp only [Act.put, List.getElem_toArray, List.getElem_cons_zero, List.getElem_cons_succ, List.setIfInBounds_toArray, List.set_cons_zero, List.set_cons_succ]
              refine wpAnyH_take (i := 1) (v := ?_) rfl (by kernel_rfl) (by kernel_rfl) (by kernel_rfl) (fun _ _ _ h => h) (Or.inl ⟨by kernel_rfl, ?_⟩) (by assumption) ?_
              rotate_left
              · (intro w hSw; (try dsimp only at hSw); go_simp; try with_reducible rfl)
              try simp only [Act.put, List.getElem_toArray, List.getElem_cons_zero, List.getElem_cons_succ, List.setIfInBounds_toArray, List.set_cons_zero, List.set_cons_succ]
              refine wpAnyH_take (i := 2) (v := ?_) rfl (by kernel_rfl) (by kernel_rfl) (by kernel_rfl) (fun _ _ _ h => h) (Or.inl ⟨by kernel_rfl, ?_⟩) (by assumption) ?_
              rotate_left
              · (intro w hSw; (try dsimp only at hSw); go_simp; try with_reducible rfl)
              try simp only [Act.put, List.getElem_toArray, List.getElem_cons_zero, List.getElem_cons_succ, List.setIfInBounds_toArray, List.set_cons_zero, List.set_cons_succ]
              refine wpAnyH_take (i := 3) (v := .slice a0 mn c0) rfl (by kernel_rfl) (by kernel_rfl) (by kernel_rfl) (fun _ _ _ h => h) (Or.inl ⟨by kernel_rfl, ?_⟩) (by assumption) ?_
              · (intro y hSw; obtain ⟨⟨qn, rfl⟩⟩ := hSw; go_simp; try with_reducible rfl)
              try simp only [Act.put, List.getElem_toArray, List.getElem_cons_zero, List.getElem_cons_succ, List.setIfInBounds_toArray, List.set_cons_zero, List.set_cons_succ]
              refine wpAnyH_take (i := 4) (v := ?_) rfl (by kernel_rfl) (by kernel_rfl) (by kernel_rfl) (fun _ _ _ h => h) (Or.inl ⟨by kernel_rfl, ?_⟩) (by assumption) ?_
              rotate_left
              · (intro w hSw; (try dsimp only at hSw); go_simp; try with_reducible rfl)
              try simp only [Act.put, List.getElem_toArray, List.getElem_cons_zero, List.getElem_cons_succ, List.setIfInBounds_toArray, List.set_cons_zero, List.set_cons_succ]
              refine wpAnyH_take (i := 5) (v := ?_) rfl (by kernel_rfl) (by kernel_rfl) (by kernel_rfl) (fun _ _ _ h => h) (Or.inl ⟨by kernel_rfl, ?_⟩) (by assumption) ?_
              rotate_left
              · (intro w hSw; (try dsimp only at hSw); go_simp; try with_reducible rfl)
              try simp only [Act.put, List.getElem_toArray, List.getElem_cons_zero, List.getElem_cons_succ, List.setIfInBounds_toArray, List.set_cons_zero, List.set_cons_succ]
              refine wpAnyH_take (i := 6) (v := ?_) rfl (by kernel_rfl) (by kernel_rfl) (by kernel_rfl) (fun _ _ _ h => h) (Or.inl ⟨by kernel_rfl, ?_⟩) (by assumption) ?_
              rotate_left
              · (intro w hSw; (try dsimp only at hSw); go_simp; try with_reducible rfl)
              try simp only [Act.put, List.getElem_toArray, List.getElem_cons_zero, List.getElem_cons_succ, List.setIfInBounds_toArray, List.set_cons_zero, List.set_cons_succ]
              refine wpAnyH_take (i := 7) (v := ?_) rfl (by kernel_rfl) (by kernel_rfl) (by kernel_rfl) (fun _ _ _ h => h) (Or.inl ⟨by kernel_rfl, ?_⟩) (by assumption) ?_
              rotate_left
              · (intro w hSw; (try dsimp only at hSw); go_simp; try with_reducible rfl)
              try simp only [Act.put, List.getElem_toArray, List.getElem_cons_zero, List.getElem_cons_succ, List.setIfInBounds_toArray, List.set_cons_zero, List.set_cons_succ]
              refine wpAnyH_take (i := 8) (v := .slice a1 mn c1) rfl (by kernel_rfl) (by kernel_rfl) (by kernel_rfl) (fun _ _ _ h => h) (Or.inl ⟨by kernel_rfl, ?_⟩) (by assumption) ?_
              · (intro y hSw; obtain ⟨⟨qn, rfl⟩⟩ := hSw; go_simp; try with_reducible rfl)
              try simp only [Act.put, List.getElem_toArray, List.getElem_cons_zero, List.getElem_cons_succ, List.setIfInBounds_toArray, List.set_cons_zero, List.set_cons_succ]
              refine wpAnyH_take (i := 9) (v := ?_) rfl (by kernel_rfl) (by kernel_rfl) (by kernel_rfl) (fun _ _ _ h => h) (Or.inl ⟨by kernel_rfl, ?_⟩) (by assumption) ?_
              rotate_left
              · (intro w hSw; (try dsimp only at hSw); go_simp; try with_reducible rfl)
              try simp only [Act.put, List.getElem_toArray, List.getElem_cons_zero, List.getElem_cons_succ, List.setIfInBounds_toArray, List.set_cons_zero, List.set_cons_succ]
              refine wpAnyH_take (i := 10) (v := ?_) rfl (by kernel_rfl) (by kernel_rfl) (by kernel_rfl) (fun _ _ _ h => h) (Or.inl ⟨by kernel_rfl, ?_⟩) (by assumption) ?_
              rotate_left
              · (intro w hSw; (try dsimp only at hSw); go_simp; try with_reducible rfl)
              try simp only [Act.put, List.getElem_toArray, List.getElem_cons_zero, List.getElem_cons_succ, List.setIfInBounds_toArray, List.set_cons_zero, List.set_cons_succ]
              refine wpAnyH_done (by kernel_rfl) ?_ _

              go_wp2_with fail
              have hdn : decide ((n : Int) < 6) = true := decide_eq_true (by omega)
              simp only [hdn]
              clear hdn y0 y1
              obtain ⟨wv, rfl⟩ : ∃ z, z = wr := ⟨_, rfl⟩
              go_loopw [149] (fun s149 wx => ∃ p : Nat, p ≤ mn ∧ s149 = .int .i64 p ∧ Quiet wv wx) (fun i _ => mn - (intOf i).toNat)
              case atStart => exact ⟨0, by omega, rfl, ⟨⟨1, rfl⟩⟩⟩
              case round =>
                obtain ⟨p, hp, rfl, hqp⟩ := hrel
                by_cases hpm : p < mn
                · have hpl : p < (ks n).length := by rw [HMN.out]; exact hpm
                  obtain ⟨x, hx⟩ : ∃ x, (ks n)[p] = x := ⟨_, rfl⟩
                  have hkb := HKB.out.keep ((hqp.below _).block _ HKB.out.lt)
                  have y0 := hkb.cell n HP0.out
                  have y1 := hkb.cell (6 + n) HP1.out
                  have r0 := R0.out.keep fun q hq => (hqp.below _).block q (R0.out.lt hq)
                  have r1 := R1.out.keep fun q hq => (hqp.below _).block q (R1.out.lt hq)
                  rcases r0.form with ⟨_, q⟩ | ⟨g0, cap0, e, _⟩
                  · omega
                  rcases r1.form with ⟨_, q⟩ | ⟨g1, cap1, e1, _⟩
                  · omega
                  have hmn63 := r0.len63
                  cases e
                  cases e1
                  obtain ⟨a0, a1, a2⟩ := iks_cells r0 hpl
                  obtain ⟨b0, b1, b2⟩ := iks_cells r1 hpl
                  rw [hx] at a0 a1 a2 b0 b1 b2
                  clear r0 r1 hkb hx hq
                  go_wp2_with fail
                  refine wp_region_held_drew (S := (fun y => Quiet wr y)) (by kernel_rfl) ⟨⟨1, rfl⟩⟩ (fun hHeld => ?_)
                  refine wpAnyH_take (i := 0) (v := ?_) rfl (by kernel_rfl) (by kernel_rfl) (by kernel_rfl) (fun _ _ _ h => h) (Or.inl ⟨by kernel_rfl, ?_⟩) (by assumption) ?_
                  rotate_left
                  · (intro w hSw; (try dsimp only at hSw); go_simp; try with_reducible rfl)
                  try simp only [Act.put, List.getElem_toArray, List.getElem_cons_zero, List.getElem_cons_succ, List.setIfInBounds_toArray, List.set_cons_zero, List.set_cons_succ]
                  refine wpAnyH_take (i := 1) (v := ?_) rfl (by kernel_rfl) (by kernel_rfl) (by kernel_rfl) (fun _ _ _ h => h) (Or.inl ⟨by kernel_rfl, ?_⟩) (by assumption) ?_
                  rotate_left
                  · (intro w hSw; (try dsimp only at hSw); go_simp; try with_reducible rfl)
                  try simp only [Act.put, List.getElem_toArray, List.getElem_cons_zero, List.getElem_cons_succ, List.setIfInBounds_toArray, List.set_cons_zero, List.set_cons_succ]
                  refine wpAnyH_take (i := 2) (v := ?_) rfl (by kernel_rfl) (by kernel_rfl) (by kernel_rfl) (fun _ _ _ h => h) (Or.inl ⟨by kernel_rfl, ?_⟩) (by assumption) ?_
                  rotate_left
                  · (intro w hSw; (try dsimp only at hSw); go_simp; try with_reducible rfl)
                  try simp only [Act.put, List.getElem_toArray, List.getElem_cons_zero, List.getElem_cons_succ, List.setIfInBounds_toArray, List.set_cons_zero, List.set_cons_succ]
                  refine wpAnyH_take (i := 3) (v := .slice (some ⟨g0, 0, none⟩) mn c0) rfl (by kernel_rfl) (by kernel_rfl) (by kernel_rfl) (fun _ _ _ h => h) (Or.inl ⟨by kernel_rfl, ?_⟩) (by assumption) ?_
                  · (intro y hSw; obtain ⟨⟨qn, rfl⟩⟩ := hSw; go_simp; try with_reducible rfl)
                  try simp only [Act.put, List.getElem_toArray, List.getElem_cons_zero, List.getElem_cons_succ, List.setIfInBounds_toArray, List.set_cons_zero, List.set_cons_succ]
                  refine wpAnyH_take (i := 4) (v := ?_) rfl (by kernel_rfl) (by kernel_rfl) (by kernel_rfl) (fun _ _ _ h => h) (Or.inl ⟨by kernel_rfl, ?_⟩) (by assumption) ?_
                  rotate_left
                  · (intro w hSw; (try dsimp only at hSw); go_simp; try with_reducible rfl)
                  try simp only [Act.put, List.getElem_toArray, List.getElem_cons_zero, List.getElem_cons_succ, List.setIfInBounds_toArray, List.set_cons_zero, List.set_cons_succ]
                  refine wpAnyH_take (i := 5) (v := ?_) rfl (by kernel_rfl) (by kernel_rfl) (by kernel_rfl) (fun _ _ _ h => h) (Or.inl ⟨by kernel_rfl, ?_⟩) (by assumption) ?_
                  rotate_left
                  · (intro w hSw; (try dsimp only at hSw); go_simp; try with_reducible rfl)
                  try simp only [Act.put, List.getElem_toArray, List.getElem_cons_zero, List.getElem_cons_succ, List.setIfInBounds_toArray, List.set_cons_zero, List.set_cons_succ]
                  refine wpAnyH_take (i := 6) (v := .agg #[.string x.key, .int .u64 x.seq, .int .u8 x.kind]) rfl (by kernel_rfl) (by kernel_rfl) (by kernel_rfl) (fun _ _ _ h => h) (Or.inl ⟨by kernel_rfl, ?_⟩) (by assumption) ?_
                  · (intro y hSw; obtain ⟨⟨qn, rfl⟩⟩ := hSw; go_simp; try with_reducible rfl)
                  try simp only [Act.put, List.getElem_toArray, List.getElem_cons_zero, List.getElem_cons_succ, List.setIfInBounds_toArray, List.set_cons_zero, List.set_cons_succ]
                  refine wpAnyH_take (i := 7) (v := ?_) rfl (by kernel_rfl) (by kernel_rfl) (by kernel_rfl) (fun _ _ _ h => h) (Or.inl ⟨by kernel_rfl, ?_⟩) (by assumption) ?_
                  rotate_left
                  · (intro w hSw; (try dsimp only at hSw); go_simp; try with_reducible rfl)
                  try simp only [Act.put, List.getElem_toArray, List.getElem_cons_zero, List.getElem_cons_succ, List.setIfInBounds_toArray, List.set_cons_zero, List.set_cons_succ]
                  refine wpAnyH_take (i := 8) (v := ?_) rfl (by kernel_rfl) (by kernel_rfl) (by kernel_rfl) (fun _ _ _ h => h) (Or.inl ⟨by kernel_rfl, ?_⟩) (by assumption) ?_
                  rotate_left
                  · (intro w hSw; (try dsimp only at hSw); go_simp; try with_reducible rfl)
                  try simp only [Act.put, List.getElem_toArray, List.getElem_cons_zero, List.getElem_cons_succ, List.setIfInBounds_toArray, List.set_cons_zero, List.set_cons_succ]
                  refine wpAnyH_take (i := 9) (v := ?_) rfl (by kernel_rfl) (by kernel_rfl) (by kernel_rfl) (fun _ _ _ h => h) (Or.inl ⟨by kernel_rfl, ?_⟩) (by assumption) ?_
                  rotate_left
                  · (intro w hSw; (try dsimp only at hSw); go_simp; try with_reducible rfl)
                  try simp only [Act.put, List.getElem_toArray, List.getElem_cons_zero, List.getElem_cons_succ, List.setIfInBounds_toArray, List.set_cons_zero, List.set_cons_succ]
                  refine wpAnyH_take (i := 10) (v := .slice (some ⟨g1, 0, none⟩) mn c1) rfl (by kernel_rfl) (by kernel_rfl) (by kernel_rfl) (fun _ _ _ h => h) (Or.inl ⟨by kernel_rfl, ?_⟩) (by assumption) ?_
                  · (intro y hSw; obtain ⟨⟨qn, rfl⟩⟩ := hSw; go_simp; try with_reducible rfl)
                  try simp only [Act.put, List.getElem_toArray, List.getElem_cons_zero, List.getElem_cons_succ, List.setIfInBounds_toArray, List.set_cons_zero, List.set_cons_succ]
                  refine wpAnyH_take (i := 11) (v := ?_) rfl (by kernel_rfl) (by kernel_rfl) (by kernel_rfl) (fun _ _ _ h => h) (Or.inl ⟨by kernel_rfl, ?_⟩) (by assumption) ?_
                  rotate_left
                  · (intro w hSw; (try dsimp only at hSw); go_simp; try with_reducible rfl)
                  try simp only [Act.put, List.getElem_toArray, List.getElem_cons_zero, List.getElem_cons_succ, List.setIfInBounds_toArray, List.set_cons_zero, List.set_cons_succ]
                  refine wpAnyH_take (i := 12) (v := ?_) rfl (by kernel_rfl) (by kernel_rfl) (by kernel_rfl) (fun _ _ _ h => h) (Or.inl ⟨by kernel_rfl, ?_⟩) (by assumption) ?_
                  rotate_left
                  · (intro w hSw; (try dsimp only at hSw); go_simp; try with_reducible rfl)
                  try simp only [Act.put, List.getElem_toArray, List.getElem_cons_zero, List.getElem_cons_succ, List.setIfInBounds_toArray, List.set_cons_zero, List.set_cons_succ]
                  refine wpAnyH_take (i := 13) (v := .agg #[.string x.key, .int .u64 x.seq, .int .u8 x.kind]) rfl (by kernel_rfl) (by kernel_rfl) (by kernel_rfl) (fun _ _ _ h => h) (Or.inl ⟨by kernel_rfl, ?_⟩) (by assumption) ?_
                  · (intro y hSw; obtain ⟨⟨qn, rfl⟩⟩ := hSw; go_simp; try with_reducible rfl)
                  try simp only [Act.put, List.getElem_toArray, List.getElem_cons_zero, List.getElem_cons_succ, List.setIfInBounds_toArray, List.set_cons_zero, List.set_cons_succ]
                  refine wpAnyH_take (i := 14) (v := .bool false) rfl (by kernel_rfl) (by kernel_rfl) (by kernel_rfl) (fun _ _ _ h => h) (Or.inl ⟨by kernel_rfl, ?_⟩) (by assumption) ?_
                  · (intro y hSw; obtain ⟨⟨qn, rfl⟩⟩ := hSw; go_simp; try with_reducible rfl)
                  try simp only [Act.put, List.getElem_toArray, List.getElem_cons_zero, List.getElem_cons_succ, List.setIfInBounds_toArray, List.set_cons_zero, List.set_cons_succ]
                  refine wpAnyH_done (by kernel_rfl) ?_ _

                  go_wp2_with fail
                  go_roundw
                  case rel => exact ⟨p + 1, by omega, by go_num, hqp.trans ⟨⟨1, rfl⟩⟩⟩
                  case measure => first | (simp [intOf]; done) | (simp [intOf]; omega)
                · go_wp2_with fail
                  go_roundw
                  case rel => exact ⟨n + 1, by omega, by go_num, hq.trans hqp⟩
                  case measure => first | (simp [intOf]; done) | (simp [intOf]; omega)
            · go_wp2_with (go_at_call 10; refine (HAW.out _).mono ?_; rintro x w3 ⟨rfl, hb3⟩)
              go_ret
              exact ⟨rfl, hB.trans (hb3.mono hB.size)⟩
  · have HAW := Lib.hid awake19
    have hno : (bf = false) ∨ (bf = true ∧ 20 < m) := by
      cases bf
      · exact .inl rfl
      · exact .inr ⟨rfl, by have q : ¬ m ≤ 20 := (fun q => hgo ⟨rfl, q⟩); omega⟩
    rcases hno with hno | ⟨hno, h20⟩
    all_goals
      subst hno
      go_wp2_with (first | (go_at_call 9; refine HFEW.out.mono ?_; rintro x w2 ⟨rfl, hb2⟩; rw [HBF.out]) | (go_at_call 10; refine (HAW.out _).mono ?_; rintro x w3 ⟨rfl, hb3⟩))
      go_ret
      have h2 := HB1.out.trans (hb2.mono HB1.out.size)
      exact ⟨rfl, h2.trans (hb3.mono h2.size)⟩
theorem skipAlone_int (w : World) (v : Value) (l : List Wk) (hr : Reads w 5 v l.length (wks l)) (hf : ∀ a, a ∈ l → WkFits a) (hmax : l.length ≤ 1000000000000000) (turn : Int) (ht : 0 ≤ turn ∧ turn ≤ 255) :
    Calls Try.prog 3 #[v, .int .u8 turn] w fun e w' => e = .returned (.bool true) ∧ Below w.heap.size w w' := by
  obtain ⟨n, rfl⟩ : ∃ n : Nat, turn = n := ⟨turn.toNat, by omega⟩
  exact skipAlone w v l hr hf hmax n (by omega)
end Go.Proofs.Ytkpjfdhjkgdcbaa
