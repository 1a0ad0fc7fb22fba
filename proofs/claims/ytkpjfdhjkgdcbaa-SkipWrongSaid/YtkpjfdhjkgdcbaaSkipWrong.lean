/- Law 19 SkipWrong: the walk. -/
import Derived.Test.YtkpjfdhjkgdcbaaSkipAll
import Derived.Test.YtkpjfdhjkgdcbaaSkipNone
import Derived.Deep.CutBlock
namespace Go.Proofs.Ytkpjfdhjkgdcbaa
open Go.RowKit

def zeroL : List Value := [.pointer none, .pointer none, .int .i64 0, .int .i64 0, .int .i64 0]
/-- The two lists that are none, in the round's world; the entry's box. -/
structure TwoL (w wr : World) (e : En) : Prop where
  ent : Blk wr w.heap.size 38 (enC e)
  zero : Blk wr (w.heap.size + 1) 98 zeroL
  two : Blk wr (w.heap.size + 1 + 1) 30 [.pointer none, .pointer (some ⟨w.heap.size + 1, 0, none⟩)]
  below : Below w.heap.size w wr
theorem TwoL.go {w wr wr' : World} {e : En} (h : TwoL w wr e) (hb : Below wr.heap.size wr wr') : TwoL w wr' e :=
  ⟨h.ent.keep (hb.block _ h.ent.lt), h.zero.keep (hb.block _ h.zero.lt), h.two.keep (hb.block _ h.two.lt), h.below.trans (hb.mono h.below.size)⟩
theorem TwoL.at_ {w wr : World} {e : En} (h : TwoL w wr e) (k : Nat) (hk : k < 2) : ∃ a, wr.cell? ⟨w.heap.size + 1 + 1, k, none⟩ = some (.pointer a) ∧ NoList wr (.pointer a) := by
  match k, hk with
  | 0, _ => exact ⟨none, h.two.cell 0 rfl, ⟨.inl rfl⟩⟩
  | 1, _ => exact ⟨some ⟨w.heap.size + 1, 0, none⟩, h.two.cell 1 rfl, ⟨.inr ⟨_, rfl, h.zero⟩⟩⟩
theorem TwoL.init (w : World) (e : En) : TwoL w (((w.alloc (.cells (enC e).toArray 38)).alloc (.cells zeroL.toArray 98)).alloc (.cells #[.pointer none, .pointer (some ⟨w.heap.size + 1, 0, none⟩)] 30)) e := by
  obtain ⟨W, hW, k1, k2, k3, hB, _⟩ := three_boxes w (enC e) zeroL [.pointer none, .pointer (some ⟨w.heap.size + 1, 0, none⟩)] 38 98 30
  rw [hW]
  exact ⟨k1, k2, k3, hB⟩
def zeroI : List Value := [.pointer none, .int .i64 0, .string ⟨#[]⟩, .int .u64 0, .int .u8 0, .string ⟨#[]⟩, .int .i64 0, .int .i64 0, .int .i64 0, .int .i64 0, .int .i64 0, .int .i64 0, .int .i64 0, .int .i64 0, .int .i64 0, .int .i64 0, .int .i64 0, .int .i64 0, .int .i64 0, .int .i64 0, .int .i64 0, .bool false, .nilFunc, .int .i64 0]
structure TwoI (w w1 wr : World) (e : En) : Prop where
  ent : Blk wr w.heap.size 38 (enC e)
  zero : Blk wr w1.heap.size 106 zeroI
  two : Blk wr (w1.heap.size + 1) 77 [.pointer none, .pointer (some ⟨w1.heap.size, 0, none⟩)]
  below : Below w.heap.size w wr
theorem TwoI.at_ {w w1 wr : World} {e : En} (h : TwoI w w1 wr e) (k : Nat) (hk : k < 2) : ∃ a, wr.cell? ⟨w1.heap.size + 1, k, none⟩ = some (.pointer a) ∧ Calls Try.prog 26 #[.pointer a] wr fun r w' => r = .returned (.tuple #[.bool false, .int .i64 1]) ∧ wr = w' := by
  match k, hk with
  | 0, _ => exact ⟨none, h.two.cell 0 rfl, step_nil wr⟩
  | 1, _ => exact ⟨some ⟨w1.heap.size, 0, none⟩, h.two.cell 1 rfl, step_none (h.zero.cell 0 rfl)⟩
theorem TwoI.init {w w1 : World} {e : En} (h : TwoL w w1 e) : TwoI w w1 ((w1.alloc (.cells zeroI.toArray 106)).alloc (.cells #[.pointer none, .pointer (some ⟨w1.heap.size, 0, none⟩)] 77)) e := by
  obtain ⟨W, hW, k1, k2, hB, _⟩ := two_boxes w1 zeroI [.pointer none, .pointer (some ⟨w1.heap.size, 0, none⟩)] 106 77
  rw [hW]
  exact ⟨h.ent.keep (hB.block _ h.ent.lt), k1, k2, h.below.trans (hB.mono h.below.size)⟩
set_option maxRecDepth 100000 in
set_option maxHeartbeats 4000000 in
theorem skipWrong (w : World) (task node level height : Int) (e : En) (hw : e.k.Wf) (hv : e.val.size ≤ 9223372036854775807) (hh : -9223372036854775808 ≤ height ∧ height ≤ 9223372036854775807) :
    Calls Try.prog 8 #[.int .i64 task, .int .i64 node, .int .i64 level, .int .i64 height, .agg (enC e).toArray] w fun e w' => e = .returned (.bool true) ∧ Below w.heap.size w w' := by
  have h0 := TwoL.init w e
  have HW := Lib.hid hw
  clear hw
  go_enter Try.func8, Try.ntmps8
  go_wp2_with fail
  go_loopw [53] (fun i wr => ∃ k : Nat, k ≤ 2 ∧ i = .int .i64 k ∧ TwoL w wr e) (fun i _ => 2 - (intOf i).toNat)
  case atStart => exact ⟨0, by omega, rfl, h0⟩
  case round =>
    clear h0
    obtain ⟨k, hk, rfl, hT⟩ := hrel
    by_cases hlt : k < 2
    · as_aux_lemma =>
      obtain ⟨a, hc, hN⟩ := hT.at_ k hlt
      have HN := Lib.hid hN
      have HTT := Lib.hid hT
      clear hT hN
      go_wp2_with (first
        | (go_at_call 13; refine (put_none hN7 0 1 (entS sA 1 s0)).mono ?_; rintro x w8 ⟨rfl, hb8⟩; have hX8 := hX7.trans (hb8.mono hX7.size)) | (go_at_call 32; have q := ent_any W4 sA s0 1; refine q.mono ?_; clear q; rintro x w7 ⟨rfl, hb7⟩; have hX7 := hX4.trans (hb7.mono hX4.size); have hN7 := HN.out.below hX7) | (go_at_call 31; refine (lleft_none hN4 0).mono ?_; rintro x w6 ⟨rfl, rfl⟩) | (go_at_call 18; refine (lval_none hN4 0 1).mono ?_; rintro x w5 ⟨rfl, rfl⟩) | (refine wpList_store_blk rfl 36 _ _ rfl w3.heap.size (ikC ik0) (by rfl) (by rfl) (ikC ik0) kz infoIk (by rfl) (by simp [ikC, Value.oneCell']) ?_; obtain ⟨W4, hW4⟩ : ∃ W4, W3.setRow w3.heap.size (ikC ik0).toArray = W4 := ⟨_, rfl⟩; have hX4 : Below wr.heap.size wr W4 := (by rw [← hW4]; exact below_setRow hXW hX3.size _); have hN4 := HN.out.below hX4; rw [hW4]; clear hW4 kz) | (go_at_call 15; refine (lkey_none hN2 0 1).mono ?_; rintro x w3 ⟨rfl, hb3⟩; have hX3 := hX2.trans (hb3.mono hX2.size); obtain ⟨W3, hW3⟩ : ∃ W, w3.alloc (.cells #[.string ⟨#[]⟩, .int .u64 0, .int .u8 0] 36) = W := ⟨_, rfl⟩; have kz : Blk W3 w3.heap.size 36 (ikC ik0) := (by rw [← hW3]; exact Blk.new w3 _ _); have hXW : Below wr.heap.size wr W3 := (by rw [← hW3]; exact hX3.alloc hX3.size _)) | (go_at_call 29; refine (lnext_none hN2 0 0 0).mono ?_; rintro x w' ⟨rfl, rfl⟩) | (go_at_call 24; refine (begin_none hN1 0 1 (entS sA 1 s0)).mono ?_; rintro x w2 ⟨rfl, hb2⟩; have hX2 := hX1.trans (hb2.mono hX1.size); have hN2 := HN.out.below hX2) | (go_at_call 32; have q := ent_any wr sA s0 1; refine q.mono ?_; clear q; rintro x w1 ⟨rfl, hX1⟩; have hN1 := HN.out.below hX1))
      go_roundw
      case rel => exact ⟨k + 1, by omega, by go_num, HTT.out.go hX8⟩
      case measure => simp [intOf]; omega
    · have h1 := TwoI.init hT
      clear hT
      go_wp2_with fail
      obtain ⟨wz, rfl⟩ : ∃ z, z = wr := ⟨_, rfl⟩
      go_loopw [112] (fun i wx => ∃ k : Nat, k ≤ 2 ∧ i = .int .i64 k ∧ TwoI w wz wx e) (fun i _ => 2 - (intOf i).toNat)
      case atStart => exact ⟨0, by omega, rfl, h1⟩
      case round =>
        clear h1
        obtain ⟨k, hk, rfl, hT⟩ := hrel
        by_cases hlt : k < 2
        · as_aux_lemma =>
          obtain ⟨a, hc, hN⟩ := hT.at_ k hlt
          have HN := Lib.hid hN
          have HTT := Lib.hid hT
          clear hT hN
          go_wp2_with (go_at_call 26; refine HN.out.mono ?_; rintro x w' ⟨rfl, rfl⟩)
          go_roundw
          case rel => exact ⟨k + 1, by omega, by go_num, HTT.out⟩
          case measure => simp [intOf]; omega
        · have hE := hT.ent
          have hB := hT.below
          clear hT
          have e0 := hE.cell 0 (v := .string e.k.key) rfl
          have e1 := hE.cell 1 (v := .int .u64 e.k.seq) rfl
          have e2 := hE.cell 2 (v := .int .u8 e.k.kind) rfl
          have e3 := hE.cell 3 (v := .string e.val) rfl
          have hks := HW.out.n
          trace_state
          by_cases hsm : e.k.key.size ≤ 100
          · by_cases hsv : e.val.size ≤ 300
            · skip
              have HMD := Lib.hid (made_any wr 60 (by decide) (by decide))
              go_upto_region 31 with (first
                | (go_at_call 34; have q := HS2.out; clear HS2; refine q.mono ?_; clear q; rintro x w5 ⟨rfl, hq5⟩) | (go_at_call 34; have q := HS1.out; clear HS1; refine q.mono ?_; clear q; rintro x w4 ⟨rfl, hq4⟩; have HS2 := Lib.hid (sknew_small (hC3.quiet hq4) 0 0 60 (by decide) (by decide) (by decide) (by decide) (by decide) (by decide) (.inr (by simp [Mem.new]; decide)))) | (go_at_call 33; have q := HN2.out; clear HN2; refine q.mono ?_; clear q; rintro x w3 ⟨c3, rfl, hC3, hb3⟩; have hL3 := hL2.made hb3; have hC2' := hC2.keep (Same.of_below _ hb3); have HS1 := Lib.hid (sknew_small hC2' 0 0 60 (by decide) (by decide) (by decide) (by decide) (by decide) (by decide) (.inl (by simp [Mem.new]; decide)))) | (go_at_call 33; have q := HN1.out; clear HN1; refine q.mono ?_; clear q; rintro x w2 ⟨c2, rfl, hC2, hb2⟩; have hL2 := hL.made hb2; have HN2 := Lib.hid (new_ok w2 68 19 (by decide) (by decide))) | (go_at_call 12; refine HMD.out.mono ?_; rintro x w1 ⟨k, c, A, rfl, hM⟩; have hu := hM.units; have hL := hM.lw; have hb1 := hM.below; have HN1 := Lib.hid (new_ok w1 67 20 (by decide) (by decide))) | (go_at_call 34; have q := sknew_nil w5; refine q.mono ?_; clear q; rintro x w' ⟨rfl, rfl⟩))
              have hL5 := (hL3.quiet hq4).quiet hq5
              have hE5 := hE.keep (hL5.below.block _ hE.lt)
              have hB5 := hB.trans (hL5.below.mono hB.size)
              have HL5 := Lib.hid hL5
              have HE5 := Lib.hid hE5
              have HB5 := Lib.hid hB5
              have HBR := Lib.hid hB
              obtain ⟨tb, htb⟩ : ∃ tb, decide (0 ≤ task ∧ task < 64) = tb := ⟨_, rfl⟩
              clear e0 e1 e2 e3 hE hB hM hL hL2 hL3 hC2 hC3 hC2' hb1 hb2 hb3 hq4 hq5 HMD hL5 hE5 hB5
              go_cut [40] (fun s40 wx => s40 = .bool tb ∧ wx = w5)
              case first =>
                --H{
                as_aux_lemma =>
                by_cases h1 : 0 ≤ task
                · by_cases h2 : task < 64
                  · have : tb = true := by rw [← htb]; exact decide_eq_true ⟨h1, h2⟩
                    subst this
                    clear htb
                    go_wp2_with fail
                    go_meet
                    exact ⟨rfl, rfl⟩
                  · have : tb = false := by rw [← htb]; exact decide_eq_false fun q => h2 q.2
                    subst this
                    clear htb
                    go_wp2_with fail
                    go_meet
                    exact ⟨rfl, rfl⟩
                · have : tb = false := by rw [← htb]; exact decide_eq_false fun q => h1 q.1
                  subst this
                  clear htb
                  go_wp2_with fail
                  go_meet
                  exact ⟨rfl, rfl⟩
                --H}
              case rest =>
                obtain ⟨rfl, rfl⟩ := hcut
                obtain ⟨wd, rfl⟩ : ∃ z, z = wc := ⟨_, rfl⟩
                obtain ⟨E, hE⟩ : ∃ E, beginE task height e = E := ⟨_, rfl⟩
                have hbg : Calls Try.prog 24 #[.pointer (some ⟨k.lp, 0, none⟩), .int .i64 task, .agg (enC e).toArray, .int .i64 height] wd fun r w' => ∃ v, r = .returned (.tuple #[v, .int .i64 E]) ∧ Below wd.heap.size wd w' := by
                  obtain ⟨S, L, R⟩ := HL5.out.ex
                  rw [← hE]
                  exact begin_all L.sk task height e
                have HBG := Lib.hid hbg
                have he5 := HE5.out
                clear hbg
                go_upto_block 4 with (first | (refine wpList_load_blk rfl 38 _ rfl w.heap.size (by rfl) (enC e) he5 _ Try.underlying38 rfl infoEn19 ?_) | (go_at_call 24; have q := HBG.out; clear HBG; refine q.mono ?_; clear q; rintro x w6 ⟨v6, rfl, hb6⟩))
                have HL6 := Lib.hid (HL5.out.made hb6)
                have HB6 := Lib.hid (HB5.out.trans (hb6.mono HB5.out.size))
                have he6 := he5.keep (hb6.block _ he5.lt)
                clear HL5 HE5 he5
                go_cut [43] (fun s43 wx => s43 = .int .i64 E ∧ Below w6.heap.size w6 wx)
                case first =>
                  --H{
                  as_aux_lemma =>
                  clear HL6
                  by_cases h0 : tb = true
                  · subst h0
                    have htk := of_decide_eq_true htb
                    by_cases h1 : height < 1
                    · have hE2 : E = 2 := by rw [← hE]; exact if_neg fun q => by omega
                      subst hE2
                      clear hE htb htk
                      go_wp2_with fail
                      go_meet
                      exact ⟨rfl, Below.refl _ _⟩
                    · by_cases h2 : height > 6
                      · have hE2 : E = 2 := by rw [← hE]; exact if_neg fun q => by omega
                        subst hE2
                        clear hE htb htk
                        go_wp2_with fail
                        go_meet
                        exact ⟨rfl, Below.refl _ _⟩
                      · have hen := entry_any w6 e
                        cases hr : e.right
                        · have hE2 : E = 30 := by rw [← hE]; unfold beginE; rw [if_pos ⟨htk, by omega, by omega⟩, hr]; rfl
                          subst hE2
                          rw [hr] at hen
                          have HEN := Lib.hid hen
                          clear hE htb htk hen hr
                          go_wp2_with (first | (refine wpList_load_blk rfl 38 _ rfl w.heap.size (by rfl) (enC e) he6 _ Try.underlying38 rfl infoEn19 ?_) | (go_at_call 35; refine HEN.out.mono ?_; rintro x w7 ⟨rfl, hb7⟩))
                          go_meet
                          exact ⟨rfl, hb7⟩
                        · have hE2 : E = 0 := by rw [← hE]; unfold beginE; rw [if_pos ⟨htk, by omega, by omega⟩, hr]; rfl
                          subst hE2
                          rw [hr] at hen
                          have HEN := Lib.hid hen
                          clear hE htb htk hen hr
                          go_wp2_with (first | (refine wpList_load_blk rfl 38 _ rfl w.heap.size (by rfl) (enC e) he6 _ Try.underlying38 rfl infoEn19 ?_) | (go_at_call 35; refine HEN.out.mono ?_; rintro x w7 ⟨rfl, hb7⟩))
                          go_meet
                          exact ⟨rfl, hb7⟩
                  · have h0' : tb = false := by simpa using h0
                    subst h0'
                    have hE2 : E = 2 := by rw [← hE]; exact if_neg fun q => of_decide_eq_false htb q.1
                    subst hE2
                    clear hE htb h0
                    go_wp2_with fail
                    go_meet
                    exact ⟨rfl, Below.refl _ _⟩
                  --H}
                case rest =>
                  obtain ⟨rfl, hb7⟩ := hcut
                  obtain ⟨w7, rfl⟩ : ∃ z, z = wc := ⟨_, rfl⟩
                  have HL7 := Lib.hid (HL6.out.made hb7)
                  have HB7 := Lib.hid (HB6.out.trans (hb7.mono HB6.out.size))
                  have hEE : (E != E) = false := by simp
                  obtain ⟨a, ha⟩ : ∃ a, nextE task node level = a := ⟨_, rfl⟩
                  obtain ⟨b, hb⟩ : ∃ b, keyE task node = b := ⟨_, rfl⟩
                  have HA := Lib.hid ha
                  have HK := Lib.hid hb
                  have HTB := Lib.hid htb
                  clear HL6 he6 hE ha hb htb HB5 HW hks hsm hsv hv hh
                  go_upto_region 42 with (first
                    | (refine wpList_store_blk rfl 36 _ _ rfl w10.heap.size (ikC ik0) (by rfl) (by rfl) (ikC ik0) kz infoIk (by rfl) (by simp [ikC, Value.oneCell']) ?_; obtain ⟨W4, hW4⟩ : ∃ W4, W3.setRow w10.heap.size (ikC ik0).toArray = W4 := ⟨_, rfl⟩; have hb11 : Below w10.heap.size w10 W4 := (by rw [← hW4]; exact below_setRow hbW (Nat.le_refl _) _); rw [hW4]; clear hW4 kz) | (go_at_call 15; have q := HKY.out; clear HKY; refine q.mono ?_; clear q; rintro x w10 ⟨rfl, t10, A10, hL10, ht10⟩; obtain ⟨W3, hW3⟩ : ∃ W, w10.alloc (.cells #[.string ⟨#[]⟩, .int .u64 0, .int .u8 0] 36) = W := ⟨_, rfl⟩; have kz : Blk W3 w10.heap.size 36 (ikC ik0) := (by rw [← hW3]; exact Blk.new w10 _ _); have hbW : Below w10.heap.size w10 W3 := (by rw [← hW3]; exact (Below.refl _ _).alloc (Nat.le_refl _) _)) | (go_at_call 29; have q := HNX.out; clear HNX; refine q.mono ?_; clear q; rintro x w9 ⟨rfl, t9, hL9, ht9⟩; have hky := hL9.key_all ht9 hu task node; rw [HK.out] at hky; have HKY := Lib.hid hky; clear hky) | (go_at_call 19; have q := HL7.out.trace (by decide); refine q.mono ?_; clear q; rintro x w8 ⟨v8, A8, rfl, hr8, hL8, -, -⟩; obtain ⟨ao8, cp8, rfl⟩ : ∃ ao cp, v8 = .slice ao 0 cp := hr8.slice; have hnx := hL8.next_all hu task node level; rw [HA.out] at hnx; have HNX := Lib.hid hnx; clear hnx))
                  have HL11 := Lib.hid (hL10.made hb11)
                  clear hL10 hL9 hL8 hr8 HL7 hEE ht9
                  obtain ⟨mb, hmb⟩ : ∃ mb, decide ((0 ≤ task ∧ task < 64) ∧ 0 ≤ node ∧ node ≤ 10) = mb := ⟨_, rfl⟩
                  have HMB := Lib.hid hmb
                  clear hmb
                  go_cut [48] (fun s48 wx => s48 = .bool mb ∧ wx = W4)
                  case first =>
                    --H{
                    as_aux_lemma =>
                    clear HL11
                    by_cases h0 : tb = true
                    · have htk := of_decide_eq_true (HTB.out.trans h0)
                      subst h0
                      by_cases h1 : 0 ≤ node
                      · by_cases h2 : node ≤ 10
                        · have hm : mb = true := by rw [← HMB.out]; exact decide_eq_true ⟨htk, h1, h2⟩
                          subst hm
                          clear htk
                          go_wp2_with fail
                          go_meet
                          exact ⟨rfl, rfl⟩
                        · have hm : mb = false := by rw [← HMB.out]; exact decide_eq_false fun q => h2 q.2.2
                          subst hm
                          clear htk
                          go_wp2_with fail
                          go_meet
                          exact ⟨rfl, rfl⟩
                      · have hm : mb = false := by rw [← HMB.out]; exact decide_eq_false fun q => h1 q.2.1
                        subst hm
                        clear htk
                        go_wp2_with fail
                        go_meet
                        exact ⟨rfl, rfl⟩
                    · have h0' : tb = false := by simpa using h0
                      have htk := of_decide_eq_false (HTB.out.trans h0')
                      subst h0'
                      have hm : mb = false := by rw [← HMB.out]; exact decide_eq_false fun q => htk q.1
                      subst hm
                      clear htk h0
                      go_wp2_with fail
                      go_meet
                      exact ⟨rfl, rfl⟩
                    --H}
                  case rest =>
                    obtain ⟨rfl, rfl⟩ := hcut
                    obtain ⟨we, rfl⟩ : ∃ z, z = wc := ⟨_, rfl⟩
                    have HTR := Lib.hid (HL11.out.trace (by show ([] ++ t10).length < trMax; rw [List.nil_append]; unfold trMax; omega))
                    have hways : (mb = false ∧ a = 2 ∧ b = 2) ∨ (mb = true ∧ ((level < 0 ∧ a = 2) ∨ (6 ≤ level ∧ a = 2) ∨ (0 ≤ level ∧ level < 6 ∧ a = 0)) ∧ ((0 < node ∧ b = 0) ∨ (¬ 0 < node ∧ b = 2))) := by
                      have e1 := HMB.out
                      have e2 := HA.out
                      have e3 := HK.out
                      cases mb
                      · have e1' := of_decide_eq_false e1
                        refine .inl ⟨rfl, ?_, ?_⟩
                        · rw [← e2]; exact if_neg fun q => e1' ⟨q.1, q.2.1⟩
                        · rw [← e3]; exact if_neg fun q => e1' ⟨q.1, by omega, q.2.2⟩
                      · have e1' := of_decide_eq_true e1
                        refine .inr ⟨rfl, ?_, ?_⟩
                        · by_cases h1 : level < 0
                          · exact .inl ⟨h1, by rw [← e2]; exact if_neg fun q => by omega⟩
                          · by_cases h2 : 6 ≤ level
                            · exact .inr (.inl ⟨h2, by rw [← e2]; exact if_neg fun q => by omega⟩)
                            · exact .inr (.inr ⟨by omega, by omega, by rw [← e2]; exact if_pos ⟨e1'.1, e1'.2, by omega, by omega⟩⟩)
                        · by_cases h1 : 0 < node
                          · exact .inl ⟨h1, by rw [← e3]; exact if_pos ⟨e1'.1, by omega, e1'.2.2⟩⟩
                          · exact .inr ⟨h1, by rw [← e3]; exact if_neg fun q => by omega⟩
                    clear HMB HA HK HTB
                    rcases hways with ⟨rfl, rfl, rfl⟩ | ⟨rfl, (⟨q1, rfl⟩ | ⟨q1, rfl⟩ | ⟨q1, q3, rfl⟩), (⟨q2, rfl⟩ | ⟨q2, rfl⟩)⟩
                    all_goals as_aux_lemma =>
                      first | (have hnb : decide (0 < node) = false := decide_eq_false q2) | (have hnb : decide (0 < node) = true := decide_eq_true q2) | skip
                      go_wp2_with (first
                        | (go_at_call 10; refine (awake19 _).mono ?_; rintro x w15 ⟨rfl, hb15⟩) | (go_at_call 28; have q := lowTrace w13 v12 v13 (sk0.more t10).trace (sk0.more t10).trace (hr12.reads.below hb13) hr13.reads (by show ([] ++ t10).length ≤ _; rw [List.nil_append]; omega); refine q.mono ?_; clear q; rintro x w14 ⟨rfl, hq14⟩) | (go_at_call 19; have q := HT2.out; clear HT2; refine q.mono ?_; clear q; rintro x w13 ⟨v13, A13, rfl, hr13, hL13, -, hb13⟩) | (go_at_call 19; have q := HTR.out; clear HTR; refine q.mono ?_; clear q; rintro x w12 ⟨v12, A12, rfl, hr12, hL12, -, hb12⟩; have HT2 := Lib.hid (hL12.trace (by show ([] ++ t10).length < trMax; rw [List.nil_append]; unfold trMax; omega)))
                        )
                      go_ret
                      refine ⟨?_, HBR.out.trans (((hL13.below.trans (hq14.below _)).trans (hb15.mono (Nat.le_trans hL13.below.size (hq14.below 0).size))).mono HBR.out.size)⟩
                      first | rfl | (simp [*]; done) | (simp; omega)
            · as_aux_lemma =>
              go_wp2_with (go_at_call 10; refine (awake19 _).mono ?_; rintro x w2 ⟨rfl, hb2⟩)
              go_ret
              exact ⟨rfl, hB.trans (hb2.mono hB.size)⟩
          · as_aux_lemma =>
            go_wp2_with (go_at_call 10; refine (awake19 _).mono ?_; rintro x w2 ⟨rfl, hb2⟩)
            go_ret
            exact ⟨rfl, hB.trans (hb2.mono hB.size)⟩
end Go.Proofs.Ytkpjfdhjkgdcbaa
