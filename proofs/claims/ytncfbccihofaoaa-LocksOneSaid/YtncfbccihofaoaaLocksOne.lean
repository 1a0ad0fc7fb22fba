/- The walk over law 14's LocksOne. -/
import Derived.Test.YtncfbccihofaoaaLocksOnePlain
import Derived.Test.YtncfbccihofaoaaAccs
import Derived.Deep.DeepCutAuto
import Derived.BigQuiet
import Derived.Deep.RegionHeld3
namespace Go.Proofs.Ytncfbccihofaoaa
open Go.RowKit Go.Maps

theorem Reads.accAt {w : World} {n c : Nat} {ao : Option Addr} {l : List Acc} (h : Reads w 3 (.slice ao n c) n (accs l)) (k : Nat) (hk : k < l.length) :
    ∃ b off, ao = some ⟨b, off, none⟩ ∧ w.cell? ⟨b, off + k * 3, none⟩ = some (.int .i64 (l.getD k accz).task) ∧ w.cell? ⟨b, off + k * 3 + 1, none⟩ = some (.int .u8 (l.getD k accz).what) ∧ w.cell? ⟨b, off + k * 3 + 2, none⟩ = some (.int .i64 (l.getD k accz).at_) := by
  have hlen := h.len
  rw [accs_length] at hlen
  rcases h.form with ⟨h0, _⟩ | ⟨b, off, c', e, _, hc⟩
  · omega
  · cases e
    obtain ⟨g0, g1, g2⟩ := accs_get l k hk
    have hd : l.getD k accz = l[k] := by simp [List.getD_eq_getElem?_getD, List.getElem?_eq_getElem hk]
    rw [hd]
    exact ⟨b, off, rfl, hc _ _ g0, by rw [Nat.add_assoc]; exact hc _ _ g1, by rw [Nat.add_assoc]; exact hc _ _ g2⟩
theorem Reads.some {w : World} {n : Nat} {v : Value} {xs : List Value} {size : Nat} (h : Reads w size v n xs) (h0 : 0 < n) : ∃ b off c, v = .slice (.some ⟨b, off, none⟩) n c := by
  rcases h.form with ⟨h1, _⟩ | ⟨b, off, c, rfl, _⟩
  · omega
  · exact ⟨b, off, c, rfl⟩
theorem doL_conds1 (L : Lk) (what t c : Int) : (doL L what t c).conds = L.conds := by
  unfold doL lockL unlockL waitL wakeL
  repeat' split
  all_goals rfl

theorem doN_one1 (L : Lk) (what t c : Int) : (doN L what t c).length ≤ 1 := by
  unfold doN lockN unlockN waitN
  repeat' split
  all_goals simp

set_option maxRecDepth 100000 in
set_option maxHeartbeats 4000000 in
theorem locksOne (w : World) (many : Int) (hu0 : 0 ≤ many) (hu1 : many ≤ 255) (ao : Option Addr) (cap : Nat) (l : List Op) (hcap : l.length ≤ cap) (hl : ArgRow w 3 (.slice ao l.length cap) Op.cells Op.Fits l) :
    Calls Try.prog 3 #[.int .u8 many, .slice ao l.length cap] w fun e w' => e = .returned (.bool true) ∧ Below w.heap.size w w' := by
  obtain ⟨m, hm', hm1, hm2, -⟩ := cut_min 80 l.length
  have hm : (if (80 : Int) < (l.length : Int) then (80 : Int) else (l.length : Int)) = (m : Int) := hm'
  clear hm'
  have hm3 : m ≤ cap := by omega
  go_enter Try.func3, Try.ntmps3
  go_wp2_with fail
  obtain ⟨n, hn⟩ : ∃ n, 1 + many % 4 = n := ⟨_, rfl⟩
  rw [hn]
  have n0 : 1 ≤ n := by omega
  have n1 : n ≤ 4 := by omega
  clear hn hu0 hu1
  refine (made14_ok _ n (by omega) (by omega)).mono ?_
  rintro e w1 ⟨r, rfl, hL1, hB1⟩
  have hI0 : Lx (LB w.heap.size r) w.heap.size w1 r ⟨n, false, 0, fun _ => none⟩ (Mem.new 0 0) ∧ Below w.heap.size w w1 := ⟨hL1.lx, hB1⟩
  have hO0 : One ⟨n, false, 0, fun _ => none⟩ (Mem.new 0 0) (-1) := ⟨rfl, fun h => absurd h (by decide), by decide, n0, ⟨fun i hi => absurd hi (Nat.not_lt_zero _), fun i hi => absurd hi (Nat.not_lt_zero _), fun i hi => absurd hi (Nat.not_lt_zero _), rfl, fun h => absurd h (by decide)⟩⟩
  obtain ⟨A, hA⟩ : ∃ A, A = LB w.heap.size r := ⟨_, rfl⟩
  rw [← hA] at hI0
  have hp := hI0.1.nots
  have hbase := hI0.1.base
  clear hA hL1 hB1
  go_wp2_with fail
  clear hm
  go_loopw [9, 41] (fun s9 i wr => ∃ k : Nat, k ≤ m ∧ i = .int .i64 k ∧ ∃ (L : Lk) (S : Mem) (hd : Int), s9 = .int .i64 hd ∧ Lx A w.heap.size wr r L S ∧ S.trace.length ≤ k ∧ L.conds = n ∧ One L S hd ∧ Below w.heap.size w wr) (fun _ i _ => m - (intOf i).toNat)
  case atStart => exact ⟨0, by omega, rfl, _, _, -1, rfl, hI0.1, Nat.zero_le _, rfl, hO0, hI0.2⟩
  case round =>
    clear hI0 hO0
    obtain ⟨k, hk, rfl, L, S, hd, rfl, hI, hS, hcd, hOne, hB⟩ := hrel
    by_cases hlt : k < m
    · have hkl : k < l.length := by omega
      obtain ⟨b, off, rfl, hx⟩ := hl.cell hB (by decide) k hkl
      have hfit := hl.good l[k] (List.getElem_mem _)
      obtain ⟨o, ho⟩ : ∃ o, o = l[k] := ⟨_, rfl⟩
      rw [← ho] at hx hfit
      have x0 := hx 0 _ rfl
      have x1 := hx 1 _ rfl
      have x2 := hx 2 _ rfl
      simp only [Nat.add_zero] at x0
      have hw := fits_u8 hfit.what
      have hI1 := hI.box (.cells #[.int .u8 o.what, .int .i64 o.task, .int .i64 o.cond] 28)
      have hB1 := hB.alloc hB.size (.cells #[.int .u8 o.what, .int .i64 o.task, .int .i64 o.cond] 28)
      have hbox := Blk.new wr 28 [.int .u8 o.what, .int .i64 o.task, .int .i64 o.cond]
      obtain ⟨bx, hbx⟩ : ∃ bx, wr.heap.size = bx := ⟨_, rfl⟩
      have hnb : ¬ LA r (fun k => A k ∧ k ≠ wr.heap.size) bx := by
        have h1 := hI.p_lt
        intro h2
        rcases h2 with h2 | h2 | h2
        · exact h2.2 hbx.symm
        · omega
        · omega
      obtain ⟨wb, hwb⟩ : ∃ wb, wr.alloc (.cells #[.int .u8 o.what, .int .i64 o.task, .int .i64 o.cond] 28) = wb := ⟨_, rfl⟩
      have hbox' : Blk wb bx 28 [.int .u8 o.what, .int .i64 o.task, .int .i64 o.cond] := by rw [← hwb, ← hbx]; exact hbox
      clear hx hfit ho hI hB hbox
      have ht6 := six_in o.task
      have hc6 := cond_in o.cond n n0 n1
      obtain ⟨t, ht⟩ : ∃ t, (wrap64 (o.task.tmod 6 + 6)).tmod 6 = t := ⟨_, rfl⟩
      obtain ⟨c, hc⟩ : ∃ c, (wrap64 (o.cond.tmod n + n)).tmod n = c := ⟨_, rfl⟩
      rw [ht] at ht6
      rw [hc] at hc6
      have hwt : (Lit.int .i64 t).wf = true := WalkArith.wf_i64 (by omega)
      obtain ⟨E, hd', nn, V, bb, hE, hN, hOne', hV, hbb, hstep⟩ := one_step hOne (what := o.what) ⟨by omega, by omega⟩ ht6 (show 0 ≤ c ∧ c < L.conds by omega)
      have HS := Lib.hid hstep
      have HO := Lib.hid hOne'
      have HV := Lib.hid hV
      have HB := Lib.hid hbb
      have HT := Lib.hid ht
      have HC := Lib.hid hc
      have HE := Lib.hid hE
      have HN := Lib.hid hN
      clear hstep hOne' hV hbb hE hN hOne
      go_upto_region 9 with fail
      try rw [hwb]
      try rw [hbx]
      rw [hwb] at hI1 hB1
      rw [hbx] at hI1 hnb
      clear hwb
      go_wp2_with fail
      refine (ltrace_x hI1 (by unfold trMax; omega)).mono ?_
      rintro e w2 ⟨v2, rfl, hr2, hI2, hb2⟩
      obtain ⟨ao2, cp2, rfl⟩ := hr2.slice
      have hbox2 := hbox'.keep (hb2.block _ hbox'.lt)
      have hB2 := hB1.trans (hb2.mono hB1.size)
      have c0 := hbox2.cell 0 rfl
      have c1 := hbox2.cell 1 rfl
      have c2 := hbox2.cell 2 rfl
      clear hI1 hB1 hbox' hr2 hb2
      go_wp2_with fail
      obtain ⟨sp, hsp⟩ : ∃ sp, (slAt L.sl t).isSome = sp := ⟨_, rfl⟩
      obtain ⟨xv, hxv⟩ : ∃ xv, (slAt L.sl t).getD 0 = xv := ⟨_, rfl⟩
      have hslp := sleeps_to hI2.lw t hwt (slAt L.sl t) rfl
      have hdo := does_x hI2 (by unfold trMax; omega) o.what o.task o.cond n hw n0 n1 t c HT.out HC.out ht6 hc6
      obtain ⟨L', hL'⟩ : ∃ L', doL L o.what t c = L' := ⟨_, rfl⟩
      obtain ⟨S', hS'⟩ : ∃ S', S.notes (doN L o.what t c) = S' := ⟨_, rfl⟩
      have hcd' : L'.conds = n := by rw [← hL', doL_conds1]; exact hcd
      have hlen : S'.trace.length = S.trace.length + nn := by rw [← hS', ← HN.out]; simp [Mem.notes]
      have hnn : nn ≤ 1 := by rw [← HN.out]; exact doN_one1 ..
      replace HO := HO.out
      replace HV := HV.out
      replace HB := HB.out
      replace HS := HS.out
      rw [hL', hS'] at HO
      rw [hL'] at HV HB
      rw [hsp] at HS hslp
      rw [hxv] at hslp
      rw [HE.out, hL', hS'] at hdo
      replace HO := Lib.hid HO
      replace HV := Lib.hid HV
      replace HB := Lib.hid HB
      replace HS := Lib.hid HS
      obtain ⟨s, hs⟩ : ∃ s, S.trace.length = s := ⟨_, rfl⟩
      rw [hs] at hlen hS
      rw [hs]
      clear hI2 hsp hxv hL' hS' hcd hs HN HE
      refine hslp.mono ?_
      rintro e w' ⟨rfl, rfl⟩
      clear hslp
      go_wp2_with fail
      refine hdo.mono ?_
      rintro e w3 ⟨rfl, hI3, hO3⟩
      have hbox3 := hbox2.keep (hO3.block _ hbox2.lt hnb)
      have hB3 := hB2.trans (hO3.below hB2.size (fun k hk hl => by
        have h5 := hI3.bp
        have h6 := hI3.bq
        rcases hl with hl | hl | hl
        · have := hbase k hl.1; omega
        · omega
        · omega))
      clear hdo hO3 hbox2 hB2 c0 c1 c2
      go_wp2_with fail
      refine (ltrace_x hI3 (by unfold trMax; omega)).mono ?_
      rintro e w4 ⟨v4, rfl, hr4, hI4, hb4⟩
      obtain ⟨ao4, cp4, rfl⟩ := hr4.slice
      rw [hlen]
      obtain ⟨s1, hs1⟩ : ∃ s1, s + nn = s1 := ⟨_, rfl⟩
      rw [hs1]
      rw [hs1] at hlen
      replace hs1 := Lib.hid hs1
      have c0 := (hbox3.keep (hb4.block _ hbox3.lt)).cell 0 rfl
      have hB4 := hB3.trans (hb4.mono hB3.size)
      have hI5 := hI4.unbox hp.1 hp.2 hbase
      have hl4 := hI4.lw
      clear hI3 hI4 hB3 hbox3 hr4 hb4
      have hq5 : o.what % 5 = 0 ∨ o.what % 5 = 1 ∨ o.what % 5 = 2 ∨ o.what % 5 = 3 ∨ o.what % 5 = 4 := by omega
      rcases HS.out with ⟨q, rfl, rfl, rfl, rfl, rfl, rfl, rfl⟩ | ⟨q, rfl, rfl, rfl, rfl, rfl, rfl, rfl⟩ | ⟨q, h0, rfl, rfl, rfl, rfl, rfl, rfl⟩ | ⟨q, h0, rfl, rfl, rfl, rfl, rfl, rfl⟩ | ⟨q, rfl, rfl, rfl, rfl, rfl, rfl⟩ | ⟨q, rfl, rfl, rfl, rfl, rfl, rfl⟩ | ⟨q, h0, hne, rfl, rfl, rfl, rfl, rfl⟩ | ⟨q, rfl, rfl, rfl, rfl, rfl, rfl⟩ | ⟨q, rfl, rfl, rfl, rfl, rfl, rfl⟩ | ⟨q, h0, hne, rfl, rfl, rfl, rfl, rfl⟩
      all_goals clear HS
      all_goals rcases hq5 with q0 | q0 | q0 | q0 | q0
      all_goals first | (exfalso; omega; done) | skip
      --H{
      all_goals
        have hs2 := hs1.out
        first | (have hs3 : (s1 : Int) - s = 1 := by omega) | (have hs3 : (s1 : Int) - s = 0 := by omega)
        have hs4 : s1 ≤ k + 1 := by omega
        clear hs2
        go_wp2_with (first | (go_at_call 12; refine (holder_to hl4 _ _ HV.out HB.out).mono ?_; rintro e w' ⟨rfl, rfl⟩))
        go_roundw
        case rel => exact ⟨k + 1, by omega, by go_num, _, _, _, rfl, hI5, by omega, hcd', HO.out, hB4⟩
        case measure => simp [intOf]; omega
      --H}
    · clear hl
      have hS' : S.trace.length < trMax := by unfold trMax; omega
      go_wp2_with fail
      refine (ltrace_x hI hS').mono ?_
      rintro e w2 ⟨v2, rfl, hr2, hI2, hb2⟩
      obtain ⟨ao2, cp2, rfl⟩ := hr2.slice
      have hB2 := hB.trans (hb2.mono hB.size)
      have hR2 := hr2.reads
      have hAlt := Lib.hid hOne.alt
      clear hr2 hI hB hb2 hOne hcd
      go_wp2_with fail
      go_loopw [149] (fun i wr' => ∃ j : Nat, j ≤ S.trace.length ∧ i = .int .i64 j ∧ Below w2.heap.size w2 wr') (fun i _ => S.trace.length - (intOf i).toNat)
      case atStart => exact ⟨0, Nat.zero_le _, rfl, Below.refl _ _⟩
      case round =>
        obtain ⟨j, hj, rfl, hBj⟩ := hrel
        by_cases hjl : j < S.trace.length
        · have hR := hR2.below hBj
          obtain ⟨b2, o2, rfl, y0, y1, y2⟩ := hR.accAt j hjl
          have a0 := hAlt.out.at_ j hjl
          have a1 := hAlt.out.even j hjl
          have a2 := hAlt.out.odd j hjl
          rw [a0] at y2
          obtain ⟨tk, htk⟩ : ∃ tk, (S.trace.getD j accz).task = tk := ⟨_, rfl⟩
          obtain ⟨wh, hwh⟩ : ∃ wh, (S.trace.getD j accz).what = wh := ⟨_, rfl⟩
          rw [htk] at y0 a2
          rw [hwh] at y1 a1 a2
          clear a0 htk hwh
          have hbj := hBj.alloc hBj.size (.cells #[.int .i64 tk, .int .u8 wh, .int .i64 0] 38)
          have hbox := Blk.new wr 38 [.int .i64 tk, .int .u8 wh, .int .i64 0]
          by_cases hev : j % 2 = 0
          · obtain rfl := a1 hev
            have e1 : (j : Int).tmod 2 = 0 := by rw [Int.tmod_eq_emod_of_nonneg (by omega)]; omega
            have e2 : (j : Int) % 2 = 0 := by omega
            clear a1 a2 hR hbox
            go_upto_region 35 with fail
            go_quiet (fail)
            go_wp2_with fail
            go_roundw
            case rel => exact ⟨j + 1, by omega, by go_num, hbj.trans (Quiet.below ⟨⟨_, rfl⟩⟩ _)⟩
            case measure => simp [intOf]; omega
          · have hod : j % 2 = 1 := by omega
            obtain ⟨rfl, a4⟩ := a2 hod
            have e1 : (j : Int).tmod 2 = 1 := by rw [Int.tmod_eq_emod_of_nonneg (by omega)]; omega
            have e2 : (j : Int) % 2 = 1 := by omega
            have e3 : IntKind.i64.wrap ((j : Int) - 1) = ((j - 1 : Nat) : Int) := by
              have : ((j - 1 : Nat) : Int) = (j : Int) - 1 := by omega
              rw [this]; exact IntWalk.i64_in _ (by omega)
            have e4 : wrap64 ((j : Int) - 1) = ((j - 1 : Nat) : Int) := by
              have : ((j - 1 : Nat) : Int) = (j : Int) - 1 := by omega
              rw [this]; unfold wrap64; omega
            have hj1 : j - 1 < S.trace.length := by omega
            obtain ⟨bx, hbx⟩ : ∃ bx, wr.heap.size = bx := ⟨_, rfl⟩
            have hT : ∀ W, Below w2.heap.size w2 W → Blk W bx 38 [.int .i64 tk, .int .u8 9, .int .i64 0] → Calls Try.prog 9 #[.pointer (some ⟨r.c.p, 0, none⟩)] W fun e w' => ∃ b5 o5 c5, e = .returned (.slice (some ⟨b5, o5, none⟩) S.trace.length c5) ∧ w'.cell? ⟨b5, o5 + (j - 1) * 3, none⟩ = some (.int .i64 tk) ∧ w'.cell? ⟨bx, 0, none⟩ = some (.int .i64 tk) ∧ w'.cell? ⟨bx, 1, none⟩ = some (.int .u8 9) ∧ w'.cell? ⟨bx, 2, none⟩ = some (.int .i64 0) ∧ Below w2.heap.size w2 w' := by
              intro W hW hbW
              refine (ltrace_x (hI2.below hW) hS').mono ?_
              rintro e w5 ⟨v5, rfl, hr5, hI5, hb5⟩
              obtain ⟨b5, o5, c5, rfl⟩ := hr5.reads.some (by omega)
              obtain ⟨b6, o6, e6, z0, -, -⟩ := hr5.reads.accAt (j - 1) hj1
              cases e6
              have hk := hbW.keep (hb5.block _ hbW.lt)
              exact ⟨b5, o5, c5, rfl, by rw [z0, a4], hk.cell 0 rfl, hk.cell 1 rfl, hk.cell 2 rfl, hW.trans (hb5.mono hW.size)⟩
            rw [hbx] at hbox
            clear a1 a2 hR a4 hI2 hAlt
            go_upto_region 35 with fail
            try rw [hbx]
            go_cut [188] (fun s wx => s = .bool false ∧ Below w2.heap.size w2 wx)
            case first =>
              have b0 := hbox.cell 0 rfl
              have b1 := hbox.cell 1 rfl
              have b2' := hbox.cell 2 rfl
              obtain ⟨W, hW⟩ : ∃ W, wr.alloc (.cells #[.int .i64 tk, .int .u8 9, .int .i64 0] 38) = W := ⟨_, rfl⟩
              rw [hW] at hbj hbox b0 b1 b2'
              rw [hW]
              clear hW hbx hR2 y0 y1 y2 hBj hB2 hcap hm1 hm3 n0 n1 hp hbase hlt hev
              refine wp_region_held_drew (S := fun w' => w'.cell? ⟨bx, 0, none⟩ = some (.int .i64 tk) ∧ w'.cell? ⟨bx, 1, none⟩ = some (.int .u8 9) ∧ w'.cell? ⟨bx, 2, none⟩ = some (.int .i64 0)) (by kernel_rfl) ⟨hbox.cell 0 rfl, hbox.cell 1 rfl, hbox.cell 2 rfl⟩ (fun hHeld => ?_)
              refine wpAnyH_take (i := 0) (v := ?_) rfl (by kernel_rfl) (by kernel_rfl) (by kernel_rfl) (fun _ _ _ h => h) (Or.inl ⟨by kernel_rfl, ?_⟩) (by assumption) ?_
              rotate_left
              · (intro w hSw; (try dsimp only at hSw); go_simp; try with_reducible rfl)
              try simp only [Act.put, List.getElem_toArray, List.getElem_cons_zero, List.getElem_cons_succ, List.setIfInBounds_toArray, List.set_cons_zero, List.set_cons_succ]
              refine wpAnyH_take (i := 1) (v := ?_) rfl (by kernel_rfl) (by kernel_rfl) (by kernel_rfl) (fun _ _ _ h => h) (Or.inl ⟨by kernel_rfl, ?_⟩) (by assumption) ?_
              rotate_left
              · (intro w hSw; (try dsimp only at hSw); go_simp; try with_reducible rfl)
              try simp only [Act.put, List.getElem_toArray, List.getElem_cons_zero, List.getElem_cons_succ, List.setIfInBounds_toArray, List.set_cons_zero, List.set_cons_succ]
              refine wpAnyH_take (i := 2) (v := ?_) rfl (by kernel_rfl) (by kernel_rfl) (by kernel_rfl) (fun _ _ _ h => h) (Or.inl ⟨by kernel_rfl, ?_⟩) (by assumption) ?_
              rotate_left
              · (intro w hSw; (try dsimp only at hSw); go_simp; try with_reducible rfl)
              try simp only [Act.put, List.getElem_toArray, List.getElem_cons_zero, List.getElem_cons_succ, List.setIfInBounds_toArray, List.set_cons_zero, List.set_cons_succ]
              refine wpAnyH_take (i := 3) (v := ?_) rfl (by kernel_rfl) (by kernel_rfl) (by kernel_rfl) (fun _ _ _ h => h) (Or.inl ⟨by kernel_rfl, ?_⟩) (by assumption) ?_
              rotate_left
              · (intro w hSw; (try dsimp only at hSw); go_simp; try with_reducible rfl)
              try simp only [Act.put, List.getElem_toArray, List.getElem_cons_zero, List.getElem_cons_succ, List.setIfInBounds_toArray, List.set_cons_zero, List.set_cons_succ]
              refine wpAnyH_take (i := 4) (v := undef) rfl (by kernel_rfl) (by kernel_rfl) (by kernel_rfl) (fun _ _ _ h => h) (Or.inr ⟨by kernel_rfl, rfl⟩) (by assumption) ?_
              try simp only [Act.put, List.getElem_toArray, List.getElem_cons_zero, List.getElem_cons_succ, List.setIfInBounds_toArray, List.set_cons_zero, List.set_cons_succ]
              refine wpAnyH_take (i := 5) (v := undef) rfl (by kernel_rfl) (by kernel_rfl) (by kernel_rfl) (fun _ _ _ h => h) (Or.inr ⟨by kernel_rfl, rfl⟩) (by assumption) ?_
              try simp only [Act.put, List.getElem_toArray, List.getElem_cons_zero, List.getElem_cons_succ, List.setIfInBounds_toArray, List.set_cons_zero, List.set_cons_succ]
              refine wpAnyH_take (i := 6) (v := undef) rfl (by kernel_rfl) (by kernel_rfl) (by kernel_rfl) (fun _ _ _ h => h) (Or.inr ⟨by kernel_rfl, rfl⟩) (by assumption) ?_
              try simp only [Act.put, List.getElem_toArray, List.getElem_cons_zero, List.getElem_cons_succ, List.setIfInBounds_toArray, List.set_cons_zero, List.set_cons_succ]
              refine wpAnyH_take (i := 7) (v := ?_) rfl (by kernel_rfl) (by kernel_rfl) (by kernel_rfl) (fun _ _ _ h => h) (Or.inl ⟨by kernel_rfl, ?_⟩) (by assumption) ?_
              rotate_left
              · (intro w hSw; (try dsimp only at hSw); go_simp; try with_reducible rfl)
              try simp only [Act.put, List.getElem_toArray, List.getElem_cons_zero, List.getElem_cons_succ, List.setIfInBounds_toArray, List.set_cons_zero, List.set_cons_succ]
              refine wpAnyH_take (i := 8) (v := ?_) rfl (by kernel_rfl) (by kernel_rfl) (by kernel_rfl) (fun _ _ _ h => h) (Or.inl ⟨by kernel_rfl, ?_⟩) (by assumption) ?_
              rotate_left
              · (intro w hSw; (try dsimp only at hSw); go_simp; try with_reducible rfl)
              try simp only [Act.put, List.getElem_toArray, List.getElem_cons_zero, List.getElem_cons_succ, List.setIfInBounds_toArray, List.set_cons_zero, List.set_cons_succ]
              refine wpAnyH_take (i := 9) (v := ?_) rfl (by kernel_rfl) (by kernel_rfl) (by kernel_rfl) (fun _ _ _ h => h) (Or.inl ⟨by kernel_rfl, ?_⟩) (by assumption) ?_
              rotate_left
              · (intro w hSw; (try dsimp only at hSw); go_simp; try with_reducible rfl)
              try simp only [Act.put, List.getElem_toArray, List.getElem_cons_zero, List.getElem_cons_succ, List.setIfInBounds_toArray, List.set_cons_zero, List.set_cons_succ]
              refine wpAnyH_take (i := 10) (v := ?_) rfl (by kernel_rfl) (by kernel_rfl) (by kernel_rfl) (fun _ _ _ h => h) (Or.inl ⟨by kernel_rfl, ?_⟩) (by assumption) ?_
              rotate_left
              · (intro w hSw; (try dsimp only at hSw); go_simp; try with_reducible rfl)
              try simp only [Act.put, List.getElem_toArray, List.getElem_cons_zero, List.getElem_cons_succ, List.setIfInBounds_toArray, List.set_cons_zero, List.set_cons_succ]
              refine wpAnyH_take (i := 11) (v := ?_) rfl (by kernel_rfl) (by kernel_rfl) (by kernel_rfl) (fun _ _ _ h => h) (Or.inl ⟨by kernel_rfl, ?_⟩) (by assumption) ?_
              rotate_left
              · (intro w hSw; (try dsimp only at hSw); go_simp; try with_reducible rfl)
              try simp only [Act.put, List.getElem_toArray, List.getElem_cons_zero, List.getElem_cons_succ, List.setIfInBounds_toArray, List.set_cons_zero, List.set_cons_succ]
              refine wpAnyH_take (i := 12) (v := ?_) rfl (by kernel_rfl) (by kernel_rfl) (by kernel_rfl) (fun _ _ _ h => h) (Or.inl ⟨by kernel_rfl, ?_⟩) (by assumption) ?_
              rotate_left
              · (intro w hSw; (try dsimp only at hSw); go_simp; try with_reducible rfl)
              try simp only [Act.put, List.getElem_toArray, List.getElem_cons_zero, List.getElem_cons_succ, List.setIfInBounds_toArray, List.set_cons_zero, List.set_cons_succ]
              refine wpAnyH_take (i := 13) (v := ?_) rfl (by kernel_rfl) (by kernel_rfl) (by kernel_rfl) (fun _ _ _ h => h) (Or.inl ⟨by kernel_rfl, ?_⟩) (by assumption) ?_
              rotate_left
              · (intro w hSw; (try dsimp only at hSw); go_simp; try with_reducible rfl)
              try simp only [Act.put, List.getElem_toArray, List.getElem_cons_zero, List.getElem_cons_succ, List.setIfInBounds_toArray, List.set_cons_zero, List.set_cons_succ]
              refine wpAnyH_take (i := 14) (v := ?_) rfl (by kernel_rfl) (by kernel_rfl) (by kernel_rfl) (fun _ _ _ h => h) (Or.inl ⟨by kernel_rfl, ?_⟩) (by assumption) ?_
              rotate_left
              · (intro w hSw; (try dsimp only at hSw); go_simp; try with_reducible rfl)
              try simp only [Act.put, List.getElem_toArray, List.getElem_cons_zero, List.getElem_cons_succ, List.setIfInBounds_toArray, List.set_cons_zero, List.set_cons_succ]
              refine wpAnyH_take (i := 15) (v := ?_) rfl (by kernel_rfl) (by kernel_rfl) (by kernel_rfl) (fun _ _ _ h => h) (Or.inl ⟨by kernel_rfl, ?_⟩) (by assumption) ?_
              rotate_left
              · (intro w hSw; (try dsimp only at hSw); go_simp; try with_reducible rfl)
              try simp only [Act.put, List.getElem_toArray, List.getElem_cons_zero, List.getElem_cons_succ, List.setIfInBounds_toArray, List.set_cons_zero, List.set_cons_succ]
              refine wpAnyH_take (i := 16) (v := ?_) rfl (by kernel_rfl) (by kernel_rfl) (by kernel_rfl) (fun _ _ _ h => h) (Or.inl ⟨by kernel_rfl, ?_⟩) (by assumption) ?_
              rotate_left
              · (intro w hSw; (try dsimp only at hSw); go_simp; try with_reducible rfl)
              try simp only [Act.put, List.getElem_toArray, List.getElem_cons_zero, List.getElem_cons_succ, List.setIfInBounds_toArray, List.set_cons_zero, List.set_cons_succ]
              refine wpAnyH_take (i := 17) (v := ?_) rfl (by kernel_rfl) (by kernel_rfl) (by kernel_rfl) (fun _ _ _ h => h) (Or.inl ⟨by kernel_rfl, ?_⟩) (by assumption) ?_
              rotate_left
              · (intro w hSw; (try dsimp only at hSw); go_simp; try with_reducible rfl)
              try simp only [Act.put, List.getElem_toArray, List.getElem_cons_zero, List.getElem_cons_succ, List.setIfInBounds_toArray, List.set_cons_zero, List.set_cons_succ]
              refine wpAnyH_take (i := 18) (v := ?_) rfl (by kernel_rfl) (by kernel_rfl) (by kernel_rfl) (fun _ _ _ h => h) (Or.inl ⟨by kernel_rfl, ?_⟩) (by assumption) ?_
              rotate_left
              · (intro w hSw; (try dsimp only at hSw); go_simp; try with_reducible rfl)
              try simp only [Act.put, List.getElem_toArray, List.getElem_cons_zero, List.getElem_cons_succ, List.setIfInBounds_toArray, List.set_cons_zero, List.set_cons_succ]
              refine wpAnyH_take (i := 19) (v := ?_) rfl (by kernel_rfl) (by kernel_rfl) (by kernel_rfl) (fun _ _ _ h => h) (Or.inl ⟨by kernel_rfl, ?_⟩) (by assumption) ?_
              rotate_left
              · (intro w hSw; (try dsimp only at hSw); go_simp; try with_reducible rfl)
              try simp only [Act.put, List.getElem_toArray, List.getElem_cons_zero, List.getElem_cons_succ, List.setIfInBounds_toArray, List.set_cons_zero, List.set_cons_succ]
              refine wpAnyH_take (i := 21) (v := ?_) rfl (by kernel_rfl) (by kernel_rfl) (by kernel_rfl) (fun _ _ _ h => h) (Or.inl ⟨by kernel_rfl, ?_⟩) (by assumption) ?_
              rotate_left
              · (intro w hSw; (try dsimp only at hSw); go_simp; try with_reducible rfl)
              try simp only [Act.put, List.getElem_toArray, List.getElem_cons_zero, List.getElem_cons_succ, List.setIfInBounds_toArray, List.set_cons_zero, List.set_cons_succ]
              refine wpAnyH_take (i := 22) (v := ?_) rfl (by kernel_rfl) (by kernel_rfl) (by kernel_rfl) (fun _ _ _ h => h) (Or.inl ⟨by kernel_rfl, ?_⟩) (by assumption) ?_
              rotate_left
              · (intro w hSw; (try dsimp only at hSw); go_simp; try with_reducible rfl)
              try simp only [Act.put, List.getElem_toArray, List.getElem_cons_zero, List.getElem_cons_succ, List.setIfInBounds_toArray, List.set_cons_zero, List.set_cons_succ]
              refine wpAnyH_ready (rs := [20]) (by kernel_rfl) (by simp) ?_
              refine AllReadyH.cons rfl (fun K hK => ?_) AllReadyH.nil
              go_simp
              refine (hT _ ?_ ?_).mono ?_
              · exact hbj.trans ⟨rfl, rfl, rfl, Nat.le_refl _, fun _ _ => rfl⟩
              · exact hbox
              rintro e w5 ⟨b5, o5, c5, rfl, z0, z1, z2, z3, hb5⟩
              clear hT
              refine hK.out _ _ ⟨z1, z2, z3⟩ (fun hHeld5 => ?_)
              clear hK K hHeld
              try simp only [Act.put, List.getElem_toArray, List.getElem_cons_zero, List.getElem_cons_succ, List.setIfInBounds_toArray, List.set_cons_zero, List.set_cons_succ]
              refine wpAnyH_take (i := 23) (v := ?_) rfl (by kernel_rfl) (by kernel_rfl) (by kernel_rfl) (fun _ _ _ h => h) (Or.inl ⟨by kernel_rfl, ?_⟩) (by assumption) ?_
              rotate_left
              · (intro w hSw; (try dsimp only at hSw); go_simp; try with_reducible rfl)
              try simp only [Act.put, List.getElem_toArray, List.getElem_cons_zero, List.getElem_cons_succ, List.setIfInBounds_toArray, List.set_cons_zero, List.set_cons_succ]
              refine wpAnyH_take (i := 24) (v := ?_) rfl (by kernel_rfl) (by kernel_rfl) (by kernel_rfl) (fun _ _ _ h => h) (Or.inl ⟨by kernel_rfl, ?_⟩) (by assumption) ?_
              rotate_left
              · (intro w hSw; (try dsimp only at hSw); go_simp; try with_reducible rfl)
              try simp only [Act.put, List.getElem_toArray, List.getElem_cons_zero, List.getElem_cons_succ, List.setIfInBounds_toArray, List.set_cons_zero, List.set_cons_succ]
              refine wpAnyH_ready (rs := [25]) (by kernel_rfl) (by simp) ?_
              refine AllReadyH.cons rfl (fun K hK => ?_) AllReadyH.nil
              go_simp
              refine hK.out _ _ ⟨z1, z2, z3⟩ (fun hHeld6 => ?_)
              clear hK K hHeld5
              try simp only [Act.put, List.getElem_toArray, List.getElem_cons_zero, List.getElem_cons_succ, List.setIfInBounds_toArray, List.set_cons_zero, List.set_cons_succ]
              refine wpAnyH_take (i := 26) (v := ?_) rfl (by kernel_rfl) (by kernel_rfl) (by kernel_rfl) (fun _ _ _ h => h) (Or.inl ⟨by kernel_rfl, ?_⟩) (by assumption) ?_
              rotate_left
              · (intro w hSw; (try dsimp only at hSw); go_simp; try with_reducible rfl)
              try simp only [Act.put, List.getElem_toArray, List.getElem_cons_zero, List.getElem_cons_succ, List.setIfInBounds_toArray, List.set_cons_zero, List.set_cons_succ]
              refine wpAnyH_take (i := 27) (v := ?_) rfl (by kernel_rfl) (by kernel_rfl) (by kernel_rfl) (fun _ _ _ h => h) (Or.inl ⟨by kernel_rfl, ?_⟩) (by assumption) ?_
              rotate_left
              · (intro w hSw; (try dsimp only at hSw); go_simp; try with_reducible rfl)
              try simp only [Act.put, List.getElem_toArray, List.getElem_cons_zero, List.getElem_cons_succ, List.setIfInBounds_toArray, List.set_cons_zero, List.set_cons_succ]
              refine wpAnyH_take (i := 28) (v := ?_) rfl (by kernel_rfl) (by kernel_rfl) (by kernel_rfl) (fun _ _ _ h => h) (Or.inl ⟨by kernel_rfl, ?_⟩) (by assumption) ?_
              rotate_left
              · (intro w hSw; (try dsimp only at hSw); go_simp; try with_reducible rfl)
              try simp only [Act.put, List.getElem_toArray, List.getElem_cons_zero, List.getElem_cons_succ, List.setIfInBounds_toArray, List.set_cons_zero, List.set_cons_succ]
              refine wpAnyH_take (i := 29) (v := ?_) rfl (by kernel_rfl) (by kernel_rfl) (by kernel_rfl) (fun _ _ _ h => h) (Or.inl ⟨by kernel_rfl, ?_⟩) (by assumption) ?_
              rotate_left
              · (intro w hSw; (try dsimp only at hSw); go_simp; try with_reducible rfl)
              try simp only [Act.put, List.getElem_toArray, List.getElem_cons_zero, List.getElem_cons_succ, List.setIfInBounds_toArray, List.set_cons_zero, List.set_cons_succ]
              refine wpAnyH_take (i := 30) (v := ?_) rfl (by kernel_rfl) (by kernel_rfl) (by kernel_rfl) (fun _ _ _ h => h) (Or.inl ⟨by kernel_rfl, ?_⟩) (by assumption) ?_
              rotate_left
              · (intro w hSw; (try dsimp only at hSw); go_simp; try with_reducible rfl)
              try simp only [Act.put, List.getElem_toArray, List.getElem_cons_zero, List.getElem_cons_succ, List.setIfInBounds_toArray, List.set_cons_zero, List.set_cons_succ]
              refine wpAnyH_take (i := 31) (v := ?_) rfl (by kernel_rfl) (by kernel_rfl) (by kernel_rfl) (fun _ _ _ h => h) (Or.inl ⟨by kernel_rfl, ?_⟩) (by assumption) ?_
              rotate_left
              · (intro w hSw; (try dsimp only at hSw); go_simp; try with_reducible rfl)
              try simp only [Act.put, List.getElem_toArray, List.getElem_cons_zero, List.getElem_cons_succ, List.setIfInBounds_toArray, List.set_cons_zero, List.set_cons_succ]
              refine wpAnyH_take (i := 32) (v := ?_) rfl (by kernel_rfl) (by kernel_rfl) (by kernel_rfl) (fun _ _ _ h => h) (Or.inl ⟨by kernel_rfl, ?_⟩) (by assumption) ?_
              rotate_left
              · (intro w hSw; (try dsimp only at hSw); go_simp; try with_reducible rfl)
              try simp only [Act.put, List.getElem_toArray, List.getElem_cons_zero, List.getElem_cons_succ, List.setIfInBounds_toArray, List.set_cons_zero, List.set_cons_succ]
              refine wpAnyH_take (i := 33) (v := ?_) rfl (by kernel_rfl) (by kernel_rfl) (by kernel_rfl) (fun _ _ _ h => h) (Or.inl ⟨by kernel_rfl, ?_⟩) (by assumption) ?_
              rotate_left
              · (intro w hSw; (try dsimp only at hSw); go_simp; try with_reducible rfl)
              try simp only [Act.put, List.getElem_toArray, List.getElem_cons_zero, List.getElem_cons_succ, List.setIfInBounds_toArray, List.set_cons_zero, List.set_cons_succ]
              refine wpAnyH_take (i := 34) (v := ?_) rfl (by kernel_rfl) (by kernel_rfl) (by kernel_rfl) (fun _ _ _ h => h) (Or.inl ⟨by kernel_rfl, ?_⟩) (by assumption) ?_
              rotate_left
              · (intro w hSw; (try dsimp only at hSw); go_simp; try with_reducible rfl)
              try simp only [Act.put, List.getElem_toArray, List.getElem_cons_zero, List.getElem_cons_succ, List.setIfInBounds_toArray, List.set_cons_zero, List.set_cons_succ]
              refine wpAnyH_done (by kernel_rfl) ?_ _
              go_wp2_with fail
              go_meet
              exact ⟨rfl, hb5⟩
            case rest =>
              obtain ⟨rfl, hb5⟩ := hcut
              go_wp2_with fail
              go_roundw
              case rel => exact ⟨j + 1, by omega, by go_num, hb5⟩
              case measure => simp [intOf]; omega
        · have hB3 := hB2.trans (hBj.mono hB2.size)
          go_wp2_with (go_at_call 13; refine (awake14 _).mono ?_; rintro e w5 ⟨rfl, hb5⟩)
          go_ret
          exact ⟨rfl, hB3.trans (hb5.mono hB3.size)⟩

end Go.Proofs.Ytncfbccihofaoaa
