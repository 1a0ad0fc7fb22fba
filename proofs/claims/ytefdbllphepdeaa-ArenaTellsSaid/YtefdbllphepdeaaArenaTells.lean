/- The walk over law 17's ArenaTells. -/
import Derived.Test.YtefdbllphepdeaaInv17
import Derived.Test.YtefdbllphepdeaaOpen17
import Derived.Test.YtefdbllphepdeaaRef17
import Derived.Test.YtefdbllphepdeaaEq
import Derived.Deep.DeepCutAuto
namespace Go.Proofs.Ytefdbllphepdeaa
open Go.RowKit

set_option maxRecDepth 100000 in
set_option maxHeartbeats 1000000 in
theorem arenaTells (w : World) (units at_ asked : Int) (hu0 : 0 ≤ units) (hs0 : 0 ≤ asked) (ao : Option Addr) (cap : Nat) (l : List Op) (h k v : Int) (h0 : 0 ≤ h) (k0 : 0 ≤ k) (v0 : 0 ≤ v) (hcap : l.length ≤ cap) (hl : ArgRow w 2 (.slice ao l.length cap) Op.cells Op.Fits l) :
    Calls Try.prog 6 #[.int .u64 units, .int .i64 at_, .int .u64 asked, .slice ao l.length cap, .int .u32 h, .int .u32 k, .int .u32 v] w fun e w' => e = .returned (.bool true) ∧ Below w.heap.size w w' := by
  obtain ⟨m, hm', hm1, hm2, -⟩ := cut_min 60 l.length
  have hm : (if (60 : Int) < (l.length : Int) then (60 : Int) else (l.length : Int)) = (m : Int) := hm'
  clear hm'
  have hm3 : m ≤ cap := by omega
  obtain ⟨h', hh⟩ : ∃ x, h % 1048577 = x := ⟨_, rfl⟩
  obtain ⟨k', hk⟩ : ∃ x, k % 1048577 = x := ⟨_, rfl⟩
  obtain ⟨v', hv⟩ : ∃ x, v % 1048577 = x := ⟨_, rfl⟩
  have hh0 : 0 ≤ h' := by omega
  have hh1 : h' ≤ 1048576 := by omega
  have hk0 : 0 ≤ k' := by omega
  have hk1 : k' ≤ 1048576 := by omega
  have hv0 : 0 ≤ v' := by omega
  have hv1 : v' ≤ 1048576 := by omega
  have HH := Lib.hid hh
  have HK := Lib.hid hk
  have HV := Lib.hid hv
  clear hh hk hv
  go_enter Try.func6, Try.ntmps6
  go_wp2_with fail
  refine (new_ok _ 3 0 (by decide) (by decide)).mono ?_
  rintro e w1 ⟨c, rfl, hC, hB⟩
  have hcase : (at_ < 0) ∨ (0 ≤ at_ ∧ 3 ≤ at_) ∨ (0 ≤ at_ ∧ at_ < 3 ∧ units < 1) ∨ (0 ≤ at_ ∧ at_ < 3 ∧ 1 ≤ units ∧ 1073741824 < units) ∨ (0 ≤ at_ ∧ at_ < 3 ∧ 1 ≤ units ∧ units ≤ 1073741824) := by omega
  have hok3 : okUnits (Mem.new 3 0).atomics.length at_ units = decide (0 ≤ at_ ∧ at_ < 3 ∧ 1 ≤ units ∧ units ≤ 1073741824) := rfl
  have HO := Lib.hid hok3
  clear hok3 hu0
  rcases hcase with a0 | ⟨a0, a1⟩ | ⟨a0, a1, u0⟩ | ⟨a0, a1, u0, u1⟩ | ⟨a0, a1, u0, u1⟩
  iterate 4
    · clear hl hs0 hm
      have hno : okUnits (Mem.new 3 0).atomics.length at_ units = false := by rw [HO.out]; exact decide_eq_false (by omega)
      go_wp2_with fail
      refine (anew_no hC at_ units hno).mono ?_
      rintro e w2 ⟨rfl, hq2⟩
      have hB2 := hB.trans (hq2.below _)
      clear hno hC hB hq2
      go_wp2_with fail
      rw [HH.out, HK.out, HV.out]
      refine (need_any _ h' k' v' hh0 (by omega) hk0 (by omega) hv0 (by omega)).mono ?_
      rintro e w' ⟨rfl, rfl⟩
      go_wp2_with (go_at_call 10; refine (awake17 _).mono ?_; rintro e w5 ⟨rfl, hb5⟩)
      go_ret
      exact ⟨rfl, hB2.trans (hb5.mono hB2.size)⟩
  · go_wp2_with fail
    refine (anew_ok hC at_ units (by rw [HO.out]; exact decide_eq_true ⟨a0, a1, u0, u1⟩)).mono ?_
    rintro e w2 ⟨q, rfl, hq, hQ2, hC2, hB2⟩
    have hI2 : AInv (fun k => w.heap.size ≤ k ∧ k ≠ q) w w2 q c at_ units 0 [] := ⟨⟨_, hC2, rfl, by
      have : at_ = 0 ∨ at_ = 1 ∨ at_ = 2 := by omega
      rcases this with rfl | rfl | rfl <;> rfl, rfl⟩, hQ2, ⟨fun k hk => ⟨by have := hB.size; have := hB2.size; omega, by have := hQ2.blk.lt; omega⟩⟩, hB.trans (hB2.mono hB.size), fun k hk => hk.1⟩
    have hq : ¬ (fun k => w.heap.size ≤ k ∧ k ≠ q) q := fun h => h.2 rfl
    have hbase : ∀ k, (fun k => w.heap.size ≤ k ∧ k ≠ q) k → w.heap.size ≤ k := fun k h => h.1
    obtain ⟨A, hA⟩ : ∃ A, A = (fun k => w.heap.size ≤ k ∧ k ≠ q) := ⟨_, rfl⟩
    rw [← hA] at hI2 hq hbase
    clear hA hQ2 hC2 hB2 hC hB
    go_wp2_with fail
    rw [HH.out, HK.out, HV.out]
    refine (need_any _ h' k' v' hh0 (by omega) hk0 (by omega) hv0 (by omega)).mono ?_
    rintro e w' ⟨rfl, rfl⟩
    go_wp2_with fail
    obtain ⟨y, hy⟩ : ∃ y, asked % 4611686018427387904 = y := ⟨_, rfl⟩
    rw [hy]
    have y0 : 0 ≤ y := by omega
    have y1 : y ≤ 4611686018427387904 := by omega
    clear hy hs0
    refine (inv_store hI2 (by decide) 0 y (by decide) (by decide) a0 a1).mono ?_
    rintro e w3 ⟨rfl, hI3, -⟩
    clear hI2
    go_wp2_with fail
    clear hm
    go_loopw [2, 23, 113] (fun s2 s23 i wr => ∃ k : Nat, k ≤ m ∧ i = .int .i64 k ∧ ∃ (x : Int) (nt : Nat) (tr : List Acc), s2 = .int .u64 x ∧ s23 = .int .i64 nt ∧ 0 ≤ x ∧ x ≤ 4611686018427387904 + 1048576 * k ∧ nt ≤ 1 + k ∧ tr.length = nt ∧ AInv A w wr q c at_ units x tr) (fun _ _ i _ => m - (intOf i).toNat)
    case atStart => exact ⟨0, by omega, rfl, y, 1, _, rfl, rfl, y0, by omega, by omega, rfl, hI3⟩
    case round =>
      clear hI3
      obtain ⟨k, hk, rfl, x, nt, tr, rfl, rfl, x0, x1, hnt, htr, hI⟩ := hrel
      by_cases hlt : k < m
      · have hkl : k < l.length := by omega
        obtain ⟨b, off, rfl, hx⟩ := hl.cell hI.below (by decide) k hkl
        have hfit := hl.good l[k] (List.getElem_mem _)
        obtain ⟨o, ho⟩ : ∃ o, o = l[k] := ⟨_, rfl⟩
        rw [← ho] at hx hfit
        have x2 := hx 0 _ rfl
        have x3 := hx 1 _ rfl
        simp only [Nat.add_zero] at x2
        have ht := fits_i64 hfit.task
        have hd := fits_u64 hfit.need
        clear hx hfit ho
        have hI1 := hI.box (.cells #[.int .i64 o.task, .int .u64 o.need] 30)
        have hbox : Blk (wr.alloc (.cells #[.int .i64 o.task, .int .u64 o.need] 30)) wr.heap.size 30 [.int .i64 o.task, .int .u64 o.need] := Blk.new wr _ _
        obtain ⟨A', hA'⟩ : ∃ A', (fun k => A k ∧ k ≠ wr.heap.size) = A' := ⟨_, rfl⟩
        rw [hA'] at hI1
        have hnb : ¬ A' wr.heap.size := by rw [← hA']; exact fun h => h.2 rfl
        clear hI hl
        clear hcap hm1
        go_upto_region 19 with fail
        obtain ⟨wb, hwb⟩ : ∃ wb, wr.alloc (.cells #[.int .i64 o.task, .int .u64 o.need] 30) = wb := ⟨_, rfl⟩
        rw [hwb] at hI1 hbox
        rw [hwb]
        have c1 := hbox.cell 0 rfl
        have c2 := hbox.cell 1 rfl
        clear x2 x3 hwb
        have hcase : (o.need = 0 ∧ (o.task < 0 ∨ (0 ≤ o.task ∧ 63 < o.task))) ∨ (o.need = 0 ∧ 0 ≤ o.task ∧ o.task ≤ 63 ∧ x < units) ∨ (o.need = 0 ∧ 0 ≤ o.task ∧ o.task ≤ 63 ∧ units ≤ x) ∨
            (1 ≤ o.need ∧ (1048576 < o.need ∨ o.task < 0 ∨ 63 < o.task)) ∨ (1 ≤ o.need ∧ o.need ≤ 1048576 ∧ 0 ≤ o.task ∧ o.task ≤ 63 ∧ x + o.need ≤ units) ∨ (1 ≤ o.need ∧ o.need ≤ 1048576 ∧ 0 ≤ o.task ∧ o.task ≤ 63 ∧ units < x + o.need) := by omega
        rcases hcase with ⟨d0, t0⟩ | ⟨d0, t0, t1, g⟩ | ⟨d0, t0, t1, g⟩ | ⟨d0, t0⟩ | ⟨d0, d1, t0, t1, g⟩ | ⟨d0, d1, t0, t1, g⟩
        · have e0 : (o.need = 0) = True := by simp [d0]
          go_wp2_with fail
          refine (inv_left_no hI1 o.task (by omega)).mono ?_
          rintro e w4 ⟨rfl, hI4, hO4⟩
          have hbox4 := hbox.keep (hO4.block _ hbox.lt hnb)
          have z1 := hbox4.cell 0 rfl
          have z2 := hbox4.cell 1 rfl
          clear hI1 hbox hO4 c1 c2
          go_wp2_with fail
          refine (refLeft_bad _ x units o.task t0).mono ?_
          rintro e w' ⟨rfl, rfl⟩
          go_wp2_with fail
          refine (inv_trace hI4 (by rw [htr]; unfold trMax; omega)).mono ?_
          rintro e w5 ⟨v5, rfl, hr5, hI5, hb5⟩
          have hbox5 := hbox4.keep (hb5.block _ hbox4.lt)
          have hI6 := (hA' ▸ hI5).unbox hq hbase (by have := hbox5.lt; omega)
          rw [htr] at hr5
          obtain ⟨ao5, cp5, rfl⟩ := hr5.slice
          clear hI4 z1 z2 hbox4 hr5 hI5 hb5 hbox5
          go_wp2_with fail
          go_quiet (fail)
          go_wp2_with fail
          go_roundw
          case rel => exact ⟨k + 1, by omega, by go_num, x, nt, _, rfl, rfl, by omega, by omega, by omega, htr, hI6.drewN _⟩
          case measure => simp [intOf]; omega
        · have e0 : (o.need = 0) = True := by simp [d0]
          go_wp2_with fail
          refine (inv_left hI1 (by unfold trMax; omega) o.task t0 (by omega) a0 a1 x0 (by omega) u1 (units - x) (by omega)).mono ?_
          rintro e w4 ⟨rfl, hI4, hO4⟩
          have hbox4 := hbox.keep (hO4.block _ hbox.lt hnb)
          have z1 := hbox4.cell 0 rfl
          have z2 := hbox4.cell 1 rfl
          clear hI1 hbox hO4 c1 c2
          go_wp2_with fail
          refine (refLeft_some _ x units o.task t0 t1 g x0 u1).mono ?_
          rintro e w' ⟨rfl, rfl⟩
          go_wp2_with fail
          have hlen : (tr ++ [(⟨o.task, 1, at_⟩ : Acc)]).length = nt + 1 := by simp [htr]
          refine (inv_trace hI4 (by rw [hlen]; unfold trMax; omega)).mono ?_
          rintro e w5 ⟨v5, rfl, hr5, hI5, hb5⟩
          have hbox5 := hbox4.keep (hb5.block _ hbox4.lt)
          have hI6 := (hA' ▸ hI5).unbox hq hbase (by have := hbox5.lt; omega)
          rw [hlen] at hr5
          obtain ⟨g, cp, rfl⟩ := owns_succ hr5.owns
          obtain ⟨p1, p2, p3⟩ := hr5.reads.acc nt (by rw [hlen]; omega)
          have hlast : (tr ++ [(⟨o.task, 1, at_⟩ : Acc)])[nt]'(by rw [hlen]; omega) = ⟨o.task, 1, at_⟩ := by subst htr; simp
          rw [hlast] at p1 p2 p3
          have hne2 := fun W => neq_acc W (⟨o.task, 1, at_⟩) (⟨o.task, 1, at_⟩)
          have z5 := hbox5.cell 0 rfl
          simp only [Nat.zero_add] at p1 p2 p3
          clear hI4 z1 z2 hbox4 hr5 hI5 hb5 hbox5 hlast htr
          go_wp2_with fail
          go_quiet (fail)
          go_wp2_with fail
          go_roundw
          case rel => exact ⟨k + 1, by omega, by go_num, x, nt + 1, _, rfl, by go_num, by omega, by omega, by omega, hlen, hI6.drewN _⟩
          case measure => simp [intOf]; omega
        · have e0 : (o.need = 0) = True := by simp [d0]
          go_wp2_with fail
          refine (inv_left hI1 (by unfold trMax; omega) o.task t0 (by omega) a0 a1 x0 (by omega) u1 (0) (by omega)).mono ?_
          rintro e w4 ⟨rfl, hI4, hO4⟩
          have hbox4 := hbox.keep (hO4.block _ hbox.lt hnb)
          have z1 := hbox4.cell 0 rfl
          have z2 := hbox4.cell 1 rfl
          clear hI1 hbox hO4 c1 c2
          go_wp2_with fail
          refine (refLeft_none _ x units o.task t0 t1 g).mono ?_
          rintro e w' ⟨rfl, rfl⟩
          go_wp2_with fail
          have hlen : (tr ++ [(⟨o.task, 1, at_⟩ : Acc)]).length = nt + 1 := by simp [htr]
          refine (inv_trace hI4 (by rw [hlen]; unfold trMax; omega)).mono ?_
          rintro e w5 ⟨v5, rfl, hr5, hI5, hb5⟩
          have hbox5 := hbox4.keep (hb5.block _ hbox4.lt)
          have hI6 := (hA' ▸ hI5).unbox hq hbase (by have := hbox5.lt; omega)
          rw [hlen] at hr5
          obtain ⟨g, cp, rfl⟩ := owns_succ hr5.owns
          obtain ⟨p1, p2, p3⟩ := hr5.reads.acc nt (by rw [hlen]; omega)
          have hlast : (tr ++ [(⟨o.task, 1, at_⟩ : Acc)])[nt]'(by rw [hlen]; omega) = ⟨o.task, 1, at_⟩ := by subst htr; simp
          rw [hlast] at p1 p2 p3
          have hne2 := fun W => neq_acc W (⟨o.task, 1, at_⟩) (⟨o.task, 1, at_⟩)
          have z5 := hbox5.cell 0 rfl
          simp only [Nat.zero_add] at p1 p2 p3
          clear hI4 z1 z2 hbox4 hr5 hI5 hb5 hbox5 hlast htr
          go_wp2_with fail
          go_quiet (fail)
          go_wp2_with fail
          go_roundw
          case rel => exact ⟨k + 1, by omega, by go_num, x, nt + 1, _, rfl, by go_num, by omega, by omega, by omega, hlen, hI6.drewN _⟩
          case measure => simp [intOf]; omega
        · have e0 : (o.need = 0) = False := by simp; omega
          go_wp2_with fail
          refine (inv_take_no hI1 o.task o.need (by omega)).mono ?_
          rintro e w4 ⟨rfl, hI4, hO4⟩
          have hbox4 := hbox.keep (hO4.block _ hbox.lt hnb)
          have z1 := hbox4.cell 0 rfl
          have z2 := hbox4.cell 1 rfl
          clear hI1 hbox hO4 c1 c2
          go_wp2_with fail
          refine (refTake_bad _ x units o.task o.need (.inr t0) hd.1).mono ?_
          rintro e w' ⟨rfl, rfl⟩
          go_wp2_with fail
          refine (inv_trace hI4 (by rw [htr]; unfold trMax; omega)).mono ?_
          rintro e w5 ⟨v5, rfl, hr5, hI5, hb5⟩
          have hbox5 := hbox4.keep (hb5.block _ hbox4.lt)
          have hI6 := (hA' ▸ hI5).unbox hq hbase (by have := hbox5.lt; omega)
          rw [htr] at hr5
          obtain ⟨ao5, cp5, rfl⟩ := hr5.slice
          clear hI4 z1 z2 hbox4 hr5 hI5 hb5 hbox5
          go_wp2_with fail
          go_quiet (fail)
          go_wp2_with fail
          go_roundw
          case rel => exact ⟨k + 1, by omega, by go_num, x, nt, _, rfl, rfl, by omega, by omega, by omega, htr, hI6.drewN _⟩
          case measure => simp [intOf]; omega
        · have e0 : (o.need = 0) = False := by simp; omega
          go_wp2_with fail
          refine (inv_take hI1 (by unfold trMax; omega) o.task o.need t0 (by omega) d0 d1 a0 a1 x0 (by omega) (x) (0) (by omega)).mono ?_
          rintro e w4 ⟨rfl, hI4, hO4⟩
          have hbox4 := hbox.keep (hO4.block _ hbox.lt hnb)
          have z1 := hbox4.cell 0 rfl
          have z2 := hbox4.cell 1 rfl
          clear hI1 hbox hO4 c1 c2
          go_wp2_with fail
          refine (refTake_fit _ x units o.task o.need d0 d1 t0 t1 x0 (by omega) g).mono ?_
          rintro e w' ⟨rfl, rfl⟩
          go_wp2_with fail
          have hlen : (tr ++ [(⟨o.task, 5, at_⟩ : Acc)]).length = nt + 1 := by simp [htr]
          refine (inv_trace hI4 (by rw [hlen]; unfold trMax; omega)).mono ?_
          rintro e w5 ⟨v5, rfl, hr5, hI5, hb5⟩
          have hbox5 := hbox4.keep (hb5.block _ hbox4.lt)
          have hI6 := (hA' ▸ hI5).unbox hq hbase (by have := hbox5.lt; omega)
          rw [hlen] at hr5
          obtain ⟨g, cp, rfl⟩ := owns_succ hr5.owns
          obtain ⟨p1, p2, p3⟩ := hr5.reads.acc nt (by rw [hlen]; omega)
          have hlast : (tr ++ [(⟨o.task, 5, at_⟩ : Acc)])[nt]'(by rw [hlen]; omega) = ⟨o.task, 5, at_⟩ := by subst htr; simp
          rw [hlast] at p1 p2 p3
          have hne2 := fun W => neq_acc W (⟨o.task, 5, at_⟩) (⟨o.task, 5, at_⟩)
          have z5 := hbox5.cell 0 rfl
          simp only [Nat.zero_add] at p1 p2 p3
          clear hI4 z1 z2 hbox4 hr5 hI5 hb5 hbox5 hlast htr
          go_wp2_with fail
          go_quiet (fail)
          go_wp2_with fail
          go_roundw
          case rel => exact ⟨k + 1, by omega, by go_num, x + o.need, nt + 1, _, rfl, by go_num, by omega, by omega, by omega, hlen, hI6.drewN _⟩
          case measure => simp [intOf]; omega
        · have e0 : (o.need = 0) = False := by simp; omega
          go_wp2_with fail
          refine (inv_take hI1 (by unfold trMax; omega) o.task o.need t0 (by omega) d0 d1 a0 a1 x0 (by omega) (0) (13) (by omega)).mono ?_
          rintro e w4 ⟨rfl, hI4, hO4⟩
          have hbox4 := hbox.keep (hO4.block _ hbox.lt hnb)
          have z1 := hbox4.cell 0 rfl
          have z2 := hbox4.cell 1 rfl
          clear hI1 hbox hO4 c1 c2
          go_wp2_with fail
          refine (refTake_full _ x units o.task o.need d0 d1 t0 t1 x0 (by omega) g).mono ?_
          rintro e w' ⟨rfl, rfl⟩
          go_wp2_with fail
          have hlen : (tr ++ [(⟨o.task, 5, at_⟩ : Acc)]).length = nt + 1 := by simp [htr]
          refine (inv_trace hI4 (by rw [hlen]; unfold trMax; omega)).mono ?_
          rintro e w5 ⟨v5, rfl, hr5, hI5, hb5⟩
          have hbox5 := hbox4.keep (hb5.block _ hbox4.lt)
          have hI6 := (hA' ▸ hI5).unbox hq hbase (by have := hbox5.lt; omega)
          rw [hlen] at hr5
          obtain ⟨g, cp, rfl⟩ := owns_succ hr5.owns
          obtain ⟨p1, p2, p3⟩ := hr5.reads.acc nt (by rw [hlen]; omega)
          have hlast : (tr ++ [(⟨o.task, 5, at_⟩ : Acc)])[nt]'(by rw [hlen]; omega) = ⟨o.task, 5, at_⟩ := by subst htr; simp
          rw [hlast] at p1 p2 p3
          have hne2 := fun W => neq_acc W (⟨o.task, 5, at_⟩) (⟨o.task, 5, at_⟩)
          have z5 := hbox5.cell 0 rfl
          simp only [Nat.zero_add] at p1 p2 p3
          clear hI4 z1 z2 hbox4 hr5 hI5 hb5 hbox5 hlast htr
          go_wp2_with fail
          go_quiet (fail)
          go_wp2_with fail
          go_roundw
          case rel => exact ⟨k + 1, by omega, by go_num, x + o.need, nt + 1, _, rfl, by go_num, by omega, by omega, by omega, hlen, hI6.drewN _⟩
          case measure => simp [intOf]; omega
      · have hB := hI.below
        clear hl
        go_wp2_with (first | (go_at_call 11; refine (inv_units hI).mono ?_; rintro e w' ⟨rfl, rfl⟩) | (go_at_call 10; refine (awake17 _).mono ?_; rintro e w5 ⟨rfl, hb5⟩))
        go_ret
        exact ⟨rfl, hB.trans (hb5.mono hB.size)⟩

end Go.Proofs.Ytefdbllphepdeaa
