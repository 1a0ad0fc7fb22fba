/- The walk over law 13's CellsLast. -/
import Derived.Test.YtlofgmcbanldnaaInv13
import Derived.Test.YtlofgmcbanldnaaOpen13b
import Derived.Deep.DeepCutAuto
namespace Go.Proofs.Ytlofgmcbanldnaa
open Go.RowKit

theorem task_in (t : Int) : 0 ≤ (wrap64 (t.tmod 64 + 64)).tmod 64 ∧ (wrap64 (t.tmod 64 + 64)).tmod 64 < 64 := by
  have h1 := Int.tmod_lt_of_pos t (b := 64) (by decide)
  have h2 := Int.lt_tmod_of_pos t (b := 64) (by decide)
  have h3 : wrap64 (t.tmod 64 + 64) = t.tmod 64 + 64 := by unfold wrap64; omega
  rw [h3]
  exact ⟨Int.tmod_nonneg _ (by omega), Int.tmod_lt_of_pos _ (by decide)⟩
theorem index_in (t : Int) (n : Nat) (h1 : 1 ≤ n) (h2 : n ≤ 1000) : ∃ i : Nat, i < n ∧ (wrap64 (t.tmod n + n)).tmod n = i := by
  have g1 := Int.tmod_lt_of_pos t (b := (n : Int)) (by omega)
  have g2 := Int.lt_tmod_of_pos t (b := (n : Int)) (by omega)
  have h3 : wrap64 (t.tmod n + n) = t.tmod n + n := by unfold wrap64; omega
  rw [h3]
  have g3 := Int.tmod_nonneg (n : Int) (show 0 ≤ t.tmod n + n by omega)
  have g4 := Int.tmod_lt_of_pos (t.tmod n + n) (b := (n : Int)) (by omega)
  exact ⟨((t.tmod n + n).tmod n).toNat, by omega, by omega⟩

set_option maxRecDepth 100000 in
set_option maxHeartbeats 8000000 in
theorem cellsLast (w : World) (many : Int) (hu0 : 0 ≤ many) (hu1 : many ≤ 255) (ao : Option Addr) (cap : Nat) (l : List Op) (hcap : l.length ≤ cap) (hl : ArgRow w 9 (.slice ao l.length cap) Op.cells (Op.Fits w) l) :
    Calls Try.prog 4 #[.int .u8 many, .slice ao l.length cap] w fun e w' => e = .returned (.bool true) ∧ Below w.heap.size w w' := by
  obtain ⟨m, hm', hm1, hm2, -⟩ := cut_min 60 l.length
  have hm : (if (60 : Int) < (l.length : Int) then (60 : Int) else (l.length : Int)) = (m : Int) := hm'
  clear hm'
  have hm3 : m ≤ cap := by omega
  go_enter Try.func4, Try.ntmps4
  go_wp2_with fail
  obtain ⟨n, hn⟩ : ∃ n : Nat, 1 + many % 8 = (n : Int) := ⟨(1 + many % 8).toNat, by omega⟩
  rw [hn]
  have n1 : 1 ≤ n := by omega
  have n2 : n ≤ 8 := by omega
  clear hn hu0 hu1
  refine (made13_ok _ n 1 (by omega) (by decide)).mono ?_
  rintro e w1 ⟨c, rfl, hC, hB1⟩
  have hmk := fun W => run_make (P := Try.prog) 38 32 (.int .u64 0) 8 Try.underlying38 infoU64 rfl (by decide) n (by omega) W
  go_wp2_with fail
  have hI0 : LInv (fun k => w.heap.size ≤ k ∧ k ≠ w1.heap.size) w (w1.alloc (.cells (Array.replicate n (.int .u64 0)) 32)) c w1.heap.size (List.replicate n 0) (List.replicate n 0) 0 :=
    ⟨⟨_, (hC.sans (Nat.le_refl _)).alloc _, by simp [Mem.new], rfl⟩, by have := Blk.new w1 32 (u64s (List.replicate n 0)); simpa [u64s] using this,
     ⟨fun k hk => by have := hB1.size; simp at hk; omega⟩, hB1.alloc hB1.size _, fun k hk => hk.1, fun h => h.2 rfl, hB1.size⟩
  have hgb := hI0.gb
  obtain ⟨A, hA⟩ : ∃ A, A = (fun k => w.heap.size ≤ k ∧ k ≠ w1.heap.size) := ⟨_, rfl⟩
  rw [← hA] at hI0
  have hng := hI0.ng
  have hbase := hI0.base
  obtain ⟨g, hg⟩ : ∃ g, w1.heap.size = g := ⟨_, rfl⟩
  rw [hg] at hI0 hng hgb
  rw [hg]
  clear hA hmk hC hB1 hm hg
  go_loopw [9, 45] (fun s9 i wr => ∃ k : Nat, k ≤ m ∧ i = .int .i64 k ∧ s9 = .int .i64 k ∧ ∃ Z : List Int, Z.length = n ∧ LInv A w wr c g Z Z k) (fun _ i _ => m - (intOf i).toNat)
  case atStart => exact ⟨0, by omega, rfl, rfl, _, by simp, hI0⟩
  case round =>
    clear hI0
    obtain ⟨k, hk, rfl, rfl, Z, hZ, hI⟩ := hrel
    by_cases hlt : k < m
    · have hkl : k < l.length := by omega
      obtain ⟨b, off, rfl, hx⟩ := hl.cell hI.below (by decide) k hkl
      have hfit := hl.good l[k] (List.getElem_mem _)
      obtain ⟨o, ho⟩ : ∃ o, o = l[k] := ⟨_, rfl⟩
      rw [← ho] at hx hfit
      have x0 := hx 0 _ rfl
      have x1 := hx 1 _ rfl
      have x2 := hx 2 _ rfl
      have x3 := hx 3 _ rfl
      have x4 := hx 4 _ rfl
      have x5 := hx 5 _ rfl
      have x6 := hx 6 _ rfl
      have x7 := hx 7 _ rfl
      have x8 := hx 8 _ rfl
      simp only [Nat.add_zero] at x0
      have hw := fits_u8 hfit.what
      have ht := fits_i64 hfit.task
      have ha := fits_i64 hfit.at_
      have hX := fits_u64 hfit.x
      have hY := fits_u64 hfit.y
      obtain ⟨bo, bc, hbv⟩ := hfit.b.reads.slice
      rw [hbv] at x5
      clear hx hfit ho hbv
      go_upto_region 10 with fail
      go_cut [12, 13] (fun s12 s13 wx => ∃ (i : Nat) (t : Int), s12 = .int .i64 i ∧ s13 = .int .i64 t ∧ i < n ∧ 0 ≤ t ∧ t < 64 ∧ ∃ N, wx = (wr.alloc (.cells #[.int .u8 o.what, .int .i64 o.task, .int .i64 o.at_, .int .u64 o.x, .int .u64 o.y, .slice bo o.bs.length bc, .int .i64 o.a.task, .int .u8 o.a.what, .int .i64 o.a.at_] 42)).drewN N)
      case first =>
        go_quiet (fail)
        go_wp2_with fail
        all_goals go_meet
        obtain ⟨i, hi, hie⟩ := index_in o.at_ n n1 (by omega)
        have hti := task_in o.task
        exact ⟨i, _, by rw [hie], rfl, hi, hti.1, hti.2, _, rfl⟩
      case rest =>
        obtain ⟨i, t, rfl, rfl, hi, t0, t1, N, rfl⟩ := hcut
        have hI1 := (hI.box (.cells #[.int .u8 o.what, .int .i64 o.task, .int .i64 o.at_, .int .u64 o.x, .int .u64 o.y, .slice bo o.bs.length bc, .int .i64 o.a.task, .int .u8 o.a.what, .int .i64 o.a.at_] 42)).drewN N
        have hbox : Blk ((wr.alloc (.cells #[.int .u8 o.what, .int .i64 o.task, .int .i64 o.at_, .int .u64 o.x, .int .u64 o.y, .slice bo o.bs.length bc, .int .i64 o.a.task, .int .u8 o.a.what, .int .i64 o.a.at_] 42)).drewN N) wr.heap.size 42 [.int .u8 o.what, .int .i64 o.task, .int .i64 o.at_, .int .u64 o.x, .int .u64 o.y, .slice bo o.bs.length bc, .int .i64 o.a.task, .int .u8 o.a.what, .int .i64 o.a.at_] := Blk.new wr _ _
        obtain ⟨wb, hwb⟩ : ∃ wb, (wr.alloc (.cells #[.int .u8 o.what, .int .i64 o.task, .int .i64 o.at_, .int .u64 o.x, .int .u64 o.y, .slice bo o.bs.length bc, .int .i64 o.a.task, .int .u8 o.a.what, .int .i64 o.a.at_] 42)).drewN N = wb := ⟨_, rfl⟩
        rw [hwb] at hI1 hbox
        rw [hwb]
        obtain ⟨bx, hbx⟩ : ∃ bx, wr.heap.size = bx := ⟨_, rfl⟩
        rw [hbx] at hbox
        obtain ⟨A', hA'⟩ : ∃ A', (fun k => A k ∧ k ≠ wr.heap.size) = A' := ⟨_, rfl⟩
        rw [hA'] at hI1
        have hnb : ¬ A' bx := by rw [← hA', ← hbx]; exact fun h => h.2 rfl
        have hback : ∀ {w'' : World} {at' hv' : List Int} {nt' : Nat}, LInv A' w w'' c g at' hv' nt' → LInv A w w'' c g at' hv' nt' := fun h => (hA' ▸ h).unbox hng hbase
        rw [hbx]
        have c0 := hbox.cell 0 rfl
        have c3 := hbox.cell 3 rfl
        have c4 := hbox.cell 4 rfl
        have hgc := hI1.cell i (by omega)
        have hiz : i < Z.length := by omega
        obtain ⟨z, hz⟩ : ∃ z, Z.getD i 0 = z := ⟨_, rfl⟩
        rw [hz] at hgc
        have HZ := Lib.hid hz
        have hkT : k < trMax := by unfold trMax; omega
        clear hI x0 x1 x2 x3 x4 x5 x6 x7 x8 hwb hbx hA' hl ht ha hz
        have hcase : (o.what % 4 = 0) ∨ (o.what % 4 = 1) ∨ (o.what % 4 = 2 ∧ o.y % 2 = 0) ∨ (o.what % 4 = 2 ∧ o.y % 2 = 1 ∧ o.x = z) ∨ (o.what % 4 = 2 ∧ o.y % 2 = 1 ∧ ¬ o.x = z) ∨ (o.what % 4 = 3) := by omega
        rcases hcase with q0 | q0 | ⟨q0, q1⟩ | ⟨q0, q1, q2⟩ | ⟨q0, q1, q2⟩ | q0
        · go_wp2_with fail
          refine (linv_load hI1 hkT t i t0 t1 hiz z HZ.out).mono ?_
          rintro e w2 ⟨rfl, hI2, hO2⟩
          have hI3 := hI2
          clear hI1 hI2 hO2 hbox c0 c3 c4 hgc
          go_wp2_with fail
          refine (linv_trace hI3 (by unfold trMax; omega)).mono ?_
          rintro e w4 ⟨ao4, cp4, rfl, hI4, -⟩
          have hI5 := hback hI4
          clear hI3 hI4
          go_wp2_with fail
          go_roundw
          case rel => exact ⟨k + 1, by omega, by go_num, by go_num, _, hZ, hI5⟩
          case measure => simp [intOf]; omega
        · go_wp2_with fail
          refine (linv_store hI1 hkT t i o.x t0 t1 hiz).mono ?_
          rintro e w2 ⟨rfl, hI2, hO2⟩
          have c3' := (hbox.keep (hO2.block _ hbox.lt hnb)).cell 3 rfl
          have c4' := (hbox.keep (hO2.block _ hbox.lt hnb)).cell 4 rfl
          have hgc2 := hI2.cell i hiz
          have hgf2 := hI2.row.frozen i
          have hI3 := hI2.set i o.x
          clear hI1 hO2 hbox c0 c3 c4 hgc
          rw [HZ.out] at hgc2
          go_wp2_with fail
          refine (linv_trace hI3 (by unfold trMax; omega)).mono ?_
          rintro e w4 ⟨ao4, cp4, rfl, hI4, -⟩
          have hI5 := hback hI4
          clear hI3 hI4
          go_wp2_with fail
          go_roundw
          case rel => exact ⟨k + 1, by omega, by go_num, by go_num, _, by simp [hZ], hI5⟩
          case measure => simp [intOf]; omega
        · go_wp2_with fail
          refine (linv_swap hI1 hkT t i z o.y t0 t1 hiz HZ.out).mono ?_
          rintro e w2 ⟨rfl, hI2, hO2⟩
          have c3' := (hbox.keep (hO2.block _ hbox.lt hnb)).cell 3 rfl
          have c4' := (hbox.keep (hO2.block _ hbox.lt hnb)).cell 4 rfl
          have hgc2 := hI2.cell i hiz
          have hgf2 := hI2.row.frozen i
          have hI3 := hI2.set i o.y
          clear hI1 hO2 hbox c0 c3 c4 hgc
          rw [HZ.out] at hgc2
          go_wp2_with fail
          refine (linv_trace hI3 (by unfold trMax; omega)).mono ?_
          rintro e w4 ⟨ao4, cp4, rfl, hI4, -⟩
          have hI5 := hback hI4
          clear hI3 hI4
          go_wp2_with fail
          go_roundw
          case rel => exact ⟨k + 1, by omega, by go_num, by go_num, _, by simp [hZ], hI5⟩
          case measure => simp [intOf]; omega
        · subst q2
          go_wp2_with fail
          refine (linv_swap hI1 hkT t i o.x o.y t0 t1 hiz HZ.out).mono ?_
          rintro e w2 ⟨rfl, hI2, hO2⟩
          have c3' := (hbox.keep (hO2.block _ hbox.lt hnb)).cell 3 rfl
          have c4' := (hbox.keep (hO2.block _ hbox.lt hnb)).cell 4 rfl
          have hgc2 := hI2.cell i hiz
          have hgf2 := hI2.row.frozen i
          have hI3 := hI2.set i o.y
          clear hI1 hO2 hbox c0 c3 c4 hgc
          rw [HZ.out] at hgc2
          go_wp2_with fail
          refine (linv_trace hI3 (by unfold trMax; omega)).mono ?_
          rintro e w4 ⟨ao4, cp4, rfl, hI4, -⟩
          have hI5 := hback hI4
          clear hI3 hI4
          go_wp2_with fail
          go_roundw
          case rel => exact ⟨k + 1, by omega, by go_num, by go_num, _, by simp [hZ], hI5⟩
          case measure => simp [intOf]; omega
        · go_wp2_with fail
          refine (linv_swap_no hI1 hkT t i o.x o.y t0 t1 hiz (by rw [HZ.out]; exact fun h => q2 h.symm)).mono ?_
          rintro e w2 ⟨rfl, hI2, hO2⟩
          have hI3 := hI2
          clear hI1 hI2 hO2 hbox c0 c3 c4 hgc
          go_wp2_with fail
          refine (linv_trace hI3 (by unfold trMax; omega)).mono ?_
          rintro e w4 ⟨ao4, cp4, rfl, hI4, -⟩
          have hI5 := hback hI4
          clear hI3 hI4
          go_wp2_with fail
          go_roundw
          case rel => exact ⟨k + 1, by omega, by go_num, by go_num, _, hZ, hI5⟩
          case measure => simp [intOf]; omega
        · obtain ⟨y, hy⟩ : ∃ y, IntKind.u64.wrap (z + o.x) = y := ⟨_, rfl⟩
          have HY := Lib.hid hy
          clear hy
          go_wp2_with fail
          refine (linv_add hI1 hkT t i o.x t0 t1 hiz y (by rw [HZ.out, HY.out])).mono ?_
          rintro e w2 ⟨rfl, hI2, hO2⟩
          have c3' := (hbox.keep (hO2.block _ hbox.lt hnb)).cell 3 rfl
          have c4' := (hbox.keep (hO2.block _ hbox.lt hnb)).cell 4 rfl
          have hgc2 := hI2.cell i hiz
          have hgf2 := hI2.row.frozen i
          have hI3 := (hI2.set i y).drew
          clear hI1 hO2 hbox c0 c3 c4 hgc
          rw [HZ.out] at hgc2
          go_wp2_with fail
          go_region
          rw [HY.out]
          go_wp2_with fail
          refine (linv_trace hI3 (by unfold trMax; omega)).mono ?_
          rintro e w4 ⟨ao4, cp4, rfl, hI4, -⟩
          have hI5 := hback hI4
          clear hI3 hI4
          go_wp2_with fail
          go_roundw
          case rel => exact ⟨k + 1, by omega, by go_num, by go_num, _, by simp [hZ], hI5⟩
          case measure => simp [intOf]; omega
    · clear hl
      go_wp2_with fail
      have hk60 : k ≤ 60 := by omega
      clear hk hlt hm1 hm2 hm3 hcap
      go_loopw [170] (fun i wr => ∃ j : Nat, j ≤ n ∧ i = .int .i64 j ∧ LInv A w wr c g Z Z (k + j)) (fun i _ => n - (intOf i).toNat)
      case atStart => exact ⟨0, by omega, rfl, hI⟩
      case round =>
        clear hI
        obtain ⟨j, hj, rfl, hI⟩ := hrel
        by_cases hjn : j < n
        · have hjz : j < Z.length := by omega
          have hgc := hI.cell j hjz
          obtain ⟨z, hz⟩ : ∃ z, Z.getD j 0 = z := ⟨_, rfl⟩
          rw [hz] at hgc
          have HZ := Lib.hid hz
          clear hz
          go_wp2_with fail
          refine (linv_load hI (by unfold trMax; omega) 0 j (by decide) (by decide) hjz z HZ.out).mono ?_
          rintro e w2 ⟨rfl, hI2, -⟩
          clear hI hgc
          go_wp2_with fail
          go_roundw
          case rel => exact ⟨j + 1, by omega, by go_num, hI2⟩
          case measure => simp [intOf]; omega
        · have hB := hI.below
          clear hI
          go_wp2_with (go_at_call 12; refine (awake13 _).mono ?_; rintro e w5 ⟨rfl, hb5⟩)
          go_ret
          exact ⟨rfl, hB.trans (hb5.mono hB.size)⟩

end Go.Proofs.Ytlofgmcbanldnaa
