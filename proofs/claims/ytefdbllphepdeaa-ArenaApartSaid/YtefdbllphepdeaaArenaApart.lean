/- The walk over law 17's ArenaApart. -/
import Derived.Test.YtefdbllphepdeaaInv17
import Derived.Test.YtefdbllphepdeaaOpen17
import Derived.Deep.DeepCutAuto
namespace Go.Proofs.Ytefdbllphepdeaa
open Go.RowKit

/-- A task, brought into 0..63. -/
theorem task_in (t : Int) : 0 ≤ (wrap64 (t.tmod 64 + 64)).tmod 64 ∧ (wrap64 (t.tmod 64 + 64)).tmod 64 < 64 := by
  have h1 := Int.tmod_lt_of_pos t (b := 64) (by decide)
  have h2 := Int.lt_tmod_of_pos t (b := 64) (by decide)
  have h3 : wrap64 (t.tmod 64 + 64) = t.tmod 64 + 64 := by unfold wrap64; omega
  rw [h3]
  exact ⟨Int.tmod_nonneg _ (by omega), Int.tmod_lt_of_pos _ (by decide)⟩
set_option maxRecDepth 100000 in
set_option maxHeartbeats 1000000 in
theorem arenaApart (w : World) (units : Int) (hu0 : 0 ≤ units) (hu1 : units ≤ 65535) (ao : Option Addr) (cap : Nat) (l : List Op) (hcap : l.length ≤ cap) (hl : ArgRow w 2 (.slice ao l.length cap) Op.cells Op.Fits l) :
    Calls Try.prog 3 #[.int .u16 units, .slice ao l.length cap] w fun e w' => e = .returned (.bool true) ∧ Below w.heap.size w w' := by
  obtain ⟨m, hm', hm1, hm2, -⟩ := cut_min 60 l.length
  have hm : (if (60 : Int) < (l.length : Int) then (60 : Int) else (l.length : Int)) = (m : Int) := hm'
  clear hm'
  have hm3 : m ≤ cap := by omega
  go_enter Try.func3, Try.ntmps3
  go_wp2_with fail
  obtain ⟨n, hn⟩ : ∃ n, 1 + units % 2000 = n := ⟨_, rfl⟩
  rw [hn]
  have n0 : 1 ≤ n := by omega
  have n1 : n ≤ 2000 := by omega
  clear hn hu0 hu1
  refine (made17_ok _ n n0 (by omega)).mono ?_
  rintro e w1 ⟨q, c, rfl, hM⟩
  have hI0 := inv_made hM
  have hq : ¬ (fun k => w.heap.size ≤ k ∧ k ≠ q) q := fun h => h.2 rfl
  have hbase : ∀ k, (fun k => w.heap.size ≤ k ∧ k ≠ q) k → w.heap.size ≤ k := fun k h => h.1
  obtain ⟨A, hA⟩ : ∃ A, A = (fun k => w.heap.size ≤ k ∧ k ≠ q) := ⟨_, rfl⟩
  rw [← hA] at hI0 hq hbase
  clear hA hM
  go_wp2_with fail
  clear hm
  go_loopw [9, 10, 37] (fun s9 s10 i wr => ∃ k : Nat, k ≤ m ∧ i = .int .i64 k ∧ ∃ (x en fu : Int) (tr : List Acc), s9 = .int .u64 en ∧ s10 = .int .u64 fu ∧ 0 ≤ en ∧ en ≤ x ∧ x ≤ 300 * k ∧ 0 ≤ fu ∧ (fu = 1099511627776 ∨ n < x) ∧ tr.length = 2 * k ∧ AInv A w wr q c 1 n x tr) (fun _ _ i _ => m - (intOf i).toNat)
  case atStart => exact ⟨0, by omega, rfl, 0, 0, _, [], rfl, rfl, by omega, by omega, by omega, by omega, .inl rfl, rfl, hI0⟩
  case round =>
    clear hI0
    obtain ⟨k, hk, rfl, x, en, fu, tr, rfl, rfl, e0, e1, x1, f0, hf, htr, hI⟩ := hrel
    by_cases hlt : k < m
    · have hkl : k < l.length := by omega
      obtain ⟨b, off, rfl, hx⟩ := hl.cell hI.below (by decide) k hkl
      have hfit := hl.good l[k] (List.getElem_mem _)
      obtain ⟨o, ho⟩ : ∃ o, o = l[k] := ⟨_, rfl⟩
      rw [← ho] at hx hfit
      have x2 := hx 0 _ rfl
      have x3 := hx 1 _ rfl
      simp only [Nat.add_zero] at x2
      have ht := fits_i64 hfit.task
      have hd := fits_u64 hfit.need
      clear hx hfit ho
      go_upto_region 9 with fail
      go_cut [13, 14] (fun s13 s14 wx => ∃ t d : Int, s13 = .int .i64 t ∧ s14 = .int .u64 d ∧ 0 ≤ t ∧ t < 64 ∧ 1 ≤ d ∧ d ≤ 300 ∧ ∃ N, wx = (wr.alloc (.cells #[.int .i64 o.task, .int .u64 o.need] 30)).drewN N)
      case first =>
        go_quiet (fail)
        go_wp2_with fail
        all_goals go_meet
        have hti := task_in o.task
        exact ⟨_, _, rfl, rfl, hti.1, hti.2, by omega, by omega, _, rfl⟩
      case rest =>
        obtain ⟨t, d, rfl, rfl, t0, t1, d0, d1, N, rfl⟩ := hcut
        have hI1 := (hI.box (.cells #[.int .i64 o.task, .int .u64 o.need] 30)).drewN N
        have hbx : wr.heap.size < ((wr.alloc (.cells #[.int .i64 o.task, .int .u64 o.need] 30)).drewN N).heap.size := by simp
        obtain ⟨wb, hwb⟩ : ∃ wb, (wr.alloc (.cells #[.int .i64 o.task, .int .u64 o.need] 30)).drewN N = wb := ⟨_, rfl⟩
        rw [hwb] at hI1 hbx
        rw [hwb]
        clear hI x2 x3 ht hd hwb hl
        have hcase : (x + d ≤ n ∧ x ≤ n ∧ fu = 1099511627776) ∨ (x ≤ n ∧ n < x + d) ∨ (n < x) := by omega
        rcases hcase with ⟨g0, g1, g2⟩ | ⟨g0, g1⟩ | g0
        · clear hf
          go_wp2_with fail
          refine (inv_left hI1 (by unfold trMax; omega) t t0 t1 (by decide) (by decide) (by omega) (by omega) (by omega) (n - x) (by omega)).mono ?_
          rintro e w2 ⟨rfl, hI2, hO2⟩
          clear hI1
          have hlen2 : (tr ++ [(⟨t, 1, 1⟩ : Acc)]).length = 2 * k + 1 := by simp [htr]
          go_wp2_with fail
          refine (inv_take hI2 (by rw [hlen2]; unfold trMax; omega) t d t0 t1 d0 (by omega) (by decide) (by decide) (by omega) (by omega) x 0 (by omega)).mono ?_
          rintro e w3 ⟨rfl, hI3, hO3⟩
          have hI4 := hI3.unbox hq hbase (by have := hO2.size; have := hO3.size; omega)
          clear hI2 hI3 hO2 hO3 hbx
          go_wp2_with fail
          refine ⟨⟨k + 1, by omega, rfl, x + d, _, _, _, rfl, rfl, by omega, by omega, by omega, by omega, .inl rfl, by simp [hlen2]; omega, hI4⟩, ?_⟩
          simp [intOf]
          omega
        · clear hf
          go_wp2_with fail
          refine (inv_left hI1 (by unfold trMax; omega) t t0 t1 (by decide) (by decide) (by omega) (by omega) (by omega) (n - x) (by omega)).mono ?_
          rintro e w2 ⟨rfl, hI2, hO2⟩
          clear hI1
          have hlen2 : (tr ++ [(⟨t, 1, 1⟩ : Acc)]).length = 2 * k + 1 := by simp [htr]
          go_wp2_with fail
          refine (inv_take hI2 (by rw [hlen2]; unfold trMax; omega) t d t0 t1 d0 (by omega) (by decide) (by decide) (by omega) (by omega) 0 13 (by omega)).mono ?_
          rintro e w3 ⟨rfl, hI3, hO3⟩
          have hI4 := hI3.unbox hq hbase (by have := hO2.size; have := hO3.size; omega)
          clear hI2 hI3 hO2 hO3 hbx
          go_wp2_with fail
          all_goals
            refine ⟨⟨k + 1, by omega, rfl, x + d, en, _, _, rfl, rfl, e0, by omega, by omega, by first | omega | (split <;> omega), .inr (by omega), by simp [hlen2]; omega, hI4⟩, ?_⟩
            simp [intOf]
            omega
        · clear hf
          go_wp2_with fail
          refine (inv_left hI1 (by unfold trMax; omega) t t0 t1 (by decide) (by decide) (by omega) (by omega) (by omega) (0) (by omega)).mono ?_
          rintro e w2 ⟨rfl, hI2, hO2⟩
          clear hI1
          have hlen2 : (tr ++ [(⟨t, 1, 1⟩ : Acc)]).length = 2 * k + 1 := by simp [htr]
          go_wp2_with fail
          refine (inv_take hI2 (by rw [hlen2]; unfold trMax; omega) t d t0 t1 d0 (by omega) (by decide) (by decide) (by omega) (by omega) 0 13 (by omega)).mono ?_
          rintro e w3 ⟨rfl, hI3, hO3⟩
          have hI4 := hI3.unbox hq hbase (by have := hO2.size; have := hO3.size; omega)
          clear hI2 hI3 hO2 hO3 hbx
          go_wp2_with fail
          all_goals
            refine ⟨⟨k + 1, by omega, rfl, x + d, en, _, _, rfl, rfl, e0, by omega, by omega, by first | omega | (split <;> omega), .inr (by omega), by simp [hlen2]; omega, hI4⟩, ?_⟩
            simp [intOf]
            omega
    · have hB := hI.below
      clear hI hf hl
      go_wp2_with (go_at_call 10; refine (awake17 _).mono ?_; rintro e w5 ⟨rfl, hb5⟩)
      go_ret
      exact ⟨rfl, hB.trans (hb5.mono hB.size)⟩

end Go.Proofs.Ytefdbllphepdeaa
