/- The walk over (*Store).Height. -/
import Derived.Test.YteiaifhnikknbaaDoorStOps
import Derived.Test.YteiaifhnikknbaaDoorLaidTab
import Derived.Deep.QuietTactic
import Derived.BigQuiet
import Derived.IntWalk
namespace Go.Proofs.YteiaifhnikknbaaDoor
open Go.RowKit

def stHeight (K : Cfg) (seq : Int) : Int := if K.heights = [] then 1 else hgt (K.heights.getD (seq % K.heights.length).toNat 0) 6
variable {B : Nat} {w w' : World} {q : SRef} {K : Cfg} {L L' : Lk} {S S' : Mem} {G : Gd} {A O : Nat → Prop}
set_option maxRecDepth 100000 in
set_option maxHeartbeats 1000000 in
theorem sheight_any (h : Sx B w q K L S G A O) (hT : Tab w) (hu : ∀ x ∈ K.heights, 0 ≤ x ∧ x < 4294967296) (hn : K.heights.length ≤ 4000000000) (seq : Int) (s0 : 0 ≤ seq) (s1 : seq ≤ 18446744073709551615) :
    Calls Tryd.prog 34 #[.pointer (some ⟨q.p, 0, none⟩), .int .u64 seq] w fun e w' => e = .returned (.int .i64 (stHeight K seq)) ∧ Quiet w w' := by
  have c6 := h.c6
  obtain ⟨sh, sll, sl, sd, si, st, k1, hr, _⟩ := h.st.ex
  have c5 := k1.cell 5 (v := sh) rfl
  cases hc : K.heights with
  | nil =>
    have e1 : stHeight K seq = 1 := by simp [stHeight, hc]
    rw [e1]
    rw [hc] at hr
    obtain ⟨ao, c, e⟩ := hr.slice
    rw [List.length_nil] at e
    subst e
    clear hr k1 hc e1 hu hn h hT
    go_enter Tryd.func34, Tryd.ntmps34
    go_wp2_with (go_at_call 61; refine (sis_yes _ _ _ c6).mono ?_; rintro e w' ⟨rfl, rfl⟩)
    go_ret
    exact ⟨rfl, Quiet.refl _⟩
  | cons x l =>
    obtain ⟨n, hnn⟩ : ∃ n, K.heights.length = n := ⟨_, rfl⟩
    have hn0 : 0 < n := by rw [← hnn, hc]; simp
    rw [hnn] at hr hn
    obtain ⟨j, hj⟩ : ∃ j : Nat, seq % (n : Int) = (j : Int) := ⟨(seq % (n : Int)).toNat, by have := Int.emod_nonneg seq (show (n : Int) ≠ 0 by omega); omega⟩
    have hjn : j < n := by have := Int.emod_lt_of_pos seq (show (0 : Int) < n by omega); omega
    obtain ⟨y, hy⟩ : ∃ y, K.heights[j]? = some y := ⟨_, List.getElem?_eq_getElem (by omega)⟩
    have hyb := hu y (List.mem_of_getElem? hy)
    have e1 : stHeight K seq = hgt y 6 := by
      rw [stHeight, if_neg (by rw [hc]; simp), hnn, hj, Int.toNat_natCast, List.getD_eq_getElem?_getD, hy]; rfl
    rw [e1]
    rcases hr.reads.form with ⟨h0, _⟩ | ⟨b, off, c, rfl, hc2, hcell⟩
    · omega
    · have cy := hcell j (.int .u32 y) (by simp [u32s, hy])
      have hht : ∀ k, Calls Tryd.prog 68 #[.int .u32 y, .int .i64 6] (w.drewN k) fun e w' => e = .returned (.int .i64 (hgt y 6)) ∧ w' = w.drewN k := fun k => (height_any (w.drewN k) (hT.later (Quiet.below ⟨⟨k, rfl⟩⟩ _)) y 6 hyb.1 hyb.2 (by decide)).mono (by rintro e w' ⟨rfl, rfl⟩; exact ⟨rfl, rfl⟩)
      have HT := Lib.hid hht
      have b0 : (0 : Int) ≤ (j : Int) := by omega
      have b1 : (j : Int) < (n : Int) := by omega
      have hw1 : IntKind.u64.wrap (n : Int) = n := IntWalk.u64_in _ (by omega)
      have hne : ((n : Int) == 0) = false := by simp; omega
      have hne2 : ¬ n = 0 := by omega
      have hne3 : ¬ (n : Int) = 0 := by omega
      have hw2 : IntKind.u64.wrap (j : Int) = j := IntWalk.u64_in _ (by omega)
      have htm : seq.tmod (n : Int) = (j : Int) := by rw [Int.tmod_eq_emod_of_nonneg s0, hj]
      clear hr k1 hc e1 hu hcell h hT hht hy hnn
      go_enter Tryd.func34, Tryd.ntmps34
      go_upto_region 5 with (go_at_call 61; refine (sis_yes _ _ _ c6).mono ?_; rintro e w' ⟨rfl, rfl⟩)
      go_quiet ((go_at_call 68; exact Calls.quiet_of_same (HT.out _)))
      go_wp2
      go_ret
      exact ⟨rfl, ⟨_, rfl⟩⟩
end Go.Proofs.YteiaifhnikknbaaDoor
