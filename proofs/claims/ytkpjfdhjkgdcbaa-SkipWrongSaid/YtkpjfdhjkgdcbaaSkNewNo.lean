/- skip.New's refusals. -/
import Derived.Test.YtkpjfdhjkgdcbaaSkNew

namespace Go.Proofs.Ytkpjfdhjkgdcbaa
open Go.RowKit

set_option maxHeartbeats 1000000 in
theorem sknew_small {w : World} {c : CRef} {S : Mem} {A : Nat → Prop} (hC : Cells w c S A) (first plain units : Int) (h1 : 6 ≤ units) (h2 : units ≤ 1073741824) (f0 : 0 ≤ first) (fx : first ≤ 1000000) (p0 : 0 ≤ plain) (px : plain ≤ 1000000) (hno : S.atomics.length - skA units < first ∨ S.plains.length - skP units < plain) :
    Calls Try.prog 34 #[.pointer (some ⟨c.p, 0, none⟩), .int .i64 first, .int .i64 plain, .int .u64 units] w fun e w' => e = .returned (.tuple #[.pointer none, .int .i64 2]) ∧ Quiet w w' := by
  obtain ⟨a, ha⟩ : ∃ a, skA units = a := ⟨_, rfl⟩
  obtain ⟨p, hp⟩ : ∃ p, skP units = p := ⟨_, rfl⟩
  obtain ⟨na, hna⟩ : ∃ na, S.atomics.length = na := ⟨_, rfl⟩
  obtain ⟨np, hnp⟩ : ∃ np, S.plains.length = np := ⟨_, rfl⟩
  have hsm := hC.small
  have a1 : 14 ≤ a ∧ a ≤ 2000000000 := by rw [← ha]; unfold skA; omega
  have a2 : 2 ≤ p ∧ p ≤ 2000000000 := by rw [← hp]; unfold skP; omega
  rw [hna, ha, hnp, hp] at hno
  rw [hna, hnp] at hsm
  have e0 : (a == 0) = false := by simp; omega
  have hsz := size_yes w units h1 h2
  rw [ha, hp] at hsz
  have hmy := many_ok hC
  rw [hna, hnp] at hmy
  have HSZ := Lib.hid hsz
  have HMY := Lib.hid hmy
  clear hsz hmy ha hp hna hnp hC
  by_cases q : (na : Int) - a < first
  · go_enter Try.func34, Try.ntmps34
    go_wp2_with (first | (go_at_call 21; refine HSZ.out.mono ?_; rintro e w' ⟨rfl, rfl⟩) | (go_at_call 57; refine HMY.out.mono ?_; rintro e w' ⟨rfl, hq⟩; obtain ⟨nq, rfl⟩ := hq))
    go_ret2
    exact ⟨rfl, ⟨⟨_, rfl⟩⟩⟩
  · have q2 : (np : Int) - p < plain := by omega
    go_enter Try.func34, Try.ntmps34
    go_wp2_with (first | (go_at_call 21; refine HSZ.out.mono ?_; rintro e w' ⟨rfl, rfl⟩) | (go_at_call 57; refine HMY.out.mono ?_; rintro e w' ⟨rfl, hq⟩; obtain ⟨nq, rfl⟩ := hq))
    go_ret2
    exact ⟨rfl, ⟨⟨_, rfl⟩⟩⟩
end Go.Proofs.Ytkpjfdhjkgdcbaa
