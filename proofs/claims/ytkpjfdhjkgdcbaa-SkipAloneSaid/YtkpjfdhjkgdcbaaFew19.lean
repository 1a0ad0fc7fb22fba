/- The walk over law 19's few. -/
import Derived.Test.YtkpjfdhjkgdcbaaOpenW
import Derived.Test.YtkpjfdhjkgdcbaaRcAlone

namespace Go.Proofs.Ytkpjfdhjkgdcbaa
open Go.RowKit

def wks (l : List Wk) : List Value := l.flatMap Wk.cells
theorem Wk.cells_len (a : Wk) : a.cells.length = 5 := rfl
theorem wks_len (l : List Wk) : (wks l).length = l.length * 5 := flatMap_len _ 5 l fun x _ => rfl
/-- A table of works that can be read. -/
structure WksAt (w : World) (v : Value) (ts : List (List Wk)) : Prop where
  ex : ∃ vs, Reads w 1 v ts.length vs ∧ ∀ (i : Nat) (l : List Wk) (u : Value), ts[i]? = some l → vs[i]? = some u → Reads w 5 u l.length (wks l)
  max : ts.length ≤ maxLen
  good : ∀ l, l ∈ ts → ∀ a, a ∈ l → WkFits a
theorem WksAt.below {w w' : World} {v : Value} {ts : List (List Wk)} (h : WksAt w v ts) (hb : Below w.heap.size w w') : WksAt w' v ts := by
  obtain ⟨vs, h1, h2⟩ := h.ex
  exact ⟨⟨vs, h1.below hb, fun i l u hl hu => (h2 i l u hl hu).below hb⟩, h.max, h.good⟩
theorem WksAt.row {w : World} {v : Value} {ts : List (List Wk)} (h : WksAt w v ts) (i : Nat) (hi : i < ts.length) : ∃ b off c u, v = .slice (some ⟨b, off, none⟩) ts.length c ∧ ts.length ≤ c ∧ ∀ w', Below w.heap.size w w' → w'.cell? ⟨b, off + i, none⟩ = some u ∧ Reads w' 5 u ts[i].length (wks ts[i]) := by
  obtain ⟨vs, h1, h2⟩ := h.ex
  have hlen := h1.len
  rcases h1.form with ⟨h0, _⟩ | ⟨b, off, c, rfl, hc, hr⟩
  · omega
  · have hu : vs[i]? = some vs[i] := List.getElem?_eq_getElem (by omega)
    refine ⟨b, off, c, vs[i], rfl, hc, fun w' hb => ⟨?_, (h2 i _ _ (List.getElem?_eq_getElem hi) hu).below hb⟩⟩
    have hcell := hr i _ hu
    exact (World.cell?_of_block (w := w) (hb.block _ (World.block_lt_of_cell? w _ hcell))).trans hcell
theorem Reads.wk {w : World} {u : Value} {l : List Wk} (h : Reads w 5 u l.length (wks l)) (j : Nat) (hj : j < l.length) : ∃ b off c, u = .slice (some ⟨b, off, none⟩) l.length c ∧ ∀ k x, (l[j]).cells[k]? = some x → w.cell? ⟨b, off + j * 5 + k, none⟩ = some x := by
  rcases h.form with ⟨h0, _⟩ | ⟨b, off, c, rfl, _, hr⟩
  · omega
  · refine ⟨b, off, c, rfl, fun k x hx => ?_⟩
    have hk : k < 5 := (List.getElem?_eq_some_iff.1 hx).1
    have e := flatMap_get Wk.cells 5 l (fun x _ => rfl) j k l[j] (List.getElem?_eq_getElem hj) hk
    have := hr (j * 5 + k) x (by rw [wks, e]; exact hx)
    rwa [← Nat.add_assoc] at this
def okWk (a : Wk) : Bool := decide (a.e.k.key.size ≤ 100) && decide (a.e.val.size ≤ 300)
def sumLen (ts : List (List Wk)) : Nat := (ts.map List.length).sum
def fewB (ts : List (List Wk)) (np : Nat) : Bool := ts.all (fun l => l.all okWk) && decide (ts.length ≤ 8 ∧ sumLen ts ≤ 30 ∧ np ≤ 3000)
theorem sumLen_take (ts : List (List Wk)) (i : Nat) (hi : i < ts.length) : sumLen (ts.take (i + 1)) = sumLen (ts.take i) + ts[i].length := by
  unfold sumLen; rw [List.take_succ_eq_append_getElem hi, List.map_append, List.sum_append]; simp
theorem sumLen_le (ts : List (List Wk)) (m : Nat) (h : ∀ l, l ∈ ts → l.length ≤ m) : sumLen ts ≤ ts.length * m := by
  induction ts with
  | nil => simp [sumLen]
  | cons a r ih =>
    have h1 := ih fun l hl => h l (List.mem_cons_of_mem _ hl)
    have h2 := h a List.mem_cons_self
    simp only [sumLen, List.map_cons, List.sum_cons, List.length_cons, Nat.succ_mul] at *
    omega
theorem take_all {α : Type} (p : α → Bool) (l : List α) (i : Nat) (hi : i < l.length) (h : (l.take i).all p = true) (hp : p l[i] = true) : (l.take (i + 1)).all p = true := by
  rw [List.take_succ_eq_append_getElem hi, List.all_append, h]; simp [hp]
theorem fewB_bad {ts : List (List Wk)} {np : Nat} {l : List Wk} {a : Wk} (hl : l ∈ ts) (ha : a ∈ l) (h : okWk a = false) : fewB ts np = false := by
  unfold fewB
  have : ts.all (fun l => l.all okWk) = false := by
    rw [List.all_eq_false]
    refine ⟨l, hl, ?_⟩
    rw [Bool.not_eq_true, List.all_eq_false]
    exact ⟨a, ha, by rw [h]; decide⟩
  rw [this, Bool.false_and]
/-- A count that is kept just where there are few rows. -/
def CntOk (ts : List (List Wk)) (z n : Int) : Prop := ts.length ≤ 8 → z = n
set_option maxRecDepth 100000 in
set_option maxHeartbeats 2000000 in
theorem few_any (w : World) (v : Value) (ts : List (List Wk)) (ap : Option Addr) (np cp : Nat) (h : WksAt w v ts) (hmax : ∀ l, l ∈ ts → l.length ≤ 1000000000000000) (hnp : np ≤ maxLen) :
    Calls Try.prog 9 #[v, .slice ap np cp] w fun e w' => e = .returned (.bool (fewB ts np)) ∧ Below w.heap.size w w' := by
  obtain ⟨n, hn⟩ : ∃ n, ts.length = n := ⟨_, rfl⟩
  obtain ⟨ao, co, rfl⟩ : ∃ ao co, v = .slice ao n co := by
    obtain ⟨vs, h1, _⟩ := h.ex
    rw [← hn]
    exact h1.slice
  have hmx := h.max
  rw [hn] at hmx
  unfold maxLen at hmx hnp
  have HN := Lib.hid hn
  have HH := Lib.hid h
  have HM := Lib.hid hmax
  clear hn h hmax
  go_enter Try.func9, Try.ntmps9
  go_wp2_with fail
  go_loopw [5, 12] (fun s5 i wr => ∃ (k : Nat) (z : Int), k ≤ n ∧ i = .int .i64 k ∧ s5 = .int .i64 z ∧ CntOk ts z (sumLen (ts.take k)) ∧ -9223372036854775808 ≤ z ∧ z ≤ 9223372036854775807 ∧ (ts.take k).all (fun l => l.all okWk) = true ∧ Below w.heap.size w wr) (fun _ i _ => n - (intOf i).toNat)
  case atStart => exact ⟨0, 0, Nat.zero_le _, rfl, rfl, fun _ => rfl, by decide, by decide, rfl, Below.refl _ _⟩
  case round =>
    obtain ⟨k, z, hk, rfl, rfl, hc, hz0, hz1, hall, hB⟩ := hrel
    have HC := Lib.hid hc
    have HA := Lib.hid hall
    clear hc hall
    by_cases hlt : k < n
    · have hkl : k < ts.length := by have := HN.out; omega
      obtain ⟨b, off, c, u, hv, hc, hur⟩ := HH.out.row k hkl
      have hu := (hur wr hB).1
      have hr := fun w' hw => (hur w' hw).2
      clear hur
      rw [HN.out] at hv
      cases hv
      obtain ⟨l, hl⟩ : ∃ l, l = ts[k] := ⟨_, rfl⟩
      rw [← hl] at hr
      have hlm := HM.out l (by rw [hl]; exact List.getElem_mem _)
      obtain ⟨m, hm⟩ : ∃ m, l.length = m := ⟨_, rfl⟩
      obtain ⟨au, cu, rfl⟩ : ∃ au cu, u = .slice au m cu := by rw [← hm]; exact (hr wr hB).slice
      rw [hm] at hlm
      have HL := Lib.hid hl
      have HR := Lib.hid hr
      have HE := Lib.hid hm
      clear hl hr hm
      go_wp2_with fail
      obtain ⟨wz, rfl⟩ : ∃ z, z = wr := ⟨_, rfl⟩
      go_loopw [5, 18] (fun s5 i wx => ∃ (j : Nat) (y : Int), j ≤ m ∧ i = .int .i64 j ∧ s5 = .int .i64 y ∧ CntOk ts y (sumLen (ts.take k) + j : Nat) ∧ -9223372036854775808 ≤ y ∧ y ≤ 9223372036854775807 ∧ (l.take j).all okWk = true ∧ Below w.heap.size w wx) (fun _ i _ => m - (intOf i).toNat)
      case atStart => exact ⟨0, z, Nat.zero_le _, rfl, rfl, HC.out, hz0, hz1, rfl, hB⟩
      case round =>
        obtain ⟨j, y, hj, rfl, rfl, hcy, hy0, hy1, hally, hBx⟩ := hrel
        have HCY := Lib.hid hcy
        have HAY := Lib.hid hally
        clear hcy hally
        by_cases hjlt : j < m
        · have hjl : j < l.length := by have := HE.out; omega
          obtain ⟨a, ha⟩ : ∃ a, a = l[j] := ⟨_, rfl⟩
          have hfit : WkFits a := HH.out.good l (by rw [HL.out]; exact List.getElem_mem _) a (by rw [ha]; exact List.getElem_mem _)
          obtain ⟨b5, o5, c5, hv5, hx⟩ := (HR.out wr hBx).wk j hjl
          rw [HE.out] at hv5
          cases hv5
          rw [← ha] at hx
          have x0 := hx 0 _ rfl
          have x1 := hx 1 _ rfl
          have x2 := hx 2 _ rfl
          have x3 := hx 3 _ rfl
          have x4 := hx 4 _ rfl
          simp only [Nat.add_zero] at x0
          have q1 := hfit.1.1.n
          have q2 := hfit.1.2
          have HFA := Lib.hid ha
          clear hx hfit ha
          have hb1 : Below w.heap.size w (wr.alloc (.cells a.cells.toArray 40)) := hBx.alloc hBx.size _
          have hbad : okWk a = false → fewB ts np = false := fun q => fewB_bad (l := l) (by rw [HL.out]; exact List.getElem_mem _) (by rw [HFA.out]; exact List.getElem_mem _) q
          have HBAD := Lib.hid hbad
          clear hbad
          by_cases h1 : a.e.k.key.size ≤ 100
          · by_cases h2 : a.e.val.size ≤ 300
            · have hok : okWk a = true := by unfold okWk; simp [h1, h2]
              have HOK := Lib.hid hok
              have hcnt : CntOk ts (wrap64 (y + 1)) (sumLen (ts.take k) + (j + 1) : Nat) ∧ -9223372036854775808 ≤ wrap64 (y + 1) ∧ wrap64 (y + 1) ≤ 9223372036854775807 ∧ (n ≤ 8 → y + 1 ≤ 9223372036854775807) := by
                have hs := sumLen_le (ts.take k) 1000000000000000 fun l hl => HM.out l (List.mem_of_mem_take hl)
                rw [List.length_take] at hs
                have hnn := HN.out
                refine ⟨fun h8 => ?_, by unfold wrap64; omega, by unfold wrap64; omega, fun h8 => ?_⟩
                · have e := HCY.out h8
                  unfold wrap64
                  omega
                · have e := HCY.out (by omega)
                  omega
              have HCNT := Lib.hid hcnt
              clear hcnt hok
              go_wp2_with fail
              go_roundw
              case rel => exact ⟨j + 1, _, by omega, by go_num, rfl, HCNT.out.1, HCNT.out.2.1, HCNT.out.2.2.1, take_all _ _ _ (by have := HE.out; omega) HAY.out (by rw [← HFA.out]; exact HOK.out), hb1⟩
              case measure => simp [intOf]; omega
            · have hok : okWk a = false := by unfold okWk; simp [h2]
              have HF := Lib.hid (HBAD.out hok)
              clear hok HBAD
              go_wp2_with fail
              go_ret
              exact ⟨by rw [HF.out]; rfl, hb1⟩
          · have hok : okWk a = false := by unfold okWk; simp [h1]
            have HF := Lib.hid (HBAD.out hok)
            clear hok HBAD
            go_wp2_with fail
            go_ret
            exact ⟨by rw [HF.out]; rfl, hb1⟩
        · have hjm : j = m := by omega
          have HJ := Lib.hid hjm
          clear hjm
          have hrow : CntOk ts y (sumLen (ts.take (k + 1)) : Nat) ∧ (ts.take (k + 1)).all (fun l => l.all okWk) = true := by
            have hkl' : k < ts.length := by have := HN.out; omega
            have hlm : l.length = j := by rw [HJ.out]; exact HE.out
            refine ⟨fun h8 => ?_, take_all _ _ _ hkl' HA.out ?_⟩
            · rw [HCY.out h8, sumLen_take ts k hkl', ← HL.out, hlm]
            · rw [← HL.out]
              have := HAY.out
              rwa [← hlm, List.take_length] at this
          have HROW := Lib.hid hrow
          clear hrow
          go_wp2_with fail
          go_roundw
          case rel => exact ⟨k + 1, y, by omega, by go_num, rfl, HROW.out.1, hy0, hy1, HROW.out.2, hBx⟩
          case measure => simp [intOf]; omega
    · have hkn : k = n := by omega
      have hfin : ∀ q, q = decide (n ≤ 8 ∧ (n ≤ 8 → z ≤ 30) ∧ np ≤ 3000) → q = fewB ts np := by
        intro q hq
        have hnn := HN.out
        have hall := HA.out
        have hcc := HC.out
        rw [hkn, ← hnn, List.take_length] at hall hcc
        unfold fewB
        rw [hall, Bool.true_and, hq, hnn]
        refine decide_eq_decide.2 ⟨fun q => ⟨q.1, ?_, q.2.2⟩, fun q => ⟨q.1, fun _ => ?_, q.2.2⟩⟩
        · have := hcc (by omega); have := q.2.1 q.1; omega
        · have := hcc (by omega); omega
      have HFIN := Lib.hid hfin
      clear hfin
      by_cases g1 : n ≤ 8
      · by_cases g2 : z ≤ 30
        · by_cases g3 : np ≤ 3000
          · have HE := Lib.hid (HFIN.out true (by simp [g1, g2, g3]))
            have b3 : decide ((np : Int) ≤ 3000) = true := decide_eq_true (by omega)
            go_wp2_with fail
            go_ret
            exact ⟨by rw [← HE.out]; first | rfl | (simp [b3]; done), hB⟩
          · have HE := Lib.hid (HFIN.out false (by simp [g1, g2, g3]))
            have b3 : decide ((np : Int) ≤ 3000) = false := decide_eq_false (by omega)
            go_wp2_with fail
            go_ret
            exact ⟨by rw [← HE.out]; first | rfl | (simp [b3]; done), hB⟩
        · have HE := Lib.hid (HFIN.out false (by simp [g1, g2]))
          go_wp2_with fail
          go_ret
          exact ⟨by rw [← HE.out]; first | rfl | (simp [b3]; done), hB⟩
      · have HE := Lib.hid (HFIN.out false (by simp [g1]))
        go_wp2_with fail
        go_ret
        exact ⟨by rw [← HE.out]; first | rfl | (simp [b3]; done), hB⟩
end Go.Proofs.Ytkpjfdhjkgdcbaa
