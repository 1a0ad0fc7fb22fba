/- slices.Clone at the rows of chapter 22. -/
import Derived.Test.YteiaifhnikknbaaDoorCellsOps
import Derived.Test.YteiaifhnikknbaaDoorRowOps
namespace Go.Proofs.YteiaifhnikknbaaDoor
open Go.RowKit

theorem infoMb : (Tryd.prog.info? 92).map (fun i => (i.zero, i.size, i.bytes)) = some (some (.agg #[.int .i64 0, .int .i64 0, .int .u64 0, .int .u64 0, .int .u8 0, .int .i64 0]), 6, 48) := by kernel_rfl
set_option maxRecDepth 100000 in
set_option maxHeartbeats 400000 in
theorem cloneMb_nil (w : World) (c : Nat) : Calls Tryd.prog 74 #[.slice none 0 c] w fun e w' => e = .returned (.slice none 0 0) ∧ w = w' := by
  have heq := fun (W : World) (a : Option Addr) (n c : Nat) => Lib.run_eql_slice_nil (P := Tryd.prog) W 24 92 a n c 0 0 Tryd.underlying24
  go_enter Tryd.func74, Tryd.ntmps74
  go_wp2
  go_ret
  exact ⟨rfl, rfl⟩
set_option maxRecDepth 100000 in
set_option maxHeartbeats 400000 in
theorem cloneMb_some (w : World) (a : Addr) (n c : Nat) (xs : List Value) (hl : xs.length = n * 6) (hc : ∀ j u, xs[j]? = some u → w.cell? (a.add j) = some u) (h1 : ∀ u ∈ xs, u.oneCell' = true) (hn : n ≤ 1000000000) :
    Calls Tryd.prog 74 #[.slice (some a) n c] w fun e w' => ∃ v, e = .returned v ∧ w'.ownsRow w.heap.size 92 6 v n xs ∧ Below w.heap.size w w' := by
  obtain ⟨i0, hi, hz0, hz1, hz2⟩ := info_parts infoMb
  have own0 : (w.alloc (.cells #[] 92)).ownsRow w.heap.size 92 6 (.slice (some ⟨w.heap.size, 0, none⟩) 0 0) 0 [] :=
    World.ownsRow_made w #[] 0 (Nat.le_refl _) (by unfold maxLen; omega) (by simp)
  have hc' : ∀ j u, xs[j]? = some u → (w.alloc (.cells #[] 92)).cell? (a.add j) = some u := fun j u hu => cell_alloc_keep _ _ _ (hc j u hu)
  have HC := Lib.hid hc'
  have HL := Lib.hid hl
  have H1 := Lib.hid h1
  clear hc hc' hl h1
  have heq := fun (W : World) (a : Option Addr) (n c : Nat) => Lib.run_eql_slice_nil (P := Tryd.prog) W 24 92 a n c 0 0 Tryd.underlying24
  go_enter Tryd.func74, Tryd.ntmps74
  go_wp2_with (at_builtin; refine wpList_append_own_at _ rfl _ _ 24 rfl w.heap.size 92 i0 (.agg #[.int .i64 0, .int .i64 0, .int .u64 0, .int .u64 0, .int .u8 0, .int .i64 0]) 6 48 Tryd.underlying24 hi hz0 hz1 hz2 rfl (by decide) (.slice (some ⟨w.heap.size, 0, none⟩) 0 0) 0 [] rfl own0 a n c xs rfl HL.out HC.out H1.out (by unfold maxLen; omega) (by omega) (by simp) ?_)
  intro v' w1 hown hgrow _ _
  have hB : Below w.heap.size w w1 := ((Below.refl _ w).alloc (Nat.le_refl _) _).grown hgrow (by simp) (fun k h => by simp [Value.ownBlock] at h; omega)
  have HO := Lib.hid hown
  clear hown hgrow own0
  go_wp2
  go_ret
  exact ⟨_, rfl, by simpa using HO.out, hB⟩
theorem cloneMb_any (w : World) (v : Value) (n : Nat) (xs : List Value) (hR : Reads w 6 v n xs) (h1 : ∀ u ∈ xs, u.oneCell' = true) (hn : n ≤ 1000000000) :
    Calls Tryd.prog 74 #[v] w fun e w' => ∃ v', e = .returned v' ∧ Row w' 92 6 v' n xs (fun k => w.heap.size ≤ k) ∧ Below w.heap.size w w' := by
  rcases hR.form with ⟨rfl, ao, c, rfl⟩ | ⟨bl, off, c, rfl, hc, hr⟩
  · have hb : xs = [] := List.eq_nil_of_length_eq_zero (by simpa using hR.len)
    subst hb
    rcases ao with _ | a
    · refine (cloneMb_nil w c).mono ?_
      rintro e w' ⟨rfl, rfl⟩
      exact ⟨_, rfl, Row.nil _ _ _ _, Below.refl _ _⟩
    · refine (cloneMb_some w a 0 c [] hR.len (by simp) h1 hn).mono ?_
      rintro e w' ⟨v', rfl, ho, hb⟩
      exact ⟨v', rfl, ⟨⟨ho.1, ho.2.imp id fun ⟨g, cap, cur, h1, _, h2⟩ => ⟨g, cap, cur, h1, Nat.zero_le _, h2⟩⟩, fun k hk => (ho.lt k hk).1⟩, hb⟩
  · refine (cloneMb_some w _ n c xs hR.len (fun j u hu => by rw [addr_plain]; exact hr j u hu) h1 hn).mono ?_
    rintro e w' ⟨v', rfl, ho, hb⟩
    exact ⟨v', rfl, ⟨⟨ho.1, ho.2.imp id fun ⟨g, cap, cur, h1, _, h2⟩ => ⟨g, cap, cur, h1, Nat.zero_le _, h2⟩⟩, fun k hk => (ho.lt k hk).1⟩, hb⟩

theorem infoIm : (Tryd.prog.info? 94).map (fun i => (i.zero, i.size, i.bytes)) = some (some (.agg #[.int .i64 0, .int .u64 0]), 2, 16) := by kernel_rfl
set_option maxRecDepth 100000 in
set_option maxHeartbeats 400000 in
theorem cloneIm_nil (w : World) (c : Nat) : Calls Tryd.prog 75 #[.slice none 0 c] w fun e w' => e = .returned (.slice none 0 0) ∧ w = w' := by
  have heq := fun (W : World) (a : Option Addr) (n c : Nat) => Lib.run_eql_slice_nil (P := Tryd.prog) W 28 94 a n c 0 0 Tryd.underlying28
  go_enter Tryd.func75, Tryd.ntmps75
  go_wp2
  go_ret
  exact ⟨rfl, rfl⟩
set_option maxRecDepth 100000 in
set_option maxHeartbeats 400000 in
theorem cloneIm_some (w : World) (a : Addr) (n c : Nat) (xs : List Value) (hl : xs.length = n * 2) (hc : ∀ j u, xs[j]? = some u → w.cell? (a.add j) = some u) (h1 : ∀ u ∈ xs, u.oneCell' = true) (hn : n ≤ 1000000000) :
    Calls Tryd.prog 75 #[.slice (some a) n c] w fun e w' => ∃ v, e = .returned v ∧ w'.ownsRow w.heap.size 94 2 v n xs ∧ Below w.heap.size w w' := by
  obtain ⟨i0, hi, hz0, hz1, hz2⟩ := info_parts infoIm
  have own0 : (w.alloc (.cells #[] 94)).ownsRow w.heap.size 94 2 (.slice (some ⟨w.heap.size, 0, none⟩) 0 0) 0 [] :=
    World.ownsRow_made w #[] 0 (Nat.le_refl _) (by unfold maxLen; omega) (by simp)
  have hc' : ∀ j u, xs[j]? = some u → (w.alloc (.cells #[] 94)).cell? (a.add j) = some u := fun j u hu => cell_alloc_keep _ _ _ (hc j u hu)
  have HC := Lib.hid hc'
  have HL := Lib.hid hl
  have H1 := Lib.hid h1
  clear hc hc' hl h1
  have heq := fun (W : World) (a : Option Addr) (n c : Nat) => Lib.run_eql_slice_nil (P := Tryd.prog) W 28 94 a n c 0 0 Tryd.underlying28
  go_enter Tryd.func75, Tryd.ntmps75
  go_wp2_with (at_builtin; refine wpList_append_own_at _ rfl _ _ 28 rfl w.heap.size 94 i0 (.agg #[.int .i64 0, .int .u64 0]) 2 16 Tryd.underlying28 hi hz0 hz1 hz2 rfl (by decide) (.slice (some ⟨w.heap.size, 0, none⟩) 0 0) 0 [] rfl own0 a n c xs rfl HL.out HC.out H1.out (by unfold maxLen; omega) (by omega) (by simp) ?_)
  intro v' w1 hown hgrow _ _
  have hB : Below w.heap.size w w1 := ((Below.refl _ w).alloc (Nat.le_refl _) _).grown hgrow (by simp) (fun k h => by simp [Value.ownBlock] at h; omega)
  have HO := Lib.hid hown
  clear hown hgrow own0
  go_wp2
  go_ret
  exact ⟨_, rfl, by simpa using HO.out, hB⟩
theorem cloneIm_any (w : World) (v : Value) (n : Nat) (xs : List Value) (hR : Reads w 2 v n xs) (h1 : ∀ u ∈ xs, u.oneCell' = true) (hn : n ≤ 1000000000) :
    Calls Tryd.prog 75 #[v] w fun e w' => ∃ v', e = .returned v' ∧ Row w' 94 2 v' n xs (fun k => w.heap.size ≤ k) ∧ Below w.heap.size w w' := by
  rcases hR.form with ⟨rfl, ao, c, rfl⟩ | ⟨bl, off, c, rfl, hc, hr⟩
  · have hb : xs = [] := List.eq_nil_of_length_eq_zero (by simpa using hR.len)
    subst hb
    rcases ao with _ | a
    · refine (cloneIm_nil w c).mono ?_
      rintro e w' ⟨rfl, rfl⟩
      exact ⟨_, rfl, Row.nil _ _ _ _, Below.refl _ _⟩
    · refine (cloneIm_some w a 0 c [] hR.len (by simp) h1 hn).mono ?_
      rintro e w' ⟨v', rfl, ho, hb⟩
      exact ⟨v', rfl, ⟨⟨ho.1, ho.2.imp id fun ⟨g, cap, cur, h1, _, h2⟩ => ⟨g, cap, cur, h1, Nat.zero_le _, h2⟩⟩, fun k hk => (ho.lt k hk).1⟩, hb⟩
  · refine (cloneIm_some w _ n c xs hR.len (fun j u hu => by rw [addr_plain]; exact hr j u hu) h1 hn).mono ?_
    rintro e w' ⟨v', rfl, ho, hb⟩
    exact ⟨v', rfl, ⟨⟨ho.1, ho.2.imp id fun ⟨g, cap, cur, h1, _, h2⟩ => ⟨g, cap, cur, h1, Nat.zero_le _, h2⟩⟩, fun k hk => (ho.lt k hk).1⟩, hb⟩

theorem infoMt : (Tryd.prog.info? 37).map (fun i => (i.zero, i.size, i.bytes)) = some (some (.agg #[.int .u64 0, .int .u64 0, .string ⟨#[]⟩, .string ⟨#[]⟩]), 4, 48) := by kernel_rfl
set_option maxRecDepth 100000 in
set_option maxHeartbeats 400000 in
theorem cloneMt_nil (w : World) (c : Nat) : Calls Tryd.prog 58 #[.slice none 0 c] w fun e w' => e = .returned (.slice none 0 0) ∧ w = w' := by
  have heq := fun (W : World) (a : Option Addr) (n c : Nat) => Lib.run_eql_slice_nil (P := Tryd.prog) W 29 37 a n c 0 0 Tryd.underlying29
  go_enter Tryd.func58, Tryd.ntmps58
  go_wp2
  go_ret
  exact ⟨rfl, rfl⟩
set_option maxRecDepth 100000 in
set_option maxHeartbeats 400000 in
theorem cloneMt_some (w : World) (a : Addr) (n c : Nat) (xs : List Value) (hl : xs.length = n * 4) (hc : ∀ j u, xs[j]? = some u → w.cell? (a.add j) = some u) (h1 : ∀ u ∈ xs, u.oneCell' = true) (hn : n ≤ 1000000000) :
    Calls Tryd.prog 58 #[.slice (some a) n c] w fun e w' => ∃ v, e = .returned v ∧ w'.ownsRow w.heap.size 37 4 v n xs ∧ Below w.heap.size w w' := by
  obtain ⟨i0, hi, hz0, hz1, hz2⟩ := info_parts infoMt
  have own0 : (w.alloc (.cells #[] 37)).ownsRow w.heap.size 37 4 (.slice (some ⟨w.heap.size, 0, none⟩) 0 0) 0 [] :=
    World.ownsRow_made w #[] 0 (Nat.le_refl _) (by unfold maxLen; omega) (by simp)
  have hc' : ∀ j u, xs[j]? = some u → (w.alloc (.cells #[] 37)).cell? (a.add j) = some u := fun j u hu => cell_alloc_keep _ _ _ (hc j u hu)
  have HC := Lib.hid hc'
  have HL := Lib.hid hl
  have H1 := Lib.hid h1
  clear hc hc' hl h1
  have heq := fun (W : World) (a : Option Addr) (n c : Nat) => Lib.run_eql_slice_nil (P := Tryd.prog) W 29 37 a n c 0 0 Tryd.underlying29
  go_enter Tryd.func58, Tryd.ntmps58
  go_wp2_with (at_builtin; refine wpList_append_own_at _ rfl _ _ 29 rfl w.heap.size 37 i0 (.agg #[.int .u64 0, .int .u64 0, .string ⟨#[]⟩, .string ⟨#[]⟩]) 4 48 Tryd.underlying29 hi hz0 hz1 hz2 rfl (by decide) (.slice (some ⟨w.heap.size, 0, none⟩) 0 0) 0 [] rfl own0 a n c xs rfl HL.out HC.out H1.out (by unfold maxLen; omega) (by omega) (by simp) ?_)
  intro v' w1 hown hgrow _ _
  have hB : Below w.heap.size w w1 := ((Below.refl _ w).alloc (Nat.le_refl _) _).grown hgrow (by simp) (fun k h => by simp [Value.ownBlock] at h; omega)
  have HO := Lib.hid hown
  clear hown hgrow own0
  go_wp2
  go_ret
  exact ⟨_, rfl, by simpa using HO.out, hB⟩
theorem cloneMt_any (w : World) (v : Value) (n : Nat) (xs : List Value) (hR : Reads w 4 v n xs) (h1 : ∀ u ∈ xs, u.oneCell' = true) (hn : n ≤ 1000000000) :
    Calls Tryd.prog 58 #[v] w fun e w' => ∃ v', e = .returned v' ∧ Row w' 37 4 v' n xs (fun k => w.heap.size ≤ k) ∧ Below w.heap.size w w' := by
  rcases hR.form with ⟨rfl, ao, c, rfl⟩ | ⟨bl, off, c, rfl, hc, hr⟩
  · have hb : xs = [] := List.eq_nil_of_length_eq_zero (by simpa using hR.len)
    subst hb
    rcases ao with _ | a
    · refine (cloneMt_nil w c).mono ?_
      rintro e w' ⟨rfl, rfl⟩
      exact ⟨_, rfl, Row.nil _ _ _ _, Below.refl _ _⟩
    · refine (cloneMt_some w a 0 c [] hR.len (by simp) h1 hn).mono ?_
      rintro e w' ⟨v', rfl, ho, hb⟩
      exact ⟨v', rfl, ⟨⟨ho.1, ho.2.imp id fun ⟨g, cap, cur, h1, _, h2⟩ => ⟨g, cap, cur, h1, Nat.zero_le _, h2⟩⟩, fun k hk => (ho.lt k hk).1⟩, hb⟩
  · refine (cloneMt_some w _ n c xs hR.len (fun j u hu => by rw [addr_plain]; exact hr j u hu) h1 hn).mono ?_
    rintro e w' ⟨v', rfl, ho, hb⟩
    exact ⟨v', rfl, ⟨⟨ho.1, ho.2.imp id fun ⟨g, cap, cur, h1, _, h2⟩ => ⟨g, cap, cur, h1, Nat.zero_le _, h2⟩⟩, fun k hk => (ho.lt k hk).1⟩, hb⟩

theorem infoU3 : (Tryd.prog.info? 107).map (fun i => (i.zero, i.size, i.bytes)) = some (some (.int .u32 0), 1, 4) := by kernel_rfl
set_option maxRecDepth 100000 in
set_option maxHeartbeats 400000 in
theorem cloneU3_nil (w : World) (c : Nat) : Calls Tryd.prog 54 #[.slice none 0 c] w fun e w' => e = .returned (.slice none 0 0) ∧ w = w' := by
  have heq := fun (W : World) (a : Option Addr) (n c : Nat) => Lib.run_eql_slice_nil (P := Tryd.prog) W 47 107 a n c 0 0 Tryd.underlying47
  go_enter Tryd.func54, Tryd.ntmps54
  go_wp2
  go_ret
  exact ⟨rfl, rfl⟩
set_option maxRecDepth 100000 in
set_option maxHeartbeats 400000 in
theorem cloneU3_some (w : World) (a : Addr) (n c : Nat) (xs : List Value) (hl : xs.length = n * 1) (hc : ∀ j u, xs[j]? = some u → w.cell? (a.add j) = some u) (h1 : ∀ u ∈ xs, u.oneCell' = true) (hn : n ≤ 1000000000) :
    Calls Tryd.prog 54 #[.slice (some a) n c] w fun e w' => ∃ v, e = .returned v ∧ w'.ownsRow w.heap.size 107 1 v n xs ∧ Below w.heap.size w w' := by
  obtain ⟨i0, hi, hz0, hz1, hz2⟩ := info_parts infoU3
  have own0 : (w.alloc (.cells #[] 107)).ownsRow w.heap.size 107 1 (.slice (some ⟨w.heap.size, 0, none⟩) 0 0) 0 [] :=
    World.ownsRow_made w #[] 0 (Nat.le_refl _) (by unfold maxLen; omega) (by simp)
  have hc' : ∀ j u, xs[j]? = some u → (w.alloc (.cells #[] 107)).cell? (a.add j) = some u := fun j u hu => cell_alloc_keep _ _ _ (hc j u hu)
  have HC := Lib.hid hc'
  have HL := Lib.hid hl
  have H1 := Lib.hid h1
  clear hc hc' hl h1
  have heq := fun (W : World) (a : Option Addr) (n c : Nat) => Lib.run_eql_slice_nil (P := Tryd.prog) W 47 107 a n c 0 0 Tryd.underlying47
  go_enter Tryd.func54, Tryd.ntmps54
  go_wp2_with (at_builtin; refine wpList_append_own_at _ rfl _ _ 47 rfl w.heap.size 107 i0 (.int .u32 0) 1 4 Tryd.underlying47 hi hz0 hz1 hz2 rfl (by decide) (.slice (some ⟨w.heap.size, 0, none⟩) 0 0) 0 [] rfl own0 a n c xs rfl HL.out HC.out H1.out (by unfold maxLen; omega) (by omega) (by simp) ?_)
  intro v' w1 hown hgrow _ _
  have hB : Below w.heap.size w w1 := ((Below.refl _ w).alloc (Nat.le_refl _) _).grown hgrow (by simp) (fun k h => by simp [Value.ownBlock] at h; omega)
  have HO := Lib.hid hown
  clear hown hgrow own0
  go_wp2
  go_ret
  exact ⟨_, rfl, by simpa using HO.out, hB⟩
theorem cloneU3_any (w : World) (v : Value) (n : Nat) (xs : List Value) (hR : Reads w 1 v n xs) (h1 : ∀ u ∈ xs, u.oneCell' = true) (hn : n ≤ 1000000000) :
    Calls Tryd.prog 54 #[v] w fun e w' => ∃ v', e = .returned v' ∧ Row w' 107 1 v' n xs (fun k => w.heap.size ≤ k) ∧ Below w.heap.size w w' := by
  rcases hR.form with ⟨rfl, ao, c, rfl⟩ | ⟨bl, off, c, rfl, hc, hr⟩
  · have hb : xs = [] := List.eq_nil_of_length_eq_zero (by simpa using hR.len)
    subst hb
    rcases ao with _ | a
    · refine (cloneU3_nil w c).mono ?_
      rintro e w' ⟨rfl, rfl⟩
      exact ⟨_, rfl, Row.nil _ _ _ _, Below.refl _ _⟩
    · refine (cloneU3_some w a 0 c [] hR.len (by simp) h1 hn).mono ?_
      rintro e w' ⟨v', rfl, ho, hb⟩
      exact ⟨v', rfl, ⟨⟨ho.1, ho.2.imp id fun ⟨g, cap, cur, h1, _, h2⟩ => ⟨g, cap, cur, h1, Nat.zero_le _, h2⟩⟩, fun k hk => (ho.lt k hk).1⟩, hb⟩
  · refine (cloneU3_some w _ n c xs hR.len (fun j u hu => by rw [addr_plain]; exact hr j u hu) h1 hn).mono ?_
    rintro e w' ⟨v', rfl, ho, hb⟩
    exact ⟨v', rfl, ⟨⟨ho.1, ho.2.imp id fun ⟨g, cap, cur, h1, _, h2⟩ => ⟨g, cap, cur, h1, Nat.zero_le _, h2⟩⟩, fun k hk => (ho.lt k hk).1⟩, hb⟩
end Go.Proofs.YteiaifhnikknbaaDoor
