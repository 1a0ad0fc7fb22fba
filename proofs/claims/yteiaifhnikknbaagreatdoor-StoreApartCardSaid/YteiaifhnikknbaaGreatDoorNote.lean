/- The walk over (*Cells).Note. -/
import Derived.Test.YteiaifhnikknbaaGreatDoorTraced
import Derived.Maps.Ext
import Derived.Maps.Own
import Derived.Maps.OwnOps
import Derived.Maps.OwnSet
import Derived.Carry
import Derived.Lib.SlMapFilter
import Derived.Test.YteiaifhnikknbaaGreatDoorCellsNew

namespace Go.Proofs.YteiaifhnikknbaaGreatDoor
open Go.RowKit Go.Maps

theorem ikeyed : Keyed Tryz.prog 3 := int_keyed Tryz.underlying3
theorem izero (w : World) : (zeroValue 3).run Tryz.prog w = .ok (.int .i64 0) w := by kernel_rfl
def il (c : Int) : DataW Unit := .lit (.int .i64 c)
def slEnt (sl : Nat → Option Int) : List (Lit × DataW Unit) := (List.range 64).filterMap fun t => (sl t).map fun c => (Lit.int .i64 t, il c)
def slD (sl : Nat → Option Int) : DataW Unit := .map (slEnt sl)
def slUp (sl : Nat → Option Int) (t : Nat) (c : Option Int) : Nat → Option Int := fun i => if i = t then c else sl i
def slAt (sl : Nat → Option Int) (t : Int) : Option Int := if 0 ≤ t ∧ t < 64 then sl t.toNat else none
/-- All that sleep on a condition are awake. -/
def slWake (sl : Nat → Option Int) (c : Int) : Nat → Option Int := fun i => if sl i = some c then none else sl i

theorem slEnt_mem {sl : Nat → Option Int} {p : Lit × DataW Unit} : p ∈ slEnt sl ↔ ∃ t, t < 64 ∧ ∃ c, sl t = some c ∧ p = (Lit.int .i64 t, il c) := by
  simp only [slEnt, List.mem_filterMap, List.mem_range, Option.map_eq_some_iff]
  constructor
  · rintro ⟨t, ht, c, hc, rfl⟩; exact ⟨t, ht, c, hc, rfl⟩
  · rintro ⟨t, ht, c, hc, rfl⟩; exact ⟨t, ht, c, hc, rfl⟩
theorem slEnt_rising (sl : Nat → Option Int) : (slEnt sl).Pairwise (fun p q => p.1.before q.1 = true) := by
  unfold slEnt
  rw [List.pairwise_filterMap]
  refine List.Pairwise.imp ?_ List.pairwise_lt_range
  intro a b hab p hp q hq
  simp only [Option.map_eq_some_iff] at hp hq
  obtain ⟨c, _, rfl⟩ := hp
  obtain ⟨d, _, rfl⟩ := hq
  simp [Lit.before]; omega
theorem slD_canon (sl : Nat → Option Int) : Canon (slD sl) := by
  refine ⟨_, rfl, slEnt_rising sl, fun p hp => ?_⟩
  obtain ⟨t, _, c, _, rfl⟩ := slEnt_mem.1 hp
  trivial
theorem slD_has {sl : Nat → Option Int} {k : Lit} : has (slD sl) k = true ↔ ∃ t, t < 64 ∧ ∃ c, sl t = some c ∧ k = Lit.int .i64 t := by
  show (slEnt sl).any (fun p => p.1.sameKey k) = true ↔ _
  rw [List.any_eq_true]
  constructor
  · rintro ⟨p, hp, hk⟩
    obtain ⟨t, ht, c, hc, rfl⟩ := slEnt_mem.1 hp
    exact ⟨t, ht, c, hc, (WideAt.sameKey_eq hk).symm⟩
  · rintro ⟨t, ht, c, hc, rfl⟩
    exact ⟨_, slEnt_mem.2 ⟨t, ht, c, hc, rfl⟩, WideAt.sameKey_self trivial⟩
theorem slD_key {sl : Nat → Option Int} {t : Nat} {c : Int} (ht : t < 64) (hc : sl t = some c) (z : DataW Unit) : (slD sl).atKey (.int .i64 t) z = il c :=
  WideAt.atKey_mem z trivial (apart_of_rising (slEnt_rising sl)) (slEnt_mem.2 ⟨t, ht, c, hc, rfl⟩)
theorem slD_look (sl : Nat → Option Int) (t : Int) : has (slD sl) (.int .i64 t) = (slAt sl t).isSome ∧ (slD sl).atKey (.int .i64 t) (il 0) = il ((slAt sl t).getD 0) := by
  have key : has (slD sl) (.int .i64 t) = (slAt sl t).isSome := by
    rw [Bool.eq_iff_iff, slD_has]
    unfold slAt
    constructor
    · rintro ⟨n, hn, c, hc, e⟩
      injection e with _ e
      subst e
      rw [if_pos (by omega), Int.toNat_natCast, hc]; rfl
    · intro h
      split at h
      · rename_i ht
        obtain ⟨c, hc⟩ := Option.isSome_iff_exists.1 h
        exact ⟨t.toNat, by omega, c, hc, by rw [Int.toNat_of_nonneg ht.1]⟩
      · cases h
  refine ⟨key, ?_⟩
  cases hs : slAt sl t with
  | none => rw [atKey_of_not_has (by rw [key, hs]; rfl)]; rfl
  | some c =>
    unfold slAt at hs
    split at hs
    · rename_i ht
      have := slD_key (sl := sl) (t := t.toNat) (by omega) hs (il 0)
      rw [Int.toNat_of_nonneg ht.1] at this
      rw [this]; rfl
    · cases hs
theorem slD_put (sl : Nat → Option Int) {t : Nat} (ht : t < 64) (c : Int) (h : Canon ((slD sl).put (.int .i64 t) (il c))) : (slD sl).put (.int .i64 t) (il c) = slD (slUp sl t (some c)) := by
  have hm : IsMap (slD sl) := ⟨_, rfl⟩
  have hkey : WideAt.IsKeyLit (Lit.int .i64 (t : Int)) := trivial
  have hh : ∀ k, has ((slD sl).put (.int .i64 t) (il c)) k = has (slD (slUp sl t (some c))) k := by
    intro k
    by_cases e : k = .int .i64 t
    · subst e
      rw [has_put_same hm hkey]
      exact (slD_has.2 ⟨t, ht, c, by simp [slUp], rfl⟩).symm
    · rw [has_put_other e, Bool.eq_iff_iff, slD_has, slD_has]
      constructor
      · rintro ⟨n, hn, d, hd, rfl⟩
        have : n ≠ t := fun e' => e (by rw [e'])
        exact ⟨n, hn, d, by simp [slUp, this, hd], rfl⟩
      · rintro ⟨n, hn, d, hd, rfl⟩
        have : n ≠ t := fun e' => e (by rw [e'])
        exact ⟨n, hn, d, by simpa [slUp, this] using hd, rfl⟩
  refine Maps.ext h (slD_canon _) hh (fun k z hk => ?_)
  rw [hh] at hk
  obtain ⟨n, hn, d, hd, rfl⟩ := slD_has.1 hk
  rw [slD_key hn hd]
  by_cases e : n = t
  · subst e
    rw [atKey_put_same hm hkey]
    simp [slUp] at hd
    rw [hd]
  · rw [atKey_put_other (by simp; omega)]
    exact slD_key hn (by simpa [slUp, e] using hd) z

/-- What the closure of Wake says. -/
def isOn (c : Int) : Lit → DataW Unit → Bool
  | _, .lit (.int .i64 d) => decide (d = c)
  | _, _ => false
theorem slD_wake (sl : Nat → Option Int) (c : Int) : Lib.deleteFuncD (isOn c) (slD sl) = slD (slWake sl c) := by
  show DataW.map ((slEnt sl).filter fun p => !isOn c p.1 p.2) = DataW.map (slEnt (slWake sl c))
  congr 1
  unfold slEnt
  rw [List.filter_filterMap]
  congr 1
  funext t
  cases hs : sl t with
  | none => simp [slWake, hs]
  | some d => by_cases e : d = c <;> simp [slWake, hs, e, isOn, il]
/-- So many sleep. -/
def slCount (sl : Nat → Option Int) (q : Int → Bool) : Nat := ((List.range 64).filter fun t => ((sl t).map q).getD false).length
theorem slCount_le (sl : Nat → Option Int) (q : Int → Bool) : slCount sl q ≤ 64 := by
  unfold slCount
  refine Nat.le_trans (List.length_filter_le _ _) ?_
  simp
theorem slD_size (sl : Nat → Option Int) : Maps.size (slD sl) = slCount sl (fun _ => true) := by
  show (slEnt sl).length = _
  unfold slEnt slCount
  generalize List.range 64 = l
  induction l with
  | nil => rfl
  | cons t l ih => cases hs : sl t <;> simp [List.filterMap_cons, List.filter_cons, hs, ih]
theorem slWake_count (sl : Nat → Option Int) (c : Int) : slCount (slWake sl c) (fun _ => true) + slCount sl (fun d => decide (d = c)) = slCount sl (fun _ => true) := by
  unfold slCount
  generalize List.range 64 = l
  induction l with
  | nil => rfl
  | cons t l ih =>
    cases hs : sl t with
    | none => simpa [List.filter_cons, slWake, hs] using ih
    | some d => by_cases e : d = c <;> simp [List.filter_cons, slWake, hs, e] <;> simp [slWake] at ih <;> omega

section
variable {w : World} {ops : Array Oper} {rest : List Oper} {o : Oper} {a : Act} {Q : Exit → Act → World → Prop}
/-- The look-up, at the operation. -/
theorem wpList_sl (hg : o.guard = none) (m x : Operand) (hop : o.op = Op.lookup 133 m x true) (b n : Nat) (sl : Nat → Option Int) (hm : a.eval m = .map (some b)) (hown : w.ownsMap Tryz.prog 3 (plainElem Tryz.prog 3) b n (slD sl))
    (t : Int) (hx : a.eval x = .int .i64 t) (hw : (Lit.int .i64 t).wf = true) (r : Option Int) (hr : slAt sl t = r)
    (hK : wpList Tryz.prog ops Q rest (a.put o.dst (.tuple #[.int .i64 (r.getD 0), .bool r.isSome])) w) : wpList Tryz.prog ops Q (o :: rest) a w := by
  refine wpList_lookup_own_ok_int w hg m x 133 hop 3 3 .i64 ikeyed Tryz.underlying133 Tryz.underlying3 (izero w) b n (slD sl) hm hown (.int .i64 t) (.int .i64 t) hx (keyOf_int_mk Tryz.underlying3 hw) ?_
  intro c hc _
  have h1 := slD_look sl t
  rw [hr] at h1
  have h2 : c = r.getD 0 := by
    have := hc.symm.trans h1.2
    simpa [il] using this
  rw [h1.1, h2]
  exact hK
/-- The store, at the operation. -/
theorem wpList_slput (hg : o.guard = none) (m x v : Operand) (hop : o.op = Op.mapUpdate 133 m x v) (b n : Nat) (sl : Nat → Option Int) (hm : a.eval m = .map (some b)) (hown : w.ownsMap Tryz.prog 3 (plainElem Tryz.prog 3) b n (slD sl)) (hn : n < maxLen)
    (t c : Int) (hx : a.eval x = .int .i64 t) (hv : a.eval v = .int .i64 c) (ht : 0 ≤ t ∧ t < 64) (hc : (Lit.int .i64 c).wf = true)
    (hK : ∀ w', w'.ownsMap Tryz.prog 3 (plainElem Tryz.prog 3) b (n + 1) (slD (slUp sl t.toNat (some c))) → w.grownBy w' (some b) → wpList Tryz.prog ops Q rest (a.put o.dst undef) w') : wpList Tryz.prog ops Q (o :: rest) a w := by
  have hw : (Lit.int .i64 t).wf = true := WalkArith.wf_i64 (by omega)
  refine wpList_mapUpdate_own w hg m x v 133 hop 3 3 ikeyed Tryz.underlying133 (plainElem Tryz.prog 3) b n (slD sl) hm hown hn (.int .i64 t) (.int .i64 c) (.int .i64 t) hx hv (keyOf_int_mk Tryz.underlying3 hw) (il c) [] (plainElem_int Tryz.underlying3 hc) ?_
  intro w' hown' hg'
  refine hK w' ?_ hg'
  have e : (Lit.int .i64 t) = Lit.int .i64 (t.toNat : Int) := by rw [Int.toNat_of_nonneg ht.1]
  rw [e] at hown'
  have hcan := hown'.canon ikeyed
  rw [slD_put sl (by omega) c hcan] at hown'
  exact hown'
end
theorem ownsMap_keep {w w' : World} {b n : Nat} {D : DataW Unit} (h : w.ownsMap Tryz.prog 3 (plainElem Tryz.prog 3) b n D) (hs : w'.heap[b]? = w.heap[b]?) : w'.ownsMap Tryz.prog 3 (plainElem Tryz.prog 3) b n D := by
  obtain ⟨es, clock, hb, rest⟩ := h
  exact ⟨es, clock, hs.trans hb, rest⟩

end Go.Proofs.YteiaifhnikknbaaGreatDoor


namespace Go.Proofs.YteiaifhnikknbaaGreatDoor
open Go.RowKit

set_option maxHeartbeats 1000000 in
theorem note_a {w : World} {c : CRef} {S : Mem} {A : Nat → Prop} (hC : Cells w c S A) (hF : Fresh A w) (hn : S.trace.length < trMax) (task what at_ : Int) (t1 : 0 ≤ task) (t2 : task < 64) (t3 : 0 ≤ at_) (h1 : 1 ≤ what) (h2 : what ≤ 5) (h3 : at_ < S.atomics.length) :
    Calls Tryz.prog 52 #[.pointer (some ⟨c.p, 0, none⟩), .agg #[.int .i64 task, .int .u8 what, .int .i64 at_]] w fun e w' => e = .returned (.int .i64 0) ∧ Cells w' c (S.note ⟨task, what, at_⟩) A ∧ Only A w w' := by
  obtain ⟨tv, pls, hC⟩ := hC
  have hlt := hC.main.lt
  have c0 := hC.c0
  have c1 := hC.c1
  have c2 := hC.c2
  have c3 := hC.c3
  go_enter Tryz.func52, Tryz.ntmps52
  go_wp2_with (first | (go_at_call 48; refine (is_yes _ _ (cell_alloc_keep _ _ _ c0)).mono ?_; rintro e w' ⟨rfl, rfl⟩))
  obtain ⟨i0, hi, hz0, hz1, hz2⟩ := info_parts infoAcc
  have hSa : Same A w ((w.alloc (.cells #[.int .i64 task, .int .u8 what, .int .i64 at_] 131)).alloc (.cells #[.int .i64 task, .int .u8 what, .int .i64 at_] 131)).drew :=
    ((Same.alloc A w _).trans (by simp) (Same.alloc A _ _)).trans (by simp; omega) (Same.drew A _)
  have hCa := hC.keep hSa
  have hFa := ((hF.alloc (.cells #[.int .i64 task, .int .u8 what, .int .i64 at_] 131)).alloc (.cells #[.int .i64 task, .int .u8 what, .int .i64 at_] 131)).drew
  have hnews := Lib.hid (cells_three' (w.alloc (.cells #[.int .i64 task, .int .u8 what, .int .i64 at_] 131)).drew (w.heap.size + 1) (by simp) (.int .i64 task) (.int .u8 what) (.int .i64 at_) 131)
  have hnn : S.trace.length < 1000000000 := hn
  have hO0 : Only A w ((w.alloc (.cells #[.int .i64 task, .int .u8 what, .int .i64 at_] 131)).alloc (.cells #[.int .i64 task, .int .u8 what, .int .i64 at_] 131)).drew := (((Only.refl A w).alloc _).alloc _).drew
  clear hSa hC c0 c1 c2 t1 t2 t3 h3 h1 h2
  go_region_law ((refine step_append_own rfl _ _ 127 rfl 0 131 i0 (.agg #[.int .i64 0, .int .u8 0, .int .i64 0]) 3 24 Tryz.underlying127 hi hz0 hz1 hz2 rfl (by decide) tv S.trace.length (accs S.trace) rfl hCa.trace.owns ⟨w.heap.size + 1, 0, none⟩ 1 1 [.int .i64 task, .int .u8 what, .int .i64 at_] rfl rfl hnews.out (by simp [Value.oneCell']) (by unfold maxLen; omega) (by omega) (Nat.zero_le _) ?_; intro v' w1 hown hgrow _ hat; obtain ⟨hC2, hO2⟩ := hCa.noted hFa ⟨task, what, at_⟩ hown hgrow (hat.imp id fun h => ⟨_, h, by simp⟩); have m1 := hCa.main.grown hgrow (hCa.trace.ne_blk hCa.main (by decide)); have k3 := m1.cell 3 rfl; have f3 := m1.frozen 3; obtain ⟨g, cap, rfl⟩ := owns_succ hown; clear hown hgrow hat m1))
  all_goals go_wp2
  all_goals go_ret
  all_goals exact ⟨rfl, ⟨_, _, hC2⟩, hO0.trans hO2⟩

set_option maxHeartbeats 1000000 in
theorem note_b6 {w : World} {c : CRef} {S : Mem} {A : Nat → Prop} (hC : Cells w c S A) (hF : Fresh A w) (hn : S.trace.length < trMax) (task at_ : Int) (t1 : 0 ≤ task) (t2 : task < 64) (t3 : 0 ≤ at_) (h3 : at_ < S.plains.length) :
    Calls Tryz.prog 52 #[.pointer (some ⟨c.p, 0, none⟩), .agg #[.int .i64 task, .int .u8 6, .int .i64 at_]] w fun e w' => e = .returned (.int .i64 0) ∧ Cells w' c (S.note ⟨task, 6, at_⟩) A ∧ Only A w w' := by
  obtain ⟨tv, pls, hC⟩ := hC
  have hlt := hC.main.lt
  have c0 := hC.c0
  have c1 := hC.c1
  have c2 := hC.c2
  have c3 := hC.c3
  rw [← hC.rows] at h3
  go_enter Tryz.func52, Tryz.ntmps52
  go_wp2_with (first | (go_at_call 48; refine (is_yes _ _ (cell_alloc_keep _ _ _ c0)).mono ?_; rintro e w' ⟨rfl, rfl⟩))
  obtain ⟨i0, hi, hz0, hz1, hz2⟩ := info_parts infoAcc
  have hSa : Same A w ((w.alloc (.cells #[.int .i64 task, .int .u8 6, .int .i64 at_] 131)).alloc (.cells #[.int .i64 task, .int .u8 6, .int .i64 at_] 131)).drew :=
    ((Same.alloc A w _).trans (by simp) (Same.alloc A _ _)).trans (by simp; omega) (Same.drew A _)
  have hCa := hC.keep hSa
  have hFa := ((hF.alloc (.cells #[.int .i64 task, .int .u8 6, .int .i64 at_] 131)).alloc (.cells #[.int .i64 task, .int .u8 6, .int .i64 at_] 131)).drew
  have hnews := Lib.hid (cells_three' (w.alloc (.cells #[.int .i64 task, .int .u8 6, .int .i64 at_] 131)).drew (w.heap.size + 1) (by simp) (.int .i64 task) (.int .u8 6) (.int .i64 at_) 131)
  have hnn : S.trace.length < 1000000000 := hn
  have hO0 : Only A w ((w.alloc (.cells #[.int .i64 task, .int .u8 6, .int .i64 at_] 131)).alloc (.cells #[.int .i64 task, .int .u8 6, .int .i64 at_] 131)).drew := (((Only.refl A w).alloc _).alloc _).drew
  clear hSa hC c0 c1 c2 t1 t2 t3 h3 
  go_region_law ((refine step_append_own rfl _ _ 127 rfl 0 131 i0 (.agg #[.int .i64 0, .int .u8 0, .int .i64 0]) 3 24 Tryz.underlying127 hi hz0 hz1 hz2 rfl (by decide) tv S.trace.length (accs S.trace) rfl hCa.trace.owns ⟨w.heap.size + 1, 0, none⟩ 1 1 [.int .i64 task, .int .u8 6, .int .i64 at_] rfl rfl hnews.out (by simp [Value.oneCell']) (by unfold maxLen; omega) (by omega) (Nat.zero_le _) ?_; intro v' w1 hown hgrow _ hat; obtain ⟨hC2, hO2⟩ := hCa.noted hFa ⟨task, 6, at_⟩ hown hgrow (hat.imp id fun h => ⟨_, h, by simp⟩); have m1 := hCa.main.grown hgrow (hCa.trace.ne_blk hCa.main (by decide)); have k3 := m1.cell 3 rfl; have f3 := m1.frozen 3; obtain ⟨g, cap, rfl⟩ := owns_succ hown; clear hown hgrow hat m1))
  all_goals go_wp2
  all_goals go_ret
  all_goals exact ⟨rfl, ⟨_, _, hC2⟩, hO0.trans hO2⟩

set_option maxHeartbeats 1000000 in
theorem note_b7 {w : World} {c : CRef} {S : Mem} {A : Nat → Prop} (hC : Cells w c S A) (hF : Fresh A w) (hn : S.trace.length < trMax) (task at_ : Int) (t1 : 0 ≤ task) (t2 : task < 64) (t3 : 0 ≤ at_) (h3 : at_ < S.plains.length) :
    Calls Tryz.prog 52 #[.pointer (some ⟨c.p, 0, none⟩), .agg #[.int .i64 task, .int .u8 7, .int .i64 at_]] w fun e w' => e = .returned (.int .i64 0) ∧ Cells w' c (S.note ⟨task, 7, at_⟩) A ∧ Only A w w' := by
  obtain ⟨tv, pls, hC⟩ := hC
  have hlt := hC.main.lt
  have c0 := hC.c0
  have c1 := hC.c1
  have c2 := hC.c2
  have c3 := hC.c3
  rw [← hC.rows] at h3
  go_enter Tryz.func52, Tryz.ntmps52
  go_wp2_with (first | (go_at_call 48; refine (is_yes _ _ (cell_alloc_keep _ _ _ c0)).mono ?_; rintro e w' ⟨rfl, rfl⟩))
  obtain ⟨i0, hi, hz0, hz1, hz2⟩ := info_parts infoAcc
  have hSa : Same A w ((w.alloc (.cells #[.int .i64 task, .int .u8 7, .int .i64 at_] 131)).alloc (.cells #[.int .i64 task, .int .u8 7, .int .i64 at_] 131)).drew :=
    ((Same.alloc A w _).trans (by simp) (Same.alloc A _ _)).trans (by simp; omega) (Same.drew A _)
  have hCa := hC.keep hSa
  have hFa := ((hF.alloc (.cells #[.int .i64 task, .int .u8 7, .int .i64 at_] 131)).alloc (.cells #[.int .i64 task, .int .u8 7, .int .i64 at_] 131)).drew
  have hnews := Lib.hid (cells_three' (w.alloc (.cells #[.int .i64 task, .int .u8 7, .int .i64 at_] 131)).drew (w.heap.size + 1) (by simp) (.int .i64 task) (.int .u8 7) (.int .i64 at_) 131)
  have hnn : S.trace.length < 1000000000 := hn
  have hO0 : Only A w ((w.alloc (.cells #[.int .i64 task, .int .u8 7, .int .i64 at_] 131)).alloc (.cells #[.int .i64 task, .int .u8 7, .int .i64 at_] 131)).drew := (((Only.refl A w).alloc _).alloc _).drew
  clear hSa hC c0 c1 c2 t1 t2 t3 h3 
  go_region_law ((refine step_append_own rfl _ _ 127 rfl 0 131 i0 (.agg #[.int .i64 0, .int .u8 0, .int .i64 0]) 3 24 Tryz.underlying127 hi hz0 hz1 hz2 rfl (by decide) tv S.trace.length (accs S.trace) rfl hCa.trace.owns ⟨w.heap.size + 1, 0, none⟩ 1 1 [.int .i64 task, .int .u8 7, .int .i64 at_] rfl rfl hnews.out (by simp [Value.oneCell']) (by unfold maxLen; omega) (by omega) (Nat.zero_le _) ?_; intro v' w1 hown hgrow _ hat; obtain ⟨hC2, hO2⟩ := hCa.noted hFa ⟨task, 7, at_⟩ hown hgrow (hat.imp id fun h => ⟨_, h, by simp⟩); have m1 := hCa.main.grown hgrow (hCa.trace.ne_blk hCa.main (by decide)); have k3 := m1.cell 3 rfl; have f3 := m1.frozen 3; obtain ⟨g, cap, rfl⟩ := owns_succ hown; clear hown hgrow hat m1))
  all_goals go_wp2
  all_goals go_ret
  all_goals exact ⟨rfl, ⟨_, _, hC2⟩, hO0.trans hO2⟩

set_option maxHeartbeats 1000000 in
theorem note_c {w : World} {c : CRef} {S : Mem} {A : Nat → Prop} (hC : Cells w c S A) (hF : Fresh A w) (hn : S.trace.length < trMax) (task what at_ : Int) (t1 : 0 ≤ task) (t2 : task < 64) (t3 : 0 ≤ at_) (h1 : 8 ≤ what) (h2 : what ≤ 9) (h3 : at_ < 1) :
    Calls Tryz.prog 52 #[.pointer (some ⟨c.p, 0, none⟩), .agg #[.int .i64 task, .int .u8 what, .int .i64 at_]] w fun e w' => e = .returned (.int .i64 0) ∧ Cells w' c (S.note ⟨task, what, at_⟩) A ∧ Only A w w' := by
  obtain ⟨tv, pls, hC⟩ := hC
  have hlt := hC.main.lt
  have c0 := hC.c0
  have c1 := hC.c1
  have c2 := hC.c2
  have c3 := hC.c3
  have e6 : (what == 6) = false := by simp; omega
  have e7 : (what == 7) = false := by simp; omega
  go_enter Tryz.func52, Tryz.ntmps52
  go_wp2_with (first | (go_at_call 48; refine (is_yes _ _ (cell_alloc_keep _ _ _ c0)).mono ?_; rintro e w' ⟨rfl, rfl⟩))
  obtain ⟨i0, hi, hz0, hz1, hz2⟩ := info_parts infoAcc
  have hSa : Same A w ((w.alloc (.cells #[.int .i64 task, .int .u8 what, .int .i64 at_] 131)).alloc (.cells #[.int .i64 task, .int .u8 what, .int .i64 at_] 131)).drew :=
    ((Same.alloc A w _).trans (by simp) (Same.alloc A _ _)).trans (by simp; omega) (Same.drew A _)
  have hCa := hC.keep hSa
  have hFa := ((hF.alloc (.cells #[.int .i64 task, .int .u8 what, .int .i64 at_] 131)).alloc (.cells #[.int .i64 task, .int .u8 what, .int .i64 at_] 131)).drew
  have hnews := Lib.hid (cells_three' (w.alloc (.cells #[.int .i64 task, .int .u8 what, .int .i64 at_] 131)).drew (w.heap.size + 1) (by simp) (.int .i64 task) (.int .u8 what) (.int .i64 at_) 131)
  have hnn : S.trace.length < 1000000000 := hn
  have hO0 : Only A w ((w.alloc (.cells #[.int .i64 task, .int .u8 what, .int .i64 at_] 131)).alloc (.cells #[.int .i64 task, .int .u8 what, .int .i64 at_] 131)).drew := (((Only.refl A w).alloc _).alloc _).drew
  clear hSa hC c0 c1 c2 t1 t2 t3 h3 h1 h2
  go_region_law ((refine step_append_own rfl _ _ 127 rfl 0 131 i0 (.agg #[.int .i64 0, .int .u8 0, .int .i64 0]) 3 24 Tryz.underlying127 hi hz0 hz1 hz2 rfl (by decide) tv S.trace.length (accs S.trace) rfl hCa.trace.owns ⟨w.heap.size + 1, 0, none⟩ 1 1 [.int .i64 task, .int .u8 what, .int .i64 at_] rfl rfl hnews.out (by simp [Value.oneCell']) (by unfold maxLen; omega) (by omega) (Nat.zero_le _) ?_; intro v' w1 hown hgrow _ hat; obtain ⟨hC2, hO2⟩ := hCa.noted hFa ⟨task, what, at_⟩ hown hgrow (hat.imp id fun h => ⟨_, h, by simp⟩); have m1 := hCa.main.grown hgrow (hCa.trace.ne_blk hCa.main (by decide)); have k3 := m1.cell 3 rfl; have f3 := m1.frozen 3; obtain ⟨g, cap, rfl⟩ := owns_succ hown; clear hown hgrow hat m1))
  all_goals go_wp2
  all_goals go_ret
  all_goals exact ⟨rfl, ⟨_, _, hC2⟩, hO0.trans hO2⟩

/-- Note, of whatever may be noted. -/
theorem note_ok {w : World} {c : CRef} {S : Mem} {A : Nat → Prop} (hC : Cells w c S A) (hF : Fresh A w) (hn : S.trace.length < trMax) (a : Acc) (h : okNote S a = true) :
    Calls Tryz.prog 52 #[.pointer (some ⟨c.p, 0, none⟩), .agg #[.int .i64 a.task, .int .u8 a.what, .int .i64 a.at_]] w fun e w' => e = .returned (.int .i64 0) ∧ Cells w' c (S.note a) A ∧ Only A w w' := by
  obtain ⟨h1, h2, h3, h4, h5, h6, h7, h8⟩ := of_decide_eq_true h
  obtain ⟨task, what, at_⟩ := a
  simp only at h1 h2 h3 h4 h5 h6 h7 h8
  by_cases k5 : what ≤ 5
  · exact note_a hC hF hn task what at_ h1 h2 h3 h4 k5 (h6 k5)
  · by_cases k6 : what = 6
    · subst k6
      exact note_b6 hC hF hn task at_ h1 h2 h3 (h7 (by omega) (by omega))
    · by_cases k7 : what = 7
      · subst k7
        exact note_b7 hC hF hn task at_ h1 h2 h3 (h7 (by omega) (by omega))
      · exact note_c hC hF hn task what at_ h1 h2 h3 (by omega) h5 (h8 (by omega))

end Go.Proofs.YteiaifhnikknbaaGreatDoor
