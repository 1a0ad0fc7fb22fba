/- slices.Backward over numbers, and tower.Steps. -/
import Derived.RangeFuncNested
import Derived.RangeFuncBound
import Derived.RangeFuncCalls
import Derived.RangeFuncLeaves
import Derived.RangeFuncBox
import Derived.Shelf.Abstract
import Derived.Shelf.RegionOpen
import Derived.OwnWalkIn
import Derived.TacticsInMore
import Derived.LoopNIn
import Derived.LoopIn
import Derived.Test.YtidgnlcokfnhgaaDoorTowerSteps
namespace Go.Proofs.YtidgnlcokfnhgaaDoor
open Go.RowKit Go.Shelf
attribute [local go_sem] Oper.semAt_some

/-- What has come when k rounds are over: the places, and what is there. -/
def backTo (l : List Int) (k : Nat) : List (Nat × Int) := (List.range k).map fun j => (l.length - 1 - j, l.getD (l.length - 1 - j) 0)
theorem backTo_succ (l : List Int) (k : Nat) : backTo l (k + 1) = backTo l k ++ [(l.length - 1 - k, l.getD (l.length - 1 - k) 0)] := by simp [backTo, List.range_succ]
theorem backTo_length (l : List Int) (k : Nat) : (backTo l k).length = k := by simp [backTo]
theorem backTo_all (l : List Int) : (backTo l l.length).map (·.2) = l.reverse := by
  apply List.ext_getElem
  · simp [backTo]
  · intro i h1 h2
    have : i < l.length := by simpa [backTo] using h1
    rw [List.getElem_reverse]
    simp only [backTo, List.map_map, List.getElem_map, List.getElem_range, Function.comp]
    rw [getD_lt (by omega)]

/-- What lay below n₀, and the block Bs, lie as they lay. -/
structure KB (n₀ Bs : Nat) (W W' : World) : Prop where
  below : Below n₀ W W'
  same : W'.heap[Bs]? = W.heap[Bs]?
theorem KB.refl (n₀ Bs : Nat) (W : World) : KB n₀ Bs W W := ⟨Below.refl _ _, rfl⟩
theorem KB.trans {n₀ Bs : Nat} {A B C : World} (h : KB n₀ Bs A B) (k : KB n₀ Bs B C) : KB n₀ Bs A C := ⟨h.below.trans k.below, k.same.trans h.same⟩
theorem KB.put {n₀ Bs : Nat} {w : World} (hn : n₀ ≤ w.heap.size) (hb : Bs < w.heap.size) (W : World) (l : Nat) (o o' : Obj) (hl : w.heap.size ≤ l) (h : W.heap[l]? = some o) (hc : o.isCells = false) (hw : o.isWalk = false) : KB n₀ Bs W (W.putObj l o') :=
  ⟨belowK_b hn W l o o' hl h hc hw, World.putObj_heap_other (by omega)⟩
theorem KB.cell {n₀ Bs : Nat} {W W' : World} (h : KB n₀ Bs W W') {v : Value} (hc : W.cell? ⟨Bs, 0, none⟩ = some v) : W'.cell? ⟨Bs, 0, none⟩ = some v := (World.cell?_of_block (w := W) h.same).trans hc
theorem KB.setCell {n₀ Bs : Nat} {W W' : World} (h : KB n₀ Bs W W') {p : Addr} (hp : n₀ ≤ p.block) (hne : Bs ≠ p.block) (v : Value) : KB n₀ Bs W (W'.setCell p v) := ⟨h.below.setCell hp v, (Below.heap_setCell _ _ _ _ hne).trans h.same⟩

set_option maxRecDepth 100000 in
set_option maxHeartbeats 2000000 in
theorem back1_in (n : Nat) (hn : 1 ≤ n) (l Bs n₀ b off cap : Nat) (zs : List Int) (hreach : zs.length ≤ 4000000000) (hb : b < n₀) (J Jx : List (Nat × Int) → World → Prop)
    (hY : ∀ pre x W, J pre W → pre.length < zs.length → YieldAt Fence.wide (n - 1) Tryd.prog l #[.int .i64 (x.1 : Int), .int .i64 x.2] W fun e W' =>
      (e = .returned (.bool true) ∧ J (pre ++ [x]) W' ∧ KB n₀ Bs W W') ∨ (e = .returned (.bool false) ∧ Jx (pre ++ [x]) W'))
    (W : World) (hBs : W.cell? ⟨Bs, 0, none⟩ = some (.slice (some ⟨b, off, none⟩) zs.length cap)) (hc : ∀ j, j < zs.length → W.cell? ⟨b, off + j, none⟩ = some (.int .i64 (zs.getD j 0))) (h0 : J [] W) :
    CallsIn Fence.wide n Tryd.prog 19 #[.func (.yield l) #[] #[], .pointer (some ⟨Bs, 0, none⟩)] W fun e W' => (∃ v, e = .returned v) ∧
      ((∃ ys, ys = backTo zs zs.length ∧ J ys W') ∨ (∃ pre, (∃ k, k ≤ zs.length ∧ pre = backTo zs k) ∧ Jx pre W')) := by
  refine callsIn_of_wp Tryd.func19 rfl trivial ?_ rfl
  simp only [Tryd.ntmps19, List.size_toArray, List.length_cons, List.length_nil, Nat.reduceAdd, Nat.reduceSub, Array.replicate_succ, Array.replicate_zero, List.push_toArray, List.append_toArray, List.nil_append, List.cons_append]
  gi_wp2
  gi_loopw [3] (fun i wr => ∃ k : Nat, k ≤ zs.length ∧ i = .int .i64 ((zs.length : Int) - 1 - k) ∧ J (backTo zs k) wr ∧ KB n₀ Bs W wr)
    (fun i _ => (intOf i + 1).toNat)
  case atStart => exact ⟨0, Nat.zero_le _, by simp, h0, KB.refl _ _ _⟩
  case round =>
    obtain ⟨k, hk, rfl, hJs, hnx⟩ := hrel
    by_cases hlt : k < zs.length
    · have hcx' : wr.cell? ⟨b, off + (zs.length - 1 - k), none⟩ = some (.int .i64 (zs.getD (zs.length - 1 - k) 0)) := (hnx.below.cell (p := ⟨b, off + (zs.length - 1 - k), none⟩) hb).trans (hc _ (by omega))
      have hbx : wr.cell? ⟨Bs, 0, none⟩ = some (.slice (some ⟨b, off, none⟩) zs.length cap) := hnx.cell hBs
      obtain ⟨i, hi⟩ : ∃ i, zs.length - 1 - k = i := ⟨_, rfl⟩
      obtain ⟨x, hx⟩ : ∃ x, zs.getD i 0 = x := ⟨_, rfl⟩
      have hib : i < zs.length := by omega
      have hii : ((zs.length : Int) - 1 - k) = (i : Int) := by omega
      rw [hi] at hcx'
      rw [hx] at hcx'
      rw [hii]
      obtain ⟨fn, tmps, assign, body, hy, hR⟩ := hY _ (i, x) wr hJs (by rw [backTo_length]; exact hlt)
      dsimp only at hy
      have HI := Lib.hid hi
      have HX := Lib.hid hx
      have HII := Lib.hid hii
      clear hi hx hii
      gi_wp2
      refine hR.mono ?_
      rintro e W3 (⟨rfl, hJ3, hk3⟩ | ⟨rfl, hJx3⟩)
      · gi_wp2
        go_roundw
        case rel => exact ⟨k + 1, by omega, by have := HII.out; congr 1; omega, by rw [backTo_succ, HI.out, HX.out]; exact hJ3, hnx.trans hk3⟩
        case measure => simp [intOf]; try omega
      · gi_wp2
        refine bodyPost_ret (results_none rfl _ _ _) rfl ?_
        exact ⟨⟨_, rfl⟩, .inr ⟨_, ⟨k + 1, by omega, by rw [backTo_succ, HI.out, HX.out]⟩, hJx3⟩⟩
    · obtain rfl : k = zs.length := by omega
      gi_wp2
      go_end0
      exact ⟨⟨_, rfl⟩, .inl ⟨_, rfl, hJs⟩⟩

theorem back1_nil_in (n : Nat) (l Bs : Nat) (ao : Option Addr) (c : Nat) (J : List (Nat × Int) → World → Prop) (W : World) (hBs : W.cell? ⟨Bs, 0, none⟩ = some (.slice ao 0 c)) (h0 : J [] W) :
    CallsIn Fence.wide n Tryd.prog 19 #[.func (.yield l) #[] #[], .pointer (some ⟨Bs, 0, none⟩)] W fun e W' => (∃ v, e = .returned v) ∧ J [] W' := by
  refine callsIn_of_wp Tryd.func19 rfl trivial ?_ rfl
  simp only [Tryd.ntmps19, List.size_toArray, List.length_cons, List.length_nil, Nat.reduceAdd, Nat.reduceSub, Array.replicate_succ, Array.replicate_zero, List.push_toArray, List.append_toArray, List.nil_append, List.cons_append]
  gi_wp2
  gi_loopw [3] (fun i wr => i = .int .i64 (-1) ∧ J [] wr) (fun _ _ => 0)
  case atStart => exact ⟨by simp, h0⟩
  case round =>
    obtain ⟨rfl, hJs⟩ := hrel
    gi_wp2
    go_end0
    exact ⟨⟨_, rfl⟩, hJs⟩

/-- A slice of numbers, in a block below n₀ (or of none). -/
structure IntsAt (n₀ : Nat) (W : World) (v : Value) (zs : List Int) : Prop where
  reads : Reads W 1 v zs.length (ints zs)
  low : 0 < zs.length → ∀ k, v.ownBlock = some k → k < n₀
theorem Reads.belowOwn {w w' : World} {size n : Nat} {v : Value} {xs : List Value} {B : Nat} (h : Reads w size v n xs) (hb : Below B w w') (hl : 0 < xs.length → ∀ k, v.ownBlock = some k → k < B) : Reads w' size v n xs := by
  refine ⟨h.len, h.form.imp id fun ⟨b, off, c, hv, hc, hr⟩ => ⟨b, off, c, hv, hc, fun j u hu => ?_⟩⟩
  exact (hb.cell (hl (Nat.lt_of_le_of_lt (Nat.zero_le _) (List.getElem?_eq_some_iff.1 hu).1) b (by rw [hv]; rfl))).trans (hr j u hu)
theorem IntsAt.below {n₀ : Nat} {A B : World} {v : Value} {zs : List Int} (h : IntsAt n₀ A v zs) (hb : Below n₀ A B) : IntsAt n₀ B v zs := ⟨h.reads.belowOwn hb (fun h0 => h.low (by rwa [ints_length] at h0)), h.low⟩

theorem back_stops (n : Nat) (hn : 1 ≤ n) (Bs n₀ : Nat) (sv : Value) (zs : List Int) (hreach : zs.length ≤ 4000000000) (w : World) (hBs : Bs < w.heap.size) (hn₀ : n₀ ≤ w.heap.size)
    (hc : w.cell? ⟨Bs, 0, none⟩ = some sv) (hI : IntsAt n₀ w sv zs) :
    SeqStopsK Fence.wide n Tryd.prog 19 #[.pointer (some ⟨Bs, 0, none⟩)] (fun x : Nat × Int => #[Value.int .i64 (x.1 : Int), Value.int .i64 x.2]) (KB n₀ Bs) (fun ys => ys = backTo zs zs.length) (fun pre => ∃ k, k ≤ zs.length ∧ pre = backTo zs k) zs.length w := fun l J Jx W hW _ _ hY h0 => by
  have hc' := (hW.cell (p := ⟨Bs, 0, none⟩) hBs).trans hc
  have hI' := hI.below (hW.mono hn₀)
  rcases hI'.reads.form with ⟨h00, ao, c, rfl⟩ | ⟨b, off, c, rfl, hcc, hr⟩
  · obtain rfl : zs = [] := List.eq_nil_of_length_eq_zero h00
    exact (back1_nil_in n l Bs ao c J W hc' h0).mono fun e W' ⟨he, hj⟩ => ⟨he, .inl ⟨_, rfl, hj⟩⟩
  · rcases Nat.eq_zero_or_pos zs.length with hz | hz
    · obtain rfl : zs = [] := List.eq_nil_of_length_eq_zero hz
      exact (back1_nil_in n l Bs _ c J W hc' h0).mono fun e W' ⟨he, hj⟩ => ⟨he, .inl ⟨_, rfl, hj⟩⟩
    refine (back1_in n hn l Bs n₀ b off c zs hreach (hI'.low hz b rfl) J Jx hY W hc' (fun j hj => hr j _ (by simp [ints, getD_lt hj, List.getElem?_eq_getElem hj])) h0).mono ?_
    rintro e W' ⟨he, ⟨ys, rfl, hj⟩ | ⟨pre, hk, hj⟩⟩
    · exact ⟨he, .inl ⟨_, rfl, hj⟩⟩
    · exact ⟨he, .inr ⟨_, hk, hj⟩⟩

set_option maxHeartbeats 1000000 in
theorem back_in (n : Nat) (a : Option Addr) (len cap : Nat) (w : World) :
    CallsIn Fence.wide n Tryd.prog 17 #[.slice a len cap] w fun e w' => e = .returned (.func (.func 19) #[] #[.pointer (some ⟨w.heap.size, 0, none⟩)]) ∧ w' = w.alloc (.cells #[.slice a len cap] 25) := by
  refine callsIn_of_wp Tryd.func17 rfl trivial ?_ rfl
  simp only [Tryd.ntmps17, List.size_toArray, List.length_cons, List.length_nil, Nat.reduceAdd, Nat.reduceSub, Array.replicate_succ, Array.replicate_zero, List.push_toArray, List.append_toArray, List.nil_append, List.cons_append]
  gi_wp2
  go_ret
  exact ⟨rfl, rfl⟩

/-- The way over what has come so far, from behind. -/
def wayOf (pre : List (Nat × Int)) : Nat × Int := way (pre.map (·.2)).reverse
theorem wayOf_snoc (pre : List (Nat × Int)) (x : Nat × Int) : wayOf (pre ++ [x]) = wayStep x.2 (wayOf pre) := by simp [wayOf, way_cons]
theorem wayOf_len (pre : List (Nat × Int)) : (wayOf pre).1 ≤ pre.length := by have := way_len (pre.map (·.2)).reverse; simpa [wayOf] using this

set_option maxRecDepth 100000 in
set_option maxHeartbeats 2000000 in
theorem steps_in (n : Nat) (hn : 3 ≤ n) (w : World) (a : Option Addr) (len cap : Nat) (zs : List Int) (hl : len ≤ 4000000000) (hlen : len = zs.length) (hI : IntsAt w.heap.size w (.slice a len cap) zs) :
    CallsIn Fence.wide n Tryd.prog 13 #[.slice a len cap] w fun e W' => e = .returned (.int .i64 ((way zs).1 : Nat)) ∧ Below w.heap.size w W' := by
  have h1 : 1 ≤ n := by omega
  refine callsIn_of_wp_marks Tryd.func13 rfl trivial ?_ rfl
  simp only [Tryd.ntmps13, List.size_toArray, List.length_cons, List.length_nil, Nat.reduceAdd, Nat.reduceSub, Array.replicate_succ, Array.replicate_zero, List.push_toArray, List.append_toArray, List.nil_append, List.cons_append]
  have HL := Lib.hid hlen
  clear hlen
  gi_wp2_with (refine ⟨trivial, ?_⟩; gi_at_call 17; refine (back_in (n - 1) _ _ _ _).mono ?_; rintro e w' ⟨rfl, rfl⟩)
  have b0 := Boxed.new w 3 (.int .i64 0)
  have b1 := Boxed.new (w.alloc (.cells #[.int .i64 0] 3)) 3 (.int .i64 0)
  have b2 := Boxed.new ((w.alloc (.cells #[.int .i64 0] 3)).alloc (.cells #[.int .i64 0] 3)) 25 (.slice a len cap)
  have hB0 : Below w.heap.size w (((w.alloc (.cells #[.int .i64 0] 3)).alloc (.cells #[.int .i64 0] 3)).alloc (.cells #[.slice a len cap] 25)) := (((Below.refl _ w).alloc (Nat.le_refl _) _).alloc (by simp) _).alloc (by simp; omega) _
  simp only [World.size_alloc] at b1 b2
  have hI0 : IntsAt w.heap.size (((w.alloc (.cells #[.int .i64 0] 3)).alloc (.cells #[.int .i64 0] 3)).alloc (.cells #[.slice a len cap] 25)) (.slice a len cap) zs := hI.below hB0
  refine wpIn_rangeFunc_ownF rfl h1 (gf := 19) (lb := #[.pointer (some ⟨w.heap.size + 1 + 1, 0, none⟩)]) rfl trivial (enters_of Tryd.func19 (by kernel_rfl) rfl)
    (back_stops (n - 1) (by omega) (w.heap.size + 1 + 1) w.heap.size (.slice a len cap) zs (by rw [← HL.out]; exact hl) _ (by simp) (by simp; omega) b2.cell hI0) KB.trans (KB.put (by simp; omega) (by simp)) (Below.refl _ _) (fun _ => rfl)
    (fun pre W => (Boxed W w.heap.size 3 (.int .i64 ((wayOf pre).1 : Nat)) ∧ Boxed W (w.heap.size + 1) 3 (.int .i64 (wayOf pre).2)) ∧ Below w.heap.size w W)
    (fun _ _ _ => False)
    (OwnFrom.and (Own.from (fun s A B row hs hg hr => ⟨boxed_own _ _ (fun pre => .int .i64 ((wayOf pre).1 : Nat)) s A B row hs.1 hg hr, boxed_own _ _ (fun pre => .int .i64 (wayOf pre).2) s A B row hs.2 hg hr⟩) _) (ownFrom_below (Nat.le_refl _) (by simp; omega)))
    (fun _ _ _ _ _ hs _ _ => hs)
    ⟨⟨(b0.alloc _).alloc _, b1.alloc _⟩, hB0⟩
    (fun x => { tmps := #[.slice a len cap, undef, .int .i64 0, .pointer (some ⟨w.heap.size, 0, none⟩), .pointer (some ⟨w.heap.size + 1, 0, none⟩), undef, .int .i64 x.2, .slice a len cap, .func (.func 19) #[] #[.pointer (some ⟨w.heap.size + 1 + 1, 0, none⟩)], .int .i64 x.1, .int .i64 x.2, undef, undef, undef, undef, undef, undef, undef], defers := [] }) ?assign ?body ?done ?stop
  case assign =>
    intro l x W K hK
    gi_wp2
    exact hK
  case body =>
    rintro l pre ⟨xi, x⟩ W ⟨⟨c0, c1⟩, hB⟩ hlt
    have e0 := c0.cell
    have f0 := c0.frozen
    have e1 := c1.cell
    have f1 := c1.frozen
    have hw := wayOf_len pre
    have hs := wayOf_snoc pre (xi, x)
    obtain ⟨m, h, hmh⟩ : ∃ m h, wayOf pre = (m, h) := ⟨_, _, rfl⟩
    have HZ : zs.length ≤ 4000000000 := by rw [← HL.out]; exact hl
    rw [hmh] at e0 e1 hw hs c0 c1
    dsimp only at e0 e1 hw c0 c1 hs
    have hm4 : m ≤ 4000000000 := by omega
    have HS := Lib.hid hs
    clear hs hmh hw
    by_cases hx : h ≤ x
    · have hr : wayOf (pre ++ [(xi, x)]) = (m + 1, x) := by rw [HS.out]; simp [wayStep, hx]
      have HR := Lib.hid hr
      clear hr HS
      gi_wp2
      refine ⟨(KeepsOthers.setCell _ _ _).trans (KeepsOthers.setCell _ _ _), ((KB.refl _ _ W).setCell (p := ⟨w.heap.size, 0, none⟩) (Nat.le_refl _) (by simp; omega) _).setCell (p := ⟨w.heap.size + 1, 0, none⟩) (by simp) (by simp) _, ⟨?_, ?_⟩, (hB.setCell (p := ⟨w.heap.size, 0, none⟩) (Nat.le_refl _) _).setCell (p := ⟨w.heap.size + 1, 0, none⟩) (by simp) _⟩
      · rw [HR.out]
        have := (c0.set (.int .i64 ((m : Int) + 1))).other (B' := w.heap.size + 1) (by omega) (.int .i64 x)
        simpa using this
      · rw [HR.out]
        exact (c1.other (B' := w.heap.size) (by omega) _).set _
    · have hr : wayOf (pre ++ [(xi, x)]) = (m, h) := by rw [HS.out]; simp [wayStep, hx]
      have HR := Lib.hid hr
      clear hr HS
      gi_wp2
      exact ⟨KeepsOthers.refl _, KB.refl _ _ _, ⟨by rw [HR.out]; exact c0, by rw [HR.out]; exact c1⟩, hB⟩
  case done =>
    rintro D ys W hD rfl ⟨⟨c0, c1⟩, hB⟩ hK
    have hfin : wayOf (backTo zs zs.length) = way zs := by unfold wayOf; rw [backTo_all, List.reverse_reverse]
    rw [hfin] at c0
    have e0 := c0.cell
    clear hfin
    gi_wp2
    refine ⟨by simp, .inl ⟨_, _, rfl, run_takeDeferred hK, ?_⟩⟩
    exact ⟨_, results_tmp rfl _ _ _, rfl, hB.trans (belowK_b (w := w) (Nat.le_refl _) W D _ _ (by simp at hD; omega) hK rfl rfl)⟩
  case stop =>
    rintro D c pre W _ _ h _
    exact h.elim

theorem steps_any (w : World) (v : Value) (k : Nat) (zs : List Int) (hR : Reads w 1 v k (ints zs)) (hl : k ≤ 4000000000) :
    Calls Tryd.prog 13 #[v] w fun e W' => e = .returned (.int .i64 ((way zs).1 : Nat)) ∧ Below w.heap.size w W' := by
  have hlen : k = zs.length := by have := hR.len; simpa [ints_length] using this.symm
  obtain ⟨ao, c, rfl⟩ := hR.slice
  refine callsIn_wide.1 (steps_in 3 (by omega) w ao k c zs hl hlen ?_)
  subst hlen
  refine ⟨hR, fun h0 k hk => ?_⟩
  rcases hR.form with ⟨hz, _⟩ | ⟨b, off, c', e, _, hr⟩
  · omega
  · cases e
    obtain rfl : b = k := by simpa [Value.ownBlock] using hk
    exact World.block_lt_of_cell? w _ (hr 0 (.int .i64 zs[0]) (by simp [ints, List.getElem?_eq_getElem h0]))
end Go.Proofs.YtidgnlcokfnhgaaDoor
