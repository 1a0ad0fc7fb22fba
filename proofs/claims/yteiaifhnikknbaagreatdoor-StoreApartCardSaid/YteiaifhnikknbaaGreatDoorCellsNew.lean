/- The walks over cells.New and (*Cells).Note. -/
import Derived.Test.YteiaifhnikknbaaGreatDoorTraced

namespace Go.Proofs.YteiaifhnikknbaaGreatDoor
open Go.RowKit

theorem okAt_at {n : Nat} {task at_ : Int} (h : okAt n task at_ = true) : 0 ≤ at_ ∧ at_ < n := by
  obtain ⟨_, _, h3, h4⟩ := of_decide_eq_true h
  exact ⟨h3, h4⟩

theorem Cells.atomCell {w : World} {c : CRef} {S : Mem} {A : Nat → Prop} (h : Cells w c S A) {i : Int} (h0 : 0 ≤ i) (h1 : i < S.atomics.length) : w.cell? ⟨c.ab, i.toNat, none⟩ = some (.int .u64 (S.at_ i)) :=
  let ⟨_, _, k⟩ := h; k.atomCell h0 h1
theorem Cells.atomFrozen {w : World} {c : CRef} {S : Mem} {A : Nat → Prop} (h : Cells w c S A) (i : Nat) : w.frozen? ⟨c.ab, i, none⟩ = false := let ⟨_, _, k⟩ := h; k.atomFrozen i
theorem Cells.stored {w : World} {c : CRef} {S : Mem} {A : Nat → Prop} (h : Cells w c S A) (i x : Int) : Cells (w.setCell ⟨c.ab, i.toNat, none⟩ (.int .u64 x)) c (S.put i x) A ∧ Only A w (w.setCell ⟨c.ab, i.toNat, none⟩ (.int .u64 x)) :=
  let ⟨_, _, k⟩ := h; ⟨⟨_, _, (k.stored i x).1⟩, (k.stored i x).2⟩

set_option maxHeartbeats 400000 in
theorem load_ok {w : World} {c : CRef} {S : Mem} {A : Nat → Prop} (hC : Cells w c S A) (hF : Fresh A w) (hn : S.trace.length < trMax) (task at_ : Int) (h : okAt S.atomics.length task at_ = true) :
    Calls Tryz.prog 12 #[.pointer (some ⟨c.p, 0, none⟩), .int .i64 task, .int .i64 at_] w fun e w' => e = .returned (.tuple #[.int .u64 (S.at_ at_), .int .i64 0]) ∧ Cells w' c (S.note ⟨task, 1, at_⟩) A ∧ Only A w w' := by
  obtain ⟨h0, h1⟩ := okAt_at h
  go_enter Tryz.func12, Tryz.ntmps12
  go_wp2_with (first | (go_at_call 24; refine (atomic_ok hC _ _ h).mono ?_; rintro e w' ⟨rfl, rfl⟩) | (go_at_call 25; refine (traced_any hC hF hn _ _ _).mono ?_; rintro e w1 ⟨rfl, hC1, hO1⟩; have hx := hC1.atomCell (i := at_) h0 h1))
  go_ret2
  exact ⟨rfl, hC1, hO1⟩

set_option maxHeartbeats 400000 in
theorem load_no {w : World} {c : CRef} {S : Mem} {A : Nat → Prop} (hC : Cells w c S A) (task at_ : Int) (h : okAt S.atomics.length task at_ = false) :
    Calls Tryz.prog 12 #[.pointer (some ⟨c.p, 0, none⟩), .int .i64 task, .int .i64 at_] w fun e w' => e = .returned (.tuple #[.int .u64 0, .int .i64 2]) ∧ w = w' := by
  go_enter Tryz.func12, Tryz.ntmps12
  go_wp2_with (first | (go_at_call 24; refine (atomic_no hC _ _ h).mono ?_; rintro e w' ⟨rfl, rfl⟩))
  go_ret2
  exact ⟨rfl, rfl⟩

set_option maxHeartbeats 400000 in
theorem store_ok {w : World} {c : CRef} {S : Mem} {A : Nat → Prop} (hC : Cells w c S A) (hF : Fresh A w) (hn : S.trace.length < trMax) (task at_ x : Int) (h : okAt S.atomics.length task at_ = true) :
    Calls Tryz.prog 42 #[.pointer (some ⟨c.p, 0, none⟩), .int .i64 task, .int .i64 at_, .int .u64 x] w fun e w' => e = .returned (.int .i64 0) ∧ Cells w' c ((S.note ⟨task, 2, at_⟩).put at_ x) A ∧ Only A w w' := by
  obtain ⟨h0, h1⟩ := okAt_at h
  go_enter Tryz.func42, Tryz.ntmps42
  go_wp2_with (first | (go_at_call 24; refine (atomic_ok hC _ _ h).mono ?_; rintro e w' ⟨rfl, rfl⟩) | (go_at_call 25; refine (traced_any hC hF hn _ _ _).mono ?_; rintro e w1 ⟨rfl, hC1, hO1⟩; have hx := hC1.atomCell (i := at_) h0 h1; have hf := hC1.atomFrozen at_.toNat))
  go_ret
  exact ⟨rfl, (hC1.stored at_ x).1, hO1.trans (hC1.stored at_ x).2⟩

set_option maxHeartbeats 400000 in
theorem store_no {w : World} {c : CRef} {S : Mem} {A : Nat → Prop} (hC : Cells w c S A) (task at_ x : Int) (h : okAt S.atomics.length task at_ = false) :
    Calls Tryz.prog 42 #[.pointer (some ⟨c.p, 0, none⟩), .int .i64 task, .int .i64 at_, .int .u64 x] w fun e w' => e = .returned (.int .i64 2) ∧ w = w' := by
  go_enter Tryz.func42, Tryz.ntmps42
  go_wp2_with (first | (go_at_call 24; refine (atomic_no hC _ _ h).mono ?_; rintro e w' ⟨rfl, rfl⟩))
  go_ret
  exact ⟨rfl, rfl⟩

set_option maxHeartbeats 400000 in
theorem swap_done {w : World} {c : CRef} {S : Mem} {A : Nat → Prop} (hC : Cells w c S A) (hF : Fresh A w) (hn : S.trace.length < trMax) (task at_ was x : Int) (h : okAt S.atomics.length task at_ = true) (hw : (S.at_ at_ != was) = false) :
    Calls Tryz.prog 99 #[.pointer (some ⟨c.p, 0, none⟩), .int .i64 task, .int .i64 at_, .int .u64 was, .int .u64 x] w fun e w' => e = .returned (.tuple #[.bool true, .int .i64 0]) ∧ Cells w' c ((S.note ⟨task, 3, at_⟩).put at_ x) A ∧ Only A w w' := by
  obtain ⟨h0, h1⟩ := okAt_at h
  have hx0 := hC.atomCell (i := at_) h0 h1
  go_enter Tryz.func99, Tryz.ntmps99
  go_wp2_with (first | (go_at_call 24; refine (atomic_ok hC _ _ h).mono ?_; rintro e w' ⟨rfl, rfl⟩) | (go_at_call 25; refine (traced_any hC hF hn _ _ _).mono ?_; rintro e w1 ⟨rfl, hC1, hO1⟩; have hx := hC1.atomCell (i := at_) h0 h1; have hf := hC1.atomFrozen at_.toNat))
  go_ret2
  exact ⟨rfl, (hC1.stored at_ x).1, hO1.trans (hC1.stored at_ x).2⟩

set_option maxHeartbeats 400000 in
theorem swap_fail {w : World} {c : CRef} {S : Mem} {A : Nat → Prop} (hC : Cells w c S A) (hF : Fresh A w) (hn : S.trace.length < trMax) (task at_ was x : Int) (h : okAt S.atomics.length task at_ = true) (hw : (S.at_ at_ != was) = true) :
    Calls Tryz.prog 99 #[.pointer (some ⟨c.p, 0, none⟩), .int .i64 task, .int .i64 at_, .int .u64 was, .int .u64 x] w fun e w' => e = .returned (.tuple #[.bool false, .int .i64 0]) ∧ Cells w' c (S.note ⟨task, 4, at_⟩) A ∧ Only A w w' := by
  obtain ⟨h0, h1⟩ := okAt_at h
  have hx0 := hC.atomCell (i := at_) h0 h1
  go_enter Tryz.func99, Tryz.ntmps99
  go_wp2_with (first | (go_at_call 24; refine (atomic_ok hC _ _ h).mono ?_; rintro e w' ⟨rfl, rfl⟩) | (go_at_call 25; refine (traced_any hC hF hn _ _ _).mono ?_; rintro e w1 ⟨rfl, hC1, hO1⟩))
  go_ret2
  exact ⟨rfl, hC1, hO1⟩

set_option maxHeartbeats 400000 in
theorem swap_no {w : World} {c : CRef} {S : Mem} {A : Nat → Prop} (hC : Cells w c S A) (task at_ was x : Int) (h : okAt S.atomics.length task at_ = false) :
    Calls Tryz.prog 99 #[.pointer (some ⟨c.p, 0, none⟩), .int .i64 task, .int .i64 at_, .int .u64 was, .int .u64 x] w fun e w' => e = .returned (.tuple #[.bool false, .int .i64 2]) ∧ w = w' := by
  go_enter Tryz.func99, Tryz.ntmps99
  go_wp2_with (first | (go_at_call 24; refine (atomic_no hC _ _ h).mono ?_; rintro e w' ⟨rfl, rfl⟩))
  go_ret2
  exact ⟨rfl, rfl⟩

set_option maxHeartbeats 400000 in
theorem add_ok {w : World} {c : CRef} {S : Mem} {A : Nat → Prop} (hC : Cells w c S A) (hF : Fresh A w) (hn : S.trace.length < trMax) (task at_ x : Int) (h : okAt S.atomics.length task at_ = true) :
    Calls Tryz.prog 69 #[.pointer (some ⟨c.p, 0, none⟩), .int .i64 task, .int .i64 at_, .int .u64 x] w fun e w' => e = .returned (.tuple #[.int .u64 (IntKind.u64.wrap (S.at_ at_ + x)), .int .i64 0]) ∧ Cells w' c ((S.note ⟨task, 5, at_⟩).put at_ (IntKind.u64.wrap (S.at_ at_ + x))) A ∧ Only A w w' := by
  obtain ⟨h0, h1⟩ := okAt_at h
  go_enter Tryz.func69, Tryz.ntmps69
  go_wp2_with (first | (go_at_call 24; refine (atomic_ok hC _ _ h).mono ?_; rintro e w' ⟨rfl, rfl⟩) | (go_at_call 25; refine (traced_any hC hF hn _ _ _).mono ?_; rintro e w1 ⟨rfl, hC1, hO1⟩; have hx := hC1.atomCell (i := at_) h0 h1; have hf := hC1.atomFrozen at_.toNat))
  go_ret2
  exact ⟨rfl, (hC1.stored at_ _).1, hO1.trans (hC1.stored at_ _).2⟩

set_option maxHeartbeats 400000 in
theorem add_no {w : World} {c : CRef} {S : Mem} {A : Nat → Prop} (hC : Cells w c S A) (task at_ x : Int) (h : okAt S.atomics.length task at_ = false) :
    Calls Tryz.prog 69 #[.pointer (some ⟨c.p, 0, none⟩), .int .i64 task, .int .i64 at_, .int .u64 x] w fun e w' => e = .returned (.tuple #[.int .u64 0, .int .i64 2]) ∧ w = w' := by
  go_enter Tryz.func69, Tryz.ntmps69
  go_wp2_with (first | (go_at_call 24; refine (atomic_no hC _ _ h).mono ?_; rintro e w' ⟨rfl, rfl⟩))
  go_ret2
  exact ⟨rfl, rfl⟩

/-! The same, the state behind told by an equation. -/
theorem load_to {w : World} {c : CRef} {S : Mem} {A : Nat → Prop} (hC : Cells w c S A) (hF : Fresh A w) (hn : S.trace.length < trMax) (task at_ : Int) (h : okAt S.atomics.length task at_ = true) (x : Int) (S' : Mem) (hx : S.at_ at_ = x) (hS : S.note ⟨task, 1, at_⟩ = S') :
    Calls Tryz.prog 12 #[.pointer (some ⟨c.p, 0, none⟩), .int .i64 task, .int .i64 at_] w fun e w' => e = .returned (.tuple #[.int .u64 x, .int .i64 0]) ∧ Cells w' c S' A ∧ Only A w w' := by
  subst hx; subst hS; exact load_ok hC hF hn task at_ h

theorem store_to {w : World} {c : CRef} {S : Mem} {A : Nat → Prop} (hC : Cells w c S A) (hF : Fresh A w) (hn : S.trace.length < trMax) (task at_ x : Int) (h : okAt S.atomics.length task at_ = true) (S' : Mem) (hS : (S.note ⟨task, 2, at_⟩).put at_ x = S') :
    Calls Tryz.prog 42 #[.pointer (some ⟨c.p, 0, none⟩), .int .i64 task, .int .i64 at_, .int .u64 x] w fun e w' => e = .returned (.int .i64 0) ∧ Cells w' c S' A ∧ Only A w w' := by
  subst hS; exact store_ok hC hF hn task at_ x h

theorem swap_to {w : World} {c : CRef} {S : Mem} {A : Nat → Prop} (hC : Cells w c S A) (hF : Fresh A w) (hn : S.trace.length < trMax) (task at_ was x : Int) (h : okAt S.atomics.length task at_ = true) (r : Bool) (S' : Mem) (hr : (S.at_ at_ == was) = r) (hS : (if r then (S.note ⟨task, 3, at_⟩).put at_ x else S.note ⟨task, 4, at_⟩) = S') :
    Calls Tryz.prog 99 #[.pointer (some ⟨c.p, 0, none⟩), .int .i64 task, .int .i64 at_, .int .u64 was, .int .u64 x] w fun e w' => e = .returned (.tuple #[.bool r, .int .i64 0]) ∧ Cells w' c S' A ∧ Only A w w' := by
  subst hS
  cases r with
  | true => exact swap_done hC hF hn task at_ was x h (by simp only [bne, hr]; rfl)
  | false => exact swap_fail hC hF hn task at_ was x h (by simp only [bne, hr]; rfl)

theorem add_to {w : World} {c : CRef} {S : Mem} {A : Nat → Prop} (hC : Cells w c S A) (hF : Fresh A w) (hn : S.trace.length < trMax) (task at_ x : Int) (h : okAt S.atomics.length task at_ = true) (y : Int) (S' : Mem) (hy : IntKind.u64.wrap (S.at_ at_ + x) = y) (hS : (S.note ⟨task, 5, at_⟩).put at_ y = S') :
    Calls Tryz.prog 69 #[.pointer (some ⟨c.p, 0, none⟩), .int .i64 task, .int .i64 at_, .int .u64 x] w fun e w' => e = .returned (.tuple #[.int .u64 y, .int .i64 0]) ∧ Cells w' c S' A ∧ Only A w w' := by
  subst hS; subst hy; exact add_ok hC hF hn task at_ x h

end Go.Proofs.YteiaifhnikknbaaGreatDoor


namespace Go.Proofs.YteiaifhnikknbaaGreatDoor
open Go.RowKit

theorem infoU8 : (Tryz.prog.info? 5).map (fun i => (i.zero, i.size, i.bytes)) = some (some (.int .u8 0), 1, 1) := by kernel_rfl

set_option maxRecDepth 100000 in
set_option maxHeartbeats 400000 in
theorem cloneB_nil (w : World) (c : Nat) : Calls Tryz.prog 77 #[.slice none 0 c] w fun e w' => e = .returned (.slice none 0 0) ∧ w = w' := by
  have heq := fun (W : World) (a : Option Addr) (n c : Nat) => Lib.run_eql_slice_nil (P := Tryz.prog) W 161 5 a n c 0 0 Tryz.underlying161
  go_enter Tryz.func77, Tryz.ntmps77
  go_wp2
  go_ret
  exact ⟨rfl, rfl⟩

set_option maxRecDepth 100000 in
set_option maxHeartbeats 400000 in
theorem cloneB_some (w : World) (a : Addr) (n c : Nat) (xs : List Value) (hl : xs.length = n * 1) (hc : ∀ j u, xs[j]? = some u → w.cell? (a.add j) = some u) (h1 : ∀ u ∈ xs, u.oneCell' = true) (hn : n ≤ 4000000000) :
    Calls Tryz.prog 77 #[.slice (some a) n c] w fun e w' => ∃ v, e = .returned v ∧ w'.ownsRow w.heap.size 5 1 v n xs ∧ Below w.heap.size w w' := by
  obtain ⟨i0, hi, hz0, hz1, hz2⟩ := info_parts infoU8
  have own0 : (w.alloc (.cells #[] 5)).ownsRow w.heap.size 5 1 (.slice (some ⟨w.heap.size, 0, none⟩) 0 0) 0 [] :=
    World.ownsRow_made w #[] 0 (Nat.le_refl _) (by unfold maxLen; omega) (by simp)
  have hc' : ∀ j u, xs[j]? = some u → (w.alloc (.cells #[] 5)).cell? (a.add j) = some u := fun j u hu => cell_alloc_keep _ _ _ (hc j u hu)
  have HC := Lib.hid hc'
  have HL := Lib.hid hl
  clear hc hc' hl
  have heq := fun (W : World) (a : Option Addr) (n c : Nat) => Lib.run_eql_slice_nil (P := Tryz.prog) W 161 5 a n c 0 0 Tryz.underlying161
  go_enter Tryz.func77, Tryz.ntmps77
  go_wp2_with (at_builtin; refine wpList_append_own_at _ rfl _ _ 161 rfl w.heap.size 5 i0 (.int .u8 0) 1 1 Tryz.underlying161 hi hz0 hz1 hz2 rfl (by decide) (.slice (some ⟨w.heap.size, 0, none⟩) 0 0) 0 [] rfl own0 a n c xs rfl HL.out HC.out h1 (by unfold maxLen; omega) (by omega) (by simp) ?_)
  intro v' w1 hown hgrow _ _
  have hB : Below w.heap.size w w1 := ((Below.refl _ w).alloc (Nat.le_refl _) _).grown hgrow (by simp) (fun k h => by simp [Value.ownBlock] at h; omega)
  have HO := Lib.hid hown
  clear hown hgrow own0
  go_wp2
  go_ret
  exact ⟨_, rfl, by simpa using HO.out, hB⟩



end Go.Proofs.YteiaifhnikknbaaGreatDoor


namespace Go.Proofs.YteiaifhnikknbaaGreatDoor
open Go.RowKit

theorem Cells.plainCell {w : World} {c : CRef} {S : Mem} {A : Nat → Prop} (h : Cells w c S A) {i : Int} (h0 : 0 ≤ i) (h1 : i < S.plains.length) :
    ∃ v, w.cell? ⟨c.pb, i.toNat, none⟩ = some v ∧ Row w 5 1 v (S.place i).length (u8s (S.place i)) A := let ⟨_, _, k⟩ := h; k.plainCell h0 h1
theorem Cells.plainFrozen {w : World} {c : CRef} {S : Mem} {A : Nat → Prop} (h : Cells w c S A) (i : Nat) : w.frozen? ⟨c.pb, i, none⟩ = false := let ⟨_, _, k⟩ := h; k.plain.frozen i
theorem Cells.laid {w : World} {c : CRef} {S : Mem} {A : Nat → Prop} (h : Cells w c S A) (i : Int) {v : Value} {b : List UInt8} (hv : Row w 5 1 v b.length (u8s b) A) :
    Cells (w.setCell ⟨c.pb, i.toNat, none⟩ v) c (S.lay i b) A ∧ Only A w (w.setCell ⟨c.pb, i.toNat, none⟩ v) := let ⟨_, _, k⟩ := h; ⟨⟨_, _, (k.laid i hv).1⟩, (k.laid i hv).2⟩
/-- A Cells of an elder world: none of its blocks is newer. -/
theorem Cells.older {w w' : World} {c : CRef} {S : Mem} {A : Nat → Prop} (h : Cells w c S A) (hb : Below w.heap.size w w') : Cells w' c S (fun k => A k ∧ k < w.heap.size) := by
  have h1 : Cells w c S (fun k => A k ∧ k < w.heap.size) := h.mono fun k hk hA => ⟨hA, hk⟩
  exact h1.keep ⟨fun k hk _ => hb.block k hk.2⟩

/-- slices.Clone of whatever can be read. -/
theorem cloneB_any (w : World) (v : Value) (n : Nat) (b : List UInt8) (hR : Reads w 1 v n (u8s b)) (hn : n ≤ 4000000000) :
    Calls Tryz.prog 77 #[v] w fun e w' => ∃ v', e = .returned v' ∧ Row w' 5 1 v' n (u8s b) (fun k => w.heap.size ≤ k) ∧ Below w.heap.size w w' := by
  rcases hR.form with ⟨rfl, ao, c, rfl⟩ | ⟨bl, off, c, rfl, hc, hr⟩
  · have hb : u8s b = [] := List.eq_nil_of_length_eq_zero (by simpa using hR.len)
    rcases ao with _ | a
    · refine (cloneB_nil w c).mono ?_
      rintro e w' ⟨rfl, rfl⟩
      exact ⟨_, rfl, by rw [hb]; exact Row.nil _ _ _ _, Below.refl _ _⟩
    · refine (cloneB_some w a 0 c (u8s b) hR.len (by rw [hb]; simp) (u8s_one b) hn).mono ?_
      rintro e w' ⟨v', rfl, ho, hb⟩
      exact ⟨v', rfl, ⟨⟨ho.1, ho.2.imp id fun ⟨g, cap, cur, h1, _, h2⟩ => ⟨g, cap, cur, h1, Nat.zero_le _, h2⟩⟩, fun k hk => (ho.lt k hk).1⟩, hb⟩
  · refine (cloneB_some w _ n c (u8s b) hR.len (fun j u hu => by rw [addr_plain]; exact hr j u hu) (u8s_one b) hn).mono ?_
    rintro e w' ⟨v', rfl, ho, hb⟩
    exact ⟨v', rfl, ⟨⟨ho.1, ho.2.imp id fun ⟨g, cap, cur, h1, _, h2⟩ => ⟨g, cap, cur, h1, Nat.zero_le _, h2⟩⟩, fun k hk => (ho.lt k hk).1⟩, hb⟩


/-- Places are not too long. -/
structure Mem.Short (S : Mem) : Prop where
  all : ∀ b ∈ S.plains, b.length ≤ 4000000000
theorem Mem.Short.at_ {S : Mem} (h : S.Short) (i : Int) : (S.place i).length ≤ 4000000000 := by
  unfold Mem.place
  rw [List.getD_eq_getElem?_getD]
  cases hx : S.plains[i.toNat]? with
  | none => simp
  | some b => exact h.all b (List.mem_of_getElem? hx)
theorem Mem.Short.note {S : Mem} (h : S.Short) (a : Acc) : (S.note a).Short := ⟨h.all⟩
theorem Mem.Short.put {S : Mem} (h : S.Short) (i x : Int) : (S.put i x).Short := ⟨h.all⟩
theorem Mem.Short.lay {S : Mem} (h : S.Short) (i : Int) {b : List UInt8} (hb : b.length ≤ 4000000000) : (S.lay i b).Short :=
  ⟨fun b' hb' => by
    rcases List.mem_or_eq_of_mem_set hb' with hm | rfl
    · exact h.all _ hm
    · exact hb⟩

/-- What Read leaves. -/
structure ReadPost (w : World) (c : CRef) (S : Mem) (A : Nat → Prop) (task at_ : Int) (v : Value) (w' : World) : Prop where
  row : Row w' 5 1 v (S.place at_).length (u8s (S.place at_)) (fun k => w.heap.size ≤ k)
  cells : Cells w' c (S.note ⟨task, 6, at_⟩) (fun k => A k ∧ v.ownBlock ≠ some k)
  only : Only A w w'

set_option maxHeartbeats 400000 in
theorem read_ok {w : World} {c : CRef} {S : Mem} {A : Nat → Prop} (hC : Cells w c S A) (hF : Fresh A w) (hn : S.trace.length < trMax) (hs : S.Short) (task at_ : Int) (h : okAt S.plains.length task at_ = true) :
    Calls Tryz.prog 92 #[.pointer (some ⟨c.p, 0, none⟩), .int .i64 task, .int .i64 at_] w fun e w' => ∃ v, e = .returned (.tuple #[v, .int .i64 0]) ∧ ReadPost w c S A task at_ v w' := by
  obtain ⟨h0, h1⟩ := okAt_at h
  have hsh := Lib.hid (hs.at_ at_)
  clear hs
  go_enter Tryz.func92, Tryz.ntmps92
  go_wp2_with (first | (go_at_call 76; refine (plain_ok hC _ _ h).mono ?_; rintro e w' ⟨rfl, rfl⟩) | (go_at_call 25; refine (traced_any hC hF hn _ _ _).mono ?_; rintro e w1 ⟨rfl, hC1, hO1⟩; obtain ⟨v, hx, hr⟩ := hC1.plainCell (i := at_) h0 h1) | (go_at_call 77; refine (cloneB_any _ _ _ _ hr.reads hsh.out).mono ?_; rintro e w2 ⟨v', rfl, hr2, hb2⟩))
  go_ret2
  refine ⟨v', rfl, ?_, ?_, hO1.trans (Only.of_below hb2)⟩
  · exact hr2.mono fun k _ hk => Nat.le_trans hO1.size hk
  · exact (hC1.older hb2).mono fun k _ hk => ⟨hk.1, fun e => by have := hr2.home k e; omega⟩

set_option maxHeartbeats 400000 in
theorem read_no {w : World} {c : CRef} {S : Mem} {A : Nat → Prop} (hC : Cells w c S A) (task at_ : Int) (h : okAt S.plains.length task at_ = false) :
    Calls Tryz.prog 92 #[.pointer (some ⟨c.p, 0, none⟩), .int .i64 task, .int .i64 at_] w fun e w' => e = .returned (.tuple #[.slice none 0 0, .int .i64 2]) ∧ w = w' := by
  go_enter Tryz.func92, Tryz.ntmps92
  go_wp2_with (first | (go_at_call 76; refine (plain_no hC _ _ h).mono ?_; rintro e w' ⟨rfl, rfl⟩))
  go_ret2
  exact ⟨rfl, rfl⟩

/-- The cells that a slice reads lie outside A. -/
theorem Reads.only {w w' : World} {size n : Nat} {v : Value} {xs : List Value} {A : Nat → Prop} (h : Reads w size v n xs) (hd : ∀ k, v.ownBlock = some k → ¬ A k) (ho : Only A w w') : Reads w' size v n xs := by
  refine ⟨h.len, h.form.imp id fun ⟨b, off, c, hv, hc, hr⟩ => ⟨b, off, c, hv, hc, fun j u hu => ?_⟩⟩
  exact ho.cell (hd _ (by rw [hv]; rfl)) (hr j u hu)

set_option maxHeartbeats 400000 in
theorem write_ok {w : World} {c : CRef} {S : Mem} {A : Nat → Prop} (hC : Cells w c S A) (hF : Fresh A w) (hn : S.trace.length < trMax) (task at_ : Int) (h : okAt S.plains.length task at_ = true)
    (vb : Value) (b : List UInt8) (hR : Reads w 1 vb b.length (u8s b)) (hd : ∀ k, vb.ownBlock = some k → ¬ A k) (hbn : b.length ≤ 4000000000) :
    Calls Tryz.prog 72 #[.pointer (some ⟨c.p, 0, none⟩), .int .i64 task, .int .i64 at_, vb] w fun e w' => e = .returned (.int .i64 0) ∧ Cells w' c ((S.note ⟨task, 7, at_⟩).lay at_ b) A ∧ Only A w w' := by
  obtain ⟨h0, h1⟩ := okAt_at h
  have HD := Lib.hid hd
  clear hd
  go_enter Tryz.func72, Tryz.ntmps72
  go_wp2_with (first | (go_at_call 76; refine (plain_ok hC _ _ h).mono ?_; rintro e w' ⟨rfl, rfl⟩) | (go_at_call 25; refine (traced_any hC hF hn _ _ _).mono ?_; rintro e w1 ⟨rfl, hC1, hO1⟩) | (go_at_call 77; refine (cloneB_any _ _ _ _ (hR.only HD.out hO1) hbn).mono ?_; rintro e w2 ⟨v', rfl, hr2, hb2⟩; obtain ⟨ao, cap, rfl⟩ := hr2.slice; have hC2 := (hC1.older hb2).mono (B := A) (fun _ _ hk => hk.1); obtain ⟨v0, hx, _⟩ := hC2.plainCell (i := at_) h0 h1; have hf := hC2.plainFrozen at_.toNat))
  go_ret
  exact ⟨rfl, (hC2.laid at_ (hr2.mono fun k _ hk => hF.new k (Nat.le_trans hO1.size hk))).1, (hO1.trans (Only.of_below hb2)).trans (hC2.laid at_ (hr2.mono fun k _ hk => hF.new k (Nat.le_trans hO1.size hk))).2⟩

theorem write_to {w : World} {c : CRef} {S : Mem} {A : Nat → Prop} (hC : Cells w c S A) (hF : Fresh A w) (hn : S.trace.length < trMax) (task at_ : Int) (h : okAt S.plains.length task at_ = true)
    (vb : Value) (b : List UInt8) (n : Nat) (hn' : b.length = n) (hR : Reads w 1 vb n (u8s b)) (hd : ∀ k, vb.ownBlock = some k → ¬ A k) (hbn : n ≤ 4000000000) (S' : Mem) (hS : (S.note ⟨task, 7, at_⟩).lay at_ b = S') :
    Calls Tryz.prog 72 #[.pointer (some ⟨c.p, 0, none⟩), .int .i64 task, .int .i64 at_, vb] w fun e w' => e = .returned (.int .i64 0) ∧ Cells w' c S' A ∧ Only A w w' := by
  subst hS; subst hn'; exact write_ok hC hF hn task at_ h vb b hR hd hbn

set_option maxHeartbeats 400000 in
theorem write_no {w : World} {c : CRef} {S : Mem} {A : Nat → Prop} (hC : Cells w c S A) (task at_ : Int) (h : okAt S.plains.length task at_ = false) (vb : Value) :
    Calls Tryz.prog 72 #[.pointer (some ⟨c.p, 0, none⟩), .int .i64 task, .int .i64 at_, vb] w fun e w' => e = .returned (.int .i64 2) ∧ w = w' := by
  go_enter Tryz.func72, Tryz.ntmps72
  go_wp2_with (first | (go_at_call 76; refine (plain_no hC _ _ h).mono ?_; rintro e w' ⟨rfl, rfl⟩))
  go_ret
  exact ⟨rfl, rfl⟩

set_option maxHeartbeats 400000 in
theorem many_ok {w : World} {c : CRef} {S : Mem} {A : Nat → Prop} (hC : Cells w c S A) :
    Calls Tryz.prog 26 #[.pointer (some ⟨c.p, 0, none⟩)] w fun e w' => e = .returned (.tuple #[.int .i64 S.atomics.length, .int .i64 S.plains.length]) ∧ Quiet w w' := by
  obtain ⟨tv, pls, hC⟩ := hC
  have h0 := hC.c0
  have h1 := hC.c1
  have h2 := hC.c2
  rw [← hC.rows]
  go_enter Tryz.func26, Tryz.ntmps26
  go_wp2_with (first | (go_at_call 48; refine (is_yes _ _ h0).mono ?_; rintro e w' ⟨rfl, rfl⟩))
  go_quiet (fail)
  go_wp2
  go_ret2
  exact ⟨rfl, ⟨_, rfl⟩⟩

/-- What Trace leaves. -/
structure TracePost (w : World) (c : CRef) (S : Mem) (A : Nat → Prop) (v : Value) (w' : World) : Prop where
  row : Row w' 131 3 v S.trace.length (accs S.trace) (fun k => w.heap.size ≤ k)
  cells : Cells w' c S (fun k => A k ∧ k < w.heap.size)
  below : Below w.heap.size w w'


/-- A block that can be read as a slice of bytes. -/
theorem reads_block {w : World} {g n : Nat} {t : Nat} {fr : Nat × Nat} {cs : Array Value} (h : w.heap[g]? = some (.cells cs t fr)) (hn : cs.size = n) (c : Nat) (hc : n ≤ c) : Reads w 1 (.slice (some ⟨g, 0, none⟩) n c) n cs.toList :=
  ⟨by simp [hn], .inr ⟨g, 0, c, rfl, hc, fun j u hu => by simp [World.cell?, h]; simpa using hu⟩⟩

end Go.Proofs.YteiaifhnikknbaaGreatDoor


namespace Go.Proofs.YteiaifhnikknbaaGreatDoor
open Go.RowKit

theorem infoU64 : (Tryz.prog.info? 23).map (fun i => (i.zero, i.size, i.bytes)) = some (some (.int .u64 0), 1, 8) := by kernel_rfl
theorem infoBs : (Tryz.prog.info? 161).map (fun i => (i.zero, i.size, i.bytes)) = some (some (.slice none 0 0), 1, 24) := by kernel_rfl

def Mem.new (n m : Nat) : Mem := ⟨List.replicate n 0, List.replicate m [], []⟩

theorem made_one (z : Value) (hz : z.cells = #[z]) (n : Nat) : madeCells z.cells n = (List.replicate n z).toArray := by
  rw [hz]
  apply Array.ext
  · simp [size_madeCells]
  · intro i h1 h2
    simp [madeCells, Nat.mod_one]

/-- make([]T, n), n a number of its own. -/
theorem run_make {P : Program} (t e : TypeId) (z : Value) (bytes : Nat) (ht : P.underlying t = some (.slice e)) (hinfo : (P.info? e).map (fun i => (i.zero, i.size, i.bytes)) = some (some z, 1, bytes)) (hz : z.cells = #[z]) (hb0 : 0 < bytes)
    (m : Nat) (hn : m * bytes ≤ 281474976710656) (W : World) :
    (Instr.makeSlice t (.int .i64 (m : Int)) (.int .i64 (m : Int))).run P W = .ok (.slice (some ⟨W.heap.size, 0, none⟩) m m) (W.alloc (.cells (List.replicate m z).toArray e)) := by
  have hm : m ≤ 281474976710656 := Nat.le_trans (Nat.le_mul_of_pos_right _ hb0) hn
  have := run_make_row' t e z bytes ht hinfo hz .i64 .i64 m (by rw [Nat.mul_comm]; exact hn) (by omega) W
  rw [← hz, made_one z hz] at this
  exact this

theorem Blk.drew {w : World} {b t : Nat} {cs : List Value} (h : Blk w b t cs) : Blk w.drew b t cs := h
theorem alloc3 (w : World) (t1 t2 t3 : Nat) (c1 c2 c3 : Array Value) :
    Blk (((w.alloc (.cells c1 t1)).alloc (.cells c2 t2)).alloc (.cells c3 t3)).drew w.heap.size t1 c1.toList ∧
    Blk (((w.alloc (.cells c1 t1)).alloc (.cells c2 t2)).alloc (.cells c3 t3)).drew (w.heap.size + 1) t2 c2.toList ∧
    Blk (((w.alloc (.cells c1 t1)).alloc (.cells c2 t2)).alloc (.cells c3 t3)).drew (w.heap.size + 1 + 1) t3 c3.toList ∧
    Below w.heap.size w (((w.alloc (.cells c1 t1)).alloc (.cells c2 t2)).alloc (.cells c3 t3)).drew := by
  have b1 := Blk.new w t1 c1.toList
  have b2 := Blk.new (w.alloc (.cells c1 t1)) t2 c2.toList
  have b3 := Blk.new ((w.alloc (.cells c1 t1)).alloc (.cells c2 t2)) t3 c3.toList
  simp only [Array.toArray_toList, World.size_alloc] at b1 b2 b3
  exact ⟨((b1.alloc _).alloc _).drew, (b2.alloc _).drew, b3.drew, ((((Below.refl _ w).alloc (Nat.le_refl _) _).alloc (by simp) _).alloc (by simp; omega) _).drew⟩

theorem new_at (w W : World) (n m p ab pb : Nat) (hn : n ≤ 100000) (hm : m ≤ 100000) (hp : w.heap.size ≤ p) (ha : w.heap.size ≤ ab) (hb : w.heap.size ≤ pb)
    (h1 : Blk W ab 23 (Array.replicate n (.int .u64 0)).toList) (h2 : Blk W pb 161 (Array.replicate m (.slice none 0 0)).toList)
    (h3 : Blk W p 129 [.bool true, .slice (some ⟨ab, 0, none⟩) n n, .slice (some ⟨pb, 0, none⟩) m m, .slice none 0 0]) :
    Cells W ⟨p, ab, pb⟩ (Mem.new n m) (fun k => w.heap.size ≤ k) := by
  refine ⟨.slice none 0 0, List.replicate m (.slice none 0 0), ?_, ?_, ?_, Row.nil _ _ _ _, by simp [Mem.new], ?_, hp, ha, hb, by simp [Mem.new]; omega⟩
  · simpa [Mem.new] using h3
  · simpa [Mem.new, u64s] using h1
  · simpa [Mem.new] using h2
  · intro i v b hv hb'
    simp only [Mem.new, List.getElem?_replicate] at hv hb'
    split at hv
    · rename_i hi
      rw [if_pos hi] at hb'
      cases hv; cases hb'
      exact Row.nil _ _ _ _
    · cases hv

set_option maxHeartbeats 400000 in
theorem new_ok (w : World) (n m : Nat) (hn : n ≤ 100000) (hm : m ≤ 100000) :
    Calls Tryz.prog 38 #[.int .i64 n, .int .i64 m] w fun e w' => ∃ c : CRef, e = .returned (.tuple #[.pointer (some ⟨c.p, 0, none⟩), .int .i64 0]) ∧ Cells w' c (Mem.new n m) (fun k => w.heap.size ≤ k) ∧ Below w.heap.size w w' := by
  have hmk1 := fun W => run_make (P := Tryz.prog) 125 23 (.int .u64 0) 8 Tryz.underlying125 infoU64 rfl (by decide) n (by omega) W
  have hmk2 := fun W => run_make (P := Tryz.prog) 126 161 (.slice none 0 0) 24 Tryz.underlying126 infoBs rfl (by decide) m (by omega) W
  go_enter Tryz.func38, Tryz.ntmps38
  go_wp2
  all_goals go_region
  all_goals go_wp2
  all_goals go_ret2
  all_goals
    obtain ⟨b1, b2, b3, hB⟩ := alloc3 w _ _ _ _ _ _
    first
      | exact ⟨⟨w.heap.size + 1 + 1, w.heap.size, w.heap.size + 1⟩, rfl, new_at w _ n m _ _ _ hn hm (by omega) (by omega) (by omega) b1 b2 b3, hB⟩
      | exact ⟨⟨w.heap.size + 1 + 1, w.heap.size + 1, w.heap.size⟩, rfl, new_at w _ n m _ _ _ hn hm (by omega) (by omega) (by omega) b2 b1 b3, hB⟩

set_option maxHeartbeats 400000 in
theorem new_no (w : World) (n m : Int) (h : decide (0 ≤ n ∧ 0 ≤ m ∧ n ≤ 100000 ∧ m ≤ 100000) = false) :
    Calls Tryz.prog 38 #[.int .i64 n, .int .i64 m] w fun e w' => e = .returned (.tuple #[.pointer none, .int .i64 2]) ∧ w = w' := by
  have h1 := of_decide_eq_false h
  clear h
  go_enter Tryz.func38, Tryz.ntmps38
  go_wp2
  all_goals go_ret2
  all_goals exact ⟨rfl, rfl⟩

/-- May an access be noted? -/
def okNote (S : Mem) (a : Acc) : Bool :=
  decide (0 ≤ a.task ∧ a.task < 64 ∧ 0 ≤ a.at_ ∧ 1 ≤ a.what ∧ a.what ≤ 9 ∧ (a.what ≤ 5 → a.at_ < S.atomics.length) ∧ (6 ≤ a.what → a.what ≤ 7 → a.at_ < S.plains.length) ∧ (8 ≤ a.what → a.at_ < 1))

end Go.Proofs.YteiaifhnikknbaaGreatDoor
