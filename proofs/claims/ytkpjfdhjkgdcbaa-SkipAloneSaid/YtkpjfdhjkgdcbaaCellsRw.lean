/- The walks over Read, Write, Many, Trace. -/
import Derived.Test.YtkpjfdhjkgdcbaaClone

namespace Go.Proofs.Ytkpjfdhjkgdcbaa
open Go.RowKit

theorem Cells.plainCell {w : World} {c : CRef} {S : Mem} {A : Nat → Prop} (h : Cells w c S A) {i : Int} (h0 : 0 ≤ i) (h1 : i < S.plains.length) :
    ∃ v, w.cell? ⟨c.pb, i.toNat, none⟩ = some v ∧ Row w 5 1 v (S.place i).length (u8s (S.place i)) A := let ⟨_, _, k⟩ := h; k.plainCell h0 h1
theorem Cells.plainFrozen {w : World} {c : CRef} {S : Mem} {A : Nat → Prop} (h : Cells w c S A) (i : Nat) : w.frozen? ⟨c.pb, i, none⟩ = false := let ⟨_, _, k⟩ := h; k.plain.frozen i
theorem Cells.laid {w : World} {c : CRef} {S : Mem} {A : Nat → Prop} (h : Cells w c S A) (i : Int) {v : Value} {b : List UInt8} (hv : Row w 5 1 v b.length (u8s b) A) :
    Cells (w.setCell ⟨c.pb, i.toNat, none⟩ v) c (S.lay i b) A ∧ Only A w (w.setCell ⟨c.pb, i.toNat, none⟩ v) := let ⟨_, _, k⟩ := h; ⟨⟨_, _, (k.laid i hv).1⟩, (k.laid i hv).2⟩
/-- A Cells of an elder world: none of its blocks is newer. -/
theorem Cells.older {w w' : World} {c : CRef} {S : Mem} {A : Nat → Prop} (h : Cells w c S A) (hb : Below w.heap.size w w') : Cells w' c S (fun k => A k ∧ k < w.heap.size) := by
  have h1 : Cells w c S (fun k => A k ∧ k < w.heap.size) := h.mono fun k hk hA => ⟨hA, hk⟩
  exact h1.keep ⟨fun k hk _ => hb.block k hk.2⟩

/-- slices.Clone of whatever can be read. -/
theorem cloneB_any (w : World) (v : Value) (n : Nat) (b : List UInt8) (hR : Reads w 1 v n (u8s b)) (hn : n ≤ 4000000000) :
    Calls Try.prog 77 #[v] w fun e w' => ∃ v', e = .returned v' ∧ Row w' 5 1 v' n (u8s b) (fun k => w.heap.size ≤ k) ∧ Below w.heap.size w w' := by
  rcases hR.form with ⟨rfl, ao, c, rfl⟩ | ⟨bl, off, c, rfl, hc, hr⟩
  · have hb : u8s b = [] := List.eq_nil_of_length_eq_zero (by simpa using hR.len)
    rcases ao with _ | a
    · refine (cloneB_nil w c).mono ?_
      rintro e w' ⟨rfl, rfl⟩
      exact ⟨_, rfl, by rw [hb]; exact Row.nil _ _ _ _, Below.refl _ _⟩
    · refine (cloneB_some w a 0 c (u8s b) hR.len (by rw [hb]; simp) (u8s_one b) hn).mono ?_
      rintro e w' ⟨v', rfl, ho, hb⟩
      exact ⟨v', rfl, ⟨⟨ho.1, ho.2.imp id fun ⟨g, cap, cur, h1, _, h2⟩ => ⟨g, cap, cur, h1, Nat.zero_le _, h2⟩⟩, fun k hk => (ho.lt k hk).1⟩, hb⟩
  · refine (cloneB_some w _ n c (u8s b) hR.len (fun j u hu => by rw [addr_plain]; exact hr j u hu) (u8s_one b) hn).mono ?_
    rintro e w' ⟨v', rfl, ho, hb⟩
    exact ⟨v', rfl, ⟨⟨ho.1, ho.2.imp id fun ⟨g, cap, cur, h1, _, h2⟩ => ⟨g, cap, cur, h1, Nat.zero_le _, h2⟩⟩, fun k hk => (ho.lt k hk).1⟩, hb⟩

theorem cloneA_any (w : World) (v : Value) (n : Nat) (l : List Acc) (hR : Reads w 3 v n (accs l)) (hn : n ≤ 4000000000) :
    Calls Try.prog 41 #[v] w fun e w' => ∃ v', e = .returned v' ∧ Row w' 64 3 v' n (accs l) (fun k => w.heap.size ≤ k) ∧ Below w.heap.size w w' := by
  rcases hR.form with ⟨rfl, ao, c, rfl⟩ | ⟨bl, off, c, rfl, hc, hr⟩
  · have hb : accs l = [] := List.eq_nil_of_length_eq_zero (by simpa using hR.len)
    rcases ao with _ | a
    · refine (cloneA_nil w c).mono ?_
      rintro e w' ⟨rfl, rfl⟩
      exact ⟨_, rfl, by rw [hb]; exact Row.nil _ _ _ _, Below.refl _ _⟩
    · refine (cloneA_some w a 0 c (accs l) hR.len (by rw [hb]; simp) (accs_one l) hn).mono ?_
      rintro e w' ⟨v', rfl, ho, hb⟩
      exact ⟨v', rfl, ⟨⟨ho.1, ho.2.imp id fun ⟨g, cap, cur, h1, _, h2⟩ => ⟨g, cap, cur, h1, Nat.zero_le _, h2⟩⟩, fun k hk => (ho.lt k hk).1⟩, hb⟩
  · refine (cloneA_some w _ n c (accs l) hR.len (fun j u hu => by rw [addr_plain]; exact hr j u hu) (accs_one l) hn).mono ?_
    rintro e w' ⟨v', rfl, ho, hb⟩
    exact ⟨v', rfl, ⟨⟨ho.1, ho.2.imp id fun ⟨g, cap, cur, h1, _, h2⟩ => ⟨g, cap, cur, h1, Nat.zero_le _, h2⟩⟩, fun k hk => (ho.lt k hk).1⟩, hb⟩

/-- Places are not too long. -/
structure Mem.Short (S : Mem) : Prop where
  all : ∀ b ∈ S.plains, b.length ≤ 4000000000
theorem Mem.Short.at_ {S : Mem} (h : S.Short) (i : Int) : (S.place i).length ≤ 4000000000 := by
  unfold Mem.place
  rw [List.getD_eq_getElem?_getD]
  cases hx : S.plains[i.toNat]? with
  | none => simp
  | some b => exact h.all b (List.mem_of_getElem? hx)
theorem Mem.Short.note {S : Mem} (h : S.Short) (a : Acc) : (S.note a).Short := ⟨h.all⟩
theorem Mem.Short.put {S : Mem} (h : S.Short) (i x : Int) : (S.put i x).Short := ⟨h.all⟩
theorem Mem.Short.lay {S : Mem} (h : S.Short) (i : Int) {b : List UInt8} (hb : b.length ≤ 4000000000) : (S.lay i b).Short :=
  ⟨fun b' hb' => by
    rcases List.mem_or_eq_of_mem_set hb' with hm | rfl
    · exact h.all _ hm
    · exact hb⟩

/-- What Read leaves. -/
structure ReadPost (w : World) (c : CRef) (S : Mem) (A : Nat → Prop) (task at_ : Int) (v : Value) (w' : World) : Prop where
  row : Row w' 5 1 v (S.place at_).length (u8s (S.place at_)) (fun k => w.heap.size ≤ k)
  cells : Cells w' c (S.note ⟨task, 6, at_⟩) (fun k => A k ∧ v.ownBlock ≠ some k)
  only : Only A w w'

set_option maxHeartbeats 400000 in
theorem read_ok {w : World} {c : CRef} {S : Mem} {A : Nat → Prop} (hC : Cells w c S A) (hF : Fresh A w) (hn : S.trace.length < trMax) (hs : S.Short) (task at_ : Int) (h : okAt S.plains.length task at_ = true) :
    Calls Try.prog 61 #[.pointer (some ⟨c.p, 0, none⟩), .int .i64 task, .int .i64 at_] w fun e w' => ∃ v, e = .returned (.tuple #[v, .int .i64 0]) ∧ ReadPost w c S A task at_ v w' := by
  obtain ⟨h0, h1⟩ := okAt_at h
  have hsh := Lib.hid (hs.at_ at_)
  clear hs
  go_enter Try.func61, Try.ntmps61
  go_wp2_with (first | (go_at_call 76; refine (plain_ok hC _ _ h).mono ?_; rintro e w' ⟨rfl, rfl⟩) | (go_at_call 70; refine (traced_any hC hF hn _ _ _).mono ?_; rintro e w1 ⟨rfl, hC1, hO1⟩; obtain ⟨v, hx, hr⟩ := hC1.plainCell (i := at_) h0 h1) | (go_at_call 77; refine (cloneB_any _ _ _ _ hr.reads hsh.out).mono ?_; rintro e w2 ⟨v', rfl, hr2, hb2⟩))
  go_ret2
  refine ⟨v', rfl, ?_, ?_, hO1.trans (Only.of_below hb2)⟩
  · exact hr2.mono fun k _ hk => Nat.le_trans hO1.size hk
  · exact (hC1.older hb2).mono fun k _ hk => ⟨hk.1, fun e => by have := hr2.home k e; omega⟩

set_option maxHeartbeats 400000 in
theorem read_no {w : World} {c : CRef} {S : Mem} {A : Nat → Prop} (hC : Cells w c S A) (task at_ : Int) (h : okAt S.plains.length task at_ = false) :
    Calls Try.prog 61 #[.pointer (some ⟨c.p, 0, none⟩), .int .i64 task, .int .i64 at_] w fun e w' => e = .returned (.tuple #[.slice none 0 0, .int .i64 2]) ∧ w = w' := by
  go_enter Try.func61, Try.ntmps61
  go_wp2_with (first | (go_at_call 76; refine (plain_no hC _ _ h).mono ?_; rintro e w' ⟨rfl, rfl⟩))
  go_ret2
  exact ⟨rfl, rfl⟩

/-- The cells that a slice reads lie outside A. -/
theorem Reads.only {w w' : World} {size n : Nat} {v : Value} {xs : List Value} {A : Nat → Prop} (h : Reads w size v n xs) (hd : ∀ k, v.ownBlock = some k → ¬ A k) (ho : Only A w w') : Reads w' size v n xs := by
  refine ⟨h.len, h.form.imp id fun ⟨b, off, c, hv, hc, hr⟩ => ⟨b, off, c, hv, hc, fun j u hu => ?_⟩⟩
  exact ho.cell (hd _ (by rw [hv]; rfl)) (hr j u hu)

set_option maxHeartbeats 400000 in
theorem write_ok {w : World} {c : CRef} {S : Mem} {A : Nat → Prop} (hC : Cells w c S A) (hF : Fresh A w) (hn : S.trace.length < trMax) (task at_ : Int) (h : okAt S.plains.length task at_ = true)
    (vb : Value) (b : List UInt8) (hR : Reads w 1 vb b.length (u8s b)) (hd : ∀ k, vb.ownBlock = some k → ¬ A k) (hbn : b.length ≤ 4000000000) :
    Calls Try.prog 88 #[.pointer (some ⟨c.p, 0, none⟩), .int .i64 task, .int .i64 at_, vb] w fun e w' => e = .returned (.int .i64 0) ∧ Cells w' c ((S.note ⟨task, 7, at_⟩).lay at_ b) A ∧ Only A w w' := by
  obtain ⟨h0, h1⟩ := okAt_at h
  have HD := Lib.hid hd
  clear hd
  go_enter Try.func88, Try.ntmps88
  go_wp2_with (first | (go_at_call 76; refine (plain_ok hC _ _ h).mono ?_; rintro e w' ⟨rfl, rfl⟩) | (go_at_call 70; refine (traced_any hC hF hn _ _ _).mono ?_; rintro e w1 ⟨rfl, hC1, hO1⟩) | (go_at_call 77; refine (cloneB_any _ _ _ _ (hR.only HD.out hO1) hbn).mono ?_; rintro e w2 ⟨v', rfl, hr2, hb2⟩; obtain ⟨ao, cap, rfl⟩ := hr2.slice; have hC2 := (hC1.older hb2).mono (B := A) (fun _ _ hk => hk.1); obtain ⟨v0, hx, _⟩ := hC2.plainCell (i := at_) h0 h1; have hf := hC2.plainFrozen at_.toNat))
  go_ret
  exact ⟨rfl, (hC2.laid at_ (hr2.mono fun k _ hk => hF.new k (Nat.le_trans hO1.size hk))).1, (hO1.trans (Only.of_below hb2)).trans (hC2.laid at_ (hr2.mono fun k _ hk => hF.new k (Nat.le_trans hO1.size hk))).2⟩

theorem write_to {w : World} {c : CRef} {S : Mem} {A : Nat → Prop} (hC : Cells w c S A) (hF : Fresh A w) (hn : S.trace.length < trMax) (task at_ : Int) (h : okAt S.plains.length task at_ = true)
    (vb : Value) (b : List UInt8) (n : Nat) (hn' : b.length = n) (hR : Reads w 1 vb n (u8s b)) (hd : ∀ k, vb.ownBlock = some k → ¬ A k) (hbn : n ≤ 4000000000) (S' : Mem) (hS : (S.note ⟨task, 7, at_⟩).lay at_ b = S') :
    Calls Try.prog 88 #[.pointer (some ⟨c.p, 0, none⟩), .int .i64 task, .int .i64 at_, vb] w fun e w' => e = .returned (.int .i64 0) ∧ Cells w' c S' A ∧ Only A w w' := by
  subst hS; subst hn'; exact write_ok hC hF hn task at_ h vb b hR hd hbn

set_option maxHeartbeats 400000 in
theorem write_no {w : World} {c : CRef} {S : Mem} {A : Nat → Prop} (hC : Cells w c S A) (task at_ : Int) (h : okAt S.plains.length task at_ = false) (vb : Value) :
    Calls Try.prog 88 #[.pointer (some ⟨c.p, 0, none⟩), .int .i64 task, .int .i64 at_, vb] w fun e w' => e = .returned (.int .i64 2) ∧ w = w' := by
  go_enter Try.func88, Try.ntmps88
  go_wp2_with (first | (go_at_call 76; refine (plain_no hC _ _ h).mono ?_; rintro e w' ⟨rfl, rfl⟩))
  go_ret
  exact ⟨rfl, rfl⟩

set_option maxHeartbeats 400000 in
theorem many_ok {w : World} {c : CRef} {S : Mem} {A : Nat → Prop} (hC : Cells w c S A) :
    Calls Try.prog 57 #[.pointer (some ⟨c.p, 0, none⟩)] w fun e w' => e = .returned (.tuple #[.int .i64 S.atomics.length, .int .i64 S.plains.length]) ∧ Quiet w w' := by
  obtain ⟨tv, pls, hC⟩ := hC
  have h0 := hC.c0
  have h1 := hC.c1
  have h2 := hC.c2
  rw [← hC.rows]
  go_enter Try.func57, Try.ntmps57
  go_wp2_with (first | (go_at_call 40; refine (is_yes _ _ h0).mono ?_; rintro e w' ⟨rfl, rfl⟩))
  go_quiet (fail)
  go_wp2
  go_ret2
  exact ⟨rfl, ⟨_, rfl⟩⟩

/-- What Trace leaves. -/
structure TracePost (w : World) (c : CRef) (S : Mem) (A : Nat → Prop) (v : Value) (w' : World) : Prop where
  row : Row w' 64 3 v S.trace.length (accs S.trace) (fun k => w.heap.size ≤ k)
  cells : Cells w' c S (fun k => A k ∧ k < w.heap.size)
  below : Below w.heap.size w w'

set_option maxHeartbeats 400000 in
theorem trace_ok {w : World} {c : CRef} {S : Mem} {A : Nat → Prop} (hC : Cells w c S A) (hn : S.trace.length < trMax) :
    Calls Try.prog 19 #[.pointer (some ⟨c.p, 0, none⟩)] w fun e w' => ∃ v, e = .returned v ∧ TracePost w c S A v w' := by
  have hC0 := hC
  obtain ⟨tv, pls, hC⟩ := hC
  have h0 := hC.c0
  have h3 := hC.c3
  have hr := hC.trace
  unfold trMax at hn
  go_enter Try.func19, Try.ntmps19
  go_wp2_with (first | (go_at_call 40; refine (is_yes _ _ h0).mono ?_; rintro e w' ⟨rfl, rfl⟩) | (go_at_call 41; refine (cloneA_any _ _ _ _ hr.reads (by omega)).mono ?_; rintro e w2 ⟨v', rfl, hr2, hb2⟩))
  go_ret
  exact ⟨v', rfl, hr2, hC0.older hb2, hb2⟩

/-- A block that can be read as a slice of bytes. -/
theorem reads_block {w : World} {g n : Nat} {t : Nat} {fr : Nat × Nat} {cs : Array Value} (h : w.heap[g]? = some (.cells cs t fr)) (hn : cs.size = n) (c : Nat) (hc : n ≤ c) : Reads w 1 (.slice (some ⟨g, 0, none⟩) n c) n cs.toList :=
  ⟨by simp [hn], .inr ⟨g, 0, c, rfl, hc, fun j u hu => by simp [World.cell?, h]; simpa using hu⟩⟩

end Go.Proofs.Ytkpjfdhjkgdcbaa
