/- A mutex and the reference's state of it, side by side. -/
import Derived.Test.YtncfbccihofaoaaRef14
namespace Go.Proofs.Ytncfbccihofaoaa
open Go.RowKit Go.Maps

structure TwoAt (A : Nat → Prop) (tv : Value) (w0 w : World) (r : LRef) (L : Lk) (S : Mem) (bs : Nat) (L0 : Lk) (tr0 : List Acc) : Prop where
  lx : Lx A w0.heap.size w r L S
  st : Blk w bs 47 (stC L0 tv)
  tr : Row w 38 3 tv tr0.length (accs tr0) (fun k => ¬ LA r A k)
  nb : ¬ LA r A bs
  gb : w0.heap.size ≤ bs
  below : Below w0.heap.size w0 w

variable {A : Nat → Prop} {tv : Value} {w0 w w' : World} {r : LRef} {L L' L0 L1 : Lk} {S S' : Mem} {bs : Nat} {tr0 tr1 : List Acc}
theorem TwoAt.only (h : TwoAt A tv w0 w r L S bs L0 tr0) (hO : Only (LA r A) w w') (hL : Lx A w0.heap.size w' r L' S') : TwoAt A tv w0 w' r L' S' bs L0 tr0 :=
  ⟨hL, h.st.keep (hO.block _ h.st.lt h.nb), h.tr.keep (fun k hk => hO.block _ (h.tr.lt hk) (h.tr.home k hk)), h.nb, h.gb, h.below.trans (h.lx.under hO)⟩
theorem TwoAt.under (h : TwoAt A tv w0 w r L S bs L0 tr0) (hb : Below w.heap.size w w') : TwoAt A tv w0 w' r L S bs L0 tr0 :=
  ⟨h.lx.below hb, h.st.keep (hb.block _ h.st.lt), h.tr.below hb, h.nb, h.gb, h.below.trans (hb.mono h.below.size)⟩
theorem LA.less {A B : Nat → Prop} {k : Nat} (h : ¬ LA r A k) (hBA : ∀ k, B k → A k) : ¬ LA r B k := fun hk => h (hk.imp (hBA k) id)
theorem TwoAt.box (h : TwoAt A tv w0 w r L S bs L0 tr0) (o : Obj) : TwoAt (fun k => A k ∧ k ≠ w.heap.size) tv w0 (w.alloc o) r L S bs L0 tr0 ∧ ¬ LA r (fun k => A k ∧ k ≠ w.heap.size) w.heap.size := by
  have hb : Below w.heap.size w (w.alloc o) := (Below.refl _ w).alloc (Nat.le_refl _) o
  have hp := h.lx.p_lt
  refine ⟨⟨h.lx.box o, h.st.alloc o, (h.tr.below hb).wider fun k hk => LA.less hk fun _ h => h.1, LA.less h.nb fun _ h => h.1, h.gb, h.below.trans (hb.mono h.below.size)⟩, ?_⟩
  intro hk
  rcases hk with hk | hk | hk
  · exact hk.2 rfl
  · omega
  · omega
/-- What was made since is nobody's. -/
theorem Lx.aside {B : Nat} (h : Lx A B w r L S) (hb : Below w.heap.size w w') : Lx (fun k => A k ∧ ¬ (w.heap.size ≤ k ∧ k < w'.heap.size)) B w' r L S := by
  obtain ⟨m, hm, hk⟩ := h.lk
  have h1 := hk.same (Same.of_below _ hb)
  refine ⟨⟨m, hm, h1.main, h1.map, ?_, fun h => h1.hp h.1, fun h => h1.hq h.1⟩, fun k hl => h.base k hl.1, ⟨fun k hl => ⟨h.fresh.new k (Nat.le_trans hb.size hl), by omega⟩⟩, h.bp, h.bq, Nat.le_trans h.bs hb.size⟩
  exact (hk.mem.mono (B := fun k => A k ∧ ¬ (w.heap.size ≤ k ∧ k < w'.heap.size)) fun k hk hA => ⟨hA, by omega⟩).keep ⟨fun k _ hl => hb.block k hl⟩
theorem TwoAt.aside (h : TwoAt A tv w0 w r L S bs L0 tr0) (hb : Below w.heap.size w w') : TwoAt (fun k => A k ∧ ¬ (w.heap.size ≤ k ∧ k < w'.heap.size)) tv w0 w' r L S bs L0 tr0 :=
  ⟨h.lx.aside hb, h.st.keep (hb.block _ h.st.lt), (h.tr.below hb).wider fun k hk => LA.less hk fun _ h => h.1, LA.less h.nb fun _ h => h.1, h.gb, h.below.trans (hb.mono h.below.size)⟩
theorem not_la_new {B : Nat} (h : Lx A B w r L S) (hb : Below w.heap.size w w') {k : Nat} (hk : ¬ LA r A k ∨ w.heap.size ≤ k) (hl : k < w'.heap.size) : ¬ LA r (fun k => A k ∧ ¬ (w.heap.size ≤ k ∧ k < w'.heap.size)) k := by
  have hp := h.p_lt
  rcases hk with hk | hk
  · exact LA.less hk fun _ h => h.1
  · rintro (h1 | h1 | h1)
    · exact h1.2 ⟨hk, hl⟩
    · omega
    · omega
theorem Lx.same {B : Nat} (h : Lx A B w r L S) (hs : Same (LA r A) w w') (hz : w.heap.size ≤ w'.heap.size) : Lx A B w' r L S := by
  obtain ⟨m, hm, hk⟩ := h.lk
  exact ⟨⟨m, hm, hk.same hs⟩, h.base, ⟨fun k hl => h.fresh.new k (Nat.le_trans hz hl)⟩, h.bp, h.bq, Nat.le_trans h.bs hz⟩
theorem TwoAt.stored (h : TwoAt A tv w0 w r L S bs L0 tr0) {tv' : Value} (hR : Row w 38 3 tv' tr1.length (accs tr1) (fun k => ¬ LA r A k)) : TwoAt A tv' w0 (w.setRow bs (stC L1 tv').toArray) r L S bs L1 tr1 :=
  ⟨h.lx.same ⟨fun k hk _ => heap_setRow_other _ _ _ (fun e => h.nb (e ▸ hk))⟩ (by rw [setRow_size]; exact Nat.le_refl _), h.st.setRow _, hR.setRow h.st (by decide) _, h.nb, h.gb, below_setRow h.below h.gb _⟩

theorem two_lock (h : TwoAt A tv w0 w r L S bs L0 tr0) (n : Int) (hw : (Lit.int .i64 n).wf = true) (hn : S.trace.length < trMax) :
    Calls Try.prog 17 #[.pointer (some ⟨r.p, 0, none⟩), .int .i64 n] w fun e w' => e = .returned (.int .i64 (lockE L n)) ∧ TwoAt A tv w0 w' r (lockL L n) (S.notes (lockN L n)) bs L0 tr0 ∧ Only (LA r A) w w' := by
  refine (lock_x h.lx n hw hn).mono ?_
  rintro e w' ⟨rfl, hL, hO⟩
  exact ⟨rfl, h.only hO hL, hO⟩
theorem two_unlock (h : TwoAt A tv w0 w r L S bs L0 tr0) (n : Int) (hn : S.trace.length < trMax) :
    Calls Try.prog 19 #[.pointer (some ⟨r.p, 0, none⟩), .int .i64 n] w fun e w' => e = .returned (.int .i64 (holdsE L n 0)) ∧ TwoAt A tv w0 w' r (unlockL L n) (S.notes (unlockN L n)) bs L0 tr0 ∧ Only (LA r A) w w' := by
  refine (unlock_x h.lx n hn).mono ?_
  rintro e w' ⟨rfl, hL, hO⟩
  exact ⟨rfl, h.only hO hL, hO⟩
theorem two_wait (h : TwoAt A tv w0 w r L S bs L0 tr0) (n cond : Int) (hw : (Lit.int .i64 cond).wf = true) (hn : S.trace.length < trMax) :
    Calls Try.prog 21 #[.pointer (some ⟨r.p, 0, none⟩), .int .i64 n, .int .i64 cond] w fun e w' => e = .returned (.int .i64 (onE L n cond)) ∧ TwoAt A tv w0 w' r (waitL L n cond) (S.notes (waitN L n cond)) bs L0 tr0 ∧ Only (LA r A) w w' := by
  refine (wait_x h.lx n cond hw hn).mono ?_
  rintro e w' ⟨rfl, hL, hO⟩
  exact ⟨rfl, h.only hO hL, hO⟩
theorem two_wake (h : TwoAt A tv w0 w r L S bs L0 tr0) (n cond : Int) :
    Calls Try.prog 23 #[.pointer (some ⟨r.p, 0, none⟩), .int .i64 n, .int .i64 cond] w fun e w' => e = .returned (.tuple #[.int .i64 (wakeM L n cond), .int .i64 (onE L n cond)]) ∧ TwoAt A tv w0 w' r (wakeL L n cond) S bs L0 tr0 ∧ Only (LA r A) w w' := by
  refine (wake_x h.lx n cond).mono ?_
  rintro e w' ⟨rfl, hL, hO⟩
  exact ⟨rfl, h.only hO hL, hO⟩

/-- Behind a call of the reference. -/
structure Aft (A : Nat → Prop) (w0 w w' : World) (r : LRef) (L : Lk) (S : Mem) (bs : Nat) (L1 : Lk) (tr1 : List Acc) (tv' : Value) : Prop where
  two : ∃ A', TwoAt A' tv' w0 (w'.setRow bs (stC L1 tv').toArray) r L S bs L1 tr1 ∧ ∀ k, ¬ LA r A k → ¬ LA r A' k
  old : ∃ D, Blk w' bs 47 D ∧ D.length = 68
  one : tv'.oneCell' = true
  bl : Below w.heap.size w w'
theorem TwoAt.aft (h : TwoAt A tv w0 w r L S bs L0 tr0) (hb : Below w.heap.size w w') {tv' : Value} (hR : Row w' 38 3 tv' tr1.length (accs tr1) (fun k => ¬ LA r A k ∨ w.heap.size ≤ k)) : Aft A w0 w w' r L S bs L1 tr1 tv' := by
  have h1 := h.aside hb
  refine ⟨⟨_, h1.stored (L1 := L1) (hR.mono fun k hk h2 => not_la_new h.lx hb h2 hk), fun k hk => LA.less hk fun _ h => h.1⟩, ⟨_, h1.st, stC_len _ _⟩, hR.slice_one, hb⟩
theorem two_rlock (h : TwoAt A tv w0 w r L S bs L0 tr0) (hg : Good L0) (hn : tr0.length < trMax) (t : Int) :
    Calls Try.prog 18 #[.agg (stC L0 tv).toArray, .int .i64 t] w fun e w' => ∃ tv', e = .returned (.tuple #[.agg (stC (lockL L0 t) tv').toArray, .int .i64 (lockE L0 t)]) ∧ Aft A w0 w w' r L S bs (lockL L0 t) (tr0 ++ lockN L0 t) tv' := by
  refine (rlock h.tr hn hg t).mono ?_
  rintro e w' ⟨tv', rfl, hR, hb⟩
  exact ⟨tv', rfl, h.aft hb hR⟩
theorem two_runlock (h : TwoAt A tv w0 w r L S bs L0 tr0) (hc : 0 ≤ L0.conds) (hn : tr0.length < trMax) (t : Int) :
    Calls Try.prog 20 #[.agg (stC L0 tv).toArray, .int .i64 t] w fun e w' => ∃ tv', e = .returned (.tuple #[.agg (stC (unlockL L0 t) tv').toArray, .int .i64 (holdsE L0 t 0)]) ∧ Aft A w0 w w' r L S bs (unlockL L0 t) (tr0 ++ unlockN L0 t) tv' := by
  refine (runlock h.tr hn hc t).mono ?_
  rintro e w' ⟨tv', rfl, hR, hb⟩
  exact ⟨tv', rfl, h.aft hb hR⟩
theorem two_rwait (h : TwoAt A tv w0 w r L S bs L0 tr0) (hc : 0 ≤ L0.conds) (hc1 : L0.conds ≤ 1000) (hn : tr0.length < trMax) (t cond : Int) :
    Calls Try.prog 22 #[.agg (stC L0 tv).toArray, .int .i64 t, .int .i64 cond] w fun e w' => ∃ tv', e = .returned (.tuple #[.agg (stC (waitL L0 t cond) tv').toArray, .int .i64 (onE L0 t cond)]) ∧ Aft A w0 w w' r L S bs (waitL L0 t cond) (tr0 ++ waitN L0 t cond) tv' := by
  refine (rwait h.tr hn hc hc1 t cond).mono ?_
  rintro e w' ⟨tv', rfl, hR, hb⟩
  exact ⟨tv', rfl, h.aft hb hR⟩
theorem two_rwake (h : TwoAt A tv w0 w r L S bs L0 tr0) (hg : Good L0) (hc : 0 ≤ L0.conds) (hc1 : L0.conds ≤ 1000) (t cond : Int) :
    Calls Try.prog 24 #[.agg (stC L0 tv).toArray, .int .i64 t, .int .i64 cond] w fun e w' => e = .returned (.tuple #[.agg (stC (wakeL L0 t cond) tv).toArray, .int .i64 (wakeM L0 t cond), .int .i64 (onE L0 t cond)]) ∧ Aft A w0 w w' r L S bs (wakeL L0 t cond) tr0 tv := by
  refine (rwake h.tr hg hc hc1 t cond).mono ?_
  rintro e w' ⟨rfl, hR, hb⟩
  exact ⟨rfl, h.aft hb hR⟩

theorem Good.sl {L L' : Lk} (h : Good L) (hs : ∀ i c, L'.sl i = some c → L.sl i = some c) : Good L' := ⟨fun i c hc => h.at_ i c (hs i c hc)⟩
theorem Good.lock (h : Good L) (t : Int) : Good (lockL L t) := h.sl fun i c hc => by unfold lockL at hc; split at hc <;> exact hc
theorem Good.unlock (h : Good L) (t : Int) : Good (unlockL L t) := h.sl fun i c hc => by unfold unlockL at hc; split at hc <;> exact hc
theorem Good.wake (h : Good L) (t c : Int) : Good (wakeL L t c) := h.sl fun i d hc => by
  unfold wakeL at hc
  split at hc
  · simp only [slWake] at hc
    split at hc
    · cases hc
    · exact hc
  · exact hc
theorem Good.wait (h : Good L) (hc1 : L.conds ≤ 1000) (t c : Int) : Good (waitL L t c) := by
  unfold waitL
  split
  · rename_i h0
    have h1 := (on_zero h0).2.1
    refine ⟨fun i d hd => ?_⟩
    simp only [slUp] at hd
    split at hd
    · cases hd; omega
    · exact h.at_ i d hd
  · exact h
end Go.Proofs.Ytncfbccihofaoaa
