/- Put, by the plain steps. -/
import Derived.Test.YtkpjfdhjkgdcbaaStepS

namespace Go.Proofs.Ytkpjfdhjkgdcbaa
open Go.RowKit

/-- So many steps. -/
def stepsS (k : SkRef) (p : Sk × Ins) : Nat → Sk × Ins
  | 0 => p
  | n + 1 => stepS k (stepsS k p n).1 (stepsS k p n).2
/-- Steps that may be, the last one of which ends the insert. -/
structure Runs (k : SkRef) (s : Sk) (x : Ins) (n : Nat) : Prop where
  ok : ∀ i, i < n → StepOk k (stepsS k (s, x) i).1 (stepsS k (s, x) i).2
  room : ∀ i, i < n → (stepsS k (s, x) i).1.trace.length < trMax
  on : ∀ i, i < n → ¬ (stepsS k (s, x) i).2.op = 0
  fine : ∀ i, i < n → (stepsS k (s, x) i).2.err = 0
  off : (stepsS k (s, x) n).2.op = 0
theorem stepS_trace (k : SkRef) (s : Sk) (x : Ins) (h : x.op ≤ 8) (h0 : ¬ x.op = 0) : (stepS k s x).1.trace.length = s.trace.length + 1 := by
  have hc : x.op = 1 ∨ x.op = 2 ∨ x.op = 3 ∨ x.op = 4 ∨ x.op = 5 ∨ x.op = 6 ∨ x.op = 7 ∨ x.op = 8 := by omega
  rcases hc with hx | hx | hx | hx | hx | hx | hx | hx <;> simp only [stepS, hx, Sk.note, Sk.link, List.length_append, List.length_cons, List.length_nil]
  split <;> simp
theorem Runs.len {k : SkRef} {s : Sk} {x : Ins} {n : Nat} (h : Runs k s x n) : ∀ i, i ≤ n → (stepsS k (s, x) i).1.trace.length = s.trace.length + i
  | 0, _ => rfl
  | i + 1, hi => by
    rw [stepsS, stepS_trace k _ _ (h.ok i (by omega)).op (h.on i (by omega)), h.len i (by omega)]
    omega
/-- How many accesses a memory has traced. -/
def lenAt (w : World) (a : Addr) : Nat := match w.cell? a with
  | some (.slice _ n _) => n
  | _ => 0
theorem Cells.lenAt {w : World} {c : CRef} {S : Mem} {A : Nat → Prop} (h : Cells w c S A) : lenAt w ⟨c.p, 3, none⟩ = S.trace.length := by
  obtain ⟨tv, pls, k⟩ := h
  obtain ⟨ao, cap, e⟩ := k.trace.slice
  rw [Proofs.Ytkpjfdhjkgdcbaa.lenAt, k.c3, e]
set_option maxRecDepth 100000 in
set_option maxHeartbeats 2000000 in
theorem put_any {w : World} {k : SkRef} {c : CRef} {S : Mem} {A : Nat → Prop} {s : Sk} (L : Lx w k c S A) (R : Rel k s S) (task height : Int) (e : En) (t0 : 0 ≤ task) (t1 : task < 64) (h0 : 1 ≤ height) (h1 : height ≤ 6) (hr : e.right = true) (n : Nat) (hruns : Runs k s (ins0 task e height) n) (hn : 0 < n) :
    Calls Try.prog 13 #[.pointer (some ⟨k.lp, 0, none⟩), .int .i64 task, .agg (enC e).toArray, .int .i64 height] w fun r w' => ∃ S', r = .returned (.int .i64 (stepsS k (s, ins0 task e height) n).2.err) ∧ Rel k (stepsS k (s, ins0 task e height) n).1 S' ∧ Lx w' k c S' A ∧ Only A w w' := by
  obtain ⟨W, hW⟩ : ∃ W, w.alloc (.cells (enC e).toArray 38) = W := ⟨_, rfl⟩
  have k1 : Blk W w.heap.size 38 (enC e) := by rw [← hW]; exact Blk.new _ _ _
  have hB : Below w.heap.size w W := by rw [← hW]; exact (Below.refl _ _).alloc (Nat.le_refl _) _
  have hb := begin_ok (L.below hB).sk task height e t0 t1 h0 h1 hr
  have HB := Lib.hid hb
  clear hb
  go_enter Try.func13, Try.ntmps13
  go_wp2_with (first | (refine wpList_load_blk rfl 38 _ rfl w.heap.size (by rfl) (enC e) k1 _ Try.underlying38 rfl infoEn19 ?_) | (go_at_call 24; refine HB.out.mono ?_; rintro r w1 ⟨ip, rfl, hk, hip, hb1⟩))
  have hB1 := hB.trans (hb1.mono hB.size)
  have Lb := L.box hB1
  have hi : ¬ boxA A w.heap.size w1.heap.size ip := fun hA => hA.2.elim (fun h1 => absurd (Nat.le_trans hB.size hip) (Nat.not_le.mpr h1)) (fun h1 => absurd (Blk.lt hk) (Nat.not_lt.mpr h1))
  obtain ⟨B, hBx⟩ : ∃ B, boxA A w.heap.size w1.heap.size = B := ⟨_, rfl⟩
  rw [hBx] at Lb hi
  have HR := Lib.hid hruns
  obtain ⟨x0, hx0⟩ : ∃ x0, ins0 task e height = x0 := ⟨_, rfl⟩
  rw [hx0] at HR hk
  go_loopw [10] (fun f wr => f = .int .i64 0 ∧ ∃ i S', i < n ∧ Rel k (stepsS k (s, x0) i).1 S' ∧ InsAt wr k ip (stepsS k (s, x0) i).2 ∧ Lx wr k c S' B ∧ Only (fun j => B j ∨ j = ip) w1 wr) (fun _ wr => n + s.trace.length - lenAt wr ⟨c.p, 3, none⟩)
  case atStart => exact ⟨rfl, 0, S, hn, R, hk, Lb, Only.refl _ _⟩
  case round =>
    obtain ⟨rfl, i, S1, hin, R1, hk1, L1, o1⟩ := hrel
    have hst := steps_any hk1 L1 hi (HR.out.room i hin) R1 (HR.out.ok i hin)
    have HST := Lib.hid hst
    clear hst
    have hlen := HR.out.len i (by omega)
    have ha1 := L1.mem.lenAt
    rw [R1.trace, hlen] at ha1
    have e1 : stepS k (stepsS k (s, x0) i).1 (stepsS k (s, x0) i).2 = stepsS k (s, x0) (i + 1) := rfl
    rw [e1] at HST
    by_cases hlast : i + 1 = n
    · subst hlast
      have hoff := HR.out.off
      have hd : decide ((stepsS k (s, x0) (i + 1)).2.op = 0) = true := decide_eq_true hoff
      go_wp2_with (go_at_call 26; refine HST.out.mono ?_; rintro r w2 ⟨S2, R2, rfl, k2, L2, o2⟩)
      go_ret
      rw [hx0]
      subst hBx
      refine ⟨S2, rfl, R2, L2.unbox L.fresh (Only.of_below hB1) (o1.trans o2) L.hl L.ha, (Only.of_below hB1).trans ((o1.trans o2).mono fun j _ hj => hj.elim (fun q => q.1) (fun q => q ▸ L.fresh.new ip (Nat.le_trans hB.size hip)))⟩
    · have hi1 : i + 1 < n := by omega
      have hon := HR.out.on (i + 1) hi1
      have hd : decide ((stepsS k (s, x0) (i + 1)).2.op = 0) = false := decide_eq_false hon
      have her := HR.out.fine (i + 1) hi1
      have hlen2 := HR.out.len (i + 1) (by omega)
      go_wp2_with (go_at_call 26; refine HST.out.mono ?_; rintro r w2 ⟨S2, R2, rfl, k2, L2, o2⟩)
      have ha2 := L2.mem.lenAt
      rw [R2.trace, hlen2] at ha2
      exact ⟨⟨rfl, i + 1, S2, hi1, R2, k2, L2, o1.trans o2⟩, by rw [ha1, ha2]; omega⟩
end Go.Proofs.Ytkpjfdhjkgdcbaa
