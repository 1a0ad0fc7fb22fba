/- Law 13's helpers: made, acc, awake. -/
import Derived.Test.YtlofgmcbanldnaaLow
import Derived.Test.YtlofgmcbanldnaaCellsNew
import Derived.Lib.SlBytesConst
import Derived.Laws.IdiomStrings
namespace Go.Proofs.Ytlofgmcbanldnaa
open Go.RowKit

/-- string(b), b whatever can be read. -/
theorem conv_bytes {P : Program} {w : World} {v : Value} {b : List UInt8} (src dst e : TypeId) (hs : P.underlying src = some (.slice e)) (he : P.underlying e = some (.int .u8)) (hd : P.underlying dst = some .string)
    (hR : Reads w 1 v b.length (u8s b)) : (convert src dst v).run P w = .ok (.string ⟨b.toArray⟩) w := by
  rcases hR.form with ⟨h0, ao, c, rfl⟩ | ⟨bl, off, c, rfl, hc, hr⟩
  · obtain rfl : b = [] := List.eq_nil_of_length_eq_zero h0
    rw [run_convert_bytes_string w src dst e _ 0 c hs he hd]
    cases ao <;> simp [Conv.bytesToString, loadCells]
    all_goals rfl
  · exact run_convert_bytes_back w src dst e _ c b hs he hd fun j hj => by
      rw [addr_plain]
      exact hr j _ (by simp [u8s, List.getElem?_eq_getElem hj])


/-- Write of bytes that were laid just now. -/
theorem write_new {w : World} {c : CRef} {S : Mem} {A : Nat → Prop} (hC : Cells w c S A) (hF : Fresh A w) (hn : S.trace.length < trMax) (task at_ : Int) (h : okAt S.plains.length task at_ = true)
    (b : List UInt8) (n : Nat) (hn' : b.length = n) (hbn : n ≤ 4000000000) (fr : Nat × Nat) (S' : Mem) (hS : (S.note ⟨task, 7, at_⟩).lay at_ b = S') :
    Calls Try.prog 9 #[.pointer (some ⟨c.p, 0, none⟩), .int .i64 task, .int .i64 at_, .slice (some ⟨w.heap.size, 0, none⟩) n n] (w.alloc (.cells (u8s b).toArray 5 fr)) fun e w' => e = .returned (.int .i64 0) ∧ Cells w' c S' (fun k => A k ∧ k ≠ w.heap.size) ∧ Only A w w' := by
  have hC1 : Cells (w.alloc (.cells (u8s b).toArray 5 fr)) c S (fun k => A k ∧ k ≠ w.heap.size) := (hC.sans (Nat.le_refl _)).alloc _
  have hF1 : Fresh (fun k => A k ∧ k ≠ w.heap.size) (w.alloc (.cells (u8s b).toArray 5 fr)) := hF.sans (by simp) (by simp)
  have hR : Reads (w.alloc (.cells (u8s b).toArray 5 fr)) 1 (.slice (some ⟨w.heap.size, 0, none⟩) n n) n (u8s b) := by
    have := reads_block (heap_alloc_new w (.cells (u8s b).toArray 5 fr)) (n := n) (by simp [u8s_length, hn']) n (Nat.le_refl _)
    simpa using this
  refine (write_to hC1 hF1 hn task at_ h _ b n hn' hR (by intro k hk; simp [Value.ownBlock] at hk; subst hk; simp) hbn S' hS).mono ?_
  rintro e w' ⟨rfl, hC2, hO2⟩
  exact ⟨rfl, hC2, ((Only.refl A w).alloc _).trans hO2.sans⟩

set_option maxHeartbeats 400000 in
theorem made13_ok (w : World) (n m : Nat) (hn : n ≤ 100000) (hm : m ≤ 100000) :
    Calls Try.prog 8 #[.int .i64 n, .int .i64 m] w fun e w' => ∃ c : CRef, e = .returned (.tuple #[.pointer (some ⟨c.p, 0, none⟩), .bool true]) ∧ Cells w' c (Mem.new n m) (fun k => w.heap.size ≤ k) ∧ Below w.heap.size w w' := by
  go_enter Try.func8, Try.ntmps8
  go_wp2_with (go_at_call 18; refine (new_ok _ n m hn hm).mono ?_; rintro e w1 ⟨c, rfl, hC, hB⟩)
  go_ret2
  exact ⟨c, rfl, hC, hB⟩

set_option maxHeartbeats 400000 in
theorem acc_any (w : World) (t wh a : Int) :
    Calls Try.prog 29 #[.int .i64 t, .int .u8 wh, .int .i64 a] w fun e w' => e = .returned (.agg #[.int .i64 t, .int .u8 wh, .int .i64 a]) ∧ w' = w.alloc (.cells #[.int .i64 t, .int .u8 wh, .int .i64 a] 40) := by
  go_enter Try.func29, Try.ntmps29
  go_wp2
  exact bodyPost_ret (v := .agg #[.int .i64 t, .int .u8 wh, .int .i64 a]) (by simp [results, Try.results29, go_sem]) rfl ⟨rfl, rfl⟩

theorem allocs7 (w : World) (o1 o2 o3 o4 o5 o6 o7 : Obj) :
    Below w.heap.size w (((((((w.alloc o1).alloc o2).alloc o3).alloc o4).alloc o5).alloc o6).alloc o7) ∧
    (((((((w.alloc o1).alloc o2).alloc o3).alloc o4).alloc o5).alloc o6).alloc o7).heap[w.heap.size + 1 + 1 + 1 + 1 + 1 + 1]? = some o7 := by
  refine ⟨((((((((Below.refl _ w).alloc (Nat.le_refl _) _).alloc ?_ _).alloc ?_ _).alloc ?_ _).alloc ?_ _).alloc ?_ _).alloc ?_ _), ?_⟩
  all_goals try (simp; done)
  all_goals try (simp; omega)
  have := heap_alloc_new (((((((w.alloc o1).alloc o2).alloc o3).alloc o4).alloc o5).alloc o6)) o7
  simpa using this

set_option maxRecDepth 100000 in
set_option maxHeartbeats 1000000 in
theorem awake13 (w : World) : Calls Try.prog 12 #[] w fun e w' => e = .returned (.bool true) ∧ Below w.heap.size w w' := by
  have kc := fun (w : World) (C : Array Value) (n c : Nat) => Lib.run_convert_bytes_const (P := Try.prog) w 27 5 C n c Try.underlying27 Try.underlying5
  go_enter Try.func12, Try.ntmps12
  go_wp2_with fail
  refine (new_ok _ 2 1 (by decide) (by decide)).mono ?_
  rintro e w1 ⟨c, rfl, hC1, hB1⟩
  have hF1 : Fresh (fun k => w.heap.size ≤ k) w1 := ⟨fun k hk => Nat.le_trans hB1.size hk⟩
  go_wp2_with fail
  refine (load_to hC1 hF1 (by decide) 0 1 (by decide) 0 ⟨[0, 0], [[]], [⟨0, 1, 1⟩]⟩ rfl rfl).mono ?_
  rintro e w2 ⟨rfl, hC2, hO2⟩
  have hF2 := hF1.only hO2
  clear hC1 hF1
  go_wp2_with fail
  refine (add_to hC2 hF2 (by decide) 1 1 5 (by decide) 5 ⟨[0, 5], [[]], [⟨0, 1, 1⟩, ⟨1, 5, 1⟩]⟩ rfl rfl).mono ?_
  rintro e w3 ⟨rfl, hC3, hO3⟩
  have hF3 := hF2.only hO3
  clear hC2 hF2
  go_wp2_with fail
  refine (swap_to hC3 hF3 (by decide) 0 1 5 7 (by decide) true ⟨[0, 7], [[]], [⟨0, 1, 1⟩, ⟨1, 5, 1⟩, ⟨0, 3, 1⟩]⟩ rfl rfl).mono ?_
  rintro e w4 ⟨rfl, hC4, hO4⟩
  have hF4 := hF3.only hO4
  clear hC3 hF3
  go_wp2_with fail
  refine (swap_to hC4 hF4 (by decide) 0 1 5 8 (by decide) false ⟨[0, 7], [[]], [⟨0, 1, 1⟩, ⟨1, 5, 1⟩, ⟨0, 3, 1⟩, ⟨0, 4, 1⟩]⟩ rfl rfl).mono ?_
  rintro e w5 ⟨rfl, hC5, hO5⟩
  have hF5 := hF4.only hO5
  clear hC4 hF4
  go_wp2_with fail
  have hC5a := (hC5.alloc (.cells #[.int .u8 97, .int .u8 98] 5 (2, 3))).sans (g := w5.heap.size + 1) (by simp)
  have hC5b : Cells (w5.alloc (.cells #[.int .u8 97, .int .u8 98] 5 (2, 3))) c _ (fun k => w.heap.size ≤ k ∧ k ≠ w5.heap.size) := (hC5.sans (Nat.le_refl _)).alloc _
  have hF5b : Fresh (fun k => w.heap.size ≤ k ∧ k ≠ w5.heap.size) (w5.alloc (.cells #[.int .u8 97, .int .u8 98] 5 (2, 3))) := hF5.sans (by simp) (by simp)
  have hR5 : Reads (w5.alloc (.cells #[.int .u8 97, .int .u8 98] 5 (2, 3))) 1 (.slice (some ⟨w5.heap.size, 0, none⟩) 2 2) 2 (u8s [97, 98]) := reads_block (heap_alloc_new w5 _) rfl 2 (Nat.le_refl _)
  clear hC5a hC5 hF5
  refine (write_to hC5b hF5b (by decide) 2 0 (by decide) _ [97, 98] 2 rfl hR5 (by intro k hk; simp [Value.ownBlock] at hk; subst hk; simp) (by decide) ⟨[0, 7], [[97, 98]], [⟨0, 1, 1⟩, ⟨1, 5, 1⟩, ⟨0, 3, 1⟩, ⟨0, 4, 1⟩, ⟨2, 7, 0⟩]⟩ rfl).mono ?_
  rintro e w6 ⟨rfl, hC6, hO6⟩
  have hF6 := hF5b.only hO6
  clear hC5b hF5b hR5 kc
  go_wp2_with fail
  refine (read_ok hC6 hF6 (by decide) ⟨by simp⟩ 3 0 (by decide)).mono ?_
  rintro e w7 ⟨v7, rfl, hP7⟩
  obtain ⟨hR7, hC7, hO7⟩ := hP7
  have hR7' : Row w7 5 1 v7 2 (u8s [97, 98]) (fun k => w6.heap.size ≤ k) := hR7
  have hC7' : Cells w7 c ⟨[0, 7], [[97, 98]], [⟨0, 1, 1⟩, ⟨1, 5, 1⟩, ⟨0, 3, 1⟩, ⟨0, 4, 1⟩, ⟨2, 7, 0⟩, ⟨3, 6, 0⟩]⟩ (fun k => (w.heap.size ≤ k ∧ k ≠ w5.heap.size) ∧ v7.ownBlock ≠ some k) := hC7
  clear hR7 hC7 hC6 hF6
  have hB7 : Below w.heap.size w w7 := by
    refine hB1.trans (((((hO2.trans hO3).trans hO4).trans hO5).alloc (.cells #[.int .u8 97, .int .u8 98] 5 (2, 3))).trans (hO6.sans.trans hO7.sans) |>.below hB1.size (fun k hk => by omega))
  clear hO2 hO3 hO4 hO5 hO6 hO7 hB1
  go_wp2_with fail
  refine (load_no hC7' 0 2 (by decide)).mono ?_
  rintro e w' ⟨rfl, rfl⟩
  go_wp2_with fail
  refine (load_no hC7' 64 0 (by decide)).mono ?_
  rintro e w' ⟨rfl, rfl⟩
  go_wp2_with fail
  refine (new_no _ (-1) 0 (by decide)).mono ?_
  rintro e w' ⟨rfl, rfl⟩
  go_wp2_with (go_at_call 29; refine (acc_any _ _ _ _).mono ?_; rintro e w' ⟨rfl, rfl⟩)
  obtain ⟨hB8, hS8⟩ := allocs7 w7 (.cells #[.int .i64 0, .int .u8 1, .int .i64 1] 40) (.cells #[.int .i64 1, .int .u8 5, .int .i64 1] 40) (.cells #[.int .i64 0, .int .u8 3, .int .i64 1] 40) (.cells #[.int .i64 0, .int .u8 4, .int .i64 1] 40) (.cells #[.int .i64 2, .int .u8 7, .int .i64 0] 40) (.cells #[.int .i64 3, .int .u8 6, .int .i64 0] 40)
    (.cells #[.int .i64 0, .int .u8 1, .int .i64 1, .int .i64 1, .int .u8 5, .int .i64 1, .int .i64 0, .int .u8 3, .int .i64 1, .int .i64 0, .int .u8 4, .int .i64 1, .int .i64 2, .int .u8 7, .int .i64 0, .int .i64 3, .int .u8 6, .int .i64 0] 40)
  have hR8 := hR7'.reads.below hB8
  have hC8 := hC7'.keep (Same.of_below _ hB8)
  have hB := hB7.trans (hB8.mono hB7.size)
  clear hC7' hR7' hB7 hB8
  rw [conv_bytes (b := [97, 98]) 27 9 5 Try.underlying27 Try.underlying5 Try.underlying9 hR8]
  clear hR8
  go_wp2_with fail
  refine (trace_ok hC8 (by decide)).mono ?_
  rintro e w8 ⟨v8, rfl, hr8, hc8, hb8⟩
  have hB9 := hB.trans (hb8.mono hB.size)
  have hS9 := (hb8.block _ (Array.getElem?_eq_some_iff.1 hS8).1).trans hS8
  clear hC8 hB hS8 hb8 hc8
  go_wp2_with fail
  refine (lowTrace _ _ _ _ [⟨0, 1, 1⟩, ⟨1, 5, 1⟩, ⟨0, 3, 1⟩, ⟨0, 4, 1⟩, ⟨2, 7, 0⟩, ⟨3, 6, 0⟩] hr8.reads ⟨rfl, .inr ⟨_, _, _, rfl, by decide, fun j u hu => by simp [World.cell?, hS9]; exact hu⟩⟩ (by decide)).mono ?_
  rintro e w9 ⟨rfl, hq9⟩
  go_wp2_with fail
  go_ret
  exact ⟨rfl, hB9.trans (hq9.below _)⟩

end Go.Proofs.Ytlofgmcbanldnaa
