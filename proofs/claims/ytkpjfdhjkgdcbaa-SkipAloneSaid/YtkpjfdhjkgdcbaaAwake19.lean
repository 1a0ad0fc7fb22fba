/- Law 19's examples. -/
import Derived.Test.YtkpjfdhjkgdcbaaRest19

namespace Go.Proofs.Ytkpjfdhjkgdcbaa
open Go.RowKit

def sA : ByteArray := ⟨#[97]⟩
def sB : ByteArray := ⟨#[98]⟩
def sC : ByteArray := ⟨#[99]⟩
def s0 : ByteArray := ⟨#[]⟩
theorem lt_ab : (⟨sA, 1, 1⟩ : IK).lt ⟨sB, 3, 1⟩ := by unfold IK.lt sA sB; rw [ByteArray.toList_eq, ByteArray.toList_eq]; decide
theorem lt_bc : (⟨sB, 3, 1⟩ : IK).lt ⟨sC, 2, 1⟩ := by unfold IK.lt sC sB; rw [ByteArray.toList_eq, ByteArray.toList_eq]; decide
theorem wf_small (key : ByteArray) (seq : Int) (h : key.size ≤ 100) (h0 : 0 ≤ seq) (h1 : seq ≤ 1000000) : (⟨key, seq, 1⟩ : IK).Wf := ⟨h0, by show seq ≤ _; omega, (show (0 : Int) ≤ 1 by decide), (show (1 : Int) ≤ 255 by decide), by show key.size ≤ _; omega⟩
structure AwK (k : SkRef) (r : RS) : Prop where
  rest : Rest k 1 3 r
  w : r.well = [⟨1, entS sA 1 s0, 2⟩, ⟨2, entS sC 2 s0, 1⟩, ⟨3, entS sB 3 s0, 3⟩]
  asked : r.s.asked = 21
  tr : r.s.trace.length ≤ 1000000
theorem AwK.keys {k : SkRef} {r : RS} (h : AwK k r) : r.s.keys 1 = ⟨sA, 1, 1⟩ ∧ r.s.keys 2 = ⟨sC, 2, 1⟩ ∧ r.s.keys 3 = ⟨sB, 3, 1⟩ := by
  have q := fun p hp => (h.rest.inv.v.wl p hp).key
  rw [h.w] at q
  exact ⟨q ⟨1, entS sA 1 s0, 2⟩ (by simp), q ⟨2, entS sC 2 s0, 1⟩ (by simp), q ⟨3, entS sB 3 s0, 3⟩ (by simp)⟩
theorem AwK.mem {k : SkRef} {r : RS} (h : AwK k r) (l : Nat) (want : List Int) (hw : ∀ n, n ∈ want ↔ (n = 1 ∧ l < 2) ∨ (n = 2 ∧ l < 1) ∨ (n = 3 ∧ l < 3)) : ∀ n, n ∈ want ↔ ∃ p, p ∈ r.well ∧ p.node = n ∧ (l : Int) < p.h := fun n => by
  rw [hw, h.w]
  simp only [List.mem_cons, List.not_mem_nil, or_false]
  constructor
  · rintro (⟨rfl, q⟩ | ⟨rfl, q⟩ | ⟨rfl, q⟩)
    · exact ⟨_, .inl rfl, rfl, by show (l : Int) < 2; omega⟩
    · exact ⟨_, .inr (.inl rfl), rfl, by show (l : Int) < 1; omega⟩
    · exact ⟨_, .inr (.inr rfl), rfl, by show (l : Int) < 3; omega⟩
  · rintro ⟨p, rfl | rfl | rfl, rfl, q⟩
    · have q : (l : Int) < 2 := q; exact .inl ⟨rfl, by omega⟩
    · have q : (l : Int) < 1 := q; exact .inr (.inl ⟨rfl, by omega⟩)
    · have q : (l : Int) < 3 := q; exact .inr (.inr ⟨rfl, by omega⟩)
theorem AwK.l0 {k : SkRef} {r : RS} (h : AwK k r) : r.L 0 = [1, 3, 2] := by
  obtain ⟨e1, e2, e3⟩ := h.keys
  refine h.rest.level (by decide) [1, 3, 2] ?_ (h.mem 0 _ fun n => ?_)
  · simp only [List.pairwise_cons, List.mem_cons, List.not_mem_nil, or_false, forall_eq_or_imp, forall_eq, e1, e2, e3]
    exact ⟨⟨lt_ab, IK.lt_trans lt_ab lt_bc⟩, lt_bc, fun _ q => q.elim, List.Pairwise.nil⟩
  · simp; omega
theorem AwK.l1 {k : SkRef} {r : RS} (h : AwK k r) : r.L 1 = [1, 3] := by
  obtain ⟨e1, e2, e3⟩ := h.keys
  refine h.rest.level (by decide) [1, 3] ?_ (h.mem 1 _ fun n => ?_)
  · simp only [List.pairwise_cons, List.mem_cons, List.not_mem_nil, or_false, forall_eq, e1, e3]
    exact ⟨lt_ab, fun _ q => q.elim, List.Pairwise.nil⟩
  · simp
theorem AwK.l2 {k : SkRef} {r : RS} (h : AwK k r) : r.L 2 = [3] := h.rest.level (by decide) [3] (by simp) (h.mem 2 _ fun n => by simp)
theorem AwK.l3 {k : SkRef} {r : RS} (h : AwK k r) : r.L 3 = [] := h.rest.level (by decide) [] List.Pairwise.nil (h.mem 3 _ fun n => by simp)
/-- What three Puts leave. -/
theorem awk_done {k : SkRef} {r1 r2 r3 : RS} (hr : Rest k 1 3 r3) (w1 : r1.well = RS.init.well ++ [⟨RS.init.s.count + 1, entS sA 1 s0, 2⟩]) (w2 : r2.well = r1.well ++ [⟨r1.s.count + 1, entS sC 2 s0, 1⟩]) (w3 : r3.well = r2.well ++ [⟨r2.s.count + 1, entS sB 3 s0, 3⟩])
    (c1 : r1.s.count = RS.init.s.count + 1) (c2 : r2.s.count = r1.s.count + 1) (a1 : r1.s.asked = RS.init.s.asked + needI (ins0 0 (entS sA 1 s0) 2)) (a2 : r2.s.asked = r1.s.asked + needI (ins0 0 (entS sC 2 s0) 1)) (a3 : r3.s.asked = r2.s.asked + needI (ins0 0 (entS sB 3 s0) 3)) (ht : r3.s.trace.length ≤ 1000000) : AwK k r3 := by
  refine ⟨hr, ?_, ?_, ht⟩
  · rw [w3, w2, w1, c2, c1]; rfl
  · rw [a3, a2, a1]; rfl
theorem reads_new (w : World) (l : List Int) : Reads (w.alloc (.cells (ints l).toArray 3)) 1 (.slice (some ⟨w.heap.size, 0, none⟩) l.length l.length) l.length (ints l) :=
  ⟨by rw [ints_length, Nat.mul_one], .inr ⟨w.heap.size, 0, _, rfl, Nat.le_refl _, fun j u hu => by rw [Nat.zero_add]; exact (Blk.new w 3 (ints l)).cell j hu⟩⟩
theorem LW.alloc {w0 w : World} {k : SkRef} {c : CRef} {s : Sk} {A : Nat → Prop} (h : LW w0 w k c s A) (o : Obj) : LW w0 (w.alloc o) k c s (boxA A w.heap.size (w.alloc o).heap.size) := h.made ((Below.refl _ _).alloc (Nat.le_refl _) o)
theorem boxA_new {A : Nat → Prop} {w w' : World} (h : w.heap.size < w'.heap.size) : ¬ boxA A w.heap.size w'.heap.size w.heap.size := fun q => by rcases q.2 with q | q <;> omega
structure AwS (k : SkRef) (r : RS) (N : Nat) (ws : List Wn) (a c b : Int) : Prop where
  rest : Rest k 1 N r
  w : r.well = ws
  asked : r.s.asked = a
  count : r.s.count = c
  begun : (r.begun : Int) = b
  tr : r.s.trace.length ≤ 100000 * r.begun
theorem AwS.init {k : SkRef} (N : Nat) (h : 6 ≤ k.units) : AwS k RS.init N [] 0 0 0 := ⟨Rest.init 1 N h, rfl, rfl, rfl, rfl, Nat.zero_le _⟩
/-- One Put more of a small list. -/
theorem AwS.put {w0 w : World} {k : SkRef} {c : CRef} {A : Nat → Prop} {r : RS} {N : Nat} {ws : List Wn} {a cn b : Int} (h : AwS k r N ws a cn b) (L : LW w0 w k c r.s A) (hN : N ≤ 20) (key val : ByteArray) (seq : Int) (height : Int) (hkey : 1 ≤ key.size ∧ key.size ≤ 64) (hval : val.size ≤ 64) (q0 : 0 ≤ seq) (q1 : seq ≤ 1000) (h0 : 1 ≤ height) (h1 : height ≤ 6) (hb : b + 1 ≤ N)
    (hk : ∀ p, p ∈ ws → p.e.k.seq ≠ seq) (hu : a + 4 + height + key.size + val.size ≤ k.units) :
    Calls Try.prog 13 #[.pointer (some ⟨k.lp, 0, none⟩), .int .i64 0, .agg (enC (entS key seq val)).toArray, .int .i64 height] w fun x w' => x = .returned (.int .i64 0) ∧ ∃ r' : RS, LW w0 w' k c r'.s A ∧ AwS k r' N (ws ++ [⟨cn + 1, entS key seq val, height⟩]) (a + 4 + height + key.size + val.size) (cn + 1) (b + 1) ∧ Only A w w' := by
  have e1 := h.w
  have e2 := h.asked
  have e3 := h.count
  have e4 := h.begun
  have e5 := h.tr
  have hme : needI (ins0 ((0 : Nat) : Int) (entS key seq val) height) = 4 + height + key.size + val.size := rfl
  have hr : (entS key seq val).right = true := by
    unfold En.right IK.right entS
    simp only [Bool.and_eq_true, decide_eq_true_eq]
    exact ⟨⟨hkey.1, hkey.2, by omega, Int.le_refl 1⟩, by rw [if_neg (by decide)]; omega⟩
  have hmost : most 1 N ≤ 20000 := by
    have : ∀ n, n ≤ 20 → most 1 n ≤ 20000 := by decide
    exact this N hN
  refine (L.put h.rest 0 (by decide) (by decide) (entS key seq val) hr (wf_small _ _ (by omega) q0 (by omega)) height h0 h1 (by omega) (fun p hp e => ?_) (by rw [hme]; omega) (by unfold trMax; omega)).mono ?_
  · rw [e1] at hp
    exact hk p hp (congrArg IK.seq e)
  · rintro x w' ⟨rfl, r', hL, hR, a1, a2, a3, a4, a5, ho⟩
    exact ⟨rfl, r', hL, ⟨hR, by rw [a1, e1, e3], by rw [a2, hme, e2]; omega, by rw [a3, e3], by omega, by rw [a4]; omega⟩, ho⟩
/-- Between the rows that the examples look at. -/
structure AwR (w wr : World) (k : SkRef) (c : CRef) (L : Nat → List Int) (b n : Nat) : Prop where
  ex : ∃ A r, LW w wr k c r.s A ∧ RInv k 1 3 r ∧ r.L = L ∧ r.s.trace.length ≤ n ∧ ¬ A b
  box : Blk wr b 36 (ikC ⟨sB, 3, 1⟩)
theorem AwR.below {w wr : World} {k : SkRef} {c : CRef} {L : Nat → List Int} {b n : Nat} (h : AwR w wr k c L b n) : Below w.heap.size w wr := by obtain ⟨A, r, q, _⟩ := h.ex; exact q.below
theorem AwR.rows {w wr : World} {k : SkRef} {c : CRef} {L : Nat → List Int} {b n : Nat} (h : AwR w wr k c L b n) (l : Nat) (hl : l < 6) (want : List Int) (hw : L l = want) (hlen : want.length ≤ 100) (hn : n ≤ 10000000) :
    Calls Try.prog 36 #[.pointer (some ⟨k.lp, 0, none⟩), .int .i64 (l : Int), .slice (some ⟨wr.heap.size, 0, none⟩) want.length want.length] (wr.alloc (.cells (ints want).toArray 3)) fun e w' => e = .returned (.bool true) ∧ AwR w w' k c L b (n + 101) := by
  obtain ⟨A, r, hL, hI, hrL, ht, hb⟩ := h.ex
  have hLa := hL.alloc (.cells (ints want).toArray 3)
  have hsz : (wr.alloc (.cells (ints want).toArray 3)).heap.size = wr.heap.size + 1 := by simp
  refine (hLa.rows hI l hl (by rw [hrL, hw]; exact hlen) (by unfold trMax; omega) _ want.length want (reads_new wr want) (fun g hg => by cases hg; exact boxA_new (by omega)) (by rw [hrL, hw])).mono ?_
  rintro e w' ⟨rfl, A', t, hL', hs, ho, htl⟩
  exact ⟨rfl, ⟨A', r.more t, hL', hI.more t, hrL, by show (r.s.trace ++ t).length ≤ _; rw [List.length_append]; omega, fun q => hb (hs b q).1⟩, (h.box.alloc _).keep (ho.block _ (h.box.alloc _).lt fun q => hb q.1)⟩
theorem AwR.rows0 {w wr : World} {k : SkRef} {c : CRef} {L : Nat → List Int} {b n : Nat} (h : AwR w wr k c L b n) (l : Nat) (hl : l < 6) (hw : L l = []) (hn : n ≤ 10000000) :
    Calls Try.prog 36 #[.pointer (some ⟨k.lp, 0, none⟩), .int .i64 (l : Int), .slice none 0 0] wr fun e w' => e = .returned (.bool true) ∧ AwR w w' k c L b (n + 101) := by
  obtain ⟨A, r, hL, hI, hrL, ht, hb⟩ := h.ex
  refine (hL.rows hI l hl (by rw [hrL, hw]; decide) (by unfold trMax; omega) _ 0 [] ⟨rfl, .inl ⟨rfl, _, _, rfl⟩⟩ (fun g hg => by cases hg) (by rw [hrL, hw])).mono ?_
  rintro e w' ⟨rfl, A', t, hL', hs, ho, htl⟩
  exact ⟨rfl, ⟨A', r.more t, hL', hI.more t, hrL, by show (r.s.trace ++ t).length ≤ _; rw [List.length_append]; omega, fun q => hb (hs b q)⟩, h.box.keep (ho.block _ h.box.lt hb)⟩
theorem aw_box {w w9 W : World} {k : SkRef} {c : CRef} {A : Nat → Prop} {r : RS} {t u : List Acc} (hL : LW w w9 k c ((r.s.more t).more u) A) {x : IK} (kz : Blk W w9.heap.size 36 (ikC x)) (hb : Below w9.heap.size w9 W) (hI : RInv k 1 3 r) (ht : r.s.trace.length ≤ 1000000) (htu : t.length + u.length ≤ 1000) :
    AwR w (W.setRow w9.heap.size (ikC ⟨sB, 3, 1⟩).toArray) k c r.L w9.heap.size 2000000 := by
  have hb2 := below_setRow hb (Nat.le_refl _) (ikC ⟨sB, 3, 1⟩).toArray
  refine ⟨⟨_, (r.more t).more u, hL.made hb2, (hI.more t).more u, rfl, ?_, boxA_new (by rw [setRow_size]; exact kz.lt)⟩, kz.setRow _⟩
  show ((r.s.trace ++ t) ++ u).length ≤ _
  rw [List.length_append, List.length_append]
  omega
set_option maxRecDepth 100000 in
set_option maxHeartbeats 1000000 in
theorem awake19 (w : World) : Calls Try.prog 10 #[] w fun e w' => e = .returned (.bool true) ∧ Below w.heap.size w w' := by
  have hsz := size_yes w 60 (by decide) (by decide)
  rw [show skA 60 = 68 from rfl, show skP 60 = 20 from rfl] at hsz
  have HSZ := Lib.hid hsz
  have HMD := Lib.hid (made_any w 60 (by decide) (by decide))
  clear hsz
  go_enter Try.func10, Try.ntmps10
  go_wp2_with (first | (go_at_call 21; refine HSZ.out.mono ?_; rintro e w' ⟨rfl, rfl⟩) | (go_at_call 12; refine HMD.out.mono ?_; rintro e w1 ⟨k, c, A, rfl, hM⟩; have hu := hM.units; have hL := hM.lw))
  go_wp2_with ((go_at_call 32; refine (ent_any _ sA s0 1).mono ?_; rintro e w2 ⟨rfl, hb2⟩; have hL1 := hL.made hb2))
  go_wp2_with ((go_at_call 13; have q := (AwS.init 3 (by omega)).put hL1 (by decide) sA s0 1 2 (by decide) (by decide) (by decide) (by decide) (by decide) (by decide) (by decide) (by decide) (by rw [hu]; decide); refine q.mono ?_; clear q; rintro x w3 ⟨rfl, r1, hL2, hS1, -⟩))
  go_wp2_with ((go_at_call 32; refine (ent_any _ sC s0 2).mono ?_; rintro e w4 ⟨rfl, hb4⟩; have hL3 := hL2.made hb4))
  go_wp2_with ((go_at_call 13; have q := hS1.put hL3 (by decide) sC s0 2 1 (by decide) (by decide) (by decide) (by decide) (by decide) (by decide) (by decide) (by decide) (by rw [hu]; decide); refine q.mono ?_; clear q; rintro x w5 ⟨rfl, r2, hL4, hS2, -⟩))
  go_wp2_with ((go_at_call 32; refine (ent_any _ sB s0 3).mono ?_; rintro e w6 ⟨rfl, hb6⟩; have hL5 := hL4.made hb6))
  go_wp2_with ((go_at_call 13; have q := hS2.put hL5 (by decide) sB s0 3 3 (by decide) (by decide) (by decide) (by decide) (by decide) (by decide) (by decide) (by decide) (by rw [hu]; decide); refine q.mono ?_; clear q; rintro x w7 ⟨rfl, r3, hL6, hS3, -⟩))
  have hK : AwK k r3 := ⟨hS3.rest, hS3.w, hS3.asked, by have := hS3.tr; have := hS3.begun; omega⟩
  have hk3 := hK.keys.2.2
  have hk0 := hK.tr
  have hl0 := hK.l0
  have hl1 := hK.l1
  have hl2 := hK.l2
  have hl3 := hK.l3
  have hinv := hK.rest.inv
  have hlf := hL6.left 0 (by decide) (by decide) (by rw [hK.asked]; decide) (by unfold trMax; omega) 39 (by rw [hK.asked, hu]; rfl)
  have HLF := Lib.hid hlf
  have HU := Lib.hid hu
  clear hlf hL hL1 hL2 hL3 hL4 hL5 hS1 hS2 hS3 hK hM hb2 hb4 hb6 HMD HSZ hu
  go_wp2_with (go_at_call 31; refine HLF.out.mono ?_; rintro x w8 ⟨rfl, hL7, -⟩)
  have hky := hL7.key 0 3 (by decide) (by decide) (by decide) (by rw [HU.out]; decide) (by show (r3.s.trace ++ _).length < _; rw [List.length_append]; unfold trMax; simp only [List.length_cons, List.length_nil]; omega)
  rw [show (r3.s.more [⟨0, 1, k.first⟩]).keys 3 = ⟨sB, 3, 1⟩ from hk3] at hky
  have HKY := Lib.hid hky
  clear hky hL6 HLF
  go_wp2_with (first | (go_at_call 15; refine HKY.out.mono ?_; rintro x w9 ⟨rfl, hL8, -⟩; obtain ⟨W, hW⟩ : ∃ W, w9.alloc (.cells #[.string ⟨#[]⟩, .int .u64 0, .int .u8 0] 36) = W := ⟨_, rfl⟩; have kz : Blk W w9.heap.size 36 (ikC ik0) := (by rw [← hW]; exact Blk.new w9 _ _); have hbW : Below w9.heap.size w9 W := (by rw [← hW]; exact (Below.refl _ _).alloc (Nat.le_refl _) _)) | (refine wpList_store_blk rfl 36 _ _ rfl w9.heap.size (ikC ⟨sB, 3, 1⟩) (by rfl) (by rfl) (ikC ik0) kz infoIk (by rfl) (by simp [ikC, Value.oneCell']) ?_; have hst : AwR w (W.setRow w9.heap.size (ikC ⟨sB, 3, 1⟩).toArray) k c r3.L w9.heap.size 2000000 := aw_box hL8 kz hbW hinv hk0 (by simp); obtain ⟨WA, hWA⟩ : ∃ WA, W.setRow w9.heap.size (ikC ⟨sB, 3, 1⟩).toArray = WA := ⟨_, rfl⟩; rw [hWA]; rw [hWA] at hst; clear hWA hbW kz hW hL8))
  go_wp2_with (go_at_call 36; have q := hst.rows 0 (by decide) [1, 3, 2] hl0 (by decide) (by decide); clear hst; refine q.mono ?_; clear q; rintro x wa ⟨rfl, hsa⟩)
  go_wp2_with (go_at_call 36; have q := hsa.rows 1 (by decide) [1, 3] hl1 (by decide) (by decide); clear hsa; refine q.mono ?_; clear q; rintro x wb ⟨rfl, hsb⟩)
  go_wp2_with (go_at_call 36; have q := hsb.rows 2 (by decide) [3] hl2 (by decide) (by decide); clear hsb; refine q.mono ?_; clear q; rintro x wc ⟨rfl, hsc⟩)
  go_wp2_with (go_at_call 36; have q := hsc.rows0 3 (by decide) hl3 (by decide); clear hsc; refine q.mono ?_; clear q; rintro x wd ⟨rfl, hsd⟩; have zb : sB.toList = [98] := (by rw [ByteArray.toList_eq]; rfl); have z0 := hsd.box.cell 0 (v := .string sB) rfl; have z1 := hsd.box.cell 1 (v := .int .u64 3) rfl)
  go_ret
  exact ⟨rfl, hsd.below⟩
end Go.Proofs.Ytkpjfdhjkgdcbaa
