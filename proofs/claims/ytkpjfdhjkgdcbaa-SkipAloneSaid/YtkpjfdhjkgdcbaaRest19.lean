/- A list at rest, in a law's walk: its operations. -/
import Derived.Test.YtkpjfdhjkgdcbaaRow19

namespace Go.Proofs.Ytkpjfdhjkgdcbaa
open Go.RowKit

def Sk.more (s : Sk) (t : List Acc) : Sk := { s with trace := s.trace ++ t }
/-- A list that was made behind w0, and what it holds. -/
structure LW (w0 w : World) (k : SkRef) (c : CRef) (s : Sk) (A : Nat → Prop) : Prop where
  ex : ∃ S, Lx w k c S A ∧ Rel k s S
  base : ∀ j, A j → w0.heap.size ≤ j
  below : Below w0.heap.size w0 w
theorem LW.fresh {w0 w : World} {k : SkRef} {c : CRef} {s : Sk} {A : Nat → Prop} (h : LW w0 w k c s A) : Fresh A w := by obtain ⟨S, L, _⟩ := h.ex; exact L.fresh
theorem LW.lt {w0 w : World} {k : SkRef} {c : CRef} {s : Sk} {A : Nat → Prop} (h : LW w0 w k c s A) : ¬ A k.lp ∧ ¬ A k.aq := by obtain ⟨S, L, _⟩ := h.ex; exact ⟨L.hl, L.ha⟩
theorem LW.to {w0 w w' : World} {k : SkRef} {c : CRef} {s s' : Sk} {A A' : Nat → Prop} (h : LW w0 w k c s A) {S' : Mem} (L : Lx w' k c S' A') (R : Rel k s' S') (hA : ∀ j, A' j → A j) (ho : Only A w w') : LW w0 w' k c s' A' :=
  ⟨⟨S', L, R⟩, fun j q => h.base j (hA j q), h.below.trans (ho.below h.below.size fun j hj q => absurd (h.base j q) (Nat.not_le.mpr hj))⟩
/-- The law's own blocks have turned. -/
theorem LW.own {w0 w w' : World} {k : SkRef} {c : CRef} {s : Sk} {A B : Nat → Prop} (h : LW w0 w k c s A) (ho : Only B w w') (hAB : ∀ j, j < w.heap.size → A j → ¬ B j) (h1 : ¬ B k.lp) (h2 : ¬ B k.aq) (hB : ∀ j, B j → w0.heap.size ≤ j) : LW w0 w' k c s (boxA A w.heap.size w'.heap.size) := by
  obtain ⟨S, L, R⟩ := h.ex
  exact ⟨⟨S, L.cut ho hAB h1 h2, R⟩, fun j q => h.base j q.1, h.below.trans (ho.below h.below.size fun j hj q => absurd (hB j q) (Nat.not_le.mpr hj))⟩
theorem LW.made {w0 w : World} {k : SkRef} {c : CRef} {s : Sk} {A : Nat → Prop} (h : LW w0 w k c s A) {w' : World} (hb : Below w.heap.size w w') : LW w0 w' k c s (boxA A w.heap.size w'.heap.size) :=
  h.own (B := fun _ => False) (Only.of_below hb) (fun _ _ _ q => q) (fun q => q) (fun q => q) (fun _ q => q.elim)
theorem LW.mono {w0 w : World} {k : SkRef} {c : CRef} {s : Sk} {A : Nat → Prop} (h : LW w0 w k c s A) {B : Nat → Prop} (hf : Fresh B w) (hB : ∀ j, j < w.heap.size → A j → B j) (hb : ∀ j, B j → w0.heap.size ≤ j) (h1 : ¬ B k.lp) (h2 : ¬ B k.aq) : LW w0 w k c s B := by
  obtain ⟨S, L, R⟩ := h.ex
  exact ⟨⟨S, ⟨L.sk, L.mem.mono hB, hf, h1, h2, L.f0, L.p0, L.f1, L.p1, L.u0, L.u1, L.short⟩, R⟩, hb, h.below⟩

/-- A list with all inserts ended. -/
structure Rest (k : SkRef) (T N : Nat) (r : RS) : Prop where
  inv : RInv k T N r
  none_ : ∀ j, r.now j = none
theorem LW.put {w0 w : World} {k : SkRef} {c : CRef} {A : Nat → Prop} {T N : Nat} {r : RS} (h : LW w0 w k c r.s A) (hr : Rest k T N r) (i : Nat) (hi : i < T) (hT : T ≤ 64) (e : En) (he : e.right = true) (hw : e.k.Wf) (height : Int) (h0 : 1 ≤ height) (h1 : height ≤ 6) (hN : r.begun + 1 ≤ N) (hk : ∀ p, p ∈ r.well → p.e.k ≠ e.k)
    (hu : r.s.asked + needI (ins0 i e height) ≤ k.units) (ht : r.s.trace.length + most T N + 3 < trMax) :
    Calls Try.prog 13 #[.pointer (some ⟨k.lp, 0, none⟩), .int .i64 (i : Int), .agg (enC e).toArray, .int .i64 height] w fun x w' => x = .returned (.int .i64 0) ∧ ∃ r' : RS, LW w0 w' k c r'.s A ∧ Rest k T N r' ∧ r'.well = r.well ++ [⟨r.s.count + 1, e, height⟩] ∧ r'.s.asked = r.s.asked + needI (ins0 i e height) ∧ r'.s.count = r.s.count + 1 ∧ r'.begun = r.begun + 1 ∧ r'.s.trace.length ≤ r.s.trace.length + most T N + 3 ∧ Only A w w' := by
  obtain ⟨S, L, R⟩ := h.ex
  obtain ⟨n, r', a1, a2, a3, a4, a5, a6, a7, a8, a9, a10, a11⟩ := run_alone hr.inv hr.none_ hi hT he hw h0 h1 hN hk hu ht (by unfold trMax at ht; omega)
  refine (put_any L R (i : Int) height e (by omega) (by omega) h0 h1 he n a2 a1).mono ?_
  rintro x w' ⟨S', rfl, R', L', o'⟩
  rw [a3] at R'
  exact ⟨by rw [a4], r', h.to L' R' (fun _ q => q) o', ⟨a5, a6⟩, a7, a8, a9, a10, a11, o'⟩
/-- A level of a list at rest. -/
theorem Rest.chain {k : SkRef} {T N : Nat} {r : RS} (h : Rest k T N r) {S : Mem} (R : Rel k r.s S) {l : Nat} (hl : l < 6) : Chain (fun n => S.at_ (cellI k n l)) 0 (r.L l) ∧ ∀ n, n ∈ r.L l → 1 ≤ n ∧ n ≤ k.units / 6 := by
  have hc : r.s.count ≤ k.units / 6 := by have := h.inv.b.room; omega
  have hp : ∀ n, n ∈ r.L l → 1 ≤ n ∧ n ≤ k.units / 6 := fun n hn => by have := h.inv.v.pos l hl n hn; omega
  have hu := h.inv.b.u0
  exact ⟨(h.inv.v.chain l hl).congr (R.next 0 l (Int.le_refl 0) (by omega) hl) fun m hm => R.next m l (by have := hp m hm; omega) (hp m hm).2 hl, hp⟩
theorem chain_any {k : SkRef} {T N : Nat} {r : RS} (h : RInv k T N r) {S : Mem} (R : Rel k r.s S) {l : Nat} (hl : l < 6) : Chain (fun n => S.at_ (cellI k n l)) 0 (r.L l) ∧ ∀ n, n ∈ r.L l → 1 ≤ n ∧ n ≤ k.units / 6 := by
  have hc : r.s.count ≤ k.units / 6 := by have := h.b.room; omega
  have hp : ∀ n, n ∈ r.L l → 1 ≤ n ∧ n ≤ k.units / 6 := fun n hn => by have := h.v.pos l hl n hn; omega
  have hu := h.b.u0
  exact ⟨(h.v.chain l hl).congr (R.next 0 l (Int.le_refl 0) (by omega) hl) fun m hm => R.next m l (by have := hp m hm; omega) (hp m hm).2 hl, hp⟩
theorem LW.row {w0 w : World} {k : SkRef} {c : CRef} {A : Nat → Prop} {T N : Nat} {r : RS} (h : LW w0 w k c r.s A) (hr : RInv k T N r) (task : Int) (t0 : 0 ≤ task) (t1 : task < 64) (l : Nat) (hl : l < 6) (most : Nat) (hm : most ≤ 1000) (hlen : (r.L l).length ≤ most) (hn : r.s.trace.length + most + 1 < trMax) :
    Calls Try.prog 37 #[.pointer (some ⟨k.lp, 0, none⟩), .int .i64 task, .int .i64 (l : Int), .int .i64 (most : Int)] w fun e w' => ∃ v A' t, e = .returned (.tuple #[v, .bool true]) ∧ Row w' 3 1 v (r.L l).length (ints (r.L l)) (fun j => w.heap.size ≤ j ∧ ¬ A' j) ∧ LW w0 w' k c (r.s.more t) A' ∧ (∀ j, A' j → A j) ∧ Only A w w' ∧ t.length ≤ most + 1 := by
  obtain ⟨S, L, R⟩ := h.ex
  obtain ⟨hc, hp⟩ := chain_any hr R hl
  refine (row_any L task (l : Int) t0 t1 (by omega) (by omega) most hm (r.L l) hlen hc hp (by rw [R.trace]; omega)).mono ?_
  rintro e w' ⟨v, A', t, rfl, hi⟩
  exact ⟨v, A', t, rfl, hi.row, h.to hi.lx (R.more t) hi.sub hi.only, hi.sub, hi.only, by have := hi.len; omega⟩
set_option maxHeartbeats 1000000 in
theorem LW.rows {w0 w : World} {k : SkRef} {c : CRef} {A : Nat → Prop} {T N : Nat} {r : RS} (h : LW w0 w k c r.s A) (hr : RInv k T N r) (l : Nat) (hl : l < 6) (hlen : (r.L l).length ≤ 100) (hn : r.s.trace.length + 200 < trMax) (v : Value) (m : Nat) (want : List Int) (hv : Reads w 1 v m (ints want)) (hva : ∀ b, v.ownBlock = some b → ¬ A b) (heq : r.L l = want) :
    Calls Try.prog 36 #[.pointer (some ⟨k.lp, 0, none⟩), .int .i64 (l : Int), v] w fun e w' => e = .returned (.bool true) ∧ ∃ A' t, LW w0 w' k c (r.s.more t) A' ∧ (∀ j, A' j → A j) ∧ Only A w w' ∧ t.length ≤ 101 := by
  have hrow := h.row hr 0 (by decide) (by decide) l hl 100 (by decide) hlen (by omega)
  have HROW := Lib.hid hrow
  have HV := Lib.hid hv
  have HQ := Lib.hid heq
  clear hrow hv heq hn
  go_enter Try.func36, Try.ntmps36
  go_wp2_with (first | (go_at_call 37; refine HROW.out.mono ?_; rintro e w1 ⟨v1, A', t, rfl, hR1, hL1, hs1, ho1, ht1⟩) | (go_at_call 60; refine (lowInts _ v1 v (r.L l).length m (r.L l) want hR1.reads (HV.out.only hva ho1) (by omega)).mono ?_; rintro e w2 ⟨rfl, hq2⟩))
  go_ret
  refine ⟨by rw [HQ.out]; simp, A', t, ?_, hs1, ho1.trans (hq2.only _), ht1⟩
  obtain ⟨S, L, R⟩ := hL1.ex
  exact ⟨⟨S, L.quiet hq2, R⟩, hL1.base, hL1.below.trans (hq2.below _)⟩
theorem LW.key {w0 w : World} {k : SkRef} {c : CRef} {A : Nat → Prop} {s : Sk} (h : LW w0 w k c s A) (task n : Int) (t0 : 0 ≤ task) (t1 : task < 64) (n0 : 1 ≤ n) (n1 : n ≤ k.units / 6) (hn : s.trace.length < trMax) :
    Calls Try.prog 15 #[.pointer (some ⟨k.lp, 0, none⟩), .int .i64 task, .int .i64 n] w fun e w' => e = .returned (.tuple #[.agg (ikC (s.keys n)).toArray, .int .i64 0]) ∧ LW w0 w' k c (s.more [⟨task, 6, placeI k n⟩]) A ∧ Only A w w' := by
  obtain ⟨S, L, R⟩ := h.ex
  refine (lkey_any L (by rw [R.trace]; exact hn) task n t0 t1 n0 n1 (s.keys n) (R.key n n0 n1)).mono ?_
  rintro e w' ⟨rfl, hC, hO⟩
  exact ⟨rfl, h.to (L.next hC hO (Mem.Like.note _ _)) (R.note _) (fun _ q => q) hO, hO⟩
theorem LW.val {w0 w : World} {k : SkRef} {c : CRef} {A : Nat → Prop} {s : Sk} (h : LW w0 w k c s A) (task n : Int) (t0 : 0 ≤ task) (t1 : task < 64) (n0 : 1 ≤ n) (n1 : n ≤ k.units / 6) (hn : s.trace.length < trMax) :
    Calls Try.prog 18 #[.pointer (some ⟨k.lp, 0, none⟩), .int .i64 task, .int .i64 n] w fun e w' => e = .returned (.tuple #[.string (s.vals n), .int .i64 0]) ∧ LW w0 w' k c (s.more [⟨task, 6, placeI k n + 1⟩]) A ∧ Only A w w' := by
  obtain ⟨S, L, R⟩ := h.ex
  refine (lval_any L (by rw [R.trace]; exact hn) task n t0 t1 n0 n1 _ rfl _ (R.val n n0 n1)).mono ?_
  rintro e w' ⟨rfl, hC, hO⟩
  exact ⟨by simp, h.to (L.next hC hO (Mem.Like.note _ _)) (R.note _) (fun _ q => q) hO, hO⟩
theorem LW.next {w0 w : World} {k : SkRef} {c : CRef} {A : Nat → Prop} {s : Sk} (h : LW w0 w k c s A) (task n : Int) (l : Nat) (t0 : 0 ≤ task) (t1 : task < 64) (n0 : 0 ≤ n) (n1 : n ≤ k.units / 6) (hl : l < 6) (hx : 0 ≤ s.next n l ∧ s.next n l ≤ 9223372036854775807) (hn : s.trace.length < trMax) :
    Calls Try.prog 29 #[.pointer (some ⟨k.lp, 0, none⟩), .int .i64 task, .int .i64 n, .int .i64 (l : Int)] w fun e w' => e = .returned (.tuple #[.int .i64 (s.next n l), .int .i64 0]) ∧ LW w0 w' k c (s.more [⟨task, 1, cellI k n l⟩]) A ∧ Only A w w' := by
  obtain ⟨S, L, R⟩ := h.ex
  refine (lnext_any L (by rw [R.trace]; exact hn) task n (l : Int) t0 t1 n0 n1 (by omega) (by omega) _ (R.next n l n0 n1 hl) hx.1 hx.2).mono ?_
  rintro e w' ⟨rfl, hC, hO⟩
  exact ⟨rfl, h.to (L.next hC hO (Mem.Like.note _ _)) (R.note _) (fun _ q => q) hO, hO⟩
theorem LW.left {w0 w : World} {k : SkRef} {c : CRef} {A : Nat → Prop} {s : Sk} (h : LW w0 w k c s A) (task : Int) (t0 : 0 ≤ task) (t1 : task < 64) (ha : 0 ≤ s.asked) (hn : s.trace.length < trMax) (y : Int) (hy : (if s.asked ≤ k.units then k.units - s.asked else 0) = y) :
    Calls Try.prog 31 #[.pointer (some ⟨k.lp, 0, none⟩), .int .i64 task] w fun e w' => e = .returned (.tuple #[.int .u64 y, .int .i64 0]) ∧ LW w0 w' k c (s.more [⟨task, 1, k.first⟩]) A ∧ Only A w w' := by
  obtain ⟨S, L, R⟩ := h.ex
  refine (lleft_any L (by rw [R.trace]; exact hn) task t0 t1 _ R.asked ha y hy).mono ?_
  rintro e w' ⟨rfl, hC, hO⟩
  exact ⟨rfl, h.to (L.next hC hO (Mem.Like.note _ _)) (R.note _) (fun _ q => q) hO, hO⟩
theorem RInv.more' {k : SkRef} {T N : Nat} {r : RS} (h : RInv k T N r) (t : List Acc) : RInv k T N (r.more t) ∧ (r.more t).s = r.s.more t := ⟨h.more t, rfl⟩
theorem Rest.more {k : SkRef} {T N : Nat} {r : RS} (h : Rest k T N r) (t : List Acc) : Rest k T N (r.more t) := ⟨h.inv.more t, h.none_⟩

theorem sorted_unique {R : Int → Int → Prop} (irr : ∀ x, ¬ R x x) (asym : ∀ x y, R x y → ¬ R y x) : ∀ {L M : List Int}, L.Pairwise R → M.Pairwise R → (∀ n, n ∈ L ↔ n ∈ M) → L = M
  | [], [], _, _, _ => rfl
  | [], b :: _, _, _, h => by have := (h b).2 List.mem_cons_self; cases this
  | a :: _, [], _, _, h => by have := (h a).1 List.mem_cons_self; cases this
  | a :: L, b :: M, hl, hm, h => by
    have hl' := List.pairwise_cons.1 hl
    have hm' := List.pairwise_cons.1 hm
    have hab : a = b := by
      rcases List.mem_cons.1 ((h a).1 List.mem_cons_self) with q | q
      · exact q
      · rcases List.mem_cons.1 ((h b).2 List.mem_cons_self) with q2 | q2
        · exact q2.symm
        · exact absurd (hl'.1 b q2) (asym _ _ (hm'.1 a q))
    subst hab
    refine congrArg (a :: ·) (sorted_unique irr asym hl'.2 hm'.2 fun n => ?_)
    constructor
    · intro q
      rcases List.mem_cons.1 ((h n).1 (List.mem_cons_of_mem _ q)) with e | e
      · exact absurd (hl'.1 n q) (by rw [e]; exact irr a)
      · exact e
    · intro q
      rcases List.mem_cons.1 ((h n).2 (List.mem_cons_of_mem _ q)) with e | e
      · exact absurd (hm'.1 n q) (by rw [e]; exact irr a)
      · exact e
/-- Whose node is on a level of a list at rest. -/
theorem Rest.mem {k : SkRef} {T N : Nat} {r : RS} (h : Rest k T N r) {l : Nat} (hl : l < 6) (n : Int) : n ∈ r.L l ↔ ∃ p, p ∈ r.well ∧ p.node = n ∧ (l : Int) < p.h := by
  constructor
  · intro hn
    rcases h.inv.v.all n (h.inv.v.sub0 l hl n hn) with ⟨p, hp, rfl⟩ | ⟨j, y, hy, _⟩
    · exact ⟨p, hp, rfl, ((h.inv.v.wl p hp).link l hl).1 hn⟩
    · rw [h.none_ j] at hy; cases hy
  · rintro ⟨p, hp, rfl, hq⟩
    exact ((h.inv.v.wl p hp).link l hl).2 hq
theorem Rest.level {k : SkRef} {T N : Nat} {r : RS} (h : Rest k T N r) {l : Nat} (hl : l < 6) (want : List Int) (hs : want.Pairwise fun a b => (r.s.keys a).lt (r.s.keys b)) (hm : ∀ n, n ∈ want ↔ ∃ p, p ∈ r.well ∧ p.node = n ∧ (l : Int) < p.h) : r.L l = want :=
  sorted_unique (R := fun a b => (r.s.keys a).lt (r.s.keys b)) (fun _ => IK.lt_irrefl _) (fun _ _ q => IK.lt_asymm q) (h.inv.v.sorted l hl) hs fun n => (h.mem hl n).trans (hm n).symm
theorem Rest.init {k : SkRef} (T N : Nat) (h : 6 ≤ k.units) : Rest k T N RS.init := ⟨RInv.init T N h, fun _ => rfl⟩
theorem getD_replicate {α : Type} (n i : Nat) (x y : α) (h : x = y) : ((List.replicate n x)[i]?).getD y = y := by
  rw [List.getElem?_replicate]
  split
  · exact h
  · rfl
theorem Rel.init (k : SkRef) (a p : Nat) : Rel k sk0 (Mem.new a p) := by
  have e1 : ∀ i, (Mem.new a p).at_ i = 0 := fun i => getD_replicate _ _ _ _ rfl
  have e2 : ∀ i, (Mem.new a p).place i = [] := fun i => getD_replicate _ _ _ _ rfl
  exact ⟨e1 _, e1 _, fun _ _ _ _ _ => e1 _, fun _ _ _ => .inr ⟨e2 _, rfl⟩, fun _ _ _ => e2 _, rfl, fun _ _ _ => e1 _, fun _ _ _ => e2 _, fun _ _ q => by cases q⟩
theorem MadeAt.lw {w0 w : World} {k : SkRef} {c : CRef} {u : Int} {A : Nat → Prop} (h : MadeAt w0 w k c u A) : LW w0 w k c sk0 A := ⟨⟨_, h.lx, Rel.init _ _ _⟩, h.new, h.below⟩
end Go.Proofs.Ytkpjfdhjkgdcbaa
