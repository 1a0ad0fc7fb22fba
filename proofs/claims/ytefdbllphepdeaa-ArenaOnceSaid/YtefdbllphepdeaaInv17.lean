/- What the loops of law 17 keep, and what Take and Left do to it. -/
import Derived.Test.YtefdbllphepdeaaLaw17
import Derived.Test.YtefdbllphepdeaaAccs
namespace Go.Proofs.Ytefdbllphepdeaa
open Go.RowKit


/-- An arena of n units upon a cell; x were asked for, tr was traced; all since w, its memory in A. -/
structure AInv (A : Nat → Prop) (w wr : World) (q : Nat) (c : CRef) (at_ n x : Int) (tr : List Acc) : Prop where
  ex : ∃ S, Cells wr c S A ∧ S.atomics.length = 3 ∧ S.at_ at_ = x ∧ S.trace = tr
  arena : ArenaAt wr q c at_ n A
  fresh : Fresh A wr
  below : Below w.heap.size w wr
  base : ∀ k, A k → w.heap.size ≤ k

theorem AInv.only_cells {A : Nat → Prop} {w wr w' : World} {q : Nat} {c : CRef} {at_ n x y : Int} {tr tr' : List Acc} (h : AInv A w wr q c at_ n x tr) (hO : Only A wr w') (hC : ∃ S, Cells w' c S A ∧ S.atomics.length = 3 ∧ S.at_ at_ = y ∧ S.trace = tr') : AInv A w w' q c at_ n y tr' :=
  ⟨hC, h.arena.only hO, h.fresh.only hO, h.below.trans (hO.below h.below.size (fun k hk hA => by have := h.base k hA; omega)), h.base⟩
theorem AInv.drewN {A : Nat → Prop} {w wr : World} {q : Nat} {c : CRef} {at_ n x : Int} {tr : List Acc} (h : AInv A w wr q c at_ n x tr) (k : Nat) : AInv A w (wr.drewN k) q c at_ n x tr :=
  h.only_cells ((Only.refl A wr).drewN k) (let ⟨S, hC, h1, h2, h3⟩ := h.ex; ⟨S, hC.drewN k, h1, h2, h3⟩)
/-- A box that the round makes is not the arena's. -/
theorem AInv.box {A : Nat → Prop} {w wr : World} {q : Nat} {c : CRef} {at_ n x : Int} {tr : List Acc} (h : AInv A w wr q c at_ n x tr) (o : Obj) : AInv (fun k => A k ∧ k ≠ wr.heap.size) w (wr.alloc o) q c at_ n x tr :=
  ⟨let ⟨S, hC, h1, h2, h3⟩ := h.ex; ⟨S, (hC.sans (Nat.le_refl _)).alloc _, h1, h2, h3⟩,
   ⟨h.arena.blk.alloc _, fun hA => h.arena.out hA.1⟩, h.fresh.sans (by simp) (by simp), h.below.alloc h.below.size _, fun k hk => h.base k hk.1⟩
theorem AInv.unbox {A : Nat → Prop} {w wr : World} {q g : Nat} {c : CRef} {at_ n x : Int} {tr : List Acc} (h : AInv (fun k => A k ∧ k ≠ g) w wr q c at_ n x tr) (hq : ¬ A q) (hb : ∀ k, A k → w.heap.size ≤ k) (hg : g < wr.heap.size) : AInv A w wr q c at_ n x tr :=
  ⟨let ⟨S, hC, h1, h2, h3⟩ := h.ex; ⟨S, hC.mono fun _ _ hA => hA.1, h1, h2, h3⟩,
   ⟨h.arena.blk, hq⟩, ⟨fun k hk => (h.fresh.new k hk).1⟩, h.below, hb⟩

theorem inv_take {A : Nat → Prop} {w wr : World} {q : Nat} {c : CRef} {at_ n x : Int} {tr : List Acc} (h : AInv A w wr q c at_ n x tr) (hn : tr.length < trMax) (task need : Int) (t0 : 0 ≤ task) (t1 : task < 64) (n1 : 1 ≤ need) (n2 : need ≤ 1048576)
    (a0 : 0 ≤ at_) (a1 : at_ < 3) (x0 : 0 ≤ x) (x1 : x + need < 18446744073709551616) (r er : Int) (hr : (x + need ≤ n ∧ r = x ∧ er = 0) ∨ (n < x + need ∧ r = 0 ∧ er = 13)) :
    Calls Try.prog 9 #[.pointer (some ⟨q, 0, none⟩), .int .i64 task, .int .u64 need] wr fun e w' => e = .returned (.tuple #[.int .u64 r, .int .i64 er]) ∧ AInv A w w' q c at_ n (x + need) (tr ++ [⟨task, 5, at_⟩]) ∧ Only A wr w' := by
  obtain ⟨S, hC, h1, h2, h3⟩ := h.ex
  have hr' : takeR (S.at_ at_) n need = (r, er) := by
    rw [h2]
    unfold takeR
    rw [IntKind.wrap_u64, IntKind.wrap_u64]
    rcases hr with ⟨h, rfl, rfl⟩ | ⟨h, rfl, rfl⟩
    · rw [if_neg (by omega)]; congr 1; omega
    · rw [if_pos (by omega)]
  refine (take_to h.arena hC h.fresh (by rw [h3]; exact hn) task need n1 n2 (by rw [h1]; exact decide_eq_true ⟨t0, t1, a0, a1⟩) r er _ hr' rfl).mono ?_
  rintro e w' ⟨rfl, hC', hO⟩
  refine ⟨rfl, h.only_cells hO ⟨_, hC', ?_, ?_, ?_⟩, hO⟩
  · simp [Mem.added, Mem.put, Mem.note, h1]
  · simp only [Mem.added, Mem.at_, Mem.put, Mem.note]
    have : S.atomics.getD at_.toNat 0 = x := h2
    rw [this, IntKind.wrap_u64]
    rw [List.getD_eq_getElem?_getD, List.getElem?_set_self (by omega)]
    show (x + need) % 18446744073709551616 = x + need
    omega
  · simp [Mem.added, Mem.put, Mem.note, h3]

theorem inv_left {A : Nat → Prop} {w wr : World} {q : Nat} {c : CRef} {at_ n x : Int} {tr : List Acc} (h : AInv A w wr q c at_ n x tr) (hn : tr.length < trMax) (task : Int) (t0 : 0 ≤ task) (t1 : task < 64)
    (a0 : 0 ≤ at_) (a1 : at_ < 3) (x0 : 0 ≤ x) (n0 : 0 ≤ n) (n1 : n ≤ 1073741824) (r : Int) (hr : (x ≤ n ∧ r = n - x) ∨ (n < x ∧ r = 0)) :
    Calls Try.prog 8 #[.pointer (some ⟨q, 0, none⟩), .int .i64 task] wr fun e w' => e = .returned (.tuple #[.int .u64 r, .int .i64 0]) ∧ AInv A w w' q c at_ n x (tr ++ [⟨task, 1, at_⟩]) ∧ Only A wr w' := by
  obtain ⟨S, hC, h1, h2, h3⟩ := h.ex
  have hr' : (if S.at_ at_ ≤ n then n - S.at_ at_ else 0) = r := by
    rw [h2]
    rcases hr with ⟨h, rfl⟩ | ⟨h, rfl⟩
    · rw [if_pos (by omega)]
    · rw [if_neg (by omega)]
  refine (left_to h.arena hC h.fresh (by rw [h3]; exact hn) task n0 n1 (by rw [h2]; exact x0) (by rw [h1]; exact decide_eq_true ⟨t0, t1, a0, a1⟩) r _ hr' rfl).mono ?_
  rintro e w' ⟨rfl, hC', hO⟩
  exact ⟨rfl, h.only_cells hO ⟨_, hC', by simp [Mem.note, h1], by simpa [Mem.note, Mem.at_] using h2, by simp [Mem.note, h3]⟩, hO⟩

theorem inv_made {w w' : World} {q : Nat} {c : CRef} {n : Int} (h : Made17 w w' q c n (fun k => w.heap.size ≤ k ∧ k ≠ q)) : AInv (fun k => w.heap.size ≤ k ∧ k ≠ q) w w' q c 1 n 0 [] :=
  ⟨⟨_, h.cells, rfl, rfl, rfl⟩, h.arena, h.fresh, h.below, fun _ h => h.1⟩

theorem inv_store {A : Nat → Prop} {w wr : World} {q : Nat} {c : CRef} {at_ n x : Int} {tr : List Acc} (h : AInv A w wr q c at_ n x tr) (hn : tr.length < trMax) (task y : Int) (t0 : 0 ≤ task) (t1 : task < 64) (a0 : 0 ≤ at_) (a1 : at_ < 3) :
    Calls Try.prog 16 #[.pointer (some ⟨c.p, 0, none⟩), .int .i64 task, .int .i64 at_, .int .u64 y] wr fun e w' => e = .returned (.int .i64 0) ∧ AInv A w w' q c at_ n y (tr ++ [⟨task, 2, at_⟩]) ∧ Only A wr w' := by
  obtain ⟨S, hC, h1, h2, h3⟩ := h.ex
  refine (store_ok hC h.fresh (by rw [h3]; exact hn) task at_ y (by rw [h1]; exact decide_eq_true ⟨t0, t1, a0, a1⟩)).mono ?_
  rintro e w' ⟨rfl, hC', hO⟩
  refine ⟨rfl, h.only_cells hO ⟨_, hC', by simp [Mem.put, Mem.note, h1], ?_, by simp [Mem.put, Mem.note, h3]⟩, hO⟩
  simp only [Mem.at_, Mem.put, Mem.note]
  rw [List.getD_eq_getElem?_getD, List.getElem?_set_self (by omega)]
  rfl

theorem inv_take_no {A : Nat → Prop} {w wr : World} {q : Nat} {c : CRef} {at_ n x : Int} {tr : List Acc} (h : AInv A w wr q c at_ n x tr) (task need : Int) (hno : ¬ (0 ≤ task ∧ task < 64 ∧ 1 ≤ need ∧ need ≤ 1048576)) :
    Calls Try.prog 9 #[.pointer (some ⟨q, 0, none⟩), .int .i64 task, .int .u64 need] wr fun e w' => e = .returned (.tuple #[.int .u64 0, .int .i64 2]) ∧ AInv A w w' q c at_ n x tr ∧ Only A wr w' := by
  obtain ⟨S, hC, h1, h2, h3⟩ := h.ex
  refine (take_refused h.arena hC task need (fun hx => hno ?_)).mono ?_
  · rw [h1] at hx
    have := of_decide_eq_true hx.1
    exact ⟨this.1, this.2.1, hx.2⟩
  · rintro e w' ⟨rfl, hq⟩
    exact ⟨rfl, h.only_cells (hq.only _) ⟨S, hC.quiet hq, h1, h2, h3⟩, hq.only _⟩

theorem inv_left_no {A : Nat → Prop} {w wr : World} {q : Nat} {c : CRef} {at_ n x : Int} {tr : List Acc} (h : AInv A w wr q c at_ n x tr) (task : Int) (hno : ¬ (0 ≤ task ∧ task < 64)) :
    Calls Try.prog 8 #[.pointer (some ⟨q, 0, none⟩), .int .i64 task] wr fun e w' => e = .returned (.tuple #[.int .u64 0, .int .i64 2]) ∧ AInv A w w' q c at_ n x tr ∧ Only A wr w' := by
  obtain ⟨S, hC, h1, h2, h3⟩ := h.ex
  refine (left_task h.arena hC task (decide_eq_false fun hx => hno ⟨hx.1, hx.2.1⟩)).mono ?_
  rintro e w' ⟨rfl, hq⟩
  exact ⟨rfl, h.only_cells (hq.only _) ⟨S, hC.quiet hq, h1, h2, h3⟩, hq.only _⟩

theorem inv_trace {A : Nat → Prop} {w wr : World} {q : Nat} {c : CRef} {at_ n x : Int} {tr : List Acc} (h : AInv A w wr q c at_ n x tr) (hn : tr.length < trMax) :
    Calls Try.prog 12 #[.pointer (some ⟨c.p, 0, none⟩)] wr fun e w' => ∃ v, e = .returned v ∧ Row w' 59 3 v tr.length (accs tr) (fun k => wr.heap.size ≤ k) ∧ AInv A w w' q c at_ n x tr ∧ Below wr.heap.size wr w' := by
  obtain ⟨S, hC, h1, h2, h3⟩ := h.ex
  refine (trace_ok hC (by rw [h3]; exact hn)).mono ?_
  rintro e w' ⟨v, rfl, hr, hc, hb⟩
  rw [h3] at hr
  exact ⟨v, rfl, hr, h.only_cells (Only.of_below hb) ⟨S, hc.mono fun _ _ hk => hk.1, h1, h2, h3⟩, hb⟩

theorem inv_units {A : Nat → Prop} {w wr : World} {q : Nat} {c : CRef} {at_ n x : Int} {tr : List Acc} (h : AInv A w wr q c at_ n x tr) :
    Calls Try.prog 11 #[.pointer (some ⟨q, 0, none⟩)] wr fun e w' => e = .returned (.int .u64 n) ∧ wr = w' := units_ok h.arena

end Go.Proofs.Ytefdbllphepdeaa
