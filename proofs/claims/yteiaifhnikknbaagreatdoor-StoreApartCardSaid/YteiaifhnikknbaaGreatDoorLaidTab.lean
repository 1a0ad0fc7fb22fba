/- What the laid table gives the walks, and that the door's own run lays it. -/
import Derived.WalkKit
import Derived.WalkSpells
import Derived.WalkLawsBesides
import Derived.Lib.Hide
import Derived.Maps.AppendAt
import Derived.Deep.QuietTactic
import Derived.BigQuiet
import Derived.Deep.OwnRows
import Derived.RegionTactic
import Derived.ChangeAlike
import Derived.Deep.RegionLaw
import Derived.Deep.RegionWith
import Derived.Deep.DeepCutAuto
import Derived.Lib.TrailingZeros
import Derived.Test.YteiaifhnikknbaaGreatDoorProg
import Derived.Laws.Bits64b
import Derived.Test.YteiaifhnikknbaaGreatDoorRows
import Derived.ProofKit
import Derived.LaidMore
import Derived.OpenShut
import Derived.Stop.Joined

namespace Go.Proofs.YteiaifhnikknbaaGreatDoor
open Go.RowKit

/-- Only blocks of A, and new ones, have turned. -/
structure Only (A : Nat → Prop) (w w' : World) : Prop where
  os : w'.os = w.os
  tape : w'.tape = w.tape
  output : w'.output = w.output
  size : w.heap.size ≤ w'.heap.size
  block : ∀ k, k < w.heap.size → ¬ A k → w'.heap[k]? = w.heap[k]?

theorem Only.refl (A : Nat → Prop) (w : World) : Only A w w := ⟨rfl, rfl, rfl, Nat.le_refl _, fun _ _ _ => rfl⟩
theorem Only.trans {A : Nat → Prop} {a b c : World} (h : Only A a b) (k : Only A b c) : Only A a c :=
  ⟨k.os.trans h.os, k.tape.trans h.tape, k.output.trans h.output, Nat.le_trans h.size k.size,
    fun i hi hA => (k.block i (Nat.lt_of_lt_of_le hi h.size) hA).trans (h.block i hi hA)⟩
theorem Only.mono {A B : Nat → Prop} {w w' : World} (h : Only A w w') (hAB : ∀ k, k < w.heap.size → A k → B k) : Only B w w' :=
  ⟨h.os, h.tape, h.output, h.size, fun k hk hB => h.block k hk (fun hA => hB (hAB k hk hA))⟩
theorem Only.drew {A : Nat → Prop} {a w : World} (h : Only A a w) : Only A a w.drew := ⟨h.os, h.tape, h.output, h.size, h.block⟩
theorem Only.of_drew {A : Nat → Prop} {w w' : World} (h : Only A w.drew w') : Only A w w' := ⟨h.os, h.tape, h.output, h.size, h.block⟩
theorem Only.drewN {A : Nat → Prop} {a w : World} (h : Only A a w) (n : Nat) : Only A a (w.drewN n) := ⟨h.os, h.tape, h.output, h.size, h.block⟩
theorem Only.alloc {A : Nat → Prop} {a w : World} (h : Only A a w) (o : Obj) : Only A a (w.alloc o) :=
  h.trans ⟨rfl, rfl, rfl, by simp, fun k hk _ => Below.heap_alloc _ _ _ hk⟩
theorem Only.setCell {A : Nat → Prop} {a w : World} (h : Only A a w) {p : Addr} (hp : A p.block) (u : Value) : Only A a (w.setCell p u) :=
  h.trans ⟨rfl, rfl, rfl, by simp [World.setCell], fun k _ hk => Below.heap_setCell _ _ _ _ (fun e => hk (e ▸ hp))⟩
theorem Only.grown {A : Nat → Prop} {a w w' : World} {row : Option Nat} (h : Only A a w) (hg : w.grownBy w' row) (hr : ∀ k, row = some k → A k) : Only A a w' :=
  h.trans ⟨hg.os, hg.tape, hg.output, hg.size, fun k hk hA => hg.block k hk (fun e => hA (hr k e.symm))⟩
theorem Only.below {A : Nat → Prop} {B : Nat} {w w' : World} (h : Only A w w') (hB : B ≤ w.heap.size) (hA : ∀ k, k < B → ¬ A k) : Below B w w' :=
  ⟨h.os, h.tape, h.output, h.size, fun k hk => h.block k (Nat.lt_of_lt_of_le hk hB) (hA k hk)⟩
theorem Only.of_below {A : Nat → Prop} {w w' : World} (h : Below w.heap.size w w') : Only A w w' :=
  ⟨h.os, h.tape, h.output, h.size, fun k hk _ => h.block k hk⟩
theorem Only.cell {A : Nat → Prop} {w w' : World} (h : Only A w w') {p : Addr} {v : Value} (hA : ¬ A p.block) (hc : w.cell? p = some v) : w'.cell? p = some v :=
  (World.cell?_of_block (w := w) (h.block p.block (World.block_lt_of_cell? w p hc) hA)).trans hc

/-- All new blocks belong to A. -/
structure Fresh (A : Nat → Prop) (w : World) : Prop where
  new : ∀ k, w.heap.size ≤ k → A k
theorem Fresh.only {A B : Nat → Prop} {w w' : World} (h : Fresh A w) (ho : Only B w w') : Fresh A w' := ⟨fun k hk => h.new k (Nat.le_trans ho.size hk)⟩
theorem Fresh.alloc {A : Nat → Prop} {w : World} (h : Fresh A w) (o : Obj) : Fresh A (w.alloc o) := ⟨fun k hk => h.new k (by simp at hk; omega)⟩
theorem Fresh.drew {A : Nat → Prop} {w : World} (h : Fresh A w) : Fresh A w.drew := ⟨h.new⟩

/-- Blocks of A lie as they lay. -/
structure Same (A : Nat → Prop) (w w' : World) : Prop where
  block : ∀ k, A k → k < w.heap.size → w'.heap[k]? = w.heap[k]?
theorem Same.refl (A : Nat → Prop) (w : World) : Same A w w := ⟨fun _ _ _ => rfl⟩
theorem Same.trans {A : Nat → Prop} {a b c : World} (h : Same A a b) (hs : a.heap.size ≤ b.heap.size) (k : Same A b c) : Same A a c :=
  ⟨fun i hA hi => (k.block i hA (Nat.lt_of_lt_of_le hi hs)).trans (h.block i hA hi)⟩
theorem Same.of_only {A B : Nat → Prop} {w w' : World} (h : Only B w w') (hd : ∀ k, k < w.heap.size → A k → ¬ B k) : Same A w w' := ⟨fun k hA hk => h.block k hk (hd k hk hA)⟩
theorem Same.of_below (A : Nat → Prop) {w w' : World} (h : Below w.heap.size w w') : Same A w w' := ⟨fun k _ hk => h.block k hk⟩
theorem Same.alloc (A : Nat → Prop) (w : World) (o : Obj) : Same A w (w.alloc o) := ⟨fun k _ hk => Below.heap_alloc _ _ _ hk⟩
theorem Same.drew (A : Nat → Prop) (w : World) : Same A w w.drew := ⟨fun _ _ _ => rfl⟩
theorem Same.setCell {A : Nat → Prop} {w : World} {p : Addr} (hp : ¬ A p.block) (u : Value) : Same A w (w.setCell p u) := ⟨fun k hA _ => Below.heap_setCell _ _ _ _ (fun e => hp (e ▸ hA))⟩

/-- A slice that owns a row whose block belongs to A. -/
structure Row (w : World) (e size : Nat) (v : Value) (n : Nat) (xs : List Value) (A : Nat → Prop) : Prop where
  owns : w.ownsRow 0 e size v n xs
  home : ∀ k, v.ownBlock = some k → A k

theorem Row.nil (w : World) (e size : Nat) (A : Nat → Prop) : Row w e size (.slice none 0 0) 0 [] A := ⟨World.ownsRow_nil _ _ _ _, fun k h => by cases h⟩
theorem Row.lt {w : World} {e size n : Nat} {v : Value} {xs : List Value} {A : Nat → Prop} (h : Row w e size v n xs A) {k : Nat} (hk : v.ownBlock = some k) : k < w.heap.size := (h.owns.lt k hk).2
theorem Row.keep {w w' : World} {e size n : Nat} {v : Value} {xs : List Value} {A : Nat → Prop} (h : Row w e size v n xs A) (hs : ∀ k, v.ownBlock = some k → w'.heap[k]? = w.heap[k]?) : Row w' e size v n xs A := by
  refine ⟨⟨h.owns.1, ?_⟩, h.home⟩
  rcases h.owns.2 with hn | ⟨g, cap, cur, rfl, hb, hg, rest⟩
  · exact .inl hn
  · exact .inr ⟨g, cap, cur, rfl, hb, (hs g rfl).trans hg, rest⟩
theorem Row.same {w w' : World} {e size n : Nat} {v : Value} {xs : List Value} {A : Nat → Prop} (h : Row w e size v n xs A) (hs : Same A w w') : Row w' e size v n xs A :=
  h.keep fun k hk => hs.block k (h.home k hk) (h.lt hk)
theorem Row.mono {w : World} {e size n : Nat} {v : Value} {xs : List Value} {A B : Nat → Prop} (h : Row w e size v n xs A) (hAB : ∀ k, k < w.heap.size → A k → B k) : Row w e size v n xs B :=
  ⟨h.owns, fun k hk => hAB k (h.lt hk) (h.home k hk)⟩
theorem Row.alloc {w : World} {e size n : Nat} {v : Value} {xs : List Value} {A : Nat → Prop} (h : Row w e size v n xs A) (o : Obj) : Row (w.alloc o) e size v n xs A :=
  h.keep fun k hk => Below.heap_alloc _ _ _ (h.lt hk)
theorem Row.form {w : World} {e size n : Nat} {v : Value} {xs : List Value} {A : Nat → Prop} (h : Row w e size v n xs A) : (v = .slice none 0 0 ∧ n = 0) ∨ ∃ g cap, v = .slice (some ⟨g, 0, none⟩) n cap ∧ A g ∧ g < w.heap.size ∧ n ≤ cap := by
  rcases h.owns.2 with hn | ⟨g, cap, cur, rfl, hb, hg, h1, _⟩
  · exact .inl hn
  · exact .inr ⟨g, cap, rfl, h.home g rfl, h.lt rfl, h1⟩
theorem Row.slice {w : World} {e size n : Nat} {v : Value} {xs : List Value} {A : Nat → Prop} (h : Row w e size v n xs A) : ∃ ao cap, v = .slice ao n cap := by
  rcases h.form with ⟨rfl, rfl⟩ | ⟨g, cap, rfl, _⟩
  · exact ⟨none, 0, rfl⟩
  · exact ⟨_, cap, rfl⟩
/-- The block of a row is of its element's type. -/
theorem Row.tag {w : World} {e size n : Nat} {v : Value} {xs : List Value} {A : Nat → Prop} (h : Row w e size v n xs A) {k : Nat} (hk : v.ownBlock = some k) : ∃ cur, w.heap[k]? = some (.cells cur e (0, 0)) := by
  rcases h.owns.2 with ⟨rfl, _⟩ | ⟨g, cap, cur, rfl, hb, hg, _⟩
  · cases hk
  · obtain rfl : g = k := by simpa [Value.ownBlock] using hk
    exact ⟨cur, hg⟩
theorem Row.block_ne {w : World} {e size n : Nat} {v : Value} {xs : List Value} {A : Nat → Prop} (h : Row w e size v n xs A) {b t : Nat} {cs : Array Value} {fr : Nat × Nat} (hb : w.heap[b]? = some (.cells cs t fr)) (hne : t ≠ e) : v.ownBlock ≠ some b := by
  intro hk
  obtain ⟨cur, hc⟩ := h.tag hk
  rw [hb] at hc
  injection hc with hc
  injection hc with _ ht
  exact hne ht

theorem Same.drewN (A : Nat → Prop) (w : World) (n : Nat) : Same A w (w.drewN n) := ⟨fun _ _ _ => rfl⟩
/-- Nothing has turned but the count of draws. -/
structure Quiet (w w' : World) : Prop where
  out : ∃ n, w' = w.drewN n
theorem Quiet.refl (w : World) : Quiet w w := ⟨⟨0, rfl⟩⟩
theorem Quiet.only {w w' : World} (h : Quiet w w') (A : Nat → Prop) : Only A w w' := by obtain ⟨n, rfl⟩ := h.out; exact (Only.refl A w).drewN n
theorem Quiet.trans {a b c : World} (h : Quiet a b) (k : Quiet b c) : Quiet a c := by
  obtain ⟨n, rfl⟩ := h.out
  obtain ⟨m, rfl⟩ := k.out
  exact ⟨⟨n + m, World.drewN_drewN ..⟩⟩
theorem Quiet.below {w w' : World} (h : Quiet w w') (B : Nat) : Below B w w' := by obtain ⟨n, rfl⟩ := h.out; exact ⟨rfl, rfl, rfl, Nat.le_refl _, fun _ _ => rfl⟩
theorem Quiet.same {w w' : World} (h : Quiet w w') (A : Nat → Prop) : Same A w w' := by obtain ⟨n, rfl⟩ := h.out; exact Same.drewN A w n

/-- A block that is known whole. -/
def Blk (w : World) (b t : Nat) (cs : List Value) : Prop := w.heap[b]? = some (.cells cs.toArray t (0, 0))
theorem Blk.lt {w : World} {b t : Nat} {cs : List Value} (h : Blk w b t cs) : b < w.heap.size := (Array.getElem?_eq_some_iff.1 h).1
theorem Blk.cell {w : World} {b t : Nat} {cs : List Value} (h : Blk w b t cs) (i : Nat) {v : Value} (hv : cs[i]? = some v) : w.cell? ⟨b, i, none⟩ = some v := by
  simp [World.cell?, show w.heap[b]? = _ from h, hv]
theorem Blk.frozen {w : World} {b t : Nat} {cs : List Value} (h : Blk w b t cs) (i : Nat) : w.frozen? ⟨b, i, none⟩ = false := by
  simp [World.frozen?, show w.heap[b]? = _ from h]
theorem Blk.new (w : World) (t : Nat) (cs : List Value) : Blk (w.alloc (.cells cs.toArray t)) w.heap.size t cs := heap_alloc_new w _
theorem Blk.keep {w w' : World} {b t : Nat} {cs : List Value} (h : Blk w b t cs) (hs : w'.heap[b]? = w.heap[b]?) : Blk w' b t cs := hs.trans h
theorem Blk.same {w w' : World} {b t : Nat} {cs : List Value} {A : Nat → Prop} (h : Blk w b t cs) (hA : A b) (hs : Same A w w') : Blk w' b t cs := h.keep (hs.block b hA h.lt)
theorem Blk.alloc {w : World} {b t : Nat} {cs : List Value} (h : Blk w b t cs) (o : Obj) : Blk (w.alloc o) b t cs := h.keep (Below.heap_alloc _ _ _ h.lt)
theorem Blk.set {w : World} {b t : Nat} {cs : List Value} (h : Blk w b t cs) (i : Nat) (v : Value) : Blk (w.setCell ⟨b, i, none⟩ v) b t (cs.set i v) := by
  obtain ⟨hlt, hk⟩ := Array.getElem?_eq_some_iff.1 h
  show (w.heap.modify b _)[b]? = _
  rw [Array.getElem?_eq_getElem (by rw [Array.size_modify]; exact hlt), Array.getElem_modify_self, hk]
  simp
theorem Blk.set_other {w : World} {b t : Nat} {cs : List Value} (h : Blk w b t cs) {a : Addr} (hne : b ≠ a.block) (v : Value) : Blk (w.setCell a v) b t cs := h.keep (Below.heap_setCell _ _ _ _ hne)
theorem Blk.grown {w w' : World} {b t : Nat} {cs : List Value} (h : Blk w b t cs) {row : Option Nat} (hg : w.grownBy w' row) (hne : row ≠ some b) : Blk w' b t cs := h.keep (hg.block b h.lt (fun e => hne e.symm))
theorem Blk.ne {w : World} {b b' t t' : Nat} {cs cs' : List Value} (h : Blk w b t cs) (h' : Blk w b' t' cs') (hne : t ≠ t') : b ≠ b' := by
  intro e
  subst e
  have := (show w.heap[b]? = _ from h).symm.trans h'
  injection this with this
  injection this with _ ht
  exact hne ht
theorem Row.ne_blk {w : World} {e size n : Nat} {v : Value} {xs : List Value} {A : Nat → Prop} (h : Row w e size v n xs A) {b t : Nat} {cs : List Value} (hb : Blk w b t cs) (hne : t ≠ e) : v.ownBlock ≠ some b := h.block_ne hb hne
theorem Row.setCell {w : World} {e size n : Nat} {v : Value} {xs : List Value} {A : Nat → Prop} (h : Row w e size v n xs A) {a : Addr} (hne : v.ownBlock ≠ some a.block) (u : Value) : Row (w.setCell a u) e size v n xs A :=
  h.keep fun k hk => Below.heap_setCell _ _ _ _ (fun e => hne (e ▸ hk))
theorem Row.grown {w w' : World} {e size n : Nat} {v : Value} {xs : List Value} {A : Nat → Prop} (h : Row w e size v n xs A) {row : Option Nat} (hg : w.grownBy w' row) (hne : v.ownBlock = none ∨ v.ownBlock ≠ row) : Row w' e size v n xs A :=
  h.keep fun k hk => hg.block k (h.lt hk) (fun e => by rcases hne with h0 | h0
                                                       · rw [h0] at hk; cases hk
                                                       · exact h0 (hk.trans e))

/-- append onto a row of one's own, as one step of a region that draws. -/
theorem step_append_own {P : Program} {ops : Array Oper} {o : Oper} {a : Act} {w : World} {K : Act → World → Prop} {Q : Exit → Act → World → Prop} {E : Prop}
    (hg : o.guard = none) (s x : Operand) (t : TypeId) (ho : o.op = .call { callee := .builtin .append, args := #[s, x], argTypes := #[t, t] })
    (base : Nat) (e : TypeId) (i : TypeInfo) (z : Value) (size bytes : Nat) (ht : P.underlying t = some (.slice e)) (hi : P.info? e = some i) (hz : i.zero = some z)
    (hsize : i.size = size) (hby : i.bytes = bytes) (hzs : z.cells.size = size) (hsz : 0 < size)
    (v : Value) (n : Nat) (xs : List Value) (hs : a.eval s = v) (hown : w.ownsRow base e size v n xs)
    (ad : Addr) (m c : Nat) (news : List Value) (hx : a.eval x = .slice (some ad) m c) (hl : news.length = m * size) (hnews : ∀ j u, news[j]? = some u → w.cell? (ad.add j) = some u) (h1 : ∀ u ∈ news, u.oneCell' = true)
    (h63 : n + m ≤ maxLen) (hbytes : (n + m) * bytes ≤ 140737488355328) (hbase : base ≤ w.heap.size)
    (hK : ∀ v' w', w'.ownsRow base e size v' (n + m) (xs ++ news) → w.grownBy w' v.ownBlock → (v' = .slice none 0 0 ↔ v = .slice none 0 0 ∧ m = 0) → (v'.ownBlock = v.ownBlock ∨ v'.ownBlock = some w.heap.size) → K (a.put o.dst v') w') :
    if Region.wanted o (yielded ops a.tmps) = true then Oper.wp P o a w K Q else E := by
  have hw : Region.wanted o (yielded ops a.tmps) = true := by simp [Region.wanted, hg]
  rw [if_pos hw]
  obtain ⟨v', w', hr, h2, h3, h4, h5⟩ := run_append_own_at (P := P) w base t o.type e i z size bytes ht hi hz hsize hby hzs hsz v n xs hown ad m c news hl hnews h1 h63 hbytes hbase
  unfold Oper.wp execOp
  simp only [ho, resolve, invoke, builtin, Sem.run_bind, Sem.run_pure, Result.andThen_ok, List.map_toArray, List.map_cons, List.map_nil, hs, hx, hr]
  exact hK _ _ h2 h3 h4 h5

/-- A slice that can be read: n elements of 'size' cells each hold xs. -/
structure Reads (w : World) (size : Nat) (v : Value) (n : Nat) (xs : List Value) : Prop where
  len : xs.length = n * size
  form : (n = 0 ∧ ∃ ao c, v = .slice ao 0 c) ∨ ∃ b off c, v = .slice (some ⟨b, off, none⟩) n c ∧ n ≤ c ∧ ∀ j u, xs[j]? = some u → w.cell? ⟨b, off + j, none⟩ = some u
theorem addr_plain (b off j : Nat) : (⟨b, off, none⟩ : Addr).add j = ⟨b, off + j, none⟩ := by unfold Addr.add; split <;> simp_all
theorem Row.reads {w : World} {e size n : Nat} {v : Value} {xs : List Value} {A : Nat → Prop} (h : Row w e size v n xs A) : Reads w size v n xs := by
  refine ⟨h.owns.1, ?_⟩
  rcases h.form with ⟨rfl, rfl⟩ | ⟨g, cap, rfl, _, _, hc⟩
  · exact .inl ⟨rfl, _, _, rfl⟩
  · refine .inr ⟨g, 0, cap, rfl, hc, fun j u hu => ?_⟩
    have := h.owns.cells (g := g) rfl j u hu
    rwa [addr_plain] at this
theorem Reads.slice {w : World} {size n : Nat} {v : Value} {xs : List Value} (h : Reads w size v n xs) : ∃ ao c, v = .slice ao n c := by
  rcases h.form with ⟨rfl, ao, c, rfl⟩ | ⟨b, off, c, rfl, _⟩
  · exact ⟨_, _, rfl⟩
  · exact ⟨_, _, rfl⟩
theorem Reads.keep {w w' : World} {size n : Nat} {v : Value} {xs : List Value} (h : Reads w size v n xs) (hs : ∀ a x, w.cell? a = some x → w'.cell? a = some x) : Reads w' size v n xs :=
  ⟨h.len, h.form.imp id fun ⟨b, o, c, hv, hc, hr⟩ => ⟨b, o, c, hv, hc, fun j u hu => hs _ _ (hr j u hu)⟩⟩
theorem Reads.drewN {w : World} {size n : Nat} {v : Value} {xs : List Value} (h : Reads w size v n xs) (k : Nat) : Reads (w.drewN k) size v n xs := ⟨h.len, h.form⟩
theorem Reads.quiet {w w' : World} {size n : Nat} {v : Value} {xs : List Value} (h : Reads w size v n xs) (hq : Quiet w w') : Reads w' size v n xs := by obtain ⟨k, rfl⟩ := hq.out; exact h.drewN k
theorem cell_alloc_keep {w : World} (o : Obj) (a : Addr) (x : Value) (h : w.cell? a = some x) : (w.alloc o).cell? a = some x :=
  (World.cell?_of_block (w := w) (Below.heap_alloc w o a.block (World.block_lt_of_cell? w a h))).trans h
theorem Reads.alloc {w : World} {size n : Nat} {v : Value} {xs : List Value} (h : Reads w size v n xs) (o : Obj) : Reads (w.alloc o) size v n xs := h.keep (cell_alloc_keep o)
theorem Reads.below {w w' : World} {size n : Nat} {v : Value} {xs : List Value} (h : Reads w size v n xs) (hb : Below w.heap.size w w') : Reads w' size v n xs :=
  h.keep fun a _ hc => (hb.cell (World.block_lt_of_cell? w a hc)).trans hc

/-- A slice that owns an element at least is written out. -/
theorem owns_succ {W : World} {base e size k : Nat} {v : Value} {xs : List Value} (h : W.ownsRow base e size v (k + 1) xs) : ∃ g cap, v = .slice (some ⟨g, 0, none⟩) (k + 1) cap := by
  rcases h.2 with ⟨_, h0⟩ | ⟨g, cap, _, rfl, _⟩
  · omega
  · exact ⟨g, cap, rfl⟩

end Go.Proofs.YteiaifhnikknbaaGreatDoor


namespace Go.Proofs.YteiaifhnikknbaaGreatDoor

/-! How often 4 divides a number. -/
theorem val_unique : ∀ (a b m n : Nat), 2 ^ a * (2 * m + 1) = 2 ^ b * (2 * n + 1) → a = b
  | 0, 0, _, _, _ => rfl
  | 0, b + 1, m, n, h => by rw [Nat.pow_succ, Nat.mul_assoc, Nat.mul_left_comm] at h; omega
  | a + 1, 0, m, n, h => by rw [Nat.pow_succ, Nat.mul_assoc, Nat.mul_left_comm] at h; omega
  | a + 1, b + 1, m, n, h => by
    rw [Nat.pow_succ, Nat.pow_succ, Nat.mul_assoc, Nat.mul_left_comm, Nat.mul_assoc (2 ^ b), Nat.mul_left_comm (2 ^ b)] at h
    rw [val_unique a b m n (by omega)]
theorem ctz_spec (x : Nat) (h0 : x ≠ 0) (h : x < 4294967296) : ∃ m, x = 2 ^ Lib.ctz 32 x * (2 * m + 1) ∧ Lib.ctz 32 x < 32 := by
  have := Lib.ctzFrom_spec 32 x (by omega) (by simpa using h)
  simpa [Lib.ctz, h0] using this
theorem ctz_of (x c m : Nat) (h : x < 4294967296) (e : x = 2 ^ c * (2 * m + 1)) : Lib.ctz 32 x = c := by
  have h0 : x ≠ 0 := by
    rw [e]; have := Nat.two_pow_pos c
    exact Nat.mul_ne_zero (by omega) (by omega)
  obtain ⟨m', e', _⟩ := ctz_spec x h0 h
  exact val_unique _ _ m' m (e'.symm.trans e)

/-- How often 4 divides x (x ≠ 0). -/
def v4 (x : Nat) : Nat := Lib.ctz 32 x / 2
theorem v4_lt (x : Nat) (h0 : x ≠ 0) (h : x < 4294967296) : v4 x < 16 := by
  obtain ⟨_, _, h1⟩ := ctz_spec x h0 h
  unfold v4; omega
theorem v4_four (x : Nat) (h0 : x ≠ 0) (h : x < 4294967296) (h4 : x % 4 = 0) : v4 x = v4 (x / 4) + 1 := by
  obtain ⟨y, rfl⟩ : ∃ y, x = 4 * y := ⟨x / 4, by omega⟩
  have hy : 4 * y / 4 = y := by omega
  obtain ⟨m, e, _⟩ := ctz_spec y (by omega) (by omega)
  have : Lib.ctz 32 (4 * y) = Lib.ctz 32 y + 2 := by
    refine ctz_of _ _ m h ?_
    have : 2 ^ (Lib.ctz 32 y + 2) * (2 * m + 1) = 4 * (2 ^ Lib.ctz 32 y * (2 * m + 1)) := by
      rw [Nat.pow_add, Nat.mul_comm (2 ^ Lib.ctz 32 y), Nat.mul_assoc]
    rw [this, ← e]
  unfold v4
  rw [hy, this]; omega
theorem v4_not (x : Nat) (h0 : x ≠ 0) (h : x < 4294967296) (h4 : x % 4 ≠ 0) : v4 x = 0 := by
  obtain ⟨m, e, _⟩ := ctz_spec x h0 h
  unfold v4
  match hc : Lib.ctz 32 x with
  | 0 => rfl
  | 1 => rfl
  | c + 2 =>
    exfalso
    rw [hc, Nat.pow_succ, Nat.pow_succ, Nat.mul_assoc, Nat.mul_assoc, Nat.mul_left_comm, Nat.mul_left_comm (2 ^ c)] at e
    omega

/-- A number's height. -/
def hgt (x m : Int) : Int := if m < 1 then 0 else if x = 0 then m else if m < 1 + (v4 x.toNat : Int) then m else 1 + (v4 x.toNat : Int)
theorem hgt_low {x m : Int} (h : m < 1) : hgt x m = 0 := by simp [hgt, h]
theorem hgt_zero {m : Int} (h : 1 ≤ m) : hgt 0 m = m := by simp [hgt]; omega
theorem hgt_most {x m : Int} (h : 1 ≤ m) (h0 : x ≠ 0) (h1 : m < 1 + (v4 x.toNat : Int)) : hgt x m = m := by
  unfold hgt; rw [if_neg (by omega), if_neg h0, if_pos h1]
theorem hgt_val {x m : Int} (h : 1 ≤ m) (h0 : x ≠ 0) (h1 : 1 + (v4 x.toNat : Int) ≤ m) : hgt x m = 1 + (v4 x.toNat : Int) := by
  unfold hgt; rw [if_neg (by omega), if_neg h0, if_neg (by omega)]
theorem hgt_bd {x m : Int} (h : 1 ≤ m) : 1 ≤ hgt x m ∧ hgt x m ≤ m := by
  unfold hgt; rw [if_neg (by omega)]
  split
  · omega
  · split <;> omega
theorem hgt_min {x a b : Int} (h : 1 ≤ a) (hab : a ≤ b) : hgt x a = (if a < hgt x b then a else hgt x b) := by
  by_cases h0 : x = 0
  · subst h0; rw [hgt_zero h, hgt_zero (by omega)]; split <;> omega
  · rcases Int.lt_or_le b (1 + (v4 x.toNat : Int)) with h1 | h1
    · rw [hgt_most (by omega) h0 h1, hgt_most h h0 (by omega)]; split <;> omega
    · rw [hgt_val (by omega) h0 h1]
      rcases Int.lt_or_le a (1 + (v4 x.toNat : Int)) with h2 | h2
      · rw [hgt_most h h0 h2, if_pos h2]
      · rw [hgt_val h h0 h2, if_neg (by omega)]
theorem hgt_le {x a b : Int} (h : 1 ≤ a) (hab : a ≤ b) : hgt x a ≤ hgt x b := by
  rw [hgt_min h hab]; split <;> omega

/-- The number at i, round and round. -/
def pickN (nums : List Int) (i : Nat) : Int := if nums.length = 0 then 0 else nums.getD (i % nums.length) 0
def heights (nums : List Int) (n : Nat) (m : Int) : List Int := (List.range n).map fun i => hgt (pickN nums i) m
theorem heights_length (nums : List Int) (n : Nat) (m : Int) : (heights nums n m).length = n := by simp [heights]
theorem heights_succ (nums : List Int) (n : Nat) (m : Int) : heights nums (n + 1) m = heights nums n m ++ [hgt (pickN nums n) m] := by simp [heights, List.range_succ]
theorem heights_get (nums : List Int) (n : Nat) (m : Int) (i : Nat) (h : i < n) : (heights nums n m).getD i 0 = hgt (pickN nums i) m := by
  simp [heights, h]
theorem heights_pos (nums : List Int) (n : Nat) (m : Int) (hm : 1 ≤ m) : ∀ h ∈ heights nums n m, 1 ≤ h ∧ h ≤ m := by
  intro h hh
  simp only [heights, List.mem_map] at hh
  obtain ⟨i, _, rfl⟩ := hh
  exact hgt_bd hm
/-- How many heights are told. -/
def manyOf (many : Int) : Nat := if many < 0 then 0 else if 100000 < many then 100000 else many.toNat
theorem manyOf_le (many : Int) : manyOf many ≤ 100000 := by unfold manyOf; split; omega; split <;> omega

theorem manyOf_int (many : Int) : (if 100000 < (if many < 0 then 0 else many) then 100000 else (if many < 0 then 0 else many)) = (manyOf many : Int) := by
  rcases Int.lt_or_le many 0 with h | h
  · have e : manyOf many = 0 := by unfold manyOf; rw [if_pos h]
    rw [e, if_pos h]; rfl
  · have e0 : (if many < 0 then 0 else many) = many := if_neg (by omega)
    rw [e0]
    rcases Int.lt_or_le 100000 many with h1 | h1
    · have e : manyOf many = 100000 := by unfold manyOf; rw [if_neg (by omega), if_pos h1]
      rw [e, if_pos h1]; rfl
    · have e : manyOf many = many.toNat := by unfold manyOf; rw [if_neg (by omega), if_neg (by omega)]
      rw [e, if_neg (by omega)]; omega

/-! The way. -/
def wayStep (h : Int) (s : Nat × Int) : Nat × Int := if s.2 ≤ h then (s.1 + 1, h) else s
def way (l : List Int) : Nat × Int := l.foldr wayStep (0, 0)
theorem way_nil : way [] = (0, 0) := rfl
theorem way_cons (h : Int) (l : List Int) : way (h :: l) = wayStep h (way l) := rfl
theorem way_hit {h : Int} {l : List Int} (hh : (way l).2 ≤ h) : way (h :: l) = ((way l).1 + 1, h) := by rw [way_cons, wayStep, if_pos hh]
theorem way_miss {h : Int} {l : List Int} (hh : h < (way l).2) : way (h :: l) = way l := by rw [way_cons, wayStep, if_neg (by omega)]
theorem way_le {L : Int} (hL : 0 ≤ L) : ∀ {l : List Int}, (∀ h ∈ l, h ≤ L) → (way l).2 ≤ L
  | [], _ => hL
  | h :: l, hl => by
    have := way_le hL (l := l) (fun x hx => hl x (by simp [hx]))
    rcases Int.lt_or_le h (way l).2 with h1 | h1
    · rw [way_miss h1]; exact this
    · rw [way_hit h1]; exact hl h (by simp)
theorem way_len (l : List Int) : (way l).1 ≤ l.length := by
  induction l with
  | nil => simp [way]
  | cons h l ih =>
    rcases Int.lt_or_le h (way l).2 with h1 | h1
    · rw [way_miss h1]; simp; omega
    · rw [way_hit h1]; simp; omega
/-- Nodes below L ahead of one that is L high, all behind it at most so high. -/
theorem way_over {L : Int} (hL : 0 ≤ L) (xs ys : List Int) (hx : ∀ h ∈ xs, h < L) (hy : ∀ h ∈ ys, h ≤ L) : way (xs ++ L :: ys) = ((way ys).1 + 1, L) := by
  induction xs with
  | nil => exact way_hit (way_le hL hy)
  | cons h xs ih =>
    have h1 := ih (fun x hx' => hx x (by simp [hx']))
    rw [List.cons_append, way_miss (by rw [h1]; exact hx h (by simp)), h1]
theorem drop_split (l : List Int) (a b : Nat) (hab : a ≤ b) (hb : b < l.length) : l.drop a = (l.drop a).take (b - a) ++ l[b] :: l.drop (b + 1) := by
  have h1 : (l.drop a).drop (b - a) = l.drop b := by rw [List.drop_drop]; congr 1; omega
  rw [← List.drop_eq_getElem_cons hb, ← h1, List.take_append_drop]
/-- One step of the way, on a level. -/
theorem way_next {L : Int} (hL : 0 ≤ L) (l : List Int) (a b : Nat) (hab : a ≤ b) (hb : b < l.length) (hx : ∀ i, a ≤ i → i < b → l.getD i 0 < L) (hat : L ≤ l.getD b 0) (hall : ∀ i, a ≤ i → i < l.length → l.getD i 0 ≤ L) :
    (way (l.drop a)).1 = (way (l.drop (b + 1))).1 + 1 := by
  have hLb : l[b] = L := by
    have h1 := hall b hab hb
    rw [List.getD_eq_getElem?_getD, List.getElem?_eq_getElem hb] at h1 hat
    simp at h1 hat; omega
  rw [drop_split l a b hab hb, hLb, way_over hL]
  · intro h hh
    obtain ⟨i, hi, rfl⟩ := List.getElem_of_mem hh
    have hi' : i < b - a := by have := hi; rw [List.length_take] at this; omega
    have := hx (a + i) (by omega) (by omega)
    rw [List.getD_eq_getElem?_getD, List.getElem?_eq_getElem (by omega)] at this
    simpa using this
  · intro h hh
    obtain ⟨i, hi, rfl⟩ := List.getElem_of_mem hh
    rw [List.length_drop] at hi
    have := hall (b + 1 + i) (by omega) (by omega)
    rw [List.getD_eq_getElem?_getD, List.getElem?_eq_getElem (by omega)] at this
    simpa using this

/-- The highest one. -/
def topOf (l : List Int) : Int := l.foldl (fun t h => if t < h then h else t) 0
end Go.Proofs.YteiaifhnikknbaaGreatDoor


namespace Go.Proofs.YteiaifhnikknbaaGreatDoor
open Go.RowKit

/-- The table of the library's lies in its variable. -/
structure Tab (w : World) : Prop where
  at_ : ∀ j, j < 32 → w.cell? ⟨0, j, none⟩ = some (.int .u8 (Lib.deBruijn32tab.getD j 0 : Nat))
theorem Tab.lt {w : World} (h : Tab w) : 0 < w.heap.size := World.block_lt_of_cell? w _ (h.at_ 0 (by decide))
theorem Tab.below {w w' : World} {B : Nat} (h : Tab w) (hb : Below B w w') (hB : 0 < B) : Tab w' := ⟨fun j hj => (hb.cell hB).trans (h.at_ j hj)⟩
theorem Tab.later {w w' : World} (h : Tab w) (hb : Below w.heap.size w w') : Tab w' := h.below hb h.lt

theorem wrap_u32'' (n : Int) : IntKind.u32.wrap n = n % 4294967296 := by simp [IntKind.wrap, IntKind.signed, IntKind.bits]
theorem bits_and_u32_nat' (a b : Nat) (ha : a < 4294967296) (hb : b < 4294967296) : bits .and .u32 (a : Int) (b : Int) = ((a &&& b : Nat) : Int) := by
  have hx : a &&& b < 2 ^ 32 := Nat.and_lt_two_pow _ (by omega)
  have h1 : (BitVec.ofInt 32 (a : Int)).toNat = a := by
    rw [BitVec.ofInt_natCast, BitVec.toNat_ofNat]; exact Nat.mod_eq_of_lt (by omega)
  have h2 : (BitVec.ofInt 32 (b : Int)).toNat = b := by
    rw [BitVec.ofInt_natCast, BitVec.toNat_ofNat]; exact Nat.mod_eq_of_lt (by omega)
  show IntKind.u32.wrap ((BitVec.ofInt 32 (a : Int) &&& BitVec.ofInt 32 (b : Int)).toNat : Int) = _
  rw [BitVec.toNat_and, h1, h2, wrap_u32'']
  omega
theorem tz32_key (x a : Nat) (hx : x < 4294967296) (hx0 : x ≠ 0) (hlow : x &&& (4294967296 - x) = a) :
    bits BinOp.and IntKind.u32 (x : Int) (-(x : Int) % 4294967296) * 125613361 % 4294967296 / 134217728 = ((a * 125613361 % 4294967296 / 134217728 : Nat) : Int) := by
  have e1 : -(x : Int) % 4294967296 = ((4294967296 - x : Nat) : Int) := by omega
  rw [e1, bits_and_u32_nat' x _ hx (by omega), hlow]
  omega

set_option maxHeartbeats 1000000 in
theorem tz32_core (x k idx : Nat) (w : World) (hx0 : ((x : Int) == 0) = false)
    (key : bits BinOp.and IntKind.u32 (x : Int) (-(x : Int) % 4294967296) * 125613361 % 4294967296 / 134217728 = (idx : Int))
    (hi : idx < 32) (hk : k < 32) (hcell : w.cell? ⟨0, idx, none⟩ = some (.int .u8 k)) :
    Calls Tryz.prog 44 #[.int .u32 x] w fun e w' => e = .returned (.int .i64 k) ∧ w = w' := by
  go_enter Tryz.func44, Tryz.ntmps44
  go_wp2_with (simp only [key])
  go_ret
  exact ⟨rfl, rfl⟩

theorem tz32 (x : Nat) (hx : x < 4294967296) (h0 : x ≠ 0) (w : World) (hT : Tab w) :
    Calls Tryz.prog 44 #[.int .u32 x] w fun e w' => e = .returned (.int .i64 (Lib.ctz 32 x : Nat)) ∧ w = w' := by
  obtain ⟨hlow, hk⟩ := Lib.lowest_bit 32 x h0 hx
  obtain ⟨hi, htab⟩ := Lib.deBruijn32_at _ hk
  have hcell := hT.at_ _ hi
  rw [htab] at hcell
  exact tz32_core x _ _ w (by simp; omega) (tz32_key x _ hx h0 hlow) hi hk hcell

set_option maxHeartbeats 1000000 in
theorem height_low (w : World) (x m : Int) (h : m < 1) :
    Calls Tryz.prog 18 #[.int .u32 x, .int .i64 m] w fun e w' => e = .returned (.int .i64 0) ∧ w = w' := by
  go_enter Tryz.func18, Tryz.ntmps18
  go_wp2
  go_ret
  exact ⟨rfl, rfl⟩
set_option maxHeartbeats 1000000 in
theorem height_zero (w : World) (m : Int) (h : 1 ≤ m) :
    Calls Tryz.prog 18 #[.int .u32 0, .int .i64 m] w fun e w' => e = .returned (.int .i64 m) ∧ w = w' := by
  go_enter Tryz.func18, Tryz.ntmps18
  go_wp2
  go_ret
  exact ⟨rfl, rfl⟩
set_option maxHeartbeats 1000000 in
theorem height_some (w : World) (hT : Tab w) (x : Nat) (hx : x < 4294967296) (h0 : x ≠ 0) (m : Int) (h : 1 ≤ m) (hm : m ≤ 9223372036854775807) :
    Calls Tryz.prog 18 #[.int .u32 x, .int .i64 m] w fun e w' => e = .returned (.int .i64 (if m < 1 + (v4 x : Int) then m else 1 + (v4 x : Int))) ∧ w = w' := by
  have hb : ((x : Int) == 0) = false := by simp; omega
  obtain ⟨c, hc⟩ : ∃ c, Lib.ctz 32 x = c := ⟨_, rfl⟩
  have hc32 : c < 32 := by obtain ⟨_, _, h1⟩ := ctz_spec x h0 hx; omega
  have hcall := tz32 x hx h0 w hT
  have hv : v4 x = c / 2 := by unfold v4; rw [hc]
  rw [hc] at hcall
  rw [hv]
  have HC := Lib.hid hcall
  clear hcall hc hv
  go_enter Tryz.func18, Tryz.ntmps18
  go_wp2_with (go_at_call 44; refine HC.out.mono ?_; rintro e w' ⟨rfl, rfl⟩)
  all_goals go_ret
  all_goals first | exact ⟨rfl, rfl⟩ | (refine ⟨?_, rfl⟩; congr 2; first | omega | (split <;> omega))

theorem height_any (w : World) (hT : Tab w) (x m : Int) (hx0 : 0 ≤ x) (hx : x < 4294967296) (hm : m ≤ 9223372036854775807) :
    Calls Tryz.prog 18 #[.int .u32 x, .int .i64 m] w fun e w' => e = .returned (.int .i64 (hgt x m)) ∧ w = w' := by
  rcases Int.lt_or_le m 1 with h | h
  · rw [hgt_low h]; exact height_low w _ m h
  · by_cases h0 : x = 0
    · subst h0; rw [hgt_zero h]; exact height_zero w m h
    · obtain ⟨n, rfl⟩ := Int.eq_ofNat_of_zero_le hx0
      have e : hgt (n : Int) m = if m < 1 + (v4 n : Int) then m else 1 + (v4 n : Int) := by
        unfold hgt; rw [if_neg (by omega), if_neg (by omega), Int.toNat_natCast]
      rw [e]
      exact height_some w hT n (by omega) (by omega) m h hm

end Go.Proofs.YteiaifhnikknbaaGreatDoor


namespace Go.Proofs.YteiaifhnikknbaaGreatDoor
open Go.ChangeShapes Go.WideShapes Go.ChangeAt Go.RowKit

def laid1 : List (String × DataW Unit) := [("math/bits.deBruijn32tab", Rows.laid_math_bits_deBruijn32tab)]
theorem gTab : Tryz.prog.globalNamed "math/bits.deBruijn32tab" = some 0 := by kernel_rfl
theorem tTab : (Tryz.prog.globals[0]?).map (·.type) = some 147 := by kernel_rfl
theorem door_met (os : Os) (args : Array Value) : laidMetH Tryz.prog laid1 ((World.doorLaid Tryz.prog 400 os).forCall (fun _ _ => 0) ⟨#[], args, []⟩).memory :=
  laidMetH_of_parts3 (fuel := 8) (laidMet_of_run' 8 (by kernel_rfl) (by kernel_rfl)) (by kernel_rfl) (by kernel_rfl)
theorem tab_datum : (Rows.laid_math_bits_deBruijn32tab : DataW Unit) = .agg (Lib.deBruijn32tab.map fun (n : Nat) => .lit (.int .u8 (n : Int))) := by rfl

theorem tab_of_laid {W : World} (h : laidMetH Tryz.prog laid1 W) : Tab W := by
  rw [MakeChecks.laidMetH_plain _ _ _ (by kernel_rfl)] at h
  obtain ⟨ps, ⟨g0, t0, cs0, f0, p0, q0, hg0, ht0, hv0, hd0, _, _⟩, _, _⟩ := h
  obtain rfl := Option.some.inj (gTab.symm.trans hg0)
  obtain rfl := Option.some.inj (tTab.symm.trans ht0)
  obtain ⟨xs, m1, rfl, hx1, hlen, hn3, hel⟩ := DataW.trod_array Tryz.underlying147 hd0
  have c5 : Tryz.prog.cellsOf 5 = 1 := by kernel_rfl
  rw [tab_datum] at hx1
  simp only [Prod.mk.injEq, DataW.agg.injEq] at hx1
  refine ⟨fun j hj => ?_⟩
  have he := hel j hj
  have hxj : j < xs.length := by omega
  rw [List.getElem?_eq_getElem hxj, c5] at he
  obtain ⟨k, e1, e2, _⟩ := DataW.trod_int Tryz.underlying5 he
  have hjt : j < Lib.deBruijn32tab.length := hj
  have hk : k = (Lib.deBruijn32tab.getD j 0 : Nat) := by
    have h1 := congrArg (fun l => l[j]?) hx1.1
    simp only [List.getElem?_map, List.getElem?_eq_getElem hxj, List.getElem?_eq_getElem hjt, Option.map_some, Option.some.injEq] at h1
    rw [e2] at h1
    have h2 : k = ((Lib.deBruijn32tab[j] : Nat) : Int) := by simpa using h1.symm
    rw [h2, List.getD_eq_getElem?_getD, List.getElem?_eq_getElem hjt]; rfl
  have hcell := World.var?_cell hg0 hv0 j
  rw [hcell]
  have h3 : cs0.toList[j]? = some (.int .u8 k) := by
    have := congrArg (fun l => l[0]?) e1
    simp only [Nat.mul_one, List.getElem?_take, List.getElem?_drop] at this
    simpa using this
  rw [hk] at h3
  simpa using h3
end Go.Proofs.YteiaifhnikknbaaGreatDoor
