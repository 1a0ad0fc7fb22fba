/- World predicates that all texts of this seat share: what a call may write ('Only'), rows with a home ('Row'), the memory of layer 13 ('Cells'). Plain definitions and lemmas; no program is walked here. -/
import Derived.WalkKit
import Derived.WalkSpells
import Derived.WalkLawsBesides
import Derived.Lib.Hide
import Derived.Maps.AppendAt
import Derived.Deep.QuietTactic
import Derived.BigQuiet
import Derived.Deep.OwnRows
import Derived.RegionTactic
import Derived.ChangeAlike
import Derived.Deep.RegionLaw
import Derived.Deep.RegionWith
import Derived.Deep.DeepCutAuto

namespace Go.Proofs.Ytkpjfdhjkgdcbaa
open Go.RowKit

/-- Only blocks of A, and new ones, have turned. -/
structure Only (A : Nat → Prop) (w w' : World) : Prop where
  os : w'.os = w.os
  tape : w'.tape = w.tape
  output : w'.output = w.output
  size : w.heap.size ≤ w'.heap.size
  block : ∀ k, k < w.heap.size → ¬ A k → w'.heap[k]? = w.heap[k]?

theorem Only.refl (A : Nat → Prop) (w : World) : Only A w w := ⟨rfl, rfl, rfl, Nat.le_refl _, fun _ _ _ => rfl⟩
theorem Only.trans {A : Nat → Prop} {a b c : World} (h : Only A a b) (k : Only A b c) : Only A a c :=
  ⟨k.os.trans h.os, k.tape.trans h.tape, k.output.trans h.output, Nat.le_trans h.size k.size,
    fun i hi hA => (k.block i (Nat.lt_of_lt_of_le hi h.size) hA).trans (h.block i hi hA)⟩
theorem Only.mono {A B : Nat → Prop} {w w' : World} (h : Only A w w') (hAB : ∀ k, k < w.heap.size → A k → B k) : Only B w w' :=
  ⟨h.os, h.tape, h.output, h.size, fun k hk hB => h.block k hk (fun hA => hB (hAB k hk hA))⟩
theorem Only.drew {A : Nat → Prop} {a w : World} (h : Only A a w) : Only A a w.drew := ⟨h.os, h.tape, h.output, h.size, h.block⟩
theorem Only.of_drew {A : Nat → Prop} {w w' : World} (h : Only A w.drew w') : Only A w w' := ⟨h.os, h.tape, h.output, h.size, h.block⟩
theorem Only.drewN {A : Nat → Prop} {a w : World} (h : Only A a w) (n : Nat) : Only A a (w.drewN n) := ⟨h.os, h.tape, h.output, h.size, h.block⟩
theorem Only.alloc {A : Nat → Prop} {a w : World} (h : Only A a w) (o : Obj) : Only A a (w.alloc o) :=
  h.trans ⟨rfl, rfl, rfl, by simp, fun k hk _ => Below.heap_alloc _ _ _ hk⟩
theorem Only.setCell {A : Nat → Prop} {a w : World} (h : Only A a w) {p : Addr} (hp : A p.block) (u : Value) : Only A a (w.setCell p u) :=
  h.trans ⟨rfl, rfl, rfl, by simp [World.setCell], fun k _ hk => Below.heap_setCell _ _ _ _ (fun e => hk (e ▸ hp))⟩
theorem Only.grown {A : Nat → Prop} {a w w' : World} {row : Option Nat} (h : Only A a w) (hg : w.grownBy w' row) (hr : ∀ k, row = some k → A k) : Only A a w' :=
  h.trans ⟨hg.os, hg.tape, hg.output, hg.size, fun k hk hA => hg.block k hk (fun e => hA (hr k e.symm))⟩
theorem Only.below {A : Nat → Prop} {B : Nat} {w w' : World} (h : Only A w w') (hB : B ≤ w.heap.size) (hA : ∀ k, k < B → ¬ A k) : Below B w w' :=
  ⟨h.os, h.tape, h.output, h.size, fun k hk => h.block k (Nat.lt_of_lt_of_le hk hB) (hA k hk)⟩
theorem Only.of_below {A : Nat → Prop} {w w' : World} (h : Below w.heap.size w w') : Only A w w' :=
  ⟨h.os, h.tape, h.output, h.size, fun k hk _ => h.block k hk⟩
theorem Only.cell {A : Nat → Prop} {w w' : World} (h : Only A w w') {p : Addr} {v : Value} (hA : ¬ A p.block) (hc : w.cell? p = some v) : w'.cell? p = some v :=
  (World.cell?_of_block (w := w) (h.block p.block (World.block_lt_of_cell? w p hc) hA)).trans hc

/-- All new blocks belong to A. -/
structure Fresh (A : Nat → Prop) (w : World) : Prop where
  new : ∀ k, w.heap.size ≤ k → A k
theorem Fresh.only {A B : Nat → Prop} {w w' : World} (h : Fresh A w) (ho : Only B w w') : Fresh A w' := ⟨fun k hk => h.new k (Nat.le_trans ho.size hk)⟩
theorem Fresh.alloc {A : Nat → Prop} {w : World} (h : Fresh A w) (o : Obj) : Fresh A (w.alloc o) := ⟨fun k hk => h.new k (by simp at hk; omega)⟩
theorem Fresh.drew {A : Nat → Prop} {w : World} (h : Fresh A w) : Fresh A w.drew := ⟨h.new⟩

/-- Blocks of A lie as they lay. -/
structure Same (A : Nat → Prop) (w w' : World) : Prop where
  block : ∀ k, A k → k < w.heap.size → w'.heap[k]? = w.heap[k]?
theorem Same.refl (A : Nat → Prop) (w : World) : Same A w w := ⟨fun _ _ _ => rfl⟩
theorem Same.trans {A : Nat → Prop} {a b c : World} (h : Same A a b) (hs : a.heap.size ≤ b.heap.size) (k : Same A b c) : Same A a c :=
  ⟨fun i hA hi => (k.block i hA (Nat.lt_of_lt_of_le hi hs)).trans (h.block i hA hi)⟩
theorem Same.of_only {A B : Nat → Prop} {w w' : World} (h : Only B w w') (hd : ∀ k, k < w.heap.size → A k → ¬ B k) : Same A w w' := ⟨fun k hA hk => h.block k hk (hd k hk hA)⟩
theorem Same.of_below (A : Nat → Prop) {w w' : World} (h : Below w.heap.size w w') : Same A w w' := ⟨fun k _ hk => h.block k hk⟩
theorem Same.alloc (A : Nat → Prop) (w : World) (o : Obj) : Same A w (w.alloc o) := ⟨fun k _ hk => Below.heap_alloc _ _ _ hk⟩
theorem Same.drew (A : Nat → Prop) (w : World) : Same A w w.drew := ⟨fun _ _ _ => rfl⟩
theorem Same.setCell {A : Nat → Prop} {w : World} {p : Addr} (hp : ¬ A p.block) (u : Value) : Same A w (w.setCell p u) := ⟨fun k hA _ => Below.heap_setCell _ _ _ _ (fun e => hp (e ▸ hA))⟩

/-- A slice that owns a row whose block belongs to A. -/
structure Row (w : World) (e size : Nat) (v : Value) (n : Nat) (xs : List Value) (A : Nat → Prop) : Prop where
  owns : w.ownsRow 0 e size v n xs
  home : ∀ k, v.ownBlock = some k → A k

theorem Row.nil (w : World) (e size : Nat) (A : Nat → Prop) : Row w e size (.slice none 0 0) 0 [] A := ⟨World.ownsRow_nil _ _ _ _, fun k h => by cases h⟩
theorem Row.lt {w : World} {e size n : Nat} {v : Value} {xs : List Value} {A : Nat → Prop} (h : Row w e size v n xs A) {k : Nat} (hk : v.ownBlock = some k) : k < w.heap.size := (h.owns.lt k hk).2
theorem Row.keep {w w' : World} {e size n : Nat} {v : Value} {xs : List Value} {A : Nat → Prop} (h : Row w e size v n xs A) (hs : ∀ k, v.ownBlock = some k → w'.heap[k]? = w.heap[k]?) : Row w' e size v n xs A := by
  refine ⟨⟨h.owns.1, ?_⟩, h.home⟩
  rcases h.owns.2 with hn | ⟨g, cap, cur, rfl, hb, hg, rest⟩
  · exact .inl hn
  · exact .inr ⟨g, cap, cur, rfl, hb, (hs g rfl).trans hg, rest⟩
theorem Row.same {w w' : World} {e size n : Nat} {v : Value} {xs : List Value} {A : Nat → Prop} (h : Row w e size v n xs A) (hs : Same A w w') : Row w' e size v n xs A :=
  h.keep fun k hk => hs.block k (h.home k hk) (h.lt hk)
theorem Row.mono {w : World} {e size n : Nat} {v : Value} {xs : List Value} {A B : Nat → Prop} (h : Row w e size v n xs A) (hAB : ∀ k, k < w.heap.size → A k → B k) : Row w e size v n xs B :=
  ⟨h.owns, fun k hk => hAB k (h.lt hk) (h.home k hk)⟩
theorem Row.alloc {w : World} {e size n : Nat} {v : Value} {xs : List Value} {A : Nat → Prop} (h : Row w e size v n xs A) (o : Obj) : Row (w.alloc o) e size v n xs A :=
  h.keep fun k hk => Below.heap_alloc _ _ _ (h.lt hk)
theorem Row.form {w : World} {e size n : Nat} {v : Value} {xs : List Value} {A : Nat → Prop} (h : Row w e size v n xs A) : (v = .slice none 0 0 ∧ n = 0) ∨ ∃ g cap, v = .slice (some ⟨g, 0, none⟩) n cap ∧ A g ∧ g < w.heap.size ∧ n ≤ cap := by
  rcases h.owns.2 with hn | ⟨g, cap, cur, rfl, hb, hg, h1, _⟩
  · exact .inl hn
  · exact .inr ⟨g, cap, rfl, h.home g rfl, h.lt rfl, h1⟩
theorem Row.slice {w : World} {e size n : Nat} {v : Value} {xs : List Value} {A : Nat → Prop} (h : Row w e size v n xs A) : ∃ ao cap, v = .slice ao n cap := by
  rcases h.form with ⟨rfl, rfl⟩ | ⟨g, cap, rfl, _⟩
  · exact ⟨none, 0, rfl⟩
  · exact ⟨_, cap, rfl⟩
/-- The block of a row is of its element's type. -/
theorem Row.tag {w : World} {e size n : Nat} {v : Value} {xs : List Value} {A : Nat → Prop} (h : Row w e size v n xs A) {k : Nat} (hk : v.ownBlock = some k) : ∃ cur, w.heap[k]? = some (.cells cur e (0, 0)) := by
  rcases h.owns.2 with ⟨rfl, _⟩ | ⟨g, cap, cur, rfl, hb, hg, _⟩
  · cases hk
  · obtain rfl : g = k := by simpa [Value.ownBlock] using hk
    exact ⟨cur, hg⟩
theorem Row.block_ne {w : World} {e size n : Nat} {v : Value} {xs : List Value} {A : Nat → Prop} (h : Row w e size v n xs A) {b t : Nat} {cs : Array Value} {fr : Nat × Nat} (hb : w.heap[b]? = some (.cells cs t fr)) (hne : t ≠ e) : v.ownBlock ≠ some b := by
  intro hk
  obtain ⟨cur, hc⟩ := h.tag hk
  rw [hb] at hc
  injection hc with hc
  injection hc with _ ht
  exact hne ht

theorem Same.drewN (A : Nat → Prop) (w : World) (n : Nat) : Same A w (w.drewN n) := ⟨fun _ _ _ => rfl⟩
/-- Nothing has turned but the count of draws. -/
structure Quiet (w w' : World) : Prop where
  out : ∃ n, w' = w.drewN n
theorem Quiet.refl (w : World) : Quiet w w := ⟨⟨0, rfl⟩⟩
theorem Quiet.only {w w' : World} (h : Quiet w w') (A : Nat → Prop) : Only A w w' := by obtain ⟨n, rfl⟩ := h.out; exact (Only.refl A w).drewN n
theorem Quiet.trans {a b c : World} (h : Quiet a b) (k : Quiet b c) : Quiet a c := by
  obtain ⟨n, rfl⟩ := h.out
  obtain ⟨m, rfl⟩ := k.out
  exact ⟨⟨n + m, World.drewN_drewN ..⟩⟩
theorem Quiet.below {w w' : World} (h : Quiet w w') (B : Nat) : Below B w w' := by obtain ⟨n, rfl⟩ := h.out; exact ⟨rfl, rfl, rfl, Nat.le_refl _, fun _ _ => rfl⟩
theorem Quiet.same {w w' : World} (h : Quiet w w') (A : Nat → Prop) : Same A w w' := by obtain ⟨n, rfl⟩ := h.out; exact Same.drewN A w n

/-- A block that is known whole. -/
def Blk (w : World) (b t : Nat) (cs : List Value) : Prop := w.heap[b]? = some (.cells cs.toArray t (0, 0))
theorem Blk.lt {w : World} {b t : Nat} {cs : List Value} (h : Blk w b t cs) : b < w.heap.size := (Array.getElem?_eq_some_iff.1 h).1
theorem Blk.cell {w : World} {b t : Nat} {cs : List Value} (h : Blk w b t cs) (i : Nat) {v : Value} (hv : cs[i]? = some v) : w.cell? ⟨b, i, none⟩ = some v := by
  simp [World.cell?, show w.heap[b]? = _ from h, hv]
theorem Blk.frozen {w : World} {b t : Nat} {cs : List Value} (h : Blk w b t cs) (i : Nat) : w.frozen? ⟨b, i, none⟩ = false := by
  simp [World.frozen?, show w.heap[b]? = _ from h]
theorem Blk.new (w : World) (t : Nat) (cs : List Value) : Blk (w.alloc (.cells cs.toArray t)) w.heap.size t cs := heap_alloc_new w _
theorem Blk.keep {w w' : World} {b t : Nat} {cs : List Value} (h : Blk w b t cs) (hs : w'.heap[b]? = w.heap[b]?) : Blk w' b t cs := hs.trans h
theorem Blk.same {w w' : World} {b t : Nat} {cs : List Value} {A : Nat → Prop} (h : Blk w b t cs) (hA : A b) (hs : Same A w w') : Blk w' b t cs := h.keep (hs.block b hA h.lt)
theorem Blk.alloc {w : World} {b t : Nat} {cs : List Value} (h : Blk w b t cs) (o : Obj) : Blk (w.alloc o) b t cs := h.keep (Below.heap_alloc _ _ _ h.lt)
theorem Blk.set {w : World} {b t : Nat} {cs : List Value} (h : Blk w b t cs) (i : Nat) (v : Value) : Blk (w.setCell ⟨b, i, none⟩ v) b t (cs.set i v) := by
  obtain ⟨hlt, hk⟩ := Array.getElem?_eq_some_iff.1 h
  show (w.heap.modify b _)[b]? = _
  rw [Array.getElem?_eq_getElem (by rw [Array.size_modify]; exact hlt), Array.getElem_modify_self, hk]
  simp
theorem Blk.set_other {w : World} {b t : Nat} {cs : List Value} (h : Blk w b t cs) {a : Addr} (hne : b ≠ a.block) (v : Value) : Blk (w.setCell a v) b t cs := h.keep (Below.heap_setCell _ _ _ _ hne)
theorem Blk.grown {w w' : World} {b t : Nat} {cs : List Value} (h : Blk w b t cs) {row : Option Nat} (hg : w.grownBy w' row) (hne : row ≠ some b) : Blk w' b t cs := h.keep (hg.block b h.lt (fun e => hne e.symm))
theorem Blk.ne {w : World} {b b' t t' : Nat} {cs cs' : List Value} (h : Blk w b t cs) (h' : Blk w b' t' cs') (hne : t ≠ t') : b ≠ b' := by
  intro e
  subst e
  have := (show w.heap[b]? = _ from h).symm.trans h'
  injection this with this
  injection this with _ ht
  exact hne ht
theorem Row.ne_blk {w : World} {e size n : Nat} {v : Value} {xs : List Value} {A : Nat → Prop} (h : Row w e size v n xs A) {b t : Nat} {cs : List Value} (hb : Blk w b t cs) (hne : t ≠ e) : v.ownBlock ≠ some b := h.block_ne hb hne
theorem Row.setCell {w : World} {e size n : Nat} {v : Value} {xs : List Value} {A : Nat → Prop} (h : Row w e size v n xs A) {a : Addr} (hne : v.ownBlock ≠ some a.block) (u : Value) : Row (w.setCell a u) e size v n xs A :=
  h.keep fun k hk => Below.heap_setCell _ _ _ _ (fun e => hne (e ▸ hk))
theorem Row.grown {w w' : World} {e size n : Nat} {v : Value} {xs : List Value} {A : Nat → Prop} (h : Row w e size v n xs A) {row : Option Nat} (hg : w.grownBy w' row) (hne : v.ownBlock = none ∨ v.ownBlock ≠ row) : Row w' e size v n xs A :=
  h.keep fun k hk => hg.block k (h.lt hk) (fun e => by rcases hne with h0 | h0
                                                       · rw [h0] at hk; cases hk
                                                       · exact h0 (hk.trans e))

/-- append onto a row of one's own, as one step of a region that draws. -/
theorem step_append_own {P : Program} {ops : Array Oper} {o : Oper} {a : Act} {w : World} {K : Act → World → Prop} {Q : Exit → Act → World → Prop} {E : Prop}
    (hg : o.guard = none) (s x : Operand) (t : TypeId) (ho : o.op = .call { callee := .builtin .append, args := #[s, x], argTypes := #[t, t] })
    (base : Nat) (e : TypeId) (i : TypeInfo) (z : Value) (size bytes : Nat) (ht : P.underlying t = some (.slice e)) (hi : P.info? e = some i) (hz : i.zero = some z)
    (hsize : i.size = size) (hby : i.bytes = bytes) (hzs : z.cells.size = size) (hsz : 0 < size)
    (v : Value) (n : Nat) (xs : List Value) (hs : a.eval s = v) (hown : w.ownsRow base e size v n xs)
    (ad : Addr) (m c : Nat) (news : List Value) (hx : a.eval x = .slice (some ad) m c) (hl : news.length = m * size) (hnews : ∀ j u, news[j]? = some u → w.cell? (ad.add j) = some u) (h1 : ∀ u ∈ news, u.oneCell' = true)
    (h63 : n + m ≤ maxLen) (hbytes : (n + m) * bytes ≤ 140737488355328) (hbase : base ≤ w.heap.size)
    (hK : ∀ v' w', w'.ownsRow base e size v' (n + m) (xs ++ news) → w.grownBy w' v.ownBlock → (v' = .slice none 0 0 ↔ v = .slice none 0 0 ∧ m = 0) → (v'.ownBlock = v.ownBlock ∨ v'.ownBlock = some w.heap.size) → K (a.put o.dst v') w') :
    if Region.wanted o (yielded ops a.tmps) = true then Oper.wp P o a w K Q else E := by
  have hw : Region.wanted o (yielded ops a.tmps) = true := by simp [Region.wanted, hg]
  rw [if_pos hw]
  obtain ⟨v', w', hr, h2, h3, h4, h5⟩ := run_append_own_at (P := P) w base t o.type e i z size bytes ht hi hz hsize hby hzs hsz v n xs hown ad m c news hl hnews h1 h63 hbytes hbase
  unfold Oper.wp execOp
  simp only [ho, resolve, invoke, builtin, Sem.run_bind, Sem.run_pure, Result.andThen_ok, List.map_toArray, List.map_cons, List.map_nil, hs, hx, hr]
  exact hK _ _ h2 h3 h4 h5

/-- A slice that can be read: n elements of 'size' cells each hold xs. -/
structure Reads (w : World) (size : Nat) (v : Value) (n : Nat) (xs : List Value) : Prop where
  len : xs.length = n * size
  form : (n = 0 ∧ ∃ ao c, v = .slice ao 0 c) ∨ ∃ b off c, v = .slice (some ⟨b, off, none⟩) n c ∧ n ≤ c ∧ ∀ j u, xs[j]? = some u → w.cell? ⟨b, off + j, none⟩ = some u
theorem addr_plain (b off j : Nat) : (⟨b, off, none⟩ : Addr).add j = ⟨b, off + j, none⟩ := by unfold Addr.add; split <;> simp_all
theorem Row.reads {w : World} {e size n : Nat} {v : Value} {xs : List Value} {A : Nat → Prop} (h : Row w e size v n xs A) : Reads w size v n xs := by
  refine ⟨h.owns.1, ?_⟩
  rcases h.form with ⟨rfl, rfl⟩ | ⟨g, cap, rfl, _, _, hc⟩
  · exact .inl ⟨rfl, _, _, rfl⟩
  · refine .inr ⟨g, 0, cap, rfl, hc, fun j u hu => ?_⟩
    have := h.owns.cells (g := g) rfl j u hu
    rwa [addr_plain] at this
theorem Reads.slice {w : World} {size n : Nat} {v : Value} {xs : List Value} (h : Reads w size v n xs) : ∃ ao c, v = .slice ao n c := by
  rcases h.form with ⟨rfl, ao, c, rfl⟩ | ⟨b, off, c, rfl, _⟩
  · exact ⟨_, _, rfl⟩
  · exact ⟨_, _, rfl⟩
theorem Reads.keep {w w' : World} {size n : Nat} {v : Value} {xs : List Value} (h : Reads w size v n xs) (hs : ∀ a x, w.cell? a = some x → w'.cell? a = some x) : Reads w' size v n xs :=
  ⟨h.len, h.form.imp id fun ⟨b, o, c, hv, hc, hr⟩ => ⟨b, o, c, hv, hc, fun j u hu => hs _ _ (hr j u hu)⟩⟩
theorem Reads.drewN {w : World} {size n : Nat} {v : Value} {xs : List Value} (h : Reads w size v n xs) (k : Nat) : Reads (w.drewN k) size v n xs := ⟨h.len, h.form⟩
theorem Reads.quiet {w w' : World} {size n : Nat} {v : Value} {xs : List Value} (h : Reads w size v n xs) (hq : Quiet w w') : Reads w' size v n xs := by obtain ⟨k, rfl⟩ := hq.out; exact h.drewN k
theorem cell_alloc_keep {w : World} (o : Obj) (a : Addr) (x : Value) (h : w.cell? a = some x) : (w.alloc o).cell? a = some x :=
  (World.cell?_of_block (w := w) (Below.heap_alloc w o a.block (World.block_lt_of_cell? w a h))).trans h
theorem Reads.alloc {w : World} {size n : Nat} {v : Value} {xs : List Value} (h : Reads w size v n xs) (o : Obj) : Reads (w.alloc o) size v n xs := h.keep (cell_alloc_keep o)
theorem Reads.below {w w' : World} {size n : Nat} {v : Value} {xs : List Value} (h : Reads w size v n xs) (hb : Below w.heap.size w w') : Reads w' size v n xs :=
  h.keep fun a _ hc => (hb.cell (World.block_lt_of_cell? w a hc)).trans hc

/-- A slice that owns an element at least is written out. -/
theorem owns_succ {W : World} {base e size k : Nat} {v : Value} {xs : List Value} (h : W.ownsRow base e size v (k + 1) xs) : ∃ g cap, v = .slice (some ⟨g, 0, none⟩) (k + 1) cap := by
  rcases h.2 with ⟨_, h0⟩ | ⟨g, cap, _, rfl, _⟩
  · omega
  · exact ⟨g, cap, rfl⟩

end Go.Proofs.Ytkpjfdhjkgdcbaa
