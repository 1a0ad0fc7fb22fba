/- What chapter 22 is about, as plain data and as cells. -/
import Derived.Test.YteiaifhnikknbaaGreatDoorArena
import Derived.Test.YteiaifhnikknbaaGreatDoorLaidTab
import Derived.Test.YteiaifhnikknbaaGreatDoorProg
import Derived.Deep.WholeRow
import Derived.Deep.MidRow
import Derived.Test.YteiaifhnikknbaaGreatDoorCellsNew

namespace Go.Proofs.YteiaifhnikknbaaGreatDoor
open Go.RowKit

def skA (u : Int) : Int := 8 + 6 * (u / 6)
def skP (u : Int) : Int := 2 * (u / 6)
set_option maxHeartbeats 400000 in
theorem size_yes (w : World) (u : Int) (h1 : 6 ≤ u) (h2 : u ≤ 1073741824) : Calls Tryz.prog 37 #[.int .u64 u] w fun e w' => e = .returned (.tuple #[.int .i64 (skA u), .int .i64 (skP u)]) ∧ w = w' := by
  go_enter Tryz.func37, Tryz.ntmps37
  go_wp2
  go_ret2
  exact ⟨rfl, rfl⟩
set_option maxHeartbeats 400000 in
theorem size_no (w : World) (u : Int) (h : u < 6 ∨ 1073741824 < u) : Calls Tryz.prog 37 #[.int .u64 u] w fun e w' => e = .returned (.tuple #[.int .i64 0, .int .i64 0]) ∧ w = w' := by
  rcases h with h | h
  · go_enter Tryz.func37, Tryz.ntmps37
    go_wp2
    go_ret2
    exact ⟨rfl, rfl⟩
  · have h0 : ¬ u < 6 := by omega
    go_enter Tryz.func37, Tryz.ntmps37
    go_wp2
    go_ret2
    exact ⟨rfl, rfl⟩

/-- A skip list lies in its struct, and its arena's. -/
structure SkRef where
  lp : Nat
  aq : Nat
  first : Int
  plain : Int
  units : Int
def skC (c : CRef) (k : SkRef) : List Value := [.pointer (some ⟨c.p, 0, none⟩), .pointer (some ⟨k.aq, 0, none⟩), .int .i64 k.first, .int .i64 k.plain, .int .i64 (k.units / 6)]
structure SkAt (w : World) (k : SkRef) (c : CRef) : Prop where
  list : Blk w k.lp 78 (skC c k)
  arena : Blk w k.aq 123 [.pointer (some ⟨c.p, 0, none⟩), .int .i64 k.first, .int .u64 k.units]
theorem SkAt.same {w w' : World} {k : SkRef} {c : CRef} {O : Nat → Prop} (h : SkAt w k c) (h1 : O k.lp) (h2 : O k.aq) (hs : Same O w w') : SkAt w' k c := ⟨h.list.same h1 hs, h.arena.same h2 hs⟩
theorem SkAt.below {w w' : World} {k : SkRef} {c : CRef} (h : SkAt w k c) (hb : Below w.heap.size w w') : SkAt w' k c := ⟨h.list.keep (hb.block _ h.list.lt), h.arena.keep (hb.block _ h.arena.lt)⟩

set_option maxHeartbeats 1000000 in
theorem sknew_ok {w : World} {c : CRef} {S : Mem} {A : Nat → Prop} (hC : Cells w c S A) (first plain units : Int) (h1 : 6 ≤ units) (h2 : units ≤ 1073741824) (f0 : 0 ≤ first) (p0 : 0 ≤ plain) (f1 : first ≤ S.atomics.length - skA units) (p1 : plain ≤ S.plains.length - skP units) :
    Calls Tryz.prog 40 #[.pointer (some ⟨c.p, 0, none⟩), .int .i64 first, .int .i64 plain, .int .u64 units] w fun e w' => ∃ lp aq, e = .returned (.tuple #[.pointer (some ⟨lp, 0, none⟩), .int .i64 0]) ∧ SkAt w' ⟨lp, aq, first, plain, units⟩ c ∧ w.heap.size ≤ lp ∧ w.heap.size ≤ aq ∧ Below w.heap.size w w' := by
  obtain ⟨a, ha⟩ : ∃ a, skA units = a := ⟨_, rfl⟩
  obtain ⟨p, hp⟩ : ∃ p, skP units = p := ⟨_, rfl⟩
  obtain ⟨na, hna⟩ : ∃ na, S.atomics.length = na := ⟨_, rfl⟩
  obtain ⟨np, hnp⟩ : ∃ np, S.plains.length = np := ⟨_, rfl⟩
  have hsm := hC.small
  have a1 : 14 ≤ a ∧ a ≤ 2000000000 := by rw [← ha]; unfold skA; omega
  have a2 : 2 ≤ p ∧ p ≤ 2000000000 := by rw [← hp]; unfold skP; omega
  rw [hna, ha] at f1
  rw [hnp, hp] at p1
  rw [hna, hnp] at hsm
  have e0 : (a == 0) = false := by simp; omega
  have hsz := size_yes w units h1 h2
  rw [ha, hp] at hsz
  have hmy := many_ok hC
  rw [hna, hnp] at hmy
  have hok : okUnits S.atomics.length first units = true := by rw [hna]; exact decide_eq_true (by omega)
  have hq : ∀ n, Calls Tryz.prog 59 #[.pointer (some ⟨c.p, 0, none⟩), .int .i64 first, .int .u64 units] (w.drewN n) fun e w' => ∃ q, e = .returned (.tuple #[.pointer (some ⟨q, 0, none⟩), .int .i64 0]) ∧ w.heap.size ≤ q ∧ Blk w' q 123 [.pointer (some ⟨c.p, 0, none⟩), .int .i64 first, .int .u64 units] ∧ Below w.heap.size w w' :=
    fun n => (anew_ok (hC.drewN n) first units hok).mono (by rintro e w' ⟨q, rfl, hq1, hq2, _, hB⟩; exact ⟨q, rfl, hq1, hq2.blk, ⟨hB.os, hB.tape, hB.output, hB.size, hB.block⟩⟩)
  have HQ := Lib.hid hq
  have HSZ := Lib.hid hsz
  have HMY := Lib.hid hmy
  clear hq hsz hmy hok ha hp hna hnp hC
  go_enter Tryz.func40, Tryz.ntmps40
  go_wp2_with (first | (go_at_call 37; refine HSZ.out.mono ?_; rintro e w' ⟨rfl, rfl⟩) | (go_at_call 26; refine HMY.out.mono ?_; rintro e w' ⟨rfl, hq⟩; obtain ⟨nq, rfl⟩ := hq) | (go_at_call 59; refine (HQ.out _).mono ?_; rintro e w2 ⟨q, rfl, hq1, hq2, hB⟩))
  go_ret2
  have hs := hB.size
  have hb := Blk.new w2 78 (skC c ⟨w2.heap.size, q, first, plain, units⟩)
  exact ⟨w2.heap.size, q, rfl, ⟨hb, hq2.alloc _⟩, hs, hq1, hB.alloc hs _⟩
end Go.Proofs.YteiaifhnikknbaaGreatDoor


namespace Go.Proofs.YteiaifhnikknbaaGreatDoor
open Go.RowKit

section
variable {P : Program} {fn : Func} {p q r : Tmp} {ty : TypeId} {tmps : Array Value} {w w' : World} {ad : Addr} {cs : Array Value}
theorem results_cell_one (h : fn.results = #[.cell p ty]) (hp : tmps.getD p undef = .pointer (some ad)) (hl : (loadVar ty ad).run P w = .ok (.agg cs) w) :
    (results fn tmps).run P w = .ok (.agg cs) w := by
  have hp' : tmps[p]?.getD undef = .pointer (some ad) := by simpa using hp
  simp [results, h, hp', asAddr, hl]
theorem results_cell_tmp (h : fn.results = #[.cell p ty, .tmp q]) (hp : tmps.getD p undef = .pointer (some ad)) (hl : (loadVar ty ad).run P w = .ok (.agg cs) w) (x : Value) (hx : tmps.getD q undef = x) :
    (results fn tmps).run P w = .ok (.tuple #[.agg cs, x]) w := by
  have hp' : tmps[p]?.getD undef = .pointer (some ad) := by simpa using hp
  have hx' : tmps[q]?.getD undef = x := by simpa using hx
  simp [results, h, hp', asAddr, hl, hx']
theorem results_cell_tmp2 (h : fn.results = #[.cell p ty, .tmp q, .tmp r]) (hp : tmps.getD p undef = .pointer (some ad)) (hl : (loadVar ty ad).run P w = .ok (.agg cs) w) (x y : Value) (hx : tmps.getD q undef = x) (hy : tmps.getD r undef = y) :
    (results fn tmps).run P w = .ok (.tuple #[.agg cs, x, y]) w := by
  have hp' : tmps[p]?.getD undef = .pointer (some ad) := by simpa using hp
  have hx' : tmps[q]?.getD undef = x := by simpa using hx
  have hy' : tmps[r]?.getD undef = y := by simpa using hy
  simp [results, h, hp', asAddr, hl, hx', hy']
theorem Blk.loadRow {b t : Nat} {C : List Value} (h : Blk w b t C) (d : TypeDesc) (hu : P.underlying ty = some d) (hd : (match d with | .struct _ | .array _ _ => true | _ => false) = true) (hi : (P.info? ty).map (·.size) = some C.length) : (loadVar ty ⟨b, 0, none⟩).run P w = .ok (.agg C.toArray) w :=
  run_loadVar_row w b t ty C.toArray (0, 0) d h hu hd (by rw [hi]; simp)
theorem wpList_built {ops : Array Oper} {rest : List Oper} {o : Oper} {a : Act} {Q : Exit → Act → World → Prop} (hg : o.guard = none) (t : TypeId) (parts : Array (Nat × Operand)) (ho : o.op = .build t parts) (cs : Array Value)
    (hf : P.built t (parts.map fun (i, x) => (i, a.eval x)).toList = some cs) (h : wpList P ops Q rest (a.put o.dst (.agg cs)) w) : wpList P ops Q (o :: rest) a w :=
  wpList_build hg t parts ho (by rw [hf]; rfl) (by rw [hf]; exact h)
/-- The arms that load and store a struct at a block that is known whole. -/
theorem wpList_load_blk {ops : Array Oper} {rest : List Oper} {o : Oper} {a : Act} {Q : Exit → Act → World → Prop} (hgd : o.guard = none) (ty : TypeId) (x : Operand) (ho : o.op = .load ty x) (b : Nat) (hx : a.eval x = .pointer (some ⟨b, 0, none⟩)) (C : List Value) {t : TypeId} (hk : Blk w b t C)
    (d : TypeDesc) (hu : P.underlying ty = some d) (hd : (match d with | .struct _ | .array _ _ => true | _ => false) = true) (hi : (P.info? ty).map (·.size) = some C.length)
    (h : wpList P ops Q rest (a.put o.dst (.agg C.toArray)) w) : wpList P ops Q (o :: rest) a w :=
  wpList_load_row hgd ty x ho b hx t C.toArray (0, 0) d hk hu hd (by rw [hi]; simp) h
theorem wpList_store_blk {ops : Array Oper} {rest : List Oper} {o : Oper} {a : Act} {Q : Exit → Act → World → Prop} (hgd : o.guard = none) (ty : TypeId) (x y : Operand) (ho : o.op = .store ty x y) (b : Nat) (C : List Value) (hx : a.eval x = .pointer (some ⟨b, 0, none⟩)) (hy : a.eval y = .agg C.toArray)
    {t : TypeId} (old : List Value) (hk : Blk w b t old) (hi : (P.info? ty).map (·.size) = some C.length) (hl : old.length = C.length) (h1 : ∀ u ∈ C, u.oneCell' = true)
    (h : wpList P ops Q rest (a.put o.dst undef) (w.setRow b C.toArray)) : wpList P ops Q (o :: rest) a w :=
  wpList_store_row hgd ty x y ho b C.toArray hx hy t old.toArray hk (by rw [hi]; simp) (by simpa using hl) (all_oneCell_toArray h1) h
end

theorem Blk.setRow {w : World} {b t : Nat} {cs : List Value} (h : Blk w b t cs) (ds : List Value) : Blk (w.setRow b ds.toArray) b t ds := setRow_heap w b _ _ t (0, 0) h
theorem heap_setRow_other (w : World) (b : Nat) (c : Array Value) {k : Nat} (hk : k ≠ b) : (w.setRow b c).heap[k]? = w.heap[k]? := by
  show (w.heap.modify b _)[k]? = _
  rw [Array.getElem?_modify, if_neg (Ne.symm hk)]
theorem setRow_size (w : World) (b : Nat) (c : Array Value) : (w.setRow b c).heap.size = w.heap.size := by
  show (w.heap.modify b _).size = _
  simp
theorem Blk.setRow_other {w : World} {b b' t : Nat} {cs : List Value} (h : Blk w b t cs) (hne : b ≠ b') (c : Array Value) : Blk (w.setRow b' c) b t cs := h.keep (heap_setRow_other w b' c hne)
theorem Only.setRow {A : Nat → Prop} {a w : World} (h : Only A a w) {b : Nat} (hb : A b) (c : Array Value) : Only A a (w.setRow b c) :=
  h.trans ⟨rfl, rfl, rfl, by rw [setRow_size]; exact Nat.le_refl _, fun k _ hk => heap_setRow_other w b c (fun e => hk (e ▸ hb))⟩
theorem Row.setRow {w : World} {e size n : Nat} {v : Value} {xs : List Value} {A : Nat → Prop} (h : Row w e size v n xs A) {b t : Nat} {cs : List Value} (hb : Blk w b t cs) (hne : t ≠ e) (ds : Array Value) : Row (w.setRow b ds) e size v n xs A :=
  h.keep fun k hk => heap_setRow_other _ _ _ (fun e0 => h.ne_blk hb hne (e0 ▸ hk))
theorem below_setRow {B : Nat} {a w : World} (h : Below B a w) {b : Nat} (hb : B ≤ b) (c : Array Value) : Below B a (w.setRow b c) :=
  ⟨h.os, h.tape, h.output, by rw [setRow_size]; exact h.size, fun k hk => (heap_setRow_other w b c (by omega)).trans (h.block k hk)⟩
theorem two_appends {W w1 w2 : World} {v1 : Value} {o : Obj} (hg1 : W.grownBy w1 (Value.slice none 0 0).ownBlock) (hat1 : v1.ownBlock = (Value.slice none 0 0).ownBlock ∨ v1.ownBlock = some W.heap.size) (hg2 : (w1.alloc o).grownBy w2 v1.ownBlock) : Below W.heap.size W w2 := by
  have h1 : Below W.heap.size W w1 := (Below.refl _ W).grown hg1 (Nat.le_refl _) (fun k h => by cases h)
  refine (h1.alloc h1.size o).grown hg2 ?_ ?_
  · have := h1.size; simp; omega
  · intro k hk
    rcases hat1 with h | h
    · rw [h] at hk; cases hk
    · rw [h] at hk; cases hk; exact Nat.le_refl _
theorem three_boxes (w : World) (C D E : List Value) (t u s : Nat) : ∃ W, ((w.alloc (.cells C.toArray t)).alloc (.cells D.toArray u)).alloc (.cells E.toArray s) = W ∧ Blk W w.heap.size t C ∧ Blk W (w.heap.size + 1) u D ∧ Blk W (w.heap.size + 1 + 1) s E ∧ Below w.heap.size w W ∧ W.heap.size = w.heap.size + 3 :=
  ⟨_, rfl, ((Blk.new w t C).alloc _).alloc _, (by have := (Blk.new (w.alloc (.cells C.toArray t)) u D).alloc (.cells E.toArray s); simpa using this),
   (by have := Blk.new ((w.alloc (.cells C.toArray t)).alloc (.cells D.toArray u)) s E; simpa using this), ((((Below.refl _ _).alloc (Nat.le_refl _) _).alloc (by simp) _).alloc (by simp; omega) _), by simp⟩
theorem two_boxes (w : World) (C Z : List Value) (t u : Nat) : ∃ W, (w.alloc (.cells C.toArray t)).alloc (.cells Z.toArray u) = W ∧ Blk W w.heap.size t C ∧ Blk W (w.heap.size + 1) u Z ∧ Below w.heap.size w W ∧ W.heap.size = w.heap.size + 2 :=
  ⟨_, rfl, (Blk.new w t C).alloc _, by have := Blk.new (w.alloc (.cells C.toArray t)) u Z; simpa using this, (((Below.refl _ _).alloc (Nat.le_refl _) _).alloc (by simp) _), by simp⟩
end Go.Proofs.YteiaifhnikknbaaGreatDoor


namespace Go.Proofs.YteiaifhnikknbaaGreatDoor
open Go.RowKit

theorem infoMb : (Tryz.prog.info? 155).map (fun i => (i.zero, i.size, i.bytes)) = some (some (.agg #[.int .i64 0, .int .i64 0, .int .u64 0, .int .u64 0, .int .u8 0, .int .i64 0]), 6, 48) := by kernel_rfl
set_option maxRecDepth 100000 in
set_option maxHeartbeats 400000 in
theorem cloneMb_nil (w : World) (c : Nat) : Calls Tryz.prog 65 #[.slice none 0 c] w fun e w' => e = .returned (.slice none 0 0) ∧ w = w' := by
  have heq := fun (W : World) (a : Option Addr) (n c : Nat) => Lib.run_eql_slice_nil (P := Tryz.prog) W 62 155 a n c 0 0 Tryz.underlying62
  go_enter Tryz.func65, Tryz.ntmps65
  go_wp2
  go_ret
  exact ⟨rfl, rfl⟩
set_option maxRecDepth 100000 in
set_option maxHeartbeats 400000 in
theorem cloneMb_some (w : World) (a : Addr) (n c : Nat) (xs : List Value) (hl : xs.length = n * 6) (hc : ∀ j u, xs[j]? = some u → w.cell? (a.add j) = some u) (h1 : ∀ u ∈ xs, u.oneCell' = true) (hn : n ≤ 1000000000) :
    Calls Tryz.prog 65 #[.slice (some a) n c] w fun e w' => ∃ v, e = .returned v ∧ w'.ownsRow w.heap.size 155 6 v n xs ∧ Below w.heap.size w w' := by
  obtain ⟨i0, hi, hz0, hz1, hz2⟩ := info_parts infoMb
  have own0 : (w.alloc (.cells #[] 155)).ownsRow w.heap.size 155 6 (.slice (some ⟨w.heap.size, 0, none⟩) 0 0) 0 [] :=
    World.ownsRow_made w #[] 0 (Nat.le_refl _) (by unfold maxLen; omega) (by simp)
  have hc' : ∀ j u, xs[j]? = some u → (w.alloc (.cells #[] 155)).cell? (a.add j) = some u := fun j u hu => cell_alloc_keep _ _ _ (hc j u hu)
  have HC := Lib.hid hc'
  have HL := Lib.hid hl
  have H1 := Lib.hid h1
  clear hc hc' hl h1
  have heq := fun (W : World) (a : Option Addr) (n c : Nat) => Lib.run_eql_slice_nil (P := Tryz.prog) W 62 155 a n c 0 0 Tryz.underlying62
  go_enter Tryz.func65, Tryz.ntmps65
  go_wp2_with (at_builtin; refine wpList_append_own_at _ rfl _ _ 62 rfl w.heap.size 155 i0 (.agg #[.int .i64 0, .int .i64 0, .int .u64 0, .int .u64 0, .int .u8 0, .int .i64 0]) 6 48 Tryz.underlying62 hi hz0 hz1 hz2 rfl (by decide) (.slice (some ⟨w.heap.size, 0, none⟩) 0 0) 0 [] rfl own0 a n c xs rfl HL.out HC.out H1.out (by unfold maxLen; omega) (by omega) (by simp) ?_)
  intro v' w1 hown hgrow _ _
  have hB : Below w.heap.size w w1 := ((Below.refl _ w).alloc (Nat.le_refl _) _).grown hgrow (by simp) (fun k h => by simp [Value.ownBlock] at h; omega)
  have HO := Lib.hid hown
  clear hown hgrow own0
  go_wp2
  go_ret
  exact ⟨_, rfl, by simpa using HO.out, hB⟩
theorem cloneMb_any (w : World) (v : Value) (n : Nat) (xs : List Value) (hR : Reads w 6 v n xs) (h1 : ∀ u ∈ xs, u.oneCell' = true) (hn : n ≤ 1000000000) :
    Calls Tryz.prog 65 #[v] w fun e w' => ∃ v', e = .returned v' ∧ Row w' 155 6 v' n xs (fun k => w.heap.size ≤ k) ∧ Below w.heap.size w w' := by
  rcases hR.form with ⟨rfl, ao, c, rfl⟩ | ⟨bl, off, c, rfl, hc, hr⟩
  · have hb : xs = [] := List.eq_nil_of_length_eq_zero (by simpa using hR.len)
    subst hb
    rcases ao with _ | a
    · refine (cloneMb_nil w c).mono ?_
      rintro e w' ⟨rfl, rfl⟩
      exact ⟨_, rfl, Row.nil _ _ _ _, Below.refl _ _⟩
    · refine (cloneMb_some w a 0 c [] hR.len (by simp) h1 hn).mono ?_
      rintro e w' ⟨v', rfl, ho, hb⟩
      exact ⟨v', rfl, ⟨⟨ho.1, ho.2.imp id fun ⟨g, cap, cur, h1, _, h2⟩ => ⟨g, cap, cur, h1, Nat.zero_le _, h2⟩⟩, fun k hk => (ho.lt k hk).1⟩, hb⟩
  · refine (cloneMb_some w _ n c xs hR.len (fun j u hu => by rw [addr_plain]; exact hr j u hu) h1 hn).mono ?_
    rintro e w' ⟨v', rfl, ho, hb⟩
    exact ⟨v', rfl, ⟨⟨ho.1, ho.2.imp id fun ⟨g, cap, cur, h1, _, h2⟩ => ⟨g, cap, cur, h1, Nat.zero_le _, h2⟩⟩, fun k hk => (ho.lt k hk).1⟩, hb⟩

theorem infoIm : (Tryz.prog.info? 141).map (fun i => (i.zero, i.size, i.bytes)) = some (some (.agg #[.int .i64 0, .int .u64 0]), 2, 16) := by kernel_rfl
set_option maxRecDepth 100000 in
set_option maxHeartbeats 400000 in
theorem cloneIm_nil (w : World) (c : Nat) : Calls Tryz.prog 66 #[.slice none 0 c] w fun e w' => e = .returned (.slice none 0 0) ∧ w = w' := by
  have heq := fun (W : World) (a : Option Addr) (n c : Nat) => Lib.run_eql_slice_nil (P := Tryz.prog) W 65 141 a n c 0 0 Tryz.underlying65
  go_enter Tryz.func66, Tryz.ntmps66
  go_wp2
  go_ret
  exact ⟨rfl, rfl⟩
set_option maxRecDepth 100000 in
set_option maxHeartbeats 400000 in
theorem cloneIm_some (w : World) (a : Addr) (n c : Nat) (xs : List Value) (hl : xs.length = n * 2) (hc : ∀ j u, xs[j]? = some u → w.cell? (a.add j) = some u) (h1 : ∀ u ∈ xs, u.oneCell' = true) (hn : n ≤ 1000000000) :
    Calls Tryz.prog 66 #[.slice (some a) n c] w fun e w' => ∃ v, e = .returned v ∧ w'.ownsRow w.heap.size 141 2 v n xs ∧ Below w.heap.size w w' := by
  obtain ⟨i0, hi, hz0, hz1, hz2⟩ := info_parts infoIm
  have own0 : (w.alloc (.cells #[] 141)).ownsRow w.heap.size 141 2 (.slice (some ⟨w.heap.size, 0, none⟩) 0 0) 0 [] :=
    World.ownsRow_made w #[] 0 (Nat.le_refl _) (by unfold maxLen; omega) (by simp)
  have hc' : ∀ j u, xs[j]? = some u → (w.alloc (.cells #[] 141)).cell? (a.add j) = some u := fun j u hu => cell_alloc_keep _ _ _ (hc j u hu)
  have HC := Lib.hid hc'
  have HL := Lib.hid hl
  have H1 := Lib.hid h1
  clear hc hc' hl h1
  have heq := fun (W : World) (a : Option Addr) (n c : Nat) => Lib.run_eql_slice_nil (P := Tryz.prog) W 65 141 a n c 0 0 Tryz.underlying65
  go_enter Tryz.func66, Tryz.ntmps66
  go_wp2_with (at_builtin; refine wpList_append_own_at _ rfl _ _ 65 rfl w.heap.size 141 i0 (.agg #[.int .i64 0, .int .u64 0]) 2 16 Tryz.underlying65 hi hz0 hz1 hz2 rfl (by decide) (.slice (some ⟨w.heap.size, 0, none⟩) 0 0) 0 [] rfl own0 a n c xs rfl HL.out HC.out H1.out (by unfold maxLen; omega) (by omega) (by simp) ?_)
  intro v' w1 hown hgrow _ _
  have hB : Below w.heap.size w w1 := ((Below.refl _ w).alloc (Nat.le_refl _) _).grown hgrow (by simp) (fun k h => by simp [Value.ownBlock] at h; omega)
  have HO := Lib.hid hown
  clear hown hgrow own0
  go_wp2
  go_ret
  exact ⟨_, rfl, by simpa using HO.out, hB⟩
theorem cloneIm_any (w : World) (v : Value) (n : Nat) (xs : List Value) (hR : Reads w 2 v n xs) (h1 : ∀ u ∈ xs, u.oneCell' = true) (hn : n ≤ 1000000000) :
    Calls Tryz.prog 66 #[v] w fun e w' => ∃ v', e = .returned v' ∧ Row w' 141 2 v' n xs (fun k => w.heap.size ≤ k) ∧ Below w.heap.size w w' := by
  rcases hR.form with ⟨rfl, ao, c, rfl⟩ | ⟨bl, off, c, rfl, hc, hr⟩
  · have hb : xs = [] := List.eq_nil_of_length_eq_zero (by simpa using hR.len)
    subst hb
    rcases ao with _ | a
    · refine (cloneIm_nil w c).mono ?_
      rintro e w' ⟨rfl, rfl⟩
      exact ⟨_, rfl, Row.nil _ _ _ _, Below.refl _ _⟩
    · refine (cloneIm_some w a 0 c [] hR.len (by simp) h1 hn).mono ?_
      rintro e w' ⟨v', rfl, ho, hb⟩
      exact ⟨v', rfl, ⟨⟨ho.1, ho.2.imp id fun ⟨g, cap, cur, h1, _, h2⟩ => ⟨g, cap, cur, h1, Nat.zero_le _, h2⟩⟩, fun k hk => (ho.lt k hk).1⟩, hb⟩
  · refine (cloneIm_some w _ n c xs hR.len (fun j u hu => by rw [addr_plain]; exact hr j u hu) h1 hn).mono ?_
    rintro e w' ⟨v', rfl, ho, hb⟩
    exact ⟨v', rfl, ⟨⟨ho.1, ho.2.imp id fun ⟨g, cap, cur, h1, _, h2⟩ => ⟨g, cap, cur, h1, Nat.zero_le _, h2⟩⟩, fun k hk => (ho.lt k hk).1⟩, hb⟩

theorem infoMt : (Tryz.prog.info? 92).map (fun i => (i.zero, i.size, i.bytes)) = some (some (.agg #[.int .u64 0, .int .u64 0, .string ⟨#[]⟩, .string ⟨#[]⟩]), 4, 48) := by kernel_rfl
set_option maxRecDepth 100000 in
set_option maxHeartbeats 400000 in
theorem cloneMt_nil (w : World) (c : Nat) : Calls Tryz.prog 41 #[.slice none 0 c] w fun e w' => e = .returned (.slice none 0 0) ∧ w = w' := by
  have heq := fun (W : World) (a : Option Addr) (n c : Nat) => Lib.run_eql_slice_nil (P := Tryz.prog) W 56 92 a n c 0 0 Tryz.underlying56
  go_enter Tryz.func41, Tryz.ntmps41
  go_wp2
  go_ret
  exact ⟨rfl, rfl⟩
set_option maxRecDepth 100000 in
set_option maxHeartbeats 400000 in
theorem cloneMt_some (w : World) (a : Addr) (n c : Nat) (xs : List Value) (hl : xs.length = n * 4) (hc : ∀ j u, xs[j]? = some u → w.cell? (a.add j) = some u) (h1 : ∀ u ∈ xs, u.oneCell' = true) (hn : n ≤ 1000000000) :
    Calls Tryz.prog 41 #[.slice (some a) n c] w fun e w' => ∃ v, e = .returned v ∧ w'.ownsRow w.heap.size 92 4 v n xs ∧ Below w.heap.size w w' := by
  obtain ⟨i0, hi, hz0, hz1, hz2⟩ := info_parts infoMt
  have own0 : (w.alloc (.cells #[] 92)).ownsRow w.heap.size 92 4 (.slice (some ⟨w.heap.size, 0, none⟩) 0 0) 0 [] :=
    World.ownsRow_made w #[] 0 (Nat.le_refl _) (by unfold maxLen; omega) (by simp)
  have hc' : ∀ j u, xs[j]? = some u → (w.alloc (.cells #[] 92)).cell? (a.add j) = some u := fun j u hu => cell_alloc_keep _ _ _ (hc j u hu)
  have HC := Lib.hid hc'
  have HL := Lib.hid hl
  have H1 := Lib.hid h1
  clear hc hc' hl h1
  have heq := fun (W : World) (a : Option Addr) (n c : Nat) => Lib.run_eql_slice_nil (P := Tryz.prog) W 56 92 a n c 0 0 Tryz.underlying56
  go_enter Tryz.func41, Tryz.ntmps41
  go_wp2_with (at_builtin; refine wpList_append_own_at _ rfl _ _ 56 rfl w.heap.size 92 i0 (.agg #[.int .u64 0, .int .u64 0, .string ⟨#[]⟩, .string ⟨#[]⟩]) 4 48 Tryz.underlying56 hi hz0 hz1 hz2 rfl (by decide) (.slice (some ⟨w.heap.size, 0, none⟩) 0 0) 0 [] rfl own0 a n c xs rfl HL.out HC.out H1.out (by unfold maxLen; omega) (by omega) (by simp) ?_)
  intro v' w1 hown hgrow _ _
  have hB : Below w.heap.size w w1 := ((Below.refl _ w).alloc (Nat.le_refl _) _).grown hgrow (by simp) (fun k h => by simp [Value.ownBlock] at h; omega)
  have HO := Lib.hid hown
  clear hown hgrow own0
  go_wp2
  go_ret
  exact ⟨_, rfl, by simpa using HO.out, hB⟩
theorem cloneMt_any (w : World) (v : Value) (n : Nat) (xs : List Value) (hR : Reads w 4 v n xs) (h1 : ∀ u ∈ xs, u.oneCell' = true) (hn : n ≤ 1000000000) :
    Calls Tryz.prog 41 #[v] w fun e w' => ∃ v', e = .returned v' ∧ Row w' 92 4 v' n xs (fun k => w.heap.size ≤ k) ∧ Below w.heap.size w w' := by
  rcases hR.form with ⟨rfl, ao, c, rfl⟩ | ⟨bl, off, c, rfl, hc, hr⟩
  · have hb : xs = [] := List.eq_nil_of_length_eq_zero (by simpa using hR.len)
    subst hb
    rcases ao with _ | a
    · refine (cloneMt_nil w c).mono ?_
      rintro e w' ⟨rfl, rfl⟩
      exact ⟨_, rfl, Row.nil _ _ _ _, Below.refl _ _⟩
    · refine (cloneMt_some w a 0 c [] hR.len (by simp) h1 hn).mono ?_
      rintro e w' ⟨v', rfl, ho, hb⟩
      exact ⟨v', rfl, ⟨⟨ho.1, ho.2.imp id fun ⟨g, cap, cur, h1, _, h2⟩ => ⟨g, cap, cur, h1, Nat.zero_le _, h2⟩⟩, fun k hk => (ho.lt k hk).1⟩, hb⟩
  · refine (cloneMt_some w _ n c xs hR.len (fun j u hu => by rw [addr_plain]; exact hr j u hu) h1 hn).mono ?_
    rintro e w' ⟨v', rfl, ho, hb⟩
    exact ⟨v', rfl, ⟨⟨ho.1, ho.2.imp id fun ⟨g, cap, cur, h1, _, h2⟩ => ⟨g, cap, cur, h1, Nat.zero_le _, h2⟩⟩, fun k hk => (ho.lt k hk).1⟩, hb⟩

theorem infoU3 : (Tryz.prog.info? 48).map (fun i => (i.zero, i.size, i.bytes)) = some (some (.int .u32 0), 1, 4) := by kernel_rfl
set_option maxRecDepth 100000 in
set_option maxHeartbeats 400000 in
theorem cloneU3_nil (w : World) (c : Nat) : Calls Tryz.prog 36 #[.slice none 0 c] w fun e w' => e = .returned (.slice none 0 0) ∧ w = w' := by
  have heq := fun (W : World) (a : Option Addr) (n c : Nat) => Lib.run_eql_slice_nil (P := Tryz.prog) W 22 48 a n c 0 0 Tryz.underlying22
  go_enter Tryz.func36, Tryz.ntmps36
  go_wp2
  go_ret
  exact ⟨rfl, rfl⟩
set_option maxRecDepth 100000 in
set_option maxHeartbeats 400000 in
theorem cloneU3_some (w : World) (a : Addr) (n c : Nat) (xs : List Value) (hl : xs.length = n * 1) (hc : ∀ j u, xs[j]? = some u → w.cell? (a.add j) = some u) (h1 : ∀ u ∈ xs, u.oneCell' = true) (hn : n ≤ 1000000000) :
    Calls Tryz.prog 36 #[.slice (some a) n c] w fun e w' => ∃ v, e = .returned v ∧ w'.ownsRow w.heap.size 48 1 v n xs ∧ Below w.heap.size w w' := by
  obtain ⟨i0, hi, hz0, hz1, hz2⟩ := info_parts infoU3
  have own0 : (w.alloc (.cells #[] 48)).ownsRow w.heap.size 48 1 (.slice (some ⟨w.heap.size, 0, none⟩) 0 0) 0 [] :=
    World.ownsRow_made w #[] 0 (Nat.le_refl _) (by unfold maxLen; omega) (by simp)
  have hc' : ∀ j u, xs[j]? = some u → (w.alloc (.cells #[] 48)).cell? (a.add j) = some u := fun j u hu => cell_alloc_keep _ _ _ (hc j u hu)
  have HC := Lib.hid hc'
  have HL := Lib.hid hl
  have H1 := Lib.hid h1
  clear hc hc' hl h1
  have heq := fun (W : World) (a : Option Addr) (n c : Nat) => Lib.run_eql_slice_nil (P := Tryz.prog) W 22 48 a n c 0 0 Tryz.underlying22
  go_enter Tryz.func36, Tryz.ntmps36
  go_wp2_with (at_builtin; refine wpList_append_own_at _ rfl _ _ 22 rfl w.heap.size 48 i0 (.int .u32 0) 1 4 Tryz.underlying22 hi hz0 hz1 hz2 rfl (by decide) (.slice (some ⟨w.heap.size, 0, none⟩) 0 0) 0 [] rfl own0 a n c xs rfl HL.out HC.out H1.out (by unfold maxLen; omega) (by omega) (by simp) ?_)
  intro v' w1 hown hgrow _ _
  have hB : Below w.heap.size w w1 := ((Below.refl _ w).alloc (Nat.le_refl _) _).grown hgrow (by simp) (fun k h => by simp [Value.ownBlock] at h; omega)
  have HO := Lib.hid hown
  clear hown hgrow own0
  go_wp2
  go_ret
  exact ⟨_, rfl, by simpa using HO.out, hB⟩
theorem cloneU3_any (w : World) (v : Value) (n : Nat) (xs : List Value) (hR : Reads w 1 v n xs) (h1 : ∀ u ∈ xs, u.oneCell' = true) (hn : n ≤ 1000000000) :
    Calls Tryz.prog 36 #[v] w fun e w' => ∃ v', e = .returned v' ∧ Row w' 48 1 v' n xs (fun k => w.heap.size ≤ k) ∧ Below w.heap.size w w' := by
  rcases hR.form with ⟨rfl, ao, c, rfl⟩ | ⟨bl, off, c, rfl, hc, hr⟩
  · have hb : xs = [] := List.eq_nil_of_length_eq_zero (by simpa using hR.len)
    subst hb
    rcases ao with _ | a
    · refine (cloneU3_nil w c).mono ?_
      rintro e w' ⟨rfl, rfl⟩
      exact ⟨_, rfl, Row.nil _ _ _ _, Below.refl _ _⟩
    · refine (cloneU3_some w a 0 c [] hR.len (by simp) h1 hn).mono ?_
      rintro e w' ⟨v', rfl, ho, hb⟩
      exact ⟨v', rfl, ⟨⟨ho.1, ho.2.imp id fun ⟨g, cap, cur, h1, _, h2⟩ => ⟨g, cap, cur, h1, Nat.zero_le _, h2⟩⟩, fun k hk => (ho.lt k hk).1⟩, hb⟩
  · refine (cloneU3_some w _ n c xs hR.len (fun j u hu => by rw [addr_plain]; exact hr j u hu) h1 hn).mono ?_
    rintro e w' ⟨v', rfl, ho, hb⟩
    exact ⟨v', rfl, ⟨⟨ho.1, ho.2.imp id fun ⟨g, cap, cur, h1, _, h2⟩ => ⟨g, cap, cur, h1, Nat.zero_le _, h2⟩⟩, fun k hk => (ho.lt k hk).1⟩, hb⟩
end Go.Proofs.YteiaifhnikknbaaGreatDoor


namespace Go.Proofs.YteiaifhnikknbaaGreatDoor
open Go.RowKit

structure Mbr where
  task : Int
  ops : Int
  need : Int
  first : Int
  say : Int
  err : Int
  deriving DecidableEq
structure Imm where
  list : Int
  log : Int
  deriving DecidableEq
structure Meta where
  num : Int
  size : Int
  least : ByteArray
  most : ByteArray
  deriving DecidableEq
structure Gd where
  l : List Mbr
  done : List Mbr
  group : Int
  last : Int
  bad : Int
  mem : Int
  imms : List Imm
  log : Int
  next : Int
  tables : List Meta
  closed : Bool
def Mbr.cells (a : Mbr) : List Value := [.int .i64 a.task, .int .i64 a.ops, .int .u64 a.need, .int .u64 a.first, .int .u8 a.say, .int .i64 a.err]
def Imm.cells (a : Imm) : List Value := [.int .i64 a.list, .int .u64 a.log]
def Meta.cells (a : Meta) : List Value := [.int .u64 a.num, .int .u64 a.size, .string a.least, .string a.most]
def mbs (l : List Mbr) : List Value := l.flatMap Mbr.cells
def ims (l : List Imm) : List Value := l.flatMap Imm.cells
def mts (l : List Meta) : List Value := l.flatMap Meta.cells
def gC (G : Gd) (sl sd si st : Value) : List Value := [sl, sd, .int .i64 G.group, .int .u64 G.last, .int .i64 G.bad, .int .i64 G.mem, si, .int .u64 G.log, .int .u64 G.next, st, .bool G.closed]
theorem mbs_one (l : List Mbr) : ∀ u ∈ mbs l, u.oneCell' = true := by
  intro u hu
  simp only [mbs, List.mem_flatMap, Mbr.cells] at hu
  obtain ⟨a, _, hu⟩ := hu
  simp at hu
  rcases hu with rfl | rfl | rfl | rfl | rfl | rfl <;> rfl
theorem ims_one (l : List Imm) : ∀ u ∈ ims l, u.oneCell' = true := by
  intro u hu
  simp only [ims, List.mem_flatMap, Imm.cells] at hu
  obtain ⟨a, _, hu⟩ := hu
  simp at hu
  rcases hu with rfl | rfl <;> rfl
theorem mts_one (l : List Meta) : ∀ u ∈ mts l, u.oneCell' = true := by
  intro u hu
  simp only [mts, List.mem_flatMap, Meta.cells] at hu
  obtain ⟨a, _, hu⟩ := hu
  simp at hu
  rcases hu with rfl | rfl | rfl | rfl <;> rfl

/-- What is guarded can be read. -/
structure GR (w : World) (G : Gd) (sl sd si st : Value) : Prop where
  l : Reads w 6 sl G.l.length (mbs G.l)
  d : Reads w 6 sd G.done.length (mbs G.done)
  i : Reads w 2 si G.imms.length (ims G.imms)
  t : Reads w 4 st G.tables.length (mts G.tables)
/-- It lies in blocks of A, each row in its own. -/
structure GO (w : World) (G : Gd) (sl sd si st : Value) (A : Nat → Prop) : Prop where
  l : Row w 155 6 sl G.l.length (mbs G.l) A
  d : Row w 155 6 sd G.done.length (mbs G.done) A
  i : Row w 141 2 si G.imms.length (ims G.imms) A
  t : Row w 92 4 st G.tables.length (mts G.tables) A
structure Gd.Small (G : Gd) (n : Nat) : Prop where
  l : G.l.length ≤ n
  d : G.done.length ≤ n
  i : G.imms.length ≤ n
  t : G.tables.length ≤ n
variable {w w' : World} {G : Gd} {sl sd si st : Value} {A B : Nat → Prop}
theorem GO.gr (h : GO w G sl sd si st A) : GR w G sl sd si st := ⟨h.l.reads, h.d.reads, h.i.reads, h.t.reads⟩
theorem GR.below (h : GR w G sl sd si st) (hb : Below w.heap.size w w') : GR w' G sl sd si st := ⟨h.l.below hb, h.d.below hb, h.i.below hb, h.t.below hb⟩
theorem Row.below {e size n : Nat} {v : Value} {xs : List Value} (h : Row w e size v n xs A) (hb : Below w.heap.size w w') : Row w' e size v n xs A := h.keep fun _ hk => hb.block _ (h.lt hk)
theorem Row.wider {e size n : Nat} {v : Value} {xs : List Value} (h : Row w e size v n xs A) (hAB : ∀ k, A k → B k) : Row w e size v n xs B := h.mono fun k _ hk => hAB k hk
theorem Row.of_owns {base e size n : Nat} {v : Value} {xs : List Value} (h : w.ownsRow base e size v n xs) : Row w e size v n xs (fun k => base ≤ k) :=
  ⟨⟨h.1, h.2.imp id fun ⟨g, cap, cur, h1, _, h2⟩ => ⟨g, cap, cur, h1, Nat.zero_le _, h2⟩⟩, fun k hk => (h.lt k hk).1⟩
theorem Row.slice_one {e size n : Nat} {v : Value} {xs : List Value} (h : Row w e size v n xs A) : v.oneCell' = true := by obtain ⟨ao, c, rfl⟩ := h.slice; rfl
theorem Reads.slice_one {size n : Nat} {v : Value} {xs : List Value} (h : Reads w size v n xs) : v.oneCell' = true := by obtain ⟨ao, c, rfl⟩ := h.slice; rfl
theorem GO.below (h : GO w G sl sd si st A) (hb : Below w.heap.size w w') : GO w' G sl sd si st A := ⟨h.l.below hb, h.d.below hb, h.i.below hb, h.t.below hb⟩
theorem GO.wider (h : GO w G sl sd si st A) (hAB : ∀ k, A k → B k) : GO w G sl sd si st B := ⟨h.l.wider hAB, h.d.wider hAB, h.i.wider hAB, h.t.wider hAB⟩
theorem GO.keep (h : GO w G sl sd si st A) (hs : ∀ k, A k → k < w.heap.size → w'.heap[k]? = w.heap[k]?) : GO w' G sl sd si st A :=
  ⟨h.l.keep fun k hk => hs k (h.l.home k hk) (h.l.lt hk), h.d.keep fun k hk => hs k (h.d.home k hk) (h.d.lt hk), h.i.keep fun k hk => hs k (h.i.home k hk) (h.i.lt hk), h.t.keep fun k hk => hs k (h.t.home k hk) (h.t.lt hk)⟩
theorem Row.at_base {w : World} {base e size n : Nat} {v : Value} {xs : List Value} (h : Row w e size v n xs (fun k => base ≤ k)) : w.ownsRow base e size v n xs :=
  ⟨h.owns.1, h.owns.2.imp id fun ⟨g, cap, cur, h1, _, h2⟩ => ⟨g, cap, cur, h1, h.home g (by rw [h1]; rfl), h2⟩⟩
/-- It can be read, and lies at N and above. -/
structure GH (w : World) (G : Gd) (sl sd si st : Value) (N : Nat) : Prop where
  gr : GR w G sl sd si st
  hl : ∀ k, sl.ownBlock = some k → N ≤ k
  hd : ∀ k, sd.ownBlock = some k → N ≤ k
  hi : ∀ k, si.ownBlock = some k → N ≤ k
  ht : ∀ k, st.ownBlock = some k → N ≤ k
theorem Reads.stay {w w' : World} {size n : Nat} {v : Value} {xs : List Value} (h : Reads w size v n xs) (hs : ∀ k, v.ownBlock = some k → k < w.heap.size → w'.heap[k]? = w.heap[k]?) : Reads w' size v n xs :=
  ⟨h.len, h.form.imp id fun ⟨b, o, c, hv, hc, hr⟩ => ⟨b, o, c, hv, hc, fun j u hu => by
    have h1 := hr j u hu
    exact (World.cell?_of_block (w := w) (hs b (by rw [hv]; rfl) (World.block_lt_of_cell? w _ h1))).trans h1⟩⟩
theorem GH.keep {w w' : World} {G : Gd} {sl sd si st : Value} {N : Nat} (h : GH w G sl sd si st N) (hs : ∀ k, N ≤ k → k < w.heap.size → w'.heap[k]? = w.heap[k]?) : GH w' G sl sd si st N :=
  ⟨⟨h.gr.l.stay fun k hk => hs k (h.hl k hk), h.gr.d.stay fun k hk => hs k (h.hd k hk), h.gr.i.stay fun k hk => hs k (h.hi k hk), h.gr.t.stay fun k hk => hs k (h.ht k hk)⟩, h.hl, h.hd, h.hi, h.ht⟩
theorem GH.lower {w : World} {G : Gd} {sl sd si st : Value} {N M : Nat} (h : GH w G sl sd si st N) (hm : M ≤ N) : GH w G sl sd si st M :=
  ⟨h.gr, fun k hk => Nat.le_trans hm (h.hl k hk), fun k hk => Nat.le_trans hm (h.hd k hk), fun k hk => Nat.le_trans hm (h.hi k hk), fun k hk => Nat.le_trans hm (h.ht k hk)⟩
theorem GO.gh {w : World} {G : Gd} {sl sd si st : Value} {N : Nat} (h : GO w G sl sd si st (fun k => N ≤ k)) : GH w G sl sd si st N := ⟨h.gr, h.l.home, h.d.home, h.i.home, h.t.home⟩
theorem gC_one (G : Gd) (h1 : sl.oneCell' = true) (h2 : sd.oneCell' = true) (h3 : si.oneCell' = true) (h4 : st.oneCell' = true) : ∀ u ∈ gC G sl sd si st, u.oneCell' = true := by
  intro u hu
  simp only [gC] at hu
  simp at hu
  rcases hu with rfl | rfl | rfl | rfl | rfl | rfl | rfl | rfl | rfl | rfl | rfl <;> first | assumption | rfl
theorem infoG : (Tryz.prog.info? 67).map (·.size) = some 11 := by kernel_rfl
end Go.Proofs.YteiaifhnikknbaaGreatDoor
