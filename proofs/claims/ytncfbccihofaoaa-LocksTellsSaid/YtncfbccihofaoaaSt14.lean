/- The reference's state of law 14, as cells. -/
import Derived.Test.YtncfbccihofaoaaLocksX
import Derived.Test.YtncfbccihofaoaaAppR
import Derived.Deep.WholeRow
import Derived.Deep.MidRow
namespace Go.Proofs.Ytncfbccihofaoaa
open Go.RowKit Go.Maps

def svI (o : Option Int) : Int := match o with | some c => c + 1 | none => 0
def stC (L : Lk) (tv : Value) : List Value := .int .i64 L.conds :: .bool L.held :: .int .i64 L.holder :: ((List.range 64).map (fun i => Value.int .i64 (svI (L.sl i))) ++ [tv])
theorem stC_len (L : Lk) (tv : Value) : (stC L tv).length = 68 := by simp [stC]
theorem stC_sl (L : Lk) (tv : Value) (i : Nat) (h : i < 64) : (stC L tv)[3 + i]? = some (.int .i64 (svI (L.sl i))) := by
  simp only [stC, show 3 + i = i + 1 + 1 + 1 by omega, List.getElem?_cons_succ]
  rw [List.getElem?_append_left (by simp; omega), List.getElem?_map, List.getElem?_range h]
  rfl
theorem stC_tr (L : Lk) (tv : Value) : (stC L tv)[67]? = some tv := by
  simp only [stC, show 67 = 64 + 1 + 1 + 1 by omega, List.getElem?_cons_succ]
  rw [List.getElem?_append_right (by simp)]
  simp
theorem stC_one (L : Lk) (tv : Value) (h : tv.oneCell' = true) : ∀ u ∈ stC L tv, u.oneCell' = true := by
  intro u hu
  simp only [stC, List.mem_cons, List.mem_append, List.mem_map, List.mem_nil_iff, or_false] at hu
  rcases hu with rfl | rfl | rfl | ⟨i, _, rfl⟩ | rfl
  · rfl
  · rfl
  · rfl
  · rfl
  · exact h
theorem stC_set67 (L : Lk) (tv tv' : Value) : (stC L tv).set 67 tv' = stC L tv' := by
  simp only [stC, show 67 = 64 + 1 + 1 + 1 by omega, List.set_cons_succ]
  rw [List.set_append_right _ _ (by simp)]
  simp
theorem stC_held (L : Lk) (tv : Value) (b : Bool) (n : Int) : ((stC L tv).set 1 (.bool b)).set 2 (.int .i64 n) = stC { L with held := b, holder := n } tv := rfl
theorem stC_up (L : Lk) (tv : Value) (t : Nat) (ht : t < 64) (o : Option Int) : (stC L tv).set (3 + t) (.int .i64 (svI o)) = stC { L with sl := slUp L.sl t o } tv := by
  simp only [stC, show 3 + t = t + 1 + 1 + 1 by omega, List.set_cons_succ]
  rw [List.set_append_left _ _ (by simp; omega)]
  congr 4
  refine List.ext_getElem? fun i => ?_
  rw [List.getElem?_set]
  by_cases h : t = i
  · subst h
    simp [ht, slUp]
  · rw [if_neg h]
    simp only [List.getElem?_map]
    by_cases hi : i < 64
    · rw [List.getElem?_range hi]
      simp [slUp, Ne.symm h]
    · rw [List.getElem?_eq_none (by simp; omega)]
      rfl

theorem infoSt : (Try.prog.info? 47).map (fun i => (i.zero, i.size)) = some (some (.agg (stC ⟨0, false, 0, fun _ => none⟩ (.slice none 0 0)).toArray), 68) := by kernel_rfl
theorem sizeSt (C : List Value) (h : C.length = 68) : (Try.prog.info? 47).map (·.size) = some C.toArray.size := by
  rw [(zero_of_info infoSt).2]; simp [h]
theorem zeroSt : ∃ Z : List Value, Z.length = 68 ∧ ∀ w, (zeroValue 47).run Try.prog w = .ok (.agg Z.toArray) w := ⟨_, stC_len _ _, (zero_of_info infoSt).1⟩

theorem Blk.load {w : World} {b : Nat} {C : List Value} (h : Blk w b 47 C) (hl : C.length = 68) : (loadVar 47 ⟨b, 0, none⟩).run Try.prog w = .ok (.agg C.toArray) w :=
  run_loadVar_row w b _ _ C.toArray (0, 0) _ h Try.underlying47 rfl (sizeSt C hl)

section
variable {P : Program} {fn : Func} {p q r : Tmp} {ty : TypeId} {tmps : Array Value} {w w' : World} {ad : Addr} {cs : Array Value}
theorem results_cell_tmp (h : fn.results = #[.cell p ty, .tmp q]) (hp : tmps.getD p undef = .pointer (some ad)) (hl : (loadVar ty ad).run P w = .ok (.agg cs) w) (x : Value) (hx : tmps.getD q undef = x) :
    (results fn tmps).run P w = .ok (.tuple #[.agg cs, x]) w := by
  have hp' : tmps[p]?.getD undef = .pointer (some ad) := by simpa using hp
  have hx' : tmps[q]?.getD undef = x := by simpa using hx
  simp [results, h, hp', asAddr, hl, hx']
theorem results_cell_tmp2 (h : fn.results = #[.cell p ty, .tmp q, .tmp r]) (hp : tmps.getD p undef = .pointer (some ad)) (hl : (loadVar ty ad).run P w = .ok (.agg cs) w) (x y : Value) (hx : tmps.getD q undef = x) (hy : tmps.getD r undef = y) :
    (results fn tmps).run P w = .ok (.tuple #[.agg cs, x, y]) w := by
  have hp' : tmps[p]?.getD undef = .pointer (some ad) := by simpa using hp
  have hx' : tmps[q]?.getD undef = x := by simpa using hx
  have hy' : tmps[r]?.getD undef = y := by simpa using hy
  simp [results, h, hp', asAddr, hl, hx', hy']
end

/-- A whole block is laid anew. -/
theorem Blk.setRow {w : World} {b t : Nat} {cs : List Value} (h : Blk w b t cs) (ds : List Value) : Blk (w.setRow b ds.toArray) b t ds := setRow_heap w b _ _ t (0, 0) h
theorem heap_setRow_other (w : World) (b : Nat) (c : Array Value) {k : Nat} (hk : k ≠ b) : (w.setRow b c).heap[k]? = w.heap[k]? := by
  show (w.heap.modify b _)[k]? = _
  rw [Array.getElem?_modify, if_neg (Ne.symm hk)]
theorem setRow_size (w : World) (b : Nat) (c : Array Value) : (w.setRow b c).heap.size = w.heap.size := by
  show (w.heap.modify b _).size = _
  simp
theorem Only.setRow {A : Nat → Prop} {a w : World} (h : Only A a w) {b : Nat} (hb : A b) (c : Array Value) : Only A a (w.setRow b c) :=
  h.trans ⟨rfl, rfl, rfl, by rw [setRow_size]; exact Nat.le_refl _, fun k _ hk => heap_setRow_other w b c (fun e => hk (e ▸ hb))⟩

end Go.Proofs.Ytncfbccihofaoaa
