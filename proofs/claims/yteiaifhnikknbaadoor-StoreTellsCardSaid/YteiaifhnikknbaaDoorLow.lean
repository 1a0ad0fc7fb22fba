/- The walk over ratlinelow.Trace: are two traces the same? -/
import Derived.Test.YteiaifhnikknbaaDoorCells
import Derived.Test.YteiaifhnikknbaaDoorProg
import Derived.Laws.StructEq
import Derived.Test.YteiaifhnikknbaaDoorCellsRw
/- '==' and '!=' of structs. -/
namespace Go.Proofs.YteiaifhnikknbaaDoor
open Go.RowKit

section
variable {P : Program} {d : Nat} {xs ys : Array Value} {f : Field} {fs : List Field} {a b : Value} {r s : Bool} {w : World}
theorem eqF_nil : (Op.eqFields d xs ys []).run P w = .ok true w := by simp [Op.eqFields]
theorem eqF_cons (hn : f.name ≠ "_") (ha : (part f.type xs f.offset).run P w = .ok a w) (hb : (part f.type ys f.offset).run P w = .ok b w)
    (he : (Op.equalIn d f.type a b).run P w = .ok r w) (hr : (Op.eqFields d xs ys fs).run P w = .ok s w) :
    (Op.eqFields d xs ys (f :: fs)).run P w = .ok (r && s) w := by
  rw [Op.eqFields, if_pos hn]
  simp only [Sem.run_bind, ha, hb, he, Result.andThen_ok]
  cases r
  · simp
  · simpa using hr
theorem eqS_of {t : TypeId} {fs : Array Field} (hu : P.underlying t = some (.struct fs)) (hp : P.stoodInHeld t = false) (h : (Op.eqFields d xs ys fs.toList).run P w = .ok r w) :
    (Op.equalIn (d + 1) t (.agg xs) (.agg ys)).run P w = .ok r w := by
  have hf : P.fieldsOf t = fs := by simp [Program.fieldsOf, hu]
  rw [run_equalIn_struct (P := P) w d t xs ys (by rw [hf]; exact hu) hp, hf]
  exact h
theorem run_neq_of {t : TypeId} (h : (Op.equalIn 10000 t (.agg xs) (.agg ys)).run P w = .ok r w) : (binOp .neq t (.agg xs) (.agg ys)).run P w = .ok (.bool (!r)) w := by
  simp only [binOp]
  simp [Op.equal, Op.maxDepth, h]
theorem run_eql_of {t : TypeId} (h : (Op.equalIn 10000 t (.agg xs) (.agg ys)).run P w = .ok r w) : (binOp .eql t (.agg xs) (.agg ys)).run P w = .ok (.bool r) w := by
  simp only [binOp]
  simp [Op.equal, Op.maxDepth, h]
end

theorem eq_acc (d : Nat) (w : World) (x y : Acc) :
    (Op.equalIn (d + 2) 96 (.agg #[.int .i64 x.task, .int .u8 x.what, .int .i64 x.at_]) (.agg #[.int .i64 y.task, .int .u8 y.what, .int .i64 y.at_])).run Tryd.prog w = .ok (decide (x = y)) w := by
  have e : decide (x = y) = ((x.task == y.task) && ((x.what == y.what) && ((x.at_ == y.at_) && true))) := by
    rw [Bool.eq_iff_iff]
    obtain ⟨a, b, c⟩ := x
    obtain ⟨a', b', c'⟩ := y
    simp
  rw [e]
  refine eqS_of Tryd.underlying96 (by kernel_rfl) ?_
  refine eqF_cons (by decide) (by go_simp; rfl) (by go_simp; rfl) (by go_simp) ?_
  refine eqF_cons (by decide) (by go_simp; rfl) (by go_simp; rfl) (by go_simp) ?_
  exact eqF_cons (by decide) (by go_simp; rfl) (by go_simp; rfl) (by go_simp) eqF_nil

theorem neq_acc (w : World) (x y : Acc) :
    (binOp .neq 96 (.agg #[.int .i64 x.task, .int .u8 x.what, .int .i64 x.at_]) (.agg #[.int .i64 y.task, .int .u8 y.what, .int .i64 y.at_])).run Tryd.prog w = .ok (.bool (!decide (x = y))) w :=
  run_neq_of (eq_acc 9998 w x y)

end Go.Proofs.YteiaifhnikknbaaDoor

/- Accesses in a row; boxes that are nobody's. -/
namespace Go.Proofs.YteiaifhnikknbaaDoor
open Go.RowKit

/-- The three cells of an access in a row of accesses. -/
theorem accs_get (l : List Acc) (k : Nat) (h : k < l.length) : (accs l)[k * 3]? = some (.int .i64 l[k].task) ∧ (accs l)[k * 3 + 1]? = some (.int .u8 l[k].what) ∧ (accs l)[k * 3 + 2]? = some (.int .i64 l[k].at_) := by
  induction l generalizing k with
  | nil => simp at h
  | cons a l ih =>
    have e : accs (a :: l) = .int .i64 a.task :: .int .u8 a.what :: .int .i64 a.at_ :: accs l := rfl
    cases k with
    | zero => rw [e]; simp
    | succ k =>
      have := ih k (by simpa using h)
      rw [e, show (k + 1) * 3 = k * 3 + 1 + 1 + 1 by omega]
      simpa using this

theorem Reads.acc {w : World} {n b off c : Nat} {l : List Acc} (h : Reads w 3 (.slice (some ⟨b, off, none⟩) n c) n (accs l)) (k : Nat) (hk : k < l.length) :
    w.cell? ⟨b, off + k * 3, none⟩ = some (.int .i64 l[k].task) ∧ w.cell? ⟨b, off + k * 3 + 1, none⟩ = some (.int .u8 l[k].what) ∧ w.cell? ⟨b, off + k * 3 + 2, none⟩ = some (.int .i64 l[k].at_) := by
  have hl := h.len
  rw [accs_length] at hl
  obtain ⟨h0, h1, h2⟩ := accs_get l k hk
  rcases h.form with ⟨rfl, _⟩ | ⟨b', off', c', e, _, hr⟩
  · omega
  · cases e
    exact ⟨hr _ _ h0, hr _ _ h1, hr _ _ h2⟩

theorem Cells.sans {w : World} {c : CRef} {S : Mem} {A : Nat → Prop} (h : Cells w c S A) {g : Nat} (hg : w.heap.size ≤ g) : Cells w c S (fun k => A k ∧ k ≠ g) := h.mono fun k hk hA => ⟨hA, by omega⟩
theorem Fresh.sans {w w' : World} {A : Nat → Prop} (h : Fresh A w) {g : Nat} (hs : w.heap.size ≤ w'.heap.size) (hg : g < w'.heap.size) : Fresh (fun k => A k ∧ k ≠ g) w' := ⟨fun k hk => ⟨h.new k (by omega), by omega⟩⟩
theorem Only.sans {w w' : World} {A : Nat → Prop} {g : Nat} (h : Only (fun k => A k ∧ k ≠ g) w w') : Only A w w' := h.mono fun _ _ hk => hk.1

end Go.Proofs.YteiaifhnikknbaaDoor


namespace Go.Proofs.YteiaifhnikknbaaDoor
open Go.RowKit

theorem take_succ_of {α : Type} {l m : List α} {k : Nat} (h : l.take k = m.take k) (h1 : k < l.length) (h2 : k < m.length) (h3 : l[k] = m[k]) : l.take (k + 1) = m.take (k + 1) := by
  rw [List.take_succ_eq_append_getElem h1, List.take_succ_eq_append_getElem h2, h, h3]

end Go.Proofs.YteiaifhnikknbaaDoor
