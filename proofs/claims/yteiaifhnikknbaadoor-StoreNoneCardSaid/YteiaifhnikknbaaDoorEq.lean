/- '==' and '!=' of structs. -/
import Derived.Test.YteiaifhnikknbaaDoorCells
import Derived.Test.YteiaifhnikknbaaDoorProg
import Derived.Laws.StructEq
namespace Go.Proofs.YteiaifhnikknbaaDoor
open Go.RowKit

section
variable {P : Program} {d : Nat} {xs ys : Array Value} {f : Field} {fs : List Field} {a b : Value} {r s : Bool} {w : World}
theorem eqF_nil : (Op.eqFields d xs ys []).run P w = .ok true w := by simp [Op.eqFields]
theorem eqF_cons (hn : f.name ≠ "_") (ha : (part f.type xs f.offset).run P w = .ok a w) (hb : (part f.type ys f.offset).run P w = .ok b w)
    (he : (Op.equalIn d f.type a b).run P w = .ok r w) (hr : (Op.eqFields d xs ys fs).run P w = .ok s w) :
    (Op.eqFields d xs ys (f :: fs)).run P w = .ok (r && s) w := by
  rw [Op.eqFields, if_pos hn]
  simp only [Sem.run_bind, ha, hb, he, Result.andThen_ok]
  cases r
  · simp
  · simpa using hr
theorem eqS_of {t : TypeId} {fs : Array Field} (hu : P.underlying t = some (.struct fs)) (hp : P.stoodInHeld t = false) (h : (Op.eqFields d xs ys fs.toList).run P w = .ok r w) :
    (Op.equalIn (d + 1) t (.agg xs) (.agg ys)).run P w = .ok r w := by
  have hf : P.fieldsOf t = fs := by simp [Program.fieldsOf, hu]
  rw [run_equalIn_struct (P := P) w d t xs ys (by rw [hf]; exact hu) hp, hf]
  exact h
theorem run_neq_of {t : TypeId} (h : (Op.equalIn 10000 t (.agg xs) (.agg ys)).run P w = .ok r w) : (binOp .neq t (.agg xs) (.agg ys)).run P w = .ok (.bool (!r)) w := by
  simp only [binOp]
  simp [Op.equal, Op.maxDepth, h]
theorem run_eql_of {t : TypeId} (h : (Op.equalIn 10000 t (.agg xs) (.agg ys)).run P w = .ok r w) : (binOp .eql t (.agg xs) (.agg ys)).run P w = .ok (.bool r) w := by
  simp only [binOp]
  simp [Op.equal, Op.maxDepth, h]
end

theorem eq_acc (d : Nat) (w : World) (x y : Acc) :
    (Op.equalIn (d + 2) 96 (.agg #[.int .i64 x.task, .int .u8 x.what, .int .i64 x.at_]) (.agg #[.int .i64 y.task, .int .u8 y.what, .int .i64 y.at_])).run Tryd.prog w = .ok (decide (x = y)) w := by
  have e : decide (x = y) = ((x.task == y.task) && ((x.what == y.what) && ((x.at_ == y.at_) && true))) := by
    rw [Bool.eq_iff_iff]
    obtain ⟨a, b, c⟩ := x
    obtain ⟨a', b', c'⟩ := y
    simp
  rw [e]
  refine eqS_of Tryd.underlying96 (by kernel_rfl) ?_
  refine eqF_cons (by decide) (by go_simp; rfl) (by go_simp; rfl) (by go_simp) ?_
  refine eqF_cons (by decide) (by go_simp; rfl) (by go_simp; rfl) (by go_simp) ?_
  exact eqF_cons (by decide) (by go_simp; rfl) (by go_simp; rfl) (by go_simp) eqF_nil

theorem neq_acc (w : World) (x y : Acc) :
    (binOp .neq 96 (.agg #[.int .i64 x.task, .int .u8 x.what, .int .i64 x.at_]) (.agg #[.int .i64 y.task, .int .u8 y.what, .int .i64 y.at_])).run Tryd.prog w = .ok (.bool (!decide (x = y))) w :=
  run_neq_of (eq_acc 9998 w x y)

end Go.Proofs.YteiaifhnikknbaaDoor
