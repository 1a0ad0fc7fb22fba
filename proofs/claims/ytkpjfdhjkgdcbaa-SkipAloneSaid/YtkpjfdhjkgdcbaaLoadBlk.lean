/- A load of a whole block in a region that draws. -/
import Derived.Test.YtkpjfdhjkgdcbaaRowOps
import Derived.Deep.MidRow

namespace Go.Proofs.Ytkpjfdhjkgdcbaa
open Go.RowKit

theorem yieldsIf_load_blk {P : Program} {ops : Array Oper} {S : World → Prop} {o : Oper} {a : Act} (hw : Region.wanted o (yielded ops a.tmps) = true) (ty : TypeId) (x : Operand) (ho : o.op = .load ty x)
    (b : Nat) (hx : a.eval x = .pointer (some ⟨b, 0, none⟩)) (C : List Value) {t : TypeId} (hS : ∀ w, S w → Blk w b t C) (d : TypeDesc)
    (hu : P.underlying ty = some d) (hd : (match d with | .struct _ | .array _ _ => true | _ => false) = true) (hi : (P.info? ty).map (·.size) = some C.length) : YieldsIf P ops S o (.agg C.toArray) a :=
  .inl ⟨hw, fun w hw' => by
    unfold execOp
    simp only [ho, hx, Instr.loadAt, Instr.sureAddr, Sem.run_bind, Sem.run_pure, Result.andThen_ok, (hS w hw').loadRow d hu hd hi]⟩
end Go.Proofs.Ytkpjfdhjkgdcbaa
