/- Ops of law 14, as cells. -/
import Derived.Test.YtncfbccihofaoaaOpenNum
import Derived.Test.YtncfbccihofaoaaProg
namespace Go.Proofs.Ytncfbccihofaoaa
open Go.RowKit Go.ChangeShapes Go.WideShapes Go.Deep

structure Op where
  what : Int
  task : Int
  cond : Int
def Op.cells (o : Op) : List Value := [.int .u8 o.what, .int .i64 o.task, .int .i64 o.cond]
structure Op.Fits (o : Op) : Prop where
  what : fits .u8 o.what
  task : fits .i64 o.task
  cond : fits .i64 o.cond

section
variable {H : Type} {enc : TypeId × Value → H} {w : World} {base : Nat} {spare : Nat → Bool} {held : Bool}
theorem cells_int : Try.prog.cellsOf 3 = 1 := by kernel_rfl
theorem cells_u8 : Try.prog.cellsOf 5 = 1 := by kernel_rfl
theorem cells_op : Try.prog.cellsOf 28 = 3 := by kernel_rfl
theorem el_op (n : Nat) (cs : List Value) (y : DataW H × List MemPlace) (h : DataW.trod enc Try.prog w base spare held n 28 cs = some y) : ∃ a : Op, cs = a.cells ∧ a.Fits := by
  obtain ⟨m, hl, hf⟩ := trod_fields Try.underlying28 h
  rw [cells_op] at hl
  match cs, hl with
  | [c0, c1, c2], _ =>
    obtain ⟨y0, h0⟩ := field_at hf 0 _ rfl 5 0 1 rfl rfl cells_u8
    obtain ⟨y1, h1⟩ := field_at hf 1 _ rfl 3 1 1 rfl rfl cells_int
    obtain ⟨y2, h2⟩ := field_at hf 2 _ rfl 3 2 1 rfl rfl cells_int
    obtain ⟨n0, e0, _, w0⟩ := DataW.trod_int Try.underlying5 h0
    obtain ⟨n1, e1, _, w1⟩ := DataW.trod_int Try.underlying3 h1
    obtain ⟨n2, e2, _, w2⟩ := DataW.trod_int Try.underlying3 h2
    simp at e0 e1 e2
    subst e0; subst e1; subst e2
    exact ⟨⟨n0, n1, n2⟩, rfl, ⟨w0, w1, w2⟩⟩
end

section
variable {H : Type} {enc : TypeId × Value → H} {w : World}
theorem arg_ops {v : Value} {d : DataW H} {p : List MemPlace} {r : Reach} {b0 : Nat} (hv : Value.okWide Try.prog w r b0 22 v) (h : DataW.Trod enc Try.prog w 0 (fun _ => true) true 22 v d p) :
    ∃ (ao : Option Addr) (cap : Nat) (l : List Op), v = .slice ao l.length cap ∧ l.length ≤ cap ∧ ArgRow w 3 (.slice ao l.length cap) Op.cells Op.Fits l :=
  arg_row Try.underlying22 3 cells_op (by decide) Op.cells Op.Fits (fun n cs y h => el_op n cs y h) hv h
end

end Go.Proofs.Ytncfbccihofaoaa
