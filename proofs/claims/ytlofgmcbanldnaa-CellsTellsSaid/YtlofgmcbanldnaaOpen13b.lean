/- Ops of law 13, as cells. -/
import Derived.Test.YtlofgmcbanldnaaOpen13
namespace Go.Proofs.Ytlofgmcbanldnaa
open Go.RowKit Go.ChangeShapes Go.WideShapes Go.Deep

/-- What is done. -/
structure Op where
  what : Int
  task : Int
  at_ : Int
  x : Int
  y : Int
  b : Value
  bs : List UInt8
  a : Acc
def Op.cells (o : Op) : List Value := [.int .u8 o.what, .int .i64 o.task, .int .i64 o.at_, .int .u64 o.x, .int .u64 o.y, o.b, .int .i64 o.a.task, .int .u8 o.a.what, .int .i64 o.a.at_]
structure Op.Fits (w : World) (o : Op) : Prop where
  what : fits .u8 o.what
  task : fits .i64 o.task
  at_ : fits .i64 o.at_
  x : fits .u64 o.x
  y : fits .u64 o.y
  b : BytesArg w o.b o.bs
  a : o.a.Fits

section
variable {H : Type} {enc : TypeId × Value → H} {w : World} {base : Nat} {spare : Nat → Bool} {held : Bool}
theorem cells_op : Try.prog.cellsOf 42 = 9 := by kernel_rfl
theorem el_op (n : Nat) (cs : List Value) (y : DataW H × List MemPlace) (h : DataW.trod enc Try.prog w base spare held n 42 cs = some y) : ∃ a : Op, cs = a.cells ∧ a.Fits w := by
  obtain ⟨m, hl, hf⟩ := trod_fields Try.underlying42 h
  rw [cells_op] at hl
  match cs, hl with
  | [c0, c1, c2, c3, c4, c5, c6, c7, c8], _ =>
    obtain ⟨y0, h0⟩ := field_at hf 0 _ rfl 5 0 1 rfl rfl cells_u8
    obtain ⟨y1, h1⟩ := field_at hf 1 _ rfl 3 1 1 rfl rfl cells_int
    obtain ⟨y2, h2⟩ := field_at hf 2 _ rfl 3 2 1 rfl rfl cells_int
    obtain ⟨y3, h3⟩ := field_at hf 3 _ rfl 32 3 1 rfl rfl cells_u64
    obtain ⟨y4, h4⟩ := field_at hf 4 _ rfl 32 4 1 rfl rfl cells_u64
    obtain ⟨y5, h5⟩ := field_at hf 5 _ rfl 27 5 1 rfl rfl cells_bytes
    obtain ⟨y6, h6⟩ := field_at hf 6 _ rfl 40 6 3 rfl rfl cells_acc
    obtain ⟨wh, e0, _, w0⟩ := DataW.trod_int Try.underlying5 h0
    obtain ⟨t, e1, _, w1⟩ := DataW.trod_int Try.underlying3 h1
    obtain ⟨a, e2, _, w2⟩ := DataW.trod_int Try.underlying3 h2
    obtain ⟨x, e3, _, w3⟩ := DataW.trod_int Try.underlying32 h3
    obtain ⟨yy, e4, _, w4⟩ := DataW.trod_int Try.underlying32 h4
    simp at e0 e1 e2 e3 e4
    subst e0; subst e1; subst e2; subst e3; subst e4
    obtain ⟨bs, hb⟩ := el_bytes _ _ _ h5
    obtain ⟨ac, e6, ha⟩ := el_acc _ _ _ h6
    simp [Acc.cells] at e6
    obtain ⟨e6, e7, e8⟩ := e6
    subst e6; subst e7; subst e8
    exact ⟨⟨wh, t, a, x, yy, c5, bs, ac⟩, rfl, w0, w1, w2, w3, w4, hb, ha⟩
theorem arg_ops {v : Value} {d : DataW H} {p : List MemPlace} {r : Reach} {b0 : Nat} (hv : Value.okWide Try.prog w r b0 37 v) (h : DataW.Trod enc Try.prog w 0 (fun _ => true) true 37 v d p) :
    ∃ (ao : Option Addr) (cap : Nat) (l : List Op), v = .slice ao l.length cap ∧ l.length ≤ cap ∧ ArgRow w 9 (.slice ao l.length cap) Op.cells (Op.Fits w) l :=
  arg_row Try.underlying37 9 cells_op (by decide) Op.cells (Op.Fits w) (fun _ _ _ h => el_op _ _ _ h) hv h
end
end Go.Proofs.Ytlofgmcbanldnaa
