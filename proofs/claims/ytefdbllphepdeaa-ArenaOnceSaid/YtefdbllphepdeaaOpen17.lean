/- Ops and needs of law 17, as cells. -/
import Derived.Test.YtefdbllphepdeaaOpenNum
import Derived.Test.YtefdbllphepdeaaProg
namespace Go.Proofs.Ytefdbllphepdeaa
open Go.RowKit Go.ChangeShapes Go.WideShapes Go.Deep

/-- What is done. -/
structure Op where
  task : Int
  need : Int
def Op.cells (o : Op) : List Value := [.int .i64 o.task, .int .u64 o.need]
structure Op.Fits (o : Op) : Prop where
  task : fits .i64 o.task
  need : fits .u64 o.need

section
variable {H : Type} {enc : TypeId × Value → H} {w : World} {base : Nat} {spare : Nat → Bool} {held : Bool}
theorem cells_int : Try.prog.cellsOf 3 = 1 := by kernel_rfl
theorem cells_u16 : Try.prog.cellsOf 22 = 1 := by kernel_rfl
theorem cells_u64 : Try.prog.cellsOf 24 = 1 := by kernel_rfl
theorem cells_op : Try.prog.cellsOf 30 = 2 := by kernel_rfl

theorem el_op (n : Nat) (cs : List Value) (y : DataW H × List MemPlace) (h : DataW.trod enc Try.prog w base spare held n 30 cs = some y) : ∃ a : Op, cs = a.cells ∧ a.Fits := by
  obtain ⟨m, hl, hf⟩ := trod_fields Try.underlying30 h
  rw [cells_op] at hl
  match cs, hl with
  | [c0, c1], _ =>
    obtain ⟨y0, h0⟩ := field_at hf 0 _ rfl 3 0 1 rfl rfl cells_int
    obtain ⟨y1, h1⟩ := field_at hf 1 _ rfl 24 1 1 rfl rfl cells_u64
    obtain ⟨t, e0, _, w0⟩ := DataW.trod_int Try.underlying3 h0
    obtain ⟨wh, e1, _, w1⟩ := DataW.trod_int Try.underlying24 h1
    simp at e0 e1
    subst e0; subst e1
    exact ⟨⟨t, wh⟩, rfl, w0, w1⟩
theorem arg_ops {v : Value} {d : DataW H} {p : List MemPlace} {r : Reach} {b0 : Nat} (hv : Value.okWide Try.prog w r b0 23 v) (h : DataW.Trod enc Try.prog w 0 (fun _ => true) true 23 v d p) :
    ∃ (ao : Option Addr) (cap : Nat) (l : List Op), v = .slice ao l.length cap ∧ l.length ≤ cap ∧ ArgRow w 2 (.slice ao l.length cap) Op.cells Op.Fits l :=
  arg_row Try.underlying23 2 cells_op (by decide) Op.cells Op.Fits (fun _ _ _ h => el_op _ _ _ h) hv h

/-- A number of 16 bits, as a slice's cell. -/
def cell16 (x : Int) : List Value := [.int .u16 x]
theorem el_u16 (n : Nat) (cs : List Value) (y : DataW H × List MemPlace) (h : DataW.trod enc Try.prog w base spare held n 22 cs = some y) : ∃ c : Int, cs = cell16 c ∧ (0 ≤ c ∧ c ≤ 65535) := by
  obtain ⟨m, rfl, _, hw⟩ := DataW.trod_int Try.underlying22 h
  exact ⟨m, rfl, fits_u16 hw⟩
theorem arg_u16s {v : Value} {d : DataW H} {p : List MemPlace} {r : Reach} {b0 : Nat} (hv : Value.okWide Try.prog w r b0 37 v) (h : DataW.Trod enc Try.prog w 0 (fun _ => true) true 37 v d p) :
    ∃ (ao : Option Addr) (cap : Nat) (l : List Int), v = .slice ao l.length cap ∧ l.length ≤ cap ∧ ArgRow w 1 (.slice ao l.length cap) cell16 (fun c => 0 ≤ c ∧ c ≤ 65535) l :=
  arg_row Try.underlying37 1 cells_u16 (by decide) cell16 _ (fun _ _ _ h => el_u16 _ _ _ h) hv h
end
theorem Op.cells_length (l : List Op) : (l.flatMap Op.cells).length = l.length * 2 := flatMap_len _ 2 l (fun _ _ => rfl)
end Go.Proofs.Ytefdbllphepdeaa
