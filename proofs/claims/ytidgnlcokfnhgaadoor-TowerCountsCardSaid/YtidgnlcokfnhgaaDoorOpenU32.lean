/- Rows of numbers of 32 bits, as they come in. -/
import Derived.Test.YtidgnlcokfnhgaaDoorOpenNum
import Derived.Test.YtidgnlcokfnhgaaDoorTowerRefH
namespace Go.Proofs.YtidgnlcokfnhgaaDoor
open Go.RowKit Go.ChangeShapes Go.WideShapes Go.Deep

section
variable {H : Type} {enc : TypeId × Value → H} {w : World} {base : Nat} {spare : Nat → Bool} {held : Bool}
theorem cells_u32 : Tryd.prog.cellsOf 22 = 1 := by kernel_rfl
theorem el_u32 (n : Nat) (cs : List Value) (y : DataW H × List MemPlace) (h : DataW.trod enc Tryd.prog w base spare held n 22 cs = some y) : ∃ c : Int, cs = [.int .u32 c] ∧ 0 ≤ c ∧ c < 4294967296 := by
  obtain ⟨m, rfl, _, hw⟩ := DataW.trod_int Tryd.underlying22 h
  have hb := fits_u32 hw
  exact ⟨m, rfl, by omega, by omega⟩
theorem u32s_flat (b : List Int) : b.flatMap (fun c => [Value.int .u32 c]) = u32s b := by
  induction b with
  | nil => rfl
  | cons a b ih => rw [List.flatMap_cons, ih]; rfl
theorem arg_u32s {v : Value} {d : DataW H} {p : List MemPlace} {r : Reach} {b0 : Nat} (hv : Value.okWide Tryd.prog w r b0 23 v) (h : DataW.Trod enc Tryd.prog w 0 (fun _ => true) true 23 v d p) :
    ∃ (ao : Option Addr) (cap : Nat) (l : List Int), v = .slice ao l.length cap ∧ Reads w 1 (.slice ao l.length cap) l.length (u32s l) ∧ U32s l := by
  obtain ⟨ao, cap, l, rfl, hc, hl⟩ := arg_row Tryd.underlying23 1 cells_u32 (by decide) (fun c : Int => [Value.int .u32 c]) (fun c => 0 ≤ c ∧ c < 4294967296) (fun _ _ _ h => el_u32 _ _ _ h) hv h
  have := hl.reads
  rw [u32s_flat] at this
  exact ⟨ao, cap, l, rfl, this, hl.good⟩
end
end Go.Proofs.YtidgnlcokfnhgaaDoor
