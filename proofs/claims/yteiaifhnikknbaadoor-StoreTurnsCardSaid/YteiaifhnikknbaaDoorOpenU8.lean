/- Rows of bytes, as they come in. -/
import Derived.Test.YteiaifhnikknbaaDoorOpenNum
import Derived.Test.YteiaifhnikknbaaDoorCells
import Derived.Test.YteiaifhnikknbaaDoorProg
namespace Go.Proofs.YteiaifhnikknbaaDoor
open Go.RowKit Go.ChangeShapes Go.WideShapes Go.Deep

section
variable {H : Type} {enc : TypeId × Value → H} {w : World} {base : Nat} {spare : Nat → Bool} {held : Bool}
theorem cells_u8 : Tryd.prog.cellsOf 5 = 1 := by kernel_rfl
theorem el_u8 (n : Nat) (cs : List Value) (y : DataW H × List MemPlace) (h : DataW.trod enc Tryd.prog w base spare held n 5 cs = some y) : ∃ c : UInt8, cs = [.int .u8 (c.toNat : Int)] ∧ True := by
  obtain ⟨m, rfl, _, hw⟩ := DataW.trod_int Tryd.underlying5 h
  have hb := fits_u8 hw
  refine ⟨UInt8.ofNat m.toNat, ?_, trivial⟩
  have : ((UInt8.ofNat m.toNat).toNat : Int) = m := by
    rw [UInt8.toNat_ofNat']
    omega
  rw [this]
theorem u8s_flat (b : List UInt8) : b.flatMap (fun c => [Value.int .u8 (c.toNat : Int)]) = u8s b := by
  induction b with
  | nil => rfl
  | cons a b ih => rw [List.flatMap_cons, ih]; rfl
set_option maxRecDepth 100000 in
theorem arg_u8s {v : Value} {d : DataW H} {p : List MemPlace} {r : Reach} {b0 : Nat} (hv : Value.okWide Tryd.prog w r b0 22 v) (h : DataW.Trod enc Tryd.prog w 0 (fun _ => true) true 22 v d p) :
    ∃ (ao : Option Addr) (cap : Nat) (l : List UInt8), v = .slice ao l.length cap ∧ l.length ≤ cap ∧ Reads w 1 (.slice ao l.length cap) l.length (u8s l) ∧ l.length ≤ maxLen := by
  obtain ⟨ao, cap, l, rfl, hc, hl⟩ := arg_row Tryd.underlying22 1 cells_u8 (by decide) (fun c : UInt8 => [Value.int .u8 (c.toNat : Int)]) (fun _ => True) (fun _ _ _ h => el_u8 _ _ _ h) hv h
  have := hl.reads
  rw [u8s_flat] at this
  exact ⟨ao, cap, l, rfl, hc, this, hl.max⟩
end
end Go.Proofs.YteiaifhnikknbaaDoor
