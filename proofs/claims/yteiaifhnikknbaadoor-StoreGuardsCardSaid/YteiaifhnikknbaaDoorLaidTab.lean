/- What the laid table gives the walks, and that the door's own run lays it. -/
import Derived.Test.YteiaifhnikknbaaDoorRows
import Derived.Test.YteiaifhnikknbaaDoorTz
import Derived.ProofKit
import Derived.LaidMore
import Derived.OpenShut
import Derived.Stop.Joined
namespace Go.Proofs.YteiaifhnikknbaaDoor
open Go.ChangeShapes Go.WideShapes Go.ChangeAt Go.RowKit

def laid1 : List (String × DataW Unit) := [("math/bits.deBruijn32tab", Rows.laid_math_bits_deBruijn32tab)]
theorem gTab : Tryd.prog.globalNamed "math/bits.deBruijn32tab" = some 0 := by kernel_rfl
theorem tTab : (Tryd.prog.globals[0]?).map (·.type) = some 151 := by kernel_rfl
theorem door_met (os : Os) (args : Array Value) : laidMetH Tryd.prog laid1 ((World.doorLaid Tryd.prog 400 os).forCall (fun _ _ => 0) ⟨#[], args, []⟩).memory :=
  laidMetH_of_parts3 (fuel := 8) (laidMet_of_run' 8 (by kernel_rfl) (by kernel_rfl)) (by kernel_rfl) (by kernel_rfl)
theorem tab_datum : (Rows.laid_math_bits_deBruijn32tab : DataW Unit) = .agg (Lib.deBruijn32tab.map fun (n : Nat) => .lit (.int .u8 (n : Int))) := by rfl

theorem tab_of_laid {W : World} (h : laidMetH Tryd.prog laid1 W) : Tab W := by
  rw [MakeChecks.laidMetH_plain _ _ _ (by kernel_rfl)] at h
  obtain ⟨ps, ⟨g0, t0, cs0, f0, p0, q0, hg0, ht0, hv0, hd0, _, _⟩, _, _⟩ := h
  obtain rfl := Option.some.inj (gTab.symm.trans hg0)
  obtain rfl := Option.some.inj (tTab.symm.trans ht0)
  obtain ⟨xs, m1, rfl, hx1, hlen, hn3, hel⟩ := DataW.trod_array Tryd.underlying151 hd0
  have c5 : Tryd.prog.cellsOf 5 = 1 := by kernel_rfl
  rw [tab_datum] at hx1
  simp only [Prod.mk.injEq, DataW.agg.injEq] at hx1
  refine ⟨fun j hj => ?_⟩
  have he := hel j hj
  have hxj : j < xs.length := by omega
  rw [List.getElem?_eq_getElem hxj, c5] at he
  obtain ⟨k, e1, e2, _⟩ := DataW.trod_int Tryd.underlying5 he
  have hjt : j < Lib.deBruijn32tab.length := hj
  have hk : k = (Lib.deBruijn32tab.getD j 0 : Nat) := by
    have h1 := congrArg (fun l => l[j]?) hx1.1
    simp only [List.getElem?_map, List.getElem?_eq_getElem hxj, List.getElem?_eq_getElem hjt, Option.map_some, Option.some.injEq] at h1
    rw [e2] at h1
    have h2 : k = ((Lib.deBruijn32tab[j] : Nat) : Int) := by simpa using h1.symm
    rw [h2, List.getD_eq_getElem?_getD, List.getElem?_eq_getElem hjt]; rfl
  have hcell := World.var?_cell hg0 hv0 j
  rw [hcell]
  have h3 : cs0.toList[j]? = some (.int .u8 k) := by
    have := congrArg (fun l => l[0]?) e1
    simp only [Nat.mul_one, List.getElem?_take, List.getElem?_drop] at this
    simpa using this
  rw [hk] at h3
  simpa using h3
end Go.Proofs.YteiaifhnikknbaaDoor
