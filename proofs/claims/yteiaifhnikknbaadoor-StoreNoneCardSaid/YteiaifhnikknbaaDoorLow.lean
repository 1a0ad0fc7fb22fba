/- The walk over ratlinelow.Trace: are two traces the same? -/
import Derived.Test.YteiaifhnikknbaaDoorCellsRw
import Derived.Test.YteiaifhnikknbaaDoorEq
import Derived.Test.YteiaifhnikknbaaDoorAccs
namespace Go.Proofs.YteiaifhnikknbaaDoor
open Go.RowKit

theorem take_succ_of {α : Type} {l m : List α} {k : Nat} (h : l.take k = m.take k) (h1 : k < l.length) (h2 : k < m.length) (h3 : l[k] = m[k]) : l.take (k + 1) = m.take (k + 1) := by
  rw [List.take_succ_eq_append_getElem h1, List.take_succ_eq_append_getElem h2, h, h3]

end Go.Proofs.YteiaifhnikknbaaDoor
