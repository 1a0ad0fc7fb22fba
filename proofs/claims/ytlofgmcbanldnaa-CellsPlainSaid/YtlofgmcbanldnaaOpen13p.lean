/- Rows of rows of bytes, as they come in. -/
import Derived.Test.YtlofgmcbanldnaaOpen13
namespace Go.Proofs.Ytlofgmcbanldnaa
open Go.RowKit Go.ChangeShapes Go.WideShapes Go.Deep
section
variable {H : Type} {enc : TypeId × Value → H} {w : World} {base : Nat} {spare : Nat → Bool} {held : Bool}
theorem el_bs (n : Nat) (cs : List Value) (y : DataW H × List MemPlace) (h : DataW.trod enc Try.prog w base spare held n 27 cs = some y) : ∃ a : Value × List UInt8, cs = [a.1] ∧ BytesArg w a.1 a.2 := by
  have hv : ∃ v, cs = [v] := by
    rcases open_slice Try.underlying27 h with ⟨hcs, _⟩ | ⟨a, len, cap, m, n, D, Pl, hcs, _⟩
    · exact ⟨_, hcs⟩
    · exact ⟨_, hcs⟩
  obtain ⟨v, rfl⟩ := hv
  obtain ⟨b, hb⟩ := el_bytes n v y h
  exact ⟨(v, b), rfl, hb⟩
theorem arg_bss {v : Value} {d : DataW H} {p : List MemPlace} {r : Reach} {b0 : Nat} (hv : Value.okWide Try.prog w r b0 22 v) (h : DataW.Trod enc Try.prog w 0 (fun _ => true) true 22 v d p) :
    ∃ (ao : Option Addr) (cap : Nat) (l : List (Value × List UInt8)), v = .slice ao l.length cap ∧ l.length ≤ cap ∧ ArgRow w 1 (.slice ao l.length cap) (fun x : Value × List UInt8 => [x.1]) (fun x => BytesArg w x.1 x.2) l :=
  arg_row Try.underlying22 1 cells_bytes (by decide) (fun x : Value × List UInt8 => [x.1]) (fun x => BytesArg w x.1 x.2) (fun _ _ _ h => el_bs _ _ _ h) hv h
end
end Go.Proofs.Ytlofgmcbanldnaa
