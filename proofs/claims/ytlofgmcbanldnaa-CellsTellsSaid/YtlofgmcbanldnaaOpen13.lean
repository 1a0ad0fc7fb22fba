/- Accesses, bytes and ops of law 13, as cells. -/
import Derived.Test.YtlofgmcbanldnaaOpenNum
import Derived.Test.YtlofgmcbanldnaaCellsRw
namespace Go.Proofs.Ytlofgmcbanldnaa
open Go.RowKit Go.ChangeShapes Go.WideShapes Go.Deep

structure Acc.Fits (a : Acc) : Prop where
  task : fits .i64 a.task
  what : fits .u8 a.what
  at_ : fits .i64 a.at_

section
variable {H : Type} {enc : TypeId × Value → H} {w : World} {base : Nat} {spare : Nat → Bool} {held : Bool}

theorem cells_int : Try.prog.cellsOf 3 = 1 := by kernel_rfl
theorem cells_u8 : Try.prog.cellsOf 5 = 1 := by kernel_rfl
theorem cells_u64 : Try.prog.cellsOf 32 = 1 := by kernel_rfl
theorem cells_bytes : Try.prog.cellsOf 27 = 1 := by kernel_rfl
theorem cells_acc : Try.prog.cellsOf 40 = 3 := by kernel_rfl

theorem el_u8 (n : Nat) (cs : List Value) (y : DataW H × List MemPlace) (h : DataW.trod enc Try.prog w base spare held n 5 cs = some y) : ∃ c : UInt8, cs = [.int .u8 (c.toNat : Int)] ∧ True := by
  obtain ⟨m, rfl, _, hw⟩ := DataW.trod_int Try.underlying5 h
  have hb := fits_u8 hw
  refine ⟨UInt8.ofNat m.toNat, ?_, trivial⟩
  have : ((UInt8.ofNat m.toNat).toNat : Int) = m := by
    rw [UInt8.toNat_ofNat']
    omega
  rw [this]

theorem el_acc (n : Nat) (cs : List Value) (y : DataW H × List MemPlace) (h : DataW.trod enc Try.prog w base spare held n 40 cs = some y) : ∃ a : Acc, cs = a.cells ∧ a.Fits := by
  obtain ⟨m, hl, hf⟩ := trod_fields Try.underlying40 h
  rw [cells_acc] at hl
  match cs, hl with
  | [c0, c1, c2], _ =>
    obtain ⟨y0, h0⟩ := field_at hf 0 _ rfl 3 0 1 rfl rfl cells_int
    obtain ⟨y1, h1⟩ := field_at hf 1 _ rfl 5 1 1 rfl rfl cells_u8
    obtain ⟨y2, h2⟩ := field_at hf 2 _ rfl 3 2 1 rfl rfl cells_int
    obtain ⟨t, e0, _, w0⟩ := DataW.trod_int Try.underlying3 h0
    obtain ⟨wh, e1, _, w1⟩ := DataW.trod_int Try.underlying5 h1
    obtain ⟨at_, e2, _, w2⟩ := DataW.trod_int Try.underlying3 h2
    simp at e0 e1 e2
    subst e0; subst e1; subst e2
    exact ⟨⟨t, wh, at_⟩, rfl, w0, w1, w2⟩

/-- Bytes that came in. -/
structure BytesArg (w : World) (v : Value) (b : List UInt8) : Prop where
  reads : Reads w 1 v b.length (u8s b)
  max : b.length ≤ maxLen
theorem u8s_flat (b : List UInt8) : b.flatMap (fun c => [Value.int .u8 (c.toNat : Int)]) = u8s b := by
  induction b with
  | nil => rfl
  | cons a b ih => rw [List.flatMap_cons, ih]; rfl
theorem el_bytes (n : Nat) (v : Value) (y : DataW H × List MemPlace) (h : DataW.trod enc Try.prog w base spare held n 27 [v] = some y) : ∃ b, BytesArg w v b := by
  obtain ⟨l, hl⟩ := open_row Try.underlying27 1 cells_u8 (by decide) (fun c : UInt8 => [Value.int .u8 (c.toNat : Int)]) (fun _ => True) (fun _ _ _ h => el_u8 _ _ _ h) h
  exact ⟨l, by have := hl.reads; rwa [u8s_flat] at this, hl.max⟩

theorem arg_accs {v : Value} {d : DataW H} {p : List MemPlace} {r : Reach} {b0 : Nat} (hv : Value.okWide Try.prog w r b0 47 v) (h : DataW.Trod enc Try.prog w 0 (fun _ => true) true 47 v d p) :
    ∃ (ao : Option Addr) (cap : Nat) (l : List Acc), v = .slice ao l.length cap ∧ l.length ≤ cap ∧ ArgRow w 3 (.slice ao l.length cap) Acc.cells Acc.Fits l :=
  arg_row Try.underlying47 3 cells_acc (by decide) Acc.cells Acc.Fits (fun _ _ _ h => el_acc _ _ _ h) hv h
end

end Go.Proofs.Ytlofgmcbanldnaa
