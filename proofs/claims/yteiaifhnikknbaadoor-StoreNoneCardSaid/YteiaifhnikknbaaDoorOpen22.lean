/- What chapter 22's laws are handed: configurations, versions, tables, what is guarded. -/
import Derived.Test.YteiaifhnikknbaaDoorOpenNum
import Derived.Test.YteiaifhnikknbaaDoorStRight
namespace Go.Proofs.YteiaifhnikknbaaDoor
open Go.RowKit Go.ChangeShapes Go.WideShapes Go.Deep

section
variable {H : Type} {enc : TypeId × Value → H} {w : World} {base : Nat} {spare : Nat → Bool} {held : Bool}
theorem cells_u32 : Tryd.prog.cellsOf 107 = 1 := by kernel_rfl
theorem cells_u64 : Tryd.prog.cellsOf 23 = 1 := by kernel_rfl
theorem cells_int : Tryd.prog.cellsOf 3 = 1 := by kernel_rfl
theorem cells_bool : Tryd.prog.cellsOf 4 = 1 := by kernel_rfl
theorem cells_u32r : Tryd.prog.cellsOf 47 = 1 := by kernel_rfl
theorem cells_cfg : Tryd.prog.cellsOf 49 = 6 := by kernel_rfl
theorem el_u32 (n : Nat) (cs : List Value) (y : DataW H × List MemPlace) (h : DataW.trod enc Tryd.prog w base spare held n 107 cs = some y) : ∃ c : Int, cs = [.int .u32 c] ∧ 0 ≤ c ∧ c < 4294967296 := by
  obtain ⟨m, rfl, _, hw⟩ := DataW.trod_int Tryd.underlying107 h
  have hb := fits_u32 hw
  exact ⟨m, rfl, by omega, by omega⟩
theorem u32s_flat (b : List Int) : b.flatMap (fun c => [Value.int .u32 c]) = u32s b := by
  induction b with
  | nil => rfl
  | cons a b ih => rw [List.flatMap_cons, ih]; rfl
set_option maxRecDepth 100000 in
theorem el_u32r (n : Nat) (v : Value) (y : DataW H × List MemPlace) (h : DataW.trod enc Tryd.prog w base spare held n 47 [v] = some y) : ∃ l : List Int, Reads w 1 v l.length (u32s l) ∧ (∀ x ∈ l, 0 ≤ x ∧ x < 4294967296) ∧ l.length ≤ maxLen := by
  obtain ⟨l, hl⟩ := open_row Tryd.underlying47 1 cells_u32 (by decide) (fun c : Int => [Value.int .u32 c]) (fun c => 0 ≤ c ∧ c < 4294967296) (fun _ _ _ h => el_u32 _ _ _ h) h
  exact ⟨l, by have := hl.reads; rwa [u32s_flat] at this, hl.good, hl.max⟩
/-- A configuration that came in. -/
structure CfgArg (w : World) (K : Cfg) (sh : Value) : Prop where
  reads : Reads w 1 sh K.heights.length (u32s K.heights)
  wf : K.Wf
  good : ∀ x ∈ K.heights, 0 ≤ x ∧ x < 4294967296
set_option maxRecDepth 100000 in
theorem arg_cfg {v : Value} {d : DataW H} {p : List MemPlace} {r : Reach} {b0 : Nat} (hv : Value.okWide Tryd.prog w r b0 49 v) (h : DataW.Trod enc Tryd.prog w 0 (fun _ => true) true 49 v d p) :
    ∃ (K : Cfg) (sh : Value), v = .agg (cfC K sh).toArray ∧ CfgArg w K sh := by
  obtain ⟨cs, rfl, hsz⟩ := okWide_struct Tryd.underlying49 hv
  obtain ⟨fuel, hf0⟩ := h
  obtain ⟨l⟩ := cs
  obtain ⟨m, hl, hf⟩ := trod_fields Tryd.underlying49 hf0
  rw [cells_cfg] at hsz
  match l, hsz with
  | [c0, c1, c2, c3, c4, c5], _ =>
    obtain ⟨y0, h0⟩ := field_at hf 0 _ rfl 23 0 1 rfl rfl cells_u64
    obtain ⟨y1, h1⟩ := field_at hf 1 _ rfl 3 1 1 rfl rfl cells_int
    obtain ⟨y2, h2⟩ := field_at hf 2 _ rfl 3 2 1 rfl rfl cells_int
    obtain ⟨y3, h3⟩ := field_at hf 3 _ rfl 3 3 1 rfl rfl cells_int
    obtain ⟨y4, h4⟩ := field_at hf 4 _ rfl 4 4 1 rfl rfl cells_bool
    obtain ⟨y5, h5⟩ := field_at hf 5 _ rfl 47 5 1 rfl rfl cells_u32r
    obtain ⟨a0, e0, _, w0⟩ := DataW.trod_int Tryd.underlying23 h0
    obtain ⟨a1, e1, _, w1⟩ := DataW.trod_int Tryd.underlying3 h1
    obtain ⟨a2, e2, _, w2⟩ := DataW.trod_int Tryd.underlying3 h2
    obtain ⟨a3, e3, _, w3⟩ := DataW.trod_int Tryd.underlying3 h3
    obtain ⟨a4, e4, _⟩ := DataW.trod_bool Tryd.underlying4 h4
    obtain ⟨hs, hr, hg, hm⟩ := el_u32r m c5 y5 h5
    simp [Value.cells] at e0 e1 e2 e3 e4
    subst e0; subst e1; subst e2; subst e3; subst e4
    unfold maxLen at hm
    exact ⟨⟨a0, a1, a2, a3, a4, hs⟩, c5, rfl, hr, ⟨fits_u64 w0, hm⟩, hg⟩
end
end Go.Proofs.YteiaifhnikknbaaDoor
