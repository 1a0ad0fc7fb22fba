/- What chapter 19's laws are handed: rows of works, and tables of them. -/
import Derived.Test.YtkpjfdhjkgdcbaaOpenW
import Derived.Test.YtkpjfdhjkgdcbaaFew19

namespace Go.Proofs.Ytkpjfdhjkgdcbaa
open Go.RowKit Go.ChangeShapes Go.WideShapes Go.Deep

theorem weight_le {H : Type} {P : Program} {t : TypeId} {ts : List TypeId} {d : DataW H} {r : List (DataW H)} {B : Nat} (h : (DataW.weightsEach P (t :: ts) (d :: r)).all (· ≤ B) = true) : (∀ m ∈ d.weights P t, m ≤ B) ∧ (DataW.weightsEach P ts r).all (· ≤ B) = true := by
  rw [DataW.weightsEach, List.all_append, Bool.and_eq_true] at h
  exact ⟨fun m hm => of_decide_eq_true (List.all_eq_true.1 h.1 m hm), h.2⟩
theorem map_flat (l : List (Value × List Wk)) : l.map (·.1) = l.flatMap fun q => [q.1] := by
  induction l with
  | nil => rfl
  | cons a l ih => rw [List.map_cons, List.flatMap_cons, ih]; rfl
theorem bytes_wk : Try.prog.bytesOf 40 = 56 := by kernel_rfl
section
variable {H : Type} {enc : TypeId × Value → H} {w : World}
set_option maxRecDepth 100000 in
theorem el_wkrw (n : Nat) (v : Value) (y : DataW H × List MemPlace) (h : DataW.trod enc Try.prog w 0 (fun _ => true) true n 22 [v] = some y) (hB : ∀ m ∈ y.1.weights Try.prog 22, m ≤ reachBytes) : ∃ l : List Wk, WkRow w v l ∧ l.length ≤ 1000000000000000 := by
  obtain ⟨l, h1, h2⟩ := open_row_w Try.underlying22 5 cells_wk (by decide) Wk.cells WkFits reachBytes (fun _ _ _ h _ => el_wk _ _ _ h) h hB
  rw [bytes_wk] at h2
  exact ⟨l, h1, by unfold reachBytes at h2; omega⟩
set_option maxRecDepth 100000 in
theorem arg_wkr {v : Value} {d : DataW H} {p : List MemPlace} {r : Reach} {b0 : Nat} (hv : Value.okWide Try.prog w r b0 22 v) (h : DataW.Trod enc Try.prog w 0 (fun _ => true) true 22 v d p) (hB : ∀ m ∈ d.weights Try.prog 22, m ≤ reachBytes) :
    ∃ l : List Wk, Reads w 5 v l.length (wks l) ∧ (∀ a, a ∈ l → WkFits a) ∧ l.length ≤ 1000000000000000 := by
  obtain ⟨ao, cap, l, rfl, hc, hl, h2⟩ := arg_row_w Try.underlying22 5 cells_wk (by decide) Wk.cells WkFits reachBytes (fun _ _ _ h _ => el_wk _ _ _ h) hv h hB
  rw [bytes_wk] at h2
  exact ⟨l, hl.reads, hl.good, by unfold reachBytes at h2; omega⟩
set_option maxRecDepth 100000 in
theorem arg_wkrs {v : Value} {d : DataW H} {p : List MemPlace} {r : Reach} {b0 : Nat} (hv : Value.okWide Try.prog w r b0 24 v) (h : DataW.Trod enc Try.prog w 0 (fun _ => true) true 24 v d p) (hB : ∀ m ∈ d.weights Try.prog 24, m ≤ reachBytes) :
    ∃ ts : List (List Wk), WksAt w v ts ∧ ∀ l, l ∈ ts → l.length ≤ 1000000000000000 := by
  obtain ⟨ao, cap, l, rfl, hc, hl, h2⟩ := arg_row_w Try.underlying24 1 cells_wks (by decide) (fun q : Value × List Wk => [q.1]) (fun q => WkRow w q.1 q.2 ∧ q.2.length ≤ 1000000000000000) reachBytes (fun n cs y h hw => by
    obtain ⟨c, rfl⟩ : ∃ c, cs = [c] := by
      rcases open_slice Try.underlying22 h with ⟨e, _⟩ | ⟨a, len, cap, m, n, D, Pl, e, _⟩
      · exact ⟨_, e⟩
      · exact ⟨_, e⟩
    obtain ⟨l, h1, h2⟩ := el_wkrw _ _ _ h hw
    exact ⟨(c, l), rfl, h1, h2⟩) hv h hB
  refine ⟨l.map (·.2), ⟨⟨l.map (·.1), ?_, fun i a u ha hu => ?_⟩, ?_, fun a ha b hb => ?_⟩, fun a ha => ?_⟩
  · have := hl.reads
    rw [List.length_map, map_flat]
    exact this
  · rw [List.getElem?_map] at ha hu
    cases hq : l[i]? with
    | none => rw [hq] at ha; cases ha
    | some q =>
      rw [hq] at ha hu
      cases ha; cases hu
      exact (hl.good q (List.mem_of_getElem? hq)).1.reads
  · rw [List.length_map]; exact hl.max
  · obtain ⟨q, hq, rfl⟩ := List.mem_map.1 ha
    exact (hl.good q hq).1.good b hb
  · obtain ⟨q, hq, rfl⟩ := List.mem_map.1 ha
    exact (hl.good q hq).2
end
end Go.Proofs.Ytkpjfdhjkgdcbaa
