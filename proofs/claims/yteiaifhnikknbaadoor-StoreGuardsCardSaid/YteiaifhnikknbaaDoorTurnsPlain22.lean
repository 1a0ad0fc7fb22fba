/- The turns of chapter 22, plain: what rotations and installations keep. -/
import Derived.Test.YteiaifhnikknbaaDoorView22
namespace Go.Proofs.YteiaifhnikknbaaDoor
open Go.RowKit

def logsG (G : Gd) : List Int := G.imms.map Imm.log ++ [G.log]
theorem keepG_head (G : Gd) : (logsG G).head? = some (keepG G) := by
  cases h : G.imms <;> simp [logsG, keepG, h]
/-- What is guarded behind k turns. -/
structure TI (G : Gd) (k : Nat) : Prop where
  l : G.l = []
  d : G.done = []
  bad : G.bad = 0
  mem : 0 ≤ G.mem ∧ G.mem ≤ k
  log : 0 ≤ G.log ∧ G.log ≤ 1 + 100 * k
  next : 0 ≤ G.next ∧ G.next ≤ 2 + 100 * k
  imms : G.imms.length ≤ k
  tables : G.tables.length ≤ k
  up : (logsG G).Pairwise (· ≤ ·)
def g0 : Gd := ⟨[], [], 0, 0, 0, 0, [], 1, 2, [], false⟩
theorem TI.zero : TI g0 0 := ⟨rfl, rfl, rfl, by decide, by decide, by decide, by decide, by decide, by decide⟩
theorem TI.small {G : Gd} {k : Nat} (h : TI G k) (hk : k ≤ 1000000) : G.Small 1000000 :=
  ⟨by rw [h.l]; simp, by rw [h.d]; simp, by have := h.imms; omega, by have := h.tables; omega⟩
theorem TI.rot {G : Gd} {k : Nat} (h : TI G k) (hk : k ≤ 1000000) {log : Int} (h1 : G.log < log) (h2 : log ≤ G.log + 100) :
    TI (rotG G log) (k + 1) ∧ (rotG G log).mem = G.mem + 1 ∧ (rotG G log).log = log ∧ log < (rotG G log).next ∧ G.next ≤ (rotG G log).next ∧ keepG G ≤ keepG (rotG G log) ∧ (viewG (rotG G log)).mems = (G.mem + 1) :: (viewG G).mems ∧ (rotG G log).tables = G.tables := by
  have e : wrap64 (G.mem + 1) = G.mem + 1 := by have := h.mem; unfold wrap64; omega
  have hm := h.mem
  have hl := h.log
  have hn := h.next
  refine ⟨⟨h.l, h.d, h.bad, ?_, ?_, ?_, ?_, ?_, ?_⟩, ?_, rfl, ?_, ?_, ?_, ?_, rfl⟩
  · simp only [rotG, e]; omega
  · simp only [rotG]; omega
  · simp only [rotG]; split <;> omega
  · have := h.imms; simp [rotG]; omega
  · have := h.tables; simp only [rotG]; omega
  · have e2 : logsG (rotG G log) = logsG G ++ [log] := by simp [logsG, rotG]
    rw [e2]
    refine List.pairwise_append.2 ⟨h.up, by simp, ?_⟩
    intro a ha b hb
    simp at hb
    subst hb
    have : a ≤ G.log := by
      have hu := h.up
      unfold logsG at hu ha
      rw [List.pairwise_append] at hu
      rcases List.mem_append.1 ha with h3 | h3
      · exact hu.2.2 a h3 _ (by simp)
      · simp at h3; omega
    omega
  · simp only [rotG, e]
  · simp only [rotG]; split <;> omega
  · simp only [rotG]; split <;> omega
  · cases hi : G.imms with
    | nil => simp [keepG, rotG, hi]
    | cons x r => simp [keepG, rotG, hi]
  · simp [viewG, rotG, e]
theorem TI.inst {G : Gd} {k : Nat} (h : TI G k) (m : Meta) :
    TI (instG G m) (k + 1) ∧ keepG G ≤ keepG (instG G m) ∧
      ((G.imms = [] ∧ instG G m = G) ∨ (0 < G.imms.length ∧ (viewG (instG G m)).mems = (viewG G).mems.dropLast ∧ (instG G m).tables = G.tables ++ [m])) := by
  cases hi : G.imms with
  | nil =>
    have e : instG G m = G := by simp [instG, hi]
    rw [e]
    exact ⟨⟨h.l, h.d, h.bad, by have := h.mem; omega, by have := h.log; omega, by have := h.next; omega, by have := h.imms; omega, by have := h.tables; omega, h.up⟩, Int.le_refl _, .inl ⟨rfl, rfl⟩⟩
  | cons x r =>
    have e : instG G m = { G with imms := r, tables := G.tables ++ [m] } := by simp [instG, hi]
    have hu := h.up
    have hl := h.imms
    have e2 : logsG G = x.log :: logsG (instG G m) := by simp [logsG, e, hi]
    rw [e2, List.pairwise_cons] at hu
    have hk := keepG_head (instG G m)
    refine ⟨⟨by rw [e]; exact h.l, by rw [e]; exact h.d, by rw [e]; exact h.bad, ?_, ?_, ?_, ?_, ?_, hu.2⟩, ?_, .inr ⟨by simp, ?_, by rw [e]⟩⟩
    · have := h.mem; simp only [e]; omega
    · have := h.log; simp only [e]; omega
    · have := h.next; simp only [e]; omega
    · rw [hi] at hl; simp at hl; simp only [e]; omega
    · have := h.tables; simp only [e, List.length_append, List.length_singleton]; omega
    · have : keepG G = x.log := by simp [keepG, hi]
      rw [this]
      exact hu.1 _ (List.mem_of_mem_head? hk)
    · have : (viewG G).mems = (G.mem :: r.reverse.map Imm.list) ++ [x.list] := by simp [viewG, hi]
      rw [this, List.dropLast_concat]
      simp [viewG, e]
end Go.Proofs.YteiaifhnikknbaaDoor
