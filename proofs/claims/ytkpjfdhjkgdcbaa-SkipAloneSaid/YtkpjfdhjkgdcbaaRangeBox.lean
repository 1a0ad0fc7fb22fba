/- A range over a function that counts in a variable which it captured: the loop's law, for an iterator that yields just the list T and whose rounds never leave the loop. Upon the library's laws of the loop's record; no program is walked here. -/
import Derived.RangeFuncNested
import Derived.RangeFuncBound
import Derived.RangeFuncCalls
import Derived.RangeFuncLeaves
import Derived.RangeFuncBox
import Derived.Test.YtkpjfdhjkgdcbaaBase

namespace Go.Proofs.Ytkpjfdhjkgdcbaa
open Go.RowKit

/-- What an iterator owes that writes its variable (block Bx) and yields just T. -/
def Yields1 {α : Type} (F : Fence) (n : Nat) (P : Program) (g : Nat) (lb : Array Value) (encs : α → Array Value) (Bx : Nat) (T : List α) (w : World) : Prop :=
  ∀ (l : Nat) (J : List α → World → Prop) (W : World), W.heap[Bx]? = w.heap[Bx]? → (∀ pre A v, J pre A → J pre (A.setCell ⟨Bx, 0, none⟩ v)) →
    (∀ pre x A, J pre A → (∃ r, T = pre ++ x :: r) → YieldAt F (n - 1) P l (encs x) A fun e A' => e = .returned (.bool true) ∧ J (pre ++ [x]) A' ∧ A'.heap[Bx]? = A.heap[Bx]?) →
    J [] W → CallsIn F n P g (#[.func (.yield l) #[] #[]] ++ lb) W fun e A' => (∃ v, e = .returned v) ∧ J T A'
/-- A round that ends normally. -/
def roundEnds (K : World → Prop) : Exit → Act → World → Prop
  | .normal, _, W' => K W'
  | _, _, _ => False
variable {P : Program} {F : Fence} {n : Nat} {α : Type} {g : Operand} {ps : Array Tmp} {assign body : Code} {Q : Exit → Act → World → Prop} {a : Act} {w : World}
theorem wpIn_range_box (hro : F.round = none) (h1 : 1 ≤ n) {gf : Nat} {lb : Array Value} (hg : a.eval g = .func (.func gf) #[] lb) (hFg : F.fn gf) (eg : ∀ args w, (callFunc gf args).run P w = .ok (.enter gf args) w)
    {encs : α → Array Value} (hps : ∀ x, (encs x).size = ps.size) {Bx : Nat} (hBx : Bx < w.heap.size) {T : List α} (hiter : Yields1 F (n - 1) P gf lb encs Bx T w)
    (I : List α → World → Prop) (hI : OwnFrom w.heap.size I) (hset : ∀ pre A v, I pre A → I pre (A.setCell ⟨Bx, 0, none⟩ v)) (h0 : I [] w) (a₁ : α → Act)
    (hassign : ∀ (l : Nat) (x : α) (W : World) (K : Act → World → Prop), K (a₁ x) W →
      assign.wpIn (F.inRound l) (n - 1 - 1) P (Exit.then K (fun _ _ _ => False)) { tmps := (ps.zip (encs x)).foldl (fun t (p, v) => t.setIfInBounds p v) a.tmps, defers := [] } W)
    (hbody : ∀ (l : Nat) (pre : List α) (x : α) (W : World), I pre W → (∃ r, T = pre ++ x :: r) → body.wpIn (F.inRound l) (n - 1 - 1) P (roundEnds fun W' => KeepsOthers W W' ∧ W'.heap[Bx]? = W.heap[Bx]? ∧ I (pre ++ [x]) W') (a₁ x) W)
    (hdone : ∀ (D : Nat) (W : World), w.heap.size ≤ D → I T W → W.heap[D]? = some (.deferred (some [])) → Q .normal { a with defers := { target := .collected D, args := #[] } :: a.defers } W) :
    (Code.rangeFunc g ps assign body).wpIn F n P Q a w := by
  refine wpIn_rangeFunc fun fn hfn => ?_
  rw [hro]
  generalize hD : w.heap.size = D at *
  have enter := run_enterLoop_outer (P := P) (w := w) fn a.tmps ps assign body
  rw [hD] at enter
  obtain ⟨R, hR⟩ : ∃ R : LoopState → Loop, ∀ s, R s = { state := s, pending := none, fn, tmps := a.tmps, params := ps, assign, body, defers := D } := ⟨_, fun _ => rfl⟩
  rw [← hR] at enter
  have szA : (w.alloc (.deferred (some []))).heap.size = D + 1 := by rw [World.size_alloc, hD]
  have recNew : ((w.alloc (.deferred (some []))).alloc (.loop (R .ready))).heap[D + 1]? = some (.loop (R .ready)) := by rw [← szA]; exact World.alloc_heap_new _ _
  have defNew : ((w.alloc (.deferred (some []))).alloc (.loop (R .ready))).heap[D]? = some (.deferred (some [])) := by
    rw [Below.heap_alloc _ _ _ (by omega), ← hD]
    exact World.alloc_heap_new w _
  have boxNew : ((w.alloc (.deferred (some []))).alloc (.loop (R .ready))).heap[Bx]? = w.heap[Bx]? := by
    rw [Below.heap_alloc _ _ _ (by omega), Below.heap_alloc _ _ _ (by omega)]
  have inv0 : I [] ((w.alloc (.deferred (some []))).alloc (.loop (R .ready))) := hI.alloc _ (hI.alloc _ h0)
  generalize (w.alloc (.deferred (some []))).alloc (.loop (R .ready)) = W1 at enter recNew defNew boxNew inv0
  refine ⟨D + 1, _, W1, { target := .fn (.func gf) lb, args := #[.func (.yield (D + 1)) #[] #[]] }, W1, gf, #[.func (.yield (D + 1)) #[] #[]] ++ lb, W1, enter, ?_, ?_, ?_, fun _ => h1, ?_⟩
  · simp only [resolve, hg]
    simp [go_sem]
  · intro f hf
    simp [Target.leads] at hf
    exact hf ▸ hFg
  · simp [invoke, go_sem, eg]
  refine (hiter (D + 1) (fun pre A => I pre A ∧ A.heap[D + 1]? = some (.loop (R .ready)) ∧ A.heap[D]? = some (.deferred (some []))) _ boxNew ?_ ?_ ⟨inv0, recNew, defNew⟩).mono ?_
  · rintro pre A v ⟨hi, hr, hd⟩
    exact ⟨hset _ _ _ hi, (Below.heap_setCell _ _ _ _ (show D + 1 ≠ Bx by omega)).trans hr, (Below.heap_setCell _ _ _ _ (show D ≠ Bx by omega)).trans hd⟩
  · rintro pre x A ⟨hi, hr, hd⟩ hx
    have lt : D + 1 < A.heap.size := (Array.getElem?_eq_some_iff.1 hr).1
    have yld := run_yield (P := P) (args := encs x) hr (by rw [hR]; exact hps x)
    have beg := run_beginRound (P := P) hr (by rw [hR])
    simp only [hR] at yld
    have beg' : (Instr.beginRound (D + 1)).run P A = .ok () (A.putObj (D + 1) (.loop (R .busy))) := by rw [beg, hR, hR]
    have busy : (A.putObj (D + 1) (.loop (R .busy))).heap[D + 1]? = some (.loop (R .busy)) := World.putObj_heap_same lt
    have defB : (A.putObj (D + 1) (.loop (R .busy))).heap[D]? = some (.deferred (some [])) := (World.putObj_heap_other (by omega)).trans hd
    have boxB : (A.putObj (D + 1) (.loop (R .busy))).heap[Bx]? = A.heap[Bx]? := World.putObj_heap_other (by omega)
    refine ⟨fn, _, assign, body, yld, roundIn_of_wpIn hfn (hassign _ x A _ ⟨_, beg', ?_⟩)⟩
    refine wpIn_mono (hbody _ pre x _ (hI.putObj _ hi (by omega) hr rfl) hx) ?_
    rintro e a3 W3 hp
    cases e with
    | normal =>
      obtain ⟨kp, kb, hi3⟩ := hp
      have busy3 := kp.same _ _ busy rfl
      have def3 := kp.same _ _ defB rfl
      have lt3 : D + 1 < W3.heap.size := (Array.getElem?_eq_some_iff.1 busy3).1
      have fin := run_endRound (P := P) none busy3
      have fin' : (Instr.endRound (D + 1) none).run P W3 = .ok (.bool true) (W3.putObj (D + 1) (.loop (R .ready))) := by rw [fin, hR, hR]; rfl
      exact ⟨_, _, fin', rfl, ⟨hI.putObj _ hi3 (by omega) busy3 rfl, World.putObj_heap_same lt3, (World.putObj_heap_other (by omega)).trans def3⟩, (World.putObj_heap_other (by omega)).trans (kb.trans boxB)⟩
    | _ => exact hp.elim
  · rintro e A ⟨⟨v, rfl⟩, hi, hr, hd⟩
    have fin := run_endLoop (P := P) hr (by rw [hR]; simp)
    have fin' : (Instr.endLoop (D + 1)).run P A = .ok none (A.putObj (D + 1) (.loop { R .ready with state := .exhausted })) := by rw [fin, hR]
    exact ⟨none, _, fin', hdone D _ (Nat.le_refl _) (hI.putObj _ hi (by omega) hr rfl) ((World.putObj_heap_other (by omega)).trans hd)⟩
end Go.Proofs.Ytkpjfdhjkgdcbaa
