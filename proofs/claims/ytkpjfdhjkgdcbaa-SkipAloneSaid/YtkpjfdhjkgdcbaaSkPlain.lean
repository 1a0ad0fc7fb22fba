/- A skip list and its inserts' steps, as plain data. -/
import Derived.Test.YtkpjfdhjkgdcbaaInsBegin

namespace Go.Proofs.Ytkpjfdhjkgdcbaa
open Go.RowKit

/-- A list: units asked for, nodes counted, next ones, keys, values, and what was traced. -/
structure Sk where
  asked : Int
  count : Int
  next : Int → Nat → Int
  keys : Int → IK
  vals : Int → ByteArray
  trace : List Acc
  bgA : Int → Int := fun _ => 0
  bgP : Int → List UInt8 := fun _ => []
  lens : Option (Nat × Nat) := none
def Sk.note (s : Sk) (a : Acc) : Sk := { s with trace := s.trace ++ [a] }
def Sk.link (s : Sk) (n : Int) (l : Nat) (v : Int) : Sk := { s with next := fun m j => if m = n ∧ j = l then v else s.next m j }
/-- The step that an insert does next. -/
def stepS (k : SkRef) (s : Sk) (x : Ins) : Sk × Ins :=
  match x.op with
  | 1 => ({ s.note ⟨x.task, 5, k.first⟩ with asked := s.asked + needI x }, ended { x with op := 2 } (if k.units < s.asked + needI x then 13 else 0))
  | 2 => ({ s.note ⟨x.task, 5, k.first + 1⟩ with count := s.count + 1 }, { x with node := s.count + 1, op := 3 })
  | 3 => ({ s.note ⟨x.task, 7, placeI k x.node⟩ with keys := fun m => if m = x.node then x.e.k else s.keys m }, { x with op := 4 })
  | 4 => ({ s.note ⟨x.task, 7, placeI k x.node + 1⟩ with vals := fun m => if m = x.node then x.e.val else s.vals m }, { x with level := 5, op := 5 })
  | 5 => (s.note ⟨x.task, 1, cellI k (x.at_ x.level) x.level⟩, if s.next (x.at_ x.level) x.level = 0 then down { x with thn := upd x.thn x.level (s.next (x.at_ x.level) x.level), op := 6 } else { x with thn := upd x.thn x.level (s.next (x.at_ x.level) x.level), op := 6 })
  | 6 => (s.note ⟨x.task, 6, placeI k (x.thn x.level)⟩, if (s.keys (x.thn x.level)).cmp x.e.k < 0 then { x with at_ := upd x.at_ x.level (x.thn x.level), op := 5 } else down x)
  | 7 => ((s.note ⟨x.task, 2, cellI k x.node x.level⟩).link x.node x.level (x.thn x.level), { x with again := true, op := 8 })
  | 8 => (if s.next (x.at_ x.level) x.level = x.thn x.level then (s.note ⟨x.task, 3, cellI k (x.at_ x.level) x.level⟩).link (x.at_ x.level) x.level x.node else s.note ⟨x.task, 4, cellI k (x.at_ x.level) x.level⟩, swapped x (decide (s.next (x.at_ x.level) x.level = x.thn x.level)))
  | _ => (s, x)
/-- A memory holds a list. -/
structure Rel (k : SkRef) (s : Sk) (S : Mem) : Prop where
  asked : S.at_ k.first = s.asked
  count : S.at_ (k.first + 1) = s.count
  next : ∀ (n : Int) (l : Nat), 0 ≤ n → n ≤ k.units / 6 → l < 6 → S.at_ (cellI k n l) = s.next n l
  key : ∀ n : Int, 1 ≤ n → n ≤ k.units / 6 → ((s.keys n).Wf ∧ (s.keys n).right = true ∧ S.place (placeI k n) = encK (s.keys n)) ∨ (S.place (placeI k n) = [] ∧ s.keys n = ik0)
  val : ∀ n : Int, 1 ≤ n → n ≤ k.units / 6 → S.place (placeI k n + 1) = (s.vals n).data.toList
  trace : S.trace = s.trace
  bgA : ∀ j : Int, 0 ≤ j → (j < k.first ∨ k.first + 8 + 6 * (k.units / 6) ≤ j) → S.at_ j = s.bgA j
  bgP : ∀ j : Int, 0 ≤ j → (j < k.plain ∨ k.plain + 2 * (k.units / 6) ≤ j) → S.place j = s.bgP j
  len : ∀ a p, s.lens = some (a, p) → S.atomics.length = a ∧ S.plains.length = p

theorem at_put (S : Mem) {i j : Int} (x : Int) (h0 : 0 ≤ i) (h1 : i < S.atomics.length) (j0 : 0 ≤ j) : (S.put i x).at_ j = if j = i then x else S.at_ j := by
  unfold Mem.put Mem.at_
  by_cases h : j = i
  · subst h
    rw [if_pos rfl]
    simp [List.getElem?_set_self (show j.toNat < S.atomics.length by omega)]
  · rw [if_neg h]
    have hn : i.toNat ≠ j.toNat := by omega
    simp [List.getElem?_set_ne hn]
theorem place_lay (S : Mem) {i j : Int} (b : List UInt8) (h0 : 0 ≤ i) (h1 : i < S.plains.length) (j0 : 0 ≤ j) : (S.lay i b).place j = if j = i then b else S.place j := by
  unfold Mem.lay Mem.place
  by_cases h : j = i
  · subst h
    rw [if_pos rfl]
    simp [List.getElem?_set_self (show j.toNat < S.plains.length by omega)]
  · rw [if_neg h]
    have hn : i.toNat ≠ j.toNat := by omega
    simp [List.getElem?_set_ne hn]
theorem cellI_one (k : SkRef) {n m : Int} {l j : Nat} (n0 : 0 ≤ n) (m0 : 0 ≤ m) (hl : l < 6) (hj : j < 6) (h : cellI k n l = cellI k m j) : n = m ∧ l = j := by
  unfold cellI at h
  split at h <;> split at h <;> constructor <;> omega
theorem cellI_ge (k : SkRef) {n : Int} (l : Nat) (n0 : 0 ≤ n) : k.first + 2 ≤ cellI k n l := by unfold cellI; split <;> omega
theorem cellI_lt (k : SkRef) {n : Int} {l : Nat} (n1 : n ≤ k.units / 6) (n0 : 0 ≤ n) (hl : l < 6) : cellI k n l < k.first + 8 + 6 * (k.units / 6) := by unfold cellI; split <;> omega
/-- Room of a list in a memory. -/
structure Room (k : SkRef) (S : Mem) : Prop where
  f0 : 0 ≤ k.first
  p0 : 0 ≤ k.plain
  f1 : k.first + 8 + 6 * (k.units / 6) ≤ S.atomics.length
  p1 : k.plain + 2 * (k.units / 6) ≤ S.plains.length
  u0 : 6 ≤ k.units
theorem Lx.room {w : World} {k : SkRef} {c : CRef} {S : Mem} {A : Nat → Prop} (h : Lx w k c S A) : Room k S := ⟨h.f0, h.p0, h.f1, h.p1, h.u0⟩
theorem Rel.note {k : SkRef} {s : Sk} {S : Mem} (h : Rel k s S) (a : Acc) : Rel k (s.note a) (S.note a) :=
  ⟨h.asked, h.count, h.next, h.key, h.val, by show S.trace ++ [a] = s.trace ++ [a]; rw [h.trace], h.bgA, h.bgP, h.len⟩
theorem Rel.ask {k : SkRef} {s : Sk} {S : Mem} (h : Rel k s S) (r : Room k S) (y : Int) : Rel k { s with asked := y } (S.put k.first y) := by
  have hl : k.first < S.atomics.length := by have := r.f1; have := r.u0; omega
  have f1 := r.f1
  refine ⟨?_, ?_, fun n l n0 n1 hl6 => ?_, h.key, h.val, h.trace, fun j j0 hj => ?_, h.bgP, fun a p e => by have := h.len a p e; simpa [Mem.put] using this⟩
  rotate_right
  · have := r.u0
    rw [at_put S y r.f0 hl j0, if_neg (by omega)]; exact h.bgA j j0 hj
  · rw [at_put S y r.f0 hl r.f0, if_pos rfl]
  · rw [at_put S y r.f0 hl (by have := r.f0; omega), if_neg (by omega)]; exact h.count
  · have := cellI_ge k l n0
    rw [at_put S y r.f0 hl (by have := r.f0; omega), if_neg (by omega)]
    exact h.next n l n0 n1 hl6
theorem Rel.counted {k : SkRef} {s : Sk} {S : Mem} (h : Rel k s S) (r : Room k S) (y : Int) : Rel k { s with count := y } (S.put (k.first + 1) y) := by
  have hl : k.first + 1 < S.atomics.length := by have := r.f1; have := r.u0; omega
  have f0 := r.f0
  refine ⟨?_, ?_, fun n l n0 n1 hl6 => ?_, h.key, h.val, h.trace, fun j j0 hj => ?_, h.bgP, fun a p e => by have := h.len a p e; simpa [Mem.put] using this⟩
  rotate_right
  · have := r.u0
    rw [at_put S y (by omega) hl j0, if_neg (by omega)]; exact h.bgA j j0 hj
  · rw [at_put S y (by omega) hl r.f0, if_neg (by omega)]; exact h.asked
  · rw [at_put S y (by omega) hl (by omega), if_pos rfl]
  · have := cellI_ge k l n0
    rw [at_put S y (by omega) hl (by omega), if_neg (by omega)]
    exact h.next n l n0 n1 hl6
theorem Rel.link {k : SkRef} {s : Sk} {S : Mem} (h : Rel k s S) (r : Room k S) {n : Int} {l : Nat} (n0 : 0 ≤ n) (n1 : n ≤ k.units / 6) (hl : l < 6) (v : Int) : Rel k (s.link n l v) (S.put (cellI k n l) v) := by
  have f0 := r.f0
  have f1 := r.f1
  have g0 := cellI_ge k l n0
  have g1 := cellI_lt k n1 n0 hl
  refine ⟨?_, ?_, fun m j m0 m1 hj => ?_, h.key, h.val, h.trace, fun j j0 hj => ?_, h.bgP, fun a p e => by have := h.len a p e; simpa [Mem.put] using this⟩
  rotate_right
  · rw [at_put S v (by omega) (by omega) j0, if_neg (by omega)]; exact h.bgA j j0 hj
  · rw [at_put S v (by omega) (by omega) r.f0, if_neg (by omega)]; exact h.asked
  · rw [at_put S v (by omega) (by omega) (by omega), if_neg (by omega)]; exact h.count
  · have g2 := cellI_ge k j m0
    rw [at_put S v (by omega) (by omega) (by omega)]
    by_cases e : cellI k m j = cellI k n l
    · obtain ⟨rfl, rfl⟩ := cellI_one k m0 n0 hj hl e
      rw [if_pos rfl]
      simp [Sk.link]
    · rw [if_neg e, h.next m j m0 m1 hj]
      have : ¬ (m = n ∧ j = l) := fun ⟨a, b⟩ => e (by rw [a, b])
      simp [Sk.link, this]
theorem Rel.keyed {k : SkRef} {s : Sk} {S : Mem} (h : Rel k s S) (r : Room k S) {n : Int} (n0 : 1 ≤ n) (n1 : n ≤ k.units / 6) (x : IK) (hw : x.Wf) (hr : x.right = true) : Rel k { s with keys := fun m => if m = n then x else s.keys m } (S.lay (placeI k n) (encK x)) := by
  have p0 := r.p0
  have p1 := r.p1
  have e0 : placeI k n = k.plain + 2 * (n - 1) := rfl
  refine ⟨h.asked, h.count, h.next, fun m m0 m1 => ?_, fun m m0 m1 => ?_, h.trace, h.bgA, fun j j0 hj => ?_, fun a p e => by have := h.len a p e; simpa [Mem.lay] using this⟩
  rotate_right
  · rw [place_lay S _ (by omega) (by omega) j0, if_neg (by omega)]; exact h.bgP j j0 hj
  · have e1 : placeI k m = k.plain + 2 * (m - 1) := rfl
    rw [place_lay S _ (by omega) (by omega) (by omega)]
    by_cases e : m = n
    · subst e
      rw [if_pos rfl]
      exact .inl (by simp only [if_true]; exact ⟨hw, hr, trivial⟩)
    · rw [if_neg (by omega)]
      simp only [if_neg e]
      exact h.key m m0 m1
  · have e1 : placeI k m = k.plain + 2 * (m - 1) := rfl
    rw [place_lay S _ (by omega) (by omega) (by omega), if_neg (by omega)]
    exact h.val m m0 m1
theorem Rel.valued {k : SkRef} {s : Sk} {S : Mem} (h : Rel k s S) (r : Room k S) {n : Int} (n0 : 1 ≤ n) (n1 : n ≤ k.units / 6) (x : ByteArray) : Rel k { s with vals := fun m => if m = n then x else s.vals m } (S.lay (placeI k n + 1) x.data.toList) := by
  have p0 := r.p0
  have p1 := r.p1
  have e0 : placeI k n = k.plain + 2 * (n - 1) := rfl
  refine ⟨h.asked, h.count, h.next, fun m m0 m1 => ?_, fun m m0 m1 => ?_, h.trace, h.bgA, fun j j0 hj => ?_, fun a p e => by have := h.len a p e; simpa [Mem.lay] using this⟩
  rotate_right
  · rw [place_lay S _ (by omega) (by omega) j0, if_neg (by omega)]; exact h.bgP j j0 hj
  · have e1 : placeI k m = k.plain + 2 * (m - 1) := rfl
    rw [place_lay S _ (by omega) (by omega) (by omega), if_neg (by omega)]
    exact h.key m m0 m1
  · have e1 : placeI k m = k.plain + 2 * (m - 1) := rfl
    rw [place_lay S _ (by omega) (by omega) (by omega)]
    by_cases e : m = n
    · subst e
      rw [if_pos rfl]
      simp only [if_true]
    · rw [if_neg (by omega)]
      simp only [if_neg e]
      exact h.val m m0 m1
end Go.Proofs.Ytkpjfdhjkgdcbaa
