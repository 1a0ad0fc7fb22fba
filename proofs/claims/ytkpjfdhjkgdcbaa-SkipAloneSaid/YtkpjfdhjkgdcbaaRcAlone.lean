/- One insert alone, as plain data: it ends, and what is there then. -/
import Derived.Test.YtkpjfdhjkgdcbaaIk
import Derived.Test.YtkpjfdhjkgdcbaaStepS
import Derived.Test.YtkpjfdhjkgdcbaaSkPut

namespace Go.Proofs.Ytkpjfdhjkgdcbaa
open Go.RowKit

theorem bl_irrefl : ∀ a : List UInt8, Go.Op.bytesLess a a = false
  | [] => rfl
  | a :: l => by simp [Go.Op.bytesLess, bl_irrefl l]
theorem bl_tri : ∀ a b : List UInt8, Go.Op.bytesLess a b = false → Go.Op.bytesLess b a = false → a = b
  | [], [], _, _ => rfl
  | [], _ :: _, h, _ => by simp [Go.Op.bytesLess] at h
  | _ :: _, [], _, h => by simp [Go.Op.bytesLess] at h
  | a :: x, b :: y, h, g => by
    simp only [Go.Op.bytesLess, Bool.or_eq_false_iff, decide_eq_false_iff_not, Bool.and_eq_false_iff, beq_eq_false_iff_ne] at h g
    have hab : a = b := by
      apply UInt8.toNat_inj.1
      have h1 := h.1
      have g1 := g.1
      rw [UInt8.lt_iff_toNat_lt] at h1 g1
      omega
    subst hab
    rw [bl_tri x y (h.2.resolve_left (by simp)) (g.2.resolve_left (by simp))]
theorem bl_trans : ∀ a b c : List UInt8, Go.Op.bytesLess a b = true → Go.Op.bytesLess b c = true → Go.Op.bytesLess a c = true
  | _, [], _, h, _ => by simp [Go.Op.bytesLess] at h
  | _, _ :: _, [], _, h => by simp [Go.Op.bytesLess] at h
  | [], _ :: _, _ :: _, _, _ => by simp [Go.Op.bytesLess]
  | a :: x, b :: y, c :: z, h, g => by
    simp only [Go.Op.bytesLess, Bool.or_eq_true, decide_eq_true_eq, Bool.and_eq_true, beq_iff_eq] at h g ⊢
    rcases h with h | ⟨rfl, h⟩ <;> rcases g with g | ⟨rfl, g⟩
    · left; rw [UInt8.lt_iff_toNat_lt] at *; omega
    · left; exact h
    · left; exact g
    · right; exact ⟨rfl, bl_trans x y z h g⟩
theorem bl_asymm (a b : List UInt8) (h : Go.Op.bytesLess a b = true) : Go.Op.bytesLess b a = false := by
  cases hc : Go.Op.bytesLess b a
  · rfl
  · have := bl_trans a b a h hc
    rw [bl_irrefl] at this
    cases this
/-- The strict order of keys. -/
def IK.lt (a b : IK) : Prop := Go.Op.bytesLess a.key.toList b.key.toList = true ∨ (a.key.toList = b.key.toList ∧ (b.seq < a.seq ∨ (b.seq = a.seq ∧ b.kind < a.kind)))
theorem cmpI_neg {a b : Int} : cmpI a b < 0 ↔ a < b := by
  unfold cmpI
  split
  · constructor <;> intro _ <;> omega
  · split <;> constructor <;> intro _ <;> omega
theorem cmpI_zero {a b : Int} : cmpI a b = 0 ↔ a = b := by
  unfold cmpI
  split
  · constructor <;> intro _ <;> omega
  · split <;> constructor <;> intro _ <;> omega
theorem IK.cmp_lt (a b : IK) : a.cmp b < 0 ↔ a.lt b := by
  unfold IK.cmp IK.lt orI cmpS
  cases h1 : Go.Op.bytesLess a.key.toList b.key.toList
  · by_cases h2 : a.key.toList = b.key.toList
    · simp only [h2, beq_self_eq_true, Bool.false_eq_true, if_false, if_true, ne_eq, not_true_eq_false, true_and, false_or]
      by_cases h3 : cmpI b.seq a.seq = 0
      · rw [if_neg (by simpa using h3)]
        have h4 := cmpI_zero.1 h3
        rw [cmpI_neg]
        omega
      · rw [if_pos h3, cmpI_neg]
        have := mt cmpI_zero.2 h3
        omega
    · simp [h2]
  · simp
theorem IK.cmp_zero (a b : IK) : a.cmp b = 0 ↔ a.key.toList = b.key.toList ∧ a.seq = b.seq ∧ a.kind = b.kind := by
  unfold IK.cmp orI cmpS
  cases h1 : Go.Op.bytesLess a.key.toList b.key.toList
  · by_cases h2 : a.key.toList = b.key.toList
    · simp only [h2, beq_self_eq_true, Bool.false_eq_true, if_false, if_true, ne_eq, not_true_eq_false, true_and]
      by_cases h3 : cmpI b.seq a.seq = 0
      · rw [if_neg (by simpa using h3)]
        have h4 := cmpI_zero.1 h3
        rw [cmpI_zero]
        omega
      · rw [if_pos h3]
        have h6 := mt cmpI_zero.2 h3
        constructor
        · intro h; exact absurd h h3
        · intro h; omega
    · simp [h2]
  · constructor
    · intro h; simp at h
    · rintro ⟨h2, _⟩
      rw [h2, bl_irrefl] at h1
      cases h1
theorem key_ext {a b : ByteArray} (h : a.toList = b.toList) : a = b := by
  rw [ByteArray.toList_eq, ByteArray.toList_eq] at h
  cases a; cases b
  simp only [ByteArray.mk.injEq]
  exact Array.toList_inj.1 h
theorem IK.cmp_eq {a b : IK} (h : a.cmp b = 0) : a = b := by
  obtain ⟨h1, h2, h3⟩ := (IK.cmp_zero a b).1 h
  cases a; cases b
  simp only at h1 h2 h3
  rw [key_ext h1, h2, h3]
theorem IK.cmp_self (a : IK) : a.cmp a = 0 := (IK.cmp_zero a a).2 ⟨rfl, rfl, rfl⟩
theorem IK.lt_irrefl (a : IK) : ¬ a.lt a := by rw [← IK.cmp_lt, IK.cmp_self]; decide
theorem IK.lt_trans {a b c : IK} (h : a.lt b) (g : b.lt c) : a.lt c := by
  unfold IK.lt at *
  rcases h with h | ⟨h1, h2⟩ <;> rcases g with g | ⟨g1, g2⟩
  · left; exact bl_trans _ _ _ h g
  · left; rw [← g1]; exact h
  · left; rw [h1]; exact g
  · right; exact ⟨h1.trans g1, by omega⟩
theorem IK.lt_tri (a b : IK) : a.lt b ∨ a = b ∨ b.lt a := by
  unfold IK.lt
  cases h1 : Go.Op.bytesLess a.key.toList b.key.toList
  · cases h2 : Go.Op.bytesLess b.key.toList a.key.toList
    · have h3 := bl_tri _ _ h1 h2
      have h4 := key_ext h3
      by_cases h5 : a.seq = b.seq
      · by_cases h6 : a.kind = b.kind
        · right; left; cases a; cases b; simp_all
        · rcases Int.lt_or_gt_of_ne h6 with h7 | h7
          · right; right; right; exact ⟨h3.symm, .inr ⟨h5, h7⟩⟩
          · left; right; exact ⟨h3, .inr ⟨h5.symm, h7⟩⟩
      · rcases Int.lt_or_gt_of_ne h5 with h7 | h7
        · right; right; right; exact ⟨h3.symm, .inl h7⟩
        · left; right; exact ⟨h3, .inl h7⟩
    · right; right; left; rfl
  · left; left; rfl
theorem IK.lt_asymm {a b : IK} (h : a.lt b) : ¬ b.lt a := fun g => IK.lt_irrefl a (IK.lt_trans h g)
end Go.Proofs.Ytkpjfdhjkgdcbaa


namespace Go.Proofs.Ytkpjfdhjkgdcbaa
open Go.RowKit

/-- A sum over tasks. -/
def sumT : Nat → (Nat → Nat) → Nat
  | 0, _ => 0
  | T + 1, f => sumT T f + f T
theorem sumT_le {f g : Nat → Nat} : ∀ {T : Nat}, (∀ i, i < T → f i ≤ g i) → sumT T f ≤ sumT T g
  | 0, _ => Nat.le_refl _
  | T + 1, h => Nat.add_le_add (sumT_le fun i hi => h i (by omega)) (h T (by omega))
theorem sumT_congr {f g : Nat → Nat} : ∀ {T : Nat}, (∀ i, i < T → f i = g i) → sumT T f = sumT T g
  | 0, _ => rfl
  | T + 1, h => by rw [sumT, sumT, sumT_congr fun i hi => h i (by omega), h T (by omega)]
theorem sumT_one {f g : Nat → Nat} {i : Nat} : ∀ {T : Nat}, i < T → (∀ j, j < T → j ≠ i → g j = f j) → sumT T g + f i = sumT T f + g i
  | 0, h, _ => by omega
  | T + 1, h, hg => by
    rw [sumT, sumT]
    by_cases hi : i = T
    · subst hi
      rw [sumT_congr (f := g) (g := f) fun j hj => hg j (by omega) (by omega)]
      omega
    · have := sumT_one (f := f) (g := g) (T := T) (i := i) (by omega) fun j hj hne => hg j (by omega) hne
      rw [hg T (by omega) (by omega)]
      omega
/-- One may become anything, the others at most one more. -/
theorem sumT_one_more {f g : Nat → Nat} {i : Nat} : ∀ {T : Nat}, i < T → (∀ j, j < T → j ≠ i → g j ≤ f j + 1) → sumT T g + f i ≤ sumT T f + g i + (T - 1)
  | 0, h, _ => by omega
  | T + 1, h, hg => by
    rw [sumT, sumT]
    by_cases hi : i = T
    · subst hi
      have : sumT i g ≤ sumT i (fun j => f j + 1) := sumT_le fun j hj => hg j (by omega) (by omega)
      have h2 : ∀ n, sumT n (fun j => f j + 1) = sumT n f + n := fun n => by
        induction n with
        | zero => rfl
        | succ n ih => rw [sumT, sumT, ih]; omega
      rw [h2] at this
      omega
    · have := sumT_one_more (f := f) (g := g) (T := T) (i := i) (by omega) fun j hj hne => hg j (by omega) hne
      have := hg T (by omega) (by omega)
      omega
theorem sumT_zero {f : Nat → Nat} {T : Nat} (h : ∀ i, i < T → f i = 0) : sumT T f = 0 := by
  rw [sumT_congr h]
  induction T with
  | zero => rfl
  | succ T ih => rw [sumT, ih fun i hi => h i (by omega)]
theorem sumT_const (T c : Nat) : sumT T (fun _ => c) = T * c := by
  induction T with
  | zero => simp [sumT]
  | succ T ih => rw [sumT, ih, Nat.succ_mul]

def setN (now : Nat → Option Ins) (i : Nat) (v : Option Ins) : Nat → Option Ins := fun j => if j = i then v else now j
theorem setN_self (now : Nat → Option Ins) (i : Nat) (v : Option Ins) : setN now i v i = v := if_pos rfl
theorem setN_ne (now : Nat → Option Ins) {i j : Nat} (v : Option Ins) (h : j ≠ i) : setN now i v j = now j := if_neg h
def ofN (φ : Ins → Nat) (v : Option Ins) : Nat := match v with | none => 0 | some x => φ x
theorem sumT_setN (φ : Ins → Nat) (now : Nat → Option Ins) {T i : Nat} (hi : i < T) (v : Option Ins) : sumT T (fun j => ofN φ (setN now i v j)) + ofN φ (now i) = sumT T (fun j => ofN φ (now j)) + ofN φ v := by
  have := sumT_one (f := fun j => ofN φ (now j)) (g := fun j => ofN φ (setN now i v j)) hi (fun j _ hj => by rw [setN_ne _ _ hj])
  simpa only [setN_self] using this
/-- An insert after its step: none if it has ended. -/
def kept (x : Ins) : Option Ins := if x.op = 0 then none else some x
theorem kept_some {x y : Ins} (h : kept x = some y) : y = x ∧ x.op ≠ 0 := by
  unfold kept at h
  split at h
  · cases h
  · cases h; exact ⟨rfl, by assumption⟩
theorem setN_some {now : Nat → Option Ins} {i j : Nat} {v : Option Ins} {y : Ins} (h : setN now i v j = some y) : (j = i ∧ v = some y) ∨ (j ≠ i ∧ now j = some y) := by
  unfold setN at h
  split at h
  · exact .inl ⟨by assumption, h⟩
  · exact .inr ⟨by assumption, h⟩

theorem st1 (k : SkRef) (s : Sk) (x : Ins) (h : x.op = 1) : stepS k s x = ({ s.note ⟨x.task, 5, k.first⟩ with asked := s.asked + needI x }, ended { x with op := 2 } (if k.units < s.asked + needI x then 13 else 0)) := by simp only [stepS, h]
theorem st2 (k : SkRef) (s : Sk) (x : Ins) (h : x.op = 2) : stepS k s x = ({ s.note ⟨x.task, 5, k.first + 1⟩ with count := s.count + 1 }, { x with node := s.count + 1, op := 3 }) := by simp only [stepS, h]
theorem st3 (k : SkRef) (s : Sk) (x : Ins) (h : x.op = 3) : stepS k s x = ({ s.note ⟨x.task, 7, placeI k x.node⟩ with keys := fun m => if m = x.node then x.e.k else s.keys m }, { x with op := 4 }) := by simp only [stepS, h]
theorem st4 (k : SkRef) (s : Sk) (x : Ins) (h : x.op = 4) : stepS k s x = ({ s.note ⟨x.task, 7, placeI k x.node + 1⟩ with vals := fun m => if m = x.node then x.e.val else s.vals m }, { x with level := 5, op := 5 }) := by simp only [stepS, h]
theorem st5 (k : SkRef) (s : Sk) (x : Ins) (h : x.op = 5) : stepS k s x = (s.note ⟨x.task, 1, cellI k (x.at_ x.level) x.level⟩, if s.next (x.at_ x.level) x.level = 0 then down { x with thn := upd x.thn x.level (s.next (x.at_ x.level) x.level), op := 6 } else { x with thn := upd x.thn x.level (s.next (x.at_ x.level) x.level), op := 6 }) := by simp only [stepS, h]
theorem st6 (k : SkRef) (s : Sk) (x : Ins) (h : x.op = 6) : stepS k s x = (s.note ⟨x.task, 6, placeI k (x.thn x.level)⟩, if (s.keys (x.thn x.level)).cmp x.e.k < 0 then { x with at_ := upd x.at_ x.level (x.thn x.level), op := 5 } else down x) := by simp only [stepS, h]
theorem st7 (k : SkRef) (s : Sk) (x : Ins) (h : x.op = 7) : stepS k s x = ((s.note ⟨x.task, 2, cellI k x.node x.level⟩).link x.node x.level (x.thn x.level), { x with again := true, op := 8 }) := by simp only [stepS, h]
theorem st8 (k : SkRef) (s : Sk) (x : Ins) (h : x.op = 8) : stepS k s x = (if s.next (x.at_ x.level) x.level = x.thn x.level then (s.note ⟨x.task, 3, cellI k (x.at_ x.level) x.level⟩).link (x.at_ x.level) x.level x.node else s.note ⟨x.task, 4, cellI k (x.at_ x.level) x.level⟩, swapped x (decide (s.next (x.at_ x.level) x.level = x.thn x.level))) := by simp only [stepS, h]

/-- What holds of an insert of the task i. -/
structure XB (s : Sk) (i : Nat) (x : Ins) : Prop where
  task : x.task = (i : Int)
  i64 : i < 64
  h0 : 1 ≤ x.height
  h1 : x.height ≤ 6
  wf : x.e.k.Wf
  right : x.e.right = true
  op0 : 1 ≤ x.op
  op8 : x.op ≤ 8
  err : x.err = 0
  lv : x.level < 6
  node : 3 ≤ x.op → 1 ≤ x.node ∧ x.node ≤ s.count
  at_ : ∀ j, 0 ≤ x.at_ j ∧ x.at_ j ≤ s.count
  thn : ∀ j, 0 ≤ x.thn j ∧ x.thn j ≤ s.count
  thn6 : x.op = 6 → x.thn x.level ≠ 0
  low : x.again = true → (x.level : Int) < x.height
  first : x.op = 7 → x.again = false → x.level = 0
  eight : x.op = 8 → x.again = true
  early : x.op ≤ 4 → x.again = false
theorem XB.count {s s' : Sk} {i : Nat} {x : Ins} (h : XB s i x) (hc : s.count ≤ s'.count) : XB s' i x :=
  ⟨h.task, h.i64, h.h0, h.h1, h.wf, h.right, h.op0, h.op8, h.err, h.lv, fun q => ⟨(h.node q).1, Int.le_trans (h.node q).2 hc⟩, fun j => ⟨(h.at_ j).1, Int.le_trans (h.at_ j).2 hc⟩, fun j => ⟨(h.thn j).1, Int.le_trans (h.thn j).2 hc⟩, h.thn6, h.low, h.first, h.eight, h.early⟩
def op2N (x : Ins) : Nat := if x.op = 2 then 1 else 0
/-- What holds of a list, and of the inserts of T tasks. -/
structure IB (k : SkRef) (T : Nat) (s : Sk) (now : Nat → Option Ins) : Prop where
  tasks : ∀ i x, now i = some x → i < T
  x : ∀ i x, now i = some x → XB s i x
  u0 : 6 ≤ k.units
  next : ∀ n l, 0 ≤ s.next n l ∧ s.next n l ≤ s.count
  count0 : 0 ≤ s.count
  res : 6 * (s.count + (sumT T (fun i => ofN op2N (now i)) : Nat)) ≤ s.asked
  room : 6 * (s.count + (sumT T (fun i => ofN op2N (now i)) : Nat)) ≤ k.units
  ask : s.asked ≤ 400 * s.trace.length
theorem right_val {e : En} (h : e.right = true) : e.k.right = true ∧ e.val.size ≤ 256 := by
  unfold En.right at h
  rw [Bool.and_eq_true, decide_eq_true_eq] at h
  refine ⟨h.1, ?_⟩
  have := h.2
  split at this <;> omega
theorem right_key {e : En} (h : e.right = true) : 1 ≤ e.k.key.size ∧ e.k.key.size ≤ 64 := by
  have := (right_val h).1
  unfold IK.right at this
  rw [decide_eq_true_eq] at this
  exact ⟨this.1, this.2.1⟩
theorem XB.need {s : Sk} {i : Nat} {x : Ins} (h : XB s i x) : 6 ≤ needI x ∧ needI x ≤ 400 := by
  have h1 := right_key h.right
  have h2 := right_val h.right
  have := h.h0
  have := h.h1
  unfold needI
  omega
theorem IB.stepOk {k : SkRef} {T : Nat} {s : Sk} {now : Nat → Option Ins} (h : IB k T s now) {i : Nat} {x : Ins} (hx : now i = some x) (ht : s.trace.length ≤ 1000000000) : StepOk k s x := by
  have b := h.x i x hx
  have hr := h.room
  have hc := h.count0
  have ha := h.ask
  have hs := h.res
  have hn := h.next (x.at_ x.level) x.level
  have h1 := b.at_ x.level
  have h2 := b.thn x.level
  have hcu : s.count ≤ k.units / 6 := by omega
  refine ⟨by rw [b.task]; omega, by rw [b.task]; have := b.i64; omega, b.lv, b.op8, b.h0, b.h1, b.wf, (right_val b.right).1, (right_val b.right).2, fun _ => ⟨by omega, by omega⟩, fun _ => ⟨hc, by omega⟩, fun q => ?_, fun _ => ⟨h1.1, by omega⟩, fun _ => ⟨hn.1, by omega⟩, fun q => ⟨?_, by omega⟩, fun _ => ⟨h2.1, by omega⟩⟩
  · have := b.node (by omega)
    omega
  · have := b.thn6 q
    omega
theorem upd_range {f : Nat → Int} {c v : Int} {i : Nat} (h : ∀ j, 0 ≤ f j ∧ f j ≤ c) (h0 : 0 ≤ v) (h1 : v ≤ c) : ∀ j, 0 ≤ upd f i v j ∧ upd f i v j ≤ c := fun j => by
  unfold upd
  split
  · exact ⟨h0, h1⟩
  · exact h j
/-- A level's way found, of an insert that has all but its step. -/
theorem XB.down {s : Sk} {i : Nat} {x : Ins} (h : XB s i { x with op := 5 }) (h3 : 1 ≤ x.node ∧ x.node ≤ s.count) : XB s i (down x) := by
  unfold Proofs.Ytkpjfdhjkgdcbaa.down
  split
  · rename_i hc
    exact { h with op0 := (show 1 ≤ 7 by decide), op8 := (show 7 ≤ 8 by decide), node := fun _ => h3, thn6 := fun q => by simp at q, first := fun _ q => hc.resolve_left (by show ¬ x.again = true; have : x.again = false := q; rw [this]; decide), eight := fun q => by simp at q, early := fun q => by simp at q }
  · rename_i hc
    exact { h with op0 := (show 1 ≤ 5 by decide), op8 := (show 5 ≤ 8 by decide), lv := (by have : x.level < 6 := h.lv; show x.level - 1 < 6; omega), node := fun _ => h3, at_ := upd_range h.at_ (h.at_ _).1 (h.at_ _).2, thn6 := fun q => by simp at q, low := fun q => absurd (.inl q) hc, first := fun q => by simp at q, eight := fun q => by simp at q, early := fun q => by simp at q }
theorem down_node (x : Ins) : (down x).node = x.node := by unfold down; split <;> rfl
theorem down_op2 (x : Ins) : op2N (down x) = 0 := by unfold down; split <;> rfl
theorem down_ne (x : Ins) : (down x).op ≠ 0 := by unfold down; split; exact (show (7 : Nat) ≠ 0 by decide); exact (show (5 : Nat) ≠ 0 by decide)
theorem link_range {s : Sk} {c n v : Int} {l : Nat} (h : ∀ m j, 0 ≤ s.next m j ∧ s.next m j ≤ c) (h0 : 0 ≤ v) (h1 : v ≤ c) : ∀ m j, 0 ≤ (s.link n l v).next m j ∧ (s.link n l v).next m j ≤ c := fun m j => by
  unfold Sk.link
  dsimp only
  split
  · exact ⟨h0, h1⟩
  · exact h m j
theorem ended_kept {x : Ins} {e : Int} (he : e ≠ 0) : kept (ended x e) = none := by rw [ended, if_neg he, kept, if_pos rfl]
theorem kept_of {x : Ins} (h : x.op ≠ 0) : kept x = some x := if_neg h

/-- What a step keeps, of what the others need. -/
theorem IB.mk' {k : SkRef} {T : Nat} {s s' : Sk} {now : Nat → Option Ins} {i : Nat} {x : Ins} {v : Option Ins} (h : IB k T s now) (hx : now i = some x) (hc : s.count ≤ s'.count)
    (hv : ∀ y, v = some y → XB s' i y) (hn : ∀ n l, 0 ≤ s'.next n l ∧ s'.next n l ≤ s'.count)
    (ha : s.asked ≤ s'.asked) (hs : s'.asked ≤ 400 * s'.trace.length)
    (hr : s'.count + ofN op2N v ≤ s.count + op2N x ∨ (s'.count + ofN op2N v ≤ s.count + op2N x + 1 ∧ s.asked + 6 ≤ s'.asked ∧ s'.asked ≤ k.units)) : IB k T s' (setN now i v) := by
  have hi := h.tasks i x hx
  have hsum := sumT_setN op2N now hi v
  rw [hx, show ofN op2N (some x) = op2N x from rfl] at hsum
  have h1 := h.res
  have h2 := h.room
  refine ⟨fun j y hj => ?_, fun j y hj => ?_, h.u0, hn, Int.le_trans h.count0 hc, ?_, ?_, hs⟩
  · rcases setN_some hj with ⟨rfl, _⟩ | ⟨_, q⟩
    · exact hi
    · exact h.tasks j y q
  · rcases setN_some hj with ⟨rfl, q⟩ | ⟨_, q⟩
    · exact hv y q
    · exact (h.x j y q).count hc
  · omega
  · rcases hr with hr | ⟨hr, h3, h4⟩ <;> omega
theorem IB.step {k : SkRef} {T : Nat} {s : Sk} {now : Nat → Option Ins} (h : IB k T s now) {i : Nat} {x : Ins} (hx : now i = some x) : IB k T (stepS k s x).1 (setN now i (kept (stepS k s x).2)) := by
  have b := h.x i x hx
  have hop := b.op0
  have hop8 := b.op8
  have hask := h.ask
  have c0 := h.count0
  have hlen : ∀ a : Acc, s.asked ≤ 400 * (((s.trace ++ [a]).length : Nat) : Int) := fun a => by rw [List.length_append, List.length_singleton]; omega
  have hcase : x.op = 1 ∨ x.op = 2 ∨ x.op = 3 ∨ x.op = 4 ∨ x.op = 5 ∨ x.op = 6 ∨ x.op = 7 ∨ x.op = 8 := by omega
  rcases hcase with hx1 | hx1 | hx1 | hx1 | hx1 | hx1 | hx1 | hx1
  · have hnd := b.need
    have hlen1 : s.asked + needI x ≤ 400 * (((s.trace ++ [(⟨x.task, 5, k.first⟩ : Acc)]).length : Nat) : Int) := by rw [List.length_append, List.length_singleton]; omega
    rw [st1 k s x hx1]
    by_cases hfull : k.units < s.asked + needI x
    · rw [if_pos hfull, ended_kept (by decide)]
      exact h.mk' hx (Int.le_refl _) (fun y q => by cases q) h.next (by show s.asked ≤ s.asked + needI x; omega) hlen1 (.inl (by show s.count + ((0 : Nat) : Int) ≤ s.count + (op2N x : Nat); omega))
    · rw [if_neg hfull, ended_ok, kept_of (by show (2 : Nat) ≠ 0; decide)]
      refine h.mk' hx (Int.le_refl _) (fun y q => ?_) h.next (by show s.asked ≤ s.asked + needI x; omega) hlen1 (.inr ⟨by show s.count + ((1 : Nat) : Int) ≤ s.count + (op2N x : Nat) + 1; omega, by show s.asked + 6 ≤ s.asked + needI x; omega, by show s.asked + needI x ≤ k.units; omega⟩)
      cases q
      exact { b with op0 := (show 1 ≤ 2 by decide), op8 := (show 2 ≤ 8 by decide), node := fun q => by simp at q, thn6 := fun q => by simp at q, first := fun q => by simp at q, eight := fun q => by simp at q, early := fun _ => b.early (by omega) }
  · rw [st2 k s x hx1, kept_of (by show (3 : Nat) ≠ 0; decide)]
    refine h.mk' hx (by show s.count ≤ s.count + 1; omega) (fun y q => ?_) (fun n l => ⟨(h.next n l).1, by have := (h.next n l).2; show s.next n l ≤ s.count + 1; omega⟩) (Int.le_refl _) (hlen _) (.inl ?_)
    · cases q
      exact { b with op0 := (show 1 ≤ 3 by decide), op8 := (show 3 ≤ 8 by decide), node := fun _ => ⟨by show 1 ≤ s.count + 1; omega, Int.le_refl _⟩, at_ := fun j => ⟨(b.at_ j).1, by have := (b.at_ j).2; show x.at_ j ≤ s.count + 1; omega⟩, thn := fun j => ⟨(b.thn j).1, by have := (b.thn j).2; show x.thn j ≤ s.count + 1; omega⟩, thn6 := fun q => by simp at q, first := fun q => by simp at q, eight := fun q => by simp at q, early := fun _ => b.early (by omega) }
    · show s.count + 1 + ((0 : Nat) : Int) ≤ s.count + (op2N x : Nat)
      have : op2N x = 1 := by rw [op2N, if_pos hx1]
      omega
  · have b3 := b.node (by omega)
    rw [st3 k s x hx1, kept_of (by show (4 : Nat) ≠ 0; decide)]
    refine h.mk' hx (Int.le_refl _) (fun y q => ?_) h.next (Int.le_refl _) (hlen _) (.inl (by show s.count + ((0 : Nat) : Int) ≤ s.count + (op2N x : Nat); omega))
    cases q
    exact { b with op0 := (show 1 ≤ 4 by decide), op8 := (show 4 ≤ 8 by decide), node := fun _ => b3, thn6 := fun q => by simp at q, first := fun q => by simp at q, eight := fun q => by simp at q, early := fun _ => b.early (by omega) }
  · have b3 := b.node (by omega)
    have ea := b.early (by omega)
    rw [st4 k s x hx1, kept_of (by show (5 : Nat) ≠ 0; decide)]
    refine h.mk' hx (Int.le_refl _) (fun y q => ?_) h.next (Int.le_refl _) (hlen _) (.inl (by show s.count + ((0 : Nat) : Int) ≤ s.count + (op2N x : Nat); omega))
    cases q
    exact { b with op0 := (show 1 ≤ 5 by decide), op8 := (show 5 ≤ 8 by decide), lv := (show 5 < 6 by decide), node := fun _ => b3, thn6 := fun q => by simp at q, low := fun (q : x.again = true) => (by rw [ea] at q; cases q), first := fun q => by simp at q, eight := fun q => by simp at q, early := fun q => by simp at q }
  · have b3 := b.node (by omega)
    have hn := h.next (x.at_ x.level) x.level
    rw [st5 k s x hx1]
    by_cases hz : s.next (x.at_ x.level) x.level = 0
    · rw [if_pos hz, kept_of (down_ne _)]
      refine h.mk' hx (Int.le_refl _) (fun y q => ?_) h.next (Int.le_refl _) (hlen _) (.inl (by show s.count + ((op2N (down _) : Nat) : Int) ≤ s.count + (op2N x : Nat); rw [down_op2]; omega))
      cases q
      refine XB.down (x := { x with thn := upd x.thn x.level (s.next (x.at_ x.level) x.level), op := 6 }) ?_ b3
      exact { b with op0 := (show 1 ≤ 5 by decide), op8 := (show 5 ≤ 8 by decide), node := fun _ => b3, thn := upd_range b.thn hn.1 hn.2, thn6 := fun q => by simp at q, first := fun q => by simp at q, eight := fun q => by simp at q, early := fun q => by simp at q }
    · rw [if_neg hz, kept_of (by show (6 : Nat) ≠ 0; decide)]
      refine h.mk' hx (Int.le_refl _) (fun y q => ?_) h.next (Int.le_refl _) (hlen _) (.inl (by show s.count + ((0 : Nat) : Int) ≤ s.count + (op2N x : Nat); omega))
      cases q
      exact { b with op0 := (show 1 ≤ 6 by decide), op8 := (show 6 ≤ 8 by decide), node := fun _ => b3, thn := upd_range b.thn hn.1 hn.2, thn6 := fun _ => by show upd x.thn x.level _ x.level ≠ 0; rw [upd, if_pos rfl]; exact hz, first := fun q => by simp at q, eight := fun q => by simp at q, early := fun q => by simp at q }
  · have b3 := b.node (by omega)
    rw [st6 k s x hx1]
    by_cases hz : (s.keys (x.thn x.level)).cmp x.e.k < 0
    · rw [if_pos hz, kept_of (by show (5 : Nat) ≠ 0; decide)]
      refine h.mk' hx (Int.le_refl _) (fun y q => ?_) h.next (Int.le_refl _) (hlen _) (.inl (by show s.count + ((0 : Nat) : Int) ≤ s.count + (op2N x : Nat); omega))
      cases q
      exact { b with op0 := (show 1 ≤ 5 by decide), op8 := (show 5 ≤ 8 by decide), node := fun _ => b3, at_ := upd_range b.at_ (b.thn _).1 (b.thn _).2, thn6 := fun q => by simp at q, first := fun q => by simp at q, eight := fun q => by simp at q, early := fun q => by simp at q }
    · rw [if_neg hz, kept_of (down_ne _)]
      refine h.mk' hx (Int.le_refl _) (fun y q => ?_) h.next (Int.le_refl _) (hlen _) (.inl (by show s.count + ((op2N (down _) : Nat) : Int) ≤ s.count + (op2N x : Nat); rw [down_op2]; omega))
      cases q
      refine XB.down ?_ b3
      exact { b with op0 := (show 1 ≤ 5 by decide), op8 := (show 5 ≤ 8 by decide), node := fun _ => b3, thn6 := fun q => by simp at q, first := fun q => by simp at q, eight := fun q => by simp at q, early := fun q => by simp at q }
  · have b3 := b.node (by omega)
    rw [st7 k s x hx1, kept_of (by show (8 : Nat) ≠ 0; decide)]
    refine h.mk' hx (Int.le_refl _) (fun y q => ?_) (link_range h.next (b.thn _).1 (b.thn _).2) (Int.le_refl _) (hlen _) (.inl (by show s.count + ((0 : Nat) : Int) ≤ s.count + (op2N x : Nat); omega))
    cases q
    refine { b with op0 := (show 1 ≤ 8 by decide), op8 := (show 8 ≤ 8 by decide), node := fun _ => b3, thn6 := fun q => by simp at q, low := fun _ => ?_, first := fun q => by simp at q, eight := fun _ => rfl, early := fun q => by simp at q }
    show (x.level : Int) < x.height
    by_cases ha : x.again = true
    · exact b.low ha
    · have := b.first hx1 (by simpa using ha)
      have := b.h0
      omega
  · have b3 := b.node (by omega)
    have b8 := b.low (b.eight hx1)
    have h6 := b.h1
    rw [st8 k s x hx1]
    by_cases hz : s.next (x.at_ x.level) x.level = x.thn x.level
    · rw [if_pos hz, decide_eq_true hz]
      unfold swapped
      rw [if_pos rfl]
      by_cases hl : (x.level : Int) + 1 = x.height
      · rw [if_pos hl, show kept ({ x with op := 0 } : Ins) = none from rfl]
        exact h.mk' hx (Int.le_refl _) (fun y q => by cases q) (link_range h.next (by omega) b3.2) (Int.le_refl _) (hlen _) (.inl (by show s.count + ((0 : Nat) : Int) ≤ s.count + (op2N x : Nat); omega))
      · rw [if_neg hl, kept_of (by show (7 : Nat) ≠ 0; decide)]
        refine h.mk' hx (Int.le_refl _) (fun y q => ?_) (link_range h.next (by omega) b3.2) (Int.le_refl _) (hlen _) (.inl (by show s.count + ((0 : Nat) : Int) ≤ s.count + (op2N x : Nat); omega))
        cases q
        exact { b with op0 := (show 1 ≤ 7 by decide), op8 := (show 7 ≤ 8 by decide), lv := (by show x.level + 1 < 6; omega), node := fun _ => b3, thn6 := fun q => by simp at q, low := fun _ => (by show ((x.level + 1 : Nat) : Int) < x.height; omega), first := fun _ (q : x.again = false) => (by rw [b.eight hx1] at q; cases q), eight := fun q => by simp at q, early := fun q => by simp at q }
    · rw [if_neg hz, decide_eq_false hz]
      unfold swapped
      rw [if_neg (by decide), kept_of (by show (5 : Nat) ≠ 0; decide)]
      refine h.mk' hx (Int.le_refl _) (fun y q => ?_) h.next (Int.le_refl _) (hlen _) (.inl (by show s.count + ((0 : Nat) : Int) ≤ s.count + (op2N x : Nat); omega))
      cases q
      exact { b with op0 := (show 1 ≤ 5 by decide), op8 := (show 5 ≤ 8 by decide), node := fun _ => b3, thn6 := fun q => by simp at q, first := fun q => by simp at q, eight := fun q => by simp at q, early := fun q => by simp at q }
/-- An insert is begun. -/
theorem IB.begin {k : SkRef} {T : Nat} {s : Sk} {now : Nat → Option Ins} (h : IB k T s now) {i : Nat} (hi : i < T) (hT : T ≤ 64) (hx : now i = none) {e : En} (hr : e.right = true) (hw : e.k.Wf) {height : Int} (h0 : 1 ≤ height) (h1 : height ≤ 6) : IB k T s (setN now i (some (ins0 i e height))) := by
  have hsum := sumT_setN op2N now hi (some (ins0 i e height))
  rw [hx] at hsum
  have e0 : ofN op2N (some (ins0 i e height)) = 0 := rfl
  have e1 : ofN op2N none = 0 := rfl
  rw [e0, e1] at hsum
  have c0 := h.count0
  refine ⟨fun j y hj => ?_, fun j y hj => ?_, h.u0, h.next, c0, by rw [show sumT T _ = sumT T (fun j => ofN op2N (now j)) from by omega]; exact h.res, by rw [show sumT T _ = sumT T (fun j => ofN op2N (now j)) from by omega]; exact h.room, h.ask⟩
  · rcases setN_some hj with ⟨rfl, _⟩ | ⟨_, q⟩
    · exact hi
    · exact h.tasks j y q
  · rcases setN_some hj with ⟨rfl, q⟩ | ⟨_, q⟩
    · cases q
      exact ⟨rfl, by omega, h0, h1, hw, hr, (show 1 ≤ 1 by decide), (show 1 ≤ 8 by decide), rfl, (show 0 < 6 by decide), fun q => absurd q (show ¬ 3 ≤ 1 by decide), fun _ => ⟨Int.le_refl 0, c0⟩, fun _ => ⟨Int.le_refl 0, c0⟩, fun q => absurd q (show ¬ 1 = 6 by decide), fun q => Bool.noConfusion q, fun q => absurd q (show ¬ 1 = 7 by decide), fun q => absurd q (show ¬ 1 = 8 by decide), fun _ => rfl⟩
    · exact h.x j y q
/-- Somebody else's accesses. -/
theorem IB.more {k : SkRef} {T : Nat} {s : Sk} {now : Nat → Option Ins} (h : IB k T s now) (t : List Acc) : IB k T { s with trace := s.trace ++ t } now :=
  ⟨h.tasks, fun i x hx => { h.x i x hx with }, h.u0, h.next, h.count0, h.res, h.room, by have := h.ask; show s.asked ≤ 400 * ((s.trace ++ t).length : Nat); rw [List.length_append]; omega⟩
def sk0 : Sk := ⟨0, 0, fun _ _ => 0, fun _ => ik0, fun _ => ByteArray.empty, [], fun _ => 0, fun _ => [], none⟩
theorem IB.init {k : SkRef} (T : Nat) (h : 6 ≤ k.units) : IB k T sk0 (fun _ => none) := by
  have e : ∀ T, sumT T (fun i => ofN op2N ((fun _ => none : Nat → Option Ins) i)) = 0 := fun T => sumT_zero fun _ _ => rfl
  exact ⟨fun _ _ q => (by cases q), fun _ _ q => (by cases q), h, fun _ _ => ⟨Int.le_refl 0, Int.le_refl 0⟩, Int.le_refl 0, (by rw [e]; decide), (by rw [e]; show 6 * ((0 : Int) + 0) ≤ _; omega), (by decide)⟩
end Go.Proofs.Ytkpjfdhjkgdcbaa


namespace Go.Proofs.Ytkpjfdhjkgdcbaa
open Go.RowKit

def Chain (f : Int → Int) : Int → List Int → Prop
  | a, [] => f a = 0
  | a, b :: r => f a = b ∧ Chain f b r
theorem Chain.congr {f g : Int → Int} : ∀ {a : Int} {L : List Int}, Chain f a L → g a = f a → (∀ m ∈ L, g m = f m) → Chain g a L
  | _, [], h, e, _ => e.trans h
  | _, b :: _, h, e, q => ⟨e.trans h.1, Chain.congr h.2 (q b (List.mem_cons_self)) fun m hm => q m (List.mem_cons_of_mem _ hm)⟩
theorem Chain.next {f : Int → Int} : ∀ {a c : Int} {L : List Int}, Chain f a L → (c = a ∨ c ∈ L) → f c = 0 ∨ f c ∈ L
  | _, _, [], h, .inl e => .inl (by rw [e]; exact h)
  | _, _, [], _, .inr e => by cases e
  | _, _, b :: _, h, .inl e => .inr (by rw [e, h.1]; exact List.mem_cons_self)
  | _, _, b :: _, h, .inr e => by
    rcases Chain.next h.2 (List.mem_cons.1 e) with q | q
    · exact .inl q
    · exact .inr (List.mem_cons_of_mem _ q)
/-- A node behind another one. -/
def insIn (a n : Int) : List Int → List Int
  | [] => []
  | b :: r => if b = a then b :: n :: r else b :: insIn a n r
def insAt (a n : Int) (L : List Int) : List Int := if a = 0 then n :: L else insIn a n L
theorem mem_insIn {a n m : Int} : ∀ {L : List Int}, a ∈ L → (m ∈ insIn a n L ↔ m = n ∨ m ∈ L)
  | [], h => by cases h
  | b :: r, h => by
    unfold insIn
    by_cases hb : b = a
    · rw [if_pos hb]
      simp only [List.mem_cons]
      exact or_left_comm
    · rw [if_neg hb]
      have hr : a ∈ r := (List.mem_cons.1 h).resolve_left (fun e => hb e.symm)
      simp only [List.mem_cons, mem_insIn hr]
      exact or_left_comm
theorem mem_insAt {a n m : Int} {L : List Int} (h : a = 0 ∨ a ∈ L) : m ∈ insAt a n L ↔ m = n ∨ m ∈ L := by
  unfold insAt
  split
  · simp
  · exact mem_insIn (h.resolve_left (by assumption))
theorem perm_insIn {a n : Int} : ∀ {L : List Int}, a ∈ L → (insIn a n L).Perm (n :: L)
  | [], h => by cases h
  | b :: r, h => by
    unfold insIn
    by_cases hb : b = a
    · rw [if_pos hb]; exact List.Perm.swap _ _ _
    · rw [if_neg hb]
      have hr : a ∈ r := (List.mem_cons.1 h).resolve_left (fun e => hb e.symm)
      exact ((perm_insIn hr).cons b).trans (List.Perm.swap _ _ _)
theorem perm_insAt {a n : Int} {L : List Int} (h : a = 0 ∨ a ∈ L) : (insAt a n L).Perm (n :: L) := by
  unfold insAt
  split
  · exact List.Perm.refl _
  · exact perm_insIn (h.resolve_left (by assumption))
theorem Chain.head {f g : Int → Int} {a n : Int} {r : List Int} (h : Chain f a r) (hn : f n = f a) (e : g n = f n) (q : ∀ m ∈ r, g m = f m) : Chain g n r := by
  cases r with
  | nil => exact e.trans (hn.trans h)
  | cons d r => exact ⟨e.trans (hn.trans h.1), h.2.congr (q d List.mem_cons_self) fun m hm => q m (List.mem_cons_of_mem _ hm)⟩
theorem Chain.insIn {f g : Int → Int} {a n : Int} (hg : ∀ m, g m = if m = a then n else f m) (hf : f n = f a) : ∀ {L : List Int} {c : Int}, Chain f c L → L.Nodup → a ∈ L → c ≠ a → n ∉ L → Chain g c (insIn a n L)
  | [], _, _, _, h, _, _ => by cases h
  | b :: r, c, h, hd, ha, hc, hn => by
    have hgc : g c = b := by rw [hg, if_neg hc]; exact h.1
    have hnd := List.nodup_cons.1 hd
    unfold Proofs.Ytkpjfdhjkgdcbaa.insIn
    by_cases hb : b = a
    · subst hb
      rw [if_pos rfl]
      have hnb : n ≠ b := fun e => hn (by rw [e]; exact List.mem_cons_self)
      exact ⟨hgc, by rw [hg, if_pos rfl], h.2.head hf (by rw [hg, if_neg hnb]) fun m hm => by rw [hg, if_neg (fun e : m = b => hnd.1 (e ▸ hm))]⟩
    · rw [if_neg hb]
      have hr : a ∈ r := (List.mem_cons.1 ha).resolve_left (fun e => hb e.symm)
      exact ⟨hgc, Chain.insIn hg hf h.2 hnd.2 hr hb fun q => hn (List.mem_cons_of_mem _ q)⟩
theorem Chain.insAt {f g : Int → Int} {a n : Int} {L : List Int} (hg : ∀ m, g m = if m = a then n else f m) (hf : f n = f a) (h : Chain f 0 L) (hd : L.Nodup) (ha : a = 0 ∨ a ∈ L) (h0 : (0 : Int) ∉ L) (hn : n ∉ L) (hn0 : n ≠ 0) : Chain g 0 (insAt a n L) := by
  unfold Proofs.Ytkpjfdhjkgdcbaa.insAt
  split
  · rename_i e
    subst e
    exact ⟨by rw [hg, if_pos rfl], h.head hf (by rw [hg, if_neg hn0]) fun m hm => by rw [hg, if_neg (fun e : m = 0 => h0 (e ▸ hm))]⟩
  · have ha' := ha.resolve_left (by assumption)
    exact Chain.insIn hg hf h hd ha' (fun e => h0 (e ▸ ha')) hn
theorem pair_insIn {R : Int → Int → Prop} (tr : ∀ x y z, R x y → R y z → R x z) {f : Int → Int} {a n : Int} (hn : R a n) (hf : f a = 0 ∨ R n (f a)) : ∀ {L : List Int} {c : Int}, Chain f c L → (0 : Int) ∉ L → L.Pairwise R → a ∈ L → (insIn a n L).Pairwise R
  | [], _, _, _, _, h => by cases h
  | b :: r, c, h, h0, hp, ha => by
    have hpc := List.pairwise_cons.1 hp
    unfold insIn
    by_cases hb : b = a
    · subst hb
      rw [if_pos rfl]
      refine List.pairwise_cons.2 ⟨fun m hm => ?_, List.pairwise_cons.2 ⟨fun m hm => ?_, hpc.2⟩⟩
      · rcases List.mem_cons.1 hm with rfl | hm
        · exact hn
        · exact hpc.1 m hm
      · cases r with
        | nil => cases hm
        | cons d r =>
          have hd : f b = d := h.2.1
          have hd0 : d ≠ 0 := fun e => h0 (by rw [← e]; exact List.mem_cons_of_mem _ List.mem_cons_self)
          have hnd : R n d := by
            rcases hf with q | q
            · exact absurd (hd.symm.trans q) hd0
            · rwa [hd] at q
          rcases List.mem_cons.1 hm with rfl | hm
          · exact hnd
          · exact tr _ _ _ hnd ((List.pairwise_cons.1 hpc.2).1 m hm)
    · rw [if_neg hb]
      have hr : a ∈ r := (List.mem_cons.1 ha).resolve_left (fun e => hb e.symm)
      refine List.pairwise_cons.2 ⟨fun m hm => ?_, pair_insIn tr hn hf h.2 (fun q => h0 (List.mem_cons_of_mem _ q)) hpc.2 hr⟩
      rcases (mem_insIn hr).1 hm with rfl | hm
      · exact tr _ _ _ (hpc.1 a hr) hn
      · exact hpc.1 m hm
theorem pair_insAt {R : Int → Int → Prop} (tr : ∀ x y z, R x y → R y z → R x z) {f : Int → Int} {a n : Int} {L : List Int} (ha : a = 0 ∨ (a ∈ L ∧ R a n)) (hf : f a = 0 ∨ R n (f a)) (h : Chain f 0 L) (h0 : (0 : Int) ∉ L) (hp : L.Pairwise R) : (insAt a n L).Pairwise R := by
  unfold insAt
  split
  · rename_i e
    subst e
    refine List.pairwise_cons.2 ⟨fun m hm => ?_, hp⟩
    cases L with
    | nil => cases hm
    | cons d r =>
      have hd : f 0 = d := h.1
      have hd0 : d ≠ 0 := fun e => h0 (by rw [← e]; exact List.mem_cons_self)
      have hnd : R n d := by
        rcases hf with q | q
        · exact absurd (hd.symm.trans q) hd0
        · rwa [hd] at q
      rcases List.mem_cons.1 hm with rfl | hm
      · exact hnd
      · exact tr _ _ _ hnd ((List.pairwise_cons.1 hp).1 m hm)
  · have ha' := ha.resolve_left (by assumption)
    exact pair_insIn tr ha'.2 hf h h0 hp ha'.1
end Go.Proofs.Ytkpjfdhjkgdcbaa


namespace Go.Proofs.Ytkpjfdhjkgdcbaa
open Go.RowKit

structure Wn where
  node : Int
  e : En
  h : Int
/-- On how many levels an insert's node is linked. -/
def lk (x : Ins) : Nat := if x.again = true then x.level else 0
def AtOk (s : Sk) (L : Nat → List Int) (e : IK) (j : Nat) (a : Int) : Prop := a = 0 ∨ (a ∈ L j ∧ (s.keys a).lt e)
def ThnOk (s : Sk) (L : Nat → List Int) (e : IK) (j : Nat) (a : Int) : Prop := a = 0 ∨ (a ∈ L j ∧ e.lt (s.keys a))
structure XS (s : Sk) (L : Nat → List Int) (x : Ins) : Prop where
  at_ok : 5 ≤ x.op → ∀ j, x.level ≤ j → j < 6 → AtOk s L x.e.k j (x.at_ j)
  thn_ok : 5 ≤ x.op → ∀ j, x.level < j → j < 6 → ThnOk s L x.e.k j (x.thn j)
  thn6 : x.op = 6 → x.thn x.level ∈ L x.level
  thn7 : 7 ≤ x.op → ThnOk s L x.e.k x.level (x.thn x.level)
  at0 : x.op ≤ 4 → ∀ j, x.at_ j = 0
  key : 4 ≤ x.op → s.keys x.node = x.e.k
  val : 5 ≤ x.op → s.vals x.node = x.e.val
  eight : x.op = 8 → s.next x.node x.level = x.thn x.level
  link : 3 ≤ x.op → ∀ l, l < 6 → (x.node ∈ L l ↔ l < lk x)
  fresh : ∀ n, n ∈ L 0 → (3 ≤ x.op → n ≠ x.node) → s.keys n ≠ x.e.k
structure WOk (s : Sk) (L : Nat → List Int) (p : Wn) : Prop where
  n0 : 1 ≤ p.node
  n1 : p.node ≤ s.count
  h0 : 1 ≤ p.h
  h1 : p.h ≤ 6
  key : s.keys p.node = p.e.k
  val : s.vals p.node = p.e.val
  link : ∀ l, l < 6 → (p.node ∈ L l ↔ (l : Int) < p.h)
structure SInv (s : Sk) (now : Nat → Option Ins) (L : Nat → List Int) (well : List Wn) : Prop where
  x : ∀ i x, now i = some x → XS s L x
  chain : ∀ l, l < 6 → Chain (fun n => s.next n l) 0 (L l)
  pos : ∀ l, l < 6 → ∀ n, n ∈ L l → 1 ≤ n ∧ n ≤ s.count
  sorted : ∀ l, l < 6 → (L l).Pairwise fun a b => (s.keys a).lt (s.keys b)
  sub : ∀ l, l + 1 < 6 → ∀ n, n ∈ L (l + 1) → n ∈ L l
  apart : ∀ i j x y, i ≠ j → now i = some x → now j = some y → 3 ≤ x.op → 3 ≤ y.op → x.node ≠ y.node
  keys2 : ∀ i j x y, i ≠ j → now i = some x → now j = some y → x.e.k ≠ y.e.k
  wl : ∀ p, p ∈ well → WOk s L p
  well_ne : ∀ i x, now i = some x → 3 ≤ x.op → ∀ p, p ∈ well → p.node ≠ x.node
  well_nd : (well.map (·.node)).Nodup
  all : ∀ n, n ∈ L 0 → (∃ p, p ∈ well ∧ p.node = n) ∨ ∃ i x, now i = some x ∧ 3 ≤ x.op ∧ x.node = n
theorem SInv.sub0 {s : Sk} {now : Nat → Option Ins} {L : Nat → List Int} {well : List Wn} (h : SInv s now L well) : ∀ l, l < 6 → ∀ n, n ∈ L l → n ∈ L 0
  | 0, _, _, q => q
  | l + 1, hl, n, q => h.sub0 l (by omega) n (h.sub l hl n q)
theorem SInv.nodup {s : Sk} {now : Nat → Option Ins} {L : Nat → List Int} {well : List Wn} (h : SInv s now L well) {l : Nat} (hl : l < 6) : (L l).Nodup :=
  (h.sorted l hl).imp (S := fun a b : Int => a ≠ b) fun {a b} q (e : a = b) => IK.lt_irrefl (s.keys b) (by rw [e] at q; exact q)
theorem AtOk.other {s s' : Sk} {L L' : Nat → List Int} {e : IK} {j : Nat} {a : Int} (h : AtOk s L e j a) (hL : ∀ m, m ∈ L j → m ∈ L' j ∧ s'.keys m = s.keys m) : AtOk s' L' e j a := by
  rcases h with h | ⟨h1, h2⟩
  · exact .inl h
  · exact .inr ⟨(hL a h1).1, by rw [(hL a h1).2]; exact h2⟩
theorem ThnOk.other {s s' : Sk} {L L' : Nat → List Int} {e : IK} {j : Nat} {a : Int} (h : ThnOk s L e j a) (hL : ∀ m, m ∈ L j → m ∈ L' j ∧ s'.keys m = s.keys m) : ThnOk s' L' e j a := by
  rcases h with h | ⟨h1, h2⟩
  · exact .inl h
  · exact .inr ⟨(hL a h1).1, by rw [(hL a h1).2]; exact h2⟩
/-- What another one's step leaves of an insert: the node n may have been linked. -/
theorem XS.other {s s' : Sk} {L L' : Nat → List Int} {y : Ins} {n : Int} (h : XS s L y) (hlv : y.level < 6)
    (hL : ∀ l, l < 6 → ∀ m, m ∈ L l → m ∈ L' l ∧ s'.keys m = s.keys m) (hL' : ∀ l, l < 6 → ∀ m, m ∈ L' l → m ∈ L l ∨ (m = n ∧ (3 ≤ y.op → y.node ≠ n) ∧ s'.keys n ≠ y.e.k))
    (hk : 3 ≤ y.op → s'.keys y.node = s.keys y.node ∧ s'.vals y.node = s.vals y.node ∧ ∀ l, l < 6 → y.node ∉ L l → s'.next y.node l = s.next y.node l) : XS s' L' y := by
  refine ⟨fun q j h1 h2 => (h.at_ok q j h1 h2).other (hL j h2), fun q j h1 h2 => (h.thn_ok q j h1 h2).other (hL j h2), fun q => (hL _ hlv _ (h.thn6 q)).1, fun q => (h.thn7 q).other (hL _ hlv), h.at0, fun q => ?_, fun q => ?_, fun q => ?_, fun q l hl => ?_, fun m hm q => ?_⟩
  · rw [(hk (by omega)).1]; exact h.key q
  · rw [(hk (by omega)).2.1]; exact h.val q
  · have hnot : y.node ∉ L y.level := fun hm => by
      have := (h.link (by omega) y.level hlv).1 hm
      unfold lk at this
      split at this <;> omega
    rw [(hk (by omega)).2.2 _ hlv hnot]; exact h.eight q
  · rw [← h.link q l hl]
    constructor
    · intro hm
      rcases hL' l hl _ hm with q1 | ⟨q1, q2, _⟩
      · exact q1
      · exact absurd q1 (q2 q)
    · intro hm
      exact (hL l hl _ hm).1
  · rcases hL' 0 (by decide) _ hm with q1 | ⟨q1, _, q2⟩
    · rw [(hL 0 (by decide) _ q1).2]
      exact h.fresh m q1 q
    · rw [q1]; exact q2
/-- What follows an insert by its own step. -/
structure Nx (c : Int) (x y : Ins) : Prop where
  e : y.e = x.e
  node : (3 ≤ x.op ∧ y.node = x.node) ∨ (x.op < 3 ∧ (3 ≤ y.op → y.node = c + 1))
  op : 3 ≤ x.op → 3 ≤ y.op
/-- A step that links nothing. -/
theorem SInv.quiet {k : SkRef} {T : Nat} {s s' : Sk} {now : Nat → Option Ins} {L : Nat → List Int} {well : List Wn} (b : IB k T s now) (h : SInv s now L well) {i : Nat} {x : Ins} (hx : now i = some x) {v : Option Ins}
    (hc : s.count ≤ s'.count) (hkm : ∀ m, m ∈ L 0 → s'.keys m = s.keys m ∧ s'.vals m = s.vals m) (hko : ∀ m, (3 ≤ x.op → m ≠ x.node) → s'.keys m = s.keys m ∧ s'.vals m = s.vals m ∧ ∀ l, s'.next m l = s.next m l)
    (hch : ∀ l, l < 6 → Chain (fun n => s'.next n l) 0 (L l)) (hv : ∀ y, v = some y → XS s' L y ∧ Nx s.count x y) (hn : v = none → x.op < 3) : SInv s' (setN now i v) L well := by
  have bx := b.x i x hx
  have hkL : ∀ l, l < 6 → ∀ m, m ∈ L l → s'.keys m = s.keys m := fun l hl m hm => (hkm m (h.sub0 l hl m hm)).1
  have hnodes : ∀ j y, j ≠ i → now j = some y → ∀ z, v = some z → 3 ≤ y.op → 3 ≤ z.op → z.node ≠ y.node := by
    intro j y hj hy z hz h3 h4
    have nz := (hv z hz).2
    rcases nz.node with ⟨q1, q2⟩ | ⟨q1, q2⟩
    · rw [q2]; exact h.apart i j x y (Ne.symm hj) hx hy q1 h3
    · have := ((b.x j y hy).node h3).2
      rw [q2 h4]; omega
  refine ⟨fun j y hj => ?_, hch, fun l hl n hm => ⟨(h.pos l hl n hm).1, Int.le_trans (h.pos l hl n hm).2 hc⟩, fun l hl => ?_, h.sub, fun i' j y z hij hy hz h3 h4 => ?_, fun i' j y z hij hy hz => ?_, fun p hp => ?_, fun j y hj h3 p hp => ?_, h.well_nd, fun n hm => ?_⟩
  · rcases setN_some hj with ⟨_, q⟩ | ⟨hne, q⟩
    · exact (hv y q).1
    · exact (h.x j y q).other (n := 0) (b.x j y q).lv (fun l hl m hm => ⟨hm, hkL l hl m hm⟩) (fun l hl m hm => .inl hm) (fun h3 => have q1 := hko y.node (fun hx3 => (h.apart i j x y (Ne.symm hne) hx q hx3 h3).symm); ⟨q1.1, q1.2.1, fun l _ _ => q1.2.2 l⟩)
  · exact (h.sorted l hl).imp_of_mem fun {a b} ha hb q => by rw [hkL l hl a ha, hkL l hl b hb]; exact q
  · rcases setN_some hy with ⟨e1, q1⟩ | ⟨e1, q1⟩ <;> rcases setN_some hz with ⟨e2, q2⟩ | ⟨e2, q2⟩
    · exact absurd (e1.trans e2.symm) hij
    · exact hnodes j z e2 q2 y q1 h4 h3
    · exact (hnodes i' y e1 q1 z q2 h3 h4).symm
    · exact h.apart i' j y z hij q1 q2 h3 h4
  · rcases setN_some hy with ⟨e1, q1⟩ | ⟨e1, q1⟩ <;> rcases setN_some hz with ⟨e2, q2⟩ | ⟨e2, q2⟩
    · exact absurd (e1.trans e2.symm) hij
    · rw [(hv y q1).2.e]; exact h.keys2 i j x z (Ne.symm e2) hx q2
    · rw [(hv z q2).2.e]; exact h.keys2 i' i y x e1 q1 hx
    · exact h.keys2 i' j y z hij q1 q2
  · have w := h.wl p hp
    have hne : 3 ≤ x.op → p.node ≠ x.node := fun q => h.well_ne i x hx q p hp
    exact ⟨w.n0, Int.le_trans w.n1 hc, w.h0, w.h1, by rw [(hko _ hne).1]; exact w.key, by rw [(hko _ hne).2.1]; exact w.val, w.link⟩
  · rcases setN_some hj with ⟨e1, q⟩ | ⟨hne, q⟩
    · rcases (hv y q).2.node with ⟨q1, q2⟩ | ⟨q1, q2⟩
      · rw [q2]; exact h.well_ne i x hx q1 p hp
      · have := (h.wl p hp).n1
        rw [q2 h3]; omega
    · exact h.well_ne j y q h3 p hp
  · rcases h.all n hm with q | ⟨j, y, hy, h3, hn1⟩
    · exact .inl q
    · by_cases hj : j = i
      · subst hj
        rw [hx] at hy
        cases hy
        cases v with
        | none => have := hn rfl; omega
        | some z =>
          have nz := (hv z rfl).2
          refine .inr ⟨j, z, setN_self _ _ _, nz.op h3, ?_⟩
          rcases nz.node with ⟨_, q2⟩ | ⟨q1, _⟩
          · rw [q2]; exact hn1
          · omega
      · exact .inr ⟨j, y, by rw [setN_ne _ _ hj]; exact hy, h3, hn1⟩
/-- The levels behind a step. -/
def stepL (s : Sk) (x : Ins) (L : Nat → List Int) : Nat → List Int :=
  if x.op = 8 ∧ s.next (x.at_ x.level) x.level = x.thn x.level then fun l => if l = x.level then insAt (x.at_ l) x.node (L l) else L l else L
/-- What an insert that has ended well has put. -/
def gain (y : Ins) : List Wn := if y.op = 0 ∧ y.err = 0 then [⟨y.node, y.e, y.height⟩] else []
theorem lk_down (x : Ins) : lk (down x) = lk x := by
  unfold down
  split
  · rfl
  · rename_i h
    have : x.again = false := by cases hx : x.again; rfl; exact absurd (.inl hx) h
    unfold lk
    simp only [this]
    rfl
/-- A level's way is found: what the one below needs. -/
theorem XS.down {s : Sk} {now : Nat → Option Ins} {L : Nat → List Int} {well : List Wn} {x : Ins} (hI : SInv s now L well) (h : XS s L { x with op := 5 }) (hlv : x.level < 6) (ht : ThnOk s L x.e.k x.level (x.thn x.level)) : XS s L (Proofs.Ytkpjfdhjkgdcbaa.down x) := by
  have hlk := lk_down x
  have hlink : ∀ l, l < 6 → ((Proofs.Ytkpjfdhjkgdcbaa.down x).node ∈ L l ↔ l < lk (Proofs.Ytkpjfdhjkgdcbaa.down x)) := by rw [hlk, down_node]; exact h.link (show 3 ≤ 5 by decide)
  revert hlink
  unfold Proofs.Ytkpjfdhjkgdcbaa.down
  split
  · intro hlink
    exact ⟨fun _ => h.at_ok (Nat.le_refl 5), fun _ => h.thn_ok (Nat.le_refl 5), fun q => by simp at q, fun _ => ht, fun q => by simp at q, fun _ => h.key (show 4 ≤ 5 by decide), fun _ => h.val (Nat.le_refl 5), fun q => by simp at q, fun _ => hlink, fun n hn q => h.fresh n hn fun _ => q (show 3 ≤ 7 by decide)⟩
  · rename_i hc
    intro hlink
    have hl0 : x.level ≠ 0 := fun e => hc (.inr e)
    have ha : AtOk s L x.e.k x.level (x.at_ x.level) := h.at_ok (Nat.le_refl 5) x.level (Nat.le_refl _) hlv
    refine ⟨fun _ j h1 h2 => ?_, fun _ j h1 h2 => ?_, fun q => by simp at q, fun q => by simp at q, fun q => by simp at q, fun _ => h.key (show 4 ≤ 5 by decide), fun _ => h.val (Nat.le_refl 5), fun q => by simp at q, fun _ => hlink, fun n hn q => h.fresh n hn fun _ => q (show 3 ≤ 5 by decide)⟩
    · have h1' : x.level - 1 ≤ j := h1
      show AtOk s L x.e.k j (upd x.at_ (x.level - 1) (x.at_ x.level) j)
      unfold upd
      by_cases hj : j = x.level - 1
      · rw [if_pos hj]
        rcases ha with ha | ⟨ha1, ha2⟩
        · exact .inl ha
        · refine .inr ⟨?_, ha2⟩
          rw [hj]
          exact hI.sub (x.level - 1) (by omega) _ (by rw [show x.level - 1 + 1 = x.level by omega]; exact ha1)
      · rw [if_neg hj]
        exact h.at_ok (Nat.le_refl 5) j (by show x.level ≤ j; omega) h2
    · have h1' : x.level - 1 < j := h1
      show ThnOk s L x.e.k j (x.thn j)
      by_cases hj : j = x.level
      · rw [hj]; exact ht
      · exact h.thn_ok (Nat.le_refl 5) j (by show x.level < j; omega) h2
theorem Nx.down {c : Int} {x : Ins} (y : Ins) (h3 : 3 ≤ x.op) (he : y.e = x.e) (hn : y.node = x.node) : Nx c x (Proofs.Ytkpjfdhjkgdcbaa.down y) := by
  have e1 : (Proofs.Ytkpjfdhjkgdcbaa.down y).e = y.e := by unfold Proofs.Ytkpjfdhjkgdcbaa.down; split <;> rfl
  refine ⟨e1.trans he, .inl ⟨h3, (down_node y).trans hn⟩, fun _ => ?_⟩
  unfold Proofs.Ytkpjfdhjkgdcbaa.down
  split
  · exact (show 3 ≤ 7 by decide)
  · exact (show 3 ≤ 5 by decide)
end Go.Proofs.Ytkpjfdhjkgdcbaa


namespace Go.Proofs.Ytkpjfdhjkgdcbaa
open Go.RowKit

theorem XS.note {s : Sk} {L : Nat → List Int} {x : Ins} (h : XS s L x) (a : Acc) : XS (s.note a) L x := ⟨h.at_ok, h.thn_ok, h.thn6, h.thn7, h.at0, h.key, h.val, h.eight, h.link, h.fresh⟩
theorem SInv.note {s : Sk} {now : Nat → Option Ins} {L : Nat → List Int} {well : List Wn} (h : SInv s now L well) (a : Acc) : SInv (s.note a) now L well :=
  ⟨fun i x hx => (h.x i x hx).note a, h.chain, h.pos, h.sorted, h.sub, h.apart, h.keys2, fun p hp => { h.wl p hp with }, h.well_ne, h.well_nd, h.all⟩
theorem gain_op {y : Ins} (h : y.op ≠ 0) : gain y = [] := if_neg fun q => h q.1
theorem link_self (s : Sk) (n : Int) (l : Nat) (v : Int) : (s.link n l v).next n l = v := by unfold Sk.link; simp
theorem link_ne (s : Sk) {n m : Int} {l j : Nat} (v : Int) (h : ¬ (m = n ∧ j = l)) : (s.link n l v).next m j = s.next m j := by unfold Sk.link; simp [h]
theorem stepL_ne {s : Sk} {x : Ins} (L : Nat → List Int) (h : x.op ≠ 8) : stepL s x L = L := if_neg fun q => h q.1
theorem lk_le {x : Ins} : lk x ≤ x.level := by unfold lk; split <;> omega

theorem SInv.linked {k : SkRef} {T : Nat} {s : Sk} {now : Nat → Option Ins} {L : Nat → List Int} {well : List Wn} (b : IB k T s now) (h : SInv s now L well) {i : Nat} {x : Ins} (hx : now i = some x) (hop : x.op = 8)
    (hs : s.next (x.at_ x.level) x.level = x.thn x.level) (a : Acc) (v : Option Ins) (well' : List Wn)
    (hv : (v = none ∧ well' = well ++ [⟨x.node, x.e, x.height⟩] ∧ (x.level : Int) + 1 = x.height) ∨ (v = some { x with level := x.level + 1, op := 7 } ∧ well' = well ∧ x.level + 1 < 6)) :
    SInv ((s.note a).link (x.at_ x.level) x.level x.node) (setN now i v) (fun l => if l = x.level then insAt (x.at_ l) x.node (L l) else L l) well' := by
  have bx := b.x i x hx
  have hX := h.x i x hx
  have h6 := bx.lv
  have h3 : 3 ≤ x.op := by omega
  have hnd := bx.node h3
  have hat := hX.at_ok (by omega) x.level (Nat.le_refl _) h6
  have hat' : x.at_ x.level = 0 ∨ x.at_ x.level ∈ L x.level := hat.imp id (·.1)
  have hthn := hX.thn7 (by omega)
  have h8 := hX.eight hop
  have hkey := hX.key (by omega)
  have hval := hX.val (by omega)
  have hag := bx.eight hop
  have hlk : lk x = x.level := by unfold lk; rw [if_pos hag]
  have hnot : x.node ∉ L x.level := fun q => by have := (hX.link h3 x.level h6).1 q; omega
  have h0 : ∀ l, l < 6 → (0 : Int) ∉ L l := fun l hl q => by have := (h.pos l hl 0 q).1; omega
  obtain ⟨L', hL'⟩ : ∃ L', (fun l => if l = x.level then insAt (x.at_ l) x.node (L l) else L l) = L' := ⟨_, rfl⟩
  obtain ⟨s', hs'⟩ : ∃ s', (s.note a).link (x.at_ x.level) x.level x.node = s' := ⟨_, rfl⟩
  rw [hL', hs']
  have hmem : ∀ l m, m ∈ L' l ↔ (m ∈ L l ∨ (l = x.level ∧ m = x.node)) := by
    intro l m
    rw [← hL']
    dsimp only
    by_cases hl : l = x.level
    · rw [if_pos hl, hl, mem_insAt hat']
      constructor
      · rintro (q | q)
        · exact .inr ⟨rfl, q⟩
        · exact .inl q
      · rintro (q | ⟨_, q⟩)
        · exact .inr q
        · exact .inl q
    · rw [if_neg hl]
      constructor
      · exact .inl
      · rintro (q | ⟨q, _⟩)
        · exact q
        · exact absurd q hl
  have hkeys : ∀ m, s'.keys m = s.keys m := fun m => by rw [← hs']; rfl
  have hvals : ∀ m, s'.vals m = s.vals m := fun m => by rw [← hs']; rfl
  have hcnt : s'.count = s.count := by rw [← hs']; rfl
  have hnext : ∀ m l, s'.next m l = if m = x.at_ x.level ∧ l = x.level then x.node else s.next m l := fun m l => by rw [← hs']; rfl
  have hnode : ∀ y, v = some y → y = { x with level := x.level + 1, op := 7 } ∧ well' = well ∧ x.level + 1 < 6 := by
    intro y q
    rcases hv with ⟨e, _⟩ | ⟨e, e2, e3⟩
    · rw [e] at q; cases q
    · rw [e] at q; cases q; exact ⟨rfl, e2, e3⟩
  refine ⟨fun j y hj => ?_, fun l hl => ?_, fun l hl n hm => ?_, fun l hl => ?_, fun l hl n hm => ?_, fun i' j y z hij hy hz q3 q4 => ?_, fun i' j y z hij hy hz => ?_, fun p hp => ?_, fun j y hj q3 p hp => ?_, ?_, fun n hm => ?_⟩
  · rcases setN_some hj with ⟨_, q⟩ | ⟨hne, q⟩
    · obtain ⟨rfl, _, q6⟩ := hnode y q
      refine ⟨fun _ j (h1 : x.level + 1 ≤ j) h2 => ?_, fun _ j (h1 : x.level + 1 < j) h2 => ?_, fun q => by simp at q, fun _ => ?_, fun q => by simp at q, fun _ => by show s'.keys x.node = _; rw [hkeys]; exact hkey, fun _ => by show s'.vals x.node = _; rw [hvals]; exact hval, fun q => by simp at q, fun _ l hl => ?_, fun n hn q => ?_⟩
      · exact (hX.at_ok (by omega) j (by omega) h2).other fun m hm => ⟨(hmem j m).2 (.inl hm), hkeys m⟩
      · exact (hX.thn_ok (by omega) j (by omega) h2).other fun m hm => ⟨(hmem j m).2 (.inl hm), hkeys m⟩
      · exact (hX.thn_ok (by omega) (x.level + 1) (by omega) q6).other fun m hm => ⟨(hmem _ m).2 (.inl hm), hkeys m⟩
      · show x.node ∈ L' l ↔ l < lk { x with level := x.level + 1, op := 7 }
        have : lk ({ x with level := x.level + 1, op := 7 } : Ins) = x.level + 1 := by unfold lk; rw [if_pos hag]
        rw [this, hmem, hX.link h3 l hl, hlk]
        constructor
        · rintro (q | ⟨q, _⟩) <;> omega
        · intro q
          by_cases e : l = x.level
          · exact .inr ⟨e, rfl⟩
          · exact .inl (by omega)
      · have hne : n ≠ x.node := q (show 3 ≤ 7 by decide)
        rw [hkeys]
        rcases (hmem 0 n).1 hn with q1 | ⟨_, q1⟩
        · exact hX.fresh n q1 fun _ => hne
        · exact absurd q1 hne
    · refine (h.x j y q).other (n := x.node) (b.x j y q).lv (fun l hl m hm => ⟨(hmem l m).2 (.inl hm), hkeys m⟩) (fun l hl m hm => ?_) fun q3 => ⟨hkeys _, hvals _, fun l hl hno => ?_⟩
      · rcases (hmem l m).1 hm with q1 | ⟨_, q1⟩
        · exact .inl q1
        · exact .inr ⟨q1, fun q3 => h.apart j i y x hne q hx q3 h3, by rw [hkeys, hkey]; exact h.keys2 i j x y (Ne.symm hne) hx q⟩
      · rw [hnext, if_neg]
        rintro ⟨e1, e2⟩
        rcases hat' with e3 | e3
        · have := ((b.x j y q).node q3).1
          omega
        · rw [e1, e2] at hno; exact hno e3
  · by_cases e : l = x.level
    · subst e
      have := Chain.insAt (f := fun n => s.next n x.level) (g := fun n => s'.next n x.level) (a := x.at_ x.level) (n := x.node) (L := L x.level) (fun m => by show s'.next m x.level = _; rw [hnext]; simp) (by show s.next x.node x.level = s.next (x.at_ x.level) x.level; rw [h8, hs]) (h.chain _ h6) (h.nodup h6) hat' (h0 _ h6) hnot (by omega)
      rw [← hL']
      simpa using this
    · have hLl : L' l = L l := by rw [← hL']; exact if_neg e
      rw [hLl]
      have hn : ∀ m, s'.next m l = s.next m l := fun m => by rw [hnext, if_neg fun q => e q.2]
      exact (h.chain l hl).congr (hn 0) fun m _ => hn m
  · rw [hcnt]
    rcases (hmem l n).1 hm with q | ⟨_, q⟩
    · exact h.pos l hl n q
    · rw [q]; exact hnd
  · by_cases e : l = x.level
    · subst e
      have := pair_insAt (R := fun c d => (s.keys c).lt (s.keys d)) (fun _ _ _ q1 q2 => IK.lt_trans q1 q2) (f := fun n => s.next n x.level) (a := x.at_ x.level) (n := x.node) (L := L x.level) (by rw [hkey]; exact hat) (by show s.next (x.at_ x.level) x.level = 0 ∨ (s.keys x.node).lt (s.keys (s.next (x.at_ x.level) x.level)); rw [hs, hkey]; exact hthn.imp id (·.2)) (h.chain _ h6) (h0 _ h6) (h.sorted _ h6)
      rw [← hL']
      simp only [if_true, hkeys]
      exact this
    · have hLl : L' l = L l := by rw [← hL']; exact if_neg e
      rw [hLl]
      simp only [hkeys]
      exact h.sorted l hl
  · rcases (hmem (l + 1) n).1 hm with q | ⟨q1, q2⟩
    · exact (hmem l n).2 (.inl (h.sub l hl n q))
    · rw [q2]
      exact (hmem l _).2 (.inl ((hX.link h3 l (by omega)).2 (by omega)))
  · rcases setN_some hy with ⟨e1, q1⟩ | ⟨e1, q1⟩ <;> rcases setN_some hz with ⟨e2, q2⟩ | ⟨e2, q2⟩
    · exact absurd (e1.trans e2.symm) hij
    · obtain ⟨rfl, _⟩ := hnode y q1
      exact h.apart i j x z (Ne.symm e2) hx q2 h3 q4
    · obtain ⟨rfl, _⟩ := hnode z q2
      exact h.apart i' i y x e1 q1 hx q3 h3
    · exact h.apart i' j y z hij q1 q2 q3 q4
  · rcases setN_some hy with ⟨e1, q1⟩ | ⟨e1, q1⟩ <;> rcases setN_some hz with ⟨e2, q2⟩ | ⟨e2, q2⟩
    · exact absurd (e1.trans e2.symm) hij
    · obtain ⟨rfl, _⟩ := hnode y q1
      exact h.keys2 i j x z (Ne.symm e2) hx q2
    · obtain ⟨rfl, _⟩ := hnode z q2
      exact h.keys2 i' i y x e1 q1 hx
    · exact h.keys2 i' j y z hij q1 q2
  · have hold : ∀ p, p ∈ well → WOk s' L' p := fun p hp => by
      have w := h.wl p hp
      have hne := h.well_ne i x hx h3 p hp
      refine ⟨w.n0, by rw [hcnt]; exact w.n1, w.h0, w.h1, by rw [hkeys]; exact w.key, by rw [hvals]; exact w.val, fun l hl => ?_⟩
      rw [← w.link l hl, hmem]
      constructor
      · rintro (q | ⟨_, q⟩)
        · exact q
        · exact absurd q hne
      · exact .inl
    rcases hv with ⟨_, e, e2⟩ | ⟨_, e, _⟩
    · rw [e] at hp
      rcases List.mem_append.1 hp with hp | hp
      · exact hold p hp
      · rw [List.mem_singleton] at hp
        subst hp
        refine ⟨hnd.1, by rw [hcnt]; exact hnd.2, bx.h0, bx.h1, by rw [hkeys]; exact hkey, by rw [hvals]; exact hval, fun l hl => ?_⟩
        show x.node ∈ L' l ↔ (l : Int) < x.height
        rw [hmem, hX.link h3 l hl, hlk]
        constructor
        · rintro (q | ⟨q, _⟩) <;> omega
        · intro q
          by_cases e : l = x.level
          · exact .inr ⟨e, rfl⟩
          · exact .inl (by omega)
    · rw [e] at hp
      exact hold p hp
  · rcases setN_some hj with ⟨_, q⟩ | ⟨hne, q⟩
    · obtain ⟨rfl, e, _⟩ := hnode y q
      rw [e] at hp
      exact h.well_ne i x hx h3 p hp
    · rcases hv with ⟨_, e, e2⟩ | ⟨_, e, _⟩
      · rw [e] at hp
        rcases List.mem_append.1 hp with hp | hp
        · exact h.well_ne j y q q3 p hp
        · rw [List.mem_singleton] at hp
          subst hp
          exact h.apart i j x y (Ne.symm hne) hx q h3 q3
      · rw [e] at hp
        exact h.well_ne j y q q3 p hp
  · rcases hv with ⟨_, e, e2⟩ | ⟨_, e, _⟩
    · rw [e, List.map_append]
      refine List.nodup_append.2 ⟨h.well_nd, by simp, fun m hm n hn => ?_⟩
      obtain ⟨p, hp, rfl⟩ := List.mem_map.1 hm
      simp only [List.map_cons, List.map_nil, List.mem_singleton] at hn
      rw [hn]
      exact h.well_ne i x hx h3 p hp
    · rw [e]; exact h.well_nd
  · have hnew : (∃ p, p ∈ well' ∧ p.node = x.node) ∨ ∃ i' y, setN now i v i' = some y ∧ 3 ≤ y.op ∧ y.node = x.node := by
      rcases hv with ⟨_, e, _⟩ | ⟨e, _, _⟩
      · exact .inl ⟨_, by rw [e]; exact List.mem_append_right _ (List.mem_singleton.2 rfl), rfl⟩
      · exact .inr ⟨i, { x with level := x.level + 1, op := 7 }, by rw [setN_self, e], (show 3 ≤ 7 by decide), rfl⟩
    rcases (hmem 0 n).1 hm with q | ⟨_, q⟩
    · rcases h.all n q with ⟨p, hp, e⟩ | ⟨j, y, hy, q3, e⟩
      · refine .inl ⟨p, ?_, e⟩
        rcases hv with ⟨_, e, _⟩ | ⟨_, e, _⟩
        · rw [e]; exact List.mem_append_left _ hp
        · rw [e]; exact hp
      · by_cases hj : j = i
        · subst hj
          rw [hx] at hy
          cases hy
          rw [← e]; exact hnew
        · exact .inr ⟨j, y, by rw [setN_ne _ _ hj]; exact hy, q3, e⟩
    · rw [q]; exact hnew

theorem SInv.step {k : SkRef} {T : Nat} {s : Sk} {now : Nat → Option Ins} {L : Nat → List Int} {well : List Wn} (b : IB k T s now) (h : SInv s now L well) {i : Nat} {x : Ins} (hx : now i = some x) :
    SInv (stepS k s x).1 (setN now i (kept (stepS k s x).2)) (stepL s x L) (well ++ gain (stepS k s x).2) := by
  have bx := b.x i x hx
  have hX := h.x i x hx
  have hop := bx.op0
  have hop8 := bx.op8
  have h6 := bx.lv
  have hq : ∀ s' : Sk, (∀ m l, s'.next m l = s.next m l) → ∀ l, l < 6 → Chain (fun n => s'.next n l) 0 (L l) := fun s' e l hl => (h.chain l hl).congr (e 0 l) fun m _ => e m l
  have hcase : x.op = 1 ∨ x.op = 2 ∨ x.op = 3 ∨ x.op = 4 ∨ x.op = 5 ∨ x.op = 6 ∨ x.op = 7 ∨ x.op = 8 := by omega
  rcases hcase with hx1 | hx1 | hx1 | hx1 | hx1 | hx1 | hx1 | hx1
  · rw [st1 k s x hx1, stepL_ne L (by omega)]
    by_cases hfull : k.units < s.asked + needI x
    · rw [if_pos hfull, ended_kept (by decide), show gain (ended { x with op := 2 } 13) = [] from rfl, List.append_nil]
      exact h.quiet b hx (Int.le_refl _) (fun _ _ => ⟨rfl, rfl⟩) (fun _ _ => ⟨rfl, rfl, fun _ => rfl⟩) (hq _ fun _ _ => rfl) (fun y q => by cases q) (fun _ => by omega)
    · rw [if_neg hfull, ended_ok, kept_of (by show (2 : Nat) ≠ 0; decide), gain_op (by show (2 : Nat) ≠ 0; decide), List.append_nil]
      refine h.quiet b hx (Int.le_refl _) (fun _ _ => ⟨rfl, rfl⟩) (fun _ _ => ⟨rfl, rfl, fun _ => rfl⟩) (hq _ fun _ _ => rfl) (fun y q => ?_) (fun q => by cases q)
      cases q
      exact ⟨⟨fun q => by simp at q, fun q => by simp at q, fun q => by simp at q, fun q => by simp at q, fun _ => hX.at0 (by omega), fun q => by simp at q, fun q => by simp at q, fun q => by simp at q, fun q => by simp at q, fun n hn _ => hX.fresh n hn (fun q => by omega)⟩, ⟨rfl, .inr ⟨by omega, fun q => by simp at q⟩, fun q => by omega⟩⟩
  · rw [st2 k s x hx1, stepL_ne L (by omega), kept_of (by show (3 : Nat) ≠ 0; decide), gain_op (by show (3 : Nat) ≠ 0; decide), List.append_nil]
    refine h.quiet b hx (by show s.count ≤ s.count + 1; omega) (fun _ _ => ⟨rfl, rfl⟩) (fun _ _ => ⟨rfl, rfl, fun _ => rfl⟩) (hq _ fun _ _ => rfl) (fun y q => ?_) (fun q => by cases q)
    cases q
    refine ⟨⟨fun q => by simp at q, fun q => by simp at q, fun q => by simp at q, fun q => by simp at q, fun _ => hX.at0 (by omega), fun q => by simp at q, fun q => by simp at q, fun q => by simp at q, fun _ l hl => ?_, fun n hn _ => hX.fresh n hn (fun q => by omega)⟩, ⟨rfl, .inr ⟨by omega, fun _ => rfl⟩, fun q => by omega⟩⟩
    show s.count + 1 ∈ L l ↔ l < lk ({ x with node := s.count + 1, op := 3 } : Ins)
    have : lk ({ x with node := s.count + 1, op := 3 } : Ins) = 0 := by unfold lk; rw [if_neg (by show ¬ x.again = true; rw [bx.early (by omega)]; decide)]
    rw [this]
    constructor
    · intro q; have := (h.pos l hl _ q).2; omega
    · intro q; omega
  · have hl0 : lk x = 0 := by unfold lk; rw [if_neg (by rw [bx.early (by omega)]; decide)]
    have hno : ∀ n, n ∈ L 0 → n ≠ x.node := fun n hn e => by rw [e] at hn; have := (hX.link (by omega) 0 (by decide)).1 hn; omega
    rw [st3 k s x hx1, stepL_ne L (by omega), kept_of (by show (4 : Nat) ≠ 0; decide), gain_op (by show (4 : Nat) ≠ 0; decide), List.append_nil]
    refine h.quiet b hx (Int.le_refl _) (fun m hm => ⟨if_neg (hno m hm), rfl⟩) (fun m hm => ⟨if_neg (hm (by omega)), rfl, fun _ => rfl⟩) (hq _ fun _ _ => rfl) (fun y q => ?_) (fun q => by cases q)
    cases q
    exact ⟨⟨fun q => by simp at q, fun q => by simp at q, fun q => by simp at q, fun q => by simp at q, fun _ => hX.at0 (by omega), fun _ => if_pos rfl, fun q => by simp at q, fun q => by simp at q, fun _ => hX.link (by omega), fun n hn q => by show (if n = x.node then x.e.k else s.keys n) ≠ x.e.k; rw [if_neg (hno n hn)]; exact hX.fresh n hn fun _ => hno n hn⟩, ⟨rfl, .inl ⟨by omega, rfl⟩, fun _ => by show 3 ≤ 4; decide⟩⟩
  · have hl0 : lk x = 0 := by unfold lk; rw [if_neg (by rw [bx.early (by omega)]; decide)]
    have hno : ∀ n, n ∈ L 0 → n ≠ x.node := fun n hn e => by rw [e] at hn; have := (hX.link (by omega) 0 (by decide)).1 hn; omega
    rw [st4 k s x hx1, stepL_ne L (by omega), kept_of (by show (5 : Nat) ≠ 0; decide), gain_op (by show (5 : Nat) ≠ 0; decide), List.append_nil]
    refine h.quiet b hx (Int.le_refl _) (fun m hm => ⟨rfl, if_neg (hno m hm)⟩) (fun m hm => ⟨rfl, if_neg (hm (by omega)), fun _ => rfl⟩) (hq _ fun _ _ => rfl) (fun y q => ?_) (fun q => by cases q)
    cases q
    have hl5 : lk ({ x with level := 5, op := 5 } : Ins) = 0 := by unfold lk; rw [if_neg (by show ¬ x.again = true; rw [bx.early (by omega)]; decide)]
    exact ⟨⟨fun _ j _ _ => .inl (hX.at0 (by omega) j), fun _ j (q : 5 < j) q2 => by omega, fun q => by simp at q, fun q => by simp at q, fun q => by simp at q, fun _ => hX.key (by omega), fun _ => if_pos rfl, fun q => by simp at q, fun _ l hl => by rw [hl5, ← hl0]; exact hX.link (by omega) l hl, fun n hn q => hX.fresh n hn fun _ => hno n hn⟩, ⟨rfl, .inl ⟨by omega, rfl⟩, fun _ => by show 3 ≤ 5; decide⟩⟩
  · rw [st5 k s x hx1, stepL_ne L (by omega)]
    have hat := hX.at_ok (by omega) x.level (Nat.le_refl _) h6
    have hnx := (h.chain x.level h6).next (c := x.at_ x.level) (hat.imp id (·.1))
    have hthn : ∀ v, ∀ j, x.level < j → upd x.thn x.level v j = x.thn j := fun v j hj => by unfold upd; rw [if_neg (by omega)]
    by_cases hz : s.next (x.at_ x.level) x.level = 0
    · rw [if_pos hz, kept_of (down_ne _), gain_op (down_ne _), List.append_nil]
      refine h.quiet b hx (Int.le_refl _) (fun _ _ => ⟨rfl, rfl⟩) (fun _ _ => ⟨rfl, rfl, fun _ => rfl⟩) (hq _ fun _ _ => rfl) (fun y q => ?_) (fun q => by cases q)
      cases q
      refine ⟨XS.down (h.note _) ?_ h6 (.inl (by show upd x.thn x.level _ x.level = 0; unfold upd; rw [if_pos rfl]; exact hz)), Nx.down _ (by omega) rfl rfl⟩
      exact ⟨fun _ => hX.at_ok (by omega), fun _ j (q : x.level < j) q2 => by show ThnOk s L x.e.k j (upd x.thn x.level _ j); rw [hthn _ _ q]; exact hX.thn_ok (by omega) j q q2, fun q => by simp at q, fun q => by simp at q, fun q => by simp at q, fun _ => hX.key (by omega), fun _ => hX.val (by omega), fun q => by simp at q, fun _ => hX.link (by omega), fun n hn q => hX.fresh n hn fun _ => q (show 3 ≤ 5 by decide)⟩
    · rw [if_neg hz, kept_of (by show (6 : Nat) ≠ 0; decide), gain_op (by show (6 : Nat) ≠ 0; decide), List.append_nil]
      refine h.quiet b hx (Int.le_refl _) (fun _ _ => ⟨rfl, rfl⟩) (fun _ _ => ⟨rfl, rfl, fun _ => rfl⟩) (hq _ fun _ _ => rfl) (fun y q => ?_) (fun q => by cases q)
      cases q
      exact ⟨⟨fun _ => hX.at_ok (by omega), fun _ j (q : x.level < j) q2 => by show ThnOk s L x.e.k j (upd x.thn x.level _ j); rw [hthn _ _ q]; exact hX.thn_ok (by omega) j q q2, fun _ => by show upd x.thn x.level _ x.level ∈ L x.level; unfold upd; rw [if_pos rfl]; exact hnx.resolve_left hz, fun q => by simp at q, fun q => by simp at q, fun _ => hX.key (by omega), fun _ => hX.val (by omega), fun q => by simp at q, fun _ => hX.link (by omega), fun n hn q => hX.fresh n hn fun _ => q (show 3 ≤ 6 by decide)⟩, ⟨rfl, .inl ⟨by omega, rfl⟩, fun _ => by show 3 ≤ 6; decide⟩⟩
  · rw [st6 k s x hx1, stepL_ne L (by omega)]
    have ht := hX.thn6 hx1
    by_cases hz : (s.keys (x.thn x.level)).cmp x.e.k < 0
    · rw [if_pos hz, kept_of (by show (5 : Nat) ≠ 0; decide), gain_op (by show (5 : Nat) ≠ 0; decide), List.append_nil]
      refine h.quiet b hx (Int.le_refl _) (fun _ _ => ⟨rfl, rfl⟩) (fun _ _ => ⟨rfl, rfl, fun _ => rfl⟩) (hq _ fun _ _ => rfl) (fun y q => ?_) (fun q => by cases q)
      cases q
      refine ⟨⟨fun _ j q q2 => ?_, fun _ => hX.thn_ok (by omega), fun q => by simp at q, fun q => by simp at q, fun q => by simp at q, fun _ => hX.key (by omega), fun _ => hX.val (by omega), fun q => by simp at q, fun _ => hX.link (by omega), fun n hn q => hX.fresh n hn fun _ => q (show 3 ≤ 5 by decide)⟩, ⟨rfl, .inl ⟨by omega, rfl⟩, fun _ => by show 3 ≤ 5; decide⟩⟩
      show AtOk s L x.e.k j (upd x.at_ x.level (x.thn x.level) j)
      unfold upd
      by_cases hj : j = x.level
      · rw [if_pos hj, hj]
        exact .inr ⟨ht, (IK.cmp_lt _ _).1 hz⟩
      · rw [if_neg hj]
        exact hX.at_ok (by omega) j q q2
    · rw [if_neg hz, kept_of (down_ne _), gain_op (down_ne _), List.append_nil]
      refine h.quiet b hx (Int.le_refl _) (fun _ _ => ⟨rfl, rfl⟩) (fun _ _ => ⟨rfl, rfl, fun _ => rfl⟩) (hq _ fun _ _ => rfl) (fun y q => ?_) (fun q => by cases q)
      cases q
      refine ⟨XS.down (h.note _) ?_ h6 (.inr ⟨ht, ?_⟩), Nx.down _ (by omega) rfl rfl⟩
      · exact ⟨fun _ => hX.at_ok (by omega), fun _ => hX.thn_ok (by omega), fun q => by simp at q, fun q => by simp at q, fun q => by simp at q, fun _ => hX.key (by omega), fun _ => hX.val (by omega), fun q => by simp at q, fun _ => hX.link (by omega), fun n hn q => hX.fresh n hn fun _ => q (show 3 ≤ 5 by decide)⟩
      · have hne : x.thn x.level ≠ x.node := fun e => by
          rw [e] at ht
          have := (hX.link (by omega) x.level h6).1 ht
          have := lk_le (x := x)
          omega
        rcases IK.lt_tri (s.keys (x.thn x.level)) x.e.k with q | q | q
        · exact absurd ((IK.cmp_lt _ _).2 q) hz
        · exact absurd q (hX.fresh _ (h.sub0 _ h6 _ ht) fun _ => hne)
        · exact q
  · rw [st7 k s x hx1, stepL_ne L (by omega), kept_of (by show (8 : Nat) ≠ 0; decide), gain_op (by show (8 : Nat) ≠ 0; decide), List.append_nil]
    have hnd := bx.node (by omega)
    have hlk : lk x = x.level := by
      unfold lk
      by_cases ha : x.again = true
      · rw [if_pos ha]
      · rw [if_neg ha, bx.first hx1 (by simpa using ha)]
    have hnot : x.node ∉ L x.level := fun q => by have := (hX.link (by omega) _ h6).1 q; omega
    refine h.quiet b hx (Int.le_refl _) (fun _ _ => ⟨rfl, rfl⟩) (fun m hm => ⟨rfl, rfl, fun l => link_ne _ _ fun q => hm (by omega) q.1⟩) (fun l hl => ?_) (fun y q => ?_) (fun q => by cases q)
    · refine (h.chain l hl).congr (link_ne (s.note _) _ fun q => by have := q.1; omega) fun m hm => link_ne (s.note _) _ fun q => hnot ?_
      rw [← q.1, ← q.2]; exact hm
    · cases q
      refine ⟨⟨fun _ => hX.at_ok (by omega), fun _ => hX.thn_ok (by omega), fun q => by simp at q, fun _ => hX.thn7 (by omega), fun q => by simp at q, fun _ => hX.key (by omega), fun _ => hX.val (by omega), fun _ => link_self _ _ _ _, fun _ l hl => ?_, fun n hn q => hX.fresh n hn fun _ => q (show 3 ≤ 8 by decide)⟩, ⟨rfl, .inl ⟨by omega, rfl⟩, fun _ => by show 3 ≤ 8; decide⟩⟩
      show x.node ∈ L l ↔ l < lk ({ x with again := true, op := 8 } : Ins)
      have : lk ({ x with again := true, op := 8 } : Ins) = x.level := by unfold lk; rw [if_pos rfl]
      rw [this, ← hlk]
      exact hX.link (by omega) l hl
  · have hag := bx.eight hx1
    rw [st8 k s x hx1]
    by_cases hz : s.next (x.at_ x.level) x.level = x.thn x.level
    · have hL : stepL s x L = fun l => if l = x.level then insAt (x.at_ l) x.node (L l) else L l := if_pos ⟨hx1, hz⟩
      rw [if_pos hz, decide_eq_true hz, hL]
      unfold swapped
      rw [if_pos rfl]
      by_cases hl : (x.level : Int) + 1 = x.height
      · rw [if_pos hl]
        refine h.linked b hx hx1 hz _ _ _ (.inl ⟨rfl, ?_, hl⟩)
        unfold gain
        rw [if_pos ⟨rfl, bx.err⟩]
      · rw [if_neg hl, kept_of (by show (7 : Nat) ≠ 0; decide), gain_op (by show (7 : Nat) ≠ 0; decide), List.append_nil]
        have := bx.low hag
        have := bx.h1
        exact h.linked b hx hx1 hz _ _ _ (.inr ⟨rfl, rfl, by omega⟩)
    · have hL : stepL s x L = L := if_neg fun q => hz q.2
      rw [if_neg hz, decide_eq_false hz, hL]
      unfold swapped
      rw [if_neg (by decide), kept_of (by show (5 : Nat) ≠ 0; decide), gain_op (by show (5 : Nat) ≠ 0; decide), List.append_nil]
      refine h.quiet b hx (Int.le_refl _) (fun _ _ => ⟨rfl, rfl⟩) (fun _ _ => ⟨rfl, rfl, fun _ => rfl⟩) (hq _ fun _ _ => rfl) (fun y q => ?_) (fun q => by cases q)
      cases q
      exact ⟨⟨fun _ => hX.at_ok (by omega), fun _ => hX.thn_ok (by omega), fun q => by simp at q, fun q => by simp at q, fun q => by simp at q, fun _ => hX.key (by omega), fun _ => hX.val (by omega), fun q => by simp at q, fun _ => hX.link (by omega), fun n hn q => hX.fresh n hn fun _ => q (show 3 ≤ 5 by decide)⟩, ⟨rfl, .inl ⟨by omega, rfl⟩, fun _ => by show 3 ≤ 5; decide⟩⟩
/-- An insert of a new key is begun. -/
theorem SInv.begin {s : Sk} {now : Nat → Option Ins} {L : Nat → List Int} {well : List Wn} (h : SInv s now L well) {i : Nat} (e : En) (height : Int) (hk : ∀ n, n ∈ L 0 → s.keys n ≠ e.k) (hk2 : ∀ j y, now j = some y → y.e.k ≠ e.k) (hi : now i = none) :
    SInv s (setN now i (some (ins0 i e height))) L well := by
  refine ⟨fun j y hj => ?_, h.chain, h.pos, h.sorted, h.sub, fun i' j y z hij hy hz q3 q4 => ?_, fun i' j y z hij hy hz => ?_, h.wl, fun j y hj q3 p hp => ?_, h.well_nd, fun n hm => ?_⟩
  · rcases setN_some hj with ⟨_, q⟩ | ⟨hne, q⟩
    · cases q
      exact ⟨fun q => by simp [ins0] at q, fun q => by simp [ins0] at q, fun q => by simp [ins0] at q, fun q => by simp [ins0] at q, fun _ _ => rfl, fun q => by simp [ins0] at q, fun q => by simp [ins0] at q, fun q => by simp [ins0] at q, fun q => by simp [ins0] at q, fun n hn _ => hk n hn⟩
    · exact h.x j y q
  · rcases setN_some hy with ⟨_, q⟩ | ⟨_, q⟩
    · cases q; simp [ins0] at q3
    · rcases setN_some hz with ⟨_, q'⟩ | ⟨_, q'⟩
      · cases q'; simp [ins0] at q4
      · exact h.apart i' j y z hij q q' q3 q4
  · rcases setN_some hy with ⟨e1, q⟩ | ⟨e1, q⟩ <;> rcases setN_some hz with ⟨e2, q'⟩ | ⟨e2, q'⟩
    · exact absurd (e1.trans e2.symm) hij
    · cases q; exact (hk2 j z q').symm
    · cases q'; exact hk2 i' y q
    · exact h.keys2 i' j y z hij q q'
  · rcases setN_some hj with ⟨_, q⟩ | ⟨_, q⟩
    · cases q; simp [ins0] at q3
    · exact h.well_ne j y q q3 p hp
  · rcases h.all n hm with q | ⟨j, y, hy, q3, q4⟩
    · exact .inl q
    · refine .inr ⟨j, y, ?_, q3, q4⟩
      rw [setN_ne _ _ (fun e => by rw [e, hi] at hy; cases hy)]
      exact hy
theorem SInv.more {s : Sk} {now : Nat → Option Ins} {L : Nat → List Int} {well : List Wn} (h : SInv s now L well) (t : List Acc) : SInv { s with trace := s.trace ++ t } now L well :=
  ⟨fun i x hx => { h.x i x hx with }, h.chain, h.pos, h.sorted, h.sub, h.apart, h.keys2, fun p hp => { h.wl p hp with }, h.well_ne, h.well_nd, h.all⟩
theorem SInv.init : SInv sk0 (fun _ => none) (fun _ => []) [] :=
  ⟨fun _ _ q => (by cases q), fun _ _ => rfl, fun _ _ _ q => (by cases q), fun _ _ => List.Pairwise.nil, fun _ _ _ q => (by cases q), fun _ _ _ _ _ q => (by cases q), fun _ _ _ _ _ q => (by cases q), fun _ q => (by cases q), fun _ _ q => (by cases q), List.Pairwise.nil, fun _ q => (by cases q)⟩
end Go.Proofs.Ytkpjfdhjkgdcbaa


namespace Go.Proofs.Ytkpjfdhjkgdcbaa
open Go.RowKit

theorem sumT_ge_one {f g : Nat → Nat} {i : Nat} : ∀ {T : Nat}, i < T → (∀ j, j < T → j ≠ i → f j ≤ g j) → sumT T f + g i ≤ sumT T g + f i
  | 0, h, _ => by omega
  | T + 1, h, hg => by
    rw [sumT, sumT]
    by_cases hi : i = T
    · subst hi
      have : sumT i f ≤ sumT i g := sumT_le fun j hj => hg j (by omega) (by omega)
      omega
    · have := sumT_ge_one (f := f) (g := g) (T := T) (i := i) (by omega) fun j hj hne => hg j (by omega) hne
      have := hg T (by omega) (by omega)
      omega
theorem Chain.lt {R : Int → Int → Prop} {f : Int → Int} {a : Int} : ∀ {L : List Int} {c : Int}, Chain f c L → (0 : Int) ∉ L → L.Pairwise R → a ∈ L → f a ≠ 0 → R a (f a)
  | [], _, _, _, _, h, _ => by cases h
  | b :: r, c, h, h0, hp, ha, hf => by
    have hpc := List.pairwise_cons.1 hp
    by_cases hb : b = a
    · subst hb
      rcases h.2.next (c := b) (.inl rfl) with q | q
      · exact absurd q hf
      · exact hpc.1 _ q
    · exact Chain.lt h.2 (fun q => h0 (List.mem_cons_of_mem _ q)) hpc.2 ((List.mem_cons.1 ha).resolve_left fun e => hb e.symm) hf
theorem countP_more {P Q : Int → Bool} : ∀ {L : List Int}, (∀ m, m ∈ L → P m = true → Q m = true) → L.countP P ≤ L.countP Q
  | [], _ => Nat.le_refl _
  | b :: r, h => by
    have := countP_more (P := P) (Q := Q) (L := r) fun m hm => h m (List.mem_cons_of_mem _ hm)
    rw [List.countP_cons, List.countP_cons]
    have hb := h b List.mem_cons_self
    cases hp : P b <;> cases hq : Q b <;> simp_all <;> omega
theorem countP_strict {P Q : Int → Bool} {t : Int} : ∀ {L : List Int}, (∀ m, m ∈ L → P m = true → Q m = true) → t ∈ L → Q t = true → P t = false → L.countP P + 1 ≤ L.countP Q
  | [], _, h, _, _ => by cases h
  | b :: r, h, ht, h1, h2 => by
    rw [List.countP_cons, List.countP_cons]
    by_cases hb : b = t
    · subst hb
      have := countP_more (P := P) (Q := Q) (L := r) fun m hm => h m (List.mem_cons_of_mem _ hm)
      rw [h1, h2]
      simp
      omega
    · have := countP_strict (P := P) (Q := Q) (t := t) (L := r) (fun m hm => h m (List.mem_cons_of_mem _ hm)) ((List.mem_cons.1 ht).resolve_left fun e => hb e.symm) h1 h2
      have hb := h b List.mem_cons_self
      cases hp : P b <;> cases hq : Q b <;> simp_all <;> omega
theorem nodup_len : ∀ (c : Nat) {L : List Int}, L.Nodup → (∀ m, m ∈ L → 1 ≤ m ∧ m ≤ (c : Int)) → L.length ≤ c
  | 0, [], _, _ => Nat.le_refl _
  | 0, b :: _, _, h => by have := h b List.mem_cons_self; omega
  | c + 1, L, hd, h => by
    have h1 := nodup_len c (L := L.erase ((c : Int) + 1)) (hd.erase _) fun m hm => by
      have h2 := (hd.mem_erase_iff).1 hm
      have := h m h2.2
      have := h2.1
      omega
    rw [List.length_erase] at h1
    split at h1 <;> omega

/-- How many nodes of a level do not come behind a node. -/
def cntL (s : Sk) (L : List Int) (a : Int) : Nat := if a = 0 then 0 else L.countP fun m => decide ((s.keys m).cmp (s.keys a) ≤ 0)
theorem cmp_le (a b : IK) : a.cmp b ≤ 0 ↔ a.lt b ∨ a = b := by
  rcases IK.lt_tri a b with q | q | q
  · have := (IK.cmp_lt a b).2 q
    exact ⟨fun _ => .inl q, fun _ => by omega⟩
  · rw [q, IK.cmp_self]
    exact ⟨fun _ => .inr rfl, fun _ => Int.le_refl _⟩
  · constructor
    · intro h
      by_cases h0 : a.cmp b = 0
      · exact .inr (IK.cmp_eq h0)
      · exact .inl ((IK.cmp_lt a b).1 (by omega))
    · rintro (h | h)
      · exact absurd h (IK.lt_asymm q)
      · rw [h] at q; exact absurd q (IK.lt_irrefl b)
theorem cntL_adv {s : Sk} {L : List Int} {a t : Int} (ha : a = 0 ∨ (s.keys a).lt (s.keys t)) (ht : t ∈ L) (ht0 : t ≠ 0) : cntL s L a + 1 ≤ cntL s L t := by
  unfold cntL
  rw [if_neg ht0]
  split
  · have : 0 < L.countP fun m => decide ((s.keys m).cmp (s.keys t) ≤ 0) := List.countP_pos_iff.2 ⟨t, ht, by rw [IK.cmp_self]; decide⟩
    omega
  · have hlt := ha.resolve_left (by assumption)
    refine countP_strict (t := t) (fun m _ q => ?_) ht (by rw [IK.cmp_self]; decide) (by rw [decide_eq_false_iff_not, cmp_le]; rintro (q | q); exact IK.lt_asymm hlt q; rw [q] at hlt; exact IK.lt_irrefl _ hlt)
    rw [decide_eq_true_iff, cmp_le] at q ⊢
    rcases q with q | q
    · exact .inl (IK.lt_trans q hlt)
    · exact .inl (by rw [q]; exact hlt)
theorem cntL_len (s : Sk) (L : List Int) (a : Int) : cntL s L a ≤ L.length := by
  unfold cntL
  split
  · exact Nat.zero_le _
  · exact List.countP_le_length
theorem cntL_mono {s s' : Sk} {L L' : List Int} {a : Int} (ha : a = 0 ∨ a ∈ L) (hk : ∀ m, m ∈ L → s'.keys m = s.keys m) (hc : ∀ P : Int → Bool, L.countP P ≤ L'.countP P) : cntL s L a ≤ cntL s' L' a := by
  unfold cntL
  split
  · exact Nat.le_refl _
  · have ha' := ha.resolve_left (by assumption)
    refine Nat.le_trans (Nat.le_of_eq ?_) (hc _)
    refine List.countP_congr fun m hm => ?_
    rw [hk m hm, hk a ha']
/-- What is left of an insert's steps, but for the nodes on its way. -/
def stageN (n : Nat) (a : Bool) (l : Nat) : Nat := match n with
  | 2 => 1
  | 3 => 2
  | 4 => 3
  | 5 => if a = true then 14 + 2 * l else 4 + 2 * (5 - l)
  | 6 => if a = true then 15 + 2 * l else 5 + 2 * (5 - l)
  | 7 => 16 + 2 * l
  | 8 => 17 + 2 * l
  | _ => 0
def stage (x : Ins) : Nat := stageN x.op x.again x.level
theorem stage_of {x : Ins} {n : Nat} (h : x.op = n) : stage x = stageN n x.again x.level := by unfold stage; rw [h]
def cntAt (s : Sk) (L : Nat → List Int) (x : Ins) (l : Nat) : Nat := if x.again = true ∨ x.level ≤ l then cntL s (L l) (x.at_ l) else 0
def upto (s : Sk) (L : Nat → List Int) (x : Ins) : Nat := stage x + 2 * sumT 6 (cntAt s L x)
def rel (x : Ins) (l : Nat) : Prop := 5 ≤ x.op ∧ (x.level < l ∨ (x.level = l ∧ 6 ≤ x.op))
instance (x : Ins) (l : Nat) : Decidable (rel x l) := inferInstanceAs (Decidable (_ ∧ _))
def staleAt (s : Sk) (x : Ins) (l : Nat) : Nat := if rel x l ∧ s.next (x.at_ l) l ≠ x.thn l then 1 else 0
def stale (s : Sk) (x : Ins) : Nat := sumT 6 (staleAt s x)
def earlyN (x : Ins) : Nat := if x.op ≤ 2 then 1 else 0
structure XP (s : Sk) (L : Nat → List Int) (x : Ins) : Prop where
  low : 5 ≤ x.op → ∀ l, l < 6 → (x.again = true ∨ x.level ≤ l) → x.at_ l = 0 ∨ x.at_ l ∈ L l
  asc : x.op = 6 → x.at_ x.level = 0 ∨ (s.keys (x.at_ x.level)).lt (s.keys (x.thn x.level))
/-- Does a step swap, and does it fail to? -/
def doneN (s : Sk) (x : Ins) : Nat := if x.op = 8 ∧ s.next (x.at_ x.level) x.level = x.thn x.level then 1 else 0
def failN (s : Sk) (x : Ins) : Nat := if x.op = 8 ∧ s.next (x.at_ x.level) x.level ≠ x.thn x.level then 1 else 0
/-- What a step leaves of the levels. -/
structure Grows (s s' : Sk) (L L' : Nat → List Int) : Prop where
  mem : ∀ l, l < 6 → ∀ m, m ∈ L l → m ∈ L' l ∧ s'.keys m = s.keys m
  cnt : ∀ l, l < 6 → ∀ P : Int → Bool, (L l).countP P ≤ (L' l).countP P
theorem step_grows {k : SkRef} {T : Nat} {s : Sk} {now : Nat → Option Ins} {L : Nat → List Int} {well : List Wn} (b : IB k T s now) (h : SInv s now L well) {i : Nat} {x : Ins} (hx : now i = some x) : Grows s (stepS k s x).1 L (stepL s x L) := by
  have bx := b.x i x hx
  have hX := h.x i x hx
  have hat : x.op = 8 → x.at_ x.level = 0 ∨ x.at_ x.level ∈ L x.level := fun q => (hX.at_ok (by omega) x.level (Nat.le_refl _) bx.lv).imp id (·.1)
  have hkeys : ∀ l, l < 6 → ∀ m, m ∈ L l → (stepS k s x).1.keys m = s.keys m := by
    intro l hl m hm
    have hop := bx.op0
    have hop8 := bx.op8
    have hcase : x.op = 1 ∨ x.op = 2 ∨ x.op = 3 ∨ x.op = 4 ∨ x.op = 5 ∨ x.op = 6 ∨ x.op = 7 ∨ x.op = 8 := by omega
    rcases hcase with hx1 | hx1 | hx1 | hx1 | hx1 | hx1 | hx1 | hx1
    · rw [st1 k s x hx1]; rfl
    · rw [st2 k s x hx1]; rfl
    · rw [st3 k s x hx1]
      refine if_neg fun e => ?_
      have hl0 : lk x = 0 := by unfold lk; rw [if_neg (by rw [bx.early (by omega)]; decide)]
      rw [e] at hm
      have := (hX.link (by omega) l hl).1 hm
      omega
    · rw [st4 k s x hx1]; rfl
    · rw [st5 k s x hx1]; rfl
    · rw [st6 k s x hx1]; rfl
    · rw [st7 k s x hx1]; rfl
    · rw [st8 k s x hx1]; dsimp only; split <;> rfl
  refine ⟨fun l hl m hm => ⟨?_, hkeys l hl m hm⟩, fun l hl P => ?_⟩
  · unfold stepL
    split
    · dsimp only
      split
      · rename_i hc hl2
        rw [hl2] at hm ⊢
        exact (mem_insAt (hat hc.1)).2 (.inr hm)
      · exact hm
    · exact hm
  · unfold stepL
    split
    · dsimp only
      split
      · rename_i hc hl2
        rw [hl2, (perm_insAt (hat hc.1)).countP_eq, List.countP_cons]
        omega
      · exact Nat.le_refl _
    · exact Nat.le_refl _
theorem step_next {k : SkRef} {T : Nat} {s : Sk} {now : Nat → Option Ins} (b : IB k T s now) {i : Nat} {x : Ins} (hx : now i = some x) (m : Int) (l : Nat) :
    (stepS k s x).1.next m l = s.next m l ∨ (x.op = 7 ∧ m = x.node ∧ l = x.level) ∨ (x.op = 8 ∧ s.next (x.at_ x.level) x.level = x.thn x.level ∧ m = x.at_ x.level ∧ l = x.level) := by
  have bx := b.x i x hx
  have hop := bx.op0
  have hop8 := bx.op8
  have hcase : x.op = 1 ∨ x.op = 2 ∨ x.op = 3 ∨ x.op = 4 ∨ x.op = 5 ∨ x.op = 6 ∨ x.op = 7 ∨ x.op = 8 := by omega
  rcases hcase with hx1 | hx1 | hx1 | hx1 | hx1 | hx1 | hx1 | hx1
  · rw [st1 k s x hx1]; exact .inl rfl
  · rw [st2 k s x hx1]; exact .inl rfl
  · rw [st3 k s x hx1]; exact .inl rfl
  · rw [st4 k s x hx1]; exact .inl rfl
  · rw [st5 k s x hx1]; exact .inl rfl
  · rw [st6 k s x hx1]; exact .inl rfl
  · rw [st7 k s x hx1]
    by_cases q : m = x.node ∧ l = x.level
    · exact .inr (.inl ⟨hx1, q⟩)
    · exact .inl (link_ne _ _ q)
  · rw [st8 k s x hx1]
    dsimp only
    split
    · rename_i hz
      by_cases q : m = x.at_ x.level ∧ l = x.level
      · exact .inr (.inr ⟨hx1, hz, q⟩)
      · exact .inl (link_ne _ _ q)
    · exact .inl rfl
theorem sumT_six {f g : Nat → Nat} {l : Nat} (hl : l < 6) (h : ∀ j, j < 6 → j ≠ l → g j ≤ f j) : sumT 6 g + f l ≤ sumT 6 f + g l := sumT_ge_one hl h

/-- What becomes of another one's counts. -/
theorem others_upto {s s' : Sk} {L L' : Nat → List Int} {y : Ins} (g : Grows s s' L L') (hp : XP s L y) (h0 : y.op ≤ 4 → ∀ j, y.at_ j = 0) : upto s L y ≤ upto s' L' y := by
  have : sumT 6 (cntAt s L y) ≤ sumT 6 (cntAt s' L' y) := by
    refine sumT_le fun l hl => ?_
    unfold cntAt
    split
    · rename_i hc
      refine cntL_mono ?_ (fun m hm => (g.mem l hl m hm).2) (g.cnt l hl)
      by_cases h5 : 5 ≤ y.op
      · exact hp.low h5 l hl hc
      · exact .inl (h0 (by omega) l)
    · exact Nat.le_refl _
  unfold upto
  omega
theorem others_xp {s s' : Sk} {L L' : Nat → List Int} {y : Ins} (g : Grows s s' L L') (hp : XP s L y) (hlv : y.level < 6) (h6 : y.op = 6 → y.thn y.level ∈ L y.level) : XP s' L' y := by
  refine ⟨fun q l hl hc => (hp.low q l hl hc).imp id fun q => (g.mem l hl _ q).1, fun q => ?_⟩
  have ha := hp.low (by omega) y.level hlv (.inr (Nat.le_refl _))
  rcases hp.asc q with q1 | q1
  · exact .inl q1
  · rcases ha with ha | ha
    · exact .inl ha
    · refine .inr ?_
      rw [(g.mem _ hlv _ ha).2, (g.mem _ hlv _ (h6 q)).2]
      exact q1
theorem others_stale {k : SkRef} {T : Nat} {s : Sk} {now : Nat → Option Ins} {L : Nat → List Int} {well : List Wn} (b : IB k T s now) (h : SInv s now L well) {i j : Nat} {x y : Ins} (hx : now i = some x) (hy : now j = some y) : stale (stepS k s x).1 y ≤ stale s y + doneN s x := by
  have bx := b.x i x hx
  have by_ := b.x j y hy
  have hX := h.x i x hx
  have hY := h.x j y hy
  have hsame : ∀ l, l < 6 → (doneN s x = 0 ∨ l ≠ x.level) → staleAt (stepS k s x).1 y l ≤ staleAt s y l := by
    intro l hl hc
    unfold staleAt
    by_cases hr : rel y l
    · rcases step_next b hx (y.at_ l) l with q | ⟨q1, q2, q3⟩ | ⟨q1, q2, q3, q4⟩
      · rw [q]; exact Nat.le_refl _
      · have ha := hY.at_ok hr.1 l (by rcases hr.2 with q | ⟨q, _⟩ <;> omega) hl
        rcases ha with ha | ⟨ha, _⟩
        · have := (bx.node (by omega)).1
          rw [ha] at q2; omega
        · rw [q2, q3] at ha
          have := (hX.link (by omega) x.level bx.lv).1 ha
          have := lk_le (x := x)
          omega
      · rcases hc with hc | hc
        · unfold doneN at hc
          rw [if_pos ⟨q1, q2⟩] at hc
          cases hc
        · exact absurd q4 hc
    · rw [if_neg fun q => hr q.1, if_neg fun q => hr q.1]
      exact Nat.le_refl _
  unfold stale
  by_cases hd : doneN s x = 0
  · rw [hd]
    exact sumT_le fun l hl => hsame l hl (.inl hd)
  · have hd1 : doneN s x = 1 := by unfold doneN at hd ⊢; split at hd <;> simp_all
    have := sumT_six bx.lv (f := staleAt s y) (g := staleAt (stepS k s x).1 y) fun l hl hne => hsame l hl (.inr hne)
    have h1 : staleAt (stepS k s x).1 y x.level ≤ 1 := by unfold staleAt; split <;> omega
    omega
end Go.Proofs.Ytkpjfdhjkgdcbaa


namespace Go.Proofs.Ytkpjfdhjkgdcbaa
open Go.RowKit

structure Own (s s' : Sk) (L L' : Nat → List Int) (x x' : Ins) (N : Nat) : Prop where
  xp : ∀ y, kept x' = some y → XP s' L' y
  early : s'.count + (ofN earlyN (kept x') : Nat) ≤ s.count + (earlyN x : Nat)
  swaps : lk x + doneN s x = ofN lk (kept x') + ((gain x').map fun p => p.h.toNat).sum
  fails : failN s x + ofN (stale s') (kept x') ≤ stale s x
  steps : upto s L x + 1 ≤ ofN (upto s' L') (kept x') + (if x'.op = 0 then 12 * N + 28 else 0) + 4 * failN s x
theorem doneN_ne {s : Sk} {x : Ins} (h : x.op ≠ 8) : doneN s x = 0 := if_neg fun q => h q.1
theorem failN_ne {s : Sk} {x : Ins} (h : x.op ≠ 8) : failN s x = 0 := if_neg fun q => h q.1
theorem upto_le {s : Sk} {L : Nat → List Int} {x : Ins} {N : Nat} (hL : ∀ l, l < 6 → (L l).length ≤ N) : upto s L x ≤ stage x + 12 * N := by
  have : sumT 6 (cntAt s L x) ≤ sumT 6 (fun _ => N) := sumT_le fun l hl => by
    unfold cntAt
    split
    · exact Nat.le_trans (cntL_len _ _ _) (hL l hl)
    · exact Nat.zero_le _
  rw [sumT_const] at this
  unfold upto
  omega
theorem upto_zero {s : Sk} {L : Nat → List Int} {x : Ins} (h : ∀ j, x.at_ j = 0) : upto s L x = stage x := by
  have : sumT 6 (cntAt s L x) = 0 := sumT_zero fun l _ => by
    unfold cntAt cntL
    rw [h l]
    simp
  unfold upto
  omega
theorem stale_zero {s : Sk} {x : Ins} (h : x.op < 5) : stale s x = 0 := sumT_zero fun l _ => if_neg fun q => by have := q.1.1; omega
/-- A level's way is found. -/
theorem down_own {s s' : Sk} {L : Nat → List Int} {x y : Ins} (hk : s'.keys = s.keys) (hnx : s'.next = s.next) (h6 : x.level < 6) (hy : y.level = x.level ∧ y.again = x.again) (ha : y.at_ = x.at_) (ht : ∀ j, x.level < j → y.thn j = x.thn j) (ht0 : s.next (x.at_ x.level) x.level = y.thn x.level ∨ (staleAt s x x.level = 1 ∧ y.thn = x.thn))
    (hrel : ∀ j, x.level < j → rel x j) (hp : ∀ l, l < 6 → (x.again = true ∨ x.level ≤ l) → x.at_ l = 0 ∨ x.at_ l ∈ L l) (hsub : ∀ l, l + 1 < 6 → ∀ n, n ∈ L (l + 1) → n ∈ L l) :
    XP s' L (down y) ∧ stale s' (down y) ≤ stale s x ∧ sumT 6 (cntAt s L x) ≤ sumT 6 (cntAt s' L (down y)) ∧ lk (down y) = lk x := by
  have hcl : ∀ (M : List Int) (a : Int), cntL s' M a = cntL s M a := fun M a => by unfold cntL; rw [hk]
  have hlk : lk (down y) = lk x := by rw [lk_down]; unfold lk; rw [hy.1, hy.2]
  refine ⟨?_, ?_, ?_, hlk⟩
  · unfold down
    split
    · exact ⟨fun _ l hl hc => by show y.at_ l = 0 ∨ y.at_ l ∈ L l; rw [ha]; exact hp l hl (by have hc : y.again = true ∨ y.level ≤ l := hc; rwa [hy.1, hy.2] at hc), fun q => by simp at q⟩
    · rename_i hno
      have hl0 : x.level ≠ 0 := fun e => hno (.inr (hy.1.trans e))
      have hag : ¬ x.again = true := fun e => hno (.inl (hy.2.trans e))
      refine ⟨fun _ l hl hc => ?_, fun q => by simp at q⟩
      show upd y.at_ (y.level - 1) (y.at_ y.level) l = 0 ∨ upd y.at_ (y.level - 1) (y.at_ y.level) l ∈ L l
      rw [ha, hy.1]
      unfold upd
      by_cases hl1 : l = x.level - 1
      · rw [if_pos hl1]
        rcases hp x.level h6 (.inr (Nat.le_refl _)) with q | q
        · exact .inl q
        · refine .inr ?_
          rw [hl1]
          exact hsub (x.level - 1) (by omega) _ (by rw [show x.level - 1 + 1 = x.level by omega]; exact q)
      · rw [if_neg hl1]
        refine hp l hl (.inr ?_)
        rcases hc with hc | hc
        · exact absurd (hy.2.symm.trans hc) hag
        · have : y.level - 1 ≤ l := hc
          rw [hy.1] at this
          omega
  · unfold stale
    refine sumT_le fun l hl => ?_
    have hat : (down y).at_ l = x.at_ l ∨ (l = x.level - 1 ∧ x.level ≠ 0 ∧ (down y).level = l ∧ (down y).op = 5) := by
      unfold down
      split
      · exact .inl (by show y.at_ l = _; rw [ha])
      · rename_i hno
        by_cases hl1 : l = x.level - 1
        · exact .inr ⟨hl1, fun e => hno (.inr (hy.1.trans e)), by show y.level - 1 = l; rw [hy.1, hl1], rfl⟩
        · refine .inl ?_
          show upd y.at_ (y.level - 1) (y.at_ y.level) l = x.at_ l
          unfold upd
          rw [if_neg (by rw [hy.1]; exact hl1), ha]
    have hthn : (down y).thn = y.thn := by unfold down; split <;> rfl
    have hlv : (down y).level = x.level ∨ ((down y).level = x.level - 1 ∧ (down y).op = 5 ∧ x.level ≠ 0) := by
      unfold down
      split
      · exact .inl hy.1
      · rename_i hno
        exact .inr ⟨by show y.level - 1 = _; rw [hy.1], rfl, fun e => hno (.inr (hy.1.trans e))⟩
    unfold staleAt
    by_cases hr : rel (down y) l ∧ s'.next ((down y).at_ l) l ≠ (down y).thn l
    · rw [if_pos hr]
      have hle : x.level ≤ l := by
        have h1 := hr.1.2
        rcases hlv with q | ⟨q1, q2, q3⟩
        · rw [q] at h1; omega
        · rw [q1, q2] at h1
          rcases h1 with h1 | ⟨_, h1⟩
          · omega
          · omega
      have hat' : (down y).at_ l = x.at_ l := by
        rcases hat with q | ⟨q1, q2, _⟩
        · exact q
        · omega
      have hne := hr.2
      rw [hat', hthn, hnx] at hne
      by_cases e : l = x.level
      · subst e
        rcases ht0 with q | ⟨q, _⟩
        · exact absurd q hne
        · unfold staleAt at q
          rw [q]
          exact Nat.le_refl _
      · rw [ht l (by omega)] at hne
        rw [if_pos ⟨hrel l (by omega), hne⟩]
        exact Nat.le_refl _
    · rw [if_neg hr]
      exact Nat.zero_le _
  · refine sumT_le fun l hl => ?_
    unfold cntAt
    by_cases hc : x.again = true ∨ x.level ≤ l
    · rw [if_pos hc]
      unfold down
      split
      · rw [if_pos (by show y.again = true ∨ y.level ≤ l; rwa [hy.1, hy.2])]
        show _ ≤ cntL s' (L l) (y.at_ l)
        rw [ha, hcl]
        exact Nat.le_refl _
      · rename_i hno
        have hag : ¬ x.again = true := fun e => hno (.inl (hy.2.trans e))
        have hl0 : x.level ≠ 0 := fun e => hno (.inr (hy.1.trans e))
        have hle := hc.resolve_left hag
        rw [if_pos (.inr (by show y.level - 1 ≤ l; rw [hy.1]; omega))]
        show _ ≤ cntL s' (L l) (upd y.at_ (y.level - 1) (y.at_ y.level) l)
        unfold upd
        rw [if_neg (by rw [hy.1]; omega), ha, hcl]
        exact Nat.le_refl _
    · rw [if_neg hc]
      exact Nat.zero_le _
theorem down_stage {y : Ins} {x : Ins} (hy : y.level = x.level ∧ y.again = x.again) (h6 : x.level < 6) (hop : x.op = 5 ∨ x.op = 6) : stage x + 1 ≤ stage (down y) := by
  have h1 : stage x ≤ if x.again = true then 15 + 2 * x.level else 5 + 2 * (5 - x.level) := by
    rcases hop with q | q
    · rw [stage_of q]
      show (if x.again = true then 14 + 2 * x.level else 4 + 2 * (5 - x.level)) ≤ _
      split <;> omega
    · rw [stage_of q]; exact Nat.le_refl _
  unfold down
  split
  · rename_i hc
    rw [show stage { y with op := 7 } = 16 + 2 * y.level from rfl, hy.1]
    rw [hy.1, hy.2] at hc
    split at h1
    · omega
    · have := hc.resolve_left (by assumption)
      omega
  · rename_i hc
    rw [hy.1, hy.2] at hc
    have ha : ¬ x.again = true := fun e => hc (.inl e)
    have hl : ¬ x.level = 0 := fun e => hc (.inr e)
    rw [if_neg ha] at h1
    have : stage ({ y with level := y.level - 1, at_ := upd y.at_ (y.level - 1) (y.at_ y.level), op := 5 } : Ins) = 4 + 2 * (5 - (y.level - 1)) := by
      show (if y.again = true then _ else _) = _
      rw [if_neg (by rw [hy.2]; exact ha)]
    rw [this, hy.1]
    omega

theorem own_step {k : SkRef} {T N : Nat} {s : Sk} {now : Nat → Option Ins} {L : Nat → List Int} {well : List Wn} (b : IB k T s now) (h : SInv s now L well) {i : Nat} {x : Ins} (hx : now i = some x) (hp : XP s L x) (hN : ∀ l, l < 6 → (L l).length ≤ N) :
    Own s (stepS k s x).1 L (stepL s x L) x (stepS k s x).2 N := by
  have bx := b.x i x hx
  have hX := h.x i x hx
  have hop := bx.op0
  have hop8 := bx.op8
  have h6 := bx.lv
  have g := step_grows b h hx
  have h0 : ∀ l, l < 6 → (0 : Int) ∉ L l := fun l hl q => by have := (h.pos l hl 0 q).1; omega
  have hcase : x.op = 1 ∨ x.op = 2 ∨ x.op = 3 ∨ x.op = 4 ∨ x.op = 5 ∨ x.op = 6 ∨ x.op = 7 ∨ x.op = 8 := by omega
  rcases hcase with hx1 | hx1 | hx1 | hx1 | hx1 | hx1 | hx1 | hx1
  · have hl0 : lk x = 0 := by unfold lk; rw [if_neg (by rw [bx.early (by omega)]; decide)]
    have hu : upto s L x = 0 := by rw [upto_zero (hX.at0 (by omega)), stage_of hx1]; rfl
    have he : earlyN x = 1 := by unfold earlyN; rw [if_pos (by omega)]
    rw [stepL_ne L (by omega)]
    refine ⟨fun y hy => ?_, ?_, ?_, ?_, ?_⟩ <;> (try rw [doneN_ne (by omega)]) <;> (try rw [failN_ne (by omega)]) <;> rw [st1 k s x hx1] <;> by_cases hfull : k.units < s.asked + needI x
    · rw [st1 k s x hx1] at hy; simp only [if_pos hfull] at hy; rw [ended_kept (by decide)] at hy; cases hy
    · rw [st1 k s x hx1] at hy; simp only [if_neg hfull] at hy; rw [ended_ok, kept_of (by show (2 : Nat) ≠ 0; decide)] at hy; cases hy
      exact ⟨fun q => by simp at q, fun q => by simp at q⟩
    · rw [if_pos hfull, ended_kept (by decide)]
      show s.count + ((0 : Nat) : Int) ≤ _
      omega
    · rw [if_neg hfull, ended_ok, kept_of (by show (2 : Nat) ≠ 0; decide), he]
      exact Int.le_refl _
    · rw [if_pos hfull, ended_kept (by decide), hl0]; rfl
    · rw [if_neg hfull, ended_ok, kept_of (by show (2 : Nat) ≠ 0; decide), gain_op (by show (2 : Nat) ≠ 0; decide), hl0]
      show 0 + 0 = lk { x with op := 2 } + 0
      have : lk ({ x with op := 2 } : Ins) = lk x := rfl
      rw [this, hl0]
    · rw [if_pos hfull, ended_kept (by decide)]; exact Nat.zero_le _
    · rw [if_neg hfull, ended_ok, kept_of (by show (2 : Nat) ≠ 0; decide)]
      show 0 + stale _ { x with op := 2 } ≤ _
      rw [stale_zero (show ({ x with op := 2 } : Ins).op < 5 by show 2 < 5; decide)]
      exact Nat.zero_le _
    · rw [if_pos hfull, ended_kept (by decide), hu, show (ended ({ x with op := 2 } : Ins) 13).op = 0 from rfl, if_pos rfl]
      show 0 + 1 ≤ 0 + (12 * N + 28) + 4 * 0
      omega
    · rw [if_neg hfull, ended_ok, kept_of (by show (2 : Nat) ≠ 0; decide), hu]
      show 0 + 1 ≤ upto _ L { x with op := 2 } + 0 + 4 * 0
      rw [upto_zero (x := { x with op := 2 }) (hX.at0 (by omega)), stage_of (x := { x with op := 2 }) rfl]
      exact Nat.le_refl _
  · have hl0 : lk x = 0 := by unfold lk; rw [if_neg (by rw [bx.early (by omega)]; decide)]
    have hu : upto s L x = 1 := by rw [upto_zero (hX.at0 (by omega)), stage_of hx1]; rfl
    have he : earlyN x = 1 := by unfold earlyN; rw [if_pos (by omega)]
    rw [stepL_ne L (by omega)]
    refine ⟨fun y hy => ?_, ?_, ?_, ?_, ?_⟩ <;> (try rw [doneN_ne (by omega)]) <;> (try rw [failN_ne (by omega)]) <;> (try rw [st2 k s x hx1, kept_of (by show (3 : Nat) ≠ 0; decide)])
    · rw [st2 k s x hx1, kept_of (by show (3 : Nat) ≠ 0; decide)] at hy; cases hy
      exact ⟨fun q => by simp at q, fun q => by simp at q⟩
    · show s.count + 1 + ((0 : Nat) : Int) ≤ _
      omega
    · rw [gain_op (by show (3 : Nat) ≠ 0; decide), hl0]
      show 0 + 0 = lk x + 0
      rw [hl0]
    · show 0 + stale _ { x with node := s.count + 1, op := 3 } ≤ _
      rw [stale_zero (by show 3 < 5; decide)]
      exact Nat.zero_le _
    · rw [hu]
      show 1 + 1 ≤ upto _ L { x with node := s.count + 1, op := 3 } + 0 + 4 * 0
      rw [upto_zero (x := { x with node := s.count + 1, op := 3 }) (hX.at0 (by omega)), stage_of (x := { x with node := s.count + 1, op := 3 }) rfl]
      exact Nat.le_refl _
  · have hl0 : lk x = 0 := by unfold lk; rw [if_neg (by rw [bx.early (by omega)]; decide)]
    have hu : upto s L x = 2 := by rw [upto_zero (hX.at0 (by omega)), stage_of hx1]; rfl
    rw [stepL_ne L (by omega)]
    refine ⟨fun y hy => ?_, ?_, ?_, ?_, ?_⟩ <;> (try rw [doneN_ne (by omega)]) <;> (try rw [failN_ne (by omega)]) <;> (try rw [st3 k s x hx1, kept_of (by show (4 : Nat) ≠ 0; decide)])
    · rw [st3 k s x hx1, kept_of (by show (4 : Nat) ≠ 0; decide)] at hy; cases hy
      exact ⟨fun q => by simp at q, fun q => by simp at q⟩
    · show s.count + ((0 : Nat) : Int) ≤ _
      omega
    · rw [gain_op (by show (4 : Nat) ≠ 0; decide), hl0]
      show 0 + 0 = lk x + 0
      rw [hl0]
    · show 0 + stale _ { x with op := 4 } ≤ _
      rw [stale_zero (by show 4 < 5; decide)]
      exact Nat.zero_le _
    · rw [hu]
      show 2 + 1 ≤ upto _ L { x with op := 4 } + 0 + 4 * 0
      rw [upto_zero (x := { x with op := 4 }) (hX.at0 (by omega)), stage_of (x := { x with op := 4 }) rfl]
      exact Nat.le_refl _
  · have hl0 : lk x = 0 := by unfold lk; rw [if_neg (by rw [bx.early (by omega)]; decide)]
    have hu : upto s L x = 3 := by rw [upto_zero (hX.at0 (by omega)), stage_of hx1]; rfl
    have hae := bx.early (by omega)
    rw [stepL_ne L (by omega)]
    refine ⟨fun y hy => ?_, ?_, ?_, ?_, ?_⟩ <;> (try rw [doneN_ne (by omega)]) <;> (try rw [failN_ne (by omega)]) <;> (try rw [st4 k s x hx1, kept_of (by show (5 : Nat) ≠ 0; decide)])
    · rw [st4 k s x hx1, kept_of (by show (5 : Nat) ≠ 0; decide)] at hy; cases hy
      exact ⟨fun _ l _ _ => .inl (hX.at0 (by omega) l), fun q => by simp at q⟩
    · show s.count + ((0 : Nat) : Int) ≤ _
      omega
    · rw [gain_op (by show (5 : Nat) ≠ 0; decide), hl0]
      show 0 + 0 = lk { x with level := 5, op := 5 } + 0
      unfold lk
      rw [if_neg (by show ¬ x.again = true; rw [hae]; decide)]
    · show 0 + stale _ { x with level := 5, op := 5 } ≤ _
      have : ∀ s', stale s' ({ x with level := 5, op := 5 } : Ins) = 0 := fun s' => sumT_zero fun l hl => if_neg fun q => by
        rcases q.1.2 with q | ⟨_, q⟩
        · have : 5 < l := q; omega
        · have : 6 ≤ 5 := q; omega
      rw [this]
      exact Nat.zero_le _
    · rw [hu]
      show 3 + 1 ≤ upto _ L { x with level := 5, op := 5 } + 0 + 4 * 0
      rw [upto_zero (x := { x with level := 5, op := 5 }) (hX.at0 (by omega)), stage_of (x := { x with level := 5, op := 5 }) rfl]
      show 3 + 1 ≤ (if x.again = true then _ else _) + 0 + 4 * 0
      rw [if_neg (by rw [hae]; decide)]
      exact Nat.le_refl _
  · have hat := hX.at_ok (by omega) x.level (Nat.le_refl _) h6
    have hlow := hp.low (by omega)
    have hrel : ∀ j, x.level < j → rel x j := fun j hj => ⟨by omega, .inl hj⟩
    have he : earlyN x = 0 := by unfold earlyN; rw [if_neg (by omega)]
    have hthn : ∀ v, ∀ j, x.level < j → upd x.thn x.level v j = x.thn j := fun v j hj => by unfold upd; rw [if_neg (by omega)]
    have hth0 : upd x.thn x.level (s.next (x.at_ x.level) x.level) x.level = s.next (x.at_ x.level) x.level := by unfold upd; rw [if_pos rfl]
    rw [stepL_ne L (by omega)]
    by_cases hz : s.next (x.at_ x.level) x.level = 0
    · obtain ⟨y, hy⟩ : ∃ y, ({ x with thn := upd x.thn x.level (s.next (x.at_ x.level) x.level), op := 6 } : Ins) = y := ⟨_, rfl⟩
      have e5 : (stepS k s x) = (s.note ⟨x.task, 1, cellI k (x.at_ x.level) x.level⟩, down y) := by rw [st5 k s x hx1, if_pos hz, hy]
      obtain ⟨d1, d2, d3, d4⟩ := down_own (s := s) (s' := s.note ⟨x.task, 1, cellI k (x.at_ x.level) x.level⟩) (L := L) (x := x) (y := y) rfl rfl h6 (by rw [← hy]; exact ⟨rfl, rfl⟩) (by rw [← hy]) (fun j hj => by rw [← hy]; exact hthn _ j hj) (.inl (by rw [← hy]; exact hth0.symm)) hrel hlow h.sub
      have hst := down_stage (y := y) (x := x) (by rw [← hy]; exact ⟨rfl, rfl⟩) h6 (.inl hx1)
      rw [e5]
      show Own s (s.note ⟨x.task, 1, cellI k (x.at_ x.level) x.level⟩) L L x (down y) N
      have hke : kept (down y) = some (down y) := kept_of (down_ne _)
      refine ⟨fun z hz => ?_, ?_, ?_, ?_, ?_⟩ <;> (try rw [doneN_ne (by omega)]) <;> (try rw [failN_ne (by omega)]) <;> (try rw [hke])
      · rw [hke] at hz; cases hz; exact d1
      · have : earlyN (down y) = 0 := by unfold down; split <;> rfl
        show s.count + ((earlyN (down y) : Nat) : Int) ≤ _
        rw [this]; omega
      · rw [gain_op (down_ne _)]
        show lk x + 0 = lk (down y) + 0
        rw [d4]
      · show 0 + stale _ (down y) ≤ _
        omega
      · rw [if_neg (down_ne _)]
        show upto s L x + 1 ≤ upto _ L (down y) + 0 + 4 * 0
        unfold upto
        omega
    · obtain ⟨y, hy⟩ : ∃ y, ({ x with thn := upd x.thn x.level (s.next (x.at_ x.level) x.level), op := 6 } : Ins) = y := ⟨_, rfl⟩
      have e5 : (stepS k s x) = (s.note ⟨x.task, 1, cellI k (x.at_ x.level) x.level⟩, y) := by rw [st5 k s x hx1, if_neg hz, hy]
      have hyo : y.op = 6 := by rw [← hy]
      have hyn : ¬ y.op = 0 := by omega
      have hke : kept y = some y := kept_of (by omega)
      rw [e5]
      show Own s (s.note ⟨x.task, 1, cellI k (x.at_ x.level) x.level⟩) L L x y N
      refine ⟨fun z hz' => ?_, ?_, ?_, ?_, ?_⟩ <;> (try rw [doneN_ne (by omega)]) <;> (try rw [failN_ne (by omega)]) <;> (try rw [hke])
      · rw [hke] at hz'; cases hz'
        rw [← hy]
        refine ⟨fun _ => hlow, fun _ => ?_⟩
        show x.at_ x.level = 0 ∨ (s.keys (x.at_ x.level)).lt (s.keys (upd x.thn x.level _ x.level))
        rw [hth0]
        rcases hat with q | ⟨q, _⟩
        · exact .inl q
        · exact .inr (Chain.lt (R := fun c d => (s.keys c).lt (s.keys d)) (h.chain _ h6) (h0 _ h6) (h.sorted _ h6) q hz)
      · show s.count + ((earlyN y : Nat) : Int) ≤ _
        have : earlyN y = 0 := by unfold earlyN; rw [if_neg (by omega)]
        rw [this]; omega
      · rw [gain_op hyn]
        show lk x + 0 = lk y + 0
        rw [← hy]
        rfl
      · show 0 + stale _ y ≤ _
        rw [Nat.zero_add]
        unfold stale
        refine sumT_le fun l hl => ?_
        unfold staleAt
        by_cases hr : rel y l ∧ s.next (y.at_ l) l ≠ y.thn l
        · have e1 : y.at_ = x.at_ := by rw [← hy]
          have e2 : y.level = x.level := by rw [← hy]
          have e3 : y.thn = upd x.thn x.level (s.next (x.at_ x.level) x.level) := by rw [← hy]
          have hne := hr.2
          rw [e1, e3] at hne
          by_cases e : l = x.level
          · rw [e, hth0] at hne
            exact absurd rfl hne
          · have hlt : x.level < l := by rcases hr.1.2 with q | ⟨q, _⟩ <;> omega
            rw [hthn _ l hlt] at hne
            rw [if_pos (show rel x l ∧ _ from ⟨hrel l hlt, hne⟩)]
            split <;> omega
        · have : ¬ (rel y l ∧ (s.note ⟨x.task, 1, cellI k (x.at_ x.level) x.level⟩).next (y.at_ l) l ≠ y.thn l) := hr
          rw [if_neg this]
          exact Nat.zero_le _
      · rw [if_neg hyn]
        show upto s L x + 1 ≤ upto _ L y + 0 + 4 * 0
        have e1 : sumT 6 (cntAt (s.note ⟨x.task, 1, cellI k (x.at_ x.level) x.level⟩) L y) = sumT 6 (cntAt s L x) := by rw [← hy]; rfl
        have e2 : stage x + 1 ≤ stage y := by
          rw [stage_of hx1, stage_of hyo, show y.again = x.again by rw [← hy], show y.level = x.level by rw [← hy]]
          show (if x.again = true then 14 + 2 * x.level else 4 + 2 * (5 - x.level)) + 1 ≤ (if x.again = true then 15 + 2 * x.level else 5 + 2 * (5 - x.level))
          split <;> omega
        unfold upto
        omega
  · have hlow := hp.low (by omega)
    have hrel : ∀ j, x.level < j → rel x j := fun j hj => ⟨by omega, .inl hj⟩
    have he : earlyN x = 0 := by unfold earlyN; rw [if_neg (by omega)]
    have ht := hX.thn6 hx1
    rw [stepL_ne L (by omega)]
    by_cases hz : (s.keys (x.thn x.level)).cmp x.e.k < 0
    · obtain ⟨y, hy⟩ : ∃ y, ({ x with at_ := upd x.at_ x.level (x.thn x.level), op := 5 } : Ins) = y := ⟨_, rfl⟩
      have e5 : (stepS k s x) = (s.note ⟨x.task, 6, placeI k (x.thn x.level)⟩, y) := by rw [st6 k s x hx1, if_pos hz, hy]
      have hyo : y.op = 5 := by rw [← hy]
      have hyn : ¬ y.op = 0 := by omega
      have hke : kept y = some y := kept_of (by omega)
      rw [e5]
      show Own s (s.note ⟨x.task, 6, placeI k (x.thn x.level)⟩) L L x y N
      refine ⟨fun z hz' => ?_, ?_, ?_, ?_, ?_⟩ <;> (try rw [doneN_ne (by omega)]) <;> (try rw [failN_ne (by omega)]) <;> (try rw [hke])
      · rw [hke] at hz'; cases hz'
        rw [← hy]
        refine ⟨fun _ l hl hc => ?_, fun q => by simp at q⟩
        show upd x.at_ x.level (x.thn x.level) l = 0 ∨ upd x.at_ x.level (x.thn x.level) l ∈ L l
        unfold upd
        by_cases e : l = x.level
        · rw [if_pos e, e]; exact .inr ht
        · rw [if_neg e]; exact hlow l hl hc
      · show s.count + ((earlyN y : Nat) : Int) ≤ _
        have : earlyN y = 0 := by unfold earlyN; rw [if_neg (by omega)]
        rw [this]; omega
      · rw [gain_op hyn]
        show lk x + 0 = lk y + 0
        rw [← hy]
        rfl
      · show 0 + stale _ y ≤ _
        rw [Nat.zero_add]
        unfold stale
        refine sumT_le fun l hl => ?_
        unfold staleAt
        by_cases hr : rel y l ∧ s.next (y.at_ l) l ≠ y.thn l
        · have e2 : y.level = x.level := by rw [← hy]
          have hlt : x.level < l := by rcases hr.1.2 with q | ⟨_, q⟩ <;> omega
          have hne := hr.2
          have e1 : y.at_ l = x.at_ l := by rw [← hy]; show upd x.at_ x.level (x.thn x.level) l = _; unfold upd; rw [if_neg (by omega)]
          have e3 : y.thn = x.thn := by rw [← hy]
          rw [e1, e3] at hne
          rw [if_pos (show rel x l ∧ _ from ⟨hrel l hlt, hne⟩)]
          split <;> omega
        · have : ¬ (rel y l ∧ (s.note ⟨x.task, 6, placeI k (x.thn x.level)⟩).next (y.at_ l) l ≠ y.thn l) := hr
          rw [if_neg this]
          exact Nat.zero_le _
      · rw [if_neg hyn]
        show upto s L x + 1 ≤ upto _ L y + 0 + 4 * 0
        have e1 : sumT 6 (cntAt s L x) + cntAt s L y x.level ≤ sumT 6 (cntAt s L y) + cntAt s L x x.level := by
          refine sumT_ge_one h6 fun l hl hne => ?_
          unfold cntAt
          rw [show y.again = x.again by rw [← hy], show y.level = x.level by rw [← hy], show y.at_ l = x.at_ l by rw [← hy]; show upd x.at_ x.level (x.thn x.level) l = _; unfold upd; rw [if_neg hne]]
          exact Nat.le_refl _
        have e3 : cntAt s L x x.level + 1 ≤ cntAt s L y x.level := by
          unfold cntAt
          rw [if_pos (.inr (Nat.le_refl _)), if_pos (.inr (by rw [← hy]; exact Nat.le_refl _))]
          rw [show y.at_ x.level = x.thn x.level by rw [← hy]; show upd x.at_ x.level (x.thn x.level) x.level = _; unfold upd; rw [if_pos rfl]]
          exact cntL_adv (hp.asc hx1) ht (fun e => h0 _ h6 (by rw [← e]; exact ht))
        have e4 : sumT 6 (cntAt (s.note ⟨x.task, 6, placeI k (x.thn x.level)⟩) L y) = sumT 6 (cntAt s L y) := rfl
        have e2 : stage x ≤ stage y + 1 := by
          rw [stage_of hx1, stage_of hyo, show y.again = x.again by rw [← hy], show y.level = x.level by rw [← hy]]
          show (if x.again = true then 15 + 2 * x.level else 5 + 2 * (5 - x.level)) ≤ (if x.again = true then 14 + 2 * x.level else 4 + 2 * (5 - x.level)) + 1
          split <;> omega
        unfold upto
        omega
    · have e5 : (stepS k s x) = (s.note ⟨x.task, 6, placeI k (x.thn x.level)⟩, down x) := by rw [st6 k s x hx1, if_neg hz]
      have hke : kept (down x) = some (down x) := kept_of (down_ne _)
      have hdown : XP (s.note ⟨x.task, 6, placeI k (x.thn x.level)⟩) L (down x) ∧ stale (s.note ⟨x.task, 6, placeI k (x.thn x.level)⟩) (down x) ≤ stale s x ∧ sumT 6 (cntAt s L x) ≤ sumT 6 (cntAt (s.note ⟨x.task, 6, placeI k (x.thn x.level)⟩) L (down x)) ∧ lk (down x) = lk x := by
        refine down_own (s := s) (L := L) (x := x) (y := x) rfl rfl h6 ⟨rfl, rfl⟩ rfl (fun j hj => rfl) ?_ hrel hlow h.sub
        by_cases e : s.next (x.at_ x.level) x.level = x.thn x.level
        · exact .inl e
        · exact .inr ⟨if_pos ⟨⟨by omega, .inr ⟨rfl, by omega⟩⟩, e⟩, rfl⟩
      obtain ⟨d1, d2, d3, d4⟩ := hdown
      have hst := down_stage (y := x) (x := x) ⟨rfl, rfl⟩ h6 (.inr hx1)
      rw [e5]
      show Own s (s.note ⟨x.task, 6, placeI k (x.thn x.level)⟩) L L x (down x) N
      refine ⟨fun z hz => ?_, ?_, ?_, ?_, ?_⟩ <;> (try rw [doneN_ne (by omega)]) <;> (try rw [failN_ne (by omega)]) <;> (try rw [hke])
      · rw [hke] at hz; cases hz; exact d1
      · have : earlyN (down x) = 0 := by unfold down; split <;> rfl
        show s.count + ((earlyN (down x) : Nat) : Int) ≤ _
        rw [this]; omega
      · rw [gain_op (down_ne _)]
        show lk x + 0 = lk (down x) + 0
        rw [d4]
      · show 0 + stale _ (down x) ≤ _
        omega
      · rw [if_neg (down_ne _)]
        show upto s L x + 1 ≤ upto _ L (down x) + 0 + 4 * 0
        unfold upto
        omega
  · have hlow := hp.low (by omega)
    have he : earlyN x = 0 := by unfold earlyN; rw [if_neg (by omega)]
    have hnd := bx.node (by omega)
    have hlk : lk x = x.level := by
      unfold lk
      by_cases ha : x.again = true
      · rw [if_pos ha]
      · rw [if_neg ha, bx.first hx1 (by simpa using ha)]
    have hall : ∀ l, x.again = true ∨ x.level ≤ l := fun l => by
      by_cases ha : x.again = true
      · exact .inl ha
      · exact .inr (by rw [bx.first hx1 (by simpa using ha)]; exact Nat.zero_le _)
    have hnot : x.node ∉ L x.level := fun q => by have := (hX.link (by omega) _ h6).1 q; omega
    rw [stepL_ne L (by omega)]
    refine ⟨fun z hz' => ?_, ?_, ?_, ?_, ?_⟩ <;> (try rw [doneN_ne (by omega)]) <;> (try rw [failN_ne (by omega)]) <;> (try rw [st7 k s x hx1, kept_of (by show (8 : Nat) ≠ 0; decide)])
    · rw [st7 k s x hx1, kept_of (by show (8 : Nat) ≠ 0; decide)] at hz'; cases hz'
      exact ⟨fun _ l hl _ => hlow l hl (hall l), fun q => by simp at q⟩
    · show s.count + ((0 : Nat) : Int) ≤ _
      omega
    · rw [gain_op (by show (8 : Nat) ≠ 0; decide), hlk]
      show x.level + 0 = lk { x with again := true, op := 8 } + 0
      unfold lk
      rw [if_pos rfl]
    · show 0 + stale _ { x with again := true, op := 8 } ≤ _
      rw [Nat.zero_add]
      unfold stale
      refine sumT_le fun l hl => ?_
      have hr : rel ({ x with again := true, op := 8 } : Ins) l ↔ rel x l := by
        unfold rel
        constructor
        · rintro ⟨_, q⟩; exact ⟨by omega, q.imp id fun q => ⟨q.1, by omega⟩⟩
        · rintro ⟨_, q⟩; exact ⟨(show 5 ≤ 8 by decide), q.imp id fun q => ⟨q.1, (show 6 ≤ 8 by decide)⟩⟩
      have hnx : rel x l → ((s.note ⟨x.task, 2, cellI k x.node x.level⟩).link x.node x.level (x.thn x.level)).next (x.at_ l) l = s.next (x.at_ l) l := fun hr => by
        refine link_ne _ _ fun q => ?_
        have := hX.at_ok (by omega) l (by rcases hr.2 with q | ⟨q, _⟩ <;> omega) hl
        rcases this with e | ⟨e, _⟩
        · rw [q.1] at e; omega
        · rw [q.1, q.2] at e; exact hnot e
      unfold staleAt
      by_cases hc : rel ({ x with again := true, op := 8 } : Ins) l ∧ ((s.note ⟨x.task, 2, cellI k x.node x.level⟩).link x.node x.level (x.thn x.level)).next (x.at_ l) l ≠ x.thn l
      · have hr2 := hr.1 hc.1
        have hne := hc.2
        rw [hnx hr2] at hne
        rw [if_pos (show rel x l ∧ _ from ⟨hr2, hne⟩)]
        split <;> omega
      · have : (if rel ({ x with again := true, op := 8 } : Ins) l ∧ ((s.note ⟨x.task, 2, cellI k x.node x.level⟩).link x.node x.level (x.thn x.level)).next (({ x with again := true, op := 8 } : Ins).at_ l) l ≠ ({ x with again := true, op := 8 } : Ins).thn l then 1 else 0) = 0 := if_neg hc
        rw [this]
        exact Nat.zero_le _
    · show upto s L x + 1 ≤ upto ((s.note ⟨x.task, 2, cellI k x.node x.level⟩).link x.node x.level (x.thn x.level)) L { x with again := true, op := 8 } + 0 + 4 * 0
      have e1 : sumT 6 (cntAt s L x) ≤ sumT 6 (cntAt ((s.note ⟨x.task, 2, cellI k x.node x.level⟩).link x.node x.level (x.thn x.level)) L { x with again := true, op := 8 }) := by
        refine sumT_le fun l hl => ?_
        unfold cntAt
        rw [if_pos (hall l), if_pos (.inl rfl)]
        exact Nat.le_refl _
      have e2 : stage x + 1 ≤ stage ({ x with again := true, op := 8 } : Ins) := by
        rw [stage_of hx1, stage_of (x := { x with again := true, op := 8 }) rfl]
        show 16 + 2 * x.level + 1 ≤ 17 + 2 * x.level
        omega
      unfold upto
      omega
  · have hlow := hp.low (by omega)
    have hag := bx.eight hx1
    have he : earlyN x = 0 := by unfold earlyN; rw [if_neg (by omega)]
    have hlk : lk x = x.level := by unfold lk; rw [if_pos hag]
    have hu := upto_le (s := s) (x := x) hN
    have hsx : stage x = 17 + 2 * x.level := stage_of hx1
    by_cases hz : s.next (x.at_ x.level) x.level = x.thn x.level
    · have hd : doneN s x = 1 := if_pos ⟨hx1, hz⟩
      have hf : failN s x = 0 := if_neg fun q => q.2 hz
      by_cases hl : (x.level : Int) + 1 = x.height
      · have e5 : (stepS k s x).2 = { x with op := 0 } := by
          rw [st8 k s x hx1]
          show swapped x (decide _) = _
          unfold swapped
          rw [decide_eq_true hz, if_pos rfl, if_pos hl]
        have hc5 : (stepS k s x).1.count = s.count := by rw [st8 k s x hx1]; dsimp only; split <;> rfl
        rw [e5]
        refine ⟨fun z hz' => (by cases hz'), ?_, ?_, ?_, ?_⟩
        · rw [hc5]; show s.count + ((0 : Nat) : Int) ≤ _; omega
        · have : gain ({ x with op := 0 } : Ins) = [⟨x.node, x.e, x.height⟩] := if_pos ⟨rfl, bx.err⟩
          rw [this, hd, hlk]
          show x.level + 1 = 0 + (x.height.toNat + 0)
          omega
        · rw [hf]; exact Nat.zero_le _
        · rw [hf]
          show upto s L x + 1 ≤ 0 + (12 * N + 28) + 4 * 0
          omega
      · have e5 : (stepS k s x).2 = { x with level := x.level + 1, op := 7 } := by
          rw [st8 k s x hx1]
          show swapped x (decide _) = _
          unfold swapped
          rw [decide_eq_true hz, if_pos rfl, if_neg hl]
        have hc5 : (stepS k s x).1.count = s.count := by rw [st8 k s x hx1]; dsimp only; split <;> rfl
        have hke : kept ({ x with level := x.level + 1, op := 7 } : Ins) = some { x with level := x.level + 1, op := 7 } := kept_of (by show (7 : Nat) ≠ 0; decide)
        have hnx := step_next b hx
        obtain ⟨s', hs'⟩ : ∃ s', (stepS k s x).1 = s' := ⟨_, rfl⟩
        rw [hs'] at hc5 g hnx
        rw [e5, hs']
        refine ⟨fun z hz' => ?_, ?_, ?_, ?_, ?_⟩
        · rw [hke] at hz'; cases hz'
          exact ⟨fun _ l hl _ => (hlow l hl (.inl hag)).imp id fun q => (g.mem l hl _ q).1, fun q => by simp at q⟩
        · rw [hc5, hke]; show s.count + ((0 : Nat) : Int) ≤ _; omega
        · rw [hke, gain_op (by show (7 : Nat) ≠ 0; decide), hd, hlk]
          show x.level + 1 = lk { x with level := x.level + 1, op := 7 } + 0
          unfold lk
          rw [if_pos hag]
        · rw [hf, hke]
          show 0 + stale s' { x with level := x.level + 1, op := 7 } ≤ _
          rw [Nat.zero_add]
          unfold stale
          refine sumT_le fun l hl => ?_
          unfold staleAt
          by_cases hc : rel ({ x with level := x.level + 1, op := 7 } : Ins) l ∧ s'.next (x.at_ l) l ≠ x.thn l
          · have hlt : x.level < l := by
              rcases hc.1.2 with q | ⟨q, _⟩
              · have : x.level + 1 < l := q; omega
              · have : x.level + 1 = l := q; omega
            have hne := hc.2
            have e1 : s'.next (x.at_ l) l = s.next (x.at_ l) l := by
              rcases hnx (x.at_ l) l with q | ⟨q, _⟩ | ⟨_, _, _, q⟩
              · exact q
              · omega
              · omega
            rw [e1] at hne
            rw [if_pos (show rel x l ∧ _ from ⟨⟨by omega, .inl hlt⟩, hne⟩)]
            split <;> omega
          · have : (if rel ({ x with level := x.level + 1, op := 7 } : Ins) l ∧ s'.next (({ x with level := x.level + 1, op := 7 } : Ins).at_ l) l ≠ ({ x with level := x.level + 1, op := 7 } : Ins).thn l then 1 else 0) = 0 := if_neg hc
            rw [this]
            exact Nat.zero_le _
        · rw [hf, hke]
          show upto s L x + 1 ≤ upto s' (stepL s x L) { x with level := x.level + 1, op := 7 } + 0 + 4 * 0
          have e1 : sumT 6 (cntAt s L x) ≤ sumT 6 (cntAt s' (stepL s x L) { x with level := x.level + 1, op := 7 }) := by
            refine sumT_le fun l hl => ?_
            unfold cntAt
            rw [if_pos (.inl hag), if_pos (.inl hag)]
            exact cntL_mono (hlow l hl (.inl hag)) (fun m hm => (g.mem l hl m hm).2) (g.cnt l hl)
          have e2 : stage ({ x with level := x.level + 1, op := 7 } : Ins) = 16 + 2 * (x.level + 1) := rfl
          unfold upto
          omega
    · have hd : doneN s x = 0 := if_neg fun q => hz q.2
      have hf : failN s x = 1 := if_pos ⟨hx1, hz⟩
      have hL : stepL s x L = L := if_neg fun q => hz q.2
      have e5 : (stepS k s x) = (s.note ⟨x.task, 4, cellI k (x.at_ x.level) x.level⟩, { x with op := 5 }) := by
        rw [st8 k s x hx1, if_neg hz]
        unfold swapped
        rw [decide_eq_false hz, if_neg (by decide)]
      have hke : kept ({ x with op := 5 } : Ins) = some { x with op := 5 } := kept_of (by show (5 : Nat) ≠ 0; decide)
      rw [e5, hL]
      show Own s (s.note ⟨x.task, 4, cellI k (x.at_ x.level) x.level⟩) L L x { x with op := 5 } N
      refine ⟨fun z hz' => ?_, ?_, ?_, ?_, ?_⟩ <;> (try rw [hd]) <;> (try rw [hf]) <;> (try rw [hke])
      · rw [hke] at hz'; cases hz'
        exact ⟨fun _ => hlow, fun q => by simp at q⟩
      · show s.count + ((0 : Nat) : Int) ≤ _; omega
      · rw [gain_op (by show (5 : Nat) ≠ 0; decide), hlk]
        show x.level + 0 = lk { x with op := 5 } + 0
        unfold lk
        rw [if_pos hag]
      · show 1 + stale _ { x with op := 5 } ≤ _
        unfold stale
        have h1 : staleAt s x x.level = 1 := if_pos ⟨⟨by omega, .inr ⟨rfl, by omega⟩⟩, hz⟩
        have h2 : staleAt (s.note ⟨x.task, 4, cellI k (x.at_ x.level) x.level⟩) { x with op := 5 } x.level = 0 := if_neg fun q => by
          rcases q.1.2 with q | ⟨_, q⟩
          · exact absurd q (Nat.lt_irrefl _)
          · exact absurd q (show ¬ 6 ≤ 5 by decide)
        have := sumT_six h6 (f := staleAt s x) (g := staleAt (s.note ⟨x.task, 4, cellI k (x.at_ x.level) x.level⟩) { x with op := 5 }) fun l hl hne => by
          unfold staleAt
          by_cases hc : rel ({ x with op := 5 } : Ins) l ∧ s.next (x.at_ l) l ≠ x.thn l
          · have hlt : x.level < l := by
              rcases hc.1.2 with q | ⟨_, q⟩
              · exact q
              · exact absurd q (show ¬ 6 ≤ 5 by decide)
            rw [if_pos (show rel x l ∧ _ from ⟨⟨by omega, .inl hlt⟩, hc.2⟩)]
            split <;> omega
          · have : (if rel ({ x with op := 5 } : Ins) l ∧ (s.note ⟨x.task, 4, cellI k (x.at_ x.level) x.level⟩).next (({ x with op := 5 } : Ins).at_ l) l ≠ ({ x with op := 5 } : Ins).thn l then 1 else 0) = 0 := if_neg hc
            rw [this]
            exact Nat.zero_le _
        omega
      · show upto s L x + 1 ≤ upto _ L { x with op := 5 } + 0 + 4 * 1
        have e1 : sumT 6 (cntAt (s.note ⟨x.task, 4, cellI k (x.at_ x.level) x.level⟩) L { x with op := 5 }) = sumT 6 (cntAt s L x) := rfl
        have e2 : stage ({ x with op := 5 } : Ins) = 14 + 2 * x.level := by
          show (if x.again = true then _ else _) = _
          rw [if_pos hag]
        unfold upto
        omega
end Go.Proofs.Ytkpjfdhjkgdcbaa


namespace Go.Proofs.Ytkpjfdhjkgdcbaa
open Go.RowKit

structure RS where
  s : Sk
  now : Nat → Option Ins
  L : Nat → List Int
  well : List Wn
  begun : Nat
  ended : Nat
  steps : Nat
  fails : Nat
  swaps : Nat
def RS.step (k : SkRef) (r : RS) (i : Nat) (x : Ins) : RS :=
  { s := (stepS k r.s x).1, now := setN r.now i (kept (stepS k r.s x).2), L := stepL r.s x r.L, well := r.well ++ gain (stepS k r.s x).2, begun := r.begun, ended := r.ended + (if (stepS k r.s x).2.op = 0 then 1 else 0), steps := r.steps + 1, fails := r.fails + failN r.s x, swaps := r.swaps + doneN r.s x }
def RS.begin (r : RS) (i : Nat) (e : En) (h : Int) : RS := { r with now := setN r.now i (some (ins0 i e h)), begun := r.begun + 1 }
def RS.more (r : RS) (t : List Acc) : RS := { r with s := { r.s with trace := r.s.trace ++ t } }
def RS.init : RS := ⟨sk0, fun _ => none, fun _ => [], [], 0, 0, 0, 0, 0⟩
structure RInv (k : SkRef) (T N : Nat) (r : RS) : Prop where
  b : IB k T r.s r.now
  v : SInv r.s r.now r.L r.well
  n : r.begun ≤ N
  xp : ∀ i x, r.now i = some x → XP r.s r.L x
  cnt : r.s.count + (sumT T (fun i => ofN earlyN (r.now i)) : Nat) ≤ r.begun
  inflight : r.begun = r.ended + sumT T (fun i => ofN (fun _ => 1) (r.now i))
  swaps : r.swaps = (r.well.map fun p => p.h.toNat).sum + sumT T (fun i => ofN lk (r.now i))
  wellEnd : r.well.length ≤ r.ended
  fails : r.fails + sumT T (fun i => ofN (stale r.s) (r.now i)) ≤ r.swaps * (T - 1)
  steps : r.steps ≤ (12 * N + 28) * r.ended + sumT T (fun i => ofN (upto r.s r.L) (r.now i)) + 4 * r.fails
theorem RInv.len {k : SkRef} {T N : Nat} {r : RS} (h : RInv k T N r) : ∀ l, l < 6 → (r.L l).length ≤ N := fun l hl => by
  have hc := h.cnt
  have hn := h.n
  refine nodup_len N (h.v.nodup hl) fun m hm => ?_
  have := h.v.pos l hl m hm
  omega
theorem RInv.step {k : SkRef} {T N : Nat} {r : RS} (h : RInv k T N r) {i : Nat} {x : Ins} (hx : r.now i = some x) : RInv k T N (r.step k i x) := by
  have hi := h.b.tasks i x hx
  have o := own_step h.b h.v hx (h.xp i x hx) h.len
  have g := step_grows h.b h.v hx
  have bx := h.b.x i x hx
  have hnone : ∀ (φ : Ins → Nat), ofN φ (r.now i) = φ x := fun φ => by rw [hx]; rfl
  refine ⟨h.b.step hx, h.v.step h.b hx, h.n, fun j y hj => ?_, ?_, ?_, ?_, ?_, ?_, ?_⟩
  · rcases setN_some hj with ⟨_, q⟩ | ⟨_, q⟩
    · exact o.xp y q
    · exact others_xp g (h.xp j y q) (h.b.x j y q).lv (h.v.x j y q).thn6
  · have hs := sumT_setN earlyN r.now hi (kept (stepS k r.s x).2)
    rw [hnone] at hs
    have := h.cnt
    have := o.early
    show (stepS k r.s x).1.count + (sumT T (fun j => ofN earlyN (setN r.now i (kept (stepS k r.s x).2) j)) : Nat) ≤ r.begun
    omega
  · have hs := sumT_setN (fun _ => 1) r.now hi (kept (stepS k r.s x).2)
    rw [hnone] at hs
    have := h.inflight
    have e : ofN (fun _ => 1) (kept (stepS k r.s x).2) + (if (stepS k r.s x).2.op = 0 then 1 else 0) = 1 := by
      unfold kept
      split <;> simp_all [ofN]
    show r.begun = r.ended + (if (stepS k r.s x).2.op = 0 then 1 else 0) + sumT T (fun j => ofN (fun _ => 1) (setN r.now i (kept (stepS k r.s x).2) j))
    omega
  · have hs := sumT_setN lk r.now hi (kept (stepS k r.s x).2)
    rw [hnone] at hs
    have := h.swaps
    have := o.swaps
    show r.swaps + doneN r.s x = ((r.well ++ gain (stepS k r.s x).2).map fun p => p.h.toNat).sum + sumT T (fun j => ofN lk (setN r.now i (kept (stepS k r.s x).2) j))
    rw [List.map_append, List.sum_append]
    omega
  · have := h.wellEnd
    show (r.well ++ gain (stepS k r.s x).2).length ≤ r.ended + (if (stepS k r.s x).2.op = 0 then 1 else 0)
    rw [List.length_append]
    unfold gain
    split
    · rename_i hc
      rw [if_pos hc.1]
      simp only [List.length_cons, List.length_nil]
      omega
    · simp only [List.length_nil]
      omega
  · have hf := h.fails
    have hof := o.fails
    show r.fails + failN r.s x + sumT T (fun j => ofN (stale (stepS k r.s x).1) (setN r.now i (kept (stepS k r.s x).2) j)) ≤ (r.swaps + doneN r.s x) * (T - 1)
    by_cases hd : doneN r.s x = 0
    · have hs := sumT_ge_one (f := fun j => ofN (stale (stepS k r.s x).1) (setN r.now i (kept (stepS k r.s x).2) j)) (g := fun j => ofN (stale r.s) (r.now j)) hi fun j _ hj => by
        rw [setN_ne _ _ hj]
        cases hy : r.now j with
        | none => exact Nat.le_refl _
        | some y => have := others_stale h.b h.v hx hy; rw [hd] at this; exact this
      simp only [setN_self] at hs
      rw [hnone] at hs
      rw [hd, Nat.add_zero]
      omega
    · have hd1 : doneN r.s x = 1 := by unfold doneN at hd ⊢; split at hd <;> simp_all
      have hs := sumT_one_more (g := fun j => ofN (stale (stepS k r.s x).1) (setN r.now i (kept (stepS k r.s x).2) j)) (f := fun j => ofN (stale r.s) (r.now j)) hi fun j _ hj => by
        rw [setN_ne _ _ hj]
        cases hy : r.now j with
        | none => exact Nat.zero_le _
        | some y => have := others_stale h.b h.v hx hy; rw [hd1] at this; exact this
      simp only [setN_self] at hs
      rw [hnone] at hs
      rw [hd1, Nat.succ_mul]
      omega
  · have hst := h.steps
    have hos := o.steps
    have hs := sumT_ge_one (f := fun j => ofN (upto r.s r.L) (r.now j)) (g := fun j => ofN (upto (stepS k r.s x).1 (stepL r.s x r.L)) (setN r.now i (kept (stepS k r.s x).2) j)) hi fun j _ hj => by
      rw [setN_ne _ _ hj]
      cases hy : r.now j with
      | none => exact Nat.le_refl _
      | some y => exact others_upto g (h.xp j y hy) (h.v.x j y hy).at0
    simp only [setN_self] at hs
    rw [hnone] at hs
    show r.steps + 1 ≤ (12 * N + 28) * (r.ended + (if (stepS k r.s x).2.op = 0 then 1 else 0)) + sumT T (fun j => ofN (upto (stepS k r.s x).1 (stepL r.s x r.L)) (setN r.now i (kept (stepS k r.s x).2) j)) + 4 * (r.fails + failN r.s x)
    by_cases h0 : (stepS k r.s x).2.op = 0
    · rw [if_pos h0] at hos ⊢
      rw [Nat.mul_succ]
      omega
    · rw [if_neg h0] at hos ⊢
      simp only [Nat.add_zero] at hos ⊢
      omega
theorem RInv.begin {k : SkRef} {T N : Nat} {r : RS} (h : RInv k T N r) {i : Nat} (hi : i < T) (hT : T ≤ 64) (hx : r.now i = none) {e : En} (hr : e.right = true) (hw : e.k.Wf) {height : Int} (h0 : 1 ≤ height) (h1 : height ≤ 6)
    (hN : r.begun + 1 ≤ N) (hk : ∀ n, n ∈ r.L 0 → r.s.keys n ≠ e.k) (hk2 : ∀ j y, r.now j = some y → y.e.k ≠ e.k) : RInv k T N (r.begin i e height) := by
  have hnone : ∀ (φ : Ins → Nat), ofN φ (r.now i) = 0 := fun φ => by rw [hx]; rfl
  have hsum : ∀ φ : Ins → Nat, sumT T (fun j => ofN φ (setN r.now i (some (ins0 i e height)) j)) = sumT T (fun j => ofN φ (r.now j)) + φ (ins0 i e height) := fun φ => by
    have := sumT_setN φ r.now hi (some (ins0 i e height))
    rw [hnone] at this
    exact this
  have hst : stale r.s (ins0 i e height) = 0 := stale_zero (by show 1 < 5; decide)
  have hup : upto r.s r.L (ins0 i e height) = 0 := upto_zero fun _ => rfl
  refine ⟨h.b.begin hi hT hx hr hw h0 h1, h.v.begin e height hk hk2 hx, hN, fun j y hj => ?_, ?_, ?_, ?_, h.wellEnd, ?_, ?_⟩
  · rcases setN_some hj with ⟨_, q⟩ | ⟨_, q⟩
    · cases q
      exact ⟨fun q => by simp [ins0] at q, fun q => by simp [ins0] at q⟩
    · exact h.xp j y q
  · show r.s.count + (sumT T (fun j => ofN earlyN (setN r.now i (some (ins0 i e height)) j)) : Nat) ≤ ((r.begun + 1 : Nat) : Int)
    rw [hsum]
    have := h.cnt
    have : earlyN (ins0 i e height) = 1 := rfl
    omega
  · show r.begun + 1 = r.ended + sumT T (fun j => ofN (fun _ => 1) (setN r.now i (some (ins0 i e height)) j))
    rw [hsum]
    have := h.inflight
    omega
  · show r.swaps = _ + sumT T (fun j => ofN lk (setN r.now i (some (ins0 i e height)) j))
    rw [hsum]
    exact h.swaps
  · show r.fails + sumT T (fun j => ofN (stale r.s) (setN r.now i (some (ins0 i e height)) j)) ≤ r.swaps * (T - 1)
    rw [hsum, hst]
    exact h.fails
  · show r.steps ≤ (12 * N + 28) * r.ended + sumT T (fun j => ofN (upto r.s r.L) (setN r.now i (some (ins0 i e height)) j)) + 4 * r.fails
    rw [hsum, hup]
    exact h.steps
theorem RInv.more {k : SkRef} {T N : Nat} {r : RS} (h : RInv k T N r) (t : List Acc) : RInv k T N (r.more t) :=
  ⟨h.b.more t, h.v.more t, h.n, fun i x hx => { h.xp i x hx with }, h.cnt, h.inflight, h.swaps, h.wellEnd, h.fails, h.steps⟩
theorem RInv.init {k : SkRef} (T N : Nat) (h : 6 ≤ k.units) : RInv k T N RS.init := by
  have e : ∀ φ : Ins → Nat, sumT T (fun i => ofN φ (RS.init.now i)) = 0 := fun φ => sumT_zero fun _ _ => rfl
  exact ⟨IB.init T h, SInv.init, Nat.zero_le _, fun _ _ q => (by cases q), (by rw [e]; decide), (by rw [e]; rfl), (by rw [e]; rfl), Nat.le_refl _, (by rw [e]; exact Nat.zero_le _), (by rw [e]; exact Nat.zero_le _)⟩
/-- How many steps there are. -/
theorem RInv.bound {k : SkRef} {T N : Nat} {r : RS} (h : RInv k T N r) : r.swaps ≤ 6 * N ∧ r.fails ≤ r.swaps * (T - 1) ∧ r.steps ≤ (12 * N + 28) * N + 4 * (6 * N * (T - 1)) := by
  have h1 : sumT T (fun i => ofN lk (r.now i)) ≤ 6 * sumT T (fun i => ofN (fun _ => 1) (r.now i)) := by
    have : ∀ T, 6 * sumT T (fun i => ofN (fun _ => 1) (r.now i)) = sumT T (fun i => 6 * ofN (fun _ => 1) (r.now i)) := fun T => by
      induction T with
      | zero => rfl
      | succ T ih => rw [sumT, sumT, Nat.mul_add, ih]
    rw [this]
    refine sumT_le fun i _ => ?_
    cases hx : r.now i with
    | none => exact Nat.zero_le _
    | some x =>
      show lk x ≤ 6 * 1
      have := lk_le (x := x)
      have := (h.b.x i x hx).lv
      omega
  have h2 : sumT T (fun i => ofN (upto r.s r.L) (r.now i)) ≤ (12 * N + 28) * sumT T (fun i => ofN (fun _ => 1) (r.now i)) := by
    have : ∀ T, (12 * N + 28) * sumT T (fun i => ofN (fun _ => 1) (r.now i)) = sumT T (fun i => (12 * N + 28) * ofN (fun _ => 1) (r.now i)) := fun T => by
      induction T with
      | zero => rfl
      | succ T ih => rw [sumT, sumT, Nat.mul_add, ih]
    rw [this]
    refine sumT_le fun i _ => ?_
    cases hx : r.now i with
    | none => exact Nat.zero_le _
    | some x =>
      show upto r.s r.L x ≤ (12 * N + 28) * 1
      have := upto_le (s := r.s) (x := x) h.len
      have hl := (h.b.x i x hx).lv
      have : stage x ≤ 28 := by
        have h0 := (h.b.x i x hx).op0
        have h8 := (h.b.x i x hx).op8
        have hcase : x.op = 1 ∨ x.op = 2 ∨ x.op = 3 ∨ x.op = 4 ∨ x.op = 5 ∨ x.op = 6 ∨ x.op = 7 ∨ x.op = 8 := by omega
        rcases hcase with q | q | q | q | q | q | q | q <;> rw [stage_of q]
        · exact Nat.zero_le _
        · exact (show 1 ≤ 28 by decide)
        · exact (show 2 ≤ 28 by decide)
        · exact (show 3 ≤ 28 by decide)
        · show (if x.again = true then 14 + 2 * x.level else 4 + 2 * (5 - x.level)) ≤ 28
          split <;> omega
        · show (if x.again = true then 15 + 2 * x.level else 5 + 2 * (5 - x.level)) ≤ 28
          split <;> omega
        · show 16 + 2 * x.level ≤ 28; omega
        · show 17 + 2 * x.level ≤ 28; omega
      omega
  have h3 : ∀ l : List Wn, (∀ p, p ∈ l → p.h ≤ 6) → (l.map fun p => p.h.toNat).sum ≤ 6 * l.length := fun l => by
    induction l with
    | nil => intro _; exact Nat.zero_le _
    | cons a l ih =>
      intro q
      have := ih fun p hp => q p (List.mem_cons_of_mem _ hp)
      have := q a List.mem_cons_self
      simp only [List.map_cons, List.sum_cons, List.length_cons]
      omega
  have h4 := h3 r.well fun p hp => (h.v.wl p hp).h1
  have hi := h.inflight
  have hw := h.wellEnd
  have hs := h.swaps
  have hn := h.n
  have hf := h.fails
  have hst := h.steps
  have a1 : r.swaps ≤ 6 * N := by omega
  have a2 : r.fails ≤ r.swaps * (T - 1) := by omega
  refine ⟨a1, a2, ?_⟩
  have a3 : r.swaps * (T - 1) ≤ 6 * N * (T - 1) := Nat.mul_le_mul_right _ a1
  have a4 : (12 * N + 28) * r.ended + (12 * N + 28) * sumT T (fun i => ofN (fun _ => 1) (r.now i)) = (12 * N + 28) * r.begun := by rw [hi, Nat.mul_add]
  have a5 : (12 * N + 28) * r.begun ≤ (12 * N + 28) * N := Nat.mul_le_mul_left _ hn
  omega
end Go.Proofs.Ytkpjfdhjkgdcbaa


namespace Go.Proofs.Ytkpjfdhjkgdcbaa
open Go.RowKit

theorem stepsS_shift (k : SkRef) (p : Sk × Ins) : ∀ n, stepsS k (stepS k p.1 p.2) n = stepsS k p (n + 1)
  | 0 => rfl
  | n + 1 => by rw [stepsS, stepsS_shift k p n]; rfl
theorem Runs.cons {k : SkRef} {s : Sk} {x : Ins} {n : Nat} (h : Runs k (stepS k s x).1 (stepS k s x).2 n) (ok : StepOk k s x) (hr : s.trace.length < trMax) (hon : ¬ x.op = 0) (hf : x.err = 0) : Runs k s x (n + 1) := by
  have e : ∀ i, stepsS k (s, x) (i + 1) = stepsS k ((stepS k s x).1, (stepS k s x).2) i := fun i => (stepsS_shift k (s, x) i).symm
  refine ⟨fun i hi => ?_, fun i hi => ?_, fun i hi => ?_, fun i hi => ?_, by rw [e]; exact h.off⟩
  · cases i with
    | zero => exact ok
    | succ i => rw [e]; exact h.ok i (by omega)
  · cases i with
    | zero => exact hr
    | succ i => rw [e]; exact h.room i (by omega)
  · cases i with
    | zero => exact hon
    | succ i => rw [e]; exact h.on i (by omega)
  · cases i with
    | zero => exact hf
    | succ i => rw [e]; exact h.fine i (by omega)
theorem Runs.zero {k : SkRef} {s : Sk} {x : Ins} (h : x.op = 0) : Runs k s x 0 := ⟨fun i hi => by omega, fun i hi => by omega, fun i hi => by omega, fun i hi => by omega, h⟩
def most (T N : Nat) : Nat := (12 * N + 28) * N + 4 * (6 * N * (T - 1))
theorem step_asked {k : SkRef} {s : Sk} {x : Ins} (h : 2 ≤ x.op) (h8 : x.op ≤ 8) : (stepS k s x).1.asked = s.asked := by
  have hcase : x.op = 2 ∨ x.op = 3 ∨ x.op = 4 ∨ x.op = 5 ∨ x.op = 6 ∨ x.op = 7 ∨ x.op = 8 := by omega
  rcases hcase with q | q | q | q | q | q | q
  · rw [st2 k s x q]; rfl
  · rw [st3 k s x q]; rfl
  · rw [st4 k s x q]; rfl
  · rw [st5 k s x q]; rfl
  · rw [st6 k s x q]; rfl
  · rw [st7 k s x q]; rfl
  · rw [st8 k s x q]; dsimp only; split <;> rfl
theorem step_count {k : SkRef} {s : Sk} {x : Ins} (h : 3 ≤ x.op) (h8 : x.op ≤ 8) : (stepS k s x).1.count = s.count := by
  have hcase : x.op = 3 ∨ x.op = 4 ∨ x.op = 5 ∨ x.op = 6 ∨ x.op = 7 ∨ x.op = 8 := by omega
  rcases hcase with q | q | q | q | q | q
  · rw [st3 k s x q]; rfl
  · rw [st4 k s x q]; rfl
  · rw [st5 k s x q]; rfl
  · rw [st6 k s x q]; rfl
  · rw [st7 k s x q]; rfl
  · rw [st8 k s x q]; dsimp only; split <;> rfl
/-- What a step leaves of an insert that goes on. -/
theorem step_same {k : SkRef} {s : Sk} {x : Ins} (h : 3 ≤ x.op) (h8 : x.op ≤ 8) (he : x.err = 0) : (stepS k s x).2.e = x.e ∧ (stepS k s x).2.height = x.height ∧ (stepS k s x).2.node = x.node ∧ (stepS k s x).2.err = 0 ∧ ((stepS k s x).2.op = 0 ∨ 3 ≤ (stepS k s x).2.op) := by
  have hd : ∀ y : Ins, (down y).e = y.e ∧ (down y).height = y.height ∧ (down y).node = y.node ∧ (down y).err = y.err ∧ ((down y).op = 0 ∨ 3 ≤ (down y).op) := fun y => by
    unfold down
    split
    · exact ⟨rfl, rfl, rfl, rfl, .inr (show 3 ≤ 7 by decide)⟩
    · exact ⟨rfl, rfl, rfl, rfl, .inr (show 3 ≤ 5 by decide)⟩
  have hcase : x.op = 3 ∨ x.op = 4 ∨ x.op = 5 ∨ x.op = 6 ∨ x.op = 7 ∨ x.op = 8 := by omega
  rcases hcase with q | q | q | q | q | q
  · rw [st3 k s x q]; exact ⟨rfl, rfl, rfl, he, .inr (show 3 ≤ 4 by decide)⟩
  · rw [st4 k s x q]; exact ⟨rfl, rfl, rfl, he, .inr (show 3 ≤ 5 by decide)⟩
  · rw [st5 k s x q]
    dsimp only
    split
    · have := hd { x with thn := upd x.thn x.level (s.next (x.at_ x.level) x.level), op := 6 }
      exact ⟨this.1, this.2.1, this.2.2.1, this.2.2.2.1.trans he, this.2.2.2.2⟩
    · exact ⟨rfl, rfl, rfl, he, .inr (show 3 ≤ 6 by decide)⟩
  · rw [st6 k s x q]
    dsimp only
    split
    · exact ⟨rfl, rfl, rfl, he, .inr (show 3 ≤ 5 by decide)⟩
    · have := hd x
      exact ⟨this.1, this.2.1, this.2.2.1, this.2.2.2.1.trans he, this.2.2.2.2⟩
  · rw [st7 k s x q]; exact ⟨rfl, rfl, rfl, he, .inr (show 3 ≤ 8 by decide)⟩
  · rw [st8 k s x q]
    dsimp only
    unfold swapped
    split
    · split
      · exact ⟨rfl, rfl, rfl, he, .inl rfl⟩
      · exact ⟨rfl, rfl, rfl, he, .inr (show 3 ≤ 7 by decide)⟩
    · exact ⟨rfl, rfl, rfl, he, .inr (show 3 ≤ 5 by decide)⟩
theorem run_on {k : SkRef} {T N i : Nat} : ∀ (fuel : Nat) (r : RS) (x : Ins), RInv k T N r → r.now i = some x → (∀ j, j ≠ i → r.now j = none) → 3 ≤ x.op → most T N + 1 ≤ r.steps + fuel → r.s.trace.length + fuel < trMax → r.s.trace.length + fuel ≤ 1000000000 →
    ∃ (n : Nat) (r' : RS), 0 < n ∧ Runs k r.s x n ∧ (stepsS k (r.s, x) n).1 = r'.s ∧ (stepsS k (r.s, x) n).2.err = 0 ∧ RInv k T N r' ∧ (∀ j, r'.now j = none) ∧ r'.well = r.well ++ [⟨x.node, x.e, x.height⟩] ∧ r'.s.asked = r.s.asked ∧ r'.s.count = r.s.count ∧ r'.begun = r.begun ∧ r'.s.trace.length = r.s.trace.length + n ∧ n ≤ fuel
  | 0, r, x, h, hx, _, _, hb, _, _ => by have := h.bound.2.2; unfold most at hb; omega
  | fuel + 1, r, x, h, hx, ho, h3, hb, ht, ht2 => by
    have bx := h.b.x i x hx
    have ok := h.b.stepOk hx (by omega)
    have h1 := h.step hx
    have e1 := step_same (k := k) (s := r.s) h3 bx.op8 bx.err
    have e2 := step_asked (k := k) (s := r.s) (x := x) (by omega) bx.op8
    have e3 := step_count (k := k) (s := r.s) h3 bx.op8
    have e4 := stepS_trace k r.s x bx.op8 (by omega)
    have hsh : ∀ n, stepsS k (r.s, x) (n + 1) = stepsS k ((r.step k i x).s, (stepS k r.s x).2) n := fun n => (stepsS_shift k (r.s, x) n).symm
    have hnone : ∀ v, ∀ j, j ≠ i → setN r.now i v j = none := fun v j hj => by rw [setN_ne _ _ hj]; exact ho j hj
    rcases e1.2.2.2.2 with hend | hon
    · refine ⟨1, r.step k i x, by decide, (Runs.zero hend).cons ok (by omega) (by omega) bx.err, rfl, e1.2.2.2.1, h1, fun j => ?_, ?_, e2, e3, rfl, e4, by omega⟩
      · by_cases hj : j = i
        · subst hj
          show setN r.now j (kept (stepS k r.s x).2) j = none
          rw [setN_self, kept, if_pos hend]
        · exact hnone _ j hj
      · show r.well ++ gain (stepS k r.s x).2 = _
        unfold gain
        rw [if_pos ⟨hend, e1.2.2.2.1⟩, e1.1, e1.2.1, e1.2.2.1]
    · have hx' : (r.step k i x).now i = some (stepS k r.s x).2 := by
        show setN r.now i (kept (stepS k r.s x).2) i = _
        rw [setN_self, kept_of (by omega)]
      obtain ⟨n, r', a1, a2, a3, a4, a5, a6, a7, a8, a9, a10, a11, a12⟩ := run_on fuel (r.step k i x) (stepS k r.s x).2 h1 hx' (fun j hj => hnone _ j hj) hon (by show most T N + 1 ≤ r.steps + 1 + fuel; omega) (by show (stepS k r.s x).1.trace.length + fuel < trMax; omega) (by show (stepS k r.s x).1.trace.length + fuel ≤ _; omega)
      refine ⟨n + 1, r', by omega, Runs.cons a2 ok (by omega) (by omega) bx.err, by rw [hsh]; exact a3, by rw [hsh]; exact a4, a5, a6, ?_, a8.trans e2, a9.trans e3, a10, ?_, by omega⟩
      · rw [a7, e1.1, e1.2.1, e1.2.2.1]
        show (r.well ++ gain (stepS k r.s x).2) ++ _ = _
        rw [gain_op (by omega), List.append_nil]
      · rw [a11]
        show (stepS k r.s x).1.trace.length + n = _
        omega
/-- A whole insert alone, with room for it. -/
theorem run_alone {k : SkRef} {T N i : Nat} {r : RS} (h : RInv k T N r) (ho : ∀ j, r.now j = none) (hi : i < T) (hT : T ≤ 64) {e : En} (hr : e.right = true) (hw : e.k.Wf) {height : Int} (h0 : 1 ≤ height) (h1 : height ≤ 6) (hN : r.begun + 1 ≤ N) (hk : ∀ p, p ∈ r.well → p.e.k ≠ e.k)
    (hu : r.s.asked + needI (ins0 i e height) ≤ k.units) (ht : r.s.trace.length + most T N + 3 < trMax) (ht2 : r.s.trace.length + most T N + 3 ≤ 1000000000) :
    ∃ (n : Nat) (r' : RS), 0 < n ∧ Runs k r.s (ins0 i e height) n ∧ (stepsS k (r.s, ins0 i e height) n).1 = r'.s ∧ (stepsS k (r.s, ins0 i e height) n).2.err = 0 ∧ RInv k T N r' ∧ (∀ j, r'.now j = none) ∧ r'.well = r.well ++ [⟨r.s.count + 1, e, height⟩] ∧ r'.s.asked = r.s.asked + needI (ins0 i e height) ∧ r'.s.count = r.s.count + 1 ∧ r'.begun = r.begun + 1 ∧ r'.s.trace.length ≤ r.s.trace.length + most T N + 3 := by
  have hkeys : ∀ n, n ∈ r.L 0 → r.s.keys n ≠ e.k := fun n hn => by
    rcases h.v.all n hn with ⟨p, hp, q⟩ | ⟨j, y, hy, _⟩
    · rw [← q, (h.v.wl p hp).key]; exact hk p hp
    · rw [ho j] at hy; cases hy
  have hb := h.begin hi hT (ho i) hr hw h0 h1 hN hkeys (fun j y hy => by rw [ho j] at hy; cases hy)
  obtain ⟨r0, hr0⟩ : ∃ r0, r.begin i e height = r0 := ⟨_, rfl⟩
  rw [hr0] at hb
  have hs0 : r0.s = r.s := by rw [← hr0]; rfl
  have hx0 : r0.now i = some (ins0 i e height) := by rw [← hr0]; exact setN_self _ _ _
  have ho0 : ∀ j, j ≠ i → r0.now j = none := fun j hj => by rw [← hr0]; exact (setN_ne _ _ hj).trans (ho j)
  have ok0 := hb.b.stepOk hx0 (by rw [hs0]; omega)
  rw [hs0] at ok0
  have hb1 := hb.step hx0
  have e1 : stepS k r.s (ins0 i e height) = ({ r.s.note ⟨(i : Int), 5, k.first⟩ with asked := r.s.asked + needI (ins0 i e height) }, { ins0 i e height with op := 2 }) := by
    rw [st1 k r.s _ rfl, if_neg (by omega), ended_ok]
    rfl
  obtain ⟨r1, hr1⟩ : ∃ r1, r0.step k i (ins0 i e height) = r1 := ⟨_, rfl⟩
  rw [hr1] at hb1
  have hs1 : r1.s = (stepS k r.s (ins0 i e height)).1 := by rw [← hr1, ← hs0]; rfl
  have hx1 : r1.now i = some { ins0 i e height with op := 2 } := by
    rw [← hr1]
    show setN r0.now i (kept (stepS k r0.s (ins0 i e height)).2) i = _
    rw [setN_self, hs0, e1]
    rfl
  have ho1 : ∀ j, j ≠ i → r1.now j = none := fun j hj => by rw [← hr1]; exact (setN_ne _ _ hj).trans (ho0 j hj)
  have hc1 : r1.s.count = r.s.count := by rw [hs1, e1]; rfl
  have ha1 : r1.s.asked = r.s.asked + needI (ins0 i e height) := by rw [hs1, e1]
  have ht1 : r1.s.trace.length = r.s.trace.length + 1 := by rw [hs1]; exact stepS_trace k _ _ (by show 1 ≤ 8; decide) (by show ¬ 1 = 0; decide)
  have hw1 : r1.well = r.well := by
    rw [← hr1]
    show r0.well ++ gain (stepS k r0.s (ins0 i e height)).2 = _
    rw [hs0, e1, gain_op (by show (2 : Nat) ≠ 0; decide), List.append_nil, ← hr0]
    rfl
  have ok1 := hb1.b.stepOk hx1 (by omega)
  have hb2 := hb1.step hx1
  have e2 : stepS k r1.s { ins0 i e height with op := 2 } = ({ r1.s.note ⟨(i : Int), 5, k.first + 1⟩ with count := r1.s.count + 1 }, { ins0 i e height with node := r1.s.count + 1, op := 3 }) := st2 k r1.s _ rfl
  obtain ⟨r2, hr2⟩ : ∃ r2, r1.step k i { ins0 i e height with op := 2 } = r2 := ⟨_, rfl⟩
  rw [hr2] at hb2
  have hs2 : r2.s = (stepS k r1.s { ins0 i e height with op := 2 }).1 := by rw [← hr2]; rfl
  have hx2 : r2.now i = some { ins0 i e height with node := r1.s.count + 1, op := 3 } := by
    rw [← hr2]
    show setN r1.now i (kept (stepS k r1.s _).2) i = _
    rw [setN_self, e2]
    rfl
  have ho2 : ∀ j, j ≠ i → r2.now j = none := fun j hj => by rw [← hr2]; exact (setN_ne _ _ hj).trans (ho1 j hj)
  have hc2 : r2.s.count = r1.s.count + 1 := by rw [hs2, e2]
  have ha2 : r2.s.asked = r1.s.asked := by rw [hs2, e2]; rfl
  have ht2' : r2.s.trace.length = r1.s.trace.length + 1 := by rw [hs2]; exact stepS_trace k _ _ (by show 2 ≤ 8; decide) (by show ¬ 2 = 0; decide)
  have hw2 : r2.well = r1.well := by
    rw [← hr2]
    show r1.well ++ gain (stepS k r1.s _).2 = _
    rw [e2, gain_op (by show (3 : Nat) ≠ 0; decide), List.append_nil]
  have hbg : r2.begun = r.begun + 1 := by rw [← hr2, ← hr1, ← hr0]; rfl
  obtain ⟨n, r', a1, a2, a3, a4, a5, a6, a7, a8, a9, a10, a11, a12⟩ := run_on (most T N + 1) r2 _ hb2 hx2 ho2 (by show 3 ≤ 3; decide) (by omega) (by omega) (by omega)
  have q2 : Runs k r1.s { ins0 i e height with op := 2 } (n + 1) := Runs.cons (by rw [e2]; rw [hs2, e2] at a2; exact a2) ok1 (by omega) (by show ¬ 2 = 0; decide) rfl
  have q1 : Runs k r.s (ins0 i e height) (n + 1 + 1) := Runs.cons (by rw [e1]; rw [hs1, e1] at q2; exact q2) ok0 (by omega) (by show ¬ 1 = 0; decide) rfl
  have hsh : stepsS k (r.s, ins0 i e height) (n + 1 + 1) = stepsS k (r2.s, { ins0 i e height with node := r1.s.count + 1, op := 3 }) n := by
    rw [← stepsS_shift, ← stepsS_shift]
    show stepsS k (stepS k (stepS k r.s (ins0 i e height)).1 (stepS k r.s (ins0 i e height)).2) n = _
    rw [← hs1, e1]
    show stepsS k (stepS k r1.s { ins0 i e height with op := 2 }) n = _
    rw [show stepS k r1.s { ins0 i e height with op := 2 } = (r2.s, { ins0 i e height with node := r1.s.count + 1, op := 3 }) from by rw [hs2, e2]]
  refine ⟨n + 1 + 1, r', by omega, q1, by rw [hsh]; exact a3, by rw [hsh]; exact a4, a5, a6, ?_, by omega, by omega, by omega, by omega⟩
  rw [a7, hw2, hw1, hc1]
  rfl
end Go.Proofs.Ytkpjfdhjkgdcbaa
