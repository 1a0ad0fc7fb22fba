/- Rows of numbers of 32 bits, as they come in (for the seat of StoreApart). -/
import Derived.Test.YteiaifhnikknbaaGreatDoorLaidTab
import Derived.Deep.Slices
import Derived.ProofKit
import Derived.OpenShut
import Derived.Test.YteiaifhnikknbaaGreatDoorStRight

namespace Go.Proofs.YteiaifhnikknbaaGreatDoor
open Go.RowKit Go.ChangeShapes Go.WideShapes Go.Deep

/-- 'xs[:min(len(xs), K)]': how many there are, as the walk spells it. -/
theorem cut_min (K n : Nat) : ∃ m : Nat, (if (K : Int) < (n : Int) then (K : Int) else (n : Int)) = (m : Int) ∧ m ≤ n ∧ m ≤ K ∧ m = min n K := by
  refine ⟨min n K, ?_, by omega, by omega, rfl⟩
  split <;> omega

section
variable {H : Type} {enc : TypeId × Value → H} {P : Program} {w : World} {base : Nat} {spare : Nat → Bool} {held : Bool}

/-- The fields of a struct that reads as data: each one's cells, and that they read. -/
theorem trod_fields {t : TypeId} {fs : Array Field} {fuel : Nat} {cs : List Value} {x : DataW H × List MemPlace} (ht : P.underlying t = some (.struct fs)) (h : DataW.trod enc P w base spare held fuel t cs = some x) :
    ∃ n, cs.length = P.cellsOf t ∧ ∀ (i : Nat) (f : Field), fs[i]? = some f → ∃ y, DataW.trod enc P w base spare held n f.type ((cs.drop f.offset).take (P.cellsOf f.type)) = some y := by
  obtain ⟨xs, n, _, _, hl, hx, hf⟩ := DataW.trod_struct ht h
  refine ⟨n, hl, fun i f hi => ?_⟩
  have hlt : i < xs.length := by rw [hx]; exact (Array.getElem?_eq_some_iff.1 hi).1
  exact ⟨xs[i], by rw [hf i f hi]; exact List.getElem?_eq_getElem hlt⟩

theorem field_at {fs : Array Field} {m : Nat} {cs : List Value} (hf : ∀ (i : Nat) (f : Field), fs[i]? = some f → ∃ y, DataW.trod enc P w base spare held m f.type ((cs.drop f.offset).take (P.cellsOf f.type)) = some y)
    (i : Nat) (f : Field) (hi : fs[i]? = some f) (T off c : Nat) (hT : f.type = T) (ho : f.offset = off) (hc : P.cellsOf T = c) : ∃ y, DataW.trod enc P w base spare held m T ((cs.drop off).take c) = some y := by
  subst hT; subst ho; subst hc
  exact hf i f hi

theorem flatMap_get {α : Type} (f : α → List Value) (size : Nat) (l : List α) (hf : ∀ x ∈ l, (f x).length = size) : ∀ (i j : Nat) (x : α), l[i]? = some x → j < size → (l.flatMap f)[i * size + j]? = (f x)[j]? := by
  induction l with
  | nil => intro i j x h; simp at h
  | cons a l ih =>
    intro i j x h hj
    have ha : (f a).length = size := hf a (by simp)
    rw [List.flatMap_cons]
    cases i with
    | zero =>
      simp at h
      subst h
      rw [Nat.zero_mul, Nat.zero_add, List.getElem?_append_left (by omega)]
    | succ i =>
      rw [List.getElem?_append_right (by rw [ha, Nat.succ_mul]; omega), ha]
      have := ih (fun y hy => hf y (by simp [hy])) i j x (by simpa using h) hj
      rw [← this]
      congr 1
      rw [Nat.succ_mul]; omega

theorem flatMap_len {α : Type} (f : α → List Value) (size : Nat) (l : List α) (hf : ∀ x ∈ l, (f x).length = size) : (l.flatMap f).length = l.length * size := by
  induction l with
  | nil => simp
  | cons a l ih =>
    rw [List.flatMap_cons, List.length_append, ih (fun y hy => hf y (by simp [hy])), hf a (by simp), List.length_cons, Nat.succ_mul]
    omega

/-- What is known of an argument that is a slice of things of α. -/
structure ArgRow (w : World) (size : Nat) (v : Value) {α : Type} (f : α → List Value) (good : α → Prop) (l : List α) : Prop where
  reads : Reads w size v l.length (l.flatMap f)
  good : ∀ x ∈ l, good x
  max : l.length ≤ maxLen
  size : ∀ x ∈ l, (f x).length = size

theorem choose_list {α : Type} (n : Nat) (p : Nat → α → Prop) (h : ∀ i, i < n → ∃ x, p i x) : ∃ l : List α, l.length = n ∧ ∀ i x, l[i]? = some x → p i x := by
  induction n with
  | zero => exact ⟨[], rfl, fun i x h => by simp at h⟩
  | succ n ih =>
    obtain ⟨l, hl, hp⟩ := ih fun i hi => h i (by omega)
    obtain ⟨x, hx⟩ := h n (by omega)
    refine ⟨l ++ [x], by simp [hl], fun i y hy => ?_⟩
    rcases Nat.lt_or_ge i l.length with hi | hi
    · rw [List.getElem?_append_left hi] at hy
      exact hp i y hy
    · rw [List.getElem?_append_right hi] at hy
      have : i - l.length = 0 := by
        rcases Nat.eq_zero_or_pos (i - l.length) with h0 | h0
        · exact h0
        · rw [List.getElem?_eq_none (by simp; omega)] at hy; cases hy
      rw [this] at hy
      simp at hy
      subst hy
      have : i = n := by omega
      subst this
      exact hx

/-- AN ARGUMENT THAT IS A SLICE: its cells, element by element. -/
theorem open_row {t e : TypeId} {fuel : Nat} {v : Value} {x : DataW H × List MemPlace} (ht : P.underlying t = some (.slice e)) (size : Nat) (hC : P.cellsOf e = size) (hpos : 0 < size)
    {α : Type} (f : α → List Value) (good : α → Prop)
    (hel : ∀ n cs y, DataW.trod enc P w base spare held n e cs = some y → ∃ a, cs = f a ∧ good a)
    (h : DataW.trod enc P w base spare held fuel t [v] = some x) : ∃ l : List α, ArgRow w size v f good l := by
  rcases open_slice ht h with ⟨hcs, _⟩ | ⟨a, len, cap, m, n, D, Pl, hcs, hb, hl, hm, hmm, hx, hi⟩
  · simp at hcs
    subst hcs
    exact ⟨[], ⟨⟨by simp, .inl ⟨rfl, _, _, rfl⟩⟩, by simp, Nat.zero_le _, by simp⟩⟩
  · simp at hcs
    subst hcs
    have hlm : len ≤ m := by rw [hmm]; split <;> omega
    obtain ⟨l, hlen, hp⟩ := choose_list len (fun i x => w.cells? base (a.add (i * size)) size = some (f x) ∧ good x) (fun i hil => by
      obtain ⟨cs', h1, h2⟩ := hi i (by omega)
      obtain ⟨x, rfl, hg⟩ := hel _ _ _ h2
      rw [hC] at h1
      exact ⟨x, h1, hg⟩)
    have hsz : ∀ x ∈ l, (f x).length = size := by
      intro x hx
      obtain ⟨i, hi', he⟩ := List.getElem_of_mem hx
      exact (World.cells?_some (hp i x (by rw [List.getElem?_eq_getElem hi', he])).1).2.1
    refine ⟨l, ⟨⟨flatMap_len f size l hsz, ?_⟩, ?_, by rw [hlen]; omega, hsz⟩⟩
    · rcases Nat.eq_zero_or_pos len with h0 | h0
      · exact .inl ⟨by omega, _, _, by rw [h0]⟩
      · have hcell : ∀ i x j, l[i]? = some x → j < size → w.cell? ((a.add (i * size)).add j) = (f x)[j]? := fun i x j hx hj => (World.cells?_some (hp i x hx).1).2.2 j hj
        have hsp : a.spot = none := by
          have hx0 : l[0]? = some l[0] := List.getElem?_eq_getElem (by omega)
          have := hcell 0 l[0] 0 hx0 hpos
          have hf0 : (f l[0])[0]? = some ((f l[0])[0]'(by rw [hsz _ (List.getElem_mem _)]; exact hpos)) := List.getElem?_eq_getElem _
          rw [hf0] at this
          simp only [Nat.zero_mul] at this
          unfold Addr.add at this
          simp only [if_true] at this
          unfold World.cell? at this
          split at this
          · split at this
            · cases this
            · rename_i hns; simpa using hns
          · cases this
        obtain ⟨b, off, spot⟩ := a
        simp only at hsp
        subst hsp
        refine .inr ⟨b, off, cap, by rw [hlen], by rw [hlen]; omega, fun j u hu => ?_⟩
        have hj : j < (l.flatMap f).length := (List.getElem?_eq_some_iff.1 hu).1
        rw [flatMap_len f size l hsz] at hj
        have hq : j / size < l.length := Nat.div_lt_of_lt_mul (by rw [Nat.mul_comm]; exact hj)
        have hxq : l[j / size]? = some l[j / size] := List.getElem?_eq_getElem hq
        have hr : j % size < size := Nat.mod_lt _ hpos
        have e := flatMap_get f size l hsz (j / size) (j % size) _ hxq hr
        have hjj : j / size * size + j % size = j := by rw [Nat.mul_comm]; exact Nat.div_add_mod j size
        rw [hjj, hu] at e
        have hc := hcell (j / size) _ (j % size) hxq hr
        rw [← e, addr_plain, addr_plain, Nat.add_assoc, hjj] at hc
        exact hc
    · intro x hx
      obtain ⟨i, hi', he⟩ := List.getElem_of_mem hx
      exact (hp i x (by rw [List.getElem?_eq_getElem hi', he])).2
end

section
variable {H : Type} {enc : TypeId × Value → H} {P : Program} {w : World}
/-- AN ARGUMENT THAT IS A SLICE, as the row hands it over. -/
theorem arg_row {t e : TypeId} {v : Value} {d : DataW H} {p : List MemPlace} {r : Reach} {b0 : Nat} (ht : P.underlying t = some (.slice e)) (size : Nat) (hC : P.cellsOf e = size) (hpos : 0 < size)
    {α : Type} (f : α → List Value) (good : α → Prop)
    (hel : ∀ n cs y, DataW.trod enc P w 0 (fun _ => true) true n e cs = some y → ∃ a, cs = f a ∧ good a)
    (hv : Value.okWide P w r b0 t v) (h : DataW.Trod enc P w 0 (fun _ => true) true t v d p) :
    ∃ (ao : Option Addr) (cap : Nat) (l : List α), v = .slice ao l.length cap ∧ l.length ≤ cap ∧ ArgRow w size (.slice ao l.length cap) f good l := by
  obtain ⟨a, len, cap, rfl⟩ := okWide_slice ht hv
  obtain ⟨fuel, hf⟩ := h
  obtain ⟨l, hl⟩ := open_row ht size hC hpos f good hel (v := .slice a len cap) hf
  have hlen : len = l.length ∧ l.length ≤ cap := by
    rcases hl.reads.form with ⟨h0, ao, c, e⟩ | ⟨b, off, c, e, hc, _⟩
    · cases e
      exact ⟨h0.symm, by omega⟩
    · cases e
      exact ⟨rfl, hc⟩
  obtain ⟨rfl, hc⟩ := hlen
  exact ⟨a, cap, l, rfl, hc, hl⟩
end

end Go.Proofs.YteiaifhnikknbaaGreatDoor


namespace Go.Proofs.YteiaifhnikknbaaGreatDoor
open Go.RowKit Go.ChangeShapes Go.WideShapes Go.Deep

/-- A number that fits its kind. -/
def fits (k : IntKind) (n : Int) : Prop := (Lit.int k n).wf = true
theorem fits_u8 {m : Int} (h : fits .u8 m) : 0 ≤ m ∧ m ≤ 255 := by
  have h' : (Lit.int .u8 m).wf = true := h
  simp [Lit.wf, IntKind.min, IntKind.max, IntKind.signed, IntKind.bits] at h'
  omega
theorem fits_u16 {m : Int} (h : fits .u16 m) : 0 ≤ m ∧ m ≤ 65535 := by
  have h' : (Lit.int .u16 m).wf = true := h
  simp [Lit.wf, IntKind.min, IntKind.max, IntKind.signed, IntKind.bits] at h'
  omega
theorem fits_u32 {m : Int} (h : fits .u32 m) : 0 ≤ m ∧ m ≤ 4294967295 := by
  have h' : (Lit.int .u32 m).wf = true := h
  simp [Lit.wf, IntKind.min, IntKind.max, IntKind.signed, IntKind.bits] at h'
  omega
theorem fits_i64 {m : Int} (h : fits .i64 m) : -9223372036854775808 ≤ m ∧ m ≤ 9223372036854775807 := by
  have h' : (Lit.int .i64 m).wf = true := h
  simp [Lit.wf, IntKind.min, IntKind.max, IntKind.signed, IntKind.bits] at h'
  omega
theorem fits_u64 {m : Int} (h : fits .u64 m) : 0 ≤ m ∧ m ≤ 18446744073709551615 := by
  have h' : (Lit.int .u64 m).wf = true := h
  simp [Lit.wf, IntKind.min, IntKind.max, IntKind.signed, IntKind.bits] at h'
  omega

/-- An element's cells, where it lies. -/
theorem ArgRow.cell {w : World} {size : Nat} {ao : Option Addr} {cap : Nat} {α : Type} {f : α → List Value} {good : α → Prop} {l : List α} (h : ArgRow w size (.slice ao l.length cap) f good l) {wr : World} (hb : Below w.heap.size w wr) (hpos : 0 < size) (k : Nat) (hk : k < l.length) :
    ∃ b off, ao = some ⟨b, off, none⟩ ∧ ∀ j u, (f l[k])[j]? = some u → wr.cell? ⟨b, off + k * size + j, none⟩ = some u := by
  have hr := h.reads.below hb
  have hlen := hr.len
  have hl : (l.flatMap f).length = l.length * size := flatMap_len f size l h.size
  rcases hr.form with ⟨h0, _⟩ | ⟨b, off, c', e, _, hc⟩
  · omega
  · cases e
    refine ⟨b, off, rfl, fun j u hu => ?_⟩
    have hj : j < size := by
      have := (List.getElem?_eq_some_iff.1 hu).1
      rw [h.size _ (List.getElem_mem _)] at this
      exact this
    have e := flatMap_get f size l h.size k j l[k] (List.getElem?_eq_getElem hk) hj
    rw [hu] at e
    have := hc _ _ e
    rw [← Nat.add_assoc] at this
    exact this
end Go.Proofs.YteiaifhnikknbaaGreatDoor


namespace Go.Proofs.YteiaifhnikknbaaGreatDoor
open Go.RowKit Go.ChangeShapes Go.WideShapes Go.Deep

section
variable {H : Type} {enc : TypeId × Value → H} {w : World} {base : Nat} {spare : Nat → Bool} {held : Bool}
theorem cells_u32a : Tryz.prog.cellsOf 48 = 1 := by kernel_rfl
theorem el_u32a (n : Nat) (cs : List Value) (y : DataW H × List MemPlace) (h : DataW.trod enc Tryz.prog w base spare held n 48 cs = some y) : ∃ c : Int, cs = [.int .u32 c] ∧ 0 ≤ c ∧ c < 4294967296 := by
  obtain ⟨m, rfl, _, hw⟩ := DataW.trod_int Tryz.underlying48 h
  have hb := fits_u32 hw
  exact ⟨m, rfl, by omega, by omega⟩
theorem u32a_flat (b : List Int) : b.flatMap (fun c => [Value.int .u32 c]) = u32s b := by
  induction b with
  | nil => rfl
  | cons a b ih => rw [List.flatMap_cons, ih]; rfl
set_option maxRecDepth 100000 in
theorem arg_u32a {v : Value} {d : DataW H} {p : List MemPlace} {r : Reach} {b0 : Nat} (hv : Value.okWide Tryz.prog w r b0 22 v) (h : DataW.Trod enc Tryz.prog w 0 (fun _ => true) true 22 v d p) :
    ∃ (ao : Option Addr) (cap : Nat) (l : List Int), v = .slice ao l.length cap ∧ l.length ≤ cap ∧ Reads w 1 (.slice ao l.length cap) l.length (u32s l) ∧ ∀ x ∈ l, 0 ≤ x ∧ x < 4294967296 := by
  obtain ⟨ao, cap, l, rfl, hc, hl⟩ := arg_row Tryz.underlying22 1 cells_u32a (by decide) (fun c : Int => [Value.int .u32 c]) (fun c => 0 ≤ c ∧ c < 4294967296) (fun _ _ _ h => el_u32a _ _ _ h) hv h
  have := hl.reads
  rw [u32a_flat] at this
  exact ⟨ao, cap, l, rfl, hc, this, hl.good⟩
end
end Go.Proofs.YteiaifhnikknbaaGreatDoor
