/- Arguments that are slices, opened beside what their reading weighs. -/
import Derived.Test.YtkpjfdhjkgdcbaaBase
import Derived.Deep.Slices
import Derived.ProofKit
import Derived.OpenShut
import Derived.Test.YtkpjfdhjkgdcbaaIkW

namespace Go.Proofs.Ytkpjfdhjkgdcbaa
open Go.RowKit Go.ChangeShapes Go.WideShapes Go.Deep

/-- 'xs[:min(len(xs), K)]': how many there are, as the walk spells it. -/
theorem cut_min (K n : Nat) : ∃ m : Nat, (if (K : Int) < (n : Int) then (K : Int) else (n : Int)) = (m : Int) ∧ m ≤ n ∧ m ≤ K ∧ m = min n K := by
  refine ⟨min n K, ?_, by omega, by omega, rfl⟩
  split <;> omega

section
variable {H : Type} {enc : TypeId × Value → H} {P : Program} {w : World} {base : Nat} {spare : Nat → Bool} {held : Bool}

/-- The fields of a struct that reads as data: each one's cells, and that they read. -/
theorem trod_fields {t : TypeId} {fs : Array Field} {fuel : Nat} {cs : List Value} {x : DataW H × List MemPlace} (ht : P.underlying t = some (.struct fs)) (h : DataW.trod enc P w base spare held fuel t cs = some x) :
    ∃ n, cs.length = P.cellsOf t ∧ ∀ (i : Nat) (f : Field), fs[i]? = some f → ∃ y, DataW.trod enc P w base spare held n f.type ((cs.drop f.offset).take (P.cellsOf f.type)) = some y := by
  obtain ⟨xs, n, _, _, hl, hx, hf⟩ := DataW.trod_struct ht h
  refine ⟨n, hl, fun i f hi => ?_⟩
  have hlt : i < xs.length := by rw [hx]; exact (Array.getElem?_eq_some_iff.1 hi).1
  exact ⟨xs[i], by rw [hf i f hi]; exact List.getElem?_eq_getElem hlt⟩

theorem field_at {fs : Array Field} {m : Nat} {cs : List Value} (hf : ∀ (i : Nat) (f : Field), fs[i]? = some f → ∃ y, DataW.trod enc P w base spare held m f.type ((cs.drop f.offset).take (P.cellsOf f.type)) = some y)
    (i : Nat) (f : Field) (hi : fs[i]? = some f) (T off c : Nat) (hT : f.type = T) (ho : f.offset = off) (hc : P.cellsOf T = c) : ∃ y, DataW.trod enc P w base spare held m T ((cs.drop off).take c) = some y := by
  subst hT; subst ho; subst hc
  exact hf i f hi

theorem flatMap_get {α : Type} (f : α → List Value) (size : Nat) (l : List α) (hf : ∀ x ∈ l, (f x).length = size) : ∀ (i j : Nat) (x : α), l[i]? = some x → j < size → (l.flatMap f)[i * size + j]? = (f x)[j]? := by
  induction l with
  | nil => intro i j x h; simp at h
  | cons a l ih =>
    intro i j x h hj
    have ha : (f a).length = size := hf a (by simp)
    rw [List.flatMap_cons]
    cases i with
    | zero =>
      simp at h
      subst h
      rw [Nat.zero_mul, Nat.zero_add, List.getElem?_append_left (by omega)]
    | succ i =>
      rw [List.getElem?_append_right (by rw [ha, Nat.succ_mul]; omega), ha]
      have := ih (fun y hy => hf y (by simp [hy])) i j x (by simpa using h) hj
      rw [← this]
      congr 1
      rw [Nat.succ_mul]; omega

theorem flatMap_len {α : Type} (f : α → List Value) (size : Nat) (l : List α) (hf : ∀ x ∈ l, (f x).length = size) : (l.flatMap f).length = l.length * size := by
  induction l with
  | nil => simp
  | cons a l ih =>
    rw [List.flatMap_cons, List.length_append, ih (fun y hy => hf y (by simp [hy])), hf a (by simp), List.length_cons, Nat.succ_mul]
    omega

/-- What is known of an argument that is a slice of things of α. -/
structure ArgRow (w : World) (size : Nat) (v : Value) {α : Type} (f : α → List Value) (good : α → Prop) (l : List α) : Prop where
  reads : Reads w size v l.length (l.flatMap f)
  good : ∀ x ∈ l, good x
  max : l.length ≤ maxLen
  size : ∀ x ∈ l, (f x).length = size

theorem choose_list {α : Type} (n : Nat) (p : Nat → α → Prop) (h : ∀ i, i < n → ∃ x, p i x) : ∃ l : List α, l.length = n ∧ ∀ i x, l[i]? = some x → p i x := by
  induction n with
  | zero => exact ⟨[], rfl, fun i x h => by simp at h⟩
  | succ n ih =>
    obtain ⟨l, hl, hp⟩ := ih fun i hi => h i (by omega)
    obtain ⟨x, hx⟩ := h n (by omega)
    refine ⟨l ++ [x], by simp [hl], fun i y hy => ?_⟩
    rcases Nat.lt_or_ge i l.length with hi | hi
    · rw [List.getElem?_append_left hi] at hy
      exact hp i y hy
    · rw [List.getElem?_append_right hi] at hy
      have : i - l.length = 0 := by
        rcases Nat.eq_zero_or_pos (i - l.length) with h0 | h0
        · exact h0
        · rw [List.getElem?_eq_none (by simp; omega)] at hy; cases hy
      rw [this] at hy
      simp at hy
      subst hy
      have : i = n := by omega
      subst this
      exact hx

/-- AN ARGUMENT THAT IS A SLICE: its cells, element by element. -/
theorem open_row {t e : TypeId} {fuel : Nat} {v : Value} {x : DataW H × List MemPlace} (ht : P.underlying t = some (.slice e)) (size : Nat) (hC : P.cellsOf e = size) (hpos : 0 < size)
    {α : Type} (f : α → List Value) (good : α → Prop)
    (hel : ∀ n cs y, DataW.trod enc P w base spare held n e cs = some y → ∃ a, cs = f a ∧ good a)
    (h : DataW.trod enc P w base spare held fuel t [v] = some x) : ∃ l : List α, ArgRow w size v f good l := by
  rcases open_slice ht h with ⟨hcs, _⟩ | ⟨a, len, cap, m, n, D, Pl, hcs, hb, hl, hm, hmm, hx, hi⟩
  · simp at hcs
    subst hcs
    exact ⟨[], ⟨⟨by simp, .inl ⟨rfl, _, _, rfl⟩⟩, by simp, Nat.zero_le _, by simp⟩⟩
  · simp at hcs
    subst hcs
    have hlm : len ≤ m := by rw [hmm]; split <;> omega
    obtain ⟨l, hlen, hp⟩ := choose_list len (fun i x => w.cells? base (a.add (i * size)) size = some (f x) ∧ good x) (fun i hil => by
      obtain ⟨cs', h1, h2⟩ := hi i (by omega)
      obtain ⟨x, rfl, hg⟩ := hel _ _ _ h2
      rw [hC] at h1
      exact ⟨x, h1, hg⟩)
    have hsz : ∀ x ∈ l, (f x).length = size := by
      intro x hx
      obtain ⟨i, hi', he⟩ := List.getElem_of_mem hx
      exact (World.cells?_some (hp i x (by rw [List.getElem?_eq_getElem hi', he])).1).2.1
    refine ⟨l, ⟨⟨flatMap_len f size l hsz, ?_⟩, ?_, by rw [hlen]; omega, hsz⟩⟩
    · rcases Nat.eq_zero_or_pos len with h0 | h0
      · exact .inl ⟨by omega, _, _, by rw [h0]⟩
      · have hcell : ∀ i x j, l[i]? = some x → j < size → w.cell? ((a.add (i * size)).add j) = (f x)[j]? := fun i x j hx hj => (World.cells?_some (hp i x hx).1).2.2 j hj
        have hsp : a.spot = none := by
          have hx0 : l[0]? = some l[0] := List.getElem?_eq_getElem (by omega)
          have := hcell 0 l[0] 0 hx0 hpos
          have hf0 : (f l[0])[0]? = some ((f l[0])[0]'(by rw [hsz _ (List.getElem_mem _)]; exact hpos)) := List.getElem?_eq_getElem _
          rw [hf0] at this
          simp only [Nat.zero_mul] at this
          unfold Addr.add at this
          simp only [if_true] at this
          unfold World.cell? at this
          split at this
          · split at this
            · cases this
            · rename_i hns; simpa using hns
          · cases this
        obtain ⟨b, off, spot⟩ := a
        simp only at hsp
        subst hsp
        refine .inr ⟨b, off, cap, by rw [hlen], by rw [hlen]; omega, fun j u hu => ?_⟩
        have hj : j < (l.flatMap f).length := (List.getElem?_eq_some_iff.1 hu).1
        rw [flatMap_len f size l hsz] at hj
        have hq : j / size < l.length := Nat.div_lt_of_lt_mul (by rw [Nat.mul_comm]; exact hj)
        have hxq : l[j / size]? = some l[j / size] := List.getElem?_eq_getElem hq
        have hr : j % size < size := Nat.mod_lt _ hpos
        have e := flatMap_get f size l hsz (j / size) (j % size) _ hxq hr
        have hjj : j / size * size + j % size = j := by rw [Nat.mul_comm]; exact Nat.div_add_mod j size
        rw [hjj, hu] at e
        have hc := hcell (j / size) _ (j % size) hxq hr
        rw [← e, addr_plain, addr_plain, Nat.add_assoc, hjj] at hc
        exact hc
    · intro x hx
      obtain ⟨i, hi', he⟩ := List.getElem_of_mem hx
      exact (hp i x (by rw [List.getElem?_eq_getElem hi', he])).2
end

section
variable {H : Type} {enc : TypeId × Value → H} {P : Program} {w : World}
/-- AN ARGUMENT THAT IS A SLICE, as the row hands it over. -/
theorem arg_row {t e : TypeId} {v : Value} {d : DataW H} {p : List MemPlace} {r : Reach} {b0 : Nat} (ht : P.underlying t = some (.slice e)) (size : Nat) (hC : P.cellsOf e = size) (hpos : 0 < size)
    {α : Type} (f : α → List Value) (good : α → Prop)
    (hel : ∀ n cs y, DataW.trod enc P w 0 (fun _ => true) true n e cs = some y → ∃ a, cs = f a ∧ good a)
    (hv : Value.okWide P w r b0 t v) (h : DataW.Trod enc P w 0 (fun _ => true) true t v d p) :
    ∃ (ao : Option Addr) (cap : Nat) (l : List α), v = .slice ao l.length cap ∧ l.length ≤ cap ∧ ArgRow w size (.slice ao l.length cap) f good l := by
  obtain ⟨a, len, cap, rfl⟩ := okWide_slice ht hv
  obtain ⟨fuel, hf⟩ := h
  obtain ⟨l, hl⟩ := open_row ht size hC hpos f good hel (v := .slice a len cap) hf
  have hlen : len = l.length ∧ l.length ≤ cap := by
    rcases hl.reads.form with ⟨h0, ao, c, e⟩ | ⟨b, off, c, e, hc, _⟩
    · cases e
      exact ⟨h0.symm, by omega⟩
    · cases e
      exact ⟨rfl, hc⟩
  obtain ⟨rfl, hc⟩ := hlen
  exact ⟨a, cap, l, rfl, hc, hl⟩
end

end Go.Proofs.Ytkpjfdhjkgdcbaa


namespace Go.Proofs.Ytkpjfdhjkgdcbaa
open Go.RowKit Go.ChangeShapes Go.WideShapes Go.Deep

/-- A number that fits its kind. -/
def fits (k : IntKind) (n : Int) : Prop := (Lit.int k n).wf = true
theorem fits_u8 {m : Int} (h : fits .u8 m) : 0 ≤ m ∧ m ≤ 255 := by
  have h' : (Lit.int .u8 m).wf = true := h
  simp [Lit.wf, IntKind.min, IntKind.max, IntKind.signed, IntKind.bits] at h'
  omega
theorem fits_u16 {m : Int} (h : fits .u16 m) : 0 ≤ m ∧ m ≤ 65535 := by
  have h' : (Lit.int .u16 m).wf = true := h
  simp [Lit.wf, IntKind.min, IntKind.max, IntKind.signed, IntKind.bits] at h'
  omega
theorem fits_u32 {m : Int} (h : fits .u32 m) : 0 ≤ m ∧ m ≤ 4294967295 := by
  have h' : (Lit.int .u32 m).wf = true := h
  simp [Lit.wf, IntKind.min, IntKind.max, IntKind.signed, IntKind.bits] at h'
  omega
theorem fits_i64 {m : Int} (h : fits .i64 m) : -9223372036854775808 ≤ m ∧ m ≤ 9223372036854775807 := by
  have h' : (Lit.int .i64 m).wf = true := h
  simp [Lit.wf, IntKind.min, IntKind.max, IntKind.signed, IntKind.bits] at h'
  omega
theorem fits_u64 {m : Int} (h : fits .u64 m) : 0 ≤ m ∧ m ≤ 18446744073709551615 := by
  have h' : (Lit.int .u64 m).wf = true := h
  simp [Lit.wf, IntKind.min, IntKind.max, IntKind.signed, IntKind.bits] at h'
  omega

/-- An element's cells, where it lies. -/
theorem ArgRow.cell {w : World} {size : Nat} {ao : Option Addr} {cap : Nat} {α : Type} {f : α → List Value} {good : α → Prop} {l : List α} (h : ArgRow w size (.slice ao l.length cap) f good l) {wr : World} (hb : Below w.heap.size w wr) (hpos : 0 < size) (k : Nat) (hk : k < l.length) :
    ∃ b off, ao = some ⟨b, off, none⟩ ∧ ∀ j u, (f l[k])[j]? = some u → wr.cell? ⟨b, off + k * size + j, none⟩ = some u := by
  have hr := h.reads.below hb
  have hlen := hr.len
  have hl : (l.flatMap f).length = l.length * size := flatMap_len f size l h.size
  rcases hr.form with ⟨h0, _⟩ | ⟨b, off, c', e, _, hc⟩
  · omega
  · cases e
    refine ⟨b, off, rfl, fun j u hu => ?_⟩
    have hj : j < size := by
      have := (List.getElem?_eq_some_iff.1 hu).1
      rw [h.size _ (List.getElem_mem _)] at this
      exact this
    have e := flatMap_get f size l h.size k j l[k] (List.getElem?_eq_getElem hk) hj
    rw [hu] at e
    have := hc _ _ e
    rw [← Nat.add_assoc] at this
    exact this
end Go.Proofs.Ytkpjfdhjkgdcbaa


namespace Go.Proofs.Ytkpjfdhjkgdcbaa
open Go.RowKit Go.ChangeShapes Go.WideShapes Go.Deep

/-- What a task inserts. -/
structure Wk where
  e : En
  h : Int
def Wk.cells (a : Wk) : List Value := [.string a.e.k.key, .int .u64 a.e.k.seq, .int .u8 a.e.k.kind, .string a.e.val, .int .i64 a.h]
def EnFits (e : En) : Prop := e.k.Wf ∧ e.val.size ≤ 9223372036854775807
def WkFits (a : Wk) : Prop := EnFits a.e ∧ -9223372036854775808 ≤ a.h ∧ a.h ≤ 9223372036854775807
section
variable {H : Type} {enc : TypeId × Value → H} {w : World} {base : Nat} {spare : Nat → Bool} {held : Bool}
theorem cells19_u8 : Try.prog.cellsOf 5 = 1 := by kernel_rfl
theorem cells19_u64 : Try.prog.cellsOf 34 = 1 := by kernel_rfl
theorem cells19_int : Try.prog.cellsOf 3 = 1 := by kernel_rfl
theorem cells19_str : Try.prog.cellsOf 9 = 1 := by kernel_rfl
theorem cells_ik : Try.prog.cellsOf 36 = 3 := by kernel_rfl
theorem cells_en : Try.prog.cellsOf 38 = 4 := by kernel_rfl
set_option maxRecDepth 100000 in
theorem el_ik (n : Nat) (cs : List Value) (y : DataW H × List MemPlace) (h : DataW.trod enc Try.prog w base spare held n 36 cs = some y) : ∃ a : IK, cs = [.string a.key, .int .u64 a.seq, .int .u8 a.kind] ∧ a.Wf := by
  obtain ⟨m, hl, hf⟩ := trod_fields Try.underlying36 h
  rw [cells_ik] at hl
  match cs, hl with
  | [c0, c1, c2], _ =>
    obtain ⟨y0, h0⟩ := field_at hf 0 _ rfl 9 0 1 rfl rfl cells19_str
    obtain ⟨y1, h1⟩ := field_at hf 1 _ rfl 34 1 1 rfl rfl cells19_u64
    obtain ⟨y2, h2⟩ := field_at hf 2 _ rfl 5 2 1 rfl rfl cells19_u8
    obtain ⟨n0, e0, _, w0⟩ := DataW.trod_string Try.underlying9 h0
    obtain ⟨n1, e1, _, w1⟩ := DataW.trod_int Try.underlying34 h1
    obtain ⟨n2, e2, _, w2⟩ := DataW.trod_int Try.underlying5 h2
    simp at e0 e1 e2
    subst e0; subst e1; subst e2
    have f1 := fits_u64 w1
    have f2 := fits_u8 w2
    unfold maxLen at w0
    exact ⟨⟨n0, n1, n2⟩, rfl, f1.1, f1.2, f2.1, f2.2, by show n0.size ≤ _; omega⟩
set_option maxRecDepth 100000 in
theorem el_en (n : Nat) (cs : List Value) (y : DataW H × List MemPlace) (h : DataW.trod enc Try.prog w base spare held n 38 cs = some y) : ∃ e : En, cs = enC e ∧ EnFits e := by
  obtain ⟨m, hl, hf⟩ := trod_fields Try.underlying38 h
  rw [cells_en] at hl
  match cs, hl with
  | [c0, c1, c2, c3], _ =>
    obtain ⟨y0, h0⟩ := field_at hf 0 _ rfl 36 0 3 rfl rfl cells_ik
    obtain ⟨y1, h1⟩ := field_at hf 1 _ rfl 9 3 1 rfl rfl cells19_str
    obtain ⟨k, e0, w0⟩ := el_ik _ _ _ h0
    obtain ⟨n1, e1, _, w1⟩ := DataW.trod_string Try.underlying9 h1
    simp at e0 e1
    obtain ⟨rfl, rfl, rfl⟩ := e0
    subst e1
    unfold maxLen at w1
    exact ⟨⟨k, n1⟩, rfl, w0, by show n1.size ≤ _; omega⟩
set_option maxRecDepth 100000 in
theorem arg_en {v : Value} {d : DataW H} {p : List MemPlace} {r : Reach} {b0 : Nat} (hv : Value.okWide Try.prog w r b0 38 v) (h : DataW.Trod enc Try.prog w 0 (fun _ => true) true 38 v d p) : ∃ e : En, v = .agg (enC e).toArray ∧ EnFits e := by
  obtain ⟨cs, rfl, hsz⟩ := okWide_struct Try.underlying38 hv
  obtain ⟨fuel, hf0⟩ := h
  obtain ⟨l⟩ := cs
  obtain ⟨e, h1, h2⟩ := el_en _ _ _ hf0
  refine ⟨e, ?_, h2⟩
  have : l = enC e := by simpa [Value.cells] using h1
  rw [this]
end
section
variable {H : Type} {enc : TypeId × Value → H} {w : World} {base : Nat} {spare : Nat → Bool} {held : Bool}
theorem cells_wk : Try.prog.cellsOf 40 = 5 := by kernel_rfl
theorem cells_wks : Try.prog.cellsOf 22 = 1 := by kernel_rfl
set_option maxRecDepth 100000 in
theorem el_wk (n : Nat) (cs : List Value) (y : DataW H × List MemPlace) (h : DataW.trod enc Try.prog w base spare held n 40 cs = some y) : ∃ a : Wk, cs = a.cells ∧ WkFits a := by
  obtain ⟨m, hl, hf⟩ := trod_fields Try.underlying40 h
  rw [cells_wk] at hl
  match cs, hl with
  | [c0, c1, c2, c3, c4], _ =>
    obtain ⟨y0, h0⟩ := field_at hf 0 _ rfl 38 0 4 rfl rfl cells_en
    obtain ⟨y1, h1⟩ := field_at hf 1 _ rfl 3 4 1 rfl rfl cells19_int
    obtain ⟨e, e0, w0⟩ := el_en _ _ _ h0
    obtain ⟨n1, e1, _, w1⟩ := DataW.trod_int Try.underlying3 h1
    simp [enC] at e0 e1
    obtain ⟨rfl, rfl, rfl, rfl⟩ := e0
    subst e1
    exact ⟨⟨e, n1⟩, rfl, w0, fits_i64 w1⟩
/-- A row of works that came in. -/
def WkRow (w : World) (v : Value) (l : List Wk) : Prop := ArgRow w 5 v Wk.cells WkFits l
set_option maxRecDepth 100000 in
theorem el_wkr (n : Nat) (v : Value) (y : DataW H × List MemPlace) (h : DataW.trod enc Try.prog w base spare held n 22 [v] = some y) : ∃ l : List Wk, WkRow w v l :=
  open_row Try.underlying22 5 cells_wk (by decide) Wk.cells WkFits (fun _ _ _ h => el_wk _ _ _ h) h
end
end Go.Proofs.Ytkpjfdhjkgdcbaa


namespace Go.Proofs.Ytkpjfdhjkgdcbaa
open Go.RowKit Go.ChangeShapes Go.WideShapes Go.Deep

section
variable {H : Type} {enc : TypeId × Value → H} {P : Program} {w : World} {base : Nat} {spare : Nat → Bool} {held : Bool}
theorem weightsAll_mem (P : Program) (e : TypeId) : ∀ {l : List (DataW H)} {d : DataW H}, d ∈ l → ∀ n ∈ d.weights P e, n ∈ DataW.weightsAll P e l
  | [], _, h, _, _ => by cases h
  | a :: r, d, h, n, hn => by
    rw [DataW.weightsAll, List.mem_append]
    rcases List.mem_cons.1 h with rfl | h
    · exact .inl hn
    · exact .inr (weightsAll_mem P e h n hn)
theorem open_row_w {t e : TypeId} {fuel : Nat} {v : Value} {x : DataW H × List MemPlace} (ht : P.underlying t = some (.slice e)) (size : Nat) (hC : P.cellsOf e = size) (hpos : 0 < size)
    {α : Type} (f : α → List Value) (good : α → Prop) (B : Nat)
    (hel : ∀ n cs y, DataW.trod enc P w base spare held n e cs = some y → (∀ m ∈ y.1.weights P e, m ≤ B) → ∃ a, cs = f a ∧ good a)
    (h : DataW.trod enc P w base spare held fuel t [v] = some x) (hB : ∀ m ∈ x.1.weights P t, m ≤ B) : ∃ l : List α, ArgRow w size v f good l ∧ l.length * P.bytesOf e ≤ B := by
  rcases open_slice ht h with ⟨hcs, _⟩ | ⟨a, len, cap, m, n, D, Pl, hcs, hb, hl, hm, hmm, hx, hi⟩
  · simp at hcs
    subst hcs
    exact ⟨[], ⟨⟨by simp, .inl ⟨rfl, _, _, rfl⟩⟩, by simp, Nat.zero_le _, by simp⟩, by simp⟩
  · simp at hcs
    subst hcs
    have hlm : len ≤ m := by rw [hmm]; split <;> omega
    rw [hx] at hB
    have hB' := fun q hq => hB q (by simp only [DataW.weights, ht]; exact hq)
    have hwt : len * P.bytesOf e ≤ B := by
      have := hB' _ List.mem_cons_self
      rw [List.length_map, List.length_range] at this
      exact Nat.le_trans (Nat.mul_le_mul_right _ (Nat.le_add_right _ _)) this
    have hD : ∀ i, i < len → ∀ q ∈ (D i).weights P e, q ≤ B := fun i hil q hq =>
      hB' q (List.mem_cons_of_mem _ (List.mem_append_left _ (weightsAll_mem P e (List.mem_map.2 ⟨i, List.mem_range.2 hil, rfl⟩) q hq)))
    obtain ⟨l, hlen, hp⟩ := choose_list len (fun i x => w.cells? base (a.add (i * size)) size = some (f x) ∧ good x) (fun i hil => by
      obtain ⟨cs', h1, h2⟩ := hi i (by omega)
      obtain ⟨x, rfl, hg⟩ := hel _ _ _ h2 (hD i hil)
      rw [hC] at h1
      exact ⟨x, h1, hg⟩)
    have hsz : ∀ x ∈ l, (f x).length = size := by
      intro x hx
      obtain ⟨i, hi', he⟩ := List.getElem_of_mem hx
      exact (World.cells?_some (hp i x (by rw [List.getElem?_eq_getElem hi', he])).1).2.1
    refine ⟨l, ⟨⟨flatMap_len f size l hsz, ?_⟩, ?_, by rw [hlen]; omega, hsz⟩, by rw [hlen]; exact hwt⟩
    · rcases Nat.eq_zero_or_pos len with h0 | h0
      · exact .inl ⟨by omega, _, _, by rw [h0]⟩
      · have hcell : ∀ i x j, l[i]? = some x → j < size → w.cell? ((a.add (i * size)).add j) = (f x)[j]? := fun i x j hx hj => (World.cells?_some (hp i x hx).1).2.2 j hj
        have hsp : a.spot = none := by
          have hx0 : l[0]? = some l[0] := List.getElem?_eq_getElem (by omega)
          have := hcell 0 l[0] 0 hx0 hpos
          have hf0 : (f l[0])[0]? = some ((f l[0])[0]'(by rw [hsz _ (List.getElem_mem _)]; exact hpos)) := List.getElem?_eq_getElem _
          rw [hf0] at this
          simp only [Nat.zero_mul] at this
          unfold Addr.add at this
          simp only [if_true] at this
          unfold World.cell? at this
          split at this
          · split at this
            · cases this
            · rename_i hns; simpa using hns
          · cases this
        obtain ⟨b, off, spot⟩ := a
        simp only at hsp
        subst hsp
        refine .inr ⟨b, off, cap, by rw [hlen], by rw [hlen]; omega, fun j u hu => ?_⟩
        have hj : j < (l.flatMap f).length := (List.getElem?_eq_some_iff.1 hu).1
        rw [flatMap_len f size l hsz] at hj
        have hq : j / size < l.length := Nat.div_lt_of_lt_mul (by rw [Nat.mul_comm]; exact hj)
        have hxq : l[j / size]? = some l[j / size] := List.getElem?_eq_getElem hq
        have hr : j % size < size := Nat.mod_lt _ hpos
        have e := flatMap_get f size l hsz (j / size) (j % size) _ hxq hr
        have hjj : j / size * size + j % size = j := by rw [Nat.mul_comm]; exact Nat.div_add_mod j size
        rw [hjj, hu] at e
        have hc := hcell (j / size) _ (j % size) hxq hr
        rw [← e, addr_plain, addr_plain, Nat.add_assoc, hjj] at hc
        exact hc
    · intro x hx
      obtain ⟨i, hi', he⟩ := List.getElem_of_mem hx
      exact (hp i x (by rw [List.getElem?_eq_getElem hi', he])).2
end
section
variable {H : Type} {enc : TypeId × Value → H} {P : Program} {w : World}
theorem arg_row_w {t e : TypeId} {v : Value} {d : DataW H} {p : List MemPlace} {r : Reach} {b0 : Nat} (ht : P.underlying t = some (.slice e)) (size : Nat) (hC : P.cellsOf e = size) (hpos : 0 < size)
    {α : Type} (f : α → List Value) (good : α → Prop) (B : Nat)
    (hel : ∀ n cs y, DataW.trod enc P w 0 (fun _ => true) true n e cs = some y → (∀ m ∈ y.1.weights P e, m ≤ B) → ∃ a, cs = f a ∧ good a)
    (hv : Value.okWide P w r b0 t v) (h : DataW.Trod enc P w 0 (fun _ => true) true t v d p) (hB : ∀ m ∈ d.weights P t, m ≤ B) :
    ∃ (ao : Option Addr) (cap : Nat) (l : List α), v = .slice ao l.length cap ∧ l.length ≤ cap ∧ ArgRow w size (.slice ao l.length cap) f good l ∧ l.length * P.bytesOf e ≤ B := by
  obtain ⟨a, len, cap, rfl⟩ := okWide_slice ht hv
  obtain ⟨fuel, hf⟩ := h
  obtain ⟨l, hl, hw⟩ := open_row_w ht size hC hpos f good B hel (v := .slice a len cap) hf hB
  have hlen : len = l.length ∧ l.length ≤ cap := by
    rcases hl.reads.form with ⟨h0, ao, c, e⟩ | ⟨b, off, c, e, hc, _⟩
    · cases e
      exact ⟨h0.symm, by omega⟩
    · cases e
      exact ⟨rfl, hc⟩
  obtain ⟨rfl, hc⟩ := hlen
  exact ⟨a, cap, l, rfl, hc, hl, hw⟩
end
end Go.Proofs.Ytkpjfdhjkgdcbaa
