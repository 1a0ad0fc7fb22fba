/- What chapter 22's laws are handed: versions, tables, what is guarded. -/
import Derived.Test.YteiaifhnikknbaaDoorBase
import Derived.Deep.Slices
import Derived.ProofKit
import Derived.OpenShut
import Derived.Test.YteiaifhnikknbaaDoorStRight
import Derived.Test.YteiaifhnikknbaaDoorRef22d
/- Arguments that are slices, opened to rows of cells: whatever the element's type. -/
namespace Go.Proofs.YteiaifhnikknbaaDoor
open Go.RowKit Go.ChangeShapes Go.WideShapes Go.Deep

/-- 'xs[:min(len(xs), K)]': how many there are, as the walk spells it. -/
theorem cut_min (K n : Nat) : ∃ m : Nat, (if (K : Int) < (n : Int) then (K : Int) else (n : Int)) = (m : Int) ∧ m ≤ n ∧ m ≤ K ∧ m = min n K := by
  refine ⟨min n K, ?_, by omega, by omega, rfl⟩
  split <;> omega

section
variable {H : Type} {enc : TypeId × Value → H} {P : Program} {w : World} {base : Nat} {spare : Nat → Bool} {held : Bool}

/-- The fields of a struct that reads as data: each one's cells, and that they read. -/
theorem trod_fields {t : TypeId} {fs : Array Field} {fuel : Nat} {cs : List Value} {x : DataW H × List MemPlace} (ht : P.underlying t = some (.struct fs)) (h : DataW.trod enc P w base spare held fuel t cs = some x) :
    ∃ n, cs.length = P.cellsOf t ∧ ∀ (i : Nat) (f : Field), fs[i]? = some f → ∃ y, DataW.trod enc P w base spare held n f.type ((cs.drop f.offset).take (P.cellsOf f.type)) = some y := by
  obtain ⟨xs, n, _, _, hl, hx, hf⟩ := DataW.trod_struct ht h
  refine ⟨n, hl, fun i f hi => ?_⟩
  have hlt : i < xs.length := by rw [hx]; exact (Array.getElem?_eq_some_iff.1 hi).1
  exact ⟨xs[i], by rw [hf i f hi]; exact List.getElem?_eq_getElem hlt⟩

theorem field_at {fs : Array Field} {m : Nat} {cs : List Value} (hf : ∀ (i : Nat) (f : Field), fs[i]? = some f → ∃ y, DataW.trod enc P w base spare held m f.type ((cs.drop f.offset).take (P.cellsOf f.type)) = some y)
    (i : Nat) (f : Field) (hi : fs[i]? = some f) (T off c : Nat) (hT : f.type = T) (ho : f.offset = off) (hc : P.cellsOf T = c) : ∃ y, DataW.trod enc P w base spare held m T ((cs.drop off).take c) = some y := by
  subst hT; subst ho; subst hc
  exact hf i f hi

theorem flatMap_get {α : Type} (f : α → List Value) (size : Nat) (l : List α) (hf : ∀ x ∈ l, (f x).length = size) : ∀ (i j : Nat) (x : α), l[i]? = some x → j < size → (l.flatMap f)[i * size + j]? = (f x)[j]? := by
  induction l with
  | nil => intro i j x h; simp at h
  | cons a l ih =>
    intro i j x h hj
    have ha : (f a).length = size := hf a (by simp)
    rw [List.flatMap_cons]
    cases i with
    | zero =>
      simp at h
      subst h
      rw [Nat.zero_mul, Nat.zero_add, List.getElem?_append_left (by omega)]
    | succ i =>
      rw [List.getElem?_append_right (by rw [ha, Nat.succ_mul]; omega), ha]
      have := ih (fun y hy => hf y (by simp [hy])) i j x (by simpa using h) hj
      rw [← this]
      congr 1
      rw [Nat.succ_mul]; omega

theorem flatMap_len {α : Type} (f : α → List Value) (size : Nat) (l : List α) (hf : ∀ x ∈ l, (f x).length = size) : (l.flatMap f).length = l.length * size := by
  induction l with
  | nil => simp
  | cons a l ih =>
    rw [List.flatMap_cons, List.length_append, ih (fun y hy => hf y (by simp [hy])), hf a (by simp), List.length_cons, Nat.succ_mul]
    omega

/-- What is known of an argument that is a slice of things of α. -/
structure ArgRow (w : World) (size : Nat) (v : Value) {α : Type} (f : α → List Value) (good : α → Prop) (l : List α) : Prop where
  reads : Reads w size v l.length (l.flatMap f)
  good : ∀ x ∈ l, good x
  max : l.length ≤ maxLen
  size : ∀ x ∈ l, (f x).length = size

theorem choose_list {α : Type} (n : Nat) (p : Nat → α → Prop) (h : ∀ i, i < n → ∃ x, p i x) : ∃ l : List α, l.length = n ∧ ∀ i x, l[i]? = some x → p i x := by
  induction n with
  | zero => exact ⟨[], rfl, fun i x h => by simp at h⟩
  | succ n ih =>
    obtain ⟨l, hl, hp⟩ := ih fun i hi => h i (by omega)
    obtain ⟨x, hx⟩ := h n (by omega)
    refine ⟨l ++ [x], by simp [hl], fun i y hy => ?_⟩
    rcases Nat.lt_or_ge i l.length with hi | hi
    · rw [List.getElem?_append_left hi] at hy
      exact hp i y hy
    · rw [List.getElem?_append_right hi] at hy
      have : i - l.length = 0 := by
        rcases Nat.eq_zero_or_pos (i - l.length) with h0 | h0
        · exact h0
        · rw [List.getElem?_eq_none (by simp; omega)] at hy; cases hy
      rw [this] at hy
      simp at hy
      subst hy
      have : i = n := by omega
      subst this
      exact hx

/-- AN ARGUMENT THAT IS A SLICE: its cells, element by element. -/
theorem open_row {t e : TypeId} {fuel : Nat} {v : Value} {x : DataW H × List MemPlace} (ht : P.underlying t = some (.slice e)) (size : Nat) (hC : P.cellsOf e = size) (hpos : 0 < size)
    {α : Type} (f : α → List Value) (good : α → Prop)
    (hel : ∀ n cs y, DataW.trod enc P w base spare held n e cs = some y → ∃ a, cs = f a ∧ good a)
    (h : DataW.trod enc P w base spare held fuel t [v] = some x) : ∃ l : List α, ArgRow w size v f good l := by
  rcases open_slice ht h with ⟨hcs, _⟩ | ⟨a, len, cap, m, n, D, Pl, hcs, hb, hl, hm, hmm, hx, hi⟩
  · simp at hcs
    subst hcs
    exact ⟨[], ⟨⟨by simp, .inl ⟨rfl, _, _, rfl⟩⟩, by simp, Nat.zero_le _, by simp⟩⟩
  · simp at hcs
    subst hcs
    have hlm : len ≤ m := by rw [hmm]; split <;> omega
    obtain ⟨l, hlen, hp⟩ := choose_list len (fun i x => w.cells? base (a.add (i * size)) size = some (f x) ∧ good x) (fun i hil => by
      obtain ⟨cs', h1, h2⟩ := hi i (by omega)
      obtain ⟨x, rfl, hg⟩ := hel _ _ _ h2
      rw [hC] at h1
      exact ⟨x, h1, hg⟩)
    have hsz : ∀ x ∈ l, (f x).length = size := by
      intro x hx
      obtain ⟨i, hi', he⟩ := List.getElem_of_mem hx
      exact (World.cells?_some (hp i x (by rw [List.getElem?_eq_getElem hi', he])).1).2.1
    refine ⟨l, ⟨⟨flatMap_len f size l hsz, ?_⟩, ?_, by rw [hlen]; omega, hsz⟩⟩
    · rcases Nat.eq_zero_or_pos len with h0 | h0
      · exact .inl ⟨by omega, _, _, by rw [h0]⟩
      · have hcell : ∀ i x j, l[i]? = some x → j < size → w.cell? ((a.add (i * size)).add j) = (f x)[j]? := fun i x j hx hj => (World.cells?_some (hp i x hx).1).2.2 j hj
        have hsp : a.spot = none := by
          have hx0 : l[0]? = some l[0] := List.getElem?_eq_getElem (by omega)
          have := hcell 0 l[0] 0 hx0 hpos
          have hf0 : (f l[0])[0]? = some ((f l[0])[0]'(by rw [hsz _ (List.getElem_mem _)]; exact hpos)) := List.getElem?_eq_getElem _
          rw [hf0] at this
          simp only [Nat.zero_mul] at this
          unfold Addr.add at this
          simp only [if_true] at this
          unfold World.cell? at this
          split at this
          · split at this
            · cases this
            · rename_i hns; simpa using hns
          · cases this
        obtain ⟨b, off, spot⟩ := a
        simp only at hsp
        subst hsp
        refine .inr ⟨b, off, cap, by rw [hlen], by rw [hlen]; omega, fun j u hu => ?_⟩
        have hj : j < (l.flatMap f).length := (List.getElem?_eq_some_iff.1 hu).1
        rw [flatMap_len f size l hsz] at hj
        have hq : j / size < l.length := Nat.div_lt_of_lt_mul (by rw [Nat.mul_comm]; exact hj)
        have hxq : l[j / size]? = some l[j / size] := List.getElem?_eq_getElem hq
        have hr : j % size < size := Nat.mod_lt _ hpos
        have e := flatMap_get f size l hsz (j / size) (j % size) _ hxq hr
        have hjj : j / size * size + j % size = j := by rw [Nat.mul_comm]; exact Nat.div_add_mod j size
        rw [hjj, hu] at e
        have hc := hcell (j / size) _ (j % size) hxq hr
        rw [← e, addr_plain, addr_plain, Nat.add_assoc, hjj] at hc
        exact hc
    · intro x hx
      obtain ⟨i, hi', he⟩ := List.getElem_of_mem hx
      exact (hp i x (by rw [List.getElem?_eq_getElem hi', he])).2
end

section
variable {H : Type} {enc : TypeId × Value → H} {P : Program} {w : World}
/-- AN ARGUMENT THAT IS A SLICE, as the row hands it over. -/
theorem arg_row {t e : TypeId} {v : Value} {d : DataW H} {p : List MemPlace} {r : Reach} {b0 : Nat} (ht : P.underlying t = some (.slice e)) (size : Nat) (hC : P.cellsOf e = size) (hpos : 0 < size)
    {α : Type} (f : α → List Value) (good : α → Prop)
    (hel : ∀ n cs y, DataW.trod enc P w 0 (fun _ => true) true n e cs = some y → ∃ a, cs = f a ∧ good a)
    (hv : Value.okWide P w r b0 t v) (h : DataW.Trod enc P w 0 (fun _ => true) true t v d p) :
    ∃ (ao : Option Addr) (cap : Nat) (l : List α), v = .slice ao l.length cap ∧ l.length ≤ cap ∧ ArgRow w size (.slice ao l.length cap) f good l := by
  obtain ⟨a, len, cap, rfl⟩ := okWide_slice ht hv
  obtain ⟨fuel, hf⟩ := h
  obtain ⟨l, hl⟩ := open_row ht size hC hpos f good hel (v := .slice a len cap) hf
  have hlen : len = l.length ∧ l.length ≤ cap := by
    rcases hl.reads.form with ⟨h0, ao, c, e⟩ | ⟨b, off, c, e, hc, _⟩
    · cases e
      exact ⟨h0.symm, by omega⟩
    · cases e
      exact ⟨rfl, hc⟩
  obtain ⟨rfl, hc⟩ := hlen
  exact ⟨a, cap, l, rfl, hc, hl⟩
end

end Go.Proofs.YteiaifhnikknbaaDoor

/- Numbers that come in, in slices. -/
namespace Go.Proofs.YteiaifhnikknbaaDoor
open Go.RowKit Go.ChangeShapes Go.WideShapes Go.Deep

/-- A number that fits its kind. -/
def fits (k : IntKind) (n : Int) : Prop := (Lit.int k n).wf = true
theorem fits_u8 {m : Int} (h : fits .u8 m) : 0 ≤ m ∧ m ≤ 255 := by
  have h' : (Lit.int .u8 m).wf = true := h
  simp [Lit.wf, IntKind.min, IntKind.max, IntKind.signed, IntKind.bits] at h'
  omega
theorem fits_u16 {m : Int} (h : fits .u16 m) : 0 ≤ m ∧ m ≤ 65535 := by
  have h' : (Lit.int .u16 m).wf = true := h
  simp [Lit.wf, IntKind.min, IntKind.max, IntKind.signed, IntKind.bits] at h'
  omega
theorem fits_u32 {m : Int} (h : fits .u32 m) : 0 ≤ m ∧ m ≤ 4294967295 := by
  have h' : (Lit.int .u32 m).wf = true := h
  simp [Lit.wf, IntKind.min, IntKind.max, IntKind.signed, IntKind.bits] at h'
  omega
theorem fits_i64 {m : Int} (h : fits .i64 m) : -9223372036854775808 ≤ m ∧ m ≤ 9223372036854775807 := by
  have h' : (Lit.int .i64 m).wf = true := h
  simp [Lit.wf, IntKind.min, IntKind.max, IntKind.signed, IntKind.bits] at h'
  omega
theorem fits_u64 {m : Int} (h : fits .u64 m) : 0 ≤ m ∧ m ≤ 18446744073709551615 := by
  have h' : (Lit.int .u64 m).wf = true := h
  simp [Lit.wf, IntKind.min, IntKind.max, IntKind.signed, IntKind.bits] at h'
  omega

/-- An element's cells, where it lies. -/
theorem ArgRow.cell {w : World} {size : Nat} {ao : Option Addr} {cap : Nat} {α : Type} {f : α → List Value} {good : α → Prop} {l : List α} (h : ArgRow w size (.slice ao l.length cap) f good l) {wr : World} (hb : Below w.heap.size w wr) (hpos : 0 < size) (k : Nat) (hk : k < l.length) :
    ∃ b off, ao = some ⟨b, off, none⟩ ∧ ∀ j u, (f l[k])[j]? = some u → wr.cell? ⟨b, off + k * size + j, none⟩ = some u := by
  have hr := h.reads.below hb
  have hlen := hr.len
  have hl : (l.flatMap f).length = l.length * size := flatMap_len f size l h.size
  rcases hr.form with ⟨h0, _⟩ | ⟨b, off, c', e, _, hc⟩
  · omega
  · cases e
    refine ⟨b, off, rfl, fun j u hu => ?_⟩
    have hj : j < size := by
      have := (List.getElem?_eq_some_iff.1 hu).1
      rw [h.size _ (List.getElem_mem _)] at this
      exact this
    have e := flatMap_get f size l h.size k j l[k] (List.getElem?_eq_getElem hk) hj
    rw [hu] at e
    have := hc _ _ e
    rw [← Nat.add_assoc] at this
    exact this
end Go.Proofs.YteiaifhnikknbaaDoor

/- What chapter 22's laws are handed: configurations, versions, tables, what is guarded. -/
namespace Go.Proofs.YteiaifhnikknbaaDoor
open Go.RowKit Go.ChangeShapes Go.WideShapes Go.Deep

section
variable {H : Type} {enc : TypeId × Value → H} {w : World} {base : Nat} {spare : Nat → Bool} {held : Bool}
theorem cells_u32 : Tryd.prog.cellsOf 107 = 1 := by kernel_rfl
theorem cells_u64 : Tryd.prog.cellsOf 23 = 1 := by kernel_rfl
theorem cells_int : Tryd.prog.cellsOf 3 = 1 := by kernel_rfl
theorem cells_bool : Tryd.prog.cellsOf 4 = 1 := by kernel_rfl
theorem cells_u32r : Tryd.prog.cellsOf 47 = 1 := by kernel_rfl
theorem cells_cfg : Tryd.prog.cellsOf 49 = 6 := by kernel_rfl
theorem el_u32 (n : Nat) (cs : List Value) (y : DataW H × List MemPlace) (h : DataW.trod enc Tryd.prog w base spare held n 107 cs = some y) : ∃ c : Int, cs = [.int .u32 c] ∧ 0 ≤ c ∧ c < 4294967296 := by
  obtain ⟨m, rfl, _, hw⟩ := DataW.trod_int Tryd.underlying107 h
  have hb := fits_u32 hw
  exact ⟨m, rfl, by omega, by omega⟩
theorem u32s_flat (b : List Int) : b.flatMap (fun c => [Value.int .u32 c]) = u32s b := by
  induction b with
  | nil => rfl
  | cons a b ih => rw [List.flatMap_cons, ih]; rfl
set_option maxRecDepth 100000 in
theorem el_u32r (n : Nat) (v : Value) (y : DataW H × List MemPlace) (h : DataW.trod enc Tryd.prog w base spare held n 47 [v] = some y) : ∃ l : List Int, Reads w 1 v l.length (u32s l) ∧ (∀ x ∈ l, 0 ≤ x ∧ x < 4294967296) ∧ l.length ≤ maxLen := by
  obtain ⟨l, hl⟩ := open_row Tryd.underlying47 1 cells_u32 (by decide) (fun c : Int => [Value.int .u32 c]) (fun c => 0 ≤ c ∧ c < 4294967296) (fun _ _ _ h => el_u32 _ _ _ h) h
  exact ⟨l, by have := hl.reads; rwa [u32s_flat] at this, hl.good, hl.max⟩
/-- A configuration that came in. -/
structure CfgArg (w : World) (K : Cfg) (sh : Value) : Prop where
  reads : Reads w 1 sh K.heights.length (u32s K.heights)
  wf : K.Wf
  good : ∀ x ∈ K.heights, 0 ≤ x ∧ x < 4294967296
set_option maxRecDepth 100000 in
theorem arg_cfg {v : Value} {d : DataW H} {p : List MemPlace} {r : Reach} {b0 : Nat} (hv : Value.okWide Tryd.prog w r b0 49 v) (h : DataW.Trod enc Tryd.prog w 0 (fun _ => true) true 49 v d p) :
    ∃ (K : Cfg) (sh : Value), v = .agg (cfC K sh).toArray ∧ CfgArg w K sh := by
  obtain ⟨cs, rfl, hsz⟩ := okWide_struct Tryd.underlying49 hv
  obtain ⟨fuel, hf0⟩ := h
  obtain ⟨l⟩ := cs
  obtain ⟨m, hl, hf⟩ := trod_fields Tryd.underlying49 hf0
  rw [cells_cfg] at hsz
  match l, hsz with
  | [c0, c1, c2, c3, c4, c5], _ =>
    obtain ⟨y0, h0⟩ := field_at hf 0 _ rfl 23 0 1 rfl rfl cells_u64
    obtain ⟨y1, h1⟩ := field_at hf 1 _ rfl 3 1 1 rfl rfl cells_int
    obtain ⟨y2, h2⟩ := field_at hf 2 _ rfl 3 2 1 rfl rfl cells_int
    obtain ⟨y3, h3⟩ := field_at hf 3 _ rfl 3 3 1 rfl rfl cells_int
    obtain ⟨y4, h4⟩ := field_at hf 4 _ rfl 4 4 1 rfl rfl cells_bool
    obtain ⟨y5, h5⟩ := field_at hf 5 _ rfl 47 5 1 rfl rfl cells_u32r
    obtain ⟨a0, e0, _, w0⟩ := DataW.trod_int Tryd.underlying23 h0
    obtain ⟨a1, e1, _, w1⟩ := DataW.trod_int Tryd.underlying3 h1
    obtain ⟨a2, e2, _, w2⟩ := DataW.trod_int Tryd.underlying3 h2
    obtain ⟨a3, e3, _, w3⟩ := DataW.trod_int Tryd.underlying3 h3
    obtain ⟨a4, e4, _⟩ := DataW.trod_bool Tryd.underlying4 h4
    obtain ⟨hs, hr, hg, hm⟩ := el_u32r m c5 y5 h5
    simp [Value.cells] at e0 e1 e2 e3 e4
    subst e0; subst e1; subst e2; subst e3; subst e4
    unfold maxLen at hm
    exact ⟨⟨a0, a1, a2, a3, a4, hs⟩, c5, rfl, hr, ⟨fits_u64 w0, hm⟩, hg⟩
end
end Go.Proofs.YteiaifhnikknbaaDoor


namespace Go.Proofs.YteiaifhnikknbaaDoor
open Go.RowKit Go.ChangeShapes Go.WideShapes Go.Deep

section
variable {H : Type} {enc : TypeId × Value → H} {w : World} {base : Nat} {spare : Nat → Bool} {held : Bool}
theorem cells_str : Tryd.prog.cellsOf 9 = 1 := by kernel_rfl
theorem cells_u8_ : Tryd.prog.cellsOf 5 = 1 := by kernel_rfl
theorem cells_err : Tryd.prog.cellsOf 27 = 1 := by kernel_rfl
theorem cells_mb : Tryd.prog.cellsOf 92 = 6 := by kernel_rfl
theorem cells_im : Tryd.prog.cellsOf 94 = 2 := by kernel_rfl
theorem cells_mt : Tryd.prog.cellsOf 37 = 4 := by kernel_rfl
theorem cells_ln : Tryd.prog.cellsOf 26 = 3 := by kernel_rfl
theorem cells_vr : Tryd.prog.cellsOf 51 = 4 := by kernel_rfl
theorem cells_gd : Tryd.prog.cellsOf 31 = 11 := by kernel_rfl
theorem cells_mbr : Tryd.prog.cellsOf 24 = 1 := by kernel_rfl
theorem cells_imr : Tryd.prog.cellsOf 28 = 1 := by kernel_rfl
theorem cells_mtr : Tryd.prog.cellsOf 29 = 1 := by kernel_rfl
def MbFits (a : Mbr) : Prop := fits .i64 a.task ∧ fits .i64 a.ops ∧ fits .u64 a.need ∧ fits .u64 a.first ∧ fits .u8 a.say ∧ fits .i64 a.err
set_option maxRecDepth 100000 in
theorem el_mb (n : Nat) (cs : List Value) (y : DataW H × List MemPlace) (h : DataW.trod enc Tryd.prog w base spare held n 92 cs = some y) : ∃ a : Mbr, cs = a.cells ∧ MbFits a := by
  obtain ⟨m, hl, hf⟩ := trod_fields Tryd.underlying92 h
  rw [cells_mb] at hl
  match cs, hl with
  | [c0, c1, c2, c3, c4, c5], _ =>
    obtain ⟨y0, h0⟩ := field_at hf 0 _ rfl 3 0 1 rfl rfl cells_int
    obtain ⟨y1, h1⟩ := field_at hf 1 _ rfl 3 1 1 rfl rfl cells_int
    obtain ⟨y2, h2⟩ := field_at hf 2 _ rfl 23 2 1 rfl rfl cells_u64
    obtain ⟨y3, h3⟩ := field_at hf 3 _ rfl 23 3 1 rfl rfl cells_u64
    obtain ⟨y4, h4⟩ := field_at hf 4 _ rfl 5 4 1 rfl rfl cells_u8_
    obtain ⟨y5, h5⟩ := field_at hf 5 _ rfl 27 5 1 rfl rfl cells_err
    obtain ⟨n0, e0, _, w0⟩ := DataW.trod_int Tryd.underlying3 h0
    obtain ⟨n1, e1, _, w1⟩ := DataW.trod_int Tryd.underlying3 h1
    obtain ⟨n2, e2, _, w2⟩ := DataW.trod_int Tryd.underlying23 h2
    obtain ⟨n3, e3, _, w3⟩ := DataW.trod_int Tryd.underlying23 h3
    obtain ⟨n4, e4, _, w4⟩ := DataW.trod_int Tryd.underlying5 h4
    obtain ⟨n5, e5, _, w5⟩ := DataW.trod_int Tryd.underlying27 h5
    simp at e0 e1 e2 e3 e4 e5
    subst e0; subst e1; subst e2; subst e3; subst e4; subst e5
    exact ⟨⟨n0, n1, n2, n3, n4, n5⟩, rfl, ⟨w0, w1, w2, w3, w4, w5⟩⟩
set_option maxRecDepth 100000 in
theorem el_im (n : Nat) (cs : List Value) (y : DataW H × List MemPlace) (h : DataW.trod enc Tryd.prog w base spare held n 94 cs = some y) : ∃ a : Imm, cs = a.cells ∧ (fits .i64 a.list ∧ fits .u64 a.log) := by
  obtain ⟨m, hl, hf⟩ := trod_fields Tryd.underlying94 h
  rw [cells_im] at hl
  match cs, hl with
  | [c0, c1], _ =>
    obtain ⟨y0, h0⟩ := field_at hf 0 _ rfl 3 0 1 rfl rfl cells_int
    obtain ⟨y1, h1⟩ := field_at hf 1 _ rfl 23 1 1 rfl rfl cells_u64
    obtain ⟨n0, e0, _, w0⟩ := DataW.trod_int Tryd.underlying3 h0
    obtain ⟨n1, e1, _, w1⟩ := DataW.trod_int Tryd.underlying23 h1
    simp at e0 e1
    subst e0; subst e1
    exact ⟨⟨n0, n1⟩, rfl, ⟨w0, w1⟩⟩
def MtFits (a : Meta) : Prop := fits .u64 a.num ∧ fits .u64 a.size ∧ a.least.size ≤ maxLen ∧ a.most.size ≤ maxLen
set_option maxRecDepth 100000 in
theorem el_mt (n : Nat) (cs : List Value) (y : DataW H × List MemPlace) (h : DataW.trod enc Tryd.prog w base spare held n 37 cs = some y) : ∃ a : Meta, cs = a.cells ∧ MtFits a := by
  obtain ⟨m, hl, hf⟩ := trod_fields Tryd.underlying37 h
  rw [cells_mt] at hl
  match cs, hl with
  | [c0, c1, c2, c3], _ =>
    obtain ⟨y0, h0⟩ := field_at hf 0 _ rfl 23 0 1 rfl rfl cells_u64
    obtain ⟨y1, h1⟩ := field_at hf 1 _ rfl 23 1 1 rfl rfl cells_u64
    obtain ⟨y2, h2⟩ := field_at hf 2 _ rfl 9 2 1 rfl rfl cells_str
    obtain ⟨y3, h3⟩ := field_at hf 3 _ rfl 9 3 1 rfl rfl cells_str
    obtain ⟨n0, e0, _, w0⟩ := DataW.trod_int Tryd.underlying23 h0
    obtain ⟨n1, e1, _, w1⟩ := DataW.trod_int Tryd.underlying23 h1
    obtain ⟨n2, e2, _, w2⟩ := DataW.trod_string Tryd.underlying9 h2
    obtain ⟨n3, e3, _, w3⟩ := DataW.trod_string Tryd.underlying9 h3
    simp at e0 e1 e2 e3
    subst e0; subst e1; subst e2; subst e3
    exact ⟨⟨n0, n1, n2, n3⟩, rfl, ⟨w0, w1, w2, w3⟩⟩
set_option maxRecDepth 100000 in
theorem el_mbr (n : Nat) (v : Value) (y : DataW H × List MemPlace) (h : DataW.trod enc Tryd.prog w base spare held n 24 [v] = some y) : ∃ l : List Mbr, ArgRow w 6 v Mbr.cells MbFits l :=
  open_row Tryd.underlying24 6 cells_mb (by decide) Mbr.cells MbFits (fun _ _ _ h => el_mb _ _ _ h) h
set_option maxRecDepth 100000 in
theorem el_imr (n : Nat) (v : Value) (y : DataW H × List MemPlace) (h : DataW.trod enc Tryd.prog w base spare held n 28 [v] = some y) : ∃ l : List Imm, ArgRow w 2 v Imm.cells (fun a => fits .i64 a.list ∧ fits .u64 a.log) l :=
  open_row Tryd.underlying28 2 cells_im (by decide) Imm.cells _ (fun _ _ _ h => el_im _ _ _ h) h
set_option maxRecDepth 100000 in
theorem el_mtr (n : Nat) (v : Value) (y : DataW H × List MemPlace) (h : DataW.trod enc Tryd.prog w base spare held n 29 [v] = some y) : ∃ l : List Meta, ArgRow w 4 v Meta.cells MtFits l :=
  open_row Tryd.underlying29 4 cells_mt (by decide) Meta.cells MtFits (fun _ _ _ h => el_mt _ _ _ h) h
theorem field_list {fs : Array Field} {m : Nat} {cs : List Value} (hf : ∀ (i : Nat) (f : Field), fs[i]? = some f → ∃ y, DataW.trod enc Tryd.prog w base spare held m f.type ((cs.drop f.offset).take (Tryd.prog.cellsOf f.type)) = some y)
    (i : Nat) (f : Field) (hi : fs[i]? = some f) (T off c : Nat) (hT : f.type = T) (ho : f.offset = off) (hc : Tryd.prog.cellsOf T = c) : ∃ y, DataW.trod enc Tryd.prog w base spare held m T ((cs.drop off).take c) = some y := field_at hf i f hi T off c hT ho hc

/-- A version that came in. -/
structure VerArg (w : World) (V : Ver) (st : Value) : Prop where
  reads : Reads w 4 st V.tables.length (mts V.tables)
  max : V.tables.length ≤ maxLen
  log : fits .u64 V.log
  last : fits .u64 V.last
  next : fits .u64 V.next
set_option maxRecDepth 100000 in
theorem arg_ver {v : Value} {d : DataW H} {p : List MemPlace} {r : Reach} {b0 : Nat} (hv : Value.okWide Tryd.prog w r b0 51 v) (h : DataW.Trod enc Tryd.prog w 0 (fun _ => true) true 51 v d p) :
    ∃ (V : Ver) (st : Value), v = .agg (vrC V st).toArray ∧ VerArg w V st := by
  obtain ⟨cs, rfl, hsz⟩ := okWide_struct Tryd.underlying51 hv
  obtain ⟨fuel, hf0⟩ := h
  obtain ⟨l⟩ := cs
  obtain ⟨m, hl, hf⟩ := trod_fields Tryd.underlying51 hf0
  rw [cells_vr] at hsz
  match l, hsz with
  | [c0, c1, c2, c3], _ =>
    obtain ⟨y0, h0⟩ := field_at hf 0 _ rfl 29 0 1 rfl rfl cells_mtr
    obtain ⟨y1, h1⟩ := field_at hf 1 _ rfl 23 1 1 rfl rfl cells_u64
    obtain ⟨y2, h2⟩ := field_at hf 2 _ rfl 23 2 1 rfl rfl cells_u64
    obtain ⟨y3, h3⟩ := field_at hf 3 _ rfl 23 3 1 rfl rfl cells_u64
    obtain ⟨a1, e1, _, w1⟩ := DataW.trod_int Tryd.underlying23 h1
    obtain ⟨a2, e2, _, w2⟩ := DataW.trod_int Tryd.underlying23 h2
    obtain ⟨a3, e3, _, w3⟩ := DataW.trod_int Tryd.underlying23 h3
    obtain ⟨ts, ht⟩ := el_mtr m c0 y0 h0
    simp [Value.cells] at e1 e2 e3
    subst e1; subst e2; subst e3
    exact ⟨⟨ts, a1, a2, a3⟩, c0, rfl, ht.reads, ht.max, w1, w2, w3⟩

/-- What is guarded, that came in. -/
structure GdArg (w : World) (G : Gd) (sl sd si st : Value) : Prop where
  gr : GR w G sl sd si st
  last : fits .u64 G.last
  log : fits .u64 G.log
  next : fits .u64 G.next
  mem : fits .i64 G.mem
  bad : fits .i64 G.bad
  l : ∀ a ∈ G.l, fits .i64 a.ops
  t : ∀ a ∈ G.tables, fits .u64 a.num
  i : ∀ a ∈ G.imms, fits .u64 a.log
set_option maxRecDepth 100000 in
set_option maxHeartbeats 1000000 in
theorem arg_gd {v : Value} {d : DataW H} {p : List MemPlace} {r : Reach} {b0 : Nat} (hv : Value.okWide Tryd.prog w r b0 31 v) (h : DataW.Trod enc Tryd.prog w 0 (fun _ => true) true 31 v d p) :
    ∃ (G : Gd) (sl sd si st : Value), v = .agg (gC G sl sd si st).toArray ∧ GdArg w G sl sd si st := by
  obtain ⟨cs, rfl, hsz⟩ := okWide_struct Tryd.underlying31 hv
  obtain ⟨fuel, hf0⟩ := h
  obtain ⟨l⟩ := cs
  obtain ⟨m, hl, hf⟩ := trod_fields Tryd.underlying31 hf0
  rw [cells_gd] at hsz
  match l, hsz with
  | [c0, c1, c2, c3, c4, c5, c6, c7, c8, c9, c10], _ =>
    obtain ⟨yl, hln⟩ := field_at hf 0 _ rfl 26 0 3 rfl rfl cells_ln
    obtain ⟨y3, h3⟩ := field_at hf 1 _ rfl 23 3 1 rfl rfl cells_u64
    obtain ⟨y4, h4⟩ := field_at hf 2 _ rfl 27 4 1 rfl rfl cells_err
    obtain ⟨y5, h5⟩ := field_at hf 3 _ rfl 3 5 1 rfl rfl cells_int
    obtain ⟨y6, h6⟩ := field_at hf 4 _ rfl 28 6 1 rfl rfl cells_imr
    obtain ⟨y7, h7⟩ := field_at hf 5 _ rfl 23 7 1 rfl rfl cells_u64
    obtain ⟨y8, h8⟩ := field_at hf 6 _ rfl 23 8 1 rfl rfl cells_u64
    obtain ⟨y9, h9⟩ := field_at hf 7 _ rfl 29 9 1 rfl rfl cells_mtr
    obtain ⟨y10, h10⟩ := field_at hf 8 _ rfl 4 10 1 rfl rfl cells_bool
    obtain ⟨m2, hl2, hf2⟩ := trod_fields Tryd.underlying26 hln
    obtain ⟨y0, h0⟩ := field_at hf2 0 _ rfl 24 0 1 rfl rfl cells_mbr
    obtain ⟨y1, h1⟩ := field_at hf2 1 _ rfl 24 1 1 rfl rfl cells_mbr
    obtain ⟨y2, h2⟩ := field_at hf2 2 _ rfl 3 2 1 rfl rfl cells_int
    obtain ⟨a2, e2, _, w2⟩ := DataW.trod_int Tryd.underlying3 h2
    obtain ⟨a3, e3, _, w3⟩ := DataW.trod_int Tryd.underlying23 h3
    obtain ⟨a4, e4, _, w4⟩ := DataW.trod_int Tryd.underlying27 h4
    obtain ⟨a5, e5, _, w5⟩ := DataW.trod_int Tryd.underlying3 h5
    obtain ⟨a7, e7, _, w7⟩ := DataW.trod_int Tryd.underlying23 h7
    obtain ⟨a8, e8, _, w8⟩ := DataW.trod_int Tryd.underlying23 h8
    obtain ⟨a10, e10, _⟩ := DataW.trod_bool Tryd.underlying4 h10
    obtain ⟨l0, r0⟩ := el_mbr m2 c0 y0 h0
    obtain ⟨l1, r1⟩ := el_mbr m2 c1 y1 h1
    obtain ⟨l6, r6⟩ := el_imr m c6 y6 h6
    obtain ⟨l9, r9⟩ := el_mtr m c9 y9 h9
    simp [Value.cells] at e2 e3 e4 e5 e7 e8 e10
    subst e2; subst e3; subst e4; subst e5; subst e7; subst e8; subst e10
    exact ⟨⟨l0, l1, a2, a3, a4, a5, l6, a7, a8, l9, a10⟩, c0, c1, c6, c9, rfl, ⟨r0.reads, r1.reads, r6.reads, r9.reads⟩, w3, w7, w8, w5, w4, fun a h => (r0.good a h).2.1, fun a h => (r9.good a h).1, fun a h => (r6.good a h).2⟩

set_option maxRecDepth 100000 in
theorem arg_mt {v : Value} {d : DataW H} {p : List MemPlace} {r : Reach} {b0 : Nat} (hv : Value.okWide Tryd.prog w r b0 37 v) (h : DataW.Trod enc Tryd.prog w 0 (fun _ => true) true 37 v d p) :
    ∃ M : Meta, v = .agg (mtC M).toArray := by
  obtain ⟨cs, rfl, hsz⟩ := okWide_struct Tryd.underlying37 hv
  obtain ⟨fuel, hf0⟩ := h
  obtain ⟨l⟩ := cs
  obtain ⟨M, e, _⟩ := el_mt fuel l _ hf0
  exact ⟨M, by rw [e]; rfl⟩
end
end Go.Proofs.YteiaifhnikknbaaDoor
