/- Law 22 StoreGuards: Get with the answer's rows, Lock and Unlock of a mutex that nobody, or one, holds. -/
import Derived.Test.YteiaifhnikknbaaDoorBase
import Derived.Test.YteiaifhnikknbaaDoorTellsA
import Derived.IntWalk
/- Worlds whose old blocks are as they were but for some cells. Plain lemmas. -/
namespace Go.Proofs.YteiaifhnikknbaaDoor
open Go.RowKit

def modObj (μ : Nat → Nat → Option Value) (k : Nat) : Obj → Obj
  | .cells cs t fr => .cells (cs.mapIdx fun j v => (μ k j).getD v) t fr
  | o => o
/-- Below N, x is w with these cells written. -/
structure Mods (N : Nat) (w x : World) (μ : Nat → Nat → Option Value) : Prop where
  at_ : ∀ k, k < N → x.heap[k]? = (w.heap[k]?).map (modObj μ k)
variable {N : Nat} {w x y : World} {μ ν : Nat → Nat → Option Value}
theorem modObj_id (k : Nat) (o : Obj) (hμ : ∀ (cs : Array Value) t fr, o = .cells cs t fr → ∀ j v u, cs[j]? = some u → μ k j = some v → v = u) : modObj μ k o = o := by
  cases o with
  | cells cs t fr =>
    simp only [modObj]
    congr 1
    apply Array.ext
    · simp
    · intro i h1 h2
      rw [Array.getElem_mapIdx]
      cases hm : μ k i with
      | none => rfl
      | some v => exact hμ cs t fr rfl i v _ (Array.getElem?_eq_getElem h2) hm
  | _ => rfl
theorem Mods.refl (N : Nat) (w : World) : Mods N w w (fun _ _ => none) :=
  ⟨fun k _ => by
    cases h : w.heap[k]? with
    | none => rfl
    | some o => rw [Option.map_some, modObj_id k o (fun _ _ _ _ _ _ _ _ h => by cases h)]⟩
theorem Mods.other (h : Mods N w x μ) (hx : ∀ k, k < N → y.heap[k]? = x.heap[k]?) : Mods N w y μ := ⟨fun k hk => (hx k hk).trans (h.at_ k hk)⟩
theorem Mods.below (h : Mods N w x μ) (hb : Below N x y) : Mods N w y μ := h.other fun k hk => hb.block k hk
theorem Mods.alike (h : Mods N w x μ) (hm : ∀ k j, k < N → μ k j = ν k j) : Mods N w x ν :=
  ⟨fun k hk => by
    rw [h.at_ k hk]
    cases w.heap[k]? with
    | none => rfl
    | some o =>
      cases o with
      | cells cs t fr =>
        simp only [Option.map_some, modObj]
        congr 2
        apply Array.ext
        · simp
        · intro i h1 h2
          rw [Array.getElem_mapIdx, Array.getElem_mapIdx, hm k i hk]
      | _ => rfl⟩
def updM (μ : Nat → Nat → Option Value) (b i : Nat) (v : Value) : Nat → Nat → Option Value := fun k j => if k = b ∧ j = i then some v else μ k j
theorem Mods.set (h : Mods N w x μ) (b i : Nat) (v : Value) : Mods N w (x.setCell ⟨b, i, none⟩ v) (updM μ b i v) :=
  ⟨fun k hk => by
    by_cases hb : k = b
    · subst hb
      show (x.heap.modify k _)[k]? = _
      rw [Array.getElem?_modify, if_pos rfl, h.at_ k hk]
      cases w.heap[k]? with
      | none => rfl
      | some o =>
        cases o with
        | cells cs t fr =>
          simp only [Option.map_some, modObj]
          congr 2
          rw [if_neg (by simp)]
          apply Array.ext_getElem?
          intro j
          rw [Array.getElem?_setIfInBounds, Array.getElem?_mapIdx, Array.getElem?_mapIdx, Array.size_mapIdx]
          by_cases hj : i = j
          · subst hj
            by_cases hl : i < cs.size
            · simp [hl, updM]
            · simp [hl]
          · have hj' : ¬ j = i := fun e => hj e.symm
            simp [hj, hj', updM]
        | _ => rfl
    · rw [Below.heap_setCell _ _ _ _ hb, h.at_ k hk]
      cases w.heap[k]? with
      | none => rfl
      | some o =>
        cases o with
        | cells cs t fr =>
          simp only [Option.map_some, modObj]
          congr 2
          apply Array.ext
          · simp
          · intro j h1 h2
            rw [Array.getElem_mapIdx, Array.getElem_mapIdx]
            simp [updM, hb]
        | _ => rfl⟩
theorem Mods.cell (h : Mods N w x μ) {k j : Nat} {v : Value} (hk : k < N) (hc : w.cell? ⟨k, j, none⟩ = some v) : x.cell? ⟨k, j, none⟩ = some ((μ k j).getD v) := by
  simp only [World.cell?, h.at_ k hk] at hc ⊢
  cases ho : w.heap[k]? with
  | none => rw [ho] at hc; cases hc
  | some o =>
    rw [ho] at hc
    cases o with
    | cells cs t fr =>
      simp only [Option.map_some, modObj, Option.isSome_none, Bool.false_eq_true, if_false] at hc ⊢
      simp [hc]
    | _ => cases hc
theorem Mods.frozen (h : Mods N w x μ) {k j : Nat} (hk : k < N) : x.frozen? ⟨k, j, none⟩ = w.frozen? ⟨k, j, none⟩ := by
  simp only [World.frozen?, h.at_ k hk]
  cases w.heap[k]? with
  | none => rfl
  | some o => cases o <;> rfl
theorem Mods.back (h : Mods N w x μ) (hm : ∀ k j v, k < N → μ k j = some v → w.cell? ⟨k, j, none⟩ = some v) : ∀ k, k < N → x.heap[k]? = w.heap[k]? := fun k hk => by
  rw [h.at_ k hk]
  cases ho : w.heap[k]? with
  | none => rfl
  | some o =>
    rw [Option.map_some, modObj_id k o]
    rintro cs t fr rfl j v u hu hv
    have := hm k j v hk hv
    simp only [World.cell?, ho, Option.isSome_none, Bool.false_eq_true, if_false] at this
    rw [hu] at this
    cases this
    rfl
/-- Every s-th cell from o on, as far as k of them: from f. -/
def strideM (b o s k : Nat) (f : Nat → Value) (μ : Nat → Nat → Option Value) : Nat → Nat → Option Value := fun c j => if c = b ∧ o ≤ j ∧ j < o + k * s ∧ (j - o) % s = 0 then some (f ((j - o) / s)) else μ c j
theorem strideM_zero (b o s : Nat) (f : Nat → Value) (μ : Nat → Nat → Option Value) : strideM b o s 0 f μ = μ := by
  funext c j
  unfold strideM
  rw [if_neg (by omega)]
theorem strideM_succ (b o s k : Nat) (hs : 0 < s) (f : Nat → Value) (μ : Nat → Nat → Option Value) : updM (strideM b o s k f μ) b (o + k * s) (f k) = strideM b o s (k + 1) f μ := by
  funext c j
  unfold updM strideM
  by_cases h1 : c = b ∧ j = o + k * s
  · obtain ⟨rfl, rfl⟩ := h1
    rw [if_pos ⟨rfl, rfl⟩, if_pos ⟨rfl, by omega, by rw [Nat.succ_mul]; omega, by rw [Nat.add_sub_cancel_left, Nat.mul_mod_left]⟩, Nat.add_sub_cancel_left, Nat.mul_div_cancel _ hs]
  · rw [if_neg h1]
    by_cases h2 : c = b ∧ o ≤ j ∧ j < o + k * s ∧ (j - o) % s = 0
    · rw [if_pos h2, if_pos ⟨h2.1, h2.2.1, by rw [Nat.succ_mul]; omega, h2.2.2.2⟩]
    · rw [if_neg h2, if_neg]
      rintro ⟨rfl, h3, h4, h5⟩
      apply h2
      refine ⟨rfl, h3, ?_, h5⟩
      rw [Nat.succ_mul] at h4
      have hd := Nat.div_add_mod (j - o) s
      rw [h5, Nat.add_zero] at hd
      have hlt : s * ((j - o) / s) < s * (k + 1) := by rw [hd, Nat.mul_succ, Nat.mul_comm s k]; omega
      have hq : (j - o) / s < k + 1 := Nat.lt_of_mul_lt_mul_left hlt
      rcases Nat.lt_or_ge ((j - o) / s) k with h6 | h6
      · have : s * ((j - o) / s + 1) ≤ s * k := Nat.mul_le_mul_left s h6
        rw [Nat.mul_succ, hd, Nat.mul_comm s k] at this
        omega
      · exfalso
        have e : (j - o) / s = k := by omega
        rw [e] at hd
        exact h1 ⟨rfl, by rw [Nat.mul_comm] at hd; omega⟩
theorem strideM_at (b o s k i : Nat) (hs : 0 < s) (hi : i < k) (f : Nat → Value) (μ : Nat → Nat → Option Value) : strideM b o s k f μ b (o + i * s) = some (f i) := by
  unfold strideM
  have : (i + 1) * s ≤ k * s := Nat.mul_le_mul_right s hi
  rw [Nat.succ_mul] at this
  rw [if_pos ⟨rfl, by omega, by omega, by rw [Nat.add_sub_cancel_left, Nat.mul_mod_left]⟩, Nat.add_sub_cancel_left, Nat.mul_div_cancel _ hs]
theorem strideM_next (b o s k : Nat) (hs : 0 < s) (f : Nat → Value) (μ : Nat → Nat → Option Value) : strideM b o s k f μ b (o + k * s) = μ b (o + k * s) := by
  unfold strideM
  rw [if_neg (by omega)]
theorem strideM_inv {b o s k c j : Nat} {hs : 0 < s} {f : Nat → Value} {μ : Nat → Nat → Option Value} {v : Value} (h : strideM b o s k f μ c j = some v) : (∃ i, i < k ∧ c = b ∧ j = o + i * s ∧ v = f i) ∨ μ c j = some v := by
  unfold strideM at h
  split at h
  · rename_i hc
    obtain ⟨rfl, h1, h2, h3⟩ := hc
    left
    have hd := Nat.div_add_mod (j - o) s
    rw [h3, Nat.add_zero] at hd
    refine ⟨(j - o) / s, ?_, rfl, by rw [Nat.mul_comm, hd]; omega, by cases h; rfl⟩
    rcases Nat.lt_or_ge ((j - o) / s) k with h6 | h6
    · exact h6
    · have : s * k ≤ s * ((j - o) / s) := Nat.mul_le_mul_left s h6
      rw [hd, Nat.mul_comm] at this
      omega
  · exact .inr h
theorem strideM_skip {b o s k c j : Nat} (hs : 0 < s) {f : Nat → Value} {μ : Nat → Nat → Option Value} (h : ∀ i, i < k → ¬ (c = b ∧ j = o + i * s)) : strideM b o s k f μ c j = μ c j := by
  unfold strideM
  rw [if_neg]
  rintro ⟨rfl, h1, h2, h3⟩
  have hd := Nat.div_add_mod (j - o) s
  rw [h3, Nat.add_zero] at hd
  refine h ((j - o) / s) ?_ ⟨rfl, by rw [Nat.mul_comm, hd]; omega⟩
  rcases Nat.lt_or_ge ((j - o) / s) k with h6 | h6
  · exact h6
  · have : s * k ≤ s * ((j - o) / s) := Nat.mul_le_mul_left s h6
    rw [hd, Nat.mul_comm] at this
    omega
theorem strideM_out {b o s k c j : Nat} (hs : 0 < s) {f : Nat → Value} {μ : Nat → Nat → Option Value} {v : Value} (h : strideM b o s k f μ c j = some v) : (∃ i, i < k ∧ c = b ∧ j = o + i * s ∧ v = f i) ∨ (μ c j = some v ∧ ∀ i, i < k → ¬ (c = b ∧ j = o + i * s)) := by
  by_cases hi : ∃ i, i < k ∧ c = b ∧ j = o + i * s
  · obtain ⟨i, h1, rfl, rfl⟩ := hi
    rw [strideM_at _ _ _ _ _ hs h1] at h
    exact .inl ⟨i, h1, rfl, rfl, by cases h; rfl⟩
  · have hn : ∀ i, i < k → ¬ (c = b ∧ j = o + i * s) := fun i h1 h2 => hi ⟨i, h1, h2⟩
    rw [strideM_skip hs hn] at h
    exact .inr ⟨h, hn⟩
end Go.Proofs.YteiaifhnikknbaaDoor

/- Law 22 StoreGuards: places that may be written; Made; the loops that write into what was handed in. -/
namespace Go.Proofs.YteiaifhnikknbaaDoor
open Go.RowKit Go.ChangeShapes Go.WideShapes Go.Deep

section
variable {H : Type} {enc : TypeId × Value → H} {P : Program} {w : World} {base : Nat} {spare : Nat → Bool} {held : Bool}
theorem slice_places {t e : TypeId} {fuel : Nat} {v : Value} {x : DataW H × List MemPlace} (ht : P.underlying t = some (.slice e)) (h : DataW.trod enc P w base spare held fuel t [v] = some x)
    (b off n c : Nat) (hv : v = .slice (some ⟨b, off, none⟩) n c) (j : Nat) (hj : j < n * P.cellsOf e) : MemPlace.cell b (off + j) ∈ x.2 := by
  rcases open_slice ht h with ⟨hcs, _⟩ | ⟨a, len, cap, m, k, D, Pl, hcs, hb, hl, hm, hmm, hx, _⟩
  · simp at hcs; rw [hv] at hcs; cases hcs
  · simp at hcs
    rw [hv] at hcs
    cases hcs
    have hlm : n ≤ m := by rw [hmm]; split <;> omega
    rw [hx]
    refine List.mem_append_left _ ?_
    simp only [MemPlace.row, List.mem_map, List.mem_range]
    exact ⟨j, Nat.lt_of_lt_of_le hj (Nat.mul_le_mul_right _ hlm), rfl⟩
theorem struct_places {t : TypeId} {fs : Array Field} {fuel : Nat} {cs : List Value} {x : DataW H × List MemPlace} (ht : P.underlying t = some (.struct fs)) (h : DataW.trod enc P w base spare held fuel t cs = some x) :
    ∃ n, ∀ (i : Nat) (f : Field), fs[i]? = some f → ∃ y, DataW.trod enc P w base spare held n f.type ((cs.drop f.offset).take (P.cellsOf f.type)) = some y ∧ ∀ pl ∈ y.2, pl ∈ x.2 := by
  obtain ⟨xs, n, _, hxe, hl, hx, hf⟩ := DataW.trod_struct ht h
  refine ⟨n, fun i f hi => ?_⟩
  have hlt : i < xs.length := by rw [hx]; exact (Array.getElem?_eq_some_iff.1 hi).1
  refine ⟨xs[i], by rw [hf i f hi]; exact List.getElem?_eq_getElem hlt, fun pl hp => ?_⟩
  rw [hxe]
  exact List.mem_flatMap.2 ⟨xs[i], List.getElem_mem _, hp⟩
theorem field_free {fs : Array Field} {m : Nat} {cs : List Value} {x : DataW H × List MemPlace} (hf : ∀ (i : Nat) (f : Field), fs[i]? = some f → ∃ y, DataW.trod enc P w base spare held m f.type ((cs.drop f.offset).take (P.cellsOf f.type)) = some y ∧ ∀ pl ∈ y.2, pl ∈ x.2)
    (i : Nat) (f : Field) (hi : fs[i]? = some f) (T off c : Nat) (hT : f.type = T) (ho : f.offset = off) (hc : P.cellsOf T = c) : ∃ y, DataW.trod enc P w base spare held m T ((cs.drop off).take c) = some y ∧ ∀ pl ∈ y.2, pl ∈ x.2 := by
  subst hT; subst ho; subst hc
  exact hf i f hi
end
/-- The rows that are written may be. -/
structure GdFree (w : World) (sl st : Value) : Prop where
  l : ∀ b off n c, sl = .slice (some ⟨b, off, none⟩) n c → (0 < n → b < w.heap.size) ∧ ∀ j, j < n * 6 → w.frozen? ⟨b, off + j, none⟩ = false
  t : ∀ b off n c, st = .slice (some ⟨b, off, none⟩) n c → (0 < n → b < w.heap.size) ∧ ∀ j, j < n * 4 → w.frozen? ⟨b, off + j, none⟩ = false
section
variable {H : Type} {enc : TypeId × Value → H} {w : World}
set_option maxRecDepth 100000 in
set_option maxHeartbeats 1000000 in
theorem arg_free {G : Gd} {sl sd si st : Value} {d : DataW H} {p : List MemPlace} (h : DataW.Trod enc Tryd.prog w 0 (fun _ => true) true 31 (.agg (gC G sl sd si st).toArray) d p) (hf : ∀ b off, MemPlace.cell b off ∈ p → w.frozen? ⟨b, off, none⟩ = false)
    (hlt : ∀ x ∈ p, x.block < w.heap.size) : GdFree w sl st := by
  obtain ⟨fuel, hf0⟩ := h
  obtain ⟨m, hfs⟩ := struct_places Tryd.underlying31 hf0
  obtain ⟨yl, hln, pl⟩ := field_free hfs 0 _ rfl 26 0 3 rfl rfl cells_ln
  obtain ⟨y9, h9, p9⟩ := field_free hfs 7 _ rfl 29 9 1 rfl rfl cells_mtr
  obtain ⟨m2, hf2⟩ := struct_places Tryd.underlying26 hln
  obtain ⟨y0, h0, p0⟩ := field_free hf2 0 _ rfl 24 0 1 rfl rfl cells_mbr
  have h0' : DataW.trod enc Tryd.prog w 0 (fun _ => true) true m2 24 [sl] = some y0 := h0
  have h9' : DataW.trod enc Tryd.prog w 0 (fun _ => true) true m 29 [st] = some y9 := h9
  have e6 := cells_mb
  have e4 := cells_mt
  refine ⟨fun b off n c hv => ⟨fun h0 => ?_, fun j hj => hf _ _ (pl _ (p0 _ (slice_places Tryd.underlying24 h0' b off n c hv j (by rw [e6]; exact hj))))⟩, fun b off n c hv => ⟨fun h0 => ?_, fun j hj => hf _ _ (p9 _ (slice_places Tryd.underlying29 h9' b off n c hv j (by rw [e4]; exact hj)))⟩⟩
  · exact hlt _ (pl _ (p0 _ (slice_places Tryd.underlying24 h0' b off n c hv 0 (by rw [e6]; omega))))
  · exact hlt _ (p9 _ (slice_places Tryd.underlying29 h9' b off n c hv 0 (by rw [e4]; omega)))
end
end Go.Proofs.YteiaifhnikknbaaDoor

/- Law 22's Made, of a configuration that is right. -/
namespace Go.Proofs.YteiaifhnikknbaaDoor
open Go.RowKit

variable {w w' : World} {K : Cfg}
/-- What Made answers. -/
def MadeP (K : Cfg) (w : World) (e : Ending) (w' : World) : Prop :=
  ∃ B q A O, e = .returned (.tuple #[.pointer (some ⟨q.p, 0, none⟩), .bool true]) ∧ w.heap.size ≤ B ∧ Sx B w' q K ⟨66, false, 0, fun _ => none⟩ (newS K ⟨[], 0, 0, 0⟩) (newG ⟨[], 0, 0, 0⟩ 1) A O ∧ Below w.heap.size w w'
set_option maxRecDepth 100000 in
set_option maxHeartbeats 1000000 in
theorem made_yes (hr : rightB K = true) {sh : Value} (hR : Reads w 1 sh K.heights.length (u32s K.heights)) :
    Calls Tryd.prog 41 #[.agg (cfC K sh).toArray] w (MadeP K w) := by
  obtain ⟨W, hW⟩ : ∃ W, w.alloc (.cells (cfC K sh).toArray 49) = W := ⟨_, rfl⟩
  have k1 : Blk W w.heap.size 49 (cfC K sh) := by rw [← hW]; exact Blk.new _ _ _
  have hB : Below w.heap.size w W := by rw [← hW]; exact (Below.refl _ _).alloc (Nat.le_refl _) _
  have k1d : Blk W.drew w.heap.size 49 (cfC K sh) := k1
  have hBd : Below w.heap.size w W.drew := hB.trans (Quiet.below ⟨1, rfl⟩ _)
  go_enter Tryd.func41, Tryd.ntmps41
  go_upto_region 1 with fail
  refine wp_region_held_drew (S := (fun x => Blk x w.heap.size 49 (cfC K sh) ∧ Below w.heap.size w x)) (by kernel_rfl) ⟨k1d, hBd⟩ (fun hHeld => ?_)
  refine wpAnyH_take (i := 0) (v := .agg (cfC K sh).toArray) rfl (by kernel_rfl) (by kernel_rfl) (by kernel_rfl) (fun _ _ _ h => h) (yieldsIf_load_blk (by kernel_rfl) 49 (.tmp 1) (by rfl) w.heap.size (by rfl) (cfC K sh) (fun w h => h.1) _ Tryd.underlying49 (by rfl) infoCf) (by assumption) ?_
  try simp only [Act.put, List.getElem_toArray, List.getElem_cons_zero, List.getElem_cons_succ, List.setIfInBounds_toArray, List.set_cons_zero, List.set_cons_succ]
  refine wpAnyH_take (i := 1) (v := ?_) rfl (by kernel_rfl) (by kernel_rfl) (by kernel_rfl) (fun _ _ _ h => h) (Or.inl ⟨by kernel_rfl, ?_⟩) (by assumption) ?_
  rotate_left
  · (intro w hSw; (try dsimp only at hSw); go_simp; try with_reducible rfl)
  try simp only [Act.put, List.getElem_toArray, List.getElem_cons_zero, List.getElem_cons_succ, List.setIfInBounds_toArray, List.set_cons_zero, List.set_cons_succ]
  refine wpAnyH_take (i := 3) (v := ?_) rfl (by kernel_rfl) (by kernel_rfl) (by kernel_rfl) (fun _ _ _ h => h) (Or.inl ⟨by kernel_rfl, ?_⟩) (by assumption) ?_
  rotate_left
  · (intro w hSw; (try dsimp only at hSw); go_simp; try with_reducible rfl)
  try simp only [Act.put, List.getElem_toArray, List.getElem_cons_zero, List.getElem_cons_succ, List.setIfInBounds_toArray, List.set_cons_zero, List.set_cons_succ]
  refine wpAnyH_ready (rs := [2]) (by kernel_rfl) (by simp) ?_
  refine AllReadyH.cons rfl (fun KK hKK => ?_) AllReadyH.nil
  go_simp
  refine (disknew_nil _ _ (by decide)).mono ?_
  rintro e y1 ⟨d, rfl, hC1⟩
  have u1 : Blk y1 w.heap.size 49 (cfC K sh) ∧ Below w.heap.size w y1 := ⟨k1d.keep (hC1.block _ k1d.lt), hBd.trans (hC1.mono hBd.size)⟩
  refine hKK.out _ _ u1 (fun hHeld1 => ?_)
  clear hKK KK hHeld
  try simp only [Act.put, List.getElem_toArray, List.getElem_cons_zero, List.getElem_cons_succ, List.setIfInBounds_toArray, List.set_cons_zero, List.set_cons_succ]
  refine wpAnyH_ready (rs := [4]) (by kernel_rfl) (by simp) ?_
  refine AllReadyH.cons rfl (fun KK hKK => ?_) AllReadyH.nil
  go_simp
  refine (stnew_yes hr (sh := sh) (st := .slice none 0 0) (V := ⟨[], 0, 0, 0⟩) (hR.below u1.2) ⟨rfl, .inl ⟨rfl, _, _, rfl⟩⟩ (Nat.zero_le _) _ 1 (by decide) (by decide) (by decide)).mono ?_
  intro e y2 h2
  obtain ⟨q, A, O, rfl, hS2, hC2⟩ := h2.sx
  have u2 : Blk y2 w.heap.size 49 (cfC K sh) ∧ Below w.heap.size w y2 := ⟨u1.1.keep (hC2.block _ u1.1.lt), u1.2.trans (hC2.mono u1.2.size)⟩
  refine hKK.out _ _ u2 (fun hHeld2 => ?_)
  clear hKK KK hHeld1
  try simp only [Act.put, List.getElem_toArray, List.getElem_cons_zero, List.getElem_cons_succ, List.setIfInBounds_toArray, List.set_cons_zero, List.set_cons_succ]
  refine wpAnyH_take (i := 5) (v := ?_) rfl (by kernel_rfl) (by kernel_rfl) (by kernel_rfl) (fun _ _ _ h => h) (Or.inl ⟨by kernel_rfl, ?_⟩) (by assumption) ?_
  rotate_left
  · (intro w hSw; (try dsimp only at hSw); go_simp; try with_reducible rfl)
  try simp only [Act.put, List.getElem_toArray, List.getElem_cons_zero, List.getElem_cons_succ, List.setIfInBounds_toArray, List.set_cons_zero, List.set_cons_succ]
  refine wpAnyH_take (i := 6) (v := ?_) rfl (by kernel_rfl) (by kernel_rfl) (by kernel_rfl) (fun _ _ _ h => h) (Or.inl ⟨by kernel_rfl, ?_⟩) (by assumption) ?_
  rotate_left
  · (intro w hSw; (try dsimp only at hSw); go_simp; try with_reducible rfl)
  try simp only [Act.put, List.getElem_toArray, List.getElem_cons_zero, List.getElem_cons_succ, List.setIfInBounds_toArray, List.set_cons_zero, List.set_cons_succ]
  refine wpAnyH_take (i := 7) (v := ?_) rfl (by kernel_rfl) (by kernel_rfl) (by kernel_rfl) (fun _ _ _ h => h) (Or.inl ⟨by kernel_rfl, ?_⟩) (by assumption) ?_
  rotate_left
  · (intro w hSw; (try dsimp only at hSw); go_simp; try with_reducible rfl)
  try simp only [Act.put, List.getElem_toArray, List.getElem_cons_zero, List.getElem_cons_succ, List.setIfInBounds_toArray, List.set_cons_zero, List.set_cons_succ]
  refine wpAnyH_take (i := 8) (v := ?_) rfl (by kernel_rfl) (by kernel_rfl) (by kernel_rfl) (fun _ _ _ h => h) (Or.inl ⟨by kernel_rfl, ?_⟩) (by assumption) ?_
  rotate_left
  · (intro w hSw; (try dsimp only at hSw); go_simp; try with_reducible rfl)
  try simp only [Act.put, List.getElem_toArray, List.getElem_cons_zero, List.getElem_cons_succ, List.setIfInBounds_toArray, List.set_cons_zero, List.set_cons_succ]
  refine wpAnyH_take (i := 9) (v := ?_) rfl (by kernel_rfl) (by kernel_rfl) (by kernel_rfl) (fun _ _ _ h => h) (Or.inl ⟨by kernel_rfl, ?_⟩) (by assumption) ?_
  rotate_left
  · (intro w hSw; (try dsimp only at hSw); go_simp; try with_reducible rfl)
  try simp only [Act.put, List.getElem_toArray, List.getElem_cons_zero, List.getElem_cons_succ, List.setIfInBounds_toArray, List.set_cons_zero, List.set_cons_succ]
  refine wpAnyH_done (by kernel_rfl) ?_ _

  have hsz := u1.2.size
  clear k1 k1d hBd hB u1 hC1
  go_wp2_with (first | (go_at_call 29; refine (scells_any hS2).mono ?_; rintro e w' ⟨rfl, rfl⟩) | (go_at_call 28; refine (slocks_any hS2).mono ?_; rintro e w' ⟨rfl, rfl⟩))
  go_ret2
  unfold MadeP
  exact ⟨y1.heap.size, q, A, O, rfl, hsz, hS2, u2.2⟩
end Go.Proofs.YteiaifhnikknbaaDoor

/- Law 22's 'restored': what was handed in, written cell by cell. -/
namespace Go.Proofs.YteiaifhnikknbaaDoor
open Go.RowKit

/-- A row of what was handed in: where it lies; it may be written. -/
structure RowW (N : Nat) (w : World) (ao : Option Addr) (n s b o : Nat) : Prop where
  ad : 0 < n → ao = some ⟨b, o, none⟩
  lt : 0 < n → b < N
  free : ∀ j, j < n * s → w.frozen? ⟨b, o + j, none⟩ = false
/-- Where a loop over it stands. -/
structure Lp (N : Nat) (w0 wr wx : World) (μ : Nat → Nat → Option Value) : Prop where
  mods : Mods N w0 wx μ
  only : Only (fun k => k < N) wr wx
variable {N : Nat} {w0 wr wx : World} {μ : Nat → Nat → Option Value} {ao : Option Addr} {n s b o d k : Nat} {f : Nat → Value}
theorem Lp.refl (h : Mods N w0 wr μ) : Lp N w0 wr wr μ := ⟨h, Only.refl _ _⟩
/-- One round: what is read, and what stands behind the store. -/
theorem Lp.round (h : Lp N w0 wr wx (strideM b (o + d) s k f μ)) (hR : RowW N w0 ao n s b o) (hk : k < n) (hd : d < s) {u v : Value} (hc : w0.cell? ⟨b, o + k * s + d, none⟩ = some u) (hv : (μ b (o + d + k * s)).getD u = v) :
    ao = some ⟨b, o, none⟩ ∧ wx.cell? ⟨b, o + k * s + d, none⟩ = some v ∧ wx.frozen? ⟨b, o + k * s + d, none⟩ = false ∧ Lp N w0 wr (wx.setCell ⟨b, o + k * s + d, none⟩ (f k)) (strideM b (o + d) s (k + 1) f μ) := by
  have hb := hR.lt (by omega)
  have e : o + k * s + d = o + d + k * s := by omega
  have hj : k * s + d < n * s := by
    have : (k + 1) * s ≤ n * s := Nat.mul_le_mul_right s hk
    rw [Nat.succ_mul] at this
    omega
  refine ⟨hR.ad (by omega), ?_, ?_, ?_, ?_⟩
  · have := h.mods.cell hb hc
    rw [e, strideM_next b (o + d) s k (by omega) f μ, hv] at this
    rw [e]
    exact this
  · rw [h.mods.frozen hb, Nat.add_assoc]
    exact hR.free _ hj
  · have := h.mods.set b (o + k * s + d) (f k)
    rw [e, strideM_succ b (o + d) s k (by omega) f μ] at this
    rw [e]
    exact this
  · exact h.only.setCell (p := ⟨b, o + k * s + d, none⟩) hb _
theorem Lp.blk (h : Lp N w0 wr wx μ) {c t : Nat} {C : List Value} (hk : Blk wr c t C) (hc : N ≤ c) : Blk wx c t C := hk.keep (h.only.block _ hk.lt (by omega))

variable {w : World} {G : Gd} {sd si : Value} {al at0 : Option Addr} {nl nt cl ct lb lz tb tz : Nat}
set_option maxRecDepth 100000 in
set_option maxHeartbeats 2000000 in
theorem restored_any (hN : N ≤ w.heap.size) (hM : Mods N w0 w μ) (hL : RowW N w0 al nl 6 lb lz) (hT : RowW N w0 at0 nt 4 tb tz) (hnl : nl ≤ 1000) (hnt : nt ≤ 1000)
    (vT vL : Nat → Int) (cT : ∀ k, k < nt → ∃ u, w0.cell? ⟨tb, tz + k * 4 + 0, none⟩ = some u ∧ (μ tb (tz + 0 + k * 4)).getD u = .int .u64 (vT k))
    (cL : ∀ k, k < nl → ∃ u, w0.cell? ⟨lb, lz + k * 6 + 1, none⟩ = some u ∧ ((strideM tb (tz + 0) 4 nt (fun k => .int .u64 (IntKind.u64.wrap (vT k - 1))) μ) lb (lz + 1 + k * 6)).getD u = .int .i64 (vL k)) :
    Calls Tryd.prog 44 #[.agg (gC G (.slice al nl cl) sd si (.slice at0 nt ct)).toArray] w fun e w' => e = .returned (.bool true) ∧ Mods N w0 w' (strideM lb (lz + 1) 6 nl (fun k => .int .i64 (wrap64 (vL k - 1))) (strideM tb (tz + 0) 4 nt (fun k => .int .u64 (IntKind.u64.wrap (vT k - 1))) μ)) ∧ Only (fun k => k < N ∨ w.heap.size ≤ k) w w' := by
  obtain ⟨W, hW⟩ : ∃ W, w.alloc (.cells (gC G (.slice al nl cl) sd si (.slice at0 nt ct)).toArray 31) = W := ⟨_, rfl⟩
  have k1 : Blk W w.heap.size 31 (gC G (.slice al nl cl) sd si (.slice at0 nt ct)) := by rw [← hW]; exact Blk.new _ _ _
  have hB : Below w.heap.size w W := by rw [← hW]; exact (Below.refl _ _).alloc (Nat.le_refl _) _
  have hM1 : Mods N w0 W μ := hM.below (hB.mono hN |>.mono (Nat.le_refl _))
  have l0 : Lp N w0 W W (strideM tb (tz + 0) 4 0 (fun k => .int .u64 (IntKind.u64.wrap (vT k - 1))) μ) := by rw [strideM_zero]; exact Lp.refl hM1
  have c9 := k1.cell 9 (v := .slice at0 nt ct) rfl
  have HT := Lib.hid hT
  have HL := Lib.hid hL
  have CT := Lib.hid cT
  have CL := Lib.hid cL
  have K1 := Lib.hid k1
  clear hT hL cT cL hM hM1 k1
  go_enter Tryd.func44, Tryd.ntmps44
  go_wp2
  clear c9
  go_loopw [8] (fun i wx => ∃ k : Nat, k ≤ nt ∧ i = .int .i64 k ∧ Lp N w0 W wx (strideM tb (tz + 0) 4 k (fun k => .int .u64 (IntKind.u64.wrap (vT k - 1))) μ)) (fun i _ => nt - (intOf i).toNat)
  case atStart => exact ⟨0, by omega, rfl, l0⟩
  case round =>
    clear l0
    obtain ⟨k, hk, rfl, hl⟩ := hrel
    have k1 := hl.blk K1.out hN
    by_cases hlt : k < nt
    · obtain ⟨u, hu, hv⟩ := CT.out k hlt
      obtain ⟨rfl, x1, x2, x3⟩ := hl.round HT.out hlt (by decide) hu hv
      have c9 := k1.cell 9 (v := .slice (some ⟨tb, tz, none⟩) nt ct) rfl
      simp only [Nat.add_zero] at x1 x2
      have X3 := Lib.hid x3
      clear x3 hl k1 hv hu
      go_wp2
      go_roundw
      case rel => exact ⟨k + 1, by omega, by go_num, X3.out⟩
      case measure => simp [intOf]; omega
    · obtain rfl : k = nt := by omega
      have c0 := k1.cell 0 (v := .slice al nl cl) rfl
      have l1 : Lp N w0 W wr (strideM lb (lz + 1) 6 0 (fun k => .int .i64 (wrap64 (vL k - 1))) (strideM tb (tz + 0) 4 k (fun k => .int .u64 (IntKind.u64.wrap (vT k - 1))) μ)) := by rw [strideM_zero]; exact hl
      clear hl k1
      go_wp2
      clear c0
      go_loopw [25] (fun i wx => ∃ j : Nat, j ≤ nl ∧ i = .int .i64 j ∧ Lp N w0 W wx (strideM lb (lz + 1) 6 j (fun k => .int .i64 (wrap64 (vL k - 1))) (strideM tb (tz + 0) 4 k (fun k => .int .u64 (IntKind.u64.wrap (vT k - 1))) μ))) (fun i _ => nl - (intOf i).toNat)
      case atStart => exact ⟨0, by omega, rfl, l1⟩
      case round =>
        clear l1
        obtain ⟨j, hj, rfl, hl⟩ := hrel
        have k1 := hl.blk K1.out hN
        by_cases hlj : j < nl
        · obtain ⟨u, hu, hv⟩ := CL.out j hlj
          obtain ⟨rfl, x1, x2, x3⟩ := hl.round HL.out hlj (by decide) hu hv
          have c0 := k1.cell 0 (v := .slice (some ⟨lb, lz, none⟩) nl cl) rfl
          have X3 := Lib.hid x3
          clear x3 hl k1 hv hu
          go_wp2
          go_roundw
          case rel => exact ⟨j + 1, by omega, by go_num, X3.out⟩
          case measure => simp [intOf]; omega
        · obtain rfl : j = nl := by omega
          clear k1
          go_wp2
          go_ret
          refine ⟨rfl, hl.mods, ?_⟩
          exact (Only.of_below (A := fun k => k < N ∨ w.heap.size ≤ k) hB).trans (hl.only.mono fun _ _ h => .inl h)
end Go.Proofs.YteiaifhnikknbaaDoor


namespace Go.Proofs.YteiaifhnikknbaaDoor
open Go.RowKit

variable {B : Nat} {w w' : World} {q : SRef} {K : Cfg} {L L' : Lk} {S S' : Mem} {G : Gd} {A O : Nat → Prop}
set_option maxRecDepth 100000 in
set_option maxHeartbeats 2000000 in
theorem get_own (h : Sx B w q K L S G A O) (hs : G.Small 1000000) (t : Int) (ht : L.held = true → 0 ≤ L.holder ∧ L.holder < 64) (hp : 0 < S.plains.length) (hn : S.trace.length < trMax) (hE : L.held = true ∧ L.holder = t) :
    Calls Tryd.prog 31 #[.pointer (some ⟨q.p, 0, none⟩), .int .i64 t] w fun e w' => ∃ sl sd si st N, e = .returned (.tuple #[.agg (gC G sl sd si st).toArray, .int .i64 0]) ∧ w.heap.size ≤ N ∧ N ≤ w'.heap.size ∧ GO w' G sl sd si st (fun k => N ≤ k) ∧ Sx B w' q K L (S.note ⟨t, 6, 0⟩) G (fun k => A k ∧ ¬ (N ≤ k ∧ k < w'.heap.size)) O ∧ Only A w w' := by
  obtain ⟨W, hW⟩ : ∃ W, w.alloc (.cells #[.slice none 0 0, .slice none 0 0, .int .i64 0, .int .u64 0, .int .i64 0, .int .i64 0, .slice none 0 0, .int .u64 0, .int .u64 0, .slice none 0 0, .bool false] 31) = W := ⟨_, rfl⟩
  have hBW : Below w.heap.size w W := by rw [← hW]; exact (Below.refl _ _).alloc (Nat.le_refl _) _
  have k1 : Blk W w.heap.size 31 gZ := by rw [← hW]; exact Blk.new _ _ _
  have h1 : Sx B W q K L S G (fun k => A k ∧ k ≠ w.heap.size) O := by rw [← hW]; exact h.box _
  have hlt : W.heap.size = w.heap.size + 1 := by rw [← hW]; simp
  have hb1 := held_any h1 t 6 (.inl rfl) ht hp hn
  have H := Lib.hid h
  have HB := Lib.hid hb1
  have hbs := h.bs
  have e2 : heldS L S t 6 = S.note ⟨t, 6, 0⟩ := by rw [heldS, if_pos hE]
  rw [e2] at HB
  · have e1 : heldE L t = 0 := by rw [heldE, if_pos hE]
    rw [e1] at HB
    have HE := Lib.hid e1
    clear hb1 h1 ht hp hn e1 e2 hE h
    go_enter Tryd.func31, Tryd.ntmps31
    go_upto_region 4 with (go_at_call 65; refine HB.out.mono ?_; rintro e w2 ⟨rfl, h2, hB2, hO2⟩)
    obtain ⟨sh, sll, sl, sd, si, st, m1, m2, m3, m4⟩ := h2.st.ex
    have hr := m1.range 10 (gC G sl sd si st) (fun j v hv => by rw [stC, List.getElem?_append_right (by simp [cfC])]; simpa [cfC] using hv)
    have how := own_any m4.gr hs
    have k2 := k1.keep (hO2.block _ k1.lt (fun h => h.2 rfl))
    have HOW := Lib.hid how
    have H2 := Lib.hid h2
    have HB2 := Lib.hid hB2
    have HO2 := Lib.hid hO2
    clear how h2 hB2 m1 m2 m3 m4 HB hO2
    go_wp2_with (first | (refine wpList_load_mid rfl 31 _ rfl q.p 10 (by rfl) (gC G sl sd si st) _ hr Tryd.underlying31 rfl infoG ?_) | (go_at_call 45; refine HOW.out.mono ?_; rintro e w3 ⟨v1, v2, v3, v4, rfl, hG3, hB3⟩; have k3 := k2.keep (hB3.block _ k2.lt)) | (refine wpList_store_blk rfl 31 _ _ rfl w.heap.size (gC G v1 v2 v3 v4) (by rfl) (by rfl) gZ k3 infoG rfl (gC_one _ hG3.l.slice_one hG3.d.slice_one hG3.i.slice_one hG3.t.slice_one) ?_))
    have k4 := k3.setRow (gC G v1 v2 v3 v4)
    have hsz2 := HO2.out.size
    have hsz3 := hB3.size
    refine bodyPost_ret (results_cell_tmp (P := Tryd.prog) Tryd.results31 rfl (k4.loadRow _ Tryd.underlying31 rfl infoG) (.int .i64 0) rfl) rfl ?_
    have h3 := H2.out.aside hB3
    have hO4 := H.out.poked h3 (Only.setRow (A := fun k => k = w.heap.size) (Only.refl _ w3) rfl (gC G v1 v2 v3 v4).toArray)
    refine ⟨v1, v2, v3, v4, w2.heap.size, rfl, by omega, by rw [setRow_size]; exact hsz3, ?_, hO4.wider fun k => by rw [setRow_size], ?_⟩
    · exact hG3.keep (fun k h1 _ => heap_setRow_other _ _ _ (by omega))
    · have hAw : A w.heap.size := H.out.fresh.new _ (Nat.le_refl _)
      exact (((Only.of_below hBW : Only A w W).trans (HO2.out.mono fun _ _ h => h.1)).trans (Only.of_below hB3)).setRow hAw _

def Lfree : Lk := ⟨66, false, 0, fun _ => none⟩
def Lheld (t : Int) : Lk := ⟨66, true, t, fun _ => none⟩
theorem slock_free (h : Sx B w q K Lfree S G A O) (t : Int) (t0 : 0 ≤ t) (t1 : t < 64) (hn : S.trace.length < trMax) :
    Calls Tryd.prog 30 #[.pointer (some ⟨q.r.p, 0, none⟩), .int .i64 t] w fun e w' => e = .returned (.int .i64 0) ∧ Sx B w' q K (Lheld t) (S.note ⟨t, 8, 0⟩) G A O ∧ Below B w w' ∧ Only (LA q.r A) w w' := by
  have e : lockE Lfree t = 0 := by simp [lockE, Lfree, t0, t1]
  obtain ⟨m, hm, hk⟩ := h.lk
  have h1 := lock_any hk h.fresh hn t (by simp [Lit.wf, IntKind.min, IntKind.max, IntKind.signed, IntKind.bits]; omega)
  rw [lockL, lockN, e, if_pos rfl, if_pos rfl] at h1
  refine h1.mono ?_
  rintro e w' ⟨rfl, hk', hO⟩
  exact ⟨rfl, h.only hO ⟨m, by simp [Mem.note]; omega, hk'⟩, h.under hO, hO⟩
theorem sunlock_held (t : Int) (h : Sx B w q K (Lheld t) S G A O) (t0 : 0 ≤ t) (t1 : t < 64) (hn : S.trace.length < trMax) :
    Calls Tryd.prog 43 #[.pointer (some ⟨q.r.p, 0, none⟩), .int .i64 t] w fun e w' => e = .returned (.int .i64 0) ∧ Sx B w' q K Lfree (S.note ⟨t, 9, 0⟩) G A O ∧ Below B w w' ∧ Only (LA q.r A) w w' := by
  have e : holdsE (Lheld t) t 0 = 0 := by simp [holdsE, Lheld]; omega
  obtain ⟨m, hm, hk⟩ := h.lk
  have h1 := unlock_any hk h.fresh hn t
  rw [unlockL, unlockN, e, if_pos rfl, if_pos rfl] at h1
  refine h1.mono ?_
  rintro e w' ⟨rfl, hk', hO⟩
  exact ⟨rfl, h.only hO ⟨m, by simp [Mem.note]; omega, hk'⟩, h.under hO, hO⟩
theorem Mods.off {N : Nat} {w x : World} {μ : Nat → Nat → Option Value} (h : Mods N w x μ) {k : Nat} (hk : k < N) (hm : ∀ j, μ k j = none) : x.heap[k]? = w.heap[k]? := by
  rw [h.at_ k hk]
  cases ho : w.heap[k]? with
  | none => rfl
  | some o => rw [Option.map_some, modObj_id k o (fun _ _ _ _ j _ _ _ h => by rw [hm j] at h; cases h)]

theorem mbs_get1 (l : List Mbr) (k : Nat) (h : k < l.length) : (mbs l)[k * 6 + 1]? = some (.int .i64 l[k].ops) := by
  have := flatMap_get Mbr.cells 6 l (fun _ _ => rfl) k 1 l[k] (List.getElem?_eq_getElem h) (by decide)
  exact this
theorem mts_getA (l : List Meta) (k : Nat) (h : k < l.length) : (mts l)[k * 4 + 0]? = some (.int .u64 l[k].num) := by
  have := flatMap_get Meta.cells 4 l (fun _ _ => rfl) k 0 l[k] (List.getElem?_eq_getElem h) (by decide)
  exact this
theorem ims_get1 (l : List Imm) (k : Nat) (h : k < l.length) : (ims l)[k * 2 + 1]? = some (.int .u64 l[k].log) := by
  have := flatMap_get Imm.cells 2 l (fun _ _ => rfl) k 1 l[k] (List.getElem?_eq_getElem h) (by decide)
  exact this
/-- A row that was handed in: where it lies, and its cells. -/
theorem rowW_of {w : World} {ao : Option Addr} {n c s : Nat} {xs : List Value} (hR : Reads w s (.slice ao n c) n xs) (hf : ∀ b off n' c', Value.slice ao n c = .slice (some ⟨b, off, none⟩) n' c' → (0 < n' → b < w.heap.size) ∧ ∀ j, j < n' * s → w.frozen? ⟨b, off + j, none⟩ = false) :
    ∃ b o, RowW w.heap.size w ao n s b o ∧ ∀ j u, xs[j]? = some u → w.cell? ⟨b, o + j, none⟩ = some u := by
  rcases hR.form with ⟨rfl, ao', c', e⟩ | ⟨b, o, c', e, hc, hr⟩
  · exact ⟨0, 0, ⟨fun h => absurd h (by omega), fun h => absurd h (by omega), fun j hj => by omega⟩, (fun j u hu => by have := List.eq_nil_of_length_eq_zero (l := xs) (by have := hR.len; omega); rw [this] at hu; cases hu)⟩
  · cases e
    obtain ⟨h1, h2⟩ := hf b o n c rfl
    exact ⟨b, o, ⟨fun _ => rfl, h1, h2⟩, hr⟩
theorem rowW_own {w : World} {e n s : Nat} {v : Value} {xs : List Value} {A : Nat → Prop} (h : Row w e s v n xs A) : ∃ ao c b o, v = .slice ao n c ∧ RowW w.heap.size w ao n s b o ∧ (∀ j u, xs[j]? = some u → w.cell? ⟨b, o + j, none⟩ = some u) ∧ (0 < n → A b) := by
  obtain ⟨ao, c, rfl⟩ := h.slice
  rcases h.form with ⟨e0, rfl⟩ | ⟨g, cap, e0, hA, hg, hc⟩
  · exact ⟨ao, c, 0, 0, rfl, ⟨fun h => absurd h (by omega), fun h => absurd h (by omega), fun j hj => by omega⟩, (fun j u hu => by have := List.eq_nil_of_length_eq_zero (l := xs) (by have := h.owns.1; omega); rw [this] at hu; cases hu), fun h => absurd h (by omega)⟩
  · cases e0
    obtain ⟨cur, hcur⟩ := h.tag (k := g) rfl
    refine ⟨_, _, g, 0, rfl, ⟨fun _ => rfl, fun _ => hg, fun j _ => by simp [World.frozen?, hcur]⟩, fun j u hu => ?_, fun _ => hA⟩
    have := h.owns.cells (g := g) rfl j u hu
    rwa [addr_plain] at this
def numT (G : Gd) (k : Nat) : Int := match G.tables[k]? with | some m => m.num | none => 0
def opsL (G : Gd) (k : Nat) : Int := match G.l[k]? with | some m => m.ops | none => 0
def logI (G : Gd) (k : Nat) : Int := match G.imms[k]? with | some m => m.log | none => 0
theorem numT_at (G : Gd) (k : Nat) (h : k < G.tables.length) : numT G k = G.tables[k].num := by simp [numT, h]
theorem opsL_at (G : Gd) (k : Nat) (h : k < G.l.length) : opsL G k = G.l[k].ops := by simp [opsL, h]
theorem logI_at (G : Gd) (k : Nat) (h : k < G.imms.length) : logI G k = G.imms[k].log := by simp [logI, h]
theorem wrapU_back (x : Int) (h : fits .u64 x) : IntKind.u64.wrap (IntKind.u64.wrap (x + 1) - 1) = x := by
  have := fits_u64 h
  simp [IntKind.wrap, IntKind.bits, IntKind.signed]
  omega
theorem wrap64_back (x : Int) (h : fits .i64 x) : wrap64 (wrap64 (x + 1) - 1) = x := by
  have := fits_i64 h
  unfold wrap64
  omega

/-- The law's own variables behind Set. -/
structure GV (w : World) (G : Gd) (sl sd si st : Value) (b6 b7 : Nat) (tl td ti tt : Value) (x : World) : Prop where
  box : Blk x w.heap.size 31 (gC G sl sd si st)
  was : Blk x b7 31 (gC G tl td ti tt)
  wo : GO x G tl td ti tt (fun k => b6 ≤ k ∧ k < b7)
theorem GV.keep {x y : World} {sl sd si st tl td ti tt : Value} {b6 b7 : Nat} (h : GV w G sl sd si st b6 b7 tl td ti tt x) (hb : b6 ≤ b7) (hk : ∀ k, (k = w.heap.size ∨ (b6 ≤ k ∧ k ≤ b7)) → k < x.heap.size → y.heap[k]? = x.heap[k]?) : GV w G sl sd si st b6 b7 tl td ti tt y :=
  ⟨h.box.keep (hk _ (.inl rfl) h.box.lt), h.was.keep (hk _ (.inr ⟨hb, Nat.le_refl _⟩) h.was.lt), h.wo.keep fun k h1 h2 => hk k (.inr ⟨h1.1, Nat.le_of_lt h1.2⟩) h2⟩
/-- The two kinds of cells that are written do not meet. -/
structure TwoRows (w : World) (G : Gd) (tb tz lb lz : Nat) : Prop where
  t : ∀ k, k < G.tables.length → w.cell? ⟨tb, tz + k * 4 + 0, none⟩ = some (.int .u64 (numT G k))
  l : ∀ k, k < G.l.length → w.cell? ⟨lb, lz + k * 6 + 1, none⟩ = some (.int .i64 (opsL G k))
theorem TwoRows.apart {tb tz lb lz : Nat} (h : TwoRows w G tb tz lb lz) {i k : Nat} (hi : i < G.tables.length) (hk : k < G.l.length) : ¬ (lb = tb ∧ lz + 1 + k * 6 = tz + 0 + i * 4) := by
  rintro ⟨rfl, e⟩
  have h1 := h.t i hi
  have h2 := h.l k hk
  rw [show tz + i * 4 + 0 = lz + k * 6 + 1 by omega, h2] at h1
  cases h1
def fT (G : Gd) (k : Nat) : Value := .int .u64 (IntKind.u64.wrap (numT G k + 1))
def fL (G : Gd) (k : Nat) : Value := .int .i64 (wrap64 (opsL G k + 1))
def muT (G : Gd) (tb tz k : Nat) : Nat → Nat → Option Value := strideM tb (tz + 0) 4 k (fT G) (fun _ _ => none)
def muL (G : Gd) (tb tz lb lz k : Nat) : Nat → Nat → Option Value := strideM lb (lz + 1) 6 k (fL G) (muT G tb tz G.tables.length)
theorem TwoRows.tNone {tb tz lb lz : Nat} (h : TwoRows w G tb tz lb lz) {k : Nat} (hk : k < G.l.length) : muT G tb tz G.tables.length lb (lz + 1 + k * 6) = none :=
  strideM_skip (by decide) fun _ hi => h.apart hi hk
theorem TwoRows.tSome {tb tz lb lz : Nat} (h : TwoRows w G tb tz lb lz) {k : Nat} (hk : k < G.tables.length) : muL G tb tz lb lz G.l.length tb (tz + 0 + k * 4) = some (fT G k) := by
  unfold muL
  rw [strideM_skip (by decide) (fun i hi e => h.apart hk hi ⟨e.1.symm, e.2.symm⟩)]
  exact strideM_at _ _ _ _ _ (by decide) hk _ _
/-- What is restored is as it was. -/
theorem TwoRows.back {tb tz lb lz : Nat} (h : TwoRows w G tb tz lb lz) (hu : ∀ a ∈ G.tables, fits .u64 a.num) (hi : ∀ a ∈ G.l, fits .i64 a.ops) {N : Nat} {x : World}
    (hm : Mods N w x (strideM lb (lz + 1) 6 G.l.length (fun k => .int .i64 (wrap64 (wrap64 (opsL G k + 1) - 1))) (strideM tb (tz + 0) 4 G.tables.length (fun k => .int .u64 (IntKind.u64.wrap (IntKind.u64.wrap (numT G k + 1) - 1))) (muL G tb tz lb lz G.l.length)))) : ∀ k, k < N → x.heap[k]? = w.heap[k]? := by
  refine hm.back fun k j v _ hv => ?_
  rcases strideM_out (by decide) hv with ⟨i, h1, rfl, rfl, rfl⟩ | ⟨hv, hn⟩
  · have := h.l i h1
    rw [wrap64_back _ (by rw [opsL_at G i h1]; exact hi _ (List.getElem_mem _)), show lz + 1 + i * 6 = lz + i * 6 + 1 by omega]
    exact this
  · rcases strideM_out (by decide) hv with ⟨i, h1, rfl, rfl, rfl⟩ | ⟨hv, hn2⟩
    · have := h.t i h1
      rw [wrapU_back _ (by rw [numT_at G i h1]; exact hu _ (List.getElem_mem _)), show tz + 0 + i * 4 = tz + i * 4 + 0 by omega]
      exact this
    · rcases strideM_out (by decide) hv with ⟨i, h1, rfl, rfl, _⟩ | ⟨hv, _⟩
      · exact absurd ⟨rfl, rfl⟩ (hn i h1)
      · rcases strideM_out (by decide) hv with ⟨i, h1, rfl, rfl, _⟩ | ⟨hv, _⟩
        · exact absurd ⟨rfl, rfl⟩ (hn2 i h1)
        · cases hv
/-- Where the law stands behind its loops. -/
structure GZ (w : World) (G : Gd) (sl sd si st : Value) (b6 b7 : Nat) (tl td ti tt : Value) (B : Nat) (q : SRef) (A9 O : Nat → Prop) (μ : Nat → Nat → Option Value) (L : Lk) (S : Mem) (x : World) : Prop where
  sx : ∃ A', Sx B x q smallK L S G A' O ∧ ∀ k, A' k → A9 k
  gv : GV w G sl sd si st b6 b7 tl td ti tt x
  md : Mods w.heap.size w x μ
  base : Only (fun _ => True) w x
structure GZa (w : World) (b6 b7 B : Nat) (q : SRef) (A9 : Nat → Prop) : Prop where
  a9 : ∀ k, A9 k → B ≤ k ∧ ¬ (b6 ≤ k ∧ k ≤ b7)
  wb : w.heap.size < B
  bb : b6 ≤ b7
  rp : B ≤ q.r.p ∧ q.r.p < b6
  rq : B ≤ q.r.q ∧ q.r.q < b6
theorem GZa.out {b6 b7 : Nat} {A9 : Nat → Prop} (h : GZa w b6 b7 B q A9) {k : Nat} (hk : k ≤ w.heap.size ∨ (b6 ≤ k ∧ k ≤ b7)) : ¬ LA q.r A9 k := by
  have := h.wb
  have := h.rp
  have := h.rq
  intro hl
  rcases hl with hl | hl | hl
  · have := h.a9 k hl; omega
  · omega
  · omega
variable {sl sd si st tl td ti tt : Value} {b6 b7 : Nat} {A9 : Nat → Prop} {μ : Nat → Nat → Option Value} {x y : World}
theorem GZ.go (h : GZ w G sl sd si st b6 b7 tl td ti tt B q A9 O μ L S x) (ha : GZa w b6 b7 B q A9) (hs : Only (LA q.r A9) x y) (hS : ∃ A', Sx B y q smallK L' S' G A' O ∧ ∀ k, A' k → A9 k) :
    GZ w G sl sd si st b6 b7 tl td ti tt B q A9 O μ L' S' y :=
  ⟨hS, h.gv.keep ha.bb (fun k hk h2 => hs.block k h2 (ha.out (by omega))), h.md.other fun k hk => hs.block k (by have := h.gv.box.lt; omega) (ha.out (by omega)), h.base.trans (hs.mono fun _ _ _ => trivial)⟩
end Go.Proofs.YteiaifhnikknbaaDoor
