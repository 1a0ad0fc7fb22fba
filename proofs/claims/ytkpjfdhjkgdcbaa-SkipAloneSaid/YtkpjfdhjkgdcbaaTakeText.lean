/- nums.TakeText. -/
import Derived.Test.YtkpjfdhjkgdcbaaNumsTake
import Derived.Test.YtkpjfdhjkgdcbaaIkPut
import Derived.Laws.BytesArg

namespace Go.Proofs.Ytkpjfdhjkgdcbaa
open Go.RowKit

/-- A row that has elements. -/
theorem Row.real {w : World} {e n : Nat} {v : Value} {xs : List Value} {A : Nat → Prop} (h : Row w e 1 v n xs A) (hn : 0 < n) : ∃ g c, v = .slice (some ⟨g, 0, none⟩) n c ∧ n ≤ c ∧ A g ∧ g < w.heap.size ∧ ∀ j u, xs[j]? = some u → w.cell? ⟨g, 0 + j, none⟩ = some u := by
  rcases h.form with ⟨rfl, rfl⟩ | ⟨g, cap, rfl, _, _, hc⟩
  · omega
  · refine ⟨g, cap, rfl, hc, h.home g rfl, h.lt rfl, fun j u hu => ?_⟩
    have := h.owns.cells (g := g) rfl j u hu
    rwa [addr_plain] at this
theorem strOfNums_key (s : ByteArray) : strOfNums (s.data.toList.map fun u => ((u.toNat : Nat) : Int)) = s := by
  obtain ⟨d⟩ := s
  simp only [strOfNums, List.map_map]
  have e : ((fun n : Int => UInt8.ofNat n.toNat) ∘ fun u : UInt8 => ((u.toNat : Nat) : Int)) = id := by funext u; simp
  rw [e]
  simp
/-- What TakeText answers. -/
def TakeTextP (key : ByteArray) (rest : List UInt8) (w : World) (e : Ending) (w' : World) : Prop :=
  ∃ v, e = .returned (.tuple #[.string key, v, .bool true]) ∧ Row w' 5 1 v rest.length (u8s rest) (fun k => w.heap.size ≤ k) ∧ Below w.heap.size w w'
set_option maxRecDepth 100000 in
set_option maxHeartbeats 2000000 in
theorem taketext_any (w : World) (b off cap n : Nat) (hn : n ≤ 900) (hcap : n ≤ cap) (key : ByteArray) (hk : key.size ≤ 64) (rest : List UInt8) (hr : 0 < rest.length) (hl : (vput key.size ++ (key.data.toList ++ rest)).length = n) (hc : ∀ j u, (u8s (vput key.size ++ (key.data.toList ++ rest)))[j]? = some u → w.cell? ⟨b, off + j, none⟩ = some u) :
    Calls Try.prog 63 #[.slice (some ⟨b, off, none⟩) n cap, .int .i64 64] w (TakeTextP key rest w) := by
  have ht := take_any w b off cap n (by omega) hcap key.size (by omega) (key.data.toList ++ rest) hl hc
  obtain ⟨z, hz⟩ : ∃ z, key.size = z := ⟨_, rfl⟩
  have hzl : key.data.toList.length = z := by rw [← hz]; rfl
  rw [hz] at ht hk
  obtain ⟨N, hN⟩ : ∃ N, (key.data.toList ++ rest).length = N := ⟨_, rfl⟩
  have hNn : N ≤ n := by rw [← hl, List.length_append, hN]; omega
  have hzN : z < N := by rw [← hN, List.length_append, hzl]; omega
  have HT := Lib.hid ht
  have HZ := Lib.hid hz
  have HN := Lib.hid hN
  clear ht hz hl hc hcap hN
  have f1 : ¬ ((z : Int) > 64) := by omega
  have f2 : ¬ ((z : Int) > (N : Int)) := by omega
  have hN0 : 0 < N := by omega
  have hwz : IntKind.u64.wrap (N : Int) = N := wraps_u64 _ (by omega) (by omega)
  go_enter Try.func63, Try.ntmps63
  go_upto_region 4 with (go_at_call 64; refine HT.out.mono ?_; rintro e w1 ⟨v1, rfl, hr1, hb1⟩; rw [HN.out] at hr1; obtain ⟨g, c1, rfl, hc1, hg1, hgl, hcs⟩ := hr1.real hN0)
  have hcv : ∀ y, Below w1.heap.size w1 y → (convert 51 9 (.slice (some ⟨g, 0, none⟩) z c1)).run Try.prog y = .ok (.string key) y := fun y hy => by
    have h := run_convert_bytes_arg (P := Try.prog) y 51 5 Try.underlying51 Try.underlying5 g 0 z c1 (key.data.toList.map fun u => ((u.toNat : Nat) : Int)) (by simp [← hzl]) (fun i hi => by
      rw [World.cell?_of_block (hy.block g hgl)]
      refine hcs i _ ?_
      rw [u8s, List.map_append, List.getElem?_append_left (by simp only [List.length_map]; omega)]
      simp [List.getD, List.getElem?_eq_getElem (show i < key.data.toList.length by omega)]) 9 Try.underlying9
    rw [h, strOfNums_key]
  have hR2 : ∀ y, Below w1.heap.size w1 y → Reads y 1 (.slice (some ⟨g, z, none⟩) (N - z) (c1 - z)) rest.length (u8s rest) := fun y hy => ⟨by rw [u8s_length, Nat.mul_one], .inr ⟨g, z, c1 - z, by rw [← HN.out, List.length_append, hzl, Nat.add_sub_cancel_left], by have := HN.out; rw [List.length_append, hzl] at this; omega, fun j u hu => by
      rw [World.cell?_of_block (hy.block g hgl)]
      have := hcs (z + j) u (by
        rw [u8s, List.map_append, List.getElem?_append_right (by simp [hzl])]
        simpa [hzl, u8s] using hu)
      simpa using this⟩⟩
  have hrl : rest.length ≤ 900 := by have := HN.out; rw [List.length_append, hzl] at this; omega
  have hq1 : Below w1.heap.size w1 w1.drew := Quiet.below ⟨1, rfl⟩ _
  refine wp_region_held_drew (S := (fun x => Below w1.heap.size w1 x)) (by kernel_rfl) hq1 (fun hHeld => ?_)
  refine wpAnyH_take (i := 0) (v := ?_) rfl (by kernel_rfl) (by kernel_rfl) (by kernel_rfl) (fun _ _ _ h => h) (Or.inl ⟨by kernel_rfl, ?_⟩) (by assumption) ?_
  rotate_left
  · (intro w hSw; (try dsimp only at hSw); go_simp; try with_reducible rfl)
  try simp only [Act.put, List.getElem_toArray, List.getElem_cons_zero, List.getElem_cons_succ, List.setIfInBounds_toArray, List.set_cons_zero, List.set_cons_succ]
  refine wpAnyH_take (i := 1) (v := ?_) rfl (by kernel_rfl) (by kernel_rfl) (by kernel_rfl) (fun _ _ _ h => h) (Or.inl ⟨by kernel_rfl, ?_⟩) (by assumption) ?_
  rotate_left
  · (intro w hSw; (try dsimp only at hSw); go_simp; try with_reducible rfl)
  try simp only [Act.put, List.getElem_toArray, List.getElem_cons_zero, List.getElem_cons_succ, List.setIfInBounds_toArray, List.set_cons_zero, List.set_cons_succ]
  refine wpAnyH_take (i := 2) (v := .slice (some ⟨g, 0, none⟩) z c1) rfl (by kernel_rfl) (by kernel_rfl) (by kernel_rfl) (fun _ _ _ h => h) (Or.inl ⟨by kernel_rfl, ?_⟩) (by assumption) ?_
  · (intro y hSw; (try dsimp only at hSw); go_simp; intro h; exfalso; omega)
  try simp only [Act.put, List.getElem_toArray, List.getElem_cons_zero, List.getElem_cons_succ, List.setIfInBounds_toArray, List.set_cons_zero, List.set_cons_succ]
  refine wpAnyH_take (i := 3) (v := .string key) rfl (by kernel_rfl) (by kernel_rfl) (by kernel_rfl) (fun _ _ _ h => h) (Or.inl ⟨by kernel_rfl, ?_⟩) (by assumption) ?_
  · (intro y hSw; (try dsimp only at hSw); have hx := hcv y hSw; go_simp; try with_reducible rfl)
  try simp only [Act.put, List.getElem_toArray, List.getElem_cons_zero, List.getElem_cons_succ, List.setIfInBounds_toArray, List.set_cons_zero, List.set_cons_succ]
  refine wpAnyH_take (i := 4) (v := ?_) rfl (by kernel_rfl) (by kernel_rfl) (by kernel_rfl) (fun _ _ _ h => h) (Or.inl ⟨by kernel_rfl, ?_⟩) (by assumption) ?_
  rotate_left
  · (intro w hSw; (try dsimp only at hSw); go_simp; try with_reducible rfl)
  try simp only [Act.put, List.getElem_toArray, List.getElem_cons_zero, List.getElem_cons_succ, List.setIfInBounds_toArray, List.set_cons_zero, List.set_cons_succ]
  refine wpAnyH_take (i := 5) (v := ?_) rfl (by kernel_rfl) (by kernel_rfl) (by kernel_rfl) (fun _ _ _ h => h) (Or.inl ⟨by kernel_rfl, ?_⟩) (by assumption) ?_
  rotate_left
  · (intro w hSw; (try dsimp only at hSw); go_simp; try with_reducible rfl)
  try simp only [Act.put, List.getElem_toArray, List.getElem_cons_zero, List.getElem_cons_succ, List.setIfInBounds_toArray, List.set_cons_zero, List.set_cons_succ]
  refine wpAnyH_take (i := 6) (v := .slice (some ⟨g, z, none⟩) (N - z) (c1 - z)) rfl (by kernel_rfl) (by kernel_rfl) (by kernel_rfl) (fun _ _ _ h => h) (Or.inl ⟨by kernel_rfl, ?_⟩) (by assumption) ?_
  · (intro y hSw; (try dsimp only at hSw); go_simp; intro h; exfalso; omega)
  try simp only [Act.put, List.getElem_toArray, List.getElem_cons_zero, List.getElem_cons_succ, List.setIfInBounds_toArray, List.set_cons_zero, List.set_cons_succ]
  refine wpAnyH_ready (rs := [7]) (by kernel_rfl) (by simp) ?_
  refine AllReadyH.cons rfl (fun KK hKK => ?_) AllReadyH.nil
  go_simp
  refine (cloneB_any _ _ _ _ (hR2 _ hq1) (by omega)).mono ?_
  rintro e x1 ⟨v2, rfl, hr2, hb2⟩
  have u1 : Below w1.heap.size w1 x1 := hq1.trans (hb2.mono hq1.size)
  refine hKK.out _ _ u1 (fun hHeld1 => ?_)
  clear hKK KK hHeld
  try simp only [Act.put, List.getElem_toArray, List.getElem_cons_zero, List.getElem_cons_succ, List.setIfInBounds_toArray, List.set_cons_zero, List.set_cons_succ]
  refine wpAnyH_take (i := 8) (v := ?_) rfl (by kernel_rfl) (by kernel_rfl) (by kernel_rfl) (fun _ _ _ h => h) (Or.inl ⟨by kernel_rfl, ?_⟩) (by assumption) ?_
  rotate_left
  · (intro w hSw; (try dsimp only at hSw); go_simp; try with_reducible rfl)
  try simp only [Act.put, List.getElem_toArray, List.getElem_cons_zero, List.getElem_cons_succ, List.setIfInBounds_toArray, List.set_cons_zero, List.set_cons_succ]
  refine wpAnyH_take (i := 9) (v := ?_) rfl (by kernel_rfl) (by kernel_rfl) (by kernel_rfl) (fun _ _ _ h => h) (Or.inl ⟨by kernel_rfl, ?_⟩) (by assumption) ?_
  rotate_left
  · (intro w hSw; (try dsimp only at hSw); go_simp; try with_reducible rfl)
  try simp only [Act.put, List.getElem_toArray, List.getElem_cons_zero, List.getElem_cons_succ, List.setIfInBounds_toArray, List.set_cons_zero, List.set_cons_succ]
  refine wpAnyH_take (i := 10) (v := ?_) rfl (by kernel_rfl) (by kernel_rfl) (by kernel_rfl) (fun _ _ _ h => h) (Or.inl ⟨by kernel_rfl, ?_⟩) (by assumption) ?_
  rotate_left
  · (intro w hSw; (try dsimp only at hSw); go_simp; try with_reducible rfl)
  try simp only [Act.put, List.getElem_toArray, List.getElem_cons_zero, List.getElem_cons_succ, List.setIfInBounds_toArray, List.set_cons_zero, List.set_cons_succ]
  refine wpAnyH_done (by kernel_rfl) ?_ _

  go_wp2_with fail
  go_ret3
  exact ⟨v2, rfl, hr2.mono fun j _ hj => Nat.le_trans hb1.size (Nat.le_trans hq1.size hj), hb1.trans (u1.mono hb1.size)⟩
end Go.Proofs.Ytkpjfdhjkgdcbaa
