/- slices.Reverse, store.turned at the rows of chapter 22. -/
import Derived.Test.YteiaifhnikknbaaGreatDoorGuard22c
import Derived.Deep.DeepCutAuto

namespace Go.Proofs.YteiaifhnikknbaaGreatDoor
open Go.RowKit

/-- A cell of a row of one's own is stored. -/
theorem Row.putS {w : World} {e size n : Nat} {v : Value} {xs : List Value} {A : Nat → Prop} (h : Row w e size v n xs A) {g cap : Nat} (hv : v = .slice (some ⟨g, 0, none⟩) n cap) (i : Nat) (u : Value) : Row (w.setCell ⟨g, i, none⟩ u) e size v n (xs.set i u) A := by
  refine ⟨⟨by rw [List.length_set]; exact h.owns.1, ?_⟩, h.home⟩
  rcases h.owns.2 with ⟨rfl, h0⟩ | ⟨g', cap', cur, rfl, hb, hg, h1, h2, h3, h4⟩
  · cases hv
  · cases hv
    have hk : Blk w g e cur.toList := by unfold Blk; rw [Array.toArray_toList]; exact hg
    refine .inr ⟨g, cap, cur.setIfInBounds i u, rfl, hb, ?_, h1, h2, by simpa using h3, ?_⟩
    · have := hk.set i u
      unfold Blk at this
      rw [this]
      exact congrArg (fun c => some (Obj.cells c e (0, 0))) (Array.ext' (by simp))
    · rw [← h4, Array.toList_setIfInBounds, ← List.take_set]
theorem Row.drew {w : World} {e size n : Nat} {v : Value} {xs : List Value} {A : Nat → Prop} (h : Row w e size v n xs A) : Row w.drew e size v n xs A := h.keep fun _ _ => rfl
theorem Row.cellS {w : World} {e size n : Nat} {xs : List Value} {A : Nat → Prop} {g cap : Nat} (h : Row w e size (.slice (some ⟨g, 0, none⟩) n cap) n xs A) (i : Nat) (u : Value) (hu : xs[i]? = some u) : w.cell? ⟨g, i, none⟩ = some u ∧ w.frozen? ⟨g, i, none⟩ = false := by
  refine ⟨?_, ?_⟩
  · have := h.owns.cells (g := g) rfl i u hu
    rwa [addr_plain, Nat.zero_add] at this
  · obtain ⟨cur, hc⟩ := h.tag rfl
    simp [World.frozen?, hc]

section
variable {α : Type}
/-- The first i and the last i are exchanged. -/
def revTo (z : α) (l : List α) (i : Nat) : List α := (List.range l.length).map fun k => if k < i ∨ l.length - 1 - k < i then l.getD (l.length - 1 - k) z else l.getD k z
theorem revTo_len (z : α) (l : List α) (i : Nat) : (revTo z l i).length = l.length := by simp [revTo]
theorem revTo_get (z : α) (l : List α) (i k : Nat) (hk : k < l.length) : (revTo z l i)[k]? = some (if k < i ∨ l.length - 1 - k < i then l.getD (l.length - 1 - k) z else l.getD k z) := by
  simp [revTo, hk]
theorem revTo_zero (z : α) (l : List α) : revTo z l 0 = l := by
  refine List.ext_getElem? fun k => ?_
  by_cases hk : k < l.length
  · rw [revTo_get z l 0 k hk, if_neg (by omega), List.getD_eq_getElem?_getD, List.getElem?_eq_getElem hk]; rfl
  · rw [List.getElem?_eq_none (by rw [revTo_len]; omega), List.getElem?_eq_none (by omega)]
theorem revTo_all (z : α) (l : List α) (i : Nat) (hi : l.length ≤ 2 * i + 1) : revTo z l i = l.reverse := by
  refine List.ext_getElem? fun k => ?_
  by_cases hk : k < l.length
  · rw [revTo_get z l i k hk, List.getElem?_reverse hk]
    have h1 : l.length - 1 - k < l.length := by omega
    rw [List.getElem?_eq_getElem h1]
    by_cases hc : k < i ∨ l.length - 1 - k < i
    · rw [if_pos hc, List.getD_eq_getElem?_getD, List.getElem?_eq_getElem h1]; rfl
    · rw [if_neg hc]
      have e : l.length - 1 - k = k := by omega
      rw [List.getD_eq_getElem?_getD, List.getElem?_eq_getElem hk]
      simp only [e, Option.getD_some]
  · rw [List.getElem?_eq_none (by rw [revTo_len]; omega), List.getElem?_eq_none (by simp; omega)]
theorem revTo_succ (z : α) (l : List α) (i : Nat) (hi : i < l.length - 1 - i) : ((revTo z l i).set i (l.getD (l.length - 1 - i) z)).set (l.length - 1 - i) (l.getD i z) = revTo z l (i + 1) := by
  refine List.ext_getElem? fun k => ?_
  by_cases hk : k < l.length
  · rw [revTo_get z l (i + 1) k hk, List.getElem?_set, List.getElem?_set]
    simp only [List.length_set, revTo_len]
    by_cases h1 : l.length - 1 - i = k
    · rw [if_pos h1, if_pos (by omega), if_pos (by omega), ← h1, show l.length - 1 - (l.length - 1 - i) = i by omega]
    · rw [if_neg h1]
      by_cases h2 : i = k
      · rw [if_pos h2, if_pos (by omega), if_pos (by omega), h2]
      · rw [if_neg h2, revTo_get z l i k hk]
        by_cases hc : k < i ∨ l.length - 1 - k < i
        · rw [if_pos hc, if_pos (by omega)]
        · rw [if_neg hc, if_neg (by omega)]
  · rw [List.getElem?_eq_none (by simp [revTo_len]; omega), List.getElem?_eq_none (by rw [revTo_len]; omega)]
theorem revTo_at (z : α) (l : List α) (i : Nat) (hi : i < l.length - 1 - i) : (revTo z l i)[i]? = some (l.getD i z) ∧ (revTo z l i)[l.length - 1 - i]? = some (l.getD (l.length - 1 - i) z) := by
  constructor
  · rw [revTo_get z l i i (by omega), if_neg (by omega)]
  · rw [revTo_get z l i _ (by omega), if_neg (by omega)]
end

theorem mts_set (l : List Meta) (k : Nat) (a : Meta) : mts (l.set k a) = (((((mts l).set (k * 4) (.int .u64 a.num)).set (k * 4 + 1) (.int .u64 a.size)).set (k * 4 + 2) (.string a.least)).set (k * 4 + 3) (.string a.most)) := by
  induction l generalizing k with
  | nil => simp [mts]
  | cons b l ih =>
    have e : ∀ (x : Meta) (r : List Meta), mts (x :: r) = x.cells ++ mts r := fun _ _ => rfl
    cases k with
    | zero => simp [e, Meta.cells]
    | succ k =>
      rw [List.set_cons_succ, e, e, ih, show (k + 1) * 4 = k * 4 + 1 + 1 + 1 + 1 by omega]
      simp only [Meta.cells, List.cons_append, List.nil_append, List.set_cons_succ]
theorem mts_get (l : List Meta) (k : Nat) (a : Meta) (h : l[k]? = some a) : (mts l)[k * 4]? = some (.int .u64 a.num) ∧ (mts l)[k * 4 + 1]? = some (.int .u64 a.size) ∧ (mts l)[k * 4 + 2]? = some (.string a.least) ∧ (mts l)[k * 4 + 3]? = some (.string a.most) := by
  induction l generalizing k with
  | nil => simp at h
  | cons b l ih =>
    have e : mts (b :: l) = b.cells ++ mts l := rfl
    cases k with
    | zero => simp at h; subst h; rw [e]; simp [Meta.cells]
    | succ k =>
      have := ih k (by simpa using h)
      rw [e, show (k + 1) * 4 = k * 4 + 1 + 1 + 1 + 1 by omega]
      simpa [Meta.cells] using this

theorem ims_set (l : List Imm) (k : Nat) (a : Imm) : ims (l.set k a) = (((ims l).set (k * 2) (.int .i64 a.list)).set (k * 2 + 1) (.int .u64 a.log)) := by
  induction l generalizing k with
  | nil => simp [ims]
  | cons b l ih =>
    have e : ∀ (x : Imm) (r : List Imm), ims (x :: r) = x.cells ++ ims r := fun _ _ => rfl
    cases k with
    | zero => simp [e, Imm.cells]
    | succ k =>
      rw [List.set_cons_succ, e, e, ih, show (k + 1) * 2 = k * 2 + 1 + 1 by omega]
      simp only [Imm.cells, List.cons_append, List.nil_append, List.set_cons_succ]
theorem ims_get (l : List Imm) (k : Nat) (a : Imm) (h : l[k]? = some a) : (ims l)[k * 2]? = some (.int .i64 a.list) ∧ (ims l)[k * 2 + 1]? = some (.int .u64 a.log) := by
  induction l generalizing k with
  | nil => simp at h
  | cons b l ih =>
    have e : ims (b :: l) = b.cells ++ ims l := rfl
    cases k with
    | zero => simp at h; subst h; rw [e]; simp [Imm.cells]
    | succ k =>
      have := ih k (by simpa using h)
      rw [e, show (k + 1) * 2 = k * 2 + 1 + 1 by omega]
      simpa [Imm.cells] using this

set_option maxRecDepth 100000 in
set_option maxHeartbeats 2000000 in
theorem revMt_some {w : World} {A : Nat → Prop} (l : List Meta) (n g cap : Nat) (hn : l.length = n) (h0 : 0 < n) (hs : n ≤ 1000000) (h : Row w 92 4 (.slice (some ⟨g, 0, none⟩) n cap) n (mts l) A) (hcap : n ≤ cap) :
    Calls Tryz.prog 67 #[.slice (some ⟨g, 0, none⟩) n cap] w fun e w' => e = .returned (.tuple #[]) ∧ Row w' 92 4 (.slice (some ⟨g, 0, none⟩) n cap) n (mts l.reverse) A ∧ Only A w w' := by
  have hA : A g := h.home g rfl
  have hr0 := h
  rw [← revTo_zero (⟨0, 0, ⟨#[]⟩, ⟨#[]⟩⟩ : Meta) l] at hr0
  have HL := Lib.hid hn
  clear h hn
  go_enter Tryz.func67, Tryz.ntmps67
  go_wp2_with fail
  go_loopw [2, 3] (fun si sj wr => ∃ i j : Nat, i + j + 1 = n ∧ si = .int .i64 i ∧ sj = .int .i64 j ∧ i ≤ j + 1 ∧ Row wr 92 4 (.slice (some ⟨g, 0, none⟩) n cap) n (mts (revTo ⟨0, 0, ⟨#[]⟩, ⟨#[]⟩⟩ l i)) A ∧ Only A w wr) (fun si _ _ => n - (intOf si).toNat)
  case atStart => exact ⟨0, n - 1, by omega, rfl, by go_num, by omega, hr0, Only.refl _ _⟩
  case round =>
    clear hr0
    obtain ⟨i, j, hij, rfl, rfl, hle, hr, hO⟩ := hrel
    by_cases hlt : i < j
    · have hj : l.length - 1 - i = j := by rw [HL.out]; omega
      have hgt := revTo_at ⟨0, 0, ⟨#[]⟩, ⟨#[]⟩⟩ l i (by rw [hj]; exact hlt)
      rw [hj] at hgt
      obtain ⟨a, ha⟩ : ∃ a, l.getD i ⟨0, 0, ⟨#[]⟩, ⟨#[]⟩⟩ = a := ⟨_, rfl⟩
      obtain ⟨b, hb⟩ : ∃ b, l.getD j ⟨0, 0, ⟨#[]⟩, ⟨#[]⟩⟩ = b := ⟨_, rfl⟩
      have hsu := revTo_succ ⟨0, 0, ⟨#[]⟩, ⟨#[]⟩⟩ l i (by rw [hj]; exact hlt)
      rw [hj, ha, hb] at hsu
      rw [ha, hb] at hgt
      obtain ⟨hi, hj'⟩ := hgt
      have hq := ((((((((hr.putS rfl (i * 4) (.int .u64 b.num)).putS rfl (i * 4 + 1) (.int .u64 b.size)).putS rfl (i * 4 + 2) (.string b.least)).putS rfl (i * 4 + 3) (.string b.most)).putS rfl (j * 4) (.int .u64 a.num)).putS rfl (j * 4 + 1) (.int .u64 a.size)).putS rfl (j * 4 + 2) (.string a.least)).putS rfl (j * 4 + 3) (.string a.most))
      rw [← mts_set, ← mts_set, hsu] at hq
      have hOq := ((((((((hO.setCell (p := ⟨g, i * 4, none⟩) hA (.int .u64 b.num)).setCell (p := ⟨g, i * 4 + 1, none⟩) hA (.int .u64 b.size)).setCell (p := ⟨g, i * 4 + 2, none⟩) hA (.string b.least)).setCell (p := ⟨g, i * 4 + 3, none⟩) hA (.string b.most)).setCell (p := ⟨g, j * 4, none⟩) hA (.int .u64 a.num)).setCell (p := ⟨g, j * 4 + 1, none⟩) hA (.int .u64 a.size)).setCell (p := ⟨g, j * 4 + 2, none⟩) hA (.string a.least)).setCell (p := ⟨g, j * 4 + 3, none⟩) hA (.string a.most))
      have HQ := Lib.hid hq
      have HOQ := Lib.hid hOq
      obtain ⟨gi0, gi1, gi2, gi3⟩ := mts_get _ i _ hi
      obtain ⟨ci0, fi0⟩ := hr.cellS _ _ gi0
      obtain ⟨ci1, fi1⟩ := hr.cellS _ _ gi1
      obtain ⟨ci2, fi2⟩ := hr.cellS _ _ gi2
      obtain ⟨ci3, fi3⟩ := hr.cellS _ _ gi3
      obtain ⟨gj0, gj1, gj2, gj3⟩ := mts_get _ j _ hj'
      obtain ⟨cj0, fj0⟩ := hr.cellS _ _ gj0
      obtain ⟨cj1, fj1⟩ := hr.cellS _ _ gj1
      obtain ⟨cj2, fj2⟩ := hr.cellS _ _ gj2
      obtain ⟨cj3, fj3⟩ := hr.cellS _ _ gj3

      clear hj hsu ha hb hi hj' hr hO hq hOq HL gi0 gi1 gi2 gi3 gj0 gj1 gj2 gj3
      go_upto_region 3 with fail
      go_region
      all_goals
        clear ci0 fi0 ci1 fi1 ci2 fi2 ci3 fi3 cj0 fj0 cj1 fj1 cj2 fj2 cj3 fj3
        go_wp2_with fail
        go_roundw
        case rel => exact ⟨i + 1, j - 1, by omega, by go_num, by go_num, by omega, HQ.out.drew, HOQ.out.drew⟩
        case measure => simp [intOf]; omega
    · rw [revTo_all _ _ _ (by rw [HL.out]; omega)] at hr
      go_wp2_with fail
      go_end0
      exact ⟨rfl, hr, hO⟩

set_option maxRecDepth 100000 in
set_option maxHeartbeats 2000000 in
theorem revIm_some {w : World} {A : Nat → Prop} (l : List Imm) (n g cap : Nat) (hn : l.length = n) (h0 : 0 < n) (hs : n ≤ 1000000) (h : Row w 141 2 (.slice (some ⟨g, 0, none⟩) n cap) n (ims l) A) (hcap : n ≤ cap) :
    Calls Tryz.prog 68 #[.slice (some ⟨g, 0, none⟩) n cap] w fun e w' => e = .returned (.tuple #[]) ∧ Row w' 141 2 (.slice (some ⟨g, 0, none⟩) n cap) n (ims l.reverse) A ∧ Only A w w' := by
  have hA : A g := h.home g rfl
  have hr0 := h
  rw [← revTo_zero (⟨0, 0⟩ : Imm) l] at hr0
  have HL := Lib.hid hn
  clear h hn
  go_enter Tryz.func68, Tryz.ntmps68
  go_wp2_with fail
  go_loopw [2, 3] (fun si sj wr => ∃ i j : Nat, i + j + 1 = n ∧ si = .int .i64 i ∧ sj = .int .i64 j ∧ i ≤ j + 1 ∧ Row wr 141 2 (.slice (some ⟨g, 0, none⟩) n cap) n (ims (revTo ⟨0, 0⟩ l i)) A ∧ Only A w wr) (fun si _ _ => n - (intOf si).toNat)
  case atStart => exact ⟨0, n - 1, by omega, rfl, by go_num, by omega, hr0, Only.refl _ _⟩
  case round =>
    clear hr0
    obtain ⟨i, j, hij, rfl, rfl, hle, hr, hO⟩ := hrel
    by_cases hlt : i < j
    · have hj : l.length - 1 - i = j := by rw [HL.out]; omega
      have hgt := revTo_at ⟨0, 0⟩ l i (by rw [hj]; exact hlt)
      rw [hj] at hgt
      obtain ⟨a, ha⟩ : ∃ a, l.getD i ⟨0, 0⟩ = a := ⟨_, rfl⟩
      obtain ⟨b, hb⟩ : ∃ b, l.getD j ⟨0, 0⟩ = b := ⟨_, rfl⟩
      have hsu := revTo_succ ⟨0, 0⟩ l i (by rw [hj]; exact hlt)
      rw [hj, ha, hb] at hsu
      rw [ha, hb] at hgt
      obtain ⟨hi, hj'⟩ := hgt
      have hq := ((((hr.putS rfl (i * 2) (.int .i64 b.list)).putS rfl (i * 2 + 1) (.int .u64 b.log)).putS rfl (j * 2) (.int .i64 a.list)).putS rfl (j * 2 + 1) (.int .u64 a.log))
      rw [← ims_set, ← ims_set, hsu] at hq
      have hOq := ((((hO.setCell (p := ⟨g, i * 2, none⟩) hA (.int .i64 b.list)).setCell (p := ⟨g, i * 2 + 1, none⟩) hA (.int .u64 b.log)).setCell (p := ⟨g, j * 2, none⟩) hA (.int .i64 a.list)).setCell (p := ⟨g, j * 2 + 1, none⟩) hA (.int .u64 a.log))
      have HQ := Lib.hid hq
      have HOQ := Lib.hid hOq
      obtain ⟨gi0, gi1⟩ := ims_get _ i _ hi
      obtain ⟨ci0, fi0⟩ := hr.cellS _ _ gi0
      obtain ⟨ci1, fi1⟩ := hr.cellS _ _ gi1
      obtain ⟨gj0, gj1⟩ := ims_get _ j _ hj'
      obtain ⟨cj0, fj0⟩ := hr.cellS _ _ gj0
      obtain ⟨cj1, fj1⟩ := hr.cellS _ _ gj1

      clear hj hsu ha hb hi hj' hr hO hq hOq HL gi0 gi1 gj0 gj1
      go_upto_region 3 with fail
      go_region
      all_goals
        clear ci0 fi0 ci1 fi1 cj0 fj0 cj1 fj1
        go_wp2_with fail
        go_roundw
        case rel => exact ⟨i + 1, j - 1, by omega, by go_num, by go_num, by omega, HQ.out.drew, HOQ.out.drew⟩
        case measure => simp [intOf]; omega
    · rw [revTo_all _ _ _ (by rw [HL.out]; omega)] at hr
      go_wp2_with fail
      go_end0
      exact ⟨rfl, hr, hO⟩

set_option maxRecDepth 100000 in
set_option maxHeartbeats 400000 in
theorem revMt_nil {w : World} (ao : Option Addr) (c : Nat) :
    Calls Tryz.prog 67 #[.slice ao 0 c] w fun e w' => e = .returned (.tuple #[]) ∧ w' = w := by
  go_enter Tryz.func67, Tryz.ntmps67
  go_wp2_with fail
  go_loopw [2, 3] (fun si sj wr => si = .int .i64 0 ∧ sj = .int .i64 (-1) ∧ wr = w) (fun _ _ _ => 0)
  case atStart => exact ⟨rfl, rfl, rfl⟩
  case round =>
    obtain ⟨rfl, rfl, rfl⟩ := hrel
    go_wp2_with fail
    go_end0
    exact ⟨rfl, rfl⟩
theorem revMt_any {w : World} {A : Nat → Prop} {v : Value} (l : List Meta) (hs : l.length ≤ 1000000) (h : Row w 92 4 v l.length (mts l) A) :
    Calls Tryz.prog 67 #[v] w fun e w' => e = .returned (.tuple #[]) ∧ Row w' 92 4 v l.length (mts l.reverse) A ∧ Only A w w' := by
  obtain ⟨n, hn⟩ : ∃ n, l.length = n := ⟨_, rfl⟩
  rw [hn] at h hs ⊢
  by_cases h0 : n = 0
  · subst h0
    have hl : l = [] := List.eq_nil_of_length_eq_zero hn
    subst hl
    obtain ⟨ao, c, rfl⟩ := h.slice
    refine (revMt_nil ao c).mono ?_
    rintro e w' ⟨rfl, rfl⟩
    exact ⟨rfl, h, Only.refl _ _⟩
  · obtain ⟨g, cap, rfl, hc⟩ := owns_pos h.owns (by omega)
    exact revMt_some l n g cap hn (by omega) hs h hc
set_option maxRecDepth 100000 in
set_option maxHeartbeats 400000 in
theorem turnedMt {w : World} {v : Value} (l : List Meta) (hs : l.length ≤ 1000000) (h : Reads w 4 v l.length (mts l)) :
    Calls Tryz.prog 57 #[v] w fun e w' => ∃ v', e = .returned v' ∧ Row w' 92 4 v' l.reverse.length (mts l.reverse) (fun k => w.heap.size ≤ k) ∧ Below w.heap.size w w' := by
  have hc := cloneMt_any w v l.length (mts l) h (mts_one l) (by omega)
  have HC := Lib.hid hc
  have HS := Lib.hid hs
  clear hc h hs
  go_enter Tryz.func57, Tryz.ntmps57
  go_wp2_with (first | (go_at_call 41; refine HC.out.mono ?_; rintro e w1 ⟨v1, rfl, hr, hB⟩; have HR := Lib.hid (revMt_any l HS.out hr); clear hr HC) | (go_at_call 67; refine HR.out.mono ?_; rintro e w2 ⟨rfl, hr2, hO⟩; clear HR))
  go_ret
  exact ⟨_, rfl, by rw [List.length_reverse]; exact hr2, hB.trans (hO.below hB.size (fun k hk hA => by omega))⟩

set_option maxRecDepth 100000 in
set_option maxHeartbeats 400000 in
theorem revIm_nil {w : World} (ao : Option Addr) (c : Nat) :
    Calls Tryz.prog 68 #[.slice ao 0 c] w fun e w' => e = .returned (.tuple #[]) ∧ w' = w := by
  go_enter Tryz.func68, Tryz.ntmps68
  go_wp2_with fail
  go_loopw [2, 3] (fun si sj wr => si = .int .i64 0 ∧ sj = .int .i64 (-1) ∧ wr = w) (fun _ _ _ => 0)
  case atStart => exact ⟨rfl, rfl, rfl⟩
  case round =>
    obtain ⟨rfl, rfl, rfl⟩ := hrel
    go_wp2_with fail
    go_end0
    exact ⟨rfl, rfl⟩
theorem revIm_any {w : World} {A : Nat → Prop} {v : Value} (l : List Imm) (hs : l.length ≤ 1000000) (h : Row w 141 2 v l.length (ims l) A) :
    Calls Tryz.prog 68 #[v] w fun e w' => e = .returned (.tuple #[]) ∧ Row w' 141 2 v l.length (ims l.reverse) A ∧ Only A w w' := by
  obtain ⟨n, hn⟩ : ∃ n, l.length = n := ⟨_, rfl⟩
  rw [hn] at h hs ⊢
  by_cases h0 : n = 0
  · subst h0
    have hl : l = [] := List.eq_nil_of_length_eq_zero hn
    subst hl
    obtain ⟨ao, c, rfl⟩ := h.slice
    refine (revIm_nil ao c).mono ?_
    rintro e w' ⟨rfl, rfl⟩
    exact ⟨rfl, h, Only.refl _ _⟩
  · obtain ⟨g, cap, rfl, hc⟩ := owns_pos h.owns (by omega)
    exact revIm_some l n g cap hn (by omega) hs h hc
set_option maxRecDepth 100000 in
set_option maxHeartbeats 400000 in
theorem turnedIm {w : World} {v : Value} (l : List Imm) (hs : l.length ≤ 1000000) (h : Reads w 2 v l.length (ims l)) :
    Calls Tryz.prog 58 #[v] w fun e w' => ∃ v', e = .returned v' ∧ Row w' 141 2 v' l.reverse.length (ims l.reverse) (fun k => w.heap.size ≤ k) ∧ Below w.heap.size w w' := by
  have hc := cloneIm_any w v l.length (ims l) h (ims_one l) (by omega)
  have HC := Lib.hid hc
  have HS := Lib.hid hs
  clear hc h hs
  go_enter Tryz.func58, Tryz.ntmps58
  go_wp2_with (first | (go_at_call 66; refine HC.out.mono ?_; rintro e w1 ⟨v1, rfl, hr, hB⟩; have HR := Lib.hid (revIm_any l HS.out hr); clear hr HC) | (go_at_call 68; refine HR.out.mono ?_; rintro e w2 ⟨rfl, hr2, hO⟩; clear HR))
  go_ret
  exact ⟨_, rfl, by rw [List.length_reverse]; exact hr2, hB.trans (hO.below hB.size (fun k hk hA => by omega))⟩
end Go.Proofs.YteiaifhnikknbaaGreatDoor
