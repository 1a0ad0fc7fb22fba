/- The walk over law 17's ArenaOnce. -/
import Derived.Test.YtefdbllphepdeaaInv17
import Derived.Test.YtefdbllphepdeaaOpen17
import Derived.Deep.DeepCutAuto
namespace Go.Proofs.Ytefdbllphepdeaa
open Go.RowKit

def sumN (l : List Int) : Int := (l.map (fun x => 1 + x % 300)).sum
theorem sumN_nil : sumN [] = 0 := rfl
theorem sumN_app (l r : List Int) : sumN (l ++ r) = sumN l + sumN r := by simp [sumN]
theorem sumN_take {l : List Int} (k : Nat) (h : k < l.length) : sumN (l.take (k + 1)) = sumN (l.take k) + (1 + l[k] % 300) := by
  rw [List.take_succ_eq_append_getElem h, sumN_app]
  simp [sumN]
theorem sumN_low (l : List Int) : (l.length : Int) ≤ sumN l ∧ sumN l ≤ 300 * l.length := by
  induction l with
  | nil => simp [sumN]
  | cons a l ih =>
    have : sumN (a :: l) = (1 + a % 300) + sumN l := by simp [sumN]
    rw [this, List.length_cons]
    omega

def u16s (l : List Int) : List Value := l.map (Value.int .u16)
theorem u16s_flat (l : List Int) : l.flatMap cell16 = u16s l := by
  induction l with
  | nil => rfl
  | cons a l ih => rw [List.flatMap_cons, ih]; rfl
theorem u16s_length (l : List Int) : (u16s l).length = l.length := by simp [u16s]
theorem u16s_one (l : List Int) : ∀ u ∈ u16s l, u.oneCell' = true := by
  intro u hu
  obtain ⟨x, _, rfl⟩ := List.mem_map.1 hu
  rfl
/-- A part of an argument's row. -/
theorem row_part {w wr : World} {b off n cap : Nat} {l : List Int} (hr : Reads w 1 (.slice (some ⟨b, off, none⟩) n cap) n (u16s l)) (hb : Below w.heap.size w wr) (i j : Nat) :
    ∀ a u, (u16s ((l.drop i).take j))[a]? = some u → wr.cell? ((⟨b, off + i, none⟩ : Addr).add a) = some u := by
  intro a u hu
  have hr := hr.below hb
  have hlen := hr.len
  rw [u16s_length] at hlen
  have ha : (u16s l)[i + a]? = some u := by
    simp only [u16s, List.getElem?_map, List.getElem?_take, List.getElem?_drop] at hu ⊢
    split at hu
    · exact hu
    · simp at hu
  have hlt := (List.getElem?_eq_some_iff.1 ha).1
  rw [u16s_length] at hlt
  rcases hr.form with ⟨h0, _⟩ | ⟨b', off', c', e, _, hc⟩
  · omega
  · cases e
    have := hc _ _ ha
    rw [addr_plain, Nat.add_assoc]
    exact this
theorem owns_pos {W : World} {base e size n N : Nat} {v : Value} {xs : List Value} (h : W.ownsRow base e size v n xs) (hn : n = N) (h0 : 0 < N) : ∃ g cap, v = .slice (some ⟨g, 0, none⟩) N cap ∧ base ≤ g := by
  subst hn
  rcases h.2 with ⟨_, h0⟩ | ⟨g, cap, _, rfl, hg, _⟩
  · omega
  · exact ⟨g, cap, rfl, hg⟩
theorem owns_reads {W : World} {base e size n N : Nat} {v : Value} {xs ys : List Value} (h : W.ownsRow base e size v n xs) (hn : n = N) (hx : xs = ys) : Reads W size v N ys := by
  subst hn; subst hx
  refine ⟨h.1, ?_⟩
  rcases h.2 with ⟨rfl, rfl⟩ | ⟨g, cap, cur, rfl, _, _, hc, _⟩
  · exact .inl ⟨rfl, _, _, rfl⟩
  · refine .inr ⟨g, 0, cap, rfl, hc, fun j u hu => ?_⟩
    have := h.cells (g := g) rfl j u hu
    rwa [addr_plain] at this
theorem owns_empty {w wr : World} {fz : Obj} (t : TypeId) (h : wr.heap[w.heap.size]? = some (.cells #[] t (0, 0))) : wr.ownsRow w.heap.size t 1 (.slice (some ⟨w.heap.size, 0, none⟩) 0 0) 0 [] :=
  ⟨rfl, .inr ⟨_, 0, #[], rfl, Nat.le_refl _, h, Nat.le_refl _, Nat.zero_le _, rfl, rfl⟩⟩

theorem sumN_mono (l : List Int) (k : Nat) : sumN (l.take k) ≤ sumN l := by
  have h := sumN_app (l.take k) (l.drop k)
  rw [List.take_append_drop] at h
  have := (sumN_low (l.drop k)).1
  omega
/-- So many cells that were given once, and the rest. -/
def ones (n k : Nat) : List Value := List.replicate k (.int .i64 1) ++ List.replicate (n - k) (.int .i64 0)
theorem ones_zero (n : Nat) : ones n 0 = List.replicate n (.int .i64 0) := by simp [ones]
theorem ones_get (n k : Nat) (h : k < n) : (ones n k)[k]? = some (.int .i64 0) := by
  unfold ones
  rw [List.getElem?_append_right (by simp), List.length_replicate, Nat.sub_self, List.getElem?_replicate, if_pos (by omega)]
theorem ones_full (n k : Nat) (h : k < n) : (ones n n)[k]? = some (.int .i64 1) := by
  unfold ones
  rw [List.getElem?_append_left (by simpa using h)]
  simp [h]
theorem ones_set (n k : Nat) (h : k < n) : (ones n k).set k (.int .i64 1) = ones n (k + 1) := by
  apply List.ext_getElem?
  intro i
  simp only [ones, List.getElem?_set, List.getElem?_append, List.length_append, List.length_replicate, List.getElem?_replicate]
  by_cases h1 : k = i
  · subst h1
    rw [if_pos rfl, if_pos (show k < k + 1 by omega), if_pos (show k < k + 1 by omega)]
    rw [if_pos (by omega)]
  · rw [if_neg h1]
    by_cases h2 : i < k
    · rw [if_pos h2, if_pos (show i < k + 1 by omega), if_pos h2, if_pos (show i < k + 1 by omega)]
    · rw [if_neg h2, if_neg (show ¬ i < k + 1 by omega)]
      by_cases h3 : i - k < n - k
      · rw [if_pos h3, if_pos (show i - (k + 1) < n - (k + 1) by omega)]
      · rw [if_neg h3, if_neg (show ¬ i - (k + 1) < n - (k + 1) by omega)]
/-- What is stored elsewhere leaves an arena as it is. -/
theorem AInv.setOther {A : Nat → Prop} {w wr : World} {q g : Nat} {c : CRef} {at_ n x : Int} {tr : List Acc} (h : AInv A w wr q c at_ n x tr) (hg : ¬ A g) (hq : q ≠ g) (hb : w.heap.size ≤ g) (i : Nat) (v : Value) : AInv A w (wr.setCell ⟨g, i, none⟩ v) q c at_ n x tr :=
  ⟨let ⟨S, hC, h1, h2, h3⟩ := h.ex; ⟨S, hC.keep ⟨fun k hA _ => Below.heap_setCell _ _ _ _ (fun e => hg (by have e' : k = g := e; exact e' ▸ hA))⟩, h1, h2, h3⟩,
   ⟨h.arena.blk.set_other hq v, h.arena.out⟩, ⟨fun k hk => h.fresh.new k (by simpa using hk)⟩, h.below.setCell hb v, h.base⟩

theorem infoInt : ((Try.prog.info? 3).map fun i => (i.zero, i.size, i.bytes)) = some (some (.int .i64 0), 1, 8) := by kernel_rfl
theorem run_make64 (m : Nat) (hn : m ≤ 1000000) (W : World) :
    (Instr.makeSlice 39 (.int .u64 (m : Int)) (.int .u64 (m : Int))).run Try.prog W = .ok (.slice (some ⟨W.heap.size, 0, none⟩) m m) (W.alloc (.cells (List.replicate m (.int .i64 0)).toArray 3)) := by
  have := run_make_row' (P := Try.prog) 39 3 (.int .i64 0) 8 Try.underlying39 infoInt rfl .u64 .u64 m (by omega) (by omega) W
  rw [show (Value.int IntKind.i64 0) = (Value.int IntKind.i64 0) from rfl] at this
  have e := made_one (.int .i64 0) rfl m
  rw [← e]
  exact this

theorem info16 : ((Try.prog.info? 22).map fun i => (i.zero, i.size, i.bytes)) = some (some (.int .u16 0), 1, 2) := by kernel_rfl

set_option maxRecDepth 100000 in
set_option maxHeartbeats 1000000 in
theorem arenaOnce (w : World) (ao : Option Addr) (cap : Nat) (l : List Int) (turn : Int) (t0 : 0 ≤ turn) (t1 : turn ≤ 255) (hcap : l.length ≤ cap) (hl : ArgRow w 1 (.slice ao l.length cap) cell16 (fun c => 0 ≤ c ∧ c ≤ 65535) l) :
    Calls Try.prog 4 #[.slice ao l.length cap, .int .u8 turn] w fun e w' => e = .returned (.bool true) ∧ Below w.heap.size w w' := by
  obtain ⟨m, hm', hm1, hm2, -⟩ := cut_min 40 l.length
  have hm : (if (40 : Int) < (l.length : Int) then (40 : Int) else (l.length : Int)) = (m : Int) := hm'
  clear hm'
  have hm3 : m ≤ cap := by omega
  go_enter Try.func4, Try.ntmps4
  go_wp2_with fail
  clear hm
  go_loopw [5, 32] (fun s5 i wr => ∃ k : Nat, k ≤ m ∧ i = .int .i64 k ∧ ∃ s : Int, s5 = .int .u64 s ∧ s = sumN (l.take k) ∧ wr = w) (fun _ i _ => m - (intOf i).toNat)
  case atStart => exact ⟨0, by omega, rfl, 0, rfl, rfl, rfl⟩
  case round =>
    obtain ⟨k, hk, rfl, s, rfl, hs, rfl⟩ := hrel
    have hsl := sumN_low (l.take k)
    rw [← hs, List.length_take, Nat.min_eq_left (by omega)] at hsl
    have HS := Lib.hid hs
    clear hs
    by_cases hlt : k < m
    · have hkl : k < l.length := by omega
      obtain ⟨b, off, rfl, hx⟩ := hl.cell (Below.refl _ _) (by decide) k hkl
      have hsn := sumN_take k hkl
      have hg := hl.good l[k] (List.getElem_mem _)
      obtain ⟨x, hxl⟩ : ∃ x, x = l[k] := ⟨_, rfl⟩
      rw [← hxl] at hx hsn hg
      have x2 := hx 0 _ rfl
      simp only [Nat.add_zero, Nat.mul_one] at x2
      have HN := Lib.hid hsn
      clear hsn hx hxl
      go_wp2_with fail
      go_roundw
      case rel => exact ⟨k + 1, by omega, by go_num, _, rfl, by rw [HN.out, ← HS.out], by trivial⟩
      case measure => simp [intOf]; omega
    · have hk' : k = m := by omega
      rw [hk'] at HS hsl
      by_cases h0 : m = 0
      · have hs0 : s = 0 := by omega
        rw [hs0]
        go_wp2_with fail
        clear hsl hs0 HS hl
        refine (awake17 _).mono ?_
        rintro e w5 ⟨rfl, hb5⟩
        go_wp2_with fail
        go_ret
        exact ⟨rfl, hb5⟩
      · go_wp2_with fail
        clear hk hk' hlt
        obtain ⟨k, hk⟩ : ∃ k : Nat, turn % (m : Int) = (k : Int) := ⟨(turn % (m : Int)).toNat, by have := Int.emod_nonneg turn (b := (m : Int)) (by omega); omega⟩
        have hkm : k < m := by have := Int.emod_lt_of_pos turn (b := (m : Int)) (by omega); omega
        rw [hk]
        clear hk t0 t1
        obtain ⟨b, off, rfl, -⟩ := hl.cell (Below.refl _ _) (by decide) 0 (by omega)
        obtain ⟨i0, hi, hz0, hz1, hz2⟩ := info_parts info16
        have hb0 : b < wr.heap.size ∨ True := .inr trivial
        have hrd : Reads wr 1 (.slice (some ⟨b, off, none⟩) l.length cap) l.length (u16s l) := by have := hl.reads; rwa [u16s_flat] at this
        have hkm' : k ≤ m := by omega
        have hkc : k ≤ cap := by omega
        have hkn : (cap = k) = False := by simp; omega
        have hO0 : Only (fun k => wr.heap.size ≤ k) wr (wr.alloc (.cells #[] 22)).drew := ((Only.refl _ wr).alloc _).drew
        have hown0 : (wr.alloc (.cells #[] 22)).drew.ownsRow wr.heap.size 22 1 (.slice (some ⟨wr.heap.size, 0, none⟩) 0 0) 0 [] := owns_empty (fz := default) _ (heap_alloc_new wr (.cells #[] 22))
        have hb0 := hO0.below (Nat.le_refl _) (fun k hk h => by omega)
        have hnews1 := Lib.hid (row_part hrd hb0 k (m - k))
        go_region_law ((first
          | (refine step_append_own rfl _ _ 37 rfl wr.heap.size 22 i0 (.int .u16 0) 1 2 Try.underlying37 hi hz0 hz1 hz2 rfl (by decide) _ 0 [] rfl hown0 ⟨b, off + k, none⟩ (m - k) (cap - k) (u16s ((l.drop k).take (m - k))) rfl (by rw [u16s_length, List.length_take, List.length_drop]; omega) hnews1.out (u16s_one _) (by unfold maxLen; omega) (by omega) (by simp) ?_; intro v1 w1 hown1 hg1 h7 h8; clear h7 h8; have hO1 := hO0.grown hg1 (fun k hk => by cases hk; exact Nat.le_refl _); obtain ⟨g1, cp1, rfl, hgb1⟩ := owns_pos hown1 (N := m - k) (by omega) (by omega); clear hg1)
          | (refine step_append_own rfl _ _ 37 rfl wr.heap.size 22 i0 (.int .u16 0) 1 2 Try.underlying37 hi hz0 hz1 hz2 rfl (by decide) _ _ _ rfl hown1 ⟨b, off, none⟩ k cap (u16s ((l.drop 0).take k)) rfl (by rw [u16s_length, List.length_take, List.length_drop]; omega) (row_part hrd (hO1.below (Nat.le_refl _) (fun k hk h => by omega)) 0 k) (u16s_one _) (by unfold maxLen; omega) (by omega) hO1.size ?_; intro v2 w2 hown2 hg2 h7 h8; clear h7 h8; have hO2 := hO1.grown hg2 (fun k hk => by cases hk; exact hgb1); obtain ⟨g2, cp2, rfl, hgb2⟩ := owns_pos hown2 (N := m) (by omega) (by omega); clear hg2)))
        have hr2 := owns_reads hown2 (N := m) (by omega) (ys := u16s ((l.drop k).take (m - k) ++ l.take k)) (by simp [u16s])
        have hsz2 := hO2.size
        have hB2 := hO2.below (Nat.le_refl _) (fun k hk h => by omega)
        clear hO1 hown1 hown2 hO0 hown0 hnews1 hb0 hgb1 hi hz0 hz1 hz2
        obtain ⟨v1, hv1⟩ : ∃ v, Value.slice (some ⟨b, off, none⟩) m cap = v := ⟨_, rfl⟩
        obtain ⟨v2, hv2⟩ : ∃ v, Value.slice (some ⟨g2, 0, none⟩) m cp2 = v := ⟨_, rfl⟩
        have hblk : Blk (w2.alloc (.cells #[v1, v2] 37)) w2.heap.size 37 [v1, v2] := Blk.new w2 _ _
        have hrd1 : Reads (w2.alloc (.cells #[v1, v2] 37)) 1 v1 m (u16s (l.take m)) := by
          rw [← hv1]
          refine Reads.alloc (Reads.below ?_ hB2) _
          refine ⟨by rw [u16s_length, List.length_take]; omega, .inr ⟨b, off, cap, rfl, hm3, fun j u hu => ?_⟩⟩
          have := row_part hrd (Below.refl _ _) 0 m j u (by simpa using hu)
          rwa [addr_plain, Nat.add_zero] at this
        have hrd2 : Reads (w2.alloc (.cells #[v1, v2] 37)) 1 v2 m (u16s ((l.drop k).take (m - k) ++ l.take k)) := by
          rw [← hv2]; exact hr2.alloc _
        have hB3 : Below wr.heap.size wr (w2.alloc (.cells #[v1, v2] 37)) := hB2.alloc hsz2 _
        have hf1 : ∃ ao cp, v1 = .slice ao m cp ∧ m ≤ cp := ⟨_, _, hv1.symm, hm3⟩
        have hsum2 : s = sumN ((l.drop k).take (m - k) ++ l.take k) := by
          rw [sumN_app, Int.add_comm, ← sumN_app, HS.out]
          congr 1
          have := List.take_add (l := l) (i := k) (j := m - k)
          rw [show k + (m - k) = m by omega] at this
          exact this
        have hpos : ∀ x ∈ l, 0 ≤ x ∧ x ≤ 65535 := hl.good
        have hs1 : 1 ≤ s := by omega
        have hs2 : s ≤ 12000 := by omega
        have hlists : ∀ j : Nat, j < 2 → ∃ v L, (w2.alloc (.cells #[v1, v2] 37)).cell? ⟨w2.heap.size, j, none⟩ = some v ∧ Reads (w2.alloc (.cells #[v1, v2] 37)) 1 v m (u16s L) ∧ sumN L = s ∧ L.length = m ∧ ∀ x ∈ L, 0 ≤ x ∧ x ≤ 65535 := by
          intro j hj
          match j, hj with
          | 0, _ => exact ⟨v1, _, hblk.cell 0 rfl, hrd1, HS.out.symm, by rw [List.length_take]; omega, fun x hx => hpos x (List.mem_of_mem_take hx)⟩
          | 1, _ =>
            refine ⟨v2, _, hblk.cell 1 rfl, hrd2, hsum2.symm, by rw [List.length_append, List.length_take, List.length_take, List.length_drop]; omega, fun x hx => ?_⟩
            rcases List.mem_append.1 hx with hx | hx
            · exact hpos x (List.mem_of_mem_drop (List.mem_of_mem_take hx))
            · exact hpos x (List.mem_of_mem_take hx)
        rw [← hv1, ← hv2] at hlists hB3
        clear hv1 hv2 hblk hrd1 hrd2 hf1 hsum2 hpos HS
        clear hkm' hkc hkn hb0 hO2 hgb2 hB2 hrd hr2 hsl hl hcap
        obtain ⟨wS, hwS⟩ : ∃ wS, w2.alloc (.cells #[.slice (some ⟨b, off, none⟩) m cap, .slice (some ⟨g2, 0, none⟩) m cp2] 37) = wS := ⟨_, rfl⟩
        have hLB : w2.heap.size < wS.heap.size := by rw [← hwS]; simp
        rw [hwS] at hlists hB3
        go_wp2_with fail
        simp only [Act.put, List.getElem_toArray, List.getElem_cons_zero, List.getElem_cons_succ, List.setIfInBounds_toArray, List.set_cons_succ, List.set_cons_zero]
        rw [hwS]
        clear hwS
        obtain ⟨sn, rfl⟩ : ∃ sn : Nat, s = sn := ⟨s.toNat, by omega⟩
        go_loopw [63] (fun i wx => ∃ j : Nat, j ≤ 2 ∧ i = .int .i64 j ∧ Below wS.heap.size wS wx) (fun i _ => 2 - (intOf i).toNat)
        case atStart => exact ⟨0, by omega, rfl, Below.refl _ _⟩
        case round =>
          obtain ⟨j, hj, rfl, hBS⟩ := hrel
          by_cases hj2 : j < 2
          · obtain ⟨v, L, hcell, hrL, hsum, hlenL, hgood⟩ := hlists j hj2
            have hrd := hrL.below hBS
            have hc := (hBS.cell (p := ⟨w2.heap.size, j, none⟩) hLB).trans hcell
            have hsz := hBS.size
            obtain ⟨bb, oo, cc, rfl, hcc, hcells⟩ : ∃ bb oo cc, v = .slice (some ⟨bb, oo, none⟩) m cc ∧ m ≤ cc ∧ ∀ j u, (u16s L)[j]? = some u → wr.cell? ⟨bb, oo + j, none⟩ = some u := by
              rcases hrd.form with ⟨h, _⟩ | h
              · exact absurd h h0
              · exact h
            clear hrd hrL hcell hlists
            go_wp2_with fail
            refine (made17_ok _ sn hs1 (by omega)).mono ?_
            rintro e w3 ⟨q, c, rfl, hM⟩
            have hI0 := inv_made hM
            have hq : ¬ (fun k => wr.heap.size ≤ k ∧ k ≠ q) q := fun h => h.2 rfl
            have hbase : ∀ k, (fun k => wr.heap.size ≤ k ∧ k ≠ q) k → wr.heap.size ≤ k := fun k h => h.1
            obtain ⟨A, hA⟩ : ∃ A, A = (fun k => wr.heap.size ≤ k ∧ k ≠ q) := ⟨_, rfl⟩
            rw [← hA] at hI0 hq hbase
            clear hA hM
            have hmk := fun W => run_make64 sn (by omega) W
            go_wp2_with fail
            have hI1 := hI0.box (.cells (Array.replicate sn (.int .i64 0)) 3)
            have hbox : Blk (w3.alloc (.cells (Array.replicate sn (.int .i64 0)) 3)) w3.heap.size 3 (ones sn 0) := by have := Blk.new w3 3 (ones sn 0); rw [ones_zero] at this ⊢; simpa using this
            have hgq : wr.heap.size ≤ w3.heap.size := hI0.below.size
            have hng : ¬ (fun k => A k ∧ k ≠ w3.heap.size) w3.heap.size := fun h => h.2 rfl
            obtain ⟨A', hA'⟩ : ∃ A', (fun k => A k ∧ k ≠ w3.heap.size) = A' := ⟨_, rfl⟩
            rw [hA'] at hI1 hng
            obtain ⟨w4, hw4⟩ : ∃ w4, w3.alloc (.cells (Array.replicate sn (.int .i64 0)) 3) = w4 := ⟨_, rfl⟩
            rw [hw4] at hI1 hbox
            rw [hw4]
            obtain ⟨g, hg⟩ : ∃ g, w3.heap.size = g := ⟨_, rfl⟩
            rw [hg] at hbox hgq hng
            rw [hg]
            clear hmk hw4 hg hI0
            go_loopw [79] (fun i wx => ∃ n : Nat, n ≤ m ∧ i = .int .i64 n ∧ ∃ (x : Nat) (tr : List Acc), (x : Int) = sumN (L.take n) ∧ tr.length = n ∧ AInv A' wr wx q c 1 sn x tr ∧ Blk wx g 3 (ones sn x)) (fun i _ => m - (intOf i).toNat)
            case atStart => exact ⟨0, by omega, rfl, 0, [], rfl, rfl, hI1, hbox⟩
            case round =>
              clear hI1 hbox
              obtain ⟨n, hn, rfl, x, tr, hx, htr, hI, hbox⟩ := hrel
              by_cases hlt : n < m
              · have hnl : n < L.length := by omega
                have hsn := sumN_take n hnl
                have hmono := sumN_mono L (n + 1)
                have hgy := hgood L[n] (List.getElem_mem _)
                have hyc := hcells n (Value.int .u16 L[n]) (by simp [u16s, List.getElem?_eq_getElem hnl])
                have hyc2 := (hI.below.cell (World.block_lt_of_cell? _ _ hyc)).trans hyc
                obtain ⟨y, hy⟩ : ∃ y, L[n] = y := ⟨_, rfl⟩
                rw [hy] at hsn hgy hyc2
                obtain ⟨dn, hdn⟩ : ∃ dn : Nat, 1 + y % 300 = (dn : Int) := ⟨(1 + y % 300).toNat, by omega⟩
                have hd1 : 1 ≤ dn := by omega
                have hd2 : dn ≤ 300 := by omega
                have hxs : x + dn ≤ sn := by omega
                have hsn' : ((x + dn : Nat) : Int) = sumN (L.take (n + 1)) := by rw [hsn, ← hx, hdn]; simp
                have HSN := Lib.hid hsn'
                have HX := Lib.hid hx
                have HSUM := Lib.hid hsum
                clear hsn hmono hyc hy hsn' hx hsum
                go_wp2_with fail
                refine (inv_take hI (by rw [htr]; unfold trMax; omega) n dn (by omega) (by omega) (by omega) (by omega) (by decide) (by decide) (by omega) (by omega) x 0 (by omega)).mono ?_
                rintro e w5 ⟨rfl, hI5, hO5⟩
                have hbox5 := hbox.keep (hO5.block _ hbox.lt hng)
                have hqg : q ≠ g := hI5.arena.blk.ne hbox5 (by decide)
                have htr5 : (tr ++ [(⟨n, 5, 1⟩ : Acc)]).length = n + 1 := by simp [htr]
                clear hI hbox hO5 hyc2 hdn hgy
                go_wp2_with fail
                go_loopw [105] (fun i wx => ∃ u : Nat, u ≤ dn ∧ i = .int .u64 u ∧ AInv A' _ wx q c 1 sn ((x + dn : Nat) : Int) (tr ++ [⟨n, 5, 1⟩]) ∧ Blk wx g 3 (ones sn (x + u))) (fun i _ => dn - (intOf i).toNat)
                case atStart => exact ⟨0, by omega, rfl, by rw [Int.natCast_add]; exact hI5, hbox5⟩
                case round =>
                  clear hI5 hbox5
                  obtain ⟨u, hu, rfl, hI, hbox⟩ := hrel
                  by_cases hlu : u < dn
                  · have hxu : x + u < sn := by omega
                    have z := hbox.cell (x + u) (ones_get sn (x + u) hxu)
                    have f := hbox.frozen (x + u)
                    go_wp2_with fail
                    go_roundw
                    case rel =>
                      refine ⟨u + 1, by omega, by go_num, hI.setOther hng hqg hgq (x + u) _, ?_⟩
                      have := hbox.set (x + u) (.int .i64 1)
                      rw [ones_set sn (x + u) hxu] at this
                      exact this
                    case measure => simp [intOf]; omega
                  · have hud : u = dn := by omega
                    rw [hud] at hbox
                    go_wp2_with fail
                    go_roundw
                    case rel => exact ⟨n + 1, by omega, by go_num, x + dn, _, HSN.out, htr5, hI, hbox⟩
                    case measure => simp [intOf]; omega
              · have hnm : n = m := by omega
                have hxs : x = sn := by
                  rw [hnm, List.take_of_length_le (by omega), hsum] at hx
                  omega
                rw [hxs] at hI hbox
                have HX := Lib.hid hx
                clear hx
                go_wp2_with fail
                clear hn hlt
                go_loopw [120] (fun i wx => ∃ u : Nat, u ≤ sn ∧ i = .int .i64 u ∧ AInv A' _ wx q c 1 sn (sn : Int) tr ∧ Blk wx g 3 (ones sn sn)) (fun i _ => sn - (intOf i).toNat)
                case atStart => exact ⟨0, by omega, rfl, hI, hbox⟩
                case round =>
                  clear hI hbox
                  obtain ⟨u, hu, rfl, hI, hbox⟩ := hrel
                  by_cases hlu : u < sn
                  · have z := hbox.cell u (ones_full sn u hlu)
                    go_wp2_with fail
                    go_roundw
                    case rel => exact ⟨u + 1, by omega, by go_num, hI, hbox⟩
                    case measure => simp [intOf]; omega
                  · go_wp2_with fail
                    refine (inv_take hI (by rw [htr]; unfold trMax; omega) 0 1 (by decide) (by decide) (by decide) (by decide) (by decide) (by decide) (by omega) (by omega) 0 13 (by omega)).mono ?_
                    rintro e w5 ⟨rfl, hI5, -⟩
                    go_wp2_with fail
                    go_roundw
                    case rel => exact ⟨j + 1, by omega, by go_num, hBS.trans (hI5.below.mono hBS.size)⟩
                    case measure => simp [intOf]; omega
          · clear hlists
            go_wp2_with (go_at_call 10; refine (awake17 _).mono ?_; rintro e w5 ⟨rfl, hb5⟩)
            go_ret
            exact ⟨rfl, (hB3.trans (hBS.mono hB3.size)).trans (hb5.mono (by have := hB3.size; have := hBS.size; omega))⟩

end Go.Proofs.Ytefdbllphepdeaa
