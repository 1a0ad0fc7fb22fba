/- The walk over law 19's unlike. -/
import Derived.Test.YtkpjfdhjkgdcbaaFew19
import Derived.Test.YtkpjfdhjkgdcbaaMade19
import Derived.Deep.CutBlock

namespace Go.Proofs.Ytkpjfdhjkgdcbaa
open Go.RowKit

/-- A string's first bytes. -/
def cutK (s : ByteArray) (n : Nat) : ByteArray := s.extract 0 (min s.size n)
def keyK (k : ByteArray) : ByteArray := if k.size = 0 then ⟨#[107]⟩ else k
def fixH (h : Int) : Int := (h.tmod 6 + 6).tmod 6 + 1
def fixW (a : Wk) (key : ByteArray) (seq : Int) : Wk := ⟨entS (cutK key 64) seq (cutK a.e.val 256), fixH a.h⟩
def unRow : Int → List Wk → List Wk
  | _, [] => []
  | s, a :: l => fixW a (keyK a.e.k.key) (s + 1) :: unRow (s + 1) l
def unAll : Int → List (List Wk) → List (List Wk)
  | _, [] => []
  | s, l :: ts => unRow s l :: unAll (s + l.length) ts
theorem unRow_len : ∀ (s : Int) (l : List Wk), (unRow s l).length = l.length
  | _, [] => rfl
  | s, _ :: l => by rw [unRow, List.length_cons, unRow_len (s + 1) l, List.length_cons]
theorem unRow_append : ∀ (s : Int) (l m : List Wk), unRow s (l ++ m) = unRow s l ++ unRow (s + l.length) m
  | s, [], m => by simp [unRow]
  | s, a :: l, m => by
    rw [List.cons_append, unRow, unRow, unRow_append (s + 1) l m, List.cons_append, List.length_cons]
    congr 3
    omega
theorem unRow_take (s : Int) (l : List Wk) (j : Nat) (hj : j < l.length) : unRow s (l.take (j + 1)) = unRow s (l.take j) ++ [fixW l[j] (keyK l[j].e.k.key) (s + j + 1)] := by
  rw [List.take_succ_eq_append_getElem hj, unRow_append, List.length_take, Nat.min_eq_left (Nat.le_of_lt hj)]
  rfl
theorem unAll_append : ∀ (s : Int) (l m : List (List Wk)), unAll s (l ++ m) = unAll s l ++ unAll (s + sumLen l) m
  | s, [], m => by simp [unAll, sumLen]
  | s, a :: l, m => by
    rw [List.cons_append, unAll, unAll, unAll_append _ l m, List.cons_append]
    congr 3
    simp [sumLen]
    omega
theorem unAll_len : ∀ (s : Int) (l : List (List Wk)), (unAll s l).length = l.length
  | _, [] => rfl
  | s, _ :: l => by rw [unAll, List.length_cons, unAll_len _ l, List.length_cons]
theorem unAll_take (ts : List (List Wk)) (k : Nat) (hk : k < ts.length) : unAll 0 (ts.take (k + 1)) = unAll 0 (ts.take k) ++ [unRow (sumLen (ts.take k)) ts[k]] := by
  rw [List.take_succ_eq_append_getElem hk, unAll_append, Int.zero_add]
  rfl
theorem wks_append (l m : List Wk) : wks (l ++ m) = wks l ++ wks m := by simp [wks]
theorem wks_one (l : List Wk) : ∀ u ∈ wks l, u.oneCell' = true := by
  intro u hu
  obtain ⟨a, _, h⟩ := List.mem_flatMap.1 hu
  simp only [Wk.cells, List.mem_cons, List.not_mem_nil, or_false] at h
  rcases h with rfl | rfl | rfl | rfl | rfl <;> rfl
theorem infoWk : ((Try.prog.info? 40).map fun i => (i.zero, i.size, i.bytes)) = some (some (.agg #[.string ⟨#[]⟩, .int .u64 0, .int .u8 0, .string ⟨#[]⟩, .int .i64 0]), 5, 56) := by kernel_rfl
theorem infoWks : ((Try.prog.info? 22).map fun i => (i.zero, i.size, i.bytes)) = some (some (.slice none 0 0), 1, 24) := by kernel_rfl
theorem sumLen_split (ts : List (List Wk)) (k : Nat) : sumLen (ts.take k) + sumLen (ts.drop k) = sumLen ts := by
  unfold sumLen
  rw [← List.sum_append, ← List.map_append, List.take_append_drop]
theorem cells_fresh (w : World) (cs : List Value) (t : Nat) : ∀ j u, cs[j]? = some u → (w.alloc (.cells cs.toArray t)).cell? ((⟨w.heap.size, 0, none⟩ : Addr).add j) = some u := by
  intro j u hu
  rw [addr_plain, Nat.zero_add]
  exact (Blk.new w t cs).cell j hu
theorem wk_one (a : Wk) : ∀ u ∈ a.cells, u.oneCell' = true := by
  intro u h
  simp only [Wk.cells, List.mem_cons, List.not_mem_nil, or_false] at h
  rcases h with rfl | rfl | rfl | rfl | rfl <;> rfl
theorem row_grew {w wr w1 : World} {e : TypeId} {size k m : Nat} {v v' : Value} {xs news : List Value} {o : Obj} (h : Row wr e size v k xs (fun b => w.heap.size ≤ b)) (hB : Below w.heap.size w wr)
    (hown : w1.ownsRow 0 e size v' (k + m) (xs ++ news)) (hg : (wr.alloc o).grownBy w1 v.ownBlock) (hat : v'.ownBlock = v.ownBlock ∨ v'.ownBlock = some (wr.alloc o).heap.size) :
    Row w1 e size v' (k + m) (xs ++ news) (fun b => w.heap.size ≤ b) ∧ Below w.heap.size w w1 := by
  have hs := hB.size
  refine ⟨⟨hown, fun b hb => ?_⟩, (hB.alloc hs o).grown hg (by simp; omega) (fun b hb => h.home b hb)⟩
  rcases hat with e1 | e1
  · exact h.home b (e1 ▸ hb)
  · rw [e1] at hb
    cases hb
    show w.heap.size ≤ (wr.alloc o).heap.size
    simp
    omega
theorem ifmin (n k : Nat) : (if (k : Int) < (n : Int) then (k : Int) else (n : Int)) = ((min n k : Nat) : Int) := by
  split <;> omega
theorem fixH_wrap (h : Int) : IntKind.i64.wrap ((IntKind.i64.wrap (h.tmod 6 + 6)).tmod 6 + 1) = fixH h := by
  have h1 := Int.tmod_lt_of_pos h (b := 6) (by decide)
  have h2 : -6 < h.tmod 6 := by have := Int.lt_tmod_of_pos h (b := 6) (by decide); omega
  have e1 : IntKind.i64.wrap (h.tmod 6 + 6) = h.tmod 6 + 6 := by rw [IntKind.wrap_i64]; omega
  rw [e1]
  unfold fixH
  have h3 := Int.tmod_lt_of_pos (h.tmod 6 + 6) (b := 6) (by decide)
  have h4 : 0 ≤ (h.tmod 6 + 6).tmod 6 := Int.tmod_nonneg _ (by omega)
  rw [IntKind.wrap_i64]
  omega
/-- The rows that are done. -/
structure UnIn (w wr : World) (v : Value) (rows : List (List Wk)) : Prop where
  ex : ∃ vs : List Value, Row wr 22 1 v rows.length vs (fun j => w.heap.size ≤ j) ∧ ∀ (i : Nat) (l : List Wk) (u : Value), rows[i]? = some l → vs[i]? = some u → Row wr 40 5 u l.length (wks l) (fun j => w.heap.size ≤ j)
  below : Below w.heap.size w wr
set_option maxRecDepth 100000 in
set_option maxHeartbeats 2000000 in
theorem unlike_any (w : World) (v : Value) (ts : List (List Wk)) (h : WksAt w v ts) (hsum : sumLen ts ≤ 30) (hlen : ts.length ≤ 8) :
    Calls Try.prog 11 #[v] w fun e w' => ∃ v', e = .returned v' ∧ UnIn w w' v' (unAll 0 ts) := by
  obtain ⟨n, hn⟩ : ∃ n, ts.length = n := ⟨_, rfl⟩
  obtain ⟨ao, co, rfl⟩ : ∃ ao co, v = .slice ao n co := by
    obtain ⟨vs, h1, _⟩ := h.ex
    rw [← hn]
    exact h1.slice
  rw [hn] at hlen
  have HN := Lib.hid hn
  have HH := Lib.hid h
  have HM := Lib.hid hsum
  clear hn h hsum
  go_enter Try.func11, Try.ntmps11
  go_wp2_with fail
  go_loopw [3, 4, 13] (fun s3 s4 i wr => ∃ (k sq : Nat) (v : Value), k ≤ n ∧ i = .int .i64 k ∧ s3 = .int .u64 sq ∧ sq = sumLen (ts.take k) ∧ s4 = v ∧ UnIn w wr v (unAll 0 (ts.take k))) (fun _ _ i _ => n - (intOf i).toNat)
  case atStart => exact ⟨0, 0, _, Nat.zero_le _, rfl, rfl, rfl, rfl, ⟨⟨[], Row.nil _ _ _ _, fun i l u q => by simp [unAll] at q⟩, Below.refl _ _⟩⟩
  case round =>
    obtain ⟨k, sq, v, hk, rfl, rfl, hsq, hs4, hU⟩ := hrel
    have hs4' := hs4.symm
    subst hs4'
    clear hs4
    have hB := hU.below
    have HU := Lib.hid hU
    have hs30 : sumLen (ts.take k) ≤ 30 := by
      have h1 := HM.out
      have e := sumLen_split ts k
      omega
    have HSQ := Lib.hid hsq
    have hsq30 : sq ≤ 30 := by omega
    clear hU hsq hs30
    by_cases hlt : k < n
    · have hkl : k < ts.length := by have := HN.out; omega
      obtain ⟨b, off, c, u, hv, hc, hur⟩ := HH.out.row k hkl
      have hu := (hur wr hB).1
      have hr := fun w' hw => (hur w' hw).2
      clear hur
      rw [HN.out] at hv
      cases hv
      obtain ⟨l, hl⟩ : ∃ l, l = ts[k] := ⟨_, rfl⟩
      rw [← hl] at hr
      have hlm : sq + l.length ≤ 30 := by
        have h1 := HM.out
        have e := sumLen_split ts (k + 1)
        rw [sumLen_take ts k hkl, ← HSQ.out, ← hl] at e
        omega
      obtain ⟨m, hm⟩ : ∃ m, l.length = m := ⟨_, rfl⟩
      obtain ⟨au, cu, rfl⟩ : ∃ au cu, u = .slice au m cu := by rw [← hm]; exact (hr wr hB).slice
      rw [hm] at hlm
      have HL := Lib.hid hl
      have HR := Lib.hid hr
      have HE := Lib.hid hm
      clear hl hr hm
      go_wp2_with fail
      obtain ⟨wz, rfl⟩ : ∃ z, z = wr := ⟨_, rfl⟩
      go_loopw [3, 7, 19] (fun s3 s7 i wx => ∃ (j : Nat) (y : Value), j ≤ m ∧ i = .int .i64 j ∧ s3 = .int .u64 (sq + j : Nat) ∧ s7 = y ∧ Row wx 40 5 y j (wks (unRow sq (l.take j))) (fun j => wz.heap.size ≤ j) ∧ Below wz.heap.size wz wx) (fun _ _ i _ => m - (intOf i).toNat)
      case atStart => exact ⟨0, _, Nat.zero_le _, rfl, rfl, rfl, Row.nil _ _ _ _, Below.refl _ _⟩
      case round =>
        obtain ⟨j, y, hj, rfl, rfl, rfl, hrow, hBz⟩ := hrel
        have hBx := hB.trans (hBz.mono hB.size)
        by_cases hjlt : j < m
        · have hjl : j < l.length := by have := HE.out; omega
          obtain ⟨a, ha⟩ : ∃ a, a = l[j] := ⟨_, rfl⟩
          obtain ⟨b5, o5, c5, hv5, hx⟩ := (HR.out wr hBx).wk j hjl
          have hfit : WkFits a := HH.out.good l (by rw [HL.out]; exact List.getElem_mem _) a (by rw [ha]; exact List.getElem_mem _)
          rw [HE.out] at hv5
          cases hv5
          rw [← ha] at hx
          have x0 := hx 0 _ rfl
          have x1 := hx 1 _ rfl
          have x2 := hx 2 _ rfl
          have x3 := hx 3 _ rfl
          have x4 := hx 4 _ rfl
          simp only [Nat.add_zero] at x0
          have q1 := hfit.1.1.n
          have q2 := hfit.1.2
          have q3 := hfit.2
          have HFA := Lib.hid ha
          have HROW := Lib.hid hrow
          obtain ⟨ay, cy, rfl⟩ := hrow.slice
          clear hx hfit ha hrow
          obtain ⟨key, hkey⟩ : ∃ key, keyK a.e.k.key = key := ⟨_, rfl⟩
          have HKEY := Lib.hid hkey
          clear hkey
          obtain ⟨wq, hwq⟩ : ∃ W, wr.alloc (.cells #[.string a.e.k.key, .int .u64 a.e.k.seq, .int .u8 a.e.k.kind, .string a.e.val, .int .i64 a.h] 40) = W := ⟨_, rfl⟩
          have kb : Blk wq wr.heap.size 40 a.cells := by rw [← hwq]; exact Blk.new wr _ _
          have hBq : Below wr.heap.size wr wq := by rw [← hwq]; exact (Below.refl _ _).alloc (Nat.le_refl _) _
          have z0 := kb.cell 0 (v := .string a.e.k.key) rfl
          have z1 := kb.cell 1 (v := .int .u64 a.e.k.seq) rfl
          have z2 := kb.cell 2 (v := .int .u8 a.e.k.kind) rfl
          have z3 := kb.cell 3 (v := .string a.e.val) rfl
          have z4 := kb.cell 4 (v := .int .i64 a.h) rfl
          go_upto_if 31 with fail
          go_cut [10] (fun s10 wx => s10 = .string key ∧ wx = wq)
          case first =>
            by_cases hk0 : a.e.k.key.size = 0
            · have hk1 : key = ⟨#[107]⟩ := by rw [← HKEY.out]; exact if_pos hk0
              subst hk1
              have hkb : ((a.e.k.key.size : Int) == 0) = true := by simp [hk0]
              go_wp2_with fail
              go_meet
              exact ⟨rfl, rfl⟩
            · have hk1 : key = a.e.k.key := by rw [← HKEY.out]; exact if_neg hk0
              have HK1 := Lib.hid hk1
              have hkb : ((a.e.k.key.size : Int) == 0) = false := by rw [beq_eq_false_iff_ne]; omega
              clear hk1
              go_wp2_with fail
              go_meet
              exact ⟨by rw [HK1.out], rfl⟩
          case rest =>
            obtain ⟨rfl, rfl⟩ := hcut
            obtain ⟨sq', hsq'⟩ : ∃ sq' : Int, (sq : Int) + (j : Int) + 1 = sq' := ⟨_, rfl⟩
            have s0 : 0 ≤ sq' ∧ sq' ≤ 100 := by omega
            rw [hsq']
            obtain ⟨b0, hb0⟩ : ∃ b0, wr.heap.size = b0 := ⟨_, rfl⟩
            obtain ⟨wq, rfl⟩ : ∃ z, z = wc := ⟨_, rfl⟩
            have kq0 := kb
            rw [hb0] at kq0
            rw [hb0]
            have kq : Blk wq.drew b0 40 a.cells := kq0.keep rfl
            have hBd : Below b0 wq wq.drew := ⟨rfl, rfl, rfl, Nat.le_refl _, fun _ _ => rfl⟩
            clear z0 z1 z2 z3 z4
            go_upto_region 14 with fail
            obtain ⟨i0, hi, hz0, hz1, hz2⟩ := info_parts infoWk
            refine wp_region_held_drew (S := (fun x => Blk x b0 40 a.cells)) (by kernel_rfl) kq (fun hHeld => ?_)
            refine wpAnyH_take (i := 0) (v := ?_) rfl (by kernel_rfl) (by kernel_rfl) (by kernel_rfl) (fun _ _ _ h => h) (Or.inl ⟨by kernel_rfl, ?_⟩) (by assumption) ?_
            rotate_left
            · (intro w hSw; (try dsimp only at hSw); go_simp; try with_reducible rfl)
            try simp only [Act.put, List.getElem_toArray, List.getElem_cons_zero, List.getElem_cons_succ, List.setIfInBounds_toArray, List.set_cons_zero, List.set_cons_succ]
            refine wpAnyH_take (i := 1) (v := ?_) rfl (by kernel_rfl) (by kernel_rfl) (by kernel_rfl) (fun _ _ _ h => h) (Or.inl ⟨by kernel_rfl, ?_⟩) (by assumption) ?_
            rotate_left
            · (intro w hSw; (try dsimp only at hSw); go_simp; try with_reducible rfl)
            try simp only [Act.put, List.getElem_toArray, List.getElem_cons_zero, List.getElem_cons_succ, List.setIfInBounds_toArray, List.set_cons_zero, List.set_cons_succ]
            refine wpAnyH_take (i := 2) (v := ?_) rfl (by kernel_rfl) (by kernel_rfl) (by kernel_rfl) (fun _ _ _ h => h) (Or.inl ⟨by kernel_rfl, ?_⟩) (by assumption) ?_
            rotate_left
            · (intro w hSw; (try dsimp only at hSw); go_simp; try with_reducible rfl)
            try simp only [Act.put, List.getElem_toArray, List.getElem_cons_zero, List.getElem_cons_succ, List.setIfInBounds_toArray, List.set_cons_zero, List.set_cons_succ]
            refine wpAnyH_take (i := 3) (v := ?_) rfl (by kernel_rfl) (by kernel_rfl) (by kernel_rfl) (fun _ _ _ h => h) (Or.inl ⟨by kernel_rfl, ?_⟩) (by assumption) ?_
            rotate_left
            · (intro w hSw; (try dsimp only at hSw); go_simp; try with_reducible rfl)
            try simp only [Act.put, List.getElem_toArray, List.getElem_cons_zero, List.getElem_cons_succ, List.setIfInBounds_toArray, List.set_cons_zero, List.set_cons_succ]
            refine wpAnyH_take (i := 4) (v := .int .i64 (min key.size 64 : Nat)) rfl (by kernel_rfl) (by kernel_rfl) (by kernel_rfl) (fun _ _ _ h => h) (Or.inl ⟨by kernel_rfl, ?_⟩) (by assumption) ?_
            · (intro y hSw; (try dsimp only at hSw); go_simp; exact ifmin key.size 64)
            try simp only [Act.put, List.getElem_toArray, List.getElem_cons_zero, List.getElem_cons_succ, List.setIfInBounds_toArray, List.set_cons_zero, List.set_cons_succ]
            refine wpAnyH_take (i := 5) (v := .string (cutK key 64)) rfl (by kernel_rfl) (by kernel_rfl) (by kernel_rfl) (fun _ _ _ h => h) (Or.inl ⟨by kernel_rfl, ?_⟩) (by assumption) ?_
            · (intro y hSw; (try dsimp only at hSw); go_simp; rw [if_pos (Nat.min_le_left key.size 64)]; rfl)
            try simp only [Act.put, List.getElem_toArray, List.getElem_cons_zero, List.getElem_cons_succ, List.setIfInBounds_toArray, List.set_cons_zero, List.set_cons_succ]
            refine wpAnyH_take (i := 6) (v := ?_) rfl (by kernel_rfl) (by kernel_rfl) (by kernel_rfl) (fun _ _ _ h => h) (Or.inl ⟨by kernel_rfl, ?_⟩) (by assumption) ?_
            rotate_left
            · (intro w hSw; (try dsimp only at hSw); go_simp; try with_reducible rfl)
            try simp only [Act.put, List.getElem_toArray, List.getElem_cons_zero, List.getElem_cons_succ, List.setIfInBounds_toArray, List.set_cons_zero, List.set_cons_succ]
            refine wpAnyH_take (i := 7) (v := ?_) rfl (by kernel_rfl) (by kernel_rfl) (by kernel_rfl) (fun _ _ _ h => h) (Or.inl ⟨by kernel_rfl, ?_⟩) (by assumption) ?_
            rotate_left
            · (intro w hSw; (try dsimp only at hSw); go_simp; try with_reducible rfl)
            try simp only [Act.put, List.getElem_toArray, List.getElem_cons_zero, List.getElem_cons_succ, List.setIfInBounds_toArray, List.set_cons_zero, List.set_cons_succ]
            refine wpAnyH_take (i := 8) (v := ?_) rfl (by kernel_rfl) (by kernel_rfl) (by kernel_rfl) (fun _ _ _ h => h) (Or.inl ⟨by kernel_rfl, ?_⟩) (by assumption) ?_
            rotate_left
            · (intro w hSw; (try dsimp only at hSw); go_simp; try with_reducible rfl)
            try simp only [Act.put, List.getElem_toArray, List.getElem_cons_zero, List.getElem_cons_succ, List.setIfInBounds_toArray, List.set_cons_zero, List.set_cons_succ]
            refine wpAnyH_take (i := 9) (v := .string a.e.val) rfl (by kernel_rfl) (by kernel_rfl) (by kernel_rfl) (fun _ _ _ h => h) (Or.inl ⟨by kernel_rfl, ?_⟩) (by assumption) ?_
            · (intro y hSw; have hc := hSw.cell 3 (v := .string a.e.val) rfl; go_simp; try with_reducible rfl)
            try simp only [Act.put, List.getElem_toArray, List.getElem_cons_zero, List.getElem_cons_succ, List.setIfInBounds_toArray, List.set_cons_zero, List.set_cons_succ]
            refine wpAnyH_take (i := 10) (v := ?_) rfl (by kernel_rfl) (by kernel_rfl) (by kernel_rfl) (fun _ _ _ h => h) (Or.inl ⟨by kernel_rfl, ?_⟩) (by assumption) ?_
            rotate_left
            · (intro w hSw; (try dsimp only at hSw); go_simp; try with_reducible rfl)
            try simp only [Act.put, List.getElem_toArray, List.getElem_cons_zero, List.getElem_cons_succ, List.setIfInBounds_toArray, List.set_cons_zero, List.set_cons_succ]
            refine wpAnyH_take (i := 11) (v := ?_) rfl (by kernel_rfl) (by kernel_rfl) (by kernel_rfl) (fun _ _ _ h => h) (Or.inl ⟨by kernel_rfl, ?_⟩) (by assumption) ?_
            rotate_left
            · (intro w hSw; (try dsimp only at hSw); go_simp; try with_reducible rfl)
            try simp only [Act.put, List.getElem_toArray, List.getElem_cons_zero, List.getElem_cons_succ, List.setIfInBounds_toArray, List.set_cons_zero, List.set_cons_succ]
            refine wpAnyH_take (i := 12) (v := .string a.e.val) rfl (by kernel_rfl) (by kernel_rfl) (by kernel_rfl) (fun _ _ _ h => h) (Or.inl ⟨by kernel_rfl, ?_⟩) (by assumption) ?_
            · (intro y hSw; have hc := hSw.cell 3 (v := .string a.e.val) rfl; go_simp; try with_reducible rfl)
            try simp only [Act.put, List.getElem_toArray, List.getElem_cons_zero, List.getElem_cons_succ, List.setIfInBounds_toArray, List.set_cons_zero, List.set_cons_succ]
            refine wpAnyH_take (i := 13) (v := ?_) rfl (by kernel_rfl) (by kernel_rfl) (by kernel_rfl) (fun _ _ _ h => h) (Or.inl ⟨by kernel_rfl, ?_⟩) (by assumption) ?_
            rotate_left
            · (intro w hSw; (try dsimp only at hSw); go_simp; try with_reducible rfl)
            try simp only [Act.put, List.getElem_toArray, List.getElem_cons_zero, List.getElem_cons_succ, List.setIfInBounds_toArray, List.set_cons_zero, List.set_cons_succ]
            refine wpAnyH_take (i := 14) (v := .int .i64 (min a.e.val.size 256 : Nat)) rfl (by kernel_rfl) (by kernel_rfl) (by kernel_rfl) (fun _ _ _ h => h) (Or.inl ⟨by kernel_rfl, ?_⟩) (by assumption) ?_
            · (intro y hSw; (try dsimp only at hSw); go_simp; exact ifmin a.e.val.size 256)
            try simp only [Act.put, List.getElem_toArray, List.getElem_cons_zero, List.getElem_cons_succ, List.setIfInBounds_toArray, List.set_cons_zero, List.set_cons_succ]
            refine wpAnyH_take (i := 15) (v := .string (cutK a.e.val 256)) rfl (by kernel_rfl) (by kernel_rfl) (by kernel_rfl) (fun _ _ _ h => h) (Or.inl ⟨by kernel_rfl, ?_⟩) (by assumption) ?_
            · (intro y hSw; (try dsimp only at hSw); go_simp; rw [if_pos (Nat.min_le_left a.e.val.size 256)]; rfl)
            try simp only [Act.put, List.getElem_toArray, List.getElem_cons_zero, List.getElem_cons_succ, List.setIfInBounds_toArray, List.set_cons_zero, List.set_cons_succ]
            refine wpAnyH_take (i := 17) (v := ?_) rfl (by kernel_rfl) (by kernel_rfl) (by kernel_rfl) (fun _ _ _ h => h) (Or.inl ⟨by kernel_rfl, ?_⟩) (by assumption) ?_
            rotate_left
            · (intro w hSw; (try dsimp only at hSw); go_simp; try with_reducible rfl)
            try simp only [Act.put, List.getElem_toArray, List.getElem_cons_zero, List.getElem_cons_succ, List.setIfInBounds_toArray, List.set_cons_zero, List.set_cons_succ]
            refine wpAnyH_take (i := 18) (v := .int .i64 a.h) rfl (by kernel_rfl) (by kernel_rfl) (by kernel_rfl) (fun _ _ _ h => h) (Or.inl ⟨by kernel_rfl, ?_⟩) (by assumption) ?_
            · (intro y hSw; have hc := hSw.cell 4 (v := .int .i64 a.h) rfl; go_simp; try with_reducible rfl)
            try simp only [Act.put, List.getElem_toArray, List.getElem_cons_zero, List.getElem_cons_succ, List.setIfInBounds_toArray, List.set_cons_zero, List.set_cons_succ]
            refine wpAnyH_take (i := 19) (v := ?_) rfl (by kernel_rfl) (by kernel_rfl) (by kernel_rfl) (fun _ _ _ h => h) (Or.inl ⟨by kernel_rfl, ?_⟩) (by assumption) ?_
            rotate_left
            · (intro w hSw; (try dsimp only at hSw); go_simp; try with_reducible rfl)
            try simp only [Act.put, List.getElem_toArray, List.getElem_cons_zero, List.getElem_cons_succ, List.setIfInBounds_toArray, List.set_cons_zero, List.set_cons_succ]
            refine wpAnyH_take (i := 20) (v := ?_) rfl (by kernel_rfl) (by kernel_rfl) (by kernel_rfl) (fun _ _ _ h => h) (Or.inl ⟨by kernel_rfl, ?_⟩) (by assumption) ?_
            rotate_left
            · (intro w hSw; (try dsimp only at hSw); go_simp; try with_reducible rfl)
            try simp only [Act.put, List.getElem_toArray, List.getElem_cons_zero, List.getElem_cons_succ, List.setIfInBounds_toArray, List.set_cons_zero, List.set_cons_succ]
            refine wpAnyH_take (i := 21) (v := ?_) rfl (by kernel_rfl) (by kernel_rfl) (by kernel_rfl) (fun _ _ _ h => h) (Or.inl ⟨by kernel_rfl, ?_⟩) (by assumption) ?_
            rotate_left
            · (intro w hSw; (try dsimp only at hSw); go_simp; try with_reducible rfl)
            try simp only [Act.put, List.getElem_toArray, List.getElem_cons_zero, List.getElem_cons_succ, List.setIfInBounds_toArray, List.set_cons_zero, List.set_cons_succ]
            refine wpAnyH_take (i := 22) (v := .int .i64 (fixH a.h)) rfl (by kernel_rfl) (by kernel_rfl) (by kernel_rfl) (fun _ _ _ h => h) (Or.inl ⟨by kernel_rfl, ?_⟩) (by assumption) ?_
            · (intro y hSw; (try dsimp only at hSw); go_simp; exact fixH_wrap a.h)
            try simp only [Act.put, List.getElem_toArray, List.getElem_cons_zero, List.getElem_cons_succ, List.setIfInBounds_toArray, List.set_cons_zero, List.set_cons_succ]
            refine wpAnyH_ready (rs := [16]) (by kernel_rfl) (by simp) ?_
            refine AllReadyH.cons rfl (fun KK hKK => ?_) AllReadyH.nil
            go_simp
            have q := ent_any wq.drew (cutK key 64) (cutK a.e.val 256) sq'
            refine q.mono ?_
            clear q
            rintro e y1 ⟨rfl, hb1⟩
            have u1 : Blk y1 b0 40 a.cells := kq.keep (hb1.block _ kq.lt)
            refine hKK.out _ _ u1 (fun hHeld1 => ?_)
            clear hKK KK hHeld
            try simp only [Act.put, List.getElem_toArray, List.getElem_cons_zero, List.getElem_cons_succ, List.setIfInBounds_toArray, List.set_cons_zero, List.set_cons_succ]
            refine wpAnyH_take (i := 23) (v := .agg #[.string (cutK key 64), .int .u64 sq', .int .u8 1, .string (cutK a.e.val 256), .int .i64 (fixH a.h)]) rfl (by kernel_rfl) (by kernel_rfl) (by kernel_rfl) (fun _ _ _ h => h) (Or.inl ⟨by kernel_rfl, ?_⟩) (by assumption) ?_
            · (intro y hSw; (try dsimp only at hSw); go_simp; kernel_rfl)
            try simp only [Act.put, List.getElem_toArray, List.getElem_cons_zero, List.getElem_cons_succ, List.setIfInBounds_toArray, List.set_cons_zero, List.set_cons_succ]
            refine wpAnyH_ready (rs := [24]) (by kernel_rfl) (by simp) ?_
            refine AllReadyH.cons rfl (fun KK hKK => ?_) AllReadyH.nil
            go_simp
            have hr1 : Row y1 40 5 (.slice ay j cy) j (wks (unRow sq (l.take j))) (fun j => wz.heap.size ≤ j) := HROW.out.keep fun k hk => (hb1.block k (Nat.lt_of_lt_of_le (HROW.out.lt hk) hBq.size)).trans (hBq.block k (HROW.out.lt hk))
            have u2 := u1.alloc (.cells (fixW a key sq').cells.toArray 40)
            refine hKK.out _ _ u2 (fun hHeld2 => ?_)
            clear hKK KK hHeld1
            try simp only [Act.put, List.getElem_toArray, List.getElem_cons_zero, List.getElem_cons_succ, List.setIfInBounds_toArray, List.set_cons_zero, List.set_cons_succ]
            refine wpAnyH_ready (rs := [25]) (by kernel_rfl) (by simp) ?_
            refine AllReadyH.cons rfl (fun KK hKK => ?_) AllReadyH.nil
            refine step_append_own rfl (.tmp 32) (.tmp 56) 22 rfl 0 40 i0 (.agg #[.string ⟨#[]⟩, .int .u64 0, .int .u8 0, .string ⟨#[]⟩, .int .i64 0]) 5 56 Try.underlying22 hi hz0 hz1 hz2 rfl (by decide) (.slice ay j cy) j (wks (unRow sq (l.take j))) (by rfl) (hr1.alloc (.cells (fixW a key sq').cells.toArray 40)).owns ⟨y1.heap.size, 0, none⟩ 1 1 (fixW a key sq').cells (by rfl) rfl (cells_fresh y1 _ 40) (wk_one _) (by unfold maxLen; omega) (by omega) (Nat.zero_le _) ?_
            intro v2 w2 hown2 hg2 _ hat2
            have u3 := u2.grown hg2 (fun q => by have := HROW.out.lt q; omega)
            refine hKK.out _ _ u3 (fun hHeld3 => ?_)
            clear hKK KK hHeld2
            try simp only [Act.put, List.getElem_toArray, List.getElem_cons_zero, List.getElem_cons_succ, List.setIfInBounds_toArray, List.set_cons_zero, List.set_cons_succ]
            refine wpAnyH_take (i := 26) (v := ?_) rfl (by kernel_rfl) (by kernel_rfl) (by kernel_rfl) (fun _ _ _ h => h) (Or.inl ⟨by kernel_rfl, ?_⟩) (by assumption) ?_
            rotate_left
            · (intro w hSw; (try dsimp only at hSw); go_simp; try with_reducible rfl)
            try simp only [Act.put, List.getElem_toArray, List.getElem_cons_zero, List.getElem_cons_succ, List.setIfInBounds_toArray, List.set_cons_zero, List.set_cons_succ]
            refine wpAnyH_done (by kernel_rfl) ?_ _

            go_wp2_with fail
            have hBy : Below wz.heap.size wz y1 := ((hBz.trans (hBq.mono hBz.size)).drew).trans (hb1.mono (Nat.le_trans hBz.size hBq.size))
            obtain ⟨hg1, hg3⟩ := row_grew hr1 hBy hown2 hg2 hat2
            refine ⟨⟨j + 1, v2, by omega, by simp, by rw [← hsq']; congr 1, rfl, ?_, hg3⟩, by simp [intOf]; omega⟩
            have hlj : j < l.length := by have := HE.out; omega
            rw [unRow_take _ l j hlj, wks_append, ← HFA.out, HKEY.out, hsq']
            simpa [wks] using hg1
        · have hjm : j = m := by omega
          obtain ⟨vs, hv1, hv2⟩ := HU.out.ex
          have hul : (unAll 0 (ts.take k)).length = k := by
            have := HN.out
            rw [unAll_len, List.length_take]
            omega
          rw [hul] at hv1
          have hv1r : Row wr 22 1 v k vs (fun j => w.heap.size ≤ j) := hv1.keep fun q hq => hBz.block q (hv1.lt hq)
          obtain ⟨av, cv, rfl⟩ := hv1.slice
          obtain ⟨i0, hi, hz0, hz1, hz2⟩ := info_parts infoWks
          have HJ := Lib.hid hjm
          have HV2 := Lib.hid hv2
          have HRR := Lib.hid hrow
          obtain ⟨ay, cy, rfl⟩ := hrow.slice
          clear hjm hv2 hrow
          go_wp2_with (at_builtin; refine wpList_append_own_at _ rfl _ _ 24 rfl 0 22 i0 (.slice none 0 0) 1 24 Try.underlying24 hi hz0 hz1 hz2 rfl (by decide) (.slice av k cv) k vs rfl (hv1r.alloc _).owns ⟨wr.heap.size, 0, none⟩ 1 1 [.slice ay j cy] rfl rfl (cells_fresh wr [.slice ay j cy] 22) (by simp [Value.oneCell']) (by unfold maxLen; omega) (by omega) (Nat.zero_le _) ?_; intro v2 w2 hown2 hg2 _ hat2)
          go_roundw
          case rel =>
            obtain ⟨hg1, hg3⟩ := row_grew hv1r hBx hown2 hg2 hat2
            have hkl' : k < ts.length := by have := HN.out; omega
            have hlm' : l.length = j := by rw [HJ.out]; exact HE.out
            have htk := unAll_take ts k hkl'
            rw [← HL.out, ← HSQ.out] at htk
            have hrl : l.take j = l := by rw [← hlm', List.take_length]
            have hrw := HRR.out
            rw [hrl] at hrw
            refine ⟨k + 1, sq + j, v2, by omega, by go_num, rfl, ?_, rfl, ⟨⟨vs ++ [.slice ay j cy], ?_, ?_⟩, hg3⟩⟩
            · rw [sumLen_take ts k hkl', ← HL.out, hlm', HSQ.out]
            · rw [htk, List.length_append, hul]
              exact hg1
            · intro i l' u' hl' hu'
              rw [htk] at hl'
              have hvl : vs.length = k := by have := hv1.reads.len; omega
              have hkeep : ∀ (x : Value) (n : Nat) (ys : List Value), Row wr 40 5 x n ys (fun j => w.heap.size ≤ j) → Row w2 40 5 x n ys (fun j => w.heap.size ≤ j) := fun x n ys hx => by
                refine (hx.alloc (.cells #[.slice ay j cy] 22)).keep fun q hq => hg2.block q ((hx.alloc _).lt hq) fun e => ?_
                obtain ⟨cur, hc⟩ := (hv1r.alloc (.cells #[.slice ay j cy] 22)).tag e.symm
                exact (hx.alloc (.cells #[.slice ay j cy] 22)).block_ne hc (by decide) hq
              by_cases hik : i < k
              · rw [List.getElem?_append_left (by omega)] at hl' hu'
                have hx := HV2.out i l' u' hl' hu'
                exact hkeep _ _ _ (hx.keep fun q hq => hBz.block q (hx.lt hq))
              · rw [List.getElem?_append_right (by omega)] at hl' hu'
                have hi0 : i - k = 0 := by
                  by_cases h0 : i - k = 0
                  · exact h0
                  · rw [List.getElem?_eq_none (by simp; omega)] at hu'; cases hu'
                rw [hul, hi0] at hl'
                rw [hvl, hi0] at hu'
                cases hl'
                cases hu'
                rw [unRow_len, hlm']
                exact hkeep _ _ _ (hrw.mono fun q _ h => Nat.le_trans hB.size h)
          case measure => simp [intOf]; omega
    · have hkn : k = n := by omega
      have HK := Lib.hid hkn
      clear hkn
      go_wp2_with fail
      go_ret
      refine ⟨_, rfl, ?_⟩
      have := HU.out
      rw [HK.out, ← HN.out, List.take_length] at this
      exact this
/-- The table that unlike answers, as it can be read. -/
theorem fixH_range (h : Int) : 1 ≤ fixH h ∧ fixH h ≤ 6 := by
  unfold fixH
  have h2 : -6 < h.tmod 6 := by have := Int.lt_tmod_of_pos h (b := 6) (by decide); omega
  have h3 := Int.tmod_lt_of_pos (h.tmod 6 + 6) (b := 6) (by decide)
  have h4 : 0 ≤ (h.tmod 6 + 6).tmod 6 := Int.tmod_nonneg _ (by omega)
  omega
end Go.Proofs.Ytkpjfdhjkgdcbaa
