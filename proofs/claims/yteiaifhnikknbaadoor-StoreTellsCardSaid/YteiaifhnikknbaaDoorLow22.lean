/- The walks over ratlinelow.Members, Imms, Metas: are two rows the same? -/
import Derived.Test.YteiaifhnikknbaaDoorData22
import Derived.Test.YteiaifhnikknbaaDoorLow
import Derived.WideShapes
namespace Go.Proofs.YteiaifhnikknbaaDoor
open Go.RowKit

theorem ba_inj (a b : ByteArray) : a = b ↔ a.toList = b.toList := ⟨fun h => by rw [h], fun h => by rw [ByteArray.toList_eq, ByteArray.toList_eq] at h; exact Go.WideShapes.bytes_inj h⟩
theorem flat_get {α : Type} (f : α → List Value) (sz : Nat) (hf : ∀ a, (f a).length = sz) (l : List α) (k : Nat) (h : k < l.length) (j : Nat) (hj : j < sz) : (l.flatMap f)[k * sz + j]? = (f l[k])[j]? := by
  induction l generalizing k with
  | nil => simp at h
  | cons a l ih =>
    rw [List.flatMap_cons]
    cases k with
    | zero => rw [List.getElem?_append_left (by rw [hf]; omega)]; simp
    | succ k =>
      have e : (k + 1) * sz + j = sz + (k * sz + j) := by rw [Nat.succ_mul]; omega
      rw [e, List.getElem?_append_right (by rw [hf]; omega), hf, Nat.add_sub_cancel_left]
      simpa using ih k (by simpa using h)
theorem Reads.flat {α : Type} {f : α → List Value} {sz : Nat} (hf : ∀ a, (f a).length = sz) {w : World} {b off n c : Nat} {l : List α} (h : Reads w sz (.slice (some ⟨b, off, none⟩) n c) n (l.flatMap f)) (k : Nat) (hk : k < l.length) (hn : l.length = n) (j : Nat) (v : Value) (hv : (f l[k])[j]? = some v) :
    w.cell? ⟨b, off + (k * sz + j), none⟩ = some v := by
  have hj : j < sz := by have := (List.getElem?_eq_some_iff.1 hv).1; rw [hf] at this; exact this
  rcases h.form with ⟨rfl, _⟩ | ⟨b', off', c', e, _, hr⟩
  · omega
  · cases e
    exact hr _ _ (by rw [flat_get f sz hf l k hk j hj]; exact hv)

theorem eqMb (d : Nat) (w : World) (x y : Mbr) :
    (Op.equalIn (d + 2) 92 (.agg #[.int .i64 x.task, .int .i64 x.ops, .int .u64 x.need, .int .u64 x.first, .int .u8 x.say, .int .i64 x.err]) (.agg #[.int .i64 y.task, .int .i64 y.ops, .int .u64 y.need, .int .u64 y.first, .int .u8 y.say, .int .i64 y.err])).run Tryd.prog w = .ok (decide (x = y)) w := by
  have e : decide (x = y) = ((x.task == y.task) && ((x.ops == y.ops) && ((x.need == y.need) && ((x.first == y.first) && ((x.say == y.say) && ((x.err == y.err) && true)))))) := by
    rw [Bool.eq_iff_iff]
    obtain ⟨a0, a1, a2, a3, a4, a5⟩ := x
    obtain ⟨b0, b1, b2, b3, b4, b5⟩ := y
    simp
  rw [e]
  refine eqS_of Tryd.underlying92 (by kernel_rfl) ?_
  refine eqF_cons (by decide) (by go_simp; rfl) (by go_simp; rfl) (by first | (go_simp; done) | (go_simp; rfl)) ?_
  refine eqF_cons (by decide) (by go_simp; rfl) (by go_simp; rfl) (by first | (go_simp; done) | (go_simp; rfl)) ?_
  refine eqF_cons (by decide) (by go_simp; rfl) (by go_simp; rfl) (by first | (go_simp; done) | (go_simp; rfl)) ?_
  refine eqF_cons (by decide) (by go_simp; rfl) (by go_simp; rfl) (by first | (go_simp; done) | (go_simp; rfl)) ?_
  refine eqF_cons (by decide) (by go_simp; rfl) (by go_simp; rfl) (by first | (go_simp; done) | (go_simp; rfl)) ?_
  refine eqF_cons (by decide) (by go_simp; rfl) (by go_simp; rfl) (by first | (go_simp; done) | (go_simp; rfl)) ?_
  exact eqF_nil
theorem neqMb (w : World) (x y : Mbr) : (binOp .neq 92 (.agg #[.int .i64 x.task, .int .i64 x.ops, .int .u64 x.need, .int .u64 x.first, .int .u8 x.say, .int .i64 x.err]) (.agg #[.int .i64 y.task, .int .i64 y.ops, .int .u64 y.need, .int .u64 y.first, .int .u8 y.say, .int .i64 y.err])).run Tryd.prog w = .ok (.bool (!decide (x = y))) w := run_neq_of (eqMb 9998 w x y)
set_option maxRecDepth 100000 in
set_option maxHeartbeats 1000000 in
theorem lowMb_same (w : World) (b1 o1 c1 b2 o2 c2 : Nat) (l m : List Mbr) (h1 : Reads w 6 (.slice (some ⟨b1, o1, none⟩) l.length c1) l.length (mbs l)) (h2 : Reads w 6 (.slice (some ⟨b2, o2, none⟩) m.length c2) m.length (mbs m)) (hl : l.length ≤ 4000000000)
    (hlm : l.length = m.length) :
    Calls Tryd.prog 78 #[.slice (some ⟨b1, o1, none⟩) l.length c1, .slice (some ⟨b2, o2, none⟩) m.length c2] w fun e w' => e = .returned (.bool (decide (l = m))) ∧ Quiet w w' := by
  have hne : ((l.length : Int) != m.length) = false := by simp [hlm]
  have HLM := Lib.hid hlm
  clear hlm
  go_enter Tryd.func78, Tryd.ntmps78
  go_wp2
  go_loopw [13] (fun i wr => ∃ k : Nat, k ≤ l.length ∧ i = .int .i64 k ∧ l.take k = m.take k ∧ Quiet w wr) (fun i _ => l.length - (intOf i).toNat)
  case atStart => exact ⟨0, Nat.zero_le _, rfl, by simp, Quiet.refl w⟩
  case round =>
    obtain ⟨k, hk, rfl, ht, hq⟩ := hrel
    by_cases hlt : k < l.length
    · have hltm : k < m.length := by have := HLM.out; omega
      have rx := (h1.quiet hq).flat (f := Mbr.cells) (fun _ => rfl) k hlt rfl
      have ry := (h2.quiet hq).flat (f := Mbr.cells) (fun _ => rfl) k hltm rfl
      have x0 := rx 0 _ (show (Mbr.cells l[k])[0]? = _ from rfl)
      have y0 := ry 0 _ (show (Mbr.cells m[k])[0]? = _ from rfl)
      have x1 := rx 1 _ (show (Mbr.cells l[k])[1]? = _ from rfl)
      have y1 := ry 1 _ (show (Mbr.cells m[k])[1]? = _ from rfl)
      have x2 := rx 2 _ (show (Mbr.cells l[k])[2]? = _ from rfl)
      have y2 := ry 2 _ (show (Mbr.cells m[k])[2]? = _ from rfl)
      have x3 := rx 3 _ (show (Mbr.cells l[k])[3]? = _ from rfl)
      have y3 := ry 3 _ (show (Mbr.cells m[k])[3]? = _ from rfl)
      have x4 := rx 4 _ (show (Mbr.cells l[k])[4]? = _ from rfl)
      have y4 := ry 4 _ (show (Mbr.cells m[k])[4]? = _ from rfl)
      have x5 := rx 5 _ (show (Mbr.cells l[k])[5]? = _ from rfl)
      have y5 := ry 5 _ (show (Mbr.cells m[k])[5]? = _ from rfl)
      simp only [Nat.add_zero, ← Nat.add_assoc] at x0 y0
      simp only [Nat.add_zero, ← Nat.add_assoc] at x1 y1
      simp only [Nat.add_zero, ← Nat.add_assoc] at x2 y2
      simp only [Nat.add_zero, ← Nat.add_assoc] at x3 y3
      simp only [Nat.add_zero, ← Nat.add_assoc] at x4 y4
      simp only [Nat.add_zero, ← Nat.add_assoc] at x5 y5
      have hk1 : k + 1 ≤ 9223372036854775807 := by omega
      generalize hla : l[k] = x at x0 x1 x2 x3 x4 x5
      generalize hma : m[k] = y at y0 y1 y2 y3 y4 y5
      have HX := Lib.hid hla
      have HY := Lib.hid hma
      have HT := Lib.hid ht
      clear hla hma ht h1 h2 rx ry
      have hne2 := fun W => neqMb W x y
      go_wp2_with fail
      go_quiet (fail)
      go_wp2
      · have hne3 : (!decide (x = y)) = true := by assumption
        go_ret
        refine ⟨?_, hq.trans ⟨_, rfl⟩⟩
        have hxy : x ≠ y := by simpa using hne3
        have : l ≠ m := fun e => hxy (by rw [← HX.out, ← HY.out]; simp only [e])
        simp [this]
      · have hne3 : (!decide (x = y)) = false := by assumption
        have hxy : x = y := by simpa using hne3
        go_roundw
        case rel => exact ⟨k + 1, by omega, by go_num, take_succ_of HT.out hlt hltm (by rw [HX.out, HY.out, hxy]), hq.trans ⟨_, rfl⟩⟩
        case measure => simp [intOf]; omega
    · have hkl : k = l.length := by omega
      have hlm : l = m := by
        have hlen := HLM.out
        rw [hkl, List.take_of_length_le (Nat.le_refl _), List.take_of_length_le (by omega)] at ht
        exact ht
      have HE := Lib.hid hlm
      clear hlm ht hkl h1 h2
      go_wp2
      go_ret
      exact ⟨by simp [HE.out], hq⟩
set_option maxHeartbeats 1000000 in
theorem lowMb_len (w : World) (a1 a2 : Option Addr) (n c1 m c2 : Nat) (hlm : ((n : Int) != m) = true) :
    Calls Tryd.prog 78 #[.slice a1 n c1, .slice a2 m c2] w fun e w' => e = .returned (.bool false) ∧ Quiet w w' := by
  go_enter Tryd.func78, Tryd.ntmps78
  go_wp2
  go_ret
  exact ⟨rfl, Quiet.refl w⟩
set_option maxHeartbeats 1000000 in
theorem lowMb_nil (w : World) (a1 a2 : Option Addr) (c1 c2 : Nat) :
    Calls Tryd.prog 78 #[.slice a1 0 c1, .slice a2 0 c2] w fun e w' => e = .returned (.bool true) ∧ Quiet w w' := by
  go_enter Tryd.func78, Tryd.ntmps78
  go_wp2
  go_loopw [13] (fun i wr => i = .int .i64 0 ∧ w = wr) (fun _ _ => 0)
  case atStart => exact ⟨rfl, rfl⟩
  case round =>
    obtain ⟨rfl, rfl⟩ := hrel
    go_wp2
    go_ret
    exact ⟨rfl, Quiet.refl w⟩
theorem lowMb (w : World) (v1 v2 : Value) (l m : List Mbr) (h1 : Reads w 6 v1 l.length (mbs l)) (h2 : Reads w 6 v2 m.length (mbs m)) (hl : l.length ≤ 4000000000) :
    Calls Tryd.prog 78 #[v1, v2] w fun e w' => e = .returned (.bool (decide (l = m))) ∧ Quiet w w' := by
  by_cases hlm : l.length = m.length
  · rcases h1.form with ⟨h0, ao, c, rfl⟩ | ⟨b1, o1, c1, rfl, _⟩
    · obtain rfl : l = [] := List.eq_nil_of_length_eq_zero h0
      obtain rfl : m = [] := List.eq_nil_of_length_eq_zero (by simpa using hlm.symm)
      obtain ⟨ao2, c2, rfl⟩ := h2.slice
      exact (lowMb_nil w _ _ _ _).mono (by rintro e w' ⟨rfl, hq⟩; exact ⟨rfl, hq⟩)
    · rcases h2.form with ⟨h0, ao, c, rfl⟩ | ⟨b2, o2, c2, rfl, _⟩
      · obtain rfl : m = [] := List.eq_nil_of_length_eq_zero h0
        obtain rfl : l = [] := List.eq_nil_of_length_eq_zero (by simpa using hlm)
        exact (lowMb_nil w _ _ _ _).mono (by rintro e w' ⟨rfl, hq⟩; exact ⟨rfl, hq⟩)
      · exact lowMb_same w b1 o1 c1 b2 o2 c2 l m h1 h2 hl hlm
  · obtain ⟨a1, c1, rfl⟩ := h1.slice
    obtain ⟨a2, c2, rfl⟩ := h2.slice
    refine (lowMb_len w a1 a2 _ c1 _ c2 (by simp; omega)).mono ?_
    rintro e w' ⟨rfl, hq⟩
    have : l ≠ m := fun e => hlm (by rw [e])
    exact ⟨by simp [this], hq⟩

theorem eqIm (d : Nat) (w : World) (x y : Imm) :
    (Op.equalIn (d + 2) 94 (.agg #[.int .i64 x.list, .int .u64 x.log]) (.agg #[.int .i64 y.list, .int .u64 y.log])).run Tryd.prog w = .ok (decide (x = y)) w := by
  have e : decide (x = y) = ((x.list == y.list) && ((x.log == y.log) && true)) := by
    rw [Bool.eq_iff_iff]
    obtain ⟨a0, a1⟩ := x
    obtain ⟨b0, b1⟩ := y
    simp
  rw [e]
  refine eqS_of Tryd.underlying94 (by kernel_rfl) ?_
  refine eqF_cons (by decide) (by go_simp; rfl) (by go_simp; rfl) (by first | (go_simp; done) | (go_simp; rfl)) ?_
  refine eqF_cons (by decide) (by go_simp; rfl) (by go_simp; rfl) (by first | (go_simp; done) | (go_simp; rfl)) ?_
  exact eqF_nil
theorem neqIm (w : World) (x y : Imm) : (binOp .neq 94 (.agg #[.int .i64 x.list, .int .u64 x.log]) (.agg #[.int .i64 y.list, .int .u64 y.log])).run Tryd.prog w = .ok (.bool (!decide (x = y))) w := run_neq_of (eqIm 9998 w x y)
set_option maxRecDepth 100000 in
set_option maxHeartbeats 1000000 in
theorem lowIm_same (w : World) (b1 o1 c1 b2 o2 c2 : Nat) (l m : List Imm) (h1 : Reads w 2 (.slice (some ⟨b1, o1, none⟩) l.length c1) l.length (ims l)) (h2 : Reads w 2 (.slice (some ⟨b2, o2, none⟩) m.length c2) m.length (ims m)) (hl : l.length ≤ 4000000000)
    (hlm : l.length = m.length) :
    Calls Tryd.prog 53 #[.slice (some ⟨b1, o1, none⟩) l.length c1, .slice (some ⟨b2, o2, none⟩) m.length c2] w fun e w' => e = .returned (.bool (decide (l = m))) ∧ Quiet w w' := by
  have hne : ((l.length : Int) != m.length) = false := by simp [hlm]
  have HLM := Lib.hid hlm
  clear hlm
  go_enter Tryd.func53, Tryd.ntmps53
  go_wp2
  go_loopw [13] (fun i wr => ∃ k : Nat, k ≤ l.length ∧ i = .int .i64 k ∧ l.take k = m.take k ∧ Quiet w wr) (fun i _ => l.length - (intOf i).toNat)
  case atStart => exact ⟨0, Nat.zero_le _, rfl, by simp, Quiet.refl w⟩
  case round =>
    obtain ⟨k, hk, rfl, ht, hq⟩ := hrel
    by_cases hlt : k < l.length
    · have hltm : k < m.length := by have := HLM.out; omega
      have rx := (h1.quiet hq).flat (f := Imm.cells) (fun _ => rfl) k hlt rfl
      have ry := (h2.quiet hq).flat (f := Imm.cells) (fun _ => rfl) k hltm rfl
      have x0 := rx 0 _ (show (Imm.cells l[k])[0]? = _ from rfl)
      have y0 := ry 0 _ (show (Imm.cells m[k])[0]? = _ from rfl)
      have x1 := rx 1 _ (show (Imm.cells l[k])[1]? = _ from rfl)
      have y1 := ry 1 _ (show (Imm.cells m[k])[1]? = _ from rfl)
      simp only [Nat.add_zero, ← Nat.add_assoc] at x0 y0
      simp only [Nat.add_zero, ← Nat.add_assoc] at x1 y1
      have hk1 : k + 1 ≤ 9223372036854775807 := by omega
      generalize hla : l[k] = x at x0 x1
      generalize hma : m[k] = y at y0 y1
      have HX := Lib.hid hla
      have HY := Lib.hid hma
      have HT := Lib.hid ht
      clear hla hma ht h1 h2 rx ry
      have hne2 := fun W => neqIm W x y
      go_wp2_with fail
      go_quiet (fail)
      go_wp2
      · have hne3 : (!decide (x = y)) = true := by assumption
        go_ret
        refine ⟨?_, hq.trans ⟨_, rfl⟩⟩
        have hxy : x ≠ y := by simpa using hne3
        have : l ≠ m := fun e => hxy (by rw [← HX.out, ← HY.out]; simp only [e])
        simp [this]
      · have hne3 : (!decide (x = y)) = false := by assumption
        have hxy : x = y := by simpa using hne3
        go_roundw
        case rel => exact ⟨k + 1, by omega, by go_num, take_succ_of HT.out hlt hltm (by rw [HX.out, HY.out, hxy]), hq.trans ⟨_, rfl⟩⟩
        case measure => simp [intOf]; omega
    · have hkl : k = l.length := by omega
      have hlm : l = m := by
        have hlen := HLM.out
        rw [hkl, List.take_of_length_le (Nat.le_refl _), List.take_of_length_le (by omega)] at ht
        exact ht
      have HE := Lib.hid hlm
      clear hlm ht hkl h1 h2
      go_wp2
      go_ret
      exact ⟨by simp [HE.out], hq⟩
set_option maxHeartbeats 1000000 in
theorem lowIm_len (w : World) (a1 a2 : Option Addr) (n c1 m c2 : Nat) (hlm : ((n : Int) != m) = true) :
    Calls Tryd.prog 53 #[.slice a1 n c1, .slice a2 m c2] w fun e w' => e = .returned (.bool false) ∧ Quiet w w' := by
  go_enter Tryd.func53, Tryd.ntmps53
  go_wp2
  go_ret
  exact ⟨rfl, Quiet.refl w⟩
set_option maxHeartbeats 1000000 in
theorem lowIm_nil (w : World) (a1 a2 : Option Addr) (c1 c2 : Nat) :
    Calls Tryd.prog 53 #[.slice a1 0 c1, .slice a2 0 c2] w fun e w' => e = .returned (.bool true) ∧ Quiet w w' := by
  go_enter Tryd.func53, Tryd.ntmps53
  go_wp2
  go_loopw [13] (fun i wr => i = .int .i64 0 ∧ w = wr) (fun _ _ => 0)
  case atStart => exact ⟨rfl, rfl⟩
  case round =>
    obtain ⟨rfl, rfl⟩ := hrel
    go_wp2
    go_ret
    exact ⟨rfl, Quiet.refl w⟩
theorem lowIm (w : World) (v1 v2 : Value) (l m : List Imm) (h1 : Reads w 2 v1 l.length (ims l)) (h2 : Reads w 2 v2 m.length (ims m)) (hl : l.length ≤ 4000000000) :
    Calls Tryd.prog 53 #[v1, v2] w fun e w' => e = .returned (.bool (decide (l = m))) ∧ Quiet w w' := by
  by_cases hlm : l.length = m.length
  · rcases h1.form with ⟨h0, ao, c, rfl⟩ | ⟨b1, o1, c1, rfl, _⟩
    · obtain rfl : l = [] := List.eq_nil_of_length_eq_zero h0
      obtain rfl : m = [] := List.eq_nil_of_length_eq_zero (by simpa using hlm.symm)
      obtain ⟨ao2, c2, rfl⟩ := h2.slice
      exact (lowIm_nil w _ _ _ _).mono (by rintro e w' ⟨rfl, hq⟩; exact ⟨rfl, hq⟩)
    · rcases h2.form with ⟨h0, ao, c, rfl⟩ | ⟨b2, o2, c2, rfl, _⟩
      · obtain rfl : m = [] := List.eq_nil_of_length_eq_zero h0
        obtain rfl : l = [] := List.eq_nil_of_length_eq_zero (by simpa using hlm)
        exact (lowIm_nil w _ _ _ _).mono (by rintro e w' ⟨rfl, hq⟩; exact ⟨rfl, hq⟩)
      · exact lowIm_same w b1 o1 c1 b2 o2 c2 l m h1 h2 hl hlm
  · obtain ⟨a1, c1, rfl⟩ := h1.slice
    obtain ⟨a2, c2, rfl⟩ := h2.slice
    refine (lowIm_len w a1 a2 _ c1 _ c2 (by simp; omega)).mono ?_
    rintro e w' ⟨rfl, hq⟩
    have : l ≠ m := fun e => hlm (by rw [e])
    exact ⟨by simp [this], hq⟩

theorem eqMt (d : Nat) (w : World) (x y : Meta) :
    (Op.equalIn (d + 2) 37 (.agg #[.int .u64 x.num, .int .u64 x.size, .string x.least, .string x.most]) (.agg #[.int .u64 y.num, .int .u64 y.size, .string y.least, .string y.most])).run Tryd.prog w = .ok (decide (x = y)) w := by
  have e : decide (x = y) = ((x.num == y.num) && ((x.size == y.size) && ((x.least.toList == y.least.toList) && ((x.most.toList == y.most.toList) && true)))) := by
    rw [Bool.eq_iff_iff]
    obtain ⟨a0, a1, a2, a3⟩ := x
    obtain ⟨b0, b1, b2, b3⟩ := y
    simp [ba_inj]
  rw [e]
  refine eqS_of Tryd.underlying37 (by kernel_rfl) ?_
  refine eqF_cons (by decide) (by go_simp; rfl) (by go_simp; rfl) (by first | (go_simp; done) | (go_simp; rfl)) ?_
  refine eqF_cons (by decide) (by go_simp; rfl) (by go_simp; rfl) (by first | (go_simp; done) | (go_simp; rfl)) ?_
  refine eqF_cons (by decide) (by go_simp; rfl) (by go_simp; rfl) (by first | (go_simp; done) | (go_simp; rfl)) ?_
  refine eqF_cons (by decide) (by go_simp; rfl) (by go_simp; rfl) (by first | (go_simp; done) | (go_simp; rfl)) ?_
  exact eqF_nil
theorem neqMt (w : World) (x y : Meta) : (binOp .neq 37 (.agg #[.int .u64 x.num, .int .u64 x.size, .string x.least, .string x.most]) (.agg #[.int .u64 y.num, .int .u64 y.size, .string y.least, .string y.most])).run Tryd.prog w = .ok (.bool (!decide (x = y))) w := run_neq_of (eqMt 9998 w x y)
set_option maxRecDepth 100000 in
set_option maxHeartbeats 1000000 in
theorem lowMt_same (w : World) (b1 o1 c1 b2 o2 c2 : Nat) (l m : List Meta) (h1 : Reads w 4 (.slice (some ⟨b1, o1, none⟩) l.length c1) l.length (mts l)) (h2 : Reads w 4 (.slice (some ⟨b2, o2, none⟩) m.length c2) m.length (mts m)) (hl : l.length ≤ 4000000000)
    (hlm : l.length = m.length) :
    Calls Tryd.prog 51 #[.slice (some ⟨b1, o1, none⟩) l.length c1, .slice (some ⟨b2, o2, none⟩) m.length c2] w fun e w' => e = .returned (.bool (decide (l = m))) ∧ Quiet w w' := by
  have hne : ((l.length : Int) != m.length) = false := by simp [hlm]
  have HLM := Lib.hid hlm
  clear hlm
  go_enter Tryd.func51, Tryd.ntmps51
  go_wp2
  go_loopw [13] (fun i wr => ∃ k : Nat, k ≤ l.length ∧ i = .int .i64 k ∧ l.take k = m.take k ∧ Quiet w wr) (fun i _ => l.length - (intOf i).toNat)
  case atStart => exact ⟨0, Nat.zero_le _, rfl, by simp, Quiet.refl w⟩
  case round =>
    obtain ⟨k, hk, rfl, ht, hq⟩ := hrel
    by_cases hlt : k < l.length
    · have hltm : k < m.length := by have := HLM.out; omega
      have rx := (h1.quiet hq).flat (f := Meta.cells) (fun _ => rfl) k hlt rfl
      have ry := (h2.quiet hq).flat (f := Meta.cells) (fun _ => rfl) k hltm rfl
      have x0 := rx 0 _ (show (Meta.cells l[k])[0]? = _ from rfl)
      have y0 := ry 0 _ (show (Meta.cells m[k])[0]? = _ from rfl)
      have x1 := rx 1 _ (show (Meta.cells l[k])[1]? = _ from rfl)
      have y1 := ry 1 _ (show (Meta.cells m[k])[1]? = _ from rfl)
      have x2 := rx 2 _ (show (Meta.cells l[k])[2]? = _ from rfl)
      have y2 := ry 2 _ (show (Meta.cells m[k])[2]? = _ from rfl)
      have x3 := rx 3 _ (show (Meta.cells l[k])[3]? = _ from rfl)
      have y3 := ry 3 _ (show (Meta.cells m[k])[3]? = _ from rfl)
      simp only [Nat.add_zero, ← Nat.add_assoc] at x0 y0
      simp only [Nat.add_zero, ← Nat.add_assoc] at x1 y1
      simp only [Nat.add_zero, ← Nat.add_assoc] at x2 y2
      simp only [Nat.add_zero, ← Nat.add_assoc] at x3 y3
      have hk1 : k + 1 ≤ 9223372036854775807 := by omega
      generalize hla : l[k] = x at x0 x1 x2 x3
      generalize hma : m[k] = y at y0 y1 y2 y3
      have HX := Lib.hid hla
      have HY := Lib.hid hma
      have HT := Lib.hid ht
      clear hla hma ht h1 h2 rx ry
      have hne2 := fun W => neqMt W x y
      go_wp2_with fail
      go_quiet (fail)
      go_wp2
      · have hne3 : (!decide (x = y)) = true := by assumption
        go_ret
        refine ⟨?_, hq.trans ⟨_, rfl⟩⟩
        have hxy : x ≠ y := by simpa using hne3
        have : l ≠ m := fun e => hxy (by rw [← HX.out, ← HY.out]; simp only [e])
        simp [this]
      · have hne3 : (!decide (x = y)) = false := by assumption
        have hxy : x = y := by simpa using hne3
        go_roundw
        case rel => exact ⟨k + 1, by omega, by go_num, take_succ_of HT.out hlt hltm (by rw [HX.out, HY.out, hxy]), hq.trans ⟨_, rfl⟩⟩
        case measure => simp [intOf]; omega
    · have hkl : k = l.length := by omega
      have hlm : l = m := by
        have hlen := HLM.out
        rw [hkl, List.take_of_length_le (Nat.le_refl _), List.take_of_length_le (by omega)] at ht
        exact ht
      have HE := Lib.hid hlm
      clear hlm ht hkl h1 h2
      go_wp2
      go_ret
      exact ⟨by simp [HE.out], hq⟩
set_option maxHeartbeats 1000000 in
theorem lowMt_len (w : World) (a1 a2 : Option Addr) (n c1 m c2 : Nat) (hlm : ((n : Int) != m) = true) :
    Calls Tryd.prog 51 #[.slice a1 n c1, .slice a2 m c2] w fun e w' => e = .returned (.bool false) ∧ Quiet w w' := by
  go_enter Tryd.func51, Tryd.ntmps51
  go_wp2
  go_ret
  exact ⟨rfl, Quiet.refl w⟩
set_option maxHeartbeats 1000000 in
theorem lowMt_nil (w : World) (a1 a2 : Option Addr) (c1 c2 : Nat) :
    Calls Tryd.prog 51 #[.slice a1 0 c1, .slice a2 0 c2] w fun e w' => e = .returned (.bool true) ∧ Quiet w w' := by
  go_enter Tryd.func51, Tryd.ntmps51
  go_wp2
  go_loopw [13] (fun i wr => i = .int .i64 0 ∧ w = wr) (fun _ _ => 0)
  case atStart => exact ⟨rfl, rfl⟩
  case round =>
    obtain ⟨rfl, rfl⟩ := hrel
    go_wp2
    go_ret
    exact ⟨rfl, Quiet.refl w⟩
theorem lowMt (w : World) (v1 v2 : Value) (l m : List Meta) (h1 : Reads w 4 v1 l.length (mts l)) (h2 : Reads w 4 v2 m.length (mts m)) (hl : l.length ≤ 4000000000) :
    Calls Tryd.prog 51 #[v1, v2] w fun e w' => e = .returned (.bool (decide (l = m))) ∧ Quiet w w' := by
  by_cases hlm : l.length = m.length
  · rcases h1.form with ⟨h0, ao, c, rfl⟩ | ⟨b1, o1, c1, rfl, _⟩
    · obtain rfl : l = [] := List.eq_nil_of_length_eq_zero h0
      obtain rfl : m = [] := List.eq_nil_of_length_eq_zero (by simpa using hlm.symm)
      obtain ⟨ao2, c2, rfl⟩ := h2.slice
      exact (lowMt_nil w _ _ _ _).mono (by rintro e w' ⟨rfl, hq⟩; exact ⟨rfl, hq⟩)
    · rcases h2.form with ⟨h0, ao, c, rfl⟩ | ⟨b2, o2, c2, rfl, _⟩
      · obtain rfl : m = [] := List.eq_nil_of_length_eq_zero h0
        obtain rfl : l = [] := List.eq_nil_of_length_eq_zero (by simpa using hlm)
        exact (lowMt_nil w _ _ _ _).mono (by rintro e w' ⟨rfl, hq⟩; exact ⟨rfl, hq⟩)
      · exact lowMt_same w b1 o1 c1 b2 o2 c2 l m h1 h2 hl hlm
  · obtain ⟨a1, c1, rfl⟩ := h1.slice
    obtain ⟨a2, c2, rfl⟩ := h2.slice
    refine (lowMt_len w a1 a2 _ c1 _ c2 (by simp; omega)).mono ?_
    rintro e w' ⟨rfl, hq⟩
    have : l ≠ m := fun e => hlm (by rw [e])
    exact ⟨by simp [this], hq⟩
end Go.Proofs.YteiaifhnikknbaaDoor
