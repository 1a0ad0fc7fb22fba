/- nums.form and nums.Put. -/
import Derived.Test.YtkpjfdhjkgdcbaaRangeBox
import Derived.Test.YtkpjfdhjkgdcbaaIkCmp
import Derived.Test.YtkpjfdhjkgdcbaaCellsRw
import Derived.Shelf.Abstract
import Derived.Shelf.RegionOpen
import Derived.OwnWalkIn
import Derived.TacticsInMore
import Derived.LoopNIn
import Derived.LoopIn

namespace Go.Proofs.Ytkpjfdhjkgdcbaa
open Go.RowKit Go.Shelf
attribute [local go_sem] Oper.semAt_some

theorem Row.at_base' {w : World} {base e size n : Nat} {v : Value} {xs : List Value} (h : Row w e size v n xs (fun k => base ≤ k)) : w.ownsRow base e size v n xs :=
  ⟨h.owns.1, h.owns.2.imp id fun ⟨g, cap, cur, h1, _, h2⟩ => ⟨g, cap, cur, h1, h.home g (by rw [h1]; rfl), h2⟩⟩
theorem Row.of_owns' {w : World} {base e size n : Nat} {v : Value} {xs : List Value} (h : w.ownsRow base e size v n xs) : Row w e size v n xs (fun k => base ≤ k) :=
  ⟨⟨h.1, h.2.imp id fun ⟨g, cap, cur, h1, _, h2⟩ => ⟨g, cap, cur, h1, Nat.zero_le _, h2⟩⟩, fun k hk => (h.lt k hk).1⟩
def boxN (Bx : Nat) (W : World) : Nat := match W.cell? ⟨Bx, 0, none⟩ with | some v => (intOf v).toNat | none => 0
theorem or128 (a : Nat) : bits BinOp.or IntKind.u8 ((a : Int) % 256) 128 = ((a % 128 + 128 : Nat) : Int) := by
  have h : ∀ b : Fin 256, bits BinOp.or IntKind.u8 ((b.val : Nat) : Int) 128 = ((b.val % 128 + 128 : Nat) : Int) := by decide +kernel
  have := h ⟨a % 256, by omega⟩
  simp only [Int.natCast_emod] at this
  rw [show ((a : Int) % 256) = ((a % 256 : Nat) : Int) by omega]
  rw [show (a % 128 + 128 : Nat) = (a % 256 % 128 + 128 : Nat) by omega]
  exact h ⟨a % 256, by omega⟩
set_option maxRecDepth 100000 in
set_option maxHeartbeats 2000000 in
theorem form1_yields (n : Nat) (hn : 1 ≤ n) (Bx x : Nat) (hx : x < 18446744073709551616) (w : World) (hw : Boxed w Bx 34 (.int .u64 (x : Int))) :
    Yields1 Fence.wide n Try.prog 97 #[.pointer (some ⟨Bx, 0, none⟩)] (fun c : UInt8 => #[Value.int .u8 (c.toNat : Int)]) Bx (vput x) w := fun l J W hW hset hY h0 => by
  have hbox : Boxed W Bx 34 (.int .u64 (x : Int)) := hW.trans hw
  have HY := Lib.hid hY
  clear hY hW hw
  show CallsIn _ _ _ _ #[.func (.yield l) #[] #[], .pointer (some ⟨Bx, 0, none⟩)] _ _
  refine callsIn_of_wp Try.func97 rfl trivial ?_ rfl
  simp only [Try.ntmps97, List.size_toArray, List.length_cons, List.length_nil, Nat.reduceAdd, Nat.reduceSub, Array.replicate_succ, Array.replicate_zero, List.push_toArray, List.append_toArray, List.nil_append, List.cons_append]
  gi_wp2
  gi_loopw [3] (fun _ wr => ∃ (pre : List UInt8) (y : Nat), vput x = pre ++ vput y ∧ y < 18446744073709551616 ∧ Boxed wr Bx 34 (.int .u64 (y : Int)) ∧ J pre wr) (fun _ W => boxN Bx W)
  case atStart => exact ⟨[], x, rfl, hx, hbox, h0⟩
  case round =>
    obtain ⟨pre, y, hp, hy, hb, hJ⟩ := hrel
    have c0 := hb.cell
    have f0 := hb.frozen
    have HP := Lib.hid hp
    clear hp
    by_cases h7 : y < 128
    · have h7' : ¬ (127 : Int) < y := by omega
      have hvp : vput x = pre ++ [UInt8.ofNat y] := by rw [HP.out, vput_small h7]
      obtain ⟨fn, tmps, assign, body, hy', hR⟩ := HY.out pre (UInt8.ofNat y) wr hJ ⟨[], hvp⟩
      have e1 : ((UInt8.ofNat y).toNat : Int) = (y : Int) := by rw [UInt8.toNat_ofNat']; omega
      rw [e1] at hy'
      try dsimp only at hy'
      have HV := Lib.hid hvp
      clear hvp e1
      gi_wp2
      refine hR.mono ?_
      rintro e W3 ⟨rfl, hJ3, hk3⟩
      gi_wp2
      go_end0
      exact ⟨⟨_, rfl⟩, by rw [HV.out]; exact hJ3⟩
    · have h7' : (127 : Int) < y := by omega
      have hvp : vput x = (pre ++ [UInt8.ofNat (y % 128 + 128)]) ++ vput (y / 128) := by rw [HP.out, vput_big h7, List.append_assoc]; rfl
      obtain ⟨fn, tmps, assign, body, hy', hR⟩ := HY.out pre (UInt8.ofNat (y % 128 + 128)) wr hJ ⟨vput (y / 128), by rw [HP.out, vput_big h7]⟩
      have e1 : bits BinOp.or IntKind.u8 ((y : Int) % 256) 128 = ((UInt8.ofNat (y % 128 + 128)).toNat : Int) := by rw [or128, UInt8.toNat_ofNat']; omega
      obtain ⟨c, hc⟩ : ∃ c, UInt8.ofNat (y % 128 + 128) = c := ⟨_, rfl⟩
      rw [hc] at e1 hy' hR hvp
      try dsimp only at hy'
      have HV := Lib.hid hvp
      clear hvp hc
      gi_wp2
      refine hR.mono ?_
      rintro e W3 ⟨rfl, hJ3, hk3⟩
      have hb3 : Boxed W3 Bx 34 (.int .u64 (y : Int)) := hk3.trans hb
      have c3 := hb3.cell
      have f3 := hb3.frozen
      gi_wp2
      go_roundw
      case rel => exact ⟨pre ++ [c], y / 128, HV.out, by omega, by exact hb3.set _, hset _ _ _ hJ3⟩
      case measure =>
        have h1 := (hb3.set (.int .u64 ((y : Int) / 128))).cell
        have h2 := hb.cell
        simp only [boxN, h2, h1, intOf]
        omega
/-- A captured number. -/
theorem form_in (n : Nat) (x : Int) (w : World) : CallsIn Fence.wide n Try.prog 95 #[.int .u64 x] w fun e w' => e = .returned (.func (.func 97) #[] #[.pointer (some ⟨w.heap.size, 0, none⟩)]) ∧ w' = w.alloc (.cells #[.int .u64 x] 34) := by
  refine callsIn_of_wp Try.func95 rfl trivial ?_ rfl
  simp only [Try.ntmps95, List.size_toArray, List.length_cons, List.length_nil, Nat.reduceAdd, Nat.reduceSub, Array.replicate_succ, Array.replicate_zero, List.push_toArray, List.append_toArray, List.nil_append, List.cons_append]
  gi_wp2
  go_ret
  exact ⟨rfl, rfl⟩
theorem infoU8' : (Try.prog.info? 5).map (fun i => (i.zero, i.size, i.bytes)) = some (some (.int .u8 0), 1, 1) := by kernel_rfl
theorem u8s_snoc (l : List UInt8) (c : UInt8) : u8s (l ++ [c]) = u8s l ++ [.int .u8 (c.toNat : Int)] := by simp [u8s]
set_option maxRecDepth 100000 in
set_option maxHeartbeats 2000000 in
theorem put_in (n : Nat) (hn : 3 ≤ n) (w : World) (vb : Value) (bs : List UInt8) (hR : Reads w 1 vb bs.length (u8s bs)) (hm : bs.length ≤ 1000) (x : Nat) (hx : x < 18446744073709551616) :
    CallsIn Fence.wide n Try.prog 91 #[vb, .int .u64 (x : Int)] w fun e W' => ∃ v, e = .returned v ∧ Row W' 5 1 v (bs ++ vput x).length (u8s (bs ++ vput x)) (fun k => w.heap.size ≤ k) ∧ Below w.heap.size w W' := by
  have h1 : 1 ≤ n := by omega
  obtain ⟨i0, hi, hz0, hz1, hz2⟩ := info_parts infoU8'
  have hvl : (vput x).length ≤ 10 := vput_len 9 x (by omega)
  have hcl := cloneB_any w vb _ _ hR (by omega)
  have HCL := Lib.hid hcl
  have HVL := Lib.hid hvl
  clear hcl hR hvl
  refine callsIn_of_wp_marks Try.func91 rfl trivial ?_ rfl
  simp only [Try.ntmps91, List.size_toArray, List.length_cons, List.length_nil, Nat.reduceAdd, Nat.reduceSub, Array.replicate_succ, Array.replicate_zero, List.push_toArray, List.append_toArray, List.nil_append, List.cons_append]
  gi_wp2_with (first | (refine ⟨trivial, ?_⟩; gi_at_call 77; refine (callsIn_wide.2 HCL.out).mono ?_; rintro e w1 ⟨v1, rfl, hr1, hb1⟩; obtain ⟨ao1, c1, rfl⟩ := hr1.slice) | (refine ⟨trivial, ?_⟩; gi_at_call 95; refine (form_in (n - 1) _ _).mono ?_; rintro e w' ⟨rfl, rfl⟩))
  have hbs : w.heap.size ≤ w1.heap.size := hb1.size
  have b0 := Boxed.new w1 51 (.slice ao1 bs.length c1)
  have b1 := Boxed.new (w1.alloc (.cells #[.slice ao1 bs.length c1] 51)) 34 (.int .u64 (x : Int))
  have hB0 : Below w.heap.size w ((w1.alloc (.cells #[.slice ao1 bs.length c1] 51)).alloc (.cells #[.int .u64 (x : Int)] 34)) := (hb1.alloc hbs _).alloc (by simp; omega) _
  simp only [World.size_alloc] at b1
  have hrow0 : Row ((w1.alloc (.cells #[.slice ao1 bs.length c1] 51)).alloc (.cells #[.int .u64 (x : Int)] 34)) 5 1 (.slice ao1 bs.length c1) bs.length (u8s bs) (fun k => w.heap.size ≤ k) := (hr1.alloc _).alloc _
  refine wpIn_range_box rfl h1 (gf := 97) (lb := #[.pointer (some ⟨w1.heap.size + 1, 0, none⟩)]) rfl trivial (enters_of Try.func97 (by kernel_rfl) rfl) (encs := fun c : UInt8 => #[Value.int .u8 (c.toNat : Int)]) (fun _ => rfl) (Bx := w1.heap.size + 1) (by simp) (form1_yields (n - 1) (by omega) (w1.heap.size + 1) x hx _ b1)
    (fun pre W => (∃ u, Boxed W (w1.heap.size + 1) 34 u) ∧ (∃ v, Boxed W w1.heap.size 51 v ∧ W.ownsRow w.heap.size 5 1 v (bs ++ pre).length (u8s (bs ++ pre))) ∧ w.heap.size ≤ W.heap.size ∧ Below w.heap.size w W)
    ?own ?set ⟨⟨_, b1⟩, ⟨_, b0.alloc _, by rw [List.append_nil]; exact hrow0.at_base'⟩, by simp; omega, hB0⟩
    (fun c => { tmps := #[vb, .int .u64 (x : Int), undef, undef, .slice none 0 0, .pointer (some ⟨w1.heap.size, 0, none⟩), .int .u8 (c.toNat : Int), vb, .slice ao1 bs.length c1, .int .u64 (x : Int), .func (.func 97) #[] #[.pointer (some ⟨w1.heap.size + 1, 0, none⟩)], .int .u8 (c.toNat : Int), undef, undef, undef, undef, undef], defers := [] }) ?assign ?body ?done
  case own =>
    rintro s A C row ⟨⟨u, hu⟩, ⟨v, hv, hrow⟩, hsz, hB⟩ hg hr
    have hk : ∀ k t v, Boxed A k t v → Boxed C k t v := fun k t v h => (grownBy_keeps_cells hg (fun r e => (hr r e).2) h rfl).trans h
    refine ⟨⟨u, hk _ _ _ hu⟩, ⟨v, hk _ _ _ hv, hrow.kept hg ?_⟩, Nat.le_trans hsz hg.size, hB.grown hg hsz (fun k e => by have := (hr k e).1; simp at this; omega)⟩
    rcases hrow.2 with ⟨rfl, _⟩ | ⟨g, cap, cur, rfl, _, hgb, _⟩
    · exact .inl rfl
    · refine .inr fun e => ?_
      obtain ⟨_, o, ho, hc⟩ := hr g e.symm
      rw [hgb] at ho
      cases ho
      cases hc
  case set =>
    rintro s A u' ⟨⟨u, hu⟩, ⟨v, hv, hrow⟩, hsz, hB⟩
    refine ⟨⟨u', hu.set u'⟩, ⟨v, (Below.heap_setCell _ _ _ _ (by simp)).trans hv, hrow.kept (grownBy_setCell' A _ u') (.inr (hu.not_row (by decide) hrow).symm)⟩, by simpa [World.setCell] using hsz, hB.setCell (p := ⟨w1.heap.size + 1, 0, none⟩) (by simp; omega) _⟩
  case assign =>
    intro l c W K hK
    gi_wp2
    exact hK
  case body =>
    rintro l pre c W ⟨⟨u, hu⟩, ⟨v, hv, hrow⟩, hsz, hB⟩ ⟨r, hr⟩
    have e0 := hv.cell
    have hl10 : pre.length ≤ 10 := by have := HVL.out; rw [hr] at this; simp at this; omega
    obtain ⟨N, hN⟩ : ∃ N, (bs ++ pre).length = N := ⟨_, rfl⟩
    rw [hN] at hrow
    have hN1 : N ≤ 1010 := by rw [← hN]; simp; omega
    have HN := Lib.hid hN
    clear hN hr
    gi_wp2_with (gi_at_builtin; refine wpListIn_append_own _ rfl _ _ 51 rfl w.heap.size 5 i0 (.int .u8 0) 1 1 Try.underlying51 hi hz0 hz1 hz2 rfl (by decide) v N (u8s (bs ++ pre)) rfl (hrow.alloc _) ⟨W.heap.size, 0, none⟩ 1 1 [.int .u8 (c.toNat : Int)] rfl rfl (cell_one_new _ _ _) (by simp [Value.oneCell']) (by unfold maxLen; omega) (by omega) (by simp; omega) ?_; intro v' w3 hown' hg3 _; obtain ⟨g', cap', rfl⟩ := ownsRow_succ hown'; obtain ⟨hv1, hv2, hr2, hk2, hb2⟩ := hv.appended (by decide) hrow hsz hbs hown' hg3; have q1 := hv1.cell; have q2 := hv1.frozen; have hbx := hu.not_row (by decide) hrow)
    have hbk : w3.heap[w1.heap.size + 1]? = W.heap[w1.heap.size + 1]? := (hg3.block _ (by have := hu.lt; simp; omega) hbx).trans (Below.heap_alloc _ _ _ hu.lt)
    have hb5 : (w3.setCell ⟨w1.heap.size, 0, none⟩ (.slice (some ⟨g', 0, none⟩) (N + 1) cap')).heap[w1.heap.size + 1]? = W.heap[w1.heap.size + 1]? := (Below.heap_setCell _ _ _ _ (by simp)).trans hbk
    have hlen : (bs ++ (pre ++ [c])).length = N + 1 := by rw [← HN.out]; simp; omega
    have hcs : u8s (bs ++ (pre ++ [c])) = u8s (bs ++ pre) ++ [.int .u8 (c.toNat : Int)] := by rw [← List.append_assoc, u8s_snoc]
    show KeepsOthers _ _ ∧ _ ∧ _
    exact ⟨hk2, hb5, ⟨u, hb5.trans hu⟩, ⟨_, hv2, by rw [hlen, hcs]; exact hr2⟩, Nat.le_trans hsz hk2.size, hB.trans hb2⟩
  case done =>
    rintro D W hD ⟨_, ⟨v, hv, hrow⟩, hsz, hB⟩ hK
    have e0 := hv.cell
    gi_wp2
    refine ⟨by simp, .inl ⟨_, _, rfl, run_takeDeferred hK, ?_⟩⟩
    have hrow' := ownsRow_putObj hrow (.deferred none) hK rfl
    refine ⟨_, results_tmp rfl _ _ _, v, rfl, Row.of_owns' hrow', hB.trans (belowK_b (w := w) (Nat.le_refl _) W D _ _ (by simp at hD; omega) hK rfl rfl)⟩
theorem numsPut_any (w : World) (vb : Value) (bs : List UInt8) (hR : Reads w 1 vb bs.length (u8s bs)) (hm : bs.length ≤ 1000) (x : Nat) (hx : x < 18446744073709551616) :
    Calls Try.prog 91 #[vb, .int .u64 (x : Int)] w fun e W' => ∃ v, e = .returned v ∧ Row W' 5 1 v (bs ++ vput x).length (u8s (bs ++ vput x)) (fun k => w.heap.size ≤ k) ∧ Below w.heap.size w W' :=
  callsIn_wide.1 (put_in 3 (by omega) w vb bs hR hm x hx)
end Go.Proofs.Ytkpjfdhjkgdcbaa
