/- The document's View. -/
import Derived.Test.YteiaifhnikknbaaDoorRef22d
import Derived.Test.YteiaifhnikknbaaDoorLowG22
import Derived.Deep.RegionLaw
namespace Go.Proofs.YteiaifhnikknbaaDoor
open Go.RowKit

variable {w w' : World} {G : Gd} {sl sd si st : Value}
/-- Where the first loop stands: so many memtables are still to come. -/
structure RV1 (G : Gd) (W wx : World) (b : Nat) (vl : Value) (i : Nat) : Prop where
  main : Blk wx b 41 [vl, .slice none 0 0]
  row : Row wx 3 1 vl (1 + (G.imms.length - i)) (ints (G.mem :: (G.imms.drop i).reverse.map Imm.list)) (fun k => W.heap.size ≤ k)
  below : Below W.heap.size W wx
  hb : W.heap.size ≤ b
structure RV2 (G : Gd) (W wx : World) (b : Nat) (vl vt : Value) (i : Nat) : Prop where
  main : Blk wx b 41 [vl, vt]
  m : Row wx 3 1 vl (1 + G.imms.length) (ints (viewG G).mems) (fun k => W.heap.size ≤ k)
  row : Row wx 37 4 vt (G.tables.length - i) (mts (G.tables.drop i).reverse) (fun k => W.heap.size ≤ k)
  below : Below W.heap.size W wx
  hb : W.heap.size ≤ b
theorem drop_one {α : Type} {l : List α} {i : Nat} {a : α} (h : l[i]? = some a) : l.drop i = a :: l.drop (i + 1) := by
  obtain ⟨hi, rfl⟩ := List.getElem?_eq_some_iff.1 h
  exact List.drop_eq_getElem_cons hi
set_option maxRecDepth 100000 in
set_option maxHeartbeats 4000000 in
theorem refView_any (h : GR w G sl sd si st) (hs : G.Small 1000000) :
    Calls Tryd.prog 20 #[.agg (gC G sl sd si st).toArray] w fun e w' => ∃ vm vt, e = .returned (.agg (vC vm vt).toArray) ∧ VR w' (viewG G) vm vt ∧ Below w.heap.size w w' := by
  obtain ⟨W, hW, k1, k2, hB, hsz⟩ := two_boxes w (gC G sl sd si st) [.slice none 0 0, .slice none 0 0] 31 41
  obtain ⟨i0, hi, hz0, hz1, hz2⟩ := info_parts infoInt
  obtain ⟨j0, hj, hy0, hy1, hy2⟩ := info_parts infoMt
  obtain ⟨n, hn⟩ : ∃ n, G.imms.length = n := ⟨_, rfl⟩
  have hn6 : n ≤ 1000000 := by rw [← hn]; exact hs.i
  obtain ⟨nt, hnt⟩ : ∃ nt, G.tables.length = nt := ⟨_, rfl⟩
  have hnt6 : nt ≤ 1000000 := by rw [← hnt]; exact hs.t
  have hii := h.i.below hB
  rw [hn] at hii
  have htt := h.t.below hB
  rw [hnt] at htt
  obtain ⟨ai, ci, rfl⟩ := hii.slice
  obtain ⟨at_, ct, rfl⟩ := htt.slice
  obtain ⟨gm, hgm⟩ : ∃ gm, G.mem = gm := ⟨_, rfl⟩
  have c5 := k1.cell 5 (v := .int .i64 G.mem) rfl
  rw [hgm] at c5
  have q0 := Blk.new (W.alloc (.cells #[.int .i64 gm] 3)) 41 [.slice none 0 0, .slice none 0 0]
  have hsz1 : (W.alloc (.cells #[.int .i64 gm] 3)).heap.size = W.heap.size + 1 := by simp
  rw [hsz1] at q0
  have q1 := q0.setRow (vC (.slice (some ⟨W.heap.size, 0, none⟩) 1 1) (.slice none 0 0))
  have HN := Lib.hid hn
  have HNT := Lib.hid hnt
  have HM := Lib.hid hgm
  have HI := Lib.hid hii
  have HTT := Lib.hid htt
  have HZ := Lib.hid hsz
  clear hn hnt hii htt hgm h hs hsz hsz1
  go_enter Tryd.func20, Tryd.ntmps20
  go_upto_region 2 with (refine wpList_store_blk rfl 41 _ _ rfl (W.heap.size + 1) (vC (.slice (some ⟨W.heap.size, 0, none⟩) 1 1) (.slice none 0 0)) (by rfl) (by rfl) _ q0 infoVw rfl (by intro u hu; simp [vC] at hu; rcases hu with rfl | rfl <;> rfl) ?_)
  obtain ⟨Wq, hWq⟩ : ∃ Wq, ((W.alloc (.cells #[.int .i64 gm] 3)).alloc (.cells #[.slice none 0 0, .slice none 0 0] 41)).setRow (W.heap.size + 1) (vC (.slice (some ⟨W.heap.size, 0, none⟩) 1 1) (.slice none 0 0)).toArray = Wq := ⟨_, rfl⟩
  have hR1 : RV1 G W Wq (W.heap.size + 1) (.slice (some ⟨W.heap.size, 0, none⟩) 1 1) n := by
    rw [← hWq]
    have hm := ((Blk.new W 3 [.int .i64 gm]).alloc (.cells #[.slice none 0 0, .slice none 0 0] 41)).setRow_other (b' := W.heap.size + 1) (by omega) (vC (.slice (some ⟨W.heap.size, 0, none⟩) 1 1) (.slice none 0 0)).toArray
    refine ⟨q1, ?_, below_setRow (((Below.refl _ _).alloc (Nat.le_refl _) _).alloc (by simp) _) (by omega) _, by omega⟩
    have e1 : ints (G.mem :: (G.imms.drop n).reverse.map Imm.list) = [.int .i64 gm] := by rw [List.drop_of_length_le (by rw [HN.out]; exact Nat.le_refl _), HM.out]; rfl
    rw [e1, HN.out, Nat.sub_self]
    exact Row.of_one hm (Nat.le_refl _)
  have k1q := k1.keep (hR1.below.block _ k1.lt)
  rw [hWq]
  have c6 := k1q.cell 6 (v := .slice ai n ci) rfl
  clear hWq q0 q1 c5
  go_wp2_with fail
  go_loopw [4] (fun s4 wx => ∃ (i : Nat) (z : Int) (vl : Value), i ≤ n ∧ z = (i : Int) - 1 ∧ s4 = .int .i64 z ∧ RV1 G W wx (W.heap.size + 1) vl i) (fun s4 _ => (intOf s4 + 1).toNat)
  case atStart => exact ⟨n, _, _, Nat.le_refl _, rfl, rfl, hR1⟩
  case round =>
    clear hR1 k1q c6
    obtain ⟨i, z, vl, hin, hz, rfl, hR⟩ := hrel
    by_cases hlt : 0 ≤ z
    · obtain ⟨p, hp⟩ : ∃ p : Nat, z = (p : Int) := ⟨z.toNat, by omega⟩
      subst hp
      have hpn : p < n := by omega
      have hip : i = p + 1 := by omega
      subst hip
      obtain ⟨a, ha⟩ : ∃ a, G.imms[p]? = some a := ⟨_, List.getElem?_eq_getElem (by rw [HN.out]; exact hpn)⟩
      have kx := k1.keep (hR.below.block _ k1.lt)
      have c6 := kx.cell 6 (v := .slice ai n ci) rfl
      rcases (HI.out.below hR.below).form with ⟨h0, _⟩ | ⟨ib, io, ic, he, hic, hr⟩
      · omega
      · cases he
        have x0 := hr (p * 2) (.int .i64 a.list) (by rw [show p * 2 = p * 2 + 0 by omega]; obtain ⟨hp2, rfl⟩ := List.getElem?_eq_some_iff.1 ha; rw [ims, flat_get Imm.cells 2 (fun _ => rfl) _ p hp2 0 (by decide)]; rfl)
        obtain ⟨al, hal⟩ : ∃ al, a.list = al := ⟨_, rfl⟩
        rw [hal] at x0
        have v0 := hR.main.cell 0 (v := vl) rfl
        have hrow := hR.row
        rw [HN.out] at hrow
        have hrow' := hrow
        obtain ⟨ck, hck⟩ : ∃ ck, 1 + (n - (p + 1)) = ck := ⟨_, rfl⟩
        rw [hck] at hrow
        have hck6 : ck ≤ 1000000 := by omega
        obtain ⟨xs, hxs⟩ : ∃ xs, ints (G.mem :: (G.imms.drop (p + 1)).reverse.map Imm.list) = xs := ⟨_, rfl⟩
        rw [hxs] at hrow
        have hnews := Lib.hid (cells_new wr wr.heap.size rfl [.int .i64 al] 3)
        have hbx := hR.below.size
        have hm := hR.main
        have hrA : ((wr.alloc (.cells #[.int .i64 al] 3)).drew).ownsRow W.heap.size 3 1 vl ck xs := (hrow.alloc (.cells #[.int .i64 al] 3)).at_base
        have hmA := hm.alloc (.cells #[.int .i64 al] 3)
        have v0A := hmA.cell 0 (v := vl) rfl
        have HRR := Lib.hid hR
        have HA := Lib.hid ha
        have HAL := Lib.hid hal
        have HCK := Lib.hid hck
        have HXS := Lib.hid hxs
        have b0 : (0 : Int) ≤ (p : Int) := by omega
        have b1 : (p : Int) < (n : Int) := by omega
        clear hR ha hal hr hin hlt hck hxs hrow' hz
        go_upto_region 5 with fail
        go_region_law ((refine step_append_own rfl _ _ 33 rfl W.heap.size 3 i0 (.int .i64 0) 1 8 Tryd.underlying33 hi hz0 hz1 hz2 rfl (by decide) vl ck xs rfl hrA ⟨wr.heap.size, 0, none⟩ 1 1 [.int .i64 al] rfl rfl hnews.out (by simp [Value.oneCell']) (by unfold maxLen; omega) (by omega) (by simp; omega) ?_; intro v6 w6 hown6 hg6 _ hat6; have m6 := Blk.grown (show Blk ((wr.alloc (.cells #[.int .i64 al] 3)).drew) _ _ _ from hmA) hg6 (hrow.ne_blk hm (by decide)); obtain ⟨g6, cp6, rfl⟩ := owns_succ hown6; have z0 := m6.cell 0 (v := vl) rfl; have f0 := m6.frozen 0))
        all_goals
          go_wp2_with fail
          go_roundw
          case rel =>
            refine ⟨p, (p : Int) - 1, .slice (some ⟨g6, 0, none⟩) (ck + 1) cp6, by omega, rfl, rfl, ⟨m6.set 0 _, ?_, ((((HRR.out.below.alloc hbx _).drew).grown hg6 (by simp; omega) hrow.home)).setCell (p := ⟨W.heap.size + 1, 0, none⟩) (by simp) _, by omega⟩⟩
            have e1 : ints (G.mem :: (G.imms.drop p).reverse.map Imm.list) = xs ++ [.int .i64 al] := by
              rw [drop_one HA.out, ← HXS.out, ← HAL.out]; simp [ints]
            rw [e1, HN.out, show 1 + (n - p) = ck + 1 by have := HCK.out; omega]
            exact (Row.of_owns hown6).setCell (a := ⟨W.heap.size + 1, 0, none⟩) ((Row.of_owns hown6).ne_blk m6 (by decide)) _
          case measure => first | (simp [intOf]; done) | (simp [intOf]; omega)
    · obtain rfl : i = 0 := by omega
      have hR0 : RV2 G W wr (W.heap.size + 1) vl (.slice none 0 0) nt := by
        have h1 := hR.row
        rw [Nat.sub_zero, List.drop_zero] at h1
        refine ⟨hR.main, h1, ?_, hR.below, hR.hb⟩
        rw [HNT.out, Nat.sub_self, List.drop_of_length_le (by rw [HNT.out]; exact Nat.le_refl _)]
        exact Row.nil _ _ _ _
      have kx := k1.keep (hR.below.block _ k1.lt)
      have c9 := kx.cell 9 (v := .slice at_ nt ct) rfl
      clear hR
      go_wp2_with fail
      go_loopw [5] (fun s5 wx => ∃ (i : Nat) (z : Int) (vt : Value), i ≤ nt ∧ z = (i : Int) - 1 ∧ s5 = .int .i64 z ∧ RV2 G W wx (W.heap.size + 1) vl vt i) (fun s5 _ => (intOf s5 + 1).toNat)
      case atStart => exact ⟨nt, _, _, Nat.le_refl _, rfl, rfl, hR0⟩
      case round =>
        clear hR0 kx c9
        obtain ⟨i, z2, vt, hin2, hz2', rfl, hR⟩ := hrel
        by_cases hlt2 : 0 ≤ z2
        · obtain ⟨p, hp⟩ : ∃ p : Nat, z2 = (p : Int) := ⟨z2.toNat, by omega⟩
          subst hp
          have hpn : p < nt := by omega
          have hip : i = p + 1 := by omega
          subst hip
          obtain ⟨a, ha⟩ : ∃ a, G.tables[p]? = some a := ⟨_, List.getElem?_eq_getElem (by rw [HNT.out]; exact hpn)⟩
          have kx := k1.keep (hR.below.block _ k1.lt)
          have c9 := kx.cell 9 (v := .slice at_ nt ct) rfl
          rcases (HTT.out.below hR.below).form with ⟨h0, _⟩ | ⟨ib, io, ic, he, hic, hr⟩
          · omega
          · cases he
            obtain ⟨hp2, ha2⟩ := List.getElem?_eq_some_iff.1 ha
            have y := (HTT.out.below hR.below).flat (f := Meta.cells) (fun _ => rfl) p hp2 HNT.out
            have x0 := y 0 (.int .u64 a.num) (by rw [ha2]; rfl)
            have x1 := y 1 (.int .u64 a.size) (by rw [ha2]; rfl)
            have x2 := y 2 (.string a.least) (by rw [ha2]; rfl)
            have x3 := y 3 (.string a.most) (by rw [ha2]; rfl)
            simp only [Nat.add_zero, ← Nat.add_assoc] at x0 x1 x2 x3
            obtain ⟨a0, a1, a2, a3⟩ := a
            simp only at x0 x1 x2 x3
            have v0 := hR.main.cell 1 (v := vt) rfl
            have hrow := hR.row
            rw [HNT.out] at hrow
            obtain ⟨ck, hck⟩ : ∃ ck, nt - (p + 1) = ck := ⟨_, rfl⟩
            rw [hck] at hrow
            have hck6 : ck ≤ 1000000 := by omega
            obtain ⟨xs, hxs⟩ : ∃ xs, mts (G.tables.drop (p + 1)).reverse = xs := ⟨_, rfl⟩
            rw [hxs] at hrow
            have hnews := Lib.hid (cells_new wr wr.heap.size rfl ([.int .u64 a0, .int .u64 a1, .string a2, .string a3] : List Value) 37)
            have hbx := hR.below.size
            have hm := hR.main
            have hrA : ((wr.alloc (.cells #[.int .u64 a0, .int .u64 a1, .string a2, .string a3] 37)).drew).ownsRow W.heap.size 37 4 vt ck xs := (hrow.alloc (.cells #[.int .u64 a0, .int .u64 a1, .string a2, .string a3] 37)).at_base
            have hmA := hm.alloc (.cells #[.int .u64 a0, .int .u64 a1, .string a2, .string a3] 37)
            have v0A := hmA.cell 1 (v := vt) rfl
            have HRR := Lib.hid hR
            have HA := Lib.hid ha
            have HCK := Lib.hid hck
            have HXS := Lib.hid hxs
            have b0 : (0 : Int) ≤ (p : Int) := by omega
            have b1 : (p : Int) < (nt : Int) := by omega
            clear hR ha hr hin2 hlt2 hck hxs hz2' y ha2 hp2
            go_upto_region 9 with fail
            go_region_law ((refine step_append_own rfl _ _ 29 rfl W.heap.size 37 j0 (.agg #[.int .u64 0, .int .u64 0, .string ⟨#[]⟩, .string ⟨#[]⟩]) 4 48 Tryd.underlying29 hj hy0 hy1 hy2 rfl (by decide) vt ck xs rfl hrA ⟨wr.heap.size, 0, none⟩ 1 1 ([.int .u64 a0, .int .u64 a1, .string a2, .string a3] : List Value) rfl rfl hnews.out (by intro u hu; simp at hu; rcases hu with rfl | rfl | rfl | rfl <;> rfl) (by unfold maxLen; omega) (by omega) (by simp; omega) ?_; intro v6 w6 hown6 hg6 _ hat6; have m6 := Blk.grown (show Blk ((wr.alloc (.cells #[.int .u64 a0, .int .u64 a1, .string a2, .string a3] 37)).drew) _ _ _ from hmA) hg6 (hrow.ne_blk hm (by decide)); obtain ⟨g6, cp6, rfl⟩ := owns_succ hown6; have z0 := m6.cell 1 (v := vt) rfl; have f0 := m6.frozen 1))
            all_goals
              go_wp2_with fail
              go_roundw
              case rel =>
                refine ⟨p, (p : Int) - 1, .slice (some ⟨g6, 0, none⟩) (ck + 1) cp6, by omega, rfl, rfl, ⟨m6.set 1 _, ?_, ?_, ((((HRR.out.below.alloc hbx _).drew).grown hg6 (by simp; omega) hrow.home)).setCell (p := ⟨W.heap.size + 1, 1, none⟩) (by simp) _, by omega⟩⟩
                · have q1 := HRR.out.m.alloc (.cells #[.int .u64 a0, .int .u64 a1, .string a2, .string a3] 37)
                  have q2 := Row.grown (show Row ((wr.alloc (.cells #[.int .u64 a0, .int .u64 a1, .string a2, .string a3] 37)).drew) _ _ _ _ _ _ from q1.keep fun _ _ => rfl) hg6 (q1.ne_row (hrow.alloc (.cells #[.int .u64 a0, .int .u64 a1, .string a2, .string a3] 37)) (by decide))
                  exact q2.setCell (a := ⟨W.heap.size + 1, 1, none⟩) (q2.ne_blk m6 (by decide)) _
                · have e1 : mts (G.tables.drop p).reverse = xs ++ ([.int .u64 a0, .int .u64 a1, .string a2, .string a3] : List Value) := by
                    rw [drop_one HA.out, ← HXS.out]; simp [mts, Meta.cells]
                  rw [e1, HNT.out, show nt - p = ck + 1 by have := HCK.out; omega]
                  exact (Row.of_owns hown6).setCell (a := ⟨W.heap.size + 1, 1, none⟩) ((Row.of_owns hown6).ne_blk m6 (by decide)) _
              case measure => first | (simp [intOf]; done) | (simp [intOf]; omega)
        · obtain rfl : i = 0 := by omega
          have hmn := hR.main
          have hr2 := hR.row
          rw [Nat.sub_zero, List.drop_zero] at hr2
          have n2 := k2.keep (hR.below.block _ k2.lt)
          have HRR := Lib.hid hR
          have HR2 := Lib.hid hr2
          have o1 := hR.m.slice_one
          have o2 := hR.row.slice_one
          have hwz : W.heap.size + 1 ≠ w.heap.size + 1 := by have := HZ.out; omega
          have hbw := hB.trans (hR.below.mono hB.size)
          clear hR hr2
          go_wp2_with (first | (refine wpList_load_blk rfl 41 _ rfl (W.heap.size + 1) (by rfl) (vC vl vt) hmn _ Tryd.underlying41 rfl infoVw ?_) | (refine wpList_store_blk rfl 41 _ _ rfl (w.heap.size + 1) (vC vl vt) (by rfl) (by rfl) _ n2 infoVw rfl (by intro u hu; simp [vC] at hu; rcases hu with h | h <;> rw [h] <;> assumption) ?_))
          have n3 := n2.setRow (vC vl vt)
          refine bodyPost_ret (results_cell_one (P := Tryd.prog) Tryd.results20 rfl (n3.loadRow _ Tryd.underlying41 rfl infoVw)) rfl ⟨vl, vt, rfl, ⟨?_, ?_⟩, below_setRow hbw (by omega) _⟩
          · have l1 : (viewG G).mems.length = 1 + G.imms.length := by simp [viewG]; omega
            rw [l1]
            exact (HRR.out.m.setRow n2 (by decide) _).reads
          · have l1 : (viewG G).tables.length = G.tables.length := by simp [viewG]
            rw [l1]
            exact (HR2.out.setRow n2 (by decide) _).reads
end Go.Proofs.YteiaifhnikknbaaDoor
