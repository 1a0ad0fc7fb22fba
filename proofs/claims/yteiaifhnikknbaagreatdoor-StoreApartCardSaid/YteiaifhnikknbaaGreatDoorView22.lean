/- The walk over store.View. -/
import Derived.Test.YteiaifhnikknbaaGreatDoorRev22
import Derived.Test.YteiaifhnikknbaaGreatDoorLowInts
import Derived.Deep.RegionLaw
import Derived.Deep.DeepCutAuto

namespace Go.Proofs.YteiaifhnikknbaaGreatDoor
open Go.RowKit

variable {w w' : World} {G : Gd} {sl sd si st : Value} {A B : Nat → Prop}
/-- What is seen, newest first. -/
structure Vw where
  mems : List Int
  tables : List Meta
def viewG (G : Gd) : Vw := ⟨G.mem :: G.imms.reverse.map Imm.list, G.tables.reverse⟩
theorem infoInt : (Tryz.prog.info? 3).map (fun i => (i.zero, i.size, i.bytes)) = some (some (.int .i64 0), 1, 8) := by kernel_rfl
theorem infoVw : (Tryz.prog.info? 97).map (·.size) = some 2 := by kernel_rfl
def vC (vm vt : Value) : List Value := [vm, vt]
structure VO (w : World) (V : Vw) (vm vt : Value) (A : Nat → Prop) : Prop where
  m : Row w 3 1 vm V.mems.length (ints V.mems) A
  t : Row w 92 4 vt V.tables.length (mts V.tables) A
theorem Row.of_one {W : World} {g : Nat} {m : Int} (h : Blk W g 3 [.int .i64 m]) (hA : A g) : Row W 3 1 (.slice (some ⟨g, 0, none⟩) 1 1) 1 [.int .i64 m] A :=
  ⟨⟨rfl, .inr ⟨g, 1, #[.int .i64 m], rfl, Nat.zero_le _, h, Nat.le_refl _, by unfold maxLen; omega, rfl, rfl⟩⟩, fun k hk => by cases hk; exact hA⟩
def ViewMid (G : Gd) (W wx : World) (s3 : Value) : Prop := ∃ b vm vt, s3 = .pointer (some ⟨b, 0, none⟩) ∧ W.heap.size ≤ b ∧ Blk wx b 97 (vC vm vt) ∧ Row wx 3 1 vm 1 [.int .i64 G.mem] (fun k => W.heap.size ≤ k) ∧ Row wx 92 4 vt G.tables.length (mts G.tables.reverse) (fun k => W.heap.size ≤ k) ∧ Below W.heap.size W wx
theorem view_mid {W wa : World} {b g : Nat} {vt : Value} (hB : Below W.heap.size W wa) (hb : W.heap.size ≤ b) (hg : W.heap.size ≤ g) (hv : Blk wa b 97 [.slice none 0 0, .slice none 0 0]) (hm : Blk wa g 3 [.int .i64 G.mem])
    (hr : Row wa 92 4 vt G.tables.length (mts G.tables.reverse) (fun k => W.heap.size ≤ k)) : ViewMid G W ((wa.setCell ⟨b, 0, none⟩ (.slice (some ⟨g, 0, none⟩) 1 1)).setCell ⟨b, 1, none⟩ vt) (.pointer (some ⟨b, 0, none⟩)) := by
  have hne : g ≠ b := hm.ne hv (by decide)
  exact ⟨b, _, vt, rfl, hb, (hv.set 0 _).set 1 vt, Row.of_one ((hm.set_other (a := ⟨b, 0, none⟩) hne _).set_other (a := ⟨b, 1, none⟩) hne _) hg,
    (hr.setCell (a := ⟨b, 0, none⟩) (hr.ne_blk hv (by decide)) _).setCell (a := ⟨b, 1, none⟩) (hr.ne_blk hv (by decide)) _, (hB.setCell (p := ⟨b, 0, none⟩) hb _).setCell (p := ⟨b, 1, none⟩) hb _⟩
theorem view_gen {W wx : World} {b g : Nat} {vt : Value} (hB : Below W.heap.size W wx) (hb : W.heap.size ≤ b) (hg : W.heap.size ≤ g) (hv : Blk wx b 97 [.slice (some ⟨g, 0, none⟩) 1 1, vt]) (hm : Blk wx g 3 [.int .i64 G.mem])
    (hr : Row wx 92 4 vt G.tables.length (mts G.tables.reverse) (fun k => W.heap.size ≤ k)) : ViewMid G W wx (.pointer (some ⟨b, 0, none⟩)) :=
  ⟨b, _, vt, rfl, hb, hv, Row.of_one hm hg, hr, hB⟩
theorem view_c {W w1 : World} {vt : Value} (hB : Below W.heap.size W w1) (hr : Row w1 92 4 vt G.tables.length (mts G.tables.reverse) (fun k => W.heap.size ≤ k)) :
    ViewMid G W ((w1.alloc (.cells #[.int .i64 G.mem] 3)).alloc (.cells #[.slice (some ⟨w1.heap.size, 0, none⟩) 1 1, vt] 97)) (.pointer (some ⟨w1.heap.size + 1, 0, none⟩)) := by
  have h1 := Blk.new (w1.alloc (.cells #[.int .i64 G.mem] 3)) 97 [.slice (some ⟨w1.heap.size, 0, none⟩) 1 1, vt]
  rw [show (w1.alloc (.cells #[.int .i64 G.mem] 3)).heap.size = w1.heap.size + 1 by simp] at h1
  have := hB.size
  exact view_gen ((hB.alloc this _).alloc (by simp; omega) _) (by omega) this h1 ((Blk.new w1 3 [.int .i64 G.mem]).alloc _) ((hr.alloc _).alloc _)
theorem view_d {W w1 : World} {vt : Value} (hB : Below W.heap.size W w1) (hr : Row w1 92 4 vt G.tables.length (mts G.tables.reverse) (fun k => W.heap.size ≤ k)) :
    ViewMid G W ((w1.alloc (.cells #[.slice (some ⟨w1.heap.size + 1, 0, none⟩) 1 1, vt] 97)).alloc (.cells #[.int .i64 G.mem] 3)) (.pointer (some ⟨w1.heap.size, 0, none⟩)) := by
  have h1 := Blk.new (w1.alloc (.cells #[.slice (some ⟨w1.heap.size + 1, 0, none⟩) 1 1, vt] 97)) 3 [.int .i64 G.mem]
  rw [show (w1.alloc (.cells #[.slice (some ⟨w1.heap.size + 1, 0, none⟩) 1 1, vt] 97)).heap.size = w1.heap.size + 1 by simp] at h1
  have := hB.size
  exact view_gen ((hB.alloc this _).alloc (by simp; omega) _) this (by omega) ((Blk.new w1 97 [.slice (some ⟨w1.heap.size + 1, 0, none⟩) 1 1, vt]).alloc _) h1 ((hr.alloc _).alloc _)
set_option maxRecDepth 100000 in
set_option maxHeartbeats 2000000 in
theorem view_any (h : GR w G sl sd si st) (hs : G.Small 1000000) :
    Calls Tryz.prog 34 #[.agg (gC G sl sd si st).toArray] w fun e w' => ∃ vm vt, e = .returned (.agg (vC vm vt).toArray) ∧ VO w' (viewG G) vm vt (fun k => w.heap.size ≤ k) ∧ Below w.heap.size w w' := by
  obtain ⟨W, hW, k1, k2, hB, hsz⟩ := two_boxes w (gC G sl sd si st) [.slice none 0 0, .slice none 0 0] 67 97
  have hR := h.below hB
  have c1 : ∀ W', Below W.heap.size W W' → Calls Tryz.prog 57 #[st] W' fun e w' => ∃ v', e = .returned v' ∧ Row w' 92 4 v' G.tables.length (mts G.tables.reverse) (fun k => W.heap.size ≤ k) ∧ Below W'.heap.size W' w' ∧ Below W.heap.size W w' := fun W' hb => (turnedMt G.tables hs.t (hR.t.below hb)).mono fun e w' ⟨v', e1, hr, hb'⟩ => ⟨v', e1, by rw [List.length_reverse] at hr; exact hr.wider fun k hk => Nat.le_trans hb.size hk, hb', hb.trans (hb'.mono hb.size)⟩
  have hd : Below W.heap.size W W.drew := Quiet.below ⟨1, rfl⟩ _
  have jv : Blk (((W.alloc (.cells #[.int .i64 G.mem] 3)).alloc (.cells #[.slice none 0 0, .slice none 0 0] 97)).drew) (W.heap.size + 1) 97 [.slice none 0 0, .slice none 0 0] := by
    have := Blk.new (W.alloc (.cells #[.int .i64 G.mem] 3)) 97 [.slice none 0 0, .slice none 0 0]
    rw [show (W.alloc (.cells #[.int .i64 G.mem] 3)).heap.size = W.heap.size + 1 by simp] at this
    exact this.drew
  have jm : Blk (((W.alloc (.cells #[.int .i64 G.mem] 3)).alloc (.cells #[.slice none 0 0, .slice none 0 0] 97)).drew) W.heap.size 3 [.int .i64 G.mem] := ((Blk.new W 3 [.int .i64 G.mem]).alloc _).drew
  have jb : Below W.heap.size W (((W.alloc (.cells #[.int .i64 G.mem] 3)).alloc (.cells #[.slice none 0 0, .slice none 0 0] 97)).drew) := (((Below.refl _ W).alloc (Nat.le_refl _) _).alloc (by simp) _).trans (Quiet.below ⟨1, rfl⟩ _)
  have jn : Blk ((W.alloc (.cells #[.int .i64 G.mem] 3)).drew) W.heap.size 3 [.int .i64 G.mem] := (Blk.new W 3 [.int .i64 G.mem]).drew
  have je : Below W.heap.size W ((W.alloc (.cells #[.int .i64 G.mem] 3)).drew) := ((Below.refl _ W).alloc (Nat.le_refl _) _).trans (Quiet.below ⟨1, rfl⟩ _)
  have jw : Blk ((W.alloc (.cells #[.slice none 0 0, .slice none 0 0] 97)).drew) W.heap.size 97 [.slice none 0 0, .slice none 0 0] := (Blk.new W 97 [.slice none 0 0, .slice none 0 0]).drew
  have jf : Below W.heap.size W ((W.alloc (.cells #[.slice none 0 0, .slice none 0 0] 97)).drew) := ((Below.refl _ W).alloc (Nat.le_refl _) _).trans (Quiet.below ⟨1, rfl⟩ _)
  have jx : Blk (((W.alloc (.cells #[.slice none 0 0, .slice none 0 0] 97)).alloc (.cells #[.int .i64 G.mem] 3)).drew) (W.heap.size + 1) 3 [.int .i64 G.mem] := by
    have := Blk.new (W.alloc (.cells #[.slice none 0 0, .slice none 0 0] 97)) 3 [.int .i64 G.mem]
    rw [show (W.alloc (.cells #[.slice none 0 0, .slice none 0 0] 97)).heap.size = W.heap.size + 1 by simp] at this
    exact this.drew
  have jy : Blk (((W.alloc (.cells #[.slice none 0 0, .slice none 0 0] 97)).alloc (.cells #[.int .i64 G.mem] 3)).drew) W.heap.size 97 [.slice none 0 0, .slice none 0 0] := ((Blk.new W 97 [.slice none 0 0, .slice none 0 0]).alloc _).drew
  have jg : Below W.heap.size W (((W.alloc (.cells #[.slice none 0 0, .slice none 0 0] 97)).alloc (.cells #[.int .i64 G.mem] 3)).drew) := (((Below.refl _ W).alloc (Nat.le_refl _) _).alloc (by simp) _).trans (Quiet.below ⟨1, rfl⟩ _)
  have a5 := k1.cell 5 rfl
  have a9 := k1.cell 9 rfl
  have C1 := Lib.hid c1
  have HR := Lib.hid hR
  have HS := Lib.hid hs
  clear c1 hR hs h
  go_enter Tryz.func34, Tryz.ntmps34
  go_upto_region 1 with fail
  go_cut [3] (fun s3 wx => ViewMid G W wx s3)
  case first =>
    --H{
    go_region_law (first
      | (go_simp; go_at_call 57; refine (C1.out _ jb).mono ?_; rintro e w1 ⟨v1, rfl, hr1, hb1, hB1⟩; obtain ⟨ao1, cp1, rfl⟩ := hr1.slice; have m1 := k1.keep (hB1.block _ k1.lt); have n1 := jv.keep (hb1.block _ jv.lt); have o1 := jm.keep (hb1.block _ jm.lt); rw [hsz] at n1 o1; have x5 := m1.cell 5 rfl; have x9 := m1.cell 9 rfl; have q5 := (m1.alloc (.cells #[.slice none 0 0, .slice none 0 0] 97)).cell 5 rfl; have y0 := n1.cell 0 rfl; have y1 := n1.cell 1 rfl; have z0 := n1.frozen 0; have z1 := n1.frozen 1)
      | (go_simp; go_at_call 57; refine (C1.out _ je).mono ?_; rintro e w1 ⟨v1, rfl, hr1, hb1, hB1⟩; obtain ⟨ao1, cp1, rfl⟩ := hr1.slice; have m1 := k1.keep (hB1.block _ k1.lt); have o1 := jn.keep (hb1.block _ jn.lt); rw [hsz] at o1; have x5 := m1.cell 5 rfl; have x9 := m1.cell 9 rfl; have q5 := (m1.alloc (.cells #[.slice none 0 0, .slice none 0 0] 97)).cell 5 rfl)
      | (go_simp; go_at_call 57; refine (C1.out _ hd).mono ?_; rintro e w1 ⟨v1, rfl, hr1, hb1, hB1⟩; obtain ⟨ao1, cp1, rfl⟩ := hr1.slice; have m1 := k1.keep (hB1.block _ k1.lt); have x5 := m1.cell 5 rfl; have x9 := m1.cell 9 rfl; have q5 := (m1.alloc (.cells #[.slice none 0 0, .slice none 0 0] 97)).cell 5 rfl)
      | (go_simp; go_at_call 57; refine (C1.out _ jf).mono ?_; rintro e w1 ⟨v1, rfl, hr1, hb1, hB1⟩; obtain ⟨ao1, cp1, rfl⟩ := hr1.slice; have m1 := k1.keep (hB1.block _ k1.lt); have n1 := (jw.keep (hb1.block _ jw.lt)).alloc (.cells #[.int .i64 G.mem] 3); rw [hsz] at n1; have x5 := m1.cell 5 rfl; have x9 := m1.cell 9 rfl; have q5 := (m1.alloc (.cells #[.slice none 0 0, .slice none 0 0] 97)).cell 5 rfl; have y0 := n1.cell 0 rfl; have y1 := n1.cell 1 rfl; have z0 := n1.frozen 0; have z1 := n1.frozen 1)
      | (go_simp; go_at_call 57; refine (C1.out _ jg).mono ?_; rintro e w1 ⟨v1, rfl, hr1, hb1, hB1⟩; obtain ⟨ao1, cp1, rfl⟩ := hr1.slice; have m1 := k1.keep (hB1.block _ k1.lt); have n1 := jy.keep (hb1.block _ jy.lt); have o1 := jx.keep (hb1.block _ jx.lt); rw [hsz] at n1 o1; have x5 := m1.cell 5 rfl; have x9 := m1.cell 9 rfl; have q5 := (m1.alloc (.cells #[.slice none 0 0, .slice none 0 0] 97)).cell 5 rfl; have y0 := n1.cell 0 rfl; have y1 := n1.cell 1 rfl; have z0 := n1.frozen 0; have z1 := n1.frozen 1))
    all_goals
      go_wp2_with fail
      go_meet
      have hsz1 := hB1.size
      first
        | exact view_c hB1 hr1
        | exact view_d hB1 hr1
        | exact view_mid hB1 (by omega) (by omega) n1 o1 hr1
        | exact view_mid (hB1.alloc hB1.size _) (by omega) (by omega) n1 (Blk.new w1 3 [.int .i64 G.mem]) (hr1.alloc _)
        | exact view_gen (hB1.alloc hB1.size _) hB1.size (by omega) (Blk.new w1 97 [.slice (some ⟨w.heap.size + 2, 0, none⟩) 1 1, .slice ao1 G.tables.length cp1]) (o1.alloc _) (hr1.alloc _)
--H}
  case rest =>
    obtain ⟨b, vm0, vt, rfl, hb, kv, hm, ht, hBx⟩ := hcut
    obtain ⟨R, hRv⟩ : ∃ R, G.imms.reverse = R := ⟨_, rfl⟩
    obtain ⟨n, hn⟩ : ∃ n, R.length = n := ⟨_, rfl⟩
    obtain ⟨i0, hi, hz0, hz1, hz2⟩ := info_parts infoInt
    have hn6 : n ≤ 1000000 := by rw [← hn, ← hRv, List.length_reverse]; exact HS.out.i
    have hI := turnedIm G.imms HS.out.i (HR.out.i.below hBx)
    rw [hRv, hn] at hI
    obtain ⟨ao, ct, rfl⟩ := ht.slice
    have b6 := (k1.keep (hBx.block _ k1.lt)).cell 6 rfl
    have HI := Lib.hid hI
    have HRV := Lib.hid hRv
    have HN := Lib.hid hn
    clear hI hRv hn a5 a9 jv jm jb jn je jw jf jx jy jg hd C1
    go_wp2_with (go_at_call 58; refine HI.out.mono ?_; rintro e w2 ⟨v2, rfl, hr2, hB2⟩; obtain ⟨ao2, c2, rfl⟩ := hr2.slice)
    go_loopw [17] (fun s wr => ∃ i : Nat, i ≤ n ∧ s = .int .i64 i ∧ ∃ vm, Blk wr b 97 (vC vm (.slice ao G.tables.length ct)) ∧ Row wr 3 1 vm (i + 1) (ints (G.mem :: (R.take i).map Imm.list)) (fun k => W.heap.size ≤ k) ∧ Row wr 92 4 (.slice ao G.tables.length ct) G.tables.length (mts G.tables.reverse) (fun k => W.heap.size ≤ k) ∧ Row wr 141 2 (.slice ao2 n c2) n (ims R) (fun k => W.heap.size ≤ k) ∧ Below W.heap.size W wr) (fun s _ => n - (intOf s).toNat)
    case atStart => exact ⟨0, Nat.zero_le _, rfl, vm0, kv.keep (hB2.block _ kv.lt), hm.below hB2, ht.below hB2, hr2.wider fun k hk => Nat.le_trans hBx.size hk, hBx.trans (hB2.mono hBx.size)⟩
    case round =>
      obtain ⟨i, hin, rfl, vm, kw, hmw, htw, hrw, hBw⟩ := hrel
      obtain ⟨gm, cm, rfl, hcm⟩ := owns_pos hmw.owns (by omega)
      by_cases hlt : i < n
      · obtain ⟨g2, cp2, e2, hc2⟩ := owns_pos hrw.owns (by omega)
        cases e2
        obtain ⟨x, hx⟩ : ∃ x, R[i]? = some x := ⟨_, List.getElem?_eq_getElem (by rw [HN.out]; exact hlt)⟩
        obtain ⟨g0, g1⟩ := ims_get R i x hx
        obtain ⟨c0, f0⟩ := hrw.cellS _ _ g0
        obtain ⟨c1, f1⟩ := hrw.cellS _ _ g1
        have HX := Lib.hid hx
        have v0 := ((kw.alloc (.cells #[.int .i64 x.list, .int .u64 x.log] 141))).cell 0 rfl
        clear hx g0 g1
        go_wp2_with (at_builtin; refine wpList_append_own_at _ rfl (.tmp 22) (.tmp 25) 53 (by rfl) W.heap.size 3 i0 (.int .i64 0) 1 8 Tryz.underlying53 hi hz0 hz1 hz2 rfl (by decide) (.slice (some ⟨gm, 0, none⟩) (i + 1) cm) (i + 1) (ints (G.mem :: (R.take i).map Imm.list)) (by rfl) ((hmw.alloc _).alloc _).at_base ⟨wr.heap.size + 1, 0, none⟩ 1 1 [.int .i64 x.list] (by rfl) rfl (cells_new _ _ (by simp) _ _) (by simp [Value.oneCell']) (by unfold maxLen; omega) (by omega) (by have := hBw.size; simp; omega) ?_; intro v5 w3 hown5 hg5 _ hat5; obtain ⟨g5, cp5, rfl⟩ := owns_succ hown5; have r1 := ((kw.alloc (.cells #[.int .i64 x.list, .int .u64 x.log] 141)).alloc (.cells #[.int .i64 x.list] 3)).grown hg5 (hmw.ne_blk kw (by decide)); have x0 := r1.cell 0 rfl; have y0 := r1.frozen 0)
        go_roundw
        case rel =>
          refine ⟨i + 1, by omega, by go_num, .slice (some ⟨g5, 0, none⟩) (i + 1 + 1) cp5, r1.set 0 _, ?_, ?_, ?_, ?_⟩
          · have h1 := (Row.of_owns hown5).setCell (a := ⟨b, 0, none⟩) ((Row.of_owns hown5).ne_blk r1 (by decide)) (.slice (some ⟨g5, 0, none⟩) (i + 1 + 1) cp5)
            have e : ints (G.mem :: (R.take (i + 1)).map Imm.list) = ints (G.mem :: (R.take i).map Imm.list) ++ [.int .i64 x.list] := by
              rw [List.take_add_one, HX.out]; simp [ints]
            rw [e]
            exact h1
          · exact (((htw.alloc _).alloc _).grown hg5 (htw.ne_row hmw (by decide))).setCell (a := ⟨b, 0, none⟩) ((((htw.alloc _).alloc _).grown hg5 (htw.ne_row hmw (by decide))).ne_blk r1 (by decide)) _
          · exact (((hrw.alloc _).alloc _).grown hg5 (hrw.ne_row hmw (by decide))).setCell (a := ⟨b, 0, none⟩) ((((hrw.alloc _).alloc _).grown hg5 (hrw.ne_row hmw (by decide))).ne_blk r1 (by decide)) _
          · exact (((hBw.alloc hBw.size _).alloc (by have := hBw.size; simp; omega) _).grown hg5 (by have := hBw.size; simp; omega) (fun k h => hmw.home k h)).setCell (p := ⟨b, 0, none⟩) hb _
        case measure => simp [intOf]; omega
      · obtain rfl : i = n := by omega
        have m2 := k2.keep (hBw.block _ k2.lt)
        have n0 := kw.cell 0 rfl
        have n1 := kw.cell 1 rfl
        have o0 := m2.cell 0 rfl
        have o1 := m2.cell 1 rfl
        have p0 := m2.frozen 0
        have p1 := m2.frozen 1
        go_wp2
        have q2 := (m2.set 0 (.slice (some ⟨gm, 0, none⟩) (i + 1) cm)).set 1 (.slice ao G.tables.length ct)
        refine bodyPost_ret (results_cell_one (P := Tryz.prog) Tryz.results34 rfl (q2.loadRow _ Tryz.underlying97 rfl infoVw)) rfl ⟨.slice (some ⟨gm, 0, none⟩) (i + 1) cm, .slice ao G.tables.length ct, rfl, ⟨?_, ?_⟩, ?_⟩
        · have h1 := ((hmw.setCell (a := ⟨w.heap.size + 1, 0, none⟩) (hmw.ne_blk m2 (by decide)) (.slice (some ⟨gm, 0, none⟩) (i + 1) cm)).setCell (a := ⟨w.heap.size + 1, 1, none⟩) (hmw.ne_blk m2 (by decide)) (.slice ao G.tables.length ct)).wider (B := fun k => w.heap.size ≤ k) (fun k hk => by omega)
          have e1 : (viewG G).mems.length = i + 1 := by simp [viewG, HRV.out, HN.out]
          have e2 : ints (viewG G).mems = ints (G.mem :: (R.take i).map Imm.list) := by rw [List.take_of_length_le (by rw [HN.out]; exact Nat.le_refl _)]; simp [viewG, HRV.out]
          rw [e1, e2]
          exact h1
        · have h1 := ((htw.setCell (a := ⟨w.heap.size + 1, 0, none⟩) (htw.ne_blk m2 (by decide)) (.slice (some ⟨gm, 0, none⟩) (i + 1) cm)).setCell (a := ⟨w.heap.size + 1, 1, none⟩) (htw.ne_blk m2 (by decide)) (.slice ao G.tables.length ct)).wider (B := fun k => w.heap.size ≤ k) (fun k hk => by omega)
          have e1 : (viewG G).tables.length = G.tables.length := by simp [viewG]
          rw [e1]
          exact h1
        · exact ((hB.trans (hBw.mono hB.size)).setCell (p := ⟨w.heap.size + 1, 0, none⟩) (by simp) _).setCell (p := ⟨w.heap.size + 1, 1, none⟩) (by simp) _
end Go.Proofs.YteiaifhnikknbaaGreatDoor
