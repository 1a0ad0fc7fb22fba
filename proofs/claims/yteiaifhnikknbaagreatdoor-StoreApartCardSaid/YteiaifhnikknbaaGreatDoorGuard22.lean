/- The walks over what is guarded. -/
import Derived.Test.YteiaifhnikknbaaGreatDoorData22
import Derived.Deep.RegionLaw
import Derived.Deep.DeepCutAuto

namespace Go.Proofs.YteiaifhnikknbaaGreatDoor
open Go.RowKit

variable {w w' : World} {G : Gd} {sl sd si st : Value} {A B : Nat → Prop}
/-- Half of 'own' is done: the line is in memory of its own. -/
def gZ : List Value := [.slice none 0 0, .slice none 0 0, .int .i64 0, .int .u64 0, .int .i64 0, .int .i64 0, .slice none 0 0, .int .u64 0, .int .u64 0, .slice none 0 0, .bool false]
def OwnMid (G : Gd) (w wx : World) (b : Nat) (si st : Value) : Prop :=
  ∃ v1 v2, Blk wx b 67 (gC G v1 v2 si st) ∧ Row wx 155 6 v1 G.l.length (mbs G.l) (fun k => w.heap.size ≤ k) ∧ Row wx 155 6 v2 G.done.length (mbs G.done) (fun k => w.heap.size ≤ k) ∧ Below w.heap.size w wx ∧ Blk wx (b + 1) 67 gZ
set_option maxRecDepth 100000 in
set_option maxHeartbeats 2000000 in
theorem own_any (h : GR w G sl sd si st) (hs : G.Small 1000000) :
    Calls Tryz.prog 54 #[.agg (gC G sl sd si st).toArray] w fun e w' => ∃ sl' sd' si' st', e = .returned (.agg (gC G sl' sd' si' st').toArray) ∧ GO w' G sl' sd' si' st' (fun k => w.heap.size ≤ k) ∧ Below w.heap.size w w' := by
  obtain ⟨W, hW, k1, k2, hB, hsz⟩ := two_boxes w (gC G sl sd si st) [.slice none 0 0, .slice none 0 0, .int .i64 0, .int .u64 0, .int .i64 0, .int .i64 0, .slice none 0 0, .int .u64 0, .int .u64 0, .slice none 0 0, .bool false] 67 67
  have hR := h.below hB
  have c1 : ∀ W', Below W.heap.size W W' → Calls Tryz.prog 65 #[sl] W' fun e w' => ∃ v', e = .returned v' ∧ Row w' 155 6 v' G.l.length (mbs G.l) (fun k => W.heap.size ≤ k) ∧ Below W'.heap.size W' w' ∧ Below W.heap.size W w' := fun W' hb => (cloneMb_any W' sl _ _ (hR.l.below hb) (mbs_one _) (by have := hs.l; omega)).mono fun e w' ⟨v', e1, hr, hb'⟩ => ⟨v', e1, hr.wider fun k hk => Nat.le_trans hb.size hk, hb', hb.trans (hb'.mono hb.size)⟩
  have c2 : ∀ W', Below W.heap.size W W' → Calls Tryz.prog 65 #[sd] W' fun e w' => ∃ v', e = .returned v' ∧ Row w' 155 6 v' G.done.length (mbs G.done) (fun k => W.heap.size ≤ k) ∧ Below W'.heap.size W' w' ∧ Below W.heap.size W w' := fun W' hb => (cloneMb_any W' sd _ _ (hR.d.below hb) (mbs_one _) (by have := hs.d; omega)).mono fun e w' ⟨v', e1, hr, hb'⟩ => ⟨v', e1, hr.wider fun k hk => Nat.le_trans hb.size hk, hb', hb.trans (hb'.mono hb.size)⟩
  have hd : Below W.heap.size W W.drew := Quiet.below ⟨1, rfl⟩ _
  have a0 := k1.cell 0 rfl
  have a1 := k1.cell 1 rfl
  have f0 := k1.frozen 0
  have f1 := k1.frozen 1
  have C1 := Lib.hid c1
  have C2 := Lib.hid c2
  have HR := Lib.hid h
  have HS := Lib.hid hs
  clear c1 c2 h hR hs
  go_enter Tryz.func54, Tryz.ntmps54
  go_upto_region 1 with fail
  go_cut [] (fun wx => OwnMid G w wx w.heap.size si st)
  case first =>
    go_region_law (first | (go_simp; go_at_call 65; refine (C1.out _ (by assumption)).mono ?_; rintro e w1 ⟨v1, rfl, hr1, hb1, hB1⟩; obtain ⟨ao1, cp1, rfl⟩ := hr1.slice; have m1 := k1.keep (hB1.block _ k1.lt); have x0 := m1.cell 0 rfl; have x1 := m1.cell 1 rfl; have g0 := m1.frozen 0; have g1 := m1.frozen 1) | (go_simp; go_at_call 65; refine (C2.out _ (by assumption)).mono ?_; rintro e w2 ⟨v2, rfl, hr2, hb2, hB2⟩; obtain ⟨ao2, cp2, rfl⟩ := hr2.slice; have n1 := k1.keep (hB2.block _ k1.lt); have y0 := n1.cell 0 rfl; have y1 := n1.cell 1 rfl; have h0 := n1.frozen 0; have h1 := n1.frozen 1))
    all_goals
      go_wp2_with fail
      go_meet
      exact ⟨_, _, (n1.set 0 _).set 1 _, ((hr1.below hb2).setCell (a := ⟨w.heap.size, 0, none⟩) ((hr1.below hb2).ne_blk n1 (by decide)) _).setCell (a := ⟨w.heap.size, 1, none⟩) ((hr1.below hb2).ne_blk n1 (by decide)) _ |>.wider (fun k hk => by omega), ((hr2.setCell (a := ⟨w.heap.size, 0, none⟩) (hr2.ne_blk n1 (by decide)) _).setCell (a := ⟨w.heap.size, 1, none⟩) (hr2.ne_blk n1 (by decide)) _).wider (fun k hk => by omega), ((hB.trans (hB2.mono hB.size)).setCell (p := ⟨w.heap.size, 0, none⟩) (Nat.le_refl _) _).setCell (p := ⟨w.heap.size, 1, none⟩) (Nat.le_refl _) _, ((k2.keep (hB2.block _ k2.lt)).set_other (a := ⟨w.heap.size, 0, none⟩) (by simp) _).set_other (a := ⟨w.heap.size, 1, none⟩) (by simp) _⟩
  case rest =>
    obtain ⟨v1, v2, q1, hv1, hv2, hBq, q2⟩ := hcut
    have hR := HR.out.below hBq
    have c3 : ∀ W', Below wc.heap.size wc W' → Calls Tryz.prog 66 #[si] W' fun e w' => ∃ v', e = .returned v' ∧ Row w' 141 2 v' G.imms.length (ims G.imms) (fun k => wc.heap.size ≤ k) ∧ Below W'.heap.size W' w' ∧ Below wc.heap.size wc w' := fun W' hb => (cloneIm_any W' si _ _ (hR.i.below hb) (ims_one _) (by have := HS.out.i; omega)).mono fun e w' ⟨v', e1, hr, hb'⟩ => ⟨v', e1, hr.wider fun k hk => Nat.le_trans hb.size hk, hb', hb.trans (hb'.mono hb.size)⟩
    have c4 : ∀ W', Below wc.heap.size wc W' → Calls Tryz.prog 41 #[st] W' fun e w' => ∃ v', e = .returned v' ∧ Row w' 92 4 v' G.tables.length (mts G.tables) (fun k => wc.heap.size ≤ k) ∧ Below W'.heap.size W' w' ∧ Below wc.heap.size wc w' := fun W' hb => (cloneMt_any W' st _ _ (hR.t.below hb) (mts_one _) (by have := HS.out.t; omega)).mono fun e w' ⟨v', e1, hr, hb'⟩ => ⟨v', e1, hr.wider fun k hk => Nat.le_trans hb.size hk, hb', hb.trans (hb'.mono hb.size)⟩
    have hd' : Below wc.heap.size wc wc.drew := Quiet.below ⟨1, rfl⟩ _
    have C3 := Lib.hid c3
    have C4 := Lib.hid c4
    have b6 := q1.cell 6 rfl
    have b9 := q1.cell 9 rfl
    have e6 := q1.frozen 6
    have e9 := q1.frozen 9
    clear c3 c4 C1 C2 k1 k2 hW hB a0 a1 f0 f1 hd hR
    go_upto_region 2 with fail
    go_cut [] (fun wx => ∃ v3 v4, Blk wx w.heap.size 67 (gC G v1 v2 v3 v4) ∧ Row wx 155 6 v1 G.l.length (mbs G.l) (fun k => w.heap.size ≤ k) ∧ Row wx 155 6 v2 G.done.length (mbs G.done) (fun k => w.heap.size ≤ k) ∧ Row wx 141 2 v3 G.imms.length (ims G.imms) (fun k => w.heap.size ≤ k) ∧ Row wx 92 4 v4 G.tables.length (mts G.tables) (fun k => w.heap.size ≤ k) ∧ Below w.heap.size w wx ∧ Blk wx (w.heap.size + 1) 67 gZ)
    case first =>
      go_region_law (first | (go_simp; go_at_call 66; refine (C3.out _ (by assumption)).mono ?_; rintro e w1 ⟨v3, rfl, hr1, hb1, hB1⟩; obtain ⟨ao1, cp1, rfl⟩ := hr1.slice; have m1 := q1.keep (hB1.block _ q1.lt); have x0 := m1.cell 6 rfl; have x1 := m1.cell 9 rfl; have g0 := m1.frozen 6; have g1 := m1.frozen 9) | (go_simp; go_at_call 41; refine (C4.out _ (by assumption)).mono ?_; rintro e w2 ⟨v4, rfl, hr2, hb2, hB2⟩; obtain ⟨ao2, cp2, rfl⟩ := hr2.slice; have n1 := q1.keep (hB2.block _ q1.lt); have y0 := n1.cell 6 rfl; have y1 := n1.cell 9 rfl; have h0 := n1.frozen 6; have h1 := n1.frozen 9))
      all_goals
        go_wp2_with fail
        go_meet
        have hsz1 := hBq.size
        exact ⟨_, _, (n1.set 6 _).set 9 _, ((hv1.below hB2).setCell (a := ⟨w.heap.size, 6, none⟩) ((hv1.below hB2).ne_blk n1 (by decide)) _).setCell (a := ⟨w.heap.size, 9, none⟩) ((hv1.below hB2).ne_blk n1 (by decide)) _, ((hv2.below hB2).setCell (a := ⟨w.heap.size, 6, none⟩) ((hv2.below hB2).ne_blk n1 (by decide)) _).setCell (a := ⟨w.heap.size, 9, none⟩) ((hv2.below hB2).ne_blk n1 (by decide)) _,
          (((hr1.below hb2).setCell (a := ⟨w.heap.size, 6, none⟩) ((hr1.below hb2).ne_blk n1 (by decide)) _).setCell (a := ⟨w.heap.size, 9, none⟩) ((hr1.below hb2).ne_blk n1 (by decide)) _).wider (fun k hk => Nat.le_trans hsz1 hk), ((hr2.setCell (a := ⟨w.heap.size, 6, none⟩) (hr2.ne_blk n1 (by decide)) _).setCell (a := ⟨w.heap.size, 9, none⟩) (hr2.ne_blk n1 (by decide)) _).wider (fun k hk => Nat.le_trans hsz1 hk), ((hBq.trans (hB2.mono hBq.size)).setCell (p := ⟨w.heap.size, 6, none⟩) (Nat.le_refl _) _).setCell (p := ⟨w.heap.size, 9, none⟩) (Nat.le_refl _) _, ((q2.keep (hB2.block _ q2.lt)).set_other (a := ⟨w.heap.size, 6, none⟩) (by simp) _).set_other (a := ⟨w.heap.size, 9, none⟩) (by simp) _⟩
    case rest =>
      obtain ⟨v3, v4, p1, hu1, hu2, hu3, hu4, hBu, p2⟩ := hcut
      clear C3 C4 q1 q2 hv1 hv2 hBq hd' b6 b9 e6 e9 HR
      go_wp2_with (first | (refine wpList_load_blk rfl 67 _ rfl w.heap.size (by rfl) (gC G v1 v2 v3 v4) p1 _ Tryz.underlying67 rfl infoG ?_) | (refine wpList_store_blk rfl 67 _ _ rfl (w.heap.size + 1) (gC G v1 v2 v3 v4) (by rfl) (by rfl) gZ p2 infoG rfl (gC_one G hu1.slice_one hu2.slice_one hu3.slice_one hu4.slice_one) ?_))
      have p3 := p2.setRow (gC G v1 v2 v3 v4)
      exact bodyPost_ret (results_cell_one (P := Tryz.prog) Tryz.results54 rfl (p3.loadRow _ Tryz.underlying67 rfl infoG)) rfl ⟨v1, v2, v3, v4, rfl, ⟨hu1.setRow p2 (by decide) _, hu2.setRow p2 (by decide) _, hu3.setRow p2 (by decide) _, hu4.setRow p2 (by decide) _⟩, below_setRow hBu (by omega) _⟩
end Go.Proofs.YteiaifhnikknbaaGreatDoor
