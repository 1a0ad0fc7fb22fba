/- ratlinelow.View, Line, Guarded of the same. -/
import Derived.Test.YteiaifhnikknbaaDoorLow22
import Derived.Test.YteiaifhnikknbaaDoorView22
namespace Go.Proofs.YteiaifhnikknbaaDoor
open Go.RowKit

variable {w w' : World} {G : Gd}
/-- A view can be read. -/
structure VR (w : World) (V : Vw) (vm vt : Value) : Prop where
  m : Reads w 1 vm V.mems.length (ints V.mems)
  t : Reads w 4 vt V.tables.length (mts V.tables)
theorem VO.vr {V : Vw} {vm vt : Value} {A : Nat → Prop} (h : VO w V vm vt A) : VR w V vm vt := ⟨h.m.reads, h.t.reads⟩
theorem VR.below {V : Vw} {vm vt : Value} (h : VR w V vm vt) (hb : Below w.heap.size w w') : VR w' V vm vt := ⟨h.m.below hb, h.t.below hb⟩
set_option maxRecDepth 100000 in
set_option maxHeartbeats 1000000 in
theorem lowView_same (V : Vw) (vm vt um ut : Value) (h1 : VR w V vm vt) (h2 : VR w V um ut) (n1 : V.mems.length ≤ 1000000) (n2 : V.tables.length ≤ 1000000) :
    Calls Tryd.prog 19 #[.agg (vC vm vt).toArray, .agg (vC um ut).toArray] w fun e w' => e = .returned (.bool true) ∧ Below w.heap.size w w' := by
  obtain ⟨W, hW, k1, k2, hB, hsz⟩ := two_boxes w (vC vm vt) (vC um ut) 41 41
  have c1 : ∀ k, Calls Tryd.prog 12 #[vm, um] (W.drewN k) fun e w' => e = .returned (.bool true) ∧ Quiet (W.drewN k) w' := fun k => (lowInts _ _ _ _ _ _ _ ((h1.m.below hB).drewN k) ((h2.m.below hB).drewN k) (by omega)).mono (by rintro e w' ⟨rfl, hq⟩; exact ⟨by simp, hq⟩)
  have c2 : ∀ k, Calls Tryd.prog 51 #[vt, ut] (W.drewN k) fun e w' => e = .returned (.bool true) ∧ Quiet (W.drewN k) w' := fun k => (lowMt _ _ _ _ _ ((h1.t.below hB).drewN k) ((h2.t.below hB).drewN k) (by omega)).mono (by rintro e w' ⟨rfl, hq⟩; exact ⟨by simp, hq⟩)
  have C1 := Lib.hid (c1 0)
  have C2 := Lib.hid c2
  have a0 := k1.cell 0 rfl
  have a1 := k1.cell 1 rfl
  have b0 := k2.cell 0 rfl
  have b1 := k2.cell 1 rfl
  clear c1 c2 h1 h2 k1 k2
  go_enter Tryd.func19, Tryd.ntmps19
  go_wp2_with (first | (go_at_call 12; refine C1.out.mono ?_; rintro e w3 ⟨rfl, ⟨n3, rfl⟩⟩) | (go_at_call 51; refine (C2.out _).mono ?_; rintro e w4 ⟨rfl, ⟨n4, rfl⟩⟩))
  go_ret
  exact ⟨rfl, hB.trans (Quiet.below ⟨⟨_, rfl⟩⟩ _)⟩

def liC (G : Gd) (sl sd : Value) : List Value := [sl, sd, .int .i64 G.group]
set_option maxRecDepth 100000 in
set_option maxHeartbeats 1000000 in
theorem lowLine_same (sl sd tl td : Value) (h1 : Reads w 6 sl G.l.length (mbs G.l)) (h2 : Reads w 6 sd G.done.length (mbs G.done)) (h3 : Reads w 6 tl G.l.length (mbs G.l)) (h4 : Reads w 6 td G.done.length (mbs G.done)) (hs : G.Small 1000000) :
    Calls Tryd.prog 52 #[.agg (liC G sl sd).toArray, .agg (liC G tl td).toArray] w fun e w' => e = .returned (.bool true) ∧ Below w.heap.size w w' := by
  obtain ⟨W, hW, k1, k2, hB, hsz⟩ := two_boxes w (liC G sl sd) (liC G tl td) 26 26
  have n1 := hs.l
  have n2 := hs.d
  have c1 : ∀ k, Calls Tryd.prog 78 #[sl, tl] (W.drewN k) fun e w' => e = .returned (.bool true) ∧ Quiet (W.drewN k) w' := fun k => (lowMb _ _ _ _ _ ((h1.below hB).drewN k) ((h3.below hB).drewN k) (by omega)).mono (by rintro e w' ⟨rfl, hq⟩; exact ⟨by simp, hq⟩)
  have c2 : ∀ k, Calls Tryd.prog 78 #[sd, td] (W.drewN k) fun e w' => e = .returned (.bool true) ∧ Quiet (W.drewN k) w' := fun k => (lowMb _ _ _ _ _ ((h2.below hB).drewN k) ((h4.below hB).drewN k) (by omega)).mono (by rintro e w' ⟨rfl, hq⟩; exact ⟨by simp, hq⟩)
  have c10 : Calls Tryd.prog 78 #[sl, tl] W fun e w' => e = .returned (.bool true) ∧ Quiet W w' := c1 0
  have C1 := Lib.hid c10
  have C2 := Lib.hid c2
  have a0 := k1.cell 0 rfl
  have a1 := k1.cell 1 rfl
  have a2 := k1.cell 2 rfl
  have b0 := k2.cell 0 rfl
  have b1 := k2.cell 1 rfl
  have b2 := k2.cell 2 rfl
  clear c10 c1 c2 h1 h2 h3 h4 k1 k2 n1 n2
  go_enter Tryd.func52, Tryd.ntmps52
  go_wp2_with (first | (go_at_call 78; ((with_reducible refine C1.out.mono ?_); rintro e w3 ⟨rfl, ⟨n3, rfl⟩⟩)) | (go_at_call 78; ((with_reducible refine (C2.out _).mono ?_); rintro e w4 ⟨rfl, ⟨n4, rfl⟩⟩)))
  go_ret
  exact ⟨rfl, hB.trans (Quiet.below ⟨⟨_, rfl⟩⟩ _)⟩

set_option maxRecDepth 100000 in
set_option maxHeartbeats 2000000 in
theorem lowGuarded_same {sl sd si st tl td ti tt : Value} (h1 : GR w G sl sd si st) (h2 : GR w G tl td ti tt) (hs : G.Small 1000000) :
    Calls Tryd.prog 21 #[.agg (gC G sl sd si st).toArray, .agg (gC G tl td ti tt).toArray] w fun e w' => e = .returned (.bool true) ∧ Below w.heap.size w w' := by
  obtain ⟨W, hW, k1, k2, hB, hsz⟩ := two_boxes w (gC G sl sd si st) (gC G tl td ti tt) 31 31
  have r1 := h1.below hB
  have r2 := h2.below hB
  have n3 := hs.i
  have n4 := hs.t
  have c1 : Calls Tryd.prog 52 #[.agg (liC G sl sd).toArray, .agg (liC G tl td).toArray] W fun e w' => e = .returned (.bool true) ∧ Below W.heap.size W w' := lowLine_same sl sd tl td r1.l r1.d r2.l r2.d hs
  have c2 : ∀ W', Below W.heap.size W W' → Calls Tryd.prog 53 #[si, ti] W' fun e w' => e = .returned (.bool true) ∧ Quiet W' w' := fun W' hb => (lowIm _ _ _ _ _ (r1.i.below hb) (r2.i.below hb) (by omega)).mono (by rintro e w' ⟨rfl, hq⟩; exact ⟨by simp, hq⟩)
  have c3 : ∀ W', Below W.heap.size W W' → Calls Tryd.prog 51 #[st, tt] W' fun e w' => e = .returned (.bool true) ∧ Quiet W' w' := fun W' hb => (lowMt _ _ _ _ _ (r1.t.below hb) (r2.t.below hb) (by omega)).mono (by rintro e w' ⟨rfl, hq⟩; exact ⟨by simp, hq⟩)
  have C1 := Lib.hid c1
  have C2 := Lib.hid c2
  have C3 := Lib.hid c3
  have a0 := k1.cell 0 rfl
  have b0 := k2.cell 0 rfl
  have a1 := k1.cell 1 rfl
  have b1 := k2.cell 1 rfl
  have a2 := k1.cell 2 rfl
  have b2 := k2.cell 2 rfl
  clear c1 c2 c3 h1 h2 r1 r2 n3 n4
  go_enter Tryd.func21, Tryd.ntmps21
  go_wp2_with (first | (go_at_call 52; refine C1.out.mono ?_; rintro e w3 ⟨rfl, hB3⟩; have m1 := k1.keep (hB3.block _ k1.lt); have m2 := k2.keep (hB3.block _ k2.lt); have p3 := m1.cell 3 rfl; have q3 := m2.cell 3 rfl; have p4 := m1.cell 4 rfl; have q4 := m2.cell 4 rfl; have p5 := m1.cell 5 rfl; have q5 := m2.cell 5 rfl; have p6 := m1.cell 6 rfl; have q6 := m2.cell 6 rfl; have p7 := m1.cell 7 rfl; have q7 := m2.cell 7 rfl; have p8 := m1.cell 8 rfl; have q8 := m2.cell 8 rfl; have p9 := m1.cell 9 rfl; have q9 := m2.cell 9 rfl; have p10 := m1.cell 10 rfl; have q10 := m2.cell 10 rfl) | (go_at_call 53; refine (C2.out _ hB3).mono ?_; rintro e w4 ⟨rfl, ⟨n4, rfl⟩⟩) | (go_at_call 51; refine (C3.out _ (hB3.trans (Quiet.below ⟨⟨_, rfl⟩⟩ _))).mono ?_; rintro e w5 ⟨rfl, ⟨n5, rfl⟩⟩))
  go_ret
  exact ⟨rfl, (hB.trans (hB3.mono hB.size)).trans (Quiet.below ⟨⟨_, rfl⟩⟩ _)⟩
end Go.Proofs.YteiaifhnikknbaaDoor
