/- Chapter 22's examples. -/
import Derived.Test.YteiaifhnikknbaaGreatDoorStHeight
import Derived.Test.YteiaifhnikknbaaGreatDoorTurns22

namespace Go.Proofs.YteiaifhnikknbaaGreatDoor
open Go.RowKit

def smallK : Cfg := ⟨60, 2, 3, 8, true, [1, 4]⟩
theorem builtCf (b : Nat) : Tryz.prog.built 25 [(0, .int .u64 60), (1, .int .i64 2), (2, .int .i64 3), (3, .int .i64 8), (4, .bool true), (5, .slice (some ⟨b, 0, none⟩) 2 2)] = some (cfC smallK (.slice (some ⟨b, 0, none⟩) 2 2)).toArray := by kernel_rfl
set_option maxRecDepth 100000 in
set_option maxHeartbeats 1000000 in
theorem small_any (w : World) : Calls Tryz.prog 4 #[] w fun e w' => ∃ sh, e = .returned (.agg (cfC smallK sh).toArray) ∧ Reads w' 1 sh 2 (u32s [1, 4]) ∧ Below w.heap.size w w' := by
  obtain ⟨W, hW⟩ : ∃ W, w.alloc (.cells #[.int .u64 0, .int .i64 0, .int .i64 0, .int .i64 0, .bool false, .slice none 0 0] 25) = W := ⟨_, rfl⟩
  have hBW : Below w.heap.size w W := by rw [← hW]; exact (Below.refl _ _).alloc (Nat.le_refl _) _
  have k1 : Blk W w.heap.size 25 [.int .u64 0, .int .i64 0, .int .i64 0, .int .i64 0, .bool false, .slice none 0 0] := by rw [← hW]; exact Blk.new _ _ _
  have hlt : w.heap.size < W.heap.size := k1.lt
  go_enter Tryz.func4, Tryz.ntmps4
  go_wp2_with (first | (refine wpList_built rfl _ _ rfl (cfC smallK (.slice (some ⟨W.heap.size, 0, none⟩) 2 2)).toArray (by simp [Act.eval, builtCf]) ?_) | (refine wpList_store_blk rfl 25 _ _ rfl w.heap.size (cfC smallK (.slice (some ⟨W.heap.size, 0, none⟩) 2 2)) (by rfl) (by rfl) _ (k1.alloc (.cells #[.int .u32 1, .int .u32 4] 48)) infoCf rfl (by intro u hu; simp [cfC] at hu; rcases hu with rfl | rfl | rfl | rfl | rfl | rfl <;> rfl) ?_))
  have k2 := (k1.alloc (.cells #[.int .u32 1, .int .u32 4] 48)).setRow (cfC smallK (.slice (some ⟨W.heap.size, 0, none⟩) 2 2))
  have k3 : Blk ((W.alloc (.cells #[.int .u32 1, .int .u32 4] 48)).setRow w.heap.size (cfC smallK (.slice (some ⟨W.heap.size, 0, none⟩) 2 2)).toArray) W.heap.size 48 [.int .u32 1, .int .u32 4] := (Blk.new W 48 [.int .u32 1, .int .u32 4]).setRow_other (by omega) _
  refine bodyPost_ret (results_cell_one (P := Tryz.prog) Tryz.results4 rfl (k2.loadRow _ Tryz.underlying25 rfl infoCf)) rfl ⟨_, rfl, ⟨rfl, .inr ⟨W.heap.size, 0, 2, rfl, Nat.le_refl _, fun j u hu => ?_⟩⟩, below_setRow (hBW.alloc (by omega) _) (Nat.le_refl _) _⟩
  rw [Nat.zero_add]
  exact k3.cell j hu

section
variable {B : Nat} {w w' : World} {q : SRef} {K : Cfg} {L L' : Lk} {S S' : Mem} {G : Gd} {A O : Nat → Prop}
theorem get_yes (h : Sx B w q K L S G A O) (hs : G.Small 1000000) (t : Int) (ht : L.held = true → 0 ≤ L.holder ∧ L.holder < 64) (hp : 0 < S.plains.length) (hn : S.trace.length < trMax) (hE : L.held = true ∧ L.holder = t) :
    Calls Tryz.prog 28 #[.pointer (some ⟨q.p, 0, none⟩), .int .i64 t] w fun e w' => ∃ sl sd si st N, e = .returned (.tuple #[.agg (gC G sl sd si st).toArray, .int .i64 0]) ∧ w.heap.size ≤ N ∧ N ≤ w'.heap.size ∧ GH w' G sl sd si st N ∧ Sx B w' q K L (S.note ⟨t, 6, 0⟩) G (fun k => A k ∧ ¬ (N ≤ k ∧ k < w'.heap.size)) O ∧ Only A w w' := by
  have e1 : heldE L t = 0 := by rw [heldE, if_pos hE]
  have e2 : heldS L S t 6 = S.note ⟨t, 6, 0⟩ := by rw [heldS, if_pos hE]
  have h1 := get_any h hs t ht hp hn
  rw [e1, e2] at h1
  refine h1.mono ?_
  rintro e w' ⟨⟨sl, sd, si, st, N, rfl, hn1, hn2, hg, hS⟩, hO⟩
  exact ⟨sl, sd, si, st, N, rfl, hn1, hn2, hg, hS, hO⟩
theorem get_no (h : Sx B w q K L S G A O) (hs : G.Small 1000000) (t : Int) (ht : L.held = true → 0 ≤ L.holder ∧ L.holder < 64) (hp : 0 < S.plains.length) (hn : S.trace.length < trMax) (hE : ¬ (L.held = true ∧ L.holder = t)) :
    Calls Tryz.prog 28 #[.pointer (some ⟨q.p, 0, none⟩), .int .i64 t] w fun e w' => ∃ sl sd si st N, e = .returned (.tuple #[.agg (gC gz sl sd si st).toArray, .int .i64 141]) ∧ w.heap.size ≤ N ∧ N ≤ w'.heap.size ∧ GH w' gz sl sd si st N ∧ Sx B w' q K L S G (fun k => A k ∧ ¬ (N ≤ k ∧ k < w'.heap.size)) O ∧ Only A w w' := by
  have e1 : heldE L t = 141 := by rw [heldE, if_neg hE]
  have e2 : heldS L S t 6 = S := by rw [heldS, if_neg hE]
  have h1 := get_any h hs t ht hp hn
  rw [e1, e2] at h1
  refine h1.mono ?_
  rintro e w' ⟨⟨sl, sd, si, st, N, rfl, hn1, hn2, hg, hS⟩, hO⟩
  exact ⟨sl, sd, si, st, N, rfl, hn1, hn2, hg, hS, hO⟩
end

def awV : Ver := ⟨[], 0, 7, 5⟩
def awG : Gd := ⟨[], [], 0, 7, 0, 0, [], 4, 5, [], false⟩
def awR : Gd := ⟨[], [], 0, 7, 0, 1, [⟨0, 4⟩], 6, 7, [], false⟩
def mt5 : Meta := ⟨5, 9, ⟨#[97]⟩, ⟨#[98]⟩⟩
def awI : Gd := ⟨[], [], 0, 7, 0, 1, [], 6, 7, [mt5], false⟩
theorem awG_eq : newG awV 4 = awG := by simp [newG, awV, awG]
theorem awR_eq : rotG awG 6 = awR := by simp [rotG, awG, awR, wrap64]
theorem awI_eq : instG awR mt5 = awI := by simp [instG, awR, awI]
theorem smallK_right : rightB smallK = true := by decide
theorem awS_len : (newS smallK awV).atomics.length = 206 ∧ (newS smallK awV).plains.length = 125 ∧ (newS smallK awV).trace.length = 1 := by
  refine ⟨?_, ?_, rfl⟩
  · show ((List.replicate _ _).set _ _).length = 206
    rw [List.length_set, List.length_replicate]; decide
  · show (List.replicate _ _).length = 125
    rw [List.length_replicate]; decide
theorem awS_at : (newS smallK awV).at_ 0 = 7 := by
  show (List.set _ 0 7).getD 0 0 = 7
  rw [List.getD_eq_getElem?_getD, List.getElem?_set_self (by show 0 < (List.replicate _ _).length; rw [List.length_replicate]; decide)]
  rfl
/-- The installation, in whichever order its statement goes. -/
structure AwI (W wx : World) (b : Nat) (sl sd si st : Value) : Prop where
  main : Blk wx b 67 (gC awI sl sd si st)
  gh : GH wx awI sl sd si st W.heap.size
  below : Below W.heap.size W wx
set_option maxRecDepth 100000 in
set_option maxHeartbeats 4000000 in
theorem awake22 (w : World) (hT : Tab w) : Calls Tryz.prog 13 #[] w fun e w' => e = .returned (.bool true) ∧ Below w.heap.size w w' := by
  obtain ⟨l1, l2, l3⟩ := awS_len
  have HT := Lib.hid hT
  have L1 := Lib.hid l1
  have L2 := Lib.hid l2
  have L3 := Lib.hid l3
  clear hT l1 l2 l3
  go_enter Tryz.func13, Tryz.ntmps13
  go_upto_region 2 with (first | (go_at_call 4; refine (small_any _).mono ?_; rintro e w1 ⟨sh, rfl, hR1, hB1⟩) | (go_at_call 15; refine (disknew_nil _ _ (by decide)).mono ?_; rintro e w2 ⟨d, rfl, hB2⟩) | (go_at_call 14; refine (stnew_yes smallK_right (sh := sh) (st := .slice none 0 0) (V := awV) (hR1.below hB2) ⟨rfl, .inl ⟨rfl, _, _, rfl⟩⟩ (by decide) _ 4 (by decide) (by decide) (by decide)).mono ?_; intro e w3 h3; obtain ⟨q, A, O, rfl, hS, hB3⟩ := h3.sx; rw [awG_eq] at hS; clear h3))
  have hB2' := hB1.trans (hB2.mono hB1.size)
  have hB3' := hB2'.trans (hB3.mono hB2'.size)
  have hmy : Calls Tryz.prog 26 #[.pointer (some ⟨q.r.c.p, 0, none⟩)] w3 fun e w' => e = .returned (.tuple #[.int .i64 206, .int .i64 125]) ∧ Quiet w3 w' := by
    have := many_ok hS.cells
    rw [L1.out, L2.out] at this
    exact this
  have HMY := Lib.hid hmy
  have HB3 := Lib.hid hB3'
  have hsz2 := hB2'.size
  clear hmy hB1 hB2 hB3 hB2' hB3' hR1
  go_upto_region 5 with (first | (go_at_call 11; refine (scells_any hS).mono ?_; rintro e w' ⟨rfl, rfl⟩) | (go_at_call 16; refine (slocks_any hS).mono ?_; rintro e w' ⟨rfl, rfl⟩) | (go_at_call 26; refine HMY.out.mono ?_; rintro e w4 ⟨rfl, ⟨n4, rfl⟩⟩))
  have hS4 := hS.below (Quiet.below ⟨⟨n4, rfl⟩⟩ _)
  have hB4 := HB3.out.trans (Quiet.below ⟨⟨n4, rfl⟩⟩ _)
  have hlk := slock_any hS4 3 (by decide) (by rw [L3.out]; decide)
  have HLK := Lib.hid (show Calls Tryz.prog 27 #[.pointer (some ⟨q.r.p, 0, none⟩), .int .i64 3] (w3.drewN n4) fun e w' => e = .returned (.int .i64 0) ∧ Sx w2.heap.size w' q smallK ⟨66, true, 3, fun _ => none⟩ ((newS smallK awV).notes [⟨3, 8, 0⟩]) awG A O ∧ Below w2.heap.size (w3.drewN n4) w' from hlk)
  have HB4 := Lib.hid hB4
  clear hlk hS hB4 HMY
  go_upto_region 6 with (first | (go_at_call 16; refine (slocks_any hS4).mono ?_; rintro e w' ⟨rfl, rfl⟩) | (go_at_call 27; refine HLK.out.mono ?_; rintro e w5 ⟨rfl, hS5, hB5⟩))
  have HB5 := Lib.hid (HB4.out.trans (hB5.mono hsz2))
  have hs1 : awG.Small 1000000 := ⟨by decide, by decide, by decide, by decide⟩
  have hg5 := get_yes hS5 hs1 3 (fun _ => ⟨by decide, by decide⟩) (by show 0 < (newS smallK awV).plains.length; rw [L2.out]; decide) (by show (_ ++ _ : List Acc).length < trMax; rw [List.length_append, L3.out]; decide) ⟨rfl, rfl⟩
  have HG5 := Lib.hid hg5
  have HS5 := Lib.hid hS5
  clear hS4 hB5 hS5 hg5 HLK HB4
  go_upto_region 7 with (first | (go_at_call 28; refine HG5.out.mono ?_; rintro e w6 ⟨v1, v2, v3, v4, N6, rfl, n1, n2, hG6, hS6, hO6⟩) | (refine wpList_store_blk rfl 67 _ _ rfl w6.heap.size (gC awG v1 v2 v3 v4) (by rfl) (by rfl) gZ (Blk.new _ _ _) infoG rfl (gC_one _ hG6.gr.l.slice_one hG6.gr.d.slice_one hG6.gr.i.slice_one hG6.gr.t.slice_one) ?_))
  have HB6 := Lib.hid (HB5.out.trans ((HS5.out.up hO6).mono hsz2))
  obtain ⟨W6, hW6⟩ : ∃ W6, (w6.alloc (.cells #[.slice none 0 0, .slice none 0 0, .int .i64 0, .int .u64 0, .int .i64 0, .int .i64 0, .slice none 0 0, .int .u64 0, .int .u64 0, .slice none 0 0, .bool false] 67)).setRow w6.heap.size (gC awG v1 v2 v3 v4).toArray = W6 := ⟨_, rfl⟩
  have k6 : Blk W6 w6.heap.size 67 (gC awG v1 v2 v3 v4) := by rw [← hW6]; exact (Blk.new w6 _ gZ).setRow _
  have hsz6 : W6.heap.size = w6.heap.size + 1 := by rw [← hW6, setRow_size]; simp
  have hB66 : Below w6.heap.size w6 W6 := by rw [← hW6]; exact below_setRow ((Below.refl _ _).alloc (Nat.le_refl _) _) (Nat.le_refl _) _
  have hS6v := hS6.var (.cells #[.slice none 0 0, .slice none 0 0, .int .i64 0, .int .u64 0, .int .i64 0, .int .i64 0, .slice none 0 0, .int .u64 0, .int .u64 0, .slice none 0 0, .bool false] 67) (gC awG v1 v2 v3 v4).toArray
  rw [hW6] at hS6v
  rw [hW6]
  have hG6v := hG6.keep fun k _ h2 => hB66.block k h2
  have hg7 := get_no hS6v hs1 2 (fun _ => ⟨by decide, by decide⟩) (by show 0 < (newS smallK awV).plains.length; rw [L2.out]; decide) (by show ((_ ++ _ : List Acc) ++ _).length < trMax; rw [List.length_append, List.length_append, L3.out]; decide) (fun h => absurd h.2 (by decide))
  have HG7 := Lib.hid hg7
  have HS6 := Lib.hid hS6v
  have HG6 := Lib.hid hG6v
  have HB66 := Lib.hid hB66
  clear hW6 hS6v hg7 hS6 hG6 hG6v HG5 HS5 hO6 HB5 hB66
  go_upto_region 8 with (first | (go_at_call 28; refine HG7.out.mono ?_; rintro e w7 ⟨u1, u2, u3, u4, N7, rfl, n3, n4, hG7, hS7, hO7⟩) | (refine wpList_store_blk rfl 67 _ _ rfl w7.heap.size (gC gz u1 u2 u3 u4) (by rfl) (by rfl) gZ (Blk.new _ _ _) infoG rfl (gC_one _ hG7.gr.l.slice_one hG7.gr.d.slice_one hG7.gr.i.slice_one hG7.gr.t.slice_one) ?_))
  obtain ⟨W7, hW7⟩ : ∃ W7, (w7.alloc (.cells #[.slice none 0 0, .slice none 0 0, .int .i64 0, .int .u64 0, .int .i64 0, .int .i64 0, .slice none 0 0, .int .u64 0, .int .u64 0, .slice none 0 0, .bool false] 67)).setRow w7.heap.size (gC gz u1 u2 u3 u4).toArray = W7 := ⟨_, rfl⟩
  have hsz7 : W7.heap.size = w7.heap.size + 1 := by rw [← hW7, setRow_size]; simp
  have hB77 : Below w7.heap.size w7 W7 := by rw [← hW7]; exact below_setRow ((Below.refl _ _).alloc (Nat.le_refl _) _) (Nat.le_refl _) _
  have hS7v := hS7.var (.cells #[.slice none 0 0, .slice none 0 0, .int .i64 0, .int .u64 0, .int .i64 0, .int .i64 0, .slice none 0 0, .int .u64 0, .int .u64 0, .slice none 0 0, .bool false] 67) (gC gz u1 u2 u3 u4).toArray
  rw [hW7] at hS7v
  rw [hW7]
  have hs67 := hO7.size
  have hst : ∀ k, N6 ≤ k → k < W6.heap.size → W7.heap[k]? = W6.heap[k]? := fun k h1 h2 => (hB77.block k (by omega)).trans (hO7.block k h2 (fun h => by have := h.1.2; have := h.2; omega))
  have k7 : Blk W7 w6.heap.size 67 (gC awG v1 v2 v3 v4) := k6.keep (hst _ n2 k6.lt)
  have hG7v : GH W7 awG v1 v2 v3 v4 N6 := HG6.out.keep hst
  have HB7 := Lib.hid (((HB6.out.trans (HB66.out.mono (by have := HB6.out.size; omega))).trans ((HS6.out.up hO7).mono hsz2)).trans (hB77.mono (by have := HB6.out.size; omega)))
  have hrt := rotate_any hG7v.gr hs1 6 (by decide) (by decide)
  rw [awR_eq] at hrt
  have HRT := Lib.hid hrt
  have HS7 := Lib.hid hS7v
  have HG7 := Lib.hid hG7v
  clear hW7 hst k6 hO7 hS7 hS7v HS6 HG6 hrt hG7v hG7 hB77 HB66
  go_upto_region 9 with (first | (refine wpList_load_blk rfl 67 _ rfl w6.heap.size (by rfl) (gC awG v1 v2 v3 v4) k7 _ Tryz.underlying67 rfl infoG ?_) | (go_at_call 29; refine HRT.out.mono ?_; rintro e w8 ⟨r1, r2, r3, r4, rfl, hG8, hB8⟩) | (refine wpList_store_blk rfl 67 _ _ rfl w8.heap.size (gC awR r1 r2 r3 r4) (by rfl) (by rfl) gZ (Blk.new _ _ _) infoG rfl (gC_one _ hG8.gr.l.slice_one hG8.gr.d.slice_one hG8.gr.i.slice_one hG8.gr.t.slice_one) ?_))
  obtain ⟨W8, hW8⟩ : ∃ W8, (w8.alloc (.cells #[.slice none 0 0, .slice none 0 0, .int .i64 0, .int .u64 0, .int .i64 0, .int .i64 0, .slice none 0 0, .int .u64 0, .int .u64 0, .slice none 0 0, .bool false] 67)).setRow w8.heap.size (gC awR r1 r2 r3 r4).toArray = W8 := ⟨_, rfl⟩
  have hsz8 : W8.heap.size = w8.heap.size + 1 := by rw [← hW8, setRow_size]; simp
  have k8 : Blk W8 w8.heap.size 67 (gC awR r1 r2 r3 r4) := by rw [← hW8]; exact (Blk.new w8 _ gZ).setRow _
  have hB88 : Below w8.heap.size w8 W8 := by rw [← hW8]; exact below_setRow ((Below.refl _ _).alloc (Nat.le_refl _) _) (Nat.le_refl _) _
  have hG8v : GH W8 awR r1 r2 r3 r4 W7.heap.size := hG8.keep fun k _ h2 => hB88.block k h2
  have hr8 : W7.heap.size ≤ w8.heap.size := hB8.size
  have hB78 : Below W7.heap.size W7 W8 := hB8.trans (hB88.mono hB8.size)
  have hS8 := HS7.out.aside hB78
  rw [hW8]
  have HB8 := Lib.hid (HB7.out.trans (hB78.mono HB7.out.size))
  have k78 := k7.keep (hB78.block _ k7.lt)
  have HS8 := Lib.hid hS8
  have HG8 := Lib.hid hG8v
  have hsz78 := hB78.size
  have hne8 : W8.heap.size ≠ w8.heap.size := by omega
  have Z6 := Lib.hid hsz6
  have Z7 := Lib.hid hsz7
  have Z8 := Lib.hid hsz8
  clear hW8 hS8 HS7 HRT HG7 hG8 hG8v hB8 hB88 hB78 HB7 k7 hsz6 hsz7 hsz8
  try simp only [Act.put, List.getElem_toArray, List.getElem_cons_zero, List.getElem_cons_succ, List.setIfInBounds_toArray, List.set_cons_succ, List.set_cons_zero]
  go_cut [11] (fun s11 wx => ∃ b i1 i2 i3 i4, s11 = .pointer (some ⟨b, 0, none⟩) ∧ W8.heap.size ≤ b ∧ AwI W8 wx b i1 i2 i3 i4)
  case first =>
    have z0 := k8.cell 0 rfl
    have z1 := k8.cell 1 rfl
    have z2 := k8.cell 2 rfl
    have z3 := k8.cell 3 rfl
    have z4 := k8.cell 4 rfl
    have z5 := k8.cell 5 rfl
    have z6 := k8.cell 6 rfl
    have z7 := k8.cell 7 rfl
    have z8 := k8.cell 8 rfl
    have z9 := k8.cell 9 rfl
    have z10 := k8.cell 10 rfl
    have hmt : ∀ W, Calls Tryz.prog 31 #[.int .u64 5] W fun e w' => e = .returned (.agg #[.int .u64 5, .int .u64 9, .string ⟨#[97]⟩, .string ⟨#[98]⟩]) ∧ Below W.heap.size W w' := fun W => meta22 W 5
    have hin : ∀ W, Below W8.heap.size W8 W → Calls Tryz.prog 30 #[.agg (gC awR r1 r2 r3 r4).toArray, .agg #[.int .u64 5, .int .u64 9, .string ⟨#[97]⟩, .string ⟨#[98]⟩]] W fun e w' => ∃ sl' sd' si' st', e = .returned (.agg #[sl', sd', .int .i64 awI.group, .int .u64 awI.last, .int .i64 awI.bad, .int .i64 awI.mem, si', .int .u64 awI.log, .int .u64 awI.next, st', .bool awI.closed]) ∧ GH w' awI sl' sd' si' st' W.heap.size ∧ Below W.heap.size W w' := fun W hW => by
      have h := install_any (HG8.out.keep fun k _ h2 => hW.block k h2).gr ⟨by decide, by decide, by decide, by decide⟩ mt5
      rw [awI_eq] at h
      exact h
    have HMT := Lib.hid hmt
    have HIN := Lib.hid hin
    clear hmt hin
    have kn := k8.lt
    go_region_held3 (fun w' => w'.cell? ⟨w8.heap.size, 0, none⟩ = some (r1) ∧ w'.cell? ⟨w8.heap.size, 1, none⟩ = some (r2) ∧ w'.cell? ⟨w8.heap.size, 2, none⟩ = some (.int .i64 awR.group) ∧ w'.cell? ⟨w8.heap.size, 3, none⟩ = some (.int .u64 awR.last) ∧ w'.cell? ⟨w8.heap.size, 4, none⟩ = some (.int .i64 awR.bad) ∧ w'.cell? ⟨w8.heap.size, 5, none⟩ = some (.int .i64 awR.mem) ∧ w'.cell? ⟨w8.heap.size, 6, none⟩ = some (r3) ∧ w'.cell? ⟨w8.heap.size, 7, none⟩ = some (.int .u64 awR.log) ∧ w'.cell? ⟨w8.heap.size, 8, none⟩ = some (.int .u64 awR.next) ∧ w'.cell? ⟨w8.heap.size, 9, none⟩ = some (r4) ∧ w'.cell? ⟨w8.heap.size, 10, none⟩ = some (.bool awR.closed)) (go_keep) (first
      | (go_at_call 31; refine (HMT.out _).mono ?_; rintro e wm ⟨rfl, hBm⟩; have m8 : Blk wm w8.heap.size 67 (gC awR r1 r2 r3 r4) := (by first | exact k8.keep (hBm.block _ k8.lt) | exact (k8.alloc _).keep (hBm.block _ (k8.alloc _).lt)); have hBm8 : Below W8.heap.size W8 wm := (by first | exact (Below.refl _ W8).drew.trans hBm | exact ((Below.refl _ W8).drew.alloc (Nat.le_refl _) _).trans (hBm.mono (by simp))); have y0 := m8.cell 0 rfl; have y1 := m8.cell 1 rfl; have y2 := m8.cell 2 rfl; have y3 := m8.cell 3 rfl; have y4 := m8.cell 4 rfl; have y5 := m8.cell 5 rfl; have y6 := m8.cell 6 rfl; have y7 := m8.cell 7 rfl; have y8 := m8.cell 8 rfl; have y9 := m8.cell 9 rfl; have y10 := m8.cell 10 rfl)
      | (go_at_call 30; refine (HIN.out _ (by first | exact hBm8 | exact hBm8.alloc hBm8.size _)).mono ?_; rintro e w9 ⟨i1, i2, i3, i4, rfl, hG9, hB9⟩; obtain ⟨j1, d1, rfl⟩ := hG9.gr.l.slice; obtain ⟨j2, d2, rfl⟩ := hG9.gr.d.slice; obtain ⟨j3, d3, rfl⟩ := hG9.gr.i.slice; obtain ⟨j4, d4, rfl⟩ := hG9.gr.t.slice; have m9 : Blk w9 w8.heap.size 67 (gC awR r1 r2 r3 r4) := (by first | exact m8.keep (hB9.block _ m8.lt) | exact (m8.alloc _).keep (hB9.block _ (m8.alloc _).lt)); have x0 := m9.cell 0 rfl; have x1 := m9.cell 1 rfl; have x2 := m9.cell 2 rfl; have x3 := m9.cell 3 rfl; have x4 := m9.cell 4 rfl; have x5 := m9.cell 5 rfl; have x6 := m9.cell 6 rfl; have x7 := m9.cell 7 rfl; have x8 := m9.cell 8 rfl; have x9 := m9.cell 9 rfl; have x10 := m9.cell 10 rfl; first | (have kb : Blk w9 W8.heap.size 67 gZ := ((Blk.new W8 67 gZ).drew.keep (hBm.block _ (Blk.new W8 67 gZ).drew.lt)).keep (hB9.block _ (Nat.lt_of_lt_of_le (Blk.new W8 67 gZ).drew.lt hBm.size)); have hne := hne8; have p0 := kb.cell 0 rfl; have p1 := kb.cell 1 rfl; have p2 := kb.cell 2 rfl; have p3 := kb.cell 3 rfl; have p4 := kb.cell 4 rfl; have p5 := kb.cell 5 rfl; have p6 := kb.cell 6 rfl; have p7 := kb.cell 7 rfl; have p8 := kb.cell 8 rfl; have p9 := kb.cell 9 rfl; have p10 := kb.cell 10 rfl; have q0 := kb.frozen 0; have q1 := kb.frozen 1; have q2 := kb.frozen 2; have q3 := kb.frozen 3; have q4 := kb.frozen 4; have q5 := kb.frozen 5; have q6 := kb.frozen 6; have q7 := kb.frozen 7; have q8 := kb.frozen 8; have q9 := kb.frozen 9; have q10 := kb.frozen 10) | (have kb : Blk w9 W8.heap.size 67 gZ := ((Blk.new W8.drew 67 gZ).keep (hBm.block _ (Blk.new W8.drew 67 gZ).lt)).keep (hB9.block _ (Nat.lt_of_lt_of_le (Blk.new W8.drew 67 gZ).lt hBm.size)); have hne := hne8; have p0 := kb.cell 0 rfl; have p1 := kb.cell 1 rfl; have p2 := kb.cell 2 rfl; have p3 := kb.cell 3 rfl; have p4 := kb.cell 4 rfl; have p5 := kb.cell 5 rfl; have p6 := kb.cell 6 rfl; have p7 := kb.cell 7 rfl; have p8 := kb.cell 8 rfl; have p9 := kb.cell 9 rfl; have p10 := kb.cell 10 rfl; have q0 := kb.frozen 0; have q1 := kb.frozen 1; have q2 := kb.frozen 2; have q3 := kb.frozen 3; have q4 := kb.frozen 4; have q5 := kb.frozen 5; have q6 := kb.frozen 6; have q7 := kb.frozen 7; have q8 := kb.frozen 8; have q9 := kb.frozen 9; have q10 := kb.frozen 10) | (have kb := (Blk.new wm 67 gZ).keep (hB9.block _ (Blk.new wm 67 gZ).lt); have hne : wm.heap.size ≠ w8.heap.size := (by have := hBm8.size; omega); have p0 := kb.cell 0 rfl; have p1 := kb.cell 1 rfl; have p2 := kb.cell 2 rfl; have p3 := kb.cell 3 rfl; have p4 := kb.cell 4 rfl; have p5 := kb.cell 5 rfl; have p6 := kb.cell 6 rfl; have p7 := kb.cell 7 rfl; have p8 := kb.cell 8 rfl; have p9 := kb.cell 9 rfl; have p10 := kb.cell 10 rfl; have q0 := kb.frozen 0; have q1 := kb.frozen 1; have q2 := kb.frozen 2; have q3 := kb.frozen 3; have q4 := kb.frozen 4; have q5 := kb.frozen 5; have q6 := kb.frozen 6; have q7 := kb.frozen 7; have q8 := kb.frozen 8; have q9 := kb.frozen 9; have q10 := kb.frozen 10) | (have kb := Blk.new w9 67 [.slice none 0 0, .slice none 0 0, .int .i64 0, .int .u64 0, .int .i64 0, .int .i64 0, .slice none 0 0, .int .u64 0, .int .u64 0, .slice none 0 0, .bool false]; have hne : w9.heap.size ≠ w8.heap.size := (by have := hBm8.size; have := hB9.size; omega); have p0 := kb.cell 0 rfl; have p1 := kb.cell 1 rfl; have p2 := kb.cell 2 rfl; have p3 := kb.cell 3 rfl; have p4 := kb.cell 4 rfl; have p5 := kb.cell 5 rfl; have p6 := kb.cell 6 rfl; have p7 := kb.cell 7 rfl; have p8 := kb.cell 8 rfl; have p9 := kb.cell 9 rfl; have p10 := kb.cell 10 rfl; have q0 := kb.frozen 0; have q1 := kb.frozen 1; have q2 := kb.frozen 2; have q3 := kb.frozen 3; have q4 := kb.frozen 4; have q5 := kb.frozen 5; have q6 := kb.frozen 6; have q7 := kb.frozen 7; have q8 := kb.frozen 8; have q9 := kb.frozen 9; have q10 := kb.frozen 10)))
    all_goals go_wp2_with fail
    all_goals go_meet
    all_goals have h8s := hBm8.size
    all_goals have h9s := hB9.size
    · refine ⟨w9.heap.size, (.slice j1 awI.l.length d1), (.slice j2 awI.done.length d2), (.slice j3 awI.imms.length d3), (.slice j4 awI.tables.length d4), rfl, Nat.le_trans h8s h9s, ⟨Blk.new w9 67 (gC awI (.slice j1 awI.l.length d1)  (.slice j2 awI.done.length d2)  (.slice j3 awI.imms.length d3)  (.slice j4 awI.tables.length d4)), (hG9.keep fun k h1 h2 => Below.heap_alloc _ _ _ h2).lower (by omega), (hBm8.trans (hB9.mono h8s)).alloc (Nat.le_trans h8s h9s) _⟩⟩
    · refine ⟨wm.heap.size, (.slice j1 awI.l.length d1), (.slice j2 awI.done.length d2), (.slice j3 awI.imms.length d3), (.slice j4 awI.tables.length d4), rfl, h8s, ?_⟩
      have hX : AwI W8 (w9.setCells wm.heap.size 0 (gC awI (.slice j1 awI.l.length d1)  (.slice j2 awI.done.length d2)  (.slice j3 awI.imms.length d3)  (.slice j4 awI.tables.length d4))) wm.heap.size (.slice j1 awI.l.length d1)  (.slice j2 awI.done.length d2)  (.slice j3 awI.imms.length d3)  (.slice j4 awI.tables.length d4) := ⟨kb.many (gC awI (.slice j1 awI.l.length d1)  (.slice j2 awI.done.length d2)  (.slice j3 awI.imms.length d3)  (.slice j4 awI.tables.length d4)) 0, (hG9.keep fun k h1 h2 => heap_many wm.heap.size (gC awI (.slice j1 awI.l.length d1)  (.slice j2 awI.done.length d2)  (.slice j3 awI.imms.length d3)  (.slice j4 awI.tables.length d4)) 0 w9 (by simp at h1; omega)).lower (by simp; omega), Below.many h8s (gC awI (.slice j1 awI.l.length d1)  (.slice j2 awI.done.length d2)  (.slice j3 awI.imms.length d3)  (.slice j4 awI.tables.length d4)) 0 ((hBm8.alloc h8s _).trans (hB9.mono (by simp; omega)))⟩
      exact hX
    · refine ⟨W8.heap.size, (.slice j1 awI.l.length d1), (.slice j2 awI.done.length d2), (.slice j3 awI.imms.length d3), (.slice j4 awI.tables.length d4), rfl, Nat.le_refl _, ?_⟩
      have hms : W8.heap.size + 1 ≤ wm.heap.size := by have := hBm.size; simpa using this
      have hX : AwI W8 (w9.setCells W8.heap.size 0 (gC awI (.slice j1 awI.l.length d1)  (.slice j2 awI.done.length d2)  (.slice j3 awI.imms.length d3)  (.slice j4 awI.tables.length d4))) W8.heap.size (.slice j1 awI.l.length d1)  (.slice j2 awI.done.length d2)  (.slice j3 awI.imms.length d3)  (.slice j4 awI.tables.length d4) := ⟨kb.many (gC awI (.slice j1 awI.l.length d1)  (.slice j2 awI.done.length d2)  (.slice j3 awI.imms.length d3)  (.slice j4 awI.tables.length d4)) 0, (hG9.keep fun k h1 h2 => heap_many W8.heap.size (gC awI (.slice j1 awI.l.length d1)  (.slice j2 awI.done.length d2)  (.slice j3 awI.imms.length d3)  (.slice j4 awI.tables.length d4)) 0 w9 (by omega)).lower (by omega), Below.many (Nat.le_refl _) (gC awI (.slice j1 awI.l.length d1)  (.slice j2 awI.done.length d2)  (.slice j3 awI.imms.length d3)  (.slice j4 awI.tables.length d4)) 0 (hBm8.trans (hB9.mono h8s))⟩
      exact hX
  case rest =>
    obtain ⟨b, i1, i2, i3, i4, rfl, hbb, hI⟩ := hcut
    have hS9 := HS8.out.aside hI.below
    have hld := load_to hS9.cells hS9.fresh (by show ((_ ++ _ : List Acc) ++ _).length < trMax; rw [List.length_append, List.length_append, L3.out]; decide) 0 0 (by show okAt (newS smallK awV).atomics.length 0 0 = true; rw [L1.out]; decide) 7 _ awS_at rfl
    have HLD := Lib.hid hld
    have HS9 := Lib.hid hS9
    have HI := Lib.hid hI
    clear hS9 hld hI HS8
    go_upto_region 11 with (first | (go_at_call 11; refine (scells_any HS9.out).mono ?_; rintro e w' ⟨rfl, rfl⟩) | (go_at_call 12; refine HLD.out.mono ?_; rintro e w10 ⟨rfl, hC10, hO10⟩))
    have hS10 := HS9.out.mem hC10 hO10 (by simp [Mem.note])
    have hsc := HI.out.below.size
    have hkp : ∀ k, W7.heap.size ≤ k → k < wc.heap.size → w10.heap[k]? = wc.heap[k]? := fun k h1 h2 => hO10.block k h2 (fun h => by
      have a1 := h.1.2
      have a2 := h.2
      omega)
    have kg : Blk w10 w6.heap.size 67 (gC awG v1 v2 v3 v4) := (k78.keep (HI.out.below.block _ k78.lt)).keep (hO10.block _ (Nat.lt_of_lt_of_le k78.lt hsc) (fun h => h.1.1.1.1.2 rfl))
    have kr : Blk w10 w8.heap.size 67 (gC awR r1 r2 r3 r4) := (k8.keep (HI.out.below.block _ k8.lt)).keep (hkp _ hr8 (Nat.lt_of_lt_of_le k8.lt hsc))
    have ki : Blk w10 b 67 (gC awI i1 i2 i3 i4) := HI.out.main.keep (hkp _ (by omega) HI.out.main.lt)
    have hGr : GH w10 awR r1 r2 r3 r4 W7.heap.size := (HG8.out.keep fun k h1 h2 => HI.out.below.block k h2).keep hkp
    have hGi : GH w10 awI i1 i2 i3 i4 W8.heap.size := HI.out.gh.keep fun k h1 h2 => hkp k (by omega) h2
    have hB10 : Below w.heap.size w w10 := (HB8.out.trans (HI.out.below.mono HB8.out.size)).trans ((HS9.out.up hO10).mono hsz2)
    have sR : awR.Small 1000000 := ⟨by decide, by decide, by decide, by decide⟩
    have sI : awI.Small 1000000 := ⟨by decide, by decide, by decide, by decide⟩
    have cKr : ∀ W, Below w10.heap.size w10 W → Calls Tryz.prog 32 #[.agg #[r1, r2, .int .i64 0, .int .u64 7, .int .i64 0, .int .i64 1, r3, .int .u64 6, .int .u64 7, r4, .bool false]] W fun e w' => e = .returned (.int .u64 4) ∧ Below W.heap.size W w' := fun W hW => keep_any (hGr.keep fun k _ h2 => hW.block k h2).gr sR.i
    have cKi : ∀ W, Below w10.heap.size w10 W → Calls Tryz.prog 32 #[.agg #[i1, i2, .int .i64 0, .int .u64 7, .int .i64 0, .int .i64 1, i3, .int .u64 6, .int .u64 7, i4, .bool false]] W fun e w' => e = .returned (.int .u64 6) ∧ Below W.heap.size W w' := fun W hW => keep_any (hGi.keep fun k _ h2 => hW.block k h2).gr sI.i
    have cVr : ∀ W, Below w10.heap.size w10 W → Calls Tryz.prog 34 #[.agg #[r1, r2, .int .i64 0, .int .u64 7, .int .i64 0, .int .i64 1, r3, .int .u64 6, .int .u64 7, r4, .bool false]] W fun e w' => ∃ vm vt, e = .returned (.agg (vC vm vt).toArray) ∧ VR w' ⟨[1, 0], []⟩ vm vt ∧ Below W.heap.size W w' := fun W hW => (view_any (hGr.keep fun k _ h2 => hW.block k h2).gr sR).mono (by rintro e w' ⟨vm, vt, rfl, hv, hb⟩; exact ⟨vm, vt, rfl, hv.vr, hb⟩)
    have cVi : ∀ W, Below w10.heap.size w10 W → Calls Tryz.prog 34 #[.agg #[i1, i2, .int .i64 0, .int .u64 7, .int .i64 0, .int .i64 1, i3, .int .u64 6, .int .u64 7, i4, .bool false]] W fun e w' => ∃ vm vt, e = .returned (.agg (vC vm vt).toArray) ∧ VR w' ⟨[1], [mt5]⟩ vm vt ∧ Below W.heap.size W w' := fun W hW => (view_any (hGi.keep fun k _ h2 => hW.block k h2).gr sI).mono (by rintro e w' ⟨vm, vt, rfl, hv, hb⟩; exact ⟨vm, vt, rfl, hv.vr, hb⟩)
    have cH : ∀ W, Below w10.heap.size w10 W → Calls Tryz.prog 7 #[.pointer (some ⟨q.p, 0, none⟩), .int .u64 1] W fun e w' => e = .returned (.int .i64 2) ∧ Quiet W w' := fun W hW => sheight_any (hS10.below hW) (HT.out.below (hB10.trans (hW.mono hB10.size)) HT.out.lt) (by decide) (by decide) 1 (by decide) (by decide)
    have CKR := Lib.hid cKr
    have CKI := Lib.hid cKi
    have CVR := Lib.hid cVr
    have CVI := Lib.hid cVi
    have CH := Lib.hid cH
    have HB10 := Lib.hid hB10
    have kg5 := kg.cell 5 (v := .int .i64 0) rfl
    have kg7 := kg.cell 7 (v := .int .u64 4) rfl
    have kg8 := kg.cell 8 (v := .int .u64 5) rfl
    have kr0 := kr.cell 0 (v := r1) rfl
    have kr1 := kr.cell 1 (v := r2) rfl
    have kr2 := kr.cell 2 (v := .int .i64 0) rfl
    have kr3 := kr.cell 3 (v := .int .u64 7) rfl
    have kr4 := kr.cell 4 (v := .int .i64 0) rfl
    have kr5 := kr.cell 5 (v := .int .i64 1) rfl
    have kr6 := kr.cell 6 (v := r3) rfl
    have kr7 := kr.cell 7 (v := .int .u64 6) rfl
    have kr8 := kr.cell 8 (v := .int .u64 7) rfl
    have kr9 := kr.cell 9 (v := r4) rfl
    have kr10 := kr.cell 10 (v := .bool false) rfl
    have KI := Lib.hid ki
    have KR := Lib.hid kr
    clear cKr cKi cVr cVi cH hB10 hGr hGi kg ki kr hkp hS10 hC10 hO10 k8 k78 HI HS9 HLD HG8 HB8 HG7 hr8 sR sI hs1
    go_wp2_with (first
      | (go_at_call 7; refine (CH.out _ hB17).mono ?_; rintro e w18 ⟨rfl, ⟨n18, rfl⟩⟩) | (go_at_call 32; refine (CKI.out _ hB16).mono ?_; rintro e w17 ⟨rfl, hb17⟩; have hB17 := hB16.trans (hb17.mono hB16.size)) | (go_at_call 33; refine (lowView_same ⟨[1], [mt5]⟩ um ut (.slice (some ⟨w14.heap.size, 0, none⟩) 1 1) (.slice (some ⟨w15.heap.size, 0, none⟩) 1 1) (((hv14.below ((Below.refl _ _).alloc (Nat.le_refl _) _)).below hb15).below ((Below.refl _ _).alloc (Nat.le_refl _) _)) ⟨⟨rfl, .inr ⟨w14.heap.size, 0, 1, rfl, Nat.le_refl _, fun j u hu => by rw [Nat.zero_add]; exact (((Blk.new w14 3 [.int .i64 1]).keep (hb15.block _ (Blk.new w14 3 [.int .i64 1]).lt)).alloc _).cell j hu⟩⟩, ⟨rfl, .inr ⟨w15.heap.size, 0, 1, rfl, Nat.le_refl _, fun j u hu => by rw [Nat.zero_add]; exact (Blk.new w15 92 [.int .u64 5, .int .u64 9, .string ⟨#[97]⟩, .string ⟨#[98]⟩]).cell j hu⟩⟩⟩ (by decide) (by decide)).mono ?_; rintro e w16 ⟨rfl, hb16⟩; have hB16 := (hB15.alloc hB15.size (.cells #[.int .u64 5, .int .u64 9, .string ⟨#[97]⟩, .string ⟨#[98]⟩] 92)).trans (hb16.mono (by have := hB15.size; simp; omega)); have ni := KI.out.keep (hB16.block _ KI.out.lt); have ni0 := ni.cell 0 (v := i1) rfl; have ni1 := ni.cell 1 (v := i2) rfl; have ni2 := ni.cell 2 (v := .int .i64 0) rfl; have ni3 := ni.cell 3 (v := .int .u64 7) rfl; have ni4 := ni.cell 4 (v := .int .i64 0) rfl; have ni5 := ni.cell 5 (v := .int .i64 1) rfl; have ni6 := ni.cell 6 (v := i3) rfl; have ni7 := ni.cell 7 (v := .int .u64 6) rfl; have ni8 := ni.cell 8 (v := .int .u64 7) rfl; have ni9 := ni.cell 9 (v := i4) rfl; have ni10 := ni.cell 10 (v := .bool false) rfl) | (go_at_call 31; refine (meta22 _ _).mono ?_; rintro e w15 ⟨rfl, hb15⟩; have hB15 := (hB14.alloc hB14.size (.cells #[.int .i64 1] 3)).trans (hb15.mono (by have := hB14.size; simp; omega))) | (go_at_call 34; refine (CVI.out _ hB13).mono ?_; rintro e w14 ⟨um, ut, rfl, hv14, hb14⟩; have hB14 := hB13.trans (hb14.mono hB13.size)) | (go_at_call 33; refine (lowView_same ⟨[1, 0], []⟩ vm vt (.slice (some ⟨w12.heap.size, 0, none⟩) 2 2) (.slice none 0 0) (hv12.below ((Below.refl _ _).alloc (Nat.le_refl _) _)) ⟨⟨rfl, .inr ⟨w12.heap.size, 0, 2, rfl, Nat.le_refl _, fun j u hu => by rw [Nat.zero_add]; exact (Blk.new w12 3 [.int .i64 1, .int .i64 0]).cell j hu⟩⟩, ⟨rfl, .inl ⟨rfl, _, _, rfl⟩⟩⟩ (by decide) (by decide)).mono ?_; rintro e w13 ⟨rfl, hb13⟩; have hB13 := (hB12.alloc hB12.size (.cells #[.int .i64 1, .int .i64 0] 3)).trans (hb13.mono (by have := hB12.size; simp; omega)); have mi := KI.out.keep (hB13.block _ KI.out.lt); have mi0 := mi.cell 0 (v := i1) rfl; have mi1 := mi.cell 1 (v := i2) rfl; have mi2 := mi.cell 2 (v := .int .i64 0) rfl; have mi3 := mi.cell 3 (v := .int .u64 7) rfl; have mi4 := mi.cell 4 (v := .int .i64 0) rfl; have mi5 := mi.cell 5 (v := .int .i64 1) rfl; have mi6 := mi.cell 6 (v := i3) rfl; have mi7 := mi.cell 7 (v := .int .u64 6) rfl; have mi8 := mi.cell 8 (v := .int .u64 7) rfl; have mi9 := mi.cell 9 (v := i4) rfl; have mi10 := mi.cell 10 (v := .bool false) rfl) | (go_at_call 34; refine (CVR.out _ hB11).mono ?_; rintro e w12 ⟨vm, vt, rfl, hv12, hb12⟩; have hB12 := hB11.trans (hb12.mono hB11.size)) | (go_at_call 32; refine (CKR.out _ (Below.refl _ _)).mono ?_; rintro e w11 ⟨rfl, hB11⟩; have mr := KR.out.keep (hB11.block _ KR.out.lt); have mr0 := mr.cell 0 (v := r1) rfl; have mr1 := mr.cell 1 (v := r2) rfl; have mr2 := mr.cell 2 (v := .int .i64 0) rfl; have mr3 := mr.cell 3 (v := .int .u64 7) rfl; have mr4 := mr.cell 4 (v := .int .i64 0) rfl; have mr5 := mr.cell 5 (v := .int .i64 1) rfl; have mr6 := mr.cell 6 (v := r3) rfl; have mr7 := mr.cell 7 (v := .int .u64 6) rfl; have mr8 := mr.cell 8 (v := .int .u64 7) rfl; have mr9 := mr.cell 9 (v := r4) rfl; have mr10 := mr.cell 10 (v := .bool false) rfl))
    go_ret
    exact ⟨rfl, (HB10.out.trans (hB17.mono HB10.out.size)).trans (Quiet.below ⟨⟨n18, rfl⟩⟩ _)⟩
end Go.Proofs.YteiaifhnikknbaaGreatDoor
