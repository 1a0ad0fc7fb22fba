/- Law 22 StoreTells: the walk. -/
import Derived.Test.YteiaifhnikknbaaDoorTellsA
namespace Go.Proofs.YteiaifhnikknbaaDoor
open Go.RowKit

set_option maxRecDepth 100000 in
set_option maxHeartbeats 8000000 in
theorem storeTells (w : World) (hT : Tab w) (K : Cfg) (sh : Value) (hK : CfgArg w K sh) (V : Ver) (st0 : Value) (hV : VerArg w V st0) (log seq : Int) (hl : fits .u64 log) (hq : fits .u64 seq) (G : Gd) (sl sd si st : Value) (hG : GdArg w G sl sd si st) (M : Meta) (er : Int) :
    Calls Tryd.prog 4 #[.agg (cfC K sh).toArray, .agg (vrC V st0).toArray, .int .u64 log, .int .u64 seq, .agg (gC G sl sd si st).toArray, .agg (mtC M).toArray, .int .i64 er] w fun e w' => e = .returned (.bool true) ∧ Below w.heap.size w w' := by
  obtain ⟨ao, co, hsh⟩ := hK.reads.slice
  obtain ⟨nh, hnh⟩ : ∃ nh, K.heights.length = nh := ⟨_, rfl⟩
  rw [hnh] at hsh
  subst hsh
  obtain ⟨at0, ct0, hst⟩ := hV.reads.slice
  obtain ⟨nt, hnt⟩ : ∃ nt, V.tables.length = nt := ⟨_, rfl⟩
  rw [hnt] at hst
  subst hst
  obtain ⟨l1, c1, e1⟩ := hG.gr.l.slice
  obtain ⟨l2, c2, e2⟩ := hG.gr.d.slice
  obtain ⟨l3, c3, e3⟩ := hG.gr.i.slice
  obtain ⟨l4, c4, e4⟩ := hG.gr.t.slice
  obtain ⟨n1, hn1⟩ : ∃ n, G.l.length = n := ⟨_, rfl⟩
  obtain ⟨n2, hn2'⟩ : ∃ n, G.done.length = n := ⟨_, rfl⟩
  obtain ⟨n3, hn3⟩ : ∃ n, G.imms.length = n := ⟨_, rfl⟩
  obtain ⟨n4, hn4⟩ : ∃ n, G.tables.length = n := ⟨_, rfl⟩
  rw [hn1] at e1
  rw [hn2'] at e2
  rw [hn3] at e3
  rw [hn4] at e4
  subst e1
  subst e2
  subst e3
  subst e4
  clear hn1 hn2' hn3 hn4
  obtain ⟨W, hW, k1, k2, k3, k4, hBW⟩ := four_boxes w (cfC K (.slice ao nh co)) (vrC V (.slice at0 nt ct0)) (gC G (.slice l1 n1 c1) (.slice l2 n2 c2) (.slice l3 n3 c3) (.slice l4 n4 c4)) (mtC M) 49 51 31 37
  have haw : ∀ x, Below w.heap.size w x → Calls Tryd.prog 14 #[] x fun e w' => e = .returned (.bool true) ∧ Below w.heap.size w w' := fun x hx => (awake22 x (hT.below hx hT.lt)).mono fun e y ⟨he, hy⟩ => ⟨he, hx.trans (hy.mono hx.size)⟩
  have HAW := Lib.hid haw
  have HT := Lib.hid hT
  have HK := Lib.hid hK
  have HV := Lib.hid hV
  have HG := Lib.hid hG
  have HNH := Lib.hid hnh
  have HNT := Lib.hid hnt
  have lb := fits_u64 hl
  have qb := fits_u64 hq
  have hfl : Calls Tryd.prog 15 #[.agg #[.slice l1 n1 c1, .slice l2 n2 c2, .int .i64 G.group, .int .u64 G.last, .int .i64 G.bad, .int .i64 G.mem, .slice l3 n3 c3, .int .u64 G.log, .int .u64 G.next, .slice l4 n4 c4, .bool G.closed]] W fun e w' => e = .returned (.bool (fewB G)) ∧ Below W.heap.size W w' := few_any (hG.gr.below hBW)
  have hntm : nt ≤ 9223372036854775807 := by have := hV.max; unfold maxLen at this; omega
  clear haw hT hK hV hnh hnt hl hq
  clear hG
  have v0 := k2.cell 0 (v := .slice at0 nt ct0) rfl
  by_cases h20 : 20 < nt
  · have hn : (20 : Int) < (nt : Int) := by omega
    go_enter Tryd.func4, Tryd.ntmps4
    go_wp2_with (go_at_call 14; refine (HAW.out _ hBW).mono ?_; rintro e x ⟨rfl, hB⟩)
    go_ret
    exact ⟨rfl, hB⟩
  have hn : ¬ (20 : Int) < (nt : Int) := by omega
  have hn2 : (nt : Int) ≤ 20 := by omega
  have y0 := k3.cell 0 (v := .slice l1 n1 c1) rfl
  have y1 := k3.cell 1 (v := .slice l2 n2 c2) rfl
  have y2 := k3.cell 2 rfl
  have y3 := k3.cell 3 rfl
  have y4 := k3.cell 4 rfl
  have y5 := k3.cell 5 rfl
  have y6 := k3.cell 6 (v := .slice l3 n3 c3) rfl
  have y7 := k3.cell 7 rfl
  have y8 := k3.cell 8 rfl
  have y9 := k3.cell 9 (v := .slice l4 n4 c4) rfl
  have y10 := k3.cell 10 rfl
  by_cases hf : fewB G = false
  · rw [hf] at hfl
    have HF := Lib.hid hfl
    clear hfl hf k1 k2 k3 k4
    go_enter Tryd.func4, Tryd.ntmps4
    go_wp2_with (first | (go_at_call 15; refine HF.out.mono ?_; rintro e x1 ⟨rfl, hB1⟩) | (go_at_call 14; refine (HAW.out _ (hBW.trans (hB1.mono hBW.size))).mono ?_; rintro e x ⟨rfl, hB⟩))
    go_ret
    exact ⟨rfl, hB⟩
  have hf2 : fewB G = true := by simpa using hf
  rw [hf2] at hfl
  have HF := Lib.hid hfl
  have hS := fewB_small hf2
  clear hfl hf
  by_cases hlm : log = 18446744073709551615
  · subst hlm
    clear k1 k2 k3 k4 hf2 hS
    go_enter Tryd.func4, Tryd.ntmps4
    go_wp2_with (first | (go_at_call 15; refine HF.out.mono ?_; rintro e x1 ⟨rfl, hB1⟩) | (go_at_call 14; refine (HAW.out _ (hBW.trans (hB1.mono hBW.size))).mono ?_; rintro e x ⟨rfl, hB⟩))
    go_ret
    exact ⟨rfl, hB⟩
  have l0 : 0 ≤ log := lb.1
  have l1' : log < 18446744073709551615 := by omega
  have hlb : (log == 18446744073709551615) = false := by simp; exact hlm
  have HSM := Lib.hid hS
  have HS := Lib.hid (hS.mono (m := 1000000) (by decide))
  clear hlm lb hf2 hS
  go_enter Tryd.func4, Tryd.ntmps4
  go_upto_region 3 with (first | (go_at_call 15; refine HF.out.mono ?_; rintro e x1 ⟨rfl, hB1⟩))
  clear y0 y1 y2 y3 y4 y5 y6 y7 y8 y9 y10 v0 HF
  have hBx1 := hBW.trans (hB1.mono hBW.size)
  have j1 := k1.keep (hB1.block _ k1.lt)
  have j2 := k2.keep (hB1.block _ k2.lt)
  have j3 := k3.keep (hB1.block _ k3.lt)
  have j4 := k4.keep (hB1.block _ k4.lt)
  have han := anew_any (HG.out.gr.below hBx1) HS.out
  have HAN := Lib.hid han
  have HB1 := Lib.hid hBx1
  clear han hBx1 hB1 hBW k1 k2 k3 k4
  go_upto_region 4 with (first | (refine wpList_load_blk rfl 31 _ rfl (w.heap.size + 1 + 1) (by rfl) (gC G (.slice l1 n1 c1) (.slice l2 n2 c2) (.slice l3 n3 c3) (.slice l4 n4 c4)) j3 _ Tryd.underlying31 rfl infoG ?_) | (go_at_call 16; refine HAN.out.mono ?_; rintro e x2 ⟨tl, td, ti, tt, rfl, hO2, hB2⟩) | (refine wpList_store_blk rfl 31 _ _ rfl x2.heap.size (gC G tl td ti tt) (by rfl) (by rfl) gZ (Blk.new _ _ _) infoG rfl (gC_one _ hO2.l.slice_one hO2.d.slice_one hO2.i.slice_one hO2.t.slice_one) ?_))
  obtain ⟨W3, hW3⟩ : ∃ W3, (x2.alloc (.cells #[.slice none 0 0, .slice none 0 0, .int .i64 0, .int .u64 0, .int .i64 0, .int .i64 0, .slice none 0 0, .int .u64 0, .int .u64 0, .slice none 0 0, .bool false] 31)).setRow x2.heap.size (gC G tl td ti tt).toArray = W3 := ⟨_, rfl⟩
  have hB3 : Below x2.heap.size x2 W3 := by rw [← hW3]; exact below_setRow ((Below.refl _ _).alloc (Nat.le_refl _) _) (Nat.le_refl _) _
  have kw : Blk W3 x2.heap.size 31 (gC G tl td ti tt) := by rw [← hW3]; exact (Blk.new x2 31 gZ).setRow _
  have hB13 : Below x1.heap.size x1 W3 := hB2.trans (hB3.mono hB2.size)
  have t0' : TS w K (.slice ao nh co) V (.slice at0 nt ct0) G (.slice l1 n1 c1) (.slice l2 n2 c2) (.slice l3 n3 c3) (.slice l4 n4 c4) M x2.heap.size tl td ti tt W3 := ⟨j1.keep (hB13.block _ j1.lt), j2.keep (hB13.block _ j2.lt), j3.keep (hB13.block _ j3.lt), j4.keep (hB13.block _ j4.lt), kw, hO2.gr.below hB3, HB1.out.trans (hB13.mono HB1.out.size)⟩
  rw [hW3]
  have t0 := t0'.drew
  have HRT := Lib.hid (show ∀ x, Reads x 1 (.slice ao nh co) nh (u32s K.heights) → Calls Tryd.prog 17 #[.agg (cfC K (.slice ao nh co)).toArray] x fun e w' => e = .returned (.bool (rightB K)) ∧ Below x.heap.size x w' from fun x hr => right_any HK.out.wf (by rw [HNH.out]; exact hr))
  have HRR := Lib.hid (show ∀ x, Calls Tryd.prog 18 #[.agg (cfC K (.slice ao nh co)).toArray] x fun e w' => e = .returned (.bool (rightB K)) ∧ Below x.heap.size x w' from fun x => by have := refRight_any (w := x) HK.out.wf ao co; rwa [HNH.out] at this)
  have hrs : ∀ x, Below w.heap.size w x → Reads x 1 (.slice ao nh co) nh (u32s K.heights) := fun x hx => by have := HK.out.reads.below hx; rwa [HNH.out] at this
  have HRS := Lib.hid hrs
  have HVN := Lib.hid (viewG_small HSM.out)
  have HSR := Lib.hid (rotG_small HSM.out log)
  have HSI := Lib.hid (instG_small HSM.out M)
  have HSF := Lib.hid (failG_small HSM.out er)
  clear hW3 hB3 kw hB13 j1 j2 j3 j4 HAN HB1 hO2 hB2 hrs
  try simp only [Act.put, List.getElem_toArray, List.getElem_cons_zero, List.getElem_cons_succ, List.setIfInBounds_toArray, List.set_cons_zero, List.set_cons_succ]
  go_cut [94] (fun s94 wx => s94 = .bool false ∧ TS w K (.slice ao nh co) V (.slice at0 nt ct0) G (.slice l1 n1 c1) (.slice l2 n2 c2) (.slice l3 n3 c3) (.slice l4 n4 c4) M x2.heap.size tl td ti tt wx)
  case first =>
    clear t0'
    --H{
    refine wp_region_held_drew (S := (TS w K (.slice ao nh co) V (.slice at0 nt ct0) G (.slice l1 n1 c1) (.slice l2 n2 c2) (.slice l3 n3 c3) (.slice l4 n4 c4) M x2.heap.size tl td ti tt)) (by kernel_rfl) t0 (fun hHeld => ?_)
    refine wpAnyH_take (i := 0) (v := .agg (cfC K (.slice ao nh co)).toArray) rfl (by kernel_rfl) (by kernel_rfl) (by kernel_rfl) (fun _ _ _ h => h) (yieldsIf_load_blk (by kernel_rfl) 49 (.tmp 7) (by rfl) w.heap.size (by rfl) (cfC K (.slice ao nh co)) (fun w h => h.cfg) _ Tryd.underlying49 (by rfl) infoCf) (by assumption) ?_
    try simp only [Act.put, List.getElem_toArray, List.getElem_cons_zero, List.getElem_cons_succ, List.setIfInBounds_toArray, List.set_cons_zero, List.set_cons_succ]
    refine wpAnyH_take (i := 2) (v := .agg (cfC K (.slice ao nh co)).toArray) rfl (by kernel_rfl) (by kernel_rfl) (by kernel_rfl) (fun _ _ _ h => h) (yieldsIf_load_blk (by kernel_rfl) 49 (.tmp 7) (by rfl) w.heap.size (by rfl) (cfC K (.slice ao nh co)) (fun w h => h.cfg) _ Tryd.underlying49 (by rfl) infoCf) (by assumption) ?_
    try simp only [Act.put, List.getElem_toArray, List.getElem_cons_zero, List.getElem_cons_succ, List.setIfInBounds_toArray, List.set_cons_zero, List.set_cons_succ]
    refine wpAnyH_ready (rs := [1]) (by kernel_rfl) (by simp) ?_
    refine AllReadyH.cons rfl (fun KK hKK => ?_) AllReadyH.nil
    go_simp
    refine (HRT.out _ (HRS.out _ t0.below)).mono ?_
    rintro e z1 ⟨rfl, hB1⟩
    have t1 := t0.go hB1
    refine hKK.out _ _ t1 (fun hHeld1 => ?_)
    clear hKK KK hHeld
    try simp only [Act.put, List.getElem_toArray, List.getElem_cons_zero, List.getElem_cons_succ, List.setIfInBounds_toArray, List.set_cons_zero, List.set_cons_succ]
    clear t0
    refine wpAnyH_ready (rs := [3]) (by kernel_rfl) (by simp) ?_
    refine AllReadyH.cons rfl (fun KK hKK => ?_) AllReadyH.nil
    go_simp
    refine (HRR.out _).mono ?_
    rintro e z2 ⟨rfl, hB2⟩
    have t2 := t1.go hB2
    refine hKK.out _ _ t2 (fun hHeld2 => ?_)
    clear hKK KK hHeld1
    try simp only [Act.put, List.getElem_toArray, List.getElem_cons_zero, List.getElem_cons_succ, List.setIfInBounds_toArray, List.set_cons_zero, List.set_cons_succ]
    clear t1
    refine wpAnyH_take (i := 4) (v := .bool false) rfl (by kernel_rfl) (by kernel_rfl) (by kernel_rfl) (fun _ _ _ h => h) (Or.inl ⟨by kernel_rfl, ?_⟩) (by assumption) ?_
    · (intro w hSw; (try dsimp only at hSw); cases rightB K <;> (go_simp; try with_reducible rfl))
    try simp only [Act.put, List.getElem_toArray, List.getElem_cons_zero, List.getElem_cons_succ, List.setIfInBounds_toArray, List.set_cons_zero, List.set_cons_succ]
    refine wpAnyH_take (i := 5) (v := ?_) rfl (by kernel_rfl) (by kernel_rfl) (by kernel_rfl) (fun _ _ _ h => h) (Or.inl ⟨by kernel_rfl, ?_⟩) (by assumption) ?_
    rotate_left
    · (intro w hSw; (try dsimp only at hSw); go_simp; try with_reducible rfl)
    try simp only [Act.put, List.getElem_toArray, List.getElem_cons_zero, List.getElem_cons_succ, List.setIfInBounds_toArray, List.set_cons_zero, List.set_cons_succ]
    refine wpAnyH_take (i := 6) (v := .agg (gC G (.slice l1 n1 c1) (.slice l2 n2 c2) (.slice l3 n3 c3) (.slice l4 n4 c4)).toArray) rfl (by kernel_rfl) (by kernel_rfl) (by kernel_rfl) (fun _ _ _ h => h) (yieldsIf_load_blk (by kernel_rfl) 31 (.tmp 11) (by rfl) (w.heap.size + 1 + 1) (by rfl) (gC G (.slice l1 n1 c1) (.slice l2 n2 c2) (.slice l3 n3 c3) (.slice l4 n4 c4)) (fun w h => h.gd) _ Tryd.underlying31 (by rfl) infoG) (by assumption) ?_
    try simp only [Act.put, List.getElem_toArray, List.getElem_cons_zero, List.getElem_cons_succ, List.setIfInBounds_toArray, List.set_cons_zero, List.set_cons_succ]
    refine wpAnyH_take (i := 8) (v := .agg (gC G (.slice l1 n1 c1) (.slice l2 n2 c2) (.slice l3 n3 c3) (.slice l4 n4 c4)).toArray) rfl (by kernel_rfl) (by kernel_rfl) (by kernel_rfl) (fun _ _ _ h => h) (yieldsIf_load_blk (by kernel_rfl) 31 (.tmp 11) (by rfl) (w.heap.size + 1 + 1) (by rfl) (gC G (.slice l1 n1 c1) (.slice l2 n2 c2) (.slice l3 n3 c3) (.slice l4 n4 c4)) (fun w h => h.gd) _ Tryd.underlying31 (by rfl) infoG) (by assumption) ?_
    try simp only [Act.put, List.getElem_toArray, List.getElem_cons_zero, List.getElem_cons_succ, List.setIfInBounds_toArray, List.set_cons_zero, List.set_cons_succ]
    refine wpAnyH_ready (rs := [7]) (by kernel_rfl) (by simp) ?_
    refine AllReadyH.cons rfl (fun KK hKK => ?_) AllReadyH.nil
    go_simp
    refine (view_any (t2.gr HG.out) HS.out).mono ?_
    rintro e z3 ⟨vm3, vt3, rfl, hO3, hB3⟩
    have t3 := t2.go hB3
    refine hKK.out _ _ t3 (fun hHeld3 => ?_)
    clear hKK KK hHeld2
    try simp only [Act.put, List.getElem_toArray, List.getElem_cons_zero, List.getElem_cons_succ, List.setIfInBounds_toArray, List.set_cons_zero, List.set_cons_succ]
    clear t2
    refine wpAnyH_ready (rs := [9]) (by kernel_rfl) (by simp) ?_
    refine AllReadyH.cons rfl (fun KK hKK => ?_) AllReadyH.nil
    go_simp
    refine (refView_any (t3.gr HG.out) HS.out).mono ?_
    rintro e z4 ⟨vm4, vt4, rfl, hV4, hB4⟩
    have t4 := t3.go hB4
    refine hKK.out _ _ t4 (fun hHeld4 => ?_)
    clear hKK KK hHeld3
    try simp only [Act.put, List.getElem_toArray, List.getElem_cons_zero, List.getElem_cons_succ, List.setIfInBounds_toArray, List.set_cons_zero, List.set_cons_succ]
    clear t3
    have hO4 := hO3.vr.below hB4
    refine wpAnyH_ready (rs := [10]) (by kernel_rfl) (by simp) ?_
    refine AllReadyH.cons rfl (fun KK hKK => ?_) AllReadyH.nil
    go_simp
    refine (lowView_same (viewG G) _ _ _ _ hO4 hV4 HVN.out.1 HVN.out.2).mono ?_
    rintro e z5 ⟨rfl, hB5⟩
    have t5 := t4.go hB5
    refine hKK.out _ _ t5 (fun hHeld5 => ?_)
    clear hKK KK hHeld4
    try simp only [Act.put, List.getElem_toArray, List.getElem_cons_zero, List.getElem_cons_succ, List.setIfInBounds_toArray, List.set_cons_zero, List.set_cons_succ]
    clear t4
    clear hO3 hO4 hV4 hB4
    refine wpAnyH_take (i := 11) (v := ?_) rfl (by kernel_rfl) (by kernel_rfl) (by kernel_rfl) (fun _ _ _ h => h) (Or.inl ⟨by kernel_rfl, ?_⟩) (by assumption) ?_
    rotate_left
    · (intro w hSw; (try dsimp only at hSw); go_simp; try with_reducible rfl)
    try simp only [Act.put, List.getElem_toArray, List.getElem_cons_zero, List.getElem_cons_succ, List.setIfInBounds_toArray, List.set_cons_zero, List.set_cons_succ]
    refine wpAnyH_take (i := 12) (v := ?_) rfl (by kernel_rfl) (by kernel_rfl) (by kernel_rfl) (fun _ _ _ h => h) (Or.inl ⟨by kernel_rfl, ?_⟩) (by assumption) ?_
    rotate_left
    · (intro w hSw; (try dsimp only at hSw); go_simp; try with_reducible rfl)
    try simp only [Act.put, List.getElem_toArray, List.getElem_cons_zero, List.getElem_cons_succ, List.setIfInBounds_toArray, List.set_cons_zero, List.set_cons_succ]
    refine wpAnyH_take (i := 13) (v := ?_) rfl (by kernel_rfl) (by kernel_rfl) (by kernel_rfl) (fun _ _ _ h => h) (Or.inl ⟨by kernel_rfl, ?_⟩) (by assumption) ?_
    rotate_left
    · (intro w hSw; (try dsimp only at hSw); go_simp; try with_reducible rfl)
    try simp only [Act.put, List.getElem_toArray, List.getElem_cons_zero, List.getElem_cons_succ, List.setIfInBounds_toArray, List.set_cons_zero, List.set_cons_succ]
    refine wpAnyH_take (i := 14) (v := .agg (gC G (.slice l1 n1 c1) (.slice l2 n2 c2) (.slice l3 n3 c3) (.slice l4 n4 c4)).toArray) rfl (by kernel_rfl) (by kernel_rfl) (by kernel_rfl) (fun _ _ _ h => h) (yieldsIf_load_blk (by kernel_rfl) 31 (.tmp 11) (by rfl) (w.heap.size + 1 + 1) (by rfl) (gC G (.slice l1 n1 c1) (.slice l2 n2 c2) (.slice l3 n3 c3) (.slice l4 n4 c4)) (fun w h => h.gd) _ Tryd.underlying31 (by rfl) infoG) (by assumption) ?_
    try simp only [Act.put, List.getElem_toArray, List.getElem_cons_zero, List.getElem_cons_succ, List.setIfInBounds_toArray, List.set_cons_zero, List.set_cons_succ]
    refine wpAnyH_take (i := 15) (v := ?_) rfl (by kernel_rfl) (by kernel_rfl) (by kernel_rfl) (fun _ _ _ h => h) (Or.inl ⟨by kernel_rfl, ?_⟩) (by assumption) ?_
    rotate_left
    · (intro w hSw; (try dsimp only at hSw); go_simp; try with_reducible rfl)
    try simp only [Act.put, List.getElem_toArray, List.getElem_cons_zero, List.getElem_cons_succ, List.setIfInBounds_toArray, List.set_cons_zero, List.set_cons_succ]
    refine wpAnyH_take (i := 17) (v := .agg (gC G (.slice l1 n1 c1) (.slice l2 n2 c2) (.slice l3 n3 c3) (.slice l4 n4 c4)).toArray) rfl (by kernel_rfl) (by kernel_rfl) (by kernel_rfl) (fun _ _ _ h => h) (yieldsIf_load_blk (by kernel_rfl) 31 (.tmp 11) (by rfl) (w.heap.size + 1 + 1) (by rfl) (gC G (.slice l1 n1 c1) (.slice l2 n2 c2) (.slice l3 n3 c3) (.slice l4 n4 c4)) (fun w h => h.gd) _ Tryd.underlying31 (by rfl) infoG) (by assumption) ?_
    try simp only [Act.put, List.getElem_toArray, List.getElem_cons_zero, List.getElem_cons_succ, List.setIfInBounds_toArray, List.set_cons_zero, List.set_cons_succ]
    refine wpAnyH_take (i := 18) (v := ?_) rfl (by kernel_rfl) (by kernel_rfl) (by kernel_rfl) (fun _ _ _ h => h) (Or.inl ⟨by kernel_rfl, ?_⟩) (by assumption) ?_
    rotate_left
    · (intro w hSw; (try dsimp only at hSw); go_simp; try with_reducible rfl)
    try simp only [Act.put, List.getElem_toArray, List.getElem_cons_zero, List.getElem_cons_succ, List.setIfInBounds_toArray, List.set_cons_zero, List.set_cons_succ]
    refine wpAnyH_ready (rs := [16]) (by kernel_rfl) (by simp) ?_
    refine AllReadyH.cons rfl (fun KK hKK => ?_) AllReadyH.nil
    go_simp
    refine (rotate_any (t5.gr HG.out) HS.out log l0 l1').mono ?_
    rintro e z6 ⟨a1, a2, a3, a4, rfl, hG6, hB6⟩
    have t6 := t5.go hB6
    refine hKK.out _ _ t6 (fun hHeld6 => ?_)
    clear hKK KK hHeld5
    try simp only [Act.put, List.getElem_toArray, List.getElem_cons_zero, List.getElem_cons_succ, List.setIfInBounds_toArray, List.set_cons_zero, List.set_cons_succ]
    clear t5
    refine wpAnyH_ready (rs := [19]) (by kernel_rfl) (by simp) ?_
    refine AllReadyH.cons rfl (fun KK hKK => ?_) AllReadyH.nil
    go_simp
    refine (refRotate_any (t6.gr HG.out) HS.out log l0 l1').mono ?_
    rintro e z7 ⟨a5, rfl, hG7, hB7⟩
    have t7 := t6.go hB7
    refine hKK.out _ _ t7 (fun hHeld7 => ?_)
    clear hKK KK hHeld6
    try simp only [Act.put, List.getElem_toArray, List.getElem_cons_zero, List.getElem_cons_succ, List.setIfInBounds_toArray, List.set_cons_zero, List.set_cons_succ]
    clear t6
    have hH7 := hG6.gr.below hB7
    refine wpAnyH_ready (rs := [20]) (by kernel_rfl) (by simp) ?_
    refine AllReadyH.cons rfl (fun KK hKK => ?_) AllReadyH.nil
    go_simp
    refine (lowGuarded_same hH7 hG7 HSR.out).mono ?_
    rintro e z8 ⟨rfl, hB8⟩
    have t8 := t7.go hB8
    refine hKK.out _ _ t8 (fun hHeld8 => ?_)
    clear hKK KK hHeld7
    try simp only [Act.put, List.getElem_toArray, List.getElem_cons_zero, List.getElem_cons_succ, List.setIfInBounds_toArray, List.set_cons_zero, List.set_cons_succ]
    clear t7
    clear hG6 hH7 hG7 hB7
    refine wpAnyH_take (i := 21) (v := ?_) rfl (by kernel_rfl) (by kernel_rfl) (by kernel_rfl) (fun _ _ _ h => h) (Or.inl ⟨by kernel_rfl, ?_⟩) (by assumption) ?_
    rotate_left
    · (intro w hSw; (try dsimp only at hSw); go_simp; try with_reducible rfl)
    try simp only [Act.put, List.getElem_toArray, List.getElem_cons_zero, List.getElem_cons_succ, List.setIfInBounds_toArray, List.set_cons_zero, List.set_cons_succ]
    refine wpAnyH_take (i := 22) (v := ?_) rfl (by kernel_rfl) (by kernel_rfl) (by kernel_rfl) (fun _ _ _ h => h) (Or.inl ⟨by kernel_rfl, ?_⟩) (by assumption) ?_
    rotate_left
    · (intro w hSw; (try dsimp only at hSw); go_simp; try with_reducible rfl)
    try simp only [Act.put, List.getElem_toArray, List.getElem_cons_zero, List.getElem_cons_succ, List.setIfInBounds_toArray, List.set_cons_zero, List.set_cons_succ]
    refine wpAnyH_take (i := 23) (v := ?_) rfl (by kernel_rfl) (by kernel_rfl) (by kernel_rfl) (fun _ _ _ h => h) (Or.inl ⟨by kernel_rfl, ?_⟩) (by assumption) ?_
    rotate_left
    · (intro w hSw; (try dsimp only at hSw); go_simp; try with_reducible rfl)
    try simp only [Act.put, List.getElem_toArray, List.getElem_cons_zero, List.getElem_cons_succ, List.setIfInBounds_toArray, List.set_cons_zero, List.set_cons_succ]
    refine wpAnyH_take (i := 24) (v := .agg (gC G (.slice l1 n1 c1) (.slice l2 n2 c2) (.slice l3 n3 c3) (.slice l4 n4 c4)).toArray) rfl (by kernel_rfl) (by kernel_rfl) (by kernel_rfl) (fun _ _ _ h => h) (yieldsIf_load_blk (by kernel_rfl) 31 (.tmp 11) (by rfl) (w.heap.size + 1 + 1) (by rfl) (gC G (.slice l1 n1 c1) (.slice l2 n2 c2) (.slice l3 n3 c3) (.slice l4 n4 c4)) (fun w h => h.gd) _ Tryd.underlying31 (by rfl) infoG) (by assumption) ?_
    try simp only [Act.put, List.getElem_toArray, List.getElem_cons_zero, List.getElem_cons_succ, List.setIfInBounds_toArray, List.set_cons_zero, List.set_cons_succ]
    refine wpAnyH_take (i := 25) (v := .agg (mtC M).toArray) rfl (by kernel_rfl) (by kernel_rfl) (by kernel_rfl) (fun _ _ _ h => h) (yieldsIf_load_blk (by kernel_rfl) 37 (.tmp 12) (by rfl) (w.heap.size + 1 + 1 + 1) (by rfl) (mtC M) (fun w h => h.mt) _ Tryd.underlying37 (by rfl) infoMtS) (by assumption) ?_
    try simp only [Act.put, List.getElem_toArray, List.getElem_cons_zero, List.getElem_cons_succ, List.setIfInBounds_toArray, List.set_cons_zero, List.set_cons_succ]
    refine wpAnyH_take (i := 27) (v := .agg (gC G (.slice l1 n1 c1) (.slice l2 n2 c2) (.slice l3 n3 c3) (.slice l4 n4 c4)).toArray) rfl (by kernel_rfl) (by kernel_rfl) (by kernel_rfl) (fun _ _ _ h => h) (yieldsIf_load_blk (by kernel_rfl) 31 (.tmp 11) (by rfl) (w.heap.size + 1 + 1) (by rfl) (gC G (.slice l1 n1 c1) (.slice l2 n2 c2) (.slice l3 n3 c3) (.slice l4 n4 c4)) (fun w h => h.gd) _ Tryd.underlying31 (by rfl) infoG) (by assumption) ?_
    try simp only [Act.put, List.getElem_toArray, List.getElem_cons_zero, List.getElem_cons_succ, List.setIfInBounds_toArray, List.set_cons_zero, List.set_cons_succ]
    refine wpAnyH_take (i := 28) (v := .agg (mtC M).toArray) rfl (by kernel_rfl) (by kernel_rfl) (by kernel_rfl) (fun _ _ _ h => h) (yieldsIf_load_blk (by kernel_rfl) 37 (.tmp 12) (by rfl) (w.heap.size + 1 + 1 + 1) (by rfl) (mtC M) (fun w h => h.mt) _ Tryd.underlying37 (by rfl) infoMtS) (by assumption) ?_
    try simp only [Act.put, List.getElem_toArray, List.getElem_cons_zero, List.getElem_cons_succ, List.setIfInBounds_toArray, List.set_cons_zero, List.set_cons_succ]
    refine wpAnyH_ready (rs := [26]) (by kernel_rfl) (by simp) ?_
    refine AllReadyH.cons rfl (fun KK hKK => ?_) AllReadyH.nil
    go_simp
    refine (install_any (t8.gr HG.out) HS.out M).mono ?_
    rintro e z9 ⟨p1, p2, p3, p4, rfl, hG9, hB9⟩
    have t9 := t8.go hB9
    refine hKK.out _ _ t9 (fun hHeld9 => ?_)
    clear hKK KK hHeld8
    try simp only [Act.put, List.getElem_toArray, List.getElem_cons_zero, List.getElem_cons_succ, List.setIfInBounds_toArray, List.set_cons_zero, List.set_cons_succ]
    clear t8
    refine wpAnyH_ready (rs := [29]) (by kernel_rfl) (by simp) ?_
    refine AllReadyH.cons rfl (fun KK hKK => ?_) AllReadyH.nil
    go_simp
    refine (refInstall_any (t9.gr HG.out) HS.out M).mono ?_
    rintro e z10 ⟨p5, p6, rfl, hG10, hB10⟩
    have t10 := t9.go hB10
    refine hKK.out _ _ t10 (fun hHeld10 => ?_)
    clear hKK KK hHeld9
    try simp only [Act.put, List.getElem_toArray, List.getElem_cons_zero, List.getElem_cons_succ, List.setIfInBounds_toArray, List.set_cons_zero, List.set_cons_succ]
    clear t9
    have hH10 := hG9.gr.below hB10
    refine wpAnyH_ready (rs := [30]) (by kernel_rfl) (by simp) ?_
    refine AllReadyH.cons rfl (fun KK hKK => ?_) AllReadyH.nil
    go_simp
    refine (lowGuarded_same hH10 hG10 HSI.out).mono ?_
    rintro e z11 ⟨rfl, hB11⟩
    have t11 := t10.go hB11
    refine hKK.out _ _ t11 (fun hHeld11 => ?_)
    clear hKK KK hHeld10
    try simp only [Act.put, List.getElem_toArray, List.getElem_cons_zero, List.getElem_cons_succ, List.setIfInBounds_toArray, List.set_cons_zero, List.set_cons_succ]
    clear t10
    clear hG9 hH10 hG10 hB10
    refine wpAnyH_take (i := 31) (v := ?_) rfl (by kernel_rfl) (by kernel_rfl) (by kernel_rfl) (fun _ _ _ h => h) (Or.inl ⟨by kernel_rfl, ?_⟩) (by assumption) ?_
    rotate_left
    · (intro w hSw; (try dsimp only at hSw); go_simp; try with_reducible rfl)
    try simp only [Act.put, List.getElem_toArray, List.getElem_cons_zero, List.getElem_cons_succ, List.setIfInBounds_toArray, List.set_cons_zero, List.set_cons_succ]
    refine wpAnyH_take (i := 32) (v := ?_) rfl (by kernel_rfl) (by kernel_rfl) (by kernel_rfl) (fun _ _ _ h => h) (Or.inl ⟨by kernel_rfl, ?_⟩) (by assumption) ?_
    rotate_left
    · (intro w hSw; (try dsimp only at hSw); go_simp; try with_reducible rfl)
    try simp only [Act.put, List.getElem_toArray, List.getElem_cons_zero, List.getElem_cons_succ, List.setIfInBounds_toArray, List.set_cons_zero, List.set_cons_succ]
    refine wpAnyH_take (i := 33) (v := ?_) rfl (by kernel_rfl) (by kernel_rfl) (by kernel_rfl) (fun _ _ _ h => h) (Or.inl ⟨by kernel_rfl, ?_⟩) (by assumption) ?_
    rotate_left
    · (intro w hSw; (try dsimp only at hSw); go_simp; try with_reducible rfl)
    try simp only [Act.put, List.getElem_toArray, List.getElem_cons_zero, List.getElem_cons_succ, List.setIfInBounds_toArray, List.set_cons_zero, List.set_cons_succ]
    refine wpAnyH_take (i := 34) (v := .agg (gC G (.slice l1 n1 c1) (.slice l2 n2 c2) (.slice l3 n3 c3) (.slice l4 n4 c4)).toArray) rfl (by kernel_rfl) (by kernel_rfl) (by kernel_rfl) (fun _ _ _ h => h) (yieldsIf_load_blk (by kernel_rfl) 31 (.tmp 11) (by rfl) (w.heap.size + 1 + 1) (by rfl) (gC G (.slice l1 n1 c1) (.slice l2 n2 c2) (.slice l3 n3 c3) (.slice l4 n4 c4)) (fun w h => h.gd) _ Tryd.underlying31 (by rfl) infoG) (by assumption) ?_
    try simp only [Act.put, List.getElem_toArray, List.getElem_cons_zero, List.getElem_cons_succ, List.setIfInBounds_toArray, List.set_cons_zero, List.set_cons_succ]
    refine wpAnyH_take (i := 36) (v := .agg (gC G (.slice l1 n1 c1) (.slice l2 n2 c2) (.slice l3 n3 c3) (.slice l4 n4 c4)).toArray) rfl (by kernel_rfl) (by kernel_rfl) (by kernel_rfl) (fun _ _ _ h => h) (yieldsIf_load_blk (by kernel_rfl) 31 (.tmp 11) (by rfl) (w.heap.size + 1 + 1) (by rfl) (gC G (.slice l1 n1 c1) (.slice l2 n2 c2) (.slice l3 n3 c3) (.slice l4 n4 c4)) (fun w h => h.gd) _ Tryd.underlying31 (by rfl) infoG) (by assumption) ?_
    try simp only [Act.put, List.getElem_toArray, List.getElem_cons_zero, List.getElem_cons_succ, List.setIfInBounds_toArray, List.set_cons_zero, List.set_cons_succ]
    refine wpAnyH_ready (rs := [35]) (by kernel_rfl) (by simp) ?_
    refine AllReadyH.cons rfl (fun KK hKK => ?_) AllReadyH.nil
    go_simp
    refine (keep_any (t11.gr HG.out) HS.out.i).mono ?_
    rintro e z12 ⟨rfl, hB12⟩
    have t12 := t11.go hB12
    refine hKK.out _ _ t12 (fun hHeld12 => ?_)
    clear hKK KK hHeld11
    try simp only [Act.put, List.getElem_toArray, List.getElem_cons_zero, List.getElem_cons_succ, List.setIfInBounds_toArray, List.set_cons_zero, List.set_cons_succ]
    clear t11
    refine wpAnyH_ready (rs := [37]) (by kernel_rfl) (by simp) ?_
    refine AllReadyH.cons rfl (fun KK hKK => ?_) AllReadyH.nil
    go_simp
    refine (refKeep_any (t12.gr HG.out) HS.out.i).mono ?_
    rintro e z13 ⟨rfl, hB13⟩
    have t13 := t12.go hB13
    refine hKK.out _ _ t13 (fun hHeld13 => ?_)
    clear hKK KK hHeld12
    try simp only [Act.put, List.getElem_toArray, List.getElem_cons_zero, List.getElem_cons_succ, List.setIfInBounds_toArray, List.set_cons_zero, List.set_cons_succ]
    clear t12
    refine wpAnyH_take (i := 38) (v := .bool false) rfl (by kernel_rfl) (by kernel_rfl) (by kernel_rfl) (fun _ _ _ h => h) (Or.inl ⟨by kernel_rfl, ?_⟩) (by assumption) ?_
    · (intro w hSw; (try dsimp only at hSw); go_simp; try with_reducible rfl)
    try simp only [Act.put, List.getElem_toArray, List.getElem_cons_zero, List.getElem_cons_succ, List.setIfInBounds_toArray, List.set_cons_zero, List.set_cons_succ]
    refine wpAnyH_take (i := 39) (v := ?_) rfl (by kernel_rfl) (by kernel_rfl) (by kernel_rfl) (fun _ _ _ h => h) (Or.inl ⟨by kernel_rfl, ?_⟩) (by assumption) ?_
    rotate_left
    · (intro w hSw; (try dsimp only at hSw); go_simp; try with_reducible rfl)
    try simp only [Act.put, List.getElem_toArray, List.getElem_cons_zero, List.getElem_cons_succ, List.setIfInBounds_toArray, List.set_cons_zero, List.set_cons_succ]
    refine wpAnyH_take (i := 40) (v := ?_) rfl (by kernel_rfl) (by kernel_rfl) (by kernel_rfl) (fun _ _ _ h => h) (Or.inl ⟨by kernel_rfl, ?_⟩) (by assumption) ?_
    rotate_left
    · (intro w hSw; (try dsimp only at hSw); go_simp; try with_reducible rfl)
    try simp only [Act.put, List.getElem_toArray, List.getElem_cons_zero, List.getElem_cons_succ, List.setIfInBounds_toArray, List.set_cons_zero, List.set_cons_succ]
    refine wpAnyH_take (i := 41) (v := .agg (gC G (.slice l1 n1 c1) (.slice l2 n2 c2) (.slice l3 n3 c3) (.slice l4 n4 c4)).toArray) rfl (by kernel_rfl) (by kernel_rfl) (by kernel_rfl) (fun _ _ _ h => h) (yieldsIf_load_blk (by kernel_rfl) 31 (.tmp 11) (by rfl) (w.heap.size + 1 + 1) (by rfl) (gC G (.slice l1 n1 c1) (.slice l2 n2 c2) (.slice l3 n3 c3) (.slice l4 n4 c4)) (fun w h => h.gd) _ Tryd.underlying31 (by rfl) infoG) (by assumption) ?_
    try simp only [Act.put, List.getElem_toArray, List.getElem_cons_zero, List.getElem_cons_succ, List.setIfInBounds_toArray, List.set_cons_zero, List.set_cons_succ]
    refine wpAnyH_take (i := 42) (v := ?_) rfl (by kernel_rfl) (by kernel_rfl) (by kernel_rfl) (fun _ _ _ h => h) (Or.inl ⟨by kernel_rfl, ?_⟩) (by assumption) ?_
    rotate_left
    · (intro w hSw; (try dsimp only at hSw); go_simp; try with_reducible rfl)
    try simp only [Act.put, List.getElem_toArray, List.getElem_cons_zero, List.getElem_cons_succ, List.setIfInBounds_toArray, List.set_cons_zero, List.set_cons_succ]
    refine wpAnyH_take (i := 44) (v := .agg (gC G (.slice l1 n1 c1) (.slice l2 n2 c2) (.slice l3 n3 c3) (.slice l4 n4 c4)).toArray) rfl (by kernel_rfl) (by kernel_rfl) (by kernel_rfl) (fun _ _ _ h => h) (yieldsIf_load_blk (by kernel_rfl) 31 (.tmp 11) (by rfl) (w.heap.size + 1 + 1) (by rfl) (gC G (.slice l1 n1 c1) (.slice l2 n2 c2) (.slice l3 n3 c3) (.slice l4 n4 c4)) (fun w h => h.gd) _ Tryd.underlying31 (by rfl) infoG) (by assumption) ?_
    try simp only [Act.put, List.getElem_toArray, List.getElem_cons_zero, List.getElem_cons_succ, List.setIfInBounds_toArray, List.set_cons_zero, List.set_cons_succ]
    refine wpAnyH_take (i := 45) (v := ?_) rfl (by kernel_rfl) (by kernel_rfl) (by kernel_rfl) (fun _ _ _ h => h) (Or.inl ⟨by kernel_rfl, ?_⟩) (by assumption) ?_
    rotate_left
    · (intro w hSw; (try dsimp only at hSw); go_simp; try with_reducible rfl)
    try simp only [Act.put, List.getElem_toArray, List.getElem_cons_zero, List.getElem_cons_succ, List.setIfInBounds_toArray, List.set_cons_zero, List.set_cons_succ]
    refine wpAnyH_ready (rs := [43]) (by kernel_rfl) (by simp) ?_
    refine AllReadyH.cons rfl (fun KK hKK => ?_) AllReadyH.nil
    go_simp
    refine (fail_any (t13.gr HG.out) HS.out er).mono ?_
    rintro e z14 ⟨d1, d2, d3, d4, rfl, hG14, hB14⟩
    have t14 := t13.go hB14
    refine hKK.out _ _ t14 (fun hHeld14 => ?_)
    clear hKK KK hHeld13
    try simp only [Act.put, List.getElem_toArray, List.getElem_cons_zero, List.getElem_cons_succ, List.setIfInBounds_toArray, List.set_cons_zero, List.set_cons_succ]
    clear t13
    refine wpAnyH_ready (rs := [46]) (by kernel_rfl) (by simp) ?_
    refine AllReadyH.cons rfl (fun KK hKK => ?_) AllReadyH.nil
    go_simp
    refine (refFail_any (t14.gr HG.out) er).mono ?_
    rintro e z15 ⟨rfl, hB15⟩
    have t15 := t14.go hB15
    refine hKK.out _ _ t15 (fun hHeld15 => ?_)
    clear hKK KK hHeld14
    try simp only [Act.put, List.getElem_toArray, List.getElem_cons_zero, List.getElem_cons_succ, List.setIfInBounds_toArray, List.set_cons_zero, List.set_cons_succ]
    clear t14
    have hH15 := hG14.gr.below hB15
    have hG15 : GR z15 (failG G er) (.slice l1 n1 c1) (.slice l2 n2 c2) (.slice l3 n3 c3) (.slice l4 n4 c4) := failG_gr er (t15.gr HG.out)
    refine wpAnyH_ready (rs := [47]) (by kernel_rfl) (by simp) ?_
    refine AllReadyH.cons rfl (fun KK hKK => ?_) AllReadyH.nil
    go_simp
    refine (lowGuarded_same hH15 hG15 HSF.out).mono ?_
    rintro e z16 ⟨rfl, hB16⟩
    have t16 := t15.go hB16
    refine hKK.out _ _ t16 (fun hHeld16 => ?_)
    clear hKK KK hHeld15
    try simp only [Act.put, List.getElem_toArray, List.getElem_cons_zero, List.getElem_cons_succ, List.setIfInBounds_toArray, List.set_cons_zero, List.set_cons_succ]
    clear t15
    clear hG14 hH15 hG15 hB15
    refine wpAnyH_take (i := 48) (v := ?_) rfl (by kernel_rfl) (by kernel_rfl) (by kernel_rfl) (fun _ _ _ h => h) (Or.inl ⟨by kernel_rfl, ?_⟩) (by assumption) ?_
    rotate_left
    · (intro w hSw; (try dsimp only at hSw); go_simp; try with_reducible rfl)
    try simp only [Act.put, List.getElem_toArray, List.getElem_cons_zero, List.getElem_cons_succ, List.setIfInBounds_toArray, List.set_cons_zero, List.set_cons_succ]
    refine wpAnyH_take (i := 49) (v := ?_) rfl (by kernel_rfl) (by kernel_rfl) (by kernel_rfl) (fun _ _ _ h => h) (Or.inl ⟨by kernel_rfl, ?_⟩) (by assumption) ?_
    rotate_left
    · (intro w hSw; (try dsimp only at hSw); go_simp; try with_reducible rfl)
    try simp only [Act.put, List.getElem_toArray, List.getElem_cons_zero, List.getElem_cons_succ, List.setIfInBounds_toArray, List.set_cons_zero, List.set_cons_succ]
    refine wpAnyH_take (i := 50) (v := ?_) rfl (by kernel_rfl) (by kernel_rfl) (by kernel_rfl) (fun _ _ _ h => h) (Or.inl ⟨by kernel_rfl, ?_⟩) (by assumption) ?_
    rotate_left
    · (intro w hSw; (try dsimp only at hSw); go_simp; try with_reducible rfl)
    try simp only [Act.put, List.getElem_toArray, List.getElem_cons_zero, List.getElem_cons_succ, List.setIfInBounds_toArray, List.set_cons_zero, List.set_cons_succ]
    refine wpAnyH_take (i := 51) (v := .agg (gC G (.slice l1 n1 c1) (.slice l2 n2 c2) (.slice l3 n3 c3) (.slice l4 n4 c4)).toArray) rfl (by kernel_rfl) (by kernel_rfl) (by kernel_rfl) (fun _ _ _ h => h) (yieldsIf_load_blk (by kernel_rfl) 31 (.tmp 11) (by rfl) (w.heap.size + 1 + 1) (by rfl) (gC G (.slice l1 n1 c1) (.slice l2 n2 c2) (.slice l3 n3 c3) (.slice l4 n4 c4)) (fun w h => h.gd) _ Tryd.underlying31 (by rfl) infoG) (by assumption) ?_
    try simp only [Act.put, List.getElem_toArray, List.getElem_cons_zero, List.getElem_cons_succ, List.setIfInBounds_toArray, List.set_cons_zero, List.set_cons_succ]
    refine wpAnyH_take (i := 52) (v := .agg (gC G tl td ti tt).toArray) rfl (by kernel_rfl) (by kernel_rfl) (by kernel_rfl) (fun _ _ _ h => h) (yieldsIf_load_blk (by kernel_rfl) 31 (.tmp 15) (by rfl) x2.heap.size (by rfl) (gC G tl td ti tt) (fun w h => h.was) _ Tryd.underlying31 (by rfl) infoG) (by assumption) ?_
    try simp only [Act.put, List.getElem_toArray, List.getElem_cons_zero, List.getElem_cons_succ, List.setIfInBounds_toArray, List.set_cons_zero, List.set_cons_succ]
    refine wpAnyH_ready (rs := [53]) (by kernel_rfl) (by simp) ?_
    refine AllReadyH.cons rfl (fun KK hKK => ?_) AllReadyH.nil
    go_simp
    refine (lowGuarded_same (t16.gr HG.out) t16.wr HS.out).mono ?_
    rintro e z17 ⟨rfl, hB17⟩
    have t17 := t16.go hB17
    refine hKK.out _ _ t17 (fun hHeld17 => ?_)
    clear hKK KK hHeld16
    try simp only [Act.put, List.getElem_toArray, List.getElem_cons_zero, List.getElem_cons_succ, List.setIfInBounds_toArray, List.set_cons_zero, List.set_cons_succ]
    clear t16
    refine wpAnyH_take (i := 54) (v := ?_) rfl (by kernel_rfl) (by kernel_rfl) (by kernel_rfl) (fun _ _ _ h => h) (Or.inl ⟨by kernel_rfl, ?_⟩) (by assumption) ?_
    rotate_left
    · (intro w hSw; (try dsimp only at hSw); go_simp; try with_reducible rfl)
    try simp only [Act.put, List.getElem_toArray, List.getElem_cons_zero, List.getElem_cons_succ, List.setIfInBounds_toArray, List.set_cons_zero, List.set_cons_succ]
    refine wpAnyH_take (i := 55) (v := ?_) rfl (by kernel_rfl) (by kernel_rfl) (by kernel_rfl) (fun _ _ _ h => h) (Or.inl ⟨by kernel_rfl, ?_⟩) (by assumption) ?_
    rotate_left
    · (intro w hSw; (try dsimp only at hSw); go_simp; try with_reducible rfl)
    try simp only [Act.put, List.getElem_toArray, List.getElem_cons_zero, List.getElem_cons_succ, List.setIfInBounds_toArray, List.set_cons_zero, List.set_cons_succ]
    refine wpAnyH_done (by kernel_rfl) ?_ _
    go_wp2_with fail
    go_meet
    exact ⟨rfl, t17⟩
    --H}
  case rest =>
    clear t0 t0'
    obtain ⟨rfl, t0⟩ := hcut
    have t0d := t0.drew
    clear HRT HVN HSR HSI HSF HSM HS
    cases hr : rightB K
    · have HRR2 := Lib.hid (show ∀ x, Calls Tryd.prog 18 #[.agg (cfC K (.slice ao nh co)).toArray] x fun e w' => e = .returned (.bool false) ∧ Below x.heap.size x w' from fun x => by have := HRR.out x; rwa [hr] at this)
      clear HRR
      go_upto_region 6 with fail
      refine wp_region_held_drew (S := (TS w K (.slice ao nh co) V (.slice at0 nt ct0) G (.slice l1 n1 c1) (.slice l2 n2 c2) (.slice l3 n3 c3) (.slice l4 n4 c4) M x2.heap.size tl td ti tt)) (by kernel_rfl) t0d (fun hHeld => ?_)
      refine wpAnyH_take (i := 0) (v := .agg (cfC K (.slice ao nh co)).toArray) rfl (by kernel_rfl) (by kernel_rfl) (by kernel_rfl) (fun _ _ _ h => h) (yieldsIf_load_blk (by kernel_rfl) 49 (.tmp 7) (by rfl) w.heap.size (by rfl) (cfC K (.slice ao nh co)) (fun w h => h.cfg) _ Tryd.underlying49 (by rfl) infoCf) (by assumption) ?_
      try simp only [Act.put, List.getElem_toArray, List.getElem_cons_zero, List.getElem_cons_succ, List.setIfInBounds_toArray, List.set_cons_zero, List.set_cons_succ]
      refine wpAnyH_take (i := 1) (v := ?_) rfl (by kernel_rfl) (by kernel_rfl) (by kernel_rfl) (fun _ _ _ h => h) (Or.inl ⟨by kernel_rfl, ?_⟩) (by assumption) ?_
      rotate_left
      · (intro w hSw; (try dsimp only at hSw); go_simp; try with_reducible rfl)
      try simp only [Act.put, List.getElem_toArray, List.getElem_cons_zero, List.getElem_cons_succ, List.setIfInBounds_toArray, List.set_cons_zero, List.set_cons_succ]
      refine wpAnyH_take (i := 3) (v := .agg (vrC V (.slice at0 nt ct0)).toArray) rfl (by kernel_rfl) (by kernel_rfl) (by kernel_rfl) (fun _ _ _ h => h) (yieldsIf_load_blk (by kernel_rfl) 51 (.tmp 8) (by rfl) (w.heap.size + 1) (by rfl) (vrC V (.slice at0 nt ct0)) (fun w h => h.ver) _ Tryd.underlying51 (by rfl) infoVr) (by assumption) ?_
      try simp only [Act.put, List.getElem_toArray, List.getElem_cons_zero, List.getElem_cons_succ, List.setIfInBounds_toArray, List.set_cons_zero, List.set_cons_succ]
      refine wpAnyH_take (i := 4) (v := ?_) rfl (by kernel_rfl) (by kernel_rfl) (by kernel_rfl) (fun _ _ _ h => h) (Or.inl ⟨by kernel_rfl, ?_⟩) (by assumption) ?_
      rotate_left
      · (intro w hSw; (try dsimp only at hSw); go_simp; try with_reducible rfl)
      try simp only [Act.put, List.getElem_toArray, List.getElem_cons_zero, List.getElem_cons_succ, List.setIfInBounds_toArray, List.set_cons_zero, List.set_cons_succ]
      refine wpAnyH_ready (rs := [2]) (by kernel_rfl) (by simp) ?_
      refine AllReadyH.cons rfl (fun KK hKK => ?_) AllReadyH.nil
      go_simp
      refine (disknew_nil _ _ (by decide)).mono ?_
      rintro e y1 ⟨d, rfl, hC1⟩
      have u1 := t0d.go hC1
      refine hKK.out _ _ u1 (fun hHeld1 => ?_)
      clear hKK KK hHeld
      try simp only [Act.put, List.getElem_toArray, List.getElem_cons_zero, List.getElem_cons_succ, List.setIfInBounds_toArray, List.set_cons_zero, List.set_cons_succ]
      refine wpAnyH_ready (rs := [5]) (by kernel_rfl) (by simp) ?_
      refine AllReadyH.cons rfl (fun KK hKK => ?_) AllReadyH.nil
      go_simp
      refine (stnew_no HK.out.wf hr (HK.out.reads.below u1.below) _ _ log).mono ?_
      rintro e y2 ⟨rfl, hC2⟩
      have u2 := u1.go hC2
      refine hKK.out _ _ u2 (fun hHeld2 => ?_)
      clear hKK KK hHeld1
      try simp only [Act.put, List.getElem_toArray, List.getElem_cons_zero, List.getElem_cons_succ, List.setIfInBounds_toArray, List.set_cons_zero, List.set_cons_succ]
      refine wpAnyH_take (i := 6) (v := ?_) rfl (by kernel_rfl) (by kernel_rfl) (by kernel_rfl) (fun _ _ _ h => h) (Or.inl ⟨by kernel_rfl, ?_⟩) (by assumption) ?_
      rotate_left
      · (intro w hSw; (try dsimp only at hSw); go_simp; try with_reducible rfl)
      try simp only [Act.put, List.getElem_toArray, List.getElem_cons_zero, List.getElem_cons_succ, List.setIfInBounds_toArray, List.set_cons_zero, List.set_cons_succ]
      refine wpAnyH_take (i := 7) (v := ?_) rfl (by kernel_rfl) (by kernel_rfl) (by kernel_rfl) (fun _ _ _ h => h) (Or.inl ⟨by kernel_rfl, ?_⟩) (by assumption) ?_
      rotate_left
      · (intro w hSw; (try dsimp only at hSw); go_simp; try with_reducible rfl)
      try simp only [Act.put, List.getElem_toArray, List.getElem_cons_zero, List.getElem_cons_succ, List.setIfInBounds_toArray, List.set_cons_zero, List.set_cons_succ]
      refine wpAnyH_take (i := 8) (v := ?_) rfl (by kernel_rfl) (by kernel_rfl) (by kernel_rfl) (fun _ _ _ h => h) (Or.inl ⟨by kernel_rfl, ?_⟩) (by assumption) ?_
      rotate_left
      · (intro w hSw; (try dsimp only at hSw); go_simp; try with_reducible rfl)
      try simp only [Act.put, List.getElem_toArray, List.getElem_cons_zero, List.getElem_cons_succ, List.setIfInBounds_toArray, List.set_cons_zero, List.set_cons_succ]
      refine wpAnyH_take (i := 9) (v := ?_) rfl (by kernel_rfl) (by kernel_rfl) (by kernel_rfl) (fun _ _ _ h => h) (Or.inl ⟨by kernel_rfl, ?_⟩) (by assumption) ?_
      rotate_left
      · (intro w hSw; (try dsimp only at hSw); go_simp; try with_reducible rfl)
      try simp only [Act.put, List.getElem_toArray, List.getElem_cons_zero, List.getElem_cons_succ, List.setIfInBounds_toArray, List.set_cons_zero, List.set_cons_succ]
      refine wpAnyH_take (i := 10) (v := ?_) rfl (by kernel_rfl) (by kernel_rfl) (by kernel_rfl) (fun _ _ _ h => h) (Or.inl ⟨by kernel_rfl, ?_⟩) (by assumption) ?_
      rotate_left
      · (intro w hSw; (try dsimp only at hSw); go_simp; try with_reducible rfl)
      try simp only [Act.put, List.getElem_toArray, List.getElem_cons_zero, List.getElem_cons_succ, List.setIfInBounds_toArray, List.set_cons_zero, List.set_cons_succ]
      refine wpAnyH_done (by kernel_rfl) ?_ _
      have hu2 := u2.below
      go_wp2_with (first | (refine wpList_load_blk rfl 49 _ rfl w.heap.size (by rfl) (cfC K (.slice ao nh co)) u2.cfg _ Tryd.underlying49 rfl infoCf ?_) | (go_at_call 18; refine (HRR2.out _).mono ?_; rintro e y3 ⟨rfl, hC3⟩) | (go_at_call 14; refine (HAW.out _ (hu2.trans (hC3.mono hu2.size))).mono ?_; rintro e x ⟨rfl, hB⟩))
      go_ret
      exact ⟨rfl, hB⟩
    · have HRR2 := Lib.hid (show ∀ x, Calls Tryd.prog 18 #[.agg (cfC K (.slice ao nh co)).toArray] x fun e w' => e = .returned (.bool true) ∧ Below x.heap.size x w' from fun x => by have := HRR.out x; rwa [hr] at this)
      clear HRR
      go_upto_region 6 with fail
      refine wp_region_held_drew (S := (TS w K (.slice ao nh co) V (.slice at0 nt ct0) G (.slice l1 n1 c1) (.slice l2 n2 c2) (.slice l3 n3 c3) (.slice l4 n4 c4) M x2.heap.size tl td ti tt)) (by kernel_rfl) t0d (fun hHeld => ?_)
      refine wpAnyH_take (i := 0) (v := .agg (cfC K (.slice ao nh co)).toArray) rfl (by kernel_rfl) (by kernel_rfl) (by kernel_rfl) (fun _ _ _ h => h) (yieldsIf_load_blk (by kernel_rfl) 49 (.tmp 7) (by rfl) w.heap.size (by rfl) (cfC K (.slice ao nh co)) (fun w h => h.cfg) _ Tryd.underlying49 (by rfl) infoCf) (by assumption) ?_
      try simp only [Act.put, List.getElem_toArray, List.getElem_cons_zero, List.getElem_cons_succ, List.setIfInBounds_toArray, List.set_cons_zero, List.set_cons_succ]
      refine wpAnyH_take (i := 1) (v := ?_) rfl (by kernel_rfl) (by kernel_rfl) (by kernel_rfl) (fun _ _ _ h => h) (Or.inl ⟨by kernel_rfl, ?_⟩) (by assumption) ?_
      rotate_left
      · (intro w hSw; (try dsimp only at hSw); go_simp; try with_reducible rfl)
      try simp only [Act.put, List.getElem_toArray, List.getElem_cons_zero, List.getElem_cons_succ, List.setIfInBounds_toArray, List.set_cons_zero, List.set_cons_succ]
      refine wpAnyH_take (i := 3) (v := .agg (vrC V (.slice at0 nt ct0)).toArray) rfl (by kernel_rfl) (by kernel_rfl) (by kernel_rfl) (fun _ _ _ h => h) (yieldsIf_load_blk (by kernel_rfl) 51 (.tmp 8) (by rfl) (w.heap.size + 1) (by rfl) (vrC V (.slice at0 nt ct0)) (fun w h => h.ver) _ Tryd.underlying51 (by rfl) infoVr) (by assumption) ?_
      try simp only [Act.put, List.getElem_toArray, List.getElem_cons_zero, List.getElem_cons_succ, List.setIfInBounds_toArray, List.set_cons_zero, List.set_cons_succ]
      refine wpAnyH_take (i := 4) (v := ?_) rfl (by kernel_rfl) (by kernel_rfl) (by kernel_rfl) (fun _ _ _ h => h) (Or.inl ⟨by kernel_rfl, ?_⟩) (by assumption) ?_
      rotate_left
      · (intro w hSw; (try dsimp only at hSw); go_simp; try with_reducible rfl)
      try simp only [Act.put, List.getElem_toArray, List.getElem_cons_zero, List.getElem_cons_succ, List.setIfInBounds_toArray, List.set_cons_zero, List.set_cons_succ]
      refine wpAnyH_ready (rs := [2]) (by kernel_rfl) (by simp) ?_
      refine AllReadyH.cons rfl (fun KK hKK => ?_) AllReadyH.nil
      go_simp
      refine (disknew_nil _ _ (by decide)).mono ?_
      rintro e y1 ⟨d, rfl, hC1⟩
      have u1 := t0d.go hC1
      refine hKK.out _ _ u1 (fun hHeld1 => ?_)
      clear hKK KK hHeld
      try simp only [Act.put, List.getElem_toArray, List.getElem_cons_zero, List.getElem_cons_succ, List.setIfInBounds_toArray, List.set_cons_zero, List.set_cons_succ]
      refine wpAnyH_ready (rs := [5]) (by kernel_rfl) (by simp) ?_
      refine AllReadyH.cons rfl (fun KK hKK => ?_) AllReadyH.nil
      go_simp
      refine (stnew_yes hr (sh := .slice ao nh co) (st := .slice at0 nt ct0) (V := V) (HK.out.reads.below u1.below) (HV.out.reads.below u1.below) (by have := HNT.out; omega) _ log l0 l1' (fits_u64 HV.out.next).1).mono ?_
      intro e y2 h2
      obtain ⟨q, A, O, rfl, hS2, hC2⟩ := h2.sx
      have u2 := u1.go hC2
      refine hKK.out _ _ u2 (fun hHeld2 => ?_)
      clear hKK KK hHeld1
      try simp only [Act.put, List.getElem_toArray, List.getElem_cons_zero, List.getElem_cons_succ, List.setIfInBounds_toArray, List.set_cons_zero, List.set_cons_succ]
      refine wpAnyH_take (i := 6) (v := ?_) rfl (by kernel_rfl) (by kernel_rfl) (by kernel_rfl) (fun _ _ _ h => h) (Or.inl ⟨by kernel_rfl, ?_⟩) (by assumption) ?_
      rotate_left
      · (intro w hSw; (try dsimp only at hSw); go_simp; try with_reducible rfl)
      try simp only [Act.put, List.getElem_toArray, List.getElem_cons_zero, List.getElem_cons_succ, List.setIfInBounds_toArray, List.set_cons_zero, List.set_cons_succ]
      refine wpAnyH_take (i := 7) (v := ?_) rfl (by kernel_rfl) (by kernel_rfl) (by kernel_rfl) (fun _ _ _ h => h) (Or.inl ⟨by kernel_rfl, ?_⟩) (by assumption) ?_
      rotate_left
      · (intro w hSw; (try dsimp only at hSw); go_simp; try with_reducible rfl)
      try simp only [Act.put, List.getElem_toArray, List.getElem_cons_zero, List.getElem_cons_succ, List.setIfInBounds_toArray, List.set_cons_zero, List.set_cons_succ]
      refine wpAnyH_take (i := 8) (v := ?_) rfl (by kernel_rfl) (by kernel_rfl) (by kernel_rfl) (fun _ _ _ h => h) (Or.inl ⟨by kernel_rfl, ?_⟩) (by assumption) ?_
      rotate_left
      · (intro w hSw; (try dsimp only at hSw); go_simp; try with_reducible rfl)
      try simp only [Act.put, List.getElem_toArray, List.getElem_cons_zero, List.getElem_cons_succ, List.setIfInBounds_toArray, List.set_cons_zero, List.set_cons_succ]
      refine wpAnyH_take (i := 9) (v := ?_) rfl (by kernel_rfl) (by kernel_rfl) (by kernel_rfl) (fun _ _ _ h => h) (Or.inl ⟨by kernel_rfl, ?_⟩) (by assumption) ?_
      rotate_left
      · (intro w hSw; (try dsimp only at hSw); go_simp; try with_reducible rfl)
      try simp only [Act.put, List.getElem_toArray, List.getElem_cons_zero, List.getElem_cons_succ, List.setIfInBounds_toArray, List.set_cons_zero, List.set_cons_succ]
      refine wpAnyH_take (i := 10) (v := ?_) rfl (by kernel_rfl) (by kernel_rfl) (by kernel_rfl) (fun _ _ _ h => h) (Or.inl ⟨by kernel_rfl, ?_⟩) (by assumption) ?_
      rotate_left
      · (intro w hSw; (try dsimp only at hSw); go_simp; try with_reducible rfl)
      try simp only [Act.put, List.getElem_toArray, List.getElem_cons_zero, List.getElem_cons_succ, List.setIfInBounds_toArray, List.set_cons_zero, List.set_cons_succ]
      refine wpAnyH_done (by kernel_rfl) ?_ _
      have U1 := Lib.hid u1
      have HC2 := Lib.hid hC2
      clear t0d u1 hC1 hC2
      have hu2 := u2.below
      obtain ⟨z1, z2, z3⟩ := newS_len hr V
      have Z1 := Lib.hid z1
      have Z2 := Lib.hid z2
      have Z3 := Lib.hid z3
      have ZA := Lib.hid (newS_at hr V)
      have HNN : K.heights.length ≤ 1000000 := by obtain ⟨_, _, _, _, _, _, _, _, h9, _⟩ := of_decide_eq_true hr; omega
      have HN1K := Lib.hid HNN
      have HN1 := Lib.hid (show nh ≤ 1000000 by have := HNH.out; omega)
      have HSN := Lib.hid (newG_small V log (by have := HNT.out; omega))
      clear z1 z2 z3 HNN
      go_upto_region 12 with (first | (refine wpList_load_blk rfl 49 _ rfl w.heap.size (by rfl) (cfC K (.slice ao nh co)) u2.cfg _ Tryd.underlying49 rfl infoCf ?_) | (go_at_call 18; refine (HRR2.out _).mono ?_; rintro e y3 ⟨rfl, hC3⟩))
      have HZ3 := Lib.hid (HC2.out.trans (hC3.mono HC2.out.size))
      have hS3 := hS2.below hC3
      have hlk := slock_any hS3 9 (by decide) (by rw [Z3.out]; decide)
      have HLK := Lib.hid (show Calls Tryd.prog 30 #[.pointer (some ⟨q.r.p, 0, none⟩), .int .i64 9] y3 fun e w' => e = .returned (.int .i64 0) ∧ Sx y1.heap.size w' q K ⟨66, true, 9, fun _ => none⟩ ((newS K V).notes [⟨9, 8, 0⟩]) (newG V log) A O ∧ Below y1.heap.size y3 w' from hlk)
      clear hlk hC3 hS2 hu2 u2
      go_upto_region 14 with (first | (go_at_call 28; refine (slocks_any hS3).mono ?_; rintro e w' ⟨rfl, rfl⟩) | (go_at_call 29; refine (scells_any hS3).mono ?_; rintro e w' ⟨rfl, rfl⟩) | (go_at_call 30; refine HLK.out.mono ?_; rintro e y5 ⟨rfl, hS5, hC5⟩))
      have hg5 := get_yes hS5 HSN.out 9 (fun _ => ⟨by decide, by decide⟩) (by show 0 < (newS K V).plains.length; exact Z2.out) (by show (_ ++ _ : List Acc).length < trMax; rw [List.length_append, Z3.out]; decide) ⟨rfl, rfl⟩
      have HG5 := Lib.hid hg5
      have HS5 := Lib.hid hS5
      have HZ5 := Lib.hid (HZ3.out.trans hC5)
      clear hS3 hC5 hS5 hg5 HLK HZ3
      go_upto_region 15 with (first | (go_at_call 31; refine HG5.out.mono ?_; rintro e y4 ⟨v1, v2, v3, v4, N4, rfl, m1, m2, hG4, hS4, hO4⟩) | (refine wpList_store_blk rfl 31 _ _ rfl y4.heap.size (gC (newG V log) v1 v2 v3 v4) (by rfl) (by rfl) gZ (Blk.new _ _ _) infoG rfl (gC_one _ hG4.gr.l.slice_one hG4.gr.d.slice_one hG4.gr.i.slice_one hG4.gr.t.slice_one) ?_))
      have hB54 : Below y1.heap.size y5 y4 := HS5.out.up hO4
      have HZ4 := HZ5.out.trans hB54
      obtain ⟨Y, hY⟩ : ∃ Y, (y4.alloc (.cells #[.slice none 0 0, .slice none 0 0, .int .i64 0, .int .u64 0, .int .i64 0, .int .i64 0, .slice none 0 0, .int .u64 0, .int .u64 0, .slice none 0 0, .bool false] 31)).setRow y4.heap.size (gC (newG V log) v1 v2 v3 v4).toArray = Y := ⟨_, rfl⟩
      have g4 : Blk Y y4.heap.size 31 (gC (newG V log) v1 v2 v3 v4) := by rw [← hY]; exact (Blk.new y4 _ gZ).setRow _
      have hBY : Below y4.heap.size y4 Y := by rw [← hY]; exact below_setRow ((Below.refl _ _).alloc (Nat.le_refl _) _) (Nat.le_refl _) _
      have hsY : Y.heap.size = y4.heap.size + 1 := by rw [← hY, setRow_size]; simp
      have hSv := hS4.var (.cells #[.slice none 0 0, .slice none 0 0, .int .i64 0, .int .u64 0, .int .i64 0, .int .i64 0, .slice none 0 0, .int .u64 0, .int .u64 0, .slice none 0 0, .bool false] 31) (gC (newG V log) v1 v2 v3 v4).toArray
      rw [hY] at hSv
      rw [hY]
      have hGv := hG4.keep fun k _ h2 => hBY.block k h2
      have HZY := Lib.hid (HZ4.trans (hBY.mono HZ4.size))
      have hld := load_ok hSv.cells hSv.fresh (by show ((_ ++ _ : List Acc) ++ _).length < trMax; rw [List.length_append, List.length_append, Z3.out]; decide) 9 0 (by unfold okAt; exact decide_eq_true ⟨by decide, by decide, by decide, by show (0:Int) < (newS K V).atomics.length; have := Z1.out; omega⟩)
      have hat : (((newS K V).notes [⟨9, 8, 0⟩]).note ⟨9, 6, 0⟩).at_ 0 = V.last := ZA.out
      rw [hat] at hld
      have HLD := Lib.hid hld
      have HSv := Lib.hid hSv
      have hszY := hBY.size
      clear hY hBY hS4 hG4 hO4 hB54 HZ4 HZ5 HG5 HS5 hld hat hSv
      go_upto_region 16 with (first | (go_at_call 29; refine (scells_any HSv.out).mono ?_; rintro e w' ⟨rfl, rfl⟩) | (go_at_call 32; refine HLD.out.mono ?_; rintro e y6 ⟨rfl, hC6, hO6⟩))
      have hS6 := HSv.out.mem hC6 hO6 (by simp [Mem.note])
      have hB6 := HSv.out.up hO6
      have u6 := U1.out.go (HZY.out.trans hB6)
      have k6 : Blk y6 y4.heap.size 31 (gC (newG V log) v1 v2 v3 v4) := g4.keep (hO6.block _ g4.lt (fun h => h.2 rfl))
      have r6 : GR y6 (newG V log) v1 v2 v3 v4 := (hGv.keep fun k h1 h2 => hO6.block k h2 (fun h => by have := h.1.2; have := h.2; omega)).gr
      obtain ⟨L5, hL5⟩ : ∃ L5 : Lk, (⟨66, true, 9, fun _ => none⟩ : Lk) = L5 := ⟨_, rfl⟩
      obtain ⟨S5, hS5⟩ : ∃ S5, (((newS K V).notes [⟨9, 8, 0⟩]).note ⟨9, 6, 0⟩).note ⟨9, 1, 0⟩ = S5 := ⟨_, rfl⟩
      obtain ⟨A5, hA5⟩ : ∃ A5, (fun k => (A k ∧ ¬ (N4 ≤ k ∧ k < y4.heap.size)) ∧ k ≠ y4.heap.size) = A5 := ⟨_, rfl⟩
      rw [hS5, hL5, hA5] at hS6
      have p0 : TS2 w K (.slice ao nh co) V (.slice at0 nt ct0) G (.slice l1 n1 c1) (.slice l2 n2 c2) (.slice l3 n3 c3) (.slice l4 n4 c4) M x2.heap.size tl td ti tt y1.heap.size q L5 S5 (newG V log) A5 O y4.heap.size v1 v2 v3 v4 y6.drew := TS2.go ⟨u6, hS6, k6, r6⟩ (Quiet.below ⟨1, rfl⟩ _)
      have HGN := Lib.hid (show ∀ x, Below w.heap.size w x → GR x (newG V log) (.slice none 0 0) (.slice none 0 0) (.slice none 0 0) (.slice at0 nt ct0) from fun x hx => newG_gr V log (HV.out.reads.below hx))
      have HRH := Lib.hid (show ∀ x, Below w.heap.size w x → Calls Tryd.prog 35 #[.agg (cfC K (.slice ao nh co)).toArray, .int .u64 seq] x fun e w' => e = .returned (.int .i64 (stHeight K seq)) ∧ Below x.heap.size x w' from fun x hx => by have h1 := HK.out.reads.below hx; rw [← HNH.out] at h1 ⊢; exact refHeight22 ao co h1 HK.out.good (by have := HN1K.out; omega) seq qb.1 qb.2)
      have HAW2 := Lib.hid (show ∀ x, Below w.heap.size w x → Calls Tryd.prog 14 #[] x fun e w' => e = .returned (.bool true) ∧ Below x.heap.size x w' from fun x hx => awake22 x (HT.out.below hx HT.out.lt))
      clear hS6 hB6 u6 k6 r6 hO6 hC6 hGv g4 hL5 hS5 hA5 HLD HSv HZY U1 HC2 ZA Z1 Z2 Z3 hsY
      refine wp_region_held_drew (S := (TS2 w K (.slice ao nh co) V (.slice at0 nt ct0) G (.slice l1 n1 c1) (.slice l2 n2 c2) (.slice l3 n3 c3) (.slice l4 n4 c4) M x2.heap.size tl td ti tt y1.heap.size q L5 S5 (newG V log) A5 O y4.heap.size v1 v2 v3 v4)) (by kernel_rfl) p0 (fun hHeld => ?_)
      refine wpAnyH_take (i := 0) (v := ?_) rfl (by kernel_rfl) (by kernel_rfl) (by kernel_rfl) (fun _ _ _ h => h) (Or.inl ⟨by kernel_rfl, ?_⟩) (by assumption) ?_
      rotate_left
      · (intro w hSw; (try dsimp only at hSw); go_simp; try with_reducible rfl)
      try simp only [Act.put, List.getElem_toArray, List.getElem_cons_zero, List.getElem_cons_succ, List.setIfInBounds_toArray, List.set_cons_zero, List.set_cons_succ]
      refine wpAnyH_take (i := 1) (v := ?_) rfl (by kernel_rfl) (by kernel_rfl) (by kernel_rfl) (fun _ _ _ h => h) (Or.inl ⟨by kernel_rfl, ?_⟩) (by assumption) ?_
      rotate_left
      · (intro w hSw; (try dsimp only at hSw); go_simp; try with_reducible rfl)
      try simp only [Act.put, List.getElem_toArray, List.getElem_cons_zero, List.getElem_cons_succ, List.setIfInBounds_toArray, List.set_cons_zero, List.set_cons_succ]
      refine wpAnyH_take (i := 2) (v := ?_) rfl (by kernel_rfl) (by kernel_rfl) (by kernel_rfl) (fun _ _ _ h => h) (Or.inl ⟨by kernel_rfl, ?_⟩) (by assumption) ?_
      rotate_left
      · (intro w hSw; (try dsimp only at hSw); go_simp; try with_reducible rfl)
      try simp only [Act.put, List.getElem_toArray, List.getElem_cons_zero, List.getElem_cons_succ, List.setIfInBounds_toArray, List.set_cons_zero, List.set_cons_succ]
      refine wpAnyH_take (i := 3) (v := ?_) rfl (by kernel_rfl) (by kernel_rfl) (by kernel_rfl) (fun _ _ _ h => h) (Or.inl ⟨by kernel_rfl, ?_⟩) (by assumption) ?_
      rotate_left
      · (intro w hSw; (try dsimp only at hSw); go_simp; try with_reducible rfl)
      try simp only [Act.put, List.getElem_toArray, List.getElem_cons_zero, List.getElem_cons_succ, List.setIfInBounds_toArray, List.set_cons_zero, List.set_cons_succ]
      refine wpAnyH_take (i := 4) (v := ?_) rfl (by kernel_rfl) (by kernel_rfl) (by kernel_rfl) (fun _ _ _ h => h) (Or.inl ⟨by kernel_rfl, ?_⟩) (by assumption) ?_
      rotate_left
      · (intro w hSw; (try dsimp only at hSw); go_simp; try with_reducible rfl)
      try simp only [Act.put, List.getElem_toArray, List.getElem_cons_zero, List.getElem_cons_succ, List.setIfInBounds_toArray, List.set_cons_zero, List.set_cons_succ]
      refine wpAnyH_take (i := 5) (v := ?_) rfl (by kernel_rfl) (by kernel_rfl) (by kernel_rfl) (fun _ _ _ h => h) (Or.inl ⟨by kernel_rfl, ?_⟩) (by assumption) ?_
      rotate_left
      · (intro w hSw; (try dsimp only at hSw); go_simp; try with_reducible rfl)
      try simp only [Act.put, List.getElem_toArray, List.getElem_cons_zero, List.getElem_cons_succ, List.setIfInBounds_toArray, List.set_cons_zero, List.set_cons_succ]
      refine wpAnyH_take (i := 6) (v := ?_) rfl (by kernel_rfl) (by kernel_rfl) (by kernel_rfl) (fun _ _ _ h => h) (Or.inl ⟨by kernel_rfl, ?_⟩) (by assumption) ?_
      rotate_left
      · (intro w hSw; (try dsimp only at hSw); go_simp; try with_reducible rfl)
      try simp only [Act.put, List.getElem_toArray, List.getElem_cons_zero, List.getElem_cons_succ, List.setIfInBounds_toArray, List.set_cons_zero, List.set_cons_succ]
      refine wpAnyH_take (i := 7) (v := ?_) rfl (by kernel_rfl) (by kernel_rfl) (by kernel_rfl) (fun _ _ _ h => h) (Or.inl ⟨by kernel_rfl, ?_⟩) (by assumption) ?_
      rotate_left
      · (intro w hSw; (try dsimp only at hSw); go_simp; try with_reducible rfl)
      try simp only [Act.put, List.getElem_toArray, List.getElem_cons_zero, List.getElem_cons_succ, List.setIfInBounds_toArray, List.set_cons_zero, List.set_cons_succ]
      refine wpAnyH_take (i := 8) (v := ?_) rfl (by kernel_rfl) (by kernel_rfl) (by kernel_rfl) (fun _ _ _ h => h) (Or.inl ⟨by kernel_rfl, ?_⟩) (by assumption) ?_
      rotate_left
      · (intro w hSw; (try dsimp only at hSw); go_simp; try with_reducible rfl)
      try simp only [Act.put, List.getElem_toArray, List.getElem_cons_zero, List.getElem_cons_succ, List.setIfInBounds_toArray, List.set_cons_zero, List.set_cons_succ]
      refine wpAnyH_take (i := 9) (v := ?_) rfl (by kernel_rfl) (by kernel_rfl) (by kernel_rfl) (fun _ _ _ h => h) (Or.inl ⟨by kernel_rfl, ?_⟩) (by assumption) ?_
      rotate_left
      · (intro y hSw; have hc := hSw.ts.ver.cell 2 (v := .int .u64 V.last) rfl; go_simp; try with_reducible rfl)
      try simp only [Act.put, List.getElem_toArray, List.getElem_cons_zero, List.getElem_cons_succ, List.setIfInBounds_toArray, List.set_cons_zero, List.set_cons_succ]
      refine wpAnyH_take (i := 10) (v := .bool true) rfl (by kernel_rfl) (by kernel_rfl) (by kernel_rfl) (fun _ _ _ h => h) (Or.inl ⟨by kernel_rfl, ?_⟩) (by assumption) ?_
      · (intro y hSw; (try dsimp only at hSw); go_simp; try with_reducible rfl)
      try simp only [Act.put, List.getElem_toArray, List.getElem_cons_zero, List.getElem_cons_succ, List.setIfInBounds_toArray, List.set_cons_zero, List.set_cons_succ]
      refine wpAnyH_take (i := 11) (v := ?_) rfl (by kernel_rfl) (by kernel_rfl) (by kernel_rfl) (fun _ _ _ h => h) (Or.inl ⟨by kernel_rfl, ?_⟩) (by assumption) ?_
      rotate_left
      · (intro w hSw; (try dsimp only at hSw); go_simp; try with_reducible rfl)
      try simp only [Act.put, List.getElem_toArray, List.getElem_cons_zero, List.getElem_cons_succ, List.setIfInBounds_toArray, List.set_cons_zero, List.set_cons_succ]
      refine wpAnyH_take (i := 12) (v := ?_) rfl (by kernel_rfl) (by kernel_rfl) (by kernel_rfl) (fun _ _ _ h => h) (Or.inl ⟨by kernel_rfl, ?_⟩) (by assumption) ?_
      rotate_left
      · (intro w hSw; (try dsimp only at hSw); go_simp; try with_reducible rfl)
      try simp only [Act.put, List.getElem_toArray, List.getElem_cons_zero, List.getElem_cons_succ, List.setIfInBounds_toArray, List.set_cons_zero, List.set_cons_succ]
      refine wpAnyH_take (i := 13) (v := .agg (gC (newG V log) v1 v2 v3 v4).toArray) rfl (by kernel_rfl) (by kernel_rfl) (by kernel_rfl) (fun _ _ _ h => h) (yieldsIf_load_blk (by kernel_rfl) 31 (.tmp 19) (by rfl) y4.heap.size (by rfl) (gC (newG V log) v1 v2 v3 v4) (fun w h => h.got) _ Tryd.underlying31 (by rfl) infoG) (by assumption) ?_
      try simp only [Act.put, List.getElem_toArray, List.getElem_cons_zero, List.getElem_cons_succ, List.setIfInBounds_toArray, List.set_cons_zero, List.set_cons_succ]
      refine wpAnyH_take (i := 14) (v := .agg (vrC V (.slice at0 nt ct0)).toArray) rfl (by kernel_rfl) (by kernel_rfl) (by kernel_rfl) (fun _ _ _ h => h) (yieldsIf_load_blk (by kernel_rfl) 51 (.tmp 8) (by rfl) (w.heap.size + 1) (by rfl) (vrC V (.slice at0 nt ct0)) (fun w h => h.ts.ver) _ Tryd.underlying51 (by rfl) infoVr) (by assumption) ?_
      try simp only [Act.put, List.getElem_toArray, List.getElem_cons_zero, List.getElem_cons_succ, List.setIfInBounds_toArray, List.set_cons_zero, List.set_cons_succ]
      refine wpAnyH_take (i := 15) (v := ?_) rfl (by kernel_rfl) (by kernel_rfl) (by kernel_rfl) (fun _ _ _ h => h) (Or.inl ⟨by kernel_rfl, ?_⟩) (by assumption) ?_
      rotate_left
      · (intro w hSw; (try dsimp only at hSw); go_simp; try with_reducible rfl)
      try simp only [Act.put, List.getElem_toArray, List.getElem_cons_zero, List.getElem_cons_succ, List.setIfInBounds_toArray, List.set_cons_zero, List.set_cons_succ]
      refine wpAnyH_ready (rs := [16]) (by kernel_rfl) (by simp) ?_
      refine AllReadyH.cons rfl (fun KK hKK => ?_) AllReadyH.nil
      go_simp
      refine (refNew_any log l0 l1').mono ?_
      rintro e s1 ⟨rfl, hD1⟩
      have p1 := p0.go hD1
      refine hKK.out _ _ p1 (fun hHeld1 => ?_)
      clear hKK KK hHeld
      try simp only [Act.put, List.getElem_toArray, List.getElem_cons_zero, List.getElem_cons_succ, List.setIfInBounds_toArray, List.set_cons_zero, List.set_cons_succ]
      refine wpAnyH_ready (rs := [17]) (by kernel_rfl) (by simp) ?_
      refine AllReadyH.cons rfl (fun KK hKK => ?_) AllReadyH.nil
      go_simp
      refine (lowGuarded_same p1.gr (HGN.out _ p1.ts.below) HSN.out).mono ?_
      rintro e s2 ⟨rfl, hD2⟩
      have p2 := p1.go hD2
      refine hKK.out _ _ p2 (fun hHeld2 => ?_)
      clear hKK KK hHeld1
      try simp only [Act.put, List.getElem_toArray, List.getElem_cons_zero, List.getElem_cons_succ, List.setIfInBounds_toArray, List.set_cons_zero, List.set_cons_succ]
      refine wpAnyH_take (i := 18) (v := ?_) rfl (by kernel_rfl) (by kernel_rfl) (by kernel_rfl) (fun _ _ _ h => h) (Or.inl ⟨by kernel_rfl, ?_⟩) (by assumption) ?_
      rotate_left
      · (intro w hSw; (try dsimp only at hSw); go_simp; try with_reducible rfl)
      try simp only [Act.put, List.getElem_toArray, List.getElem_cons_zero, List.getElem_cons_succ, List.setIfInBounds_toArray, List.set_cons_zero, List.set_cons_succ]
      refine wpAnyH_take (i := 19) (v := ?_) rfl (by kernel_rfl) (by kernel_rfl) (by kernel_rfl) (fun _ _ _ h => h) (Or.inl ⟨by kernel_rfl, ?_⟩) (by assumption) ?_
      rotate_left
      · (intro w hSw; (try dsimp only at hSw); go_simp; try with_reducible rfl)
      try simp only [Act.put, List.getElem_toArray, List.getElem_cons_zero, List.getElem_cons_succ, List.setIfInBounds_toArray, List.set_cons_zero, List.set_cons_succ]
      refine wpAnyH_take (i := 20) (v := ?_) rfl (by kernel_rfl) (by kernel_rfl) (by kernel_rfl) (fun _ _ _ h => h) (Or.inl ⟨by kernel_rfl, ?_⟩) (by assumption) ?_
      rotate_left
      · (intro w hSw; (try dsimp only at hSw); go_simp; try with_reducible rfl)
      try simp only [Act.put, List.getElem_toArray, List.getElem_cons_zero, List.getElem_cons_succ, List.setIfInBounds_toArray, List.set_cons_zero, List.set_cons_succ]
      refine wpAnyH_take (i := 21) (v := ?_) rfl (by kernel_rfl) (by kernel_rfl) (by kernel_rfl) (fun _ _ _ h => h) (Or.inl ⟨by kernel_rfl, ?_⟩) (by assumption) ?_
      rotate_left
      · (intro w hSw; (try dsimp only at hSw); go_simp; try with_reducible rfl)
      try simp only [Act.put, List.getElem_toArray, List.getElem_cons_zero, List.getElem_cons_succ, List.setIfInBounds_toArray, List.set_cons_zero, List.set_cons_succ]
      refine wpAnyH_take (i := 23) (v := .agg (cfC K (.slice ao nh co)).toArray) rfl (by kernel_rfl) (by kernel_rfl) (by kernel_rfl) (fun _ _ _ h => h) (yieldsIf_load_blk (by kernel_rfl) 49 (.tmp 7) (by rfl) w.heap.size (by rfl) (cfC K (.slice ao nh co)) (fun w h => h.ts.cfg) _ Tryd.underlying49 (by rfl) infoCf) (by assumption) ?_
      try simp only [Act.put, List.getElem_toArray, List.getElem_cons_zero, List.getElem_cons_succ, List.setIfInBounds_toArray, List.set_cons_zero, List.set_cons_succ]
      refine wpAnyH_take (i := 24) (v := ?_) rfl (by kernel_rfl) (by kernel_rfl) (by kernel_rfl) (fun _ _ _ h => h) (Or.inl ⟨by kernel_rfl, ?_⟩) (by assumption) ?_
      rotate_left
      · (intro w hSw; (try dsimp only at hSw); go_simp; try with_reducible rfl)
      try simp only [Act.put, List.getElem_toArray, List.getElem_cons_zero, List.getElem_cons_succ, List.setIfInBounds_toArray, List.set_cons_zero, List.set_cons_succ]
      refine wpAnyH_ready (rs := [22]) (by kernel_rfl) (by simp) ?_
      refine AllReadyH.cons rfl (fun KK hKK => ?_) AllReadyH.nil
      go_simp
      refine (sheight_any p2.sx (HT.out.below p2.ts.below HT.out.lt) HK.out.good (by have := HNH.out; have := HN1.out; omega) seq qb.1 qb.2).mono ?_
      rintro e s3 ⟨rfl, hD3⟩
      have hD3 := hD3.below s2.heap.size
      have p3 := p2.go hD3
      refine hKK.out _ _ p3 (fun hHeld3 => ?_)
      clear hKK KK hHeld2
      try simp only [Act.put, List.getElem_toArray, List.getElem_cons_zero, List.getElem_cons_succ, List.setIfInBounds_toArray, List.set_cons_zero, List.set_cons_succ]
      refine wpAnyH_ready (rs := [25]) (by kernel_rfl) (by simp) ?_
      refine AllReadyH.cons rfl (fun KK hKK => ?_) AllReadyH.nil
      go_simp
      refine (HRH.out _ p3.ts.below).mono ?_
      rintro e s4 ⟨rfl, hD4⟩
      have p4 := p3.go hD4
      refine hKK.out _ _ p4 (fun hHeld4 => ?_)
      clear hKK KK hHeld3
      try simp only [Act.put, List.getElem_toArray, List.getElem_cons_zero, List.getElem_cons_succ, List.setIfInBounds_toArray, List.set_cons_zero, List.set_cons_succ]
      refine wpAnyH_take (i := 26) (v := .bool true) rfl (by kernel_rfl) (by kernel_rfl) (by kernel_rfl) (fun _ _ _ h => h) (Or.inl ⟨by kernel_rfl, ?_⟩) (by assumption) ?_
      · (intro y hSw; (try dsimp only at hSw); go_simp; try with_reducible rfl)
      try simp only [Act.put, List.getElem_toArray, List.getElem_cons_zero, List.getElem_cons_succ, List.setIfInBounds_toArray, List.set_cons_zero, List.set_cons_succ]
      refine wpAnyH_take (i := 27) (v := ?_) rfl (by kernel_rfl) (by kernel_rfl) (by kernel_rfl) (fun _ _ _ h => h) (Or.inl ⟨by kernel_rfl, ?_⟩) (by assumption) ?_
      rotate_left
      · (intro w hSw; (try dsimp only at hSw); go_simp; try with_reducible rfl)
      try simp only [Act.put, List.getElem_toArray, List.getElem_cons_zero, List.getElem_cons_succ, List.setIfInBounds_toArray, List.set_cons_zero, List.set_cons_succ]
      refine wpAnyH_take (i := 28) (v := ?_) rfl (by kernel_rfl) (by kernel_rfl) (by kernel_rfl) (fun _ _ _ h => h) (Or.inl ⟨by kernel_rfl, ?_⟩) (by assumption) ?_
      rotate_left
      · (intro w hSw; (try dsimp only at hSw); go_simp; try with_reducible rfl)
      try simp only [Act.put, List.getElem_toArray, List.getElem_cons_zero, List.getElem_cons_succ, List.setIfInBounds_toArray, List.set_cons_zero, List.set_cons_succ]
      refine wpAnyH_take (i := 29) (v := ?_) rfl (by kernel_rfl) (by kernel_rfl) (by kernel_rfl) (fun _ _ _ h => h) (Or.inl ⟨by kernel_rfl, ?_⟩) (by assumption) ?_
      rotate_left
      · (intro w hSw; (try dsimp only at hSw); go_simp; try with_reducible rfl)
      try simp only [Act.put, List.getElem_toArray, List.getElem_cons_zero, List.getElem_cons_succ, List.setIfInBounds_toArray, List.set_cons_zero, List.set_cons_succ]
      refine wpAnyH_take (i := 32) (v := ?_) rfl (by kernel_rfl) (by kernel_rfl) (by kernel_rfl) (fun _ _ _ h => h) (Or.inl ⟨by kernel_rfl, ?_⟩) (by assumption) ?_
      rotate_left
      · (intro w hSw; (try dsimp only at hSw); go_simp; try with_reducible rfl)
      try simp only [Act.put, List.getElem_toArray, List.getElem_cons_zero, List.getElem_cons_succ, List.setIfInBounds_toArray, List.set_cons_zero, List.set_cons_succ]
      refine wpAnyH_take (i := 33) (v := ?_) rfl (by kernel_rfl) (by kernel_rfl) (by kernel_rfl) (fun _ _ _ h => h) (Or.inl ⟨by kernel_rfl, ?_⟩) (by assumption) ?_
      rotate_left
      · (intro y hSw; have hc := hSw.ts.cfg.cell 0 (v := .int .u64 K.units) rfl; go_simp; try with_reducible rfl)
      try simp only [Act.put, List.getElem_toArray, List.getElem_cons_zero, List.getElem_cons_succ, List.setIfInBounds_toArray, List.set_cons_zero, List.set_cons_succ]
      refine wpAnyH_ready (rs := [30]) (by kernel_rfl) (by simp) ?_
      refine AllReadyH.cons rfl (fun KK hKK => ?_) AllReadyH.nil
      go_simp
      refine (sconfig_any p4.sx HN1K.out).mono ?_
      rintro e s5 ⟨sh5, rfl, hD5⟩
      have p5 := p4.go hD5
      refine hKK.out _ _ p5 (fun hHeld5 => ?_)
      clear hKK KK hHeld4
      try simp only [Act.put, List.getElem_toArray, List.getElem_cons_zero, List.getElem_cons_succ, List.setIfInBounds_toArray, List.set_cons_zero, List.set_cons_succ]
      have fc5 := field_cfg0 K sh5
      refine wpAnyH_take (i := 31) (v := ?_) rfl (by kernel_rfl) (by kernel_rfl) (by kernel_rfl) (fun _ _ _ h => h) (Or.inl ⟨by kernel_rfl, ?_⟩) (by assumption) ?_
      rotate_left
      · (intro w hSw; (try dsimp only at hSw); go_simp; try with_reducible rfl)
      try simp only [Act.put, List.getElem_toArray, List.getElem_cons_zero, List.getElem_cons_succ, List.setIfInBounds_toArray, List.set_cons_zero, List.set_cons_succ]
      refine wpAnyH_take (i := 34) (v := .bool true) rfl (by kernel_rfl) (by kernel_rfl) (by kernel_rfl) (fun _ _ _ h => h) (Or.inl ⟨by kernel_rfl, ?_⟩) (by assumption) ?_
      · (intro y hSw; (try dsimp only at hSw); go_simp; try with_reducible rfl)
      try simp only [Act.put, List.getElem_toArray, List.getElem_cons_zero, List.getElem_cons_succ, List.setIfInBounds_toArray, List.set_cons_zero, List.set_cons_succ]
      refine wpAnyH_take (i := 35) (v := ?_) rfl (by kernel_rfl) (by kernel_rfl) (by kernel_rfl) (fun _ _ _ h => h) (Or.inl ⟨by kernel_rfl, ?_⟩) (by assumption) ?_
      rotate_left
      · (intro w hSw; (try dsimp only at hSw); go_simp; try with_reducible rfl)
      try simp only [Act.put, List.getElem_toArray, List.getElem_cons_zero, List.getElem_cons_succ, List.setIfInBounds_toArray, List.set_cons_zero, List.set_cons_succ]
      refine wpAnyH_take (i := 36) (v := ?_) rfl (by kernel_rfl) (by kernel_rfl) (by kernel_rfl) (fun _ _ _ h => h) (Or.inl ⟨by kernel_rfl, ?_⟩) (by assumption) ?_
      rotate_left
      · (intro w hSw; (try dsimp only at hSw); go_simp; try with_reducible rfl)
      try simp only [Act.put, List.getElem_toArray, List.getElem_cons_zero, List.getElem_cons_succ, List.setIfInBounds_toArray, List.set_cons_zero, List.set_cons_succ]
      refine wpAnyH_take (i := 37) (v := ?_) rfl (by kernel_rfl) (by kernel_rfl) (by kernel_rfl) (fun _ _ _ h => h) (Or.inl ⟨by kernel_rfl, ?_⟩) (by assumption) ?_
      rotate_left
      · (intro w hSw; (try dsimp only at hSw); go_simp; try with_reducible rfl)
      try simp only [Act.put, List.getElem_toArray, List.getElem_cons_zero, List.getElem_cons_succ, List.setIfInBounds_toArray, List.set_cons_zero, List.set_cons_succ]
      refine wpAnyH_take (i := 40) (v := ?_) rfl (by kernel_rfl) (by kernel_rfl) (by kernel_rfl) (fun _ _ _ h => h) (Or.inl ⟨by kernel_rfl, ?_⟩) (by assumption) ?_
      rotate_left
      · (intro w hSw; (try dsimp only at hSw); go_simp; try with_reducible rfl)
      try simp only [Act.put, List.getElem_toArray, List.getElem_cons_zero, List.getElem_cons_succ, List.setIfInBounds_toArray, List.set_cons_zero, List.set_cons_succ]
      refine wpAnyH_take (i := 41) (v := ?_) rfl (by kernel_rfl) (by kernel_rfl) (by kernel_rfl) (fun _ _ _ h => h) (Or.inl ⟨by kernel_rfl, ?_⟩) (by assumption) ?_
      rotate_left
      · (intro y hSw; have hc := hSw.ts.cfg.cell 4 (v := .bool K.sync) rfl; go_simp; try with_reducible rfl)
      try simp only [Act.put, List.getElem_toArray, List.getElem_cons_zero, List.getElem_cons_succ, List.setIfInBounds_toArray, List.set_cons_zero, List.set_cons_succ]
      refine wpAnyH_ready (rs := [38]) (by kernel_rfl) (by simp) ?_
      refine AllReadyH.cons rfl (fun KK hKK => ?_) AllReadyH.nil
      go_simp
      refine (sconfig_any p5.sx HN1K.out).mono ?_
      rintro e s6 ⟨sh6, rfl, hD6⟩
      have p6 := p5.go hD6
      refine hKK.out _ _ p6 (fun hHeld6 => ?_)
      clear hKK KK hHeld5
      try simp only [Act.put, List.getElem_toArray, List.getElem_cons_zero, List.getElem_cons_succ, List.setIfInBounds_toArray, List.set_cons_zero, List.set_cons_succ]
      have fc6 := field_cfg4 K sh6
      refine wpAnyH_take (i := 39) (v := ?_) rfl (by kernel_rfl) (by kernel_rfl) (by kernel_rfl) (fun _ _ _ h => h) (Or.inl ⟨by kernel_rfl, ?_⟩) (by assumption) ?_
      rotate_left
      · (intro w hSw; (try dsimp only at hSw); go_simp; try with_reducible rfl)
      try simp only [Act.put, List.getElem_toArray, List.getElem_cons_zero, List.getElem_cons_succ, List.setIfInBounds_toArray, List.set_cons_zero, List.set_cons_succ]
      refine wpAnyH_take (i := 42) (v := .bool true) rfl (by kernel_rfl) (by kernel_rfl) (by kernel_rfl) (fun _ _ _ h => h) (Or.inl ⟨by kernel_rfl, ?_⟩) (by assumption) ?_
      · (intro y hSw; (try dsimp only at hSw); cases K.sync <;> (go_simp; try with_reducible rfl))
      try simp only [Act.put, List.getElem_toArray, List.getElem_cons_zero, List.getElem_cons_succ, List.setIfInBounds_toArray, List.set_cons_zero, List.set_cons_succ]
      refine wpAnyH_take (i := 43) (v := ?_) rfl (by kernel_rfl) (by kernel_rfl) (by kernel_rfl) (fun _ _ _ h => h) (Or.inl ⟨by kernel_rfl, ?_⟩) (by assumption) ?_
      rotate_left
      · (intro w hSw; (try dsimp only at hSw); go_simp; try with_reducible rfl)
      try simp only [Act.put, List.getElem_toArray, List.getElem_cons_zero, List.getElem_cons_succ, List.setIfInBounds_toArray, List.set_cons_zero, List.set_cons_succ]
      refine wpAnyH_take (i := 44) (v := ?_) rfl (by kernel_rfl) (by kernel_rfl) (by kernel_rfl) (fun _ _ _ h => h) (Or.inl ⟨by kernel_rfl, ?_⟩) (by assumption) ?_
      rotate_left
      · (intro w hSw; (try dsimp only at hSw); go_simp; try with_reducible rfl)
      try simp only [Act.put, List.getElem_toArray, List.getElem_cons_zero, List.getElem_cons_succ, List.setIfInBounds_toArray, List.set_cons_zero, List.set_cons_succ]
      refine wpAnyH_take (i := 45) (v := ?_) rfl (by kernel_rfl) (by kernel_rfl) (by kernel_rfl) (fun _ _ _ h => h) (Or.inl ⟨by kernel_rfl, ?_⟩) (by assumption) ?_
      rotate_left
      · (intro w hSw; (try dsimp only at hSw); go_simp; try with_reducible rfl)
      try simp only [Act.put, List.getElem_toArray, List.getElem_cons_zero, List.getElem_cons_succ, List.setIfInBounds_toArray, List.set_cons_zero, List.set_cons_succ]
      refine wpAnyH_take (i := 48) (v := ?_) rfl (by kernel_rfl) (by kernel_rfl) (by kernel_rfl) (fun _ _ _ h => h) (Or.inl ⟨by kernel_rfl, ?_⟩) (by assumption) ?_
      rotate_left
      · (intro w hSw; (try dsimp only at hSw); go_simp; try with_reducible rfl)
      try simp only [Act.put, List.getElem_toArray, List.getElem_cons_zero, List.getElem_cons_succ, List.setIfInBounds_toArray, List.set_cons_zero, List.set_cons_succ]
      refine wpAnyH_take (i := 49) (v := ?_) rfl (by kernel_rfl) (by kernel_rfl) (by kernel_rfl) (fun _ _ _ h => h) (Or.inl ⟨by kernel_rfl, ?_⟩) (by assumption) ?_
      rotate_left
      · (intro y hSw; have hc := hSw.ts.cfg.cell 3 (v := .int .i64 K.group) rfl; go_simp; try with_reducible rfl)
      try simp only [Act.put, List.getElem_toArray, List.getElem_cons_zero, List.getElem_cons_succ, List.setIfInBounds_toArray, List.set_cons_zero, List.set_cons_succ]
      refine wpAnyH_ready (rs := [46]) (by kernel_rfl) (by simp) ?_
      refine AllReadyH.cons rfl (fun KK hKK => ?_) AllReadyH.nil
      go_simp
      refine (sconfig_any p6.sx HN1K.out).mono ?_
      rintro e s7 ⟨sh7, rfl, hD7⟩
      have p7 := p6.go hD7
      refine hKK.out _ _ p7 (fun hHeld7 => ?_)
      clear hKK KK hHeld6
      try simp only [Act.put, List.getElem_toArray, List.getElem_cons_zero, List.getElem_cons_succ, List.setIfInBounds_toArray, List.set_cons_zero, List.set_cons_succ]
      have fc7 := field_cfg3 K sh7
      refine wpAnyH_take (i := 47) (v := ?_) rfl (by kernel_rfl) (by kernel_rfl) (by kernel_rfl) (fun _ _ _ h => h) (Or.inl ⟨by kernel_rfl, ?_⟩) (by assumption) ?_
      rotate_left
      · (intro w hSw; (try dsimp only at hSw); go_simp; try with_reducible rfl)
      try simp only [Act.put, List.getElem_toArray, List.getElem_cons_zero, List.getElem_cons_succ, List.setIfInBounds_toArray, List.set_cons_zero, List.set_cons_succ]
      refine wpAnyH_take (i := 50) (v := .bool true) rfl (by kernel_rfl) (by kernel_rfl) (by kernel_rfl) (fun _ _ _ h => h) (Or.inl ⟨by kernel_rfl, ?_⟩) (by assumption) ?_
      · (intro y hSw; (try dsimp only at hSw); go_simp; try with_reducible rfl)
      try simp only [Act.put, List.getElem_toArray, List.getElem_cons_zero, List.getElem_cons_succ, List.setIfInBounds_toArray, List.set_cons_zero, List.set_cons_succ]
      refine wpAnyH_take (i := 51) (v := ?_) rfl (by kernel_rfl) (by kernel_rfl) (by kernel_rfl) (fun _ _ _ h => h) (Or.inl ⟨by kernel_rfl, ?_⟩) (by assumption) ?_
      rotate_left
      · (intro w hSw; (try dsimp only at hSw); go_simp; try with_reducible rfl)
      try simp only [Act.put, List.getElem_toArray, List.getElem_cons_zero, List.getElem_cons_succ, List.setIfInBounds_toArray, List.set_cons_zero, List.set_cons_succ]
      refine wpAnyH_take (i := 52) (v := ?_) rfl (by kernel_rfl) (by kernel_rfl) (by kernel_rfl) (fun _ _ _ h => h) (Or.inl ⟨by kernel_rfl, ?_⟩) (by assumption) ?_
      rotate_left
      · (intro w hSw; (try dsimp only at hSw); go_simp; try with_reducible rfl)
      try simp only [Act.put, List.getElem_toArray, List.getElem_cons_zero, List.getElem_cons_succ, List.setIfInBounds_toArray, List.set_cons_zero, List.set_cons_succ]
      refine wpAnyH_ready (rs := [53]) (by kernel_rfl) (by simp) ?_
      refine AllReadyH.cons rfl (fun KK hKK => ?_) AllReadyH.nil
      go_simp
      refine (HAW2.out _ p7.ts.below).mono ?_
      rintro e s8 ⟨rfl, hD8⟩
      have p8 := p7.go hD8
      refine hKK.out _ _ p8 (fun hHeld8 => ?_)
      clear hKK KK hHeld7
      try simp only [Act.put, List.getElem_toArray, List.getElem_cons_zero, List.getElem_cons_succ, List.setIfInBounds_toArray, List.set_cons_zero, List.set_cons_succ]
      refine wpAnyH_take (i := 54) (v := ?_) rfl (by kernel_rfl) (by kernel_rfl) (by kernel_rfl) (fun _ _ _ h => h) (Or.inl ⟨by kernel_rfl, ?_⟩) (by assumption) ?_
      rotate_left
      · (intro w hSw; (try dsimp only at hSw); go_simp; try with_reducible rfl)
      try simp only [Act.put, List.getElem_toArray, List.getElem_cons_zero, List.getElem_cons_succ, List.setIfInBounds_toArray, List.set_cons_zero, List.set_cons_succ]
      refine wpAnyH_take (i := 55) (v := ?_) rfl (by kernel_rfl) (by kernel_rfl) (by kernel_rfl) (fun _ _ _ h => h) (Or.inl ⟨by kernel_rfl, ?_⟩) (by assumption) ?_
      rotate_left
      · (intro w hSw; (try dsimp only at hSw); go_simp; try with_reducible rfl)
      try simp only [Act.put, List.getElem_toArray, List.getElem_cons_zero, List.getElem_cons_succ, List.setIfInBounds_toArray, List.set_cons_zero, List.set_cons_succ]
      refine wpAnyH_done (by kernel_rfl) ?_ _
      go_wp2_with fail
      go_ret
      exact ⟨rfl, p8.ts.below⟩
end Go.Proofs.YteiaifhnikknbaaDoor
