/- Law 22 StoreGuards: the walk. -/
import Derived.Test.YteiaifhnikknbaaDoorGuardsD
namespace Go.Proofs.YteiaifhnikknbaaDoor
open Go.RowKit

theorem task_in (t : Int) : 0 ≤ (wrap64 (t.tmod 64 + 64)).tmod 64 ∧ (wrap64 (t.tmod 64 + 64)).tmod 64 < 64 := by
  have h1 := Int.tmod_lt_of_pos t (show (0 : Int) < 64 by decide)
  have h2 : -64 < t.tmod 64 := by have := Int.lt_tmod_of_pos t (show (0 : Int) < 64 by decide); omega
  have h3 : wrap64 (t.tmod 64 + 64) = t.tmod 64 + 64 := by unfold wrap64; omega
  rw [h3, Int.tmod_eq_emod_of_nonneg (by omega)]
  omega
def k0V : Ver := ⟨[], 0, 0, 0⟩
def guS0 : Mem := newS smallK k0V
theorem guS0_len : 0 < guS0.atomics.length ∧ 0 < guS0.plains.length ∧ guS0.trace.length = 1 := newS_len smallK_right k0V
/-- The law's first variable, and what lies below it. -/
structure GU (w : World) (G : Gd) (sl sd si st : Value) (x : World) : Prop where
  box : Blk x w.heap.size 31 (gC G sl sd si st)
  below : Below w.heap.size w x
theorem guTrace {w w' : World} {c : CRef} {S : Mem} {A : Nat → Prop} {v : Value} {e : Ending} {pre r : List Acc} {t o : Int} {k : Nat} (hpre : pre.length = 2) (hk : r.length + 2 = k) (hT : S.trace = pre ++ (⟨t, 7, 0⟩ :: ⟨t, 6, 0⟩ :: (r ++ [⟨o, 6, 0⟩]))) (he : e = .returned v) (hp : TracePost w c S A v w') :
    ∃ g cap, e = .returned (.slice (some ⟨g, 0, none⟩) (k + 3) cap) ∧ k + 3 ≤ cap ∧ w.heap.size ≤ g ∧ Below w.heap.size w w' ∧ (w'.cell? ⟨g, 6, none⟩ = some (.int .i64 t) ∧ w'.cell? ⟨g, 7, none⟩ = some (.int .u8 7) ∧ w'.cell? ⟨g, 8, none⟩ = some (.int .i64 0)) ∧ (w'.cell? ⟨g, 9, none⟩ = some (.int .i64 t) ∧ w'.cell? ⟨g, 10, none⟩ = some (.int .u8 6) ∧ w'.cell? ⟨g, 11, none⟩ = some (.int .i64 0)) ∧ (w'.cell? ⟨g, 6 + k * 3, none⟩ = some (.int .i64 o) ∧ w'.cell? ⟨g, 6 + k * 3 + 1, none⟩ = some (.int .u8 6) ∧ w'.cell? ⟨g, 6 + k * 3 + 2, none⟩ = some (.int .i64 0)) := by
  have hlen : S.trace.length = k + 3 := by rw [hT]; simp [hpre]; omega
  have hr := hp.row
  rw [hlen] at hr
  rcases hr.form with ⟨_, h0⟩ | ⟨g, cap, rfl, hA, _, hc⟩
  · omega
  · have hcell : ∀ j u, (accs S.trace)[j]? = some u → w'.cell? ⟨g, j, none⟩ = some u := fun j u hu => by
      have := hr.owns.cells (g := g) rfl j u hu
      rwa [addr_plain, Nat.zero_add] at this
    have hat : ∀ (i : Nat) (a : Acc), S.trace[i]? = some a → w'.cell? ⟨g, i * 3, none⟩ = some (.int .i64 a.task) ∧ w'.cell? ⟨g, i * 3 + 1, none⟩ = some (.int .u8 a.what) ∧ w'.cell? ⟨g, i * 3 + 2, none⟩ = some (.int .i64 a.at_) := fun i a hi => by
      obtain ⟨h1, h2⟩ := List.getElem?_eq_some_iff.1 hi
      obtain ⟨q1, q2, q3⟩ := accs_get S.trace i h1
      rw [h2] at q1 q2 q3
      exact ⟨hcell _ _ q1, hcell _ _ q2, hcell _ _ q3⟩
    have a2 : S.trace[2]? = some ⟨t, 7, 0⟩ := by rw [hT, List.getElem?_append_right (by omega), hpre]; rfl
    have a3 : S.trace[3]? = some ⟨t, 6, 0⟩ := by rw [hT, List.getElem?_append_right (by omega), hpre]; rfl
    have a4 : S.trace[k + 2]? = some ⟨o, 6, 0⟩ := by
      rw [hT, List.getElem?_append_right (by omega), hpre, ← hk, show r.length + 2 + 2 - 2 = r.length + 1 + 1 by omega, List.getElem?_cons_succ, List.getElem?_cons_succ, List.getElem?_append_right (Nat.le_refl _)]
      simp
    refine ⟨g, cap, he, hc, hA, hp.below, hat 2 _ a2, hat 3 _ a3, ?_⟩
    have := hat (k + 2) _ a4
    rw [show (k + 2) * 3 = 6 + k * 3 by omega] at this
    exact this
set_option maxRecDepth 100000 in
set_option maxHeartbeats 8000000 in
theorem storeGuards (w : World) (hT : Tab w) (G : Gd) (sl sd si st : Value) (hG : GdArg w G sl sd si st) (hF : GdFree w sl st) (task other : Int) (ht : fits .i64 task) (ho : fits .i64 other) :
    Calls Tryd.prog 6 #[.agg (gC G sl sd si st).toArray, .int .i64 task, .int .i64 other] w fun e w' => e = .returned (.bool true) ∧ Below w.heap.size w w' := by
  obtain ⟨l1, c1, e1⟩ := hG.gr.l.slice
  obtain ⟨l2, c2, e2⟩ := hG.gr.d.slice
  obtain ⟨l3, c3, e3⟩ := hG.gr.i.slice
  obtain ⟨l4, c4, e4⟩ := hG.gr.t.slice
  obtain ⟨n1, hn1⟩ : ∃ n, G.l.length = n := ⟨_, rfl⟩
  obtain ⟨n2, hn2⟩ : ∃ n, G.done.length = n := ⟨_, rfl⟩
  obtain ⟨n3, hn3⟩ : ∃ n, G.imms.length = n := ⟨_, rfl⟩
  obtain ⟨n4, hn4⟩ : ∃ n, G.tables.length = n := ⟨_, rfl⟩
  rw [hn1] at e1
  rw [hn2] at e2
  rw [hn3] at e3
  rw [hn4] at e4
  subst e1
  subst e2
  subst e3
  subst e4
  have HN1 := Lib.hid hn1
  have HN3 := Lib.hid hn3
  have HN4 := Lib.hid hn4
  clear hn1 hn2 hn3 hn4
  obtain ⟨W, hW⟩ : ∃ W, w.alloc (.cells (gC G (.slice l1 n1 c1) (.slice l2 n2 c2) (.slice l3 n3 c3) (.slice l4 n4 c4)).toArray 31) = W := ⟨_, rfl⟩
  have k1 : Blk W w.heap.size 31 (gC G (.slice l1 n1 c1) (.slice l2 n2 c2) (.slice l3 n3 c3) (.slice l4 n4 c4)) := by rw [← hW]; exact Blk.new _ _ _
  have hBW : Below w.heap.size w W := by rw [← hW]; exact (Below.refl _ _).alloc (Nat.le_refl _) _
  have hfl := few_any (hG.gr.below hBW)
  have haw : ∀ x, Below w.heap.size w x → Calls Tryd.prog 14 #[] x fun e w' => e = .returned (.bool true) ∧ Below w.heap.size w w' := fun x hx => (awake22 x (hT.below hx hT.lt)).mono fun e y ⟨he, hy⟩ => ⟨he, hx.trans (hy.mono hx.size)⟩
  have HAW := Lib.hid haw
  have HG := Lib.hid hG
  have HF := Lib.hid hF
  have tb := fits_i64 ht
  have ob := fits_i64 ho
  clear haw hT hG hF ht ho
  by_cases hf : fewB G = false
  · rw [hf] at hfl
    have HFL := Lib.hid hfl
    clear hfl hf
    go_enter Tryd.func6, Tryd.ntmps6
    go_wp2_with (first | (refine wpList_load_blk rfl 31 _ rfl w.heap.size (by rfl) (gC G (.slice l1 n1 c1) (.slice l2 n2 c2) (.slice l3 n3 c3) (.slice l4 n4 c4)) k1 _ Tryd.underlying31 rfl infoG ?_) | (go_at_call 15; refine HFL.out.mono ?_; rintro e x1 ⟨rfl, hB1⟩) | (go_at_call 14; refine (HAW.out _ (hBW.trans (hB1.mono hBW.size))).mono ?_; rintro e x ⟨rfl, hB⟩))
    go_ret
    exact ⟨rfl, hB⟩
  have hf2 : fewB G = true := by simpa using hf
  rw [hf2] at hfl
  have HFL := Lib.hid hfl
  have hS := fewB_small hf2
  have HSM := Lib.hid hS
  have HS := Lib.hid (hS.mono (m := 1000000) (by decide))
  obtain ⟨g1, g2, g3⟩ := guS0_len
  have Z2 := Lib.hid g2
  have Z3 := Lib.hid g3
  clear hfl hf hf2 hS g1 g2 g3
  go_enter Tryd.func6, Tryd.ntmps6
  go_upto_region 6 with (first | (refine wpList_load_blk rfl 31 _ rfl w.heap.size (by rfl) (gC G (.slice l1 n1 c1) (.slice l2 n2 c2) (.slice l3 n3 c3) (.slice l4 n4 c4)) k1 _ Tryd.underlying31 rfl infoG ?_) | (go_at_call 15; refine HFL.out.mono ?_; rintro e x1 ⟨rfl, hB1⟩) | (go_at_call 40; refine (small_any _).mono ?_; rintro e x2 ⟨sh, rfl, hR2, hB2⟩) | (go_at_call 41; refine (made_yes smallK_right hR2).mono ?_; rintro e x3 ⟨B, q, A, O, rfl, hBb, hS3, hB3⟩))
  have u1 : GU w G (.slice l1 n1 c1) (.slice l2 n2 c2) (.slice l3 n3 c3) (.slice l4 n4 c4) x1 := ⟨k1.keep (hB1.block _ k1.lt), hBW.trans (hB1.mono hBW.size)⟩
  have k3 : Blk x3 w.heap.size 31 (gC G (.slice l1 n1 c1) (.slice l2 n2 c2) (.slice l3 n3 c3) (.slice l4 n4 c4)) := (u1.box.keep (hB2.block _ u1.box.lt)).keep (hB3.block _ (Nat.lt_of_lt_of_le u1.box.lt hB2.size))
  have hB03 : Below w.heap.size w x3 := (u1.below.trans (hB2.mono u1.below.size)).trans (hB3.mono (Nat.le_trans u1.below.size hB2.size))
  have hwB : w.heap.size < B := Nat.lt_of_lt_of_le (Nat.lt_of_lt_of_le u1.box.lt hB2.size) hBb
  have hS3' : Sx B x3 q smallK Lfree guS0 (newG k0V 1) A O := hS3
  clear hS3 hB1 hB2 hB3 hR2 u1 hBb hBW k1 hW
  go_cut [9, 10] (fun s9 s10 wx => ∃ t o : Int, s9 = .int .i64 t ∧ s10 = .int .i64 o ∧ 0 ≤ t ∧ t < 64 ∧ 0 ≤ o ∧ o < 64 ∧ x3 = wx)
  case first =>
    go_wp2_with fail
    go_meet
    exact ⟨_, _, rfl, rfl, (task_in task).1, (task_in task).2, (task_in other).1, (task_in other).2, rfl⟩
  case rest =>
  obtain ⟨t, o, rfl, rfl, t0, t1, o0, o1, rfl⟩ := hcut
  clear tb ob
  have hB3w : Below w.heap.size w x3 := hB03
  have gS : (newG k0V 1).Small 1000000 := ⟨by decide, by decide, by decide, by decide⟩
  have hg := get_no hS3' gS t (fun h => by cases h) Z2.out (by rw [Z3.out]; decide) (fun h => by cases h.1)
  have HGN := Lib.hid hg
  have HS3 := Lib.hid hS3'
  have HB3 := Lib.hid hB03
  clear hg hS3' hB03 hB3w
  go_upto_region 8 with (first | (go_at_call 31; refine HGN.out.mono ?_; rintro e x4 ⟨u1, u2, u3, u4, N4, rfl, m1, m2, hG4, hS4, hO4⟩) | (refine wpList_store_blk rfl 31 _ _ rfl x4.heap.size (gC gz u1 u2 u3 u4) (by rfl) (by rfl) gZ (Blk.new _ _ _) infoG rfl (gC_one _ hG4.gr.l.slice_one hG4.gr.d.slice_one hG4.gr.i.slice_one hG4.gr.t.slice_one) ?_))
  obtain ⟨X4, hX4⟩ : ∃ X, (x4.alloc (.cells #[.slice none 0 0, .slice none 0 0, .int .i64 0, .int .u64 0, .int .i64 0, .int .i64 0, .slice none 0 0, .int .u64 0, .int .u64 0, .slice none 0 0, .bool false] 31)).setRow x4.heap.size (gC gz u1 u2 u3 u4).toArray = X := ⟨_, rfl⟩
  have hS4v := hS4.var (.cells #[.slice none 0 0, .slice none 0 0, .int .i64 0, .int .u64 0, .int .i64 0, .int .i64 0, .slice none 0 0, .int .u64 0, .int .u64 0, .slice none 0 0, .bool false] 31) (gC gz u1 u2 u3 u4).toArray
  have hB4 : Below B x3 X4 := by rw [← hX4]; exact (HS3.out.up hO4).trans ((below_setRow ((Below.refl _ _).alloc (Nat.le_refl _) _) (Nat.le_refl _) _).mono (Nat.le_trans HS3.out.bs hO4.size))
  rw [hX4] at hS4v
  rw [hX4]
  have k4 : Blk X4 w.heap.size 31 (gC G (.slice l1 n1 c1) (.slice l2 n2 c2) (.slice l3 n3 c3) (.slice l4 n4 c4)) := k3.keep (hB4.block _ hwB)
  have hBw4 : Below w.heap.size w X4 := HB3.out.trans (hB4.mono (by omega))
  have y0 := k4.cell 0 (v := .slice l1 n1 c1) rfl
  have y1 := k4.cell 1 (v := .slice l2 n2 c2) rfl
  have y2 := k4.cell 2 rfl
  have y3 := k4.cell 3 rfl
  have y4 := k4.cell 4 rfl
  have y5 := k4.cell 5 rfl
  have y6 := k4.cell 6 (v := .slice l3 n3 c3) rfl
  have y7 := k4.cell 7 rfl
  have y8 := k4.cell 8 rfl
  have y9 := k4.cell 9 (v := .slice l4 n4 c4) rfl
  have y10 := k4.cell 10 rfl
  have HSN := Lib.hid (set_no hS4v #[.slice l1 n1 c1, .slice l2 n2 c2, .int .i64 G.group, .int .u64 G.last, .int .i64 G.bad, .int .i64 G.mem, .slice l3 n3 c3, .int .u64 G.log, .int .u64 G.next, .slice l4 n4 c4, .bool G.closed] t rfl)
  have HBw4 := Lib.hid hBw4
  have HK4 := Lib.hid k4
  clear hX4 hG4 hS4 hO4 hB4 hS4v HGN k3 k4 hBw4
  go_upto_region 10 with (first | (go_at_call 37; refine HSN.out.mono ?_; rintro e x5 ⟨rfl, hS5, hB5⟩) | (go_at_call 28; refine (slocks_any hS5).mono ?_; rintro e w' ⟨rfl, rfl⟩) | (go_at_call 30; refine (slock_free hS5 t t0 t1 (by rw [Z3.out]; decide)).mono ?_; rintro e x6 ⟨rfl, hS6, hB6, -⟩))
  have k6 : Blk x6 w.heap.size 31 (gC G (.slice l1 n1 c1) (.slice l2 n2 c2) (.slice l3 n3 c3) (.slice l4 n4 c4)) := (HK4.out.keep (hB5.block _ HK4.out.lt)).keep (hB6.block _ hwB)
  have hBw6 : Below w.heap.size w x6 := (HBw4.out.trans (hB5.mono HBw4.out.size)).trans (hB6.mono (by omega))
  have HAN := Lib.hid (anew_any (HG.out.gr.below hBw6) HS.out)
  have HS6 := Lib.hid hS6
  have HBw6 := Lib.hid hBw6
  clear y0 y1 y2 y3 y4 y5 y6 y7 y8 y9 y10 hS5 hS6 hB5 hB6 HK4 HSN HBw4 hBw6 HS3 HB3
  go_upto_region 11 with (first | (refine wpList_load_blk rfl 31 _ rfl w.heap.size (by rfl) (gC G (.slice l1 n1 c1) (.slice l2 n2 c2) (.slice l3 n3 c3) (.slice l4 n4 c4)) k6 _ Tryd.underlying31 rfl infoG ?_) | (go_at_call 16; refine HAN.out.mono ?_; rintro e x7 ⟨tl, td, ti, tt, rfl, hO7, hB7⟩) | (refine wpList_store_blk rfl 31 _ _ rfl x7.heap.size (gC G tl td ti tt) (by rfl) (by rfl) gZ (Blk.new _ _ _) infoG rfl (gC_one _ hO7.l.slice_one hO7.d.slice_one hO7.i.slice_one hO7.t.slice_one) ?_))
  obtain ⟨X7, hX7⟩ : ∃ X, (x7.alloc (.cells #[.slice none 0 0, .slice none 0 0, .int .i64 0, .int .u64 0, .int .i64 0, .int .i64 0, .slice none 0 0, .int .u64 0, .int .u64 0, .slice none 0 0, .bool false] 31)).setRow x7.heap.size (gC G tl td ti tt).toArray = X := ⟨_, rfl⟩
  have hB77 : Below x7.heap.size x7 X7 := by rw [← hX7]; exact below_setRow ((Below.refl _ _).alloc (Nat.le_refl _) _) (Nat.le_refl _) _
  have kw : Blk X7 x7.heap.size 31 (gC G tl td ti tt) := by rw [← hX7]; exact (Blk.new x7 31 gZ).setRow _
  have hsX7 : X7.heap.size = x7.heap.size + 1 := by rw [← hX7, setRow_size]; simp
  have hS7 := ((HS6.out.aside hB7).var (.cells #[.slice none 0 0, .slice none 0 0, .int .i64 0, .int .u64 0, .int .i64 0, .int .i64 0, .slice none 0 0, .int .u64 0, .int .u64 0, .slice none 0 0, .bool false] 31) (gC G tl td ti tt).toArray)
  rw [hX7] at hS7
  rw [hX7]
  have hB67 : Below x6.heap.size x6 X7 := hB7.trans (hB77.mono hB7.size)
  have k7 := k6.keep (hB67.block _ k6.lt)
  have hb67 : x6.heap.size ≤ x7.heap.size := hB7.size
  have hV7 : GV w G (.slice l1 n1 c1) (.slice l2 n2 c2) (.slice l3 n3 c3) (.slice l4 n4 c4) x6.heap.size x7.heap.size tl td ti tt X7 := ⟨k7, kw, GO.below ⟨hO7.l.mono fun k h1 h2 => ⟨h2, h1⟩, hO7.d.mono fun k h1 h2 => ⟨h2, h1⟩, hO7.i.mono fun k h1 h2 => ⟨h2, h1⟩, hO7.t.mono fun k h1 h2 => ⟨h2, h1⟩⟩ hB77⟩
  have hqp : q.p < x6.heap.size := by obtain ⟨_, _, _, _, _, _, h1, _⟩ := HS6.out.st.ex; exact h1.lt
  have hrp6 : B ≤ q.r.p ∧ q.r.p < x6.heap.size := ⟨HS6.out.bp, by obtain ⟨_, _, hk⟩ := HS6.out.lk; exact hk.main.lt⟩
  have hrq6 : B ≤ q.r.q ∧ q.r.q < x6.heap.size := ⟨HS6.out.bq, by obtain ⟨_, _, hk⟩ := HS6.out.lk; exact hk.map.lt⟩
  have hqB : B ≤ q.p := (HS6.out.off _ HS6.out.st.op).1
  have hBw7 : Below w.heap.size w X7 := HBw6.out.trans (hB67.mono HBw6.out.size)
  have htr := trace_ok hS7.cells (by show (_ ++ _ : List Acc).length < trMax; rw [List.length_append, Z3.out]; show 1 + 1 < trMax; decide)
  have hl2 : (guS0.note ⟨t, 8, 0⟩).trace.length = 2 := by show (_ ++ _ : List Acc).length = 2; rw [List.length_append, Z3.out]; rfl
  have HTR := Lib.hid (show Calls Tryd.prog 42 #[.pointer (some ⟨q.r.c.p, 0, none⟩)] X7 fun e w' => ∃ ao c, e = .returned (.slice ao 2 c) ∧ Below X7.heap.size X7 w' from htr.mono fun e w' ⟨v, he, hp⟩ => by
    obtain ⟨ao, c, hv⟩ := hp.row.slice
    exact ⟨ao, c, by rw [he, hv, hl2], hp.below⟩)
  have HS7 := Lib.hid hS7
  have HBw7 := Lib.hid hBw7
  clear htr hl2 hS7 hX7 hO7 hB7 hB77 hB67 HAN HS6 HBw6 k6 hBw7
  go_upto_region 12 with (first | (go_at_call 29; refine (scells_any HS7.out).mono ?_; rintro e w' ⟨rfl, rfl⟩) | (go_at_call 42; refine HTR.out.mono ?_; rintro e x8 ⟨tra, trc, rfl, hB8⟩))
  have hS8 := HS7.out.below hB8
  have hV8 := hV7.keep hb67 (fun k _ h2 => hB8.block k h2)
  have k8 := hV8.box
  have hBw8 := HBw7.out.trans (hB8.mono HBw7.out.size)
  have hgr8 : ∀ w', Only _ x8 w' → GR w' G (.slice l1 n1 c1) (.slice l2 n2 c2) (.slice l3 n3 c3) (.slice l4 n4 c4) := fun w' h => HG.out.gr.below (hBw8.trans (h.below hBw8.size fun k hk hA => by have := hS8.base k hA; omega))
  have hst := set_yes hS8 hgr8 HS.out t (fun _ => ⟨t0, t1⟩) Z2.out (by show (_ ++ _ : List Acc).length < trMax; rw [List.length_append, Z3.out]; show 1 + 1 < trMax; decide) ⟨rfl, rfl⟩
  have HST := Lib.hid hst
  have HS8 := Lib.hid hS8
  have HV8 := Lib.hid hV8
  have HBw8 := Lib.hid hBw8
  clear hst hS8 hV8 hBw8 hgr8 HS7 HTR HBw7 k7 kw hV7 hB8
  go_upto_region 14 with (first | (refine wpList_load_blk rfl 31 _ rfl w.heap.size (by rfl) (gC G (.slice l1 n1 c1) (.slice l2 n2 c2) (.slice l3 n3 c3) (.slice l4 n4 c4)) k8 _ Tryd.underlying31 rfl infoG ?_) | (go_at_call 37; refine HST.out.mono ?_; intro e x9 h9; unfold SetP at h9; obtain ⟨A9, O9, rfl, hS9, hA9, hO9⟩ := h9))
  have hA9' : ∀ k, A9 k → B ≤ k ∧ ¬ (x6.heap.size ≤ k ∧ k ≤ x7.heap.size) := fun k h => by have h1 := hA9 k h; have h2 := HS8.out.base k h1; have h3 := h1.1.2; have h4 := h1.2; omega
  have hV9 := HV8.out.keep (y := x9) hb67 (fun k hk h2 => hO9.block k h2 (fun h => by
    rcases h with h | h
    · have h2 := HS8.out.base k h; have h3 := h.1.2; have h4 := h.2; omega
    · omega))
  have hBw9 : Below w.heap.size w x9 := HBw8.out.trans (hO9.below HBw8.out.size (fun k hk h => by
    rcases h with h | h
    · have := HS8.out.base k h; omega
    · omega))
  have hgT := HG.out.gr.t
  have hgL := HG.out.gr.l
  rw [HN4.out] at hgT
  rw [HN1.out] at hgL
  obtain ⟨tb, tz, hRT, cT⟩ := rowW_of hgT HF.out.t
  obtain ⟨lb, lz, hRL, cL⟩ := rowW_of hgL HF.out.l
  have h2r : TwoRows w G tb tz lb lz := ⟨fun k hk => by rw [numT_at G k hk, Nat.add_assoc]; exact cT _ _ (mts_getA _ k hk), fun k hk => by rw [opsL_at G k hk, Nat.add_assoc]; exact cL _ _ (mbs_get1 _ k hk)⟩
  have hM9 : Mods w.heap.size w x9 (fun _ _ => none) := (Mods.refl _ _).below hBw9
  have l0 : Lp w.heap.size w x9 x9 (muT G tb tz 0) := by unfold muT; rw [strideM_zero]; exact Lp.refl hM9
  have n1s : n1 ≤ 100 := by have := HSM.out.l; have := HN1.out; omega
  have n3s : n3 ≤ 100 := by have := HSM.out.i; have := HN3.out; omega
  have n4s : n4 ≤ 100 := by have := HSM.out.t; have := HN4.out; omega
  have c9 := hV9.box.cell 9 (v := .slice l4 n4 c4) rfl
  have HO9 := Lib.hid (show Only (fun _ => True) w x9 from (Only.of_below hBw9))
  have HS9 := Lib.hid hS9
  have HV9 := Lib.hid hV9
  have HA9 := Lib.hid hA9'
  have HRT := Lib.hid hRT
  have HRL := Lib.hid hRL
  have H2R := Lib.hid h2r
  clear hS9 hV9 hA9 hA9' hBw9 hgT hgL cT cL hRT hRL h2r hM9 hO9 HS8 HV8 HBw8 HST
  go_wp2_with fail
  clear c9
  go_loopw [81] (fun i wx => ∃ k : Nat, k ≤ n4 ∧ i = .int .i64 k ∧ Lp w.heap.size w x9 wx (muT G tb tz k)) (fun i _ => n4 - (intOf i).toNat)
  case atStart => exact ⟨0, by omega, rfl, l0⟩
  case round =>
  clear l0
  obtain ⟨k, hk, rfl, hl⟩ := hrel
  have kb := hl.blk HV9.out.box (Nat.le_refl _)
  by_cases hlt : k < n4
  · have hkl : k < G.tables.length := by rw [HN4.out]; exact hlt
    obtain ⟨rfl, r1, r2, r3⟩ := hl.round HRT.out hlt (by decide) (H2R.out.t k hkl) (v := .int .u64 (numT G k)) rfl
    have c9 := kb.cell 9 (v := .slice (some ⟨tb, tz, none⟩) n4 c4) rfl
    simp only [Nat.add_zero] at r1 r2
    have R3 := Lib.hid r3
    clear r3 hl kb hkl
    go_wp2_with fail
    go_roundw
    case rel => exact ⟨k + 1, by omega, by go_num, R3.out⟩
    case measure => simp [intOf]; omega
  obtain rfl : n4 = k := by omega
  have c0 := kb.cell 0 (v := .slice l1 n1 c1) rfl
  have l1' : Lp w.heap.size w x9 wr (muL G tb tz lb lz 0) := by unfold muL; rw [strideM_zero, HN4.out]; exact hl
  clear hl kb
  go_wp2_with fail
  clear c0
  go_loopw [98] (fun i wx => ∃ j : Nat, j ≤ n1 ∧ i = .int .i64 j ∧ Lp w.heap.size w x9 wx (muL G tb tz lb lz j)) (fun i _ => n1 - (intOf i).toNat)
  case atStart => exact ⟨0, by omega, rfl, l1'⟩
  case round =>
  clear l1'
  obtain ⟨j, hj, rfl, hl⟩ := hrel
  have kb := hl.blk HV9.out.box (Nat.le_refl _)
  by_cases hlj : j < n1
  · have hjl : j < G.l.length := by rw [HN1.out]; exact hlj
    obtain ⟨rfl, r1, r2, r3⟩ := hl.round HRL.out hlj (by decide) (H2R.out.l j hjl) (v := .int .i64 (opsL G j)) (by rw [H2R.out.tNone hjl]; rfl)
    have c0 := kb.cell 0 (v := .slice (some ⟨lb, lz, none⟩) n1 c1) rfl
    have R3 := Lib.hid r3
    clear r3 hl kb hjl
    go_wp2_with fail
    go_roundw
    case rel => exact ⟨j + 1, by omega, by go_num, R3.out⟩
    case measure => simp [intOf]; omega
  obtain rfl : n1 = j := by omega
  clear kb
  obtain ⟨z10, rfl⟩ : ∃ z, z = wr := ⟨_, rfl⟩
  have hM10 : Mods w.heap.size w z10 (muL G tb tz lb lz G.l.length) := by rw [HN1.out]; exact hl.mods
  have hP10 : ∀ k, k < w.heap.size → ¬ LA q.r A9 k ∧ ¬ O9 k := by
    intro k hk
    have h1 := HS9.out.bp
    have h2 := HS9.out.bq
    refine ⟨fun h => ?_, fun h => by have := (HS9.out.off k h).1; omega⟩
    rcases h with h | h | h
    · have := HA9.out k h; omega
    · omega
    · omega
  have hS10 := HS9.out.apart hl.only hP10
  have hV10 := HV9.out.keep (y := z10) hb67 (fun k hk h2 => hl.only.block k h2 (by omega))
  have hbw : w.heap.size ≤ z10.heap.size := Nat.le_trans (Nat.le_of_lt HV9.out.box.lt) hl.only.size
  obtain ⟨m10, hm10, hk10⟩ := hS10.lk
  have hrp := hk10.main.lt
  have hrq := hk10.map.lt
  have S2 : Mem := (guS0.note ⟨t, 8, 0⟩).note ⟨t, 7, 0⟩
  clear S2
  obtain ⟨S2, hS2⟩ : ∃ S2, (guS0.note ⟨t, 8, 0⟩).note ⟨t, 7, 0⟩ = S2 := ⟨_, rfl⟩
  have t2 : S2.trace = guS0.trace ++ [⟨t, 8, 0⟩, ⟨t, 7, 0⟩] := by rw [← hS2]; simp [Mem.note]
  have p2 : 0 < S2.plains.length := by rw [← hS2]; exact Z2.out
  have t2l : S2.trace.length = 3 := by rw [t2, List.length_append, Z3.out]; rfl
  rw [hS2] at hS10
  have hgt := get_own hS10 HS.out t (fun _ => ⟨t0, t1⟩) p2 (by rw [t2l]; decide) ⟨rfl, rfl⟩
  have HGT := Lib.hid hgt
  have HOL := Lib.hid (show ∀ k, O9 k → k < z10.heap.size from fun k h => (hS10.off k h).2.1)
  have HZA := Lib.hid (show GZa w x6.heap.size x7.heap.size B q A9 from ⟨HA9.out, hwB, hb67, hrp6, hrq6⟩)
  have hx7 : x7.heap.size < z10.heap.size := hV10.was.lt
  have HO10 := Lib.hid (show Only (fun _ => True) w z10 from HO9.out.trans (hl.only.mono fun _ _ _ => trivial))
  have HS10 := Lib.hid hS10
  have HV10 := Lib.hid hV10
  have HM10 := Lib.hid hM10
  have HP2 := Lib.hid p2
  have HT2 := Lib.hid t2
  have HT2L := Lib.hid t2l
  clear hl hgt hS10 hV10 hM10 hP10 hk10 hm10 HV9 HS9 hS2 t2 p2 t2l
  go_upto_region 25 with (first | (go_at_call 31; refine HGT.out.mono ?_; rintro e x11 ⟨v1, v2, v3, v4, N11, rfl, m1, m2, hG11, hS11, hO11⟩) | (refine wpList_store_blk rfl 31 _ _ rfl x11.heap.size (gC G v1 v2 v3 v4) (by rfl) (by rfl) gZ (Blk.new _ _ _) infoG rfl (gC_one _ hG11.l.slice_one hG11.d.slice_one hG11.i.slice_one hG11.t.slice_one) ?_))
  obtain ⟨X11, hX11⟩ : ∃ X, (x11.alloc (.cells #[.slice none 0 0, .slice none 0 0, .int .i64 0, .int .u64 0, .int .i64 0, .int .i64 0, .slice none 0 0, .int .u64 0, .int .u64 0, .slice none 0 0, .bool false] 31)).setRow x11.heap.size (gC G v1 v2 v3 v4).toArray = X := ⟨_, rfl⟩
  have hB11 : Below x11.heap.size x11 X11 := by rw [← hX11]; exact below_setRow ((Below.refl _ _).alloc (Nat.le_refl _) _) (Nat.le_refl _) _
  have kx : Blk X11 x11.heap.size 31 (gC G v1 v2 v3 v4) := by rw [← hX11]; exact (Blk.new x11 31 gZ).setRow _
  have hS11v := hS11.var (.cells #[.slice none 0 0, .slice none 0 0, .int .i64 0, .int .u64 0, .int .i64 0, .int .i64 0, .slice none 0 0, .int .u64 0, .int .u64 0, .slice none 0 0, .bool false] 31) (gC G v1 v2 v3 v4).toArray
  rw [hX11] at hS11v
  rw [hX11]
  have hO1x : ∀ k, (k < w.heap.size + 1 ∨ (x6.heap.size ≤ k ∧ k ≤ x7.heap.size)) → k < z10.heap.size → X11.heap[k]? = z10.heap[k]? := fun k hk h2 => (hB11.block k (by have := hO11.size; omega)).trans (hO11.block k h2 (fun h => by have := HA9.out k h; omega))
  have hV11 := HV10.out.keep (y := X11) hb67 (fun k hk h2 => hO1x k (by omega) h2)
  have hM11 := HM10.out.other (y := X11) (fun k hk => hO1x k (by omega) (by omega))
  have hGX : GO X11 G v1 v2 v3 v4 (fun k => N11 ≤ k ∧ k < x11.heap.size) := GO.below ⟨hG11.l.mono fun k h1 h2 => ⟨h2, h1⟩, hG11.d.mono fun k h1 h2 => ⟨h2, h1⟩, hG11.i.mono fun k h1 h2 => ⟨h2, h1⟩, hG11.t.mono fun k h1 h2 => ⟨h2, h1⟩⟩ hB11
  have hlg := lowGuarded_same (w := X11) hGX.gr hV11.wo.gr HS.out
  obtain ⟨i1, j1, q1⟩ := hGX.l.slice
  obtain ⟨i2, j2, q2⟩ := hGX.d.slice
  obtain ⟨i3, j3, q3⟩ := hGX.i.slice
  obtain ⟨i4, j4, q4⟩ := hGX.t.slice
  obtain ⟨i5, j5, q5⟩ := hV11.wo.l.slice
  obtain ⟨i6, j6, q6⟩ := hV11.wo.d.slice
  obtain ⟨i7, j7, q7⟩ := hV11.wo.i.slice
  obtain ⟨i8, j8, q8⟩ := hV11.wo.t.slice
  subst q1
  subst q2
  subst q3
  subst q4
  subst q5
  subst q6
  subst q7
  subst q8
  have a0 := kx.cell 0 (v := .slice i1 G.l.length j1) rfl
  have a1 := kx.cell 1 (v := .slice i2 G.done.length j2) rfl
  have a2 := kx.cell 2 rfl
  have a3 := kx.cell 3 rfl
  have a4 := kx.cell 4 rfl
  have a5 := kx.cell 5 rfl
  have a6 := kx.cell 6 (v := .slice i3 G.imms.length j3) rfl
  have a7 := kx.cell 7 rfl
  have a8 := kx.cell 8 rfl
  have a9 := kx.cell 9 (v := .slice i4 G.tables.length j4) rfl
  have a10 := kx.cell 10 rfl
  have b0 := hV11.was.cell 0 (v := .slice i5 G.l.length j5) rfl
  have b1 := hV11.was.cell 1 (v := .slice i6 G.done.length j6) rfl
  have b2 := hV11.was.cell 2 rfl
  have b3 := hV11.was.cell 3 rfl
  have b4 := hV11.was.cell 4 rfl
  have b5 := hV11.was.cell 5 rfl
  have b6 := hV11.was.cell 6 (v := .slice i7 G.imms.length j7) rfl
  have b7 := hV11.was.cell 7 rfl
  have b8 := hV11.was.cell 8 rfl
  have b9 := hV11.was.cell 9 (v := .slice i8 G.tables.length j8) rfl
  have b10 := hV11.was.cell 10 rfl
  have HLG := Lib.hid (show Calls Tryd.prog 21 #[.agg #[.slice i1 G.l.length j1, .slice i2 G.done.length j2, .int .i64 G.group, .int .u64 G.last, .int .i64 G.bad, .int .i64 G.mem, .slice i3 G.imms.length j3, .int .u64 G.log, .int .u64 G.next, .slice i4 G.tables.length j4, .bool G.closed], .agg #[.slice i5 G.l.length j5, .slice i6 G.done.length j6, .int .i64 G.group, .int .u64 G.last, .int .i64 G.bad, .int .i64 G.mem, .slice i7 G.imms.length j7, .int .u64 G.log, .int .u64 G.next, .slice i8 G.tables.length j8, .bool G.closed]] X11 fun e w' => e = .returned (.bool true) ∧ Below X11.heap.size X11 w' from hlg)
  have HO11 := Lib.hid (show Only (fun _ => True) w X11 from (HO10.out.trans (hO11.mono fun _ _ _ => trivial)).trans (Only.of_below hB11))
  have HS11 := Lib.hid hS11v
  have HV11 := Lib.hid hV11
  have HM11 := Lib.hid hM11
  have HGX := Lib.hid hGX
  have hX1s : x11.heap.size < X11.heap.size := kx.lt
  have hwr11 : z10.heap.size ≤ N11 := m1
  clear hX11 hG11 hS11 hO11 hB11 hS11v hO1x hV11 hM11 hlg hGX HGT HS10 HV10 HM10
  go_upto_region 26 with (go_at_call 21; refine HLG.out.mono ?_; rintro e x12 ⟨rfl, hB12⟩)
  have kx12 := kx.keep (hB12.block _ kx.lt)
  have hV12 := HV11.out.keep (y := x12) hb67 (fun k _ h2 => hB12.block k h2)
  have hM12 := HM11.out.below (hB12.mono (by omega))
  have hS12 := HS11.out.below hB12
  have hi12 := HGX.out.i.below hB12
  have HRI := rowW_own hi12
  have a6' := kx12.cell 6 (v := .slice i3 G.imms.length j3) rfl
  have HO12 := Lib.hid (show Only (fun _ => True) w x12 from HO11.out.trans (Only.of_below hB12))
  have HS12 := Lib.hid hS12
  have HV12 := Lib.hid hV12
  have HM12 := Lib.hid hM12
  have HK12 := Lib.hid kx12
  have hx12 : X11.heap.size ≤ x12.heap.size := hB12.size
  clear a0 a1 a2 a3 a4 a5 a6 a7 a8 a9 a10 b0 b1 b2 b3 b4 b5 b6 b7 b8 b9 b10 kx hB12 kx12 hV12 hM12 hS12 hi12 HS11 HV11 HM11 HGX HLG
  obtain ⟨ai, ci, ib, io, hv, hRI, cI, hIA⟩ := HRI
  cases hv
  rw [HN3.out] at a6' hRI hIA
  have hMi : Lp x12.heap.size x12 x12 x12 (strideM ib (io + 1) 2 0 (fun k => .int .u64 (IntKind.u64.wrap (logI G k + 1))) (fun _ _ => none)) := by rw [strideM_zero]; exact Lp.refl (Mods.refl _ _)
  have hoff : ∀ k wx, k ≤ n3 → Mods x12.heap.size x12 wx (strideM ib (io + 1) 2 k (fun k => .int .u64 (IntKind.u64.wrap (logI G k + 1))) (fun _ _ => none)) → ∀ c, c < x12.heap.size → ¬ (N11 ≤ c ∧ c < x11.heap.size) → wx.heap[c]? = x12.heap[c]? :=
    fun k wx hk hm c hc hn => hm.off hc (fun j => strideM_skip (by decide) (fun i hi e => hn (e.1 ▸ hIA (by omega))))
  have HRI := Lib.hid hRI
  have HCI := Lib.hid cI
  have HOFF := Lib.hid hoff
  clear hRI cI hoff hIA
  go_wp2_with fail
  clear a6'
  go_loopw [128] (fun i wx => ∃ k : Nat, k ≤ n3 ∧ i = .int .i64 k ∧ Lp x12.heap.size x12 x12 wx (strideM ib (io + 1) 2 k (fun k => .int .u64 (IntKind.u64.wrap (logI G k + 1))) (fun _ _ => none))) (fun i _ => n3 - (intOf i).toNat)
  case atStart => exact ⟨0, by omega, rfl, hMi⟩
  case round =>
  clear hMi
  obtain ⟨k, hk, rfl, hl⟩ := hrel
  by_cases hlt : k < n3
  · have hkl : k < G.imms.length := by rw [HN3.out]; exact hlt
    have kb := HK12.out.keep (HOFF.out k wr hk hl.mods _ HK12.out.lt (by omega))
    rw [HN3.out] at kb
    have hu := HCI.out _ _ (ims_get1 _ k hkl)
    rw [← logI_at G k hkl, ← Nat.add_assoc] at hu
    obtain ⟨rfl, r1, r2, r3⟩ := hl.round HRI.out hlt (by decide) hu (v := .int .u64 (logI G k)) rfl
    have c6 := kb.cell 6 (v := .slice (some ⟨ib, io, none⟩) n3 j3) rfl
    have R3 := Lib.hid r3
    clear r3 hl kb hkl hu
    go_wp2_with fail
    go_roundw
    case rel => exact ⟨k + 1, by omega, by go_num, R3.out⟩
    case measure => simp [intOf]; omega
  obtain rfl : n3 = k := by omega
  obtain ⟨z13, rfl⟩ : ∃ z, z = wr := ⟨_, rfl⟩
  have hO13 : Only (fun c => N11 ≤ c ∧ c < x11.heap.size) x12 z13 := ⟨hl.only.os, hl.only.tape, hl.only.output, hl.only.size, fun c hc hn => HOFF.out n3 z13 (Nat.le_refl _) hl.mods c hc hn⟩
  have hS13 := HS12.out.apart hO13 (fun c hc => ⟨fun h => (by rcases h with h | h | h; exact h.1.2 hc; omega; omega), fun h => by have := HOL.out c h; omega⟩)
  have hZ13 : GZ w G (.slice l1 n1 c1) (.slice l2 n2 c2) (.slice l3 n3 c3) (.slice l4 n4 c4) x6.heap.size x7.heap.size (.slice i5 G.l.length j5) (.slice i6 G.done.length j6) (.slice i7 G.imms.length j7) (.slice i8 G.tables.length j8) B q A9 O9 (muL G tb tz lb lz G.l.length) (Lheld t) (S2.note ⟨t, 6, 0⟩) z13 := ⟨⟨_, hS13, fun k h => h.1.1⟩, HV12.out.keep hb67 (fun c hc h2 => hO13.block c h2 (by have := hO13; omega)), HM12.out.other (fun c hc => hO13.block c (by omega) (by omega)), HO12.out.trans (hO13.mono fun _ _ _ => trivial)⟩
  have HZ13 := Lib.hid hZ13
  clear hl hS13 hO13 hZ13 HS12 HV12 HM12 HK12 HOFF HCI HRI
  have hS3l : (S2.note ⟨t, 6, 0⟩).trace.length = 4 := by show (_ ++ _ : List Acc).length = 4; rw [List.length_append, HT2L.out]; rfl
  have HS3L := Lib.hid hS3l
  clear hS3l
  go_upto_region 31 with fail
  try simp only [Act.put, List.getElem_toArray, List.getElem_cons_zero, List.getElem_cons_succ, List.setIfInBounds_toArray, List.set_cons_zero, List.set_cons_succ]
  go_cut [22] (fun s22 wx => ∃ (E : Int) (S4 : Mem), s22 = .int .i64 E ∧ ((E = 0 ∧ o = t ∧ S4 = (S2.note ⟨t, 6, 0⟩).note ⟨o, 6, 0⟩) ∨ (E = 141 ∧ ¬ (t = o) ∧ S4 = S2.note ⟨t, 6, 0⟩)) ∧ GZ w G (.slice l1 n1 c1) (.slice l2 n2 c2) (.slice l3 n3 c3) (.slice l4 n4 c4) x6.heap.size x7.heap.size (.slice i5 G.l.length j5) (.slice i6 G.done.length j6) (.slice i7 G.imms.length j7) (.slice i8 G.tables.length j8) B q A9 O9 (muL G tb tz lb lz G.l.length) (Lheld t) S4 wx)
  case first =>
    obtain ⟨⟨A13, hS13, hA13⟩, hV13, hM13⟩ := HZ13.out
    by_cases hot : t = o
    · have hg := get_yes hS13 HS.out o (fun _ => ⟨t0, t1⟩) HP2.out (by rw [HS3L.out]; decide) ⟨rfl, hot⟩
      have HGG := Lib.hid hg
      have HOT := Lib.hid hot.symm
      clear hg hot hV13 hM13
      go_wp2_with (first | (go_at_call 31; refine HGG.out.mono ?_; rintro e x14 ⟨u1, u2, u3, u4, N14, rfl, m3, m4, hG14, hS14, hO14⟩) | (refine wpList_store_blk rfl 31 _ _ rfl x14.heap.size (gC G u1 u2 u3 u4) (by rfl) (by rfl) gZ (Blk.new _ _ _) infoG rfl (gC_one _ hG14.gr.l.slice_one hG14.gr.d.slice_one hG14.gr.i.slice_one hG14.gr.t.slice_one) ?_))
      obtain ⟨X14, hX14⟩ : ∃ X, (x14.alloc (.cells #[.slice none 0 0, .slice none 0 0, .int .i64 0, .int .u64 0, .int .i64 0, .int .i64 0, .slice none 0 0, .int .u64 0, .int .u64 0, .slice none 0 0, .bool false] 31)).setRow x14.heap.size (gC G u1 u2 u3 u4).toArray = X := ⟨_, rfl⟩
      have hS14v := hS14.var (.cells #[.slice none 0 0, .slice none 0 0, .int .i64 0, .int .u64 0, .int .i64 0, .int .i64 0, .slice none 0 0, .int .u64 0, .int .u64 0, .slice none 0 0, .bool false] 31) (gC G u1 u2 u3 u4).toArray
      have hB14 : Below x14.heap.size x14 X14 := by rw [← hX14]; exact below_setRow ((Below.refl _ _).alloc (Nat.le_refl _) _) (Nat.le_refl _) _
      rw [hX14] at hS14v
      try rw [hX14]
      go_meet
      exact ⟨_, _, rfl, .inl ⟨rfl, HOT.out, rfl⟩, HZ13.out.go HZA.out ((hO14.mono (fun k _ h => .inl (hA13 k h))).trans (Only.of_below hB14)) ⟨_, hS14v, fun k h => hA13 k h.1.1⟩⟩
    · have hg := get_no hS13 HS.out o (fun _ => ⟨t0, t1⟩) HP2.out (by rw [HS3L.out]; decide) (fun h => hot h.2)
      have HGG := Lib.hid hg
      have HOT := Lib.hid hot
      clear hg hot hV13 hM13
      go_wp2_with (first | (go_at_call 31; refine HGG.out.mono ?_; rintro e x14 ⟨u1, u2, u3, u4, N14, rfl, m3, m4, hG14, hS14, hO14⟩) | (refine wpList_store_blk rfl 31 _ _ rfl x14.heap.size (gC gz u1 u2 u3 u4) (by rfl) (by rfl) gZ (Blk.new _ _ _) infoG rfl (gC_one _ hG14.gr.l.slice_one hG14.gr.d.slice_one hG14.gr.i.slice_one hG14.gr.t.slice_one) ?_))
      obtain ⟨X14, hX14⟩ : ∃ X, (x14.alloc (.cells #[.slice none 0 0, .slice none 0 0, .int .i64 0, .int .u64 0, .int .i64 0, .int .i64 0, .slice none 0 0, .int .u64 0, .int .u64 0, .slice none 0 0, .bool false] 31)).setRow x14.heap.size (gC gz u1 u2 u3 u4).toArray = X := ⟨_, rfl⟩
      have hS14v := hS14.var (.cells #[.slice none 0 0, .slice none 0 0, .int .i64 0, .int .u64 0, .int .i64 0, .int .i64 0, .slice none 0 0, .int .u64 0, .int .u64 0, .slice none 0 0, .bool false] 31) (gC gz u1 u2 u3 u4).toArray
      have hB14 : Below x14.heap.size x14 X14 := by rw [← hX14]; exact below_setRow ((Below.refl _ _).alloc (Nat.le_refl _) _) (Nat.le_refl _) _
      rw [hX14] at hS14v
      try rw [hX14]
      go_meet
      exact ⟨_, _, rfl, .inr ⟨rfl, HOT.out, rfl⟩, HZ13.out.go HZA.out ((hO14.mono (fun k _ h => .inl (hA13 k h))).trans (Only.of_below hB14)) ⟨_, hS14v, fun k h => hA13 k h.1.1⟩⟩
  case rest =>
  obtain ⟨E, S4, rfl, hE, hZ14⟩ := hcut
  have HZ14 := Lib.hid hZ14
  clear hZ14 HZ13 m1 m2 hX1s hx12 hwr11 hx7
  go_upto_region 32 with fail
  go_cut [170] (fun s170 wx => s170 = .bool false ∧ ∃ (S5 : Mem) (r : List Acc), S5.trace = S2.trace ++ (⟨t, 6, 0⟩ :: r) ∧ 2 ≤ r.length ∧ r.length ≤ 3 ∧ 0 < S5.plains.length ∧ GZ w G (.slice l1 n1 c1) (.slice l2 n2 c2) (.slice l3 n3 c3) (.slice l4 n4 c4) x6.heap.size x7.heap.size (.slice i5 G.l.length j5) (.slice i6 G.done.length j6) (.slice i7 G.imms.length j7) (.slice i8 G.tables.length j8) B q A9 O9 (muL G tb tz lb lz G.l.length) (Lheld o) S5 wx)
  case first =>
    obtain ⟨⟨A14, hS14, hA14⟩, hV14, hM14⟩ := HZ14.out
    have hfin : ∀ y (r : List Acc) (S4' : Mem), S4'.trace = S2.trace ++ (⟨t, 6, 0⟩ :: r) → r.length ≤ 1 → 0 < S4'.plains.length → GZ w G (.slice l1 n1 c1) (.slice l2 n2 c2) (.slice l3 n3 c3) (.slice l4 n4 c4) x6.heap.size x7.heap.size (.slice i5 G.l.length j5) (.slice i6 G.done.length j6) (.slice i7 G.imms.length j7) (.slice i8 G.tables.length j8) B q A9 O9 (muL G tb tz lb lz G.l.length) (Lheld o) ((S4'.note ⟨t, 9, 0⟩).note ⟨o, 8, 0⟩) y → ∃ (S5 : Mem) (r : List Acc), S5.trace = S2.trace ++ (⟨t, 6, 0⟩ :: r) ∧ 2 ≤ r.length ∧ r.length ≤ 3 ∧ 0 < S5.plains.length ∧ GZ w G (.slice l1 n1 c1) (.slice l2 n2 c2) (.slice l3 n3 c3) (.slice l4 n4 c4) x6.heap.size x7.heap.size (.slice i5 G.l.length j5) (.slice i6 G.done.length j6) (.slice i7 G.imms.length j7) (.slice i8 G.tables.length j8) B q A9 O9 (muL G tb tz lb lz G.l.length) (Lheld o) S5 y := fun y r S4' h1 h2 h3 h4 =>
      ⟨(S4'.note ⟨t, 9, 0⟩).note ⟨o, 8, 0⟩, r ++ [⟨t, 9, 0⟩, ⟨o, 8, 0⟩], by simp [Mem.note, h1], by simp, by simp; omega, h3, h4⟩
    have hln : S4.trace.length ≤ 5 := by
      rcases hE with ⟨_, _, h⟩ | ⟨_, _, h⟩
      · rw [h]; show (_ ++ _ : List Acc).length ≤ 5; rw [List.length_append, HS3L.out]; show 4 + 1 ≤ 5; decide
      · rw [h, HS3L.out]; decide
    have hu := sunlock_held t hS14 t0 t1 (by unfold trMax; omega)
    have hl2 : ∀ y (hS : Sx B y q smallK Lfree (S4.note ⟨t, 9, 0⟩) G A14 O9), _ := fun y hS => slock_free hS o o0 o1 (by show (_ ++ _ : List Acc).length < trMax; rw [List.length_append]; unfold trMax; simp; omega)
    have HU := Lib.hid hu
    have HL2 := Lib.hid hl2
    have HFIN := Lib.hid hfin
    have HS14 := Lib.hid hS14
    clear hu hl2 hfin hV14 hM14 hS14 hln
    have hgo : ∀ x15 x16, Only (LA q.r A14) wc x15 → Only (LA q.r A14) x15 x16 → Sx B x16 q smallK (Lheld o) ((S4.note ⟨t, 9, 0⟩).note ⟨o, 8, 0⟩) G A14 O9 → GZ w G (.slice l1 n1 c1) (.slice l2 n2 c2) (.slice l3 n3 c3) (.slice l4 n4 c4) x6.heap.size x7.heap.size (.slice i5 G.l.length j5) (.slice i6 G.done.length j6) (.slice i7 G.imms.length j7) (.slice i8 G.tables.length j8) B q A9 O9 (muL G tb tz lb lz G.l.length) (Lheld o) ((S4.note ⟨t, 9, 0⟩).note ⟨o, 8, 0⟩) x16 := fun x15 x16 h1 h2 h3 =>
      HZ14.out.go HZA.out ((h1.trans h2).mono fun k _ h => h.imp (fun h => hA14 k h) id) ⟨_, h3, hA14⟩
    have HGO := Lib.hid hgo
    clear hgo
    rcases hE with ⟨rfl, rfl, rfl⟩ | ⟨rfl, hne, rfl⟩
    · go_wp2_with (first | (go_at_call 30; refine (HL2.out _ hS15).mono ?_; rintro e x16 ⟨rfl, hS16, hB16, hO16⟩) | (go_at_call 28; refine (slocks_any hS15).mono ?_; rintro e w' ⟨rfl, rfl⟩) | (go_at_call 43; refine HU.out.mono ?_; rintro e x15 ⟨rfl, hS15, hB15, hO15⟩) | (go_at_call 28; refine (slocks_any HS14.out).mono ?_; rintro e w' ⟨rfl, rfl⟩))
      go_meet
      exact ⟨rfl, HFIN.out x16 [⟨o, 6, 0⟩] ((S2.note ⟨o, 6, 0⟩).note ⟨o, 6, 0⟩) (by simp [Mem.note]) (by simp) HP2.out (HGO.out x15 x16 hO15 hO16 hS16)⟩
    · have hne2 : (t == o) = false := by simp; exact hne
      go_wp2_with (first | (go_at_call 30; refine (HL2.out _ hS15).mono ?_; rintro e x16 ⟨rfl, hS16, hB16, hO16⟩) | (go_at_call 28; refine (slocks_any hS15).mono ?_; rintro e w' ⟨rfl, rfl⟩) | (go_at_call 43; refine HU.out.mono ?_; rintro e x15 ⟨rfl, hS15, hB15, hO15⟩) | (go_at_call 28; refine (slocks_any HS14.out).mono ?_; rintro e w' ⟨rfl, rfl⟩))
      go_meet
      exact ⟨rfl, HFIN.out x16 [] (S2.note ⟨t, 6, 0⟩) (by simp [Mem.note]) (by simp) HP2.out (HGO.out x15 x16 hO15 hO16 hS16)⟩
  case rest =>
  clear hE HZ14
  obtain ⟨rfl, S5, r, hr1, hr2, hr3, hp5, hZ5⟩ := hcut
  obtain ⟨A17, hS17, hA17⟩ := hZ5.sx
  have hl5 : S5.trace.length = r.length + 4 := by rw [hr1, List.length_append, HT2L.out, List.length_cons]; omega
  have hg := get_yes hS17 HS.out o (fun _ => ⟨o0, o1⟩) hp5 (by rw [hl5]; unfold trMax; omega) ⟨rfl, rfl⟩
  have HGG := Lib.hid hg
  have HZ5 := Lib.hid hZ5
  have HL5 := Lib.hid hl5
  have HR1 := Lib.hid hr1
  clear hg hZ5 hl5 hr1 hS17 hp5
  go_upto_region 35 with (first | (go_at_call 31; refine HGG.out.mono ?_; rintro e x18 ⟨u1, u2, u3, u4, N18, rfl, m3, m4, hG18, hS18, hO18⟩) | (refine wpList_store_blk rfl 31 _ _ rfl x18.heap.size (gC G u1 u2 u3 u4) (by rfl) (by rfl) gZ (Blk.new _ _ _) infoG rfl (gC_one _ hG18.gr.l.slice_one hG18.gr.d.slice_one hG18.gr.i.slice_one hG18.gr.t.slice_one) ?_))
  obtain ⟨X18, hX18⟩ : ∃ X, (x18.alloc (.cells #[.slice none 0 0, .slice none 0 0, .int .i64 0, .int .u64 0, .int .i64 0, .int .i64 0, .slice none 0 0, .int .u64 0, .int .u64 0, .slice none 0 0, .bool false] 31)).setRow x18.heap.size (gC G u1 u2 u3 u4).toArray = X := ⟨_, rfl⟩
  have hB18 : Below x18.heap.size x18 X18 := by rw [← hX18]; exact below_setRow ((Below.refl _ _).alloc (Nat.le_refl _) _) (Nat.le_refl _) _
  have kx : Blk X18 x18.heap.size 31 (gC G u1 u2 u3 u4) := by rw [← hX18]; exact (Blk.new x18 31 gZ).setRow _
  have hS18v := hS18.var (.cells #[.slice none 0 0, .slice none 0 0, .int .i64 0, .int .u64 0, .int .i64 0, .int .i64 0, .slice none 0 0, .int .u64 0, .int .u64 0, .slice none 0 0, .bool false] 31) (gC G u1 u2 u3 u4).toArray
  rw [hX18] at hS18v
  rw [hX18]
  have hZ18 : GZ w G (.slice l1 n1 c1) (.slice l2 n2 c2) (.slice l3 n3 c3) (.slice l4 n4 c4) x6.heap.size x7.heap.size (.slice i5 G.l.length j5) (.slice i6 G.done.length j6) (.slice i7 G.imms.length j7) (.slice i8 G.tables.length j8) B q A9 O9 (muL G tb tz lb lz G.l.length) (Lheld o) (S5.note ⟨o, 6, 0⟩) X18 := HZ5.out.go HZA.out ((hO18.mono (fun k _ h => .inl (hA17 k h))).trans (Only.of_below hB18)) ⟨_, hS18v, fun k h => hA17 k h.1.1⟩
  have hG18v : GH X18 G u1 u2 u3 u4 N18 := hG18.keep fun k _ h2 => hB18.block k h2
  have hw18 : w.heap.size ≤ N18 := Nat.le_trans HZ5.out.base.size m3
  have h18 : x18.heap.size < X18.heap.size := kx.lt
  have htr := trace_ok hS18v.cells (by show (_ ++ _ : List Acc).length < trMax; rw [List.length_append, HL5.out]; unfold trMax; simp; omega)
  obtain ⟨k, hk⟩ : ∃ k, r.length + 2 = k := ⟨_, rfl⟩
  have hT6 : (S5.note ⟨o, 6, 0⟩).trace = (guS0.trace ++ [⟨t, 8, 0⟩]) ++ (⟨t, 7, 0⟩ :: ⟨t, 6, 0⟩ :: (r ++ [⟨o, 6, 0⟩])) := by show S5.trace ++ [⟨o, 6, 0⟩] = _; rw [HR1.out, HT2.out]; simp
  have HTR := Lib.hid (show Calls Tryd.prog 42 #[.pointer (some ⟨q.r.c.p, 0, none⟩)] X18 fun e w' => ∃ g cap, e = .returned (.slice (some ⟨g, 0, none⟩) (k + 3) cap) ∧ k + 3 ≤ cap ∧ X18.heap.size ≤ g ∧ Below X18.heap.size X18 w' ∧ (w'.cell? ⟨g, 6, none⟩ = some (.int .i64 t) ∧ w'.cell? ⟨g, 7, none⟩ = some (.int .u8 7) ∧ w'.cell? ⟨g, 8, none⟩ = some (.int .i64 0)) ∧ (w'.cell? ⟨g, 9, none⟩ = some (.int .i64 t) ∧ w'.cell? ⟨g, 10, none⟩ = some (.int .u8 6) ∧ w'.cell? ⟨g, 11, none⟩ = some (.int .i64 0)) ∧ (w'.cell? ⟨g, 6 + k * 3, none⟩ = some (.int .i64 o) ∧ w'.cell? ⟨g, 6 + k * 3 + 1, none⟩ = some (.int .u8 6) ∧ w'.cell? ⟨g, 6 + k * 3 + 2, none⟩ = some (.int .i64 0)) from htr.mono fun e w' ⟨v, he, hp⟩ => guTrace (by rw [List.length_append, Z3.out]; rfl) hk hT6 he hp)
  have HZ18 := Lib.hid hZ18
  have HS18 := Lib.hid hS18v
  have HG18 := Lib.hid hG18v
  have HKX := Lib.hid kx
  have hk4 : 4 ≤ k := by omega
  have hk5 : k ≤ 5 := by omega
  clear htr hT6 hZ18 hS18v hG18v hX18 hG18 hS18 hO18 hB18 hk HR1 HL5 HGG HZ5 kx
  go_upto_region 36 with (first | (go_at_call 29; refine (scells_any HS18.out).mono ?_; rintro e w' ⟨rfl, rfl⟩) | (go_at_call 42; refine HTR.out.mono ?_; rintro e x19 ⟨tg, tcap, rfl, hcap, htg, hB19, p1, p2, p3⟩; have hcp : (tcap = 2) = False := (by simp; omega)))
  obtain ⟨p1a, p1b, p1c⟩ := p1
  obtain ⟨p2a, p2b, p2c⟩ := p2
  obtain ⟨p3a, p3b, p3c⟩ := p3
  have hw19 : w.heap.size ≤ X18.heap.size := HZ18.out.base.size
  have hV19 := HZ18.out.gv.keep hb67 (fun k _ h2 => hB19.block k h2)
  have hM19 := HZ18.out.md.below (hB19.mono hw19)
  have hO19 : Only (fun _ => True) w x19 := HZ18.out.base.trans (Only.of_below hB19)
  have hG19 : GH x19 G u1 u2 u3 u4 N18 := HG18.out.keep fun k _ h2 => hB19.block k h2
  have kx19 := HKX.out.keep (hB19.block _ HKX.out.lt)
  have hN19 : w.heap.size ≤ x19.heap.size := hO19.size
  have hrs := restored_any (G := G) (sd := .slice l2 n2 c2) (si := .slice l3 n3 c3) (cl := c1) (ct := c4) hN19 hM19 HRL.out HRT.out (by omega) (by omega) (fun k => IntKind.u64.wrap (numT G k + 1)) (fun k => wrap64 (opsL G k + 1))
    (fun k hk => ⟨_, H2R.out.t k (by rw [HN4.out]; exact hk), by rw [H2R.out.tSome (by rw [HN4.out]; exact hk)]; rfl⟩)
    (fun k hk => ⟨_, H2R.out.l k (by rw [HN1.out]; exact hk), by
      rw [strideM_skip (by decide) (fun i hi => H2R.out.apart (by rw [HN4.out]; exact hi) (by rw [HN1.out]; exact hk))]
      unfold muL
      rw [strideM_at _ _ _ _ _ (by decide) (by rw [HN1.out]; exact hk)]
      rfl⟩)
  have HRS := Lib.hid hrs
  have HV19 := Lib.hid hV19
  have HO19 := Lib.hid hO19
  have HG19 := Lib.hid hG19
  have k19 := hV19.box
  clear hrs hV19 hM19 hO19 hG19 hB19 HZ18 HS18 HG18 HKX
  go_upto_region 37 with (first | (refine wpList_load_blk rfl 31 _ rfl w.heap.size (by rfl) (gC G (.slice l1 n1 c1) (.slice l2 n2 c2) (.slice l3 n3 c3) (.slice l4 n4 c4)) k19 _ Tryd.underlying31 rfl infoG ?_) | (go_at_call 44; refine HRS.out.mono ?_; rintro e x20 ⟨rfl, hM20, hO20⟩))
  have hb20 : ∀ c, c < w.heap.size → x20.heap[c]? = w.heap[c]? := H2R.out.back HG.out.t HG.out.l (by rw [HN1.out, HN4.out]; rw [HN1.out] at hM20; exact hM20)
  have hB20 : Below w.heap.size w x20 := ⟨hO20.os.trans HO19.out.os, hO20.tape.trans HO19.out.tape, hO20.output.trans HO19.out.output, Nat.le_trans HO19.out.size hO20.size, hb20⟩
  have hk20 : ∀ c, w.heap.size ≤ c → c < x19.heap.size → x20.heap[c]? = x19.heap[c]? := fun c h1 h2 => hO20.block c h2 (by omega)
  have hc20 : ∀ j v, x19.cell? ⟨tg, j, none⟩ = some v → x20.cell? ⟨tg, j, none⟩ = some v := fun j v h => (World.cell?_of_block (w := x19) (hk20 tg (by omega) (World.block_lt_of_cell? x19 _ h))).trans h
  have q1a := hc20 _ _ p1a
  have q1b := hc20 _ _ p1b
  have q1c := hc20 _ _ p1c
  have q2a := hc20 _ _ p2a
  have q2b := hc20 _ _ p2b
  have q2c := hc20 _ _ p2c
  have q3a := hc20 _ _ p3a
  have q3b := hc20 _ _ p3b
  have q3c := hc20 _ _ p3c
  have kx20 := kx19.keep (hk20 _ (by omega) kx19.lt)
  have kw20 := HV19.out.was.keep (hk20 _ (by omega) HV19.out.was.lt)
  have hG20 := HG19.out.keep (w' := x20) (fun c h1 h2 => hk20 c (by omega) h2)
  have hW20 := HV19.out.wo.keep (w' := x20) (fun c h1 h2 => hk20 c (by omega) h2)
  have hlg := lowGuarded_same (w := x20) hG20.gr hW20.gr HS.out
  obtain ⟨g1, f1, e1⟩ := hG20.gr.l.slice
  obtain ⟨g2, f2, e2⟩ := hG20.gr.d.slice
  obtain ⟨g3, f3, e3⟩ := hG20.gr.i.slice
  obtain ⟨g4, f4, e4⟩ := hG20.gr.t.slice
  subst e1
  subst e2
  subst e3
  subst e4
  have a0 := kx20.cell 0 (v := .slice g1 G.l.length f1) rfl
  have a1 := kx20.cell 1 (v := .slice g2 G.done.length f2) rfl
  have a2 := kx20.cell 2 rfl
  have a3 := kx20.cell 3 rfl
  have a4 := kx20.cell 4 rfl
  have a5 := kx20.cell 5 rfl
  have a6 := kx20.cell 6 (v := .slice g3 G.imms.length f3) rfl
  have a7 := kx20.cell 7 rfl
  have a8 := kx20.cell 8 rfl
  have a9 := kx20.cell 9 (v := .slice g4 G.tables.length f4) rfl
  have a10 := kx20.cell 10 rfl
  have b0 := kw20.cell 0 (v := .slice i5 G.l.length j5) rfl
  have b1 := kw20.cell 1 (v := .slice i6 G.done.length j6) rfl
  have b2 := kw20.cell 2 rfl
  have b3 := kw20.cell 3 rfl
  have b4 := kw20.cell 4 rfl
  have b5 := kw20.cell 5 rfl
  have b6 := kw20.cell 6 (v := .slice i7 G.imms.length j7) rfl
  have b7 := kw20.cell 7 rfl
  have b8 := kw20.cell 8 rfl
  have b9 := kw20.cell 9 (v := .slice i8 G.tables.length j8) rfl
  have b10 := kw20.cell 10 rfl
  have HLG := Lib.hid (show Calls Tryd.prog 21 #[.agg #[.slice g1 G.l.length f1, .slice g2 G.done.length f2, .int .i64 G.group, .int .u64 G.last, .int .i64 G.bad, .int .i64 G.mem, .slice g3 G.imms.length f3, .int .u64 G.log, .int .u64 G.next, .slice g4 G.tables.length f4, .bool G.closed], .agg #[.slice i5 G.l.length j5, .slice i6 G.done.length j6, .int .i64 G.group, .int .u64 G.last, .int .i64 G.bad, .int .i64 G.mem, .slice i7 G.imms.length j7, .int .u64 G.log, .int .u64 G.next, .slice i8 G.tables.length j8, .bool G.closed]] x20 fun e w' => e = .returned (.bool true) ∧ Below x20.heap.size x20 w' from hlg)
  have hs1 : ((k + 1 : Nat) : Int) - 1 = (k : Int) := by omega
  have hs2 : (5 : Int) ≤ ((k + 1 : Nat) : Int) := by omega
  have ht20 : tg < x20.heap.size := World.block_lt_of_cell? x20 _ q1a
  clear hlg hG20 hW20 kx20 kw20 kx19 hk20 hb20 hM20 hO20 p1a p1b p1c p2a p2b p2c p3a p3b p3c k19 HRS HV19 HO19 HG19 hc20
  go_wp2_with (first | (go_at_call 21; refine HLG.out.mono ?_; rintro e x21 ⟨rfl, hB21⟩; have r1a := (hB21.cell (p := ⟨tg, 6, none⟩) ht20).trans q1a; have r1b := (hB21.cell (p := ⟨tg, 7, none⟩) ht20).trans q1b; have r1c := (hB21.cell (p := ⟨tg, 8, none⟩) ht20).trans q1c; have r2a := (hB21.cell (p := ⟨tg, 9, none⟩) ht20).trans q2a; have r2b := (hB21.cell (p := ⟨tg, 10, none⟩) ht20).trans q2b; have r2c := (hB21.cell (p := ⟨tg, 11, none⟩) ht20).trans q2c; have r3a := (hB21.cell (p := ⟨tg, 6 + k * 3, none⟩) ht20).trans q3a; have r3b := (hB21.cell (p := ⟨tg, 6 + k * 3 + 1, none⟩) ht20).trans q3b; have r3c := (hB21.cell (p := ⟨tg, 6 + k * 3 + 2, none⟩) ht20).trans q3c) | (go_at_call 14; refine (HAW.out _ (hB20.trans (hB21.mono hB20.size))).mono ?_; rintro e x22 ⟨rfl, hB22⟩))
  go_ret
  exact ⟨rfl, hB22⟩
end Go.Proofs.YteiaifhnikknbaaDoor
