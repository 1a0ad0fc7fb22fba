/- The walk over law 13's CellsTells. -/
import Derived.Test.YtlofgmcbanldnaaCellsTwo
import Derived.Deep.DeepCutAuto
import Derived.Deep.CutBlock
import Derived.BigQuiet
import Derived.Deep.RegionHeld3
namespace Go.Proofs.Ytlofgmcbanldnaa
open Go.RowKit

set_option maxRecDepth 100000 in
set_option maxHeartbeats 4000000 in
theorem cellsTells_no (w : World) (a p : Int) (h : ¬ (0 ≤ a ∧ a ≤ 100000) ∨ ¬ (0 ≤ p ∧ p ≤ 100000)) (ao : Option Addr) (n cap : Nat) :
    Calls Try.prog 6 #[.int .i64 a, .int .i64 p, .slice ao n cap] w fun e w' => e = .returned (.bool true) ∧ Below w.heap.size w w' := by
  have hq : (a < 0 ∧ p < 0) ∨ (a < 0 ∧ 0 ≤ p ∧ 100000 < p) ∨ (a < 0 ∧ 0 ≤ p ∧ p ≤ 100000) ∨ (0 ≤ a ∧ 100000 < a ∧ p < 0) ∨ (0 ≤ a ∧ 100000 < a ∧ 0 ≤ p ∧ 100000 < p) ∨ (0 ≤ a ∧ 100000 < a ∧ 0 ≤ p ∧ p ≤ 100000) ∨ (0 ≤ a ∧ a ≤ 100000 ∧ p < 0) ∨ (0 ≤ a ∧ a ≤ 100000 ∧ 0 ≤ p ∧ 100000 < p) := by omega
  clear h
  rcases hq with ⟨q1, q2⟩ | ⟨q1, q2, q3⟩ | ⟨q1, q2, q3⟩ | ⟨q1, q2, q3⟩ | ⟨q1, q2, q3, q4⟩ | ⟨q1, q2, q3, q4⟩ | ⟨q1, q2, q3⟩ | ⟨q1, q2, q3, q4⟩
  all_goals
    go_enter Try.func6, Try.ntmps6
    go_wp2_with (first | (go_at_call 18; refine (new_no _ _ _ (decide_eq_false (by omega))).mono ?_; rintro e w' ⟨rfl, rfl⟩) | (go_at_call 19; refine (rnew13_no _ _ _ (decide_eq_false (by omega))).mono ?_; rintro e w1 ⟨rfl, hB1⟩) | (go_at_call 12; refine (awake13 _).mono ?_; rintro e w5 ⟨rfl, hb5⟩))
    go_ret
    have b1 := hB1.alloc hB1.size (.cells #[.slice none 0 0, .slice none 0 0, .slice none 0 0] 55)
    exact ⟨rfl, b1.trans (hb5.mono b1.size)⟩

/-- A row of accesses of the law's own, whose tasks are turned. -/
structure TRow (w : World) (ao : Option Addr) (n : Nat) (X : Nat → Prop) : Prop where
  at_ : ∀ i, i < n → ∃ g x, ao = some ⟨g, 0, none⟩ ∧ w.cell? ⟨g, i * 3, none⟩ = some (.int .i64 x) ∧ w.frozen? ⟨g, i * 3, none⟩ = false ∧ X g
theorem Row.trow {w : World} {ao : Option Addr} {c : Nat} {l : List Acc} {X : Nat → Prop} (h : Row w 40 3 (.slice ao l.length c) l.length (accs l) X) : TRow w ao l.length X := by
  refine ⟨fun i hi => ?_⟩
  rcases h.form with ⟨e, h0⟩ | ⟨g, cap, e, hX, _, _⟩
  · omega
  · cases e
    have hr : Reads w 3 (.slice (some ⟨g, 0, none⟩) l.length c) l.length (accs l) := h.reads
    obtain ⟨e0, _, _⟩ := hr.acc i hi
    obtain ⟨cur, hc⟩ := h.tag rfl
    exact ⟨g, _, rfl, by simpa using e0, by simp [World.frozen?, hc], hX⟩
theorem TRow.set {w : World} {ao : Option Addr} {n : Nat} {X : Nat → Prop} (h : TRow w ao n X) {g : Nat} (hv : ao = some ⟨g, 0, none⟩) (j : Nat) (hj : j < n) (y : Int) : TRow (w.setCell ⟨g, j * 3, none⟩ (.int .i64 y)) ao n X := by
  refine ⟨fun i hi => ?_⟩
  obtain ⟨g', x, e, h1, h2, h3⟩ := h.at_ i hi
  rw [hv] at e
  cases e
  by_cases hij : i = j
  · subst hij
    exact ⟨g, y, hv, World.cell?_setCell_same _ _ _ h1, by rw [World.frozen?_setCell]; exact h2, h3⟩
  · exact ⟨g, x, hv, by rw [World.cell?_setCell_other _ _ _ _ (by intro e; injection e with _ e; omega)]; exact h1, by rw [World.frozen?_setCell]; exact h2, h3⟩
theorem TwoAt.init {w0 w1 w2 : World} {c : CRef} {S : Mem} {sa sp st : Value} {pls : List Value} (hC : Cells w1 c S (fun k => w0.heap.size ≤ k)) (hB1 : Below w0.heap.size w0 w1) (hR : R13 w2 sa sp st pls S (fun k => w1.heap.size ≤ k)) (hB2 : Below w1.heap.size w1 w2) {Z : List Value} :
    ∃ A, TwoAt A (fun _ => False) sa sp st pls w0 ((w2.alloc (.cells Z.toArray 55)).setRow w2.heap.size #[sa, sp, st]) c S w2.heap.size S := by
  have h1 := hB1.size
  have h2 := hB2.size
  have hb := hB2.alloc hB2.size (.cells Z.toArray 55)
  have k := Blk.new w2 55 Z
  have hB := below_setRow ((hB1.trans (hB2.mono h1)).alloc (by omega) (.cells Z.toArray 55)) (b := w2.heap.size) (by omega) #[sa, sp, st]
  refine ⟨fun k => w0.heap.size ≤ k ∧ ¬ (w1.heap.size ≤ k ∧ k < w2.heap.size + 1), ?_, fun k hk => hk.1, ⟨fun k hk => ?_⟩, k.setRow _, ?_, fun h => h.2 ⟨by omega, by omega⟩, fun h => h, fun k h => h.elim, fun k h => h.elim, by omega, hB⟩
  · exact (hC.mono (B := fun k => w0.heap.size ≤ k ∧ ¬ (w1.heap.size ≤ k ∧ k < w2.heap.size + 1)) fun k hk hA => ⟨hA, by omega⟩).keep ⟨fun k hk hl => (heap_setRow_other _ _ _ (by omega)).trans (hb.block k hl)⟩
  · rw [setRow_size] at hk
    simp at hk
    exact ⟨by omega, by omega⟩
  · refine R13.setRow ?_ k _
    refine R13.below (R13.mono hR fun k hk h3 => ⟨fun hA => hA.2 ⟨h3, by omega⟩, fun h => h⟩) ((Below.refl _ w2).alloc (Nat.le_refl _) _)

set_option maxRecDepth 100000 in
set_option maxHeartbeats 8000000 in
theorem cellsTells_yes (w : World) (a p : Int) (ha0 : 0 ≤ a) (ha1 : a ≤ 100000) (hp0 : 0 ≤ p) (hp1 : p ≤ 100000) (ao : Option Addr) (cap : Nat) (l : List Op) (hcap : l.length ≤ cap) (hl : ArgRow w 9 (.slice ao l.length cap) Op.cells (Op.Fits w) l) :
    Calls Try.prog 6 #[.int .i64 a, .int .i64 p, .slice ao l.length cap] w fun e w' => e = .returned (.bool true) ∧ Below w.heap.size w w' := by
  obtain ⟨m, hm', hm1, hm2, -⟩ := cut_min 40 l.length
  have hm : (if (40 : Int) < (l.length : Int) then (40 : Int) else (l.length : Int)) = (m : Int) := hm'
  clear hm'
  have hm3 : m ≤ cap := by omega
  obtain ⟨na, hna⟩ : ∃ n : Nat, a % 21 = (n : Int) := ⟨(a % 21).toNat, by omega⟩
  obtain ⟨np, hnp⟩ : ∃ n : Nat, p % 21 = (n : Int) := ⟨(p % 21).toNat, by omega⟩
  have na1 : na ≤ 20 := by omega
  have np1 : np ≤ 20 := by omega
  go_enter Try.func6, Try.ntmps6
  go_upto_region 5 with fail
  try rw [hna]
  try rw [hnp]
  clear hna hnp
  go_wp2_with (first | (go_at_call 18; refine (new_ok _ na np (by omega) (by omega)).mono ?_; rintro e w1 ⟨c, rfl, hC1, hB1⟩) | (go_at_call 19; refine (rnew13_ok _ na np (by omega) (by omega)).mono ?_; rintro e w2 ⟨sa, sp, rfl, hR2, hB2⟩; have k2 := Blk.new w2 55 [.slice none 0 0, .slice none 0 0, .slice none 0 0]; have hones := Lib.hid hR2.ones) | (refine wpList_store_blk rfl 55 _ _ rfl w2.heap.size [sa, sp, .slice none 0 0] (by rfl) (by rfl) _ k2 info13 rfl hones.out ?_))
  have hT0 := TwoAt.init (Z := [.slice none 0 0, .slice none 0 0, .slice none 0 0]) hC1 hB1 hR2 hB2
  obtain ⟨bs, hbs⟩ : ∃ bs, w2.heap.size = bs := ⟨_, rfl⟩
  rw [hbs] at hT0
  rw [hbs]
  obtain ⟨W, hW⟩ : ∃ W, (w2.alloc (.cells #[.slice none 0 0, .slice none 0 0, .slice none 0 0] 55)).setRow bs #[sa, sp, .slice none 0 0] = W := ⟨_, rfl⟩
  rw [hW] at hT0
  rw [hW]
  clear hW hbs k2 hR2 hB2 hB1 hC1 hm ha0 ha1 hp0 hp1 hones
  have hI0 : ∃ A sa sp st pls S, TwoAt A (fun _ => False) sa sp st pls w W c S bs S ∧ Fit13 S na np 0 := by
    obtain ⟨A, hA⟩ := hT0
    exact ⟨A, _, _, _, _, _, hA, ⟨by simp [Mem.new], by simp [Mem.new], ⟨fun b hb => by simp [Mem.new] at hb; rw [hb.2]; simp⟩, by simp [Mem.new]⟩⟩
  clear hT0
  go_loopw [73] (fun i wr => ∃ k : Nat, k ≤ m ∧ i = .int .i64 k ∧ ∃ A sa sp st pls S, TwoAt A (fun _ => False) sa sp st pls w wr c S bs S ∧ Fit13 S na np k) (fun i _ => m - (intOf i).toNat)
  case atStart => exact ⟨0, by omega, rfl, hI0⟩
  case round =>
    clear hI0
    obtain ⟨k, hk, rfl, A, sa, sp, st, pls, S, hT, hF⟩ := hrel
    by_cases hlt : k < m
    · have hkl : k < l.length := by omega
      obtain ⟨b, off, rfl, hx⟩ := hl.cell hT.below (by decide) k hkl
      have hfit := hl.good l[k] (List.getElem_mem _)
      obtain ⟨o, ho⟩ : ∃ o, o = l[k] := ⟨_, rfl⟩
      rw [← ho] at hx hfit
      have x0 := hx 0 _ rfl
      have x1 := hx 1 _ rfl
      have x2 := hx 2 _ rfl
      have x3 := hx 3 _ rfl
      have x4 := hx 4 _ rfl
      have x5 := hx 5 _ rfl
      have x6 := hx 6 _ rfl
      have x7 := hx 7 _ rfl
      have x8 := hx 8 _ rfl
      simp only [Nat.add_zero] at x0
      have hw := fits_u8 hfit.what
      have hbR := hfit.b.reads
      have hf0 := fits_i64 hfit.task
      have hf1 := fits_i64 hfit.at_
      have hf2 := fits_u8 hfit.a.what
      obtain ⟨obo, obc, hbv⟩ := hbR.slice
      obtain ⟨bl, hbl⟩ : ∃ bl, o.bs.length = bl := ⟨_, rfl⟩
      rw [hbl] at hbR hbv
      rw [hbv] at x5 hbR
      have hBox := (Below.refl _ wr).alloc (Nat.le_refl _) (.cells #[.int .u8 o.what, .int .i64 o.task, .int .i64 o.at_, .int .u64 o.x, .int .u64 o.y, .slice obo bl obc, .int .i64 o.a.task, .int .u8 o.a.what, .int .i64 o.a.at_] 42)
      by_cases h50 : 50 < bl
      · clear hbl hbv hfit hx ho
        have hTu := hT.under hBox
        clear hT
        go_wp2_with fail
        go_roundw
        case rel => exact ⟨k + 1, by omega, by go_num, A, sa, sp, st, pls, S, hTu, hF.up⟩
        case measure => simp [intOf]; omega
      · have hTb := hT.mine hBox
        have hbox := Blk.new wr 42 [.int .u8 o.what, .int .i64 o.task, .int .i64 o.at_, .int .u64 o.x, .int .u64 o.y, .slice obo bl obc, .int .i64 o.a.task, .int .u8 o.a.what, .int .i64 o.a.at_]
        have hRb := (hbR.below hT.below).alloc (.cells #[.int .u8 o.what, .int .i64 o.task, .int .i64 o.at_, .int .u64 o.x, .int .u64 o.y, .slice obo bl obc, .int .i64 o.a.task, .int .u8 o.a.what, .int .i64 o.a.at_] 42)
        obtain ⟨bo, hbo⟩ : ∃ bo, wr.heap.size = bo := ⟨_, rfl⟩
        obtain ⟨X1, hX1⟩ : ∃ X1, (fun k => False ∨ (wr.heap.size ≤ k ∧ k < (wr.alloc (.cells #[.int .u8 o.what, .int .i64 o.task, .int .i64 o.at_, .int .u64 o.x, .int .u64 o.y, .slice obo bl obc, .int .i64 o.a.task, .int .u8 o.a.what, .int .i64 o.a.at_] 42)).heap.size)) = X1 := ⟨_, rfl⟩
        have hXbo : X1 wr.heap.size := by rw [← hX1]; exact .inr ⟨Nat.le_refl _, by simp⟩
        obtain ⟨A1, hA1⟩ : ∃ A1, (fun k => A k ∧ ¬ (wr.heap.size ≤ k ∧ k < (wr.alloc (.cells #[.int .u8 o.what, .int .i64 o.task, .int .i64 o.at_, .int .u64 o.x, .int .u64 o.y, .slice obo bl obc, .int .i64 o.a.task, .int .u8 o.a.what, .int .i64 o.a.at_] 42)).heap.size)) = A1 := ⟨_, rfl⟩
        rw [hX1, hA1] at hTb
        rw [hbo] at hXbo hbox
        have HBL := Lib.hid hbl
        have HRB := Lib.hid hbR
        clear hX1 hA1 hT hx hfit ho hbl hbv hbR hBox
        go_upto_block 2 with fail
        try rw [hbo]
        obtain ⟨wb, hwb⟩ : ∃ wb, wr.alloc (.cells #[.int .u8 o.what, .int .i64 o.task, .int .i64 o.at_, .int .u64 o.x, .int .u64 o.y, .slice obo bl obc, .int .i64 o.a.task, .int .u8 o.a.what, .int .i64 o.a.at_] 42) = wb := ⟨_, rfl⟩
        rw [hwb] at hTb hbox hRb
        try rw [hwb]
        clear hwb hbo x0 x1 x2 x3 x4 x5 x6 x7 x8
        go_cut [8, 10, 13, 14, 15, 16, 17, 18, 82] (fun e f x y p q va vb _ wx => ∃ (E X : Int) (P : Bool) (n : Nat) (bys : List UInt8), e = .int .i64 E ∧ f = .int .i64 E ∧ x = .int .u64 X ∧ y = .int .u64 X ∧ p = .bool P ∧ q = .bool P ∧ bys.length = n ∧ Reads wx 1 vb n (u8s bys) ∧ n ≤ 4000000000 ∧ ∃ A Xp sa sp st pls S, Row wx 5 1 va n (u8s bys) Xp ∧ TwoAt A Xp sa sp st pls w wx c S bs S ∧ Fit13 S na np (k + 1))
        case first =>
          have hn1 : S.trace.length < trMax := by unfold trMax; have := hF.tr; omega
          have hat := hF.at_
          have hpl := hF.pl
          clear hl hcap hm1 hm3
          have c0 := hbox.cell 0 rfl
          have c1 := hbox.cell 1 rfl
          have c2 := hbox.cell 2 rfl
          have c3 := hbox.cell 3 rfl
          have c4 := hbox.cell 4 rfl
          have c5 := hbox.cell 5 rfl
          have c6 := hbox.cell 6 rfl
          have c7 := hbox.cell 7 rfl
          have c8 := hbox.cell 8 rfl
          have hsm : S.atomics.length ≤ 100000 := by omega
          have hsp : S.plains.length ≤ 100000 := by omega
          clear hat hpl hf0 hf1 hf2 hlt hkl hk
          --H{
          have hq : o.what = 0 ∨ o.what = 1 ∨ o.what = 2 ∨ o.what = 3 ∨ o.what = 4 ∨ o.what = 5 ∨ 6 ≤ o.what := by omega
          rcases hq with q | q | q | q | q | q | q
          · as_aux_lemma =>
              cases hok : okAt S.atomics.length o.task o.at_ with
              | true =>
                go_wp2_with (first | (go_at_call 11; refine (load_ok hTb.mem hTb.fresh hn1 o.task o.at_ hok).mono ?_; rintro e w2 ⟨rfl, hC2, hO2⟩; have hT2 := hTb.only hO2 hC2; have b2 := hbox.keep (hO2.block _ hbox.lt (hTb.dx _ hXbo).1); have d0 := b2.cell 0 rfl; have d1 := b2.cell 1 rfl; have d2 := b2.cell 2 rfl; have d3 := b2.cell 3 rfl; have d4 := b2.cell 4 rfl; have d5 := b2.cell 5 rfl; have d6 := b2.cell 6 rfl; have d7 := b2.cell 7 rfl; have d8 := b2.cell 8 rfl) | (go_at_call 20; refine (rload_ok hT2.r hn1 o.task o.at_ hok).mono ?_; rintro e w3 ⟨st3, rfl, hR3, hB3⟩; have hA3 := hT2.aft hB3 hR3; obtain ⟨y1, y2, y3, hD⟩ := hA3.old) | (refine wpList_load_blk rfl 55 _ rfl bs (by rfl) [sa, sp, st] hT2.blk _ Try.underlying55 rfl info13 ?_) | (refine wpList_store_blk rfl 55 _ _ rfl bs [sa, sp, st3] (by rfl) (by rfl) [y1, y2, y3] hD info13 rfl hA3.ones ?_))
                go_meet
                obtain ⟨A3, pls3, hT4⟩ := hA3.two
                exact ⟨0, S.at_ o.at_, false, 0, [], rfl, rfl, rfl, rfl, rfl, rfl, rfl, (Row.nil _ 5 1 (fun _ => False)).reads, by omega, A3, _, _, _, _, _, _, Row.nil _ _ _ _, hT4, hF.note _⟩
              | false =>
                go_wp2_with (first | (go_at_call 11; refine (load_no hTb.mem o.task o.at_ hok).mono ?_; rintro e w' ⟨rfl, rfl⟩; have hT2 := hTb; have b2 := hbox; have d0 := b2.cell 0 rfl; have d1 := b2.cell 1 rfl; have d2 := b2.cell 2 rfl; have d3 := b2.cell 3 rfl; have d4 := b2.cell 4 rfl; have d5 := b2.cell 5 rfl; have d6 := b2.cell 6 rfl; have d7 := b2.cell 7 rfl; have d8 := b2.cell 8 rfl) | (go_at_call 20; refine (rload_no hT2.r o.task o.at_ hok).mono ?_; rintro e w3 ⟨rfl, hR3, hB3⟩; have hA3 := hT2.aft hB3 (hR3.wider fun _ h => .inl h); obtain ⟨y1, y2, y3, hD⟩ := hA3.old) | (refine wpList_load_blk rfl 55 _ rfl bs (by rfl) [sa, sp, st] hT2.blk _ Try.underlying55 rfl info13 ?_) | (refine wpList_store_blk rfl 55 _ _ rfl bs [sa, sp, st] (by rfl) (by rfl) [y1, y2, y3] hD info13 rfl hA3.ones ?_))
                go_meet
                obtain ⟨A3, pls3, hT4⟩ := hA3.two
                exact ⟨2, 0, false, 0, [], rfl, rfl, rfl, rfl, rfl, rfl, rfl, (Row.nil _ 5 1 (fun _ => False)).reads, by omega, A3, _, _, _, _, _, _, Row.nil _ _ _ _, hT4, hF.up⟩
          · as_aux_lemma =>
              cases hok : okAt S.atomics.length o.task o.at_ with
              | true =>
                go_wp2_with (first | (go_at_call 13; refine (store_ok hTb.mem hTb.fresh hn1 o.task o.at_ o.x hok).mono ?_; rintro e w2 ⟨rfl, hC2, hO2⟩; have hT2 := hTb.only hO2 hC2; have b2 := hbox.keep (hO2.block _ hbox.lt (hTb.dx _ hXbo).1); have d0 := b2.cell 0 rfl; have d1 := b2.cell 1 rfl; have d2 := b2.cell 2 rfl; have d3 := b2.cell 3 rfl; have d4 := b2.cell 4 rfl; have d5 := b2.cell 5 rfl; have d6 := b2.cell 6 rfl; have d7 := b2.cell 7 rfl; have d8 := b2.cell 8 rfl) | (go_at_call 21; refine (rstore_ok hT2.r hn1 o.task o.at_ o.x hok hsm).mono ?_; rintro e w3 ⟨sa3, st3, rfl, hR3, hB3⟩; have hA3 := hT2.aft hB3 hR3; obtain ⟨y1, y2, y3, hD⟩ := hA3.old) | (refine wpList_load_blk rfl 55 _ rfl bs (by rfl) [sa, sp, st] hT2.blk _ Try.underlying55 rfl info13 ?_) | (refine wpList_store_blk rfl 55 _ _ rfl bs [sa3, sp, st3] (by rfl) (by rfl) [y1, y2, y3] hD info13 rfl hA3.ones ?_))
                go_meet
                obtain ⟨A3, pls3, hT4⟩ := hA3.two
                exact ⟨0, 0, false, 0, [], rfl, rfl, rfl, rfl, rfl, rfl, rfl, (Row.nil _ 5 1 (fun _ => False)).reads, by omega, A3, _, _, _, _, _, _, Row.nil _ _ _ _, hT4, (hF.note _).put _ _⟩
              | false =>
                go_wp2_with (first | (go_at_call 13; refine (store_no hTb.mem o.task o.at_ o.x hok).mono ?_; rintro e w' ⟨rfl, rfl⟩; have hT2 := hTb; have b2 := hbox; have d0 := b2.cell 0 rfl; have d1 := b2.cell 1 rfl; have d2 := b2.cell 2 rfl; have d3 := b2.cell 3 rfl; have d4 := b2.cell 4 rfl; have d5 := b2.cell 5 rfl; have d6 := b2.cell 6 rfl; have d7 := b2.cell 7 rfl; have d8 := b2.cell 8 rfl) | (go_at_call 21; refine (rstore_no hT2.r o.task o.at_ o.x hok).mono ?_; rintro e w3 ⟨rfl, hR3, hB3⟩; have hA3 := hT2.aft hB3 (hR3.wider fun _ h => .inl h); obtain ⟨y1, y2, y3, hD⟩ := hA3.old) | (refine wpList_load_blk rfl 55 _ rfl bs (by rfl) [sa, sp, st] hT2.blk _ Try.underlying55 rfl info13 ?_) | (refine wpList_store_blk rfl 55 _ _ rfl bs [sa, sp, st] (by rfl) (by rfl) [y1, y2, y3] hD info13 rfl hA3.ones ?_))
                go_meet
                obtain ⟨A3, pls3, hT4⟩ := hA3.two
                exact ⟨2, 0, false, 0, [], rfl, rfl, rfl, rfl, rfl, rfl, rfl, (Row.nil _ 5 1 (fun _ => False)).reads, by omega, A3, _, _, _, _, _, _, Row.nil _ _ _ _, hT4, hF.up⟩
          · as_aux_lemma =>
              cases hok : okAt S.atomics.length o.task o.at_ with
              | true =>
                cases hsw : (S.at_ o.at_ != o.x) with
                | true =>
                  go_wp2_with (first | (go_at_call 14; refine (swap_fail hTb.mem hTb.fresh hn1 o.task o.at_ o.x o.y hok hsw).mono ?_; rintro e w2 ⟨rfl, hC2, hO2⟩; have hT2 := hTb.only hO2 hC2; have b2 := hbox.keep (hO2.block _ hbox.lt (hTb.dx _ hXbo).1); have d0 := b2.cell 0 rfl; have d1 := b2.cell 1 rfl; have d2 := b2.cell 2 rfl; have d3 := b2.cell 3 rfl; have d4 := b2.cell 4 rfl; have d5 := b2.cell 5 rfl; have d6 := b2.cell 6 rfl; have d7 := b2.cell 7 rfl; have d8 := b2.cell 8 rfl) | (go_at_call 22; refine (rswap_fail hT2.r hn1 o.task o.at_ o.x o.y hok hsw).mono ?_; rintro e w3 ⟨st3, rfl, hR3, hB3⟩; have hA3 := hT2.aft hB3 hR3; obtain ⟨y1, y2, y3, hD⟩ := hA3.old) | (refine wpList_load_blk rfl 55 _ rfl bs (by rfl) [sa, sp, st] hT2.blk _ Try.underlying55 rfl info13 ?_) | (refine wpList_store_blk rfl 55 _ _ rfl bs [sa, sp, st3] (by rfl) (by rfl) [y1, y2, y3] hD info13 rfl hA3.ones ?_))
                  go_meet
                  obtain ⟨A3, pls3, hT4⟩ := hA3.two
                  exact ⟨0, 0, false, 0, [], rfl, rfl, rfl, rfl, rfl, rfl, rfl, (Row.nil _ 5 1 (fun _ => False)).reads, by omega, A3, _, _, _, _, _, _, Row.nil _ _ _ _, hT4, hF.note _⟩
                | false =>
                  go_wp2_with (first | (go_at_call 14; refine (swap_done hTb.mem hTb.fresh hn1 o.task o.at_ o.x o.y hok hsw).mono ?_; rintro e w2 ⟨rfl, hC2, hO2⟩; have hT2 := hTb.only hO2 hC2; have b2 := hbox.keep (hO2.block _ hbox.lt (hTb.dx _ hXbo).1); have d0 := b2.cell 0 rfl; have d1 := b2.cell 1 rfl; have d2 := b2.cell 2 rfl; have d3 := b2.cell 3 rfl; have d4 := b2.cell 4 rfl; have d5 := b2.cell 5 rfl; have d6 := b2.cell 6 rfl; have d7 := b2.cell 7 rfl; have d8 := b2.cell 8 rfl) | (go_at_call 22; refine (rswap_done hT2.r hn1 o.task o.at_ o.x o.y hok hsw hsm).mono ?_; rintro e w3 ⟨sa3, st3, rfl, hR3, hB3⟩; have hA3 := hT2.aft hB3 hR3; obtain ⟨y1, y2, y3, hD⟩ := hA3.old) | (refine wpList_load_blk rfl 55 _ rfl bs (by rfl) [sa, sp, st] hT2.blk _ Try.underlying55 rfl info13 ?_) | (refine wpList_store_blk rfl 55 _ _ rfl bs [sa3, sp, st3] (by rfl) (by rfl) [y1, y2, y3] hD info13 rfl hA3.ones ?_))
                  go_meet
                  obtain ⟨A3, pls3, hT4⟩ := hA3.two
                  exact ⟨0, 0, true, 0, [], rfl, rfl, rfl, rfl, rfl, rfl, rfl, (Row.nil _ 5 1 (fun _ => False)).reads, by omega, A3, _, _, _, _, _, _, Row.nil _ _ _ _, hT4, (hF.note _).put _ _⟩
              | false =>
                go_wp2_with (first | (go_at_call 14; refine (swap_no hTb.mem o.task o.at_ o.x o.y hok).mono ?_; rintro e w' ⟨rfl, rfl⟩; have hT2 := hTb; have b2 := hbox; have d0 := b2.cell 0 rfl; have d1 := b2.cell 1 rfl; have d2 := b2.cell 2 rfl; have d3 := b2.cell 3 rfl; have d4 := b2.cell 4 rfl; have d5 := b2.cell 5 rfl; have d6 := b2.cell 6 rfl; have d7 := b2.cell 7 rfl; have d8 := b2.cell 8 rfl) | (go_at_call 22; refine (rswap_no hT2.r o.task o.at_ o.x o.y hok).mono ?_; rintro e w3 ⟨rfl, hR3, hB3⟩; have hA3 := hT2.aft hB3 (hR3.wider fun _ h => .inl h); obtain ⟨y1, y2, y3, hD⟩ := hA3.old) | (refine wpList_load_blk rfl 55 _ rfl bs (by rfl) [sa, sp, st] hT2.blk _ Try.underlying55 rfl info13 ?_) | (refine wpList_store_blk rfl 55 _ _ rfl bs [sa, sp, st] (by rfl) (by rfl) [y1, y2, y3] hD info13 rfl hA3.ones ?_))
                go_meet
                obtain ⟨A3, pls3, hT4⟩ := hA3.two
                exact ⟨2, 0, false, 0, [], rfl, rfl, rfl, rfl, rfl, rfl, rfl, (Row.nil _ 5 1 (fun _ => False)).reads, by omega, A3, _, _, _, _, _, _, Row.nil _ _ _ _, hT4, hF.up⟩
          · as_aux_lemma =>
              cases hok : okAt S.atomics.length o.task o.at_ with
              | true =>
                go_wp2_with (first | (go_at_call 15; refine (add_ok hTb.mem hTb.fresh hn1 o.task o.at_ o.x hok).mono ?_; rintro e w2 ⟨rfl, hC2, hO2⟩; have hT2 := hTb.only hO2 hC2; have b2 := hbox.keep (hO2.block _ hbox.lt (hTb.dx _ hXbo).1); have d0 := b2.cell 0 rfl; have d1 := b2.cell 1 rfl; have d2 := b2.cell 2 rfl; have d3 := b2.cell 3 rfl; have d4 := b2.cell 4 rfl; have d5 := b2.cell 5 rfl; have d6 := b2.cell 6 rfl; have d7 := b2.cell 7 rfl; have d8 := b2.cell 8 rfl) | (go_at_call 23; refine (radd_ok hT2.r hn1 o.task o.at_ o.x hok hsm).mono ?_; rintro e w3 ⟨sa3, st3, rfl, hR3, hB3⟩; have hA3 := hT2.aft hB3 hR3; obtain ⟨y1, y2, y3, hD⟩ := hA3.old) | (refine wpList_load_blk rfl 55 _ rfl bs (by rfl) [sa, sp, st] hT2.blk _ Try.underlying55 rfl info13 ?_) | (refine wpList_store_blk rfl 55 _ _ rfl bs [sa3, sp, st3] (by rfl) (by rfl) [y1, y2, y3] hD info13 rfl hA3.ones ?_))
                go_meet
                obtain ⟨A3, pls3, hT4⟩ := hA3.two
                exact ⟨0, IntKind.u64.wrap (S.at_ o.at_ + o.x), false, 0, [], rfl, rfl, rfl, rfl, rfl, rfl, rfl, (Row.nil _ 5 1 (fun _ => False)).reads, by omega, A3, _, _, _, _, _, _, Row.nil _ _ _ _, hT4, (hF.note _).put _ _⟩
              | false =>
                go_wp2_with (first | (go_at_call 15; refine (add_no hTb.mem o.task o.at_ o.x hok).mono ?_; rintro e w' ⟨rfl, rfl⟩; have hT2 := hTb; have b2 := hbox; have d0 := b2.cell 0 rfl; have d1 := b2.cell 1 rfl; have d2 := b2.cell 2 rfl; have d3 := b2.cell 3 rfl; have d4 := b2.cell 4 rfl; have d5 := b2.cell 5 rfl; have d6 := b2.cell 6 rfl; have d7 := b2.cell 7 rfl; have d8 := b2.cell 8 rfl) | (go_at_call 23; refine (radd_no hT2.r o.task o.at_ o.x hok).mono ?_; rintro e w3 ⟨rfl, hR3, hB3⟩; have hA3 := hT2.aft hB3 (hR3.wider fun _ h => .inl h); obtain ⟨y1, y2, y3, hD⟩ := hA3.old) | (refine wpList_load_blk rfl 55 _ rfl bs (by rfl) [sa, sp, st] hT2.blk _ Try.underlying55 rfl info13 ?_) | (refine wpList_store_blk rfl 55 _ _ rfl bs [sa, sp, st] (by rfl) (by rfl) [y1, y2, y3] hD info13 rfl hA3.ones ?_))
                go_meet
                obtain ⟨A3, pls3, hT4⟩ := hA3.two
                exact ⟨2, 0, false, 0, [], rfl, rfl, rfl, rfl, rfl, rfl, rfl, (Row.nil _ 5 1 (fun _ => False)).reads, by omega, A3, _, _, _, _, _, _, Row.nil _ _ _ _, hT4, hF.up⟩
          · as_aux_lemma =>
              cases hok : okAt S.plains.length o.task o.at_ with
              | true =>
                go_wp2_with (first | (go_at_call 10; refine (read_ok hTb.mem hTb.fresh hn1 hF.short o.task o.at_ hok).mono ?_; rintro e w2 ⟨v2, rfl, hP⟩; have hT2 := hTb.own hP.only hP.cells (fun k hk => ⟨hP.row.home k hk, hP.row.lt hk⟩); have b2 := hbox.keep (hP.only.block _ hbox.lt (hTb.dx _ hXbo).1); have hrv : Row w2 5 1 v2 (S.place o.at_).length (u8s (S.place o.at_)) (fun k => X1 k ∨ v2.ownBlock = some k) := ⟨hP.row.owns, fun k hk => .inr hk⟩; have d0 := b2.cell 0 rfl; have d1 := b2.cell 1 rfl; have d2 := b2.cell 2 rfl; have d3 := b2.cell 3 rfl; have d4 := b2.cell 4 rfl; have d5 := b2.cell 5 rfl; have d6 := b2.cell 6 rfl; have d7 := b2.cell 7 rfl; have d8 := b2.cell 8 rfl) | (go_at_call 24; refine (rread_ok hT2.r hn1 o.task o.at_ hok).mono ?_; rintro e w3 ⟨st3, v3, rfl, hrv3, hR3, hB3⟩; have hA3 := hT2.aft hB3 hR3; obtain ⟨y1, y2, y3, hD⟩ := hA3.old) | (refine wpList_load_blk rfl 55 _ rfl bs (by rfl) [sa, sp, st] hT2.blk _ Try.underlying55 rfl info13 ?_) | (refine wpList_store_blk rfl 55 _ _ rfl bs [sa, sp, st3] (by rfl) (by rfl) [y1, y2, y3] hD info13 rfl hA3.ones ?_))
                go_meet
                obtain ⟨A3, pls3, hT4⟩ := hA3.two
                exact ⟨0, 0, false, (S.place o.at_).length, S.place o.at_, rfl, rfl, rfl, rfl, rfl, rfl, rfl, (hrv3.setRow hD (by decide) _).reads, hF.short.at_ _, A3, _, _, _, _, _, _, (hrv.below hB3).setRow hD (by decide) _, hT4, hF.note _⟩
              | false =>
                go_wp2_with (first | (go_at_call 10; refine (read_no hTb.mem o.task o.at_ hok).mono ?_; rintro e w' ⟨rfl, rfl⟩; have hT2 := hTb; have b2 := hbox; have d0 := b2.cell 0 rfl; have d1 := b2.cell 1 rfl; have d2 := b2.cell 2 rfl; have d3 := b2.cell 3 rfl; have d4 := b2.cell 4 rfl; have d5 := b2.cell 5 rfl; have d6 := b2.cell 6 rfl; have d7 := b2.cell 7 rfl; have d8 := b2.cell 8 rfl) | (go_at_call 24; refine (rread_no hT2.r o.task o.at_ hok).mono ?_; rintro e w3 ⟨rfl, hR3, hB3⟩; have hA3 := hT2.aft hB3 (hR3.wider fun _ h => .inl h); obtain ⟨y1, y2, y3, hD⟩ := hA3.old) | (refine wpList_load_blk rfl 55 _ rfl bs (by rfl) [sa, sp, st] hT2.blk _ Try.underlying55 rfl info13 ?_) | (refine wpList_store_blk rfl 55 _ _ rfl bs [sa, sp, st] (by rfl) (by rfl) [y1, y2, y3] hD info13 rfl hA3.ones ?_))
                go_meet
                obtain ⟨A3, pls3, hT4⟩ := hA3.two
                exact ⟨2, 0, false, 0, [], rfl, rfl, rfl, rfl, rfl, rfl, rfl, (Row.nil _ 5 1 (fun _ => False)).reads, by omega, A3, _, _, _, _, _, _, Row.nil _ _ _ _, hT4, hF.up⟩
          · as_aux_lemma =>
              obtain ⟨i0, hi, hz0, hz1, hz2⟩ := info_parts infoU8
              have own0 : (wb.alloc (.cells #[] 5)).ownsRow wb.heap.size 5 1 (.slice (some ⟨wb.heap.size, 0, none⟩) 0 0) 0 [] := World.ownsRow_made wb #[] 0 (Nat.le_refl _) (by unfold maxLen; omega) (by simp)
              have hRw := hRb.alloc (.cells #[] 5)
              have hba := hbox.alloc (.cells #[] 5)
              have ca5 := hba.cell 5 rfl
              clear hba
              cases hok : okAt S.plains.length o.task o.at_ with
              | true =>
                go_wp2_with (first | (at_builtin; refine wpList_append_reads rfl (.tmp 213) (.tmp 215) 27 (by rfl) wb.heap.size 5 i0 (.int .u8 0) 1 1 Try.underlying27 hi hz0 hz1 hz2 rfl (by decide) (.slice (some ⟨wb.heap.size, 0, none⟩) 0 0) 0 [] (by rfl) own0 _ bl (u8s o.bs) (by rfl) hRw (u8s_one o.bs) (by unfold maxLen; omega) (by omega) (by simp) ?_; intro v2 w2 hown2 hg2 hat2; simp only [Nat.zero_add, List.nil_append] at hown2; have hb2 : Below wb.heap.size wb w2 := ((Below.refl _ _).alloc (Nat.le_refl _) _).grown hg2 (by simp) (fun k h => by simp [Value.ownBlock] at h; omega); have hTm := hTb.mine hb2; have hr2 := (Row.of_owns hown2).mono (B := fun k => X1 k ∨ (wb.heap.size ≤ k ∧ k < w2.heap.size)) (fun k hk h => .inr ⟨h, hk⟩); obtain ⟨ao2, cp2, rfl⟩ := hr2.slice; have b2 := hbox.keep (hb2.block _ hbox.lt); have d0 := b2.cell 0 rfl; have d1 := b2.cell 1 rfl; have d2 := b2.cell 2 rfl; have d3 := b2.cell 3 rfl; have d4 := b2.cell 4 rfl; have d5 := b2.cell 5 rfl; have d6 := b2.cell 6 rfl; have d7 := b2.cell 7 rfl; have d8 := b2.cell 8 rfl) | (go_at_call 9; refine (write_to hTm.mem hTm.fresh hn1 o.task o.at_ hok _ o.bs bl HBL.out hr2.reads (fun k hk => (hTm.dx k (hr2.home k hk)).1) (by omega) _ rfl).mono ?_; rintro e w3 ⟨rfl, hC3, hO3⟩; have hT2 := hTm.only hO3 hC3; have b3 := b2.keep (hO3.block _ b2.lt (hTm.dx _ (.inl hXbo)).1); have hr3 := hr2.keep (fun k hk => hO3.block k (hr2.lt hk) (hTm.dx k (hr2.home k hk)).1); have d0 := b3.cell 0 rfl; have d1 := b3.cell 1 rfl; have d2 := b3.cell 2 rfl; have d3 := b3.cell 3 rfl; have d4 := b3.cell 4 rfl; have d5 := b3.cell 5 rfl; have d6 := b3.cell 6 rfl; have d7 := b3.cell 7 rfl; have d8 := b3.cell 8 rfl) | (go_at_call 25; refine (rwrite_ok hT2.r hn1 o.task o.at_ _ hok hsp o.bs bl HBL.out (by omega) (HRB.out.below hT2.below)).mono ?_; rintro e w4 ⟨sp3, st3, pls3, rfl, hR3, hB3⟩; have hA3 := hT2.aft hB3 hR3; obtain ⟨y1, y2, y3, hD⟩ := hA3.old) | (refine wpList_load_blk rfl 55 _ rfl bs (by rfl) [sa, sp, st] hT2.blk _ Try.underlying55 rfl info13 ?_) | (refine wpList_store_blk rfl 55 _ _ rfl bs [sa, sp3, st3] (by rfl) (by rfl) [y1, y2, y3] hD info13 rfl hA3.ones ?_))
                obtain ⟨A3, pls4, hT4⟩ := hA3.two
                have hr4 := (hr3.below hB3).setRow hD (by decide) #[sa, sp3, st3]
                obtain ⟨X2, hX2⟩ : ∃ X2, (fun k => X1 k ∨ (wb.heap.size ≤ k ∧ k < w2.heap.size)) = X2 := ⟨_, rfl⟩
                rw [hX2] at hT4 hr4
                obtain ⟨Wl, hWl⟩ : ∃ Wl, w4.setRow bs #[sa, sp3, st3] = Wl := ⟨_, rfl⟩
                rw [hWl] at hT4 hr4
                rw [hWl]
                clear hown2 hg2 hat2 hTm hR3 hA3 hD hT2 hX2 hWl hr2 hr3 hRw own0 hTb hbox hRb
                go_loopw [237] (fun i wx => ∃ (j : Nat) (xs : List Value), j ≤ bl ∧ i = .int .i64 j ∧ AllU8 xs ∧ Row wx 5 1 (.slice ao2 bl cp2) bl xs X2 ∧ TwoAt A3 X2 sa sp3 st3 pls4 w wx c ((S.note ⟨o.task, 7, o.at_⟩).lay o.at_ o.bs) bs ((S.note ⟨o.task, 7, o.at_⟩).lay o.at_ o.bs)) (fun i _ => bl - (intOf i).toNat)
                case atStart => exact ⟨0, _, Nat.zero_le _, rfl, allU8 o.bs, hr4, hT4⟩
                case round =>
                  clear hr4 hT4
                  obtain ⟨j, xs, hj, rfl, hxs, hr, hT5⟩ := hrel
                  by_cases hjl : j < bl
                  · obtain ⟨g1, x, rfl, e1, f1, x0, x1, hg1⟩ := hr.u8At hxs j hjl
                    have hr5 := hr.put rfl j hjl (.int .u8 ((x + 1) % 256))
                    have hT6 := hT5.poke (p := ⟨g1, j, none⟩) hg1 (.int .u8 ((x + 1) % 256))
                    have hxs5 := hxs.set j ((x + 1) % 256) (by omega) (by omega)
                    clear hr hT5 hxs
                    go_wp2_with fail
                    go_roundw
                    case rel => exact ⟨j + 1, _, by omega, by go_num, hxs5, hr5, hT6⟩
                    case measure => simp [intOf]; omega
                  · clear hr hxs
                    go_wp2_with fail
                    go_meet
                    exact ⟨0, 0, false, 0, [], rfl, rfl, rfl, rfl, rfl, rfl, rfl, (Row.nil _ 5 1 (fun _ => False)).reads, by omega, A3, _, _, _, _, _, _, Row.nil _ _ _ _, hT5, (hF.note _).lay _ (by rw [HBL.out]; omega)⟩
              | false =>
                go_wp2_with (first | (at_builtin; refine wpList_append_reads rfl (.tmp 213) (.tmp 215) 27 (by rfl) wb.heap.size 5 i0 (.int .u8 0) 1 1 Try.underlying27 hi hz0 hz1 hz2 rfl (by decide) (.slice (some ⟨wb.heap.size, 0, none⟩) 0 0) 0 [] (by rfl) own0 _ bl (u8s o.bs) (by rfl) hRw (u8s_one o.bs) (by unfold maxLen; omega) (by omega) (by simp) ?_; intro v2 w2 hown2 hg2 hat2; simp only [Nat.zero_add, List.nil_append] at hown2; have hb2 : Below wb.heap.size wb w2 := ((Below.refl _ _).alloc (Nat.le_refl _) _).grown hg2 (by simp) (fun k h => by simp [Value.ownBlock] at h; omega); have hTm := hTb.mine hb2; have hr2 := (Row.of_owns hown2).mono (B := fun k => X1 k ∨ (wb.heap.size ≤ k ∧ k < w2.heap.size)) (fun k hk h => .inr ⟨h, hk⟩); obtain ⟨ao2, cp2, rfl⟩ := hr2.slice; have b2 := hbox.keep (hb2.block _ hbox.lt); have d0 := b2.cell 0 rfl; have d1 := b2.cell 1 rfl; have d2 := b2.cell 2 rfl; have d3 := b2.cell 3 rfl; have d4 := b2.cell 4 rfl; have d5 := b2.cell 5 rfl; have d6 := b2.cell 6 rfl; have d7 := b2.cell 7 rfl; have d8 := b2.cell 8 rfl) | (go_at_call 9; refine (write_no hTm.mem o.task o.at_ hok _).mono ?_; rintro e w' ⟨rfl, rfl⟩; have hT2 := hTm; have b3 := b2; have hr3 := hr2) | (go_at_call 25; refine (rwrite_no hT2.r o.task o.at_ _ hok).mono ?_; rintro e w4 ⟨rfl, hR3, hB3⟩; have hA3 := hT2.aft hB3 (hR3.wider fun _ h => .inl h); obtain ⟨y1, y2, y3, hD⟩ := hA3.old) | (refine wpList_load_blk rfl 55 _ rfl bs (by rfl) [sa, sp, st] hT2.blk _ Try.underlying55 rfl info13 ?_) | (refine wpList_store_blk rfl 55 _ _ rfl bs [sa, sp, st] (by rfl) (by rfl) [y1, y2, y3] hD info13 rfl hA3.ones ?_))
                obtain ⟨A3, pls4, hT4⟩ := hA3.two
                have hr4 := (hr3.below hB3).setRow hD (by decide) #[sa, sp, st]
                obtain ⟨X2, hX2⟩ : ∃ X2, (fun k => X1 k ∨ (wb.heap.size ≤ k ∧ k < w2.heap.size)) = X2 := ⟨_, rfl⟩
                rw [hX2] at hT4 hr4
                obtain ⟨Wl, hWl⟩ : ∃ Wl, w4.setRow bs #[sa, sp, st] = Wl := ⟨_, rfl⟩
                rw [hWl] at hT4 hr4
                rw [hWl]
                clear hown2 hg2 hat2 hTm hR3 hA3 hD hT2 hX2 hWl hr2 hr3 hRw own0 hTb hbox hRb
                go_loopw [237] (fun i wx => ∃ (j : Nat) (xs : List Value), j ≤ bl ∧ i = .int .i64 j ∧ AllU8 xs ∧ Row wx 5 1 (.slice ao2 bl cp2) bl xs X2 ∧ TwoAt A3 X2 sa sp st pls4 w wx c S bs S) (fun i _ => bl - (intOf i).toNat)
                case atStart => exact ⟨0, _, Nat.zero_le _, rfl, allU8 o.bs, hr4, hT4⟩
                case round =>
                  clear hr4 hT4
                  obtain ⟨j, xs, hj, rfl, hxs, hr, hT5⟩ := hrel
                  by_cases hjl : j < bl
                  · obtain ⟨g1, x, rfl, e1, f1, x0, x1, hg1⟩ := hr.u8At hxs j hjl
                    have hr5 := hr.put rfl j hjl (.int .u8 ((x + 1) % 256))
                    have hT6 := hT5.poke (p := ⟨g1, j, none⟩) hg1 (.int .u8 ((x + 1) % 256))
                    have hxs5 := hxs.set j ((x + 1) % 256) (by omega) (by omega)
                    clear hr hT5 hxs
                    go_wp2_with fail
                    go_roundw
                    case rel => exact ⟨j + 1, _, by omega, by go_num, hxs5, hr5, hT6⟩
                    case measure => simp [intOf]; omega
                  · clear hr hxs
                    go_wp2_with fail
                    go_meet
                    exact ⟨2, 0, false, 0, [], rfl, rfl, rfl, rfl, rfl, rfl, rfl, (Row.nil _ 5 1 (fun _ => False)).reads, by omega, A3, _, _, _, _, _, _, Row.nil _ _ _ _, hT5, hF.up⟩
          · as_aux_lemma =>
              cases hok : okNote S o.a with
              | true =>
                go_wp2_with (first | (go_at_call 17; refine (note_ok hTb.mem hTb.fresh hn1 o.a hok).mono ?_; rintro e w2 ⟨rfl, hC2, hO2⟩; have hT2 := hTb.only hO2 hC2; have b2 := hbox.keep (hO2.block _ hbox.lt (hTb.dx _ hXbo).1); have d0 := b2.cell 0 rfl; have d1 := b2.cell 1 rfl; have d2 := b2.cell 2 rfl; have d3 := b2.cell 3 rfl; have d4 := b2.cell 4 rfl; have d5 := b2.cell 5 rfl; have d6 := b2.cell 6 rfl; have d7 := b2.cell 7 rfl; have d8 := b2.cell 8 rfl) | (go_at_call 26; refine (rnote_ok hT2.r hn1 o.a hok).mono ?_; rintro e w3 ⟨st3, rfl, hR3, hB3⟩; have hA3 := hT2.aft hB3 hR3; obtain ⟨y1, y2, y3, hD⟩ := hA3.old) | (refine wpList_load_blk rfl 55 _ rfl bs (by rfl) [sa, sp, st] hT2.blk _ Try.underlying55 rfl info13 ?_) | (refine wpList_store_blk rfl 55 _ _ rfl bs [sa, sp, st3] (by rfl) (by rfl) [y1, y2, y3] hD info13 rfl hA3.ones ?_))
                go_meet
                obtain ⟨A3, pls3, hT4⟩ := hA3.two
                exact ⟨0, 0, false, 0, [], rfl, rfl, rfl, rfl, rfl, rfl, rfl, (Row.nil _ 5 1 (fun _ => False)).reads, by omega, A3, _, _, _, _, _, _, Row.nil _ _ _ _, hT4, hF.note _⟩
              | false =>
                go_wp2_with (first | (go_at_call 17; refine (note_no hTb.mem o.a hok).mono ?_; rintro e w2 ⟨rfl, hB2⟩; have hT2 := hTb.under hB2; have b2 := hbox.keep (hB2.block _ hbox.lt); have d0 := b2.cell 0 rfl; have d1 := b2.cell 1 rfl; have d2 := b2.cell 2 rfl; have d3 := b2.cell 3 rfl; have d4 := b2.cell 4 rfl; have d5 := b2.cell 5 rfl; have d6 := b2.cell 6 rfl; have d7 := b2.cell 7 rfl; have d8 := b2.cell 8 rfl) | (go_at_call 26; refine (rnote_no hT2.r o.a hok).mono ?_; rintro e w3 ⟨rfl, hR3, hB3⟩; have hA3 := hT2.aft hB3 (hR3.wider fun _ h => .inl h); obtain ⟨y1, y2, y3, hD⟩ := hA3.old) | (refine wpList_load_blk rfl 55 _ rfl bs (by rfl) [sa, sp, st] hT2.blk _ Try.underlying55 rfl info13 ?_) | (refine wpList_store_blk rfl 55 _ _ rfl bs [sa, sp, st] (by rfl) (by rfl) [y1, y2, y3] hD info13 rfl hA3.ones ?_))
                go_meet
                obtain ⟨A3, pls3, hT4⟩ := hA3.two
                exact ⟨2, 0, false, 0, [], rfl, rfl, rfl, rfl, rfl, rfl, rfl, (Row.nil _ 5 1 (fun _ => False)).reads, by omega, A3, _, _, _, _, _, _, Row.nil _ _ _ _, hT4, hF.up⟩
          --H}
        case rest =>
          obtain ⟨E, X, P, n, bys, rfl, rfl, rfl, rfl, rfl, rfl, hbn, hRv, hn4, A2, X2, sa2, sp2, st2, pls2, S2, hrow, hT2, hF2⟩ := hcut
          have hcv1 := conv_bytes (P := Try.prog) (w := wc) (b := bys) 27 9 5 Try.underlying27 Try.underlying5 Try.underlying9 (by rw [hbn]; exact hrow.reads)
          have hcv2 := conv_bytes (P := Try.prog) (w := wc) (b := bys) 27 9 5 Try.underlying27 Try.underlying5 Try.underlying9 (by rw [hbn]; exact hRv)
          obtain ⟨ao2, cp2, rfl⟩ := hrow.slice
          obtain ⟨ao3, cp3, rfl⟩ := hRv.slice
          have hal := allU8 bys
          clear hTb hbox hXbo hF hl hRb hRv hcap hm1 hm3 hf0 hf1 hf2 hw hbn
          go_wp2_with fail
          clear hcv1 hcv2
          go_loopw [269] (fun i wx => ∃ (j : Nat) (xs : List Value), j ≤ n ∧ i = .int .i64 j ∧ AllU8 xs ∧ Row wx 5 1 (.slice ao2 n cp2) n xs X2 ∧ TwoAt A2 X2 sa2 sp2 st2 pls2 w wx c S2 bs S2) (fun i _ => n - (intOf i).toNat)
          case atStart => exact ⟨0, _, Nat.zero_le _, rfl, hal, hrow, hT2⟩
          case round =>
            clear hrow hT2 hal
            obtain ⟨j, xs, hj, rfl, hxs, hr, hT5⟩ := hrel
            by_cases hjl : j < n
            · obtain ⟨g1, x, rfl, e1, f1, x0, x1, hg1⟩ := hr.u8At hxs j hjl
              have hr5 := hr.put rfl j hjl (.int .u8 ((x + 1) % 256))
              have hT6 := hT5.poke (p := ⟨g1, j, none⟩) hg1 (.int .u8 ((x + 1) % 256))
              have hxs5 := hxs.set j ((x + 1) % 256) (by omega) (by omega)
              clear hr hT5 hxs
              go_wp2_with fail
              go_roundw
              case rel => exact ⟨j + 1, _, by omega, by go_num, hxs5, hr5, hT6⟩
              case measure => simp [intOf]; omega
            · clear hr hxs
              go_wp2_with fail
              go_roundw
              case rel => exact ⟨k + 1, by omega, by go_num, A2, sa2, sp2, st2, pls2, S2, hT5.forget, hF2⟩
              case measure => simp [intOf]; omega
    · clear hl
      have hn1 : S.trace.length < trMax := by unfold trMax; have := hF.tr; omega
      have htl : S.trace.length ≤ 4000000000 := by have := hF.tr; omega
      have hat := hF.at_
      have hpl := hF.pl
      obtain ⟨ast, cst, rfl⟩ := hT.r.tr.slice
      go_wp2_with (first | (go_at_call 16; refine (trace_ok hT.mem hn1).mono ?_; rintro e w5 ⟨v5, rfl, hP⟩; have hT5 := hT.mine hP.below; have hr5 : Row w5 40 3 v5 S.trace.length (accs S.trace) (fun k => False ∨ (wr.heap.size ≤ k ∧ k < w5.heap.size)) := hP.row.mono fun k hk h => .inr ⟨h, hk⟩; obtain ⟨av5, cv5, rfl⟩ := hr5.slice) | (go_at_call 27; refine (many_ok hT5.mem).mono ?_; rintro e w6 ⟨rfl, hq6⟩; have hT6 := hT5.under (hq6.below _); have hr6 := hr5.below (hq6.below _); have s6 := hT6.blk.cell 2 rfl; have l6 := Lib.hid (lowTrace w6 _ _ S.trace S.trace hr6.reads hT6.r.tr.reads htl); rw [hat, hpl]) | (go_at_call 28; refine l6.out.mono ?_; rintro e w7 ⟨rfl, hq7⟩; have hT7 := hT6.under (hq7.below _); have hr7 := hr6.below (hq7.below _)))
      have hTR : TRow w7 av5 S.trace.length (fun k => False ∨ (wr.heap.size ≤ k ∧ k < w5.heap.size)) := hr7.trow
      obtain ⟨A5, hA5⟩ : ∃ A5, (fun k => A k ∧ ¬ (wr.heap.size ≤ k ∧ k < w5.heap.size)) = A5 := ⟨_, rfl⟩
      obtain ⟨X5, hX5⟩ : ∃ X5, (fun k => False ∨ (wr.heap.size ≤ k ∧ k < w5.heap.size)) = X5 := ⟨_, rfl⟩
      rw [hA5, hX5] at hT7
      rw [hX5] at hTR
      obtain ⟨tl, htle⟩ : ∃ tl, S.trace.length = tl := ⟨_, rfl⟩
      have HTL := Lib.hid htle
      rw [htle] at hT7 hTR htl hn1
      rw [htle]
      clear hA5 hX5 hT6 hT5 hT hr7 hr6 hr5 hP hq7 hq6 s6 l6 hF htle hat hpl hcap hm1 hm3
      go_loopw [304] (fun i wx => ∃ j : Nat, j ≤ tl ∧ i = .int .i64 j ∧ TRow wx av5 tl X5 ∧ TwoAt A5 X5 sa sp (.slice ast tl cst) pls w wx c S bs S) (fun i _ => tl - (intOf i).toNat)
      case atStart => exact ⟨0, Nat.zero_le _, rfl, hTR, hT7⟩
      case round =>
        clear hTR hT7
        obtain ⟨j, hj, rfl, hTR, hT8⟩ := hrel
        by_cases hjl : j < tl
        · obtain ⟨g, x, rfl, e1, f1, hg⟩ := hTR.at_ j hjl
          have hset := fun u => hTR.set rfl j hjl u
          have hpok := fun u => hT8.poke (p := ⟨g, j * 3, none⟩) hg u
          have HSET := Lib.hid hset
          have HPOK := Lib.hid hpok
          clear hset hpok hTR hT8
          go_wp2_with fail
          go_roundw
          case rel => exact ⟨j + 1, by omega, by go_num, HSET.out _, HPOK.out _⟩
          case measure => simp [intOf]; omega
        · have hTd := hT8.under (Quiet.below (w' := wr.drew) ⟨1, rfl⟩ _)
          have HT := Lib.hid hTd
          have c67 := hT8.blk.cell 2 rfl
          have hS' : S.trace.length < trMax := by rw [HTL.out]; exact hn1
          have hSl : S.trace.length ≤ 4000000000 := by rw [HTL.out]; exact htl
          have HS' := Lib.hid hS'
          have HSl := Lib.hid hSl
          clear hTd hTR hS' hSl
          go_wp2_with fail
          go_region_held3 (fun w' => w'.cell? ⟨bs, 2, none⟩ = some (.slice ast tl cst)) (first | go_keep | assumption)
            (first | (go_at_call 16; refine (trace_ok HT.out.mem HS'.out).mono ?_; rintro e w5 ⟨v5, rfl, hP⟩; have hT5 := Lib.hid (HT.out.under hP.below); have c67 := hT5.out.blk.cell 2 rfl; have hr5' := Lib.hid hP.row.reads; clear hP; obtain ⟨ao5, cp5, rfl⟩ := hr5'.out.slice) | (go_at_call 28; refine (lowTrace _ _ _ S.trace S.trace hr5'.out hT5.out.r.tr.reads HSl.out).mono ?_; rintro e w6 ⟨rfl, hq6⟩; have hb6 := hT5.out.under (hq6.below _); have c67 := hb6.blk.cell 2 rfl) | (go_at_call 12; refine (awake13 _).mono ?_; rintro e w7 ⟨rfl, hb7⟩; have hb8 := hb6.under hb7; have c67 := hb8.blk.cell 2 rfl))
          go_wp2_with fail
          go_ret
          exact ⟨rfl, hb8.below⟩

theorem cellsTells (w : World) (a p : Int) (ao : Option Addr) (cap : Nat) (l : List Op) (hcap : l.length ≤ cap) (hl : ArgRow w 9 (.slice ao l.length cap) Op.cells (Op.Fits w) l) :
    Calls Try.prog 6 #[.int .i64 a, .int .i64 p, .slice ao l.length cap] w fun e w' => e = .returned (.bool true) ∧ Below w.heap.size w w' := by
  by_cases h : ¬ (0 ≤ a ∧ a ≤ 100000) ∨ ¬ (0 ≤ p ∧ p ≤ 100000)
  · exact cellsTells_no w a p h ao _ cap
  · exact cellsTells_yes w a p (by omega) (by omega) (by omega) (by omega) ao cap l hcap hl
end Go.Proofs.Ytlofgmcbanldnaa
