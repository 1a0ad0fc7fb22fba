/- The walks over what is guarded: Install. -/
import Derived.Test.YteiaifhnikknbaaGreatDoorGuard22b
import Derived.Test.YteiaifhnikknbaaGreatDoorCellsNew

namespace Go.Proofs.YteiaifhnikknbaaGreatDoor
open Go.RowKit

variable {w w' : World} {G : Gd} {sl sd si st : Value} {A B : Nat → Prop}
def instG (G : Gd) (m : Meta) : Gd := match G.imms with | [] => G | _ :: r => { G with imms := r, tables := G.tables ++ [m] }

theorem three_g (w : World) (C D : List Value) : ∃ W, ((w.alloc (.cells C.toArray 67)).alloc (.cells D.toArray 92)).alloc (.cells #[.slice none 0 0, .slice none 0 0, .int .i64 0, .int .u64 0, .int .i64 0, .int .i64 0, .slice none 0 0, .int .u64 0, .int .u64 0, .slice none 0 0, .bool false] 67) = W ∧ Blk W w.heap.size 67 C ∧ Blk W (w.heap.size + 1) 92 D ∧ Blk W (w.heap.size + 1 + 1) 67 gZ ∧ Below w.heap.size w W ∧ W.heap.size = w.heap.size + 3 := three_boxes w C D gZ _ _ _

set_option maxRecDepth 100000 in
set_option maxHeartbeats 2000000 in
theorem install_nil (h : GR w G sl sd si st) (hs : G.Small 1000000) (m : Meta) (hm : G.imms = []) :
    Calls Tryz.prog 30 #[.agg (gC G sl sd si st).toArray, .agg #[.int .u64 m.num, .int .u64 m.size, .string m.least, .string m.most]] w fun e w' => ∃ sl' sd' si' st', e = .returned (.agg (gC G sl' sd' si' st').toArray) ∧ GH w' G sl' sd' si' st' w.heap.size ∧ Below w.heap.size w w' := by
  obtain ⟨W, hW, k1, kb, k2, hB, hsz⟩ := three_g w (gC G sl sd si st) [.int .u64 m.num, .int .u64 m.size, .string m.least, .string m.most]
  have HOW := Lib.hid (own_any (h.below hB) hs)
  obtain ⟨C, hC⟩ : ∃ C, gC G sl sd si st = C := ⟨_, rfl⟩
  have HIN : Hid ((Tryz.prog.info? 67).map (·.size) = some C.length) := Lib.hid (by rw [← hC]; exact infoG)
  rw [hC] at HOW k1 hW
  rw [hC]
  have HM := Lib.hid hm
  clear h hC hm
  go_enter Tryz.func30, Tryz.ntmps30
  go_wp2_with (first | (refine wpList_load_blk rfl 67 _ rfl w.heap.size (by rfl) C k1 _ Tryz.underlying67 rfl HIN.out ?_) | (go_at_call 54; refine HOW.out.mono ?_; rintro e w1 ⟨v1, v2, v3, v4, rfl, hO, hB1⟩; obtain ⟨D, hD⟩ : ∃ D, gC G v1 v2 v3 v4 = D := ⟨_, rfl⟩; rw [hD]; have HD := Lib.hid hD; have HDN : Hid ((Tryz.prog.info? 67).map (·.size) = some D.length) := Lib.hid (by rw [← hD]; exact infoG); have m1 := k1.keep (hB1.block _ k1.lt); have m2 := k2.keep (hB1.block _ k2.lt); have q1 := m1.setRow D; have q2 := m2.setRow_other (b' := w.heap.size) (by omega) D.toArray; have a6 : (w1.setRow w.heap.size D.toArray).cell? ⟨w.heap.size, 6, none⟩ = some v3 := q1.cell 6 (by rw [← hD]; rfl); have ho := Lib.hid (gC_one (sl := v1) (sd := v2) (si := v3) (st := v4) G hO.l.slice_one hO.d.slice_one hO.i.slice_one hO.t.slice_one); rw [hD] at ho; have hll : C.length = D.length := Option.some.inj (HIN.out.symm.trans HDN.out); have hlz : gZ.length = D.length := (Option.some.inj (infoG.symm.trans HDN.out)); have HLL := Lib.hid hll; have HLZ := Lib.hid hlz; obtain ⟨a3, c3, e3⟩ := hO.i.slice; rw [HM.out, List.length_nil] at e3; rw [e3] at a6; clear hD hll hlz e3) | (refine wpList_store_blk rfl 67 _ _ rfl w.heap.size D (by rfl) (by rfl) _ m1 HDN.out HLL.out ho.out ?_) | (refine wpList_load_blk rfl 67 _ rfl w.heap.size (by rfl) D q1 _ Tryz.underlying67 rfl HDN.out ?_) | (refine wpList_store_blk rfl 67 _ _ rfl (w.heap.size + 1 + 1) D (by rfl) (by rfl) _ q2 HDN.out HLZ.out ho.out ?_))
  have r4 := q2.setRow D
  have hBe := below_setRow (below_setRow (hB.trans (hB1.mono hB.size)) (b := w.heap.size) (Nat.le_refl _) D.toArray) (b := w.heap.size + 1 + 1) (by omega) D.toArray
  refine bodyPost_ret (results_cell_one (P := Tryz.prog) Tryz.results30 rfl (r4.loadRow _ Tryz.underlying67 rfl HDN.out)) rfl ⟨v1, v2, v3, v4, by rw [HD.out], ?_, hBe⟩
  exact (hO.keep fun k hk _ => (heap_setRow_other _ _ _ (by omega)).trans (heap_setRow_other _ _ _ (by omega))).gh.lower hB.size

theorem owns_pos {W : World} {base e size n : Nat} {v : Value} {xs : List Value} (h : W.ownsRow base e size v n xs) (hn : 0 < n) : ∃ g cap, v = .slice (some ⟨g, 0, none⟩) n cap ∧ n ≤ cap := by
  rcases h.2 with ⟨_, h0⟩ | ⟨g, cap, _, rfl, _, _, h1, _⟩
  · omega
  · exact ⟨g, cap, rfl, h1⟩
/-- Behind the append onto the tables. -/
structure GInst (G : Gd) (m : Meta) (x : Imm) (r : List Imm) (n tn : Nat) (w w3 : World) (v1 v2 : Value) (g3 c3 : Nat) (v5 : Value) : Prop where
  l : Row w3 155 6 v1 G.l.length (mbs G.l) (fun k => w.heap.size ≤ k)
  d : Row w3 155 6 v2 G.done.length (mbs G.done) (fun k => w.heap.size ≤ k)
  i : Row w3 141 2 (.slice (some ⟨g3, 0, none⟩) (n + 1) c3) (n + 1) (ims (x :: r)) (fun k => w.heap.size ≤ k)
  t : Row w3 92 4 v5 (tn + 1) (mts G.tables ++ [.int .u64 m.num, .int .u64 m.size, .string m.least, .string m.most]) (fun k => w.heap.size ≤ k)
  b : Below w.heap.size w w3
theorem GInst.mk' {m : Meta} {x : Imm} {r : List Imm} {n tn : Nat} {W Wq w3 : World} {v1 v2 v4 v5 : Value} {g3 c3 : Nat} {o : Obj} (hW : w.heap.size ≤ W.heap.size) (hO : GO Wq G v1 v2 (.slice (some ⟨g3, 0, none⟩) (n + 1) c3) v4 (fun k => W.heap.size ≤ k)) (hB : Below w.heap.size w Wq) (hg : ((Wq.alloc o).drew).grownBy w3 v4.ownBlock)
    (hown : w3.ownsRow w.heap.size 92 4 v5 (tn + 1) (mts G.tables ++ [.int .u64 m.num, .int .u64 m.size, .string m.least, .string m.most]))
    (h3 : Row Wq 141 2 (.slice (some ⟨g3, 0, none⟩) (n + 1) c3) (n + 1) (ims (x :: r)) (fun k => W.heap.size ≤ k)) : GInst G m x r n tn w w3 v1 v2 g3 c3 v5 := by
  have al : ∀ {e size k : Nat} {v : Value} {xs : List Value}, Row Wq e size v k xs (fun k => W.heap.size ≤ k) → Row ((Wq.alloc o).drew) e size v k xs (fun k => w.heap.size ≤ k) := fun h => ((h.alloc o).keep (w' := (Wq.alloc o).drew) fun _ _ => rfl).wider fun k hk => Nat.le_trans hW hk
  have h4 := al hO.t
  refine ⟨(al hO.l).grown hg ((al hO.l).ne_row h4 (by decide)), (al hO.d).grown hg ((al hO.d).ne_row h4 (by decide)), (al h3).grown hg ((al h3).ne_row h4 (by decide)), Row.of_owns hown, ?_⟩
  have hb := (hB.alloc hB.size o).trans (Quiet.below (w' := (Wq.alloc o).drew) ⟨1, rfl⟩ _)
  exact hb.grown hg (by have := hb.size; exact this) (fun k hk => h4.home k hk)
theorem Reads.tail2 {x : Imm} {r : List Imm} {n g off c : Nat} (h : Reads w 2 (.slice (some ⟨g, off, none⟩) (n + 1) c) (n + 1) (ims (x :: r))) : Reads w 2 (.slice (some ⟨g, off + 2, none⟩) n (c - 1)) n (ims r) := by
  have hl := h.len
  have e : ims (x :: r) = .int .i64 x.list :: .int .u64 x.log :: ims r := rfl
  rw [e] at hl h
  simp at hl
  refine ⟨by omega, ?_⟩
  rcases h.form with ⟨h0, _⟩ | ⟨b, o, c', e', hc, hr⟩
  · omega
  · cases e'
    by_cases hn : n = 0
    · subst hn; exact .inl ⟨rfl, _, _, rfl⟩
    · exact .inr ⟨g, off + 2, c - 1, rfl, by omega, fun j u hu => by have := hr (j + 2) u (by simpa using hu); rwa [show off + (j + 2) = off + 2 + j by omega] at this⟩
def InstMid (G : Gd) (m : Meta) (n : Nat) (w wx : World) (b : Nat) (v1 v2 : Value) : Prop :=
  ∃ v3 v5, Blk wx b 67 (gC (instG G m) v1 v2 v3 v5) ∧ (∀ E : Array Value, GH (wx.setRow (b + 1 + 1) E) (instG G m) v1 v2 v3 v5 w.heap.size) ∧ Blk wx (b + 1 + 1) 67 gZ ∧ Below w.heap.size w wx
theorem GInst.mid {m : Meta} {x : Imm} {r : List Imm} {n tn : Nat} {w3 : World} {v1 v2 v4 v5 v3' : Value} {g3 c3 : Nat} (h : GInst G m x r n tn w w3 v1 v2 g3 c3 v5) (r1 : Blk w3 w.heap.size 67 (gC G v1 v2 (.slice (some ⟨g3, 0, none⟩) (n + 1) c3) v4)) (r2 : Blk w3 (w.heap.size + 1 + 1) 67 gZ)
    (hm : G.imms = x :: r) (hn : r.length = n) (ht : G.tables.length = tn) (h3 : ∀ E : Array Value, Reads (((w3.setCell ⟨w.heap.size, 6, none⟩ v3').setCell ⟨w.heap.size, 9, none⟩ v5).setRow (w.heap.size + 1 + 1) E) 2 v3' n (ims r)) (hv3 : ∀ k, v3'.ownBlock = some k → w.heap.size ≤ k) : InstMid G m n w ((w3.setCell ⟨w.heap.size, 6, none⟩ v3').setCell ⟨w.heap.size, 9, none⟩ v5) w.heap.size v1 v2 := by
  have e : instG G m = { G with imms := r, tables := G.tables ++ [m] } := by simp [instG, hm]
  rw [InstMid, e]
  have two : ∀ {e size k : Nat} {v : Value} {xs : List Value} {A : Nat → Prop}, 67 ≠ e → Row w3 e size v k xs A → Row ((w3.setCell ⟨w.heap.size, 6, none⟩ v3').setCell ⟨w.heap.size, 9, none⟩ v5) e size v k xs A := fun hne h => (h.setCell (a := ⟨w.heap.size, 6, none⟩) (h.ne_blk r1 hne) _).setCell (a := ⟨w.heap.size, 9, none⟩) (h.ne_blk r1 hne) _
  have s2 := (r2.set_other (a := ⟨w.heap.size, 6, none⟩) (by simp; omega) v3').set_other (a := ⟨w.heap.size, 9, none⟩) (by simp; omega) v5
  refine ⟨v3', v5, (r1.set 6 v3').set 9 v5, fun E => ⟨⟨((two (by decide) h.l).setRow s2 (by decide) E).reads, ((two (by decide) h.d).setRow s2 (by decide) E).reads, ?_, ?_⟩, h.l.home, h.d.home, hv3, h.t.home⟩, s2, (h.b.setCell (p := ⟨w.heap.size, 6, none⟩) (Nat.le_refl _) _).setCell (p := ⟨w.heap.size, 9, none⟩) (Nat.le_refl _) _⟩
  · show Reads _ 2 v3' r.length (ims r)
    rw [hn]; exact h3 E
  · have := ((two (by decide) h.t).setRow s2 (by decide) E).reads
    show Reads _ 4 v5 (G.tables ++ [m]).length (mts (G.tables ++ [m]))
    have l2 : mts (G.tables ++ [m]) = mts G.tables ++ [.int .u64 m.num, .int .u64 m.size, .string m.least, .string m.most] := by simp [mts, Meta.cells]
    rw [l2, List.length_append, ht]
    exact this
theorem GInst.mid0 {m : Meta} {x : Imm} {r : List Imm} {tn : Nat} {w3 : World} {v1 v2 v4 v5 : Value} {g3 c3 : Nat} (h : GInst G m x r 0 tn w w3 v1 v2 g3 c3 v5) (r1 : Blk w3 w.heap.size 67 (gC G v1 v2 (.slice (some ⟨g3, 0, none⟩) (0 + 1) c3) v4)) (r2 : Blk w3 (w.heap.size + 1 + 1) 67 gZ)
    (hm : G.imms = x :: r) (hn : r.length = 0) (ht : G.tables.length = tn) : InstMid G m 0 w ((w3.setCell ⟨w.heap.size, 6, none⟩ (.slice (some ⟨g3, 0, none⟩) 0 0)).setCell ⟨w.heap.size, 9, none⟩ v5) w.heap.size v1 v2 :=
  h.mid r1 r2 hm hn ht (fun E => by obtain rfl : r = [] := List.eq_nil_of_length_eq_zero hn; exact ⟨rfl, .inl ⟨rfl, _, _, rfl⟩⟩) (fun k hk => by cases hk; exact h.i.home _ rfl)
theorem GInst.mid1 {m : Meta} {x : Imm} {r : List Imm} {n tn : Nat} {w3 : World} {v1 v2 v4 v5 : Value} {g3 c3 : Nat} (h : GInst G m x r n tn w w3 v1 v2 g3 c3 v5) (r1 : Blk w3 w.heap.size 67 (gC G v1 v2 (.slice (some ⟨g3, 0, none⟩) (n + 1) c3) v4)) (r2 : Blk w3 (w.heap.size + 1 + 1) 67 gZ)
    (hm : G.imms = x :: r) (hn : r.length = n) (ht : G.tables.length = tn) : InstMid G m n w ((w3.setCell ⟨w.heap.size, 6, none⟩ (.slice (some ⟨g3, 2, none⟩) n (c3 - 1))).setCell ⟨w.heap.size, 9, none⟩ v5) w.heap.size v1 v2 :=
  h.mid r1 r2 hm hn ht (fun E => by
    have s2 := (r2.set_other (a := ⟨w.heap.size, 6, none⟩) (by simp; omega) (.slice (some ⟨g3, 2, none⟩) n (c3 - 1))).set_other (a := ⟨w.heap.size, 9, none⟩) (by simp; omega) v5
    have h3 := (h.i.setCell (a := ⟨w.heap.size, 6, none⟩) (h.i.ne_blk r1 (by decide)) (.slice (some ⟨g3, 2, none⟩) n (c3 - 1))).setCell (a := ⟨w.heap.size, 9, none⟩) (h.i.ne_blk r1 (by decide)) v5
    have := (h3.setRow s2 (by decide) E).reads.tail2
    simpa using this) (fun k hk => by cases hk; exact h.i.home _ rfl)
set_option maxRecDepth 100000 in
set_option maxHeartbeats 4000000 in
theorem install_cons (h : GR w G sl sd si st) (hs : G.Small 1000000) (m : Meta) (x : Imm) (r : List Imm) (hm : G.imms = x :: r) :
    Calls Tryz.prog 30 #[.agg (gC G sl sd si st).toArray, .agg #[.int .u64 m.num, .int .u64 m.size, .string m.least, .string m.most]] w fun e w' => ∃ sl' sd' si' st', e = .returned (.agg (gC (instG G m) sl' sd' si' st').toArray) ∧ GH w' (instG G m) sl' sd' si' st' w.heap.size ∧ Below w.heap.size w w' := by
  obtain ⟨W, hW, k1, kb, k2, hB, hsz⟩ := three_g w (gC G sl sd si st) [.int .u64 m.num, .int .u64 m.size, .string m.least, .string m.most]
  obtain ⟨i0, hi, hz0, hz1, hz2⟩ := info_parts infoMt
  have HOW := Lib.hid (own_any (h.below hB) hs)
  obtain ⟨C, hC⟩ : ∃ C, gC G sl sd si st = C := ⟨_, rfl⟩
  have HIN : Hid ((Tryz.prog.info? 67).map (·.size) = some C.length) := Lib.hid (by rw [← hC]; exact infoG)
  rw [hC] at HOW k1 hW
  rw [hC]
  have HM := Lib.hid hm
  have HS := Lib.hid hs
  clear h hC hm hs
  go_enter Tryz.func30, Tryz.ntmps30
  go_upto_region 2 with (first | (refine wpList_load_blk rfl 67 _ rfl w.heap.size (by rfl) C k1 _ Tryz.underlying67 rfl HIN.out ?_) | (go_at_call 54; refine HOW.out.mono ?_; rintro e w1 ⟨v1, v2, v3, v4, rfl, hO, hB1⟩; obtain ⟨D, hD⟩ : ∃ D, gC G v1 v2 v3 v4 = D := ⟨_, rfl⟩; rw [hD]; have HD := Lib.hid hD; have HDN : Hid ((Tryz.prog.info? 67).map (·.size) = some D.length) := Lib.hid (by rw [← hD]; exact infoG); have m1 := k1.keep (hB1.block _ k1.lt); have mb := kb.keep (hB1.block _ kb.lt); have m2 := k2.keep (hB1.block _ k2.lt); have ho := Lib.hid (gC_one (sl := v1) (sd := v2) (si := v3) (st := v4) G hO.l.slice_one hO.d.slice_one hO.i.slice_one hO.t.slice_one); rw [hD] at ho; have hll : C.length = D.length := Option.some.inj (HIN.out.symm.trans HDN.out); have HLL := Lib.hid hll; clear hD hll) | (refine wpList_store_blk rfl 67 _ _ rfl w.heap.size D (by rfl) (by rfl) _ m1 HDN.out HLL.out ho.out ?_))
  have q1 := m1.setRow D
  have qb := mb.setRow_other (b' := w.heap.size) (by omega) D.toArray
  have q2 := m2.setRow_other (b' := w.heap.size) (by omega) D.toArray
  have hOq : GO (w1.setRow w.heap.size D.toArray) G v1 v2 v3 v4 (fun k => W.heap.size ≤ k) := hO.keep fun k hk _ => heap_setRow_other _ _ _ (by omega)
  have hBq := below_setRow (hB.trans (hB1.mono hB.size)) (b := w.heap.size) (Nat.le_refl _) D.toArray
  obtain ⟨Wq, hWq⟩ : ∃ Wq, w1.setRow w.heap.size D.toArray = Wq := ⟨_, rfl⟩
  rw [hWq] at q1 qb q2 hOq hBq
  rw [hWq]
  have hk3 := hOq.i
  have hk4 := hOq.t
  rw [HM.out, List.length_cons] at hk3
  obtain ⟨n, hn⟩ : ∃ n, r.length = n := ⟨_, rfl⟩
  obtain ⟨tn, htn⟩ : ∃ tn, G.tables.length = tn := ⟨_, rfl⟩
  rw [hn] at hk3
  rw [htn] at hk4
  have hn6 : n ≤ 1000000 := by have := HS.out.i; rw [HM.out, List.length_cons, hn] at this; omega
  have ht6 : tn ≤ 1000000 := by have := HS.out.t; omega
  obtain ⟨g3, c3, rfl, hc3⟩ := owns_pos hk3.owns (by omega)
  rw [← HD.out] at q1
  have a6 := q1.cell 6 rfl
  have a9 := q1.cell 9 rfl
  have f6 := q1.frozen 6
  have f9 := q1.frozen 9
  have e0 := qb.cell 0 rfl
  have e1 := qb.cell 1 rfl
  have e2 := qb.cell 2 rfl
  have e3 := qb.cell 3 rfl
  have HN := Lib.hid hn
  have HTN := Lib.hid htn
  clear hWq hn htn m1 mb m2 hO hB1 k1 kb k2 hW HOW ho
  have hcut3 : c3 = 1 ∨ (c3 = 1) = False := by by_cases h : c3 = 1 <;> simp [h]
  go_upto_region 3 with fail
  go_cut [] (fun wx => InstMid G m n w wx w.heap.size v1 v2)
  case first =>
    have hown4 : ((Wq.alloc (.cells #[.int .u64 m.num, .int .u64 m.size, .string m.least, .string m.most] 92)).drew).ownsRow w.heap.size 92 4 v4 tn (mts G.tables) := ((hk4.wider (B := fun k => w.heap.size ≤ k) fun k hk => by omega).at_base).alloc _
    have hnews : ∀ j u, ([.int .u64 m.num, .int .u64 m.size, .string m.least, .string m.most] : List Value)[j]? = some u → ((Wq.alloc (.cells #[.int .u64 m.num, .int .u64 m.size, .string m.least, .string m.most] 92)).drew).cell? ((⟨Wq.heap.size, 0, none⟩ : Addr).add j) = some u := cells_new Wq _ rfl _ _
    have qa6 := (q1.alloc (.cells #[.int .u64 m.num, .int .u64 m.size, .string m.least, .string m.most] 92)).cell 6 rfl
    have qa9 := (q1.alloc (.cells #[.int .u64 m.num, .int .u64 m.size, .string m.least, .string m.most] 92)).cell 9 rfl
    have OWN := Lib.hid hown4
    have NEWS := Lib.hid hnews
    clear hown4 hnews
    have h1n : (1 : Int) ≤ (n : Int) + 1 := by omega
    rcases hcut3 with hq | hq
    · obtain rfl : n = 0 := by omega
      subst hq
      go_region_law ((refine step_append_own (by rfl) (.tmp 15) (.tmp 17) 56 (by rfl) w.heap.size 92 i0 (.agg #[.int .u64 0, .int .u64 0, .string ⟨#[]⟩, .string ⟨#[]⟩]) 4 48 Tryz.underlying56 hi hz0 hz1 hz2 rfl (by decide) v4 tn (mts G.tables) (by rfl) OWN.out ⟨Wq.heap.size, 0, none⟩ 1 1 [.int .u64 m.num, .int .u64 m.size, .string m.least, .string m.most] (by rfl) rfl NEWS.out (by simp [Value.oneCell']) (by unfold maxLen; omega) (by omega) (by have := hBq.size; simp [World.drew]; omega) ?_; intro v5 w3 hown5 hg5 _ hat5; obtain ⟨g5, cp5, rfl⟩ := owns_succ hown5; have r1 := (Blk.drew (q1.alloc (.cells #[.int .u64 m.num, .int .u64 m.size, .string m.least, .string m.most] 92))).grown hg5 (hk4.ne_blk q1 (by decide)); have r2 := (Blk.drew (q2.alloc (.cells #[.int .u64 m.num, .int .u64 m.size, .string m.least, .string m.most] 92))).grown hg5 (hk4.ne_blk q2 (by decide)); have x6 := r1.cell 6 rfl; have y6 := r1.frozen 6; have x9 := r1.cell 9 rfl; have y9 := r1.frozen 9; have hgo := GInst.mk' (w := w) (m := m) (by omega) hOq hBq hg5 hown5 hk3))
      all_goals
        go_wp2_with fail
        go_meet
        exact hgo.mid0 r1 r2 HM.out HN.out HTN.out
    · go_region_law ((refine step_append_own (by rfl) (.tmp 15) (.tmp 17) 56 (by rfl) w.heap.size 92 i0 (.agg #[.int .u64 0, .int .u64 0, .string ⟨#[]⟩, .string ⟨#[]⟩]) 4 48 Tryz.underlying56 hi hz0 hz1 hz2 rfl (by decide) v4 tn (mts G.tables) (by rfl) OWN.out ⟨Wq.heap.size, 0, none⟩ 1 1 [.int .u64 m.num, .int .u64 m.size, .string m.least, .string m.most] (by rfl) rfl NEWS.out (by simp [Value.oneCell']) (by unfold maxLen; omega) (by omega) (by have := hBq.size; simp [World.drew]; omega) ?_; intro v5 w3 hown5 hg5 _ hat5; obtain ⟨g5, cp5, rfl⟩ := owns_succ hown5; have r1 := (Blk.drew (q1.alloc (.cells #[.int .u64 m.num, .int .u64 m.size, .string m.least, .string m.most] 92))).grown hg5 (hk4.ne_blk q1 (by decide)); have r2 := (Blk.drew (q2.alloc (.cells #[.int .u64 m.num, .int .u64 m.size, .string m.least, .string m.most] 92))).grown hg5 (hk4.ne_blk q2 (by decide)); have x6 := r1.cell 6 rfl; have y6 := r1.frozen 6; have x9 := r1.cell 9 rfl; have y9 := r1.frozen 9; have hgo := GInst.mk' (w := w) (m := m) (by omega) hOq hBq hg5 hown5 hk3))
      all_goals
        go_wp2_with fail
        go_meet
        exact hgo.mid1 r1 r2 HM.out HN.out HTN.out
  case rest =>
    obtain ⟨v3, v5, p1, hGRE, p2, hBp⟩ := hcut
    have hGR := hGRE #[]
    have hone := Lib.hid (gC_one (instG G m) hGR.gr.l.slice_one hGR.gr.d.slice_one hGR.gr.i.slice_one hGR.gr.t.slice_one)
    obtain ⟨E, hE⟩ : ∃ E, gC (instG G m) v1 v2 v3 v5 = E := ⟨_, rfl⟩
    have HEN : Hid ((Tryz.prog.info? 67).map (·.size) = some E.length) := Lib.hid (by rw [← hE]; exact infoG)
    have HLZ : Hid (gZ.length = E.length) := Lib.hid (Option.some.inj (infoG.symm.trans HEN.out))
    rw [hE] at p1 hone
    have HE := Lib.hid hE
    have hBe := below_setRow hBp (b := w.heap.size + 1 + 1) (by omega) E.toArray
    have hGR' := Lib.hid (hGRE E.toArray)
    clear hGR hGRE hE q1 qb q2 hOq hBq hk3 hk4 a6 a9 f6 f9 e0 e1 e2 e3
    go_wp2_with (first | (refine wpList_load_blk rfl 67 _ rfl w.heap.size (by rfl) E p1 _ Tryz.underlying67 rfl HEN.out ?_) | (refine wpList_store_blk rfl 67 _ _ rfl (w.heap.size + 1 + 1) E (by rfl) (by rfl) _ p2 HEN.out HLZ.out hone.out ?_))
    have r4 := p2.setRow E
    exact bodyPost_ret (results_cell_one (P := Tryz.prog) Tryz.results30 rfl (r4.loadRow _ Tryz.underlying67 rfl HEN.out)) rfl ⟨v1, v2, v3, v5, by rw [HE.out], hGR'.out, hBe⟩

theorem install_any (h : GR w G sl sd si st) (hs : G.Small 1000000) (m : Meta) :
    Calls Tryz.prog 30 #[.agg (gC G sl sd si st).toArray, .agg #[.int .u64 m.num, .int .u64 m.size, .string m.least, .string m.most]] w fun e w' => ∃ sl' sd' si' st', e = .returned (.agg (gC (instG G m) sl' sd' si' st').toArray) ∧ GH w' (instG G m) sl' sd' si' st' w.heap.size ∧ Below w.heap.size w w' := by
  cases hm : G.imms with
  | nil =>
    have e : instG G m = G := by simp [instG, hm]
    rw [e]
    exact install_nil h hs m hm
  | cons x r => exact install_cons h hs m x r hm
end Go.Proofs.YteiaifhnikknbaaGreatDoor
