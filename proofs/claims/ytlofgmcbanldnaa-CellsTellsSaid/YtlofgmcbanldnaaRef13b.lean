/- The walks over the ops of ratlineref13. -/
import Derived.Test.YtlofgmcbanldnaaRef13
import Derived.StillTailTactics
import Derived.Deep.RegionHeld3
import Derived.Deep.DeepCutAuto
namespace Go.Proofs.Ytlofgmcbanldnaa
open Go.RowKit

variable {w w' : World} {sa sp st : Value} {pls : List Value} {S : Mem} {H : Nat → Prop}
theorem owns_pos {W : World} {base e size n : Nat} {v : Value} {xs : List Value} (h : W.ownsRow base e size v n xs) (hn : 0 < n) : ∃ g cap, v = .slice (some ⟨g, 0, none⟩) n cap := by
  rcases h.2 with ⟨_, h0⟩ | ⟨g, cap, _, rfl, _⟩
  · omega
  · exact ⟨g, cap, rfl⟩
theorem R13.atom (h : R13 w sa sp st pls S H) (i : Int) (h0 : 0 ≤ i) (h1 : i < S.atomics.length) : ∃ g cp, sa = .slice (some ⟨g, 0, none⟩) S.atomics.length cp ∧ w.cell? ⟨g, i.toNat, none⟩ = some (.int .u64 (S.at_ i)) := by
  obtain ⟨g, cp, rfl⟩ := owns_pos h.at_.owns (by omega)
  refine ⟨g, cp, rfl, ?_⟩
  have := h.at_.owns.cells (g := g) rfl i.toNat (.int .u64 (S.at_ i)) (by simp [u64s, Mem.at_, List.getElem?_eq_getElem (show i.toNat < S.atomics.length by omega)])
  rwa [addr_plain, Nat.zero_add] at this
theorem R13.plainAt (h : R13 w sa sp st pls S H) (i : Int) (h0 : 0 ≤ i) (h1 : i < S.plains.length) : ∃ g cp v, sp = .slice (some ⟨g, 0, none⟩) S.plains.length cp ∧ w.cell? ⟨g, i.toNat, none⟩ = some v ∧ Row w 5 1 v (S.place i).length (u8s (S.place i)) H := by
  have hl := h.len
  obtain ⟨g, cp, rfl⟩ := owns_pos h.pl.owns (by omega)
  have hi : i.toNat < pls.length := by omega
  refine ⟨g, cp, pls[i.toNat], by rw [hl], ?_, h.row i.toNat _ _ (List.getElem?_eq_getElem hi) (by simp [Mem.place, List.getElem?_eq_getElem (show i.toNat < S.plains.length by omega)])⟩
  have := h.pl.owns.cells (g := g) rfl i.toNat pls[i.toNat] (List.getElem?_eq_getElem hi)
  rwa [addr_plain, Nat.zero_add] at this
theorem okNote_at {S : Mem} {t wh i : Int} (hw : 1 ≤ wh) (hw5 : wh ≤ 5) (h : okAt S.atomics.length t i = true) : okNote S ⟨t, wh, i⟩ = true := by
  have := of_decide_eq_true h
  exact decide_eq_true (by simp only; omega)
theorem okNote_at_no {S : Mem} {t wh i : Int} (hw : 1 ≤ wh) (hw5 : wh ≤ 5) (h : okAt S.atomics.length t i = false) : okNote S ⟨t, wh, i⟩ = false := by
  have := of_decide_eq_false h
  exact decide_eq_false (by simp only; omega)
theorem okNote_pl {S : Mem} {t wh i : Int} (hw : 6 ≤ wh) (hw5 : wh ≤ 7) (h : okAt S.plains.length t i = true) : okNote S ⟨t, wh, i⟩ = true := by
  have := of_decide_eq_true h
  exact decide_eq_true (by simp only; omega)
theorem okNote_pl_no {S : Mem} {t wh i : Int} (hw : 6 ≤ wh) (hw5 : wh ≤ 7) (h : okAt S.plains.length t i = false) : okNote S ⟨t, wh, i⟩ = false := by
  have := of_decide_eq_false h
  exact decide_eq_false (by simp only; omega)

set_option maxRecDepth 100000 in
set_option maxHeartbeats 1000000 in
theorem rnote_no (h : R13 w sa sp st pls S H) (a : Acc) (hok : okNote S a = false) :
    Calls Try.prog 26 #[.agg #[sa, sp, st], .agg #[.int .i64 a.task, .int .u8 a.what, .int .i64 a.at_]] w fun e w' => e = .returned (.tuple #[.agg #[sa, sp, st], .int .i64 2]) ∧ R13 w' sa sp st pls S H ∧ Below w.heap.size w w' := by
  obtain ⟨W, hW, k1, k2, k3, hB, hs⟩ := three_boxes w [sa, sp, st] [.int .i64 a.task, .int .u8 a.what, .int .i64 a.at_] [.slice none 0 0, .slice none 0 0, .slice none 0 0] 55 40 55
  have hmay := rmay_f h a hok W
  have HR := Lib.hid h
  have d0 := k2.cell 0 rfl
  have d1 := k2.cell 1 rfl
  have d2 := k2.cell 2 rfl
  clear h hok
  go_enter Try.func26, Try.ntmps26
  go_wp2_with (first | (go_at_call 37; refine hmay.mono ?_; rintro e w1 ⟨rfl, hB1⟩; have m1 := k1.keep (hB1.block _ k1.lt); have m3 := k3.keep (hB1.block _ k3.lt)) | (refine wpList_load_blk rfl 55 _ rfl (w.heap.size) (by rfl) [sa, sp, st] k1 _ Try.underlying55 rfl info13 ?_) | (refine wpList_load_blk rfl 55 _ rfl (w.heap.size) (by rfl) [sa, sp, st] m1 _ Try.underlying55 rfl info13 ?_) | (refine wpList_store_blk rfl 55 _ _ rfl (w.heap.size + 1 + 1) [sa, sp, st] (by rfl) (by rfl) _ m3 info13 rfl (HR.out.ones) ?_))
  have r4 := m3.setRow [sa, sp, st]
  have hBe := below_setRow (hB.trans (hB1.mono hB.size)) (b := w.heap.size + 1 + 1) (by omega) #[sa, sp, st]
  exact bodyPost_ret (results_cell_tmp (P := Try.prog) Try.results26 rfl (r4.loadRow _ Try.underlying55 rfl info13) _ rfl) rfl ⟨rfl, HR.out.below hBe, hBe⟩

theorem Row.put_u64 {i x : Int} {n g cp : Nat} (h : Row w 32 1 (.slice (some ⟨g, 0, none⟩) n cp) n (u64s S.atomics) H) (h0 : 0 ≤ i) (h1 : i < n) : Row (w.setCell ⟨g, i.toNat, none⟩ (.int .u64 x)) 32 1 (.slice (some ⟨g, 0, none⟩) n cp) n (u64s (S.put i x).atomics) H := by
  have := h.put rfl i.toNat (by omega) (.int .u64 x)
  simpa [Mem.put, u64s, List.map_set] using this

set_option maxRecDepth 100000 in
set_option maxHeartbeats 1000000 in
theorem rwith (h : R13 w sa sp st pls S H) (i x : Int) (h0 : 0 ≤ i) (h1 : i < S.atomics.length) (hn : S.atomics.length ≤ 100000) :
    Calls Try.prog 36 #[.agg #[sa, sp, st], .int .i64 i, .int .u64 x] w fun e w' => ∃ sa', e = .returned (.agg #[sa', sp, st]) ∧ R13 w' sa' sp st pls (S.put i x) (fun k => H k ∨ w.heap.size ≤ k) ∧ Below w.heap.size w w' := by
  obtain ⟨i0, hi, hz0, hz1, hz2⟩ := info_parts infoU64
  obtain ⟨W, hW, k1, k2, hB, hs⟩ := two_boxes w [sa, sp, st] [.slice none 0 0, .slice none 0 0, .slice none 0 0] 55 55
  have HR := Lib.hid h
  have hr := (h.at_.below hB).reads
  obtain ⟨n, hn'⟩ : ∃ n, S.atomics.length = n := ⟨_, rfl⟩
  rw [hn'] at hr hn h1
  have HN := Lib.hid hn'
  have c0 := k1.cell 0 rfl
  have own0 : W.ownsRow w.heap.size 32 1 (.slice none 0 0) 0 [] := World.ownsRow_nil _ _ _ _
  have hb0 : w.heap.size ≤ W.heap.size := hB.size
  have hone : ∀ u ∈ u64s S.atomics, u.oneCell' = true := by
    intro u hu
    simp only [u64s, List.mem_map] at hu
    obtain ⟨c, _, rfl⟩ := hu
    rfl
  have hOne := Lib.hid hone
  clear h hn' hone
  go_enter Try.func36, Try.ntmps36
  go_wp2_with (first | (at_builtin; refine wpList_append_reads rfl (.tmp 8) (.tmp 10) 38 (by rfl) w.heap.size 32 i0 (.int .u64 0) 1 8 Try.underlying38 hi hz0 hz1 hz2 rfl (by decide) (.slice none 0 0) 0 [] (by rfl) own0 sa n (u64s S.atomics) (by rfl) hr hOne.out (by unfold maxLen; omega) (by omega) hb0 ?_; intro v1 w1 hown1 hg1 hat1; rw [Nat.zero_add, List.nil_append] at hown1; obtain ⟨g, cp, rfl⟩ := owns_pos hown1 (by omega); have hrow := Row.of_owns hown1; have m1 := k1.grown hg1 (by simp [Value.ownBlock]); have m2 := k2.grown hg1 (by simp [Value.ownBlock]); have hne1 := hrow.ne_blk m1 (by decide); have hne2 := hrow.ne_blk m2 (by decide); obtain ⟨x1, x2⟩ := hrow.at_ i.toNat _ (List.getElem?_eq_getElem (show i.toNat < (u64s S.atomics).length by rw [u64s_length, HN.out]; omega)); have hput := hrow.put_u64 (x := x) h0 h1; have n1 := m1.set_other (a := ⟨g, i.toNat, none⟩) (fun e => hne1 (by simp [Value.ownBlock, e])) (.int .u64 x); have n2 := m2.set_other (a := ⟨g, i.toNat, none⟩) (fun e => hne2 (by simp [Value.ownBlock, e])) (.int .u64 x); have y0 := n1.cell 0 rfl; have y1 := n1.frozen 0; have p1 := n1.set 0 (.slice (some ⟨g, 0, none⟩) n cp); have p2 := n2.set_other (a := ⟨w.heap.size, 0, none⟩) (by simp) (.slice (some ⟨g, 0, none⟩) n cp); have hb1 : Below W.heap.size W w1 := (Below.refl _ W).grown hg1 (Nat.le_refl _) (fun k h => by cases h)) | (refine wpList_load_blk rfl 55 _ rfl (w.heap.size) (by rfl) [.slice (some ⟨g, 0, none⟩) n cp, sp, st] p1 _ Try.underlying55 rfl info13 ?_) | (refine wpList_store_blk rfl 55 _ _ rfl (w.heap.size + 1) [.slice (some ⟨g, 0, none⟩) n cp, sp, st] (by rfl) (by rfl) _ p2 info13 rfl (ones3 rfl HR.out.pl.slice_one HR.out.tr.slice_one) ?_))
  have hgW : w.heap.size ≤ g := hrow.home g rfl
  have p4 := p2.setRow [.slice (some ⟨g, 0, none⟩) n cp, sp, st]
  have hBe := below_setRow ((((hB.trans (hb1.mono hB.size))).setCell (p := ⟨g, i.toNat, none⟩) hgW (.int .u64 x)).setCell (p := ⟨w.heap.size, 0, none⟩) (Nat.le_refl _) (.slice (some ⟨g, 0, none⟩) n cp)) (b := w.heap.size + 1) (by omega) #[.slice (some ⟨g, 0, none⟩) n cp, sp, st]
  refine bodyPost_ret (results_cell_one (P := Try.prog) Try.results36 rfl (p4.loadRow _ Try.underlying55 rfl info13)) rfl ⟨_, rfl, ?_, hBe⟩
  refine ((HR.out.below hBe).wider fun k h => .inl h).put i x ?_
  rw [HN.out]
  exact ((hput.setCell (a := ⟨w.heap.size, 0, none⟩) (hput.ne_blk n1 (by decide)) _).setRow p2 (by decide) _).wider fun k h => .inr h

theorem R13.atomL (h : R13 w sa sp st pls S H) (i : Int) (h0 : 0 ≤ i) (h1 : i < S.atomics.length) : ∃ g cp n, sa = .slice (some ⟨g, 0, none⟩) n cp ∧ i < (n : Int) ∧ w.cell? ⟨g, i.toNat, none⟩ = some (.int .u64 (S.at_ i)) := by
  obtain ⟨g, cp, e, hx⟩ := h.atom i h0 h1
  exact ⟨g, cp, _, e, h1, hx⟩
theorem R13.plainL (h : R13 w sa sp st pls S H) (i : Int) (h0 : 0 ≤ i) (h1 : i < S.plains.length) : ∃ g cp n v, sp = .slice (some ⟨g, 0, none⟩) n cp ∧ i < (n : Int) ∧ w.cell? ⟨g, i.toNat, none⟩ = some v ∧ Row w 5 1 v (S.place i).length (u8s (S.place i)) H := by
  obtain ⟨g, cp, v, e, hx, hr⟩ := h.plainAt i h0 h1
  exact ⟨g, cp, _, v, e, h1, hx, hr⟩
theorem R13.plsOne (h : R13 w sa sp st pls S H) : ∀ u ∈ pls, u.oneCell' = true := by
  intro u hu
  obtain ⟨i, hi, rfl⟩ := List.getElem_of_mem hu
  have hl := h.len
  exact (h.row i _ _ (List.getElem?_eq_getElem hi) (List.getElem?_eq_getElem (show i < S.plains.length by omega))).slice_one
theorem R13.lay (h : R13 w sa sp st pls S H) (i : Int) {b : List UInt8} {v sp' : Value} (hr : Row w 27 1 sp' pls.length (pls.set i.toNat v) H) (hv : Row w 5 1 v b.length (u8s b) H) : R13 w sa sp' st (pls.set i.toNat v) (S.lay i b) H := by
  refine ⟨h.at_, by simpa using hr, by simpa [Mem.lay] using h.len, ?_, h.tr⟩
  intro k u b' hu hb
  simp only [Mem.lay, List.getElem?_set] at hu hb
  split at hu
  · rename_i e
    subst e
    simp only [if_true] at hb
    split at hu
    · rename_i hl
      rw [if_pos (by rw [← h.len]; exact hl)] at hb
      cases hu; cases hb
      exact hv
    · cases hu
  · rename_i e
    rw [if_neg e] at hb
    exact h.row k u b' hu hb
theorem R13.spL (h : R13 w sa sp st pls S H) : ∃ ap n c, sp = .slice ap n c := by obtain ⟨ao, c, e⟩ := h.pl.slice; exact ⟨_, _, _, e⟩
theorem R13.saL (h : R13 w sa sp st pls S H) : ∃ ap n c, sa = .slice ap n c := by obtain ⟨ao, c, e⟩ := h.at_.slice; exact ⟨_, _, _, e⟩
theorem R13.stL (h : R13 w sa sp st pls S H) : ∃ ap n c, st = .slice ap n c := by obtain ⟨ao, c, e⟩ := h.tr.slice; exact ⟨_, _, _, e⟩
theorem R13.setCell (h : R13 w sa sp st pls S H) {b : Nat} {cs : List Value} (hb : Blk w b 55 cs) (i : Nat) (u : Value) : R13 (w.setCell ⟨b, i, none⟩ u) sa sp st pls S H :=
  ⟨h.at_.setCell (a := ⟨b, i, none⟩) (h.at_.ne_blk hb (by decide)) u, h.pl.setCell (a := ⟨b, i, none⟩) (h.pl.ne_blk hb (by decide)) u, h.len, fun j v d hv hd => (h.row j v d hv hd).setCell (a := ⟨b, i, none⟩) ((h.row j v d hv hd).ne_blk hb (by decide)) u, h.tr.setCell (a := ⟨b, i, none⟩) (h.tr.ne_blk hb (by decide)) u⟩
theorem R13.three (h : R13 w sa sp st pls S H) {b : Nat} {cs : List Value} (hb : Blk w b 55 cs) (u v x : Value) : R13 (((w.setCell ⟨b, 0, none⟩ u).setCell ⟨b, 1, none⟩ v).setCell ⟨b, 2, none⟩ x).drew sa sp st pls S H :=
  (((h.setCell hb 0 u).setCell (hb.set 0 u) 1 v).setCell ((hb.set 0 u).set 1 v) 2 x).keep fun _ _ _ => rfl
theorem below_three {B b : Nat} {a : World} (h : Below B a w) (hb : B ≤ b) (u v x : Value) : Below B a (((w.setCell ⟨b, 0, none⟩ u).setCell ⟨b, 1, none⟩ v).setCell ⟨b, 2, none⟩ x).drew :=
  (((h.setCell (p := ⟨b, 0, none⟩) hb u).setCell (p := ⟨b, 1, none⟩) hb v).setCell (p := ⟨b, 2, none⟩) hb x).trans (Quiet.below ⟨1, rfl⟩ _)
theorem R13.setRow (h : R13 w sa sp st pls S H) {b : Nat} {cs : List Value} (hb : Blk w b 55 cs) (ds : Array Value) : R13 (w.setRow b ds) sa sp st pls S H :=
  ⟨h.at_.setRow hb (by decide) ds, h.pl.setRow hb (by decide) ds, h.len, fun i v b hv hb' => (h.row i v b hv hb').setRow hb (by decide) ds, h.tr.setRow hb (by decide) ds⟩

set_option maxRecDepth 100000 in
set_option maxHeartbeats 1000000 in
theorem rload_no (h : R13 w sa sp st pls S H) (task at_ : Int)  (hok : okAt S.atomics.length task at_ = false) :
    Calls Try.prog 20 #[.agg #[sa, sp, st], .int .i64 task, .int .i64 at_] w fun e w' => e = .returned (.tuple #[.agg #[sa, sp, st], .int .u64 0, .int .i64 2]) ∧ R13 w' sa sp st pls S H ∧ Below w.heap.size w w' := by
  obtain ⟨W, hW, k1, k2, hB, hs⟩ := two_boxes w [sa, sp, st] [.slice none 0 0, .slice none 0 0, .slice none 0 0] 55 55
  have hno := rnote_no (h.below hB) ⟨task, 1, at_⟩ (okNote_at_no (by decide) (by decide) hok)
  have HR := Lib.hid h
  clear h hok
  go_enter Try.func20, Try.ntmps20
  go_wp2_with (first | (go_at_call 26; refine hno.mono ?_; rintro e w1 ⟨rfl, hR1, hB1⟩; have m1 := k1.keep (hB1.block _ k1.lt); have m2 := k2.keep (hB1.block _ k2.lt); have q1 := m1.setRow [sa, sp, st]; have q2 := m2.setRow_other (b' := w.heap.size) (by omega) #[sa, sp, st]) | (refine wpList_load_blk rfl 55 _ rfl (w.heap.size) (by rfl) [sa, sp, st] k1 _ Try.underlying55 rfl info13 ?_) | (refine wpList_store_blk rfl 55 _ _ rfl (w.heap.size) [sa, sp, st] (by rfl) (by rfl) _ m1 info13 rfl (HR.out.ones) ?_) | (refine wpList_load_blk rfl 55 _ rfl (w.heap.size) (by rfl) [sa, sp, st] q1 _ Try.underlying55 rfl info13 ?_) | (refine wpList_store_blk rfl 55 _ _ rfl (w.heap.size + 1) [sa, sp, st] (by rfl) (by rfl) _ q2 info13 rfl (HR.out.ones) ?_))
  have r4 := q2.setRow [sa, sp, st]
  have hBe := below_setRow (below_setRow (hB.trans (hB1.mono hB.size)) (b := w.heap.size) (Nat.le_refl _) #[sa, sp, st]) (b := w.heap.size + 1) (by omega) #[sa, sp, st]
  exact bodyPost_ret (results_cell_tmp2 (P := Try.prog) Try.results20 rfl (r4.loadRow _ Try.underlying55 rfl info13) _ _ rfl rfl) rfl ⟨rfl, HR.out.below hBe, hBe⟩

set_option maxRecDepth 100000 in
set_option maxHeartbeats 1000000 in
theorem rstore_no (h : R13 w sa sp st pls S H) (task at_ : Int) (x : Int) (hok : okAt S.atomics.length task at_ = false) :
    Calls Try.prog 21 #[.agg #[sa, sp, st], .int .i64 task, .int .i64 at_, .int .u64 x] w fun e w' => e = .returned (.tuple #[.agg #[sa, sp, st], .int .i64 2]) ∧ R13 w' sa sp st pls S H ∧ Below w.heap.size w w' := by
  obtain ⟨W, hW, k1, k2, hB, hs⟩ := two_boxes w [sa, sp, st] [.slice none 0 0, .slice none 0 0, .slice none 0 0] 55 55
  have hno := rnote_no (h.below hB) ⟨task, 2, at_⟩ (okNote_at_no (by decide) (by decide) hok)
  have HR := Lib.hid h
  clear h hok
  go_enter Try.func21, Try.ntmps21
  go_wp2_with (first | (go_at_call 26; refine hno.mono ?_; rintro e w1 ⟨rfl, hR1, hB1⟩; have m1 := k1.keep (hB1.block _ k1.lt); have m2 := k2.keep (hB1.block _ k2.lt); have q1 := m1.setRow [sa, sp, st]; have q2 := m2.setRow_other (b' := w.heap.size) (by omega) #[sa, sp, st]) | (refine wpList_load_blk rfl 55 _ rfl (w.heap.size) (by rfl) [sa, sp, st] k1 _ Try.underlying55 rfl info13 ?_) | (refine wpList_store_blk rfl 55 _ _ rfl (w.heap.size) [sa, sp, st] (by rfl) (by rfl) _ m1 info13 rfl (HR.out.ones) ?_) | (refine wpList_load_blk rfl 55 _ rfl (w.heap.size) (by rfl) [sa, sp, st] q1 _ Try.underlying55 rfl info13 ?_) | (refine wpList_store_blk rfl 55 _ _ rfl (w.heap.size + 1) [sa, sp, st] (by rfl) (by rfl) _ q2 info13 rfl (HR.out.ones) ?_))
  have r4 := q2.setRow [sa, sp, st]
  have hBe := below_setRow (below_setRow (hB.trans (hB1.mono hB.size)) (b := w.heap.size) (Nat.le_refl _) #[sa, sp, st]) (b := w.heap.size + 1) (by omega) #[sa, sp, st]
  exact bodyPost_ret (results_cell_tmp (P := Try.prog) Try.results21 rfl (r4.loadRow _ Try.underlying55 rfl info13) _ rfl) rfl ⟨rfl, HR.out.below hBe, hBe⟩

set_option maxRecDepth 100000 in
set_option maxHeartbeats 1000000 in
theorem radd_no (h : R13 w sa sp st pls S H) (task at_ : Int) (x : Int) (hok : okAt S.atomics.length task at_ = false) :
    Calls Try.prog 23 #[.agg #[sa, sp, st], .int .i64 task, .int .i64 at_, .int .u64 x] w fun e w' => e = .returned (.tuple #[.agg #[sa, sp, st], .int .u64 0, .int .i64 2]) ∧ R13 w' sa sp st pls S H ∧ Below w.heap.size w w' := by
  obtain ⟨W, hW, k1, k2, hB, hs⟩ := two_boxes w [sa, sp, st] [.slice none 0 0, .slice none 0 0, .slice none 0 0] 55 55
  have hno := rnote_no (h.below hB) ⟨task, 5, at_⟩ (okNote_at_no (by decide) (by decide) hok)
  have HR := Lib.hid h
  clear h hok
  go_enter Try.func23, Try.ntmps23
  go_wp2_with (first | (go_at_call 26; refine hno.mono ?_; rintro e w1 ⟨rfl, hR1, hB1⟩; have m1 := k1.keep (hB1.block _ k1.lt); have m2 := k2.keep (hB1.block _ k2.lt); have q1 := m1.setRow [sa, sp, st]; have q2 := m2.setRow_other (b' := w.heap.size) (by omega) #[sa, sp, st]) | (refine wpList_load_blk rfl 55 _ rfl (w.heap.size) (by rfl) [sa, sp, st] k1 _ Try.underlying55 rfl info13 ?_) | (refine wpList_store_blk rfl 55 _ _ rfl (w.heap.size) [sa, sp, st] (by rfl) (by rfl) _ m1 info13 rfl (HR.out.ones) ?_) | (refine wpList_load_blk rfl 55 _ rfl (w.heap.size) (by rfl) [sa, sp, st] q1 _ Try.underlying55 rfl info13 ?_) | (refine wpList_store_blk rfl 55 _ _ rfl (w.heap.size + 1) [sa, sp, st] (by rfl) (by rfl) _ q2 info13 rfl (HR.out.ones) ?_))
  have r4 := q2.setRow [sa, sp, st]
  have hBe := below_setRow (below_setRow (hB.trans (hB1.mono hB.size)) (b := w.heap.size) (Nat.le_refl _) #[sa, sp, st]) (b := w.heap.size + 1) (by omega) #[sa, sp, st]
  exact bodyPost_ret (results_cell_tmp2 (P := Try.prog) Try.results23 rfl (r4.loadRow _ Try.underlying55 rfl info13) _ _ rfl rfl) rfl ⟨rfl, HR.out.below hBe, hBe⟩

set_option maxRecDepth 100000 in
set_option maxHeartbeats 1000000 in
theorem rread_no (h : R13 w sa sp st pls S H) (task at_ : Int)  (hok : okAt S.plains.length task at_ = false) :
    Calls Try.prog 24 #[.agg #[sa, sp, st], .int .i64 task, .int .i64 at_] w fun e w' => e = .returned (.tuple #[.agg #[sa, sp, st], .slice none 0 0, .int .i64 2]) ∧ R13 w' sa sp st pls S H ∧ Below w.heap.size w w' := by
  obtain ⟨W, hW, k1, k2, hB, hs⟩ := two_boxes w [sa, sp, st] [.slice none 0 0, .slice none 0 0, .slice none 0 0] 55 55
  have hno := rnote_no (h.below hB) ⟨task, 6, at_⟩ (okNote_pl_no (by decide) (by decide) hok)
  have HR := Lib.hid h
  clear h hok
  go_enter Try.func24, Try.ntmps24
  go_wp2_with (first | (go_at_call 26; refine hno.mono ?_; rintro e w1 ⟨rfl, hR1, hB1⟩; have m1 := k1.keep (hB1.block _ k1.lt); have m2 := k2.keep (hB1.block _ k2.lt); have q1 := m1.setRow [sa, sp, st]; have q2 := m2.setRow_other (b' := w.heap.size) (by omega) #[sa, sp, st]) | (refine wpList_load_blk rfl 55 _ rfl (w.heap.size) (by rfl) [sa, sp, st] k1 _ Try.underlying55 rfl info13 ?_) | (refine wpList_store_blk rfl 55 _ _ rfl (w.heap.size) [sa, sp, st] (by rfl) (by rfl) _ m1 info13 rfl (HR.out.ones) ?_) | (refine wpList_load_blk rfl 55 _ rfl (w.heap.size) (by rfl) [sa, sp, st] q1 _ Try.underlying55 rfl info13 ?_) | (refine wpList_store_blk rfl 55 _ _ rfl (w.heap.size + 1) [sa, sp, st] (by rfl) (by rfl) _ q2 info13 rfl (HR.out.ones) ?_))
  have r4 := q2.setRow [sa, sp, st]
  have hBe := below_setRow (below_setRow (hB.trans (hB1.mono hB.size)) (b := w.heap.size) (Nat.le_refl _) #[sa, sp, st]) (b := w.heap.size + 1) (by omega) #[sa, sp, st]
  exact bodyPost_ret (results_cell_tmp2 (P := Try.prog) Try.results24 rfl (r4.loadRow _ Try.underlying55 rfl info13) _ _ rfl rfl) rfl ⟨rfl, HR.out.below hBe, hBe⟩

set_option maxRecDepth 100000 in
set_option maxHeartbeats 1000000 in
theorem rwrite_no (h : R13 w sa sp st pls S H) (task at_ : Int) (vb : Value) (hok : okAt S.plains.length task at_ = false) :
    Calls Try.prog 25 #[.agg #[sa, sp, st], .int .i64 task, .int .i64 at_, vb] w fun e w' => e = .returned (.tuple #[.agg #[sa, sp, st], .int .i64 2]) ∧ R13 w' sa sp st pls S H ∧ Below w.heap.size w w' := by
  obtain ⟨W, hW, k1, k2, hB, hs⟩ := two_boxes w [sa, sp, st] [.slice none 0 0, .slice none 0 0, .slice none 0 0] 55 55
  have hno := rnote_no (h.below hB) ⟨task, 7, at_⟩ (okNote_pl_no (by decide) (by decide) hok)
  have HR := Lib.hid h
  clear h hok
  go_enter Try.func25, Try.ntmps25
  go_wp2_with (first | (go_at_call 26; refine hno.mono ?_; rintro e w1 ⟨rfl, hR1, hB1⟩; have m1 := k1.keep (hB1.block _ k1.lt); have m2 := k2.keep (hB1.block _ k2.lt); have q1 := m1.setRow [sa, sp, st]; have q2 := m2.setRow_other (b' := w.heap.size) (by omega) #[sa, sp, st]) | (refine wpList_load_blk rfl 55 _ rfl (w.heap.size) (by rfl) [sa, sp, st] k1 _ Try.underlying55 rfl info13 ?_) | (refine wpList_store_blk rfl 55 _ _ rfl (w.heap.size) [sa, sp, st] (by rfl) (by rfl) _ m1 info13 rfl (HR.out.ones) ?_) | (refine wpList_load_blk rfl 55 _ rfl (w.heap.size) (by rfl) [sa, sp, st] q1 _ Try.underlying55 rfl info13 ?_) | (refine wpList_store_blk rfl 55 _ _ rfl (w.heap.size + 1) [sa, sp, st] (by rfl) (by rfl) _ q2 info13 rfl (HR.out.ones) ?_))
  have r4 := q2.setRow [sa, sp, st]
  have hBe := below_setRow (below_setRow (hB.trans (hB1.mono hB.size)) (b := w.heap.size) (Nat.le_refl _) #[sa, sp, st]) (b := w.heap.size + 1) (by omega) #[sa, sp, st]
  exact bodyPost_ret (results_cell_tmp (P := Try.prog) Try.results25 rfl (r4.loadRow _ Try.underlying55 rfl info13) _ rfl) rfl ⟨rfl, HR.out.below hBe, hBe⟩

set_option maxRecDepth 100000 in
set_option maxHeartbeats 2000000 in
theorem rload_ok (h : R13 w sa sp st pls S H) (hn : S.trace.length < trMax) (task at_ : Int)  (hok : okAt S.atomics.length task at_ = true) :
    Calls Try.prog 20 #[.agg #[sa, sp, st], .int .i64 task, .int .i64 at_] w fun e w' => ∃ st', e = .returned (.tuple #[.agg #[sa, sp, st'], .int .u64 (S.at_ at_), .int .i64 0]) ∧ R13 w' sa sp st' pls (S.note ⟨task, 1, at_⟩) (fun k => H k ∨ w.heap.size ≤ k) ∧ Below w.heap.size w w' := by
  obtain ⟨W, hW, k1, k2, hB, hs⟩ := two_boxes w [sa, sp, st] [.slice none 0 0, .slice none 0 0, .slice none 0 0] 55 55
  obtain ⟨h0, h1⟩ := okAt_at hok
  have hnote := rnote_ok (h.below hB) hn ⟨task, 1, at_⟩ (okNote_at (by decide) (by decide) hok)
  have HR := Lib.hid h
  clear h hok hn
  go_enter Try.func20, Try.ntmps20
  go_wp2_with (first | (go_at_call 26; refine hnote.mono ?_; rintro e w1 ⟨st1, rfl, hR1, hB1⟩; have m1 := k1.keep (hB1.block _ k1.lt); have m2 := k2.keep (hB1.block _ k2.lt); have q1 := m1.setRow [sa, sp, st1]; have q2 := m2.setRow_other (b' := w.heap.size) (by omega) #[sa, sp, st1]; have hR2 := hR1.setRow m1 #[sa, sp, st1]; have c0 := q1.cell 0 rfl; have c1 := q1.cell 1 rfl; have hBq := below_setRow (hB.trans (hB1.mono hB.size)) (b := w.heap.size) (Nat.le_refl _) #[sa, sp, st1]) | (refine wpList_load_blk rfl 55 _ rfl (w.heap.size) (by rfl) [sa, sp, st] k1 _ Try.underlying55 rfl info13 ?_) | (refine wpList_store_blk rfl 55 _ _ rfl (w.heap.size) [sa, sp, st1] (by rfl) (by rfl) _ m1 info13 rfl (hR1.ones) ?_))
  obtain ⟨Wq, hWq⟩ : ∃ Wq, w1.setRow w.heap.size #[sa, sp, st1] = Wq := ⟨_, rfl⟩
  rw [hWq] at hR2 hBq q1 q2 c0 c1
  rw [hWq]
  obtain ⟨g, cp, n, rfl, hn, hx⟩ := hR2.atomL at_ h0 h1
  obtain ⟨ap, np, cpp, rfl⟩ := hR2.spL
  obtain ⟨at1, nt, ct1, rfl⟩ := hR2.stL
  have x0 : S.at_ at_ = (S.note ⟨task, 1, at_⟩).at_ at_ := rfl
  rw [← x0] at hx
  obtain ⟨x, hxe⟩ : ∃ x, S.at_ at_ = x := ⟨_, rfl⟩
  rw [hxe] at hx
  have HX := Lib.hid hxe
  have b0 := q1.cell 0 rfl
  have b1 := q1.cell 1 rfl
  have b2 := q1.cell 2 rfl
  have z0 := q2.cell 0 rfl
  have z1 := q2.cell 1 rfl
  have z2 := q2.cell 2 rfl
  have y0 := q2.frozen 0
  have y1 := q2.frozen 1
  have y2 := q2.frozen 2
  have hg0 := hR2.at_.ne_blk q2 (by decide)
  have hg1 : ¬ w.heap.size + 1 = g := fun e => hg0 (by simp [Value.ownBlock, e])
  have hg2 : ¬ g = w.heap.size + 1 := fun e => hg1 e.symm
  clear m1 m2 hR1 hWq hB1 k1 k2 hnote c0 c1 x0 hxe hW hg0
  go_region_held3 (fun w' => w'.cell? ⟨w.heap.size, 0, none⟩ = some (.slice (some ⟨g, 0, none⟩) n cp) ∧ w'.cell? ⟨w.heap.size, 1, none⟩ = some (.slice ap np cpp) ∧ w'.cell? ⟨w.heap.size, 2, none⟩ = some (.slice at1 nt ct1) ∧ w'.cell? ⟨g, at_.toNat, none⟩ = some (.int .u64 x)) (go_keep) (fail)
  go_wp2_with fail
  have r4 := ((q2.set 0 (.slice (some ⟨g, 0, none⟩) n cp)).set 1 (.slice ap np cpp)).set 2 (.slice at1 nt ct1)
  refine bodyPost_ret (results_cell_tmp2 (P := Try.prog) Try.results20 rfl ((Blk.drew r4).loadRow _ Try.underlying55 rfl info13) _ _ rfl rfl) rfl ⟨_, by rw [HX.out]; rfl, ?_, ?_⟩
  · exact (hR2.three q2 _ _ _).wider fun k h => h.imp id fun h => by omega
  · exact below_three hBq (by omega) _ _ _

set_option maxRecDepth 100000 in
set_option maxHeartbeats 2000000 in
theorem rstore_ok (h : R13 w sa sp st pls S H) (hn : S.trace.length < trMax) (task at_ : Int) (x : Int) (hok : okAt S.atomics.length task at_ = true) (hsm : S.atomics.length ≤ 100000) :
    Calls Try.prog 21 #[.agg #[sa, sp, st], .int .i64 task, .int .i64 at_, .int .u64 x] w fun e w' => ∃ sa' st', e = .returned (.tuple #[.agg #[sa', sp, st'], .int .i64 0]) ∧ R13 w' sa' sp st' pls ((S.note ⟨task, 2, at_⟩).put at_ x) (fun k => H k ∨ w.heap.size ≤ k) ∧ Below w.heap.size w w' := by
  obtain ⟨W, hW, k1, k2, hB, hs⟩ := two_boxes w [sa, sp, st] [.slice none 0 0, .slice none 0 0, .slice none 0 0] 55 55
  obtain ⟨h0, h1⟩ := okAt_at hok
  have hnote := rnote_ok (h.below hB) hn ⟨task, 2, at_⟩ (okNote_at (by decide) (by decide) hok)
  have HR := Lib.hid h
  clear h hok hn
  go_enter Try.func21, Try.ntmps21
  go_wp2_with (first | (go_at_call 26; refine hnote.mono ?_; rintro e w1 ⟨st1, rfl, hR1, hB1⟩; have m1 := k1.keep (hB1.block _ k1.lt); have m2 := k2.keep (hB1.block _ k2.lt); have q1 := m1.setRow [sa, sp, st1]; have q2 := m2.setRow_other (b' := w.heap.size) (by omega) #[sa, sp, st1]; have hR2 := hR1.setRow m1 #[sa, sp, st1]; have c0 := q1.cell 0 rfl; have c1 := q1.cell 1 rfl; have hBq := below_setRow (hB.trans (hB1.mono hB.size)) (b := w.heap.size) (Nat.le_refl _) #[sa, sp, st1]) | (go_at_call 36; refine (rwith hR2 at_ (x) h0 h1 hsm).mono ?_; rintro e w2 ⟨sa2, rfl, hR3, hB3⟩; have s2 := q2.keep (hB3.block _ q2.lt)) | (refine wpList_load_blk rfl 55 _ rfl (w.heap.size) (by rfl) [sa, sp, st] k1 _ Try.underlying55 rfl info13 ?_) | (refine wpList_store_blk rfl 55 _ _ rfl (w.heap.size) [sa, sp, st1] (by rfl) (by rfl) _ m1 info13 rfl (hR1.ones) ?_) | (refine wpList_load_blk rfl 55 _ rfl (w.heap.size) (by rfl) [sa, sp, st1] q1 _ Try.underlying55 rfl info13 ?_) | (refine wpList_store_blk rfl 55 _ _ rfl (w.heap.size + 1) [sa2, sp, st1] (by rfl) (by rfl) _ s2 info13 rfl (hR3.ones) ?_))
  have r4 := s2.setRow [sa2, sp, st1]
  have hBe := below_setRow (hBq.trans (hB3.mono hBq.size)) (b := w.heap.size + 1) (by omega) #[sa2, sp, st1]
  refine bodyPost_ret (results_cell_tmp (P := Try.prog) Try.results21 rfl (r4.loadRow _ Try.underlying55 rfl info13) _ rfl) rfl ⟨_, _, rfl, ?_, hBe⟩
  exact ((hR3.setRow s2 #[sa2, sp, st1])).wider fun k h => h.elim (fun h => h.imp id fun h => by omega) (fun h => .inr (Nat.le_trans hBq.size h))

set_option maxRecDepth 100000 in
set_option maxHeartbeats 2000000 in
theorem radd_ok (h : R13 w sa sp st pls S H) (hn : S.trace.length < trMax) (task at_ : Int) (x : Int) (hok : okAt S.atomics.length task at_ = true) (hsm : S.atomics.length ≤ 100000) :
    Calls Try.prog 23 #[.agg #[sa, sp, st], .int .i64 task, .int .i64 at_, .int .u64 x] w fun e w' => ∃ sa' st', e = .returned (.tuple #[.agg #[sa', sp, st'], .int .u64 (IntKind.u64.wrap (S.at_ at_ + x)), .int .i64 0]) ∧ R13 w' sa' sp st' pls ((S.note ⟨task, 5, at_⟩).put at_ (IntKind.u64.wrap (S.at_ at_ + x))) (fun k => H k ∨ w.heap.size ≤ k) ∧ Below w.heap.size w w' := by
  obtain ⟨W, hW, k1, k2, hB, hs⟩ := two_boxes w [sa, sp, st] [.slice none 0 0, .slice none 0 0, .slice none 0 0] 55 55
  obtain ⟨h0, h1⟩ := okAt_at hok
  have hnote := rnote_ok (h.below hB) hn ⟨task, 5, at_⟩ (okNote_at (by decide) (by decide) hok)
  have HR := Lib.hid h
  clear h hok hn
  go_enter Try.func23, Try.ntmps23
  go_upto_region 4 with (first | (go_at_call 26; refine hnote.mono ?_; rintro e w1 ⟨st1, rfl, hR1, hB1⟩; have m1 := k1.keep (hB1.block _ k1.lt); have m2 := k2.keep (hB1.block _ k2.lt); have q1 := m1.setRow [sa, sp, st1]; have q2 := m2.setRow_other (b' := w.heap.size) (by omega) #[sa, sp, st1]; have hR2 := hR1.setRow m1 #[sa, sp, st1]; have c0 := q1.cell 0 rfl; have c1 := q1.cell 1 rfl; have hBq := below_setRow (hB.trans (hB1.mono hB.size)) (b := w.heap.size) (Nat.le_refl _) #[sa, sp, st1]) | (refine wpList_load_blk rfl 55 _ rfl (w.heap.size) (by rfl) [sa, sp, st] k1 _ Try.underlying55 rfl info13 ?_) | (refine wpList_store_blk rfl 55 _ _ rfl (w.heap.size) [sa, sp, st1] (by rfl) (by rfl) _ m1 info13 rfl (hR1.ones) ?_))
  obtain ⟨Wq, hWq⟩ : ∃ Wq, w1.setRow w.heap.size #[sa, sp, st1] = Wq := ⟨_, rfl⟩
  rw [hWq] at hR2 hBq q1 q2 c0 c1
  rw [hWq]
  obtain ⟨g, cp, n, rfl, hn, hx⟩ := hR2.atomL at_ h0 h1
  have x0 : S.at_ at_ = (S.note ⟨task, 5, at_⟩).at_ at_ := rfl
  rw [← x0] at hx
  obtain ⟨y, hye⟩ : ∃ y, IntKind.u64.wrap (S.at_ at_ + x) = y := ⟨_, rfl⟩
  have HY := Lib.hid hye
  obtain ⟨sx, hsx⟩ : ∃ sx, S.at_ at_ = sx := ⟨_, rfl⟩
  rw [hsx] at hye hx
  clear m1 m2 hR1 hWq hB1 k1 k2 hnote c1 x0 hW hsx
  go_wp2_with (first | (go_at_call 36; refine (rwith hR2 at_ (y) h0 h1 hsm).mono ?_; rintro e w2 ⟨sa2, rfl, hR3, hB3⟩; have s2 := q2.keep (hB3.block _ q2.lt)) | (refine wpList_load_blk rfl 55 _ rfl (w.heap.size) (by rfl) [_, sp, st1] q1 _ Try.underlying55 rfl info13 ?_) | (refine wpList_store_blk rfl 55 _ _ rfl (w.heap.size + 1) [sa2, sp, st1] (by rfl) (by rfl) _ s2 info13 rfl (hR3.ones) ?_))
  have r4 := s2.setRow [sa2, sp, st1]
  have hBe := below_setRow (hBq.trans (hB3.mono hBq.size)) (b := w.heap.size + 1) (by omega) #[sa2, sp, st1]
  refine bodyPost_ret (results_cell_tmp2 (P := Try.prog) Try.results23 rfl (r4.loadRow _ Try.underlying55 rfl info13) _ _ rfl rfl) rfl ⟨_, _, by rw [HY.out]; rfl, ?_, hBe⟩
  rw [HY.out]
  exact ((hR3.setRow s2 #[sa2, sp, st1])).wider fun k h => h.elim (fun h => h.imp id fun h => by omega) (fun h => .inr (Nat.le_trans hBq.size h))

set_option maxRecDepth 100000 in
set_option maxHeartbeats 2000000 in
theorem rread_ok (h : R13 w sa sp st pls S H) (hn : S.trace.length < trMax) (task at_ : Int)  (hok : okAt S.plains.length task at_ = true) :
    Calls Try.prog 24 #[.agg #[sa, sp, st], .int .i64 task, .int .i64 at_] w fun e w' => ∃ st' v, e = .returned (.tuple #[.agg #[sa, sp, st'], v, .int .i64 0]) ∧ Row w' 5 1 v (S.place at_).length (u8s (S.place at_)) (fun k => H k ∨ w.heap.size ≤ k) ∧ R13 w' sa sp st' pls (S.note ⟨task, 6, at_⟩) (fun k => H k ∨ w.heap.size ≤ k) ∧ Below w.heap.size w w' := by
  obtain ⟨W, hW, k1, k2, hB, hs⟩ := two_boxes w [sa, sp, st] [.slice none 0 0, .slice none 0 0, .slice none 0 0] 55 55
  obtain ⟨h0, h1⟩ := okAt_at hok
  have hnote := rnote_ok (h.below hB) hn ⟨task, 6, at_⟩ (okNote_pl (by decide) (by decide) hok)
  have HR := Lib.hid h
  clear h hok hn
  go_enter Try.func24, Try.ntmps24
  go_wp2_with (first | (go_at_call 26; refine hnote.mono ?_; rintro e w1 ⟨st1, rfl, hR1, hB1⟩; have m1 := k1.keep (hB1.block _ k1.lt); have m2 := k2.keep (hB1.block _ k2.lt); have q1 := m1.setRow [sa, sp, st1]; have q2 := m2.setRow_other (b' := w.heap.size) (by omega) #[sa, sp, st1]; have hR2 := hR1.setRow m1 #[sa, sp, st1]; have c0 := q1.cell 0 rfl; have c1 := q1.cell 1 rfl; have hBq := below_setRow (hB.trans (hB1.mono hB.size)) (b := w.heap.size) (Nat.le_refl _) #[sa, sp, st1]) | (refine wpList_load_blk rfl 55 _ rfl (w.heap.size) (by rfl) [sa, sp, st] k1 _ Try.underlying55 rfl info13 ?_) | (refine wpList_store_blk rfl 55 _ _ rfl (w.heap.size) [sa, sp, st1] (by rfl) (by rfl) _ m1 info13 rfl (hR1.ones) ?_))
  obtain ⟨Wq, hWq⟩ : ∃ Wq, w1.setRow w.heap.size #[sa, sp, st1] = Wq := ⟨_, rfl⟩
  rw [hWq] at hR2 hBq q1 q2 c0 c1
  rw [hWq]
  obtain ⟨g, cp, n, x, rfl, hn, hx, hrx⟩ := hR2.plainL at_ h0 h1
  obtain ⟨ap, np, cpp, rfl⟩ := hR2.saL
  obtain ⟨at1, nt, ct1, rfl⟩ := hR2.stL
  have b0 := q1.cell 0 rfl
  have b1 := q1.cell 1 rfl
  have b2 := q1.cell 2 rfl
  have z0 := q2.cell 0 rfl
  have z1 := q2.cell 1 rfl
  have z2 := q2.cell 2 rfl
  have y0 := q2.frozen 0
  have y1 := q2.frozen 1
  have y2 := q2.frozen 2
  have hg0 := hR2.pl.ne_blk q2 (by decide)
  have hg1 : ¬ w.heap.size + 1 = g := fun e => hg0 (by simp [Value.ownBlock, e])
  have hg2 : ¬ g = w.heap.size + 1 := fun e => hg1 e.symm
  clear m1 m2 hR1 hWq hB1 k1 k2 hnote c0 c1 hW hg0
  go_region_held3 (fun w' => w'.cell? ⟨w.heap.size, 0, none⟩ = some (.slice ap np cpp) ∧ w'.cell? ⟨w.heap.size, 1, none⟩ = some (.slice (some ⟨g, 0, none⟩) n cp) ∧ w'.cell? ⟨w.heap.size, 2, none⟩ = some (.slice at1 nt ct1) ∧ w'.cell? ⟨g, at_.toNat, none⟩ = some x) (go_keep) (fail)
  go_wp2_with fail
  have r4 := ((q2.set 0 (.slice ap np cpp)).set 1 (.slice (some ⟨g, 0, none⟩) n cp)).set 2 (.slice at1 nt ct1)
  refine bodyPost_ret (results_cell_tmp2 (P := Try.prog) Try.results24 rfl ((Blk.drew r4).loadRow _ Try.underlying55 rfl info13) _ _ rfl rfl) rfl ⟨_, x, rfl, ?_, ?_, ?_⟩
  · have s0 := hrx.setCell (a := ⟨w.heap.size + 1, 0, none⟩) (hrx.ne_blk q2 (by decide)) (.slice ap np cpp)
    have s1 := s0.setCell (a := ⟨w.heap.size + 1, 1, none⟩) (hrx.ne_blk q2 (by decide)) (.slice (some ⟨g, 0, none⟩) n cp)
    have s2 := s1.setCell (a := ⟨w.heap.size + 1, 2, none⟩) (hrx.ne_blk q2 (by decide)) (.slice at1 nt ct1)
    exact ((s2.keep (w' := World.drew _) fun _ _ => rfl)).wider fun k h => h.imp id fun h => by omega
  · exact (hR2.three q2 _ _ _).wider fun k h => h.imp id fun h => by omega
  · exact below_three hBq (by omega) _ _ _

set_option maxRecDepth 100000 in
set_option maxHeartbeats 2000000 in
theorem rwrite_ok (h : R13 w sa sp st pls S H) (hn : S.trace.length < trMax) (task at_ : Int) (vb : Value) (hok : okAt S.plains.length task at_ = true) (hsm : S.plains.length ≤ 100000) (b : List UInt8) (bl : Nat) (hbl : b.length = bl) (hsb : bl ≤ 4000000000) (hb : Reads w 1 vb bl (u8s b)) :
    Calls Try.prog 25 #[.agg #[sa, sp, st], .int .i64 task, .int .i64 at_, vb] w fun e w' => ∃ sp' st' pls', e = .returned (.tuple #[.agg #[sa, sp', st'], .int .i64 0]) ∧ R13 w' sa sp' st' pls' ((S.note ⟨task, 7, at_⟩).lay at_ b) (fun k => H k ∨ w.heap.size ≤ k) ∧ Below w.heap.size w w' := by
  obtain ⟨W, hW, k1, k2, hB, hs⟩ := two_boxes w [sa, sp, st] [.slice none 0 0, .slice none 0 0, .slice none 0 0] 55 55
  obtain ⟨h0, h1⟩ := okAt_at hok
  have hnote := rnote_ok (h.below hB) hn ⟨task, 7, at_⟩ (okNote_pl (by decide) (by decide) hok)
  obtain ⟨i0, hi, hz0, hz1, hz2⟩ := info_parts infoBs
  obtain ⟨j0, hj, hy0, hy1, hy2⟩ := info_parts infoU8
  have HB := Lib.hid hb
  have HL := Lib.hid hbl
  clear hb hbl
  have HR := Lib.hid h
  clear h hok hn
  go_enter Try.func25, Try.ntmps25
  go_upto_region 4 with (first | (go_at_call 26; refine hnote.mono ?_; rintro e w1 ⟨st1, rfl, hR1, hB1⟩; have m1 := k1.keep (hB1.block _ k1.lt); have m2 := k2.keep (hB1.block _ k2.lt); have q1 := m1.setRow [sa, sp, st1]; have q2 := m2.setRow_other (b' := w.heap.size) (by omega) #[sa, sp, st1]; have hR2 := hR1.setRow m1 #[sa, sp, st1]; have c0 := q1.cell 0 rfl; have c1 := q1.cell 1 rfl; have hBq := below_setRow (hB.trans (hB1.mono hB.size)) (b := w.heap.size) (Nat.le_refl _) #[sa, sp, st1]) | (refine wpList_load_blk rfl 55 _ rfl (w.heap.size) (by rfl) [sa, sp, st] k1 _ Try.underlying55 rfl info13 ?_) | (refine wpList_store_blk rfl 55 _ _ rfl (w.heap.size) [sa, sp, st1] (by rfl) (by rfl) _ m1 info13 rfl (hR1.ones) ?_))
  obtain ⟨Wq, hWq⟩ : ∃ Wq, w1.setRow w.heap.size #[sa, sp, st1] = Wq := ⟨_, rfl⟩
  rw [hWq] at hR2 hBq q1 q2 c0 c1
  rw [hWq]
  have hrs := hR2.pl.reads
  have hR2' := Lib.hid hR2
  have hpl1 := Lib.hid hR2.plsOne
  have hpl := hR2.len
  have hlen : at_ < (pls.length : Int) := by rw [hpl]; exact h1
  obtain ⟨m, hm⟩ : ∃ m, pls.length = m := ⟨_, rfl⟩
  rw [hm] at hrs hlen
  have hsm' : m ≤ 100000 := by have : (S.note ⟨task, 7, at_⟩).plains.length = S.plains.length := rfl; omega
  have HM := Lib.hid hm
  have own0 : Wq.ownsRow w.heap.size 27 1 (.slice none 0 0) 0 [] := World.ownsRow_nil _ _ _ _
  have hb0 : w.heap.size ≤ Wq.heap.size := hBq.size
  have hRW := HB.out.below hBq
  clear m1 m2 hR1 hWq hB1 k1 k2 hnote c0 hW hR2 hpl hm hsm h1
  go_wp2_with (first | (at_builtin; refine wpList_append_reads rfl (.tmp 24) (.tmp 26) 22 (by rfl) w.heap.size 27 i0 (.slice none 0 0) 1 24 Try.underlying22 hi hz0 hz1 hz2 rfl (by decide) (.slice none 0 0) 0 [] (by rfl) own0 sp m pls (by rfl) hrs hpl1.out (by unfold maxLen; omega) (by omega) hb0 ?_; intro v1 w2 hown1 hg1 hat1; rw [Nat.zero_add, List.nil_append] at hown1; obtain ⟨g, cp, rfl⟩ := owns_pos hown1 (by omega); have hrow := Row.of_owns hown1; have n1 := q1.grown hg1 (by simp [Value.ownBlock]); have n2 := q2.grown hg1 (by simp [Value.ownBlock]); have hb1 : Below Wq.heap.size Wq w2 := (Below.refl _ Wq).grown hg1 (Nat.le_refl _) (fun k h => by cases h); have hRv := (hRW.below hb1).alloc (.cells #[] 5); have own1 : (w2.alloc (.cells #[] 5)).ownsRow w2.heap.size 5 1 (.slice (some ⟨w2.heap.size, 0, none⟩) 0 0) 0 [] := World.ownsRow_made w2 #[] 0 (Nat.le_refl _) (by unfold maxLen; omega) (by simp)) | (at_builtin; refine wpList_append_reads rfl (.tmp 30) (.tmp 31) 27 (by rfl) w2.heap.size 5 j0 (.int .u8 0) 1 1 Try.underlying27 hj hy0 hy1 hy2 rfl (by decide) (.slice (some ⟨w2.heap.size, 0, none⟩) 0 0) 0 [] (by rfl) own1 vb bl (u8s b) (by rfl) hRv (u8s_one b) (by unfold maxLen; omega) (by omega) (by simp) ?_; intro v2 w3 hown2 hg2 hat2; rw [Nat.zero_add, List.nil_append] at hown2; have hb2 : Below w2.heap.size w2 w3 := ((Below.refl _ w2).alloc (Nat.le_refl _) _).grown hg2 (by simp) (fun k h => by simp [Value.ownBlock] at h; omega); have hr2 := Row.of_owns hown2; have hrow3 := hrow.below hb2; have o1 := n1.keep (hb2.block _ n1.lt); have o2 := n2.keep (hb2.block _ n2.lt); obtain ⟨ao2, cp2, rfl⟩ := hr2.slice; obtain ⟨x1, x2⟩ := hrow3.at_ at_.toNat _ (List.getElem?_eq_getElem (show at_.toNat < pls.length by rw [HM.out]; omega)); have hput := hrow3.put rfl at_.toNat (by omega) (.slice ao2 bl cp2); have hne1 := hrow3.ne_blk o1 (by decide); have hne2 := hrow3.ne_blk o2 (by decide); have u1 := o1.set_other (a := ⟨g, at_.toNat, none⟩) (fun e => hne1 (by simp [Value.ownBlock, e])) (.slice ao2 bl cp2); have u2 := o2.set_other (a := ⟨g, at_.toNat, none⟩) (fun e => hne2 (by simp [Value.ownBlock, e])) (.slice ao2 bl cp2); have y0 := u1.cell 1 rfl; have y1 := u1.frozen 1; have p1 := u1.set 1 (.slice (some ⟨g, 0, none⟩) m cp); have p2 := u2.set_other (a := ⟨w.heap.size, 1, none⟩) (by simp) (.slice (some ⟨g, 0, none⟩) m cp)) | (refine wpList_load_blk rfl 55 _ rfl (w.heap.size) (by rfl) [sa, .slice (some ⟨g, 0, none⟩) m cp, st1] p1 _ Try.underlying55 rfl info13 ?_) | (refine wpList_store_blk rfl 55 _ _ rfl (w.heap.size + 1) [sa, .slice (some ⟨g, 0, none⟩) m cp, st1] (by rfl) (by rfl) _ p2 info13 rfl (ones3 hR2'.out.at_.slice_one rfl hR2'.out.tr.slice_one) ?_))
  have hgW : w.heap.size ≤ g := hrow.home g rfl
  have p4 := p2.setRow [sa, .slice (some ⟨g, 0, none⟩) m cp, st1]
  have hB3 := (hBq.trans (hb1.mono hBq.size)).trans (hb2.mono (by have := hBq.size; have := hb1.size; omega))
  have hBe := below_setRow ((hB3.setCell (p := ⟨g, at_.toNat, none⟩) hgW (.slice ao2 bl cp2)).setCell (p := ⟨w.heap.size, 1, none⟩) (Nat.le_refl _) (.slice (some ⟨g, 0, none⟩) m cp)) (b := w.heap.size + 1) (by omega) #[sa, .slice (some ⟨g, 0, none⟩) m cp, st1]
  have hv2 := ((hr2.setCell (a := ⟨g, at_.toNat, none⟩) (fun e => by have := hr2.home g e; have := hrow.lt (k := g) rfl; omega) (.slice ao2 bl cp2)).setCell (a := ⟨w.heap.size, 1, none⟩) (fun e => by have e1 := hr2.home _ e; have e2 := hb1.size; have e3 := q1.lt; dsimp only at e1; omega) (.slice (some ⟨g, 0, none⟩) m cp)).setRow p2 (by decide) #[sa, .slice (some ⟨g, 0, none⟩) m cp, st1]
  have hsp := (hput.setCell (a := ⟨w.heap.size, 1, none⟩) (hput.ne_blk u1 (by decide)) (.slice (some ⟨g, 0, none⟩) m cp)).setRow p2 (by decide) #[sa, .slice (some ⟨g, 0, none⟩) m cp, st1]
  refine bodyPost_ret (results_cell_tmp (P := Try.prog) Try.results25 rfl (p4.loadRow _ Try.underlying55 rfl info13) _ rfl) rfl ⟨.slice (some ⟨g, 0, none⟩) m cp, st1, pls.set at_.toNat (.slice ao2 bl cp2), rfl, ?_, hBe⟩
  have hRo : R13 (((w3.setCell ⟨g, at_.toNat, none⟩ (.slice ao2 bl cp2)).setCell ⟨w.heap.size, 1, none⟩ (.slice (some ⟨g, 0, none⟩) m cp)).setRow (w.heap.size + 1) #[sa, .slice (some ⟨g, 0, none⟩) m cp, st1]) sa sp st1 pls (S.note ⟨task, 7, at_⟩) (fun k => H k ∨ w.heap.size ≤ k) := by
    have hgw : g = Wq.heap.size := by
      rcases hat1 with h | h
      · cases h
      · simpa [Value.ownBlock] using h
    have r0 : R13 (w3.setCell ⟨g, at_.toNat, none⟩ (.slice ao2 bl cp2)) sa sp st1 pls (S.note ⟨task, 7, at_⟩) (fun k => H k ∨ W.heap.size ≤ k) := hR2'.out.keep fun k _ hl => (Below.heap_setCell _ _ _ _ (show k ≠ g by omega)).trans ((hb2.block k (by have := hb1.size; omega)).trans (hb1.block k hl))
    exact ((r0.setCell u1 1 _).setRow p2 _).wider fun k h => h.imp id fun h => by omega
  refine hRo.lay at_ ?_ ?_
  · rw [HM.out]; exact hsp.wider fun k h => .inr h
  · rw [HL.out]; exact hv2.wider fun k h => .inr (by have := hb1.size; have := hBq.size; omega)

set_option maxRecDepth 100000 in
set_option maxHeartbeats 1000000 in
theorem rswap_no (h : R13 w sa sp st pls S H) (task at_ was x : Int) (hok : okAt S.atomics.length task at_ = false) :
    Calls Try.prog 22 #[.agg #[sa, sp, st], .int .i64 task, .int .i64 at_, .int .u64 was, .int .u64 x] w fun e w' => e = .returned (.tuple #[.agg #[sa, sp, st], .bool false, .int .i64 2]) ∧ R13 w' sa sp st pls S H ∧ Below w.heap.size w w' := by
  obtain ⟨W, hW, k1, k2, k3, hB, hs⟩ := three_boxes w [sa, sp, st] [.slice none 0 0, .slice none 0 0, .slice none 0 0] [.int .i64 task, .int .u8 4, .int .i64 at_] 55 55 40
  have d0 := k3.cell 0 rfl
  have d1 := k3.cell 1 rfl
  have d2 := k3.cell 2 rfl
  have hmay := rmay_f h ⟨task, 4, at_⟩ (okNote_at_no (by decide) (by decide) hok) W
  have HR := Lib.hid h
  clear h hok
  go_enter Try.func22, Try.ntmps22
  go_wp2_with (first | (go_at_call 37; refine hmay.mono ?_; rintro e w1 ⟨rfl, hB1⟩; have m1 := k1.keep (hB1.block _ k1.lt); have m2 := k2.keep (hB1.block _ k2.lt); have m3 := k3.keep (hB1.block _ k3.lt)) | (refine wpList_load_blk rfl 55 _ rfl (w.heap.size) (by rfl) [sa, sp, st] k1 _ Try.underlying55 rfl info13 ?_) | (refine wpList_load_blk rfl 55 _ rfl (w.heap.size) (by rfl) [sa, sp, st] m1 _ Try.underlying55 rfl info13 ?_) | (refine wpList_store_blk rfl 55 _ _ rfl (w.heap.size + 1) [sa, sp, st] (by rfl) (by rfl) _ m2 info13 rfl (HR.out.ones) ?_))
  have r4 := m2.setRow [sa, sp, st]
  have hBe := below_setRow (hB.trans (hB1.mono hB.size)) (b := w.heap.size + 1) (by omega) #[sa, sp, st]
  exact bodyPost_ret (results_cell_tmp2 (P := Try.prog) Try.results22 rfl (r4.loadRow _ Try.underlying55 rfl info13) _ _ rfl rfl) rfl ⟨rfl, HR.out.below hBe, hBe⟩

set_option maxRecDepth 100000 in
set_option maxHeartbeats 2000000 in
theorem rswap_fail (h : R13 w sa sp st pls S H) (hn : S.trace.length < trMax) (task at_ was x : Int) (hok : okAt S.atomics.length task at_ = true) (hw : (S.at_ at_ != was) = true) :
    Calls Try.prog 22 #[.agg #[sa, sp, st], .int .i64 task, .int .i64 at_, .int .u64 was, .int .u64 x] w fun e w' => ∃ st', e = .returned (.tuple #[.agg #[sa, sp, st'], .bool false, .int .i64 0]) ∧ R13 w' sa sp st' pls (S.note ⟨task, 4, at_⟩) (fun k => H k ∨ w.heap.size ≤ k) ∧ Below w.heap.size w w' := by
  obtain ⟨W, hW, k1, k2, k3, hB, hs⟩ := three_boxes w [sa, sp, st] [.slice none 0 0, .slice none 0 0, .slice none 0 0] [.int .i64 task, .int .u8 4, .int .i64 at_] 55 55 40
  have d0 := k3.cell 0 rfl
  have d1 := k3.cell 1 rfl
  have d2 := k3.cell 2 rfl
  obtain ⟨h0, h1⟩ := okAt_at hok
  have hmay := rmay_t h ⟨task, 4, at_⟩ (okNote_at (by decide) (by decide) hok) W
  have HR := Lib.hid h
  obtain ⟨sx, hsx⟩ : ∃ sx, S.at_ at_ = sx := ⟨_, rfl⟩
  rw [hsx] at hw
  obtain ⟨g, cp, n, hsa, hln, hx⟩ := (h.below hB).atomL at_ h0 h1
  rw [hsx] at hx
  obtain ⟨ap, np, cpp, hspL⟩ := h.spL
  have HSX := Lib.hid hsx
  clear hsx
  have HOK : Hid (okNote S ⟨task, 4, at_⟩ = true) := Lib.hid (okNote_at (by decide) (by decide) hok)
  subst hsa
  clear h hok hspL
  go_enter Try.func22, Try.ntmps22
  go_wp2_with (first | (go_at_call 37; refine hmay.mono ?_; rintro e w1 ⟨rfl, hB1⟩; have m1 := k1.keep (hB1.block _ k1.lt); have m2 := k2.keep (hB1.block _ k2.lt); have m3 := k3.keep (hB1.block _ k3.lt); have hBx := hB.trans (hB1.mono hB.size); have c0 := m1.cell 0 rfl; have f0 := m3.cell 0 rfl; have f1 := m3.cell 1 rfl; have f2 := m3.cell 2 rfl; have ff := m3.frozen 1; have hx1 := (hB1.cell (p := ⟨g, at_.toNat, none⟩) (World.block_lt_of_cell? W _ hx)).trans hx) | (go_at_call 26; refine (rnote_ok (HR.out.below hBx) hn ⟨task, 4, at_⟩ HOK.out).mono ?_; rintro e w2 ⟨st1, rfl, hR1, hB2⟩; have o1 := m1.keep (hB2.block _ m1.lt); have o2 := m2.keep (hB2.block _ m2.lt); have q1 := o1.setRow [.slice (some ⟨g, 0, none⟩) n cp, sp, st1]; have q2 := o2.setRow_other (b' := w.heap.size) (by omega) #[.slice (some ⟨g, 0, none⟩) n cp, sp, st1]; have hR2 := hR1.setRow o1 #[.slice (some ⟨g, 0, none⟩) n cp, sp, st1]; have hBq := below_setRow (hBx.trans (hB2.mono hBx.size)) (b := w.heap.size) (Nat.le_refl _) #[.slice (some ⟨g, 0, none⟩) n cp, sp, st1]) | (refine wpList_load_blk rfl 55 _ rfl (w.heap.size) (by rfl) [.slice (some ⟨g, 0, none⟩) n cp, sp, st] k1 _ Try.underlying55 rfl info13 ?_) | (refine wpList_load_blk rfl 55 _ rfl (w.heap.size) (by rfl) [.slice (some ⟨g, 0, none⟩) n cp, sp, st] m1 _ Try.underlying55 rfl info13 ?_) | (refine wpList_store_blk rfl 55 _ _ rfl (w.heap.size) [.slice (some ⟨g, 0, none⟩) n cp, sp, st1] (by rfl) (by rfl) _ o1 info13 rfl (hR1.ones) ?_) | (refine wpList_load_blk rfl 55 _ rfl (w.heap.size) (by rfl) [.slice (some ⟨g, 0, none⟩) n cp, sp, st1] q1 _ Try.underlying55 rfl info13 ?_) | (refine wpList_store_blk rfl 55 _ _ rfl (w.heap.size + 1) [.slice (some ⟨g, 0, none⟩) n cp, sp, st1] (by rfl) (by rfl) _ q2 info13 rfl (hR1.ones) ?_))
  have r4 := q2.setRow [.slice (some ⟨g, 0, none⟩) n cp, sp, st1]
  have hBe := below_setRow hBq (b := w.heap.size + 1) (by omega) #[.slice (some ⟨g, 0, none⟩) n cp, sp, st1]
  refine bodyPost_ret (results_cell_tmp2 (P := Try.prog) Try.results22 rfl (r4.loadRow _ Try.underlying55 rfl info13) _ _ rfl rfl) rfl ⟨_, rfl, ?_, hBe⟩
  exact (hR2.setRow q2 _).wider fun k h => h.imp id fun h => by have := hBx.size; omega

set_option maxRecDepth 100000 in
set_option maxHeartbeats 2000000 in
theorem rswap_done (h : R13 w sa sp st pls S H) (hn : S.trace.length < trMax) (task at_ was x : Int) (hok : okAt S.atomics.length task at_ = true) (hw : (S.at_ at_ != was) = false) (hsm : S.atomics.length ≤ 100000) :
    Calls Try.prog 22 #[.agg #[sa, sp, st], .int .i64 task, .int .i64 at_, .int .u64 was, .int .u64 x] w fun e w' => ∃ sa' st', e = .returned (.tuple #[.agg #[sa', sp, st'], .bool true, .int .i64 0]) ∧ R13 w' sa' sp st' pls ((S.note ⟨task, 3, at_⟩).put at_ x) (fun k => H k ∨ w.heap.size ≤ k) ∧ Below w.heap.size w w' := by
  obtain ⟨W, hW, k1, k2, k3, hB, hs⟩ := three_boxes w [sa, sp, st] [.slice none 0 0, .slice none 0 0, .slice none 0 0] [.int .i64 task, .int .u8 4, .int .i64 at_] 55 55 40
  have d0 := k3.cell 0 rfl
  have d1 := k3.cell 1 rfl
  have d2 := k3.cell 2 rfl
  obtain ⟨h0, h1⟩ := okAt_at hok
  have hmay := rmay_t h ⟨task, 4, at_⟩ (okNote_at (by decide) (by decide) hok) W
  have HR := Lib.hid h
  obtain ⟨sx, hsx⟩ : ∃ sx, S.at_ at_ = sx := ⟨_, rfl⟩
  rw [hsx] at hw
  obtain ⟨g, cp, n, hsa, hln, hx⟩ := (h.below hB).atomL at_ h0 h1
  rw [hsx] at hx
  obtain ⟨ap, np, cpp, hspL⟩ := h.spL
  have HSX := Lib.hid hsx
  clear hsx
  have HOK : Hid (okNote S ⟨task, 3, at_⟩ = true) := Lib.hid (okNote_at (by decide) (by decide) hok)
  subst hsa
  clear h hok hspL
  go_enter Try.func22, Try.ntmps22
  go_wp2_with (first | (go_at_call 37; refine hmay.mono ?_; rintro e w1 ⟨rfl, hB1⟩; have m1 := k1.keep (hB1.block _ k1.lt); have m2 := k2.keep (hB1.block _ k2.lt); have m3 := k3.keep (hB1.block _ k3.lt); have hBx := hB.trans (hB1.mono hB.size); have c0 := m1.cell 0 rfl; have f0 := m3.cell 0 rfl; have f1 := m3.cell 1 rfl; have f2 := m3.cell 2 rfl; have ff := m3.frozen 1; have hx1 := (hB1.cell (p := ⟨g, at_.toNat, none⟩) (World.block_lt_of_cell? W _ hx)).trans hx; have t1 := m1.set_other (a := ⟨w.heap.size + 1 + 1, 1, none⟩) (by simp; omega) (.int .u8 3); have t2 := m2.set_other (a := ⟨w.heap.size + 1 + 1, 1, none⟩) (by simp) (.int .u8 3); have t3 := m3.set 1 (.int .u8 3); have hBy := hBx.setCell (p := ⟨w.heap.size + 1 + 1, 1, none⟩) (by simp; omega) (.int .u8 3); have g0 := t3.cell 0 rfl; have g1 := t3.cell 1 rfl; have g2 := t3.cell 2 rfl) | (go_at_call 26; refine (rnote_ok (HR.out.below hBy) hn ⟨task, 3, at_⟩ HOK.out).mono ?_; rintro e w2 ⟨st1, rfl, hR1, hB2⟩; have o1 := t1.keep (hB2.block _ t1.lt); have o2 := t2.keep (hB2.block _ t2.lt); have q1 := o1.setRow [.slice (some ⟨g, 0, none⟩) n cp, sp, st1]; have q2 := o2.setRow_other (b' := w.heap.size) (by omega) #[.slice (some ⟨g, 0, none⟩) n cp, sp, st1]; have hR2 := hR1.setRow o1 #[.slice (some ⟨g, 0, none⟩) n cp, sp, st1]; have hBq := below_setRow (hBy.trans (hB2.mono hBy.size)) (b := w.heap.size) (Nat.le_refl _) #[.slice (some ⟨g, 0, none⟩) n cp, sp, st1]) | (go_at_call 36; refine (rwith hR2 at_ x h0 h1 hsm).mono ?_; rintro e w3 ⟨sa2, rfl, hR3, hB3⟩; have s2 := q2.keep (hB3.block _ q2.lt)) | (refine wpList_load_blk rfl 55 _ rfl (w.heap.size) (by rfl) [.slice (some ⟨g, 0, none⟩) n cp, sp, st] k1 _ Try.underlying55 rfl info13 ?_) | (refine wpList_load_blk rfl 55 _ rfl (w.heap.size) (by rfl) [.slice (some ⟨g, 0, none⟩) n cp, sp, st] m1 _ Try.underlying55 rfl info13 ?_) | (refine wpList_load_blk rfl 55 _ rfl (w.heap.size) (by rfl) [.slice (some ⟨g, 0, none⟩) n cp, sp, st] t1 _ Try.underlying55 rfl info13 ?_) | (refine wpList_store_blk rfl 55 _ _ rfl (w.heap.size) [.slice (some ⟨g, 0, none⟩) n cp, sp, st1] (by rfl) (by rfl) _ o1 info13 rfl (hR1.ones) ?_) | (refine wpList_load_blk rfl 55 _ rfl (w.heap.size) (by rfl) [.slice (some ⟨g, 0, none⟩) n cp, sp, st1] q1 _ Try.underlying55 rfl info13 ?_) | (refine wpList_store_blk rfl 55 _ _ rfl (w.heap.size + 1) [sa2, sp, st1] (by rfl) (by rfl) _ s2 info13 rfl (hR3.ones) ?_))
  have r4 := s2.setRow [sa2, sp, st1]
  have hBe := below_setRow (hBq.trans (hB3.mono hBq.size)) (b := w.heap.size + 1) (by omega) #[sa2, sp, st1]
  refine bodyPost_ret (results_cell_tmp2 (P := Try.prog) Try.results22 rfl (r4.loadRow _ Try.underlying55 rfl info13) _ _ rfl rfl) rfl ⟨_, _, rfl, ?_, hBe⟩
  exact (hR3.setRow s2 #[sa2, sp, st1]).wider fun k h => h.elim (fun h => h.imp id fun h => by have := hBy.size; omega) (fun h => .inr (Nat.le_trans hBq.size h))

theorem built13 : Try.prog.built 55 [] = some #[.slice none 0 0, .slice none 0 0, .slice none 0 0] := by kernel_rfl
set_option maxRecDepth 100000 in
set_option maxHeartbeats 1000000 in
theorem rnew13_no (w : World) (n m : Int) (h : decide (0 ≤ n ∧ 0 ≤ m ∧ n ≤ 100000 ∧ m ≤ 100000) = false) :
    Calls Try.prog 19 #[.int .i64 n, .int .i64 m] w fun e w' => e = .returned (.tuple #[.agg #[.slice none 0 0, .slice none 0 0, .slice none 0 0], .int .i64 2]) ∧ Below w.heap.size w w' := by
  have h1 := of_decide_eq_false h
  clear h
  have hq : n < 0 ∨ (0 ≤ n ∧ m < 0) ∨ (0 ≤ n ∧ 0 ≤ m ∧ 100000 < n) ∨ (0 ≤ n ∧ 0 ≤ m ∧ n ≤ 100000 ∧ 100000 < m) := by omega
  clear h1
  have k := Blk.new w 55 [.slice none 0 0, .slice none 0 0, .slice none 0 0]
  have hB : Below w.heap.size w (w.alloc (.cells #[.slice none 0 0, .slice none 0 0, .slice none 0 0] 55)) := (Below.refl _ _).alloc (Nat.le_refl _) _
  rcases hq with q | ⟨q, q1⟩ | ⟨q, q1, q2⟩ | ⟨q, q1, q2, q3⟩
  all_goals
    go_enter Try.func19, Try.ntmps19
    go_wp2_with (first | (refine wpList_built rfl _ _ rfl #[.slice none 0 0, .slice none 0 0, .slice none 0 0] (by simp [Act.eval, built13]) ?_) | (refine wpList_store_blk rfl 55 _ _ rfl (w.heap.size) [.slice none 0 0, .slice none 0 0, .slice none 0 0] (by rfl) (by rfl) _ k info13 rfl (ones3 rfl rfl rfl) ?_))
    exact bodyPost_ret (results_cell_tmp (P := Try.prog) Try.results19 rfl ((k.setRow [.slice none 0 0, .slice none 0 0, .slice none 0 0]).loadRow _ Try.underlying55 rfl info13) _ rfl) rfl ⟨rfl, below_setRow hB (Nat.le_refl _) _⟩

theorem R13.fresh {W : World} {B : Nat} (n m : Nat) (ab pb : Nat) (hn : n ≤ 100000) (hm : m ≤ 100000) (ha : B ≤ ab) (hb : B ≤ pb) (h1 : Blk W ab 32 (Array.replicate n (.int .u64 0)).toList) (h2 : Blk W pb 27 (Array.replicate m (.slice none 0 0)).toList) :
    R13 W (.slice (some ⟨ab, 0, none⟩) n n) (.slice (some ⟨pb, 0, none⟩) m m) (.slice none 0 0) (List.replicate m (.slice none 0 0)) (Mem.new n m) (fun k => B ≤ k) := by
  refine ⟨⟨⟨by simp [Mem.new, u64s], .inr ⟨ab, n, _, by simp [Mem.new], Nat.zero_le _, h1, by simp [Mem.new], by unfold maxLen; omega, by simp, by simp [Mem.new, u64s]⟩⟩, fun k hk => by simp [Value.ownBlock] at hk; omega⟩,
    ⟨⟨by simp, .inr ⟨pb, m, _, by simp, Nat.zero_le _, h2, by simp, by unfold maxLen; omega, by simp, by simp⟩⟩, fun k hk => by simp [Value.ownBlock] at hk; omega⟩, by simp [Mem.new], ?_, by have := Row.nil W 40 3 (fun k => B ≤ k); simpa [Mem.new, accs] using this⟩
  intro i v b hv hb'
  simp only [Mem.new, List.getElem?_replicate] at hv hb'
  split at hv
  · rename_i hi
    rw [if_pos hi] at hb'
    cases hv; cases hb'
    exact Row.nil _ _ _ _
  · cases hv

set_option maxRecDepth 100000 in
set_option maxHeartbeats 1000000 in
theorem rnew13_ok (w : World) (n m : Nat) (hn : n ≤ 100000) (hm : m ≤ 100000) :
    Calls Try.prog 19 #[.int .i64 n, .int .i64 m] w fun e w' => ∃ sa sp, e = .returned (.tuple #[.agg #[sa, sp, .slice none 0 0], .int .i64 0]) ∧ R13 w' sa sp (.slice none 0 0) (List.replicate m (.slice none 0 0)) (Mem.new n m) (fun k => w.heap.size ≤ k) ∧ Below w.heap.size w w' := by
  have hmk1 := fun W => run_make (P := Try.prog) 38 32 (.int .u64 0) 8 Try.underlying38 infoU64 rfl (by decide) n (by omega) W
  have hmk2 := fun W => run_make (P := Try.prog) 22 27 (.slice none 0 0) 24 Try.underlying22 infoBs rfl (by decide) m (by omega) W
  go_enter Try.func19, Try.ntmps19
  go_wp2
  all_goals go_region
  all_goals go_wp2
  all_goals obtain ⟨b1, b2, b3, hB⟩ := alloc3 w _ _ _ _ _ _
  all_goals
    first
      | exact bodyPost_ret (v := .tuple #[.agg #[.slice (some ⟨w.heap.size + 1, 0, none⟩) n n, .slice (some ⟨w.heap.size + 1 + 1, 0, none⟩) m m, .slice none 0 0], .int .i64 0]) (by simp [results, Try.results19, go_sem]) rfl ⟨_, _, rfl, R13.fresh n m _ _ hn hm (by omega) (by omega) b2 b3, hB⟩
      | exact bodyPost_ret (v := .tuple #[.agg #[.slice (some ⟨w.heap.size + 1 + 1, 0, none⟩) n n, .slice (some ⟨w.heap.size + 1, 0, none⟩) m m, .slice none 0 0], .int .i64 0]) (by simp [results, Try.results19, go_sem]) rfl ⟨_, _, rfl, R13.fresh n m _ _ hn hm (by omega) (by omega) b3 b2, hB⟩
end Go.Proofs.Ytlofgmcbanldnaa
