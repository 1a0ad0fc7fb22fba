/- The walk over law 14's LocksTells. -/
import Derived.Test.YtncfbccihofaoaaLocksTwo
import Derived.Deep.DeepCutAuto
import Derived.BigQuiet
import Derived.Deep.CutBlock
import Derived.StillTailTactics
import Derived.Deep.RegionHeld3
namespace Go.Proofs.Ytncfbccihofaoaa
open Go.RowKit Go.Maps

set_option maxRecDepth 100000 in
set_option maxHeartbeats 4000000 in
theorem locksTells_no (w : World) (conds : Int) (hc : conds < 0 ∨ 1000 < conds) (ao : Option Addr) (n cap : Nat) (task : Int) :
    Calls Try.prog 4 #[.int .i64 conds, .slice ao n cap, .int .i64 task] w fun e w' => e = .returned (.bool true) ∧ Below w.heap.size w w' := by
  obtain ⟨Z, hZl, hz⟩ := zeroSt
  obtain ⟨C, hC⟩ : ∃ C, stC ⟨0, false, 0, fun _ => none⟩ (.slice none 0 0) = C := ⟨_, rfl⟩
  have hl : C.length = 68 := by rw [← hC]; exact stC_len _ _
  have ho : ∀ u ∈ C, u.oneCell' = true := by rw [← hC]; exact stC_one _ _ rfl
  have hnew := fun W => rnew_no (w := W) conds hc
  rw [hC] at hnew
  have HN := Lib.hid hnew
  have HC := Lib.hid hc
  have HZ := Lib.hid hZl
  have HL := Lib.hid hl
  have HO := Lib.hid ho
  clear hZl hl ho hC hnew
  have hc' : conds < 0 ∨ 0 ≤ conds ∧ 1000 < conds := by omega
  clear hc
  rcases hc' with h | ⟨h, h'⟩
  all_goals
    go_enter Try.func4, Try.ntmps4
    go_wp2_with (first | (go_at_call 14; refine (new_ok _ 0 0 (by decide) (by decide)).mono ?_; rintro e w1 ⟨c, rfl, hC1, hB1⟩) | (go_at_call 15; refine (newL_no _ conds HC.out).mono ?_; rintro e w' ⟨rfl, rfl⟩) | (go_at_call 16; refine (HN.out _).mono ?_; rintro e w2 ⟨rfl, hB2⟩; have k2 := Blk.new w2 47 Z) | (refine wpList_store_row rfl 47 _ _ rfl w2.heap.size C.toArray (by rfl) (by rfl) 47 Z.toArray k2 (sizeSt _ HL.out) (by simp [HZ.out, HL.out]) (all_oneCell_toArray HO.out) ?_) | (go_at_call 13; refine (awake14 _).mono ?_; rintro e w5 ⟨rfl, hb5⟩))
    go_ret
    have b1 := (hB1.trans (hB2.mono hB1.size)).alloc (by have := hB1.size; have := hB2.size; omega) (.cells Z.toArray 47)
    have b2 := below_setRow b1 (b := w2.heap.size) (by have := hB1.size; have := hB2.size; omega) C.toArray
    exact ⟨rfl, b2.trans (hb5.mono b2.size)⟩

/-- What the reference's state is, besides. -/
structure Fit14 (L : Lk) (n : Int) : Prop where
  good : Good L
  hz : L.held = false → L.holder = 0
  conds : L.conds = n
theorem Fit14.lock {L : Lk} {n : Int} (h : Fit14 L n) (t : Int) : Fit14 (lockL L t) n := by
  refine ⟨h.good.lock t, ?_, ?_⟩
  · unfold lockL; split
    · intro h; cases h
    · exact h.hz
  · rw [← h.conds]; unfold lockL; split <;> rfl
theorem Fit14.unlock {L : Lk} {n : Int} (h : Fit14 L n) (t : Int) : Fit14 (unlockL L t) n := by
  refine ⟨h.good.unlock t, ?_, ?_⟩
  · unfold unlockL; split
    · intro _; rfl
    · exact h.hz
  · rw [← h.conds]; unfold unlockL; split <;> rfl
theorem Fit14.wait {L : Lk} {n : Int} (h : Fit14 L n) (hn : n ≤ 1000) (t c : Int) : Fit14 (waitL L t c) n := by
  refine ⟨h.good.wait (by rw [h.conds]; exact hn) t c, ?_, ?_⟩
  · unfold waitL; split
    · intro _; rfl
    · exact h.hz
  · rw [← h.conds]; unfold waitL; split <;> rfl
theorem Fit14.wake {L : Lk} {n : Int} (h : Fit14 L n) (t c : Int) : Fit14 (wakeL L t c) n := by
  refine ⟨h.good.wake t c, ?_, ?_⟩
  · unfold wakeL; split
    · exact h.hz
    · exact h.hz
  · rw [← h.conds]; unfold wakeL; split <;> rfl
theorem Fit14.holder {L : Lk} {n : Int} (h : Fit14 L n) : holderV L = L.holder := by
  unfold holderV
  cases hh : L.held
  · rw [h.hz hh]; rfl
  · rfl

theorem still_load_row {P : Program} {o : Oper} {a : Act} {w : World} {next : Act → Prop} (ty : TypeId) (x : Operand) (ho : o.op = .load ty x) (b : Nat) (hx : a.eval x = .pointer (some ⟨b, 0, none⟩)) (cs : Array Value) (hl : (loadVar ty ⟨b, 0, none⟩).run P w = .ok (.agg cs) w)
    (h : next (a.put o.dst (.agg cs))) : o.still P a w next := by
  unfold Oper.still execOp
  simp only [ho, hx, Instr.loadAt, Instr.sureAddr, Sem.run_bind, Sem.run_pure, Result.andThen_ok, hl]
  rw [Oper.stillUpon_value]
  exact h

theorem TwoAt.init {w0 w w' : World} {r : LRef} {L : Lk} {S : Mem} (h : Lw w0.heap.size w r L S) (h0 : S.trace = []) (hB : Below w0.heap.size w0 w) (hb : Below w.heap.size w w') {Z : List Value} :
    ∃ A, TwoAt A (.slice none 0 0) w0 ((w'.alloc (.cells Z.toArray 47)).setRow w'.heap.size (stC L (.slice none 0 0)).toArray) r L S w'.heap.size L S.trace := by
  have h1 := h.lx.below hb
  have hp := h1.p_lt
  have h2 := h1.box (.cells Z.toArray 47)
  have hnb : ¬ LA r (fun k => LB w0.heap.size r k ∧ k ≠ w'.heap.size) w'.heap.size := by
    rintro (h | h | h)
    · exact h.2 rfl
    · omega
    · omega
  have k := Blk.new w' 47 Z
  have hB' := (hB.trans (hb.mono hB.size)).alloc (by have := hB.size; have := hb.size; omega) (.cells Z.toArray 47)
  refine ⟨_, h2.same ⟨fun i hi _ => heap_setRow_other _ _ _ (fun e => hnb (e ▸ hi))⟩ (by rw [setRow_size]; exact Nat.le_refl _), k.setRow _, ?_, hnb, by have := hB.size; have := hb.size; omega, below_setRow hB' (by have := hB.size; have := hb.size; omega) _⟩
  rw [h0]
  exact Row.nil _ _ _ _

set_option maxRecDepth 100000 in
set_option maxHeartbeats 4000000 in
theorem locksTells_yes (w : World) (conds : Int) (hc0 : 0 ≤ conds) (hc1 : conds ≤ 1000) (ao : Option Addr) (cap : Nat) (l : List Op) (hcap : l.length ≤ cap) (hl : ArgRow w 3 (.slice ao l.length cap) Op.cells Op.Fits l) (task : Int) (hwt : (Lit.int .i64 task).wf = true) :
    Calls Try.prog 4 #[.int .i64 conds, .slice ao l.length cap, .int .i64 task] w fun e w' => e = .returned (.bool true) ∧ Below w.heap.size w w' := by
  obtain ⟨m, hm', hm1, hm2, -⟩ := cut_min 60 l.length
  have hm : (if (60 : Int) < (l.length : Int) then (60 : Int) else (l.length : Int)) = (m : Int) := hm'
  clear hm'
  have hm3 : m ≤ cap := by omega
  obtain ⟨Z, hZl, hz⟩ := zeroSt
  have HZ := Lib.hid hZl
  clear hZl
  obtain ⟨n, hn⟩ : ∃ n, conds % 9 = n := ⟨_, rfl⟩
  have n0 : 0 ≤ n := by omega
  have n1 : n ≤ 8 := by omega
  go_enter Try.func4, Try.ntmps4
  go_upto_region 3 with fail
  try rw [hn]
  clear hn
  go_wp2_with (first | (go_at_call 14; refine (new_ok _ 0 0 (by decide) (by decide)).mono ?_; rintro e w1 ⟨c, rfl, hC1, hB1⟩) | (go_at_call 15; refine (newL_ok hC1 hB1.size n n0 (by omega)).mono ?_; rintro e w2 ⟨r, rfl, rfl, hL2, hB2⟩) | (go_at_call 16; refine (rnew_ok n n0 (by omega)).mono ?_; rintro e w3 ⟨rfl, hB3⟩; have k3 := Blk.new w3 47 Z) | (refine wpList_store_row rfl 47 _ _ rfl w3.heap.size (stC ⟨n, false, 0, fun _ => none⟩ (.slice none 0 0)).toArray (by rfl) (by rfl) 47 Z.toArray k3 (sizeSt _ (stC_len _ _)) (by simp [HZ.out, stC_len]) (all_oneCell_toArray (stC_one _ _ rfl)) ?_))
  have hT0 := TwoAt.init (Z := Z) hL2 rfl (hB1.trans (hB2.mono hB1.size)) hB3
  obtain ⟨bs, hbs⟩ : ∃ bs, w3.heap.size = bs := ⟨_, rfl⟩
  rw [hbs] at hT0
  rw [hbs]
  obtain ⟨W, hW⟩ : ∃ W, (w3.alloc (.cells Z.toArray 47)).setRow bs (stC ⟨n, false, 0, fun _ => none⟩ (.slice none 0 0)).toArray = W := ⟨_, rfl⟩
  rw [hW] at hT0
  rw [hW]
  clear hW hbs k3 hB3 hL2 hB2 hB1 hC1 hm hc0 hc1 hz HZ
  have hI0 : ∃ A tv L S, TwoAt A tv w W r L S bs L S.trace ∧ Fit14 L n ∧ S.trace.length ≤ 0 := by
    obtain ⟨A, hA⟩ := hT0
    exact ⟨A, _, _, _, hA, ⟨⟨fun i c h => by cases h⟩, fun _ => rfl, rfl⟩, Nat.le_refl _⟩
  clear hT0
  go_loopw [70] (fun i wr => ∃ k : Nat, k ≤ m ∧ i = .int .i64 k ∧ ∃ A tv L S, TwoAt A tv w wr r L S bs L S.trace ∧ Fit14 L n ∧ S.trace.length ≤ k) (fun i _ => m - (intOf i).toNat)
  case atStart => exact ⟨0, by omega, rfl, hI0⟩
  case round =>
    clear hI0
    obtain ⟨k, hk, rfl, A, tv, L, S, hT, hF, hS⟩ := hrel
    have hg := hF.good
    have hcd := hF.conds
    by_cases hlt : k < m
    · have hkl : k < l.length := by omega
      obtain ⟨b, off, rfl, hx⟩ := hl.cell hT.below (by decide) k hkl
      have hfit := hl.good l[k] (List.getElem_mem _)
      obtain ⟨o, ho⟩ : ∃ o, o = l[k] := ⟨_, rfl⟩
      rw [← ho] at hx hfit
      have x0 := hx 0 _ rfl
      have x1 := hx 1 _ rfl
      have x2 := hx 2 _ rfl
      simp only [Nat.add_zero] at x0
      have hw := fits_u8 hfit.what
      have hwt' : (Lit.int .i64 o.task).wf = true := WalkArith.wf_i64 (by have := fits_i64 hfit.task; omega)
      have hwc' : (Lit.int .i64 o.cond).wf = true := WalkArith.wf_i64 (by have := fits_i64 hfit.cond; omega)
      obtain ⟨hTb, hnb⟩ := hT.box (.cells #[.int .u8 o.what, .int .i64 o.task, .int .i64 o.cond] 28)
      have hbox := Blk.new wr 28 [.int .u8 o.what, .int .i64 o.task, .int .i64 o.cond]
      obtain ⟨bo, hbo⟩ : ∃ bo, wr.heap.size = bo := ⟨_, rfl⟩
      obtain ⟨A1, hA1⟩ : ∃ A1, (fun k => A k ∧ k ≠ wr.heap.size) = A1 := ⟨_, rfl⟩
      rw [hA1] at hTb hnb
      rw [hbo] at hnb hbox
      clear hA1 hT hx hfit ho
      go_upto_block 2 with fail
      try rw [hbo]
      obtain ⟨wb, hwb⟩ : ∃ wb, wr.alloc (.cells #[.int .u8 o.what, .int .i64 o.task, .int .i64 o.cond] 28) = wb := ⟨_, rfl⟩
      rw [hwb] at hTb hbox
      try rw [hwb]
      clear hwb hbo x0 x1 x2
      go_cut [8, 10, 15, 16, 75] (fun e f mm nn _ wx => ∃ E M : Int, e = .int .i64 E ∧ f = .int .i64 E ∧ mm = .int .i64 M ∧ nn = .int .i64 M ∧ ∃ A tv L S, TwoAt A tv w wx r L S bs L S.trace ∧ Fit14 L n ∧ S.trace.length ≤ k + 1)
      case first =>
        have c0 := hbox.cell 0 rfl
        have c1 := hbox.cell 1 rfl
        have c2 := hbox.cell 2 rfl
        have hn1 : S.trace.length < trMax := by unfold trMax; omega
        have hcd1 : L.conds ≤ 1000 := by omega
        have hcd0 : 0 ≤ L.conds := by omega
        clear hl hcap hm1 hm3 hwt
        have hq : o.what = 0 ∨ o.what = 1 ∨ o.what = 2 ∨ o.what = 3 ∨ 4 ≤ o.what := by omega
        rcases hq with q | q | q | q | q
        · have HN : Hid ((S.notes (lockN L o.task)).trace.length ≤ k + 1) := Lib.hid (by simp only [Mem.notes, List.length_append]; unfold lockN; split <;> simp <;> omega)
          clear hcd hS hk hlt hkl
          go_wp2_with (first | (go_at_call 17; refine (two_lock hTb o.task hwt' hn1).mono ?_; rintro e w2 ⟨rfl, hT2, hO2⟩; have b2 := hbox.keep (hO2.block _ hbox.lt hnb); have d1 := b2.cell 1 rfl; have d2 := b2.cell 2 rfl) | (go_at_call 18; refine (two_rlock hT2 hg hn1 o.task).mono ?_; rintro e w3 ⟨tv3, rfl, hA3⟩; obtain ⟨D, hD, hDl'⟩ := hA3.old; have hDl := Lib.hid hDl'; clear hDl') | (refine wpList_load_row rfl 47 _ rfl bs (by rfl) 47 (stC L tv).toArray (0, 0) _ hT2.st Try.underlying47 rfl (sizeSt _ (stC_len _ _)) ?_) | (refine wpList_store_row rfl 47 _ _ rfl bs (stC (lockL L o.task) tv3).toArray (by rfl) (by rfl) 47 D.toArray hD (sizeSt _ (stC_len _ _)) (by simp [hDl.out, stC_len]) (all_oneCell_toArray (stC_one _ _ hA3.one)) ?_))
          go_meet
          obtain ⟨A3, hA, -⟩ := hA3.two
          exact ⟨lockE L o.task, 0, rfl, rfl, rfl, rfl, A3, tv3, _, _, hA, hF.lock _, HN.out⟩
        · have HN : Hid ((S.notes (lockN L o.task)).trace.length ≤ k + 1) := Lib.hid (by simp only [Mem.notes, List.length_append]; unfold lockN; split <;> simp <;> omega)
          clear hcd hS hk hlt hkl
          go_wp2_with (first | (go_at_call 17; refine (two_lock hTb o.task hwt' hn1).mono ?_; rintro e w2 ⟨rfl, hT2, hO2⟩; have b2 := hbox.keep (hO2.block _ hbox.lt hnb); have d1 := b2.cell 1 rfl; have d2 := b2.cell 2 rfl) | (go_at_call 18; refine (two_rlock hT2 hg hn1 o.task).mono ?_; rintro e w3 ⟨tv3, rfl, hA3⟩; obtain ⟨D, hD, hDl'⟩ := hA3.old; have hDl := Lib.hid hDl'; clear hDl') | (refine wpList_load_row rfl 47 _ rfl bs (by rfl) 47 (stC L tv).toArray (0, 0) _ hT2.st Try.underlying47 rfl (sizeSt _ (stC_len _ _)) ?_) | (refine wpList_store_row rfl 47 _ _ rfl bs (stC (lockL L o.task) tv3).toArray (by rfl) (by rfl) 47 D.toArray hD (sizeSt _ (stC_len _ _)) (by simp [hDl.out, stC_len]) (all_oneCell_toArray (stC_one _ _ hA3.one)) ?_))
          go_meet
          obtain ⟨A3, hA, -⟩ := hA3.two
          exact ⟨lockE L o.task, 0, rfl, rfl, rfl, rfl, A3, tv3, _, _, hA, hF.lock _, HN.out⟩
        · have HN : Hid ((S.notes (unlockN L o.task)).trace.length ≤ k + 1) := Lib.hid (by simp only [Mem.notes, List.length_append]; unfold unlockN; split <;> simp <;> omega)
          clear hcd hS hk hlt hkl
          go_wp2_with (first | (go_at_call 19; refine (two_unlock hTb o.task hn1).mono ?_; rintro e w2 ⟨rfl, hT2, hO2⟩; have b2 := hbox.keep (hO2.block _ hbox.lt hnb); have d1 := b2.cell 1 rfl; have d2 := b2.cell 2 rfl) | (go_at_call 20; refine (two_runlock hT2 hcd0 hn1 o.task).mono ?_; rintro e w3 ⟨tv3, rfl, hA3⟩; obtain ⟨D, hD, hDl'⟩ := hA3.old; have hDl := Lib.hid hDl'; clear hDl') | (refine wpList_load_row rfl 47 _ rfl bs (by rfl) 47 (stC L tv).toArray (0, 0) _ hT2.st Try.underlying47 rfl (sizeSt _ (stC_len _ _)) ?_) | (refine wpList_store_row rfl 47 _ _ rfl bs (stC (unlockL L o.task) tv3).toArray (by rfl) (by rfl) 47 D.toArray hD (sizeSt _ (stC_len _ _)) (by simp [hDl.out, stC_len]) (all_oneCell_toArray (stC_one _ _ hA3.one)) ?_))
          go_meet
          obtain ⟨A3, hA, -⟩ := hA3.two
          exact ⟨holdsE L o.task 0, 0, rfl, rfl, rfl, rfl, A3, tv3, _, _, hA, hF.unlock _, HN.out⟩
        · have HN : Hid ((S.notes (waitN L o.task o.cond)).trace.length ≤ k + 1) := Lib.hid (by simp only [Mem.notes, List.length_append]; unfold waitN; split <;> simp <;> omega)
          clear hcd hS hk hlt hkl
          go_wp2_with (first | (go_at_call 21; refine (two_wait hTb o.task o.cond hwc' hn1).mono ?_; rintro e w2 ⟨rfl, hT2, hO2⟩; have b2 := hbox.keep (hO2.block _ hbox.lt hnb); have d1 := b2.cell 1 rfl; have d2 := b2.cell 2 rfl) | (go_at_call 22; refine (two_rwait hT2 hcd0 hcd1 hn1 o.task o.cond).mono ?_; rintro e w3 ⟨tv3, rfl, hA3⟩; obtain ⟨D, hD, hDl'⟩ := hA3.old; have hDl := Lib.hid hDl'; clear hDl') | (refine wpList_load_row rfl 47 _ rfl bs (by rfl) 47 (stC L tv).toArray (0, 0) _ hT2.st Try.underlying47 rfl (sizeSt _ (stC_len _ _)) ?_) | (refine wpList_store_row rfl 47 _ _ rfl bs (stC (waitL L o.task o.cond) tv3).toArray (by rfl) (by rfl) 47 D.toArray hD (sizeSt _ (stC_len _ _)) (by simp [hDl.out, stC_len]) (all_oneCell_toArray (stC_one _ _ hA3.one)) ?_))
          go_meet
          obtain ⟨A3, hA, -⟩ := hA3.two
          exact ⟨onE L o.task o.cond, 0, rfl, rfl, rfl, rfl, A3, tv3, _, _, hA, hF.wait (by omega) _ _, HN.out⟩
        · have HN : Hid (S.trace.length ≤ k + 1) := Lib.hid (by omega)
          clear hcd hS hk hlt hkl
          go_wp2_with (first | (go_at_call 23; refine (two_wake hTb o.task o.cond).mono ?_; rintro e w2 ⟨rfl, hT2, hO2⟩; have b2 := hbox.keep (hO2.block _ hbox.lt hnb); have d1 := b2.cell 1 rfl; have d2 := b2.cell 2 rfl) | (go_at_call 24; refine (two_rwake hT2 hg hcd0 hcd1 o.task o.cond).mono ?_; rintro e w3 ⟨rfl, hA3⟩; obtain ⟨D, hD, hDl'⟩ := hA3.old; have hDl := Lib.hid hDl'; clear hDl') | (refine wpList_load_row rfl 47 _ rfl bs (by rfl) 47 (stC L tv).toArray (0, 0) _ hT2.st Try.underlying47 rfl (sizeSt _ (stC_len _ _)) ?_) | (refine wpList_store_row rfl 47 _ _ rfl bs (stC (wakeL L o.task o.cond) tv).toArray (by rfl) (by rfl) 47 D.toArray hD (sizeSt _ (stC_len _ _)) (by simp [hDl.out, stC_len]) (all_oneCell_toArray (stC_one _ _ hA3.one)) ?_))
          go_meet
          obtain ⟨A3, hA, -⟩ := hA3.two
          exact ⟨onE L o.task o.cond, wakeM L o.task o.cond, rfl, rfl, rfl, rfl, A3, tv, _, _, hA, hF.wake _ _, HN.out⟩
      case rest =>
        obtain ⟨E, M, rfl, rfl, rfl, rfl, A2, tv2, L2, S2, hT2, hF2, hS2⟩ := hcut
        clear hTb hbox hnb hl hF hg hcd hS hwt' hwc' hw hcap hm1 hm3
        have c1 := hT2.st.cell 1 rfl
        have c2 := hT2.st.cell 2 rfl
        have hV := hF2.holder
        obtain ⟨hd, hhd⟩ : ∃ hd, L2.held = hd := ⟨_, rfl⟩
        obtain ⟨ho, hho⟩ : ∃ ho, L2.holder = ho := ⟨_, rfl⟩
        rw [hho] at c2 hV
        rw [hhd] at c1
        have hH := holder_to hT2.lx.lw ho hd hV hhd
        have HH := Lib.hid hH
        have HD := Lib.hid hhd
        have HO := Lib.hid hho
        clear hV hhd hho hH
        go_upto_region 28 with (go_at_call 12; refine HH.out.mono ?_; rintro e w' ⟨rfl, rfl⟩)
        go_cut [172] (fun s wx => s = .bool false ∧ TwoAt A2 tv2 w wx r L2 S2 bs L2 S2.trace)
        case first =>
          clear HH
          have hCan := can_to (hT2.under (Quiet.below (w' := wc.drew) ⟨1, rfl⟩ _)).lx.lw task hwt (canB L2 task) rfl
          have hRc := rcan (w := wc.drew) (hT2.under (Quiet.below (w' := wc.drew) ⟨1, rfl⟩ _)).tr hF2.good task
          have hld := ((hT2.under (Quiet.below (w' := wc.drew) ⟨1, rfl⟩ _)).st).load (stC_len _ _)
          have hTd := hT2.under (Quiet.below (w' := wc.drew) ⟨1, rfl⟩ _)
          clear hT2
          refine wp_region_still_tail 26 (by kernel_rfl) (by kernel_rfl) ?_
          simp only [List.take_succ_cons, List.take_zero, List.drop_succ_cons, List.drop_zero]
          iterate 23 still_step
          still_call (hCan.mono (fun _ _ h => ⟨h.1, h.2.symm⟩))
          refine wpStill_step (fun K hK => ?_)
          rw [if_pos (by rfl)]
          refine still_load_row 47 _ rfl bs (by rfl) (stC L2 tv2).toArray hld ?_
          refine hK _ ?_
          clear hK K
          still_step
          refine wpStill_nil ?_
          change wpList _ _ _ _ _ wc.drew
          go_wp2_with (go_at_call 26; refine hRc.mono ?_; rintro e w' ⟨rfl, hb⟩)
          go_meet
          exact ⟨rfl, hTd.under hb⟩
        case rest =>
          obtain ⟨rfl, hT3⟩ := hcut
          clear hT2 c1 c2 HH
          go_wp2_with fail
          go_loop [173] (fun i => ∃ j : Nat, j ≤ 64 ∧ i = .int .i64 j) (fun i => 64 - (intOf i).toNat)
          case atStart => exact ⟨0, by omega, rfl⟩
          case round =>
            obtain ⟨j, hj, rfl⟩ := hrel
            by_cases hj64 : j < 64
            · have csl := hT3.st.cell _ (stC_sl L2 tv2 j hj64)
              have hat : slAt L2.sl j = L2.sl j := by simp [slAt]; omega
              have hsl := sleeps_to hT3.lx.lw j (WalkArith.wf_i64 (by omega)) (L2.sl j) hat
              cases hs : L2.sl j with
              | none =>
                rw [hs] at csl hsl
                have HS := Lib.hid hsl
                clear hat hsl hs
                go_wp2_with (go_at_call 10; refine HS.out.mono ?_; rintro e w' ⟨rfl, rfl⟩)
                go_round
                case rel => exact ⟨j + 1, by omega, by go_num⟩
                case measure => simp [intOf]; omega
              | some c =>
                have hc := hF2.good.at_ j c hs
                rw [hs] at csl hsl
                have HS := Lib.hid hsl
                have csl' : wc.cell? ⟨bs, 3 + j, none⟩ = some (.int .i64 (c + 1)) := csl
                clear hat hsl hs csl
                go_wp2_with (go_at_call 10; refine HS.out.mono ?_; rintro e w' ⟨rfl, rfl⟩)
                go_round
                case rel => exact ⟨j + 1, by omega, by go_num⟩
                case measure => simp [intOf]; omega
            · go_wp2_with fail
              go_roundw
              case rel => exact ⟨k + 1, by omega, by go_num, A2, tv2, L2, S2, hT3, hF2, hS2⟩
              case measure => simp [intOf]; omega
    · clear hl
      obtain ⟨ao3, cp3, rfl⟩ := hT.tr.slice
      have hTd := hT.under (Quiet.below (w' := wr.drew) ⟨1, rfl⟩ _)
      have c67 := hT.st.cell 67 (stC_tr L _)
      have hsl := sleeps_to hT.lx.lw 64 (WalkArith.wf_i64 (by omega)) none (by simp [slAt])
      have hS' : S.trace.length < trMax := by unfold trMax; omega
      have hSl : S.trace.length ≤ 4000000000 := by omega
      have HT := Lib.hid hTd
      clear hTd hF hg hcd
      go_wp2_with (go_at_call 10; refine hsl.mono ?_; rintro e w' ⟨rfl, rfl⟩)
      go_region_held3 (fun w' => w'.cell? ⟨bs, 67, none⟩ = some (.slice ao3 S.trace.length cp3)) (first | go_keep | assumption)
        (first | (go_at_call 9; refine (ltrace_x HT.out.lx hS').mono ?_; rintro e w5 ⟨v5, rfl, hr5, -, hb5⟩; have hT5 := Lib.hid (HT.out.under hb5); have c67 := hT5.out.st.cell 67 (stC_tr L _); have hr5' := Lib.hid hr5.reads; clear hr5; obtain ⟨ao5, cp5, rfl⟩ := hr5'.out.slice) | (go_at_call 27; refine (lowTrace _ _ _ S.trace S.trace hr5'.out hT5.out.tr.reads hSl).mono ?_; rintro e w6 ⟨rfl, hq6⟩; have hb6 := hT5.out.under (hq6.below _); have c67 := hb6.st.cell 67 (stC_tr L _)) | (go_at_call 13; refine (awake14 _).mono ?_; rintro e w7 ⟨rfl, hb7⟩; have hb8 := hb6.under hb7; have c67 := hb8.st.cell 67 (stC_tr L _)))
      go_wp2_with fail
      go_ret
      exact ⟨rfl, hb8.below⟩

theorem locksTells (w : World) (conds : Int) (ao : Option Addr) (cap : Nat) (l : List Op) (hcap : l.length ≤ cap) (hl : ArgRow w 3 (.slice ao l.length cap) Op.cells Op.Fits l) (task : Int) (hwt : (Lit.int .i64 task).wf = true) :
    Calls Try.prog 4 #[.int .i64 conds, .slice ao l.length cap, .int .i64 task] w fun e w' => e = .returned (.bool true) ∧ Below w.heap.size w w' := by
  by_cases h : conds < 0 ∨ 1000 < conds
  · exact locksTells_no w conds h ao _ cap task
  · exact locksTells_yes w conds (by omega) (by omega) ao cap l hcap hl task hwt
end Go.Proofs.Ytncfbccihofaoaa
