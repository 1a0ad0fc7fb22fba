/- The walk over law 14's LocksSleep. -/
import Derived.Test.YtncfbccihofaoaaLocksX
import Derived.Maps.RangeWalk
import Derived.Laws.IdiomRangeMap
import Derived.Deep.LoopGhost
import Derived.Deep.DeepCutAuto
namespace Go.Proofs.Ytncfbccihofaoaa
open Go.RowKit Go.Maps

/-- So many that are still to come sleep on c. -/
def slLeft (sl : Nat → Option Int) (c : Int) (left : Lit → Bool) : Nat := ((List.range 64).filter fun t => decide (sl t = some c) && left (.int .i64 t)).length
theorem slLeft_start (sl : Nat → Option Int) (c : Int) : slLeft sl c (has (slD sl)) = slCount sl (fun d => decide (d = c)) := by
  unfold slLeft slCount
  congr 1
  refine List.filter_congr fun t ht => ?_
  have ht' : t < 64 := by simpa using ht
  cases hs : sl t with
  | none => simp
  | some d =>
    have : has (slD sl) (.int .i64 t) = true := slD_has.2 ⟨t, ht', d, hs, rfl⟩
    simp [this]
theorem slLeft_end (sl : Nat → Option Int) (c : Int) (left : Lit → Bool) (h : ∀ k, left k = false) : slLeft sl c left = 0 := by
  unfold slLeft
  simp [h]
theorem slLeft_step (sl : Nat → Option Int) (c : Int) (left : Lit → Bool) (x d : Int) (hl : left (.int .i64 x) = true) (hat : ∀ zd, (slD sl).atKey (.int .i64 x) zd = .lit (.int .i64 d)) :
    slLeft sl c left = slLeft sl c (fun z => left z && !z.sameKey (.int .i64 x)) + (if d = c then 1 else 0) := by
  obtain ⟨t, ht, d', hd, e⟩ := slD_has.1 (has_true_of_atKey hat)
  injection e with _ e
  subst e
  have hdd : d' = d := by
    have := (slD_key ht hd (il 0)).symm.trans (hat _)
    simpa [il] using this
  subst hdd
  unfold slLeft
  have hnd : (List.range 64).Nodup := List.nodup_range
  have hmem : t ∈ List.range 64 := by simpa using ht
  generalize List.range 64 = l at hnd hmem
  induction l with
  | nil => cases hmem
  | cons a l ih =>
    rw [List.nodup_cons] at hnd
    by_cases ea : a = t
    · subst ea
      have hrest : (l.filter fun t' => decide (sl t' = some c) && left (.int .i64 t')) = l.filter fun t' => decide (sl t' = some c) && (left (.int .i64 t') && !(Lit.int .i64 (t' : Int)).sameKey (.int .i64 (a : Int))) := by
        refine List.filter_congr fun t' ht' => ?_
        have hne : t' ≠ a := fun e => hnd.1 (e ▸ ht')
        have : (Lit.int .i64 (t' : Int)).sameKey (.int .i64 (a : Int)) = false := sameKey_ne (by simp; omega)
        rw [this]; simp
      have hself : (Lit.int .i64 (a : Int)).sameKey (.int .i64 (a : Int)) = true := WideAt.sameKey_self trivial
      by_cases ec : d' = c
      · subst ec
        simp only [List.filter_cons, hd, hl, hself, decide_true, Bool.not_true, Bool.and_false, Bool.and_true, if_true]
        rw [hrest]
        simp
      · have h1 : (decide (some d' = some c)) = false := by simpa using ec
        simp only [List.filter_cons, hd, hl, hself, h1, Bool.false_and, if_neg ec]
        rw [hrest]
        simp
    · have hm : t ∈ l := by rcases List.mem_cons.1 hmem with h | h; · exact absurd h.symm ea
                            · exact h
      have hih := ih hnd.2 hm
      dsimp only at hih
      have : (Lit.int .i64 (a : Int)).sameKey (.int .i64 (t : Int)) = false := sameKey_ne (by simp; omega)
      simp only [List.filter_cons, this, Bool.not_false, Bool.and_true]
      cases decide (sl a = some c) && left (.int .i64 (a : Int))
      · simpa using hih
      · simp only [if_true, List.length_cons]
        omega

theorem doL_sl (L : Lk) (what t c : Int) : (doL L what t c).sl = if what % 5 = 3 ∧ doE L what t c = 0 then slUp L.sl t.toNat (some c) else if what % 5 ≤ 3 then L.sl else (wakeL L t c).sl := by
  unfold doL doE
  by_cases q1 : what % 5 ≤ 1
  · rw [if_pos q1, if_neg (by omega), if_pos (by omega)]
    unfold lockL; split <;> rfl
  · by_cases q2 : what % 5 = 2
    · rw [if_neg q1, if_pos q2, if_neg (by omega), if_pos (by omega)]
      unfold unlockL; split <;> rfl
    · by_cases q3 : what % 5 = 3
      · rw [if_neg q1, if_neg q2, if_pos q3, if_neg q1, if_neg q2]
        by_cases e : onE L t c = 0
        · rw [if_pos ⟨q3, e⟩]; simp [waitL, e]
        · rw [if_neg (fun h => e h.2), if_pos (by omega)]; simp [waitL, e]
      · rw [if_neg q1, if_neg q2, if_neg q3, if_neg (fun h => q3 h.1), if_neg (by omega)]
theorem doL_conds2 (L : Lk) (what t c : Int) : (doL L what t c).conds = L.conds := by
  unfold doL lockL unlockL waitL wakeL
  repeat' split
  all_goals rfl
theorem doN_one2 (L : Lk) (what t c : Int) : (doN L what t c).length ≤ 1 := by
  unfold doN lockN unlockN waitN
  repeat' split
  all_goals simp
theorem grown_some {w w' : World} {B om : Nat} (hs : B ≤ om) (hB : B ≤ w.heap.size) (h : w.grownBy w' (some om)) : Below B w w' := ⟨h.os, h.tape, h.output, h.size, fun k hk => h.block k (by omega) (fun e => by cases e; omega)⟩
theorem Lx.turn {A : Nat → Prop} {B : Nat} {w w' : World} {r : LRef} {L : Lk} {S : Mem} {om : Nat} (h : Lx A B w r L S) (hno : ¬ LA r A om) (hg : w.grownBy w' (some om)) : Lx A B w' r L S := by
  obtain ⟨m, hm, hk⟩ := h.lk
  exact ⟨⟨m, hm, hk.same ⟨fun k hA hl => hg.block k hl (fun e => hno (Option.some.inj e ▸ hA))⟩⟩, h.base, ⟨fun k hl => h.fresh.new k (Nat.le_trans hg.size hl)⟩, h.bp, h.bq, Nat.le_trans h.bs hg.size⟩
theorem grown_none {w w' : World} (h : w.grownBy w' none) : Below w.heap.size w w' := ⟨h.os, h.tape, h.output, h.size, fun k hk => h.block k hk (by simp)⟩

set_option maxRecDepth 100000 in
set_option maxHeartbeats 8000000 in
theorem locksSleep (w : World) (many : Int) (hu0 : 0 ≤ many) (hu1 : many ≤ 255) (ao : Option Addr) (cap : Nat) (l : List Op) (hcap : l.length ≤ cap) (hl : ArgRow w 3 (.slice ao l.length cap) Op.cells Op.Fits l) :
    Calls Try.prog 5 #[.int .u8 many, .slice ao l.length cap] w fun e w' => e = .returned (.bool true) ∧ Below w.heap.size w w' := by
  obtain ⟨m, hm', hm1, hm2, -⟩ := cut_min 80 l.length
  have hm : (if (80 : Int) < (l.length : Int) then (80 : Int) else (l.length : Int)) = (m : Int) := hm'
  clear hm'
  have hm3 : m ≤ cap := by omega
  have hmm := @run_makeMap Try.prog
  go_enter Try.func5, Try.ntmps5
  go_wp2_with fail
  obtain ⟨n, hn⟩ : ∃ n, 1 + many % 4 = n := ⟨_, rfl⟩
  rw [hn]
  have n0 : 1 ≤ n := by omega
  have n1 : n ≤ 4 := by omega
  clear hn hu0 hu1
  refine (made14_ok _ n (by omega) (by omega)).mono ?_
  rintro e w1 ⟨r, rfl, hL1, hB1⟩
  have hI0 := hL1.lx.box (.map #[] 0)
  have hM0 := World.ownsMap_made w1 Try.prog 3 (plainElem (H := Unit) Try.prog 3)
  have hB0 := hB1.alloc hB1.size (.map #[] 0)
  have hno0 : ¬ LA r (fun k => LB w.heap.size r k ∧ k ≠ w1.heap.size) w1.heap.size := by
    have h1 := hL1.lx.p_lt
    intro h2
    rcases h2 with h2 | h2 | h2
    · exact h2.2 rfl
    · omega
    · omega
  have hs1 := hB1.size
  obtain ⟨A, hA⟩ : ∃ A, A = (fun k => LB w.heap.size r k ∧ k ≠ w1.heap.size) := ⟨_, rfl⟩
  rw [← hA] at hI0 hno0
  obtain ⟨om, hom⟩ : ∃ om, w1.heap.size = om := ⟨_, rfl⟩
  have hp := hI0.nots
  have hbase := hI0.base
  go_wp2_with fail
  clear hm hmm
  try rw [hom]
  rw [hom] at hM0 hno0 hs1
  have hMz : (w1.alloc (.map #[] 0)).ownsMap Try.prog 3 (plainElem (H := Unit) Try.prog 3) om 0 (slD (fun _ => none)) := hM0
  go_loopw [50] (fun i wr => ∃ k : Nat, k ≤ m ∧ i = .int .i64 k ∧ ∃ (L : Lk) (S : Mem) (no : Nat), Lx A w.heap.size wr r L S ∧ S.trace.length ≤ k ∧ no ≤ k ∧ L.conds = n ∧ wr.ownsMap Try.prog 3 (plainElem (H := Unit) Try.prog 3) om no (slD L.sl) ∧ Below w.heap.size w wr) (fun i _ => m - (intOf i).toNat)
  case atStart => exact ⟨0, by omega, rfl, _, _, 0, hI0, Nat.zero_le _, Nat.le_refl _, rfl, hMz, hB0⟩
  case round =>
    clear hMz hI0 hM0 hB0 hL1 hB1 hA hom
    obtain ⟨k, hk, rfl, L, S, no, hI, hS, hnk, hcd, hM, hB⟩ := hrel
    by_cases hlt : k < m
    · have hkl : k < l.length := by omega
      obtain ⟨b, off, rfl, hx⟩ := hl.cell hB (by decide) k hkl
      have hfit := hl.good l[k] (List.getElem_mem _)
      obtain ⟨o, ho⟩ : ∃ o, o = l[k] := ⟨_, rfl⟩
      rw [← ho] at hx hfit
      have x0 := hx 0 _ rfl
      have x1 := hx 1 _ rfl
      have x2 := hx 2 _ rfl
      simp only [Nat.add_zero] at x0
      have hw := fits_u8 hfit.what
      have hmo := hM.lt
      have hI1 := hI.box (.cells #[.int .u8 o.what, .int .i64 o.task, .int .i64 o.cond] 28)
      have hM1 := hM.alloc (.cells #[.int .u8 o.what, .int .i64 o.task, .int .i64 o.cond] 28)
      have hB1 := hB.alloc hB.size (.cells #[.int .u8 o.what, .int .i64 o.task, .int .i64 o.cond] 28)
      have hbox := Blk.new wr 28 [.int .u8 o.what, .int .i64 o.task, .int .i64 o.cond]
      obtain ⟨bx, hbx⟩ : ∃ bx, wr.heap.size = bx := ⟨_, rfl⟩
      have hnb : ¬ LA r (fun k => A k ∧ k ≠ wr.heap.size) bx := by
        have h1 := hI.p_lt
        intro h2
        rcases h2 with h2 | h2 | h2
        · exact h2.2 hbx.symm
        · omega
        · omega
      have hno : ¬ LA r (fun k => A k ∧ k ≠ wr.heap.size) om := fun h2 => hno0 (h2.imp (fun h => h.1) id)
      have hbo : bx ≠ om := by omega
      clear hx hfit ho hI hB hM
      have ht6 := six_in o.task
      have hc6 := cond_in o.cond n n0 n1
      obtain ⟨t, ht⟩ : ∃ t, (wrap64 (o.task.tmod 6 + 6)).tmod 6 = t := ⟨_, rfl⟩
      obtain ⟨c, hc⟩ : ∃ c, (wrap64 (o.cond.tmod n + n)).tmod n = c := ⟨_, rfl⟩
      rw [ht] at ht6
      rw [hc] at hc6
      have hn0 : ¬ n = 0 := by omega
      go_upto_region 9 with fail
      go_cut [12, 13] (fun s12 s13 wx => s12 = .int .i64 t ∧ s13 = .int .i64 c ∧ ∃ N, wx = (wr.alloc (.cells #[.int .u8 o.what, .int .i64 o.task, .int .i64 o.cond] 28)).drewN N)
      case first =>
        go_quiet (fail)
        go_wp2_with fail
        all_goals go_meet
        exact ⟨rfl, rfl, _, rfl⟩
      case rest =>
        obtain ⟨rfl, rfl, N, rfl⟩ := hcut
        have hI2 := hI1.drewN N
        have hM2 : ((wr.alloc (.cells #[.int .u8 o.what, .int .i64 o.task, .int .i64 o.cond] 28)).drewN N).ownsMap Try.prog 3 (plainElem (H := Unit) Try.prog 3) om no (slD L.sl) := hM1
        have hB2 := hB1.trans (Quiet.below ⟨⟨N, rfl⟩⟩ _)
        have hbox2 : Blk ((wr.alloc (.cells #[.int .u8 o.what, .int .i64 o.task, .int .i64 o.cond] 28)).drewN N) bx 28 [.int .u8 o.what, .int .i64 o.task, .int .i64 o.cond] := by rw [← hbx]; exact hbox
        have HT := Lib.hid ht
        have HC := Lib.hid hc
        clear hI1 hM1 hB1 hbox ht hc
        obtain ⟨wb, hwb⟩ : ∃ wb, (wr.alloc (.cells #[.int .u8 o.what, .int .i64 o.task, .int .i64 o.cond] 28)).drewN N = wb := ⟨_, rfl⟩
        rw [hwb] at hI2 hM2 hB2 hbox2
        try rw [hwb]
        obtain ⟨A', hA'⟩ : ∃ A', (fun k => A k ∧ k ≠ wr.heap.size) = A' := ⟨_, rfl⟩
        rw [hA'] at hI2 hnb hno
        have hback : ∀ {w'' : World} {L' : Lk} {S' : Mem}, Lx A' w.heap.size w'' r L' S' → Lx A w.heap.size w'' r L' S' := fun h => (hA' ▸ h).unbox hp.1 hp.2 hbase
        try rw [hbx]
        clear hwb hA' hbx
        have c0 := hbox2.cell 0 rfl
        have c1 := hbox2.cell 1 rfl
        have c2 := hbox2.cell 2 rfl
        by_cases q4 : o.what % 5 = 4
        · have hcl := slCount_le L.sl (fun d => decide (d = c))
          go_wp2_with (first | (at_range; refine wpList_range_own _ rfl _ 62 rfl 3 3 ikeyed Try.underlying62 _ om no _ rfl hM2 ?_; intro w0 hrg0 hg0 hs0))
          go_frame
          clear q4
          go_loopw [14] (fun s14 wr' => ∃ (left : Lit → Bool) (cnt x : Nat), s14 = .int .i64 x ∧ x + slLeft L.sl c left = slCount L.sl (fun d => decide (d = c)) ∧ wr'.ranges Try.prog 3 (plainElem (H := Unit) Try.prog 3) om wb.heap.size no (slD L.sl) left cnt ∧ wb.grownBy wr' none) (fun _ wr' => wr'.rangeLeft om wb.heap.size)
          case atStart => exact ⟨_, _, 0, rfl, by rw [slLeft_start]; omega, hrg0, hg0⟩
          case round =>
            clear hrg0 hg0 hs0
            obtain ⟨left, cnt, x, rfl, hx, hrg, hgw⟩ := hrel
            go_wp2_with (first | (at_next; refine wpList_next_ranges_ii _ rfl _ rfl 3 3 .i64 .i64 ikeyed Try.underlying3 Try.underlying3 om wb.heap.size no _ left cnt rfl hrg ?_ ?_))
            · intro _ hl0
              rw [slLeft_end _ _ _ hl0, Nat.add_zero] at hx
              subst hx
              have hbel := grown_none hgw
              have hI3 := hI2.below hbel
              have hM3 := hrg.owns
              have hB3 := hB2.trans (hbel.mono hB2.size)
              clear hI2 hM2 hB2 hbox2 c0 c1 c2 hrg hgw hbel
              have hwk := wake_x hI3 t c
              by_cases e0 : onE L t c = 0
              · have e1 : wakeM L t c = (slCount L.sl (fun d => decide (d = c)) : Int) := by simp [wakeM, e0]
                have e2 : (wakeL L t c).sl = slWake L.sl c := by simp [wakeL, e0]
                have e3 : (wakeL L t c).conds = L.conds := by simp [wakeL, e0]
                rw [e1, e0] at hwk
                obtain ⟨L', hL'⟩ : ∃ L', wakeL L t c = L' := ⟨_, rfl⟩
                rw [hL'] at hwk e2 e3
                have hcd3 : L'.conds = n := by omega
                go_wp2_with (first | (go_at_call 23; refine hwk.mono ?_; rintro e w4 ⟨rfl, hI4, hO4⟩; have hM4 := ownsMap_keep hM3 (hO4.block _ hM3.lt hno); have hB4 := hB3.trans (hI3.under hO4)) | (at_range; refine wpList_range_own _ rfl _ 62 rfl 3 3 ikeyed Try.underlying62 _ om no _ rfl hM4 ?_; intro w5 hrg5 hg5 hs5))
                go_frame
                have hkeys : ∀ p ∈ slEnt L.sl, WideAt.IsKeyLit p.1 := fun p hp => by obtain ⟨t', _, c', _, rfl⟩ := slEnt_mem.1 hp; trivial
                have hap := apart_of_rising (slEnt_rising L.sl)
                go_loopw [98] (fun _ wr' => ∃ (left : Lit → Bool) (cnt : Nat), wr'.ranges Try.prog 3 (plainElem (H := Unit) Try.prog 3) om w4.heap.size no (Fk (isOn c) (slEnt L.sl) left) left cnt ∧ w4.grownBy wr' (some om)) (fun _ wr' => wr'.rangeLeft om w4.heap.size)
                case atStart => exact ⟨_, _, by rw [Fk_start hkeys]; exact hrg5, hg5.but _⟩
                case round =>
                  clear hrg5 hg5 hs5 hM4
                  obtain ⟨left2, cnt2, hrg, hgw⟩ := hrel
                  go_wp2_with (first | (at_next; refine wpList_next_ranges_ii _ rfl _ rfl 3 3 .i64 .i64 ikeyed Try.underlying3 Try.underlying3 om w4.heap.size no _ left2 cnt2 rfl hrg ?_ ?_))
                  · intro _ hl1
                    have hM3 := hrg.owns
                    rw [Fk_end hl1] at hM3
                    have e5 : Lib.deleteFuncD (isOn c) (.map (slEnt L.sl)) = slD L'.sl := by rw [e2]; exact slD_wake L.sl c
                    rw [e5] at hM3
                    have hI3 := hI4.turn hno hgw
                    have hB3 := hB4.trans (grown_some hs1 hI4.bs hgw)
                    obtain ⟨no3, hno3⟩ : ∃ no3, no3 = no := ⟨_, rfl⟩
                    rw [← hno3] at hM3
                    have hn3 : no3 ≤ k + 1 := by omega
                    obtain ⟨S', hS'⟩ : ∃ S', S = S' := ⟨_, rfl⟩
                    have hS3 : S'.trace.length ≤ k + 1 := by rw [← hS']; omega
                    rw [hS'] at hI3
                    clear hI4 hB4 hrg hgw hno3 hS'
                    obtain ⟨hb, hhb⟩ : ∃ hb, L'.held = hb := ⟨_, rfl⟩
                    have HB := Lib.hid hhb
                    clear hhb
                    go_wp2_with (first | (go_at_call 12; refine (holder_to hI3.lw _ hb rfl HB.out).mono ?_; rintro e w' ⟨rfl, rfl⟩))
                    go_loopw [132] (fun i wr' => ∃ j : Nat, j ≤ 6 ∧ i = .int .i64 j ∧ Lx A' w.heap.size wr' r L' S' ∧ wr'.ownsMap Try.prog 3 (plainElem (H := Unit) Try.prog 3) om no3 (slD L'.sl) ∧ Below w.heap.size w wr') (fun i _ => 6 - (intOf i).toNat)
                    case atStart => exact ⟨0, by omega, rfl, hI3, hM3, hB3⟩
                    case round =>
                      clear hI3 hM3 hB3
                      obtain ⟨j, hj, rfl, hI5, hM5, hB5⟩ := hrel
                      by_cases hj6 : j < 6
                      · have hwj : (Lit.int .i64 (j : Int)).wf = true := WalkArith.wf_i64 (by omega)
                        have hST : S'.trace.length < trMax := by unfold trMax; omega
                        cases hx : L'.sl j with
                        | some d =>
                          have hx' : slAt L'.sl (j : Int) = some d := by unfold slAt; rw [if_pos (by omega), Int.toNat_natCast]; exact hx
                          have e1 : lockE L' (j : Int) = 142 := by unfold lockE; rw [if_neg (by omega), Int.toNat_natCast, hx]; rfl
                          have e2 : lockL L' (j : Int) = L' := by simp [lockL, e1]
                          have e3 : lockN L' (j : Int) = [] := by simp [lockN, e1]
                          have e4 : canB L' (j : Int) = false := by simp [canB, e1]
                          have hlk := lock_x hI5 j hwj hST
                          rw [e1, e2, e3, Mem.notes_nil] at hlk
                          cases hb
                          all_goals
                            go_wp2_with (first | (at_lookup; refine wpList_sl rfl _ _ rfl om no3 L'.sl rfl hM5 j rfl hwj (some d) hx' ?_) | (go_at_call 10; refine (sleeps_to hI5.lw j hwj (some d) hx').mono ?_; rintro e w' ⟨rfl, rfl⟩) | (go_at_call 25; refine (can_to hI5.lw j hwj false e4).mono ?_; rintro e w' ⟨rfl, rfl⟩) | (go_at_call 17; refine hlk.mono ?_; rintro e w6 ⟨rfl, hI6, hO6⟩))
                            go_roundw
                            case rel => exact ⟨j + 1, by omega, by go_num, hI6, ownsMap_keep hM5 (hO6.block _ hM5.lt hno), hB5.trans (hI5.under hO6)⟩
                            case measure => simp [intOf]; omega
                        | none =>
                          have hx' : slAt L'.sl (j : Int) = none := by unfold slAt; rw [if_pos (by omega), Int.toNat_natCast]; exact hx
                          have e1 : lockE L' (j : Int) = if L'.held = true then 140 else 0 := by unfold lockE; rw [if_neg (by omega), Int.toNat_natCast, hx]; rfl
                          rw [HB.out] at e1
                          cases hb
                          all_goals
                            first | (have e4 : canB L' (j : Int) = true := by simp [canB, e1]) | (have e4 : canB L' (j : Int) = false := by simp [canB, e1])
                            go_wp2_with (first | (at_lookup; refine wpList_sl rfl _ _ rfl om no3 L'.sl rfl hM5 j rfl hwj none hx' ?_) | (go_at_call 10; refine (sleeps_to hI5.lw j hwj none hx').mono ?_; rintro e w' ⟨rfl, rfl⟩) | (go_at_call 25; refine (can_to hI5.lw j hwj _ e4).mono ?_; rintro e w' ⟨rfl, rfl⟩))
                            go_roundw
                            case rel => exact ⟨j + 1, by omega, by go_num, hI5, hM5, hB5⟩
                            case measure => simp [intOf]; omega
                      · go_wp2_with fail
                        go_roundw
                        case rel => exact ⟨k + 1, by omega, by go_num, L', S', no3, hback hI5, hS3, hn3, hcd3, hM5, hB5⟩
                        case measure => simp [intOf]; omega
                  · intro y d w6 cnt6 hwy hwd hly hat hrg6 hlt6 hg6 hs6 hen
                    have hgw6 := hgw.andThen hg6 (fun j hj => by cases hj; exact Or.inl (Nat.le_refl _))
                    by_cases hd : d = c
                    · have hp1 : isOn c (.int .i64 y) (.lit (.int .i64 d)) = true := by simp [isOn, hd]
                      go_wp2_with (first | (at_delete; refine wpList_delete_ranges _ rfl _ _ 62 3 rfl 3 ikeyed Try.underlying62 (plainElem (H := Unit) Try.prog 3) om w4.heap.size no _ _ _ rfl hrg6 _ _ rfl (keyOf_int_mk Try.underlying3 hwy) ?_; intro w7 cnt7 hrg7 hle7 hturn; go_frame))
                      rw [strike_twice] at hrg7
                      go_roundw
                      case rel => exact ⟨_, cnt7, by rw [← Fk_struck hap (kl := Lit.int .i64 y) trivial hly hp1 hat]; exact hrg7, hgw6.andThen hturn.grown (fun j hj => by cases hj; exact Or.inr rfl)⟩
                      case measure => rw [hrg7.left_eq, hrg.left_eq]; omega
                    · have hp1 : isOn c (.int .i64 y) (.lit (.int .i64 d)) = false := by simp [isOn, hd]
                      go_wp2_with fail
                      go_roundw
                      case rel => exact ⟨_, cnt6, by rw [← Fk_stays hap (kl := Lit.int .i64 y) trivial hly hp1 hat]; exact hrg6, hgw6⟩
                      case measure => rw [hrg6.left_eq, hrg.left_eq]; exact hlt6
              · have e1 : wakeM L t c = 0 := by simp [wakeM, e0]
                have e2 : wakeL L t c = L := by simp [wakeL, e0]
                have e4 : (onE L t c == 0) = false := by simpa using e0
                rw [e1, e2] at hwk
                go_wp2_with (first | (go_at_call 23; refine hwk.mono ?_; rintro e w4 ⟨rfl, hI4, hO4⟩))
                go_roundw
                case rel => exact ⟨k + 1, by omega, by go_num, L, S, no, hback hI4, by omega, by omega, hcd, ownsMap_keep hM3 (hO4.block _ hM3.lt hno), hB3.trans (hI3.under hO4)⟩
                case measure => simp [intOf]; omega
            · intro y d w3 cnt3 hwy hwd hly hat hrg3 hlt3 hg3 hs3 hen
              have hst := slLeft_step L.sl c left y d hly hat
              have hgw3 := hgw.andThen hg3 (fun j hj => by cases hj; exact Or.inl (Nat.le_refl _))
              by_cases hd : d = c
              · rw [if_pos hd] at hst
                go_wp2_with fail
                go_roundw
                case rel => first | exact ⟨_, cnt3, x + 1, by go_num, by omega, hrg3, hgw3⟩ | exact ⟨.int .i64 ((x + 1 : Nat) : Int), _, _, _, _, _, _, _, _, _, _, ⟨_, cnt3, x + 1, rfl, by omega, hrg3, hgw3⟩, by push_cast; rfl⟩ | exact ⟨_, _, _, _, _, _, _, _, _, _, _, ⟨_, cnt3, x + 1, by go_num, by omega, hrg3, hgw3⟩, rfl⟩
                case measure => rw [hrg3.left_eq, hrg.left_eq]; exact hlt3
              · rw [if_neg hd] at hst
                go_wp2_with fail
                go_roundw
                case rel => first | exact ⟨_, cnt3, x, rfl, by omega, hrg3, hgw3⟩ | exact ⟨.int .i64 (x : Int), _, _, _, _, _, _, _, _, _, _, ⟨_, cnt3, x, rfl, by omega, hrg3, hgw3⟩, rfl⟩
                case measure => rw [hrg3.left_eq, hrg.left_eq]; exact hlt3
        · have hdo := does_x hI2 (by unfold trMax; omega) o.what o.task o.cond n hw n0 n1 t c HT.out HC.out ht6 hc6
          have hdn := doN_one2 L o.what t c
          have hcd3 : (doL L o.what t c).conds = n := by rw [doL_conds2]; exact hcd
          have hS3 : (S.notes (doN L o.what t c)).trace.length ≤ k + 1 := by simp [Mem.notes]; omega
          have hdsl := doL_sl L o.what t c
          obtain ⟨L', hL'⟩ : ∃ L', doL L o.what t c = L' := ⟨_, rfl⟩
          obtain ⟨S', hS'⟩ : ∃ S', S.notes (doN L o.what t c) = S' := ⟨_, rfl⟩
          obtain ⟨E, hE⟩ : ∃ E, doE L o.what t c = E := ⟨_, rfl⟩
          rw [hL', hS', hE] at hdo
          rw [hL'] at hcd3
          rw [hS'] at hS3
          rw [hL', hE] at hdsl
          clear hL' hS' hE hdn
          have hwc : (Lit.int .i64 c).wf = true := WalkArith.wf_i64 (by omega)
          have hmn : no < maxLen := by unfold maxLen; omega
          have hb3 : ∀ w3, Only (LA r A') wb w3 → w3.cell? ⟨bx, 0, none⟩ = some (.int .u8 o.what) := fun w3 hO => (hbox2.keep (hO.block _ hbox2.lt hnb)).cell 0 rfl
          by_cases q3 : o.what % 5 = 3
          · by_cases e0 : E = 0
            · subst e0
              rw [if_pos ⟨q3, rfl⟩] at hdsl
              go_wp2_with (first | (go_at_call 11; refine hdo.mono ?_; rintro e w3 ⟨rfl, hI4, hO4⟩; have c03 := hb3 _ hO4; have hM4 := ownsMap_keep hM2 (hO4.block _ hM2.lt hno); have hB4 := hB2.trans (hI2.under hO4)) | (at_mapUpdate; refine wpList_slput rfl _ _ _ rfl om no L.sl rfl hM4 hmn t c rfl rfl (by omega) hwc ?_; intro w4 hown4 hg4; have hI3 := hI4.turn hno hg4; have hB3 := hB4.trans (grown_some hs1 hI4.bs hg4); rw [← hdsl] at hown4)
                )
              have hM3 := hown4
              obtain ⟨no3, hno3⟩ : ∃ no3, no3 = no + 1 := ⟨_, rfl⟩
              rw [← hno3] at hM3
              have hn3 : no3 ≤ k + 1 := by omega
              clear hI4 hM4 hB4 hI2 hM2 hB2 hbox2 c0 c1 c2 hdo hb3 hown4 hno3 hg4 hdsl c03
              obtain ⟨hb, hhb⟩ : ∃ hb, L'.held = hb := ⟨_, rfl⟩
              have HB := Lib.hid hhb
              clear hhb
              go_wp2_with (first | (go_at_call 12; refine (holder_to hI3.lw _ hb rfl HB.out).mono ?_; rintro e w' ⟨rfl, rfl⟩))
              go_loopw [132] (fun i wr' => ∃ j : Nat, j ≤ 6 ∧ i = .int .i64 j ∧ Lx A' w.heap.size wr' r L' S' ∧ wr'.ownsMap Try.prog 3 (plainElem (H := Unit) Try.prog 3) om no3 (slD L'.sl) ∧ Below w.heap.size w wr') (fun i _ => 6 - (intOf i).toNat)
              case atStart => exact ⟨0, by omega, rfl, hI3, hM3, hB3⟩
              case round =>
                clear hI3 hM3 hB3
                obtain ⟨j, hj, rfl, hI5, hM5, hB5⟩ := hrel
                by_cases hj6 : j < 6
                · have hwj : (Lit.int .i64 (j : Int)).wf = true := WalkArith.wf_i64 (by omega)
                  have hST : S'.trace.length < trMax := by unfold trMax; omega
                  cases hx : L'.sl j with
                  | some d =>
                    have hx' : slAt L'.sl (j : Int) = some d := by unfold slAt; rw [if_pos (by omega), Int.toNat_natCast]; exact hx
                    have e1 : lockE L' (j : Int) = 142 := by unfold lockE; rw [if_neg (by omega), Int.toNat_natCast, hx]; rfl
                    have e2 : lockL L' (j : Int) = L' := by simp [lockL, e1]
                    have e3 : lockN L' (j : Int) = [] := by simp [lockN, e1]
                    have e4 : canB L' (j : Int) = false := by simp [canB, e1]
                    have hlk := lock_x hI5 j hwj hST
                    rw [e1, e2, e3, Mem.notes_nil] at hlk
                    cases hb
                    all_goals
                      go_wp2_with (first | (at_lookup; refine wpList_sl rfl _ _ rfl om no3 L'.sl rfl hM5 j rfl hwj (some d) hx' ?_) | (go_at_call 10; refine (sleeps_to hI5.lw j hwj (some d) hx').mono ?_; rintro e w' ⟨rfl, rfl⟩) | (go_at_call 25; refine (can_to hI5.lw j hwj false e4).mono ?_; rintro e w' ⟨rfl, rfl⟩) | (go_at_call 17; refine hlk.mono ?_; rintro e w6 ⟨rfl, hI6, hO6⟩))
                      go_roundw
                      case rel => exact ⟨j + 1, by omega, by go_num, hI6, ownsMap_keep hM5 (hO6.block _ hM5.lt hno), hB5.trans (hI5.under hO6)⟩
                      case measure => simp [intOf]; omega
                  | none =>
                    have hx' : slAt L'.sl (j : Int) = none := by unfold slAt; rw [if_pos (by omega), Int.toNat_natCast]; exact hx
                    have e1 : lockE L' (j : Int) = if L'.held = true then 140 else 0 := by unfold lockE; rw [if_neg (by omega), Int.toNat_natCast, hx]; rfl
                    rw [HB.out] at e1
                    cases hb
                    all_goals
                      first | (have e4 : canB L' (j : Int) = true := by simp [canB, e1]) | (have e4 : canB L' (j : Int) = false := by simp [canB, e1])
                      go_wp2_with (first | (at_lookup; refine wpList_sl rfl _ _ rfl om no3 L'.sl rfl hM5 j rfl hwj none hx' ?_) | (go_at_call 10; refine (sleeps_to hI5.lw j hwj none hx').mono ?_; rintro e w' ⟨rfl, rfl⟩) | (go_at_call 25; refine (can_to hI5.lw j hwj _ e4).mono ?_; rintro e w' ⟨rfl, rfl⟩))
                      go_roundw
                      case rel => exact ⟨j + 1, by omega, by go_num, hI5, hM5, hB5⟩
                      case measure => simp [intOf]; omega
                · go_wp2_with fail
                  go_roundw
                  case rel => exact ⟨k + 1, by omega, by go_num, L', S', no3, hback hI5, hS3, hn3, hcd3, hM5, hB5⟩
                  case measure => simp [intOf]; omega
            · have e4 : (E == 0) = false := by simpa using e0
              rw [if_neg (fun h => e0 h.2), if_pos (by omega)] at hdsl
              go_wp2_with (first | (go_at_call 11; refine hdo.mono ?_; rintro e w3 ⟨rfl, hI3, hO4⟩; have c03 := hb3 _ hO4; have hM3 := ownsMap_keep hM2 (hO4.block _ hM2.lt hno); have hB3 := hB2.trans (hI2.under hO4))
                )
              rw [← hdsl] at hM3
              obtain ⟨no3, hno3⟩ : ∃ no3, no3 = no := ⟨_, rfl⟩
              rw [← hno3] at hM3
              have hn3 : no3 ≤ k + 1 := by omega
              clear hI2 hM2 hB2 hbox2 c0 c1 c2 hdo hb3 hno3 hdsl c03
              obtain ⟨hb, hhb⟩ : ∃ hb, L'.held = hb := ⟨_, rfl⟩
              have HB := Lib.hid hhb
              clear hhb
              go_wp2_with (first | (go_at_call 12; refine (holder_to hI3.lw _ hb rfl HB.out).mono ?_; rintro e w' ⟨rfl, rfl⟩))
              go_loopw [132] (fun i wr' => ∃ j : Nat, j ≤ 6 ∧ i = .int .i64 j ∧ Lx A' w.heap.size wr' r L' S' ∧ wr'.ownsMap Try.prog 3 (plainElem (H := Unit) Try.prog 3) om no3 (slD L'.sl) ∧ Below w.heap.size w wr') (fun i _ => 6 - (intOf i).toNat)
              case atStart => exact ⟨0, by omega, rfl, hI3, hM3, hB3⟩
              case round =>
                clear hI3 hM3 hB3
                obtain ⟨j, hj, rfl, hI5, hM5, hB5⟩ := hrel
                by_cases hj6 : j < 6
                · have hwj : (Lit.int .i64 (j : Int)).wf = true := WalkArith.wf_i64 (by omega)
                  have hST : S'.trace.length < trMax := by unfold trMax; omega
                  cases hx : L'.sl j with
                  | some d =>
                    have hx' : slAt L'.sl (j : Int) = some d := by unfold slAt; rw [if_pos (by omega), Int.toNat_natCast]; exact hx
                    have e1 : lockE L' (j : Int) = 142 := by unfold lockE; rw [if_neg (by omega), Int.toNat_natCast, hx]; rfl
                    have e2 : lockL L' (j : Int) = L' := by simp [lockL, e1]
                    have e3 : lockN L' (j : Int) = [] := by simp [lockN, e1]
                    have e4 : canB L' (j : Int) = false := by simp [canB, e1]
                    have hlk := lock_x hI5 j hwj hST
                    rw [e1, e2, e3, Mem.notes_nil] at hlk
                    cases hb
                    all_goals
                      go_wp2_with (first | (at_lookup; refine wpList_sl rfl _ _ rfl om no3 L'.sl rfl hM5 j rfl hwj (some d) hx' ?_) | (go_at_call 10; refine (sleeps_to hI5.lw j hwj (some d) hx').mono ?_; rintro e w' ⟨rfl, rfl⟩) | (go_at_call 25; refine (can_to hI5.lw j hwj false e4).mono ?_; rintro e w' ⟨rfl, rfl⟩) | (go_at_call 17; refine hlk.mono ?_; rintro e w6 ⟨rfl, hI6, hO6⟩))
                      go_roundw
                      case rel => exact ⟨j + 1, by omega, by go_num, hI6, ownsMap_keep hM5 (hO6.block _ hM5.lt hno), hB5.trans (hI5.under hO6)⟩
                      case measure => simp [intOf]; omega
                  | none =>
                    have hx' : slAt L'.sl (j : Int) = none := by unfold slAt; rw [if_pos (by omega), Int.toNat_natCast]; exact hx
                    have e1 : lockE L' (j : Int) = if L'.held = true then 140 else 0 := by unfold lockE; rw [if_neg (by omega), Int.toNat_natCast, hx]; rfl
                    rw [HB.out] at e1
                    cases hb
                    all_goals
                      first | (have e4 : canB L' (j : Int) = true := by simp [canB, e1]) | (have e4 : canB L' (j : Int) = false := by simp [canB, e1])
                      go_wp2_with (first | (at_lookup; refine wpList_sl rfl _ _ rfl om no3 L'.sl rfl hM5 j rfl hwj none hx' ?_) | (go_at_call 10; refine (sleeps_to hI5.lw j hwj none hx').mono ?_; rintro e w' ⟨rfl, rfl⟩) | (go_at_call 25; refine (can_to hI5.lw j hwj _ e4).mono ?_; rintro e w' ⟨rfl, rfl⟩))
                      go_roundw
                      case rel => exact ⟨j + 1, by omega, by go_num, hI5, hM5, hB5⟩
                      case measure => simp [intOf]; omega
                · go_wp2_with fail
                  go_roundw
                  case rel => exact ⟨k + 1, by omega, by go_num, L', S', no3, hback hI5, hS3, hn3, hcd3, hM5, hB5⟩
                  case measure => simp [intOf]; omega
          · rw [if_neg (fun h => q3 h.1), if_pos (by omega)] at hdsl
            have q3' : (o.what % 5 == 3) = false := by simpa using q3
            have q4' : (o.what % 5 == 4) = false := by simpa using q4
            go_wp2_with (first | (go_at_call 11; refine hdo.mono ?_; rintro e w3 ⟨rfl, hI3, hO4⟩; have c03 := hb3 _ hO4; have hM3 := ownsMap_keep hM2 (hO4.block _ hM2.lt hno); have hB3 := hB2.trans (hI2.under hO4))
              )
            rw [← hdsl] at hM3
            obtain ⟨no3, hno3⟩ : ∃ no3, no3 = no := ⟨_, rfl⟩
            rw [← hno3] at hM3
            have hn3 : no3 ≤ k + 1 := by omega
            clear hI2 hM2 hB2 hbox2 c0 c1 c2 hdo hb3 hno3 hdsl c03
            obtain ⟨hb, hhb⟩ : ∃ hb, L'.held = hb := ⟨_, rfl⟩
            have HB := Lib.hid hhb
            clear hhb
            go_wp2_with (first | (go_at_call 12; refine (holder_to hI3.lw _ hb rfl HB.out).mono ?_; rintro e w' ⟨rfl, rfl⟩))
            go_loopw [132] (fun i wr' => ∃ j : Nat, j ≤ 6 ∧ i = .int .i64 j ∧ Lx A' w.heap.size wr' r L' S' ∧ wr'.ownsMap Try.prog 3 (plainElem (H := Unit) Try.prog 3) om no3 (slD L'.sl) ∧ Below w.heap.size w wr') (fun i _ => 6 - (intOf i).toNat)
            case atStart => exact ⟨0, by omega, rfl, hI3, hM3, hB3⟩
            case round =>
              clear hI3 hM3 hB3
              obtain ⟨j, hj, rfl, hI5, hM5, hB5⟩ := hrel
              by_cases hj6 : j < 6
              · have hwj : (Lit.int .i64 (j : Int)).wf = true := WalkArith.wf_i64 (by omega)
                have hST : S'.trace.length < trMax := by unfold trMax; omega
                cases hx : L'.sl j with
                | some d =>
                  have hx' : slAt L'.sl (j : Int) = some d := by unfold slAt; rw [if_pos (by omega), Int.toNat_natCast]; exact hx
                  have e1 : lockE L' (j : Int) = 142 := by unfold lockE; rw [if_neg (by omega), Int.toNat_natCast, hx]; rfl
                  have e2 : lockL L' (j : Int) = L' := by simp [lockL, e1]
                  have e3 : lockN L' (j : Int) = [] := by simp [lockN, e1]
                  have e4 : canB L' (j : Int) = false := by simp [canB, e1]
                  have hlk := lock_x hI5 j hwj hST
                  rw [e1, e2, e3, Mem.notes_nil] at hlk
                  cases hb
                  all_goals
                    go_wp2_with (first | (at_lookup; refine wpList_sl rfl _ _ rfl om no3 L'.sl rfl hM5 j rfl hwj (some d) hx' ?_) | (go_at_call 10; refine (sleeps_to hI5.lw j hwj (some d) hx').mono ?_; rintro e w' ⟨rfl, rfl⟩) | (go_at_call 25; refine (can_to hI5.lw j hwj false e4).mono ?_; rintro e w' ⟨rfl, rfl⟩) | (go_at_call 17; refine hlk.mono ?_; rintro e w6 ⟨rfl, hI6, hO6⟩))
                    go_roundw
                    case rel => exact ⟨j + 1, by omega, by go_num, hI6, ownsMap_keep hM5 (hO6.block _ hM5.lt hno), hB5.trans (hI5.under hO6)⟩
                    case measure => simp [intOf]; omega
                | none =>
                  have hx' : slAt L'.sl (j : Int) = none := by unfold slAt; rw [if_pos (by omega), Int.toNat_natCast]; exact hx
                  have e1 : lockE L' (j : Int) = if L'.held = true then 140 else 0 := by unfold lockE; rw [if_neg (by omega), Int.toNat_natCast, hx]; rfl
                  rw [HB.out] at e1
                  cases hb
                  all_goals
                    first | (have e4 : canB L' (j : Int) = true := by simp [canB, e1]) | (have e4 : canB L' (j : Int) = false := by simp [canB, e1])
                    go_wp2_with (first | (at_lookup; refine wpList_sl rfl _ _ rfl om no3 L'.sl rfl hM5 j rfl hwj none hx' ?_) | (go_at_call 10; refine (sleeps_to hI5.lw j hwj none hx').mono ?_; rintro e w' ⟨rfl, rfl⟩) | (go_at_call 25; refine (can_to hI5.lw j hwj _ e4).mono ?_; rintro e w' ⟨rfl, rfl⟩))
                    go_roundw
                    case rel => exact ⟨j + 1, by omega, by go_num, hI5, hM5, hB5⟩
                    case measure => simp [intOf]; omega
              · go_wp2_with fail
                go_roundw
                case rel => exact ⟨k + 1, by omega, by go_num, L', S', no3, hback hI5, hS3, hn3, hcd3, hM5, hB5⟩
                case measure => simp [intOf]; omega
    · clear hl
      go_wp2_with (go_at_call 13; refine (awake14 _).mono ?_; rintro e w5 ⟨rfl, hb5⟩)
      go_ret
      exact ⟨rfl, hB.trans (hb5.mono hB.size)⟩

end Go.Proofs.Ytncfbccihofaoaa
