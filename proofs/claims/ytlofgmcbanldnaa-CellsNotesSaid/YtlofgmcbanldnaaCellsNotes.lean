/- The walk over law 13's CellsNotes. -/
import Derived.Test.YtlofgmcbanldnaaLaw13
import Derived.Test.YtlofgmcbanldnaaOpen13
import Derived.Test.YtlofgmcbanldnaaNote
import Derived.Test.YtlofgmcbanldnaaNoteNo
import Derived.Deep.DeepCutAuto
namespace Go.Proofs.Ytlofgmcbanldnaa
open Go.RowKit

/-- The cells behind k stores. -/
def nAt (x : Int) (k : Nat) : List Int := (List.range k).map (fun i : Nat => IntKind.u64.wrap (x + (i : Int))) ++ List.replicate (3 - k) 0
theorem nAt_set (x : Int) (k : Nat) (h : k < 3) : (nAt x k).set k (IntKind.u64.wrap (x + (k : Int))) = nAt x (k + 1) := by
  match k, h with
  | 0, _ => simp [nAt, List.range_succ]
  | 1, _ => simp [nAt, List.range_succ]
  | 2, _ => simp [nAt, List.range_succ]
theorem nAt_length (x : Int) (k : Nat) (h : k ≤ 3) : (nAt x k).length = 3 := by simp [nAt]; omega
theorem nAt_get (x : Int) (k : Nat) (h : k < 3) : (nAt x 3).getD k 0 = IntKind.u64.wrap (x + (k : Int)) := by
  match k, h with
  | 0, _ => simp [nAt, List.range_succ]
  | 1, _ => simp [nAt, List.range_succ]
  | 2, _ => simp [nAt, List.range_succ]

/-- What the loops keep. -/
structure NotesInv (w wr : World) (c : CRef) (at_ : List Int) (n : Nat) : Prop where
  ex : ∃ S : Mem, Cells wr c S (fun k => w.heap.size ≤ k) ∧ S.atomics = at_ ∧ S.plains = [[], []] ∧ S.trace.length = n
  below : Below w.heap.size w wr

theorem Cells.drewN {w : World} {c : CRef} {S : Mem} {A : Nat → Prop} (h : Cells w c S A) (n : Nat) : Cells (w.drewN n) c S A := h.keep (Same.drewN A w n)
theorem NotesInv.drewN {w wr : World} {c : CRef} {at_ : List Int} {n : Nat} (h : NotesInv w wr c at_ n) (k : Nat) : NotesInv w (wr.drewN k) c at_ n :=
  ⟨let ⟨S, hC, h1, h2, h3⟩ := h.ex; ⟨S, hC.drewN k, h1, h2, h3⟩, ⟨h.below.os, h.below.tape, h.below.output, h.below.size, h.below.block⟩⟩

/-- May it be noted in a memory of 3 cells and 2 places? -/
def okN (a : Acc) : Bool :=
  decide (0 ≤ a.task ∧ a.task < 64 ∧ 0 ≤ a.at_ ∧ 1 ≤ a.what ∧ a.what ≤ 9 ∧ (a.what ≤ 5 → a.at_ < 3) ∧ (6 ≤ a.what → a.what ≤ 7 → a.at_ < 2) ∧ (8 ≤ a.what → a.at_ < 1))
theorem okN_of {S : Mem} (h1 : S.atomics.length = 3) (h2 : S.plains.length = 2) (a : Acc) : okNote S a = okN a := by unfold okNote okN; rw [h1, h2]; rfl

set_option maxRecDepth 100000 in
set_option maxHeartbeats 1000000 in
theorem cellsNotes (w : World) (ao : Option Addr) (cap : Nat) (l : List Acc) (x : Int) (hcap : l.length ≤ cap) (hl : ArgRow w 3 (.slice ao l.length cap) Acc.cells Acc.Fits l) :
    Calls Try.prog 5 #[.slice ao l.length cap, .int .u64 x] w fun e w' => e = .returned (.bool true) ∧ Below w.heap.size w w' := by
  obtain ⟨m, hm', hm1, hm2, -⟩ := cut_min 40 l.length
  have hm : (if (40 : Int) < (l.length : Int) then (40 : Int) else (l.length : Int)) = (m : Int) := hm'
  clear hm'
  have hm3 : m ≤ cap := by omega
  go_enter Try.func5, Try.ntmps5
  go_wp2_with fail
  refine (made13_ok _ 3 2 (by decide) (by decide)).mono ?_
  rintro e w1 ⟨c, rfl, hC, hB1⟩
  have h0 : NotesInv w w1 c (nAt x 0) 0 := ⟨⟨_, hC, by simp [nAt, Mem.new], rfl, rfl⟩, hB1⟩
  clear hC hB1
  go_wp2_with fail
  go_loopw [25] (fun i wr => ∃ k : Nat, k ≤ 3 ∧ i = .int .i64 k ∧ NotesInv w wr c (nAt x k) k) (fun i _ => 3 - (intOf i).toNat)
  case atStart => exact ⟨0, by omega, rfl, h0⟩
  case round =>
    clear h0
    obtain ⟨k, hk, rfl, hI⟩ := hrel
    by_cases hlt : k < 3
    · obtain ⟨⟨S, hC, hS1, hS2, hS3⟩, hB⟩ := hI
      have hF : Fresh (fun k => w.heap.size ≤ k) wr := ⟨fun k hk => Nat.le_trans hB.size hk⟩
      have HS := Lib.hid hS1
      have HS2 := Lib.hid hS2
      have HS3 := Lib.hid hS3
      clear hS1 hS2 hS3 hm
      go_wp2_with fail
      refine (store_ok hC hF (by rw [HS3.out]; unfold trMax; omega) 0 k _ (by rw [HS.out, nAt_length x k hk]; exact decide_eq_true ⟨by omega, by omega, by omega, by omega⟩)).mono ?_
      rintro e w2 ⟨rfl, hC2, hO2⟩
      have hI2 : NotesInv w w2 c (nAt x (k + 1)) (k + 1) := ⟨⟨_, hC2, by simp only [Mem.put, Mem.note, HS.out, Int.toNat_natCast]; exact nAt_set x k hlt, HS2.out, by simp [Mem.put, Mem.note, HS3.out]⟩, hB.trans ((hO2.below hB.size (fun _ h => by omega)))⟩
      clear hC hF hC2 hO2
      go_wp2_with fail
      go_roundw
      case rel => exact ⟨k + 1, by omega, by go_num, hI2⟩
      case measure => simp [intOf]; omega
    · have hk3 : k = 3 := by omega
      rw [hk3] at hI
      clear hk hk3
      go_wp2_with fail
      clear hm hlt
      go_loopw [8, 42] (fun t i wr => ∃ k : Nat, k ≤ m ∧ i = .int .i64 k ∧ ∃ n : Nat, t = .int .i64 n ∧ n ≤ 3 + k ∧ NotesInv w wr c (nAt x 3) n) (fun _ i _ => m - (intOf i).toNat)
      case atStart => exact ⟨0, by omega, rfl, 3, rfl, by omega, hI⟩
      case round =>
        clear hI
        obtain ⟨k, hk, rfl, n, rfl, hn, hI⟩ := hrel
        by_cases hlt : k < m
        · obtain ⟨⟨S, hC, hS1, hS2, hS3⟩, hB⟩ := hI
          have hF : Fresh (fun k => w.heap.size ≤ k) wr := ⟨fun k hk => Nat.le_trans hB.size hk⟩
          have hkl : k < l.length := by omega
          obtain ⟨b, off, hao, x1, x2, x3⟩ : ∃ b off, ao = some ⟨b, off, none⟩ ∧ wr.cell? ⟨b, off + k * 3, none⟩ = some (.int .i64 l[k].task) ∧ wr.cell? ⟨b, off + k * 3 + 1, none⟩ = some (.int .u8 l[k].what) ∧ wr.cell? ⟨b, off + k * 3 + 2, none⟩ = some (.int .i64 l[k].at_) := by
            have hr := hl.reads.below hB
            rcases hr.form with ⟨h0, _⟩ | ⟨b, off, c', e, _⟩
            · omega
            · cases e
              exact ⟨b, off, rfl, hr.acc k hkl⟩
          subst hao
          have hfit := hl.good l[k] (List.getElem_mem _)
          obtain ⟨a, hla⟩ : ∃ a, a = l[k] := ⟨_, rfl⟩
          rw [← hla] at x1 x2 x3 hfit
          have HA := Lib.hid hla
          have HS := Lib.hid hS1
          have HS2 := Lib.hid hS2
          have HS3 := Lib.hid hS3
          have hw := fits_u8 hfit.what
          have ht := fits_i64 hfit.task
          have ha := fits_i64 hfit.at_
          clear hS1 hS2 hS3 hla hfit
          go_upto_region 13 with fail
          go_cut [11] (fun s11 wx => s11 = .bool (okN a) ∧ wx = wr.alloc (.cells #[.int .i64 a.task, .int .u8 a.what, .int .i64 a.at_] 40))
          case first =>
            --H{
            go_wp2_with fail
            all_goals go_meet
            all_goals refine ⟨congrArg Value.bool ?_, by first | rfl | simp [*]⟩
            all_goals unfold okN
            all_goals first | (simp; done) | (simp; omega) | (rw [Bool.eq_iff_iff]; simp; omega)
            --H}
          case rest =>
            obtain ⟨rfl, rfl⟩ := hcut
            have hl3 : S.atomics.length = 3 := by rw [HS.out]; rfl
            have hl2 : S.plains.length = 2 := by rw [HS2.out]; rfl
            have hokn := okN_of hl3 hl2 a
            have hC1 : Cells (wr.alloc (.cells #[.int .i64 a.task, .int .u8 a.what, .int .i64 a.at_] 40)) c S (fun k => w.heap.size ≤ k ∧ k ≠ wr.heap.size) := (hC.sans (Nat.le_refl _)).alloc _
            have hF1 : Fresh (fun k => w.heap.size ≤ k ∧ k ≠ wr.heap.size) (wr.alloc (.cells #[.int .i64 a.task, .int .u8 a.what, .int .i64 a.at_] 40)) := hF.sans (by simp) (by simp)
            have hbox : Blk (wr.alloc (.cells #[.int .i64 a.task, .int .u8 a.what, .int .i64 a.at_] 40)) wr.heap.size 40 [.int .i64 a.task, .int .u8 a.what, .int .i64 a.at_] := Blk.new wr _ _
            have hBa : Below w.heap.size w (wr.alloc (.cells #[.int .i64 a.task, .int .u8 a.what, .int .i64 a.at_] 40)) := hB.alloc hB.size _
            have htr : S.trace.length < trMax := by rw [HS3.out]; unfold trMax; omega
            clear hC hF hl3 hl2 hl x1 x2 x3
            cases hok : okN a with
            | true =>
              rw [hok] at hokn
              have HOK := Lib.hid hok
              clear hok
              go_wp2_with fail
              refine (note_ok hC1 hF1 htr a hokn).mono ?_
              rintro e w2 ⟨rfl, hC2, hO2⟩
              have hbox2 := hbox.keep (hO2.block _ hbox.lt (by simp))
              have hB2 := hBa.trans ((hO2.sans.below hBa.size (fun k hk => by omega)))
              have hlen : (S.note a).trace.length = n + 1 := by simp [Mem.note, HS3.out]
              clear hC1 hF1 hbox hBa hO2 hokn htr
              go_wp2_with fail
              refine (trace_ok hC2 (by rw [hlen]; unfold trMax; omega)).mono ?_
              rintro e w3 ⟨v3, rfl, hr3, hc3, hb3⟩
              rw [hlen] at hr3
              have hI3 : NotesInv w w3 c (nAt x 3) (n + 1) := ⟨⟨_, hc3.mono fun _ _ h => h.1.1, HS.out, HS2.out, hlen⟩, hB2.trans (hb3.mono hB2.size)⟩
              have hbox3 := hbox2.keep (hb3.block _ hbox2.lt)
              obtain ⟨g, cp, rfl⟩ := owns_succ hr3.owns
              obtain ⟨y1, y2, y3⟩ := hr3.reads.acc n (by rw [hlen]; omega)
              have hlast : (S.note a).trace[n]'(by rw [hlen]; omega) = a := by simp [Mem.note, HS3.out]
              rw [hlast] at y1 y2 y3
              have z1 := hbox3.cell 0 rfl
              have z2 := hbox3.cell 1 rfl
              have z3 := hbox3.cell 2 rfl
              have hne2 := fun W => neq_acc W a a
              clear hC2 hB2 hlen hr3 hc3 hb3 hbox2 hbox3 hlast
              simp only [Nat.zero_add] at y1 y2 y3
              go_wp2_with fail
              go_quiet (fail)
              go_wp2_with fail
              go_roundw
              case rel => exact ⟨k + 1, by omega, by go_num, n + 1, by go_num, by omega, hI3.drewN _⟩
              case measure => simp [intOf]; omega
            | false =>
              rw [hok] at hokn
              have HOK := Lib.hid hok
              clear hok
              go_wp2_with fail
              refine (note_no hC1 a hokn).mono ?_
              rintro e w2 ⟨rfl, hb2⟩
              have hC2 := hC1.keep (Same.of_below _ hb2)
              have hB2 := hBa.trans (hb2.mono hBa.size)
              clear hC1 hF1 hbox hBa hb2 hokn
              go_wp2_with fail
              refine (trace_ok hC2 htr).mono ?_
              rintro e w3 ⟨v3, rfl, hr3, hc3, hb3⟩
              have hI3 : NotesInv w w3 c (nAt x 3) n := ⟨⟨_, hc3.mono fun _ _ h => h.1.1, HS.out, HS2.out, HS3.out⟩, hB2.trans (hb3.mono hB2.size)⟩
              rw [HS3.out] at hr3
              obtain ⟨ao', cp, rfl⟩ := hr3.slice
              clear hC2 hB2 hr3 hc3 hb3 htr
              go_wp2_with fail
              go_quiet (fail)
              go_wp2_with fail
              go_roundw
              case rel => exact ⟨k + 1, by omega, by go_num, n, rfl, by omega, hI3.drewN _⟩
              case measure => simp [intOf]; omega
        · have hn50 : n ≤ 50 := by omega
          go_wp2_with fail
          clear hl hk hm1 hm2 hm3 hcap hlt hn
          go_loopw [141] (fun i wr => ∃ k n : Nat, k ≤ 3 ∧ i = .int .i64 k ∧ n ≤ 50 + k ∧ NotesInv w wr c (nAt x 3) n) (fun i _ => 3 - (intOf i).toNat)
          case atStart => exact ⟨0, n, by omega, rfl, by omega, hI⟩
          case round =>
            clear hI
            obtain ⟨k, n, hk, rfl, hn, hI⟩ := hrel
            obtain ⟨⟨S, hC, hS1, hS2, hS3⟩, hB⟩ := hI
            have hF : Fresh (fun k => w.heap.size ≤ k) wr := ⟨fun k hk => Nat.le_trans hB.size hk⟩
            have HS := Lib.hid hS1
            have HS2 := Lib.hid hS2
            have HS3 := Lib.hid hS3
            clear hS1 hS2 hS3
            by_cases hlt : k < 3
            · go_wp2_with fail
              refine (load_to hC hF (by rw [HS3.out]; unfold trMax; omega) 0 k (by rw [HS.out, nAt_length x 3 (by omega)]; exact decide_eq_true ⟨by omega, by omega, by omega, by omega⟩) (IntKind.u64.wrap (x + (k : Int))) _ (by unfold Mem.at_; rw [HS.out, Int.toNat_natCast]; exact nAt_get x k hlt) rfl).mono ?_
              rintro e w2 ⟨rfl, hC2, hO2⟩
              have hI2 : NotesInv w w2 c (nAt x 3) (n + 1) := ⟨⟨_, hC2, HS.out, HS2.out, by simp [Mem.note, HS3.out]⟩, hB.trans ((hO2.below hB.size (fun _ h => by omega)))⟩
              clear hC hF hC2 hO2
              go_wp2_with fail
              go_roundw
              case rel => exact ⟨k + 1, n + 1, by omega, by go_num, by omega, hI2⟩
              case measure => simp [intOf]; omega
            · go_wp2_with fail
              refine (read_ok hC hF (by rw [HS3.out]; unfold trMax; omega) ⟨by rw [HS2.out]; simp⟩ 0 1 (by rw [HS2.out]; decide)).mono ?_
              rintro e w2 ⟨v2, rfl, hr2, hC2, hO2⟩
              have hpl : S.place 1 = [] := by unfold Mem.place; rw [HS2.out]; rfl
              rw [hpl] at hr2
              obtain ⟨ao2, cp2, rfl⟩ := hr2.slice
              have hB2 := hB.trans ((hO2.below hB.size (fun _ h => by omega)))
              clear hC hF hC2 hO2 hr2 hpl hB
              go_wp2_with (go_at_call 12; refine (awake13 _).mono ?_; rintro e w5 ⟨rfl, hb5⟩)
              go_ret
              exact ⟨rfl, hB2.trans (hb5.mono hB2.size)⟩

end Go.Proofs.Ytlofgmcbanldnaa
