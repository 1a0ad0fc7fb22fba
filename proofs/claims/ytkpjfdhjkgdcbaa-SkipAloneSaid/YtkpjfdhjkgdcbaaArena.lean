/- The walks over package arena. -/
import Derived.Test.YtkpjfdhjkgdcbaaCellsNew
import Derived.Deep.RegionWith

namespace Go.Proofs.Ytkpjfdhjkgdcbaa
open Go.RowKit

/-- An arena lies at q, outside of A: its memory, its cell, its units. -/
structure ArenaAt (w : World) (q : Nat) (c : CRef) (at_ units : Int) (A : Nat → Prop) : Prop where
  blk : Blk w q 163 [.pointer (some ⟨c.p, 0, none⟩), .int .i64 at_, .int .u64 units]
  out : ¬ A q
theorem ArenaAt.only {w w' : World} {q : Nat} {c : CRef} {at_ units : Int} {A : Nat → Prop} (h : ArenaAt w q c at_ units A) (ho : Only A w w') : ArenaAt w' q c at_ units A :=
  ⟨h.blk.keep (ho.block _ h.blk.lt h.out), h.out⟩
theorem ArenaAt.c0 {w : World} {q : Nat} {c : CRef} {at_ units : Int} {A : Nat → Prop} (h : ArenaAt w q c at_ units A) : w.cell? ⟨q, 0, none⟩ = some (.pointer (some ⟨c.p, 0, none⟩)) := h.blk.cell 0 rfl
theorem ArenaAt.c1 {w : World} {q : Nat} {c : CRef} {at_ units : Int} {A : Nat → Prop} (h : ArenaAt w q c at_ units A) : w.cell? ⟨q, 1, none⟩ = some (.int .i64 at_) := h.blk.cell 1 rfl
theorem ArenaAt.c2 {w : World} {q : Nat} {c : CRef} {at_ units : Int} {A : Nat → Prop} (h : ArenaAt w q c at_ units A) : w.cell? ⟨q, 2, none⟩ = some (.int .u64 units) := h.blk.cell 2 rfl

def okUnits (n : Nat) (at_ units : Int) : Bool := decide (0 ≤ at_ ∧ at_ < n ∧ 1 ≤ units ∧ units ≤ 1073741824)

set_option maxHeartbeats 400000 in
theorem ais_yes (w : World) (q : Nat) (a : Addr) (h : w.cell? ⟨q, 0, none⟩ = some (.pointer (some a))) :
    Calls Try.prog 75 #[.pointer (some ⟨q, 0, none⟩)] w fun e w' => e = .returned (.bool true) ∧ w = w' := by
  go_enter Try.func75, Try.ntmps75
  go_wp2
  go_ret
  exact ⟨rfl, rfl⟩

set_option maxHeartbeats 400000 in
theorem anew_ok {w : World} {c : CRef} {S : Mem} {A : Nat → Prop} (hC : Cells w c S A) (at_ units : Int) (h : okUnits S.atomics.length at_ units = true) :
    Calls Try.prog 58 #[.pointer (some ⟨c.p, 0, none⟩), .int .i64 at_, .int .u64 units] w fun e w' => ∃ q, e = .returned (.tuple #[.pointer (some ⟨q, 0, none⟩), .int .i64 0]) ∧ w.heap.size ≤ q ∧ ArenaAt w' q c at_ units (fun k => A k ∧ k ≠ q) ∧ Cells w' c S (fun k => A k ∧ k ≠ q) ∧ Below w.heap.size w w' := by
  obtain ⟨h1, h2, h3, h4⟩ := of_decide_eq_true h
  clear h
  go_enter Try.func58, Try.ntmps58
  go_wp2_with (go_at_call 57; refine (many_ok hC).mono ?_; rintro e w' ⟨rfl, hq⟩; obtain ⟨nq, rfl⟩ := hq)
  go_ret2
  have hb : Blk ((w.drewN nq).alloc (.cells #[.pointer (some ⟨c.p, 0, none⟩), .int .i64 at_, .int .u64 units] 163)) w.heap.size 163 [.pointer (some ⟨c.p, 0, none⟩), .int .i64 at_, .int .u64 units] := Blk.new (w.drewN nq) _ _
  exact ⟨w.heap.size, rfl, Nat.le_refl _, ⟨hb, by simp⟩, (Cells.keep (hC.mono fun k hk hA => ⟨hA, by omega⟩) (Same.drewN _ w nq)).alloc _, ((Quiet.below ⟨⟨nq, rfl⟩⟩ _).alloc (Nat.le_refl _) _)⟩

set_option maxHeartbeats 400000 in
theorem anew_no {w : World} {c : CRef} {S : Mem} {A : Nat → Prop} (hC : Cells w c S A) (at_ units : Int) (h : okUnits S.atomics.length at_ units = false) :
    Calls Try.prog 58 #[.pointer (some ⟨c.p, 0, none⟩), .int .i64 at_, .int .u64 units] w fun e w' => e = .returned (.tuple #[.pointer none, .int .i64 2]) ∧ Quiet w w' := by
  have h1 := of_decide_eq_false h
  clear h
  go_enter Try.func58, Try.ntmps58
  go_wp2_with (go_at_call 57; refine (many_ok hC).mono ?_; rintro e w' ⟨rfl, hq⟩; obtain ⟨nq, rfl⟩ := hq)
  all_goals go_ret2
  all_goals exact ⟨rfl, ⟨_, rfl⟩⟩

/-- What Add leaves. -/
def Mem.added (S : Mem) (task at_ by_ : Int) : Mem := (S.note ⟨task, 5, at_⟩).put at_ (IntKind.u64.wrap (S.at_ at_ + by_))

/-- What Take answers, of an arena of so many units, where x were asked for. -/
def takeR (x units need : Int) : Int × Int := if units < IntKind.u64.wrap (x + need) then (0, 13) else (IntKind.u64.wrap (IntKind.u64.wrap (x + need) - need), 0)

set_option maxHeartbeats 1000000 in
theorem take_ok {w : World} {q : Nat} {c : CRef} {S : Mem} {A : Nat → Prop} {at_ units : Int} (hQ : ArenaAt w q c at_ units A) (hC : Cells w c S A) (hF : Fresh A w) (hn : S.trace.length < trMax) (task need : Int) (h1 : 1 ≤ need) (h2 : need ≤ 1048576)
    (h : okAt S.atomics.length task at_ = true) :
    Calls Try.prog 66 #[.pointer (some ⟨q, 0, none⟩), .int .i64 task, .int .u64 need] w fun e w' => e = .returned (.tuple #[.int .u64 (takeR (S.at_ at_) units need).1, .int .i64 (takeR (S.at_ at_) units need).2]) ∧ Cells w' c (S.added task at_ need) A ∧ Only A w w' := by
  have q0 := hQ.c0
  have q1 := hQ.c1
  go_enter Try.func66, Try.ntmps66
  go_upto_region 5 with (go_at_call 75; refine (ais_yes _ _ _ q0).mono ?_; rintro e w' ⟨rfl, rfl⟩)
  go_cut [8, 9] (fun s8 s9 wx => s8 = .int .u64 (IntKind.u64.wrap (S.at_ at_ + need)) ∧ s9 = .int .i64 0 ∧ Cells wx c (S.added task at_ need) A ∧ Only A w wx)
  case first =>
    have hCd := hC.drew
    have hFd := hF.drew
    go_region_with (go_at_call 80; refine (add_ok hCd hFd hn _ _ _ h).mono ?_; rintro e w2 ⟨rfl, hC2, hO2⟩)
    all_goals (go_wp2_with fail; go_meet; exact ⟨rfl, rfl, hC2, hO2.of_drew⟩)
  case rest =>
    obtain ⟨rfl, rfl, hC2, hO2⟩ := hcut
    have q2' := (hQ.only hO2).c2
    by_cases hx : units < IntKind.u64.wrap (S.at_ at_ + need)
    · have HR := Lib.hid (show takeR (S.at_ at_) units need = (0, 13) from if_pos hx)
      clear hC hF hQ q0 q1
      go_wp2
      go_ret2
      exact ⟨by rw [HR.out]; rfl, hC2, hO2⟩
    · have HR := Lib.hid (show takeR (S.at_ at_) units need = (IntKind.u64.wrap (IntKind.u64.wrap (S.at_ at_ + need) - need), 0) from if_neg hx)
      clear hC hF hQ q0 q1
      go_wp2
      go_ret2
      exact ⟨by rw [HR.out]; rfl, hC2, hO2⟩

set_option maxHeartbeats 1000000 in
theorem take_task {w : World} {q : Nat} {c : CRef} {S : Mem} {A : Nat → Prop} {at_ units : Int} (hQ : ArenaAt w q c at_ units A) (hC : Cells w c S A) (task need : Int) (h1 : 1 ≤ need) (h2 : need ≤ 1048576)
    (h : okAt S.atomics.length task at_ = false) :
    Calls Try.prog 66 #[.pointer (some ⟨q, 0, none⟩), .int .i64 task, .int .u64 need] w fun e w' => e = .returned (.tuple #[.int .u64 0, .int .i64 2]) ∧ Quiet w w' := by
  have q0 := hQ.c0
  have q1 := hQ.c1
  go_enter Try.func66, Try.ntmps66
  go_upto_region 5 with (go_at_call 75; refine (ais_yes _ _ _ q0).mono ?_; rintro e w' ⟨rfl, rfl⟩)
  go_cut [8, 9] (fun s8 s9 wx => s8 = .int .u64 0 ∧ s9 = .int .i64 2 ∧ Quiet w wx)
  case first =>
    have hCd := hC.drew
    go_region_with (go_at_call 80; refine (add_no hCd _ _ _ h).mono ?_; rintro e w2 ⟨rfl, rfl⟩)
    all_goals (go_wp2_with fail; go_meet; exact ⟨rfl, rfl, ⟨1, rfl⟩⟩)
  case rest =>
    obtain ⟨rfl, rfl, hq⟩ := hcut
    go_wp2
    go_ret2
    exact ⟨rfl, hq⟩

set_option maxHeartbeats 1000000 in
theorem take_need {w : World} {q : Nat} {c : CRef} {A : Nat → Prop} {at_ units : Int} (hQ : ArenaAt w q c at_ units A) (task need : Int) (h : need < 1 ∨ 1048576 < need) :
    Calls Try.prog 66 #[.pointer (some ⟨q, 0, none⟩), .int .i64 task, .int .u64 need] w fun e w' => e = .returned (.tuple #[.int .u64 0, .int .i64 2]) ∧ Quiet w w' := by
  have q0 := hQ.c0
  go_enter Try.func66, Try.ntmps66
  rcases h with h | h
  all_goals
    go_wp2_with (go_at_call 75; refine (ais_yes _ _ _ q0).mono ?_; rintro e w' ⟨rfl, rfl⟩)
    all_goals go_ret2
    all_goals exact ⟨rfl, Quiet.refl w⟩

set_option maxHeartbeats 1000000 in
theorem left_ok {w : World} {q : Nat} {c : CRef} {S : Mem} {A : Nat → Prop} {at_ units : Int} (hQ : ArenaAt w q c at_ units A) (hC : Cells w c S A) (hF : Fresh A w) (hn : S.trace.length < trMax) (task : Int) (hu : 0 ≤ units) (hu2 : units ≤ 1073741824) (hx0 : 0 ≤ S.at_ at_)
    (h : okAt S.atomics.length task at_ = true) :
    Calls Try.prog 56 #[.pointer (some ⟨q, 0, none⟩), .int .i64 task] w fun e w' => e = .returned (.tuple #[.int .u64 (if S.at_ at_ ≤ units then units - S.at_ at_ else 0), .int .i64 0]) ∧ Cells w' c (S.note ⟨task, 1, at_⟩) A ∧ Only A w w' := by
  have q0 := hQ.c0
  have q1 := hQ.c1
  go_enter Try.func56, Try.ntmps56
  go_upto_region 3 with (go_at_call 75; refine (ais_yes _ _ _ q0).mono ?_; rintro e w' ⟨rfl, rfl⟩)
  go_cut [6, 7] (fun s6 s7 wx => s6 = .int .u64 (S.at_ at_) ∧ s7 = .int .i64 0 ∧ Cells wx c (S.note ⟨task, 1, at_⟩) A ∧ Only A w wx)
  case first =>
    have hCd := hC.drew
    have hFd := hF.drew
    go_region_with (go_at_call 53; refine (load_ok hCd hFd hn _ _ h).mono ?_; rintro e w2 ⟨rfl, hC2, hO2⟩)
    all_goals (go_wp2_with fail; go_meet; exact ⟨rfl, rfl, hC2, hO2.of_drew⟩)
  case rest =>
    obtain ⟨rfl, rfl, hC2, hO2⟩ := hcut
    have q2' := (hQ.only hO2).c2
    clear hC hF hQ q0 q1
    go_wp2
    go_quiet (fail)
    all_goals go_wp2
    all_goals go_ret2
    all_goals exact ⟨rfl, hC2.drewN nq, hO2.drewN nq⟩

set_option maxHeartbeats 1000000 in
theorem left_task {w : World} {q : Nat} {c : CRef} {S : Mem} {A : Nat → Prop} {at_ units : Int} (hQ : ArenaAt w q c at_ units A) (hC : Cells w c S A) (task : Int)
    (h : okAt S.atomics.length task at_ = false) :
    Calls Try.prog 56 #[.pointer (some ⟨q, 0, none⟩), .int .i64 task] w fun e w' => e = .returned (.tuple #[.int .u64 0, .int .i64 2]) ∧ Quiet w w' := by
  have q0 := hQ.c0
  have q1 := hQ.c1
  go_enter Try.func56, Try.ntmps56
  go_upto_region 3 with (go_at_call 75; refine (ais_yes _ _ _ q0).mono ?_; rintro e w' ⟨rfl, rfl⟩)
  go_cut [6, 7] (fun s6 s7 wx => s6 = .int .u64 0 ∧ s7 = .int .i64 2 ∧ Quiet w wx)
  case first =>
    have hCd := hC.drew
    go_region_with (go_at_call 53; refine (load_no hCd _ _ h).mono ?_; rintro e w2 ⟨rfl, rfl⟩)
    all_goals (go_wp2_with fail; go_meet; exact ⟨rfl, rfl, ⟨1, rfl⟩⟩)
  case rest =>
    obtain ⟨rfl, rfl, hq⟩ := hcut
    go_wp2
    go_ret2
    exact ⟨rfl, hq⟩


set_option maxHeartbeats 400000 in
theorem need_any (w : World) (h k v : Int) (h0 : 0 ≤ h) (h1 : h ≤ 4000000000) (k0 : 0 ≤ k) (k1 : k ≤ 4000000000) (v0 : 0 ≤ v) (v1 : v ≤ 4000000000) :
    Calls Try.prog 67 #[.int .i64 h, .int .i64 k, .int .i64 v] w fun e w' => e = .returned (.int .u64 (4 + h + k + v)) ∧ w = w' := by
  go_enter Try.func67, Try.ntmps67
  go_wp2
  go_ret
  exact ⟨rfl, rfl⟩

/-- An arena that is none: nil, or one that New did not answer. -/
def NoArena (w : World) (v : Value) : Prop := v = .pointer none ∨ ∃ p, v = .pointer (some ⟨p, 0, none⟩) ∧ w.cell? ⟨p, 0, none⟩ = some (.pointer none)

set_option maxHeartbeats 400000 in
theorem ais_none (w : World) (v : Value) (h : NoArena w v) :
    Calls Try.prog 75 #[v] w fun e w' => e = .returned (.bool false) ∧ w = w' := by
  rcases h with rfl | ⟨p, rfl, hc⟩
  all_goals
    go_enter Try.func75, Try.ntmps75
    go_wp2
    go_ret
    exact ⟨rfl, rfl⟩

set_option maxHeartbeats 400000 in
theorem take_none (w : World) (v : Value) (h : NoArena w v) (t n : Int) :
    Calls Try.prog 66 #[v, .int .i64 t, .int .u64 n] w fun e w' => e = .returned (.tuple #[.int .u64 0, .int .i64 1]) ∧ w = w' := by
  go_enter Try.func66, Try.ntmps66
  go_wp2_with (go_at_call 75; refine (ais_none _ _ h).mono ?_; rintro e w' ⟨rfl, rfl⟩)
  go_ret2
  exact ⟨rfl, rfl⟩

set_option maxHeartbeats 400000 in
theorem left_none (w : World) (v : Value) (h : NoArena w v) (t : Int) :
    Calls Try.prog 56 #[v, .int .i64 t] w fun e w' => e = .returned (.tuple #[.int .u64 0, .int .i64 1]) ∧ w = w' := by
  go_enter Try.func56, Try.ntmps56
  go_wp2_with (go_at_call 75; refine (ais_none _ _ h).mono ?_; rintro e w' ⟨rfl, rfl⟩)
  go_ret2
  exact ⟨rfl, rfl⟩


end Go.Proofs.Ytkpjfdhjkgdcbaa
