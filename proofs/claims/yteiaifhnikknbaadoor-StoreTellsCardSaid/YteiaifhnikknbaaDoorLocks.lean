/- The walks over package locks. -/
import Derived.Test.YteiaifhnikknbaaDoorSleeps
import Derived.Test.YteiaifhnikknbaaDoorNote
import Derived.Shelf.Lay
import Derived.Shelf.SlMaps.DeleteFunc
import Derived.Maps.AppendAt
namespace Go.Proofs
open Go.Shelf
end Go.Proofs
namespace Go.Proofs.YteiaifhnikknbaaDoor
open Go.RowKit Go.Maps

structure Lk where
  conds : Int
  held : Bool
  holder : Int
  sl : Nat → Option Int
structure LRef where
  p : Nat
  q : Nat
  c : CRef
def Mem.notes (S : Mem) (l : List Acc) : Mem := { S with trace := S.trace ++ l }
theorem Mem.notes_nil (S : Mem) : S.notes [] = S := by simp [Mem.notes]
theorem Mem.notes_one (S : Mem) (a : Acc) : S.notes [a] = S.note a := rfl

/-- A mutex L over a memory S; the memory's blocks are in A, the mutex' own are not. -/
structure LksAt (w : World) (r : LRef) (L : Lk) (S : Mem) (A : Nat → Prop) (n : Nat) : Prop where
  main : Blk w r.p 122 [.pointer (some ⟨r.c.p, 0, none⟩), .int .i64 L.conds, .bool L.held, .int .i64 L.holder, .map (some r.q)]
  map : w.ownsMap Tryd.prog 3 (plainElem Tryd.prog 3) r.q n (slD L.sl)
  mem : Cells w r.c S A
  hp : ¬ A r.p
  hq : ¬ A r.q
def Lks (w : World) (r : LRef) (L : Lk) (S : Mem) (A : Nat → Prop) : Prop := ∃ n, n ≤ S.trace.length ∧ LksAt w r L S A n
/-- What it may write. -/
def LA (r : LRef) (A : Nat → Prop) (k : Nat) : Prop := A k ∨ k = r.p ∨ k = r.q

variable {w w' : World} {r : LRef} {L : Lk} {S S' : Mem} {A : Nat → Prop} {m : Nat}
theorem LksAt.ne (h : LksAt w r L S A m) : r.q ≠ r.p := by
  intro e
  obtain ⟨es, clock, hb, _⟩ := h.map
  have := h.main
  unfold Blk at this
  rw [e, this] at hb
  cases hb
theorem LksAt.only (h : LksAt w r L S A m) (hO : Only A w w') (hC : Cells w' r.c S' A) : LksAt w' r L S' A m :=
  ⟨h.main.keep (hO.block _ h.main.lt h.hp), ownsMap_keep h.map (hO.block _ h.map.lt h.hq), hC, h.hp, h.hq⟩
theorem LksAt.same (h : LksAt w r L S A m) (hs : Same (LA r A) w w') : LksAt w' r L S A m :=
  ⟨h.main.keep (hs.block _ (.inr (.inl rfl)) h.main.lt), ownsMap_keep h.map (hs.block _ (.inr (.inr rfl)) h.map.lt), h.mem.keep ⟨fun k hk hl => hs.block k (.inl hk) hl⟩, h.hp, h.hq⟩
theorem LksAt.set (h : LksAt w r L S A m) (b : Bool) (n : Int) :
    LksAt ((w.setCell ⟨r.p, 2, none⟩ (.bool b)).setCell ⟨r.p, 3, none⟩ (.int .i64 n)) r { L with held := b, holder := n } S A m ∧ Only (LA r A) w ((w.setCell ⟨r.p, 2, none⟩ (.bool b)).setCell ⟨r.p, 3, none⟩ (.int .i64 n)) := by
  refine ⟨⟨?_, ?_, ?_, h.hp, h.hq⟩, ?_⟩
  · simpa using (h.main.set 2 (.bool b)).set 3 (.int .i64 n)
  · exact (h.map.setCell (a := ⟨r.p, 2, none⟩) h.ne _).setCell (a := ⟨r.p, 3, none⟩) h.ne _
  · exact (h.mem.keep (Same.setCell (p := ⟨r.p, 2, none⟩) h.hp _)).keep (Same.setCell (p := ⟨r.p, 3, none⟩) h.hp _)
  · exact ((Only.refl _ w).setCell (p := ⟨r.p, 2, none⟩) (.inr (.inl rfl)) _).setCell (p := ⟨r.p, 3, none⟩) (.inr (.inl rfl)) _
theorem LksAt.turned (h : LksAt w r L S A m) {n' : Nat} {sl : Nat → Option Int} (hown : w'.ownsMap Tryd.prog 3 (plainElem Tryd.prog 3) r.q n' (slD sl)) (hg : w.grownBy w' (some r.q)) :
    Blk w' r.p 122 [.pointer (some ⟨r.c.p, 0, none⟩), .int .i64 L.conds, .bool L.held, .int .i64 L.holder, .map (some r.q)] ∧ Cells w' r.c S A ∧ Only (LA r A) w w' :=
  ⟨h.main.grown hg (fun e => h.ne (Option.some.inj e)), h.mem.keep ⟨fun k hk hl => hg.block k hl (fun e => h.hq (Option.some.inj e ▸ hk))⟩,
    (Only.refl _ w).grown hg (fun k e => by cases e; exact .inr (.inr rfl))⟩
theorem Only.la (r : LRef) (h : Only A w w') : Only (LA r A) w w' := h.mono fun _ _ hk => .inl hk
theorem LksAt.k0 (h : LksAt w r L S A m) : w.cell? ⟨r.p, 0, none⟩ = some (.pointer (some ⟨r.c.p, 0, none⟩)) := h.main.cell 0 rfl
theorem LksAt.k1 (h : LksAt w r L S A m) : w.cell? ⟨r.p, 1, none⟩ = some (.int .i64 L.conds) := h.main.cell 1 rfl
theorem LksAt.k2 (h : LksAt w r L S A m) : w.cell? ⟨r.p, 2, none⟩ = some (.bool L.held) := h.main.cell 2 rfl
theorem LksAt.k3 (h : LksAt w r L S A m) : w.cell? ⟨r.p, 3, none⟩ = some (.int .i64 L.holder) := h.main.cell 3 rfl
theorem LksAt.k4 (h : LksAt w r L S A m) : w.cell? ⟨r.p, 4, none⟩ = some (.map (some r.q)) := h.main.cell 4 rfl

set_option maxHeartbeats 400000 in
theorem lis_yes (w : World) (p : Nat) (a : Addr) (h : w.cell? ⟨p, 0, none⟩ = some (.pointer (some a))) :
    Calls Tryd.prog 62 #[.pointer (some ⟨p, 0, none⟩)] w fun e w' => e = .returned (.bool true) ∧ w = w' := by
  go_enter Tryd.func62, Tryd.ntmps62
  go_wp2
  go_ret
  exact ⟨rfl, rfl⟩
set_option maxHeartbeats 400000 in
theorem task_any (w : World) (n : Int) : Calls Tryd.prog 63 #[.int .i64 n] w fun e w' => e = .returned (.bool (decide (0 ≤ n ∧ n < 64))) ∧ w = w' := by
  go_enter Tryd.func63, Tryd.ntmps63
  by_cases h0 : 0 ≤ n
  · by_cases h1 : n < 64
    · go_wp2
      go_ret
      exact ⟨by simp [h0, h1], rfl⟩
    · go_wp2
      go_ret
      exact ⟨by simp [h0, h1], rfl⟩
  · go_wp2
    go_ret
    exact ⟨by simp; omega, rfl⟩

def lockE (L : Lk) (n : Int) : Int := if ¬ (0 ≤ n ∧ n < 64) then 2 else if (L.sl n.toNat).isSome then 142 else if L.held then 140 else 0
def lockL (L : Lk) (n : Int) : Lk := if lockE L n = 0 then { L with held := true, holder := n } else L
def lockN (L : Lk) (n : Int) : List Acc := if lockE L n = 0 then [⟨n, 8, 0⟩] else []
def holdsE (L : Lk) (n cond : Int) : Int := if ¬ (0 ≤ n ∧ n < 64) ∨ cond < 0 ∨ L.conds < cond then 2 else if L.held = false ∨ L.holder ≠ n then 141 else 0
def onE (L : Lk) (n cond : Int) : Int := if cond = L.conds then 2 else holdsE L n cond
def unlockL (L : Lk) (n : Int) : Lk := if holdsE L n 0 = 0 then { L with held := false, holder := 0 } else L
def unlockN (L : Lk) (n : Int) : List Acc := if holdsE L n 0 = 0 then [⟨n, 9, 0⟩] else []
def waitL (L : Lk) (n cond : Int) : Lk := if onE L n cond = 0 then ⟨L.conds, false, 0, slUp L.sl n.toNat (some cond)⟩ else L
def waitN (L : Lk) (n cond : Int) : List Acc := if onE L n cond = 0 then [⟨n, 9, 0⟩] else []
def wakeL (L : Lk) (n cond : Int) : Lk := if onE L n cond = 0 then { L with sl := slWake L.sl cond } else L
def wakeM (L : Lk) (n cond : Int) : Int := if onE L n cond = 0 then (slCount L.sl (fun d => decide (d = cond)) : Int) else 0
def canB (L : Lk) (n : Int) : Bool := decide (lockE L n = 0)

theorem ok8 (S : Mem) (n : Int) (h : 0 ≤ n ∧ n < 64) : okNote S ⟨n, 8, 0⟩ = true := by unfold okNote; exact decide_eq_true (by simp; omega)
theorem ok9 (S : Mem) (n : Int) (h : 0 ≤ n ∧ n < 64) : okNote S ⟨n, 9, 0⟩ = true := by unfold okNote; exact decide_eq_true (by simp; omega)

set_option maxHeartbeats 1000000 in
theorem lock_any (h : LksAt w r L S A m) (hF : Fresh A w) (hn : S.trace.length < trMax) (n : Int) (hw : (Lit.int .i64 n).wf = true) :
    Calls Tryd.prog 30 #[.pointer (some ⟨r.p, 0, none⟩), .int .i64 n] w fun e w' => e = .returned (.int .i64 (lockE L n)) ∧ LksAt w' r (lockL L n) (S.notes (lockN L n)) A m ∧ Only (LA r A) w w' := by
  have k0 := h.k0
  have k2 := h.k2
  have k3 := h.k3
  have k4 := h.k4
  have f2 := h.main.frozen 2
  have f3 := h.main.frozen 3
  have hown := h.map
  by_cases ht : 0 ≤ n ∧ n < 64
  · cases hs : L.sl n.toNat with
    | some c =>
      have hs' : slAt L.sl n = some c := by simp [slAt, ht, hs]
      have e1 : lockE L n = 142 := by simp [lockE, ht, hs]
      have e2 : lockL L n = L := by simp [lockL, e1]
      have e3 : lockN L n = [] := by simp [lockN, e1]
      rw [e1, e2, e3, Mem.notes_nil]
      go_enter Tryd.func30, Tryd.ntmps30
      go_wp2_with (first | (go_at_call 62; refine (lis_yes _ _ _ k0).mono ?_; rintro e w' ⟨rfl, rfl⟩) | (go_at_call 63; refine (task_any _ _).mono ?_; rintro e w' ⟨rfl, rfl⟩) | (at_lookup; refine wpList_sl rfl _ _ rfl r.q m L.sl rfl hown n rfl hw (some c) hs' ?_))
      go_ret
      exact ⟨rfl, h, Only.refl _ _⟩
    | none =>
      have hs' : slAt L.sl n = none := by simp [slAt, hs]
      cases hh : L.held with
      | true =>
        rw [hh] at k2
        have e1 : lockE L n = 140 := by simp [lockE, ht, hs, hh]
        have e2 : lockL L n = L := by simp [lockL, e1]
        have e3 : lockN L n = [] := by simp [lockN, e1]
        rw [e1, e2, e3, Mem.notes_nil]
        go_enter Tryd.func30, Tryd.ntmps30
        go_wp2_with (first | (go_at_call 62; refine (lis_yes _ _ _ k0).mono ?_; rintro e w' ⟨rfl, rfl⟩) | (go_at_call 63; refine (task_any _ _).mono ?_; rintro e w' ⟨rfl, rfl⟩) | (at_lookup; refine wpList_sl rfl _ _ rfl r.q m L.sl rfl hown n rfl hw none hs' ?_))
        go_ret
        exact ⟨rfl, h, Only.refl _ _⟩
      | false =>
        rw [hh] at k2
        have e1 : lockE L n = 0 := by simp [lockE, ht, hs, hh]
        have e2 : lockL L n = { L with held := true, holder := n } := by simp [lockL, e1]
        have e3 : lockN L n = [⟨n, 8, 0⟩] := by simp [lockN, e1]
        rw [e1, e2, e3, Mem.notes_one]
        obtain ⟨h2, hO⟩ := h.set true n
        have hF2 := hF.only hO
        go_enter Tryd.func30, Tryd.ntmps30
        go_wp2_with (first | (go_at_call 62; refine (lis_yes _ _ _ k0).mono ?_; rintro e w' ⟨rfl, rfl⟩) | (go_at_call 63; refine (task_any _ _).mono ?_; rintro e w' ⟨rfl, rfl⟩) | (at_lookup; refine wpList_sl rfl _ _ rfl r.q m L.sl rfl hown n rfl hw none hs' ?_) | (go_at_call 64; refine (note_ok h2.mem hF2 hn ⟨n, 8, 0⟩ (ok8 S n ht)).mono ?_; rintro e w3 ⟨rfl, hC3, hO3⟩))
        go_ret
        exact ⟨rfl, h2.only hO3 hC3, hO.trans (hO3.la r)⟩
  · have hs' : slAt L.sl n = none := by simp [slAt, ht]
    have e1 : lockE L n = 2 := by simp [lockE, ht]
    have e2 : lockL L n = L := by simp [lockL, e1]
    have e3 : lockN L n = [] := by simp [lockN, e1]
    rw [e1, e2, e3, Mem.notes_nil]
    go_enter Tryd.func30, Tryd.ntmps30
    go_wp2_with (first | (go_at_call 62; refine (lis_yes _ _ _ k0).mono ?_; rintro e w' ⟨rfl, rfl⟩) | (go_at_call 63; refine (task_any _ _).mono ?_; rintro e w' ⟨rfl, rfl⟩) | (at_lookup; refine wpList_sl rfl _ _ rfl r.q m L.sl rfl hown n rfl hw none hs' ?_))
    go_ret
    exact ⟨rfl, h, Only.refl _ _⟩

set_option maxHeartbeats 1000000 in
theorem holds_any (h : LksAt w r L S A m) (n cond : Int) :
    Calls Tryd.prog 72 #[.pointer (some ⟨r.p, 0, none⟩), .int .i64 n, .int .i64 cond] w fun e w' => e = .returned (.int .i64 (holdsE L n cond)) ∧ w = w' := by
  have k0 := h.k0
  have k1 := h.k1
  have k2 := h.k2
  have k3 := h.k3
  by_cases ht : 0 ≤ n ∧ n < 64
  · by_cases hc0 : cond < 0
    · have e1 : holdsE L n cond = 2 := by simp [holdsE, hc0]
      rw [e1]
      go_enter Tryd.func72, Tryd.ntmps72
      go_wp2_with (first | (go_at_call 62; refine (lis_yes _ _ _ k0).mono ?_; rintro e w' ⟨rfl, rfl⟩) | (go_at_call 63; refine (task_any _ _).mono ?_; rintro e w' ⟨rfl, rfl⟩))
      go_ret
      exact ⟨rfl, rfl⟩
    · by_cases hc1 : L.conds < cond
      · have e1 : holdsE L n cond = 2 := by simp [holdsE, hc1]
        rw [e1]
        go_enter Tryd.func72, Tryd.ntmps72
        go_wp2_with (first | (go_at_call 62; refine (lis_yes _ _ _ k0).mono ?_; rintro e w' ⟨rfl, rfl⟩) | (go_at_call 63; refine (task_any _ _).mono ?_; rintro e w' ⟨rfl, rfl⟩))
        go_ret
        exact ⟨rfl, rfl⟩
      · cases hh : L.held with
        | false =>
          rw [hh] at k2
          have e1 : holdsE L n cond = 141 := by simp only [holdsE, hh]; rw [if_neg (by omega)]; simp
          rw [e1]
          go_enter Tryd.func72, Tryd.ntmps72
          go_wp2_with (first | (go_at_call 62; refine (lis_yes _ _ _ k0).mono ?_; rintro e w' ⟨rfl, rfl⟩) | (go_at_call 63; refine (task_any _ _).mono ?_; rintro e w' ⟨rfl, rfl⟩))
          go_ret
          exact ⟨rfl, rfl⟩
        | true =>
          rw [hh] at k2
          by_cases hn : L.holder = n
          · have e1 : holdsE L n cond = 0 := by simp only [holdsE, hh, hn]; rw [if_neg (by omega)]; simp
            rw [e1]
            go_enter Tryd.func72, Tryd.ntmps72
            go_wp2_with (first | (go_at_call 62; refine (lis_yes _ _ _ k0).mono ?_; rintro e w' ⟨rfl, rfl⟩) | (go_at_call 63; refine (task_any _ _).mono ?_; rintro e w' ⟨rfl, rfl⟩))
            go_ret
            exact ⟨rfl, rfl⟩
          · have e1 : holdsE L n cond = 141 := by simp only [holdsE, hh]; rw [if_neg (by omega)]; simp [hn]
            rw [e1]
            go_enter Tryd.func72, Tryd.ntmps72
            go_wp2_with (first | (go_at_call 62; refine (lis_yes _ _ _ k0).mono ?_; rintro e w' ⟨rfl, rfl⟩) | (go_at_call 63; refine (task_any _ _).mono ?_; rintro e w' ⟨rfl, rfl⟩))
            go_ret
            exact ⟨rfl, rfl⟩
  · have e1 : holdsE L n cond = 2 := by simp only [holdsE]; rw [if_pos (.inl ht)]
    rw [e1]
    go_enter Tryd.func72, Tryd.ntmps72
    go_wp2_with (first | (go_at_call 62; refine (lis_yes _ _ _ k0).mono ?_; rintro e w' ⟨rfl, rfl⟩) | (go_at_call 63; refine (task_any _ _).mono ?_; rintro e w' ⟨rfl, rfl⟩))
    go_ret
    exact ⟨rfl, rfl⟩
theorem holds_zero {n cond : Int} (h : holdsE L n cond = 0) : (0 ≤ n ∧ n < 64) ∧ (0 ≤ cond ∧ cond ≤ L.conds) ∧ L.held = true ∧ L.holder = n := by
  unfold holdsE at h
  split at h
  · cases h
  · split at h
    · cases h
    · rename_i h1 h2
      refine ⟨by omega, by omega, ?_, ?_⟩
      · cases hh : L.held
        · exact absurd (.inl hh) h2
        · rfl
      · exact Classical.byContradiction fun e => h2 (.inr e)

theorem on_zero {n cond : Int} (h : onE L n cond = 0) : (0 ≤ n ∧ n < 64) ∧ (0 ≤ cond ∧ cond < L.conds) ∧ L.held = true ∧ L.holder = n := by
  unfold onE at h
  split at h
  · cases h
  · obtain ⟨h1, h2, h3⟩ := holds_zero h
    exact ⟨h1, by omega, h3⟩

set_option maxHeartbeats 1000000 in
theorem free_ok (h : LksAt w r L S A m) (hF : Fresh A w) (hn : S.trace.length < trMax) (ht : 0 ≤ L.holder ∧ L.holder < 64) :
    Calls Tryd.prog 73 #[.pointer (some ⟨r.p, 0, none⟩)] w fun e w' => e = .returned (.int .i64 0) ∧ LksAt w' r { L with held := false, holder := 0 } (S.note ⟨L.holder, 9, 0⟩) A m ∧ Only (LA r A) w w' := by
  have k0 := h.k0
  have k2 := h.k2
  have k3 := h.k3
  have f2 := h.main.frozen 2
  have f3 := h.main.frozen 3
  obtain ⟨h2, hO⟩ := h.set false 0
  have hF2 := hF.only hO
  go_enter Tryd.func73, Tryd.ntmps73
  go_wp2_with (first | (go_at_call 64; refine (note_ok h2.mem hF2 hn ⟨L.holder, 9, 0⟩ (ok9 S _ ht)).mono ?_; rintro e w3 ⟨rfl, hC3, hO3⟩))
  go_ret
  exact ⟨rfl, h2.only hO3 hC3, hO.trans (hO3.la r)⟩

set_option maxHeartbeats 1000000 in
theorem unlock_any (h : LksAt w r L S A m) (hF : Fresh A w) (hn : S.trace.length < trMax) (n : Int) :
    Calls Tryd.prog 43 #[.pointer (some ⟨r.p, 0, none⟩), .int .i64 n] w fun e w' => e = .returned (.int .i64 (holdsE L n 0)) ∧ LksAt w' r (unlockL L n) (S.notes (unlockN L n)) A m ∧ Only (LA r A) w w' := by
  by_cases e0 : holdsE L n 0 = 0
  · obtain ⟨h1, h2, h3, h4⟩ := holds_zero e0
    have e2 : unlockL L n = { L with held := false, holder := 0 } := by simp [unlockL, e0]
    have e3 : unlockN L n = [⟨n, 9, 0⟩] := by simp [unlockN, e0]
    rw [e2, e3, Mem.notes_one]
    have hcon := holds_any h n 0
    rw [e0] at hcon ⊢
    go_enter Tryd.func43, Tryd.ntmps43
    go_wp2_with (first | (go_at_call 72; refine hcon.mono ?_; rintro e w' ⟨rfl, rfl⟩) | (go_at_call 73; refine (free_ok h hF hn (by rw [h4]; exact h1)).mono ?_; rintro e w' ⟨rfl, hL, hO⟩))
    go_ret
    rw [h4] at hL
    exact ⟨rfl, hL, hO⟩
  · have e2 : unlockL L n = L := by simp [unlockL, e0]
    have e3 : unlockN L n = [] := by simp [unlockN, e0]
    rw [e2, e3, Mem.notes_nil]
    have e0' : (holdsE L n 0 == 0) = false := by simpa using e0
    go_enter Tryd.func43, Tryd.ntmps43
    go_wp2_with (first | (go_at_call 72; refine (holds_any h n 0).mono ?_; rintro e w' ⟨rfl, rfl⟩))
    go_ret
    exact ⟨rfl, h, Only.refl _ _⟩

def holderV (L : Lk) : Int := if L.held then L.holder else 0
set_option maxHeartbeats 400000 in
theorem holder_any (h : LksAt w r L S A m) : Calls Tryd.prog 80 #[.pointer (some ⟨r.p, 0, none⟩)] w fun e w' => e = .returned (.tuple #[.int .i64 (holderV L), .bool L.held]) ∧ w = w' := by
  have k0 := h.k0
  have k2 := h.k2
  have k3 := h.k3
  unfold holderV
  cases hh : L.held
  all_goals
    rw [hh] at k2
    go_enter Tryd.func80, Tryd.ntmps80
    go_wp2_with (first | (go_at_call 62; refine (lis_yes _ _ _ k0).mono ?_; rintro e w' ⟨rfl, rfl⟩))
    go_ret2
    exact ⟨rfl, rfl⟩
end Go.Proofs.YteiaifhnikknbaaDoor
