/- Structs in the midst of a block: out of it, into it. -/
import Derived.Test.YteiaifhnikknbaaGreatDoorNote
import Derived.Shelf.Lay
import Derived.Shelf.SlMaps.DeleteFunc
import Derived.Maps.AppendAt
import Derived.Test.YteiaifhnikknbaaGreatDoorTraced
import Derived.Test.YteiaifhnikknbaaGreatDoorCellsNew
import Derived.Test.YteiaifhnikknbaaGreatDoorProg
import Derived.Laws.StructEq
import Derived.Test.YteiaifhnikknbaaGreatDoorData22

namespace Go.Proofs
open Go.Shelf
end Go.Proofs
namespace Go.Proofs.YteiaifhnikknbaaGreatDoor
open Go.RowKit Go.Maps

structure Lk where
  conds : Int
  held : Bool
  holder : Int
  sl : Nat → Option Int
structure LRef where
  p : Nat
  q : Nat
  c : CRef
def Mem.notes (S : Mem) (l : List Acc) : Mem := { S with trace := S.trace ++ l }
theorem Mem.notes_nil (S : Mem) : S.notes [] = S := by simp [Mem.notes]
theorem Mem.notes_one (S : Mem) (a : Acc) : S.notes [a] = S.note a := rfl

/-- A mutex L over a memory S; the memory's blocks are in A, the mutex' own are not. -/
structure LksAt (w : World) (r : LRef) (L : Lk) (S : Mem) (A : Nat → Prop) (n : Nat) : Prop where
  main : Blk w r.p 135 [.pointer (some ⟨r.c.p, 0, none⟩), .int .i64 L.conds, .bool L.held, .int .i64 L.holder, .map (some r.q)]
  map : w.ownsMap Tryz.prog 3 (plainElem Tryz.prog 3) r.q n (slD L.sl)
  mem : Cells w r.c S A
  hp : ¬ A r.p
  hq : ¬ A r.q
def Lks (w : World) (r : LRef) (L : Lk) (S : Mem) (A : Nat → Prop) : Prop := ∃ n, n ≤ S.trace.length ∧ LksAt w r L S A n
/-- What it may write. -/
def LA (r : LRef) (A : Nat → Prop) (k : Nat) : Prop := A k ∨ k = r.p ∨ k = r.q

variable {w w' : World} {r : LRef} {L : Lk} {S S' : Mem} {A : Nat → Prop} {m : Nat}
theorem LksAt.ne (h : LksAt w r L S A m) : r.q ≠ r.p := by
  intro e
  obtain ⟨es, clock, hb, _⟩ := h.map
  have := h.main
  unfold Blk at this
  rw [e, this] at hb
  cases hb
theorem LksAt.only (h : LksAt w r L S A m) (hO : Only A w w') (hC : Cells w' r.c S' A) : LksAt w' r L S' A m :=
  ⟨h.main.keep (hO.block _ h.main.lt h.hp), ownsMap_keep h.map (hO.block _ h.map.lt h.hq), hC, h.hp, h.hq⟩
theorem LksAt.same (h : LksAt w r L S A m) (hs : Same (LA r A) w w') : LksAt w' r L S A m :=
  ⟨h.main.keep (hs.block _ (.inr (.inl rfl)) h.main.lt), ownsMap_keep h.map (hs.block _ (.inr (.inr rfl)) h.map.lt), h.mem.keep ⟨fun k hk hl => hs.block k (.inl hk) hl⟩, h.hp, h.hq⟩
theorem LksAt.set (h : LksAt w r L S A m) (b : Bool) (n : Int) :
    LksAt ((w.setCell ⟨r.p, 2, none⟩ (.bool b)).setCell ⟨r.p, 3, none⟩ (.int .i64 n)) r { L with held := b, holder := n } S A m ∧ Only (LA r A) w ((w.setCell ⟨r.p, 2, none⟩ (.bool b)).setCell ⟨r.p, 3, none⟩ (.int .i64 n)) := by
  refine ⟨⟨?_, ?_, ?_, h.hp, h.hq⟩, ?_⟩
  · simpa using (h.main.set 2 (.bool b)).set 3 (.int .i64 n)
  · exact (h.map.setCell (a := ⟨r.p, 2, none⟩) h.ne _).setCell (a := ⟨r.p, 3, none⟩) h.ne _
  · exact (h.mem.keep (Same.setCell (p := ⟨r.p, 2, none⟩) h.hp _)).keep (Same.setCell (p := ⟨r.p, 3, none⟩) h.hp _)
  · exact ((Only.refl _ w).setCell (p := ⟨r.p, 2, none⟩) (.inr (.inl rfl)) _).setCell (p := ⟨r.p, 3, none⟩) (.inr (.inl rfl)) _
theorem LksAt.turned (h : LksAt w r L S A m) {n' : Nat} {sl : Nat → Option Int} (hown : w'.ownsMap Tryz.prog 3 (plainElem Tryz.prog 3) r.q n' (slD sl)) (hg : w.grownBy w' (some r.q)) :
    Blk w' r.p 135 [.pointer (some ⟨r.c.p, 0, none⟩), .int .i64 L.conds, .bool L.held, .int .i64 L.holder, .map (some r.q)] ∧ Cells w' r.c S A ∧ Only (LA r A) w w' :=
  ⟨h.main.grown hg (fun e => h.ne (Option.some.inj e)), h.mem.keep ⟨fun k hk hl => hg.block k hl (fun e => h.hq (Option.some.inj e ▸ hk))⟩,
    (Only.refl _ w).grown hg (fun k e => by cases e; exact .inr (.inr rfl))⟩
theorem Only.la (r : LRef) (h : Only A w w') : Only (LA r A) w w' := h.mono fun _ _ hk => .inl hk
theorem LksAt.k0 (h : LksAt w r L S A m) : w.cell? ⟨r.p, 0, none⟩ = some (.pointer (some ⟨r.c.p, 0, none⟩)) := h.main.cell 0 rfl
theorem LksAt.k1 (h : LksAt w r L S A m) : w.cell? ⟨r.p, 1, none⟩ = some (.int .i64 L.conds) := h.main.cell 1 rfl
theorem LksAt.k2 (h : LksAt w r L S A m) : w.cell? ⟨r.p, 2, none⟩ = some (.bool L.held) := h.main.cell 2 rfl
theorem LksAt.k3 (h : LksAt w r L S A m) : w.cell? ⟨r.p, 3, none⟩ = some (.int .i64 L.holder) := h.main.cell 3 rfl
theorem LksAt.k4 (h : LksAt w r L S A m) : w.cell? ⟨r.p, 4, none⟩ = some (.map (some r.q)) := h.main.cell 4 rfl

set_option maxHeartbeats 400000 in
theorem lkis_yes (w : World) (p : Nat) (a : Addr) (h : w.cell? ⟨p, 0, none⟩ = some (.pointer (some a))) :
    Calls Tryz.prog 50 #[.pointer (some ⟨p, 0, none⟩)] w fun e w' => e = .returned (.bool true) ∧ w = w' := by
  go_enter Tryz.func50, Tryz.ntmps50
  go_wp2
  go_ret
  exact ⟨rfl, rfl⟩
set_option maxHeartbeats 400000 in
theorem task_any (w : World) (n : Int) : Calls Tryz.prog 51 #[.int .i64 n] w fun e w' => e = .returned (.bool (decide (0 ≤ n ∧ n < 64))) ∧ w = w' := by
  go_enter Tryz.func51, Tryz.ntmps51
  by_cases h0 : 0 ≤ n
  · by_cases h1 : n < 64
    · go_wp2
      go_ret
      exact ⟨by simp [h0, h1], rfl⟩
    · go_wp2
      go_ret
      exact ⟨by simp [h0, h1], rfl⟩
  · go_wp2
    go_ret
    exact ⟨by simp; omega, rfl⟩

def lockE (L : Lk) (n : Int) : Int := if ¬ (0 ≤ n ∧ n < 64) then 2 else if (L.sl n.toNat).isSome then 142 else if L.held then 140 else 0
def lockL (L : Lk) (n : Int) : Lk := if lockE L n = 0 then { L with held := true, holder := n } else L
def lockN (L : Lk) (n : Int) : List Acc := if lockE L n = 0 then [⟨n, 8, 0⟩] else []
def holdsE (L : Lk) (n cond : Int) : Int := if ¬ (0 ≤ n ∧ n < 64) ∨ cond < 0 ∨ L.conds < cond then 2 else if L.held = false ∨ L.holder ≠ n then 141 else 0
def onE (L : Lk) (n cond : Int) : Int := if cond = L.conds then 2 else holdsE L n cond
def unlockL (L : Lk) (n : Int) : Lk := if holdsE L n 0 = 0 then { L with held := false, holder := 0 } else L
def unlockN (L : Lk) (n : Int) : List Acc := if holdsE L n 0 = 0 then [⟨n, 9, 0⟩] else []
def waitL (L : Lk) (n cond : Int) : Lk := if onE L n cond = 0 then ⟨L.conds, false, 0, slUp L.sl n.toNat (some cond)⟩ else L
def waitN (L : Lk) (n cond : Int) : List Acc := if onE L n cond = 0 then [⟨n, 9, 0⟩] else []
def wakeL (L : Lk) (n cond : Int) : Lk := if onE L n cond = 0 then { L with sl := slWake L.sl cond } else L
def wakeM (L : Lk) (n cond : Int) : Int := if onE L n cond = 0 then (slCount L.sl (fun d => decide (d = cond)) : Int) else 0
def canB (L : Lk) (n : Int) : Bool := decide (lockE L n = 0)

theorem ok8 (S : Mem) (n : Int) (h : 0 ≤ n ∧ n < 64) : okNote S ⟨n, 8, 0⟩ = true := by unfold okNote; exact decide_eq_true (by simp; omega)
theorem ok9 (S : Mem) (n : Int) (h : 0 ≤ n ∧ n < 64) : okNote S ⟨n, 9, 0⟩ = true := by unfold okNote; exact decide_eq_true (by simp; omega)

set_option maxHeartbeats 1000000 in
theorem lock_any (h : LksAt w r L S A m) (hF : Fresh A w) (hn : S.trace.length < trMax) (n : Int) (hw : (Lit.int .i64 n).wf = true) :
    Calls Tryz.prog 27 #[.pointer (some ⟨r.p, 0, none⟩), .int .i64 n] w fun e w' => e = .returned (.int .i64 (lockE L n)) ∧ LksAt w' r (lockL L n) (S.notes (lockN L n)) A m ∧ Only (LA r A) w w' := by
  have k0 := h.k0
  have k2 := h.k2
  have k3 := h.k3
  have k4 := h.k4
  have f2 := h.main.frozen 2
  have f3 := h.main.frozen 3
  have hown := h.map
  by_cases ht : 0 ≤ n ∧ n < 64
  · cases hs : L.sl n.toNat with
    | some c =>
      have hs' : slAt L.sl n = some c := by simp [slAt, ht, hs]
      have e1 : lockE L n = 142 := by simp [lockE, ht, hs]
      have e2 : lockL L n = L := by simp [lockL, e1]
      have e3 : lockN L n = [] := by simp [lockN, e1]
      rw [e1, e2, e3, Mem.notes_nil]
      go_enter Tryz.func27, Tryz.ntmps27
      go_wp2_with (first | (go_at_call 50; refine (lkis_yes _ _ _ k0).mono ?_; rintro e w' ⟨rfl, rfl⟩) | (go_at_call 51; refine (task_any _ _).mono ?_; rintro e w' ⟨rfl, rfl⟩) | (at_lookup; refine wpList_sl rfl _ _ rfl r.q m L.sl rfl hown n rfl hw (some c) hs' ?_))
      go_ret
      exact ⟨rfl, h, Only.refl _ _⟩
    | none =>
      have hs' : slAt L.sl n = none := by simp [slAt, hs]
      cases hh : L.held with
      | true =>
        rw [hh] at k2
        have e1 : lockE L n = 140 := by simp [lockE, ht, hs, hh]
        have e2 : lockL L n = L := by simp [lockL, e1]
        have e3 : lockN L n = [] := by simp [lockN, e1]
        rw [e1, e2, e3, Mem.notes_nil]
        go_enter Tryz.func27, Tryz.ntmps27
        go_wp2_with (first | (go_at_call 50; refine (lkis_yes _ _ _ k0).mono ?_; rintro e w' ⟨rfl, rfl⟩) | (go_at_call 51; refine (task_any _ _).mono ?_; rintro e w' ⟨rfl, rfl⟩) | (at_lookup; refine wpList_sl rfl _ _ rfl r.q m L.sl rfl hown n rfl hw none hs' ?_))
        go_ret
        exact ⟨rfl, h, Only.refl _ _⟩
      | false =>
        rw [hh] at k2
        have e1 : lockE L n = 0 := by simp [lockE, ht, hs, hh]
        have e2 : lockL L n = { L with held := true, holder := n } := by simp [lockL, e1]
        have e3 : lockN L n = [⟨n, 8, 0⟩] := by simp [lockN, e1]
        rw [e1, e2, e3, Mem.notes_one]
        obtain ⟨h2, hO⟩ := h.set true n
        have hF2 := hF.only hO
        go_enter Tryz.func27, Tryz.ntmps27
        go_wp2_with (first | (go_at_call 50; refine (lkis_yes _ _ _ k0).mono ?_; rintro e w' ⟨rfl, rfl⟩) | (go_at_call 51; refine (task_any _ _).mono ?_; rintro e w' ⟨rfl, rfl⟩) | (at_lookup; refine wpList_sl rfl _ _ rfl r.q m L.sl rfl hown n rfl hw none hs' ?_) | (go_at_call 52; refine (note_ok h2.mem hF2 hn ⟨n, 8, 0⟩ (ok8 S n ht)).mono ?_; rintro e w3 ⟨rfl, hC3, hO3⟩))
        go_ret
        exact ⟨rfl, h2.only hO3 hC3, hO.trans (hO3.la r)⟩
  · have hs' : slAt L.sl n = none := by simp [slAt, ht]
    have e1 : lockE L n = 2 := by simp [lockE, ht]
    have e2 : lockL L n = L := by simp [lockL, e1]
    have e3 : lockN L n = [] := by simp [lockN, e1]
    rw [e1, e2, e3, Mem.notes_nil]
    go_enter Tryz.func27, Tryz.ntmps27
    go_wp2_with (first | (go_at_call 50; refine (lkis_yes _ _ _ k0).mono ?_; rintro e w' ⟨rfl, rfl⟩) | (go_at_call 51; refine (task_any _ _).mono ?_; rintro e w' ⟨rfl, rfl⟩) | (at_lookup; refine wpList_sl rfl _ _ rfl r.q m L.sl rfl hown n rfl hw none hs' ?_))
    go_ret
    exact ⟨rfl, h, Only.refl _ _⟩

theorem holds_zero {n cond : Int} (h : holdsE L n cond = 0) : (0 ≤ n ∧ n < 64) ∧ (0 ≤ cond ∧ cond ≤ L.conds) ∧ L.held = true ∧ L.holder = n := by
  unfold holdsE at h
  split at h
  · cases h
  · split at h
    · cases h
    · rename_i h1 h2
      refine ⟨by omega, by omega, ?_, ?_⟩
      · cases hh : L.held
        · exact absurd (.inl hh) h2
        · rfl
      · exact Classical.byContradiction fun e => h2 (.inr e)

theorem on_zero {n cond : Int} (h : onE L n cond = 0) : (0 ≤ n ∧ n < 64) ∧ (0 ≤ cond ∧ cond < L.conds) ∧ L.held = true ∧ L.holder = n := by
  unfold onE at h
  split at h
  · cases h
  · obtain ⟨h1, h2, h3⟩ := holds_zero h
    exact ⟨h1, by omega, h3⟩

def holderV (L : Lk) : Int := if L.held then L.holder else 0
set_option maxHeartbeats 400000 in
theorem holder_any (h : LksAt w r L S A m) : Calls Tryz.prog 64 #[.pointer (some ⟨r.p, 0, none⟩)] w fun e w' => e = .returned (.tuple #[.int .i64 (holderV L), .bool L.held]) ∧ w = w' := by
  have k0 := h.k0
  have k2 := h.k2
  have k3 := h.k3
  unfold holderV
  cases hh : L.held
  all_goals
    rw [hh] at k2
    go_enter Tryz.func64, Tryz.ntmps64
    go_wp2_with (first | (go_at_call 50; refine (lkis_yes _ _ _ k0).mono ?_; rintro e w' ⟨rfl, rfl⟩))
    go_ret2
    exact ⟨rfl, rfl⟩
end Go.Proofs.YteiaifhnikknbaaGreatDoor


namespace Go.Proofs.YteiaifhnikknbaaGreatDoor
open Go.RowKit

/-- A memory that is none: nil, or one that New did not answer. -/
def NoCells (w : World) (v : Value) : Prop := v = .pointer none ∨ ∃ p, v = .pointer (some ⟨p, 0, none⟩) ∧ w.cell? ⟨p, 0, none⟩ = some (.bool false)
theorem NoCells.alloc {w : World} {v : Value} (h : NoCells w v) (o : Obj) : NoCells (w.alloc o) v :=
  h.imp id fun ⟨p, hv, hc⟩ => ⟨p, hv, (World.cell?_of_block (w := w) (Below.heap_alloc w o p (World.block_lt_of_cell? w _ hc))).trans hc⟩

theorem is_none (w : World) (v : Value) (h : NoCells w v) : Calls Tryz.prog 48 #[v] w fun e w' => e = .returned (.bool false) ∧ w = w' := by
  rcases h with rfl | ⟨p, rfl, hc⟩
  · exact is_nil w
  · exact is_no w p hc

set_option maxHeartbeats 400000 in
theorem atomic_none (w : World) (v : Value) (h : NoCells w v) (t a : Int) :
    Calls Tryz.prog 24 #[v, .int .i64 t, .int .i64 a] w fun e w' => e = .returned (.tuple #[.pointer none, .int .i64 1]) ∧ w = w' := by
  go_enter Tryz.func24, Tryz.ntmps24
  go_wp2_with (go_at_call 48; refine (is_none _ _ h).mono ?_; rintro e w' ⟨rfl, rfl⟩)
  go_ret2
  exact ⟨rfl, rfl⟩

set_option maxHeartbeats 400000 in
theorem plain_none (w : World) (v : Value) (h : NoCells w v) (t a : Int) :
    Calls Tryz.prog 76 #[v, .int .i64 t, .int .i64 a] w fun e w' => e = .returned (.tuple #[.pointer none, .int .i64 1]) ∧ w = w' := by
  go_enter Tryz.func76, Tryz.ntmps76
  go_wp2_with (go_at_call 48; refine (is_none _ _ h).mono ?_; rintro e w' ⟨rfl, rfl⟩)
  go_ret2
  exact ⟨rfl, rfl⟩

set_option maxHeartbeats 400000 in
theorem load_none (w : World) (v : Value) (h : NoCells w v) (t a : Int) :
    Calls Tryz.prog 12 #[v, .int .i64 t, .int .i64 a] w fun e w' => e = .returned (.tuple #[.int .u64 0, .int .i64 1]) ∧ w = w' := by
  go_enter Tryz.func12, Tryz.ntmps12
  go_wp2_with (go_at_call 24; refine (atomic_none _ _ h _ _).mono ?_; rintro e w' ⟨rfl, rfl⟩)
  go_ret2
  exact ⟨rfl, rfl⟩

set_option maxHeartbeats 400000 in
theorem store_none (w : World) (v : Value) (h : NoCells w v) (t a x : Int) :
    Calls Tryz.prog 42 #[v, .int .i64 t, .int .i64 a, .int .u64 x] w fun e w' => e = .returned (.int .i64 1) ∧ w = w' := by
  go_enter Tryz.func42, Tryz.ntmps42
  go_wp2_with (go_at_call 24; refine (atomic_none _ _ h _ _).mono ?_; rintro e w' ⟨rfl, rfl⟩)
  go_ret
  exact ⟨rfl, rfl⟩

set_option maxHeartbeats 400000 in
theorem swap_none (w : World) (v : Value) (h : NoCells w v) (t a x y : Int) :
    Calls Tryz.prog 99 #[v, .int .i64 t, .int .i64 a, .int .u64 x, .int .u64 y] w fun e w' => e = .returned (.tuple #[.bool false, .int .i64 1]) ∧ w = w' := by
  go_enter Tryz.func99, Tryz.ntmps99
  go_wp2_with (go_at_call 24; refine (atomic_none _ _ h _ _).mono ?_; rintro e w' ⟨rfl, rfl⟩)
  go_ret2
  exact ⟨rfl, rfl⟩

set_option maxHeartbeats 400000 in
theorem add_none (w : World) (v : Value) (h : NoCells w v) (t a x : Int) :
    Calls Tryz.prog 69 #[v, .int .i64 t, .int .i64 a, .int .u64 x] w fun e w' => e = .returned (.tuple #[.int .u64 0, .int .i64 1]) ∧ w = w' := by
  go_enter Tryz.func69, Tryz.ntmps69
  go_wp2_with (go_at_call 24; refine (atomic_none _ _ h _ _).mono ?_; rintro e w' ⟨rfl, rfl⟩)
  go_ret2
  exact ⟨rfl, rfl⟩

set_option maxHeartbeats 400000 in
theorem read_none (w : World) (v : Value) (h : NoCells w v) (t a : Int) :
    Calls Tryz.prog 92 #[v, .int .i64 t, .int .i64 a] w fun e w' => e = .returned (.tuple #[.slice none 0 0, .int .i64 1]) ∧ w = w' := by
  go_enter Tryz.func92, Tryz.ntmps92
  go_wp2_with (go_at_call 76; refine (plain_none _ _ h _ _).mono ?_; rintro e w' ⟨rfl, rfl⟩)
  go_ret2
  exact ⟨rfl, rfl⟩

set_option maxHeartbeats 400000 in
theorem write_none (w : World) (v : Value) (h : NoCells w v) (t a : Int) (vb : Value) :
    Calls Tryz.prog 72 #[v, .int .i64 t, .int .i64 a, vb] w fun e w' => e = .returned (.int .i64 1) ∧ w = w' := by
  go_enter Tryz.func72, Tryz.ntmps72
  go_wp2_with (go_at_call 76; refine (plain_none _ _ h _ _).mono ?_; rintro e w' ⟨rfl, rfl⟩)
  go_ret
  exact ⟨rfl, rfl⟩

set_option maxHeartbeats 400000 in
theorem many_none (w : World) (v : Value) (h : NoCells w v) :
    Calls Tryz.prog 26 #[v] w fun e w' => e = .returned (.tuple #[.int .i64 0, .int .i64 0]) ∧ w = w' := by
  go_enter Tryz.func26, Tryz.ntmps26
  go_wp2_with (go_at_call 48; refine (is_none _ _ h).mono ?_; rintro e w' ⟨rfl, rfl⟩)
  go_ret2
  exact ⟨rfl, rfl⟩


set_option maxHeartbeats 400000 in
theorem note_none (w : World) (v : Value) (h : NoCells w v) (t x a : Int) :
    Calls Tryz.prog 52 #[v, .agg #[.int .i64 t, .int .u8 x, .int .i64 a]] w fun e w' => e = .returned (.int .i64 1) ∧ Below w.heap.size w w' := by
  go_enter Tryz.func52, Tryz.ntmps52
  go_wp2_with (go_at_call 48; refine (is_none _ _ (h.alloc _)).mono ?_; rintro e w' ⟨rfl, rfl⟩)
  go_ret
  exact ⟨rfl, (Below.refl _ _).alloc (Nat.le_refl _) _⟩

end Go.Proofs.YteiaifhnikknbaaGreatDoor


namespace Go.Proofs.YteiaifhnikknbaaGreatDoor
open Go.RowKit

set_option maxHeartbeats 1000000 in
theorem noteNo_a {w : World} {c : CRef} {S : Mem} {A : Nat → Prop} (hC : Cells w c S A) (task what at_ : Int) (h1 : 1 ≤ what) (h2 : what ≤ 5) (h3 : ¬ (0 ≤ task ∧ task < 64 ∧ 0 ≤ at_ ∧ at_ < S.atomics.length)) :
    Calls Tryz.prog 52 #[.pointer (some ⟨c.p, 0, none⟩), .agg #[.int .i64 task, .int .u8 what, .int .i64 at_]] w fun e w' => e = .returned (.int .i64 2) ∧ Below w.heap.size w w' := by
  obtain ⟨tv, pls, hC⟩ := hC
  have hlt := hC.main.lt
  have c0 := hC.c0
  have c1 := hC.c1
  have c2 := hC.c2
  clear hC
  go_enter Tryz.func52, Tryz.ntmps52
  go_wp2_with (first | (go_at_call 48; refine (is_yes _ _ (cell_alloc_keep _ _ _ c0)).mono ?_; rintro e w' ⟨rfl, rfl⟩))
  all_goals go_ret
  all_goals exact ⟨rfl, (Below.refl _ _).alloc (Nat.le_refl _) _⟩

set_option maxHeartbeats 1000000 in
theorem noteNo_b6 {w : World} {c : CRef} {S : Mem} {A : Nat → Prop} (hC : Cells w c S A) (task at_ : Int) (h3 : ¬ (0 ≤ task ∧ task < 64 ∧ 0 ≤ at_ ∧ at_ < S.plains.length)) :
    Calls Tryz.prog 52 #[.pointer (some ⟨c.p, 0, none⟩), .agg #[.int .i64 task, .int .u8 6, .int .i64 at_]] w fun e w' => e = .returned (.int .i64 2) ∧ Below w.heap.size w w' := by
  obtain ⟨tv, pls, hC⟩ := hC
  have hlt := hC.main.lt
  have c0 := hC.c0
  have c1 := hC.c1
  have c2 := hC.c2
  rw [← hC.rows] at h3
  clear hC
  go_enter Tryz.func52, Tryz.ntmps52
  go_wp2_with (first | (go_at_call 48; refine (is_yes _ _ (cell_alloc_keep _ _ _ c0)).mono ?_; rintro e w' ⟨rfl, rfl⟩))
  all_goals go_ret
  all_goals exact ⟨rfl, (Below.refl _ _).alloc (Nat.le_refl _) _⟩

set_option maxHeartbeats 1000000 in
theorem noteNo_b7 {w : World} {c : CRef} {S : Mem} {A : Nat → Prop} (hC : Cells w c S A) (task at_ : Int) (h3 : ¬ (0 ≤ task ∧ task < 64 ∧ 0 ≤ at_ ∧ at_ < S.plains.length)) :
    Calls Tryz.prog 52 #[.pointer (some ⟨c.p, 0, none⟩), .agg #[.int .i64 task, .int .u8 7, .int .i64 at_]] w fun e w' => e = .returned (.int .i64 2) ∧ Below w.heap.size w w' := by
  obtain ⟨tv, pls, hC⟩ := hC
  have hlt := hC.main.lt
  have c0 := hC.c0
  have c1 := hC.c1
  have c2 := hC.c2
  rw [← hC.rows] at h3
  clear hC
  go_enter Tryz.func52, Tryz.ntmps52
  go_wp2_with (first | (go_at_call 48; refine (is_yes _ _ (cell_alloc_keep _ _ _ c0)).mono ?_; rintro e w' ⟨rfl, rfl⟩))
  all_goals go_ret
  all_goals exact ⟨rfl, (Below.refl _ _).alloc (Nat.le_refl _) _⟩

set_option maxHeartbeats 1000000 in
theorem noteNo_c {w : World} {c : CRef} {S : Mem} {A : Nat → Prop} (hC : Cells w c S A) (task what at_ : Int) (h1 : 8 ≤ what) (h2 : what ≤ 9) (h3 : ¬ (0 ≤ task ∧ task < 64 ∧ 0 ≤ at_ ∧ at_ < 1)) :
    Calls Tryz.prog 52 #[.pointer (some ⟨c.p, 0, none⟩), .agg #[.int .i64 task, .int .u8 what, .int .i64 at_]] w fun e w' => e = .returned (.int .i64 2) ∧ Below w.heap.size w w' := by
  obtain ⟨tv, pls, hC⟩ := hC
  have hlt := hC.main.lt
  have c0 := hC.c0
  have c1 := hC.c1
  have c2 := hC.c2
  have e6 : (what == 6) = false := by simp; omega
  have e7 : (what == 7) = false := by simp; omega
  clear hC
  go_enter Tryz.func52, Tryz.ntmps52
  go_wp2_with (first | (go_at_call 48; refine (is_yes _ _ (cell_alloc_keep _ _ _ c0)).mono ?_; rintro e w' ⟨rfl, rfl⟩))
  all_goals go_ret
  all_goals exact ⟨rfl, (Below.refl _ _).alloc (Nat.le_refl _) _⟩

set_option maxHeartbeats 1000000 in
theorem noteNo_d {w : World} {c : CRef} {S : Mem} {A : Nat → Prop} (hC : Cells w c S A) (task what at_ : Int) (h1 : what < 1 ∨ 9 < what) :
    Calls Tryz.prog 52 #[.pointer (some ⟨c.p, 0, none⟩), .agg #[.int .i64 task, .int .u8 what, .int .i64 at_]] w fun e w' => e = .returned (.int .i64 2) ∧ Below w.heap.size w w' := by
  obtain ⟨tv, pls, hC⟩ := hC
  have hlt := hC.main.lt
  have c0 := hC.c0
  have c1 := hC.c1
  have c2 := hC.c2
  have e6 : (what == 6) = false := by simp; omega
  have e7 : (what == 7) = false := by simp; omega
  clear hC
  go_enter Tryz.func52, Tryz.ntmps52
  go_wp2_with (first | (go_at_call 48; refine (is_yes _ _ (cell_alloc_keep _ _ _ c0)).mono ?_; rintro e w' ⟨rfl, rfl⟩))
  all_goals go_ret
  all_goals exact ⟨rfl, (Below.refl _ _).alloc (Nat.le_refl _) _⟩

theorem note_no {w : World} {c : CRef} {S : Mem} {A : Nat → Prop} (hC : Cells w c S A) (a : Acc) (h : okNote S a = false) :
    Calls Tryz.prog 52 #[.pointer (some ⟨c.p, 0, none⟩), .agg #[.int .i64 a.task, .int .u8 a.what, .int .i64 a.at_]] w fun e w' => e = .returned (.int .i64 2) ∧ Below w.heap.size w w' := by
  have h1 := of_decide_eq_false h
  obtain ⟨task, what, at_⟩ := a
  simp only at h1
  by_cases k0 : what < 1 ∨ 9 < what
  · exact noteNo_d hC task what at_ k0
  · by_cases k5 : what ≤ 5
    · exact noteNo_a hC task what at_ (by omega) k5 (by omega)
    · by_cases k6 : what = 6
      · subst k6
        exact noteNo_b6 hC task at_ (by omega)
      · by_cases k7 : what = 7
        · subst k7
          exact noteNo_b7 hC task at_ (by omega)
        · exact noteNo_c hC task what at_ (by omega) (by omega) (by omega)

end Go.Proofs.YteiaifhnikknbaaGreatDoor


namespace Go.Proofs.YteiaifhnikknbaaGreatDoor
open Go.RowKit

section
variable {P : Program} {d : Nat} {xs ys : Array Value} {f : Field} {fs : List Field} {a b : Value} {r s : Bool} {w : World}
theorem eqF_nil : (Op.eqFields d xs ys []).run P w = .ok true w := by simp [Op.eqFields]
theorem eqF_cons (hn : f.name ≠ "_") (ha : (part f.type xs f.offset).run P w = .ok a w) (hb : (part f.type ys f.offset).run P w = .ok b w)
    (he : (Op.equalIn d f.type a b).run P w = .ok r w) (hr : (Op.eqFields d xs ys fs).run P w = .ok s w) :
    (Op.eqFields d xs ys (f :: fs)).run P w = .ok (r && s) w := by
  rw [Op.eqFields, if_pos hn]
  simp only [Sem.run_bind, ha, hb, he, Result.andThen_ok]
  cases r
  · simp
  · simpa using hr
theorem eqS_of {t : TypeId} {fs : Array Field} (hu : P.underlying t = some (.struct fs)) (hp : P.stoodInHeld t = false) (h : (Op.eqFields d xs ys fs.toList).run P w = .ok r w) :
    (Op.equalIn (d + 1) t (.agg xs) (.agg ys)).run P w = .ok r w := by
  have hf : P.fieldsOf t = fs := by simp [Program.fieldsOf, hu]
  rw [run_equalIn_struct (P := P) w d t xs ys (by rw [hf]; exact hu) hp, hf]
  exact h
theorem run_neq_of {t : TypeId} (h : (Op.equalIn 10000 t (.agg xs) (.agg ys)).run P w = .ok r w) : (binOp .neq t (.agg xs) (.agg ys)).run P w = .ok (.bool (!r)) w := by
  simp only [binOp]
  simp [Op.equal, Op.maxDepth, h]
theorem run_eql_of {t : TypeId} (h : (Op.equalIn 10000 t (.agg xs) (.agg ys)).run P w = .ok r w) : (binOp .eql t (.agg xs) (.agg ys)).run P w = .ok (.bool r) w := by
  simp only [binOp]
  simp [Op.equal, Op.maxDepth, h]
end

theorem eq_acc (d : Nat) (w : World) (x y : Acc) :
    (Op.equalIn (d + 2) 131 (.agg #[.int .i64 x.task, .int .u8 x.what, .int .i64 x.at_]) (.agg #[.int .i64 y.task, .int .u8 y.what, .int .i64 y.at_])).run Tryz.prog w = .ok (decide (x = y)) w := by
  have e : decide (x = y) = ((x.task == y.task) && ((x.what == y.what) && ((x.at_ == y.at_) && true))) := by
    rw [Bool.eq_iff_iff]
    obtain ⟨a, b, c⟩ := x
    obtain ⟨a', b', c'⟩ := y
    simp
  rw [e]
  refine eqS_of Tryz.underlying131 (by kernel_rfl) ?_
  refine eqF_cons (by decide) (by go_simp; rfl) (by go_simp; rfl) (by go_simp) ?_
  refine eqF_cons (by decide) (by go_simp; rfl) (by go_simp; rfl) (by go_simp) ?_
  exact eqF_cons (by decide) (by go_simp; rfl) (by go_simp; rfl) (by go_simp) eqF_nil

theorem neq_acc (w : World) (x y : Acc) :
    (binOp .neq 131 (.agg #[.int .i64 x.task, .int .u8 x.what, .int .i64 x.at_]) (.agg #[.int .i64 y.task, .int .u8 y.what, .int .i64 y.at_])).run Tryz.prog w = .ok (.bool (!decide (x = y))) w :=
  run_neq_of (eq_acc 9998 w x y)

end Go.Proofs.YteiaifhnikknbaaGreatDoor


namespace Go.Proofs.YteiaifhnikknbaaGreatDoor
open Go.RowKit

/-- The three cells of an access in a row of accesses. -/
theorem accs_get (l : List Acc) (k : Nat) (h : k < l.length) : (accs l)[k * 3]? = some (.int .i64 l[k].task) ∧ (accs l)[k * 3 + 1]? = some (.int .u8 l[k].what) ∧ (accs l)[k * 3 + 2]? = some (.int .i64 l[k].at_) := by
  induction l generalizing k with
  | nil => simp at h
  | cons a l ih =>
    have e : accs (a :: l) = .int .i64 a.task :: .int .u8 a.what :: .int .i64 a.at_ :: accs l := rfl
    cases k with
    | zero => rw [e]; simp
    | succ k =>
      have := ih k (by simpa using h)
      rw [e, show (k + 1) * 3 = k * 3 + 1 + 1 + 1 by omega]
      simpa using this

theorem Reads.acc {w : World} {n b off c : Nat} {l : List Acc} (h : Reads w 3 (.slice (some ⟨b, off, none⟩) n c) n (accs l)) (k : Nat) (hk : k < l.length) :
    w.cell? ⟨b, off + k * 3, none⟩ = some (.int .i64 l[k].task) ∧ w.cell? ⟨b, off + k * 3 + 1, none⟩ = some (.int .u8 l[k].what) ∧ w.cell? ⟨b, off + k * 3 + 2, none⟩ = some (.int .i64 l[k].at_) := by
  have hl := h.len
  rw [accs_length] at hl
  obtain ⟨h0, h1, h2⟩ := accs_get l k hk
  rcases h.form with ⟨rfl, _⟩ | ⟨b', off', c', e, _, hr⟩
  · omega
  · cases e
    exact ⟨hr _ _ h0, hr _ _ h1, hr _ _ h2⟩

theorem Cells.sans {w : World} {c : CRef} {S : Mem} {A : Nat → Prop} (h : Cells w c S A) {g : Nat} (hg : w.heap.size ≤ g) : Cells w c S (fun k => A k ∧ k ≠ g) := h.mono fun k hk hA => ⟨hA, by omega⟩
theorem Fresh.sans {w w' : World} {A : Nat → Prop} (h : Fresh A w) {g : Nat} (hs : w.heap.size ≤ w'.heap.size) (hg : g < w'.heap.size) : Fresh (fun k => A k ∧ k ≠ g) w' := ⟨fun k hk => ⟨h.new k (by omega), by omega⟩⟩
theorem Only.sans {w w' : World} {A : Nat → Prop} {g : Nat} (h : Only (fun k => A k ∧ k ≠ g) w w') : Only A w w' := h.mono fun _ _ hk => hk.1

end Go.Proofs.YteiaifhnikknbaaGreatDoor


namespace Go.Proofs.YteiaifhnikknbaaGreatDoor
open Go.RowKit

theorem take_succ_of {α : Type} {l m : List α} {k : Nat} (h : l.take k = m.take k) (h1 : k < l.length) (h2 : k < m.length) (h3 : l[k] = m[k]) : l.take (k + 1) = m.take (k + 1) := by
  rw [List.take_succ_eq_append_getElem h1, List.take_succ_eq_append_getElem h2, h, h3]

end Go.Proofs.YteiaifhnikknbaaGreatDoor


namespace Go.Proofs.YteiaifhnikknbaaGreatDoor
open Go.RowKit Go.Maps

/-- The memory's blocks: what has been laid since B, but the mutex' own. -/
def LB (B : Nat) (r : LRef) (k : Nat) : Prop := B ≤ k ∧ k ≠ r.p ∧ k ≠ r.q
structure Lw (B : Nat) (w : World) (r : LRef) (L : Lk) (S : Mem) : Prop where
  lk : Lks w r L S (LB B r)
  bp : B ≤ r.p
  bq : B ≤ r.q
  bs : B ≤ w.heap.size

variable {B : Nat} {w w' : World} {r : LRef} {L : Lk} {S S' : Mem}
theorem Lw.fresh (h : Lw B w r L S) : Fresh (LB B r) w := by
  obtain ⟨m, _, hk⟩ := h.lk
  exact ⟨fun k hl => ⟨Nat.le_trans h.bs hl, by have := hk.main.lt; omega, by have := hk.map.lt; omega⟩⟩
theorem Lw.under (h : Lw B w r L S) (hO : Only (LA r (LB B r)) w w') : Below B w w' :=
  hO.below h.bs (fun k hk hl => by have := h.bp; have := h.bq; rcases hl with hl | hl | hl <;> first | exact absurd hl.1 (by omega) | omega)
theorem Lw.below (h : Lw B w r L S) (hb : Below w.heap.size w w') : Lw B w' r L S := by
  obtain ⟨m, hm, hk⟩ := h.lk
  exact ⟨⟨m, hm, hk.same (Same.of_below _ hb)⟩, h.bp, h.bq, Nat.le_trans h.bs hb.size⟩
theorem Lw.alloc (h : Lw B w r L S) (o : Obj) : Lw B (w.alloc o) r L S := h.below ((Below.refl _ w).alloc (Nat.le_refl _) o)
theorem Lw.quiet (h : Lw B w r L S) (hq : Quiet w w') : Lw B w' r L S := h.below (hq.below _)

theorem lock_to (h : Lw B w r L S) (n : Int) (hw : (Lit.int .i64 n).wf = true) (hn : S.trace.length < trMax) (E : Int) (L' : Lk) (S' : Mem) (hE : lockE L n = E) (hL : lockL L n = L') (hS : S.notes (lockN L n) = S') :
    Calls Tryz.prog 27 #[.pointer (some ⟨r.p, 0, none⟩), .int .i64 n] w fun e w' => e = .returned (.int .i64 E) ∧ Lw B w' r L' S' ∧ Below B w w' := by
  subst hE hL hS
  obtain ⟨m, hm, hk⟩ := h.lk
  refine (lock_any hk h.fresh hn n hw).mono ?_
  rintro e w' ⟨rfl, hk', hO⟩
  exact ⟨rfl, ⟨⟨m, by simp [Mem.notes]; omega, hk'⟩, h.bp, h.bq, Nat.le_trans h.bs hO.size⟩, h.under hO⟩
theorem holder_to (h : Lw B w r L S) (V : Int) (b : Bool) (hV : holderV L = V) (hb : L.held = b) : Calls Tryz.prog 64 #[.pointer (some ⟨r.p, 0, none⟩)] w fun e w' => e = .returned (.tuple #[.int .i64 V, .bool b]) ∧ w = w' := by
  subst hV hb
  obtain ⟨m, hm, hk⟩ := h.lk
  exact holder_any hk
set_option maxHeartbeats 1000000 in
theorem newL_ok {c : CRef} (hC : Cells w c S (fun k => B ≤ k)) (hB : B ≤ w.heap.size) (conds : Int) (h0 : 0 ≤ conds) (h1 : conds ≤ 1000) :
    Calls Tryz.prog 39 #[.pointer (some ⟨c.p, 0, none⟩), .int .i64 conds] w fun e w' => ∃ r : LRef, r.c = c ∧ e = .returned (.tuple #[.pointer (some ⟨r.p, 0, none⟩), .int .i64 0]) ∧ Lw B w' r ⟨conds, false, 0, fun _ => none⟩ S ∧ Below w.heap.size w w' := by
  have hmm := @run_makeMap Tryz.prog
  go_enter Tryz.func39, Tryz.ntmps39
  go_wp2_with (first | (go_at_call 52; refine (noteNo_d hC 0 0 0 (by omega)).mono ?_; rintro e w1 ⟨rfl, hB1⟩))
  go_ret2
  have hs := hB1.size
  refine ⟨⟨w1.heap.size + 1, w1.heap.size, c⟩, rfl, rfl, ⟨⟨0, Nat.zero_le _, ?_, ?_, ?_, fun h => h.2.1 rfl, fun h => h.2.2 rfl⟩, by simp; omega, by simp; omega, by simp; omega⟩, ?_⟩
  · have := Blk.new (w1.alloc (.map #[] 0)) 135 [.pointer (some ⟨c.p, 0, none⟩), .int .i64 conds, .bool false, .int .i64 0, .map (some w1.heap.size)]
    simpa using this
  · exact (World.ownsMap_made w1 Tryz.prog 3 _).alloc _
  · have h2 : Cells w c S (LB B ⟨w1.heap.size + 1, w1.heap.size, c⟩) := hC.mono fun k hk hA => ⟨hA, by simp; omega, by simp; omega⟩
    exact ((h2.keep (Same.of_below _ hB1)).alloc _).alloc _
  · exact (hB1.alloc (by omega) _).alloc (by simp; omega) _

set_option maxHeartbeats 1000000 in
theorem newL_nil (conds : Int) : Calls Tryz.prog 39 #[.pointer none, .int .i64 conds] w fun e w' => e = .returned (.tuple #[.pointer none, .int .i64 2]) ∧ w = w' := by
  go_enter Tryz.func39, Tryz.ntmps39
  go_wp2_with fail
  go_ret2
  exact ⟨rfl, rfl⟩
set_option maxHeartbeats 1000000 in
theorem newL_none (a : Addr) (hN : NoCells w (.pointer (some a))) : Calls Tryz.prog 39 #[.pointer (some a), .int .i64 1] w fun e w' => e = .returned (.tuple #[.pointer none, .int .i64 2]) ∧ Below w.heap.size w w' := by
  go_enter Tryz.func39, Tryz.ntmps39
  go_wp2_with (first | (go_at_call 52; refine (note_none _ _ hN 0 0 0).mono ?_; rintro e w1 ⟨rfl, hB1⟩))
  go_ret2
  exact ⟨rfl, hB1⟩
set_option maxHeartbeats 1000000 in
theorem newL_no (a : Addr) (conds : Int) (hc : conds < 0 ∨ 1000 < conds) : Calls Tryz.prog 39 #[.pointer (some a), .int .i64 conds] w fun e w' => e = .returned (.tuple #[.pointer none, .int .i64 2]) ∧ w = w' := by
  rcases hc with hc | hc
  · go_enter Tryz.func39, Tryz.ntmps39
    go_wp2_with fail
    go_ret2
    exact ⟨rfl, rfl⟩
  · have h0 : ¬ conds < 0 := by omega
    go_enter Tryz.func39, Tryz.ntmps39
    go_wp2_with fail
    go_ret2
    exact ⟨rfl, rfl⟩


end Go.Proofs.YteiaifhnikknbaaGreatDoor


namespace Go.Proofs.YteiaifhnikknbaaGreatDoor
open Go.RowKit

def putL : List Value → Nat → List Value → List Value
  | X, _, [] => X
  | X, o, v :: r => putL (X.set o v) (o + 1) r
theorem Blk.many {b t : Nat} : ∀ (vs : List Value) (o : Nat) {w : World} {X : List Value}, Blk w b t X → Blk (w.setCells b o vs) b t (putL X o vs)
  | [], _, _, _, h => h
  | v :: r, o, _, _, h => Blk.many r (o + 1) (h.set o v)
theorem heap_many (b : Nat) : ∀ (vs : List Value) (o : Nat) (w : World) {k : Nat}, k ≠ b → (w.setCells b o vs).heap[k]? = w.heap[k]?
  | [], _, _, _, _ => rfl
  | v :: r, o, w, _, hk => (heap_many b r (o + 1) _ hk).trans (Below.heap_setCell _ _ _ _ hk)
theorem size_many (b : Nat) : ∀ (vs : List Value) (o : Nat) (w : World), (w.setCells b o vs).heap.size = w.heap.size
  | [], _, _ => rfl
  | v :: r, o, w => (size_many b r (o + 1) _).trans (by simp [World.setCell])
theorem Only.many {A : Nat → Prop} {a : World} {b : Nat} (hb : A b) : ∀ (vs : List Value) (o : Nat) {w : World}, Only A a w → Only A a (w.setCells b o vs)
  | [], _, _, h => h
  | v :: r, o, _, h => Only.many hb r (o + 1) (h.setCell (p := ⟨b, o, none⟩) hb v)
theorem Below.many {B b : Nat} {a : World} (hb : B ≤ b) : ∀ (vs : List Value) (o : Nat) {w : World}, Below B a w → Below B a (w.setCells b o vs)
  | [], _, _, h => h
  | v :: r, o, _, h => Below.many hb r (o + 1) (h.setCell (p := ⟨b, o, none⟩) hb v)
theorem Blk.many_other {w : World} {b b' t : Nat} {cs : List Value} (h : Blk w b t cs) (hne : b ≠ b') (vs : List Value) (o : Nat) : Blk (w.setCells b' o vs) b t cs := h.keep (heap_many b' vs o w hne)
theorem Row.many {w : World} {e size n : Nat} {v : Value} {xs : List Value} {A : Nat → Prop} (h : Row w e size v n xs A) {b t : Nat} {cs : List Value} (hb : Blk w b t cs) (hne : t ≠ e) (vs : List Value) (o : Nat) : Row (w.setCells b o vs) e size v n xs A :=
  h.keep fun k hk => heap_many b vs o w (fun e0 => h.ne_blk hb hne (e0 ▸ hk))
theorem Blk.range {w : World} {b t : Nat} {C : List Value} (h : Blk w b t C) (o : Nat) (cs : List Value) (hc : ∀ j v, cs[j]? = some v → C[o + j]? = some v) : w.rangeAt b o cs := fun j v hv => h.cell (o + j) (hc j v hv)
theorem Blk.there {w : World} {b t : Nat} {C : List Value} (h : Blk w b t C) (o n : Nat) (hn : o + n ≤ C.length) : w.there b o n := fun j hj =>
  ⟨by rw [h.cell (o + j) (List.getElem?_eq_getElem (by omega))]; rfl, h.frozen (o + j)⟩
end Go.Proofs.YteiaifhnikknbaaGreatDoor
