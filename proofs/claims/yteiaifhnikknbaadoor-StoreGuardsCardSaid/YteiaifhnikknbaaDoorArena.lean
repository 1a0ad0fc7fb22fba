/- The walks over package arena. -/
import Derived.Test.YteiaifhnikknbaaDoorCellsNew
import Derived.Deep.RegionWith
namespace Go.Proofs.YteiaifhnikknbaaDoor
open Go.RowKit

/-- An arena lies at q, outside of A: its memory, its cell, its units. -/
structure ArenaAt (w : World) (q : Nat) (c : CRef) (at_ units : Int) (A : Nat → Prop) : Prop where
  blk : Blk w q 150 [.pointer (some ⟨c.p, 0, none⟩), .int .i64 at_, .int .u64 units]
  out : ¬ A q
theorem ArenaAt.only {w w' : World} {q : Nat} {c : CRef} {at_ units : Int} {A : Nat → Prop} (h : ArenaAt w q c at_ units A) (ho : Only A w w') : ArenaAt w' q c at_ units A :=
  ⟨h.blk.keep (ho.block _ h.blk.lt h.out), h.out⟩
theorem ArenaAt.c0 {w : World} {q : Nat} {c : CRef} {at_ units : Int} {A : Nat → Prop} (h : ArenaAt w q c at_ units A) : w.cell? ⟨q, 0, none⟩ = some (.pointer (some ⟨c.p, 0, none⟩)) := h.blk.cell 0 rfl
theorem ArenaAt.c1 {w : World} {q : Nat} {c : CRef} {at_ units : Int} {A : Nat → Prop} (h : ArenaAt w q c at_ units A) : w.cell? ⟨q, 1, none⟩ = some (.int .i64 at_) := h.blk.cell 1 rfl
theorem ArenaAt.c2 {w : World} {q : Nat} {c : CRef} {at_ units : Int} {A : Nat → Prop} (h : ArenaAt w q c at_ units A) : w.cell? ⟨q, 2, none⟩ = some (.int .u64 units) := h.blk.cell 2 rfl

def okUnits (n : Nat) (at_ units : Int) : Bool := decide (0 ≤ at_ ∧ at_ < n ∧ 1 ≤ units ∧ units ≤ 1073741824)

set_option maxHeartbeats 400000 in
theorem anew_ok {w : World} {c : CRef} {S : Mem} {A : Nat → Prop} (hC : Cells w c S A) (at_ units : Int) (h : okUnits S.atomics.length at_ units = true) :
    Calls Tryd.prog 79 #[.pointer (some ⟨c.p, 0, none⟩), .int .i64 at_, .int .u64 units] w fun e w' => ∃ q, e = .returned (.tuple #[.pointer (some ⟨q, 0, none⟩), .int .i64 0]) ∧ w.heap.size ≤ q ∧ ArenaAt w' q c at_ units (fun k => A k ∧ k ≠ q) ∧ Cells w' c S (fun k => A k ∧ k ≠ q) ∧ Below w.heap.size w w' := by
  obtain ⟨h1, h2, h3, h4⟩ := of_decide_eq_true h
  clear h
  go_enter Tryd.func79, Tryd.ntmps79
  go_wp2_with (go_at_call 48; refine (many_ok hC).mono ?_; rintro e w' ⟨rfl, hq⟩; obtain ⟨nq, rfl⟩ := hq)
  go_ret2
  have hb : Blk ((w.drewN nq).alloc (.cells #[.pointer (some ⟨c.p, 0, none⟩), .int .i64 at_, .int .u64 units] 150)) w.heap.size 150 [.pointer (some ⟨c.p, 0, none⟩), .int .i64 at_, .int .u64 units] := Blk.new (w.drewN nq) _ _
  exact ⟨w.heap.size, rfl, Nat.le_refl _, ⟨hb, by simp⟩, (Cells.keep (hC.mono fun k hk hA => ⟨hA, by omega⟩) (Same.drewN _ w nq)).alloc _, ((Quiet.below ⟨⟨nq, rfl⟩⟩ _).alloc (Nat.le_refl _) _)⟩

set_option maxHeartbeats 400000 in
theorem anew_no {w : World} {c : CRef} {S : Mem} {A : Nat → Prop} (hC : Cells w c S A) (at_ units : Int) (h : okUnits S.atomics.length at_ units = false) :
    Calls Tryd.prog 79 #[.pointer (some ⟨c.p, 0, none⟩), .int .i64 at_, .int .u64 units] w fun e w' => e = .returned (.tuple #[.pointer none, .int .i64 2]) ∧ Quiet w w' := by
  have h1 := of_decide_eq_false h
  clear h
  go_enter Tryd.func79, Tryd.ntmps79
  go_wp2_with (go_at_call 48; refine (many_ok hC).mono ?_; rintro e w' ⟨rfl, hq⟩; obtain ⟨nq, rfl⟩ := hq)
  all_goals go_ret2
  all_goals exact ⟨rfl, ⟨_, rfl⟩⟩

/-- What Add leaves. -/
def Mem.added (S : Mem) (task at_ by_ : Int) : Mem := (S.note ⟨task, 5, at_⟩).put at_ (IntKind.u64.wrap (S.at_ at_ + by_))

/-- What Take answers, of an arena of so many units, where x were asked for. -/
def takeR (x units need : Int) : Int × Int := if units < IntKind.u64.wrap (x + need) then (0, 13) else (IntKind.u64.wrap (IntKind.u64.wrap (x + need) - need), 0)

/-- An arena that is none: nil, or one that New did not answer. -/
def NoArena (w : World) (v : Value) : Prop := v = .pointer none ∨ ∃ p, v = .pointer (some ⟨p, 0, none⟩) ∧ w.cell? ⟨p, 0, none⟩ = some (.pointer none)

end Go.Proofs.YteiaifhnikknbaaDoor
