/- An insert, as plain data and as cells. -/
import Derived.Test.YtkpjfdhjkgdcbaaSkipKey
import Derived.Laws.EntriesVeiled

namespace Go.Proofs.Ytkpjfdhjkgdcbaa
open Go.RowKit

/-- An insert: op is what it does next (1 to 4 as the document has it, 5 a Load, 6 a Read, 7 a Store, 8 a Swap, 0: it has ended). -/
structure Ins where
  task : Int
  e : En
  height : Int
  node : Int
  level : Nat
  at_ : Nat → Int
  thn : Nat → Int
  again : Bool
  op : Nat
  err : Int
def upd (f : Nat → Int) (i : Nat) (x : Int) : Nat → Int := fun j => if j = i then x else f j
def stepV (ip : Nat) : Nat → Value
  | 1 => .func (.func 45) #[.pointer (some ⟨ip, 0, none⟩)] #[]
  | 2 => .func (.func 65) #[.pointer (some ⟨ip, 0, none⟩)] #[]
  | 3 => .func (.func 81) #[.pointer (some ⟨ip, 0, none⟩)] #[]
  | 4 => .func (.func 87) #[.pointer (some ⟨ip, 0, none⟩)] #[]
  | 5 => .func (.func 90) #[.pointer (some ⟨ip, 0, none⟩)] #[]
  | 6 => .func (.func 93) #[.pointer (some ⟨ip, 0, none⟩)] #[]
  | 7 => .func (.func 96) #[.pointer (some ⟨ip, 0, none⟩)] #[]
  | 8 => .func (.func 98) #[.pointer (some ⟨ip, 0, none⟩)] #[]
  | _ => .nilFunc
def insC (k : SkRef) (ip : Nat) (x : Ins) : List Value := [.pointer (some ⟨k.lp, 0, none⟩), .int .i64 x.task, .string x.e.k.key, .int .u64 x.e.k.seq, .int .u8 x.e.k.kind, .string x.e.val, .int .i64 x.height, .int .i64 x.node, .int .i64 (x.level : Int),
  .int .i64 (x.at_ 0), .int .i64 (x.thn 0), .int .i64 (x.at_ 1), .int .i64 (x.thn 1), .int .i64 (x.at_ 2), .int .i64 (x.thn 2), .int .i64 (x.at_ 3), .int .i64 (x.thn 3), .int .i64 (x.at_ 4), .int .i64 (x.thn 4), .int .i64 (x.at_ 5), .int .i64 (x.thn 5), .bool x.again, stepV ip x.op, .int .i64 x.err]
def InsAt (w : World) (k : SkRef) (ip : Nat) (x : Ins) : Prop := Blk w ip 106 (insC k ip x)

theorem lt6 {l : Nat} (h : l < 6) : l = 0 ∨ l = 1 ∨ l = 2 ∨ l = 3 ∨ l = 4 ∨ l = 5 := by omega
theorem ins_at (k : SkRef) (ip : Nat) (x : Ins) {l : Nat} (h : l < 6) : (insC k ip x)[9 + l * 2]? = some (.int .i64 (x.at_ l)) := by
  rcases lt6 h with rfl | rfl | rfl | rfl | rfl | rfl <;> rfl
theorem ins_thn (k : SkRef) (ip : Nat) (x : Ins) {l : Nat} (h : l < 6) : (insC k ip x)[9 + l * 2 + 1]? = some (.int .i64 (x.thn l)) := by
  rcases lt6 h with rfl | rfl | rfl | rfl | rfl | rfl <;> rfl
theorem ins_set_at (k : SkRef) (ip : Nat) (x : Ins) {l : Nat} (h : l < 6) (v : Int) : (insC k ip x).set (9 + l * 2) (.int .i64 v) = insC k ip { x with at_ := upd x.at_ l v } := by
  rcases lt6 h with rfl | rfl | rfl | rfl | rfl | rfl <;> simp [insC, upd]
theorem ins_set_thn (k : SkRef) (ip : Nat) (x : Ins) {l : Nat} (h : l < 6) (v : Int) : (insC k ip x).set (9 + l * 2 + 1) (.int .i64 v) = insC k ip { x with thn := upd x.thn l v } := by
  rcases lt6 h with rfl | rfl | rfl | rfl | rfl | rfl <;> simp [insC, upd]
theorem ins_set_node (k : SkRef) (ip : Nat) (x : Ins) (v : Int) : (insC k ip x).set 7 (.int .i64 v) = insC k ip { x with node := v } := rfl
theorem ins_set_level (k : SkRef) (ip : Nat) (x : Ins) (v : Nat) : (insC k ip x).set 8 (.int .i64 (v : Int)) = insC k ip { x with level := v } := rfl
theorem ins_set_again (k : SkRef) (ip : Nat) (x : Ins) (v : Bool) : (insC k ip x).set 21 (.bool v) = insC k ip { x with again := v } := rfl
theorem ins_set_op (k : SkRef) (ip : Nat) (x : Ins) (v : Nat) : (insC k ip x).set 22 (stepV ip v) = insC k ip { x with op := v } := rfl
theorem ins_set_err (k : SkRef) (ip : Nat) (x : Ins) (v : Int) : (insC k ip x).set 23 (.int .i64 v) = insC k ip { x with err := v } := rfl

/-- A level's way is found. -/
def down (x : Ins) : Ins := if x.again ∨ x.level = 0 then { x with op := 7 } else { x with level := x.level - 1, at_ := upd x.at_ (x.level - 1) (x.at_ x.level), op := 5 }
set_option maxHeartbeats 1000000 in
theorem found_any {w : World} {k : SkRef} {ip : Nat} {x : Ins} (h : InsAt w k ip x) (hl : x.level < 6) :
    Calls Try.prog 94 #[.pointer (some ⟨ip, 0, none⟩)] w fun e w' => e = .returned (.tuple #[]) ∧ InsAt w' k ip (down x) ∧ Only (· = ip) w w' := by
  have c7 := Blk.cell h 21 (v := .bool x.again) rfl
  have c8 := Blk.cell h 8 (v := .int .i64 (x.level : Int)) rfl
  have c22 := Blk.cell h 22 (v := stepV ip x.op) rfl
  have fz := Blk.frozen h
  obtain ⟨l, hlv⟩ : ∃ l, x.level = l := ⟨_, rfl⟩
  rw [hlv] at c8 hl
  have hend : ∀ y : Ins, y = { x with op := 7 } → InsAt (w.setCell ⟨ip, 22, none⟩ (.func (.func 96) #[.pointer (some ⟨ip, 0, none⟩)] #[])) k ip y ∧ Only (· = ip) w (w.setCell ⟨ip, 22, none⟩ (.func (.func 96) #[.pointer (some ⟨ip, 0, none⟩)] #[])) := fun y hy => by
    subst hy
    refine ⟨?_, (Only.refl (fun j => j = ip) w).setCell (p := ⟨ip, 22, none⟩) rfl _⟩
    unfold InsAt
    rw [← ins_set_op k ip x 7]
    exact Blk.set h 22 _
  by_cases ha : x.again = true
  · rw [ha] at c7
    have hd : down x = { x with op := 7 } := by rw [down, if_pos (.inl ha)]
    have HE := Lib.hid (hend _ hd)
    clear hend hd h
    go_enter Try.func94, Try.ntmps94
    go_wp2
    go_end0
    exact ⟨rfl, HE.out⟩
  have ha' : x.again = false := by simpa using ha
  rw [ha'] at c7
  by_cases h0 : l = 0
  · have hd : down x = { x with op := 7 } := by rw [down, if_pos (.inr (hlv.trans h0))]
    have HE := Lib.hid (hend _ hd)
    subst h0
    clear hend hd h
    go_enter Try.func94, Try.ntmps94
    go_wp2
    go_end0
    exact ⟨rfl, HE.out⟩
  obtain ⟨l, rfl⟩ : ∃ m, l = m + 1 := ⟨l - 1, by omega⟩
  clear hend h0
  have hd : down x = { x with level := l, at_ := upd x.at_ l (x.at_ (l + 1)), op := 5 } := by
    rw [down, if_neg (by rw [ha', hlv]; simp), hlv, Nat.add_sub_cancel]
  obtain ⟨w1, hw1⟩ : ∃ w1, w.setCell ⟨ip, 8, none⟩ (.int .i64 (l : Int)) = w1 := ⟨_, rfl⟩
  have k1 : InsAt w1 k ip { x with level := l } := by
    unfold InsAt
    rw [← hw1, ← ins_set_level k ip x l]
    exact Blk.set h 8 _
  have o1 : Only (· = ip) w w1 := by rw [← hw1]; exact (Only.refl (fun j => j = ip) w).setCell (p := ⟨ip, 8, none⟩) rfl _
  have HD := Lib.hid hd
  have HK := Lib.hid k1
  have HO := Lib.hid o1
  obtain ⟨z, hz⟩ : ∃ z : Int, ((l + 1 : Nat) : Int) = z := ⟨_, rfl⟩
  rw [hz] at c8
  have hz1 : z - 1 = (l : Int) := by omega
  have hz0 : (z == 0) = false := by simp; omega
  have hzp : 0 < z := by omega
  have hzq : z < 6 := by omega
  clear hd k1 o1 h hlv ha hz
  go_enter Try.func94, Try.ntmps94
  go_wp2
  obtain ⟨v, hv⟩ : ∃ v, x.at_ (l + 1) = v := ⟨_, rfl⟩
  have k1 : InsAt w1.drew k ip { x with level := l } := Blk.keep HK.out rfl
  have d8 : w1.drew.cell? ⟨ip, 8, none⟩ = some (.int .i64 (l : Int)) := Blk.cell k1 8 rfl
  have dv : w1.drew.cell? ⟨ip, 9 + (l + 1) * 2, none⟩ = some (.int .i64 v) := Blk.cell k1 _ (by rw [ins_at k ip _ hl, hv])
  have dt : w1.drew.cell? ⟨ip, 9 + l * 2, none⟩ = some (.int .i64 (x.at_ l)) := Blk.cell k1 _ (by rw [ins_at k ip _ (by omega)])
  have fz1 := Blk.frozen k1
  obtain ⟨w2, hw2⟩ : ∃ w2, w1.drew.setCell ⟨ip, 9 + l * 2, none⟩ (.int .i64 v) = w2 := ⟨_, rfl⟩
  have k2 : InsAt w2 k ip { x with level := l, at_ := upd x.at_ l v } := by
    unfold InsAt
    rw [← hw2, ← ins_set_at k ip { x with level := l } (by omega) v]
    exact Blk.set k1 _ _
  have o2 : Only (· = ip) w w2 := by rw [← hw2]; exact HO.out.drew.setCell (p := ⟨ip, 9 + l * 2, none⟩) rfl _
  have d22 := Blk.cell k2 22 (v := stepV ip x.op) rfl
  have fz2 := Blk.frozen k2
  have k3 : InsAt (w2.setCell ⟨ip, 22, none⟩ (.func (.func 90) #[.pointer (some ⟨ip, 0, none⟩)] #[])) k ip { x with level := l, at_ := upd x.at_ l v, op := 5 } := by
    unfold InsAt
    rw [← ins_set_op k ip { x with level := l, at_ := upd x.at_ l v } 5]
    exact Blk.set k2 22 _
  refine wp_region_held_drew (S := (fun y => y.cell? ⟨ip, 8, none⟩ = some (.int .i64 (l : Int)) ∧ y.cell? ⟨ip, 9 + (l + 1) * 2, none⟩ = some (.int .i64 v))) (by kernel_rfl) ⟨d8, dv⟩ (fun hHeld => ?_)
  refine wpAnyH_take (i := 0) (v := ?_) rfl (by kernel_rfl) (by kernel_rfl) (by kernel_rfl) (fun _ _ _ h => h) (Or.inl ⟨by kernel_rfl, ?_⟩) (by assumption) ?_
  rotate_left
  · (intro w hSw; (try dsimp only at hSw); go_simp; try with_reducible rfl)
  try simp only [Act.put, List.getElem_toArray, List.getElem_cons_zero, List.getElem_cons_succ, List.setIfInBounds_toArray, List.set_cons_zero, List.set_cons_succ]
  refine wpAnyH_take (i := 1) (v := ?_) rfl (by kernel_rfl) (by kernel_rfl) (by kernel_rfl) (fun _ _ _ h => h) (Or.inl ⟨by kernel_rfl, ?_⟩) (by assumption) ?_
  rotate_left
  · (intro w hSw; (try dsimp only at hSw); go_simp; try with_reducible rfl)
  try simp only [Act.put, List.getElem_toArray, List.getElem_cons_zero, List.getElem_cons_succ, List.setIfInBounds_toArray, List.set_cons_zero, List.set_cons_succ]
  refine wpAnyH_take (i := 2) (v := ?_) rfl (by kernel_rfl) (by kernel_rfl) (by kernel_rfl) (fun _ _ _ h => h) (Or.inl ⟨by kernel_rfl, ?_⟩) (by assumption) ?_
  rotate_left
  · (intro w hSw; (try dsimp only at hSw); go_simp; try with_reducible rfl)
  try simp only [Act.put, List.getElem_toArray, List.getElem_cons_zero, List.getElem_cons_succ, List.setIfInBounds_toArray, List.set_cons_zero, List.set_cons_succ]
  refine wpAnyH_take (i := 3) (v := ?_) rfl (by kernel_rfl) (by kernel_rfl) (by kernel_rfl) (fun _ _ _ h => h) (Or.inl ⟨by kernel_rfl, ?_⟩) (by assumption) ?_
  rotate_left
  · (intro w hSw; (try dsimp only at hSw); go_simp; try with_reducible rfl)
  try simp only [Act.put, List.getElem_toArray, List.getElem_cons_zero, List.getElem_cons_succ, List.setIfInBounds_toArray, List.set_cons_zero, List.set_cons_succ]
  refine wpAnyH_take (i := 4) (v := .int .i64 (l : Int)) rfl (by kernel_rfl) (by kernel_rfl) (by kernel_rfl) (fun _ _ _ h => h) (Or.inl ⟨by kernel_rfl, ?_⟩) (by assumption) ?_
  · (intro y hSw; have hc := hSw.1; go_simp; try with_reducible rfl)
  try simp only [Act.put, List.getElem_toArray, List.getElem_cons_zero, List.getElem_cons_succ, List.setIfInBounds_toArray, List.set_cons_zero, List.set_cons_succ]
  refine wpAnyH_take (i := 5) (v := ?_) rfl (by kernel_rfl) (by kernel_rfl) (by kernel_rfl) (fun _ _ _ h => h) (Or.inl ⟨by kernel_rfl, ?_⟩) (by assumption) ?_
  rotate_left
  · (intro w hSw; (try dsimp only at hSw); go_simp; try with_reducible rfl)
  try simp only [Act.put, List.getElem_toArray, List.getElem_cons_zero, List.getElem_cons_succ, List.setIfInBounds_toArray, List.set_cons_zero, List.set_cons_succ]
  refine wpAnyH_take (i := 6) (v := ?_) rfl (by kernel_rfl) (by kernel_rfl) (by kernel_rfl) (fun _ _ _ h => h) (Or.inl ⟨by kernel_rfl, ?_⟩) (by assumption) ?_
  rotate_left
  · (intro w hSw; (try dsimp only at hSw); go_simp; try with_reducible rfl)
  try simp only [Act.put, List.getElem_toArray, List.getElem_cons_zero, List.getElem_cons_succ, List.setIfInBounds_toArray, List.set_cons_zero, List.set_cons_succ]
  refine wpAnyH_take (i := 7) (v := ?_) rfl (by kernel_rfl) (by kernel_rfl) (by kernel_rfl) (fun _ _ _ h => h) (Or.inl ⟨by kernel_rfl, ?_⟩) (by assumption) ?_
  rotate_left
  · (intro w hSw; (try dsimp only at hSw); go_simp; try with_reducible rfl)
  try simp only [Act.put, List.getElem_toArray, List.getElem_cons_zero, List.getElem_cons_succ, List.setIfInBounds_toArray, List.set_cons_zero, List.set_cons_succ]
  refine wpAnyH_take (i := 8) (v := ?_) rfl (by kernel_rfl) (by kernel_rfl) (by kernel_rfl) (fun _ _ _ h => h) (Or.inl ⟨by kernel_rfl, ?_⟩) (by assumption) ?_
  rotate_left
  · (intro w hSw; (try dsimp only at hSw); go_simp; try with_reducible rfl)
  try simp only [Act.put, List.getElem_toArray, List.getElem_cons_zero, List.getElem_cons_succ, List.setIfInBounds_toArray, List.set_cons_zero, List.set_cons_succ]
  refine wpAnyH_take (i := 9) (v := ?_) rfl (by kernel_rfl) (by kernel_rfl) (by kernel_rfl) (fun _ _ _ h => h) (Or.inl ⟨by kernel_rfl, ?_⟩) (by assumption) ?_
  rotate_left
  · (intro w hSw; (try dsimp only at hSw); go_simp; try with_reducible rfl)
  try simp only [Act.put, List.getElem_toArray, List.getElem_cons_zero, List.getElem_cons_succ, List.setIfInBounds_toArray, List.set_cons_zero, List.set_cons_succ]
  refine wpAnyH_take (i := 10) (v := .int .i64 (l : Int)) rfl (by kernel_rfl) (by kernel_rfl) (by kernel_rfl) (fun _ _ _ h => h) (Or.inl ⟨by kernel_rfl, ?_⟩) (by assumption) ?_
  · (intro y hSw; have hc := hSw.1; go_simp; try with_reducible rfl)
  try simp only [Act.put, List.getElem_toArray, List.getElem_cons_zero, List.getElem_cons_succ, List.setIfInBounds_toArray, List.set_cons_zero, List.set_cons_succ]
  refine wpAnyH_take (i := 11) (v := .int .i64 ((l : Int) + 1)) rfl (by kernel_rfl) (by kernel_rfl) (by kernel_rfl) (fun _ _ _ h => h) (Or.inl ⟨by kernel_rfl, ?_⟩) (by assumption) ?_
  · (intro y hSw; (try dsimp only at hSw); go_simp; rw [IntKind.wrap_i64]; omega)
  try simp only [Act.put, List.getElem_toArray, List.getElem_cons_zero, List.getElem_cons_succ, List.setIfInBounds_toArray, List.set_cons_zero, List.set_cons_succ]
  refine wpAnyH_take (i := 12) (v := ?_) rfl (by kernel_rfl) (by kernel_rfl) (by kernel_rfl) (fun _ _ _ h => h) (Or.inl ⟨by kernel_rfl, ?_⟩) (by assumption) ?_
  rotate_left
  · (intro w hSw; (try dsimp only at hSw); go_simp; try with_reducible rfl)
  try simp only [Act.put, List.getElem_toArray, List.getElem_cons_zero, List.getElem_cons_succ, List.setIfInBounds_toArray, List.set_cons_zero, List.set_cons_succ]
  refine wpAnyH_take (i := 13) (v := ?_) rfl (by kernel_rfl) (by kernel_rfl) (by kernel_rfl) (fun _ _ _ h => h) (Or.inl ⟨by kernel_rfl, ?_⟩) (by assumption) ?_
  rotate_left
  · (intro w hSw; (try dsimp only at hSw); go_simp; try with_reducible rfl)
  try simp only [Act.put, List.getElem_toArray, List.getElem_cons_zero, List.getElem_cons_succ, List.setIfInBounds_toArray, List.set_cons_zero, List.set_cons_succ]
  refine wpAnyH_take (i := 14) (v := .pointer (some ⟨ip, 9 + (l + 1) * 2, none⟩)) rfl (by kernel_rfl) (by kernel_rfl) (by kernel_rfl) (fun _ _ _ h => h) (Or.inl ⟨by kernel_rfl, ?_⟩) (by assumption) ?_
  · (intro y hSw; (try dsimp only at hSw); go_simp; intro h; exfalso; omega)
  try simp only [Act.put, List.getElem_toArray, List.getElem_cons_zero, List.getElem_cons_succ, List.setIfInBounds_toArray, List.set_cons_zero, List.set_cons_succ]
  refine wpAnyH_take (i := 15) (v := ?_) rfl (by kernel_rfl) (by kernel_rfl) (by kernel_rfl) (fun _ _ _ h => h) (Or.inl ⟨by kernel_rfl, ?_⟩) (by assumption) ?_
  rotate_left
  · (intro w hSw; (try dsimp only at hSw); go_simp; try with_reducible rfl)
  try simp only [Act.put, List.getElem_toArray, List.getElem_cons_zero, List.getElem_cons_succ, List.setIfInBounds_toArray, List.set_cons_zero, List.set_cons_succ]
  refine wpAnyH_take (i := 16) (v := .int .i64 v) rfl (by kernel_rfl) (by kernel_rfl) (by kernel_rfl) (fun _ _ _ h => h) (Or.inl ⟨by kernel_rfl, ?_⟩) (by assumption) ?_
  · (intro y hSw; have hc := hSw.2; go_simp; try with_reducible rfl)
  try simp only [Act.put, List.getElem_toArray, List.getElem_cons_zero, List.getElem_cons_succ, List.setIfInBounds_toArray, List.set_cons_zero, List.set_cons_succ]
  refine wpAnyH_take (i := 17) (v := ?_) rfl (by kernel_rfl) (by kernel_rfl) (by kernel_rfl) (fun _ _ _ h => h) (Or.inl ⟨by kernel_rfl, ?_⟩) (by assumption) ?_
  rotate_left
  · (intro w hSw; (try dsimp only at hSw); go_simp; try with_reducible rfl)
  try simp only [Act.put, List.getElem_toArray, List.getElem_cons_zero, List.getElem_cons_succ, List.setIfInBounds_toArray, List.set_cons_zero, List.set_cons_succ]
  refine wpAnyH_take (i := 18) (v := .func (.func 90) #[.pointer (some ⟨ip, 0, none⟩)] #[]) rfl (by kernel_rfl) (by kernel_rfl) (by kernel_rfl) (fun _ _ _ h => h) (Or.inl ⟨by kernel_rfl, ?_⟩) (by assumption) ?_
  · (intro y hSw; (try dsimp only at hSw); go_simp; try with_reducible rfl)
  try simp only [Act.put, List.getElem_toArray, List.getElem_cons_zero, List.getElem_cons_succ, List.setIfInBounds_toArray, List.set_cons_zero, List.set_cons_succ]
  refine wpAnyH_take (i := 19) (v := ?_) rfl (by kernel_rfl) (by kernel_rfl) (by kernel_rfl) (fun _ _ _ h => h) (Or.inl ⟨by kernel_rfl, ?_⟩) (by assumption) ?_
  rotate_left
  · (intro w hSw; (try dsimp only at hSw); go_simp; try with_reducible rfl)
  try simp only [Act.put, List.getElem_toArray, List.getElem_cons_zero, List.getElem_cons_succ, List.setIfInBounds_toArray, List.set_cons_zero, List.set_cons_succ]
  refine wpAnyH_take (i := 20) (v := ?_) rfl (by kernel_rfl) (by kernel_rfl) (by kernel_rfl) (fun _ _ _ h => h) (Or.inl ⟨by kernel_rfl, ?_⟩) (by assumption) ?_
  rotate_left
  · (intro w hSw; (try dsimp only at hSw); go_simp; try with_reducible rfl)
  try simp only [Act.put, List.getElem_toArray, List.getElem_cons_zero, List.getElem_cons_succ, List.setIfInBounds_toArray, List.set_cons_zero, List.set_cons_succ]
  refine wpAnyH_take (i := 21) (v := .pointer (some ⟨ip, 9 + l * 2, none⟩)) rfl (by kernel_rfl) (by kernel_rfl) (by kernel_rfl) (fun _ _ _ h => h) (Or.inl ⟨by kernel_rfl, ?_⟩) (by assumption) ?_
  · (intro y hSw; (try dsimp only at hSw); go_simp; intro h; exfalso; omega)
  try simp only [Act.put, List.getElem_toArray, List.getElem_cons_zero, List.getElem_cons_succ, List.setIfInBounds_toArray, List.set_cons_zero, List.set_cons_succ]
  refine wpAnyH_take (i := 22) (v := ?_) rfl (by kernel_rfl) (by kernel_rfl) (by kernel_rfl) (fun _ _ _ h => h) (Or.inl ⟨by kernel_rfl, ?_⟩) (by assumption) ?_
  rotate_left
  · (intro w hSw; (try dsimp only at hSw); go_simp; try with_reducible rfl)
  try simp only [Act.put, List.getElem_toArray, List.getElem_cons_zero, List.getElem_cons_succ, List.setIfInBounds_toArray, List.set_cons_zero, List.set_cons_succ]
  refine wpAnyH_ready (rs := [23]) (by kernel_rfl) (by simp) ?_
  refine AllReadyH.cons rfl (fun KK hKK => ?_) AllReadyH.nil
  go_simp
  refine hKK.out _ _ ⟨Blk.cell k2 8 rfl, Blk.cell k2 _ (by rw [ins_at k ip _ hl]; simp [upd, hv])⟩ (fun hHeld1 => ?_)
  clear hKK KK hHeld
  try simp only [Act.put, List.getElem_toArray, List.getElem_cons_zero, List.getElem_cons_succ, List.setIfInBounds_toArray, List.set_cons_zero, List.set_cons_succ]
  refine wpAnyH_take (i := 24) (v := ?_) rfl (by kernel_rfl) (by kernel_rfl) (by kernel_rfl) (fun _ _ _ h => h) (Or.inl ⟨by kernel_rfl, ?_⟩) (by assumption) ?_
  rotate_left
  · (intro w hSw; (try dsimp only at hSw); go_simp; try with_reducible rfl)
  try simp only [Act.put, List.getElem_toArray, List.getElem_cons_zero, List.getElem_cons_succ, List.setIfInBounds_toArray, List.set_cons_zero, List.set_cons_succ]
  refine wpAnyH_take (i := 25) (v := ?_) rfl (by kernel_rfl) (by kernel_rfl) (by kernel_rfl) (fun _ _ _ h => h) (Or.inl ⟨by kernel_rfl, ?_⟩) (by assumption) ?_
  rotate_left
  · (intro w hSw; (try dsimp only at hSw); go_simp; try with_reducible rfl)
  try simp only [Act.put, List.getElem_toArray, List.getElem_cons_zero, List.getElem_cons_succ, List.setIfInBounds_toArray, List.set_cons_zero, List.set_cons_succ]
  refine wpAnyH_ready (rs := [26]) (by kernel_rfl) (by simp) ?_
  refine AllReadyH.cons rfl (fun KK hKK => ?_) AllReadyH.nil
  go_simp
  refine hKK.out _ _ ⟨Blk.cell k3 8 rfl, Blk.cell k3 _ (by rw [ins_at k ip _ hl]; simp [upd, hv])⟩ (fun hHeld2 => ?_)
  clear hKK KK hHeld1
  try simp only [Act.put, List.getElem_toArray, List.getElem_cons_zero, List.getElem_cons_succ, List.setIfInBounds_toArray, List.set_cons_zero, List.set_cons_succ]
  refine wpAnyH_done (by kernel_rfl) ?_ _

  go_wp2_with fail
  go_end0
  refine ⟨rfl, ?_, o2.setCell (p := ⟨ip, 22, none⟩) rfl _⟩
  rw [HD.out, hv]
  exact k3
end Go.Proofs.Ytkpjfdhjkgdcbaa
