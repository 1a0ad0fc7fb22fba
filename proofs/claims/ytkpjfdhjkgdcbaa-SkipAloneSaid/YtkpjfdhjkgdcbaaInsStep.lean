/- An insert's Step. -/
import Derived.Test.YtkpjfdhjkgdcbaaInsSwap

namespace Go.Proofs.Ytkpjfdhjkgdcbaa
open Go.RowKit

theorem eqIn_nil (P : Program) (w : World) (d : Nat) (t : TypeId) {p r : Array TypeId} {v : Bool} (h : P.underlying t = some (.func p r v)) : (Op.equalIn (d + 1) t .nilFunc .nilFunc).run P w = .ok true w := by
  simp [Op.equalIn, run_underlying h]
theorem eqIn_func (P : Program) (w : World) (d : Nat) (t : TypeId) {p r : Array TypeId} {v : Bool} (h : P.underlying t = some (.func p r v)) (f : Fn) (a b : Array Value) : (Op.equalIn (d + 1) t (.func f a b) .nilFunc).run P w = .ok false w := by
  simp [Op.equalIn, run_underlying h]
theorem eql_nil (w : World) : (binOp .eql 104 .nilFunc .nilFunc).run Try.prog w = .ok (.bool true) w := by
  have h : (Op.equal 104 .nilFunc .nilFunc).run Try.prog w = .ok true w := eqIn_nil _ w 9999 104 Try.underlying104
  simp only [binOp]
  simp [h]
theorem eql_func (w : World) (f : Fn) (a b : Array Value) : (binOp .eql 104 (.func f a b) .nilFunc).run Try.prog w = .ok (.bool false) w := by
  have h : (Op.equal 104 (.func f a b) .nilFunc).run Try.prog w = .ok false w := eqIn_func _ w 9999 104 Try.underlying104 f a b
  simp only [binOp]
  simp [h]
theorem nil_any {w : World} (ip : Nat) {m : Nat} (h : m ≤ 8) : (binOp .eql 104 (stepV ip m) .nilFunc).run Try.prog w = .ok (.bool (decide (m = 0))) w := by
  have : m = 0 ∨ m = 1 ∨ m = 2 ∨ m = 3 ∨ m = 4 ∨ m = 5 ∨ m = 6 ∨ m = 7 ∨ m = 8 := by omega
  rcases this with rfl | rfl | rfl | rfl | rfl | rfl | rfl | rfl | rfl
  · exact eql_nil w
  all_goals exact eql_func w _ _ _
theorem guard_any (ip : Nat) {m : Nat} (h : m ≤ 8) (a b : Operand) (v : Value) : eqGuard .eql 104 a b (stepV ip m) v = pure () := by
  have : m = 0 ∨ m = 1 ∨ m = 2 ∨ m = 3 ∨ m = 4 ∨ m = 5 ∨ m = 6 ∨ m = 7 ∨ m = 8 := by omega
  rcases this with rfl | rfl | rfl | rfl | rfl | rfl | rfl | rfl | rfl <;> rfl
/-- What Step leaves of an insert, where its step left y and said err. -/
def ended (y : Ins) (err : Int) : Ins := if err = 0 then y else { y with op := 0, err := err }
def StepQ (w : World) (k : SkRef) (c : CRef) (A : Nat → Prop) (ip : Nat) (y : Ins) (S' : Mem) (e : Ending) (w' : World) : Prop :=
  e = .returned (.tuple #[.bool (decide (y.op = 0)), .int .i64 y.err]) ∧ InsAt w' k ip y ∧ Lx w' k c S' A ∧ Only (fun j => A j ∨ j = ip) w w'
set_option maxRecDepth 100000 in
set_option maxHeartbeats 2000000 in
theorem step_end {w : World} {k : SkRef} {c : CRef} {S : Mem} {A : Nat → Prop} {ip : Nat} {x : Ins} (h : InsAt w k ip x) (L : Lx w k c S A) (hop : x.op = 0) :
    Calls Try.prog 26 #[.pointer (some ⟨ip, 0, none⟩)] w (StepQ w k c A ip x S) := by
  have c0 := Blk.cell h 0 (v := .pointer (some ⟨k.lp, 0, none⟩)) rfl
  have c22 := Blk.cell h 22 (v := stepV ip x.op) rfl
  rw [hop] at c22
  have c22' : w.cell? ⟨ip, 22, none⟩ = some .nilFunc := c22
  have kd : InsAt w.drew k ip x := Blk.keep h rfl
  clear c22
  have hnil : (binOp .eql 104 .nilFunc .nilFunc).run Try.prog w = .ok (.bool true) w := nil_any (w := w) ip (m := 0) (by omega)
  go_enter Try.func26, Try.ntmps26
  go_wp2
  refine wp_region_held_drew (S := (fun y => InsAt y k ip x)) (by kernel_rfl) kd (fun hHeld => ?_)
  refine wpAnyH_take (i := 0) (v := ?_) rfl (by kernel_rfl) (by kernel_rfl) (by kernel_rfl) (fun _ _ _ h => h) (Or.inl ⟨by kernel_rfl, ?_⟩) (by assumption) ?_
  rotate_left
  · (intro w hSw; (try dsimp only at hSw); go_simp; try with_reducible rfl)
  try simp only [Act.put, List.getElem_toArray, List.getElem_cons_zero, List.getElem_cons_succ, List.setIfInBounds_toArray, List.set_cons_zero, List.set_cons_succ]
  refine wpAnyH_take (i := 1) (v := ?_) rfl (by kernel_rfl) (by kernel_rfl) (by kernel_rfl) (fun _ _ _ h => h) (Or.inl ⟨by kernel_rfl, ?_⟩) (by assumption) ?_
  rotate_left
  · (intro w hSw; (try dsimp only at hSw); go_simp; try with_reducible rfl)
  try simp only [Act.put, List.getElem_toArray, List.getElem_cons_zero, List.getElem_cons_succ, List.setIfInBounds_toArray, List.set_cons_zero, List.set_cons_succ]
  refine wpAnyH_take (i := 2) (v := ?_) rfl (by kernel_rfl) (by kernel_rfl) (by kernel_rfl) (fun _ _ _ h => h) (Or.inl ⟨by kernel_rfl, ?_⟩) (by assumption) ?_
  rotate_left
  · (intro w hSw; (try dsimp only at hSw); go_simp; try with_reducible rfl)
  try simp only [Act.put, List.getElem_toArray, List.getElem_cons_zero, List.getElem_cons_succ, List.setIfInBounds_toArray, List.set_cons_zero, List.set_cons_succ]
  refine wpAnyH_take (i := 3) (v := .int .i64 x.err) rfl (by kernel_rfl) (by kernel_rfl) (by kernel_rfl) (fun _ _ _ h => h) (Or.inl ⟨by kernel_rfl, ?_⟩) (by assumption) ?_
  · (intro y hSw; have hc := Blk.cell hSw 23 (v := .int .i64 x.err) rfl; go_simp; try with_reducible rfl)
  try simp only [Act.put, List.getElem_toArray, List.getElem_cons_zero, List.getElem_cons_succ, List.setIfInBounds_toArray, List.set_cons_zero, List.set_cons_succ]
  refine wpAnyH_take (i := 4) (v := ?_) rfl (by kernel_rfl) (by kernel_rfl) (by kernel_rfl) (fun _ _ _ h => h) (Or.inl ⟨by kernel_rfl, ?_⟩) (by assumption) ?_
  rotate_left
  · (intro w hSw; (try dsimp only at hSw); go_simp; try with_reducible rfl)
  try simp only [Act.put, List.getElem_toArray, List.getElem_cons_zero, List.getElem_cons_succ, List.setIfInBounds_toArray, List.set_cons_zero, List.set_cons_succ]
  refine wpAnyH_take (i := 5) (v := ?_) rfl (by kernel_rfl) (by kernel_rfl) (by kernel_rfl) (fun _ _ _ h => h) (Or.inl ⟨by kernel_rfl, ?_⟩) (by assumption) ?_
  rotate_left
  · (intro w hSw; (try dsimp only at hSw); go_simp; try with_reducible rfl)
  try simp only [Act.put, List.getElem_toArray, List.getElem_cons_zero, List.getElem_cons_succ, List.setIfInBounds_toArray, List.set_cons_zero, List.set_cons_succ]
  refine wpAnyH_done (by kernel_rfl) ?_ _

  go_wp2_with fail
  go_ret2
  exact ⟨by rw [hop]; rfl, kd, L.quiet ⟨⟨1, rfl⟩⟩, (Only.refl _ _).drew⟩
set_option maxRecDepth 100000 in
set_option maxHeartbeats 2000000 in
theorem step_call {w : World} {k : SkRef} {c : CRef} {S' : Mem} {A : Nat → Prop} {ip : Nat} {x y : Ins} {err : Int} {n : Nat} (h : InsAt w k ip x) (hi : ¬ A ip) (hst : stepV ip x.op = .func (.func n) #[.pointer (some ⟨ip, 0, none⟩)] #[]) (hnn : n = 45 ∨ n = 65 ∨ n = 81 ∨ n = 87 ∨ n = 90 ∨ n = 93 ∨ n = 96 ∨ n = 98)
    (hcall : Calls Try.prog n #[.pointer (some ⟨ip, 0, none⟩)] w (StepP w k c A ip y S' err)) (hy : y.op ≤ 8) (hx : x.op ≤ 8) (hx0 : ¬ x.op = 0) :
    Calls Try.prog 26 #[.pointer (some ⟨ip, 0, none⟩)] w (StepQ w k c A ip (ended y err) S') := by
  have c0 := Blk.cell h 0 (v := .pointer (some ⟨k.lp, 0, none⟩)) rfl
  have c22 := Blk.cell h 22 (v := stepV ip x.op) rfl
  rw [hst] at c22
  have hnil := nil_any (w := w) ip hx
  rw [hst, decide_eq_false hx0] at hnil
  have HC := Lib.hid hcall
  clear hcall h hst
  rcases hnn with rfl | rfl | rfl | rfl | rfl | rfl | rfl | rfl
  all_goals
    go_enter Try.func26, Try.ntmps26
    go_upto_region 6 with ((first | go_at_call 45 | go_at_call 65 | go_at_call 81 | go_at_call 87 | go_at_call 90 | go_at_call 93 | go_at_call 96 | go_at_call 98); refine HC.out.mono ?_; rintro e w2 ⟨rfl, k2, L2, o2⟩)
    obtain ⟨zz, hzz⟩ : ∃ zz, ended y err = zz := ⟨_, rfl⟩
    have hop : zz.op ≤ 8 := by rw [← hzz, ended]; split; exact hy; exact Nat.zero_le _
    by_cases hz : err = 0
    · have hzy : y = zz := by rw [← hzz, ended, if_pos hz]
      subst hzy
      subst hz
      have kz : InsAt w2.drew k ip y := Blk.keep k2 rfl
      clear k2
      rw [hzz]
      go_wp2
      refine wp_region_held_drew (S := (fun W => InsAt W k ip y)) (by kernel_rfl) kz (fun hHeld => ?_)
      refine wpAnyH_take (i := 0) (v := ?_) rfl (by kernel_rfl) (by kernel_rfl) (by kernel_rfl) (fun _ _ _ h => h) (Or.inl ⟨by kernel_rfl, ?_⟩) (by assumption) ?_
      rotate_left
      · (intro w hSw; (try dsimp only at hSw); go_simp; try with_reducible rfl)
      try simp only [Act.put, List.getElem_toArray, List.getElem_cons_zero, List.getElem_cons_succ, List.setIfInBounds_toArray, List.set_cons_zero, List.set_cons_succ]
      refine wpAnyH_take (i := 1) (v := ?_) rfl (by kernel_rfl) (by kernel_rfl) (by kernel_rfl) (fun _ _ _ h => h) (Or.inl ⟨by kernel_rfl, ?_⟩) (by assumption) ?_
      rotate_left
      · (intro w hSw; (try dsimp only at hSw); go_simp; try with_reducible rfl)
      try simp only [Act.put, List.getElem_toArray, List.getElem_cons_zero, List.getElem_cons_succ, List.setIfInBounds_toArray, List.set_cons_zero, List.set_cons_succ]
      refine wpAnyH_take (i := 2) (v := ?_) rfl (by kernel_rfl) (by kernel_rfl) (by kernel_rfl) (fun _ _ _ h => h) (Or.inl ⟨by kernel_rfl, ?_⟩) (by assumption) ?_
      rotate_left
      · (intro w hSw; (try dsimp only at hSw); go_simp; try with_reducible rfl)
      try simp only [Act.put, List.getElem_toArray, List.getElem_cons_zero, List.getElem_cons_succ, List.setIfInBounds_toArray, List.set_cons_zero, List.set_cons_succ]
      refine wpAnyH_take (i := 3) (v := stepV ip y.op) rfl (by kernel_rfl) (by kernel_rfl) (by kernel_rfl) (fun _ _ _ h => h) (Or.inl ⟨by kernel_rfl, ?_⟩) (by assumption) ?_
      · (intro W hSw; have hc := Blk.cell hSw 22 (v := stepV ip y.op) rfl; go_simp; try with_reducible rfl)
      try simp only [Act.put, List.getElem_toArray, List.getElem_cons_zero, List.getElem_cons_succ, List.setIfInBounds_toArray, List.set_cons_zero, List.set_cons_succ]
      refine wpAnyH_take (i := 4) (v := .bool (decide (y.op = 0))) rfl (by kernel_rfl) (by kernel_rfl) (by kernel_rfl) (fun _ _ _ h => h) (Or.inl ⟨by kernel_rfl, ?_⟩) (by assumption) ?_
      · (intro W hSw; (try dsimp only at hSw); have hx := nil_any (w := W) ip hop; have hg := guard_any ip hop; go_simp; try with_reducible rfl)
      try simp only [Act.put, List.getElem_toArray, List.getElem_cons_zero, List.getElem_cons_succ, List.setIfInBounds_toArray, List.set_cons_zero, List.set_cons_succ]
      refine wpAnyH_take (i := 5) (v := ?_) rfl (by kernel_rfl) (by kernel_rfl) (by kernel_rfl) (fun _ _ _ h => h) (Or.inl ⟨by kernel_rfl, ?_⟩) (by assumption) ?_
      rotate_left
      · (intro w hSw; (try dsimp only at hSw); go_simp; try with_reducible rfl)
      try simp only [Act.put, List.getElem_toArray, List.getElem_cons_zero, List.getElem_cons_succ, List.setIfInBounds_toArray, List.set_cons_zero, List.set_cons_succ]
      refine wpAnyH_take (i := 6) (v := ?_) rfl (by kernel_rfl) (by kernel_rfl) (by kernel_rfl) (fun _ _ _ h => h) (Or.inl ⟨by kernel_rfl, ?_⟩) (by assumption) ?_
      rotate_left
      · (intro w hSw; (try dsimp only at hSw); go_simp; try with_reducible rfl)
      try simp only [Act.put, List.getElem_toArray, List.getElem_cons_zero, List.getElem_cons_succ, List.setIfInBounds_toArray, List.set_cons_zero, List.set_cons_succ]
      refine wpAnyH_take (i := 7) (v := ?_) rfl (by kernel_rfl) (by kernel_rfl) (by kernel_rfl) (fun _ _ _ h => h) (Or.inl ⟨by kernel_rfl, ?_⟩) (by assumption) ?_
      rotate_left
      · (intro w hSw; (try dsimp only at hSw); go_simp; try with_reducible rfl)
      try simp only [Act.put, List.getElem_toArray, List.getElem_cons_zero, List.getElem_cons_succ, List.setIfInBounds_toArray, List.set_cons_zero, List.set_cons_succ]
      refine wpAnyH_take (i := 8) (v := .int .i64 y.err) rfl (by kernel_rfl) (by kernel_rfl) (by kernel_rfl) (fun _ _ _ h => h) (Or.inl ⟨by kernel_rfl, ?_⟩) (by assumption) ?_
      · (intro W hSw; have hc := Blk.cell hSw 23 (v := .int .i64 y.err) rfl; go_simp; try with_reducible rfl)
      try simp only [Act.put, List.getElem_toArray, List.getElem_cons_zero, List.getElem_cons_succ, List.setIfInBounds_toArray, List.set_cons_zero, List.set_cons_succ]
      refine wpAnyH_take (i := 9) (v := ?_) rfl (by kernel_rfl) (by kernel_rfl) (by kernel_rfl) (fun _ _ _ h => h) (Or.inl ⟨by kernel_rfl, ?_⟩) (by assumption) ?_
      rotate_left
      · (intro w hSw; (try dsimp only at hSw); go_simp; try with_reducible rfl)
      try simp only [Act.put, List.getElem_toArray, List.getElem_cons_zero, List.getElem_cons_succ, List.setIfInBounds_toArray, List.set_cons_zero, List.set_cons_succ]
      refine wpAnyH_take (i := 10) (v := ?_) rfl (by kernel_rfl) (by kernel_rfl) (by kernel_rfl) (fun _ _ _ h => h) (Or.inl ⟨by kernel_rfl, ?_⟩) (by assumption) ?_
      rotate_left
      · (intro w hSw; (try dsimp only at hSw); go_simp; try with_reducible rfl)
      try simp only [Act.put, List.getElem_toArray, List.getElem_cons_zero, List.getElem_cons_succ, List.setIfInBounds_toArray, List.set_cons_zero, List.set_cons_succ]
      refine wpAnyH_done (by kernel_rfl) ?_ _

      go_wp2_with fail
      go_ret2
      exact ⟨rfl, kz, L2.quiet ⟨⟨1, rfl⟩⟩, o2.drew⟩
    · have hz0 : (err == 0) = false := by simpa using hz
      have hzy : ended y err = { y with op := 0, err := err } := by rw [ended, if_neg hz]
      rw [hzy] at hzz
      have c22b := Blk.cell k2 22 (v := stepV ip y.op) rfl
      have fzb := Blk.frozen k2
      obtain ⟨w3, hw3⟩ : ∃ w3, w2.setCell ⟨ip, 22, none⟩ .nilFunc = w3 := ⟨_, rfl⟩
      have k3 : InsAt w3 k ip { y with op := 0 } := by rw [← hw3]; exact InsAt.setop k2 0
      have L3 := L2.poke k2 hi 22 .nilFunc
      rw [hw3] at L3
      have o3 : Only (fun j => A j ∨ j = ip) w w3 := by rw [← hw3]; exact o2.trans (poke_only w2 ip 22 _ A)
      have c23 := Blk.cell k3 23 (v := .int .i64 y.err) rfl
      have fz3 := Blk.frozen k3
      obtain ⟨w4, hw4⟩ : ∃ w4, w3.setCell ⟨ip, 23, none⟩ (.int .i64 err) = w4 := ⟨_, rfl⟩
      have k4 : InsAt w4 k ip zz := by unfold InsAt; rw [← hw4, ← hzz, ← ins_set_err k ip { y with op := 0 } err]; exact Blk.set k3 23 _
      have L4 := L3.poke k3 hi 23 (.int .i64 err)
      rw [hw4] at L4
      have o4 : Only (fun j => A j ∨ j = ip) w w4 := by rw [← hw4]; exact o3.trans (poke_only w3 ip 23 _ A)
      have kz : InsAt w4.drew k ip zz := Blk.keep k4 rfl
      have HZ := Lib.hid hzz
      have HZY := Lib.hid hzy
      clear hzz hzy k2 k3 L2 L3 o2 o3 k4
      go_wp2
      refine wp_region_held_drew (S := (fun W => InsAt W k ip zz)) (by kernel_rfl) kz (fun hHeld => ?_)
      refine wpAnyH_take (i := 0) (v := ?_) rfl (by kernel_rfl) (by kernel_rfl) (by kernel_rfl) (fun _ _ _ h => h) (Or.inl ⟨by kernel_rfl, ?_⟩) (by assumption) ?_
      rotate_left
      · (intro w hSw; (try dsimp only at hSw); go_simp; try with_reducible rfl)
      try simp only [Act.put, List.getElem_toArray, List.getElem_cons_zero, List.getElem_cons_succ, List.setIfInBounds_toArray, List.set_cons_zero, List.set_cons_succ]
      refine wpAnyH_take (i := 1) (v := ?_) rfl (by kernel_rfl) (by kernel_rfl) (by kernel_rfl) (fun _ _ _ h => h) (Or.inl ⟨by kernel_rfl, ?_⟩) (by assumption) ?_
      rotate_left
      · (intro w hSw; (try dsimp only at hSw); go_simp; try with_reducible rfl)
      try simp only [Act.put, List.getElem_toArray, List.getElem_cons_zero, List.getElem_cons_succ, List.setIfInBounds_toArray, List.set_cons_zero, List.set_cons_succ]
      refine wpAnyH_take (i := 2) (v := ?_) rfl (by kernel_rfl) (by kernel_rfl) (by kernel_rfl) (fun _ _ _ h => h) (Or.inl ⟨by kernel_rfl, ?_⟩) (by assumption) ?_
      rotate_left
      · (intro w hSw; (try dsimp only at hSw); go_simp; try with_reducible rfl)
      try simp only [Act.put, List.getElem_toArray, List.getElem_cons_zero, List.getElem_cons_succ, List.setIfInBounds_toArray, List.set_cons_zero, List.set_cons_succ]
      refine wpAnyH_take (i := 3) (v := stepV ip zz.op) rfl (by kernel_rfl) (by kernel_rfl) (by kernel_rfl) (fun _ _ _ h => h) (Or.inl ⟨by kernel_rfl, ?_⟩) (by assumption) ?_
      · (intro W hSw; have hc := Blk.cell hSw 22 (v := stepV ip zz.op) rfl; go_simp; try with_reducible rfl)
      try simp only [Act.put, List.getElem_toArray, List.getElem_cons_zero, List.getElem_cons_succ, List.setIfInBounds_toArray, List.set_cons_zero, List.set_cons_succ]
      refine wpAnyH_take (i := 4) (v := .bool (decide (zz.op = 0))) rfl (by kernel_rfl) (by kernel_rfl) (by kernel_rfl) (fun _ _ _ h => h) (Or.inl ⟨by kernel_rfl, ?_⟩) (by assumption) ?_
      · (intro W hSw; (try dsimp only at hSw); have hx := nil_any (w := W) ip hop; have hg := guard_any ip hop; go_simp; try with_reducible rfl)
      try simp only [Act.put, List.getElem_toArray, List.getElem_cons_zero, List.getElem_cons_succ, List.setIfInBounds_toArray, List.set_cons_zero, List.set_cons_succ]
      refine wpAnyH_take (i := 5) (v := ?_) rfl (by kernel_rfl) (by kernel_rfl) (by kernel_rfl) (fun _ _ _ h => h) (Or.inl ⟨by kernel_rfl, ?_⟩) (by assumption) ?_
      rotate_left
      · (intro w hSw; (try dsimp only at hSw); go_simp; try with_reducible rfl)
      try simp only [Act.put, List.getElem_toArray, List.getElem_cons_zero, List.getElem_cons_succ, List.setIfInBounds_toArray, List.set_cons_zero, List.set_cons_succ]
      refine wpAnyH_take (i := 6) (v := ?_) rfl (by kernel_rfl) (by kernel_rfl) (by kernel_rfl) (fun _ _ _ h => h) (Or.inl ⟨by kernel_rfl, ?_⟩) (by assumption) ?_
      rotate_left
      · (intro w hSw; (try dsimp only at hSw); go_simp; try with_reducible rfl)
      try simp only [Act.put, List.getElem_toArray, List.getElem_cons_zero, List.getElem_cons_succ, List.setIfInBounds_toArray, List.set_cons_zero, List.set_cons_succ]
      refine wpAnyH_take (i := 7) (v := ?_) rfl (by kernel_rfl) (by kernel_rfl) (by kernel_rfl) (fun _ _ _ h => h) (Or.inl ⟨by kernel_rfl, ?_⟩) (by assumption) ?_
      rotate_left
      · (intro w hSw; (try dsimp only at hSw); go_simp; try with_reducible rfl)
      try simp only [Act.put, List.getElem_toArray, List.getElem_cons_zero, List.getElem_cons_succ, List.setIfInBounds_toArray, List.set_cons_zero, List.set_cons_succ]
      refine wpAnyH_take (i := 8) (v := .int .i64 zz.err) rfl (by kernel_rfl) (by kernel_rfl) (by kernel_rfl) (fun _ _ _ h => h) (Or.inl ⟨by kernel_rfl, ?_⟩) (by assumption) ?_
      · (intro W hSw; have hc := Blk.cell hSw 23 (v := .int .i64 zz.err) rfl; go_simp; try with_reducible rfl)
      try simp only [Act.put, List.getElem_toArray, List.getElem_cons_zero, List.getElem_cons_succ, List.setIfInBounds_toArray, List.set_cons_zero, List.set_cons_succ]
      refine wpAnyH_take (i := 9) (v := ?_) rfl (by kernel_rfl) (by kernel_rfl) (by kernel_rfl) (fun _ _ _ h => h) (Or.inl ⟨by kernel_rfl, ?_⟩) (by assumption) ?_
      rotate_left
      · (intro w hSw; (try dsimp only at hSw); go_simp; try with_reducible rfl)
      try simp only [Act.put, List.getElem_toArray, List.getElem_cons_zero, List.getElem_cons_succ, List.setIfInBounds_toArray, List.set_cons_zero, List.set_cons_succ]
      refine wpAnyH_take (i := 10) (v := ?_) rfl (by kernel_rfl) (by kernel_rfl) (by kernel_rfl) (fun _ _ _ h => h) (Or.inl ⟨by kernel_rfl, ?_⟩) (by assumption) ?_
      rotate_left
      · (intro w hSw; (try dsimp only at hSw); go_simp; try with_reducible rfl)
      try simp only [Act.put, List.getElem_toArray, List.getElem_cons_zero, List.getElem_cons_succ, List.setIfInBounds_toArray, List.set_cons_zero, List.set_cons_succ]
      refine wpAnyH_done (by kernel_rfl) ?_ _

      go_wp2_with fail
      go_ret2
      exact ⟨by rw [HZY.out, HZ.out]; rfl, by rw [HZY.out, HZ.out]; exact kz, L4.quiet ⟨⟨1, rfl⟩⟩, o4.drew⟩
end Go.Proofs.Ytkpjfdhjkgdcbaa
