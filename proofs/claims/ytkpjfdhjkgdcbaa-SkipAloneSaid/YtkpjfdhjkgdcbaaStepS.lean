/- Step, by the plain step. -/
import Derived.Test.YtkpjfdhjkgdcbaaSkPlain

namespace Go.Proofs.Ytkpjfdhjkgdcbaa
open Go.RowKit

/-- What a step may ask of what it stands on. -/
structure StepOk (k : SkRef) (s : Sk) (x : Ins) : Prop where
  t0 : 0 ≤ x.task
  t1 : x.task < 64
  lv : x.level < 6
  op : x.op ≤ 8
  h0 : 1 ≤ x.height
  h1 : x.height ≤ 6
  wf : x.e.k.Wf
  right : x.e.k.right = true
  val : x.e.val.size ≤ 256
  o1 : x.op = 1 → 0 ≤ s.asked ∧ s.asked ≤ 900000000000
  o2 : x.op = 2 → 0 ≤ s.count ∧ s.count ≤ 900000000000
  nd : x.op = 3 ∨ x.op = 4 ∨ x.op = 7 ∨ x.op = 8 → 1 ≤ x.node ∧ x.node ≤ k.units / 6
  way : x.op = 5 ∨ x.op = 8 → 0 ≤ x.at_ x.level ∧ x.at_ x.level ≤ k.units / 6
  nx : x.op = 5 → 0 ≤ s.next (x.at_ x.level) x.level ∧ s.next (x.at_ x.level) x.level ≤ 9223372036854775807
  th : x.op = 6 → 1 ≤ x.thn x.level ∧ x.thn x.level ≤ k.units / 6
  th7 : x.op = 7 ∨ x.op = 8 → 0 ≤ x.thn x.level ∧ x.thn x.level ≤ 9223372036854775807
theorem down_op (x : Ins) : (down x).op ≤ 8 := by unfold down; split; exact (show 7 ≤ 8 by decide); exact (show 5 ≤ 8 by decide)
theorem ended_ok (y : Ins) : ended y 0 = y := by rw [ended, if_pos rfl]
theorem steps_any {w : World} {k : SkRef} {c : CRef} {S : Mem} {A : Nat → Prop} {ip : Nat} {x : Ins} {s : Sk} (h : InsAt w k ip x) (L : Lx w k c S A) (hi : ¬ A ip) (hn : s.trace.length < trMax) (R : Rel k s S) (ok : StepOk k s x) :
    Calls Try.prog 26 #[.pointer (some ⟨ip, 0, none⟩)] w fun e w' => ∃ S', Rel k (stepS k s x).1 S' ∧ StepQ w k c A ip (stepS k s x).2 S' e w' := by
  have hn' : S.trace.length < trMax := by rw [R.trace]; exact hn
  have room := L.room
  have hop := ok.op
  have hk64 : x.e.k.key.size ≤ 64 := (of_decide_eq_true ok.right).2.1
  have hc : x.op = 0 ∨ x.op = 1 ∨ x.op = 2 ∨ x.op = 3 ∨ x.op = 4 ∨ x.op = 5 ∨ x.op = 6 ∨ x.op = 7 ∨ x.op = 8 := by omega
  rcases hc with hx | hx | hx | hx | hx | hx | hx | hx | hx
  · have e0 : stepS k s x = (s, x) := by simp only [stepS, hx]
    rw [e0]
    exact (step_end h L hx).mono fun e w' q => ⟨S, R, q⟩
  · have o := ok.o1 hx
    have e0 : stepS k s x = ({ s.note ⟨x.task, 5, k.first⟩ with asked := s.asked + needI x }, ended { x with op := 2 } (if k.units < s.asked + needI x then 13 else 0)) := by simp only [stepS, hx]
    rw [e0]
    have hc := itake_any h L hi hn' ok.t0 ok.t1 ok.h0 ok.h1 hk64 ok.val (by rw [R.asked]; exact o.1) (by rw [R.asked]; omega) (s.asked + needI x) (by rw [R.asked])
    exact (step_call h hi (by rw [hx]; rfl) (by omega) hc (by rw [show ({ x with op := 2 } : Ins).op = 2 from rfl]; decide) hop (by omega)).mono fun e w' q => ⟨_, (R.note ⟨x.task, 5, k.first⟩).ask ⟨room.f0, room.p0, room.f1, room.p1, room.u0⟩ (s.asked + needI x), q⟩
  · have o := ok.o2 hx
    have e0 : stepS k s x = ({ s.note ⟨x.task, 5, k.first + 1⟩ with count := s.count + 1 }, { x with node := s.count + 1, op := 3 }) := by simp only [stepS, hx]
    rw [e0]
    have hc := inumber_any h L hi hn' ok.t0 ok.t1 (by rw [R.count]; exact o.1) (s.count + 1) (by omega) (by rw [R.count])
    exact (step_call h hi (by rw [hx]; rfl) (by omega) hc (show (3 : Nat) ≤ 8 by decide) hop (by omega)).mono fun e w' q => ⟨_, (R.note ⟨x.task, 5, k.first + 1⟩).counted ⟨room.f0, room.p0, room.f1, room.p1, room.u0⟩ (s.count + 1), by rw [ended_ok] at q; exact q⟩
  · have o := ok.nd (.inl hx)
    have e0 : stepS k s x = ({ s.note ⟨x.task, 7, placeI k x.node⟩ with keys := fun m => if m = x.node then x.e.k else s.keys m }, { x with op := 4 }) := by simp only [stepS, hx]
    rw [e0]
    have hc := ikey_any h L hi hn' ok.t0 ok.t1 o.1 o.2 ok.wf ok.right _ rfl
    exact (step_call h hi (by rw [hx]; rfl) (by omega) hc (show (4 : Nat) ≤ 8 by decide) hop (by omega)).mono fun e w' q => ⟨_, (R.note ⟨x.task, 7, placeI k x.node⟩).keyed ⟨room.f0, room.p0, room.f1, room.p1, room.u0⟩ o.1 o.2 x.e.k ok.wf ok.right, by rw [ended_ok] at q; exact q⟩
  · have o := ok.nd (.inr (.inl hx))
    have e0 : stepS k s x = ({ s.note ⟨x.task, 7, placeI k x.node + 1⟩ with vals := fun m => if m = x.node then x.e.val else s.vals m }, { x with level := 5, op := 5 }) := by simp only [stepS, hx]
    rw [e0]
    have hc := ival_any h L hi hn' ok.t0 ok.t1 o.1 o.2 ok.val _ rfl
    exact (step_call h hi (by rw [hx]; rfl) (by omega) hc (show (5 : Nat) ≤ 8 by decide) hop (by omega)).mono fun e w' q => ⟨_, (R.note ⟨x.task, 7, placeI k x.node + 1⟩).valued ⟨room.f0, room.p0, room.f1, room.p1, room.u0⟩ o.1 o.2 x.e.val, by rw [ended_ok] at q; exact q⟩
  · have o := ok.way (.inl hx)
    have o2 := ok.nx hx
    have e0 : stepS k s x = (s.note ⟨x.task, 1, cellI k (x.at_ x.level) x.level⟩, if s.next (x.at_ x.level) x.level = 0 then down { x with thn := upd x.thn x.level (s.next (x.at_ x.level) x.level), op := 6 } else { x with thn := upd x.thn x.level (s.next (x.at_ x.level) x.level), op := 6 }) := by simp only [stepS, hx]
    rw [e0]
    have hc := iload_any h L hi hn' ok.t0 ok.t1 ok.lv _ rfl o.1 o.2 (s.next (x.at_ x.level) x.level) (R.next _ _ o.1 o.2 ok.lv) o2.1 o2.2 _ rfl
    exact (step_call h hi (by rw [hx]; rfl) (by omega) hc (by split; exact down_op _; exact (show (6 : Nat) ≤ 8 by decide)) hop (by omega)).mono fun e w' q => ⟨_, R.note ⟨x.task, 1, cellI k (x.at_ x.level) x.level⟩, by rw [ended_ok] at q; exact q⟩
  · have o := ok.th hx
    have e0 : stepS k s x = (s.note ⟨x.task, 6, placeI k (x.thn x.level)⟩, if (s.keys (x.thn x.level)).cmp x.e.k < 0 then { x with at_ := upd x.at_ x.level (x.thn x.level), op := 5 } else down x) := by simp only [stepS, hx]
    rw [e0]
    have hc := ilook_any h L hi hn' ok.t0 ok.t1 ok.lv _ rfl o.1 o.2 (s.keys (x.thn x.level)) (R.key _ o.1 o.2) _ rfl
    exact (step_call h hi (by rw [hx]; rfl) (by omega) hc (by split; exact (show (5 : Nat) ≤ 8 by decide); exact down_op _) hop (by omega)).mono fun e w' q => ⟨_, R.note ⟨x.task, 6, placeI k (x.thn x.level)⟩, by rw [ended_ok] at q; exact q⟩
  · have o := ok.nd (.inr (.inr (.inl hx)))
    have o2 := ok.th7 (.inl hx)
    have e0 : stepS k s x = ((s.note ⟨x.task, 2, cellI k x.node x.level⟩).link x.node x.level (x.thn x.level), { x with again := true, op := 8 }) := by simp only [stepS, hx]
    rw [e0]
    have hc := istore_any h L hi hn' ok.t0 ok.t1 ok.lv o.1 o.2 _ rfl o2.1 o2.2 _ rfl
    exact (step_call h hi (by rw [hx]; rfl) (by omega) hc (show (8 : Nat) ≤ 8 by decide) hop (by omega)).mono fun e w' q => ⟨_, (R.note ⟨x.task, 2, cellI k x.node x.level⟩).link ⟨room.f0, room.p0, room.f1, room.p1, room.u0⟩ (by omega) o.2 ok.lv _, by rw [ended_ok] at q; exact q⟩
  · have o := ok.nd (.inr (.inr (.inr hx)))
    have o2 := ok.th7 (.inr hx)
    have o3 := ok.way (.inr hx)
    have e0 : stepS k s x = (if s.next (x.at_ x.level) x.level = x.thn x.level then (s.note ⟨x.task, 3, cellI k (x.at_ x.level) x.level⟩).link (x.at_ x.level) x.level x.node else s.note ⟨x.task, 4, cellI k (x.at_ x.level) x.level⟩, swapped x (decide (s.next (x.at_ x.level) x.level = x.thn x.level))) := by simp only [stepS, hx]
    rw [e0]
    have hc := iswap_any h L hi hn' ok.t0 ok.t1 ok.lv o.1 o.2 _ rfl o3.1 o3.2 _ rfl o2.1 o2.2 _ rfl (decide (s.next (x.at_ x.level) x.level = x.thn x.level)) (by rw [R.next _ _ o3.1 o3.2 ok.lv]; rfl) _ rfl
    refine (step_call h hi (by rw [hx]; rfl) (by omega) hc (by unfold swapped; split; split; exact (show (0 : Nat) ≤ 8 by decide); exact (show (7 : Nat) ≤ 8 by decide); exact (show (5 : Nat) ≤ 8 by decide)) hop (by omega)).mono fun e w' q => ?_
    rw [ended_ok] at q
    refine ⟨_, ?_, q⟩
    by_cases hq : s.next (x.at_ x.level) x.level = x.thn x.level
    · rw [if_pos hq]
      simp only [hq, decide_true, if_true]
      exact (R.note ⟨x.task, 3, cellI k (x.at_ x.level) x.level⟩).link ⟨room.f0, room.p0, room.f1, room.p1, room.u0⟩ o3.1 o3.2 ok.lv _
    · rw [if_neg hq]
      simp only [hq, decide_false]
      exact R.note ⟨x.task, 4, cellI k (x.at_ x.level) x.level⟩
end Go.Proofs.Ytkpjfdhjkgdcbaa
