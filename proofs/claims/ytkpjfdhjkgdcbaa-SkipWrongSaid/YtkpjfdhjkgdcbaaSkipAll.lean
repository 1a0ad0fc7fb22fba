/- Begin, Next and Key of whatever task, node, level, height and entry, of a list that is empty. -/
import Derived.Test.YtkpjfdhjkgdcbaaAwake19
import Derived.Test.YtkpjfdhjkgdcbaaSkipBad
import Derived.Test.YtkpjfdhjkgdcbaaSkNewNo
import Derived.Test.YtkpjfdhjkgdcbaaLow
import Derived.Test.YtkpjfdhjkgdcbaaNone
namespace Go.Proofs.Ytkpjfdhjkgdcbaa
open Go.RowKit

theorem LW.quiet {w0 w w' : World} {k : SkRef} {c : CRef} {s : Sk} {A : Nat → Prop} (h : LW w0 w k c s A) (hq : Quiet w w') : LW w0 w' k c s A := by
  obtain ⟨S, L, R⟩ := h.ex
  exact ⟨⟨S, L.quiet hq, R⟩, h.base, h.below.trans (hq.below _)⟩
theorem Sk.more_more (s : Sk) (t u : List Acc) : (s.more t).more u = s.more (t ++ u) := by unfold Sk.more; simp
def beginE (task height : Int) (e : En) : Int := if (0 ≤ task ∧ task < 64) ∧ 1 ≤ height ∧ height ≤ 6 then (if e.right = true then 0 else 30) else 2
theorem begin_all {w : World} {k : SkRef} {c : CRef} (h : SkAt w k c) (task height : Int) (e : En) :
    Calls Try.prog 24 #[.pointer (some ⟨k.lp, 0, none⟩), .int .i64 task, .agg (enC e).toArray, .int .i64 height] w fun r w' => ∃ v, r = .returned (.tuple #[v, .int .i64 (beginE task height e)]) ∧ Below w.heap.size w w' := by
  unfold beginE
  by_cases hc : (0 ≤ task ∧ task < 64) ∧ 1 ≤ height ∧ height ≤ 6
  · rw [if_pos hc]
    cases hr : e.right
    · exact (begin_key h task height e hc.1.1 hc.1.2 hc.2.1 hc.2.2 hr).mono fun r w' ⟨q1, q2⟩ => ⟨_, q1, q2⟩
    · exact (begin_ok h task height e hc.1.1 hc.1.2 hc.2.1 hc.2.2 hr).mono fun r w' ⟨ip, q1, _, _, q2⟩ => ⟨_, q1, q2⟩
  · rw [if_neg hc]
    exact (begin_arg h task height e (fun q => hc ⟨⟨q.1, q.2.1⟩, q.2.2⟩)).mono fun r w' ⟨q1, q2⟩ => ⟨_, q1, q2⟩
def nextE (task node level : Int) : Int := if (0 ≤ task ∧ task < 64) ∧ (0 ≤ node ∧ node ≤ 10) ∧ 0 ≤ level ∧ level < 6 then 0 else 2
def keyE (task node : Int) : Int := if (0 ≤ task ∧ task < 64) ∧ 1 ≤ node ∧ node ≤ 10 then 0 else 2
theorem LW.next_all {w0 w : World} {k : SkRef} {c : CRef} {A : Nat → Prop} (h : LW w0 w k c sk0 A) (hu : k.units = 60) (task node level : Int) :
    Calls Try.prog 29 #[.pointer (some ⟨k.lp, 0, none⟩), .int .i64 task, .int .i64 node, .int .i64 level] w fun e w' => e = .returned (.tuple #[.int .i64 0, .int .i64 (nextE task node level)]) ∧ ∃ t, LW w0 w' k c (sk0.more t) A ∧ t.length ≤ 1 := by
  have h10 : k.units / 6 = 10 := by rw [hu]; rfl
  have hz : sk0.more [] = sk0 := rfl
  unfold nextE
  by_cases hn : 0 ≤ node ∧ node ≤ 10 ∧ 0 ≤ level ∧ level < 6
  · by_cases ht : 0 ≤ task ∧ task < 64
    · rw [if_pos ⟨ht, ⟨hn.1, hn.2.1⟩, hn.2.2⟩]
      obtain ⟨l, rfl⟩ : ∃ l : Nat, level = l := ⟨level.toNat, by omega⟩
      refine (h.next task node l ht.1 ht.2 hn.1 (by rw [h10]; exact hn.2.1) (by omega) ⟨Int.le_refl 0, (show (0 : Int) ≤ 9223372036854775807 by decide)⟩ (by decide)).mono ?_
      rintro e w' ⟨rfl, h', _⟩
      exact ⟨rfl, _, h', by simp⟩
    · rw [if_neg fun q => ht q.1]
      obtain ⟨S, L, R⟩ := h.ex
      refine (lnext_task L task node level ht hn.1 (by rw [h10]; exact hn.2.1) hn.2.2.1 hn.2.2.2).mono ?_
      rintro e w' ⟨rfl, hq⟩
      exact ⟨rfl, [], by rw [hz]; exact h.quiet hq, Nat.zero_le _⟩
  · rw [if_neg fun q => hn ⟨q.2.1.1, q.2.1.2, q.2.2⟩]
    obtain ⟨S, L, R⟩ := h.ex
    refine (lnext_arg L.sk task node level (by rw [h10]; exact hn)).mono ?_
    rintro e w' ⟨rfl, rfl⟩
    exact ⟨rfl, [], by rw [hz]; exact h, Nat.zero_le _⟩
theorem LW.key_all {w0 w : World} {k : SkRef} {c : CRef} {A : Nat → Prop} {t : List Acc} (h : LW w0 w k c (sk0.more t) A) (hl : t.length ≤ 1) (hu : k.units = 60) (task node : Int) :
    Calls Try.prog 15 #[.pointer (some ⟨k.lp, 0, none⟩), .int .i64 task, .int .i64 node] w fun e w' => e = .returned (.tuple #[.agg (ikC ik0).toArray, .int .i64 (keyE task node)]) ∧ ∃ t' A', LW w0 w' k c (sk0.more t') A' ∧ t'.length ≤ 2 := by
  have h10 : k.units / 6 = 10 := by rw [hu]; rfl
  unfold keyE
  by_cases hn : 1 ≤ node ∧ node ≤ 10
  · by_cases ht : 0 ≤ task ∧ task < 64
    · rw [if_pos ⟨ht, hn⟩]
      refine (h.key task node ht.1 ht.2 hn.1 (by rw [h10]; exact hn.2) (by show ([] ++ t).length < _; rw [List.nil_append]; unfold trMax; omega)).mono ?_
      rintro e w' ⟨rfl, h', _⟩
      exact ⟨rfl, t ++ [⟨task, 6, placeI k node⟩], A, by rw [← Sk.more_more]; exact h', by rw [List.length_append]; simp; exact hl⟩
    · rw [if_neg fun q => ht q.1]
      have hr : ∀ W, Below w.heap.size w W → Calls Try.prog 38 #[.pointer (some ⟨k.lp, 0, none⟩), .int .i64 task, .int .i64 node, .int .i64 0] W fun e w' => e = .returned (.tuple #[.slice none 0 0, .int .i64 2]) ∧ Quiet W w' := fun W hb => by
        obtain ⟨S, L, R⟩ := h.ex
        exact lread_task (L.below hb) task node 0 ht hn.1 (by rw [h10]; exact hn.2) (by decide) (by decide)
      refine (lkey_err task node 2 (by decide) hr).mono ?_
      rintro e w' ⟨rfl, hb⟩
      exact ⟨rfl, t, _, h.made hb, by omega⟩
  · rw [if_neg fun q => hn q.2]
    have hr : ∀ W, Below w.heap.size w W → Calls Try.prog 38 #[.pointer (some ⟨k.lp, 0, none⟩), .int .i64 task, .int .i64 node, .int .i64 0] W fun e w' => e = .returned (.tuple #[.slice none 0 0, .int .i64 2]) ∧ Quiet W w' := fun W hb => by
      obtain ⟨S, L, R⟩ := h.ex
      refine (lread_arg (L.below hb).sk task node 0 (by rw [h10]; exact hn)).mono ?_
      rintro e w' ⟨rfl, rfl⟩
      exact ⟨rfl, Quiet.refl _⟩
    refine (lkey_err task node 2 (by decide) hr).mono ?_
    rintro e w' ⟨rfl, hb⟩
    exact ⟨rfl, t, _, h.made hb, by omega⟩
set_option maxHeartbeats 1000000 in
theorem sknew_nil (w : World) : Calls Try.prog 34 #[.pointer none, .int .i64 0, .int .i64 0, .int .u64 60] w fun e w' => e = .returned (.tuple #[.pointer none, .int .i64 2]) ∧ w = w' := by
  have hsz := size_yes w 60 (by decide) (by decide)
  rw [show skA 60 = 68 from rfl, show skP 60 = 20 from rfl] at hsz
  have HSZ := Lib.hid hsz
  have HMY := Lib.hid (many_none w (.pointer none) (.inl rfl))
  clear hsz
  go_enter Try.func34, Try.ntmps34
  go_wp2_with (first | (go_at_call 21; refine HSZ.out.mono ?_; rintro e w' ⟨rfl, rfl⟩) | (go_at_call 57; refine HMY.out.mono ?_; rintro e w' ⟨rfl, rfl⟩))
  go_ret2
  exact ⟨rfl, rfl⟩
/-- The trace of a list's memory is told. -/
theorem LW.trace {w0 w : World} {k : SkRef} {c : CRef} {A : Nat → Prop} {s : Sk} (h : LW w0 w k c s A) (hn : s.trace.length < trMax) :
    Calls Try.prog 19 #[.pointer (some ⟨c.p, 0, none⟩)] w fun e w' => ∃ v A', e = .returned v ∧ Row w' 64 3 v s.trace.length (accs s.trace) (fun j => w.heap.size ≤ j ∧ ¬ A' j) ∧ LW w0 w' k c s A' ∧ (∀ j, A' j → A j) ∧ Below w.heap.size w w' := by
  obtain ⟨S, L, R⟩ := h.ex
  refine (trace_ok L.mem (by rw [R.trace]; exact hn)).mono ?_
  rintro e w' ⟨v, rfl, hT⟩
  have hr := hT.row
  rw [R.trace] at hr
  exact ⟨v, _, rfl, hr.mono fun j hj q => ⟨q, fun z => by rcases z.2 with z | z <;> omega⟩, h.made hT.below, fun j q => q.1, hT.below⟩
end Go.Proofs.Ytkpjfdhjkgdcbaa
