/- Law 14's LocksOne, as plain data: by turns. -/
import Derived.Test.YtncfbccihofaoaaLocksX
namespace Go.Proofs.Ytncfbccihofaoaa
open Go.RowKit Go.Maps

def accz : Acc := ⟨0, 0, 0⟩
theorem getD_snoc (l : List Acc) (a : Acc) (i : Nat) : (l ++ [a]).getD i accz = if i < l.length then l.getD i accz else if i = l.length then a else accz := by
  simp only [List.getD_eq_getElem?_getD]
  rcases Nat.lt_trichotomy i l.length with h | h | h
  · rw [if_pos h, List.getElem?_append_left h]
  · subst h; simp
  · rw [if_neg (by omega), if_neg (by omega), List.getElem?_eq_none (by simp; omega)]; rfl

/-- Locks and unlocks are noted by turns; who holds it now (-1: nobody) noted last. -/
structure Alt (tr : List Acc) (hd : Int) : Prop where
  at_ : ∀ i, i < tr.length → (tr.getD i accz).at_ = 0
  even : ∀ i, i < tr.length → i % 2 = 0 → (tr.getD i accz).what = 8
  odd : ∀ i, i < tr.length → i % 2 = 1 → (tr.getD i accz).what = 9 ∧ (tr.getD i accz).task = (tr.getD (i - 1) accz).task
  par : tr.length % 2 = if 0 ≤ hd then 1 else 0
  last : 0 ≤ hd → (tr.getD (tr.length - 1) accz).task = hd
theorem Alt.lock {tr : List Acc} (h : Alt tr (-1)) (t : Int) (ht : 0 ≤ t) : Alt (tr ++ [⟨t, 8, 0⟩]) t := by
  have hp := h.par
  rw [if_neg (by omega)] at hp
  refine ⟨fun i hi => ?_, fun i hi he => ?_, fun i hi ho => ?_, ?_, fun _ => ?_⟩
  · rw [getD_snoc]; split
    · exact h.at_ i ‹_›
    · rw [if_pos (by simp at hi; omega)]
  · rw [getD_snoc]; split
    · exact h.even i ‹_› he
    · rw [if_pos (by simp at hi; omega)]
  · have hl : i < tr.length := by simp at hi; omega
    rw [getD_snoc, if_pos hl, getD_snoc, if_pos (by omega)]
    exact h.odd i hl ho
  · rw [if_pos ht]; simp; omega
  · rw [getD_snoc]; simp
theorem Alt.unlock {tr : List Acc} {t : Int} (h : Alt tr t) (ht : 0 ≤ t) : Alt (tr ++ [⟨t, 9, 0⟩]) (-1) := by
  have hp := h.par
  rw [if_pos ht] at hp
  refine ⟨fun i hi => ?_, fun i hi he => ?_, fun i hi ho => ?_, ?_, fun h0 => absurd h0 (by decide)⟩
  · rw [getD_snoc]; split
    · exact h.at_ i ‹_›
    · rw [if_pos (by simp at hi; omega)]
  · have hl : i < tr.length := by simp at hi; omega
    rw [getD_snoc, if_pos hl]
    exact h.even i hl he
  · rw [getD_snoc, getD_snoc]
    by_cases hl : i < tr.length
    · rw [if_pos hl, if_pos (by omega)]
      exact h.odd i hl ho
    · have hi' : i = tr.length := by simp at hi; omega
      subst hi'
      rw [if_neg (by omega), if_pos rfl, if_pos (by omega)]
      exact ⟨rfl, (h.last ht).symm⟩
  · rw [if_neg (by decide)]; simp; omega

structure One (L : Lk) (S : Mem) (hd : Int) : Prop where
  held : L.held = decide (0 ≤ hd)
  who : 0 ≤ hd → L.holder = hd ∧ hd < 6
  low : -1 ≤ hd
  conds : 1 ≤ L.conds
  alt : Alt S.trace hd

/-- How an op of LocksOne may end. -/
def OneStep (q : Int) (slept : Bool) (hd t E hd' : Int) (nn : Nat) (V : Int) (b : Bool) : Prop :=
  (q ≤ 1 ∧ hd = -1 ∧ slept = false ∧ E = 0 ∧ hd' = t ∧ nn = 1 ∧ V = t ∧ b = true) ∨
  (q ≤ 1 ∧ hd = -1 ∧ slept = true ∧ E = 142 ∧ hd' = -1 ∧ nn = 0 ∧ V = 0 ∧ b = false) ∨
  (q ≤ 1 ∧ 0 ≤ hd ∧ slept = true ∧ E = 142 ∧ hd' = hd ∧ nn = 0 ∧ V = hd ∧ b = true) ∨
  (q ≤ 1 ∧ 0 ≤ hd ∧ slept = false ∧ E = 140 ∧ hd' = hd ∧ nn = 0 ∧ V = hd ∧ b = true) ∨
  ((q = 2 ∨ q = 3) ∧ hd = t ∧ E = 0 ∧ hd' = -1 ∧ nn = 1 ∧ V = 0 ∧ b = false) ∨
  ((q = 2 ∨ q = 3) ∧ hd = -1 ∧ E = 141 ∧ hd' = -1 ∧ nn = 0 ∧ V = 0 ∧ b = false) ∨
  ((q = 2 ∨ q = 3) ∧ 0 ≤ hd ∧ hd ≠ t ∧ E = 141 ∧ hd' = hd ∧ nn = 0 ∧ V = hd ∧ b = true) ∨
  (q = 4 ∧ hd = t ∧ E = 0 ∧ hd' = hd ∧ nn = 0 ∧ V = hd ∧ b = true) ∨
  (q = 4 ∧ hd = -1 ∧ E = 141 ∧ hd' = -1 ∧ nn = 0 ∧ V = 0 ∧ b = false) ∨
  (q = 4 ∧ 0 ≤ hd ∧ hd ≠ t ∧ E = 141 ∧ hd' = hd ∧ nn = 0 ∧ V = hd ∧ b = true)

theorem One.none {L : Lk} {S : Mem} (h : One L S (-1)) : L.held = false := h.held
theorem One.some {L : Lk} {S : Mem} {hd : Int} (h : One L S hd) (h0 : 0 ≤ hd) : L.held = true ∧ L.holder = hd := ⟨by rw [h.held]; exact decide_eq_true h0, (h.who h0).1⟩
theorem One.holder {L : Lk} {S : Mem} {hd : Int} (h : One L S hd) : (hd = -1 ∧ holderV L = 0 ∧ L.held = false) ∨ (0 ≤ hd ∧ holderV L = hd ∧ L.held = true) := by
  by_cases h0 : 0 ≤ hd
  · exact .inr ⟨h0, by simp [holderV, (h.some h0).1, (h.some h0).2], (h.some h0).1⟩
  · have : hd = -1 := by have := h.low; omega
    subst this
    exact .inl ⟨rfl, by simp [holderV, h.none], h.none⟩
theorem One.frees {L : Lk} {S : Mem} {hd t c : Int} (h : One L S hd) (t0 : 0 ≤ t ∧ t < 6) (c0 : 0 ≤ c ∧ c ≤ L.conds) : (hd = t ∧ holdsE L t c = 0) ∨ (hd ≠ t ∧ holdsE L t c = 141) := by
  unfold holdsE
  rw [if_neg (by omega)]
  by_cases h0 : 0 ≤ hd
  · rw [(h.some h0).1, (h.some h0).2]
    by_cases e : hd = t
    · exact .inl ⟨e, by simp [e]⟩
    · exact .inr ⟨e, by simp [e]⟩
  · have : hd = -1 := by have := h.low; omega
    subst this
    exact .inr ⟨by omega, by simp [h.none]⟩
theorem One.on {L : Lk} {S : Mem} {hd t c : Int} (h : One L S hd) (t0 : 0 ≤ t ∧ t < 6) (c0 : 0 ≤ c ∧ c < L.conds) : (hd = t ∧ onE L t c = 0) ∨ (hd ≠ t ∧ onE L t c = 141) := by
  unfold onE
  rw [if_neg (by omega)]
  exact h.frees t0 (by omega)
theorem One.freed {L L' : Lk} {S : Mem} {t : Int} (h : One L S t) (t0 : 0 ≤ t ∧ t < 6) (h1 : L'.held = false) (h2 : L'.conds = L.conds) : One L' (S.notes [⟨t, 9, 0⟩]) (-1) :=
  ⟨by rw [h1]; rfl, fun h => absurd h (by decide), by decide, by rw [h2]; exact h.conds, h.alt.unlock t0.1⟩

theorem one_step {L : Lk} {S : Mem} {hd what t c : Int} (h : One L S hd) (hq : 0 ≤ what % 5 ∧ what % 5 ≤ 4) (t0 : 0 ≤ t ∧ t < 6) (c0 : 0 ≤ c ∧ c < L.conds) :
    ∃ (E hd' : Int) (nn : Nat) (V : Int) (b : Bool), doE L what t c = E ∧ (doN L what t c).length = nn ∧ One (doL L what t c) (S.notes (doN L what t c)) hd' ∧ holderV (doL L what t c) = V ∧ (doL L what t c).held = b ∧ OneStep (what % 5) (slAt L.sl t).isSome hd t E hd' nn V b := by
  have hsl : slAt L.sl t = L.sl t.toNat := by unfold slAt; rw [if_pos (by omega)]
  rw [hsl]
  have hho := h.holder
  by_cases q1 : what % 5 ≤ 1
  · simp only [doE, doL, doN, if_pos q1]
    have hE : lockE L t = if (L.sl t.toNat).isSome then 142 else if L.held then 140 else 0 := by unfold lockE; rw [if_neg (by omega)]
    cases hs : L.sl t.toNat with
    | some x =>
      have hE' : lockE L t = 142 := by rw [hE, hs]; rfl
      have e1 : lockL L t = L := by simp [lockL, hE']
      have e2 : lockN L t = [] := by simp [lockN, hE']
      rw [e1, e2, Mem.notes_nil]
      refine ⟨_, hd, _, _, _, hE', rfl, h, rfl, rfl, ?_⟩
      rcases hho with ⟨a1, a2, a3⟩ | ⟨a1, a2, a3⟩
      · exact .inr (.inl ⟨q1, a1, rfl, rfl, a1, rfl, a2, a3⟩)
      · exact .inr (.inr (.inl ⟨q1, a1, rfl, rfl, rfl, rfl, a2, a3⟩))
    | none =>
      rcases hho with ⟨a1, a2, a3⟩ | ⟨a1, a2, a3⟩
      · have hE' : lockE L t = 0 := by rw [hE, hs, a3]; rfl
        have e1 : lockL L t = { L with held := true, holder := t } := by simp [lockL, hE']
        have e2 : lockN L t = [⟨t, 8, 0⟩] := by simp [lockN, hE']
        subst a1
        rw [e1, e2]
        refine ⟨_, t, _, _, _, hE', rfl, ⟨(decide_eq_true t0.1).symm, fun _ => ⟨rfl, t0.2⟩, by omega, h.conds, h.alt.lock t t0.1⟩, rfl, rfl, ?_⟩
        exact .inl ⟨q1, rfl, rfl, rfl, rfl, rfl, rfl, rfl⟩
      · have hE' : lockE L t = 140 := by rw [hE, hs, a3]; rfl
        have e1 : lockL L t = L := by simp [lockL, hE']
        have e2 : lockN L t = [] := by simp [lockN, hE']
        rw [e1, e2, Mem.notes_nil]
        exact ⟨_, hd, _, _, _, hE', rfl, h, rfl, rfl, .inr (.inr (.inr (.inl ⟨q1, a1, rfl, rfl, rfl, rfl, a2, a3⟩)))⟩
  · by_cases q2 : what % 5 = 2
    · simp only [doE, doL, doN, if_neg q1, if_pos q2]
      rcases h.frees t0 (c := 0) ⟨by decide, by have := h.conds; omega⟩ with ⟨a, hE⟩ | ⟨a, hE⟩
      · have e1 : unlockL L t = { L with held := false, holder := 0 } := by simp [unlockL, hE]
        have e2 : unlockN L t = [⟨t, 9, 0⟩] := by simp [unlockN, hE]
        subst a
        rw [e1, e2]
        exact ⟨_, -1, _, _, _, hE, rfl, h.freed t0 rfl rfl, rfl, rfl, .inr (.inr (.inr (.inr (.inl ⟨.inl q2, rfl, rfl, rfl, rfl, rfl, rfl⟩))))⟩
      · have e1 : unlockL L t = L := by simp [unlockL, hE]
        have e2 : unlockN L t = [] := by simp [unlockN, hE]
        rw [e1, e2, Mem.notes_nil]
        refine ⟨_, hd, _, _, _, hE, rfl, h, rfl, rfl, ?_⟩
        rcases hho with ⟨a1, a2, a3⟩ | ⟨a1, a2, a3⟩
        · exact .inr (.inr (.inr (.inr (.inr (.inl ⟨.inl q2, a1, rfl, a1, rfl, a2, a3⟩)))))
        · exact .inr (.inr (.inr (.inr (.inr (.inr (.inl ⟨.inl q2, a1, a, rfl, rfl, rfl, a2, a3⟩))))))
    · by_cases q3 : what % 5 = 3
      · simp only [doE, doL, doN, if_neg q1, if_neg q2, if_pos q3]
        rcases h.on t0 c0 with ⟨a, hE⟩ | ⟨a, hE⟩
        · have e1 : waitL L t c = ⟨L.conds, false, 0, slUp L.sl t.toNat (some c)⟩ := by simp [waitL, hE]
          have e2 : waitN L t c = [⟨t, 9, 0⟩] := by simp [waitN, hE]
          subst a
          rw [e1, e2]
          exact ⟨_, -1, _, _, _, hE, rfl, h.freed t0 rfl rfl, rfl, rfl, .inr (.inr (.inr (.inr (.inl ⟨.inr q3, rfl, rfl, rfl, rfl, rfl, rfl⟩))))⟩
        · have e1 : waitL L t c = L := by simp [waitL, hE]
          have e2 : waitN L t c = [] := by simp [waitN, hE]
          rw [e1, e2, Mem.notes_nil]
          refine ⟨_, hd, _, _, _, hE, rfl, h, rfl, rfl, ?_⟩
          rcases hho with ⟨a1, a2, a3⟩ | ⟨a1, a2, a3⟩
          · exact .inr (.inr (.inr (.inr (.inr (.inl ⟨.inr q3, a1, rfl, a1, rfl, a2, a3⟩)))))
          · exact .inr (.inr (.inr (.inr (.inr (.inr (.inl ⟨.inr q3, a1, a, rfl, rfl, rfl, a2, a3⟩))))))
      · simp only [doE, doL, doN, if_neg q1, if_neg q2, if_neg q3]
        have q4 : what % 5 = 4 := by omega
        rw [Mem.notes_nil]
        rcases h.on t0 c0 with ⟨a, hE⟩ | ⟨a, hE⟩
        · have e1 : wakeL L t c = { L with sl := slWake L.sl c } := by simp [wakeL, hE]
          rw [e1]
          have hh := h.some (show 0 ≤ hd by omega)
          refine ⟨_, hd, _, _, _, hE, rfl, ⟨h.held, h.who, h.low, h.conds, h.alt⟩, rfl, rfl, ?_⟩
          exact .inr (.inr (.inr (.inr (.inr (.inr (.inr (.inl ⟨q4, a, rfl, rfl, rfl, by simp [holderV, hh.1, hh.2], hh.1⟩)))))))
        · have e1 : wakeL L t c = L := by simp [wakeL, hE]
          rw [e1]
          refine ⟨_, hd, _, _, _, hE, rfl, h, rfl, rfl, ?_⟩
          rcases hho with ⟨a1, a2, a3⟩ | ⟨a1, a2, a3⟩
          · exact .inr (.inr (.inr (.inr (.inr (.inr (.inr (.inr (.inl ⟨q4, a1, rfl, a1, rfl, a2, a3⟩))))))))
          · exact .inr (.inr (.inr (.inr (.inr (.inr (.inr (.inr (.inr ⟨q4, a1, a, rfl, rfl, rfl, a2, a3⟩))))))))

end Go.Proofs.Ytncfbccihofaoaa
