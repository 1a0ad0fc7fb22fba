/- What SkipAlone's walk holds: the two orders, and the keys of each list's levels. -/
import Derived.Test.YtkpjfdhjkgdcbaaAlonePl
import Derived.Test.YtkpjfdhjkgdcbaaAppR
import Derived.Deep.CutBlock

namespace Go.Proofs.Ytkpjfdhjkgdcbaa
open Go.RowKit

theorem rowOwns {w : World} {base e size n : Nat} {v : Value} {xs : List Value} (h : w.ownsRow base e size v n xs) : Row w e size v n xs (fun k => base ≤ k) :=
  ⟨⟨h.1, h.2.imp id fun ⟨g, cap, cur, h1, _, h2⟩ => ⟨g, cap, cur, h1, Nat.zero_le _, h2⟩⟩, fun k hk => (h.lt k hk).1⟩
theorem Row.mono' {w : World} {e size n : Nat} {v : Value} {xs : List Value} {A B : Nat → Prop} (h : Row w e size v n xs A) (hAB : ∀ k, v.ownBlock = some k → B k) : Row w e size v n xs B := ⟨h.owns, hAB⟩
theorem wksAt_one {w : World} {v : Value} {l : List Wk} (hr : Reads w 5 v l.length (wks l)) (hf : ∀ a, a ∈ l → WkFits a) : WksAt (w.alloc (.cells #[v] 22)) (.slice (some ⟨w.heap.size, 0, none⟩) 1 1) [l] := by
  have hb : Below w.heap.size w (w.alloc (.cells #[v] 22)) := (Below.refl _ _).alloc (Nat.le_refl _) _
  refine ⟨⟨[v], ⟨rfl, .inr ⟨w.heap.size, 0, 1, rfl, Nat.le_refl _, fun j u hu => ?_⟩⟩, fun i m u hm hu => ?_⟩, by simp [maxLen], fun m hm a ha => ?_⟩
  · rw [Nat.zero_add]; exact (Blk.new w _ [v]).cell j hu
  · cases i with
    | zero =>
      cases hm; cases hu
      exact hr.below hb
    | succ i => cases hm
  · rw [List.mem_singleton] at hm
    subst hm
    exact hf a ha
theorem wks_get_mul (ws : List Wk) (k j : Nat) : (wks ws)[k * 5 + j]? = (wks (ws.drop k))[j]? := by
  have e : wks ws = wks (ws.take k) ++ wks (ws.drop k) := by rw [← wks_append, List.take_append_drop]
  by_cases hk : k ≤ ws.length
  · rw [e, List.getElem?_append_right (by rw [wks_len, List.length_take, Nat.min_eq_left hk]; omega), wks_len, List.length_take, Nat.min_eq_left hk, Nat.add_sub_cancel_left]
  · rw [List.getElem?_eq_none (by rw [wks_len]; omega), List.getElem?_eq_none (by rw [wks_len, List.length_drop]; omega)]
/-- The works behind the turn's place. -/
theorem reads_dropI {w : World} {g m d k : Nat} {ws : List Wk} {A : Nat → Prop} (h : Row w 40 5 (.slice (some ⟨g, 0, none⟩) m d) m (wks ws) A) (hm : m ≤ d) (hl : ws.length = m) (hk : k ≤ m) :
    Reads w 5 (.slice (if d = k then some ⟨g, 0, none⟩ else some ⟨g, k * 5, none⟩) (m - k) (d - k)) (m - k) (wks (ws.drop k)) := by
  refine ⟨by rw [wks_len, List.length_drop, hl], ?_⟩
  by_cases e : d = k
  · have e0 : m - k = 0 := by omega
    rw [e0]
    exact .inl ⟨rfl, _, _, rfl⟩
  · rw [if_neg e]
    refine .inr ⟨g, k * 5, d - k, rfl, by omega, fun j u hu => ?_⟩
    have := h.owns.cells (g := g) rfl (k * 5 + j) u (by rw [wks_get_mul]; exact hu)
    rwa [addr_plain, Nat.zero_add] at this
/-- The works ahead of it. -/
theorem reads_take {w : World} {g m d k : Nat} {ws : List Wk} {A : Nat → Prop} (h : Row w 40 5 (.slice (some ⟨g, 0, none⟩) m d) m (wks ws) A) (hm : m ≤ d) (hl : ws.length = m) (hk : k ≤ m) :
    Reads w 5 (.slice (some ⟨g, 0, none⟩) k d) k (wks (ws.take k)) := by
  refine ⟨by rw [wks_len, List.length_take, hl]; omega, .inr ⟨g, 0, d, rfl, by omega, fun j u hu => ?_⟩⟩
  have e : wks ws = wks (ws.take k) ++ wks (ws.drop k) := by rw [← wks_append, List.take_append_drop]
  have hj : j < (wks (ws.take k)).length := (List.getElem?_eq_some_iff.1 hu).1
  have := h.owns.cells (g := g) rfl j u (by rw [e, List.getElem?_append_left hj]; exact hu)
  rwa [addr_plain] at this
theorem own_nil5 {w : World} {base g e size : Nat} (h : w.heap[g]? = some (.cells #[] e)) (hb : base ≤ g) : w.ownsRow base e size (.slice (some ⟨g, 0, none⟩) 0 0) 0 [] :=
  ⟨by simp, .inr ⟨g, 0, #[], rfl, hb, h, Nat.zero_le _, by unfold maxLen; omega, by simp, by simp⟩⟩
def iks (l : List IK) : List Value := l.flatMap ikC
/-- What SkipAlone holds: the two orders, and the keys of each list's levels. -/
structure AlX (w wr : World) (u0 u1 : List Wk) (b : Nat) (v0 v1 : Value) (bk : Nat) (kv : List Value) (ks : Nat → List IK) (H : Nat → Prop) : Prop where
  p : Blk wr b 22 [v0, v1]
  hp : H b
  r0 : Row wr 40 5 v0 u0.length (wks u0) H
  r1 : Row wr 40 5 v1 u1.length (wks u1) H
  kb : Blk wr bk 29 kv
  hk : H bk
  len : kv.length = 12
  kr : ∀ i u, kv[i]? = some u → Row wr 36 3 u (ks i).length (iks (ks i)) H
  ap : ∀ (i j : Nat) (u v : Value) (q : Nat), i ≠ j → kv[i]? = some u → kv[j]? = some v → u.ownBlock = some q → v.ownBlock ≠ some q
  home : ∀ j, H j → w.heap.size ≤ j
  below : Below w.heap.size w wr
theorem AlX.to {w wr w' : World} {u0 u1 : List Wk} {b : Nat} {v0 v1 : Value} {bk : Nat} {kv : List Value} {ks : Nat → List IK} {H H' : Nat → Prop} (h : AlX w wr u0 u1 b v0 v1 bk kv ks H) (hs : ∀ j, j < wr.heap.size → H j → w'.heap[j]? = wr.heap[j]? ∧ H' j) (hH : ∀ j, H' j → w.heap.size ≤ j) (hb : Below w.heap.size w w') : AlX w w' u0 u1 b v0 v1 bk kv ks H' :=
  have hrow : ∀ {e size n : Nat} {v : Value} {xs : List Value}, Row wr e size v n xs H → Row w' e size v n xs H' := fun r => (r.keep fun q hq => (hs q (r.lt hq) (r.home q hq)).1).mono' fun q hq => (hs q (r.lt hq) (r.home q hq)).2
  ⟨h.p.keep (hs _ h.p.lt h.hp).1, (hs _ h.p.lt h.hp).2, hrow h.r0, hrow h.r1, h.kb.keep (hs _ h.kb.lt h.hk).1, (hs _ h.kb.lt h.hk).2, h.len, fun i u hu => hrow (h.kr i u hu), h.ap, hH, hb⟩
def ks12 : List Value := [.slice none 0 0, .slice none 0 0, .slice none 0 0, .slice none 0 0, .slice none 0 0, .slice none 0 0, .slice none 0 0, .slice none 0 0, .slice none 0 0, .slice none 0 0, .slice none 0 0, .slice none 0 0]
theorem un_one {w wr : World} {v : Value} {l : List Wk} (h : UnIn w wr v (unAll 0 [l])) : ∃ g cap u, v = .slice (some ⟨g, 0, none⟩) 1 cap ∧ wr.cell? ⟨g, 0, none⟩ = some u ∧ Row wr 40 5 u l.length (wks (unRow 0 l)) (fun j => w.heap.size ≤ j) := by
  obtain ⟨vs, h1, h2⟩ := h.ex
  have hl : vs.length = 1 := by have := h1.owns.1; simpa [unAll] using this
  obtain ⟨u, rfl⟩ : ∃ u, vs = [u] := List.length_eq_one_iff.1 hl
  have h3 := h2 0 (unRow 0 l) u rfl rfl
  rw [unRow_len] at h3
  rcases h1.form with ⟨_, q⟩ | ⟨g, cap, e, _⟩
  · simp [unAll] at q
  · subst e
    exact ⟨g, cap, u, rfl, h1.atR 0 u rfl, h3⟩
theorem alx_start {w w4 W5 w7 : World} {u0 u1 : List Wk} {v0 vB : Value} {m : Nat} (hB7 : Below W5.heap.size W5 w7) (hb5 : Below w.heap.size w W5) {A : Nat → Prop} (hr5 : Row W5 40 5 v0 m (wks u0) A) (hA : ∀ j, A j → w.heap.size ≤ j) (hk5 : Blk W5 w4.heap.size 29 ks12) (hown : w7.ownsRow W5.heap.size 40 5 vB m (wks u1)) (h0 : u0.length = m) (h1 : u1.length = m) (h4 : w.heap.size ≤ w4.heap.size) :
    AlX w (w7.alloc (.cells #[v0, vB] 22)) u0 u1 w7.heap.size v0 vB w4.heap.size ks12 (fun _ => []) (fun j => w.heap.size ≤ j) := by
  have hs5 := hb5.size
  have hs7 := hB7.size
  have hr7 := (hr5.keep fun q hq => hB7.block q (hr5.lt hq)).alloc (.cells #[v0, vB] 22)
  have hrB := (rowOwns hown).alloc (.cells #[v0, vB] 22)
  refine ⟨Blk.new w7 _ [v0, vB], by omega, ?_, ?_, (hk5.keep (hB7.block _ hk5.lt)).alloc _, h4, rfl, fun i u hu => ?_, fun i j u v q hij hu hv hq => ?_, fun j q => q, (hb5.trans (hB7.mono hs5)).alloc (by omega) _⟩
  · rw [h0]; exact hr7.mono fun j _ q => hA j q
  · rw [h1]; exact hrB.mono fun j _ q => Nat.le_trans hs5 q
  · have : u = .slice none 0 0 := by
      have hm := List.mem_of_getElem? hu
      simp [ks12] at hm
      exact hm
    subst this
    exact Row.nil _ _ _ _
  · have : u = .slice none 0 0 := by
      have hm := List.mem_of_getElem? hu
      simp [ks12] at hm
      exact hm
    subst this
    cases hq
def updK (ks : Nat → List IK) (i : Nat) (l : List IK) : Nat → List IK := fun j => if j = i then l else ks j
theorem updK_self (ks : Nat → List IK) (i : Nat) (l : List IK) : updK ks i l i = l := if_pos rfl
theorem updK_ne (ks : Nat → List IK) {i j : Nat} (l : List IK) (h : j ≠ i) : updK ks i l j = ks j := if_neg h
theorem iks_len (l : List IK) : (iks l).length = l.length * 3 := by
  unfold iks
  induction l with
  | nil => rfl
  | cons a l ih => rw [List.flatMap_cons, List.length_append, ih, List.length_cons]; simp [ikC]; omega
theorem iks_snoc (l : List IK) (x : IK) : iks l ++ ikC x = iks (l ++ [x]) := by simp [iks]
/-- Where SkipAlone stands while it takes the keys of one list. -/
structure KyX (w wr : World) (k : SkRef) (c : CRef) (s : Sk) (L : Nat → List Int) (A : Nat → Prop) (u0 u1 : List Wk) (b : Nat) (v0 v1 : Value) (bk : Nat) (kv : List Value) (ks : Nat → List IK) (ab : Nat) (rv : List Value) (base : Nat) (bnd : Nat) : Prop where
  al : AlX w wr u0 u1 b v0 v1 bk kv ks (fun q => w.heap.size ≤ q ∧ ¬ A q)
  lw : ∃ t, LW w wr k c (s.more t) A ∧ t.length ≤ bnd
  rows : ∀ j, j < 6 → ∀ v, rv[j]? = some v → Row wr 3 1 v (L j).length (ints (L j)) (fun x => base ≤ x ∧ ¬ A x)
  box : Blk wr ab 44 rv
  nb : ¬ A ab
  hab : w.heap.size ≤ ab
theorem KyX.keys {w wr : World} {k : SkRef} {c : CRef} {s : Sk} {L : Nat → List Int} {A : Nat → Prop} {u0 u1 : List Wk} {b : Nat} {v0 v1 : Value} {bk : Nat} {kv : List Value} {ks : Nat → List IK} {ab : Nat} {rv : List Value} {base bnd : Nat} (h : KyX w wr k c s L A u0 u1 b v0 v1 bk kv ks ab rv base bnd) (task nd : Int) (t0 : 0 ≤ task) (t1 : task < 64) (n0 : 1 ≤ nd) (n1 : nd ≤ k.units / 6) (hn : s.trace.length + bnd < trMax) :
    Calls Try.prog 15 #[.pointer (some ⟨k.lp, 0, none⟩), .int .i64 task, .int .i64 nd] wr fun e w' => e = .returned (.tuple #[.agg (ikC (s.keys nd)).toArray, .int .i64 0]) ∧ KyX w w' k c s L A u0 u1 b v0 v1 bk kv ks ab rv base (bnd + 1) := by
  obtain ⟨t, hL, ht⟩ := h.lw
  refine (hL.key task nd t0 t1 n0 n1 (by show (s.trace ++ t).length < _; rw [List.length_append]; omega)).mono ?_
  rintro e w' ⟨rfl, hL', ho⟩
  rw [Sk.more2] at hL'
  have hbz : Below w.heap.size w w' := h.al.below.trans (ho.below h.al.below.size fun q hq z => absurd (hL.base q z) (Nat.not_le.2 hq))
  exact ⟨rfl, h.al.to (fun q hq hh => ⟨ho.block q hq hh.2, hh⟩) (fun q hh => hh.1) hbz, ⟨_, hL', by rw [List.length_append]; simp; omega⟩, fun j hj v hv => (h.rows j hj v hv).keep fun q hq => ho.block q ((h.rows j hj v hv).lt hq) ((h.rows j hj v hv).home q hq).2, h.box.keep (ho.block _ h.box.lt h.nb), h.nb, h.hab⟩
theorem KyX.made {w wr w' : World} {k : SkRef} {c : CRef} {s : Sk} {L : Nat → List Int} {A : Nat → Prop} {u0 u1 : List Wk} {b : Nat} {v0 v1 : Value} {bk : Nat} {kv : List Value} {ks : Nat → List IK} {ab : Nat} {rv : List Value} {base bnd : Nat} (h : KyX w wr k c s L A u0 u1 b v0 v1 bk kv ks ab rv base bnd) (hb : Below wr.heap.size wr w') : KyX w w' k c s L (boxA A wr.heap.size w'.heap.size) u0 u1 b v0 v1 bk kv ks ab rv base bnd := by
  obtain ⟨t, hL, ht⟩ := h.lw
  exact ⟨h.al.to (fun q hq hh => ⟨hb.block q hq, hh.1, fun z => hh.2 z.1⟩) (fun q hh => hh.1) (h.al.below.trans (hb.mono h.al.below.size)), ⟨t, hL.made hb, ht⟩, fun j hj v hv => ((h.rows j hj v hv).keep fun q hq => hb.block q ((h.rows j hj v hv).lt hq)).mono fun q _ z => ⟨z.1, fun z2 => z.2 z2.1⟩, h.box.keep (hb.block _ h.box.lt), fun z => h.nb z.1, h.hab⟩
theorem KyX.append {w wr w2 : World} {k : SkRef} {c : CRef} {s : Sk} {L : Nat → List Int} {A : Nat → Prop} {u0 u1 : List Wk} {b : Nat} {v0 v1 : Value} {bk : Nat} {kv : List Value} {ks : Nat → List IK} {ab : Nat} {rv : List Value} {base bnd : Nat} (h : KyX w wr k c s L A u0 u1 b v0 v1 bk kv ks ab rv base bnd)
    {i0 : Nat} {v v' : Value} (hv : kv[i0]? = some v) (x : IK) {m : Nat} (hm : (ks i0).length = m) (hown : w2.ownsRow 0 36 3 v' (m + 1) (iks (ks i0) ++ ikC x)) (ho : Only (fun j => v.ownBlock = some j) wr w2) (hat : v'.ownBlock = v.ownBlock ∨ ∃ q, v'.ownBlock = some q ∧ wr.heap.size ≤ q) :
    KyX w (w2.setCell ⟨bk, i0, none⟩ v') k c s L (boxA A wr.heap.size w2.heap.size) u0 u1 b v0 v1 bk (kv.set i0 v') (updK ks i0 (ks i0 ++ [x])) ab rv base bnd := by
  obtain ⟨t, hL, ht⟩ := h.lw
  obtain ⟨S, Lx0, R⟩ := hL.ex
  have hrv := h.al.kr i0 v hv
  have hi0 : i0 < 12 := by rw [← h.al.len]; exact (List.getElem?_eq_some_iff.1 hv).1
  have hsz : (w2.setCell ⟨bk, i0, none⟩ v').heap.size = w2.heap.size := by simp [World.setCell]
  have ho2 : Only (fun j => v.ownBlock = some j ∨ j = bk) wr (w2.setCell ⟨bk, i0, none⟩ v') := (ho.mono fun j _ q => .inl q).setCell (p := ⟨bk, i0, none⟩) (.inr rfl) v'
  have nv : ∀ {p ty : Nat} {cs : List Value}, Blk wr p ty cs → ty ≠ 36 → ¬ v.ownBlock = some p := fun hb hne => hrv.ne_blk hb hne
  have nA : ∀ j, (v.ownBlock = some j ∨ j = bk) → ¬ A j ∧ w.heap.size ≤ j := fun j q => by
    rcases q with q | rfl
    · exact ⟨(hrv.home j q).2, (hrv.home j q).1⟩
    · exact ⟨h.al.hk.2, h.al.hk.1⟩
  have nl : ¬ (v.ownBlock = some k.lp ∨ k.lp = bk) := fun q => q.elim (nv Lx0.sk.list (by decide)) (fun e => Blk.ne Lx0.sk.list h.al.kb (by decide) e)
  have na : ¬ (v.ownBlock = some k.aq ∨ k.aq = bk) := fun q => q.elim (nv Lx0.sk.arena (by decide)) (fun e => Blk.ne Lx0.sk.arena h.al.kb (by decide) e)
  have nblk : ∀ {p ty : Nat} {cs : List Value}, Blk wr p ty cs → ty ≠ 36 → ty ≠ 29 → Blk (w2.setCell ⟨bk, i0, none⟩ v') p ty cs := fun hb h1 h2 => hb.keep (ho2.block _ hb.lt fun q => q.elim (nv hb h1) (fun e => Blk.ne hb h.al.kb h2 e))
  have hnew : ∀ j, w.heap.size ≤ j ∧ ¬ A j → w.heap.size ≤ j ∧ ¬ boxA A wr.heap.size w2.heap.size j := fun j q => ⟨q.1, fun z => q.2 z.1⟩
  have hrow : ∀ {e size n : Nat} {u : Value} {xs : List Value} {B B' : Nat → Prop}, Row wr e size u n xs B → (∀ q, u.ownBlock = some q → ¬ (v.ownBlock = some q ∨ q = bk)) → (∀ q, B q → B' q) → Row (w2.setCell ⟨bk, i0, none⟩ v') e size u n xs B' := fun r h1 h2 => (r.keep fun q hq => ho2.block q (r.lt hq) (h1 q hq)).mono' fun q hq => h2 q (r.home q hq)
  have hwork : ∀ {e size n : Nat} {u : Value} {xs : List Value} {B : Nat → Prop}, Row wr e size u n xs B → e ≠ 36 → e ≠ 29 → ∀ q, u.ownBlock = some q → ¬ (v.ownBlock = some q ∨ q = bk) := fun r h1 h2 q hq z => by
    rcases z with z | rfl
    · obtain ⟨cur, hc⟩ := hrv.tag z
      exact r.block_ne hc (fun e => h1 e.symm) hq
    · exact r.ne_blk h.al.kb (fun e => h2 e.symm) hq
  have hkb : Blk w2 bk 29 kv := h.al.kb.keep (ho.block _ h.al.kb.lt (nv h.al.kb (by decide)))
  refine ⟨⟨nblk h.al.p (by decide) (by decide), hnew _ h.al.hp, hrow h.al.r0 (hwork h.al.r0 (by decide) (by decide)) hnew, hrow h.al.r1 (hwork h.al.r1 (by decide) (by decide)) hnew, hkb.set i0 v', hnew _ h.al.hk, by rw [List.length_set]; exact h.al.len, fun i u hu => ?_, fun i j u u' q hij hu hu' hq => ?_, fun j q => q.1, h.al.below.trans (ho2.below h.al.below.size fun j hj q => absurd (nA j q).2 (Nat.not_le.2 hj))⟩, ⟨t, ?_, ht⟩, fun j hj u hu => ?_, nblk h.box (by decide) (by decide), fun z => h.nb z.1, h.hab⟩
  · by_cases e : i = i0
    · subst e
      rw [List.getElem?_set_self (by rw [h.al.len]; exact hi0)] at hu
      cases hu
      rw [updK_self, List.length_append, List.length_singleton, hm, ← iks_snoc]
      refine ⟨?_, fun q hq => ?_⟩
      · have hr2 : Row w2 36 3 v' (m + 1) (iks (ks i) ++ ikC x) (fun _ => True) := ⟨hown, fun _ _ => trivial⟩
        exact (hr2.setCell (a := ⟨bk, i, none⟩) (hr2.ne_blk hkb (by decide)) v').owns
      · rcases hat with z | ⟨q', z, hq'⟩
        · exact hnew q (hrv.home q (by rw [← z]; exact hq))
        · rw [z] at hq
          cases hq
          have h1 := h.al.below.size
          refine ⟨by omega, fun z2 => ?_⟩
          have h3 := (hown.lt q z).2
          rcases z2.2 with z3 | z3 <;> omega
    · rw [List.getElem?_set_ne (fun q => e q.symm)] at hu
      rw [updK_ne _ _ e]
      refine hrow (h.al.kr i u hu) (fun q hq z => ?_) hnew
      rcases z with z | rfl
      · exact h.al.ap i i0 u v q e hu hv hq z
      · exact (h.al.kr i u hu).ne_blk h.al.kb (by decide) hq
  · by_cases e : i = i0
    · subst e
      rw [List.getElem?_set_self (by rw [h.al.len]; exact hi0)] at hu
      cases hu
      rw [List.getElem?_set_ne hij] at hu'
      intro z
      rcases hat with z2 | ⟨q', z2, hq'⟩
      · exact h.al.ap i j v u' q hij hv hu' (by rw [← z2]; exact hq) z
      · rw [z2] at hq
        cases hq
        exact absurd ((h.al.kr j u' hu').lt z) (Nat.not_lt.2 hq')
    · rw [List.getElem?_set_ne (fun z => e z.symm)] at hu
      by_cases e2 : j = i0
      · subst e2
        rw [List.getElem?_set_self (by rw [h.al.len]; exact hi0)] at hu'
        cases hu'
        intro z
        rcases hat with z2 | ⟨q', z2, hq'⟩
        · exact h.al.ap i j u v q e hu hv hq (by rw [← z2]; exact z)
        · rw [z2] at z
          cases z
          exact absurd ((h.al.kr i u hu).lt hq) (Nat.not_lt.2 hq')
      · rw [List.getElem?_set_ne (fun z => e2 z.symm)] at hu'
        exact h.al.ap i j u u' q hij hu hu' hq
  · have := hL.own ho2 (fun j _ hA z => (nA j z).1 hA) nl na (fun j z => (nA j z).2)
    rw [hsz] at this
    exact this
  · exact hrow (h.rows j hj u hu) (hwork (h.rows j hj u hu) (by decide) (by decide)) fun q z => ⟨z.1, fun z2 => z.2 z2.1⟩
theorem KyX.mono {w wr : World} {k : SkRef} {c : CRef} {s : Sk} {L : Nat → List Int} {A : Nat → Prop} {u0 u1 : List Wk} {b : Nat} {v0 v1 : Value} {bk : Nat} {kv : List Value} {ks : Nat → List IK} {ab : Nat} {rv : List Value} {base bnd bnd' : Nat} (h : KyX w wr k c s L A u0 u1 b v0 v1 bk kv ks ab rv base bnd) (hb : bnd ≤ bnd') : KyX w wr k c s L A u0 u1 b v0 v1 bk kv ks ab rv base bnd' := by
  obtain ⟨t, hL, ht⟩ := h.lw
  exact { h with lw := ⟨t, hL, Nat.le_trans ht hb⟩ }
theorem RInv.node {k : SkRef} {T N : Nat} {r : RS} (h : RInv k T N r) {l : Nat} (hl : l < 6) {nd : Int} (hn : nd ∈ r.L l) : 1 ≤ nd ∧ nd ≤ k.units / 6 := by
  have h1 := h.v.pos l hl nd hn
  have h2 := h.b.room
  omega
theorem infoIk3 : ((Try.prog.info? 36).map fun i => (i.zero, i.size, i.bytes)) = some (some (.agg #[.string ⟨#[]⟩, .int .u64 0, .int .u8 0]), 3, 32) := by kernel_rfl
theorem iks_get {l : List IK} {p : Nat} (hp : p < l.length) (j : Nat) (hj : j < 3) : (iks l)[p * 3 + j]? = (ikC l[p])[j]? := by
  have e : iks l = iks (l.take p) ++ (ikC l[p] ++ iks (l.drop (p + 1))) := by
    have h2 : ∀ a b : List IK, iks (a ++ b) = iks a ++ iks b := fun a b => by simp [iks]
    have h3 : l.drop p = [l[p]] ++ l.drop (p + 1) := List.drop_eq_getElem_cons hp
    have h4 : iks [l[p]] = ikC l[p] := by simp [iks]
    rw [← h4, ← h2, ← h3, ← h2, List.take_append_drop]
  have hl : (iks (l.take p)).length = p * 3 := by rw [iks_len, List.length_take, Nat.min_eq_left (Nat.le_of_lt hp)]
  rw [e, List.getElem?_append_right (by omega), hl, Nat.add_sub_cancel_left, List.getElem?_append_left (by simp [ikC]; omega)]
theorem iks_cells {w : World} {l : List IK} {n p : Nat} {g cap : Nat} {A : Nat → Prop} (h : Row w 36 3 (.slice (some ⟨g, 0, none⟩) n cap) n (iks l) A) (hp : p < l.length) :
    w.cell? ⟨g, p * 3, none⟩ = some (.string l[p].key) ∧ w.cell? ⟨g, p * 3 + 1, none⟩ = some (.int .u64 l[p].seq) ∧ w.cell? ⟨g, p * 3 + 2, none⟩ = some (.int .u8 l[p].kind) := by
  have q : ∀ j u, j < 3 → (ikC l[p])[j]? = some u → w.cell? ⟨g, p * 3 + j, none⟩ = some u := fun j u hj hu => by
    have := h.owns.cells (g := g) rfl (p * 3 + j) u (by rw [iks_get hp j hj]; exact hu)
    rwa [addr_plain, Nat.zero_add] at this
  exact ⟨q 0 _ (by decide) rfl, q 1 _ (by decide) rfl, q 2 _ (by decide) rfl⟩
theorem Row.len63 {w : World} {e size n : Nat} {v : Value} {xs : List Value} {A : Nat → Prop} (h : Row w e size v n xs A) : n ≤ 9223372036854775807 := by
  rcases h.owns.2 with ⟨_, q⟩ | ⟨g, cap, cur, _, _, _, h1, h2, _⟩
  · omega
  · unfold maxLen at h2; omega
theorem ik_one (x : IK) : ∀ u ∈ ([.string x.key, .int .u64 x.seq, .int .u8 x.kind] : List Value), u.oneCell' = true := by intro u hu; simp at hu; rcases hu with rfl | rfl | rfl <;> rfl
theorem six_of {vs : List Value} (h : vs.length = 6) : ∃ a b c d e f, vs = [a, b, c, d, e, f] := by
  match vs, h with
  | [a, b, c, d, e, f], _ => exact ⟨a, b, c, d, e, f, rfl⟩
/-- Behind Rise: the table lies in a box of its own. -/
theorem AlX.kyx {w wz wr w2 W3 : World} {k : SkRef} {c : CRef} {r : RS} {A' A2 : Nat → Prop} {u0 u1 : List Wk} {b : Nat} {v0 v1 : Value} {bk : Nat} {kv : List Value} {ks : Nat → List IK} {rv : List Value} {t2 : List Acc} (h : AlX w wr u0 u1 b v0 v1 bk kv ks (fun q => w.heap.size ≤ q ∧ ¬ A' q)) (hL : LW wz w2 k c (r.s.more t2) A2) (hs : ∀ j, A2 j → A' j) (ho : Only A' wr w2) (hba : ∀ j, A' j → wz.heap.size ≤ j) (hwz : w.heap.size ≤ wz.heap.size)
    (hr : ∀ j, j < 6 → ∀ v, rv[j]? = some v → Row w2 3 1 v (r.L j).length (ints (r.L j)) (fun x => wr.heap.size ≤ x ∧ ¬ A2 x)) (ht : t2.length ≤ 1200) (hb : Below w2.heap.size w2 W3) (hB : Blk W3 w2.heap.size 44 rv) :
    KyX w W3 k c r.s r.L (boxA A2 w2.heap.size W3.heap.size) u0 u1 b v0 v1 bk kv ks w2.heap.size rv wr.heap.size 1200 := by
  have h2 : Below w.heap.size w w2 := h.below.trans (ho.below h.below.size fun q hq z => absurd (hba q z) (by omega))
  have hA2 : AlX w w2 u0 u1 b v0 v1 bk kv ks (fun q => w.heap.size ≤ q ∧ ¬ A2 q) := h.to (fun q hq hh => ⟨ho.block q hq hh.2, hh.1, fun z => hh.2 (hs q z)⟩) (fun q hh => hh.1) h2
  obtain ⟨S, Lx0, R⟩ := hL.ex
  have hL' : LW w w2 k c (r.s.more t2) A2 := ⟨⟨S, Lx0, R⟩, fun j z => Nat.le_trans hwz (hba j (hs j z)), h2⟩
  refine ⟨hA2.to (fun q hq hh => ⟨hb.block q hq, hh.1, fun z => hh.2 z.1⟩) (fun q hh => hh.1) (h2.trans (hb.mono h2.size)), ⟨t2, hL'.made hb, ht⟩, fun j hj v hv => ((hr j hj v hv).keep fun q hq => hb.block q ((hr j hj v hv).lt hq)).mono fun q _ z => ⟨z.1, fun z2 => z.2 z2.1⟩, hB, fun z => ?_, h2.size⟩
  have := hB.lt
  rcases z.2 with z | z <;> omega
end Go.Proofs.Ytkpjfdhjkgdcbaa
