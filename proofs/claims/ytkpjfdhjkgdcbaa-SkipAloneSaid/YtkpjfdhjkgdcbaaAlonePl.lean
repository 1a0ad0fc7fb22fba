/- What SkipAlone's lists hold: works put one after the other, and the keys of each level. -/
import Derived.Test.YtkpjfdhjkgdcbaaRise
import Derived.Test.YtkpjfdhjkgdcbaaUnlike

namespace Go.Proofs.Ytkpjfdhjkgdcbaa

def wellOf : Int → List Wk → List Wn
  | _, [] => []
  | c, a :: l => ⟨c + 1, a.e, a.h⟩ :: wellOf (c + 1) l
theorem wellOf_snoc : ∀ (c : Int) (l : List Wk) (a : Wk), wellOf c (l ++ [a]) = wellOf c l ++ [⟨c + l.length + 1, a.e, a.h⟩]
  | c, [], a => by simp [wellOf]
  | c, b :: l, a => by
    rw [List.cons_append, wellOf, wellOf_snoc (c + 1) l a, wellOf, List.cons_append, List.length_cons]
    congr 4
    omega
theorem wellOf_mem : ∀ (c : Int) (l : List Wk) (p : Wn), p ∈ wellOf c l → ∃ a, a ∈ l ∧ p.e = a.e ∧ p.h = a.h
  | _, [], p, h => by cases h
  | c, b :: l, p, h => by
    rcases List.mem_cons.1 h with rfl | h
    · exact ⟨b, List.mem_cons_self, rfl, rfl⟩
    · obtain ⟨a, h1, h2⟩ := wellOf_mem (c + 1) l p h
      exact ⟨a, List.mem_cons_of_mem _ h1, h2⟩
theorem wellOf_of_mem : ∀ (c : Int) (l : List Wk) (a : Wk), a ∈ l → ∃ p, p ∈ wellOf c l ∧ p.e = a.e ∧ p.h = a.h
  | _, [], a, h => by cases h
  | c, b :: l, a, h => by
    rcases List.mem_cons.1 h with rfl | h
    · exact ⟨_, List.mem_cons_self, rfl, rfl⟩
    · obtain ⟨p, h1, h2⟩ := wellOf_of_mem (c + 1) l a h
      exact ⟨p, List.mem_cons_of_mem _ h1, h2⟩
theorem wellOf_len : ∀ (c : Int) (l : List Wk), (wellOf c l).length = l.length
  | _, [] => rfl
  | c, b :: l => by rw [wellOf, List.length_cons, List.length_cons, wellOf_len (c + 1) l]
structure WkOk (a : Wk) : Prop where
  right : a.e.right = true
  wf : a.e.k.Wf
  h0 : 1 ≤ a.h
  h1 : a.h ≤ 6
def wkNeed (a : Wk) : Int := 4 + a.h + (a.e.k.key.size : Int) + (a.e.val.size : Int)
def sumNeed : List Wk → Int
  | [] => 0
  | a :: l => wkNeed a + sumNeed l
theorem sumNeed_snoc : ∀ (l : List Wk) (a : Wk), sumNeed (l ++ [a]) = sumNeed l + wkNeed a
  | [], a => by simp [sumNeed]
  | b :: l, a => by rw [List.cons_append, sumNeed, sumNeed_snoc l a, sumNeed]; omega
theorem sumNeed_le {B : Int} : ∀ (l : List Wk), (∀ a, a ∈ l → wkNeed a ≤ B) → sumNeed l ≤ l.length * B
  | [], _ => by simp [sumNeed]
  | a :: l, h => by
    have h1 := h a List.mem_cons_self
    have h2 := sumNeed_le l fun b hb => h b (List.mem_cons_of_mem _ hb)
    rw [sumNeed, List.length_cons, Int.natCast_add, Int.add_mul]
    omega
/-- A list into which these works were put, one after the other. -/
structure PutS (k : SkRef) (T N : Nat) (r : RS) (ws : List Wk) : Prop where
  rest : Rest k T N r
  w : r.well = wellOf 0 ws
  asked : r.s.asked = sumNeed ws
  count : r.s.count = ws.length
  begun : r.begun = ws.length
  tr : r.s.trace.length ≤ 100000 * ws.length
theorem PutS.init {k : SkRef} (T N : Nat) (h : 6 ≤ k.units) : PutS k T N RS.init [] := ⟨Rest.init T N h, rfl, rfl, rfl, rfl, Nat.zero_le _⟩
theorem PutS.put {w0 w : World} {k : SkRef} {c : CRef} {A : Nat → Prop} {T N : Nat} {r : RS} {ws : List Wk} (h : PutS k T N r ws) (L : LW w0 w k c r.s A) (i : Nat) (hi : i < T) (hT : T ≤ 64) (a : Wk) (ha : WkOk a) (hb : ws.length + 1 ≤ N) (hN : N ≤ 1000) (hm : most T N ≤ 90000) (hk : ∀ b, b ∈ ws → b.e.k ≠ a.e.k) (hu : sumNeed ws + wkNeed a ≤ k.units) :
    Calls Try.prog 13 #[.pointer (some ⟨k.lp, 0, none⟩), .int .i64 (i : Int), .agg (enC a.e).toArray, .int .i64 a.h] w fun x w' => x = .returned (.int .i64 0) ∧ ∃ r' : RS, LW w0 w' k c r'.s A ∧ PutS k T N r' (ws ++ [a]) ∧ Only A w w' := by
  have e1 := h.w
  have e2 := h.asked
  have e3 := h.count
  have e4 := h.begun
  have e5 := h.tr
  have hme : needI (ins0 (i : Int) a.e a.h) = wkNeed a := rfl
  refine (L.put h.rest i hi hT a.e ha.right ha.wf a.h ha.h0 ha.h1 (by omega) (fun p hp e => ?_) (by rw [hme]; omega) (by unfold trMax; omega)).mono ?_
  · rw [e1] at hp
    obtain ⟨b, hb1, hb2, _⟩ := wellOf_mem 0 ws p hp
    exact hk b hb1 (by rw [← hb2]; exact e)
  · rintro x w' ⟨rfl, r', hL, hR, a1, a2, a3, a4, a5, ho⟩
    refine ⟨rfl, r', hL, ⟨hR, ?_, by rw [a2, hme, sumNeed_snoc]; omega, by rw [a3, List.length_append, List.length_singleton]; omega, by rw [a4, List.length_append, List.length_singleton]; omega, by rw [List.length_append, List.length_singleton]; omega⟩, ho⟩
    rw [a1, e1, e3, wellOf_snoc]
    simp
theorem sorted_uniqueG {α : Type} {R : α → α → Prop} (irr : ∀ x, ¬ R x x) (asym : ∀ x y, R x y → ¬ R y x) : ∀ {L M : List α}, L.Pairwise R → M.Pairwise R → (∀ n, n ∈ L ↔ n ∈ M) → L = M
  | [], [], _, _, _ => rfl
  | [], b :: _, _, _, h => by have := (h b).2 List.mem_cons_self; cases this
  | a :: _, [], _, _, h => by have := (h a).1 List.mem_cons_self; cases this
  | a :: L, b :: M, hl, hm, h => by
    have hl' := List.pairwise_cons.1 hl
    have hm' := List.pairwise_cons.1 hm
    have hab : a = b := by
      rcases List.mem_cons.1 ((h a).1 List.mem_cons_self) with q | q
      · exact q
      · rcases List.mem_cons.1 ((h b).2 List.mem_cons_self) with q2 | q2
        · exact q2.symm
        · exact absurd (hl'.1 b q2) (asym _ _ (hm'.1 a q))
    subst hab
    refine congrArg (a :: ·) (sorted_uniqueG irr asym hl'.2 hm'.2 fun n => ?_)
    constructor
    · intro q
      rcases List.mem_cons.1 ((h n).1 (List.mem_cons_of_mem _ q)) with e | e
      · exact absurd (hl'.1 n q) (by rw [e]; exact irr a)
      · exact e
    · intro q
      rcases List.mem_cons.1 ((h n).2 (List.mem_cons_of_mem _ q)) with e | e
      · exact absurd (hm'.1 n q) (by rw [e]; exact irr a)
      · exact e
/-- A level's keys, from left to right. -/
def RS.keysAt (r : RS) (l : Nat) : List IK := (r.L l).map r.s.keys
theorem PutS.keys {k : SkRef} {T N : Nat} {r : RS} {ws : List Wk} (h : PutS k T N r ws) {l : Nat} (hl : l < 6) : (r.keysAt l).Pairwise IK.lt ∧ ∀ x, x ∈ r.keysAt l ↔ ∃ a, a ∈ ws ∧ a.e.k = x ∧ (l : Int) < a.h := by
  refine ⟨?_, fun x => ?_⟩
  · unfold RS.keysAt
    rw [List.pairwise_map]
    exact h.rest.inv.v.sorted l hl
  · unfold RS.keysAt
    rw [List.mem_map]
    constructor
    · rintro ⟨n, hn, rfl⟩
      obtain ⟨p, hp, rfl, hq⟩ := (h.rest.mem hl n).1 hn
      have hk := (h.rest.inv.v.wl p hp).key
      rw [h.w] at hp
      obtain ⟨a, h1, h2, h3⟩ := wellOf_mem 0 ws p hp
      exact ⟨a, h1, by rw [hk, h2], by rw [← h3]; exact hq⟩
    · rintro ⟨a, h1, rfl, h3⟩
      obtain ⟨p, hp, h4, h5⟩ := wellOf_of_mem 0 ws a h1
      rw [← h.w] at hp
      exact ⟨p.node, (h.rest.mem hl p.node).2 ⟨p, hp, rfl, by rw [h5]; exact h3⟩, by rw [(h.rest.inv.v.wl p hp).key, h4]⟩
/-- The same works in another order: the same keys on each level. -/
theorem PutS.same {k k' : SkRef} {T N T' N' : Nat} {r r' : RS} {ws ws' : List Wk} (h : PutS k T N r ws) (h' : PutS k' T' N' r' ws') (hm : ∀ a, a ∈ ws ↔ a ∈ ws') {l : Nat} (hl : l < 6) : r.keysAt l = r'.keysAt l :=
  sorted_uniqueG (fun x => IK.lt_irrefl x) (fun _ _ q => IK.lt_asymm q) (h.keys hl).1 (h'.keys hl).1 fun x => by
    rw [(h.keys hl).2, (h'.keys hl).2]
    constructor
    · rintro ⟨a, h1, h2⟩; exact ⟨a, (hm a).1 h1, h2⟩
    · rintro ⟨a, h1, h2⟩; exact ⟨a, (hm a).2 h1, h2⟩
theorem PutS.all {k : SkRef} {T N : Nat} {r : RS} {ws : List Wk} (h : PutS k T N r ws) : (r.L 0).length = ws.length := by
  have h1 : (r.L 0).Perm (r.well.map (·.node)) := by
    rw [List.perm_ext_iff_of_nodup (h.rest.inv.v.nodup (by decide)) h.rest.inv.v.well_nd]
    intro n
    rw [h.rest.mem (by decide) n, List.mem_map]
    constructor
    · rintro ⟨p, hp, e, _⟩; exact ⟨p, hp, e⟩
    · rintro ⟨p, hp, e⟩; exact ⟨p, hp, e, by have := (h.rest.inv.v.wl p hp).h0; omega⟩
  rw [h1.length_eq, List.length_map, h.w, wellOf_len]
theorem RS.keysAt_more (r : RS) (t : List Acc) (l : Nat) : (r.more t).keysAt l = r.keysAt l := rfl
theorem cutK_size (s : ByteArray) (n : Nat) : (cutK s n).size = min s.size n := by unfold cutK; rw [ByteArray.size_extract]; omega
theorem fixW_ok (a : Wk) (seq : Int) (h0 : 0 ≤ seq) (h1 : seq ≤ 1000) : WkOk (fixW a (keyK a.e.k.key) seq) ∧ wkNeed (fixW a (keyK a.e.k.key) seq) ≤ 330 := by
  have hh := fixH_range a.h
  have hk : 1 ≤ (cutK (keyK a.e.k.key) 64).size ∧ (cutK (keyK a.e.k.key) 64).size ≤ 64 := by
    rw [cutK_size]
    unfold keyK
    split
    · exact ⟨by decide, by decide⟩
    · omega
  have hv : (cutK a.e.val 256).size ≤ 256 := by rw [cutK_size]; omega
  refine ⟨⟨?_, ⟨h0, by show seq ≤ _; omega, (by show (0 : Int) ≤ 1; decide), (by show (1 : Int) ≤ 255; decide), by show (cutK (keyK a.e.k.key) 64).size ≤ _; omega⟩, hh.1, hh.2⟩, ?_⟩
  · unfold En.right IK.right fixW entS
    simp only [Bool.and_eq_true, decide_eq_true_eq]
    exact ⟨⟨hk.1, hk.2, by omega, Int.le_refl 1⟩, by rw [if_neg (by decide)]; exact hv⟩
  · show 4 + fixH a.h + ((cutK (keyK a.e.k.key) 64).size : Int) + ((cutK a.e.val 256).size : Int) ≤ 330
    omega
theorem unRow_ok : ∀ (s : Int) (l : List Wk), 0 ≤ s → s + l.length ≤ 1000 → ∀ a, a ∈ unRow s l → (WkOk a ∧ wkNeed a ≤ 330) ∧ s < a.e.k.seq ∧ a.e.k.seq ≤ s + l.length
  | _, [], _, _, a, h => by cases h
  | s, b :: l, h0, h1, a, h => by
    rw [List.length_cons] at h1 ⊢
    rcases List.mem_cons.1 h with rfl | h
    · exact ⟨fixW_ok b (s + 1) (by omega) (by omega), by show s < s + 1; omega, by show s + 1 ≤ _; omega⟩
    · have q := unRow_ok (s + 1) l (by omega) (by omega) a h
      exact ⟨q.1, by omega, by omega⟩
theorem unRow_apart : ∀ (s : Int) (l : List Wk), 0 ≤ s → s + l.length ≤ 1000 → (unRow s l).Pairwise fun a b => a.e.k.seq ≠ b.e.k.seq
  | _, [], _, _ => List.Pairwise.nil
  | s, b :: l, h0, h1 => by
    rw [List.length_cons] at h1
    refine List.pairwise_cons.2 ⟨fun a ha e => ?_, unRow_apart (s + 1) l (by omega) (by omega)⟩
    have q := (unRow_ok (s + 1) l (by omega) (by omega) a ha).2.1
    have e' : s + 1 = a.e.k.seq := e
    omega
/-- Works that may all be put. -/
structure GoodWs (ws : List Wk) : Prop where
  ok : ∀ a, a ∈ ws → WkOk a ∧ wkNeed a ≤ 330
  apart : ws.Pairwise fun a b => a.e.k.seq ≠ b.e.k.seq
  few : ws.length ≤ 20
theorem GoodWs.of_un (l : List Wk) (h : l.length ≤ 20) : GoodWs (unRow 0 l) :=
  ⟨fun a ha => (unRow_ok 0 l (by omega) (by omega) a ha).1, unRow_apart 0 l (by omega) (by omega), by rw [unRow_len]; exact h⟩
theorem turned_perm (ws : List Wk) (k : Nat) : (ws.drop k ++ ws.take k).Perm ws := by
  have h := List.perm_append_comm (l₁ := ws.drop k) (l₂ := ws.take k)
  rwa [List.take_append_drop] at h
theorem GoodWs.turn {ws : List Wk} (h : GoodWs ws) (k : Nat) : GoodWs (ws.drop k ++ ws.take k) := by
  have hp := turned_perm ws k
  exact ⟨fun a ha => h.ok a (hp.mem_iff.1 ha), (hp.pairwise_iff (fun {a b} q e => q e.symm)).2 h.apart, by rw [hp.length_eq]; exact h.few⟩
theorem GoodWs.step {ws : List Wk} (h : GoodWs ws) (j : Nat) (hj : j < ws.length) : WkOk ws[j] ∧ (∀ b, b ∈ ws.take j → b.e.k ≠ ws[j].e.k) ∧ sumNeed (ws.take j) + wkNeed ws[j] ≤ 8000 := by
  have hf := h.few
  have ho := h.ok ws[j] (List.getElem_mem _)
  refine ⟨ho.1, fun b hb e => ?_, ?_⟩
  · obtain ⟨i, hi, rfl⟩ := List.getElem_of_mem hb
    rw [List.length_take] at hi
    rw [List.getElem_take] at e
    exact List.pairwise_iff_getElem.1 h.apart i j (by omega) hj (by omega) (congrArg IK.seq e)
  · have q := sumNeed_le (ws.take j) fun a ha => (h.ok a (List.mem_of_mem_take ha)).2
    rw [List.length_take] at q
    have : ((min j ws.length : Nat) : Int) * 330 ≤ 19 * 330 := by omega
    omega
/-- A level's keys, as the works alone tell them. -/
def SK (ws : List Wk) (l : Nat) (ks : List IK) : Prop := ks.Pairwise IK.lt ∧ ∀ x, x ∈ ks ↔ ∃ a, a ∈ ws ∧ a.e.k = x ∧ (l : Int) < a.h
theorem PutS.sk {k : SkRef} {T N : Nat} {r : RS} {ws : List Wk} (h : PutS k T N r ws) {l : Nat} (hl : l < 6) : SK ws l (r.keysAt l) := h.keys hl
theorem SK.unique {ws ws' : List Wk} {l : Nat} {ks ks' : List IK} (h : SK ws l ks) (h' : SK ws' l ks') (hm : ∀ a, a ∈ ws ↔ a ∈ ws') : ks = ks' :=
  sorted_uniqueG (fun x => IK.lt_irrefl x) (fun _ _ q => IK.lt_asymm q) h.1 h'.1 fun x => by
    rw [h.2, h'.2]
    constructor
    · rintro ⟨a, h1, h2⟩; exact ⟨a, (hm a).1 h1, h2⟩
    · rintro ⟨a, h1, h2⟩; exact ⟨a, (hm a).2 h1, h2⟩
end Go.Proofs.Ytkpjfdhjkgdcbaa
