/- StoreTurns: the walk. -/
import Derived.Test.YteiaifhnikknbaaGreatDoorStHeight
import Derived.Test.YteiaifhnikknbaaGreatDoorRcAlone
import Derived.Test.YteiaifhnikknbaaGreatDoorData22
import Derived.Test.YteiaifhnikknbaaGreatDoorMany
import Derived.WideShapes
import Derived.Test.YteiaifhnikknbaaGreatDoorView22
import Derived.Test.YteiaifhnikknbaaGreatDoorLaidTab

namespace Go.Proofs.YteiaifhnikknbaaGreatDoor
open Go.RowKit

theorem stepS_bg (k : SkRef) (s : Sk) (x : Ins) : (stepS k s x).1.bgA = s.bgA ∧ (stepS k s x).1.lens = s.lens := by
  unfold stepS
  split <;> first | exact ⟨rfl, rfl⟩ | (dsimp only; split <;> exact ⟨rfl, rfl⟩)
theorem stepsS_bg (k : SkRef) (p : Sk × Ins) : ∀ n, (stepsS k p n).1.bgA = p.1.bgA ∧ (stepsS k p n).1.lens = p.1.lens
  | 0 => ⟨rfl, rfl⟩
  | n + 1 => ⟨(stepS_bg k _ _).1.trans (stepsS_bg k p n).1, (stepS_bg k _ _).2.trans (stepsS_bg k p n).2⟩
variable {B : Nat} {w w' : World} {q : SRef} {K : Cfg} {L L' : Lk} {S S' : Mem} {G : Gd} {A O : Nat → Prop}
theorem Sx.lx (h : Sx B w q K L S G A O) (hS : S.Short) (u0 : 6 ≤ K.units) (u1 : K.units ≤ 20000) (ha : (S.atomics.length : Int) = 2 + K.lists * skA K.units) (hp : (S.plains.length : Int) = 65 + K.lists * skP K.units) (i : Nat) (k : SkRef) (hk : q.ks[i]? = some k) : Lx w k q.r.c S A := by
  obtain ⟨h1, h2, h3, h4⟩ := h.st.ks i k hk
  have hi : ((i : Int) + 1) ≤ K.lists := by
    have := (List.getElem?_eq_some_iff.1 hk).1
    have := h.st.len
    omega
  have m1 : ((i : Int) + 1) * skA K.units ≤ K.lists * skA K.units := Int.mul_le_mul_of_nonneg_right hi (by unfold skA; omega)
  have m2 : ((i : Int) + 1) * skP K.units ≤ K.lists * skP K.units := Int.mul_le_mul_of_nonneg_right hi (by unfold skP; omega)
  have n1 : 0 ≤ (i : Int) * skA K.units := Int.mul_nonneg (by omega) (by unfold skA; omega)
  have n2 : 0 ≤ (i : Int) * skP K.units := Int.mul_nonneg (by omega) (by unfold skP; omega)
  rw [Int.add_mul, Int.one_mul] at m1 m2
  have e1 : skA K.units = 8 + 6 * (K.units / 6) := rfl
  have e2 : skP K.units = 2 * (K.units / 6) := rfl
  refine ⟨h1, h.cells, h.fresh, fun hA => (h.off _ h2).2.2 (.inl hA), fun hA => (h.off _ h3).2.2 (.inl hA), ?_, ?_, ?_, ?_, ?_, ?_, hS⟩
  · rw [h4]; show 0 ≤ 2 + (i : Int) * skA K.units; omega
  · rw [h4]; show 0 ≤ 65 + (i : Int) * skP K.units; omega
  · rw [h4, ha]; show 2 + (i : Int) * skA K.units + 8 + 6 * (K.units / 6) ≤ _; omega
  · rw [h4, hp]; show 65 + (i : Int) * skP K.units + 2 * (K.units / 6) ≤ _; omega
  · rw [h4]; exact u0
  · rw [h4]; show K.units ≤ _; omega
/-- A list of a memory whose size is known. -/
def r22 (tr : List Acc) (a p : Nat) : RS := { RS.init with s := { sk0 with trace := tr, lens := some (a, p) } }
theorem r22_inv {k : SkRef} (tr : List Acc) (a p : Nat) (h : 6 ≤ k.units) : RInv k 1 1 (r22 tr a p) := by
  have h0 := RInv.init (k := k) 1 1 h
  exact ⟨⟨h0.b.tasks, fun _ _ q => (by cases q), h0.b.u0, h0.b.next, h0.b.count0, h0.b.res, h0.b.room, (by show (0 : Int) ≤ 400 * (tr.length : Nat); omega)⟩, ⟨fun _ _ q => (by cases q), h0.v.chain, h0.v.pos, h0.v.sorted, h0.v.sub, h0.v.apart, h0.v.keys2, fun _ q => (by cases q), h0.v.well_ne, h0.v.well_nd, h0.v.all⟩, h0.n, fun _ _ q => (by cases q), h0.cnt, h0.inflight, h0.swaps, h0.wellEnd, h0.fails, h0.steps⟩
/-- The entry of one byte. -/
def kEnt : En := ⟨⟨⟨#[107]⟩, 1, 1⟩, ⟨#[]⟩⟩
/-- What a store's lists hold behind one Put into the list x. -/
structure LS (K : Cfg) (q : SRef) (x : Nat) (S : Mem) : Prop where
  z0 : S.at_ 0 = 0
  z1 : S.at_ 1 = 0
  next : ∀ i k, q.ks[i]? = some k → S.at_ (cellI k 0 0) = if i = x then 1 else 0
  asked : ∀ i k, q.ks[i]? = some k → S.at_ k.first = if i = x then 6 else 0
  la : (S.atomics.length : Int) = 2 + K.lists * skA K.units
  lp : (S.plains.length : Int) = 65 + K.lists * skP K.units
  short : S.Short
theorem LS.note {x : Nat} (h : LS K q x S) (a : Acc) : LS K q x (S.note a) := ⟨h.z0, h.z1, h.next, h.asked, h.la, h.lp, h.short.note a⟩
theorem place_of {lp aq : Nat} {i x : Nat} {k kx : SkRef} (hk : k = skOf K k.lp k.aq i) (hkx : kx = skOf K kx.lp kx.aq x) (hne : i ≠ x) (u0 : 6 ≤ K.units) : ∀ j : Int, k.first ≤ j → j < k.first + 8 → (j < kx.first ∨ kx.first + 8 + 6 * (kx.units / 6) ≤ j) := by
  intro j h1 h2
  have e1 : k.first = 2 + (i : Int) * skA K.units := by rw [hk]; rfl
  have e2 : kx.first = 2 + (x : Int) * skA K.units := by rw [hkx]; rfl
  have e3 : kx.units = K.units := by rw [hkx]; rfl
  have e4 : skA K.units = 8 + 6 * (K.units / 6) := rfl
  rcases Nat.lt_or_gt_of_ne hne with h | h
  · have m : ((i : Int) + 1) * skA K.units ≤ (x : Int) * skA K.units := Int.mul_le_mul_of_nonneg_right (by omega) (by omega)
    rw [Int.add_mul, Int.one_mul] at m
    left; omega
  · have m : ((x : Int) + 1) * skA K.units ≤ (i : Int) * skA K.units := Int.mul_le_mul_of_nonneg_right (by omega) (by omega)
    rw [Int.add_mul, Int.one_mul] at m
    right; rw [e3]; omega
set_option maxHeartbeats 1000000 in
theorem stput (h : Sx B w q K L S G A O) (hz : ∀ i, S.at_ i = 0) (hzp : ∀ i, S.place i = []) (htr : S.trace.length ≤ 10) (hS : S.Short) (u0 : 6 ≤ K.units) (u1 : K.units ≤ 20000) (ha : (S.atomics.length : Int) = 2 + K.lists * skA K.units) (hp : (S.plains.length : Int) = 65 + K.lists * skP K.units) (x : Nat) (k : SkRef) (hk : q.ks[x]? = some k) :
    Calls Tryz.prog 8 #[.pointer (some ⟨k.lp, 0, none⟩), .int .i64 0, .agg (enC kEnt).toArray, .int .i64 1] w fun e w' => e = .returned (.int .i64 0) ∧ ∃ S', Sx B w' q K L S' G A O ∧ LS K q x S' ∧ Only A w w' ∧ S'.trace.length ≤ 1000000 := by
  have lx := h.lx hS u0 u1 ha hp x k hk
  obtain ⟨_, _, _, hkx⟩ := h.st.ks x k hk
  have hku : k.units = K.units := by rw [hkx]; rfl
  have hf : k.first = 2 + (x : Int) * skA K.units := by rw [hkx]; rfl
  have hfx : 2 ≤ k.first := by rw [hf]; have := Int.mul_nonneg (show (0 : Int) ≤ x by omega) (show (0 : Int) ≤ skA K.units by unfold skA; omega); omega
  have hR : Rel k (r22 S.trace S.atomics.length S.plains.length).s S := ⟨hz _, hz _, fun _ _ _ _ _ => hz _, fun _ _ _ => .inr ⟨hzp _, rfl⟩, fun _ _ _ => hzp _, rfl, fun _ _ _ => hz _, fun _ _ _ => hzp _, fun a p q => by cases q; exact ⟨rfl, rfl⟩⟩
  have hI : RInv k 1 1 (r22 S.trace S.atomics.length S.plains.length) := r22_inv _ _ _ (by omega)
  have hm : most 1 1 = 40 := rfl
  have hl0 : (r22 S.trace S.atomics.length S.plains.length).s.trace.length = S.trace.length := rfl
  have hnd : needI (ins0 ((0 : Nat) : Int) kEnt 1) = 6 := rfl
  have ha0 : (r22 S.trace S.atomics.length S.plains.length).s.asked = 0 := rfl
  obtain ⟨n, r', a1, a2, a3, a4, a5, a6, a7, a8, a9, a10, a11⟩ := run_alone (i := 0) hI (fun _ => rfl) (by decide) (by decide) (e := kEnt) (by decide) ⟨by decide, by decide, by decide, by decide, by decide⟩ (height := 1) (by decide) (by decide) (show 0 + 1 ≤ 1 by decide) (fun p hp => by cases hp) (by rw [hnd, ha0]; omega) (by rw [hm]; unfold trMax; omega) (by rw [hm]; omega)
  have hruns := a2
  refine (put_any lx hR ((0 : Nat) : Int) 1 kEnt (by decide) (by decide) (by decide) (by decide) (by decide) n a2 a1).mono ?_
  rintro e w' ⟨S', rfl, R', L1, o1⟩
  rw [a3] at R'
  have hbg : r'.s.bgA = fun _ => 0 := by rw [← a3]; exact (stepsS_bg _ _ n).1
  have hlen := R'.len S.atomics.length S.plains.length (by rw [← a3]; exact (stepsS_bg _ _ n).2)
  have hnx : r'.s.next 0 0 = 1 := by
    have hch := a5.v.chain 0 (by decide)
    have hwl : ∀ p, p ∈ r'.well → p = ⟨(r22 S.trace S.atomics.length S.plains.length).s.count + 1, kEnt, 1⟩ := fun p hp => by rw [a7] at hp; simpa [r22, RS.init] using hp
    have hall : ∀ b, b ∈ r'.L 0 → b = 1 := fun b hb => by
      rcases a5.v.all b hb with ⟨p, hp, e⟩ | ⟨j, y, hy, _⟩
      · rw [← e, hwl p hp]; rfl
      · rw [a6 j] at hy; cases hy
    have hmem : (1 : Int) ∈ r'.L 0 := by
      have := (a5.v.wl ⟨(r22 S.trace S.atomics.length S.plains.length).s.count + 1, kEnt, 1⟩ (by rw [a7]; exact List.mem_append_right _ (List.mem_singleton.2 rfl))).link 0 (by decide)
      exact this.2 (show ((0 : Nat) : Int) < 1 by decide)
    cases hL : r'.L 0 with
    | nil => rw [hL] at hmem; cases hmem
    | cons b r =>
      rw [hL] at hch
      have : b = 1 := hall b (by rw [hL]; exact List.mem_cons_self)
      rw [← this]; exact hch.1
  refine ⟨by rw [a4], S', ?_, ⟨?_, ?_, fun i ki hki => ?_, fun i ki hki => ?_, ?_, ?_, L1.short⟩, o1, ?_⟩
  · exact h.mem L1.mem o1 (by rw [R'.trace, ← a3, hruns.len n (Nat.le_refl n)]; exact Nat.le_add_right _ _)
  · rw [R'.bgA 0 (by decide) (.inl (by omega)), hbg]
  · rw [R'.bgA 1 (by decide) (.inl (by omega)), hbg]
  · obtain ⟨_, _, _, hki4⟩ := h.st.ks i ki hki
    by_cases hi : i = x
    · subst hi
      rw [hk] at hki
      cases hki
      rw [if_pos rfl]
      have := R'.next 0 0 (Int.le_refl 0) (by rw [hku]; omega) (by decide)
      rw [hnx] at this
      exact this
    · rw [if_neg hi]
      have hc : cellI ki 0 0 = ki.first + 2 := by unfold cellI; rw [if_pos rfl]; omega
      have hi0 : 0 ≤ ki.first := by rw [hki4]; show 0 ≤ 2 + (i : Int) * skA K.units; have := Int.mul_nonneg (show (0 : Int) ≤ i by omega) (show (0 : Int) ≤ skA K.units by unfold skA; omega); omega
      rw [hc, R'.bgA _ (by omega) (place_of (lp := 0) (aq := 0) hki4 hkx hi u0 _ (by omega) (by omega)), hbg]
  · obtain ⟨_, _, _, hki4⟩ := h.st.ks i ki hki
    by_cases hi : i = x
    · subst hi
      rw [hk] at hki
      cases hki
      rw [if_pos rfl, R'.asked, a8]
      rfl
    · rw [if_neg hi]
      have hi0 : 0 ≤ ki.first := by rw [hki4]; show 0 ≤ 2 + (i : Int) * skA K.units; have := Int.mul_nonneg (show (0 : Int) ≤ i by omega) (show (0 : Int) ≤ skA K.units by unfold skA; omega); omega
      rw [R'.bgA _ (by omega) (place_of (lp := 0) (aq := 0) hki4 hkx hi u0 _ (Int.le_refl _) (by omega)), hbg]
  · rw [hlen.1]; exact ha
  · rw [hlen.2]; exact hp
  · rw [R'.trace]; omega
set_option maxHeartbeats 1000000 in
theorem slist_yes (h : Sx B w q K L S G A O) (i : Nat) (k : SkRef) (hk : q.ks[i]? = some k) (hl : K.lists ≤ 64) : Calls Tryz.prog 6 #[.pointer (some ⟨q.p, 0, none⟩), .int .i64 (i : Int)] w fun e w' => e = .returned (.pointer (some ⟨k.lp, 0, none⟩)) ∧ w = w' := by
  have c6 := h.c6
  have hil := (List.getElem?_eq_some_iff.1 hk).1
  have hln := h.st.len
  obtain ⟨sh, sll, sl, sd, si, st, k1, _, hr, _⟩ := h.st.ex
  obtain ⟨n, hn⟩ : ∃ n, q.ks.length = n := ⟨_, rfl⟩
  rw [hn] at hr hil hln
  rcases hr.form with ⟨_, h0⟩ | ⟨g, cap, rfl, _, _, hc⟩
  · omega
  · have c9 := k1.cell 9 (v := .slice (some ⟨g, 0, none⟩) n cap) rfl
    have ci := hr.owns.cells (g := g) rfl i (.pointer (some ⟨k.lp, 0, none⟩)) (by simp [ptrs, hk])
    rw [addr_plain, Nat.zero_add] at ci
    have g1 : ¬ (i : Int) < 0 := by omega
    have g2 : ¬ (n : Int) ≤ (i : Int) := by omega
    have g3 : (i : Int) < (n : Int) := by omega
    clear hr k1 hn h hk
    go_enter Tryz.func6, Tryz.ntmps6
    go_wp2_with (go_at_call 17; refine (sis_yes _ _ _ c6).mono ?_; rintro e w' ⟨rfl, rfl⟩)
    go_ret
    exact ⟨rfl, rfl⟩
set_option maxHeartbeats 1000000 in
theorem slist_out (h : Sx B w q K L S G A O) (n : Int) (hn : n < 0 ∨ K.lists ≤ n) : Calls Tryz.prog 6 #[.pointer (some ⟨q.p, 0, none⟩), .int .i64 n] w fun e w' => e = .returned (.pointer none) ∧ w = w' := by
  have c6 := h.c6
  have hln := h.st.len
  obtain ⟨sh, sll, sl, sd, si, st, k1, _, hr, _⟩ := h.st.ex
  obtain ⟨m, hm⟩ : ∃ m, q.ks.length = m := ⟨_, rfl⟩
  rw [hm] at hr hln
  obtain ⟨ao, cap, rfl⟩ := hr.slice
  have c9 := k1.cell 9 (v := .slice ao m cap) rfl
  clear hr k1 hm h
  by_cases g1 : n < 0
  · go_enter Tryz.func6, Tryz.ntmps6
    go_wp2_with (go_at_call 17; refine (sis_yes _ _ _ c6).mono ?_; rintro e w' ⟨rfl, rfl⟩)
    go_ret
    exact ⟨rfl, rfl⟩
  · have g2 : (m : Int) ≤ n := by omega
    clear hn
    go_enter Tryz.func6, Tryz.ntmps6
    go_wp2_with (go_at_call 17; refine (sis_yes _ _ _ c6).mono ?_; rintro e w' ⟨rfl, rfl⟩)
    go_ret
    exact ⟨rfl, rfl⟩
end Go.Proofs.YteiaifhnikknbaaGreatDoor


namespace Go.Proofs.YteiaifhnikknbaaGreatDoor
open Go.RowKit

theorem ba_inj (a b : ByteArray) : a = b ↔ a.toList = b.toList := ⟨fun h => by rw [h], fun h => by rw [ByteArray.toList_eq, ByteArray.toList_eq] at h; exact Go.WideShapes.bytes_inj h⟩
theorem flat_get {α : Type} (f : α → List Value) (sz : Nat) (hf : ∀ a, (f a).length = sz) (l : List α) (k : Nat) (h : k < l.length) (j : Nat) (hj : j < sz) : (l.flatMap f)[k * sz + j]? = (f l[k])[j]? := by
  induction l generalizing k with
  | nil => simp at h
  | cons a l ih =>
    rw [List.flatMap_cons]
    cases k with
    | zero => rw [List.getElem?_append_left (by rw [hf]; omega)]; simp
    | succ k =>
      have e : (k + 1) * sz + j = sz + (k * sz + j) := by rw [Nat.succ_mul]; omega
      rw [e, List.getElem?_append_right (by rw [hf]; omega), hf, Nat.add_sub_cancel_left]
      simpa using ih k (by simpa using h)
theorem Reads.flat {α : Type} {f : α → List Value} {sz : Nat} (hf : ∀ a, (f a).length = sz) {w : World} {b off n c : Nat} {l : List α} (h : Reads w sz (.slice (some ⟨b, off, none⟩) n c) n (l.flatMap f)) (k : Nat) (hk : k < l.length) (hn : l.length = n) (j : Nat) (v : Value) (hv : (f l[k])[j]? = some v) :
    w.cell? ⟨b, off + (k * sz + j), none⟩ = some v := by
  have hj : j < sz := by have := (List.getElem?_eq_some_iff.1 hv).1; rw [hf] at this; exact this
  rcases h.form with ⟨rfl, _⟩ | ⟨b', off', c', e, _, hr⟩
  · omega
  · cases e
    exact hr _ _ (by rw [flat_get f sz hf l k hk j hj]; exact hv)

theorem eqMb (d : Nat) (w : World) (x y : Mbr) :
    (Op.equalIn (d + 2) 155 (.agg #[.int .i64 x.task, .int .i64 x.ops, .int .u64 x.need, .int .u64 x.first, .int .u8 x.say, .int .i64 x.err]) (.agg #[.int .i64 y.task, .int .i64 y.ops, .int .u64 y.need, .int .u64 y.first, .int .u8 y.say, .int .i64 y.err])).run Tryz.prog w = .ok (decide (x = y)) w := by
  have e : decide (x = y) = ((x.task == y.task) && ((x.ops == y.ops) && ((x.need == y.need) && ((x.first == y.first) && ((x.say == y.say) && ((x.err == y.err) && true)))))) := by
    rw [Bool.eq_iff_iff]
    obtain ⟨a0, a1, a2, a3, a4, a5⟩ := x
    obtain ⟨b0, b1, b2, b3, b4, b5⟩ := y
    simp
  rw [e]
  refine eqS_of Tryz.underlying155 (by kernel_rfl) ?_
  refine eqF_cons (by decide) (by go_simp; rfl) (by go_simp; rfl) (by first | (go_simp; done) | (go_simp; rfl)) ?_
  refine eqF_cons (by decide) (by go_simp; rfl) (by go_simp; rfl) (by first | (go_simp; done) | (go_simp; rfl)) ?_
  refine eqF_cons (by decide) (by go_simp; rfl) (by go_simp; rfl) (by first | (go_simp; done) | (go_simp; rfl)) ?_
  refine eqF_cons (by decide) (by go_simp; rfl) (by go_simp; rfl) (by first | (go_simp; done) | (go_simp; rfl)) ?_
  refine eqF_cons (by decide) (by go_simp; rfl) (by go_simp; rfl) (by first | (go_simp; done) | (go_simp; rfl)) ?_
  refine eqF_cons (by decide) (by go_simp; rfl) (by go_simp; rfl) (by first | (go_simp; done) | (go_simp; rfl)) ?_
  exact eqF_nil
theorem neqMb (w : World) (x y : Mbr) : (binOp .neq 155 (.agg #[.int .i64 x.task, .int .i64 x.ops, .int .u64 x.need, .int .u64 x.first, .int .u8 x.say, .int .i64 x.err]) (.agg #[.int .i64 y.task, .int .i64 y.ops, .int .u64 y.need, .int .u64 y.first, .int .u8 y.say, .int .i64 y.err])).run Tryz.prog w = .ok (.bool (!decide (x = y))) w := run_neq_of (eqMb 9998 w x y)
theorem eqIm (d : Nat) (w : World) (x y : Imm) :
    (Op.equalIn (d + 2) 141 (.agg #[.int .i64 x.list, .int .u64 x.log]) (.agg #[.int .i64 y.list, .int .u64 y.log])).run Tryz.prog w = .ok (decide (x = y)) w := by
  have e : decide (x = y) = ((x.list == y.list) && ((x.log == y.log) && true)) := by
    rw [Bool.eq_iff_iff]
    obtain ⟨a0, a1⟩ := x
    obtain ⟨b0, b1⟩ := y
    simp
  rw [e]
  refine eqS_of Tryz.underlying141 (by kernel_rfl) ?_
  refine eqF_cons (by decide) (by go_simp; rfl) (by go_simp; rfl) (by first | (go_simp; done) | (go_simp; rfl)) ?_
  refine eqF_cons (by decide) (by go_simp; rfl) (by go_simp; rfl) (by first | (go_simp; done) | (go_simp; rfl)) ?_
  exact eqF_nil
theorem neqIm (w : World) (x y : Imm) : (binOp .neq 141 (.agg #[.int .i64 x.list, .int .u64 x.log]) (.agg #[.int .i64 y.list, .int .u64 y.log])).run Tryz.prog w = .ok (.bool (!decide (x = y))) w := run_neq_of (eqIm 9998 w x y)
theorem eqMt (d : Nat) (w : World) (x y : Meta) :
    (Op.equalIn (d + 2) 92 (.agg #[.int .u64 x.num, .int .u64 x.size, .string x.least, .string x.most]) (.agg #[.int .u64 y.num, .int .u64 y.size, .string y.least, .string y.most])).run Tryz.prog w = .ok (decide (x = y)) w := by
  have e : decide (x = y) = ((x.num == y.num) && ((x.size == y.size) && ((x.least.toList == y.least.toList) && ((x.most.toList == y.most.toList) && true)))) := by
    rw [Bool.eq_iff_iff]
    obtain ⟨a0, a1, a2, a3⟩ := x
    obtain ⟨b0, b1, b2, b3⟩ := y
    simp [ba_inj]
  rw [e]
  refine eqS_of Tryz.underlying92 (by kernel_rfl) ?_
  refine eqF_cons (by decide) (by go_simp; rfl) (by go_simp; rfl) (by first | (go_simp; done) | (go_simp; rfl)) ?_
  refine eqF_cons (by decide) (by go_simp; rfl) (by go_simp; rfl) (by first | (go_simp; done) | (go_simp; rfl)) ?_
  refine eqF_cons (by decide) (by go_simp; rfl) (by go_simp; rfl) (by first | (go_simp; done) | (go_simp; rfl)) ?_
  refine eqF_cons (by decide) (by go_simp; rfl) (by go_simp; rfl) (by first | (go_simp; done) | (go_simp; rfl)) ?_
  exact eqF_nil
theorem neqMt (w : World) (x y : Meta) : (binOp .neq 92 (.agg #[.int .u64 x.num, .int .u64 x.size, .string x.least, .string x.most]) (.agg #[.int .u64 y.num, .int .u64 y.size, .string y.least, .string y.most])).run Tryz.prog w = .ok (.bool (!decide (x = y))) w := run_neq_of (eqMt 9998 w x y)
set_option maxRecDepth 100000 in
set_option maxHeartbeats 1000000 in
theorem lowMt_same (w : World) (b1 o1 c1 b2 o2 c2 : Nat) (l m : List Meta) (h1 : Reads w 4 (.slice (some ⟨b1, o1, none⟩) l.length c1) l.length (mts l)) (h2 : Reads w 4 (.slice (some ⟨b2, o2, none⟩) m.length c2) m.length (mts m)) (hl : l.length ≤ 4000000000)
    (hlm : l.length = m.length) :
    Calls Tryz.prog 56 #[.slice (some ⟨b1, o1, none⟩) l.length c1, .slice (some ⟨b2, o2, none⟩) m.length c2] w fun e w' => e = .returned (.bool (decide (l = m))) ∧ Quiet w w' := by
  have hne : ((l.length : Int) != m.length) = false := by simp [hlm]
  have HLM := Lib.hid hlm
  clear hlm
  go_enter Tryz.func56, Tryz.ntmps56
  go_wp2
  go_loopw [13] (fun i wr => ∃ k : Nat, k ≤ l.length ∧ i = .int .i64 k ∧ l.take k = m.take k ∧ Quiet w wr) (fun i _ => l.length - (intOf i).toNat)
  case atStart => exact ⟨0, Nat.zero_le _, rfl, by simp, Quiet.refl w⟩
  case round =>
    obtain ⟨k, hk, rfl, ht, hq⟩ := hrel
    by_cases hlt : k < l.length
    · have hltm : k < m.length := by have := HLM.out; omega
      have rx := (h1.quiet hq).flat (f := Meta.cells) (fun _ => rfl) k hlt rfl
      have ry := (h2.quiet hq).flat (f := Meta.cells) (fun _ => rfl) k hltm rfl
      have x0 := rx 0 _ (show (Meta.cells l[k])[0]? = _ from rfl)
      have y0 := ry 0 _ (show (Meta.cells m[k])[0]? = _ from rfl)
      have x1 := rx 1 _ (show (Meta.cells l[k])[1]? = _ from rfl)
      have y1 := ry 1 _ (show (Meta.cells m[k])[1]? = _ from rfl)
      have x2 := rx 2 _ (show (Meta.cells l[k])[2]? = _ from rfl)
      have y2 := ry 2 _ (show (Meta.cells m[k])[2]? = _ from rfl)
      have x3 := rx 3 _ (show (Meta.cells l[k])[3]? = _ from rfl)
      have y3 := ry 3 _ (show (Meta.cells m[k])[3]? = _ from rfl)
      simp only [Nat.add_zero, ← Nat.add_assoc] at x0 y0
      simp only [Nat.add_zero, ← Nat.add_assoc] at x1 y1
      simp only [Nat.add_zero, ← Nat.add_assoc] at x2 y2
      simp only [Nat.add_zero, ← Nat.add_assoc] at x3 y3
      have hk1 : k + 1 ≤ 9223372036854775807 := by omega
      generalize hla : l[k] = x at x0 x1 x2 x3
      generalize hma : m[k] = y at y0 y1 y2 y3
      have HX := Lib.hid hla
      have HY := Lib.hid hma
      have HT := Lib.hid ht
      clear hla hma ht h1 h2 rx ry
      have hne2 := fun W => neqMt W x y
      go_wp2_with fail
      go_quiet (fail)
      go_wp2
      · have hne3 : (!decide (x = y)) = true := by assumption
        go_ret
        refine ⟨?_, hq.trans ⟨_, rfl⟩⟩
        have hxy : x ≠ y := by simpa using hne3
        have : l ≠ m := fun e => hxy (by rw [← HX.out, ← HY.out]; simp only [e])
        simp [this]
      · have hne3 : (!decide (x = y)) = false := by assumption
        have hxy : x = y := by simpa using hne3
        go_roundw
        case rel => exact ⟨k + 1, by omega, by go_num, take_succ_of HT.out hlt hltm (by rw [HX.out, HY.out, hxy]), hq.trans ⟨_, rfl⟩⟩
        case measure => simp [intOf]; omega
    · have hkl : k = l.length := by omega
      have hlm : l = m := by
        have hlen := HLM.out
        rw [hkl, List.take_of_length_le (Nat.le_refl _), List.take_of_length_le (by omega)] at ht
        exact ht
      have HE := Lib.hid hlm
      clear hlm ht hkl h1 h2
      go_wp2
      go_ret
      exact ⟨by simp [HE.out], hq⟩
set_option maxHeartbeats 1000000 in
theorem lowMt_len (w : World) (a1 a2 : Option Addr) (n c1 m c2 : Nat) (hlm : ((n : Int) != m) = true) :
    Calls Tryz.prog 56 #[.slice a1 n c1, .slice a2 m c2] w fun e w' => e = .returned (.bool false) ∧ Quiet w w' := by
  go_enter Tryz.func56, Tryz.ntmps56
  go_wp2
  go_ret
  exact ⟨rfl, Quiet.refl w⟩
set_option maxHeartbeats 1000000 in
theorem lowMt_nil (w : World) (a1 a2 : Option Addr) (c1 c2 : Nat) :
    Calls Tryz.prog 56 #[.slice a1 0 c1, .slice a2 0 c2] w fun e w' => e = .returned (.bool true) ∧ Quiet w w' := by
  go_enter Tryz.func56, Tryz.ntmps56
  go_wp2
  go_loopw [13] (fun i wr => i = .int .i64 0 ∧ w = wr) (fun _ _ => 0)
  case atStart => exact ⟨rfl, rfl⟩
  case round =>
    obtain ⟨rfl, rfl⟩ := hrel
    go_wp2
    go_ret
    exact ⟨rfl, Quiet.refl w⟩
theorem lowMt (w : World) (v1 v2 : Value) (l m : List Meta) (h1 : Reads w 4 v1 l.length (mts l)) (h2 : Reads w 4 v2 m.length (mts m)) (hl : l.length ≤ 4000000000) :
    Calls Tryz.prog 56 #[v1, v2] w fun e w' => e = .returned (.bool (decide (l = m))) ∧ Quiet w w' := by
  by_cases hlm : l.length = m.length
  · rcases h1.form with ⟨h0, ao, c, rfl⟩ | ⟨b1, o1, c1, rfl, _⟩
    · obtain rfl : l = [] := List.eq_nil_of_length_eq_zero h0
      obtain rfl : m = [] := List.eq_nil_of_length_eq_zero (by simpa using hlm.symm)
      obtain ⟨ao2, c2, rfl⟩ := h2.slice
      exact (lowMt_nil w _ _ _ _).mono (by rintro e w' ⟨rfl, hq⟩; exact ⟨rfl, hq⟩)
    · rcases h2.form with ⟨h0, ao, c, rfl⟩ | ⟨b2, o2, c2, rfl, _⟩
      · obtain rfl : m = [] := List.eq_nil_of_length_eq_zero h0
        obtain rfl : l = [] := List.eq_nil_of_length_eq_zero (by simpa using hlm)
        exact (lowMt_nil w _ _ _ _).mono (by rintro e w' ⟨rfl, hq⟩; exact ⟨rfl, hq⟩)
      · exact lowMt_same w b1 o1 c1 b2 o2 c2 l m h1 h2 hl hlm
  · obtain ⟨a1, c1, rfl⟩ := h1.slice
    obtain ⟨a2, c2, rfl⟩ := h2.slice
    refine (lowMt_len w a1 a2 _ c1 _ c2 (by simp; omega)).mono ?_
    rintro e w' ⟨rfl, hq⟩
    have : l ≠ m := fun e => hlm (by rw [e])
    exact ⟨by simp [this], hq⟩
end Go.Proofs.YteiaifhnikknbaaGreatDoor


namespace Go.Proofs.YteiaifhnikknbaaGreatDoor
open Go.RowKit

variable {w w' : World} {G : Gd}
/-- A view can be read. -/
structure VR (w : World) (V : Vw) (vm vt : Value) : Prop where
  m : Reads w 1 vm V.mems.length (ints V.mems)
  t : Reads w 4 vt V.tables.length (mts V.tables)
theorem VO.vr {V : Vw} {vm vt : Value} {A : Nat → Prop} (h : VO w V vm vt A) : VR w V vm vt := ⟨h.m.reads, h.t.reads⟩
theorem VR.below {V : Vw} {vm vt : Value} (h : VR w V vm vt) (hb : Below w.heap.size w w') : VR w' V vm vt := ⟨h.m.below hb, h.t.below hb⟩
set_option maxRecDepth 100000 in
set_option maxHeartbeats 1000000 in
theorem lowView_same (V : Vw) (vm vt um ut : Value) (h1 : VR w V vm vt) (h2 : VR w V um ut) (n1 : V.mems.length ≤ 1000000) (n2 : V.tables.length ≤ 1000000) :
    Calls Tryz.prog 33 #[.agg (vC vm vt).toArray, .agg (vC um ut).toArray] w fun e w' => e = .returned (.bool true) ∧ Below w.heap.size w w' := by
  obtain ⟨W, hW, k1, k2, hB, hsz⟩ := two_boxes w (vC vm vt) (vC um ut) 97 97
  have c1 : ∀ k, Calls Tryz.prog 55 #[vm, um] (W.drewN k) fun e w' => e = .returned (.bool true) ∧ Quiet (W.drewN k) w' := fun k => (lowInts _ _ _ _ _ _ _ ((h1.m.below hB).drewN k) ((h2.m.below hB).drewN k) (by omega)).mono (by rintro e w' ⟨rfl, hq⟩; exact ⟨by simp, hq⟩)
  have c2 : ∀ k, Calls Tryz.prog 56 #[vt, ut] (W.drewN k) fun e w' => e = .returned (.bool true) ∧ Quiet (W.drewN k) w' := fun k => (lowMt _ _ _ _ _ ((h1.t.below hB).drewN k) ((h2.t.below hB).drewN k) (by omega)).mono (by rintro e w' ⟨rfl, hq⟩; exact ⟨by simp, hq⟩)
  have C1 := Lib.hid (c1 0)
  have C2 := Lib.hid c2
  have a0 := k1.cell 0 rfl
  have a1 := k1.cell 1 rfl
  have b0 := k2.cell 0 rfl
  have b1 := k2.cell 1 rfl
  clear c1 c2 h1 h2 k1 k2
  go_enter Tryz.func33, Tryz.ntmps33
  go_wp2_with (first | (go_at_call 55; refine C1.out.mono ?_; rintro e w3 ⟨rfl, ⟨n3, rfl⟩⟩) | (go_at_call 56; refine (C2.out _).mono ?_; rintro e w4 ⟨rfl, ⟨n4, rfl⟩⟩))
  go_ret
  exact ⟨rfl, hB.trans (Quiet.below ⟨⟨_, rfl⟩⟩ _)⟩

def liC (G : Gd) (sl sd : Value) : List Value := [sl, sd, .int .i64 G.group]
end Go.Proofs.YteiaifhnikknbaaGreatDoor


namespace Go.Proofs.YteiaifhnikknbaaGreatDoor
open Go.RowKit

def logsG (G : Gd) : List Int := G.imms.map Imm.log ++ [G.log]
theorem keepG_head (G : Gd) : (logsG G).head? = some (keepG G) := by
  cases h : G.imms <;> simp [logsG, keepG, h]
/-- What is guarded behind k turns. -/
structure TI (G : Gd) (k : Nat) : Prop where
  l : G.l = []
  d : G.done = []
  bad : G.bad = 0
  mem : 0 ≤ G.mem ∧ G.mem ≤ k
  log : 0 ≤ G.log ∧ G.log ≤ 1 + 100 * k
  next : 0 ≤ G.next ∧ G.next ≤ 2 + 100 * k
  imms : G.imms.length ≤ k
  tables : G.tables.length ≤ k
  up : (logsG G).Pairwise (· ≤ ·)
def g0 : Gd := ⟨[], [], 0, 0, 0, 0, [], 1, 2, [], false⟩
theorem TI.zero : TI g0 0 := ⟨rfl, rfl, rfl, by decide, by decide, by decide, by decide, by decide, by decide⟩
theorem TI.small {G : Gd} {k : Nat} (h : TI G k) (hk : k ≤ 1000000) : G.Small 1000000 :=
  ⟨by rw [h.l]; simp, by rw [h.d]; simp, by have := h.imms; omega, by have := h.tables; omega⟩
theorem TI.rot {G : Gd} {k : Nat} (h : TI G k) (hk : k ≤ 1000000) {log : Int} (h1 : G.log < log) (h2 : log ≤ G.log + 100) :
    TI (rotG G log) (k + 1) ∧ (rotG G log).mem = G.mem + 1 ∧ (rotG G log).log = log ∧ log < (rotG G log).next ∧ G.next ≤ (rotG G log).next ∧ keepG G ≤ keepG (rotG G log) ∧ (viewG (rotG G log)).mems = (G.mem + 1) :: (viewG G).mems ∧ (rotG G log).tables = G.tables := by
  have e : wrap64 (G.mem + 1) = G.mem + 1 := by have := h.mem; unfold wrap64; omega
  have hm := h.mem
  have hl := h.log
  have hn := h.next
  refine ⟨⟨h.l, h.d, h.bad, ?_, ?_, ?_, ?_, ?_, ?_⟩, ?_, rfl, ?_, ?_, ?_, ?_, rfl⟩
  · simp only [rotG, e]; omega
  · simp only [rotG]; omega
  · simp only [rotG]; split <;> omega
  · have := h.imms; simp [rotG]; omega
  · have := h.tables; simp only [rotG]; omega
  · have e2 : logsG (rotG G log) = logsG G ++ [log] := by simp [logsG, rotG]
    rw [e2]
    refine List.pairwise_append.2 ⟨h.up, by simp, ?_⟩
    intro a ha b hb
    simp at hb
    subst hb
    have : a ≤ G.log := by
      have hu := h.up
      unfold logsG at hu ha
      rw [List.pairwise_append] at hu
      rcases List.mem_append.1 ha with h3 | h3
      · exact hu.2.2 a h3 _ (by simp)
      · simp at h3; omega
    omega
  · simp only [rotG, e]
  · simp only [rotG]; split <;> omega
  · simp only [rotG]; split <;> omega
  · cases hi : G.imms with
    | nil => simp [keepG, rotG, hi]
    | cons x r => simp [keepG, rotG, hi]
  · simp [viewG, rotG, e]
theorem TI.inst {G : Gd} {k : Nat} (h : TI G k) (m : Meta) :
    TI (instG G m) (k + 1) ∧ keepG G ≤ keepG (instG G m) ∧
      ((G.imms = [] ∧ instG G m = G) ∨ (0 < G.imms.length ∧ (viewG (instG G m)).mems = (viewG G).mems.dropLast ∧ (instG G m).tables = G.tables ++ [m])) := by
  cases hi : G.imms with
  | nil =>
    have e : instG G m = G := by simp [instG, hi]
    rw [e]
    exact ⟨⟨h.l, h.d, h.bad, by have := h.mem; omega, by have := h.log; omega, by have := h.next; omega, by have := h.imms; omega, by have := h.tables; omega, h.up⟩, Int.le_refl _, .inl ⟨rfl, rfl⟩⟩
  | cons x r =>
    have e : instG G m = { G with imms := r, tables := G.tables ++ [m] } := by simp [instG, hi]
    have hu := h.up
    have hl := h.imms
    have e2 : logsG G = x.log :: logsG (instG G m) := by simp [logsG, e, hi]
    rw [e2, List.pairwise_cons] at hu
    have hk := keepG_head (instG G m)
    refine ⟨⟨by rw [e]; exact h.l, by rw [e]; exact h.d, by rw [e]; exact h.bad, ?_, ?_, ?_, ?_, ?_, hu.2⟩, ?_, .inr ⟨by simp, ?_, by rw [e]⟩⟩
    · have := h.mem; simp only [e]; omega
    · have := h.log; simp only [e]; omega
    · have := h.next; simp only [e]; omega
    · rw [hi] at hl; simp at hl; simp only [e]; omega
    · have := h.tables; simp only [e, List.length_append, List.length_singleton]; omega
    · have : keepG G = x.log := by simp [keepG, hi]
      rw [this]
      exact hu.1 _ (List.mem_of_mem_head? hk)
    · have : (viewG G).mems = (G.mem :: r.reverse.map Imm.list) ++ [x.list] := by simp [viewG, hi]
      rw [this, List.dropLast_concat]
      simp [viewG, e]
end Go.Proofs.YteiaifhnikknbaaGreatDoor


namespace Go.Proofs.YteiaifhnikknbaaGreatDoor
open Go.RowKit

section
variable {P : Program} {w : World}
theorem run_append_none (base : Nat) (t ty e : TypeId) (i : TypeInfo) (size : Nat) (ht : P.underlying t = some (.slice e)) (hi : P.info? e = some i)
    (v : Value) (n : Nat) (xs : List Value) (hown : w.ownsRow base e size v n xs) (c : Nat) : (Builtin.append_ #[t, t] ty #[v, .slice none 0 c]).run P w = .ok v w := by
  rcases hown.2 with ⟨rfl, rfl⟩ | ⟨g, cap, cur, rfl, _, _, hnc, _⟩
  · simp [Builtin.append_, run_underlying ht, sizeOf, typeInfo, hi, Builtin.lenOf, Builtin.firstCells]
  · simp [Builtin.append_, run_underlying ht, sizeOf, typeInfo, hi, Builtin.lenOf, Builtin.firstCells, hnc, storeCells]

theorem run_append_reads (base : Nat) (t ty e : TypeId) (i : TypeInfo) (z : Value) (size bytes : Nat) (ht : P.underlying t = some (.slice e)) (hi : P.info? e = some i) (hz : i.zero = some z)
    (hsize : i.size = size) (hby : i.bytes = bytes) (hzs : z.cells.size = size) (hsz : 0 < size)
    (v : Value) (n : Nat) (xs : List Value) (hown : w.ownsRow base e size v n xs) (vx : Value) (m : Nat) (news : List Value) (hr : Reads w size vx m news) (h1 : ∀ u ∈ news, u.oneCell' = true)
    (h63 : n + m ≤ maxLen) (hbytes : (n + m) * bytes ≤ 140737488355328) (hbase : base ≤ w.heap.size) :
    ∃ v' w', (Builtin.append_ #[t, t] ty #[v, vx]).run P w = .ok v' w' ∧ w'.ownsRow base e size v' (n + m) (xs ++ news) ∧ w.grownBy w' v.ownBlock ∧ (v'.ownBlock = v.ownBlock ∨ v'.ownBlock = some w.heap.size) := by
  rcases hr.form with ⟨rfl, ao, c, rfl⟩ | ⟨b, off, c, rfl, _, hc⟩
  · obtain rfl : news = [] := List.eq_nil_of_length_eq_zero (by simpa using hr.len)
    rcases ao with _ | ad
    · exact ⟨v, w, run_append_none base t ty e i size ht hi v n xs hown c, by simpa using hown, World.grownBy.refl w _, .inl rfl⟩
    · obtain ⟨v', w', hrun, h2, h3, _, h5⟩ := run_append_own_at (P := P) w base t ty e i z size bytes ht hi hz hsize hby hzs hsz v n xs hown ad 0 c [] (by simp) (by simp) (by simp) h63 hbytes hbase
      exact ⟨v', w', hrun, h2, h3, h5⟩
  · obtain ⟨v', w', hrun, h2, h3, _, h5⟩ := run_append_own_at (P := P) w base t ty e i z size bytes ht hi hz hsize hby hzs hsz v n xs hown ⟨b, off, none⟩ m c news hr.len (fun j u hu => by rw [addr_plain]; exact hc j u hu) h1 h63 hbytes hbase
    exact ⟨v', w', hrun, h2, h3, h5⟩

theorem wpList_append_reads {ops : Array Oper} {rest : List Oper} {o : Oper} {a : Act} {Q : Exit → Act → World → Prop} (hgd : o.guard = none) (s x : Operand) (t : TypeId)
    (ho : o.op = .call { callee := .builtin .append, args := #[s, x], argTypes := #[t, t] })
    (base : Nat) (e : TypeId) (i : TypeInfo) (z : Value) (size bytes : Nat) (ht : P.underlying t = some (.slice e)) (hi : P.info? e = some i) (hz : i.zero = some z)
    (hsize : i.size = size) (hby : i.bytes = bytes) (hzs : z.cells.size = size) (hsz : 0 < size)
    (v : Value) (n : Nat) (xs : List Value) (hs : a.eval s = v) (hown : w.ownsRow base e size v n xs) (vx : Value) (m : Nat) (news : List Value) (hx : a.eval x = vx) (hr : Reads w size vx m news) (h1 : ∀ u ∈ news, u.oneCell' = true)
    (h63 : n + m ≤ maxLen) (hbytes : (n + m) * bytes ≤ 140737488355328) (hbase : base ≤ w.heap.size)
    (h : ∀ v' w', w'.ownsRow base e size v' (n + m) (xs ++ news) → w.grownBy w' v.ownBlock → (v'.ownBlock = v.ownBlock ∨ v'.ownBlock = some w.heap.size) → wpList P ops Q rest (a.put o.dst v') w') : wpList P ops Q (o :: rest) a w := by
  refine wpList_plain hgd fun K hK => ?_
  obtain ⟨v', w', hrun, h2, h3, h4⟩ := run_append_reads (P := P) (w := w) base t o.type e i z size bytes ht hi hz hsize hby hzs hsz v n xs hown vx m news hr h1 h63 hbytes hbase
  unfold Oper.wp execOp
  simp only [ho, resolve, invoke, builtin, Sem.run_bind, Sem.run_pure, Result.andThen_ok, List.map_toArray, List.map_cons, List.map_nil, hs, hx, hrun]
  exact hK _ _ (h v' w' h2 h3 h4)

theorem step_append_reads {ops : Array Oper} {o : Oper} {a : Act} {K : Act → World → Prop} {Q : Exit → Act → World → Prop} {E : Prop} (hgd : o.guard = none) (s x : Operand) (t : TypeId)
    (ho : o.op = .call { callee := .builtin .append, args := #[s, x], argTypes := #[t, t] })
    (base : Nat) (e : TypeId) (i : TypeInfo) (z : Value) (size bytes : Nat) (ht : P.underlying t = some (.slice e)) (hi : P.info? e = some i) (hz : i.zero = some z)
    (hsize : i.size = size) (hby : i.bytes = bytes) (hzs : z.cells.size = size) (hsz : 0 < size)
    (v : Value) (n : Nat) (xs : List Value) (hs : a.eval s = v) (hown : w.ownsRow base e size v n xs) (vx : Value) (m : Nat) (news : List Value) (hx : a.eval x = vx) (hr : Reads w size vx m news) (h1 : ∀ u ∈ news, u.oneCell' = true)
    (h63 : n + m ≤ maxLen) (hbytes : (n + m) * bytes ≤ 140737488355328) (hbase : base ≤ w.heap.size)
    (h : ∀ v' w', w'.ownsRow base e size v' (n + m) (xs ++ news) → w.grownBy w' v.ownBlock → (v'.ownBlock = v.ownBlock ∨ v'.ownBlock = some w.heap.size) → K (a.put o.dst v') w') :
    if Region.wanted o (yielded ops a.tmps) = true then Oper.wp P o a w K Q else E := by
  have hw : Region.wanted o (yielded ops a.tmps) = true := by simp [Region.wanted, hgd]
  rw [if_pos hw]
  obtain ⟨v', w', hrun, h2, h3, h4⟩ := run_append_reads (P := P) (w := w) base t o.type e i z size bytes ht hi hz hsize hby hzs hsz v n xs hown vx m news hr h1 h63 hbytes hbase
  unfold Oper.wp execOp
  simp only [ho, resolve, invoke, builtin, Sem.run_bind, Sem.run_pure, Result.andThen_ok, List.map_toArray, List.map_cons, List.map_nil, hs, hx, hrun]
  exact h v' w' h2 h3 h4
end

/-- A cell of a row of one's own is stored. -/
theorem Row.put {w : World} {e n : Nat} {v : Value} {xs : List Value} {A : Nat → Prop} (h : Row w e 1 v n xs A) {g off cap : Nat} (hv : v = .slice (some ⟨g, off, none⟩) n cap) (i : Nat) (hi : i < n) (u : Value) : Row (w.setCell ⟨g, i, none⟩ u) e 1 v n (xs.set i u) A := by
  refine ⟨⟨by rw [List.length_set]; exact h.owns.1, ?_⟩, h.home⟩
  rcases h.owns.2 with ⟨rfl, h0⟩ | ⟨g', cap', cur, rfl, hb, hg, h1, h2, h3, h4⟩
  · omega
  · cases hv
    have hk : Blk w g e cur.toList := by unfold Blk; rw [Array.toArray_toList]; exact hg
    refine .inr ⟨g, cap, cur.setIfInBounds i u, rfl, hb, ?_, h1, h2, by simpa using h3, ?_⟩
    · have := hk.set i u
      unfold Blk at this
      rw [this]
      exact congrArg (fun c => some (Obj.cells c e (0, 0))) (Array.ext' (by simp))
    · rw [← h4, Array.toList_setIfInBounds, ← List.take_set]
theorem Row.zero_off {w : World} {e n : Nat} {v : Value} {xs : List Value} {A : Nat → Prop} (h : Row w e 1 v n xs A) {g off cap : Nat} (hv : v = .slice (some ⟨g, off, none⟩) n cap) : off = 0 := by
  rcases h.form with ⟨rfl, h0⟩ | ⟨g', c', rfl, _⟩
  · cases hv
  · cases hv; rfl
theorem Row.at_ {w : World} {e n : Nat} {xs : List Value} {A : Nat → Prop} {g cap : Nat} (h : Row w e 1 (.slice (some ⟨g, 0, none⟩) n cap) n xs A) (i : Nat) (u : Value) (hu : xs[i]? = some u) : w.cell? ⟨g, i, none⟩ = some u ∧ w.frozen? ⟨g, i, none⟩ = false := by
  refine ⟨?_, ?_⟩
  · have := h.owns.cells (g := g) rfl i u hu
    rwa [addr_plain, Nat.zero_add] at this
  · obtain ⟨cur, hc⟩ := h.tag rfl
    simp [World.frozen?, hc]
end Go.Proofs.YteiaifhnikknbaaGreatDoor


namespace Go.Proofs.YteiaifhnikknbaaGreatDoor
open Go.RowKit

variable {w w' : World} {G : Gd} {sl sd si st : Value}
set_option maxHeartbeats 400000 in
theorem meta22 (w : World) (n : Int) : Calls Tryz.prog 31 #[.int .u64 n] w fun e w' => e = .returned (.agg #[.int .u64 n, .int .u64 9, .string ⟨#[97]⟩, .string ⟨#[98]⟩]) ∧ Below w.heap.size w w' := by
  go_enter Tryz.func31, Tryz.ntmps31
  go_wp2
  have hi : (Tryz.prog.info? 92).map (·.size) = some 4 := by kernel_rfl
  exact bodyPost_ret (results_cell_one (P := Tryz.prog) Tryz.results31 rfl ((Blk.new w 92 [.int .u64 n, .int .u64 9, .string ⟨#[97]⟩, .string ⟨#[98]⟩]).loadRow _ Tryz.underlying92 rfl hi)) rfl ⟨rfl, (Below.refl _ _).alloc (Nat.le_refl _) _⟩
/-- Where the turns stand: what is guarded lies in block b, the law's lists above it. -/
structure TAt (w0 wr : World) (b : Nat) (G : Gd) (sl sd si st vl vt : Value) : Prop where
  main : Blk wr b 67 (gC G sl sd si st)
  gh : GH wr G sl sd si st (b + 1)
  lists : Reads wr 1 vl (viewG G).mems.length (ints (viewG G).mems)
  lhome : ∀ k, vl.ownBlock = some k → b + 1 ≤ k
  tabs : Reads wr 1 vt (viewG G).tables.length (u64s ((viewG G).tables.map Meta.num))
  thome : ∀ k, vt.ownBlock = some k → b + 1 ≤ k
  below : Below w0.heap.size w0 wr
  hb : w0.heap.size ≤ b
  lt : b < wr.heap.size
/-- What lies above b in the old world stays. -/
def Above (b : Nat) (wr wx : World) : Prop := ∀ k, b + 1 ≤ k → k < wr.heap.size → wx.heap[k]? = wr.heap[k]?
theorem Above.trans {b : Nat} {u v x : World} (h : Above b u v) (hs : u.heap.size ≤ v.heap.size) (k : Above b v x) : Above b u x := fun j h1 h2 => (k j h1 (by omega)).trans (h j h1 h2)
theorem Above.of_below {b : Nat} {u v : World} (h : Below u.heap.size u v) : Above b u v := fun _ _ h2 => h.block _ h2
theorem Above.alloc (b : Nat) (u : World) (o : Obj) : Above b u (u.alloc o) := fun _ _ h2 => Below.heap_alloc _ _ _ h2
theorem Above.setRow (b : Nat) (u : World) (c : Array Value) : Above b u (u.setRow b c) := fun _ h1 _ => heap_setRow_other _ _ _ (by omega)
theorem Above.setNew {b : Nat} {u v : World} (h : Above b u v) {g : Nat} (hg : u.heap.size ≤ g) (c : Array Value) : Above b u (v.setRow g c) := fun k h1 h2 => (heap_setRow_other _ _ _ (by omega)).trans (h k h1 h2)
theorem Above.grown {b : Nat} {u v v' : World} {row : Option Nat} (h : Above b u v) (hs : u.heap.size ≤ v.heap.size) (hg : v.grownBy v' row) (hr : ∀ k, row = some k → u.heap.size ≤ k) : Above b u v' := fun k h1 h2 =>
  (hg.block k (by omega) (fun e => by have := hr k e.symm; omega)).trans (h k h1 h2)
theorem GH.above {w w' : World} {G : Gd} {sl sd si st : Value} {b : Nat} (h : GH w G sl sd si st (b + 1)) (hs : Above b w w') : GH w' G sl sd si st (b + 1) := h.keep fun k h1 h2 => hs k h1 h2
theorem Reads.above {w w' : World} {size n : Nat} {v : Value} {xs : List Value} {b : Nat} (h : Reads w size v n xs) (hh : ∀ k, v.ownBlock = some k → b + 1 ≤ k) (hs : Above b w w') : Reads w' size v n xs := h.stay fun k h1 h2 => hs k (hh k h1) h2
theorem TAt.on {w0 wr wx : World} {b : Nat} {vl vt : Value} (h : TAt w0 wr b G sl sd si st vl vt) (hb : Below wr.heap.size wr wx) : TAt w0 wx b G sl sd si st vl vt :=
  ⟨h.main.keep (hb.block _ h.lt), h.gh.above (Above.of_below hb), h.lists.below hb, h.lhome, h.tabs.below hb, h.thome, h.below.trans (hb.mono h.below.size), h.hb, Nat.lt_of_lt_of_le h.lt hb.size⟩
theorem Row.single {W : World} {g t : Nat} {v : Value} {A : Nat → Prop} (h : Blk W g t [v]) (hA : A g) : Row W t 1 (.slice (some ⟨g, 0, none⟩) 1 1) 1 [v] A :=
  ⟨⟨rfl, .inr ⟨g, 1, #[v], rfl, Nat.zero_le _, h, Nat.le_refl _, by unfold maxLen; omega, rfl, rfl⟩⟩, fun k hk => by cases hk; exact hA⟩
theorem Reads.butLast {w : World} {b off n k c : Nat} {xs : List Int} (h : Reads w 1 (.slice (some ⟨b, off, none⟩) n c) n (ints xs)) (hk : n = k + 1) : Reads w 1 (.slice (some ⟨b, off, none⟩) k c) k (ints xs.dropLast) := by
  have hl := h.len
  rw [ints_length] at hl
  refine ⟨by rw [ints_length, List.length_dropLast]; omega, .inr ?_⟩
  rcases h.form with ⟨h0, _⟩ | ⟨b', o', c', e, hc, hr⟩
  · omega
  · cases e
    refine ⟨_, _, _, rfl, by omega, fun j u hu => hr j u ?_⟩
    have hj : j < (ints xs.dropLast).length := (List.getElem?_eq_some_iff.1 hu).1
    rw [ints_length, List.length_dropLast] at hj
    rw [← hu]
    simp only [ints, List.getElem?_map, List.getElem?_dropLast]
    rw [if_pos (by omega)]
theorem mts_get0 (l : List Meta) (k : Nat) (h : k < l.length) : (mts l)[k * 4]? = some (.int .u64 l[k].num) := by
  induction l generalizing k with
  | nil => simp at h
  | cons a l ih =>
    have e : mts (a :: l) = .int .u64 a.num :: .int .u64 a.size :: .string a.least :: .string a.most :: mts l := rfl
    cases k with
    | zero => rw [e]; simp
    | succ k =>
      have := ih k (by simpa using h)
      rw [e, show (k + 1) * 4 = k * 4 + 1 + 1 + 1 + 1 by omega]
      simpa using this
theorem mts_num {l : List Meta} {k : Nat} {N : Meta} (h : l[k]? = some N) : (mts l)[k * 4]? = some (.int .u64 N.num) := by
  obtain ⟨hk, rfl⟩ := List.getElem?_eq_some_iff.1 h
  exact mts_get0 l k hk
theorem u64s_one (l : List Int) : ∀ u ∈ u64s l, u.oneCell' = true := by
  intro u hu
  simp only [u64s, List.mem_map] at hu
  obtain ⟨a, _, rfl⟩ := hu
  rfl
end Go.Proofs.YteiaifhnikknbaaGreatDoor
