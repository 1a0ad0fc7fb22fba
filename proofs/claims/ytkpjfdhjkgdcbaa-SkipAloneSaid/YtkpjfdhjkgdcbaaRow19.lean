/- The walk over law 19's Row: a level's nodes. -/
import Derived.Test.YtkpjfdhjkgdcbaaMade19
import Derived.Test.YtkpjfdhjkgdcbaaRcAlone
import Derived.Test.YtkpjfdhjkgdcbaaLowInts

namespace Go.Proofs.Ytkpjfdhjkgdcbaa
open Go.RowKit

/-- Own blocks have turned: the memory's are those of before, and whatever is new behind. -/
theorem Lx.cut {w w' : World} {k : SkRef} {c : CRef} {S : Mem} {A B : Nat → Prop} (h : Lx w k c S A) (ho : Only B w w') (hAB : ∀ j, j < w.heap.size → A j → ¬ B j) (h1 : ¬ B k.lp) (h2 : ¬ B k.aq) : Lx w' k c S (boxA A w.heap.size w'.heap.size) :=
  ⟨⟨h.sk.list.keep (ho.block _ h.sk.list.lt h1), h.sk.arena.keep (ho.block _ h.sk.arena.lt h2)⟩,
    (h.mem.mono fun j hj hA => (⟨hA, .inl hj⟩ : boxA A w.heap.size w'.heap.size j)).keep ⟨fun j hA hl => ho.block j hl (hAB j hl hA.1)⟩,
    ⟨fun j hj => ⟨h.fresh.new j (Nat.le_trans ho.size hj), .inr hj⟩⟩, fun q => h.hl q.1, fun q => h.ha q.1, h.f0, h.p0, h.f1, h.p1, h.u0, h.u1, h.short⟩
def Mem.more (S : Mem) (t : List Acc) : Mem := { S with trace := S.trace ++ t }
theorem Mem.more_note (S : Mem) (t : List Acc) (a : Acc) : (S.more t).note a = S.more (t ++ [a]) := by unfold Mem.more Mem.note; simp
theorem Mem.more_nil (S : Mem) : S.more [] = S := by unfold Mem.more; simp
theorem Mem.more_more (S : Mem) (t u : List Acc) : (S.more t).more u = S.more (t ++ u) := by unfold Mem.more; simp
theorem Rel.more {k : SkRef} {s : Sk} {S : Mem} (h : Rel k s S) (t : List Acc) : Rel k { s with trace := s.trace ++ t } (S.more t) :=
  ⟨h.asked, h.count, h.next, h.key, h.val, by show S.trace ++ t = s.trace ++ t; rw [h.trace], h.bgA, h.bgP, h.len⟩
def vlen : Value → Nat
  | .slice _ n _ => n
  | _ => 0
/-- What Row answers. -/
structure RowIn (w w' : World) (k : SkRef) (c : CRef) (S : Mem) (A : Nat → Prop) (v : Value) (ns : List Int) (A' : Nat → Prop) (t : List Acc) : Prop where
  row : Row w' 3 1 v ns.length (ints ns) (fun j => w.heap.size ≤ j ∧ ¬ A' j)
  lx : Lx w' k c (S.more t) A'
  sub : ∀ j, A' j → A j
  only : Only A w w'
  len : t.length ≤ ns.length + 1
theorem infoInt19 : ((Try.prog.info? 3).map fun i => (i.zero, i.size, i.bytes)) = some (some (.int .i64 0), 1, 8) := by kernel_rfl
theorem ints_snoc (l : List Int) (x : Int) : ints l ++ [.int .i64 x] = ints (l ++ [x]) := by simp [ints]
theorem cell_one (w : World) (N : Nat) (hN : w.heap.size = N) (a : Value) (t : Nat) : ∀ j u, [a][j]? = some u → (w.alloc (.cells #[a] t)).cell? ((⟨N, 0, none⟩ : Addr).add j) = some u := by
  subst hN
  intro j u hu
  have hb : Blk (w.alloc (.cells #[a] t)) w.heap.size t [a] := Blk.new w t [a]
  rw [addr_plain, Nat.zero_add]
  exact hb.cell j hu
set_option maxRecDepth 100000 in
set_option maxHeartbeats 2000000 in
theorem row_any {w : World} {k : SkRef} {c : CRef} {S : Mem} {A : Nat → Prop} (L : Lx w k c S A) (task level : Int) (t0 : 0 ≤ task) (t1 : task < 64) (l0 : 0 ≤ level) (l1 : level < 6) (most : Nat) (hm : most ≤ 1000) (ns : List Int) (hlen : ns.length ≤ most)
    (hch : Chain (fun n => S.at_ (cellI k n level)) 0 ns) (hpos : ∀ n, n ∈ ns → 1 ≤ n ∧ n ≤ k.units / 6) (hn : S.trace.length + ns.length + 1 < trMax) :
    Calls Try.prog 37 #[.pointer (some ⟨k.lp, 0, none⟩), .int .i64 task, .int .i64 level, .int .i64 (most : Int)] w fun e w' => ∃ v A' t, e = .returned (.tuple #[v, .bool true]) ∧ RowIn w w' k c S A v ns A' t := by
  have u0 := L.u0
  have u1 := L.u1
  have HCH := Lib.hid hch
  have HP := Lib.hid hpos
  obtain ⟨U, hU⟩ : ∃ U, k.units / 6 = U := ⟨_, rfl⟩
  have HU := Lib.hid hU
  have hn' := Lib.hid hn
  clear hch hpos hU hn
  go_enter Try.func37, Try.ntmps37
  go_wp2_with fail
  go_loopw [10, 11] (fun s10 s11 wr => ∃ (pre post : List Int) (v : Value) (a : Int) (A' : Nat → Prop) (t : List Acc), s10 = v ∧ s11 = .int .i64 a ∧ ns = pre ++ post ∧ Chain (fun n => S.at_ (cellI k n level)) a post ∧ (0 ≤ a ∧ a ≤ k.units / 6) ∧ Row wr 3 1 v pre.length (ints pre) (fun j => w.heap.size ≤ j ∧ ¬ A' j) ∧ Lx wr k c (S.more t) A' ∧ (∀ j, A' j → A j) ∧ Only A w wr ∧ t.length = pre.length) (fun s10 _ _ => most + 1 - vlen s10)
  case atStart => exact ⟨[], ns, _, 0, A, [], rfl, rfl, rfl, HCH.out, ⟨Int.le_refl 0, by omega⟩, Row.nil _ _ _ _, by rw [Mem.more_nil]; exact L, fun _ q => q, Only.refl _ _, rfl⟩
  case round =>
    obtain ⟨pre, post, v, a, A', t, rfl, rfl, hns, hc, ha, hrow, hL, hsub, ho, ht⟩ := hrel
    have hpl : pre.length + post.length = ns.length := by rw [hns, List.length_append]
    obtain ⟨n, hnl⟩ : ∃ n, pre.length = n := ⟨_, rfl⟩
    rw [hnl] at hrow hpl ht
    have hnm : n ≤ most := by omega
    obtain ⟨ao, cap, rfl⟩ := hrow.slice
    have htr : (S.more t).trace.length < trMax := by
      show (S.trace ++ t).length < trMax
      rw [List.length_append]
      have := hn'.out
      omega
    obtain ⟨x, hx⟩ : ∃ x, S.at_ (cellI k a level) = x := ⟨_, rfl⟩
    have hx0 : 0 ≤ x ∧ x ≤ k.units / 6 := by
      cases post with
      | nil => rw [← hx, show S.at_ (cellI k a level) = 0 from hc]; exact ⟨Int.le_refl 0, by omega⟩
      | cons b r =>
        have e : S.at_ (cellI k a level) = b := hc.1
        have := HP.out b (by rw [hns]; exact List.mem_append_right _ List.mem_cons_self)
        rw [← hx, e]; omega
    have hnx := lnext_any hL htr task a level t0 t1 ha.1 ha.2 l0 l1 x hx hx0.1 (by have := HU.out; omega)
    have HNX := Lib.hid hnx
    have HNS := Lib.hid hns
    have HL := Lib.hid hL
    have HO := Lib.hid ho
    have HC := Lib.hid hc
    have HX := Lib.hid hx
    have HS := Lib.hid hsub
    have HT := Lib.hid ht
    have HR := Lib.hid hrow
    have HN := Lib.hid hnl
    clear hnx hns hL ho hc hx hsub ht hnl htr
    by_cases hz : x = 0
    · subst hz
      have hpost : post = [] := by
        cases post with
        | nil => rfl
        | cons b r =>
          have e : S.at_ (cellI k a level) = b := HC.out.1
          have := HP.out b (by rw [HNS.out]; exact List.mem_append_right _ List.mem_cons_self)
          have := HX.out
          omega
      subst hpost
      go_wp2_with (go_at_call 29; refine HNX.out.mono ?_; rintro e w1 ⟨rfl, hC1, hO1⟩)
      go_ret2
      have e : ns = pre := by rw [HNS.out, List.append_nil]
      refine ⟨_, A', t ++ [⟨task, 1, cellI k a level⟩], rfl, ⟨?_, ?_, HS.out, HO.out.trans (hO1.mono fun j _ q => HS.out j q), ?_⟩⟩
      · rw [e, HN.out]
        refine HR.out.keep fun j hj => ?_
        exact hO1.block j (HR.out.lt hj) (HR.out.home j hj).2
      · rw [← Mem.more_note]
        exact HL.out.next hC1 hO1 (Mem.Like.note _ _)
      · rw [List.length_append, HT.out, e, HN.out]; exact Nat.le_refl _
    · have hzb : (x == 0) = false := by simpa using hz
      obtain ⟨b, r, rfl⟩ : ∃ b r, post = b :: r := by
        cases post with
        | nil => exact absurd (HX.out.symm.trans HC.out) hz
        | cons b r => exact ⟨b, r, rfl⟩
      have hbx : b = x := HC.out.1.symm.trans HX.out
      subst hbx
      obtain ⟨i0, hi, hz0, hz1, hz2⟩ := info_parts infoInt19
      simp only [List.length_cons] at hpl
      go_wp2_with (first | (go_at_call 29; refine HNX.out.mono ?_; rintro e w1 ⟨rfl, hC1, hO1⟩; have hR1 : Row w1 3 1 (.slice ao n cap) n (ints pre) (fun j => w.heap.size ≤ j ∧ ¬ A' j) := HR.out.keep fun j hj => hO1.block j (HR.out.lt hj) (HR.out.home j hj).2) | (at_builtin; refine wpList_append_own_at _ rfl _ _ 43 rfl 0 3 i0 (.int .i64 0) 1 8 Try.underlying43 hi hz0 hz1 hz2 rfl (by decide) (.slice ao n cap) n (ints pre) rfl (hR1.alloc _).owns ⟨w1.heap.size, 0, none⟩ 1 1 [.int .i64 b] rfl rfl (cell_one _ _ rfl _ _) (by simp [Value.oneCell']) (by unfold maxLen; omega) (by omega) (Nat.zero_le _) ?_; intro v2 w2 hown2 hg2 _ hat2))
      have hsz1 : (w1.alloc (.cells #[.int .i64 b] 3)).heap.size = w1.heap.size + 1 := by simp
      rw [hsz1] at hat2
      have hB : Only (fun j => (Value.slice ao n cap).ownBlock = some j) w1 w2 := ((Only.refl _ w1).alloc _).grown hg2 fun j hj => hj
      have hL1 := HL.out.next hC1 hO1 (Mem.Like.note _ _)
      have hnA : ∀ j, (Value.slice ao n cap).ownBlock = some j → ¬ A' j := fun j hj => (HR.out.home j hj).2
      have hnl : ∀ l, A' l ∨ ¬ A' l := fun l => Classical.em _
      have hlt : ∀ j, (Value.slice ao n cap).ownBlock = some j → j < w1.heap.size := fun j hj => hR1.lt hj
      have hne : ∀ p, p < w1.heap.size → (∃ ty cs, ty ≠ 3 ∧ Blk w1 p ty cs) → ¬ (Value.slice ao n cap).ownBlock = some p := fun p _ ⟨ty, cs, h1, h2⟩ => hR1.ne_blk h2 h1
      have hL2 := hL1.cut hB (fun j _ hA q => hnA j q hA) (hne _ hL1.sk.list.lt ⟨_, _, by decide, hL1.sk.list⟩) (hne _ hL1.sk.arena.lt ⟨_, _, by decide, hL1.sk.arena⟩)
      have hrow2 : Row w2 3 1 v2 (n + 1) (ints (pre ++ [b])) (fun j => w.heap.size ≤ j ∧ ¬ boxA A' w1.heap.size w2.heap.size j) := by
        rw [← ints_snoc]
        refine ⟨hown2, fun j hj => ?_⟩
        have hj2 := (hown2.lt j hj).2
        rcases hat2 with q | q
        · have := HR.out.home j (by rw [← q]; exact hj)
          exact ⟨this.1, fun h => this.2 h.1⟩
        · rw [q] at hj
          cases hj
          have h1 := HO.out.size
          have h2 := hO1.size
          exact ⟨by omega, fun h => by rcases h.2 with h | h <;> omega⟩
      obtain ⟨ao2, cap2, rfl⟩ := hrow2.slice
      refine ⟨⟨pre ++ [b], r, _, b, boxA A' w1.heap.size w2.heap.size, t ++ [⟨task, 1, cellI k a level⟩], rfl, rfl, by rw [HNS.out]; simp, HC.out.2, hx0, ?_, ?_, fun j q => HS.out j q.1, (HO.out.trans (hO1.mono fun j _ q => HS.out j q)).trans (hB.mono fun j _ q => L.fresh.new j (HR.out.home j q).1), ?_⟩, ?_⟩
      · rw [List.length_append, HN.out]
        exact hrow2
      · rw [← Mem.more_note]
        exact hL2
      · rw [List.length_append, List.length_append, HT.out, HN.out]
        rfl
      · show most + 1 - (n + 1) < most + 1 - n
        omega
end Go.Proofs.Ytkpjfdhjkgdcbaa
