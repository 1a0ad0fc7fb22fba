/- tower.round and tower.Heights. -/
import Derived.Test.YtidgnlcokfnhgaaDoorTowerSeq
import Derived.BigRegionIn
namespace Go.Proofs.YtidgnlcokfnhgaaDoor
open Go.RowKit Go.Shelf
attribute [local go_sem] Oper.semAt_some

/-- append onto a row of one's own, as one step of a region that draws, inside a fence. -/
theorem stepIn_append_own {F : Fence} {nF : Nat} {P : Program} {ops : Array Oper} {o : Oper} {a : Act} {w : World} {K : Act → World → Prop} {Q : Exit → Act → World → Prop} {E : Prop}
    (hg : o.guard = none) (s x : Operand) (t : TypeId) (ho : o.op = .call { callee := .builtin .append, args := #[s, x], argTypes := #[t, t] })
    (base : Nat) (e : TypeId) (i : TypeInfo) (z : Value) (size bytes : Nat) (ht : P.underlying t = some (.slice e)) (hi : P.info? e = some i) (hz : i.zero = some z)
    (hsize : i.size = size) (hby : i.bytes = bytes) (hzs : z.cells.size = size) (hsz : 0 < size)
    (v : Value) (n : Nat) (xs : List Value) (hs : a.eval s = v) (hown : w.ownsRow base e size v n xs)
    (ad : Addr) (m c : Nat) (news : List Value) (hx : a.eval x = .slice (some ad) m c) (hl : news.length = m * size) (hnews : ∀ j u, news[j]? = some u → w.cell? (ad.add j) = some u) (h1 : ∀ u ∈ news, u.oneCell' = true)
    (h63 : n + m ≤ maxLen) (hbytes : (n + m) * bytes ≤ 140737488355328) (hbase : base ≤ w.heap.size)
    (hK : ∀ v' w', w'.ownsRow base e size v' (n + m) (xs ++ news) → w.grownBy w' v.ownBlock → (v' = .slice none 0 0 ↔ v = .slice none 0 0 ∧ m = 0) → (v'.ownBlock = v.ownBlock ∨ v'.ownBlock = some w.heap.size) → K (a.put o.dst v') w') :
    if Region.wanted o (yielded ops a.tmps) = true then Oper.wpIn F nF P o a w K Q else E := by
  have hw : Region.wanted o (yielded ops a.tmps) = true := by simp [Region.wanted, hg]
  rw [if_pos hw]
  obtain ⟨v', w', hr, h2, h3, h4, h5⟩ := run_append_own_at (P := P) w base t o.type e i z size bytes ht hi hz hsize hby hzs hsz v n xs hown ad m c news hl hnews h1 h63 hbytes hbase
  unfold Oper.wpIn
  refine ⟨by simp [Oper.about, ho, resolve, Target.leads, Sem.run_pure], ?_⟩
  rw [Oper.semAt_plain F _ _ (by rw [ho]; intro c hc'; cases hc')]
  simp [execOp, ho, resolve, invoke, builtin, hs, hx, hr, Result.andThen]
  exact hK _ _ h2 h3 h4 h5

/-- Behind the append onto a row and its store into the box B: blocks below n₀ other than B lie as they lay. -/
theorem boxes_append {W w1 : World} {n₀ s B : Nat} {t e : TypeId} {size : Nat} {v v' : Value} {k m : Nat} {xs ys : List Value} {tmp : Obj}
    (hv : Boxed W B t v) (hrow : W.ownsRow n₀ e size v k xs) (hn : n₀ ≤ W.heap.size) (hs : s ≤ B) (hB : B < n₀)
    (hown' : w1.ownsRow n₀ e size v' m ys) (hgrow : (W.alloc tmp).grownBy w1 v.ownBlock) :
    Boxed w1 B t v ∧ Boxed (w1.setCell ⟨B, 0, none⟩ v') B t v' ∧ (w1.setCell ⟨B, 0, none⟩ v').ownsRow n₀ e size v' m ys ∧ KeepsOthers W (w1.setCell ⟨B, 0, none⟩ v') ∧ Below s W (w1.setCell ⟨B, 0, none⟩ v') ∧
    (∀ i, i < n₀ → i ≠ B → (w1.setCell ⟨B, 0, none⟩ v').heap[i]? = W.heap[i]?) := by
  have hr1 : ∀ i, v.ownBlock = some i → n₀ ≤ i := fun i hi => (hrow.lt i hi).1
  have hr2 : ∀ i, v'.ownBlock = some i → n₀ ≤ i := fun i hi => (hown'.lt i hi).1
  have hv1 : Boxed w1 B t v := (hv.alloc tmp).kept hgrow (fun e => by have := hr1 B e.symm; omega)
  refine ⟨hv1, hv1.set v', hown'.kept (grownBy_setCell' w1 B v') (.inr (fun e => by have := hr2 B e; omega)), ?_, ?_, ?_⟩
  · refine ((KeepsOthers.alloc W tmp).trans (KeepsOthers.of_grownBy hgrow fun j o ej hj => ?_)).trans (KeepsOthers.setCell _ _ _)
    rcases (hrow.alloc tmp).2 with ⟨rfl, _⟩ | ⟨g, cap, cur, rfl, _, hgb, _⟩
    · simp [Value.ownBlock] at ej
    · obtain rfl : g = j := by simpa [Value.ownBlock] using ej
      rw [hgb] at hj; cases hj; rfl
  · refine (((Below.refl s W).alloc (by omega) tmp).grown hgrow (by simp; omega) fun j ej => ?_).setCell (p := ⟨B, 0, none⟩) hs v'
    have := hr1 j ej; omega
  · intro i hi hne
    rw [Below.heap_setCell _ _ _ _ hne, hgrow.block i (by simp; omega) (fun e => by have := hr1 i e.symm; omega), Below.heap_alloc _ _ _ (by omega)]

abbrev U32 := { x : Int // 0 ≤ x ∧ x < 4294967296 }
def pickU (nums : List Int) (hU : U32s nums) (i : Nat) : U32 := ⟨pickN nums i, hU.pick i⟩
def upto (nums : List Int) (hU : U32s nums) (k : Nat) : List U32 := (List.range k).map (pickU nums hU)
theorem upto_succ (nums : List Int) (hU : U32s nums) (k : Nat) : upto nums hU (k + 1) = upto nums hU k ++ [pickU nums hU k] := by simp [upto, List.range_succ]
theorem upto_length (nums : List Int) (hU : U32s nums) (k : Nat) : (upto nums hU k).length = k := by simp [upto]
theorem upto_heights (nums : List Int) (hU : U32s nums) (k : Nat) (m : Int) : (upto nums hU k).map (fun x => hgt x.1 m) = heights nums k m := by simp [upto, heights, pickU]

set_option maxRecDepth 100000 in
set_option maxHeartbeats 2000000 in
theorem round1_in (n : Nat) (hn : 1 ≤ n) (l Bm Bs n₀ b off cap many : Nat) (nums : List Int) (hU : U32s nums) (h0n : 0 < nums.length) (hreach : nums.length ≤ 4000000000) (hmany : many ≤ 100000) (hb : b < n₀) (J Jx : List U32 → World → Prop)
    (hJ : ∀ s (W : World), J s W → J s W.drew)
    (hY : ∀ pre x W, J pre W → pre.length < many → YieldAt Fence.wide (n - 1) Tryd.prog l #[.int .u32 x.1] W fun e W' =>
      (e = .returned (.bool true) ∧ J (pre ++ [x]) W' ∧ KB n₀ Bs W W') ∨ (e = .returned (.bool false) ∧ Jx (pre ++ [x]) W'))
    (W : World) (hBm : W.cell? ⟨Bm, 0, none⟩ = some (.int .i64 many)) (hBs : W.cell? ⟨Bs, 0, none⟩ = some (.slice (some ⟨b, off, none⟩) nums.length cap)) (hc : ∀ j, j < nums.length → W.cell? ⟨b, off + j, none⟩ = some (.int .u32 (nums.getD j 0))) (h0 : J [] W) :
    CallsIn Fence.wide n Tryd.prog 18 #[.func (.yield l) #[] #[], .pointer (some ⟨Bm, 0, none⟩), .pointer (some ⟨Bs, 0, none⟩)] W fun e W' => (∃ v, e = .returned v) ∧
      ((∃ ys, ys = upto nums hU many ∧ J ys W') ∨ (∃ pre, (∃ k, k ≤ many ∧ pre = upto nums hU k) ∧ Jx pre W')) := by
  refine callsIn_of_wp Tryd.func18 rfl trivial ?_ rfl
  simp only [Tryd.ntmps18, List.size_toArray, List.length_cons, List.length_nil, Nat.reduceAdd, Nat.reduceSub, Array.replicate_succ, Array.replicate_zero, List.push_toArray, List.append_toArray, List.nil_append, List.cons_append]
  gi_wp2
  gi_loopw [7] (fun i wr => ∃ k : Nat, k ≤ many ∧ i = .int .i64 k ∧ J (upto nums hU k) wr ∧ KB n₀ Bs W wr)
    (fun i _ => many - (intOf i).toNat)
  case atStart => exact ⟨0, Nat.zero_le _, rfl, h0, KB.refl _ _ _⟩
  case round =>
    obtain ⟨k, hk, rfl, hJs, hnx⟩ := hrel
    by_cases hlt : k < many
    · have hbx := hnx.cell hBs
      obtain ⟨i, hi⟩ : ∃ i, k % nums.length = i := ⟨_, rfl⟩
      have hil : i < nums.length := by rw [← hi]; exact Nat.mod_lt _ h0n
      have hcx' : wr.cell? ⟨b, off + i, none⟩ = some (.int .u32 (nums.getD i 0)) := (hnx.below.cell (p := ⟨b, off + i, none⟩) hb).trans (hc _ hil)
      have hmod : ((k : Int) % nums.length) = (i : Int) := by rw [← hi]; omega
      have hp : pickN nums k = nums.getD i 0 := by unfold pickN; rw [if_neg (by omega), hi]
      obtain ⟨x, hx⟩ : ∃ x, nums.getD i 0 = x := ⟨_, rfl⟩
      rw [hx] at hcx' hp
      have hi0 : (0 : Int) ≤ (i : Int) := by omega
      have hi1 : (i : Int) < (nums.length : Int) := by omega
      have HP := Lib.hid hp
      clear hp hi hx
      gi_wp2
      gi_region
      obtain ⟨fn, tmps, assign, body, hy, hR⟩ := hY _ (pickU nums hU k) wr.drew (hJ _ _ hJs) (by rw [upto_length]; exact hlt)
      have hpx : (pickU nums hU k).1 = x := HP.out
      rw [hpx] at hy
      clear hpx
      gi_wp2
      refine hR.mono ?_
      rintro e W3 (⟨rfl, hJ3, hk3⟩ | ⟨rfl, hJx3⟩)
      · gi_wp2
        go_roundw
        case rel => exact ⟨k + 1, by omega, by go_num, by rw [upto_succ]; exact hJ3, hnx.trans ⟨⟨hk3.below.os, hk3.below.tape, hk3.below.output, hk3.below.size, hk3.below.block⟩, hk3.same⟩⟩
        case measure => simp [intOf]; omega
      · gi_wp2
        refine bodyPost_ret (results_none rfl _ _ _) rfl ?_
        exact ⟨⟨_, rfl⟩, .inr ⟨_, ⟨k + 1, by omega, (upto_succ _ _ _).symm⟩, hJx3⟩⟩
    · obtain rfl : k = many := by omega
      gi_wp2
      go_end0
      exact ⟨⟨_, rfl⟩, .inl ⟨_, rfl, hJs⟩⟩

set_option maxRecDepth 100000 in
set_option maxHeartbeats 2000000 in
theorem round1_nil_in (n : Nat) (hn : 1 ≤ n) (l Bm Bs n₀ many : Nat) (ao : Option Addr) (cap : Nat) (nums : List Int) (hU : U32s nums) (h0n : nums.length = 0) (hmany : many ≤ 100000) (J Jx : List U32 → World → Prop)
    (hY : ∀ pre x W, J pre W → pre.length < many → YieldAt Fence.wide (n - 1) Tryd.prog l #[.int .u32 x.1] W fun e W' =>
      (e = .returned (.bool true) ∧ J (pre ++ [x]) W' ∧ KB n₀ Bs W W') ∨ (e = .returned (.bool false) ∧ Jx (pre ++ [x]) W'))
    (W : World) (hBm : W.cell? ⟨Bm, 0, none⟩ = some (.int .i64 many)) (hBs : W.cell? ⟨Bs, 0, none⟩ = some (.slice ao 0 cap)) (h0 : J [] W) :
    CallsIn Fence.wide n Tryd.prog 18 #[.func (.yield l) #[] #[], .pointer (some ⟨Bm, 0, none⟩), .pointer (some ⟨Bs, 0, none⟩)] W fun e W' => (∃ v, e = .returned v) ∧
      ((∃ ys, ys = upto nums hU many ∧ J ys W') ∨ (∃ pre, (∃ k, k ≤ many ∧ pre = upto nums hU k) ∧ Jx pre W')) := by
  have HZ := Lib.hid h0n
  clear h0n
  refine callsIn_of_wp Tryd.func18 rfl trivial ?_ rfl
  simp only [Tryd.ntmps18, List.size_toArray, List.length_cons, List.length_nil, Nat.reduceAdd, Nat.reduceSub, Array.replicate_succ, Array.replicate_zero, List.push_toArray, List.append_toArray, List.nil_append, List.cons_append]
  gi_wp2
  gi_loopw [7] (fun i wr => ∃ k : Nat, k ≤ many ∧ i = .int .i64 k ∧ J (upto nums hU k) wr ∧ KB n₀ Bs W wr)
    (fun i _ => many - (intOf i).toNat)
  case atStart => exact ⟨0, Nat.zero_le _, rfl, h0, KB.refl _ _ _⟩
  case round =>
    obtain ⟨k, hk, rfl, hJs, hnx⟩ := hrel
    by_cases hlt : k < many
    · have hbx := hnx.cell hBs
      obtain ⟨fn, tmps, assign, body, hy, hR⟩ := hY _ (pickU nums hU k) wr hJs (by rw [upto_length]; exact hlt)
      have hpx : (pickU nums hU k).1 = 0 := by show pickN nums k = 0; unfold pickN; rw [if_pos HZ.out]
      rw [hpx] at hy
      clear hpx
      gi_wp2
      refine hR.mono ?_
      rintro e W3 (⟨rfl, hJ3, hk3⟩ | ⟨rfl, hJx3⟩)
      · gi_wp2
        go_roundw
        case rel => exact ⟨k + 1, by omega, by go_num, by rw [upto_succ]; exact hJ3, hnx.trans hk3⟩
        case measure => simp [intOf]; omega
      · gi_wp2
        refine bodyPost_ret (results_none rfl _ _ _) rfl ?_
        exact ⟨⟨_, rfl⟩, .inr ⟨_, ⟨k + 1, by omega, (upto_succ _ _ _).symm⟩, hJx3⟩⟩
    · obtain rfl : k = many := by omega
      gi_wp2
      go_end0
      exact ⟨⟨_, rfl⟩, .inl ⟨_, rfl, hJs⟩⟩

theorem round_stops (n : Nat) (hn : 1 ≤ n) (Bm Bs n₀ many : Nat) (sv : Value) (nums : List Int) (hU : U32s nums) (hreach : nums.length ≤ 4000000000) (hmany : many ≤ 100000) (w : World) (hBm : Bm < w.heap.size) (hBs : Bs < w.heap.size) (hn₀ : n₀ ≤ w.heap.size)
    (hcm : w.cell? ⟨Bm, 0, none⟩ = some (.int .i64 many)) (hc : w.cell? ⟨Bs, 0, none⟩ = some sv) (hR : Reads w 1 sv nums.length (u32s nums)) (hlow : 0 < nums.length → ∀ k, sv.ownBlock = some k → k < n₀) :
    SeqStopsK Fence.wide n Tryd.prog 18 #[.pointer (some ⟨Bm, 0, none⟩), .pointer (some ⟨Bs, 0, none⟩)] (fun x : U32 => #[Value.int .u32 x.1]) (KB n₀ Bs) (fun ys => ys = upto nums hU many) (fun pre => ∃ k, k ≤ many ∧ pre = upto nums hU k) many w := fun l J Jx W hW hJ _ hY h0 => by
  have hc' := (hW.cell (p := ⟨Bs, 0, none⟩) hBs).trans hc
  have hcm' := (hW.cell (p := ⟨Bm, 0, none⟩) hBm).trans hcm
  have hR' := hR.belowOwn (hW.mono hn₀) (fun h => hlow (by simpa [u32s] using h))
  rcases Nat.eq_zero_or_pos nums.length with hz | hz
  · obtain ⟨ao, c, rfl⟩ := hR'.slice
    rw [hz] at hc'
    exact round1_nil_in n hn l Bm Bs n₀ many ao c nums hU hz hmany J Jx hY W hcm' hc' h0
  · rcases hR'.form with ⟨h00, _⟩ | ⟨b, off, c, rfl, hcc, hr⟩
    · omega
    · exact round1_in n hn l Bm Bs n₀ b off c many nums hU hz hreach hmany (hlow hz b rfl) J Jx (fun s W0 hs => hJ s W0 W0.drew none hs ⟨rfl, rfl, rfl, Nat.le_refl _, fun _ _ _ => rfl⟩ (fun r e => by cases e)) hY W hcm' hc'
        (fun j hj => hr j _ (by simp [u32s, List.getElem?_eq_getElem hj])) h0

set_option maxHeartbeats 1000000 in
theorem round_in (n : Nat) (a : Option Addr) (len cap : Nat) (m : Int) (w : World) :
    CallsIn Fence.wide n Tryd.prog 16 #[.slice a len cap, .int .i64 m] w fun e w' => e = .returned (.func (.func 18) #[] #[.pointer (some ⟨w.heap.size + 1, 0, none⟩), .pointer (some ⟨w.heap.size, 0, none⟩)]) ∧ w' = (w.alloc (.cells #[.slice a len cap] 23)).alloc (.cells #[.int .i64 m] 3) := by
  refine callsIn_of_wp Tryd.func16 rfl trivial ?_ rfl
  simp only [Tryd.ntmps16, List.size_toArray, List.length_cons, List.length_nil, Nat.reduceAdd, Nat.reduceSub, Array.replicate_succ, Array.replicate_zero, List.push_toArray, List.append_toArray, List.nil_append, List.cons_append]
  gi_wp2
  go_ret
  exact ⟨rfl, rfl⟩

set_option maxRecDepth 100000 in
set_option maxHeartbeats 2000000 in
theorem heights_in (n : Nat) (hn : 3 ≤ n) (w : World) (hT : Tab w) (a : Option Addr) (len cap : Nat) (many m : Int) (nums : List Int) (hU : U32s nums) (hl : len ≤ 4000000000) (hlen : len = nums.length) (hR : Reads w 1 (.slice a len cap) nums.length (u32s nums)) (hm : m ≤ 9223372036854775807) :
    CallsIn Fence.wide n Tryd.prog 12 #[.slice a len cap, .int .i64 many, .int .i64 m] w fun e W' => ∃ v, e = .returned v ∧ Row W' 3 1 v (manyOf many) (ints (heights nums (manyOf many) m)) (fun k => w.heap.size ≤ k) ∧ Below w.heap.size w W' := by
  have h1 : 1 ≤ n := by omega
  obtain ⟨i0, hi, hz0, hz1, hz2⟩ := info_parts infoInt
  refine callsIn_of_wp_marks Tryd.func12 rfl trivial ?_ rfl
  simp only [Tryd.ntmps12, List.size_toArray, List.length_cons, List.length_nil, Nat.reduceAdd, Nat.reduceSub, Array.replicate_succ, Array.replicate_zero, List.push_toArray, List.append_toArray, List.nil_append, List.cons_append]
  have HL := Lib.hid hlen
  clear hlen
  obtain ⟨X, hX⟩ : ∃ X : Int, (if many < 0 then 0 else many) = X := ⟨_, rfl⟩
  have hX1 : (if 100000 < X then 100000 else X) = (manyOf many : Int) := by rw [← hX]; exact manyOf_int many
  have hml := manyOf_le many
  obtain ⟨M, hM⟩ : ∃ M, manyOf many = M := ⟨_, rfl⟩
  rw [hM] at hX1 hml
  rw [hM]
  clear hM
  gi_wp2_with (refine ⟨trivial, ?_⟩; gi_at_call 16; refine (round_in (n - 1) _ _ _ _ _).mono ?_; rintro e w' ⟨rfl, rfl⟩)
  clear hX hX1
  have b0 := Boxed.new w 3 (.int .i64 m)
  have b1 := Boxed.new (w.alloc (.cells #[.int .i64 m] 3)) 25 (.slice none 0 0)
  have b2 := Boxed.new ((w.alloc (.cells #[.int .i64 m] 3)).alloc (.cells #[.slice none 0 0] 25)) 23 (.slice a len cap)
  have b3 := Boxed.new (((w.alloc (.cells #[.int .i64 m] 3)).alloc (.cells #[.slice none 0 0] 25)).alloc (.cells #[.slice a len cap] 23)) 3 (.int .i64 M)
  have hB0 : Below w.heap.size w ((((w.alloc (.cells #[.int .i64 m] 3)).alloc (.cells #[.slice none 0 0] 25)).alloc (.cells #[.slice a len cap] 23)).alloc (.cells #[.int .i64 M] 3)) := ((((Below.refl _ w).alloc (Nat.le_refl _) _).alloc (by simp) _).alloc (by simp; omega) _).alloc (by simp; omega) _
  simp only [World.size_alloc] at b1 b2 b3
  have hlow : 0 < nums.length → ∀ k, (Value.slice a len cap).ownBlock = some k → k < w.heap.size := fun h0 k hk => by
    rcases hR.form with ⟨hz, _⟩ | ⟨b, off, c', e, _, hr⟩
    · omega
    · cases e
      obtain rfl : b = k := by simpa [Value.ownBlock] using hk
      exact World.block_lt_of_cell? w _ (hr 0 (.int .u32 nums[0]) (by simp [u32s, List.getElem?_eq_getElem h0]))
  refine wpIn_rangeFunc_ownF rfl h1 (gf := 18) (lb := #[.pointer (some ⟨w.heap.size + 1 + 1 + 1, 0, none⟩), .pointer (some ⟨w.heap.size + 1 + 1, 0, none⟩)]) rfl trivial (enters_of Tryd.func18 (by kernel_rfl) rfl)
    (round_stops (n - 1) (by omega) (w.heap.size + 1 + 1 + 1) (w.heap.size + 1 + 1) w.heap.size M (.slice a len cap) nums hU (by rw [← HL.out]; exact hl) hml _ (by simp) (by simp; try omega) (by simp; try omega) b3.cell (b2.alloc _).cell (hR.below hB0) hlow) KB.trans (KB.put (by simp; try omega) (by simp; try omega)) (Below.refl _ _) (fun _ => rfl)
    (fun pre W => (Boxed W w.heap.size 3 (.int .i64 m) ∧ Boxed W (w.heap.size + 1 + 1) 23 (.slice a len cap) ∧ ∃ v, Boxed W (w.heap.size + 1) 25 v ∧ W.ownsRow (w.heap.size + 4) 3 1 v pre.length (ints (pre.map fun x => hgt x.1 m)) ∧ w.heap.size + 4 ≤ W.heap.size) ∧ Below w.heap.size w W)
    (fun _ _ _ => False)
    (OwnFrom.and (Own.from (fun s A B row hs hg hr => ⟨boxed_own _ _ (fun _ => .int .i64 m) s A B row hs.1 hg hr, boxed_own _ _ (fun _ => .slice a len cap) s A B row hs.2.1 hg hr, by
      obtain ⟨v, hv1, hv2, hv3⟩ := hs.2.2
      obtain ⟨v', hv'1, hv'2, _⟩ := holdsRow_own (w.heap.size + 4) (w.heap.size + 1) 25 3 1 (fun pre => pre.length) (fun pre : List U32 => ints (pre.map fun x => hgt x.1 m)) (fun _ _ => True) s A B row ⟨v, hv1, hv2, trivial⟩ hg hr
      exact ⟨v', hv'1, hv'2, Nat.le_trans hv3 hg.size⟩⟩) _) (ownFrom_below (Nat.le_refl _) (by simp; omega)))
    (fun _ _ _ _ _ hs _ _ => hs)
    ⟨⟨((b0.alloc _).alloc _).alloc _, b2.alloc _, _, (b1.alloc _).alloc _, World.ownsRow_nil _ _ _ _, by simp⟩, hB0⟩
    (fun x => { tmps := #[.slice a len cap, .int .i64 many, .int .i64 m, undef, undef, .pointer (some ⟨w.heap.size, 0, none⟩), .slice none 0 0, .pointer (some ⟨w.heap.size + 1, 0, none⟩), .int .u32 x.1, .slice a len cap, .int .i64 many, .int .i64 X, .int .i64 M, .func (.func 18) #[] #[.pointer (some ⟨w.heap.size + 1 + 1 + 1, 0, none⟩), .pointer (some ⟨w.heap.size + 1 + 1, 0, none⟩)], .int .u32 x.1, undef, undef, undef, undef, undef, undef, undef], defers := [] }) ?assign ?body ?done ?stop
  case assign =>
    intro l x W K hK
    gi_wp2
    exact hK
  case body =>
    rintro l pre ⟨x, hx0, hx1⟩ W ⟨⟨c0, c2, v, c1, hrow, hW4⟩, hB⟩ hlt
    have e0 := c0.cell
    have hT' := hT.later hB
    have hmx : Tryd.prog.follows .mixedOrders = true := by kernel_rfl
    have hd1 : 1 ≤ n - 1 - 1 := by omega
    obtain ⟨h, hh⟩ : ∃ h, hgt x m = h := ⟨_, rfl⟩
    have hcall := fun W hW => height_any W hW x m hx0 hx1 hm
    rw [hh] at hcall
    have e1 := c1.cell
    have HH := Lib.hid hh
    have HC := Lib.hid hcall
    clear hh hcall
    have hrd : (W.alloc (.cells #[.int .i64 h] 3)).drew.ownsRow (w.heap.size + 4) 3 1 v pre.length (ints (pre.map fun x => hgt x.1 m)) := hrow.alloc _
    have e1' := (c1.alloc (.cells #[.int .i64 h] 3)).cell
    gi_wp2
    refine wpIn_region_any hmx ?_
    change wpAnyIn _ _ _ _ _ _ _ _ _ (World.drew _)
    repeat' (first
      | (refine wpAnyIn_done (by decide +kernel) ?_ _)
      | (refine wpAnyIn_ready (rs := [0, 1, 2]) (by decide +kernel) (by simp) ?_)
      | (refine wpAnyIn_ready (rs := [0, 1]) (by decide +kernel) (by simp) ?_)
      | (refine wpAnyIn_ready (rs := [0, 2]) (by decide +kernel) (by simp) ?_)
      | (refine wpAnyIn_ready (rs := [1, 2]) (by decide +kernel) (by simp) ?_)
      | (refine wpAnyIn_ready (rs := [0, 3]) (by decide +kernel) (by simp) ?_)
      | (refine wpAnyIn_ready (rs := [0, 4]) (by decide +kernel) (by simp) ?_)
      | (refine wpAnyIn_ready (rs := [0]) (by decide +kernel) (by simp) ?_)
      | (refine wpAnyIn_ready (rs := [1]) (by decide +kernel) (by simp) ?_)
      | (refine wpAnyIn_ready (rs := [2]) (by decide +kernel) (by simp) ?_)
      | (refine wpAnyIn_ready (rs := [3]) (by decide +kernel) (by simp) ?_)
      | (refine wpAnyIn_ready (rs := [4]) (by decide +kernel) (by simp) ?_)
      | (refine wpAnyIn_ready (rs := [5]) (by decide +kernel) (by simp) ?_)
      | (refine wpAnyIn_ready (rs := [6]) (by decide +kernel) (by simp) ?_)
      | exact AllReadyIn.nil
      | (refine AllReadyIn.cons rfl (fun K hK => ?_) ?_)
      | (refine stepIn_append_own (by rfl) (.tmp 15) (.tmp 19) 25 (by rfl) (w.heap.size + 4) 3 i0 (.int .i64 0) 1 8 Tryd.underlying25 hi hz0 hz1 hz2 rfl (by decide) v pre.length (ints (pre.map fun x => hgt x.1 m)) (by rfl) hrd ⟨W.heap.size, 0, none⟩ 1 1 [.int .i64 h] (by rfl) rfl (cell_one W _ rfl _ _) (by simp [Value.oneCell']) (by unfold maxLen; omega) (by omega) (by simp; omega) ?_
         intro v' w1 hown' hgrow' _ _
         have hgrow : (W.alloc (.cells #[.int .i64 h] 3)).grownBy w1 v.ownBlock := ⟨hgrow'.os, hgrow'.tape, hgrow'.output, hgrow'.size, hgrow'.block⟩
         clear hgrow'
         obtain ⟨g', cap', rfl⟩ := ownsRow_succ hown'
         obtain ⟨hv1, hv2, hr2, hk2, hb2, hoth⟩ := boxes_append c1 hrow hW4 (Nat.le_succ w.heap.size) (by omega) hown' hgrow
         have hoth' := Lib.hid hoth
         clear hoth
         have q1 := hv1.cell
         have q2 := hv1.frozen
         refine hK _ _ ?_
         clear hK K hown' hgrow hv1)
      | (go_simp
         refine hK _ _ ?_
         clear hK K)
      | (go_simp
         refine ⟨trivial, ?_⟩
         gi_at_call 9
         refine (CallsIn.inRound l (callsIn_wide.2 (HC.out W.drew ⟨hT'.at_⟩))).mono ?_
         rintro e w' ⟨rfl, rfl⟩
         refine hK _ _ ?_
         clear hK K))
    all_goals gi_wp2
    all_goals
      have h0' := hoth'.out w.heap.size (by omega) (by omega)
      have h2' := hoth'.out (w.heap.size + 1 + 1) (by omega) (by omega)
      exact ⟨hk2, ⟨hb2, h2'⟩, ⟨h0'.trans c0, h2'.trans c2, _, hv2, by simpa [HH.out, ints] using hr2, Nat.le_trans hW4 hk2.size⟩, hB.trans hb2⟩
  case done =>
    rintro D ys W hD rfl ⟨⟨c0, c2, v, c1, hrow, hW4⟩, hB⟩ hK
    have e1 := c1.cell
    rw [upto_length, upto_heights] at hrow
    gi_wp2
    refine ⟨by simp, .inl ⟨_, _, rfl, run_takeDeferred hK, ?_⟩⟩
    have hrow' := ownsRow_putObj hrow (.deferred none) hK rfl
    exact ⟨_, results_tmp rfl _ _ _, v, rfl, ⟨⟨hrow'.1, hrow'.2.imp id fun ⟨g, cap, cur, h1, _, h2⟩ => ⟨g, cap, cur, h1, Nat.zero_le _, h2⟩⟩, fun k hk => by have := (hrow'.lt k hk).1; omega⟩, hB.trans (belowK_b (w := w) (Nat.le_refl _) W D _ _ (by simp at hD; omega) hK rfl rfl)⟩
  case stop =>
    rintro D c pre W _ _ h _
    exact h.elim

theorem heights_any (w : World) (hT : Tab w) (v : Value) (k : Nat) (many m : Int) (nums : List Int) (hR : Reads w 1 v k (u32s nums)) (hU : U32s nums) (hl : k ≤ 4000000000) (hm : m ≤ 9223372036854775807) :
    Calls Tryd.prog 12 #[v, .int .i64 many, .int .i64 m] w fun e W' => ∃ v, e = .returned v ∧ Row W' 3 1 v (manyOf many) (ints (heights nums (manyOf many) m)) (fun k => w.heap.size ≤ k) ∧ Below w.heap.size w W' := by
  have hlen : k = nums.length := by have := hR.len; simpa [u32s] using this.symm
  obtain ⟨ao, c, rfl⟩ := hR.slice
  subst hlen
  exact callsIn_wide.1 (heights_in 3 (by omega) w hT ao _ c many m nums hU hl rfl hR hm)
end Go.Proofs.YtidgnlcokfnhgaaDoor
