/- The store as an object; the walk over store.New. -/
import Derived.Test.YteiaifhnikknbaaGreatDoorStRight
import Derived.Test.YteiaifhnikknbaaGreatDoorMany

namespace Go.Proofs.YteiaifhnikknbaaGreatDoor
open Go.RowKit

structure SRef where
  p : Nat
  r : LRef
  d : Addr
  ks : List SkRef
def ptrs (ks : List SkRef) : List Value := ks.map fun k => .pointer (some ⟨k.lp, 0, none⟩)
def stC (K : Cfg) (sh : Value) (q : SRef) (sll : Value) (G : Gd) (sl sd si st : Value) : List Value :=
  cfC K sh ++ [.pointer (some ⟨q.r.c.p, 0, none⟩), .pointer (some ⟨q.r.p, 0, none⟩), .pointer (some q.d), sll] ++ gC G sl sd si st
/-- The lists' places. -/
def skOf (K : Cfg) (lp aq : Nat) (i : Nat) : SkRef := ⟨lp, aq, 2 + i * skA K.units, 65 + i * skP K.units, K.units⟩
/-- A store lies in blocks of O. -/
structure StAt (w : World) (q : SRef) (K : Cfg) (G : Gd) (O : Nat → Prop) : Prop where
  ex : ∃ sh sll sl sd si st, Blk w q.p 69 (stC K sh q sll G sl sd si st) ∧ Row w 48 1 sh K.heights.length (u32s K.heights) O ∧ Row w 30 1 sll q.ks.length (ptrs q.ks) O ∧ GO w G sl sd si st O
  ks : ∀ i k, q.ks[i]? = some k → SkAt w k q.r.c ∧ O k.lp ∧ O k.aq ∧ k = skOf K k.lp k.aq i
  len : (q.ks.length : Int) = K.lists
  op : O q.p

variable {K : Cfg} {w w' : World} {q : SRef} {G : Gd} {O A : Nat → Prop}
theorem u32s_one (l : List Int) : ∀ u ∈ u32s l, u.oneCell' = true := by
  intro u hu
  simp only [u32s, List.mem_map] at hu
  obtain ⟨a, _, rfl⟩ := hu
  rfl
theorem ptrs_one (l : List SkRef) : ∀ u ∈ ptrs l, u.oneCell' = true := by
  intro u hu
  simp only [ptrs, List.mem_map] at hu
  obtain ⟨a, _, rfl⟩ := hu
  rfl
theorem GO.same {sl sd si st : Value} (h : GO w G sl sd si st O) (hs : Same O w w') : GO w' G sl sd si st O := h.keep hs.block
theorem StAt.same (h : StAt w q K G O) (hs : Same O w w') : StAt w' q K G O := by
  obtain ⟨sh, sll, sl, sd, si, st, h1, h2, h3, h4⟩ := h.ex
  exact ⟨⟨sh, sll, sl, sd, si, st, h1.same h.op hs, h2.same hs, h3.same hs, h4.same hs⟩, fun i k hk => by obtain ⟨a, b, c, d⟩ := h.ks i k hk; exact ⟨a.same b c hs, b, c, d⟩, h.len, h.op⟩
theorem stC_len (sh sll sl sd si st : Value) : (stC K sh q sll G sl sd si st).length = 21 := rfl
theorem infoSt : (Tryz.prog.info? 69).map (·.size) = some 21 := by kernel_rfl
theorem infoSk : (Tryz.prog.info? 30).map (fun i => (i.zero, i.size, i.bytes)) = some (some (.pointer none), 1, 8) := by kernel_rfl
theorem infoCf : (Tryz.prog.info? 25).map (·.size) = some 6 := by kernel_rfl

def gz : Gd := ⟨[], [], 0, 0, 0, 0, [], 0, 0, [], false⟩
theorem builtSt (K : Cfg) (sh : Value) (c r : Nat) (d : Addr) : Tryz.prog.built 69 [(0, .agg (cfC K sh).toArray), (1, .pointer (some ⟨c, 0, none⟩)), (2, .pointer (some ⟨r, 0, none⟩)), (3, .pointer (some d))] =
    some (cfC K sh ++ ([.pointer (some ⟨c, 0, none⟩), .pointer (some ⟨r, 0, none⟩), .pointer (some d), .slice none 0 0] : List Value) ++ gC gz (.slice none 0 0) (.slice none 0 0) (.slice none 0 0) (.slice none 0 0)).toArray := by kernel_rfl
structure Ver where
  tables : List Meta
  log : Int
  last : Int
  next : Int
def vrC (V : Ver) (st : Value) : List Value := [st, .int .u64 V.log, .int .u64 V.last, .int .u64 V.next]
/-- What is guarded at first. -/
def newG (V : Ver) (log : Int) : Gd := ⟨[], [], 0, V.last, 0, 0, [], log, if V.next < log + 1 then log + 1 else V.next, V.tables, false⟩
/-- The memory at first. -/
def newM (K : Cfg) : Mem := Mem.new (2 + K.lists * skA K.units).toNat (65 + K.lists * skP K.units).toNat
def newS (K : Cfg) (V : Ver) : Mem := ((newM K).note ⟨0, 2, 0⟩).put 0 V.last

/-- A store is made. -/
def StMade (K : Cfg) (V : Ver) (log : Int) (w : World) (e : Ending) (w' : World) : Prop := ∃ (q : SRef) (A O : Nat → Prop), e = .returned (.tuple #[.pointer (some ⟨q.p, 0, none⟩), .int .i64 0]) ∧ Lks w' q.r ⟨66, false, 0, fun _ => none⟩ (newS K V) A ∧ StAt w' q K (newG V log) O ∧ Fresh A w' ∧ (∀ k, A k → w.heap.size ≤ k) ∧ (∀ k, O k → w.heap.size ≤ k ∧ k < w'.heap.size ∧ ¬ LA q.r A k) ∧ w.heap.size ≤ q.r.p ∧ w.heap.size ≤ q.r.q ∧ Below w.heap.size w w'

/-- Where the lists' loop stands. -/
structure LAt (K : Cfg) (w0 w : World) (p : Nat) (c : CRef) (sh : Value) (mp : Nat) (d : Addr) (sll : Value) (ks : List SkRef) : Prop where
  main : Blk w p 69 (stC K sh ⟨p, ⟨mp, 0, c⟩, d, ks⟩ sll gz (.slice none 0 0) (.slice none 0 0) (.slice none 0 0) (.slice none 0 0))
  row : Row w 30 1 sll ks.length (ptrs ks) (fun k => w0.heap.size ≤ k)
  ks : ∀ i k, ks[i]? = some k → SkAt w k c ∧ w0.heap.size ≤ k.lp ∧ w0.heap.size ≤ k.aq ∧ k = skOf K k.lp k.aq i
  below : Below w0.heap.size w0 w
  hp : w0.heap.size ≤ p

set_option maxRecDepth 100000 in
set_option maxHeartbeats 4000000 in
theorem stnew_yes (h : rightB K = true) {sh st : Value} {V : Ver} (hs : Reads w 1 sh K.heights.length (u32s K.heights)) (ht : Reads w 4 st V.tables.length (mts V.tables)) (htl : V.tables.length ≤ 1000000) (d : Addr) (log : Int) (l0 : 0 ≤ log) (l1 : log < 18446744073709551615) (vn : 0 ≤ V.next) :
    Calls Tryz.prog 14 #[.agg (cfC K sh).toArray, .pointer (some d), .agg (vrC V st).toArray, .int .u64 log] w (StMade K V log w) := by
  have hb := of_decide_eq_true h
  obtain ⟨ao, co, rfl⟩ := hs.slice
  obtain ⟨n, hn⟩ : ∃ n, K.heights.length = n := ⟨_, rfl⟩
  have hrt : ∀ W, Calls Tryz.prog 35 #[.agg (cfC K (.slice ao n co)).toArray] W fun e w' => e = .returned (.bool true) ∧ Below W.heap.size W w' := fun W => by rw [← hn]; exact right_yes h ao co
  rw [hn] at hs hb
  rw [hn]
  obtain ⟨a, ha⟩ : ∃ a, skA K.units = a := ⟨_, rfl⟩
  obtain ⟨p, hp⟩ : ∃ p, skP K.units = p := ⟨_, rfl⟩
  obtain ⟨nl, hnl⟩ : ∃ nl : Nat, K.lists = (nl : Int) := ⟨K.lists.toNat, by omega⟩
  have a1 : 14 ≤ a ∧ a ≤ 200000 := by rw [← ha]; unfold skA; omega
  have p1 : 2 ≤ p ∧ a = 3 * p + 8 := by rw [← hp, ← ha]; unfold skP skA; omega
  have l64 : 2 ≤ K.lists ∧ K.lists ≤ 64 := by omega
  have la := lists_le (l := K.lists) (a := a) (by omega) (by omega) (by omega)
  have lp := lists_le (l := K.lists) (a := p) (by omega) (by omega) (by omega)
  have lpa : K.lists * a = 3 * (K.lists * p) + 8 * K.lists := by rw [p1.2, Int.mul_add, Int.mul_left_comm, Int.mul_comm K.lists 8]
  have l10 : 2 + K.lists * a ≤ 100000 := by rw [← ha]; omega
  have p2 : 65 + K.lists * p ≤ 100000 := by omega
  have p3 : 2 ≤ p ∧ p ≤ a := by omega
  have LPA := Lib.hid lpa
  have u6 : 6 ≤ K.units ∧ K.units ≤ 20000 := by omega
  obtain ⟨W, hW, k1, k2, hB, hsz⟩ := two_boxes w (cfC K (.slice ao n co)) (vrC V st) 25 58
  have hR := hs.below hB
  have hT := ht.below hB
  have hsy : ∀ W, Calls Tryz.prog 37 #[.int .u64 K.units] W fun e w' => e = .returned (.tuple #[.int .i64 a, .int .i64 p]) ∧ W = w' := fun W => by rw [← ha, ← hp]; exact size_yes W K.units u6.1 (by omega)
  have hcn : ∀ W, Calls Tryz.prog 38 #[.int .i64 (2 + K.lists * a), .int .i64 (65 + K.lists * p)] W fun e w' => ∃ c : CRef, e = .returned (.tuple #[.pointer (some ⟨c.p, 0, none⟩), .int .i64 0]) ∧ Cells w' c (newM K) (fun k => W.heap.size ≤ k) ∧ Below W.heap.size W w' := fun W => by
    have h1 := new_ok W (2 + K.lists * a).toNat (65 + K.lists * p).toNat (by omega) (by omega)
    rw [Int.toNat_of_nonneg (by omega), Int.toNat_of_nonneg (by omega)] at h1
    have e : newM K = Mem.new (2 + K.lists * a).toNat (65 + K.lists * p).toNat := by unfold newM; rw [ha, hp]
    rw [e]
    exact h1
  have hcl : ∀ W, Below w.heap.size w W → Calls Tryz.prog 36 #[.slice ao n co] W fun e w' => ∃ v', e = .returned v' ∧ Row w' 48 1 v' n (u32s K.heights) (fun k => W.heap.size ≤ k) ∧ Below W.heap.size W w' := fun W hW => cloneU3_any W _ _ _ (hs.below hW) (u32s_one _) (by omega)
  have m5 := k1.cell 5 rfl
  have m0 := k1.cell 0 rfl
  have m2 := k1.cell 2 rfl
  have f5 := k1.frozen 5
  have HRT := Lib.hid hrt
  have HSY := Lib.hid hsy
  have HCN := Lib.hid hcn
  have HCL := Lib.hid hcl
  have HN := Lib.hid hn
  have HA := Lib.hid ha
  have HP := Lib.hid hp
  have HNL := Lib.hid hnl
  clear p1 lpa
  clear hrt hsy hcn hcl hn ha hp hnl hb h
  go_enter Tryz.func14, Tryz.ntmps14
  go_upto_region 4 with (first | (refine wpList_load_blk rfl 25 _ rfl w.heap.size (by rfl) (cfC K (.slice ao n co)) k1 _ Tryz.underlying25 rfl infoCf ?_) | (go_at_call 35; refine (HRT.out _).mono ?_; rintro e w1 ⟨rfl, hB1⟩; have k3 := k1.keep (hB1.block _ k1.lt); have m5 := k3.cell 5 rfl) | (go_at_call 36; refine (HCL.out w1 (hB.trans (hB1.mono hB.size))).mono ?_; rintro e w2 ⟨v2, rfl, hr2, hB2⟩; obtain ⟨a2, c2, rfl⟩ := hr2.slice; have k4 := k3.keep (hB2.block _ k3.lt); have f5 := k4.frozen 5; have m5 := k4.cell 5 rfl))
  obtain ⟨W3, hW3⟩ : ∃ W3, w2.setCell ⟨w.heap.size, 5, none⟩ (.slice a2 n c2) = W3 := ⟨_, rfl⟩
  have k5 : Blk W3 w.heap.size 25 (cfC K (.slice a2 n c2)) := by rw [← hW3]; exact k4.set 5 _
  have hs1 := hB1.size
  have hs2 := hB2.size
  have hs0 := hB.size
  have kv : Blk W3 (w.heap.size + 1) 58 (vrC V st) := by rw [← hW3]; exact ((k2.keep (hB1.block _ k2.lt)).keep (hB2.block _ (by have := k2.lt; omega))).set_other (by simp) _
  have hr3 : Row W3 48 1 (.slice a2 n c2) n (u32s K.heights) (fun k => w.heap.size ≤ k) := by rw [← hW3]; exact (hr2.setCell (a := ⟨w.heap.size, 5, none⟩) (hr2.ne_blk k4 (by decide)) _).wider (fun k hk => by omega)
  have hB3 : Below w.heap.size w W3 := by rw [← hW3]; exact ((hB.trans (hB1.mono hs0)).trans (hB2.mono (by omega))).setCell (p := ⟨w.heap.size, 5, none⟩) (Nat.le_refl _) _
  rw [hW3]
  have HT := Lib.hid ht
  have HR3 := Lib.hid hr3
  have HB3 := Lib.hid hB3
  clear hW3 k4 k3 k2 k1 hB2 hB1 hr2 m5 f5 hR hT hs ht hr3 m0 m2 HCL HRT hB3 hs1 hs2 hs0 hB hW
  have m0 := k5.cell 0 rfl
  have m2 := k5.cell 2 rfl
  go_upto_region 12 with (first | (go_at_call 37; refine (HSY.out _).mono ?_; rintro e w' ⟨rfl, rfl⟩) | (go_at_call 38; refine (HCN.out _).mono ?_; rintro e w4 ⟨c, rfl, hC, hB4⟩) | (go_at_call 39; refine (newL_ok hC hB4.size 66 (by decide) (by decide)).mono ?_; rintro e w5 ⟨r, hrc, rfl, hL, hB5⟩; have k6 := (k5.keep (hB4.block _ k5.lt)).keep (hB5.block _ (by have := hB4.size; have := k5.lt; omega))) | (refine wpList_load_blk rfl 25 _ rfl w.heap.size (by rfl) (cfC K (.slice a2 n c2)) k6 _ Tryz.underlying25 rfl infoCf ?_) | (refine wpList_built rfl _ _ rfl (stC K (.slice a2 n c2) ⟨w5.heap.size, ⟨r.p, 0, c⟩, d, []⟩ (.slice none 0 0) gz (.slice none 0 0) (.slice none 0 0) (.slice none 0 0) (.slice none 0 0)).toArray (by simp [Act.eval, builtSt, stC]) ?_))
  subst hrc
  obtain ⟨m, hm, hk⟩ := hL.lk
  have hs3 := HB3.out.size
  have hs4 := hB4.size
  have hs5 := hB5.size
  have hlw := k6.lt
  have k7 := k6.alloc (.cells (stC K (.slice a2 n c2) ⟨w5.heap.size, ⟨r.p, 0, r.c⟩, d, []⟩ (.slice none 0 0) gz (.slice none 0 0) (.slice none 0 0) (.slice none 0 0) (.slice none 0 0)).toArray 69)
  have hLA : LAt K w5 (w5.alloc (.cells (stC K (.slice a2 n c2) ⟨w5.heap.size, ⟨r.p, 0, r.c⟩, d, []⟩ (.slice none 0 0) gz (.slice none 0 0) (.slice none 0 0) (.slice none 0 0) (.slice none 0 0)).toArray 69)) w5.heap.size r.c (.slice a2 n c2) r.p d (.slice none 0 0) [] :=
    ⟨Blk.new _ _ _, Row.nil _ _ _ _, fun i k h => by simp at h, (Below.refl _ _).alloc (Nat.le_refl _) _, Nat.le_refl _⟩
  have hC5 := hk.mem
  have m2 := k7.cell 2 (v := .int .i64 K.lists) rfl
  rw [HNL.out] at m2 l64 la lp l10 p2
  have hna : ((newM K).atomics.length : Int) = 2 + nl * a := by simp only [newM, Mem.new, List.length_replicate]; rw [HA.out, HNL.out]; exact Int.toNat_of_nonneg (by omega)
  have hnp : ((newM K).plains.length : Int) = 65 + nl * p := by simp only [newM, Mem.new, List.length_replicate]; rw [HP.out, HNL.out]; exact Int.toNat_of_nonneg (by omega)
  have hsk : ∀ (i : Nat) W, i < nl → Below w5.heap.size w5 W → Calls Tryz.prog 40 #[.pointer (some ⟨r.c.p, 0, none⟩), .int .i64 (2 + i * a), .int .i64 (65 + i * p), .int .u64 K.units] W fun e w' => ∃ lp aq, e = .returned (.tuple #[.pointer (some ⟨lp, 0, none⟩), .int .i64 0]) ∧ SkAt w' ⟨lp, aq, 2 + i * a, 65 + i * p, K.units⟩ r.c ∧ W.heap.size ≤ lp ∧ W.heap.size ≤ aq ∧ Below W.heap.size W w' := fun i W hi hW => by
    have e1 : ((i : Int) + 1) * a ≤ nl * a := Int.mul_le_mul_of_nonneg_right (by omega) (by omega)
    have e2 : ((i : Int) + 1) * p ≤ nl * p := Int.mul_le_mul_of_nonneg_right (by omega) (by omega)
    rw [Int.add_mul, Int.one_mul] at e1 e2
    have e3 : 0 ≤ (i : Int) * a := Int.mul_nonneg (by omega) (by omega)
    have e4 : 0 ≤ (i : Int) * p := Int.mul_nonneg (by omega) (by omega)
    refine sknew_ok (hC5.keep (Same.of_below _ hW)) _ _ _ u6.1 (by omega) (by omega) (by omega) ?_ ?_
    · rw [hna, HA.out]; omega
    · rw [hnp, HP.out]; omega
  have HSK := Lib.hid hsk
  have HL := Lib.hid hL
  have HB4 := Lib.hid hB4
  have HB5 := Lib.hid hB5
  have HNA := Lib.hid hna
  have HNP := Lib.hid hnp
  have K7 := Lib.hid k7
  obtain ⟨j0, hj, hy0, hy1, hy2⟩ := info_parts infoSk
  clear hsk hL hk hm hB4 hB5 hna hnp k6 k5 m0 HCN HSY hC5 k7 hC
  go_wp2_with fail
  go_loopw [69] (fun s69 wx => ∃ (i : Nat) (ks : List SkRef) (sll : Value), i ≤ nl ∧ s69 = .int .i64 i ∧ ks.length = i ∧ LAt K w5 wx w5.heap.size r.c (.slice a2 n c2) r.p d sll ks) (fun s69 _ => nl - (intOf s69).toNat)
  case atStart => exact ⟨0, [], _, Nat.zero_le _, rfl, rfl, hLA⟩
  case round =>
    clear hLA
    obtain ⟨i, ks, sll, hi, rfl, hks, hA⟩ := hrel
    by_cases hlt : i < nl
    · have hkc := K7.out.keep (w' := wr) (by rw [Below.heap_alloc _ _ _ hlw]; exact hA.below.block _ hlw)
      have m0 := hkc.cell 0 rfl
      have m9 := hA.main.cell 9 rfl
      have f9 := hA.main.frozen 9
      have e1 : ((i : Int) + 1) * a ≤ nl * a := Int.mul_le_mul_of_nonneg_right (by omega) (by omega)
      have e2 : ((i : Int) + 1) * p ≤ nl * p := Int.mul_le_mul_of_nonneg_right (by omega) (by omega)
      rw [Int.add_mul, Int.one_mul] at e1 e2
      have e3 : 0 ≤ (i : Int) * a := Int.mul_nonneg (by omega) (by omega)
      have e4 : 0 ≤ (i : Int) * p := Int.mul_nonneg (by omega) (by omega)
      have HKS := Lib.hid hks
      clear hks
      go_upto_region 18 with (go_at_call 40; refine (HSK.out i _ hlt hA.below).mono ?_; rintro e w8 ⟨lp8, aq8, rfl, hS8, hl8, ha8, hB8⟩)
      have q1 := hA.main.keep (hB8.block _ hA.main.lt)
      have r1 := hA.row.below hB8
      rw [HKS.out] at r1
      have m9 := q1.cell 9 (v := sll) rfl
      obtain ⟨sa, sc, rfl⟩ := r1.slice
      have f9 := q1.frozen 9
      have hpl := hA.hp
      have hbz := hA.below.size
      have hb8 := hB8.size
      clear m0 hkc e1 e2 e3 e4
      go_wp2_with (at_builtin; refine wpList_append_own_at _ rfl (.tmp 94) (.tmp 96) 61 (by rfl) w5.heap.size 30 j0 (.pointer none) 1 8 Tryz.underlying61 hj hy0 hy1 hy2 rfl (by decide) (.slice sa i sc) i (ptrs ks) (by rfl) ((r1.alloc (.cells #[.pointer (some ⟨lp8, 0, none⟩)] 30)).at_base) ⟨w8.heap.size, 0, none⟩ 1 1 [.pointer (some ⟨lp8, 0, none⟩)] (by rfl) rfl (cells_new _ _ (by rfl) _ _) (by simp [Value.oneCell']) (by unfold maxLen; omega) (by omega) (by simp; omega) ?_; intro v9 w9 hown9 hg9 _ hat9; obtain ⟨g9, cp9, rfl⟩ := owns_succ hown9; have q2 := (q1.alloc (.cells #[.pointer (some ⟨lp8, 0, none⟩)] 30)).grown hg9 ((r1.alloc (.cells #[.pointer (some ⟨lp8, 0, none⟩)] 30)).ne_blk (q1.alloc _) (by decide)); have f9 := q2.frozen 9; have m9 := q2.cell 9 (v := .slice sa i sc) rfl)
      go_roundw
      case rel =>
        have r2 := Row.of_owns hown9
        refine ⟨i + 1, ks ++ [⟨lp8, aq8, 2 + i * a, 65 + i * p, K.units⟩], .slice (some ⟨g9, 0, none⟩) (i + 1) cp9, by omega, by go_num, by simp [HKS.out], ?_⟩
        have hab : Below w5.heap.size w5 (w9.setCell ⟨w5.heap.size, 9, none⟩ (.slice (some ⟨g9, 0, none⟩) (i + 1) cp9)) := (((hA.below.trans (hB8.mono hbz)).alloc (by omega) _).grown hg9 (by simp; omega) r1.home).setCell (p := ⟨w5.heap.size, 9, none⟩) (Nat.le_refl _) _
        have hup : ∀ k, k < w8.heap.size → k ≠ w5.heap.size → (Value.slice sa i sc).ownBlock ≠ some k → (w9.setCell ⟨w5.heap.size, 9, none⟩ (.slice (some ⟨g9, 0, none⟩) (i + 1) cp9)).heap[k]? = w8.heap[k]? := fun k h1 h2 h3 =>
          ((Below.heap_setCell _ _ _ _ (by simpa using h2)).trans (hg9.block k (by simp; omega) (fun e => h3 e.symm))).trans (Below.heap_alloc _ _ _ h1)
        refine ⟨q2.set 9 _, ?_, ?_, hab, hpl⟩
        · have e5 : ptrs (ks ++ [⟨lp8, aq8, 2 + i * a, 65 + i * p, K.units⟩]) = ptrs ks ++ [.pointer (some ⟨lp8, 0, none⟩)] := by simp [ptrs]
          rw [e5, List.length_append, HKS.out]
          exact r2.setCell (a := ⟨w5.heap.size, 9, none⟩) (r2.ne_blk q2 (by decide)) _
        · intro j k hk
          have hsp : ∀ k, SkAt w8 k r.c → k.lp < w8.heap.size → k.aq < w8.heap.size → SkAt (w9.setCell ⟨w5.heap.size, 9, none⟩ (.slice (some ⟨g9, 0, none⟩) (i + 1) cp9)) k r.c := fun k hk _ _ =>
            ⟨hk.list.keep (hup _ hk.list.lt (hk.list.ne q1 (by decide)) (r1.ne_blk hk.list (by decide))), hk.arena.keep (hup _ hk.arena.lt (hk.arena.ne q1 (by decide)) (r1.ne_blk hk.arena (by decide)))⟩
          rcases Nat.lt_or_ge j ks.length with hj2 | hj2
          · rw [List.getElem?_append_left hj2] at hk
            obtain ⟨t1, t2, t3, t4⟩ := hA.ks j k hk
            have t5 := t1.below hB8
            exact ⟨hsp k t5 t5.list.lt t5.arena.lt, t2, t3, t4⟩
          · rw [List.getElem?_append_right hj2] at hk
            have hj3 : j = ks.length := by
              have := (List.getElem?_eq_some_iff.1 hk).1
              simp at this; omega
            subst hj3
            simp at hk
            subst hk
            refine ⟨hsp _ hS8 hS8.list.lt hS8.arena.lt, by simp; omega, by simp; omega, ?_⟩
            simp [skOf, HKS.out, HA.out, HP.out]
      case measure => simp [intOf]; omega
    · obtain rfl : i = nl := by omega
      go_upto_region 20 with fail
      have kvr := (((kv.keep (HB4.out.block _ kv.lt)).keep (HB5.out.block _ (by have := kv.lt; omega))).alloc (.cells (stC K (.slice a2 n c2) ⟨w5.heap.size, ⟨r.p, 0, r.c⟩, d, []⟩ (.slice none 0 0) gz (.slice none 0 0) (.slice none 0 0) (.slice none 0 0) (.slice none 0 0)).toArray 69))
      have kvs : Blk wr (w.heap.size + 1) 58 (vrC V st) := kvr.keep (by rw [Below.heap_alloc _ _ _ (by have := kv.lt; omega)]; exact hA.below.block _ (by have := kv.lt; omega))
      obtain ⟨nt, hnt⟩ : ∃ nt, V.tables.length = nt := ⟨_, rfl⟩
      rw [hnt] at htl
      obtain ⟨ta, tc, hst⟩ := HT.out.slice
      rw [hnt] at hst
      subst hst
      obtain ⟨nx, hnx⟩ : ∃ nx, (if V.next < log + 1 then log + 1 else V.next) = nx := ⟨_, rfl⟩
      have hBr : Below w.heap.size w wr := (((HB3.out.trans (HB4.out.mono hs3)).trans (HB5.out.mono (by omega)))).trans (hA.below.mono (by omega))
      have hcm : ∀ W, Below w.heap.size w W → Calls Tryz.prog 41 #[.slice ta nt tc] W fun e w' => ∃ v', e = .returned v' ∧ Row w' 92 4 v' nt (mts V.tables) (fun k => W.heap.size ≤ k) ∧ Below W.heap.size W w' := fun W hW => by
        have h1 := HT.out.below hW
        rw [hnt] at h1
        exact cloneMt_any W _ _ _ h1 (mts_one _) (by omega)
      have HCM := Lib.hid (hcm wr.drew hBr.drew)
      have HNT := Lib.hid hnt
      have HKS := Lib.hid hks
      have x0 := kvs.cell 0 rfl
      have x2 := kvs.cell 2 rfl
      have x3 := kvs.cell 3 rfl
      have hne1 : w.heap.size + 1 ≠ w5.heap.size := by have := kv.lt; omega
      have hne2 : w5.heap.size ≠ w.heap.size + 1 := Ne.symm hne1
      clear hcm hnt hks kvr kv m2
      have hwr : IntKind.u64.wrap (log + 1) = log + 1 := IntWalk.u64_in _ (by omega)
      go_region_held3 (fun w' => w'.cell? ⟨w.heap.size + 1, 0, none⟩ = some (.slice ta nt tc) ∧ w'.cell? ⟨w.heap.size + 1, 2, none⟩ = some (.int .u64 V.last) ∧ w'.cell? ⟨w.heap.size + 1, 3, none⟩ = some (.int .u64 V.next)) (go_keep) ((go_at_call 41; refine HCM.out.mono ?_; rintro e w10 ⟨v10, rfl, hr10, hB10⟩; obtain ⟨a10, c10, rfl⟩ := hr10.slice; have s1 := hA.main.keep (hB10.block _ hA.main.lt); have s2 := kvs.keep (hB10.block _ kvs.lt); have y0 := s2.cell 0 rfl; have y2 := s2.cell 2 rfl; have y3 := s2.cell 3 rfl; have d10 := s1.cell 10 rfl; have e10 := s1.frozen 10; have d11 := s1.cell 11 rfl; have e11 := s1.frozen 11; have d12 := s1.cell 12 rfl; have e12 := s1.frozen 12; have d13 := s1.cell 13 rfl; have e13 := s1.frozen 13; have d14 := s1.cell 14 rfl; have e14 := s1.frozen 14; have d15 := s1.cell 15 rfl; have e15 := s1.frozen 15; have d16 := s1.cell 16 rfl; have e16 := s1.frozen 16; have d17 := s1.cell 17 rfl; have e17 := s1.frozen 17; have d18 := s1.cell 18 rfl; have e18 := s1.frozen 18; have d19 := s1.cell 19 rfl; have e19 := s1.frozen 19; have d20 := s1.cell 20 rfl; have e20 := s1.frozen 20))
      all_goals
        obtain ⟨G9, hG9⟩ : ∃ G9 : Gd, G9 = ⟨[], [], 0, V.last, 0, 0, [], log, nx, V.tables, false⟩ := ⟨_, rfl⟩
        have hG : newG V log = G9 := by rw [hG9, ← hnx]; rfl
        obtain ⟨Wz, hWz⟩ : ∃ Wz, w10.setCells w5.heap.size 10 (gC ⟨[], [], 0, V.last, 0, 0, [], log, nx, V.tables, false⟩ (.slice none 0 0) (.slice none 0 0) (.slice none 0 0) (.slice a10 nt c10)) = Wz := ⟨_, rfl⟩
        have g1 := s1.many (gC ⟨[], [], 0, V.last, 0, 0, [], log, nx, V.tables, false⟩ (.slice none 0 0) (.slice none 0 0) (.slice none 0 0) (.slice a10 nt c10)) 10
        have g2 : Blk Wz w5.heap.size 69 (stC K (.slice a2 n c2) ⟨w5.heap.size, r, d, ks⟩ sll G9 (.slice none 0 0) (.slice none 0 0) (.slice none 0 0) (.slice a10 nt c10)) := by rw [hG9, ← hWz]; exact g1
        have hbs := hA.below.size
        have hup : Below w5.heap.size w5 Wz := by rw [← hWz]; exact Below.many (Nat.le_refl _) _ _ (hA.below.trans ((Quiet.below ⟨1, rfl⟩ _ : Below w5.heap.size wr wr.drew).trans (hB10.mono hbs)))
        have hks2 : ∀ k, k < wr.heap.size → k ≠ w5.heap.size → Wz.heap[k]? = wr.heap[k]? := fun k h1 h2 => by rw [← hWz]; exact (heap_many _ _ _ _ h2).trans (hB10.block k h1)
        have g3 : Row Wz 48 1 (.slice a2 n c2) n (u32s K.heights) (fun k => w.heap.size ≤ k ∧ k < W3.heap.size) := by
          have h1 := HR3.out.mono (B := fun k => w.heap.size ≤ k ∧ k < W3.heap.size) (fun k h2 h3 => ⟨h3, h2⟩)
          exact ((h1.below HB4.out).below HB5.out).keep (fun k hk => hup.block k (by have := (h1.home k hk).2; omega))
        have g4 : Row Wz 30 1 sll ks.length (ptrs ks) (fun k => w5.heap.size ≤ k ∧ k < Wz.heap.size) := by
          have h1 := hA.row.keep (w' := Wz) (fun k hk => hks2 k (hA.row.lt hk) (fun e => hA.row.ne_blk hA.main (by decide) (by rw [hk, e])))
          exact h1.mono fun k h2 h3 => ⟨h3, h2⟩
        have g5 : Row Wz 92 4 (.slice a10 nt c10) nt (mts V.tables) (fun k => w5.heap.size ≤ k ∧ k < Wz.heap.size) := by
          have h1 := hr10.many s1 (by decide) (gC ⟨[], [], 0, V.last, 0, 0, [], log, nx, V.tables, false⟩ (.slice none 0 0) (.slice none 0 0) (.slice none 0 0) (.slice a10 nt c10)) 10
          rw [hWz] at h1
          exact h1.mono fun k h2 h3 => ⟨Nat.le_trans hbs h3, h2⟩
        obtain ⟨m, hm, hk⟩ := HL.out.lk
        have hC9 := (hk.mem.older hup).mono (B := fun k => (LB W3.heap.size r k ∧ k < w5.heap.size) ∨ Wz.heap.size ≤ k) (fun k _ h => .inl h)
        have hF9 : Fresh (fun k => (LB W3.heap.size r k ∧ k < w5.heap.size) ∨ Wz.heap.size ≤ k) Wz := ⟨fun k h => .inr h⟩
        have hst := store_to hC9 hF9 (show 0 < trMax by decide) 0 0 V.last (by rw [okAt]; exact decide_eq_true (by have := HNA.out; omega)) (newS K V) rfl
        have HST := Lib.hid hst
        have v2 : Wz.cell? ⟨w.heap.size + 1, 2, none⟩ = some (.int .u64 V.last) := (kvs.keep (hks2 _ kvs.lt hne1)).cell 2 rfl
        clear hst g1
        simp only [World.setCells, gC, Nat.reduceAdd] at hWz
        rw [hWz]
        have hbp := HL.out.bp
        have hbq := HL.out.bq
        have hzs := hup.size
        have hnr : ∀ k, (k = r.p ∨ k = r.q) → k < w5.heap.size := fun k h => h.elim (fun e => e ▸ hk.main.lt) (fun e => e ▸ hk.map.lt)
        have hSt : StAt Wz ⟨w5.heap.size, r, d, ks⟩ K G9 (fun k => w.heap.size ≤ k ∧ k < Wz.heap.size ∧ ¬ (LB W3.heap.size r k ∧ k < w5.heap.size) ∧ k ≠ r.p ∧ k ≠ r.q) := by
          have hO : ∀ k, w5.heap.size ≤ k → k < Wz.heap.size → w.heap.size ≤ k ∧ k < Wz.heap.size ∧ ¬ (LB W3.heap.size r k ∧ k < w5.heap.size) ∧ k ≠ r.p ∧ k ≠ r.q := fun k h1 h2 =>
            ⟨by omega, h2, fun h => by omega, fun e => by have := hnr k (.inl e); omega, fun e => by have := hnr k (.inr e); omega⟩
          refine ⟨⟨_, _, _, _, _, _, g2, ?_, g4.wider fun k h => hO k h.1 h.2, ⟨?_, ?_, ?_, ?_⟩⟩, ?_, ?_, hO _ (Nat.le_refl _) g2.lt⟩
          · rw [HN.out]
            exact g3.mono fun k h1 h => ⟨h.1, h1, fun h2 => by have := h2.1.1; omega, fun e => by omega, fun e => by omega⟩
          · rw [hG9]; exact Row.nil _ _ _ _
          · rw [hG9]; exact Row.nil _ _ _ _
          · rw [hG9]; exact Row.nil _ _ _ _
          · rw [hG9]
            show Row Wz 92 4 (.slice a10 nt c10) V.tables.length (mts V.tables) _
            rw [HNT.out]
            exact g5.wider fun k h => hO k h.1 h.2
          · intro j k hj2
            obtain ⟨t1, t2, t3, t4⟩ := hA.ks j k hj2
            have u1 := t1.list.keep (hks2 _ t1.list.lt (t1.list.ne hA.main (by decide)))
            have u2 := t1.arena.keep (hks2 _ t1.arena.lt (t1.arena.ne hA.main (by decide)))
            exact ⟨⟨u1, u2⟩, hO _ t2 u1.lt, hO _ t3 u2.lt, t4⟩
          · show (ks.length : Int) = K.lists
            rw [HKS.out, HNL.out]
        have HST2 := Lib.hid hSt
        have HK := Lib.hid hk
        have HUP := Lib.hid hup
        have HF9 := Lib.hid hF9
        have HGG := Lib.hid hG
        have HBR := Lib.hid hBr
        have HNR := Lib.hid hnr
        clear hSt hk hup hF9 hC9 hG g2 g3 g4 g5 hks2 s1 s2 hA hBr hnr kvs hr10 hB10 hWz hnx hwr x0 x2 x3
        go_wp2_with (go_at_call 42; refine HST.out.mono ?_; rintro e w12 ⟨rfl, hC12, hO12⟩)
        go_ret2
        have hwz : Below w.heap.size w Wz := ((HB3.out.trans (HB4.out.mono hs3)).trans (HB5.out.mono (by omega))).trans (HUP.out.mono (by omega))
        have hpl := HK.out.main.lt
        have hql := HK.out.map.lt
        have np : ¬ ((LB W3.heap.size r r.p ∧ r.p < w5.heap.size) ∨ Wz.heap.size ≤ r.p) := fun h => h.elim (fun h => h.1.2.1 rfl) (fun h => by omega)
        have nq : ¬ ((LB W3.heap.size r r.q ∧ r.q < w5.heap.size) ∨ Wz.heap.size ≤ r.q) := fun h => h.elim (fun h => h.1.2.2 rfl) (fun h => by omega)
        have hOA : ∀ k, k < Wz.heap.size → (w.heap.size ≤ k ∧ k < Wz.heap.size ∧ ¬ (LB W3.heap.size r k ∧ k < w5.heap.size) ∧ k ≠ r.p ∧ k ≠ r.q) → ¬ ((LB W3.heap.size r k ∧ k < w5.heap.size) ∨ Wz.heap.size ≤ k) := fun k h1 h2 h3 => h3.elim (fun h => h2.2.2.1 h) (fun h => by omega)
        have hst2 := HST2.out.same (Same.of_only hO12 hOA)
        rw [← HGG.out] at hst2
        have hlks : Lks w12 r ⟨66, false, 0, fun _ => none⟩ (newS K V) (fun k => (LB W3.heap.size r k ∧ k < w5.heap.size) ∨ Wz.heap.size ≤ k) := ⟨m, Nat.le_trans hm (Nat.zero_le _), ⟨HK.out.main.keep ((hO12.block _ (by omega) np).trans (HUP.out.block _ hpl)), ownsMap_keep HK.out.map ((hO12.block _ (by omega) nq).trans (HUP.out.block _ hql)), hC12, np, nq⟩⟩
        exact ⟨⟨w5.heap.size, r, d, ks⟩, (fun k => (LB W3.heap.size r k ∧ k < w5.heap.size) ∨ Wz.heap.size ≤ k), (fun k => w.heap.size ≤ k ∧ k < Wz.heap.size ∧ ¬ (LB W3.heap.size r k ∧ k < w5.heap.size) ∧ k ≠ r.p ∧ k ≠ r.q), rfl, hlks, hst2, HF9.out.only hO12, fun k h => h.elim (fun h7 => by have := h7.1.1; omega) (fun h7 => by omega), fun k h => ⟨h.1, Nat.lt_of_lt_of_le h.2.1 hO12.size, fun h7 => h7.elim (fun h8 => h8.elim (fun h9 => h.2.2.1 h9) (fun h9 => by have := h.2.1; omega)) (fun h8 => h8.elim (fun h9 => h.2.2.2.1 h9) (fun h9 => h.2.2.2.2 h9))⟩, by show w.heap.size ≤ r.p; omega, by show w.heap.size ≤ r.q; omega,
          hwz.trans (hO12.below (by omega) fun k h1 h2 => h2.elim (fun h2 => by have := h2.1.1; omega) (fun h2 => by omega))⟩
end Go.Proofs.YteiaifhnikknbaaGreatDoor
