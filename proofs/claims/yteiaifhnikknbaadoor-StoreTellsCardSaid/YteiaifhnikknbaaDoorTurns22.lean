/- StoreTurns: the walk. -/
import Derived.Test.YteiaifhnikknbaaDoorTurnsPlain22
import Derived.Test.YteiaifhnikknbaaDoorAppR
import Derived.Test.YteiaifhnikknbaaDoorTz
namespace Go.Proofs.YteiaifhnikknbaaDoor
open Go.RowKit

variable {w w' : World} {G : Gd} {sl sd si st : Value}
set_option maxHeartbeats 400000 in
theorem meta22 (w : World) (n : Int) : Calls Tryd.prog 9 #[.int .u64 n] w fun e w' => e = .returned (.agg #[.int .u64 n, .int .u64 9, .string ⟨#[97]⟩, .string ⟨#[98]⟩]) ∧ Below w.heap.size w w' := by
  go_enter Tryd.func9, Tryd.ntmps9
  go_wp2
  have hi : (Tryd.prog.info? 37).map (·.size) = some 4 := by kernel_rfl
  exact bodyPost_ret (results_cell_one (P := Tryd.prog) Tryd.results9 rfl ((Blk.new w 37 [.int .u64 n, .int .u64 9, .string ⟨#[97]⟩, .string ⟨#[98]⟩]).loadRow _ Tryd.underlying37 rfl hi)) rfl ⟨rfl, (Below.refl _ _).alloc (Nat.le_refl _) _⟩
/-- Where the turns stand: what is guarded lies in block b, the law's lists above it. -/
structure TAt (w0 wr : World) (b : Nat) (G : Gd) (sl sd si st vl vt : Value) : Prop where
  main : Blk wr b 31 (gC G sl sd si st)
  gh : GH wr G sl sd si st (b + 1)
  lists : Reads wr 1 vl (viewG G).mems.length (ints (viewG G).mems)
  lhome : ∀ k, vl.ownBlock = some k → b + 1 ≤ k
  tabs : Reads wr 1 vt (viewG G).tables.length (u64s ((viewG G).tables.map Meta.num))
  thome : ∀ k, vt.ownBlock = some k → b + 1 ≤ k
  below : Below w0.heap.size w0 wr
  hb : w0.heap.size ≤ b
  lt : b < wr.heap.size
/-- What lies above b in the old world stays. -/
def Above (b : Nat) (wr wx : World) : Prop := ∀ k, b + 1 ≤ k → k < wr.heap.size → wx.heap[k]? = wr.heap[k]?
theorem Above.trans {b : Nat} {u v x : World} (h : Above b u v) (hs : u.heap.size ≤ v.heap.size) (k : Above b v x) : Above b u x := fun j h1 h2 => (k j h1 (by omega)).trans (h j h1 h2)
theorem Above.of_below {b : Nat} {u v : World} (h : Below u.heap.size u v) : Above b u v := fun _ _ h2 => h.block _ h2
theorem Above.alloc (b : Nat) (u : World) (o : Obj) : Above b u (u.alloc o) := fun _ _ h2 => Below.heap_alloc _ _ _ h2
theorem Above.setRow (b : Nat) (u : World) (c : Array Value) : Above b u (u.setRow b c) := fun _ h1 _ => heap_setRow_other _ _ _ (by omega)
theorem Above.setNew {b : Nat} {u v : World} (h : Above b u v) {g : Nat} (hg : u.heap.size ≤ g) (c : Array Value) : Above b u (v.setRow g c) := fun k h1 h2 => (heap_setRow_other _ _ _ (by omega)).trans (h k h1 h2)
theorem Above.grown {b : Nat} {u v v' : World} {row : Option Nat} (h : Above b u v) (hs : u.heap.size ≤ v.heap.size) (hg : v.grownBy v' row) (hr : ∀ k, row = some k → u.heap.size ≤ k) : Above b u v' := fun k h1 h2 =>
  (hg.block k (by omega) (fun e => by have := hr k e.symm; omega)).trans (h k h1 h2)
theorem GH.above {w w' : World} {G : Gd} {sl sd si st : Value} {b : Nat} (h : GH w G sl sd si st (b + 1)) (hs : Above b w w') : GH w' G sl sd si st (b + 1) := h.keep fun k h1 h2 => hs k h1 h2
theorem Reads.above {w w' : World} {size n : Nat} {v : Value} {xs : List Value} {b : Nat} (h : Reads w size v n xs) (hh : ∀ k, v.ownBlock = some k → b + 1 ≤ k) (hs : Above b w w') : Reads w' size v n xs := h.stay fun k h1 h2 => hs k (hh k h1) h2
theorem TAt.on {w0 wr wx : World} {b : Nat} {vl vt : Value} (h : TAt w0 wr b G sl sd si st vl vt) (hb : Below wr.heap.size wr wx) : TAt w0 wx b G sl sd si st vl vt :=
  ⟨h.main.keep (hb.block _ h.lt), h.gh.above (Above.of_below hb), h.lists.below hb, h.lhome, h.tabs.below hb, h.thome, h.below.trans (hb.mono h.below.size), h.hb, Nat.lt_of_lt_of_le h.lt hb.size⟩
theorem Row.single {W : World} {g t : Nat} {v : Value} {A : Nat → Prop} (h : Blk W g t [v]) (hA : A g) : Row W t 1 (.slice (some ⟨g, 0, none⟩) 1 1) 1 [v] A :=
  ⟨⟨rfl, .inr ⟨g, 1, #[v], rfl, Nat.zero_le _, h, Nat.le_refl _, by unfold maxLen; omega, rfl, rfl⟩⟩, fun k hk => by cases hk; exact hA⟩
theorem Reads.butLast {w : World} {b off n k c : Nat} {xs : List Int} (h : Reads w 1 (.slice (some ⟨b, off, none⟩) n c) n (ints xs)) (hk : n = k + 1) : Reads w 1 (.slice (some ⟨b, off, none⟩) k c) k (ints xs.dropLast) := by
  have hl := h.len
  rw [ints_length] at hl
  refine ⟨by rw [ints_length, List.length_dropLast]; omega, .inr ?_⟩
  rcases h.form with ⟨h0, _⟩ | ⟨b', o', c', e, hc, hr⟩
  · omega
  · cases e
    refine ⟨_, _, _, rfl, by omega, fun j u hu => hr j u ?_⟩
    have hj : j < (ints xs.dropLast).length := (List.getElem?_eq_some_iff.1 hu).1
    rw [ints_length, List.length_dropLast] at hj
    rw [← hu]
    simp only [ints, List.getElem?_map, List.getElem?_dropLast]
    rw [if_pos (by omega)]
theorem mts_get0 (l : List Meta) (k : Nat) (h : k < l.length) : (mts l)[k * 4]? = some (.int .u64 l[k].num) := by
  induction l generalizing k with
  | nil => simp at h
  | cons a l ih =>
    have e : mts (a :: l) = .int .u64 a.num :: .int .u64 a.size :: .string a.least :: .string a.most :: mts l := rfl
    cases k with
    | zero => rw [e]; simp
    | succ k =>
      have := ih k (by simpa using h)
      rw [e, show (k + 1) * 4 = k * 4 + 1 + 1 + 1 + 1 by omega]
      simpa using this
theorem mts_num {l : List Meta} {k : Nat} {N : Meta} (h : l[k]? = some N) : (mts l)[k * 4]? = some (.int .u64 N.num) := by
  obtain ⟨hk, rfl⟩ := List.getElem?_eq_some_iff.1 h
  exact mts_get0 l k hk
theorem u64s_one (l : List Int) : ∀ u ∈ u64s l, u.oneCell' = true := by
  intro u hu
  simp only [u64s, List.mem_map] at hu
  obtain ⟨a, _, rfl⟩ := hu
  rfl
set_option maxRecDepth 100000 in
set_option maxHeartbeats 4000000 in
theorem turns_ok (haw : ∀ w, Tab w → Calls Tryd.prog 14 #[] w fun e w' => e = .returned (.bool true) ∧ Below w.heap.size w w') (w : World) (hT0 : Tab w) (ao : Option Addr) (n c m : Nat) (bs : List UInt8) (hn : bs.length = n) (hn6 : n ≤ 9223372036854775807) (hR : Reads w 1 (.slice ao n c) n (u8s bs)) (hc : n ≤ c)
    (hm' : (if (40 : Int) < (n : Int) then (40 : Int) else (n : Int)) = (m : Int)) :
    Calls Tryd.prog 3 #[.slice ao n c] w fun e w' => e = .returned (.bool true) ∧ Below w.heap.size w w' := by
  have hm1 : m ≤ n := by split at hm' <;> omega
  have hm2 : m ≤ 40 := by split at hm' <;> omega
  have hm3 : m ≤ c := by omega
  have hm := hm'
  clear hm'
  obtain ⟨i0, hi, hz0, hz1, hz2⟩ := info_parts infoInt
  have hkeep := keep_any (w := w.alloc (.cells (gC g0 (.slice none 0 0) (.slice none 0 0) (.slice none 0 0) (.slice none 0 0)).toArray 31)) (G := g0) (sl := .slice none 0 0) (sd := .slice none 0 0) (si := .slice none 0 0) (st := .slice none 0 0) ⟨⟨rfl, .inl ⟨rfl, _, _, rfl⟩⟩, ⟨rfl, .inl ⟨rfl, _, _, rfl⟩⟩, ⟨rfl, .inl ⟨rfl, _, _, rfl⟩⟩, ⟨rfl, .inl ⟨rfl, _, _, rfl⟩⟩⟩ (by decide)
  go_enter Tryd.func3, Tryd.ntmps3
  go_wp2_with (first | (go_at_call 7; refine hkeep.mono ?_; rintro e w1 ⟨rfl, hB1⟩) | (at_builtin; refine wpList_append_own_at _ rfl (.tmp 20) (.tmp 21) 33 (by rfl) (w.heap.size + 1) 3 i0 (.int .i64 0) 1 8 Tryd.underlying33 hi hz0 hz1 hz2 rfl (by decide) (.slice none 0 0) 0 [] (by rfl) (World.ownsRow_nil _ _ _ _) ⟨w1.heap.size, 0, none⟩ 1 1 [.int .i64 0] (by rfl) rfl (cells_new _ _ (by rfl) _ _) (by simp [Value.oneCell']) (by unfold maxLen; omega) (by omega) (by have := hB1.size; simp at this ⊢; omega) ?_; intro v2 w2 hown2 hg2 _ hat2; obtain ⟨g2, cp2, rfl⟩ := owns_succ hown2))
  have hT : TAt w w2 w.heap.size g0 (.slice none 0 0) (.slice none 0 0) (.slice none 0 0) (.slice none 0 0) (.slice (some ⟨g2, 0, none⟩) 1 cp2) (.slice none 0 0) := by
    have k1 := (((Blk.new w 31 (gC g0 (.slice none 0 0) (.slice none 0 0) (.slice none 0 0) (.slice none 0 0))).keep (hB1.block _ (Blk.new w 31 _).lt)).alloc (.cells #[.int .i64 0] 3)).grown hg2 (by simp [Value.ownBlock])
    have hz : ∀ (W : World) (s : Nat), Reads W s (.slice none 0 0) 0 [] := fun W s => ⟨by simp, .inl ⟨rfl, _, _, rfl⟩⟩
    have hr := Row.of_owns hown2
    have hn0 : ∀ k, (Value.slice none 0 0).ownBlock = some k → w.heap.size + 1 ≤ k := by intro k hk; cases hk
    refine ⟨k1, ⟨⟨hz _ _, hz _ _, hz _ _, hz _ _⟩, hn0, hn0, hn0, hn0⟩, hr.reads, hr.home, hz _ _, hn0, ?_, Nat.le_refl _, k1.lt⟩
    have hb := ((((Below.refl _ w).alloc (Nat.le_refl _) _).trans (hB1.mono (by simp))).alloc (by have := hB1.size; simp at this ⊢; omega) (.cells #[.int .i64 0] 3))
    exact hb.grown hg2 (by have := hB1.size; simp at this ⊢; omega) (fun k h => by cases h)
  have HR := Lib.hid hR
  have HN := Lib.hid hn
  have HTab := Lib.hid hT0
  clear hT0
  clear hkeep hB1 hown2 hg2 hat2 hR hn hm
  go_loopw [4, 5, 6, 29] (fun s4 s5 s6 s29 wr => ∃ (i : Nat) (G : Gd) (sl sd si st : Value), i ≤ m ∧ s29 = .int .i64 i ∧ s4 = .int .u64 (keepG G) ∧ TI G i ∧ TAt w wr w.heap.size G sl sd si st s5 s6) (fun _ _ _ s29 _ => m - (intOf s29).toNat)
  case atStart => exact ⟨0, g0, _, _, _, _, Nat.zero_le _, rfl, rfl, TI.zero, hT⟩
  case round =>
    clear hT
    obtain ⟨i, G, sl, sd, si, st, him, rfl, rfl, hI, hA⟩ := hrel
    by_cases hlt : i < m
    · obtain ⟨x, hx⟩ : ∃ x, bs[i]? = some x := ⟨_, List.getElem?_eq_getElem (by rw [HN.out]; omega)⟩
      rcases HR.out.form with ⟨h0, _⟩ | ⟨ab, off, c', e, hc', hr⟩
      · omega
      · cases e
        have x1 := (hA.below.cell (World.block_lt_of_cell? w _ (hr i (.int .u8 (x.toNat : Int)) (by simp [u8s, hx])))).trans (hr i (.int .u8 (x.toNat : Int)) (by simp [u8s, hx]))
        have hx1 : (x.toNat : Int) ≤ 255 := by have := x.toNat_lt; omega
        obtain ⟨z, hz⟩ : ∃ z : Int, (x.toNat : Int) = z := ⟨_, rfl⟩
        rw [hz] at x1 hx1
        have hz0' : 0 ≤ z := by omega
        clear hr hx hz
        have k7 := hA.main.cell 7 rfl
        obtain ⟨l1, l2⟩ := hI.log
        obtain ⟨lg, hlg⟩ : ∃ lg, G.log = lg := ⟨_, rfl⟩
        rw [hlg] at k7 l1 l2
        have l3 : lg ≤ 5000 := by omega
        have hk := hA.main
        have HI := Lib.hid hI
        have HA := Lib.hid hA
        have HLG := Lib.hid hlg
        clear hI hA hlg l2
        go_upto_if 36 with fail
        go_cut [5, 6] (fun s5 s6 wx => ∃ (G' : Gd) (sl' sd' si' st' : Value), TI G' (i + 1) ∧ keepG G ≤ keepG G' ∧ TAt w wx w.heap.size G' sl' sd' si' st' s5 s6)
        case first =>
          by_cases h3 : 0 < z % 3
          · have d0 : 0 ≤ z / 3 := by omega
            --H{
            have d1 : z / 3 ≤ 85 := by omega
            obtain ⟨L, hL⟩ : ∃ L, lg + 1 + z / 3 = L := ⟨_, rfl⟩
            have hLg : G.log < L := by rw [HLG.out]; omega
            have hLh : L ≤ G.log + 100 := by rw [HLG.out]; omega
            obtain ⟨r1, r2, r3, r4, r5, r6, r7, r8⟩ := HI.out.rot (by omega) hLg hLh
            have hrot := rotate_any HA.out.gh.gr (HI.out.small (by omega)) L (by omega) (by omega)
            obtain ⟨gm, hgm⟩ : ∃ gm, G.mem = gm := ⟨_, rfl⟩
            obtain ⟨gn, hgn⟩ : ∃ gn, G.next = gn := ⟨_, rfl⟩
            obtain ⟨nx, hnx⟩ : ∃ nx, (rotG G L).next = nx := ⟨_, rfl⟩
            have m0 := HI.out.mem
            rw [hgm] at m0 r2
            obtain ⟨m0, m1⟩ := m0
            have m3 : gm ≤ 5000 := by omega
            rw [hnx] at r4 r5
            rw [hgn] at r5
            have t4 : (nx ≤ L) = False := by simp; omega
            have t5 : (nx < gn) = False := by simp; omega
            have k5 := hk.cell 5 rfl
            have k8 := hk.cell 8 rfl
            rw [hgm] at k5
            rw [hgn] at k8
            have HRT := Lib.hid hrot
            have HGM := Lib.hid hgm
            have HGN := Lib.hid hgn
            have R2 := Lib.hid r2
            have R3 := Lib.hid r3
            have HNX := Lib.hid hnx
            have REST := Lib.hid (show TI (rotG G L) (i + 1) ∧ keepG G ≤ keepG (rotG G L) ∧ (viewG (rotG G L)).mems = (G.mem + 1) :: (viewG G).mems ∧ (rotG G L).tables = G.tables from ⟨r1, r6, r7, r8⟩)
            clear hrot r1 r2 r3 r6 r7 r8 hnx hgm hgn hLg hLh r4 r5 m1
            go_upto_region 14 with (first | (refine wpList_load_blk rfl 31 _ rfl w.heap.size (by rfl) (gC G sl sd si st) hk _ Tryd.underlying31 rfl infoG ?_) | (go_at_call 8; refine HRT.out.mono ?_; rintro e w3 ⟨a1, a2, a3, a4, rfl, hG1, hB3⟩; clear HRT; have q0 := Blk.new w3 31 [.slice none 0 0, .slice none 0 0, .int .i64 0, .int .u64 0, .int .i64 0, .int .i64 0, .slice none 0 0, .int .u64 0, .int .u64 0, .slice none 0 0, .bool false]; have q1 := q0.setRow (gC (rotG G L) a1 a2 a3 a4); have y5 := q1.cell 5 (v := .int .i64 (rotG G L).mem) rfl; have y7 := q1.cell 7 (v := .int .u64 (rotG G L).log) rfl; have y8 := q1.cell 8 (v := .int .u64 (rotG G L).next) rfl; rw [R2.out] at y5; rw [R3.out] at y7; rw [HNX.out] at y8; have kw := ((hk.keep (hB3.block _ hk.lt)).alloc (.cells #[.slice none 0 0, .slice none 0 0, .int .i64 0, .int .u64 0, .int .i64 0, .int .i64 0, .slice none 0 0, .int .u64 0, .int .u64 0, .slice none 0 0, .bool false] 31)).setRow_other (b' := w3.heap.size) (by have := hB3.size; have := hk.lt; omega) (gC (rotG G L) a1 a2 a3 a4).toArray; have x5 := kw.cell 5 rfl; have x8 := kw.cell 8 rfl; rw [HGM.out] at x5; rw [HGN.out] at x8) | (refine wpList_store_blk rfl 31 _ _ rfl w3.heap.size (gC (rotG G L) a1 a2 a3 a4) (by rfl) (by rfl) _ q0 infoG rfl (gC_one _ hG1.gr.l.slice_one hG1.gr.d.slice_one hG1.gr.i.slice_one hG1.gr.t.slice_one) ?_))
            have hone := Lib.hid (gC_one (rotG G L) hG1.gr.l.slice_one hG1.gr.d.slice_one hG1.gr.i.slice_one hG1.gr.t.slice_one)
            go_upto_region 15 with (first | (refine wpList_load_blk rfl 31 _ rfl w3.heap.size (by rfl) (gC (rotG G L) a1 a2 a3 a4) q1 _ Tryd.underlying31 rfl infoG ?_) | (refine wpList_store_blk rfl 31 _ _ rfl w.heap.size (gC (rotG G L) a1 a2 a3 a4) (by rfl) (by rfl) _ kw infoG rfl hone.out ?_))
            have kz := kw.setRow (gC (rotG G L) a1 a2 a3 a4)
            have z5 := kz.cell 5 (v := .int .i64 (rotG G L).mem) rfl
            rw [R2.out] at z5
            have hab : Above w.heap.size wr (((w3.alloc (.cells #[.slice none 0 0, .slice none 0 0, .int .i64 0, .int .u64 0, .int .i64 0, .int .i64 0, .slice none 0 0, .int .u64 0, .int .u64 0, .slice none 0 0, .bool false] 31)).setRow w3.heap.size (gC (rotG G L) a1 a2 a3 a4).toArray).setRow w.heap.size (gC (rotG G L) a1 a2 a3 a4).toArray) :=
              Above.trans (Above.setNew (Above.trans (Above.of_below hB3) hB3.size (Above.alloc _ _ _)) hB3.size _) (by rw [setRow_size]; have := hB3.size; simp; omega) (Above.setRow _ _ _)
            have hGz : GH (((w3.alloc (.cells #[.slice none 0 0, .slice none 0 0, .int .i64 0, .int .u64 0, .int .i64 0, .int .i64 0, .slice none 0 0, .int .u64 0, .int .u64 0, .slice none 0 0, .bool false] 31)).setRow w3.heap.size (gC (rotG G L) a1 a2 a3 a4).toArray).setRow w.heap.size (gC (rotG G L) a1 a2 a3 a4).toArray) (rotG G L) a1 a2 a3 a4 (w.heap.size + 1) :=
              (hG1.lower HA.out.lt).above (Above.trans (Above.setNew (Above.alloc _ _ _) (Nat.le_refl _) _) (by rw [setRow_size]; simp) (Above.setRow _ _ _))
            have hBz := below_setRow (below_setRow ((HA.out.below.trans (hB3.mono HA.out.below.size)).alloc (by have := hB3.size; have := HA.out.below.size; omega) (.cells #[.slice none 0 0, .slice none 0 0, .int .i64 0, .int .u64 0, .int .i64 0, .int .i64 0, .slice none 0 0, .int .u64 0, .int .u64 0, .slice none 0 0, .bool false] 31)) (b := w3.heap.size) (by have := hB3.size; have := HA.out.below.size; omega) (gC (rotG G L) a1 a2 a3 a4).toArray) (b := w.heap.size) (Nat.le_refl _) (gC (rotG G L) a1 a2 a3 a4).toArray
            obtain ⟨Wz, hWz⟩ : ∃ Wz, ((w3.alloc (.cells #[.slice none 0 0, .slice none 0 0, .int .i64 0, .int .u64 0, .int .i64 0, .int .i64 0, .slice none 0 0, .int .u64 0, .int .u64 0, .slice none 0 0, .bool false] 31)).setRow w3.heap.size (gC (rotG G L) a1 a2 a3 a4).toArray).setRow w.heap.size (gC (rotG G L) a1 a2 a3 a4).toArray = Wz := ⟨_, rfl⟩
            rw [hWz] at kz z5 hab hGz hBz
            try rw [hWz]
            have hls := HA.out.lists.above HA.out.lhome hab
            have hts := HA.out.tabs.above HA.out.thome hab
            have hsz : w.heap.size < Wz.heap.size := kz.lt
            obtain ⟨nl, hnl⟩ : ∃ nl, (viewG G).mems.length = nl := ⟨_, rfl⟩
            have hnl2 : nl ≤ 1000 := by rw [← hnl]; have := HI.out.imms; simp [viewG]; omega
            have HNL := Lib.hid hnl
            rw [hnl] at hls
            have own1 : (Wz.alloc (.cells #[.int .i64 (gm + 1)] 3)).ownsRow (w.heap.size + 1) 3 1 (.slice (some ⟨Wz.heap.size, 0, none⟩) 1 1) 1 [.int .i64 (gm + 1)] := (Row.of_one (A := fun k => w.heap.size + 1 ≤ k) (Blk.new Wz 3 [.int .i64 (gm + 1)]) hsz).at_base
            have hone5 := Lib.hid (ints_one (viewG G).mems)
            clear hWz hnl y5 y7 y8 x5 x8 k5 k8 k7 kw q0 q1 hone hG1 hB3
            go_wp2_with (at_builtin; refine wpList_append_reads rfl (.tmp 75) (.tmp 76) 33 (by rfl) (w.heap.size + 1) 3 i0 (.int .i64 0) 1 8 Tryd.underlying33 hi hz0 hz1 hz2 rfl (by decide) (.slice (some ⟨Wz.heap.size, 0, none⟩) 1 1) 1 [.int .i64 (gm + 1)] (by rfl) own1 _ nl (ints (viewG G).mems) (by rfl) (hls.alloc _) hone5.out (by unfold maxLen; omega) (by omega) (by simp; omega) ?_; intro v5 w5 hown5 hg5 hat5)
            go_meet
            have hab2 : Above w.heap.size Wz w5 := Above.grown (Above.alloc _ _ _) (by simp) hg5 (fun k hk => by cases hk; exact Nat.le_refl _)
            have hmain := (kz.alloc (.cells #[.int .i64 (gm + 1)] 3)).grown hg5 (by simp [Value.ownBlock]; omega)
            refine ⟨rotG G L, a1, a2, a3, a4, REST.out.1, REST.out.2.1, ⟨hmain, hGz.above hab2, ?_, (Row.of_owns hown5).home, hts.above HA.out.thome hab2, HA.out.thome, ?_, Nat.le_refl _, hmain.lt⟩⟩
            · have h1 := (Row.of_owns hown5).reads
              rw [REST.out.2.2.1, HGM.out, List.length_cons, HNL.out, Nat.add_comm]
              exact h1
            · exact (hBz.alloc (by omega) _).grown hg5 (by simp; omega) (fun k hk => by cases hk; exact Nat.le_of_lt hsz)
            --H}
          · obtain ⟨mt, hmt⟩ : ∃ mt : Meta, mt = ⟨1000 + i, 9, ⟨#[97]⟩, ⟨#[98]⟩⟩ := ⟨_, rfl⟩
            --H{
            obtain ⟨r1, r2, r3⟩ := HI.out.inst mt
            obtain ⟨ai, ci, rfl⟩ := HA.out.gh.gr.i.slice
            obtain ⟨ni, hni⟩ : ∃ ni, G.imms.length = ni := ⟨_, rfl⟩
            have hni2 : ni ≤ 1000 := by rw [← hni]; have := HI.out.imms; omega
            have hin : ∀ W, Above w.heap.size wr W → Calls Tryd.prog 10 #[.agg (gC G sl sd (.slice ai G.imms.length ci) st).toArray, .agg #[.int .u64 (1000 + i), .int .u64 9, .string ⟨#[97]⟩, .string ⟨#[98]⟩]] W fun e w' => ∃ sl' sd' si' st', e = .returned (.agg (gC (instG G mt) sl' sd' si' st').toArray) ∧ GH w' (instG G mt) sl' sd' si' st' W.heap.size ∧ Below W.heap.size W w' := by
              intro W hW
              subst hmt
              exact install_any ((HA.out.gh.above hW).gr) (HI.out.small (by omega)) _
            have HIN := Lib.hid hin
            clear hin
            have HNI := Lib.hid hni
            have HMT := Lib.hid hmt
            have R1 := Lib.hid r1
            have R2 := Lib.hid r2
            have R3 := Lib.hid r3
            clear r1 r2 r3 hmt hni k7
            go_upto_region 19 with (first | (refine wpList_load_blk rfl 31 _ rfl w.heap.size (by rfl) (gC G sl sd (.slice ai G.imms.length ci) st) hk2 _ Tryd.underlying31 rfl infoG ?_) | (go_at_call 9; refine (meta22 _ _).mono ?_; rintro e wm ⟨rfl, hBm⟩; have hk2 := (hk.keep (hBm.block _ hk.lt)).alloc (.cells #[.int .u64 (1000 + i), .int .u64 9, .string ⟨#[97]⟩, .string ⟨#[98]⟩] 37); have s6 := hk2.cell 6 rfl; have hab1 : Above w.heap.size wr (wm.alloc (.cells #[.int .u64 (1000 + i), .int .u64 9, .string ⟨#[97]⟩, .string ⟨#[98]⟩] 37)) := (Above.of_below hBm).trans hBm.size (Above.alloc _ _ _)) | (go_at_call 10; refine (HIN.out _ hab1).mono ?_; rintro e w3 ⟨a1, a2, a3, a4, rfl, hG1, hB3⟩; have hk3 := hk2.keep (hB3.block _ hk2.lt); have hone := Lib.hid (gC_one (instG G mt) hG1.gr.l.slice_one hG1.gr.d.slice_one hG1.gr.i.slice_one hG1.gr.t.slice_one); clear HIN) | (refine wpList_store_blk rfl 31 _ _ rfl w.heap.size (gC (instG G mt) a1 a2 a3 a4) (by rfl) (by rfl) _ hk3 infoG rfl hone.out ?_))
            obtain ⟨lb, lo, lc, hlc, rfl, hl0⟩ : ∃ lb lo lc, (viewG G).mems.length ≤ lc ∧ u5 = .slice (some ⟨lb, lo, none⟩) (viewG G).mems.length lc ∧ 0 < (viewG G).mems.length := by
              rcases HA.out.lists.form with ⟨h0, _⟩ | ⟨lb, lo, lc, e5, hlc, _⟩
              · simp [viewG] at h0
              · exact ⟨lb, lo, lc, hlc, e5, by simp [viewG]⟩
            obtain ⟨Wz, hWz⟩ : ∃ Wz, w3.setRow w.heap.size (gC (instG G mt) a1 a2 a3 a4).toArray = Wz := ⟨_, rfl⟩
            have kz := hk3.setRow (gC (instG G mt) a1 a2 a3 a4)
            have hsz1 := HA.out.lt
            have hsz2 := hBm.size
            have hsz3 : wm.heap.size + 1 ≤ w3.heap.size := by have := hB3.size; simpa using this
            have k11 : Wz.cell? ⟨wm.heap.size, 0, none⟩ = some (.int .u64 (1000 + i)) := by
              rw [← hWz]
              exact (((Blk.new wm 37 [.int .u64 (1000 + i), .int .u64 9, .string ⟨#[97]⟩, .string ⟨#[98]⟩]).keep (hB3.block _ (by simp))).setRow_other (by omega) _).cell 0 rfl
            have hab : Above w.heap.size wr Wz := by
              rw [← hWz]
              exact (hab1.trans (by simp; omega) (Above.of_below hB3)).trans (by omega) (Above.setRow _ _ _)
            have hGz : GH Wz (instG G mt) a1 a2 a3 a4 (w.heap.size + 1) := by
              rw [← hWz]
              exact (hG1.lower (by simp; omega)).above (Above.setRow _ _ _)
            have hBz : Below w.heap.size w Wz := by
              rw [← hWz]
              exact below_setRow ((HA.out.below.trans ((hBm.mono HA.out.below.size).alloc (by have := HA.out.below.size; omega) _)).trans (hB3.mono (by have := HA.out.below.size; simp; omega))) (Nat.le_refl _) _
            rw [hWz] at kz
            try rw [hWz]
            have hls := HA.out.lists.above HA.out.lhome hab
            have hts := HA.out.tabs.above HA.out.thome hab
            have hsz : w.heap.size < Wz.heap.size := kz.lt
            clear hWz hk3 hone hG1 hB3 hBm hk2 s6 hab1 hk x1
            rcases R3.out with ⟨q1, q2⟩ | ⟨q1, q2, q3⟩
            · have hd : (0 < (G.imms.length : Int)) = False := by rw [q1]; simp
              have hd2 : (0 < G.imms.length) = False := by rw [q1]; simp
              clear q1
              have Q2 := Lib.hid q2
              clear q2
              go_wp2_with fail
              go_meet
              refine ⟨instG G mt, a1, a2, a3, a4, R1.out, R2.out, ⟨kz, hGz, ?_, HA.out.lhome, ?_, HA.out.thome, hBz, Nat.le_refl _, hsz⟩⟩
              · rw [Q2.out]; exact hls
              · rw [Q2.out]; exact hts
            · have em : (viewG G).mems.length = G.imms.length + 1 := by simp [viewG]
              have et : (viewG G).tables.length = G.tables.length := by simp [viewG]
              have hnt : G.tables.length ≤ 1000 := by have := HI.out.tables; omega
              obtain ⟨nl, hnl⟩ : ∃ nl, (viewG G).mems.length = nl := ⟨_, rfl⟩
              obtain ⟨nt, hntl⟩ : ∃ nt, (viewG G).tables.length = nt := ⟨_, rfl⟩
              have hnt2 : nt ≤ 1000 := by omega
              rw [hnl] at em hlc hl0 hls
              rw [hntl] at hts
              obtain ⟨k, hk1⟩ : ∃ k, nl = k + 1 := ⟨nl - 1, by omega⟩
              have hk2 : (nl : Int) - 1 = (k : Int) := by omega
              have hk3 : k ≤ lc := by omega
              have hk4 : nl ≤ 1001 := by rw [em]; have := HNI.out; omega
              have HK1 := Lib.hid hk1
              have HNL := Lib.hid hnl
              have HNT := Lib.hid hntl
              have Q2 := Lib.hid q2
              have Q3 := Lib.hid q3
              rw [hnl]
              obtain ⟨j0, hj, hy0, hy1, hy2⟩ := info_parts infoU64
              have own1 : (Wz.alloc (.cells #[.int .u64 (1000 + i)] 23)).ownsRow (w.heap.size + 1) 23 1 (.slice (some ⟨Wz.heap.size, 0, none⟩) 1 1) 1 [.int .u64 (1000 + i)] := (Row.single (A := fun k => w.heap.size + 1 ≤ k) (Blk.new Wz 23 [.int .u64 (1000 + i)]) hsz).at_base
              have hone5 := Lib.hid (u64s_one ((viewG G).tables.map Meta.num))
              clear em et hnt hk1 hnl hntl q2 q3
              go_wp2_with (at_builtin; refine wpList_append_reads rfl (.tmp 97) (.tmp 98) 34 (by rfl) (w.heap.size + 1) 23 j0 (.int .u64 0) 1 8 Tryd.underlying34 hj hy0 hy1 hy2 rfl (by decide) (.slice (some ⟨Wz.heap.size, 0, none⟩) 1 1) 1 [.int .u64 (1000 + i)] (by rfl) own1 _ nt (u64s ((viewG G).tables.map Meta.num)) (by rfl) (hts.alloc _) hone5.out (by unfold maxLen; omega) (by omega) (by simp; omega) ?_; intro v5 w5 hown5 hg5 hat5)
              go_meet
              have hab2 : Above w.heap.size Wz w5 := Above.grown (Above.alloc _ _ _) (by simp) hg5 (fun k hk => by cases hk; exact Nat.le_refl _)
              have hmain := (kz.alloc (.cells #[.int .u64 (1000 + i)] 23)).grown hg5 (by simp [Value.ownBlock]; omega)
              refine ⟨instG G mt, a1, a2, a3, a4, R1.out, R2.out, ⟨hmain, hGz.above hab2, ?_, ?_, ?_, (Row.of_owns hown5).home, ?_, Nat.le_refl _, hmain.lt⟩⟩
              · have h1 := hls.butLast HK1.out
                rw [Q2.out, List.length_dropLast, HNL.out, HK1.out]
                exact h1.above (fun b hb => HA.out.lhome b (by rw [← hb]; rfl)) hab2
              · intro b hb
                exact HA.out.lhome b (by rw [← hb]; rfl)
              · have h1 := (Row.of_owns hown5).reads
                have e1 : (viewG (instG G mt)).tables = mt :: (viewG G).tables := by simp [viewG, Q3.out]
                rw [e1, List.length_cons, HNT.out, Nat.add_comm, List.map_cons, HMT.out]
                exact h1
              · exact (hBz.alloc (by omega) _).grown hg5 (by simp; omega) (fun k hk => by cases hk; exact Nat.le_of_lt hsz)
            --H}
        case rest =>
          obtain ⟨G', sl', sd', si', st', hI', hke, hA'⟩ := hcut
          have hsm := hI'.small (by omega)
          have hV := view_any hA'.gh.gr hsm
          have hkp : ∀ W, Above w.heap.size wc W → Calls Tryd.prog 7 #[.agg (gC G' sl' sd' si' st').toArray] W fun e w' => e = .returned (.int .u64 (keepG G')) ∧ Below W.heap.size W w' := fun W hW => keep_any (hA'.gh.above hW).gr hsm.i
          obtain ⟨nl, hnl⟩ : ∃ nl, (viewG G').mems.length = nl := ⟨_, rfl⟩
          obtain ⟨nt, hnt⟩ : ∃ nt, (viewG G').tables.length = nt := ⟨_, rfl⟩
          have hnl2 : nl ≤ 1000 := by rw [← hnl]; have := hI'.imms; simp [viewG]; omega
          have hnt2 : nt ≤ 1000 := by rw [← hnt]; have := hI'.tables; simp [viewG]; omega
          have hls := hA'.lists
          have hts := hA'.tabs
          rw [hnl] at hls
          rw [hnt] at hts
          obtain ⟨ta, tc, rfl⟩ := hts.slice
          obtain ⟨kk, hkk⟩ : ∃ kk, keepG G' = kk := ⟨_, rfl⟩
          obtain ⟨k0, hk0⟩ : ∃ k0, keepG G = k0 := ⟨_, rfl⟩
          rw [hkk, hk0] at hke
          rw [hkk] at hkp
          rw [hk0]
          have hlt2 : (kk < k0) = False := by simp; omega
          have hk2 := hA'.main
          have HV := Lib.hid hV
          have HKP := Lib.hid hkp
          have HI2 := Lib.hid hI'
          have HA2 := Lib.hid hA'
          have HNL := Lib.hid hnl
          have HNT := Lib.hid hnt
          have HLS := Lib.hid hls
          have HTS := Lib.hid hts
          have HKK := Lib.hid hkk
          clear hV hkp hI' hA' hnl hnt hls hts hkk hsm hke hk k7 x1 hk0
          go_upto_region 23 with (first | (refine wpList_load_blk rfl 31 _ rfl w.heap.size (by rfl) (gC G' sl' sd' si' st') (by assumption) _ Tryd.underlying31 rfl infoG ?_) | (go_at_call 11; refine HV.out.mono ?_; rintro e w3 ⟨vm, vt, rfl, hVO, hB3⟩; clear HV; have hvm := hVO.m; rw [HNL.out] at hvm; have hvt := hVO.t; rw [HNT.out] at hvt; obtain ⟨ma, mc, rfl⟩ := hvm.slice; obtain ⟨va, vc, rfl⟩ := hvt.slice; have q0 := Blk.new w3 41 [.slice none 0 0, .slice none 0 0]; clear hVO) | (refine wpList_store_blk rfl 41 _ _ rfl w3.heap.size (vC (.slice ma nl mc) (.slice va nt vc)) (by rfl) (by rfl) _ q0 infoVw rfl (by intro u hu; simp [vC] at hu; rcases hu with rfl | rfl <;> rfl) ?_))
          obtain ⟨Wq, hWq⟩ : ∃ Wq, (w3.alloc (.cells #[.slice none 0 0, .slice none 0 0] 41)).setRow w3.heap.size (vC (.slice ma nl mc) (.slice va nt vc)).toArray = Wq := ⟨_, rfl⟩
          have q1 := q0.setRow (vC (.slice ma nl mc) (.slice va nt vc))
          have hBq : Below wc.heap.size wc Wq := by rw [← hWq]; exact below_setRow (hB3.alloc hB3.size _) hB3.size _
          have hvm2 := ((hvm.alloc (.cells #[.slice none 0 0, .slice none 0 0] 41)).setRow q0 (by decide) (vC (.slice ma nl mc) (.slice va nt vc)).toArray).reads
          have hvt2 := ((hvt.alloc (.cells #[.slice none 0 0, .slice none 0 0] 41)).setRow q0 (by decide) (vC (.slice ma nl mc) (.slice va nt vc)).toArray).reads
          rw [hWq] at q1 hvm2 hvt2
          try rw [hWq]
          have y0 := q1.cell 0 rfl
          have y1 := q1.cell 1 rfl
          have kq := hk2.keep (hBq.block _ hk2.lt)
          have hin : Calls Tryd.prog 12 #[.slice ma nl mc, u5] Wq fun e w' => e = .returned (.bool true) ∧ Quiet Wq w' := (lowInts Wq _ _ nl nl _ _ hvm2 (HLS.out.below hBq) (by omega)).mono (by rintro e w' ⟨rfl, hq⟩; exact ⟨by simp, hq⟩)
          have HIN := Lib.hid hin
          have HVT := Lib.hid hvt2
          clear hWq hin hvm2 hvt2 hvm hvt q0 hB3 hk2
          go_upto_region 25 with (first | (go_at_call 12; refine HIN.out.mono ?_; rintro e w4 ⟨rfl, ⟨nq, rfl⟩⟩; clear HIN; have z0 := kq.cell 0 rfl; have z1 := kq.cell 1 rfl; have z2 := kq.cell 2 rfl; have z3 := kq.cell 3 rfl; have z4 := kq.cell 4 rfl; have z5 := kq.cell 5 rfl; have z6 := kq.cell 6 rfl; have z7 := kq.cell 7 rfl; have z8 := kq.cell 8 rfl; have z9 := kq.cell 9 rfl; have z10 := kq.cell 10 rfl) | (go_at_call 7; refine (HKP.out (Wq.drewN nq) (fun k _ h2 => hBq.block k h2)).mono ?_; rintro e w5 ⟨rfl, hB5⟩; clear z0 z1 z2 z3 z4 z5 z6 z7 z8 z9 z10))
          have hB6 : Below wc.heap.size wc w5 := (hBq.trans (Quiet.below ⟨⟨nq, rfl⟩⟩ _)).trans (hB5.mono (show wc.heap.size ≤ (Wq.drewN nq).heap.size from hBq.size))
          have q5 : Blk w5 w3.heap.size 41 (vC (.slice ma nl mc) (.slice va nt vc)) := q1.keep (hB5.block _ q1.lt)
          have t1 := HTS.out.below hB6
          have t2 := (HVT.out.drewN nq).below hB5
          have v1 := q5.cell 1 rfl
          have k5 := HA2.out.main.keep (hB6.block _ HA2.out.lt)
          have T1 := Lib.hid t1
          have T2 := Lib.hid t2
          have HB6 := Lib.hid hB6
          clear t1 t2 hB5 hB6 q1 hBq y0 y1 kq q5
          go_wp2_with fail
          go_loop [123] (fun s => ∃ k : Nat, k ≤ nt ∧ s = .int .i64 k) (fun s => nt - (intOf s).toNat)
          case atStart => exact ⟨0, Nat.zero_le _, rfl⟩
          case round =>
            obtain ⟨k, hk, rfl⟩ := hrel
            by_cases hkt : k < nt
            · obtain ⟨N, hN⟩ : ∃ N, (viewG G').tables[k]? = some N := ⟨_, List.getElem?_eq_getElem (by rw [HNT.out]; omega)⟩
              rcases T1.out.form with ⟨h0, _⟩ | ⟨tb, to_, tc', e1, hc1, hr1⟩
              · omega
              rcases T2.out.form with ⟨h0, _⟩ | ⟨vb, vo, vc', e2, hc2, hr2⟩
              · omega
              cases e1
              cases e2
              have x1 := hr1 k (.int .u64 N.num) (by simp [u64s, hN])
              have x2 := hr2 (k * 4) (.int .u64 N.num) (mts_num hN)
              obtain ⟨nm, hnm⟩ : ∃ nm, N.num = nm := ⟨_, rfl⟩
              rw [hnm] at x1 x2
              clear hr1 hr2 hnm hN
              go_wp2_with fail
              go_round
              case rel => exact ⟨k + 1, by omega, by go_num⟩
              case measure => simp [intOf]; omega
            · obtain rfl : k = nt := by omega
              go_wp2_with (first | (refine wpList_load_blk rfl 31 _ rfl w.heap.size (by rfl) (gC G' sl' sd' si' st') k5 _ Tryd.underlying31 rfl infoG ?_) | (go_at_call 7; refine (HKP.out w5 (Above.of_below HB6.out)).mono ?_; rintro e w6 ⟨rfl, hB7⟩))
              go_roundw
              case rel => exact ⟨i + 1, G', sl', sd', si', st', by omega, by go_num, by rw [HKK.out], HI2.out, (HA2.out.on HB6.out).on hB7⟩
              case measure => simp [intOf]; omega
    · obtain rfl : i = m := by omega
      have hsm := hI.small (by omega)
      --H{
      have hf1 := fail_any hA.gh.gr hsm 12
      have e1 : failG G 12 = { G with bad := 12 } := by simp [failG, hI.bad]
      rw [e1] at hf1
      have e2 : failG { G with bad := 12 } 13 = { G with bad := 12 } := by simp [failG]
      have hsm2 : ({ G with bad := 12 } : Gd).Small 1000000 := ⟨hsm.l, hsm.d, hsm.i, hsm.t⟩
      have HF1 := Lib.hid hf1
      have HSM := Lib.hid hsm2
      have HE := Lib.hid e2
      have hbad := hI.bad
      have HA := Lib.hid hA
      have hk := hA.main
      clear hf1 e1 e2 hsm hsm2 hI hA
      go_wp2_with (first | (refine wpList_load_blk rfl 31 _ rfl w.heap.size (by rfl) (gC G sl sd si st) hk _ Tryd.underlying31 rfl infoG ?_) | (go_at_call 13; refine HF1.out.mono ?_; rintro e w3 ⟨a1, a2, a3, a4, rfl, hG1, hB3⟩; have hf2 := fail_any hG1.gr HSM.out 13; rw [HE.out] at hf2; have HF2 := Lib.hid hf2; clear hf2 HF1) | (go_at_call 13; refine HF2.out.mono ?_; rintro e w4 ⟨b1, b2, b3, b4, rfl, hG2, hB4⟩; clear HF2; have q0 := Blk.new w4 31 [.slice none 0 0, .slice none 0 0, .int .i64 0, .int .u64 0, .int .i64 0, .int .i64 0, .slice none 0 0, .int .u64 0, .int .u64 0, .slice none 0 0, .bool false]; have q1 := q0.setRow (gC { G with bad := 12 } b1 b2 b3 b4); have y4 := q1.cell 4 rfl; have k4 := (((hk.keep (hB3.block _ hk.lt)).keep (hB4.block _ (by have := hB3.size; have := hk.lt; omega))).alloc (.cells #[.slice none 0 0, .slice none 0 0, .int .i64 0, .int .u64 0, .int .i64 0, .int .i64 0, .slice none 0 0, .int .u64 0, .int .u64 0, .slice none 0 0, .bool false] 31)).setRow_other (b' := w4.heap.size) (by have := hB3.size; have := hB4.size; have := hk.lt; omega) (gC { G with bad := 12 } b1 b2 b3 b4).toArray; have x4 := k4.cell 4 rfl; rw [hbad] at x4) | (refine wpList_store_blk rfl 31 _ _ rfl w4.heap.size (gC { G with bad := 12 } b1 b2 b3 b4) (by rfl) (by rfl) _ q0 infoG rfl (gC_one _ hG2.gr.l.slice_one hG2.gr.d.slice_one hG2.gr.i.slice_one hG2.gr.t.slice_one) ?_) | (go_at_call 14; refine (haw _ (HTab.out.below (below_setRow (((HA.out.below.trans (hB3.mono HA.out.below.size)).trans (hB4.mono (by have := HA.out.below.size; have := hB3.size; omega))).alloc (by have := HA.out.below.size; have := hB3.size; have := hB4.size; omega) _) (b := w4.heap.size) (by have := HA.out.below.size; have := hB3.size; have := hB4.size; omega) _) HTab.out.lt)).mono ?_; rintro e w5 ⟨rfl, hB5⟩))
      go_ret
      have s1 := HA.out.below.size
      have s3 := hB3.size
      have s4 := hB4.size
      refine ⟨rfl, (below_setRow (((HA.out.below.trans (hB3.mono s1)).trans (hB4.mono (by omega))).alloc (by omega) _) (b := w4.heap.size) (by omega) _).trans (hB5.mono ?_)⟩
      rw [setRow_size]; simp; omega
      --H}
end Go.Proofs.YteiaifhnikknbaaDoor
