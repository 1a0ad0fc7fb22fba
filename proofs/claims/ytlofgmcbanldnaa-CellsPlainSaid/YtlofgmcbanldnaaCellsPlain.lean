/- The walk over law 13's CellsPlain. -/
import Derived.Test.YtlofgmcbanldnaaInv13p
import Derived.Test.YtlofgmcbanldnaaOpen13
namespace Go.Proofs.Ytlofgmcbanldnaa
open Go.RowKit

theorem infoStr : (Try.prog.info? 9).map (fun i => (i.zero, i.size, i.bytes)) = some (some (.string ⟨#[]⟩), 1, 16) := by kernel_rfl

set_option maxRecDepth 100000 in
set_option maxHeartbeats 8000000 in
theorem cellsPlain (w : World) (many : Int) (hu0 : 0 ≤ many) (hu1 : many ≤ 255) (ao : Option Addr) (cap : Nat) (l : List (Value × List UInt8)) (hcap : l.length ≤ cap) (hl : ArgRow w 1 (.slice ao l.length cap) (fun x : Value × List UInt8 => [x.1]) (fun x => BytesArg w x.1 x.2) l) :
    Calls Try.prog 3 #[.int .u8 many, .slice ao l.length cap] w fun e w' => e = .returned (.bool true) ∧ Below w.heap.size w w' := by
  obtain ⟨m, hm', hm1, hm2, -⟩ := cut_min 40 l.length
  have hm : (if (40 : Int) < (l.length : Int) then (40 : Int) else (l.length : Int)) = (m : Int) := hm'
  clear hm'
  have hm3 : m ≤ cap := by omega
  obtain ⟨i0, hi, hz0, hz1, hz2⟩ := info_parts infoU8
  go_enter Try.func3, Try.ntmps3
  go_wp2_with fail
  obtain ⟨n, hn⟩ : ∃ n : Nat, 1 + many % 8 = (n : Int) := ⟨(1 + many % 8).toNat, by omega⟩
  rw [hn]
  have n1 : 1 ≤ n := by omega
  have n2 : n ≤ 8 := by omega
  clear hn hu0 hu1
  refine (made13_ok _ 0 n (by decide) (by omega)).mono ?_
  rintro e w1 ⟨c, rfl, hC, hB1⟩
  have hmk := fun W => run_make (P := Try.prog) 26 9 (.string ⟨#[]⟩) 16 Try.underlying26 infoStr rfl (by decide) n (by omega) W
  go_wp2_with fail
  have hI0 : PInv (fun k => w.heap.size ≤ k ∧ k ≠ w1.heap.size) w (w1.alloc (.cells (Array.replicate n (.string ⟨#[]⟩)) 9)) c w1.heap.size (List.replicate n []) (List.replicate n []) 0 :=
    ⟨⟨_, (hC.sans (Nat.le_refl _)).alloc _, by simp [Mem.new], rfl, rfl⟩, by have := Blk.new w1 9 (strs (List.replicate n [])); simpa [strs] using this,
     ⟨fun k hk => by have := hB1.size; simp at hk; omega⟩, hB1.alloc hB1.size _, fun k hk => hk.1, fun h => h.2 rfl, hB1.size, by intro b hb; rw [List.mem_replicate] at hb; rw [hb.2]; simp⟩
  have hgb := hI0.gb
  obtain ⟨A, hA⟩ : ∃ A, A = (fun k => w.heap.size ≤ k ∧ k ≠ w1.heap.size) := ⟨_, rfl⟩
  rw [← hA] at hI0
  have hng := hI0.ng
  have hbase := hI0.base
  obtain ⟨g, hg⟩ : ∃ g, w1.heap.size = g := ⟨_, rfl⟩
  rw [hg] at hI0 hng hgb
  rw [hg]
  clear hA hmk hC hB1 hm hg
  go_loopw [40] (fun i wr => ∃ k : Nat, k ≤ m ∧ i = .int .i64 k ∧ ∃ (Z : List (List UInt8)) (nt : Nat), Z.length = n ∧ nt ≤ k * 10 ∧ PInv A w wr c g Z Z nt) (fun i _ => m - (intOf i).toNat)
  case atStart => exact ⟨0, by omega, rfl, _, 0, by simp, by omega, hI0⟩
  case round =>
    clear hI0
    obtain ⟨k, hk, rfl, Z, nt, hZ, hnt, hI⟩ := hrel
    by_cases hlt : k < m
    · have hkl : k < l.length := by omega
      obtain ⟨b, off, rfl, hx⟩ := hl.cell hI.below (by decide) k hkl
      have hgood := hl.good l[k] (List.getElem_mem _)
      obtain ⟨o, ho⟩ : ∃ o, o = l[k] := ⟨_, rfl⟩
      rw [← ho] at hx hgood
      obtain ⟨vb, bs⟩ := o
      have x0 := hx 0 _ rfl
      dsimp only at x0 hgood
      simp only [Nat.mul_one, Nat.add_zero] at x0
      obtain ⟨bo, bc, hbv⟩ := hgood.reads.slice
      have hRb := hgood.reads
      rw [hbv] at x0 hRb
      clear hx hgood ho hbv
      obtain ⟨bl, hbl⟩ : ∃ bl, bs.length = bl := ⟨_, rfl⟩
      rw [hbl] at x0 hRb
      by_cases h50 : 50 < bl
      · clear hbl
        go_wp2_with fail
        go_roundw
        case rel => exact ⟨k + 1, by omega, by go_num, Z, nt, hZ, by omega, hI⟩
        case measure => simp [intOf]; omega
      · have HBL := Lib.hid hbl
        clear hbl
        obtain ⟨a, ha⟩ : ∃ a, (k * 3) % n = a := ⟨_, rfl⟩
        have han : a < n := by rw [← ha]; exact Nat.mod_lt _ n1
        have hmod : ((k : Int) * 3) % (n : Int) = (a : Int) := by rw [← ha]; simp
        have own0 : (wr.alloc (.cells #[] 5)).ownsRow wr.heap.size 5 1 (.slice (some ⟨wr.heap.size, 0, none⟩) 0 0) 0 [] := World.ownsRow_made wr #[] 0 (Nat.le_refl _) (by unfold maxLen; omega) (by simp)
        have hRw := (hRb.below hI.below).alloc (.cells #[] 5)
        have hk40 : k < 40 := by omega
        clear ha hm1 hm2 hm3 hcap hl
        go_wp2_with (at_builtin; refine wpList_append_reads rfl (.tmp 48) (.tmp 49) 27 (by rfl) wr.heap.size 5 i0 (.int .u8 0) 1 1 Try.underlying27 hi hz0 hz1 hz2 rfl (by decide) (.slice (some ⟨wr.heap.size, 0, none⟩) 0 0) 0 [] (by rfl) own0 _ bl (u8s bs) (by rfl) hRw (u8s_one bs) (by unfold maxLen; omega) (by omega) (by simp) ?_; intro v2 w2 hown2 hg2 hat2; simp only [Nat.zero_add, List.nil_append] at hown2; have hb2 : Below wr.heap.size wr w2 := ((Below.refl _ wr).alloc (Nat.le_refl _) _).grown hg2 (by simp) (fun k h => by simp [Value.ownBlock] at h; omega); clear hg2 hat2 own0)
        have hr2 : Row w2 5 1 v2 bl (u8s bs) (fun k => wr.heap.size ≤ k) := ⟨⟨hown2.1, hown2.2.imp id fun ⟨g, cap, cur, h1, _, h2⟩ => ⟨g, cap, cur, h1, Nat.zero_le _, h2⟩⟩, fun k hk => (hown2.lt k hk).1⟩
        have hI2 := hI.aside hb2 v2 (fun k hk => ⟨hr2.home k hk, hr2.lt hk⟩)
        have hgl := hI.row.lt
        obtain ⟨A2, hA2⟩ : ∃ A2, (fun k => A k ∧ v2.ownBlock ≠ some k) = A2 := ⟨_, rfl⟩
        rw [hA2] at hI2
        have hsub2 : ∀ k, A2 k → A k := by rw [← hA2]; exact fun k hk => hk.1
        have hnot2 : ∀ k, v2.ownBlock = some k → ¬ A2 k := by rw [← hA2]; exact fun k hk hA => hA.2 hk
        obtain ⟨ao2, cp2, rfl⟩ := hr2.slice
        clear hown2 hA2 hI
        refine (pinv_write hI2 (by unfold trMax; omega) k a (by omega) (by omega) (by omega) _ bs bl HBL.out (by omega) hr2.reads hnot2).mono ?_
        rintro e w3 ⟨rfl, hI3, hO3⟩
        have hr3 := hr2.keep (fun k hk => hO3.block k (hr2.lt hk) (hnot2 k hk))
        have hcv := conv_bytes (P := Try.prog) (w := w3) (b := bs) 27 9 5 Try.underlying27 Try.underlying5 Try.underlying9 (by rw [HBL.out]; exact hRb.below hI3.below)
        obtain ⟨hgc, hgf⟩ := hI3.cell a (by omega)
        have hI4 := hI3.set a bs
        have hr4 := hr3.setCell (a := ⟨g, a, none⟩) (fun e => by have := hr3.home g e; omega) (.string ⟨bs.toArray⟩)
        obtain ⟨Z', hZ'⟩ : ∃ Z', Z.set a bs = Z' := ⟨_, rfl⟩
        rw [hZ'] at hI4
        have hZl : Z'.length = n := by rw [← hZ', List.length_set]; exact hZ
        have hbl50 : bl ≤ 50 := by omega
        have hng2 : ¬ A2 g := fun h => hng (hsub2 g h)
        have hbase2 : ∀ k, A2 k → w.heap.size ≤ k := fun k h => hbase k (hsub2 k h)
        clear hI2 hO3 hr2 hr3 hI3 hRb hRw hb2 hZ' hZ
        go_wp2_with fail
        clear hcv hgc hgf
        go_loopw [68] (fun i wx => ∃ (j : Nat) (xs : List Value), j ≤ bl ∧ i = .int .i64 j ∧ AllU8 xs ∧ Row wx 5 1 (.slice ao2 bl cp2) bl xs (fun k => wr.heap.size ≤ k) ∧ PInv A2 w wx c g Z' Z' (nt + 1)) (fun i _ => bl - (intOf i).toNat)
        case atStart => exact ⟨0, _, Nat.zero_le _, rfl, allU8 bs, hr4, hI4⟩
        case round =>
          clear hr4 hI4
          obtain ⟨j, xs, hj, rfl, hxs, hr, hI⟩ := hrel
          by_cases hjl : j < bl
          · obtain ⟨g1, x, rfl, c1, f1, x0, x1, hg1⟩ := hr.u8At hxs j hjl
            have hr5 := hr.put rfl j hjl (.int .u8 ((x + 1) % 256))
            have hI5 := hI.poke (a := ⟨g1, j, none⟩) (hnot2 g1 rfl) (fun e => by have e' : g1 = g := e; omega) (by show w.heap.size ≤ g1; omega) (.int .u8 ((x + 1) % 256))
            have hxs5 := hxs.set j ((x + 1) % 256) (by omega) (by omega)
            clear hr hI hxs
            go_wp2_with fail
            go_roundw
            case rel => exact ⟨j + 1, _, by omega, by go_num, hxs5, hr5, hI5⟩
            case measure => simp [intOf]; omega
          · clear hr hxs
            go_wp2_with fail
            clear hjl hj
            go_loopw [80] (fun i wx => ∃ j : Nat, j ≤ n ∧ i = .int .i64 j ∧ PInv A2 w wx c g Z' Z' (nt + 1 + j)) (fun i _ => n - (intOf i).toNat)
            case atStart => exact ⟨0, Nat.zero_le _, rfl, hI⟩
            case round =>
              clear hI
              obtain ⟨j, hj, rfl, hI⟩ := hrel
              by_cases hjn : j < n
              · obtain ⟨hgc, -⟩ := hI.cell j (by omega)
                obtain ⟨X, hX⟩ : ∃ X, Z'.getD j [] = X := ⟨_, rfl⟩
                rw [hX] at hgc
                have hXl : X.length ≤ 50 := by rw [← hX, List.getD_eq_getElem?_getD, List.getElem?_eq_getElem (by omega)]; exact hI.short _ (List.getElem_mem _)
                have HX := Lib.hid hX
                clear hX
                have hgx := hI.row.lt
                have hwx := hI.below.size
                go_wp2_with fail
                refine (pinv_read hI (by unfold trMax; omega) (63 - k) j (by omega) (by omega) (by omega)).mono ?_
                rw [HX.out]
                rintro e w5 ⟨v5, rfl, hr5, ⟨A5, hI5, hnot5, hsub5⟩, -⟩
                have hcv := conv_bytes (P := Try.prog) (w := w5) (b := X) 27 9 5 Try.underlying27 Try.underlying5 Try.underlying9 hr5.reads
                obtain ⟨ao5, cp5, rfl⟩ := hr5.slice
                obtain ⟨xl, hxl⟩ : ∃ xl, X.length = xl := ⟨_, rfl⟩
                rw [hxl] at hr5 hcv hXl
                clear hI hgc
                rw [hxl]
                go_wp2_with fail
                have hXA := allU8 X
                have hg5 := hI5.row.lt
                clear hcv
                go_loopw [103] (fun i wy => ∃ (q : Nat) (xs : List Value), q ≤ xl ∧ i = .int .i64 q ∧ AllU8 xs ∧ Row wy 5 1 (.slice ao5 xl cp5) xl xs (fun k => wr.heap.size ≤ k) ∧ PInv A5 w wy c g Z' Z' (nt + 1 + j + 1)) (fun i _ => xl - (intOf i).toNat)
                case atStart => exact ⟨0, _, Nat.zero_le _, rfl, hXA, hr5, hI5⟩
                case round =>
                  clear hr5 hI5 hXA
                  obtain ⟨q, xs, hq, rfl, hxs, hr, hI⟩ := hrel
                  by_cases hql : q < xl
                  · obtain ⟨g1, x, rfl, c1, f1, x0, x1, hg1⟩ := hr.u8At hxs q hql
                    have hr6 := hr.put rfl q hql (.int .u8 ((x + 1) % 256))
                    have hI6 := hI.poke (a := ⟨g1, q, none⟩) (hnot5 g1 rfl) (fun e => by have e' : g1 = g := e; omega) (by show w.heap.size ≤ g1; omega) (.int .u8 ((x + 1) % 256))
                    have hxs6 := hxs.set q ((x + 1) % 256) (by omega) (by omega)
                    clear hr hI hxs
                    go_wp2_with fail
                    go_roundw
                    case rel => exact ⟨q + 1, _, by omega, by go_num, hxs6, hr6, hI6⟩
                    case measure => simp [intOf]; omega
                  · have hI7 := hI.mono hsub5 hng2 hbase2
                    clear hr hxs hI
                    go_wp2_with fail
                    go_roundw
                    case rel => exact ⟨j + 1, by omega, by go_num, by rw [show nt + 1 + (j + 1) = nt + 1 + j + 1 by omega]; exact hI7⟩
                    case measure => simp [intOf]; omega
              · have hI8 := hI.mono hsub2 hng hbase
                clear hI
                go_wp2_with fail
                go_roundw
                case rel => exact ⟨k + 1, by omega, by go_num, Z', nt + 1 + j, hZl, by omega, hI8⟩
                case measure => simp [intOf]; omega
    · have hB := hI.below
      clear hl
      go_wp2_with fail
      refine (pinv_load hI).mono ?_
      rintro e w' ⟨rfl, rfl⟩
      go_wp2_with (go_at_call 12; refine (awake13 _).mono ?_; rintro e w5 ⟨rfl, hb5⟩)
      go_ret
      exact ⟨rfl, hB.trans (hb5.mono hB.size)⟩
end Go.Proofs.Ytlofgmcbanldnaa
