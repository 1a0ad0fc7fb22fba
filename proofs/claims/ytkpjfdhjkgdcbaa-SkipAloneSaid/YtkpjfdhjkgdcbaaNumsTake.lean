/- nums.Take of what nums.Put laid. -/
import Derived.Test.YtkpjfdhjkgdcbaaIkPut
import Derived.Deep.CutBlock

namespace Go.Proofs.Ytkpjfdhjkgdcbaa
open Go.RowKit

theorem vput_last (n : Nat) : ∀ x : Nat, x < 128 ^ (n + 1) → 128 ^ n ≤ x ∨ n = 0 → (vput x).length = n + 1 := by
  induction n with
  | zero => intro x h _; rw [vput_small (by simpa using h)]; rfl
  | succ n ih =>
    intro x h h1
    have hge : 128 ^ (n + 1) ≤ x := by rcases h1 with h1 | h1; · exact h1
                                       · omega
    have hx : ¬ x < 128 := by
      have : 128 ^ 1 ≤ 128 ^ (n + 1) := Nat.pow_le_pow_right (by decide) (by omega)
      omega
    rw [vput_big hx, List.length_cons, ih (x / 128) (by rw [Nat.pow_succ] at h; exact Nat.div_lt_of_lt_mul (by rw [Nat.mul_comm]; exact h)) (.inl ((Nat.le_div_iff_mul_le (by decide)).2 (by rw [← Nat.pow_succ]; exact hge)))]
/-- The digits. -/
theorem vput_at : ∀ (L x : Nat), (vput x).length = L → ∀ k, k < L → ∃ c, (vput x)[k]? = some c ∧ c.toNat % 128 = x / 128 ^ k % 128 ∧ (k + 1 < L → 128 ≤ c.toNat) ∧ (k + 1 = L → c.toNat < 128 ∧ c.toNat = x / 128 ^ k) := by
  intro L
  induction L with
  | zero => intro x _ k hk; omega
  | succ L ih =>
    intro x hL k hk
    by_cases hx : x < 128
    · rw [vput_small hx] at hL ⊢
      simp at hL
      obtain rfl : k = 0 := by omega
      refine ⟨UInt8.ofNat x, rfl, ?_, by omega, fun _ => ?_⟩
      · rw [UInt8.toNat_ofNat']; simp
        try omega
      · rw [UInt8.toNat_ofNat']; simp
        try omega
    · rw [vput_big hx] at hL ⊢
      simp only [List.length_cons, Nat.add_right_cancel_iff] at hL
      cases k with
      | zero =>
        have hp := vput_pos (x / 128)
        refine ⟨_, rfl, ?_, fun _ => ?_, fun h => by omega⟩
        · rw [UInt8.toNat_ofNat']; simp
          try omega
        · rw [UInt8.toNat_ofNat']; omega
      | succ k =>
        obtain ⟨c, h1, h2, h3, h4⟩ := ih (x / 128) hL k (by omega)
        have e : x / 128 ^ (k + 1) = x / 128 / 128 ^ k := by rw [Nat.pow_succ, Nat.mul_comm, Nat.div_div_eq_div_mul]
        exact ⟨c, by simpa using h1, by rw [e]; exact h2, fun h => h3 (by omega), fun h => by rw [e]; exact h4 (by omega)⟩
theorem vput_bound : ∀ (L x : Nat), (vput x).length = L → x < 128 ^ L ∧ (1 < L → 128 ^ (L - 1) ≤ x) := by
  intro L
  induction L with
  | zero => intro x h; have := vput_pos x; omega
  | succ L ih =>
    intro x hL
    by_cases hx : x < 128
    · rw [vput_small hx] at hL
      simp at hL
      subst hL
      exact ⟨by simpa using hx, by omega⟩
    · rw [vput_big hx] at hL
      simp only [List.length_cons, Nat.add_right_cancel_iff] at hL
      have hp := vput_pos (x / 128)
      obtain ⟨h1, h2⟩ := ih (x / 128) hL
      refine ⟨?_, fun _ => ?_⟩
      · rw [Nat.pow_succ]
        have := Nat.div_lt_iff_lt_mul (x := x) (y := 128 ^ L) (k := 128) (by decide)
        omega
      · rw [Nat.add_sub_cancel]
        by_cases h : 1 < L
        · have h3 := h2 h
          have : 128 ^ (L - 1) * 128 ≤ x := (Nat.le_div_iff_mul_le (by decide)).1 h3
          rw [← Nat.pow_succ, show (L - 1).succ = L by omega] at this
          exact this
        · obtain rfl : L = 1 := by omega
          simpa using hx

set_option maxHeartbeats 400000 in
theorem take1_any (w : World) (c : Int) : Calls Try.prog 79 #[.int .u8 c] w fun e w' => e = .returned (.bool (decide (c < 128))) ∧ w = w' := by
  go_enter Try.func79, Try.ntmps79
  go_wp2
  go_ret
  exact ⟨rfl, rfl⟩
set_option maxRecDepth 100000 in
set_option maxHeartbeats 1000000 in
theorem index_nil (w : World) (ao : Option Addr) (cap : Nat) : Calls Try.prog 78 #[.slice ao 0 cap, .func (.func 79) #[] #[]] w fun e w' => e = .returned (.int .i64 (-1)) ∧ w = w' := by
  go_enter Try.func78, Try.ntmps78
  go_wp2
  go_loopw [8] (fun i wr => i = .int .i64 0 ∧ w = wr) (fun _ _ => 0)
  case atStart => exact ⟨rfl, rfl⟩
  case round =>
    obtain ⟨rfl, rfl⟩ := hrel
    go_wp2
    go_ret
    exact ⟨rfl, rfl⟩
set_option maxRecDepth 100000 in
set_option maxHeartbeats 1000000 in
theorem index_any (w : World) (b off cap n : Nat) (hn : n ≤ 4000000000) (bs : List UInt8) (pos : Nat) (hp : pos < n) (hl : bs.length = n) (hc : ∀ j u, (u8s bs)[j]? = some u → w.cell? ⟨b, off + j, none⟩ = some u)
    (h1 : ∀ j c, j < pos → bs[j]? = some c → 128 ≤ c.toNat) (h2 : ∀ c, bs[pos]? = some c → c.toNat < 128) :
    Calls Try.prog 78 #[.slice (some ⟨b, off, none⟩) n cap, .func (.func 79) #[] #[]] w fun e w' => e = .returned (.int .i64 pos) ∧ w = w' := by
  have HC := Lib.hid hc
  have H1 := Lib.hid h1
  have H2 := Lib.hid h2
  have HL := Lib.hid hl
  clear hc h1 h2 hl
  go_enter Try.func78, Try.ntmps78
  go_wp2
  go_loopw [8] (fun i wr => ∃ k : Nat, k ≤ pos ∧ i = .int .i64 k ∧ w = wr) (fun i _ => pos + 1 - (intOf i).toNat)
  case atStart => exact ⟨0, by omega, rfl, rfl⟩
  case round =>
    obtain ⟨k, hk, rfl, rfl⟩ := hrel
    have hkl : k < bs.length := by rw [HL.out]; omega
    have hx := HC.out k (.int .u8 (bs[k].toNat : Int)) (by simp [u8s, hkl])
    obtain ⟨c, hcc⟩ : ∃ c : Nat, bs[k].toNat = c := ⟨_, rfl⟩
    rw [hcc] at hx
    have hkn : k < n := by omega
    by_cases hkp : k = pos
    · have h3 := H2.out bs[k] (by rw [← hkp]; exact List.getElem?_eq_getElem hkl)
      rw [hcc] at h3
      have h4 : decide ((c : Int) < 128) = true := decide_eq_true (by omega)
      have ht := take1_any w c
      rw [h4] at ht
      have HT := Lib.hid ht
      have HK := Lib.hid hkp
      clear hcc h3 h4 ht hkp
      go_wp2_with (go_at_call 79; refine HT.out.mono ?_; rintro e w' ⟨rfl, rfl⟩)
      go_ret
      exact ⟨by rw [← HK.out]; rfl, rfl⟩
    · have h3 := H1.out k bs[k] (by omega) (List.getElem?_eq_getElem hkl)
      rw [hcc] at h3
      have h4 : decide ((c : Int) < 128) = false := decide_eq_false (by omega)
      have ht := take1_any w c
      rw [h4] at ht
      have HT := Lib.hid ht
      clear hcc h3 h4 ht
      go_wp2_with (go_at_call 79; refine HT.out.mono ?_; rintro e w' ⟨rfl, rfl⟩)
      go_roundw
      case rel => exact ⟨k + 1, by omega, by go_num, by trivial⟩
      case measure => simp [intOf]; omega
set_option maxRecDepth 100000 in
set_option maxHeartbeats 1000000 in
theorem take_nil (w : World) (ao : Option Addr) (cap : Nat) : Calls Try.prog 64 #[.slice ao 0 cap] w fun e w' => e = .returned (.tuple #[.int .u64 0, .slice none 0 0, .bool false]) ∧ w = w' := by
  go_enter Try.func64, Try.ntmps64
  go_wp2_with (go_at_call 78; refine (index_nil _ _ _).mono ?_; rintro e w' ⟨rfl, rfl⟩)
  go_ret3
  exact ⟨rfl, rfl⟩

theorem and127 (c : Nat) (h : c < 256) : bits BinOp.and IntKind.u8 (c : Int) 127 = ((c % 128 : Nat) : Int) := by
  have h2 : ∀ b : Fin 256, bits BinOp.and IntKind.u8 ((b.val : Nat) : Int) 127 = ((b.val % 128 : Nat) : Int) := by decide +kernel
  exact h2 ⟨c, h⟩
theorem take_step (x k d : Nat) (hx : x < 18446744073709551616) (hk : k ≤ 9) (hd : d = x / 128 ^ k % 128) : bits BinOp.or IntKind.u64 ((x % 128 ^ k : Nat) : Int) (IntKind.u64.wrap ((d : Int) * 2 ^ (7 * k))) = ((x % 128 ^ (k + 1) : Nat) : Int) := by
  have e : (2 : Nat) ^ (7 * k) = 128 ^ k := by rw [Nat.pow_mul]
  have h1 : d * 128 ^ k ≤ x := by
    rw [hd]
    exact Nat.le_trans (Nat.mul_le_mul_right _ (Nat.mod_le _ _)) (Nat.div_mul_le_self _ _)
  have hp : 0 < 128 ^ k := Nat.pos_of_ne_zero (by simp)
  have ei : ((d : Int) * 2 ^ (7 * k)) = ((d * 128 ^ k : Nat) : Int) := by
    rw [← e]; push_cast; rfl
  rw [ei, wraps_u64 _ (by omega) (by omega)]
  have hlow : x % 128 ^ k < 128 ^ k := Nat.mod_lt _ hp
  have hle : x % 128 ^ k ≤ x := Nat.mod_le _ _
  rw [bits_join_low .u64 64 (by decide) (fun n h0 h1 => wraps_u64 n h0 h1) (7 * k) _ _ (by omega) (by rw [show (2 : Int) ^ (7 * k) = ((128 ^ k : Nat) : Int) by rw [← e]; push_cast; rfl]; omega) (by omega) (by omega) (by rw [show (2 : Int) ^ (7 * k) = ((128 ^ k : Nat) : Int) by rw [← e]; push_cast; rfl, ← Int.natCast_emod, Nat.mul_mod_left]; rfl) (by omega)]
  rw [Nat.mod_pow_succ, ← hd, Nat.mul_comm (128 ^ k) d]
  push_cast
  rfl
/-- What Take answers. -/
def TakeP (x : Nat) (rest : List UInt8) (w : World) (e : Ending) (w' : World) : Prop :=
  ∃ v, e = .returned (.tuple #[.int .u64 (x : Int), v, .bool true]) ∧ Row w' 5 1 v rest.length (u8s rest) (fun k => w.heap.size ≤ k) ∧ Below w.heap.size w w'
set_option maxRecDepth 100000 in
set_option maxHeartbeats 2000000 in
theorem take_any (w : World) (b off cap n : Nat) (hn : n ≤ 1000) (hcap : n ≤ cap) (x : Nat) (hx : x < 18446744073709551616) (rest : List UInt8) (hl : (vput x ++ rest).length = n) (hc : ∀ j u, (u8s (vput x ++ rest))[j]? = some u → w.cell? ⟨b, off + j, none⟩ = some u) :
    Calls Try.prog 64 #[.slice (some ⟨b, off, none⟩) n cap] w (TakeP x rest w) := by
  obtain ⟨pos, hpos⟩ : ∃ pos, (vput x).length = pos + 1 := ⟨(vput x).length - 1, by have := vput_pos x; omega⟩
  have hL10 : pos + 1 ≤ 10 := by rw [← hpos]; exact vput_len 9 x (by omega)
  have hp9 : pos ≤ 9 := by omega
  have hpn : pos < n := by rw [← hl, List.length_append]; omega
  have hd := vput_at (pos + 1) x hpos
  have hb := vput_bound (pos + 1) x hpos
  have hcell : ∀ k, k < pos + 1 → ∃ c : Nat, c < 256 ∧ w.cell? ⟨b, off + k, none⟩ = some (.int .u8 (c : Int)) ∧ c % 128 = x / 128 ^ k % 128 ∧ (k + 1 < pos + 1 → 128 ≤ c) ∧ (k + 1 = pos + 1 → c < 128 ∧ c = x / 128 ^ k) := fun k hk => by
    obtain ⟨c, h1, h2, h3, h4⟩ := hd k hk
    refine ⟨c.toNat, c.toNat_lt, hc k _ ?_, h2, h3, h4⟩
    rw [u8s, List.map_append, List.getElem?_append_left (by simp; omega)]
    simp [h1]
  have hix := index_any w b off cap n (by omega) (vput x ++ rest) pos hpn hl hc (fun j c hj hjc => by
      rw [List.getElem?_append_left (by omega)] at hjc
      obtain ⟨c', h1, _, h3, _⟩ := hd j (by omega)
      rw [h1] at hjc; cases hjc
      exact h3 (by omega)) (fun c hjc => by
      rw [List.getElem?_append_left (by omega)] at hjc
      obtain ⟨c', h1, _, _, h4⟩ := hd pos (by omega)
      rw [h1] at hjc; cases hjc
      exact (h4 rfl).1)
  obtain ⟨cL, q1, q2, q3, q4, q5⟩ := hcell pos (by omega)
  have q6 := (q5 rfl).2
  have z0 : 0 < pos → (cL == 0) = false := fun h => by
    have h1 := hb.2 (by omega)
    rw [Nat.add_sub_cancel] at h1
    have : 0 < x / 128 ^ pos := Nat.div_pos h1 (Nat.pos_of_ne_zero (by simp))
    simp; omega
  have z1 : pos = 9 → cL ≤ 1 := fun h => by
    rw [q6, h]
    have : x / 128 ^ 9 < 2 := Nat.div_lt_of_lt_mul (by omega)
    omega
  have HIX := Lib.hid hix
  have HCE := Lib.hid hcell
  have HPO := Lib.hid hpos
  have HL := Lib.hid hl
  have HC := Lib.hid hc
  clear hd hb hix hcell hpos hl hc q3 q4 q5 q6
  have e0 : ((pos : Int) + 1 - 1) = (pos : Int) := by omega
  have e1 : ((pos : Int) + 1 == 0) = false := by simp; omega
  have e2 : ¬ (10 : Int) < (pos : Int) + 1 := by omega
  have e3 : (pos : Int) + 1 ≤ cap := by omega
  go_enter Try.func64, Try.ntmps64
  go_upto_block 0 with (go_at_call 78; refine HIX.out.mono ?_; rintro e w' ⟨rfl, rfl⟩)
  go_cut [] (fun wx => w = wx)
  case first =>
    by_cases h0 : pos = 0
    · have e4 : ¬ (1 : Int) < (pos : Int) + 1 := by omega
      have e5 : ((pos : Int) + 1 == 10) = false := by simp; omega
      clear z0 z1 h0 q1 q2
      go_wp2
      go_meet
      exact rfl
    · have z := z0 (by omega)
      have zi : ((cL : Int) == 0) = false := by simpa using z
      have e4 : (1 : Int) < (pos : Int) + 1 := by omega
      by_cases h9 : pos = 9
      · have z2 := z1 h9
        have z3 : ¬ (1 : Int) < (cL : Int) := by omega
        have e5 : ((pos : Int) + 1 == 10) = true := by simp; omega
        clear z0 z1 h0 h9 z q1
        go_wp2
        go_meet
        exact rfl
      · have e5 : ((pos : Int) + 1 == 10) = false := by simp; omega
        clear z0 z1 h0 h9 z q1
        go_wp2
        go_meet
        exact rfl
  case rest =>
    subst hcut
    clear z0 z1 q1 q2 HIX
    have f0 : (0 : Int) ≤ (pos : Int) + 1 := by omega
    go_wp2
    go_loopw [6, 44] (fun s6 i wx => ∃ k : Nat, k ≤ pos + 1 ∧ i = .int .i64 k ∧ s6 = .int .u64 ((x % 128 ^ k : Nat) : Int) ∧ w = wx) (fun _ i _ => pos + 2 - (intOf i).toNat)
    case atStart => exact ⟨0, by omega, rfl, by simp [Nat.mod_one], rfl⟩
    case round =>
      obtain ⟨k, hk, rfl, rfl, rfl⟩ := hrel
      by_cases hlt : k < pos + 1
      · obtain ⟨c, c1, c2, c3, -, -⟩ := HCE.out k hlt
        obtain ⟨y, hy⟩ : ∃ y, x % 128 ^ k = y := ⟨_, rfl⟩
        rw [hy]
        have a1 := and127 c c1
        obtain ⟨d, hd⟩ : ∃ d, c % 128 = d := ⟨_, rfl⟩
        rw [hd] at a1
        have hd1 : d < 128 := by omega
        have hkp : (k : Int) < (pos : Int) + 1 := by omega
        have hkn : (k : Int) < ((pos + 1 : Nat) : Int) := by omega
        have hst := take_step x k d hx (by omega) (by omega)
        rw [hy] at hst
        have HST := Lib.hid hst
        clear hst c3 hd
        go_wp2
        go_roundw
        case rel => exact ⟨k + 1, by omega, by go_num, by rw [HST.out], by trivial⟩
        case measure => simp [intOf]; omega
      · obtain rfl : k = pos + 1 := by omega
        have hxx : x % 128 ^ (pos + 1) = x := Nat.mod_eq_of_lt (vput_bound (pos + 1) x HPO.out).1
        rw [hxx]
        have hrl : rest.length = n - (pos + 1) := by have := HL.out; rw [List.length_append, HPO.out] at this; omega
        have hrr : ∀ j u, (u8s rest)[j]? = some u → w.cell? ⟨b, off + (pos + 1) + j, none⟩ = some u := fun j u hu => by
          rw [Nat.add_assoc]
          refine HC.out _ _ ?_
          rw [u8s, List.map_append, List.getElem?_append_right (by simp [HPO.out])]
          simpa [HPO.out, u8s] using hu
        clear hxx
        have hnk : ¬ ((pos + 1 : Nat) : Int) < (pos : Int) + 1 := by omega
        by_cases hce : cap = pos + 1
        · have hn1 : n = pos + 1 := by omega
          have hr0 : rest = [] := List.eq_nil_of_length_eq_zero (by omega)
          subst hr0
          subst hce
          obtain rfl := hn1
          have hcl := cloneB_any w (.slice (some ⟨b, off, none⟩) 0 0) 0 [] ⟨rfl, .inr ⟨b, off, 0, rfl, Nat.le_refl _, fun j u hu => by cases hu⟩⟩ (by omega)
          have HCL := Lib.hid hcl
          clear hcl hrr hrl
          go_wp2_with (go_at_call 77; refine HCL.out.mono ?_; rintro e w2 ⟨v', rfl, hr2, hb2⟩)
          go_ret3
          unfold TakeP
          exact ⟨v', rfl, hr2, hb2⟩
        · have hce' : ¬ (cap : Int) = (pos : Int) + 1 := by omega
          have hR1 : Reads w 1 (.slice (some ⟨b, off + (pos + 1), none⟩) (n - (pos + 1)) (cap - (pos + 1))) rest.length (u8s rest) := ⟨by rw [u8s_length, Nat.mul_one], .inr ⟨b, off + (pos + 1), cap - (pos + 1), by rw [hrl], by omega, hrr⟩⟩
          have hcl := cloneB_any w _ _ _ hR1 (by omega)
          have HCL := Lib.hid hcl
          clear hR1 hcl hrr
          go_wp2_with (go_at_call 77; refine HCL.out.mono ?_; rintro e w2 ⟨v', rfl, hr2, hb2⟩)
          go_ret3
          unfold TakeP
          exact ⟨v', rfl, hr2, hb2⟩
end Go.Proofs.Ytkpjfdhjkgdcbaa
