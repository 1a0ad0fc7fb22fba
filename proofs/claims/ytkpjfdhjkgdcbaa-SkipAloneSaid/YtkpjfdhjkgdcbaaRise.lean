/- The walk over law 19's Rise: the levels of a list. -/
import Derived.Test.YtkpjfdhjkgdcbaaAwake19
import Derived.Deep.CutBlock

namespace Go.Proofs.Ytkpjfdhjkgdcbaa
open Go.RowKit

def zero6 : List Value := [.slice none 0 0, .slice none 0 0, .slice none 0 0, .slice none 0 0, .slice none 0 0, .slice none 0 0]
/-- Where Rise stands: so many levels are in its table. -/
structure RiX (w0 w wr : World) (k : SkRef) (c : CRef) (r : RS) (A0 : Nat → Prop) (ba br n b : Nat) (vals : List Value) (A : Nat → Prop) (t : List Acc) : Prop where
  lw : LW w0 wr k c (r.s.more t) A
  sub : ∀ j, A j → A0 j
  tr : t.length ≤ b
  nba : ¬ A ba
  nbr : ¬ A br
  rows : ∀ j, j < n → ∀ v, vals[j]? = some v → Row wr 3 1 v (r.L j).length (ints (r.L j)) (fun x => w.heap.size ≤ x ∧ ¬ A x)
  box : Blk wr ba 44 vals
  res : Blk wr br 44 zero6
  len : vals.length = 6
  only : Only A0 w wr
theorem RiX.mem {w0 w wr wr' : World} {k : SkRef} {c : CRef} {r : RS} {A0 : Nat → Prop} {ba br n b b' : Nat} {vals : List Value} {A A' : Nat → Prop} {t t' : List Acc} (h : RiX w0 w wr k c r A0 ba br n b vals A t) (L : LW w0 wr' k c (r.s.more t') A') (hs : ∀ j, A' j → A j) (ho : Only A wr wr') (hb : t'.length ≤ b') : RiX w0 w wr' k c r A0 ba br n b' vals A' t' :=
  ⟨L, fun j q => h.sub j (hs j q), hb, fun q => h.nba (hs _ q), fun q => h.nbr (hs _ q), fun j hj v hv => ((h.rows j hj v hv).keep fun q hq => ho.block q ((h.rows j hj v hv).lt hq) ((h.rows j hj v hv).home q hq).2).mono fun q _ z => ⟨z.1, fun a => z.2 (hs _ a)⟩,
    h.box.keep (ho.block _ h.box.lt h.nba), h.res.keep (ho.block _ h.res.lt h.nbr), h.len, h.only.trans (ho.mono fun j _ q => h.sub j q)⟩
theorem RiX.made {w0 w wr wr' : World} {k : SkRef} {c : CRef} {r : RS} {A0 : Nat → Prop} {ba br n b : Nat} {vals : List Value} {A : Nat → Prop} {t : List Acc} (h : RiX w0 w wr k c r A0 ba br n b vals A t) (hb : Below wr.heap.size wr wr') : RiX w0 w wr' k c r A0 ba br n b vals (boxA A wr.heap.size wr'.heap.size) t :=
  ⟨h.lw.made hb, fun j q => h.sub j q.1, h.tr, fun q => h.nba q.1, fun q => h.nbr q.1, fun j hj v hv => ((h.rows j hj v hv).keep fun q hq => hb.block q ((h.rows j hj v hv).lt hq)).mono fun q _ z => ⟨z.1, fun a => z.2 a.1⟩,
    h.box.keep (hb.block _ h.box.lt), h.res.keep (hb.block _ h.res.lt), h.len, h.only.trans (Only.of_below hb)⟩
/-- A level's row goes into the table. -/
theorem RiX.put {w0 w wr : World} {k : SkRef} {c : CRef} {r : RS} {A0 : Nat → Prop} {ba br n b : Nat} {vals : List Value} {A : Nat → Prop} {t : List Acc} (h : RiX w0 w wr k c r A0 ba br n b vals A t) (hn : n < 6) (hw0 : w0.heap.size ≤ ba) (hbb : ba ≠ br) (v : Value) (hv : Row wr 3 1 v (r.L n).length (ints (r.L n)) (fun x => w.heap.size ≤ x ∧ ¬ A x)) (hA0 : A0 ba) :
    RiX w0 w (wr.setCell ⟨ba, n, none⟩ v) k c r A0 ba br (n + 1) b (vals.set n v) (boxA A wr.heap.size wr.heap.size) t := by
  have ho : Only (fun j => j = ba) wr (wr.setCell ⟨ba, n, none⟩ v) := (Only.refl (fun j => j = ba) wr).setCell (p := ⟨ba, n, none⟩) rfl v
  have hsz : (wr.setCell ⟨ba, n, none⟩ v).heap.size = wr.heap.size := by simp [World.setCell]
  obtain ⟨S, Lx0, R⟩ := h.lw.ex
  have hlp : ¬ k.lp = ba := fun e => Blk.ne Lx0.sk.list h.box (by decide) e
  have haq : ¬ k.aq = ba := fun e => Blk.ne Lx0.sk.arena h.box (by decide) e
  have hL := h.lw.own (B := fun j => j = ba) ho (fun j _ hA e => h.nba (e ▸ hA)) hlp haq (fun j e => by rw [e]; exact hw0)
  rw [hsz] at hL
  have hrow : ∀ (x : Value) (m : Nat) (xs : List Value), Row wr 3 1 x m xs (fun x => w.heap.size ≤ x ∧ ¬ A x) → Row (wr.setCell ⟨ba, n, none⟩ v) 3 1 x m xs (fun x => w.heap.size ≤ x ∧ ¬ boxA A wr.heap.size wr.heap.size x) := fun x m xs hx =>
    (hx.setCell (a := ⟨ba, n, none⟩) (hx.ne_blk h.box (by decide)) v).mono fun q _ z => ⟨z.1, fun a => z.2 a.1⟩
  refine ⟨hL, fun j q => h.sub j q.1, h.tr, fun q => h.nba q.1, fun q => h.nbr q.1, fun j hj u hu => ?_, h.box.set n v, h.res.set_other (a := ⟨ba, n, none⟩) (fun e => hbb e.symm) v, by rw [List.length_set]; exact h.len, h.only.trans (ho.mono fun j hj e => ?_)⟩
  · by_cases e : j = n
    · subst e
      rw [List.getElem?_set_self (by rw [h.len]; exact hn)] at hu
      cases hu
      exact hrow _ _ _ hv
    · rw [List.getElem?_set_ne (fun q => e q.symm)] at hu
      exact hrow _ _ _ (h.rows j (by omega) u hu)
  · rw [e]; exact hA0
/-- The whole table goes into the result's box. -/
theorem RiX.done {w0 w wr : World} {k : SkRef} {c : CRef} {r : RS} {A0 : Nat → Prop} {ba br n b : Nat} {vals : List Value} {A : Nat → Prop} {t : List Acc} (h : RiX w0 w wr k c r A0 ba br n b vals A t) (hw0 : w0.heap.size ≤ br) (hA0 : A0 br) :
    ∃ A', LW w0 (wr.setRow br vals.toArray) k c (r.s.more t) A' ∧ (∀ j, A' j → A0 j) ∧ Only A0 w (wr.setRow br vals.toArray) ∧ (∀ j, j < n → ∀ v, vals[j]? = some v → Row (wr.setRow br vals.toArray) 3 1 v (r.L j).length (ints (r.L j)) (fun x => w.heap.size ≤ x ∧ ¬ A' x)) ∧ Blk (wr.setRow br vals.toArray) br 44 vals := by
  have ho : Only (fun j => j = br) wr (wr.setRow br vals.toArray) := (Only.refl (fun j => j = br) wr).setRow rfl _
  obtain ⟨S, Lx0, R⟩ := h.lw.ex
  have hlp : ¬ k.lp = br := fun e => Blk.ne Lx0.sk.list h.res (by decide) e
  have haq : ¬ k.aq = br := fun e => Blk.ne Lx0.sk.arena h.res (by decide) e
  have hL := h.lw.own (B := fun j => j = br) ho (fun j _ hA e => h.nbr (e ▸ hA)) hlp haq (fun j e => by rw [e]; exact hw0)
  refine ⟨_, hL, fun j q => h.sub j q.1, h.only.trans (ho.mono fun j _ e => by rw [e]; exact hA0), fun j hj v hv => ?_, h.res.setRow _⟩
  have hr := h.rows j hj v hv
  exact (hr.keep fun q hq => ho.block q (hr.lt hq) fun e => hr.ne_blk h.res (by decide) (e ▸ hq)).mono fun x _ z => ⟨z.1, fun a => z.2 a.1⟩
/-- Where the nodes of a level stand in the one below. -/
theorem level_pos {R : Int → Int → Prop} (asym : ∀ x y, R x y → ¬ R y x) (irr : ∀ x, ¬ R x x) {L M : List Int} (hL : L.Pairwise R) (hM : M.Pairwise R) (hs : ∀ n, n ∈ L → n ∈ M) : ∃ p : Nat → Nat, (∀ i, i < L.length → M[p i]? = L[i]?) ∧ ∀ i j, i ≤ j → j < L.length → p i ≤ p j := by
  have hget : ∀ i (hi : i < L.length), M.idxOf L[i] < M.length := fun i hi => List.idxOf_lt_length_of_mem (hs _ (List.getElem_mem hi))
  refine ⟨fun i => M.idxOf (L.getD i 0), fun i hi => ?_, fun i j hij hj => ?_⟩
  · have e : L.getD i 0 = L[i] := by rw [List.getD_eq_getElem?_getD, List.getElem?_eq_getElem hi]; rfl
    show M[M.idxOf (L.getD i 0)]? = _
    rw [e, List.getElem?_eq_getElem (hget i hi), List.getElem?_eq_getElem hi, List.getElem_idxOf]
  · have hi : i < L.length := by omega
    have e1 : L.getD i 0 = L[i] := by rw [List.getD_eq_getElem?_getD, List.getElem?_eq_getElem hi]; rfl
    have e2 : L.getD j 0 = L[j] := by rw [List.getD_eq_getElem?_getD, List.getElem?_eq_getElem hj]; rfl
    show M.idxOf (L.getD i 0) ≤ M.idxOf (L.getD j 0)
    rw [e1, e2]
    by_cases hlt : M.idxOf L[j] < M.idxOf L[i]
    · have h1 := List.pairwise_iff_getElem.1 hM _ _ (hget j hj) (hget i hi) hlt
      rw [List.getElem_idxOf, List.getElem_idxOf] at h1
      by_cases e : i = j
      · subst e; exact absurd h1 (irr _)
      · exact absurd h1 (asym _ _ (List.pairwise_iff_getElem.1 hL i j hi hj (by omega)))
    · omega
theorem RiX.mono {w0 w wr : World} {k : SkRef} {c : CRef} {r : RS} {A0 : Nat → Prop} {ba br n b b' : Nat} {vals : List Value} {A : Nat → Prop} {t : List Acc} (h : RiX w0 w wr k c r A0 ba br n b vals A t) (hb : b ≤ b') : RiX w0 w wr k c r A0 ba br n b' vals A t := { h with tr := Nat.le_trans h.tr hb }
theorem Row.atR {w : World} {e n : Nat} {xs : List Value} {A : Nat → Prop} {g cap : Nat} (h : Row w e 1 (.slice (some ⟨g, 0, none⟩) n cap) n xs A) (i : Nat) (u : Value) (hu : xs[i]? = some u) : w.cell? ⟨g, i, none⟩ = some u := by
  have := h.owns.cells (g := g) rfl i u hu
  rwa [addr_plain, Nat.zero_add] at this
theorem ints_get {L : List Int} {i : Nat} (h : i < L.length) : (ints L)[i]? = some (.int .i64 L[i]) := by unfold ints; rw [List.getElem?_map, List.getElem?_eq_getElem h]; rfl
theorem sorted_below {k : SkRef} {T N : Nat} {r : RS} (hr : RInv k T N r) {n : Nat} (hn : n < 6) : ∃ p : Nat → Nat, (0 < n → ∀ i, i < (r.L n).length → (r.L (n - 1))[p i]? = (r.L n)[i]?) ∧ ∀ i j, i ≤ j → j < (r.L n).length → p i ≤ p j := by
  cases n with
  | zero => exact ⟨fun _ => 0, fun h => absurd h (Nat.lt_irrefl 0), fun _ _ _ _ => Nat.le_refl 0⟩
  | succ n =>
    obtain ⟨p, h1, h2⟩ := level_pos (R := fun a b => (r.s.keys a).lt (r.s.keys b)) (fun x y h1 h2 => IK.lt_irrefl _ (IK.lt_trans h1 h2)) (fun x => IK.lt_irrefl _) (hr.v.sorted (n + 1) hn) (hr.v.sorted n (by omega)) (hr.v.sub n hn)
    exact ⟨p, fun _ => h1, h2⟩
theorem info6 : (Try.prog.info? 44).map (·.size) = some 6 := by kernel_rfl
theorem Sk.more2 (s : Sk) (t u : List Acc) : (s.more t).more u = s.more (t ++ u) := by unfold Sk.more; simp
theorem RiX.size {w0 w wr : World} {k : SkRef} {c : CRef} {r : RS} {A0 : Nat → Prop} {ba br n b : Nat} {vals : List Value} {A : Nat → Prop} {t : List Acc} (h : RiX w0 w wr k c r A0 ba br n b vals A t) : w.heap.size ≤ wr.heap.size := h.only.size
theorem RiX.key {w0 w wr : World} {k : SkRef} {c : CRef} {r : RS} {A0 : Nat → Prop} {ba br n b : Nat} {vals : List Value} {A : Nat → Prop} {t : List Acc} (h : RiX w0 w wr k c r A0 ba br n b vals A t) {T N : Nat} (hr : RInv k T N r) (task : Int) (t0 : 0 ≤ task) (t1 : task < 64) {l : Nat} (hl : l < 6) (nd : Int) (hnd : nd ∈ r.L l) (hn : r.s.trace.length + b < trMax) :
    Calls Try.prog 15 #[.pointer (some ⟨k.lp, 0, none⟩), .int .i64 task, .int .i64 nd] wr fun e w' => e = .returned (.tuple #[.agg (ikC (r.s.keys nd)).toArray, .int .i64 0]) ∧ (∃ t', RiX w0 w w' k c r A0 ba br n (b + 1) vals A t') ∧ Only A wr w' := by
  obtain ⟨S, L, R⟩ := h.lw.ex
  obtain ⟨hc, hp⟩ := chain_any (hr.more t) R hl
  have hpn := hp nd hnd
  refine (h.lw.key task nd t0 t1 hpn.1 hpn.2 (by show (r.s.trace ++ t).length < _; rw [List.length_append]; have := h.tr; omega)).mono ?_
  rintro e w' ⟨rfl, hL, ho⟩
  rw [Sk.more2] at hL
  exact ⟨rfl, ⟨_, h.mem hL (fun _ q => q) ho (by rw [List.length_append]; have := h.tr; simp only [List.length_cons, List.length_nil]; omega)⟩, ho⟩
theorem RiX.row {w0 w wr : World} {k : SkRef} {c : CRef} {r : RS} {A0 : Nat → Prop} {ba br n b : Nat} {vals : List Value} {A : Nat → Prop} {t : List Acc} (h : RiX w0 w wr k c r A0 ba br n b vals A t) {T N : Nat} (hr : RInv k T N r) (task : Int) (t0 : 0 ≤ task) (t1 : task < 64) (hl : n < 6) (hlen : (r.L n).length ≤ 40) (hn : r.s.trace.length + b + 41 < trMax) :
    Calls Try.prog 37 #[.pointer (some ⟨k.lp, 0, none⟩), .int .i64 task, .int .i64 (n : Int), .int .i64 40] wr fun e w' => ∃ v A' t', e = .returned (.tuple #[v, .bool true]) ∧ Row w' 3 1 v (r.L n).length (ints (r.L n)) (fun x => w.heap.size ≤ x ∧ ¬ A' x) ∧ RiX w0 w w' k c r A0 ba br n (b + 41) vals A' t' := by
  have htl : (r.more t).s.trace.length = r.s.trace.length + t.length := List.length_append
  have q := h.lw.row (r := r.more t) (hr.more t) task t0 t1 n hl 40 (by decide) hlen (by rw [htl]; have := h.tr; omega)
  refine q.mono ?_
  rintro e w' ⟨v, A', t', rfl, hR, hL, hs, ho, htl'⟩
  rw [show (r.more t).s = r.s.more t from rfl, Sk.more2] at hL
  exact ⟨v, A', _, rfl, hR.mono fun x _ z => ⟨Nat.le_trans h.size z.1, z.2⟩, h.mem hL hs ho (by rw [List.length_append]; have := h.tr; omega)⟩
set_option maxRecDepth 100000 in
set_option maxHeartbeats 4000000 in
theorem rise_any {w0 w : World} {k : SkRef} {c : CRef} {A0 : Nat → Prop} {T N : Nat} {r : RS} (h : LW w0 w k c r.s A0) (hr : RInv k T N r) (task : Int) (t0 : 0 ≤ task) (t1 : task < 64) (hlen : ∀ l, l < 6 → (r.L l).length ≤ 40) (hn : r.s.trace.length + 2000 < trMax) :
    Calls Try.prog 14 #[.pointer (some ⟨k.lp, 0, none⟩), .int .i64 task, .int .i64 40] w fun e w' => ∃ (vs : List Value) (A' : Nat → Prop) (t : List Acc), e = .returned (.tuple #[.agg vs.toArray, .bool true]) ∧ vs.length = 6 ∧ (∀ j, j < 6 → ∀ v, vs[j]? = some v → Row w' 3 1 v (r.L j).length (ints (r.L j)) (fun x => w.heap.size ≤ x ∧ ¬ A' x)) ∧ LW w0 w' k c (r.s.more t) A' ∧ (∀ j, A' j → A0 j) ∧ Only A0 w w' ∧ t.length ≤ 1200 := by
  obtain ⟨W, hW, k1, k2, hB, hsz⟩ := two_boxes w zero6 zero6 44 44
  have hA0 : A0 (w.heap.size + 1) := h.fresh.new _ (by omega)
  have hw0 : w0.heap.size ≤ w.heap.size + 1 := by have := h.below.size; omega
  have hw00 : w0.heap.size ≤ w.heap.size := h.below.size
  have HA00 := Lib.hid (h.fresh.new w.heap.size (by omega))
  have hX0 : RiX w0 w W k c r A0 (w.heap.size + 1) w.heap.size 0 0 zero6 (boxA A0 w.heap.size W.heap.size) [] :=
    ⟨by have h1 := h.made hB; have e : r.s.more [] = r.s := (by unfold Sk.more; simp); rw [e]; exact h1, fun j q => q.1, Nat.le_refl 0, fun q => by rcases q.2 with q | q <;> omega, fun q => by rcases q.2 with q | q <;> omega, fun j hj => by omega, k2, k1, rfl, Only.of_below hB⟩
  have HLEN := Lib.hid hlen
  have HR := Lib.hid hr
  have HX0 := Lib.hid hX0
  have HW2 := Lib.hid hW
  have HA0 := Lib.hid hA0
  clear hX0 hsz hB k1 k2 hlen hr hA0
  clear h
  go_enter Try.func14, Try.ntmps14
  have hW := HW2.out
  go_wp2_with fail
  clear hW
  go_loopw [19] (fun s19 wr => ∃ (n : Nat) (vals : List Value) (A : Nat → Prop) (t : List Acc), n ≤ 6 ∧ s19 = .int .i64 n ∧ RiX w0 w wr k c r A0 (w.heap.size + 1) w.heap.size n (200 * n) vals A t) (fun i _ => 6 - (intOf i).toNat)
  case atStart => exact ⟨0, _, _, _, by omega, rfl, by have q := HX0.out; rw [← HW2.out] at q; exact q⟩
  case round =>
    clear HX0 HW2
    obtain ⟨n, vals, A, t, hn6, rfl, hX⟩ := hrel
    by_cases hlt : n < 6
    · have HROW := Lib.hid (hX.row HR.out task t0 t1 hlt (HLEN.out n hlt) (by omega))
      clear hX
      go_wp2_with (go_at_call 37; refine HROW.out.mono ?_; rintro e w1 ⟨v, A1, t1', rfl, hrow, hX1⟩; obtain ⟨ao, cap, rfl⟩ := hrow.slice; obtain ⟨u0, hu0⟩ : ∃ u, vals[n]? = some u := ⟨_, List.getElem?_eq_getElem (by rw [hX1.len]; exact hlt)⟩; have z0 := hX1.box.cell n hu0; have zf := hX1.box.frozen n; have hX2 := hX1.put hlt hw0 (by omega) _ hrow HA0.out)
      obtain ⟨W2, hW2⟩ : ∃ W, w1.setCell ⟨w.heap.size + 1, n, none⟩ (.slice ao (r.L n).length cap) = W := ⟨_, rfl⟩
      obtain ⟨vs2, hvs⟩ : ∃ V, vals.set n (.slice ao (r.L n).length cap) = V := ⟨_, rfl⟩
      have hvn : vs2[n]? = some (.slice ao (r.L n).length cap) := by rw [← hvs]; exact List.getElem?_set_self (by rw [hX1.len]; exact hlt)
      rw [hW2] at hX2 ⊢
      rw [hvs] at hX2
      obtain ⟨p, hp1, hp2⟩ := sorted_below HR.out hlt
      obtain ⟨m, hm⟩ : ∃ m, (r.L n).length = m := ⟨_, rfl⟩
      have hm40 : m ≤ 40 := by rw [← hm]; exact HLEN.out n hlt
      have hsort := HR.out.v.sorted n hlt
      have HP1 := Lib.hid hp1
      have HP2 := Lib.hid hp2
      have HVN := Lib.hid hvn
      have HM := Lib.hid hm
      have HSO := Lib.hid hsort
      have HX2 := Lib.hid hX2
      rw [hm]
      clear hp1 hp2 hvn hvs hW2 hX1 z0 zf hrow hu0 HROW hsort hX2
      clear hm
      go_loopw [12, 38] (fun s12 s38 wx => ∃ (j z : Nat) (A : Nat → Prop) (t : List Acc), j ≤ m ∧ s38 = .int .i64 j ∧ s12 = .int .i64 z ∧ (j < m → z ≤ p j) ∧ RiX w0 w wx k c r A0 (w.heap.size + 1) w.heap.size (n + 1) (200 * n + 41 + 2 * j) vs2 A t) (fun _ i _ => m - (intOf i).toNat)
      case atStart => exact ⟨0, 0, _, _, Nat.zero_le _, rfl, rfl, fun _ => Nat.zero_le _, HX2.out⟩
      case round =>
        clear HX2
        obtain ⟨j, z, A2, t2, hj, rfl, rfl, hz, hX⟩ := hrel
        by_cases hjm : j < m
        · have hrw := hX.rows n (by omega) _ HVN.out
          rw [HM.out] at hrw
          obtain ⟨g, cap2, hao, -⟩ : ∃ g cap2, Value.slice ao m cap = .slice (some ⟨g, 0, none⟩) m cap2 ∧ True := by
            rcases hrw.form with ⟨_, q⟩ | ⟨g, cap2, e, _⟩
            · omega
            · exact ⟨g, cap2, e, trivial⟩
          cases hao
          have hjl : j < (r.L n).length := by rw [HM.out]; exact hjm
          obtain ⟨nd, hnd⟩ : ∃ nd, (r.L n)[j] = nd := ⟨_, rfl⟩
          have hmem : nd ∈ r.L n := by rw [← hnd]; exact List.getElem_mem _
          have zc := hrw.atR j _ (ints_get hjl)
          rw [hnd] at zc
          have HK1 := Lib.hid (hX.key HR.out task t0 t1 hlt nd hmem (by omega))
          have HX := Lib.hid hX
          have HND := Lib.hid hnd
          clear hX hrw hnd
          go_upto_if 54 with (first
            | (go_at_call 15; refine HK1.out.mono ?_; rintro x w3 ⟨rfl, ⟨t3, hX3⟩, -⟩; obtain ⟨W, hW4⟩ : ∃ W, w3.alloc (.cells #[.string ⟨#[]⟩, .int .u64 0, .int .u8 0] 36) = W := ⟨_, rfl⟩; have kz : Blk W w3.heap.size 36 (ikC ik0) := (by rw [← hW4]; exact Blk.new w3 _ _); have hbW : Below w3.heap.size w3 W := (by rw [← hW4]; exact (Below.refl _ _).alloc (Nat.le_refl _) _)) | (refine wpList_store_blk rfl 36 _ _ rfl w3.heap.size (ikC (r.s.keys nd)) (by rfl) (by rfl) (ikC ik0) kz infoIk (by rfl) (by simp [ikC, Value.oneCell']) ?_; have kz4 := kz.setRow (ikC (r.s.keys nd)); have hX4 := hX3.made (below_setRow hbW (Nat.le_refl _) (ikC (r.s.keys nd)).toArray); obtain ⟨W4, hWA⟩ : ∃ WA, W.setRow w3.heap.size (ikC (r.s.keys nd)).toArray = WA := ⟨_, rfl⟩; rw [hWA] at hX4 kz4 ⊢; clear hWA hbW kz hW4))
          have hnb : ¬ boxA A2 w3.heap.size W4.heap.size w3.heap.size := fun q => by have := kz4.lt; rcases q.2 with q | q <;> omega
          go_cut [] (fun wx => ∃ A t, RiX w0 w wx k c r A0 (w.heap.size + 1) w.heap.size (n + 1) (200 * n + 41 + 2 * j + 2) vs2 A t)
          case first =>
            by_cases hj0 : 0 < j
            · have hrw4 := hX4.rows n (by omega) _ HVN.out
              rw [HM.out] at hrw4
              have hjl1 : j - 1 < (r.L n).length := by omega
              obtain ⟨nc, hnc⟩ : ∃ nc, (r.L n)[j - 1] = nc := ⟨_, rfl⟩
              have hmem1 : nc ∈ r.L n := by rw [← hnc]; exact List.getElem_mem _
              have zc1 := hrw4.atR (j - 1) _ (ints_get hjl1)
              rw [hnc] at zc1
              have hcmp : (r.s.keys nc).cmp (r.s.keys nd) < 0 := by
                rw [IK.cmp_lt, ← hnc, ← HND.out]
                exact List.pairwise_iff_getElem.1 HSO.out (j - 1) j hjl1 hjl (by omega)
              obtain ⟨cm, hcm⟩ : ∃ cm, (r.s.keys nc).cmp (r.s.keys nd) = cm := ⟨_, rfl⟩
              rw [hcm] at hcmp
              have hcb : decide (0 < cm) = false := decide_eq_false (by omega)
              have HCM := Lib.hid hcm
              have HK2 := Lib.hid (hX4.key HR.out task t0 t1 hlt nc hmem1 (by omega))
              have HX4 := Lib.hid hX4
              have hji : ((j - 1 : Nat) : Int) = (j : Int) - 1 := by omega
              clear hX4 hrw4 hX3 zc hcm hnc
              go_wp2_with (first
                | (go_at_call 15; refine HK2.out.mono ?_; rintro x w5 ⟨rfl, ⟨t5, hX5⟩, ho5⟩; have ky4 := kz4.keep (ho5.block _ kz4.lt hnb); obtain ⟨V, hV4⟩ : ∃ W, w5.alloc (.cells #[.string ⟨#[]⟩, .int .u64 0, .int .u8 0] 36) = W := ⟨_, rfl⟩; have kv : Blk V w5.heap.size 36 (ikC ik0) := (by rw [← hV4]; exact Blk.new w5 _ _); have hbV : Below w5.heap.size w5 V := (by rw [← hV4]; exact (Below.refl _ _).alloc (Nat.le_refl _) _)) | (refine wpList_store_blk rfl 36 _ _ rfl w5.heap.size (ikC (r.s.keys nc)) (by rfl) (by rfl) (ikC ik0) kv infoIk (by rfl) (by simp [ikC, Value.oneCell']) ?_; have kv6 := kv.setRow (ikC (r.s.keys nc)); have hb6 := below_setRow hbV (Nat.le_refl _) (ikC (r.s.keys nc)).toArray; have hX6 := hX5.made hb6; have ky6 := ky4.keep (hb6.block _ ky4.lt); obtain ⟨W6, hWA6⟩ : ∃ WA, V.setRow w5.heap.size (ikC (r.s.keys nc)).toArray = WA := ⟨_, rfl⟩; rw [hWA6] at hX6 kv6 ky6 ⊢; clear hWA6 hbV kv hV4 hb6; have y0 := kv6.cell 0 (v := .string (r.s.keys nc).key) rfl; have y1 := kv6.cell 1 (v := .int .u64 (r.s.keys nc).seq) rfl; have y2 := kv6.cell 2 (v := .int .u8 (r.s.keys nc).kind) rfl; have x0 := ky6.cell 0 (v := .string (r.s.keys nd).key) rfl; have x1 := ky6.cell 1 (v := .int .u64 (r.s.keys nd).seq) rfl; have x2 := ky6.cell 2 (v := .int .u8 (r.s.keys nd).kind) rfl) | (go_at_call 30; have q := compare_any W6 (r.s.keys nc) (r.s.keys nd); refine q.mono ?_; clear q; rintro x w7 ⟨rfl, hb7⟩; have hX7 := hX6.made hb7; rw [HCM.out]))
              go_meet
              exact ⟨_, _, hX7.mono (by omega)⟩
            · have hj0' : j = 0 := by omega
              subst hj0'
              go_wp2_with fail
              go_meet
              exact ⟨_, _, hX4.mono (by omega)⟩
          case rest =>
            clear hX3 hX4 kz4 hnb zc HK1 HX
            obtain ⟨A8, t8, hX8⟩ := hcut
            obtain ⟨w8, rfl⟩ : ∃ z, z = wc := ⟨_, rfl⟩
            by_cases hn0 : 0 < n
            · have hv1 : n - 1 < vs2.length := by rw [hX8.len]; omega
              obtain ⟨vM, hvM⟩ : ∃ v, vs2[n - 1]? = some v := ⟨_, List.getElem?_eq_getElem hv1⟩
              have hrM := hX8.rows (n - 1) (by omega) _ hvM
              obtain ⟨mm, hmm⟩ : ∃ mm, (r.L (n - 1)).length = mm := ⟨_, rfl⟩
              have hpj := HP1.out hn0 j hjl
              rw [List.getElem?_eq_getElem hjl, HND.out] at hpj
              have hpm : p j < (r.L (n - 1)).length := (List.getElem?_eq_some_iff.1 hpj).1
              have hpe : (r.L (n - 1))[p j] = nd := (List.getElem?_eq_some_iff.1 hpj).2
              rw [hmm] at hrM
              obtain ⟨gM, cM, hvg, -⟩ : ∃ g c, vM = .slice (some ⟨g, 0, none⟩) mm c ∧ True := by
                rcases hrM.form with ⟨_, q⟩ | ⟨g, c, e, _⟩
                · omega
                · exact ⟨g, c, e, trivial⟩
              subst hvg
              have zb := hX8.box.cell (n - 1) hvM
              have hni : ((n - 1 : Nat) : Int) = (n : Int) - 1 := by omega
              have hmm40 : mm ≤ 40 := by rw [← hmm]; exact HLEN.out (n - 1) (by omega)
              have hnodup := HR.out.v.nodup (l := n - 1) (by omega)
              have HX8 := Lib.hid hX8
              have hpmm : p j < mm := by rw [← hmm]; exact hpm
              have HMM := Lib.hid hmm
              have HPE : Hid (∀ q (h : q < (r.L (n - 1)).length), (r.L (n - 1))[q] = nd → q = p j) := Lib.hid fun q h e => (List.getElem_inj hnodup).1 (e.trans hpe.symm)
              have HP3 := Lib.hid hpe
              have hzp := hz hjm
              clear hX8 hpj hpe hnodup hvM hmm hz
              go_wp2_with fail
              go_loopw [12] (fun s12 wy => ∃ z' : Nat, s12 = .int .i64 z' ∧ z' ≤ p j ∧ w8 = wy) (fun i _ => p j - (intOf i).toNat)
              case atStart => exact ⟨z, rfl, hzp, rfl⟩
              case round =>
                obtain ⟨z', rfl, hz', rfl⟩ := hrel
                have hzm : z' < mm := by omega
                have hzl : z' < (r.L (n - 1)).length := by rw [HMM.out]; exact hzm
                have zM := hrM.atR z' _ (ints_get hzl)
                by_cases hzz : z' = p j
                · have hx : (r.L (n - 1))[z'] = nd := by simp only [hzz]; exact HP3.out
                  rw [hx] at zM
                  have hzb : ((z' : Int) == (mm : Int)) = false := by rw [beq_eq_false_iff_ne]; omega
                  have HZZ := Lib.hid hzz
                  clear hzz hx
                  go_wp2_with fail
                  go_roundw
                  case rel => exact ⟨j + 1, z', A8, t8, by omega, by go_num, rfl, fun q => by rw [HZZ.out]; exact HP2.out j (j + 1) (by omega) (by rw [HM.out]; exact q), HX8.out.mono (by omega)⟩
                  case measure => simp [intOf]; omega
                · obtain ⟨x, hx⟩ : ∃ x, (r.L (n - 1))[z'] = x := ⟨_, rfl⟩
                  have hxn : ¬ x = nd := fun e => hzz (HPE.out z' hzl (hx.trans e))
                  rw [hx] at zM
                  have hxb : (x == nd) = false := by rw [beq_eq_false_iff_ne]; exact hxn
                  go_wp2_with fail
                  go_roundw
                  case rel => exact ⟨z' + 1, by go_num, by omega, by first | trivial | rfl⟩
                  case measure => simp [intOf]; omega
            · have hn0' : n = 0 := by omega
              subst hn0'
              go_wp2_with fail
              go_roundw
              case rel => exact ⟨j + 1, z, A8, t8, by omega, by go_num, by first | trivial | rfl, fun q => Nat.le_trans (hz hjm) (HP2.out j (j + 1) (by omega) (by rw [HM.out]; exact q)), hX8.mono (by omega)⟩
              case measure => simp [intOf]; omega
        · go_wp2_with fail
          go_roundw
          case rel => exact ⟨n + 1, _, _, _, by omega, by go_num, hX.mono (by omega)⟩
          case measure => simp [intOf]; omega
    · have e6 : n = 6 := by omega
      subst e6
      have hone : ∀ u ∈ vals, u.oneCell' = true := fun u hu => by
        obtain ⟨i, hi, e⟩ := List.getElem_of_mem hu
        have hi6 : i < 6 := by rw [hX.len] at hi; exact hi
        obtain ⟨ao, c, e2⟩ := (hX.rows i hi6 u (by rw [List.getElem?_eq_getElem hi, e])).slice
        rw [e2]; rfl
      have kb := hX.box
      have kr := hX.res
      have hD := hX.done hw00 HA00.out
      go_wp2_with (first | (refine wpList_load_blk rfl 44 _ rfl (w.heap.size + 1) (by rfl) vals kb _ Try.underlying44 rfl (by rw [info6, hX.len]) ?_) | (refine wpList_store_blk rfl 44 _ _ rfl w.heap.size vals (by rfl) (by rfl) zero6 kr (by rw [info6, hX.len]) (by rw [hX.len]; rfl) hone ?_; obtain ⟨WZ, hWZ⟩ : ∃ W, wr.setRow w.heap.size vals.toArray = W := ⟨_, rfl⟩; rw [hWZ] at hD ⊢; obtain ⟨AZ, hZ1, hZ2, hZ3, hZ4, hZ5⟩ := hD))
      obtain ⟨v0, v1, v2, v3, v4, v5, hv6⟩ : ∃ v0 v1 v2 v3 v4 v5, vals = [v0, v1, v2, v3, v4, v5] := by
        have hl := hX.len
        match vals, hl with
        | [a, b, c, d, e, f], _ => exact ⟨a, b, c, d, e, f, rfl⟩
      have c0 := hZ5.cell 0 (v := v0) (by rw [hv6]; rfl)
      have c1 := hZ5.cell 1 (v := v1) (by rw [hv6]; rfl)
      have c2 := hZ5.cell 2 (v := v2) (by rw [hv6]; rfl)
      have c3 := hZ5.cell 3 (v := v3) (by rw [hv6]; rfl)
      have c4 := hZ5.cell 4 (v := v4) (by rw [hv6]; rfl)
      have c5 := hZ5.cell 5 (v := v5) (by rw [hv6]; rfl)
      have htr := hX.tr
      have hlen6 := hX.len
      clear hX kb kr
      refine bodyPost_ret (results_cell_tmp (P := Try.prog) Try.results14 rfl (hZ5.loadRow _ Try.underlying44 rfl (by rw [info6, hlen6])) (.bool true) rfl) rfl ?_
      exact ⟨vals, AZ, t, rfl, hlen6, hZ4, hZ1, hZ2, hZ3, by omega⟩
end Go.Proofs.Ytkpjfdhjkgdcbaa
