/- The walk over ratlinelow.Trace: are two traces the same? -/
import Derived.Test.YtkpjfdhjkgdcbaaCells
import Derived.Test.YtkpjfdhjkgdcbaaProg
import Derived.Laws.StructEq
import Derived.Test.YtkpjfdhjkgdcbaaCellsRw
/- '==' and '!=' of structs. -/
namespace Go.Proofs.Ytkpjfdhjkgdcbaa
open Go.RowKit

section
variable {P : Program} {d : Nat} {xs ys : Array Value} {f : Field} {fs : List Field} {a b : Value} {r s : Bool} {w : World}
theorem eqF_nil : (Op.eqFields d xs ys []).run P w = .ok true w := by simp [Op.eqFields]
theorem eqF_cons (hn : f.name ≠ "_") (ha : (part f.type xs f.offset).run P w = .ok a w) (hb : (part f.type ys f.offset).run P w = .ok b w)
    (he : (Op.equalIn d f.type a b).run P w = .ok r w) (hr : (Op.eqFields d xs ys fs).run P w = .ok s w) :
    (Op.eqFields d xs ys (f :: fs)).run P w = .ok (r && s) w := by
  rw [Op.eqFields, if_pos hn]
  simp only [Sem.run_bind, ha, hb, he, Result.andThen_ok]
  cases r
  · simp
  · simpa using hr
theorem eqS_of {t : TypeId} {fs : Array Field} (hu : P.underlying t = some (.struct fs)) (hp : P.stoodInHeld t = false) (h : (Op.eqFields d xs ys fs.toList).run P w = .ok r w) :
    (Op.equalIn (d + 1) t (.agg xs) (.agg ys)).run P w = .ok r w := by
  have hf : P.fieldsOf t = fs := by simp [Program.fieldsOf, hu]
  rw [run_equalIn_struct (P := P) w d t xs ys (by rw [hf]; exact hu) hp, hf]
  exact h
theorem run_neq_of {t : TypeId} (h : (Op.equalIn 10000 t (.agg xs) (.agg ys)).run P w = .ok r w) : (binOp .neq t (.agg xs) (.agg ys)).run P w = .ok (.bool (!r)) w := by
  simp only [binOp]
  simp [Op.equal, Op.maxDepth, h]
theorem run_eql_of {t : TypeId} (h : (Op.equalIn 10000 t (.agg xs) (.agg ys)).run P w = .ok r w) : (binOp .eql t (.agg xs) (.agg ys)).run P w = .ok (.bool r) w := by
  simp only [binOp]
  simp [Op.equal, Op.maxDepth, h]
end

theorem eq_acc (d : Nat) (w : World) (x y : Acc) :
    (Op.equalIn (d + 2) 64 (.agg #[.int .i64 x.task, .int .u8 x.what, .int .i64 x.at_]) (.agg #[.int .i64 y.task, .int .u8 y.what, .int .i64 y.at_])).run Try.prog w = .ok (decide (x = y)) w := by
  have e : decide (x = y) = ((x.task == y.task) && ((x.what == y.what) && ((x.at_ == y.at_) && true))) := by
    rw [Bool.eq_iff_iff]
    obtain ⟨a, b, c⟩ := x
    obtain ⟨a', b', c'⟩ := y
    simp
  rw [e]
  refine eqS_of Try.underlying64 (by kernel_rfl) ?_
  refine eqF_cons (by decide) (by go_simp; rfl) (by go_simp; rfl) (by go_simp) ?_
  refine eqF_cons (by decide) (by go_simp; rfl) (by go_simp; rfl) (by go_simp) ?_
  exact eqF_cons (by decide) (by go_simp; rfl) (by go_simp; rfl) (by go_simp) eqF_nil

theorem neq_acc (w : World) (x y : Acc) :
    (binOp .neq 64 (.agg #[.int .i64 x.task, .int .u8 x.what, .int .i64 x.at_]) (.agg #[.int .i64 y.task, .int .u8 y.what, .int .i64 y.at_])).run Try.prog w = .ok (.bool (!decide (x = y))) w :=
  run_neq_of (eq_acc 9998 w x y)

end Go.Proofs.Ytkpjfdhjkgdcbaa

/- Accesses in a row; boxes that are nobody's. -/
namespace Go.Proofs.Ytkpjfdhjkgdcbaa
open Go.RowKit

/-- The three cells of an access in a row of accesses. -/
theorem accs_get (l : List Acc) (k : Nat) (h : k < l.length) : (accs l)[k * 3]? = some (.int .i64 l[k].task) ∧ (accs l)[k * 3 + 1]? = some (.int .u8 l[k].what) ∧ (accs l)[k * 3 + 2]? = some (.int .i64 l[k].at_) := by
  induction l generalizing k with
  | nil => simp at h
  | cons a l ih =>
    have e : accs (a :: l) = .int .i64 a.task :: .int .u8 a.what :: .int .i64 a.at_ :: accs l := rfl
    cases k with
    | zero => rw [e]; simp
    | succ k =>
      have := ih k (by simpa using h)
      rw [e, show (k + 1) * 3 = k * 3 + 1 + 1 + 1 by omega]
      simpa using this

theorem Reads.acc {w : World} {n b off c : Nat} {l : List Acc} (h : Reads w 3 (.slice (some ⟨b, off, none⟩) n c) n (accs l)) (k : Nat) (hk : k < l.length) :
    w.cell? ⟨b, off + k * 3, none⟩ = some (.int .i64 l[k].task) ∧ w.cell? ⟨b, off + k * 3 + 1, none⟩ = some (.int .u8 l[k].what) ∧ w.cell? ⟨b, off + k * 3 + 2, none⟩ = some (.int .i64 l[k].at_) := by
  have hl := h.len
  rw [accs_length] at hl
  obtain ⟨h0, h1, h2⟩ := accs_get l k hk
  rcases h.form with ⟨rfl, _⟩ | ⟨b', off', c', e, _, hr⟩
  · omega
  · cases e
    exact ⟨hr _ _ h0, hr _ _ h1, hr _ _ h2⟩

theorem Cells.sans {w : World} {c : CRef} {S : Mem} {A : Nat → Prop} (h : Cells w c S A) {g : Nat} (hg : w.heap.size ≤ g) : Cells w c S (fun k => A k ∧ k ≠ g) := h.mono fun k hk hA => ⟨hA, by omega⟩
theorem Fresh.sans {w w' : World} {A : Nat → Prop} (h : Fresh A w) {g : Nat} (hs : w.heap.size ≤ w'.heap.size) (hg : g < w'.heap.size) : Fresh (fun k => A k ∧ k ≠ g) w' := ⟨fun k hk => ⟨h.new k (by omega), by omega⟩⟩
theorem Only.sans {w w' : World} {A : Nat → Prop} {g : Nat} (h : Only (fun k => A k ∧ k ≠ g) w w') : Only A w w' := h.mono fun _ _ hk => hk.1

end Go.Proofs.Ytkpjfdhjkgdcbaa


namespace Go.Proofs.Ytkpjfdhjkgdcbaa
open Go.RowKit

theorem take_succ_of {α : Type} {l m : List α} {k : Nat} (h : l.take k = m.take k) (h1 : k < l.length) (h2 : k < m.length) (h3 : l[k] = m[k]) : l.take (k + 1) = m.take (k + 1) := by
  rw [List.take_succ_eq_append_getElem h1, List.take_succ_eq_append_getElem h2, h, h3]

set_option maxHeartbeats 1000000 in
theorem lowTrace_same (w : World) (b1 o1 c1 b2 o2 c2 : Nat) (l m : List Acc) (h1 : Reads w 3 (.slice (some ⟨b1, o1, none⟩) l.length c1) l.length (accs l)) (h2 : Reads w 3 (.slice (some ⟨b2, o2, none⟩) m.length c2) m.length (accs m)) (hl : l.length ≤ 4000000000)
    (hlm : l.length = m.length) :
    Calls Try.prog 28 #[.slice (some ⟨b1, o1, none⟩) l.length c1, .slice (some ⟨b2, o2, none⟩) m.length c2] w fun e w' => e = .returned (.bool (decide (l = m))) ∧ Quiet w w' := by
  have hne : ((l.length : Int) != m.length) = false := by simp [hlm]
  have HLM := Lib.hid hlm
  clear hlm
  go_enter Try.func28, Try.ntmps28
  go_wp2
  go_loopw [13] (fun i wr => ∃ k : Nat, k ≤ l.length ∧ i = .int .i64 k ∧ l.take k = m.take k ∧ Quiet w wr) (fun i _ => l.length - (intOf i).toNat)
  case atStart => exact ⟨0, Nat.zero_le _, rfl, by simp, Quiet.refl w⟩
  case round =>
    obtain ⟨k, hk, rfl, ht, hq⟩ := hrel
    by_cases hlt : k < l.length
    · have hltm : k < m.length := by have := HLM.out; omega
      obtain ⟨x1, x2, x3⟩ := (h1.quiet hq).acc k hlt
      obtain ⟨y1, y2, y3⟩ := (h2.quiet hq).acc k hltm
      have hk1 : k + 1 ≤ 9223372036854775807 := by omega
      generalize hla : l[k] = x at x1 x2 x3
      generalize hma : m[k] = y at y1 y2 y3
      have HX := Lib.hid hla
      have HY := Lib.hid hma
      have HT := Lib.hid ht
      clear hla hma ht h1 h2
      have hne2 := fun W => neq_acc W x y
      go_wp2_with fail
      go_quiet (fail)
      go_wp2
      · have hne3 : (!decide (x = y)) = true := by assumption
        go_ret
        refine ⟨?_, hq.trans ⟨_, rfl⟩⟩
        have hxy : x ≠ y := by simpa using hne3
        have : l ≠ m := fun e => hxy (by rw [← HX.out, ← HY.out]; simp only [e])
        simp [this]
      · have hne3 : (!decide (x = y)) = false := by assumption
        have hxy : x = y := by simpa using hne3
        go_roundw
        case rel => exact ⟨k + 1, by omega, by go_num, take_succ_of HT.out hlt hltm (by rw [HX.out, HY.out, hxy]), hq.trans ⟨_, rfl⟩⟩
        case measure => simp [intOf]; omega
    · have hkl : k = l.length := by omega
      have hlm : l = m := by
        have hlen := HLM.out
        rw [hkl, List.take_of_length_le (Nat.le_refl _), List.take_of_length_le (by omega)] at ht
        exact ht
      have HE := Lib.hid hlm
      clear hlm ht hkl h1 h2
      go_wp2
      go_ret
      exact ⟨by simp [HE.out], hq⟩

set_option maxHeartbeats 1000000 in
theorem lowTrace_len (w : World) (a1 a2 : Option Addr) (n c1 m c2 : Nat) (hlm : ((n : Int) != m) = true) :
    Calls Try.prog 28 #[.slice a1 n c1, .slice a2 m c2] w fun e w' => e = .returned (.bool false) ∧ Quiet w w' := by
  go_enter Try.func28, Try.ntmps28
  go_wp2
  go_ret
  exact ⟨rfl, Quiet.refl w⟩

set_option maxHeartbeats 1000000 in
theorem lowTrace_nil (w : World) (a1 a2 : Option Addr) (c1 c2 : Nat) :
    Calls Try.prog 28 #[.slice a1 0 c1, .slice a2 0 c2] w fun e w' => e = .returned (.bool true) ∧ Quiet w w' := by
  go_enter Try.func28, Try.ntmps28
  go_wp2
  go_loopw [13] (fun i wr => i = .int .i64 0 ∧ w = wr) (fun _ _ => 0)
  case atStart => exact ⟨rfl, rfl⟩
  case round =>
    obtain ⟨rfl, rfl⟩ := hrel
    go_wp2
    go_ret
    exact ⟨rfl, Quiet.refl w⟩

/-- ratlinelow.Trace, of whatever can be read. -/
theorem lowTrace (w : World) (v1 v2 : Value) (l m : List Acc) (h1 : Reads w 3 v1 l.length (accs l)) (h2 : Reads w 3 v2 m.length (accs m)) (hl : l.length ≤ 4000000000) :
    Calls Try.prog 28 #[v1, v2] w fun e w' => e = .returned (.bool (decide (l = m))) ∧ Quiet w w' := by
  by_cases hlm : l.length = m.length
  · rcases h1.form with ⟨h0, ao, c, rfl⟩ | ⟨b1, o1, c1, rfl, _⟩
    · obtain rfl : l = [] := List.eq_nil_of_length_eq_zero h0
      obtain rfl : m = [] := List.eq_nil_of_length_eq_zero (by simpa using hlm.symm)
      obtain ⟨ao2, c2, rfl⟩ := h2.slice
      exact (lowTrace_nil w _ _ _ _).mono (by rintro e w' ⟨rfl, hq⟩; exact ⟨rfl, hq⟩)
    · rcases h2.form with ⟨h0, ao, c, rfl⟩ | ⟨b2, o2, c2, rfl, _⟩
      · obtain rfl : m = [] := List.eq_nil_of_length_eq_zero h0
        obtain rfl : l = [] := List.eq_nil_of_length_eq_zero (by simpa using hlm)
        exact (lowTrace_nil w _ _ _ _).mono (by rintro e w' ⟨rfl, hq⟩; exact ⟨rfl, hq⟩)
      · exact lowTrace_same w b1 o1 c1 b2 o2 c2 l m h1 h2 hl hlm
  · obtain ⟨a1, c1, rfl⟩ := h1.slice
    obtain ⟨a2, c2, rfl⟩ := h2.slice
    refine (lowTrace_len w a1 a2 _ c1 _ c2 (by simp; omega)).mono ?_
    rintro e w' ⟨rfl, hq⟩
    have : l ≠ m := fun e => hlm (by rw [e])
    exact ⟨by simp [this], hq⟩

end Go.Proofs.Ytkpjfdhjkgdcbaa
