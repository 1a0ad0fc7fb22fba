/- Law 22 StoreTells: what its walk stands on. -/
import Derived.Test.YteiaifhnikknbaaDoorStAwake
import Derived.Test.YteiaifhnikknbaaDoorStNone
import Derived.Test.YteiaifhnikknbaaDoorStSet
import Derived.Test.YteiaifhnikknbaaDoorOpen22b
import Derived.Test.YteiaifhnikknbaaDoorAnew
import Derived.Test.YteiaifhnikknbaaDoorLowG22
import Derived.Test.YteiaifhnikknbaaDoorRef22e
import Derived.Deep.RegionHeld3
namespace Go.Proofs.YteiaifhnikknbaaDoor
open Go.RowKit

theorem infoMtS : (Tryd.prog.info? 37).map (·.size) = some 4 := by kernel_rfl
theorem infoVr : (Tryd.prog.info? 51).map (·.size) = some 4 := by kernel_rfl
theorem yieldsIf_load_blk {P : Program} {ops : Array Oper} {S : World → Prop} {o : Oper} {a : Act} (hw : Region.wanted o (yielded ops a.tmps) = true) (ty : TypeId) (x : Operand) (ho : o.op = .load ty x)
    (b : Nat) (hx : a.eval x = .pointer (some ⟨b, 0, none⟩)) (C : List Value) {t : TypeId} (hS : ∀ w, S w → Blk w b t C) (d : TypeDesc)
    (hu : P.underlying ty = some d) (hd : (match d with | .struct _ | .array _ _ => true | _ => false) = true) (hi : (P.info? ty).map (·.size) = some C.length) : YieldsIf P ops S o (.agg C.toArray) a :=
  .inl ⟨hw, fun w hw' => by
    unfold execOp
    simp only [ho, hx, Instr.loadAt, Instr.sureAddr, Sem.run_bind, Sem.run_pure, Result.andThen_ok, (hS w hw').loadRow d hu hd hi]⟩
theorem four_boxes (w : World) (C D E F : List Value) (t u s r : Nat) : ∃ W, (((w.alloc (.cells C.toArray t)).alloc (.cells D.toArray u)).alloc (.cells E.toArray s)).alloc (.cells F.toArray r) = W ∧ Blk W w.heap.size t C ∧ Blk W (w.heap.size + 1) u D ∧ Blk W (w.heap.size + 1 + 1) s E ∧ Blk W (w.heap.size + 1 + 1 + 1) r F ∧ Below w.heap.size w W := by
  obtain ⟨W, hW, k1, k2, k3, hB, hs⟩ := three_boxes w C D E t u s
  refine ⟨_, rfl, ?_, ?_, ?_, ?_, ?_⟩
  all_goals rw [hW]
  · exact k1.alloc _
  · exact k2.alloc _
  · exact k3.alloc _
  · have := Blk.new W r F
    rw [hs] at this
    exact this
  · exact hB.alloc hB.size _

/-- The law's own variables. -/
structure TS (w : World) (K : Cfg) (sh : Value) (V : Ver) (st0 : Value) (G : Gd) (sl sd si st : Value) (M : Meta) (b : Nat) (tl td ti tt : Value) (x : World) : Prop where
  cfg : Blk x w.heap.size 49 (cfC K sh)
  ver : Blk x (w.heap.size + 1) 51 (vrC V st0)
  gd : Blk x (w.heap.size + 1 + 1) 31 (gC G sl sd si st)
  mt : Blk x (w.heap.size + 1 + 1 + 1) 37 (mtC M)
  was : Blk x b 31 (gC G tl td ti tt)
  wr : GR x G tl td ti tt
  below : Below w.heap.size w x
variable {w x y : World} {K : Cfg} {sh : Value} {V : Ver} {st0 : Value} {G : Gd} {sl sd si st : Value} {M : Meta} {b : Nat} {tl td ti tt : Value}
theorem TS.go (h : TS w K sh V st0 G sl sd si st M b tl td ti tt x) (hb : Below x.heap.size x y) : TS w K sh V st0 G sl sd si st M b tl td ti tt y :=
  ⟨h.cfg.keep (hb.block _ h.cfg.lt), h.ver.keep (hb.block _ h.ver.lt), h.gd.keep (hb.block _ h.gd.lt), h.mt.keep (hb.block _ h.mt.lt), h.was.keep (hb.block _ h.was.lt), h.wr.below hb, h.below.trans (hb.mono h.below.size)⟩
theorem TS.gr (h : TS w K sh V st0 G sl sd si st M b tl td ti tt x) (hG : GdArg w G sl sd si st) : GR x G sl sd si st := hG.gr.below h.below
theorem TS.drew (h : TS w K sh V st0 G sl sd si st M b tl td ti tt x) : TS w K sh V st0 G sl sd si st M b tl td ti tt x.drew := h.go (Quiet.below ⟨1, rfl⟩ _)
theorem failG_gr (er : Int) (h : GR x G sl sd si st) : GR x (failG G er) sl sd si st := by
  unfold failG
  split
  · exact ⟨h.l, h.d, h.i, h.t⟩
  · exact h
theorem fewB_small (h : fewB G = true) : G.Small 100 := by
  obtain ⟨h1, h2, h3, h4⟩ := of_decide_eq_true h
  exact ⟨by omega, by omega, by omega, by omega⟩
theorem Gd.Small.mono {n m : Nat} (h : G.Small n) (hm : n ≤ m) : G.Small m := ⟨Nat.le_trans h.l hm, Nat.le_trans h.d hm, Nat.le_trans h.i hm, Nat.le_trans h.t hm⟩
theorem rotG_small (h : G.Small 100) (log : Int) : (rotG G log).Small 1000000 := by
  obtain ⟨h1, h2, h3, h4⟩ := h
  exact ⟨by simp [rotG]; omega, by simp [rotG]; omega, by simp [rotG]; omega, by simp [rotG]; omega⟩
theorem instG_small (h : G.Small 100) (m : Meta) : (instG G m).Small 1000000 := by
  obtain ⟨h1, h2, h3, h4⟩ := h
  unfold instG
  split
  · exact ⟨by omega, by omega, by omega, by omega⟩
  · rename_i e
    rw [e] at h3
    simp at h3
    exact ⟨by simp; omega, by simp; omega, by simp; omega, by simp; omega⟩
theorem failG_small (h : G.Small 100) (er : Int) : (failG G er).Small 1000000 := by
  obtain ⟨h1, h2, h3, h4⟩ := h
  unfold failG
  split
  · exact ⟨by simp; omega, by simp; omega, by simp; omega, by simp; omega⟩
  · exact ⟨by omega, by omega, by omega, by omega⟩
theorem viewG_small (h : G.Small 100) : (viewG G).mems.length ≤ 1000000 ∧ (viewG G).tables.length ≤ 1000000 := by
  obtain ⟨h1, h2, h3, h4⟩ := h
  exact ⟨by simp [viewG]; omega, by simp [viewG]; omega⟩

/-- The law's own variables, and the store. -/
structure TS2 (w : World) (K : Cfg) (sh : Value) (V : Ver) (st0 : Value) (G : Gd) (sl sd si st : Value) (M : Meta) (b : Nat) (tl td ti tt : Value) (B : Nat) (q : SRef) (L : Lk) (S : Mem) (G2 : Gd) (A O : Nat → Prop) (b2 : Nat) (v1 v2 v3 v4 : Value) (y : World) : Prop where
  ts : TS w K sh V st0 G sl sd si st M b tl td ti tt y
  sx : Sx B y q K L S G2 A O
  got : Blk y b2 31 (gC G2 v1 v2 v3 v4)
  gr : GR y G2 v1 v2 v3 v4
variable {B : Nat} {q : SRef} {L : Lk} {S : Mem} {G2 : Gd} {A O : Nat → Prop} {b2 : Nat} {v1 v2 v3 v4 : Value}
theorem TS2.go (h : TS2 w K sh V st0 G sl sd si st M b tl td ti tt B q L S G2 A O b2 v1 v2 v3 v4 x) (hb : Below x.heap.size x y) : TS2 w K sh V st0 G sl sd si st M b tl td ti tt B q L S G2 A O b2 v1 v2 v3 v4 y :=
  ⟨h.ts.go hb, h.sx.below hb, h.got.keep (hb.block _ h.got.lt), h.gr.below hb⟩
theorem field_cfg0 (K : Cfg) (sh : Value) : ∀ W, (Instr.field 49 (.agg (cfC K sh).toArray) 0).run Tryd.prog W = .ok (.int .u64 K.units) W := fun _ => by kernel_rfl
theorem field_cfg3 (K : Cfg) (sh : Value) : ∀ W, (Instr.field 49 (.agg (cfC K sh).toArray) 3).run Tryd.prog W = .ok (.int .i64 K.group) W := fun _ => by kernel_rfl
theorem field_cfg4 (K : Cfg) (sh : Value) : ∀ W, (Instr.field 49 (.agg (cfC K sh).toArray) 4).run Tryd.prog W = .ok (.bool K.sync) W := fun _ => by kernel_rfl
theorem newS_len (h : rightB K = true) (V : Ver) : 0 < (newS K V).atomics.length ∧ 0 < (newS K V).plains.length ∧ (newS K V).trace.length = 1 := by
  obtain ⟨h1, h2, h3, h4, h5, h6, h7, h8, h9, h10⟩ := of_decide_eq_true h
  have a1 : 0 ≤ K.lists * skA K.units := Int.mul_nonneg (by omega) (by unfold skA; omega)
  have a2 : 0 ≤ K.lists * skP K.units := Int.mul_nonneg (by omega) (by unfold skP; omega)
  refine ⟨?_, ?_, rfl⟩
  · simp [newS, newM, Mem.new, Mem.put, Mem.note]; omega
  · simp [newS, newM, Mem.new, Mem.put, Mem.note]; omega
theorem newS_at (h : rightB K = true) (V : Ver) : (newS K V).at_ 0 = V.last := by
  have := (newS_len h V).1
  simp only [newS, Mem.put, Mem.note, Mem.at_, List.length_set] at this ⊢
  simp [this]
theorem newG_small (V : Ver) (log : Int) (h : V.tables.length ≤ 20) : (newG V log).Small 1000000 := ⟨by simp [newG], by simp [newG], by simp [newG], by simp [newG]; omega⟩
theorem newG_gr {ta : Value} (V : Ver) (log : Int) (h : Reads x 4 ta V.tables.length (mts V.tables)) : GR x (newG V log) (.slice none 0 0) (.slice none 0 0) (.slice none 0 0) ta :=
  ⟨⟨rfl, .inl ⟨rfl, _, _, rfl⟩⟩, ⟨rfl, .inl ⟨rfl, _, _, rfl⟩⟩, ⟨rfl, .inl ⟨rfl, _, _, rfl⟩⟩, h⟩
end Go.Proofs.YteiaifhnikknbaaDoor
