/- What chapter 22 is about, as plain data and as cells. -/
import Derived.Test.YteiaifhnikknbaaDoorClone22
namespace Go.Proofs.YteiaifhnikknbaaDoor
open Go.RowKit

structure Mbr where
  task : Int
  ops : Int
  need : Int
  first : Int
  say : Int
  err : Int
  deriving DecidableEq
structure Imm where
  list : Int
  log : Int
  deriving DecidableEq
structure Meta where
  num : Int
  size : Int
  least : ByteArray
  most : ByteArray
  deriving DecidableEq
structure Gd where
  l : List Mbr
  done : List Mbr
  group : Int
  last : Int
  bad : Int
  mem : Int
  imms : List Imm
  log : Int
  next : Int
  tables : List Meta
  closed : Bool
def Mbr.cells (a : Mbr) : List Value := [.int .i64 a.task, .int .i64 a.ops, .int .u64 a.need, .int .u64 a.first, .int .u8 a.say, .int .i64 a.err]
def Imm.cells (a : Imm) : List Value := [.int .i64 a.list, .int .u64 a.log]
def Meta.cells (a : Meta) : List Value := [.int .u64 a.num, .int .u64 a.size, .string a.least, .string a.most]
def mbs (l : List Mbr) : List Value := l.flatMap Mbr.cells
def ims (l : List Imm) : List Value := l.flatMap Imm.cells
def mts (l : List Meta) : List Value := l.flatMap Meta.cells
def gC (G : Gd) (sl sd si st : Value) : List Value := [sl, sd, .int .i64 G.group, .int .u64 G.last, .int .i64 G.bad, .int .i64 G.mem, si, .int .u64 G.log, .int .u64 G.next, st, .bool G.closed]
theorem mbs_one (l : List Mbr) : ∀ u ∈ mbs l, u.oneCell' = true := by
  intro u hu
  simp only [mbs, List.mem_flatMap, Mbr.cells] at hu
  obtain ⟨a, _, hu⟩ := hu
  simp at hu
  rcases hu with rfl | rfl | rfl | rfl | rfl | rfl <;> rfl
theorem ims_one (l : List Imm) : ∀ u ∈ ims l, u.oneCell' = true := by
  intro u hu
  simp only [ims, List.mem_flatMap, Imm.cells] at hu
  obtain ⟨a, _, hu⟩ := hu
  simp at hu
  rcases hu with rfl | rfl <;> rfl
theorem mts_one (l : List Meta) : ∀ u ∈ mts l, u.oneCell' = true := by
  intro u hu
  simp only [mts, List.mem_flatMap, Meta.cells] at hu
  obtain ⟨a, _, hu⟩ := hu
  simp at hu
  rcases hu with rfl | rfl | rfl | rfl <;> rfl

/-- What is guarded can be read. -/
structure GR (w : World) (G : Gd) (sl sd si st : Value) : Prop where
  l : Reads w 6 sl G.l.length (mbs G.l)
  d : Reads w 6 sd G.done.length (mbs G.done)
  i : Reads w 2 si G.imms.length (ims G.imms)
  t : Reads w 4 st G.tables.length (mts G.tables)
/-- It lies in blocks of A, each row in its own. -/
structure GO (w : World) (G : Gd) (sl sd si st : Value) (A : Nat → Prop) : Prop where
  l : Row w 92 6 sl G.l.length (mbs G.l) A
  d : Row w 92 6 sd G.done.length (mbs G.done) A
  i : Row w 94 2 si G.imms.length (ims G.imms) A
  t : Row w 37 4 st G.tables.length (mts G.tables) A
structure Gd.Small (G : Gd) (n : Nat) : Prop where
  l : G.l.length ≤ n
  d : G.done.length ≤ n
  i : G.imms.length ≤ n
  t : G.tables.length ≤ n
variable {w w' : World} {G : Gd} {sl sd si st : Value} {A B : Nat → Prop}
theorem GO.gr (h : GO w G sl sd si st A) : GR w G sl sd si st := ⟨h.l.reads, h.d.reads, h.i.reads, h.t.reads⟩
theorem GR.below (h : GR w G sl sd si st) (hb : Below w.heap.size w w') : GR w' G sl sd si st := ⟨h.l.below hb, h.d.below hb, h.i.below hb, h.t.below hb⟩
theorem Row.below {e size n : Nat} {v : Value} {xs : List Value} (h : Row w e size v n xs A) (hb : Below w.heap.size w w') : Row w' e size v n xs A := h.keep fun _ hk => hb.block _ (h.lt hk)
theorem Row.wider {e size n : Nat} {v : Value} {xs : List Value} (h : Row w e size v n xs A) (hAB : ∀ k, A k → B k) : Row w e size v n xs B := h.mono fun k _ hk => hAB k hk
theorem Row.of_owns {base e size n : Nat} {v : Value} {xs : List Value} (h : w.ownsRow base e size v n xs) : Row w e size v n xs (fun k => base ≤ k) :=
  ⟨⟨h.1, h.2.imp id fun ⟨g, cap, cur, h1, _, h2⟩ => ⟨g, cap, cur, h1, Nat.zero_le _, h2⟩⟩, fun k hk => (h.lt k hk).1⟩
theorem Row.slice_one {e size n : Nat} {v : Value} {xs : List Value} (h : Row w e size v n xs A) : v.oneCell' = true := by obtain ⟨ao, c, rfl⟩ := h.slice; rfl
theorem Reads.slice_one {size n : Nat} {v : Value} {xs : List Value} (h : Reads w size v n xs) : v.oneCell' = true := by obtain ⟨ao, c, rfl⟩ := h.slice; rfl
theorem GO.below (h : GO w G sl sd si st A) (hb : Below w.heap.size w w') : GO w' G sl sd si st A := ⟨h.l.below hb, h.d.below hb, h.i.below hb, h.t.below hb⟩
theorem GO.wider (h : GO w G sl sd si st A) (hAB : ∀ k, A k → B k) : GO w G sl sd si st B := ⟨h.l.wider hAB, h.d.wider hAB, h.i.wider hAB, h.t.wider hAB⟩
theorem GO.keep (h : GO w G sl sd si st A) (hs : ∀ k, A k → k < w.heap.size → w'.heap[k]? = w.heap[k]?) : GO w' G sl sd si st A :=
  ⟨h.l.keep fun k hk => hs k (h.l.home k hk) (h.l.lt hk), h.d.keep fun k hk => hs k (h.d.home k hk) (h.d.lt hk), h.i.keep fun k hk => hs k (h.i.home k hk) (h.i.lt hk), h.t.keep fun k hk => hs k (h.t.home k hk) (h.t.lt hk)⟩
theorem Row.at_base {w : World} {base e size n : Nat} {v : Value} {xs : List Value} (h : Row w e size v n xs (fun k => base ≤ k)) : w.ownsRow base e size v n xs :=
  ⟨h.owns.1, h.owns.2.imp id fun ⟨g, cap, cur, h1, _, h2⟩ => ⟨g, cap, cur, h1, h.home g (by rw [h1]; rfl), h2⟩⟩
/-- It can be read, and lies at N and above. -/
structure GH (w : World) (G : Gd) (sl sd si st : Value) (N : Nat) : Prop where
  gr : GR w G sl sd si st
  hl : ∀ k, sl.ownBlock = some k → N ≤ k
  hd : ∀ k, sd.ownBlock = some k → N ≤ k
  hi : ∀ k, si.ownBlock = some k → N ≤ k
  ht : ∀ k, st.ownBlock = some k → N ≤ k
theorem Reads.stay {w w' : World} {size n : Nat} {v : Value} {xs : List Value} (h : Reads w size v n xs) (hs : ∀ k, v.ownBlock = some k → k < w.heap.size → w'.heap[k]? = w.heap[k]?) : Reads w' size v n xs :=
  ⟨h.len, h.form.imp id fun ⟨b, o, c, hv, hc, hr⟩ => ⟨b, o, c, hv, hc, fun j u hu => by
    have h1 := hr j u hu
    exact (World.cell?_of_block (w := w) (hs b (by rw [hv]; rfl) (World.block_lt_of_cell? w _ h1))).trans h1⟩⟩
theorem GH.keep {w w' : World} {G : Gd} {sl sd si st : Value} {N : Nat} (h : GH w G sl sd si st N) (hs : ∀ k, N ≤ k → k < w.heap.size → w'.heap[k]? = w.heap[k]?) : GH w' G sl sd si st N :=
  ⟨⟨h.gr.l.stay fun k hk => hs k (h.hl k hk), h.gr.d.stay fun k hk => hs k (h.hd k hk), h.gr.i.stay fun k hk => hs k (h.hi k hk), h.gr.t.stay fun k hk => hs k (h.ht k hk)⟩, h.hl, h.hd, h.hi, h.ht⟩
theorem GH.lower {w : World} {G : Gd} {sl sd si st : Value} {N M : Nat} (h : GH w G sl sd si st N) (hm : M ≤ N) : GH w G sl sd si st M :=
  ⟨h.gr, fun k hk => Nat.le_trans hm (h.hl k hk), fun k hk => Nat.le_trans hm (h.hd k hk), fun k hk => Nat.le_trans hm (h.hi k hk), fun k hk => Nat.le_trans hm (h.ht k hk)⟩
theorem GO.gh {w : World} {G : Gd} {sl sd si st : Value} {N : Nat} (h : GO w G sl sd si st (fun k => N ≤ k)) : GH w G sl sd si st N := ⟨h.gr, h.l.home, h.d.home, h.i.home, h.t.home⟩
theorem gC_one (G : Gd) (h1 : sl.oneCell' = true) (h2 : sd.oneCell' = true) (h3 : si.oneCell' = true) (h4 : st.oneCell' = true) : ∀ u ∈ gC G sl sd si st, u.oneCell' = true := by
  intro u hu
  simp only [gC] at hu
  simp at hu
  rcases hu with rfl | rfl | rfl | rfl | rfl | rfl | rfl | rfl | rfl | rfl | rfl <;> first | assumption | rfl
theorem infoG : (Tryd.prog.info? 31).map (·.size) = some 11 := by kernel_rfl
end Go.Proofs.YteiaifhnikknbaaDoor
