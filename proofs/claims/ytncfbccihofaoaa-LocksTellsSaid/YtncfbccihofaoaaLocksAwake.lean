/- The chapter's examples. -/
import Derived.Test.YtncfbccihofaoaaLocksLaw
namespace Go.Proofs.Ytncfbccihofaoaa
open Go.RowKit Go.Maps

theorem allocs6 (w : World) (o1 o2 o3 o4 o5 o6 : Obj) :
    Below w.heap.size w ((((((w.alloc o1).alloc o2).alloc o3).alloc o4).alloc o5).alloc o6) ∧
    ((((((w.alloc o1).alloc o2).alloc o3).alloc o4).alloc o5).alloc o6).heap[w.heap.size + 1 + 1 + 1 + 1 + 1]? = some o6 := by
  refine ⟨(((((((Below.refl _ w).alloc (Nat.le_refl _) _).alloc ?_ _).alloc ?_ _).alloc ?_ _).alloc ?_ _).alloc ?_ _), ?_⟩
  all_goals try (simp; done)
  all_goals try (simp; omega)
  have := heap_alloc_new ((((((w.alloc o1).alloc o2).alloc o3).alloc o4).alloc o5)) o6
  simpa using this

theorem reads_accs {w : World} {g : Nat} {t : Nat} {fr : Nat × Nat} {cs : Array Value} (h : w.heap[g]? = some (.cells cs t fr)) (l : List Acc) (hl : cs.toList = accs l) : Reads w 3 (.slice (some ⟨g, 0, none⟩) l.length l.length) l.length (accs l) :=
  ⟨by rw [accs_length], .inr ⟨g, 0, _, rfl, Nat.le_refl _, fun j u hu => by rw [← hl] at hu; simp [World.cell?, h]; simpa using hu⟩⟩
def aw0 : Nat → Option Int := fun _ => none
def aw1 : Nat → Option Int := slUp aw0 1 (some 0)
def aw2 : Nat → Option Int := slWake aw1 0
theorem aw2_two : lockE ⟨1, false, 0, aw2⟩ 1 = 0 := by decide

set_option maxRecDepth 100000 in
set_option maxHeartbeats 1000000 in
theorem awake14 (w : World) : Calls Try.prog 13 #[] w fun e w' => e = .returned (.bool true) ∧ Below w.heap.size w w' := by
  have w1 : (Lit.int .i64 1).wf = true := by decide
  have w2 : (Lit.int .i64 2).wf = true := by decide
  have w0 : (Lit.int .i64 0).wf = true := by decide
  go_enter Try.func13, Try.ntmps13
  go_wp2_with fail
  refine (made14_ok _ 1 (by decide) (by decide)).mono ?_
  rintro e wa ⟨r, rfl, hLa, hBa⟩
  go_wp2_with fail
  refine (lock_to hLa 1 w1 (by decide) 0 ⟨1, true, 1, aw0⟩ ⟨[], [], [⟨1, 8, 0⟩]⟩ (by decide) rfl rfl).mono ?_
  rintro e wb ⟨rfl, hLb, hBb⟩
  replace hBb := hBa.trans hBb
  clear hBa hLa
  go_wp2_with fail
  refine (lock_to hLb 2 w2 (by decide) 140 ⟨1, true, 1, aw0⟩ ⟨[], [], [⟨1, 8, 0⟩]⟩ (by decide) rfl rfl).mono ?_
  rintro e wc ⟨rfl, hLc, hBc⟩
  replace hBc := hBb.trans hBc
  clear hBb hLb
  go_wp2_with fail
  refine (wait_to hLc 1 0 w0 (by decide) 0 ⟨1, false, 0, aw1⟩ ⟨[], [], [⟨1, 8, 0⟩, ⟨1, 9, 0⟩]⟩ (by decide) rfl rfl).mono ?_
  rintro e wd ⟨rfl, hLd, hBd⟩
  replace hBd := hBc.trans hBd
  clear hBc hLc
  go_wp2_with fail
  refine (lock_to hLd 1 w1 (by decide) 142 ⟨1, false, 0, aw1⟩ ⟨[], [], [⟨1, 8, 0⟩, ⟨1, 9, 0⟩]⟩ (by decide) rfl rfl).mono ?_
  rintro e we ⟨rfl, hLe, hBe⟩
  replace hBe := hBd.trans hBe
  clear hBd hLd
  go_wp2_with fail
  refine (lock_to hLe 2 w2 (by decide) 0 ⟨1, true, 2, aw1⟩ ⟨[], [], [⟨1, 8, 0⟩, ⟨1, 9, 0⟩, ⟨2, 8, 0⟩]⟩ (by decide) rfl rfl).mono ?_
  rintro e wf ⟨rfl, hLf, hBf⟩
  replace hBf := hBe.trans hBf
  clear hBe hLe
  go_wp2_with fail
  refine (wake_to hLf 2 0 1 0 ⟨1, true, 2, aw2⟩ (by decide) (by decide) rfl).mono ?_
  rintro e wg ⟨rfl, hLg, hBg⟩
  replace hBg := hBf.trans hBg
  clear hBf hLf
  go_wp2_with fail
  refine (unlock_to hLg 2 (by decide) 0 ⟨1, false, 0, aw2⟩ ⟨[], [], [⟨1, 8, 0⟩, ⟨1, 9, 0⟩, ⟨2, 8, 0⟩, ⟨2, 9, 0⟩]⟩ (by decide) rfl rfl).mono ?_
  rintro e wh ⟨rfl, hLh, hBh⟩
  replace hBh := hBg.trans hBh
  clear hBg hLg
  go_wp2_with fail
  refine (lock_to hLh 1 w1 (by decide) 0 ⟨1, true, 1, aw2⟩ ⟨[], [], [⟨1, 8, 0⟩, ⟨1, 9, 0⟩, ⟨2, 8, 0⟩, ⟨2, 9, 0⟩, ⟨1, 8, 0⟩]⟩ (by decide) rfl rfl).mono ?_
  rintro e wi ⟨rfl, hLi, hBi⟩
  replace hBi := hBh.trans hBi
  clear hBh hLh
  go_wp2_with fail
  refine (unlock_to hLi 2 (by decide) 141 ⟨1, true, 1, aw2⟩ ⟨[], [], [⟨1, 8, 0⟩, ⟨1, 9, 0⟩, ⟨2, 8, 0⟩, ⟨2, 9, 0⟩, ⟨1, 8, 0⟩]⟩ (by decide) rfl rfl).mono ?_
  rintro e wj ⟨rfl, hLj, hBj⟩
  replace hBj := hBi.trans hBj
  clear hBi hLi
  go_wp2_with fail
  refine (holder_to hLj 1 true rfl rfl).mono ?_
  rintro e w' ⟨rfl, rfl⟩
  go_wp2_with (first | (go_at_call 15; refine (newL_nil 1).mono ?_; rintro e w' ⟨rfl, rfl⟩) | (go_at_call 9; refine (ltrace_w hLj (by decide)).mono ?_; rintro e wk ⟨vk, rfl, hrk, hBk⟩; replace hBk := hBj.trans (hBk.mono hBj.size)) | (go_at_call 31; refine (acc14 _ _ _).mono ?_; rintro e w' ⟨rfl, rfl⟩))
  obtain ⟨hB8, hS8⟩ := allocs6 wk (.cells #[.int .i64 1, .int .u8 8, .int .i64 0] 38) (.cells #[.int .i64 1, .int .u8 9, .int .i64 0] 38) (.cells #[.int .i64 2, .int .u8 8, .int .i64 0] 38) (.cells #[.int .i64 2, .int .u8 9, .int .i64 0] 38) (.cells #[.int .i64 1, .int .u8 8, .int .i64 0] 38)
    (.cells #[.int .i64 1, .int .u8 8, .int .i64 0, .int .i64 1, .int .u8 9, .int .i64 0, .int .i64 2, .int .u8 8, .int .i64 0, .int .i64 2, .int .u8 9, .int .i64 0, .int .i64 1, .int .u8 8, .int .i64 0] 38)
  have hR8 := hrk.reads.below hB8
  have hR9 := reads_accs hS8 [⟨1, 8, 0⟩, ⟨1, 9, 0⟩, ⟨2, 8, 0⟩, ⟨2, 9, 0⟩, ⟨1, 8, 0⟩] rfl
  have hB9 := hBk.trans (hB8.mono hBk.size)
  clear hS8 hB8 hBk hrk
  go_wp2_with (first | (go_at_call 27; refine (lowTrace _ _ _ _ [⟨1, 8, 0⟩, ⟨1, 9, 0⟩, ⟨2, 8, 0⟩, ⟨2, 9, 0⟩, ⟨1, 8, 0⟩] hR8 hR9 (by decide)).mono ?_; rintro e wl ⟨rfl, hql⟩))
  go_ret
  exact ⟨rfl, hB9.trans (hql.below _)⟩

end Go.Proofs.Ytncfbccihofaoaa
