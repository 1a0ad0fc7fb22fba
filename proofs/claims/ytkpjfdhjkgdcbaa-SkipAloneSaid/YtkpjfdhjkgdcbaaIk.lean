/- Internal keys, as plain data; their order; their form. -/
import Derived.Test.YtkpjfdhjkgdcbaaCells

namespace Go.Proofs.Ytkpjfdhjkgdcbaa
open Go.RowKit

structure IK where
  key : ByteArray
  seq : Int
  kind : Int
  deriving DecidableEq
def IK.cells (k : IK) : List Value := [.string k.key, .int .u64 k.seq, .int .u8 k.kind]
structure En where
  k : IK
  val : ByteArray
  deriving DecidableEq
def En.cells (e : En) : List Value := [.string e.k.key, .int .u64 e.k.seq, .int .u8 e.k.kind, .string e.val]
def ik0 : IK := ⟨ByteArray.empty, 0, 0⟩
def cmpS (a b : ByteArray) : Int := if Go.Op.bytesLess a.toList b.toList then -1 else if a.toList == b.toList then 0 else 1
def cmpI (a b : Int) : Int := if a < b then -1 else if b < a then 1 else 0
def orI (a b c : Int) : Int := if a ≠ 0 then a else if b ≠ 0 then b else c
def IK.cmp (a b : IK) : Int := orI (cmpS a.key b.key) (cmpI b.seq a.seq) (cmpI b.kind a.kind)
/-- May a key be? -/
def IK.right (k : IK) : Bool := decide (1 ≤ k.key.size ∧ k.key.size ≤ 64 ∧ k.seq ≤ 72057594037927935 ∧ k.kind ≤ 1)
def En.right (e : En) : Bool := e.k.right && decide (e.val.size ≤ if e.k.kind = 0 then 0 else 256)
structure IK.Wf (k : IK) : Prop where
  s0 : 0 ≤ k.seq
  s1 : k.seq ≤ 18446744073709551615
  k0 : 0 ≤ k.kind
  k1 : k.kind ≤ 255
  n : k.key.size ≤ 9223372036854775807

/-- A number's bytes. -/
def vput (x : Nat) : List UInt8 := if h : x < 128 then [UInt8.ofNat x] else UInt8.ofNat (x % 128 + 128) :: vput (x / 128)
termination_by x
decreasing_by omega
theorem vput_small {x : Nat} (h : x < 128) : vput x = [UInt8.ofNat x] := by rw [vput, dif_pos h]
theorem vput_big {x : Nat} (h : ¬ x < 128) : vput x = UInt8.ofNat (x % 128 + 128) :: vput (x / 128) := by rw [vput, dif_neg h]
theorem vput_len (n : Nat) : ∀ x : Nat, x < 128 ^ (n + 1) → (vput x).length ≤ n + 1 := by
  induction n with
  | zero => intro x h; rw [vput_small (by simpa using h)]; simp
  | succ n ih =>
    intro x h
    by_cases hx : x < 128
    · rw [vput_small hx]; simp
    · rw [vput_big hx, List.length_cons]
      have := ih (x / 128) (by rw [Nat.pow_succ] at h; exact Nat.div_lt_of_lt_mul (by rw [Nat.mul_comm]; exact h))
      omega
theorem vput_pos (x : Nat) : 0 < (vput x).length := by rw [vput]; split <;> simp
/-- A key's bytes. -/
def encK (k : IK) : List UInt8 := UInt8.ofNat k.key.size :: k.key.toList ++ vput (k.seq * 2 + k.kind).toNat
end Go.Proofs.Ytkpjfdhjkgdcbaa
