/-
  Walks of ranges.Check, Reduce, up, First, Count, Rank, Unrank. Conditions: numbers fit 64 bits.
-/
import Derived.Test.YtpfpdlgfngkdjaaRngM
namespace Go.Proofs.Ytpfpdlgfngkdjaa
open Go.RowKit Go.Shelf
set_option linter.unusedVariables false

theorem field_lo' (h l : Nat) (W : World) : (Instr.field 38 (.agg #[.int .u64 h, .int .u64 l]) 1).run Try.prog W = .ok (.int .u64 l) W := by kernel_rfl
theorem hi_low {x : Nat} (h : x < 18446744073709551616) : hi64 x = 0 := by unfold hi64; omega
theorem lo_low {x : Nat} (h : x < 18446744073709551616) : lo64 x = x := by unfold lo64; omega
theorem m128_low {x : Nat} (h : x < 18446744073709551616) : m128 x = x := by unfold m128; omega
theorem shr_low (x : Nat) (k : Int) (hx : x < 18446744073709551616) (hk : k ≤ 64) (w : World) : Calls Try.prog 38 #[.agg #[.int .u64 0, .int .u64 x], .int .i64 k] w fun e w' => e = .returned (.agg #[.int .u64 0, .int .u64 (x / 2 ^ k.toNat : Nat)]) ∧ Below w.heap.size w w' := by
  have h := shr_i x k (by omega) w
  rw [hi_low hx, lo_low hx, m128_low hx] at h
  refine h.mono fun e w' hh => ?_
  unfold Ret128 at hh
  have hq : x / 2 ^ k.toNat < 18446744073709551616 := Nat.lt_of_le_of_lt (Nat.div_le_self _ _) hx
  rw [hi_low hq, lo_low hq] at hh
  exact hh
theorem prod_m {a b : Nat} (ha : a < 18446744073709551616) (hb : b < 18446744073709551616) : a * b < 340282366920938463463374607431768211456 :=
  Nat.lt_of_lt_of_le (Nat.mul_lt_mul_of_lt_of_lt ha hb) (by omega)
theorem pow_le_64 {k : Int} (hk : k ≤ 64) : 2 ^ k.toNat ≤ 18446744073709551616 := by
  have : (2 : Nat) ^ k.toNat ≤ 2 ^ 64 := Nat.pow_le_pow_right (by omega) (by omega)
  exact this
/-- What Reduce hands back: the value and the error's number. -/
def redV (x : Nat) (k : Int) (m : Nat) : Nat := if chkR k m = 0 ∧ x < 2 ^ k.toNat then rdV x k.toNat m else 0
def redE (x : Nat) (k : Int) (m : Nat) : Int := if chkR k m = 0 then (if x < 2 ^ k.toNat then 0 else 2) else chkR k m
theorem addw_one (X : Nat) (w : World) : Calls Try.prog 39 #[.agg #[.int .u64 (hi64 (X) : Nat), .int .u64 (lo64 (X) : Nat)], .agg #[.int .u64 0, .int .u64 1]] w fun e w' => ∃ c : Bool, e = .returned (.tuple #[.agg #[.int .u64 (hi64 (X + 1) : Nat), .int .u64 (lo64 (X + 1) : Nat)], .bool c]) ∧ Below w.heap.size w w' := by
  have h := addw_u X 1 w
  rw [show hi64 1 = 0 by decide, show lo64 1 = 1 by decide] at h
  exact h.mono fun e w' ⟨he, hh⟩ => ⟨_, he, hh⟩
/-- What First hands back: the number and the error's number. -/
def fstN (v : Nat) (k : Int) (m : Nat) : Nat := if chkR k m = 0 ∧ v ≤ m then fstV v k.toNat m else 0
def fstE (v : Nat) (k : Int) (m : Nat) : Int := if chkR k m = 0 then (if v ≤ m then 0 else 2) else chkR k m
end Go.Proofs.Ytpfpdlgfngkdjaa
