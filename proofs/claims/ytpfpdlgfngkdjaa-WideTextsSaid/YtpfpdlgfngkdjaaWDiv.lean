/-
  Walk of wide.Div. Conditions: the divisor fits 64 bits.
-/
import Derived.Test.YtpfpdlgfngkdjaaDivW
import Derived.Test.YtpfpdlgfngkdjaaShl
import Derived.Test.YtpfpdlgfngkdjaaBoxB
namespace Go.Proofs.Ytpfpdlgfngkdjaa
open Go.RowKit Go.Shelf
set_option linter.unusedVariables false

theorem div2_hi (X b : Nat) (hb : 0 < b) : hi64 (m128 X / b) = hi64 X / b := by
  have h1 : m128 X / b / 18446744073709551616 = hi64 X / b := by
    rw [Nat.div_div_eq_div_mul, Nat.mul_comm, ← Nat.div_div_eq_div_mul]
    congr 1
    unfold m128 hi64
    omega
  unfold hi64 at *
  rw [h1, Nat.mod_eq_of_lt]
  exact Nat.lt_of_le_of_lt (Nat.div_le_self _ _) (Nat.mod_lt _ (by omega))
theorem lo_keep {q h : Nat} (hq : q < 18446744073709551616) : q = lo64 (q + h * 18446744073709551616) := by unfold lo64; omega
theorem two_part (hi lo b : Nat) : hi * 18446744073709551616 + lo = (hi % b * 18446744073709551616 + lo) + b * (hi / b * 18446744073709551616) := by
  have h2 : hi * 18446744073709551616 = b * (hi / b * 18446744073709551616) + hi % b * 18446744073709551616 := by
    rw [← Nat.mul_assoc, ← Nat.add_mul, Nat.div_add_mod]
  rw [h2]
  generalize b * (hi / b * 18446744073709551616) = p
  generalize hi % b * 18446744073709551616 = q
  omega
theorem div2_all (X b : Nat) (hb : 0 < b) : (hi64 X % b * 18446744073709551616 + lo64 X) / b = lo64 (m128 X / b) ∧ (hi64 X % b * 18446744073709551616 + lo64 X) % b = m128 X % b := by
  have e : m128 X = hi64 X * 18446744073709551616 + lo64 X := (val2_of X).symm
  have h1 := Nat.div_add_mod (hi64 X) b
  have e2 : m128 X = (hi64 X % b * 18446744073709551616 + lo64 X) + b * (hi64 X / b * 18446744073709551616) := by
    rw [e]
    exact two_part _ _ _
  have hlt : hi64 X % b * 18446744073709551616 + lo64 X < b * 18446744073709551616 := by
    have h2 : (hi64 X % b + 1) * 18446744073709551616 ≤ b * 18446744073709551616 := Nat.mul_le_mul_right _ (Nat.mod_lt _ hb)
    have := lo64_lt X
    omega
  have hq : (hi64 X % b * 18446744073709551616 + lo64 X) / b < 18446744073709551616 := Nat.div_lt_of_lt_mul hlt
  constructor
  · rw [e2, Nat.add_mul_div_left _ _ hb]
    exact lo_keep hq
  · rw [e2, Nat.add_mul_mod_self_left]
end Go.Proofs.Ytpfpdlgfngkdjaa
