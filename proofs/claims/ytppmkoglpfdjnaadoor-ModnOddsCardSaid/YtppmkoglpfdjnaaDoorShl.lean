/-
  Walks of wide.Shr and wide.Shl by any number of bits. Conditions: none.
-/
import Derived.Test.YtppmkoglpfdjnaaDoorShr
namespace Go.Proofs.YtppmkoglpfdjnaaDoor
open Go.RowKit Go.Shelf
set_option linter.unusedVariables false

theorem Ret128.same {w : World} {a b : Nat} (h1 : hi64 a = hi64 b) (h2 : lo64 a = lo64 b) {e : Ending} {w' : World} (hr : Ret128 w a e w') : Ret128 w b e w' := by
  obtain ⟨he, hb⟩ := hr
  exact ⟨by rw [he, h1, h2], hb⟩
theorem shr_hi2 (X j : Nat) : ((hi64 X : Nat) : Int) / 2 ^ j = ((lo64 (m128 X / 2 ^ (j + 64)) : Nat) : Int) := by
  have e : ((hi64 X : Nat) : Int) / 2 ^ j = ((hi64 X / 2 ^ j : Nat) : Int) := by rw [Int.natCast_ediv, Int.natCast_pow]; rfl
  rw [e]
  congr 1
  have h3 : hi64 X / 2 ^ j < 18446744073709551616 := Nat.lt_of_le_of_lt (Nat.div_le_self _ _) (hi64_lt X)
  have h4 : m128 X / 2 ^ (j + 64) = hi64 X / 2 ^ j := by
    rw [Nat.pow_add, Nat.mul_comm, ← Nat.div_div_eq_div_mul]
    congr 1
    unfold m128 hi64
    rw [show (2 : Nat) ^ 64 = 18446744073709551616 by decide]
    omega
  rw [h4]
  unfold lo64
  rw [Nat.mod_eq_of_lt h3]
theorem hi_shr2 (X j : Nat) : hi64 (m128 X / 2 ^ (j + 64)) = 0 := by
  have h1 : m128 X / 2 ^ (j + 64) < 18446744073709551616 := by
    refine Nat.div_lt_of_lt_mul (Nat.lt_of_lt_of_le (m128_lt X) ?_)
    rw [Nat.pow_add, show (340282366920938463463374607431768211456 : Nat) = 1 * 2 ^ 64 * 18446744073709551616 by decide]
    exact Nat.mul_le_mul_right _ (Nat.mul_le_mul_right _ (Nat.one_le_two_pow))
  unfold hi64
  rw [Nat.div_eq_of_lt h1, Nat.zero_mod]
theorem shr_none (X k : Nat) (h : 128 ≤ k) : m128 X / 2 ^ k = 0 := by
  refine Nat.div_eq_of_lt (Nat.lt_of_lt_of_le (m128_lt X) ?_)
  rw [show (340282366920938463463374607431768211456 : Nat) = 2 ^ 128 by decide]
  exact Nat.pow_le_pow_right (by omega) h
theorem shl_hi (X k j : Nat) (h1 : k < 64) (hj : j = 64 - k) : bits .or .u64 (IntKind.u64.wrap (((hi64 X : Nat) : Int) * 2 ^ k)) (((lo64 X : Nat) : Int) / 2 ^ j) = ((hi64 (X * 2 ^ k) : Nat) : Int) := by
  have e : ((lo64 X : Nat) : Int) / 2 ^ j = ((lo64 X / 2 ^ j : Nat) : Int) := by rw [Int.natCast_ediv, Int.natCast_pow]; rfl
  have e2 : IntKind.u64.wrap (((hi64 X : Nat) : Int) * 2 ^ k) = ((hi64 X * 2 ^ k % 18446744073709551616 : Nat) : Int) := by
    rw [← u64_of]
    congr 1
  have h64 : (18446744073709551616 : Nat) = 2 ^ k * 2 ^ j := by rw [← Nat.pow_add, hj, show k + (64 - k) = 64 by omega]
  have hl : lo64 X / 2 ^ j < 2 ^ k := by
    refine Nat.div_lt_of_lt_mul ?_
    have := lo64_lt X
    rw [Nat.mul_comm]
    omega
  have hm : hi64 X * 2 ^ k % 18446744073709551616 = 2 ^ k * (X / 18446744073709551616 % 2 ^ j) := by
    rw [h64, Nat.mul_comm (hi64 X), Nat.mul_mod_mul_left, ← h64]
    congr 1
    unfold hi64
    refine Nat.mod_mod_of_dvd _ ?_
    rw [h64]
    exact Nat.dvd_mul_left _ _
  rw [e, e2, bits_or_u64_nat _ _ (Nat.mod_lt _ (by omega)) (Nat.lt_of_le_of_lt (Nat.div_le_self _ _) (lo64_lt X)), hm, ← Nat.two_pow_add_eq_or_of_lt hl]
  congr 1
  unfold hi64
  have h5 : X * 2 ^ k / 18446744073709551616 = X / 2 ^ j := by rw [h64, Nat.mul_comm X, Nat.mul_div_mul_left _ _ (Nat.two_pow_pos k)]
  have h6 : X / 2 ^ j = lo64 X / 2 ^ j + 2 ^ k * (X / 18446744073709551616) := by
    have e3 : X = lo64 X + 2 ^ j * (2 ^ k * (X / 18446744073709551616)) := by rw [← Nat.mul_assoc, Nat.mul_comm (2 ^ j), ← h64]; unfold lo64; omega
    conv => lhs; rw [e3]
    rw [Nat.add_mul_div_left _ _ (Nat.two_pow_pos j)]
  rw [h5, h6]
  generalize X / 18446744073709551616 = u
  generalize lo64 X / 2 ^ j = d at *
  have h7 : d + 2 ^ k * u = d + 2 ^ k * (u % 2 ^ j) + 18446744073709551616 * (u / 2 ^ j) := by
    conv => lhs; rw [← Nat.mod_add_div u (2 ^ j), Nat.mul_add, ← Nat.mul_assoc, ← h64, ← Nat.add_assoc]
  have h8 : 2 ^ k * (u % 2 ^ j) + 2 ^ k ≤ 2 ^ k * 2 ^ j := by rw [← Nat.mul_succ]; exact Nat.mul_le_mul_left _ (Nat.mod_lt _ (Nat.two_pow_pos j))
  have h10 : d + 2 ^ k * (u % 2 ^ j) < 18446744073709551616 := by omega
  have h9 : (d + 2 ^ k * u) % 18446744073709551616 = 2 ^ k * (u % 2 ^ j) + d := by rw [h7, Nat.add_mul_mod_self_left, Nat.mod_eq_of_lt h10, Nat.add_comm]
  exact h9.symm
theorem shl_lo (X k : Nat) : IntKind.u64.wrap (((lo64 X : Nat) : Int) * 2 ^ k) = ((lo64 (X * 2 ^ k) : Nat) : Int) := by
  have e2 : IntKind.u64.wrap (((lo64 X : Nat) : Int) * 2 ^ k) = ((lo64 X * 2 ^ k % 18446744073709551616 : Nat) : Int) := by
    rw [← u64_of]
    congr 1
  rw [e2]
  unfold lo64
  rw [Nat.mul_mod, Nat.mod_mod, ← Nat.mul_mod]
theorem shl_hi2 (X j : Nat) : lo64 (X * 2 ^ j) = hi64 (X * 2 ^ (j + 64)) := by
  unfold hi64 lo64
  rw [Nat.pow_add, ← Nat.mul_assoc, show (2 : Nat) ^ 64 = 18446744073709551616 by decide, Nat.mul_div_cancel _ (by omega)]
theorem lo_shl2 (X j : Nat) : lo64 (X * 2 ^ (j + 64)) = 0 := by
  unfold lo64
  rw [Nat.pow_add, ← Nat.mul_assoc, show (2 : Nat) ^ 64 = 18446744073709551616 by decide, Nat.mul_mod_left]
end Go.Proofs.YtppmkoglpfdjnaaDoor
