/-
  Plain facts on dividing a number of three digits of 32 bits by one of two (Knuth's way, one digit of the quotient). Conditions: as each says.
-/
import Derived.WalkKit
namespace Go.Proofs.YtppmkoglpfdjnaaDoor
set_option linter.unusedVariables false

/-- What is known of a guess q of the digit and of its rest r, behind each round. -/
def KI (U v1 v0 d q r : Nat) : Prop := q * v1 + r = U ∧ (U * 4294967296 + d) / (v1 * 4294967296 + v0) ≤ q ∧ q ≤ 4294967297
theorem kn_lt {U v1 v0 d : Nat} (hU : U < v1 * 4294967296 + v0) (hd : d < 4294967296) : (U * 4294967296 + d) / (v1 * 4294967296 + v0) < 4294967296 := by
  refine Nat.div_lt_of_lt_mul ?_
  have h : (U + 1) * 4294967296 ≤ (v1 * 4294967296 + v0) * 4294967296 := Nat.mul_le_mul_right _ hU
  omega
theorem kn_start {U v1 v0 d : Nat} (hv1 : 2147483648 ≤ v1) (hv0 : v0 < 4294967296) (hU : U < v1 * 4294967296 + v0) (hd : d < 4294967296) : KI U v1 v0 d (U / v1) (U % v1) := by
  refine ⟨by rw [Nat.mul_comm]; exact Nat.div_add_mod U v1, ?_, ?_⟩
  · refine Nat.le_of_lt_succ (Nat.div_lt_of_lt_mul ?_)
    have h1 := Nat.div_add_mod U v1
    have h2 := Nat.mod_lt U (by omega : 0 < v1)
    have h3 : U + 1 ≤ v1 * (U / v1 + 1) := by rw [Nat.mul_add, Nat.mul_one]; omega
    have h4 : (U + 1) * 4294967296 ≤ v1 * (U / v1 + 1) * 4294967296 := Nat.mul_le_mul_right _ h3
    have h5 : v1 * (U / v1 + 1) * 4294967296 ≤ (v1 * 4294967296 + v0) * (U / v1).succ := by
      rw [Nat.succ_eq_add_one, Nat.mul_right_comm]
      exact Nat.mul_le_mul_right _ (Nat.le_add_right _ _)
    omega
  · refine Nat.le_of_lt_succ (Nat.div_lt_of_lt_mul ?_)
    rw [Nat.succ_eq_add_one, Nat.mul_comm]
    omega
theorem kn_more {U v1 v0 d q r : Nat} (hv1 : 2147483648 ≤ v1) (hU : U < v1 * 4294967296 + v0) (hd : d < 4294967296) (h : KI U v1 v0 d q r) (ht : 4294967296 ≤ q ∨ 4294967296 * r + d < q * v0) : 1 ≤ q ∧ KI U v1 v0 d (q - 1) (r + v1) ∧ q - 1 ≤ 4294967296 := by
  obtain ⟨h1, h2, h3⟩ := h
  have hlt : (U * 4294967296 + d) / (v1 * 4294967296 + v0) < q := by
    rcases ht with ht | ht
    · exact Nat.lt_of_lt_of_le (kn_lt hU hd) ht
    · refine Nat.div_lt_of_lt_mul ?_
      have e1 : (v1 * 4294967296 + v0) * q = q * v1 * 4294967296 + q * v0 := by grind
      have e2 : U * 4294967296 = q * v1 * 4294967296 + r * 4294967296 := by rw [← h1, Nat.add_mul]
      rw [e1, e2]
      omega
  have hq0 : 0 < q := Nat.lt_of_le_of_lt (Nat.zero_le _) hlt
  obtain ⟨p, rfl⟩ : ∃ p, q = p + 1 := ⟨q - 1, by omega⟩
  refine ⟨Nat.le_add_left _ _, ⟨?_, by rw [Nat.add_sub_cancel]; exact Nat.le_of_lt_succ hlt, by rw [Nat.add_sub_cancel]; exact Nat.le_of_succ_le h3⟩, by rw [Nat.add_sub_cancel]; exact Nat.le_of_succ_le_succ h3⟩
  rw [← h1, Nat.add_sub_cancel, Nat.add_mul, Nat.one_mul]
  omega
theorem kn_le {U v1 v0 d q r : Nat} (hv1 : 2147483648 ≤ v1) (h : KI U v1 v0 d q r) (ht : q * v0 ≤ 4294967296 * r + d) : q = (U * 4294967296 + d) / (v1 * 4294967296 + v0) := by
  obtain ⟨h1, h2, h3⟩ := h
  refine Nat.le_antisymm ?_ h2
  rw [Nat.le_div_iff_mul_le (by omega), ← h1, Nat.add_mul, Nat.mul_add]
  have e1 : q * (v1 * 4294967296) = q * v1 * 4294967296 := by rw [Nat.mul_assoc]
  omega
theorem kn_break {U v1 v0 d q r : Nat} (hv1 : 2147483648 ≤ v1) (hv0 : v0 < 4294967296) (h : KI U v1 v0 d q r) (hq : q ≤ 4294967296) (hr : 4294967296 ≤ r) : q = (U * 4294967296 + d) / (v1 * 4294967296 + v0) := by
  refine kn_le hv1 h ?_
  have : q * v0 ≤ 4294967296 * v0 := Nat.mul_le_mul_right _ hq
  omega
theorem kn_small {q v0 : Nat} (hq : q ≤ 4294967297) (hv0 : v0 < 4294967296) : q * v0 < 18446744073709551616 :=
  Nat.lt_of_le_of_lt (Nat.mul_le_mul hq (Nat.le_of_lt_succ (by omega : v0 < 4294967295 + 1))) (by decide)
/-- The rest of one digit's division, as the words of 64 bits have it. -/
theorem kn_rest (U d Y a1 a2 a3 : Nat) (hY : 0 < Y) (hY2 : Y ≤ 18446744073709551616) (h1 : a1 = U * 4294967296 % 18446744073709551616) (h2 : a2 = (a1 + d) % 18446744073709551616) (h3 : a3 = (U * 4294967296 + d) / Y * Y % 18446744073709551616) :
    (a2 + 18446744073709551616 - a3) % 18446744073709551616 = (U * 4294967296 + d) % Y := by
  have h := Nat.div_add_mod (U * 4294967296 + d) Y
  have hr := Nat.mod_lt (U * 4294967296 + d) hY
  rw [Nat.mul_comm Y] at h
  obtain ⟨P, hP⟩ : ∃ P, P = (U * 4294967296 + d) / Y * Y := ⟨_, rfl⟩
  obtain ⟨R, hR⟩ : ∃ R, R = (U * 4294967296 + d) % Y := ⟨_, rfl⟩
  rw [← hP] at h3 h
  rw [← hR] at h hr ⊢
  omega
/-- Both digits together. -/
theorem kn_both {hi lo y s : Nat} (hy : 0 < y) {U u10 d1 d0 Y R1 : Nat} (hN : (hi * 18446744073709551616 + lo) * 2 ^ s = U * 18446744073709551616 + u10) (hu : u10 = d1 * 4294967296 + d0) (hY : Y = y * 2 ^ s) (hR : R1 = (U * 4294967296 + d1) % Y) :
    (U * 4294967296 + d1) / Y * 4294967296 + (R1 * 4294967296 + d0) / Y = (hi * 18446744073709551616 + lo) / y ∧ (R1 * 4294967296 + d0) % Y / 2 ^ s = (hi * 18446744073709551616 + lo) % y := by
  have hp := Nat.two_pow_pos s
  have hYp : 0 < Y := by rw [hY]; exact Nat.mul_pos hy hp
  have h1 := Nat.div_add_mod (U * 4294967296 + d1) Y
  have h2 := Nat.div_add_mod (R1 * 4294967296 + d0) Y
  have hr := Nat.mod_lt (R1 * 4294967296 + d0) hYp
  rw [← hR] at h1
  obtain ⟨Q1, hQ1⟩ : ∃ Q1, Q1 = (U * 4294967296 + d1) / Y := ⟨_, rfl⟩
  obtain ⟨Q0, hQ0⟩ : ∃ Q0, Q0 = (R1 * 4294967296 + d0) / Y := ⟨_, rfl⟩
  obtain ⟨R0, hR0⟩ : ∃ R0, R0 = (R1 * 4294967296 + d0) % Y := ⟨_, rfl⟩
  obtain ⟨N, hNN⟩ : ∃ N, N = hi * 18446744073709551616 + lo := ⟨_, rfl⟩
  rw [← hQ1] at h1 ⊢
  rw [← hQ0, ← hR0] at h2
  rw [← hR0] at hr
  rw [← hQ0, ← hR0]
  rw [← hNN] at hN ⊢
  have e : N * 2 ^ s = Y * (Q1 * 4294967296 + Q0) + R0 := by
    have e3 : Y * (Q1 * 4294967296 + Q0) = Y * Q1 * 4294967296 + Y * Q0 := by grind
    rw [hN, hu, e3]
    omega
  have e1 : (Q1 * 4294967296 + Q0) = N * 2 ^ s / Y := by rw [e, Nat.mul_add_div hYp, Nat.div_eq_of_lt hr, Nat.add_zero]
  have e2 : R0 = N * 2 ^ s % Y := by rw [e, Nat.mul_add_mod, Nat.mod_eq_of_lt hr]
  constructor
  · rw [e1, hY, Nat.mul_div_mul_right _ _ hp]
  · rw [e2, hY, Nat.mul_mod_mul_right, Nat.mul_div_cancel _ hp]
/-- The words of a number that is shifted to the left, so that the divisor's highest bit is set. -/
theorem kn_shift {hi lo s j : Nat} (hs : s + j = 64) (hlo : lo < 18446744073709551616) : (hi * 18446744073709551616 + lo) * 2 ^ s = (hi * 2 ^ s + lo / 2 ^ j) * 18446744073709551616 + lo * 2 ^ s % 18446744073709551616 := by
  have h64 : (18446744073709551616 : Nat) = 2 ^ s * 2 ^ j := by rw [← Nat.pow_add, hs]
  have h1 := Nat.div_add_mod lo (2 ^ j)
  have h2 := Nat.mod_lt lo (Nat.two_pow_pos j)
  have h3 : lo * 2 ^ s % 18446744073709551616 = 2 ^ s * (lo % 2 ^ j) := by rw [h64, Nat.mul_comm lo, Nat.mul_mod_mul_left]
  rw [h3, Nat.add_mul, Nat.add_mul, Nat.mul_right_comm hi]
  have h4 : lo * 2 ^ s = lo / 2 ^ j * 18446744073709551616 + 2 ^ s * (lo % 2 ^ j) := by
    conv => lhs; rw [← h1]
    rw [h64, Nat.add_mul]
    grind
  omega
theorem kn_or {hi lo s j : Nat} (hs : s + j = 64) (hlo : lo < 18446744073709551616) (hhi : hi * 2 ^ s < 18446744073709551616) : hi * 2 ^ s ||| lo / 2 ^ j = hi * 2 ^ s + lo / 2 ^ j := by
  have h64 : (18446744073709551616 : Nat) = 2 ^ j * 2 ^ s := by rw [← Nat.pow_add, Nat.add_comm, hs]
  have hl : lo / 2 ^ j < 2 ^ s := Nat.div_lt_of_lt_mul (by omega)
  rw [Nat.mul_comm hi, ← Nat.two_pow_add_eq_or_of_lt hl]
end Go.Proofs.YtppmkoglpfdjnaaDoor
