/-
  Walks of the reference's rows of bits, more: Word, To2, Cmp. Conditions: the numbers fit their bits.
-/
import Derived.Test.YtaeebipcgeembaaBits
namespace Go.Proofs.Ytaeebipcgeembaa
open Go.RowKit
set_option linter.unusedVariables false

theorem word_step (X m k : Nat) : X / 2 ^ m % 2 ^ (k + 1) = 2 * (X / 2 ^ (m + 1) % 2 ^ k) + bt X m := by
  unfold bt
  rw [Nat.pow_succ 2 m, ← Nat.div_div_eq_div_mul, Nat.pow_succ, Nat.mul_comm (2 ^ k) 2, Nat.mod_mul]
  omega

/-- 64 bits from 'f' on. -/
def wordV (X f : Nat) : Nat := X / 2 ^ f % 18446744073709551616

theorem word_hi (X : Nat) : wordV X 64 = hi64 X := rfl
theorem word_lo (X : Nat) : wordV X 0 = lo64 X := by unfold wordV lo64; simp
/-- Which of two is less. -/
def cmpV (X Y : Nat) : Int := if X < Y then -1 else if X = Y then 0 else 1
theorem cmp_less {X Y i : Nat} (h : X / 2 ^ (i + 1) = Y / 2 ^ (i + 1)) (hb : bt X i < bt Y i) : X < Y := by
  have e1 : X / 2 ^ i = 2 * (X / 2 ^ (i + 1)) + bt X i := by unfold bt; rw [Nat.pow_succ, ← Nat.div_div_eq_div_mul]; omega
  have e2 : Y / 2 ^ i = 2 * (Y / 2 ^ (i + 1)) + bt Y i := by unfold bt; rw [Nat.pow_succ, ← Nat.div_div_eq_div_mul]; omega
  have h3 : X / 2 ^ i < Y / 2 ^ i := by omega
  rcases Nat.lt_or_ge X Y with hlt | hge
  · exact hlt
  · have := Nat.div_le_div_right (c := 2 ^ i) hge
    omega
theorem cmp_same {X Y i : Nat} (h : X / 2 ^ (i + 1) = Y / 2 ^ (i + 1)) (hb : bt X i = bt Y i) : X / 2 ^ i = Y / 2 ^ i := by
  have e1 : X / 2 ^ i = 2 * (X / 2 ^ (i + 1)) + bt X i := by unfold bt; rw [Nat.pow_succ, ← Nat.div_div_eq_div_mul]; omega
  have e2 : Y / 2 ^ i = 2 * (Y / 2 ^ (i + 1)) + bt Y i := by unfold bt; rw [Nat.pow_succ, ← Nat.div_div_eq_div_mul]; omega
  omega

end Go.Proofs.Ytaeebipcgeembaa
