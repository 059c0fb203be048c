/-
  Walks of wide.Times and wide.Shl. Conditions: words fit 64 bits.
-/
import Derived.Test.YtaeebipcgeembaaWideA
namespace Go.Proofs.Ytaeebipcgeembaa
open Go.RowKit Go.Shelf
set_option linter.unusedVariables false

theorem u64_of (n : Nat) : IntKind.u64.wrap (n : Int) = ((n % 18446744073709551616 : Nat) : Int) := by rw [IntKind.wrap_u64]; omega
theorem times_hi (ah al bh bl : Nat) : (hi64 (al * bl) + (ah * bl % 18446744073709551616 + al * bh % 18446744073709551616) % 18446744073709551616) % 18446744073709551616 = hi64 (val2 ah al * val2 bh bl) := by
  have e : val2 ah al * val2 bh bl = (ah * bh * 18446744073709551616 + (ah * bl + al * bh)) * 18446744073709551616 + al * bl := by
    unfold val2
    rw [Nat.add_mul, Nat.mul_add, Nat.mul_add]
    have e1 : ah * 18446744073709551616 * (bh * 18446744073709551616) = ah * bh * 18446744073709551616 * 18446744073709551616 := by
      rw [Nat.mul_assoc, Nat.mul_left_comm 18446744073709551616 bh, ← Nat.mul_assoc, Nat.mul_assoc (ah * bh)]
    have e2 : ah * 18446744073709551616 * bl = ah * bl * 18446744073709551616 := by rw [Nat.mul_right_comm]
    have e3 : al * (bh * 18446744073709551616) = al * bh * 18446744073709551616 := by rw [Nat.mul_assoc]
    rw [e1, e2, e3, Nat.add_mul, Nat.add_mul]
    omega
  rw [e]
  generalize ah * bh = p; generalize ah * bl = q; generalize al * bh = r; generalize al * bl = s
  unfold hi64
  omega
theorem times_lo (ah al bh bl : Nat) : lo64 (al * bl) = lo64 (val2 ah al * val2 bh bl) := by
  unfold lo64 val2
  rw [Nat.mul_mod (ah * 18446744073709551616 + al), Nat.mul_add_mod_self_right, Nat.mul_add_mod_self_right, ← Nat.mul_mod]

end Go.Proofs.Ytaeebipcgeembaa
