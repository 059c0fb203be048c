/-
  Walk of the reference's product bit by bit. Conditions: the numbers fit their bits.
-/
import Derived.Test.YtbgppkgcdmpajaaBitsB
namespace Go.Proofs.Ytbgppkgcdmpajaa
open Go.RowKit
set_option linter.unusedVariables false

theorem bits_add_mod (a b n : Nat) : bitsOf (a % 2 ^ n + b % 2 ^ n) n = bitsOf ((a + b) % 2 ^ n) n := by
  rw [← bitsOf_mod (a % 2 ^ n + b % 2 ^ n), ← Nat.add_mod]

end Go.Proofs.Ytbgppkgcdmpajaa
