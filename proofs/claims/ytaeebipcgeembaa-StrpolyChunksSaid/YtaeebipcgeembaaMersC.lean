/-
  Walks of the fields' powers and inverses, and of the reference's. Conditions: numbers fit 64 bits.
-/
import Derived.Test.YtaeebipcgeembaaMersB
import Derived.Test.YtaeebipcgeembaaModR
namespace Go.Proofs.Ytaeebipcgeembaa
open Go.RowKit Go.Shelf
set_option linter.unusedVariables false

theorem head_mersc : 0 = 0 := rfl
theorem pow_odd {a b n o T : Nat} (h : o * a ^ b % n = T) (hb : b % 2 = 1) : o * a % n * (a * a % n) ^ (b / 2) % n = T := by
  have e : o * a ^ b = o * a * (a * a) ^ (b / 2) := by
    conv => lhs; rw [← Nat.div_add_mod b 2, hb, Nat.pow_succ, Nat.pow_mul, Nat.pow_two]
    rw [Nat.mul_comm ((a * a) ^ (b / 2)), ← Nat.mul_assoc]
  rw [← h, e, Nat.mul_mod, Nat.mod_mod, Nat.pow_mod, Nat.mod_mod, ← Nat.pow_mod, ← Nat.mul_mod]
theorem pow_even {a b n o T : Nat} (h : o * a ^ b % n = T) (hb : b % 2 = 0) : o * (a * a % n) ^ (b / 2) % n = T := by
  have e : o * a ^ b = o * (a * a) ^ (b / 2) := by
    conv => lhs; rw [← Nat.div_add_mod b 2, hb, Nat.add_zero, Nat.pow_mul, Nat.pow_two]
  rw [← h, e, Nat.mul_mod, Nat.pow_mod, Nat.mod_mod, ← Nat.pow_mod, ← Nat.mul_mod]
theorem mulf_f (k : Int) (f p : Nat) (hF : IsF f p) (hk : fld k = (f : Int)) (hp : prm k = p) (a b : Nat) (ha : a < 18446744073709551616) (hb : b < 18446744073709551616) (w : World) :
    Calls Try.prog 46 #[.int .i64 f, .int .u64 a, .int .u64 b] w fun e w' => e = .returned (.int .u64 (a * b % p : Nat)) ∧ Below w.heap.size w w' := by
  have h := mulf_any k a b ha hb w
  have h0 := (isF_facts hF).2.2.2.1
  rw [hk, hp, mdn_pos (by omega)] at h
  exact h
end Go.Proofs.Ytaeebipcgeembaa
