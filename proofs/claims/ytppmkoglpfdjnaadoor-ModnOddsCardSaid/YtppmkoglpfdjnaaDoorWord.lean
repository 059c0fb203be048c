/-
  The library's sums and differences of 64 bits with a carry, and its product, as the walks take them; wide.Mul, Add, Sub, Times and Cmp. Conditions: numbers fit 64 bits; a carry is 0 or 1.
-/
import Derived.Test.YtppmkoglpfdjnaaDoorBase
import Derived.Test.YtppmkoglpfdjnaaDoorWordM
import Derived.Test.YtppmkoglpfdjnaaDoorShelf
import Derived.Shelf.Spec.BitsCarry
namespace Go.Proofs.YtppmkoglpfdjnaaDoor
open Go.RowKit Go.Shelf
set_option linter.unusedVariables false

theorem add64 (x y c : Nat) (hc : c ≤ 1) (w : World) : (callFunc 28 #[.int .u64 x, .int .u64 y, .int .u64 c]).run Tryd.prog w =
    .ok (.value (.tuple #[.int .u64 (lo64 (x + y + c) : Nat), .int .u64 (up64 (x + y + c) : Nat)])) w := by
  rw [run_callFunc_extern Tryd.func28 (by kernel_rfl) (by kernel_rfl) (by kernel_rfl) (e := add64Entry) (by kernel_rfl), run_add64 x y c (by omega) (by omega) (by omega) (by omega)]
  simp only [Result.andThen, lo64, up64]
  congr 5 <;> omega
theorem add64_0 (x y : Nat) (w : World) : (callFunc 28 #[.int .u64 x, .int .u64 y, .int .u64 0]).run Tryd.prog w =
    .ok (.value (.tuple #[.int .u64 (lo64 (x + y) : Nat), .int .u64 (up64 (x + y) : Nat)])) w := add64 x y 0 (by omega) w
/-- The lowest 64 bits of a difference; whether it was below 0. -/
def dif64 (x y b : Nat) : Nat := (x + 18446744073709551616 - y - b) % 18446744073709551616
def bor64 (x y b : Nat) : Nat := if x < y + b then 1 else 0
theorem dif64_lt (x y b : Nat) : dif64 x y b < 18446744073709551616 := by unfold dif64; omega
theorem bor64_le (x y b : Nat) : bor64 x y b ≤ 1 := by unfold bor64; split <;> omega
theorem sub64 (x y b : Nat) (hb : b ≤ 1) (w : World) : (callFunc 23 #[.int .u64 x, .int .u64 y, .int .u64 b]).run Tryd.prog w =
    .ok (.value (.tuple #[.int .u64 (dif64 x y b : Nat), .int .u64 (bor64 x y b : Nat)])) w := by
  rw [run_callFunc_extern Tryd.func23 (by kernel_rfl) (by kernel_rfl) (by kernel_rfl) (e := sub64Entry) (by kernel_rfl), run_sub64 x y b hb]
  rfl
theorem sub64_0 (x y : Nat) (w : World) : (callFunc 23 #[.int .u64 x, .int .u64 y, .int .u64 0]).run Tryd.prog w =
    .ok (.value (.tuple #[.int .u64 (dif64 x y 0 : Nat), .int .u64 (bor64 x y 0 : Nat)])) w := sub64 x y 0 (by omega) w
theorem mul64 (x y : Nat) (w : World) (hx : x < 18446744073709551616) (hy : y < 18446744073709551616) :
    Calls Tryd.prog 25 #[.int .u64 x, .int .u64 y] w fun e w' => e = .returned (.tuple #[.int .u64 (up64 (x * y) : Nat), .int .u64 (lo64 (x * y) : Nat)]) ∧ w = w' :=
  (Tryd.bits_Mul64 x y hx hy w).mono fun e w' ⟨he, hw⟩ => ⟨he, hw.symm⟩


theorem mul_hi (a b : Nat) (ha : a < 18446744073709551616) (hb : b < 18446744073709551616) : up64 (a * b) = hi64 (a * b) := by
  have : a * b < 18446744073709551616 * 18446744073709551616 := Nat.mul_lt_mul_of_lt_of_lt ha hb
  unfold up64 hi64
  rw [Nat.mod_eq_of_lt]
  exact Nat.div_lt_of_lt_mul this
theorem wmul_any (a b : Nat) (w : World) (ha : a < 18446744073709551616) (hb : b < 18446744073709551616) :
    Calls Tryd.prog 19 #[.int .u64 a, .int .u64 b] w (Ret128 w (a * b)) := by
  go_enter Tryd.func19, Tryd.ntmps19
  go_wp2_with (go_at_call 25; refine (mul64 _ _ _ ha hb).mono ?_; rintro e w' ⟨rfl, rfl⟩)
  exact bodyPost_ret (v := .agg #[.int .u64 (up64 (a * b) : Nat), .int .u64 (lo64 (a * b) : Nat)]) (by simp [results, Tryd.results19, go_sem]) rfl ⟨by rw [mul_hi a b ha hb], by (repeat (first | exact Below.refl _ _ | assumption | (refine Below.alloc ?_ (by first | omega | (simp; done) | (simp; omega)) _) | (refine Below.setCell ?_ (by first | omega | (simp; done) | (simp; omega)) _) | refine Below.drew ?_ | refine below_drewN ?_ _))⟩
theorem add_hi (ah al bh bl : Nat) : lo64 (ah + bh + up64 (al + bl)) = hi64 (val2 ah al + val2 bh bl) := by unfold lo64 hi64 up64 val2; omega
theorem add_lo (ah al bh bl : Nat) : lo64 (al + bl) = lo64 (val2 ah al + val2 bh bl) := by unfold lo64 val2; omega
theorem add_ov (ah al bh bl : Nat) (h1 : ah < 18446744073709551616) (h2 : al < 18446744073709551616) (h3 : bh < 18446744073709551616) (h4 : bl < 18446744073709551616) :
    (((up64 (ah + bh + up64 (al + bl)) : Nat) : Int) == 1) = decide (340282366920938463463374607431768211456 ≤ val2 ah al + val2 bh bl) := by
  rw [Bool.eq_iff_iff]
  simp only [beq_iff_eq, decide_eq_true_eq]
  unfold up64 val2
  omega
end Go.Proofs.YtppmkoglpfdjnaaDoor
