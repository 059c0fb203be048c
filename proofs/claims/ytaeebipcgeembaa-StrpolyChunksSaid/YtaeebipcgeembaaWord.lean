/-
  The library's sums and differences of 64 bits with a carry, and its product, as the walks take them; wide.Mul, Add, Sub, Times and Cmp. Conditions: numbers fit 64 bits; a carry is 0 or 1.
-/
import Derived.Test.YtaeebipcgeembaaBase
import Derived.Test.YtaeebipcgeembaaWordM
import Derived.Test.YtaeebipcgeembaaShelf
import Derived.Shelf.Spec.BitsCarry
namespace Go.Proofs.Ytaeebipcgeembaa
open Go.RowKit Go.Shelf
set_option linter.unusedVariables false

theorem add64 (x y c : Nat) (hc : c ≤ 1) (w : World) : (callFunc 56 #[.int .u64 x, .int .u64 y, .int .u64 c]).run Try.prog w =
    .ok (.value (.tuple #[.int .u64 (lo64 (x + y + c) : Nat), .int .u64 (up64 (x + y + c) : Nat)])) w := by
  rw [run_callFunc_extern Try.func56 (by kernel_rfl) (by kernel_rfl) (by kernel_rfl) (e := add64Entry) (by kernel_rfl), run_add64 x y c (by omega) (by omega) (by omega) (by omega)]
  simp only [Result.andThen, lo64, up64]
  congr 5 <;> omega
theorem add64_0 (x y : Nat) (w : World) : (callFunc 56 #[.int .u64 x, .int .u64 y, .int .u64 0]).run Try.prog w =
    .ok (.value (.tuple #[.int .u64 (lo64 (x + y) : Nat), .int .u64 (up64 (x + y) : Nat)])) w := add64 x y 0 (by omega) w
/-- The lowest 64 bits of a difference; whether it was below 0. -/
def dif64 (x y b : Nat) : Nat := (x + 18446744073709551616 - y - b) % 18446744073709551616
def bor64 (x y b : Nat) : Nat := if x < y + b then 1 else 0
theorem dif64_lt (x y b : Nat) : dif64 x y b < 18446744073709551616 := by unfold dif64; omega
theorem bor64_le (x y b : Nat) : bor64 x y b ≤ 1 := by unfold bor64; split <;> omega
theorem mul64 (x y : Nat) (w : World) (hx : x < 18446744073709551616) (hy : y < 18446744073709551616) :
    Calls Try.prog 61 #[.int .u64 x, .int .u64 y] w fun e w' => e = .returned (.tuple #[.int .u64 (up64 (x * y) : Nat), .int .u64 (lo64 (x * y) : Nat)]) ∧ w = w' :=
  (Try.bits_Mul64 x y hx hy w).mono fun e w' ⟨he, hw⟩ => ⟨he, hw.symm⟩


theorem mul_hi (a b : Nat) (ha : a < 18446744073709551616) (hb : b < 18446744073709551616) : up64 (a * b) = hi64 (a * b) := by
  have : a * b < 18446744073709551616 * 18446744073709551616 := Nat.mul_lt_mul_of_lt_of_lt ha hb
  unfold up64 hi64
  rw [Nat.mod_eq_of_lt]
  exact Nat.div_lt_of_lt_mul this
theorem wmul_any (a b : Nat) (w : World) (ha : a < 18446744073709551616) (hb : b < 18446744073709551616) :
    Calls Try.prog 58 #[.int .u64 a, .int .u64 b] w (Ret128 w (a * b)) := by
  go_enter Try.func58, Try.ntmps58
  go_wp2_with (go_at_call 61; refine (mul64 _ _ _ ha hb).mono ?_; rintro e w' ⟨rfl, rfl⟩)
  exact bodyPost_ret (v := .agg #[.int .u64 (up64 (a * b) : Nat), .int .u64 (lo64 (a * b) : Nat)]) (by simp [results, Try.results58, go_sem]) rfl ⟨by rw [mul_hi a b ha hb], by (repeat (first | exact Below.refl _ _ | assumption | (refine Below.alloc ?_ (by first | omega | (simp; done) | (simp; omega)) _) | (refine Below.setCell ?_ (by first | omega | (simp; done) | (simp; omega)) _) | refine Below.drew ?_ | refine below_drewN ?_ _))⟩
theorem add_hi (ah al bh bl : Nat) : lo64 (ah + bh + up64 (al + bl)) = hi64 (val2 ah al + val2 bh bl) := by unfold lo64 hi64 up64 val2; omega
theorem add_lo (ah al bh bl : Nat) : lo64 (al + bl) = lo64 (val2 ah al + val2 bh bl) := by unfold lo64 val2; omega
theorem add_ov (ah al bh bl : Nat) (h1 : ah < 18446744073709551616) (h2 : al < 18446744073709551616) (h3 : bh < 18446744073709551616) (h4 : bl < 18446744073709551616) :
    (((up64 (ah + bh + up64 (al + bl)) : Nat) : Int) == 1) = decide (340282366920938463463374607431768211456 ≤ val2 ah al + val2 bh bl) := by
  rw [Bool.eq_iff_iff]
  simp only [beq_iff_eq, decide_eq_true_eq]
  unfold up64 val2
  omega
theorem wadd_any (ah al bh bl : Nat) (w : World) (h1 : ah < 18446744073709551616) (h2 : al < 18446744073709551616) (h3 : bh < 18446744073709551616) (h4 : bl < 18446744073709551616) :
    Calls Try.prog 43 #[.agg #[.int .u64 ah, .int .u64 al], .agg #[.int .u64 bh, .int .u64 bl]] w fun e w' =>
      e = .returned (.tuple #[.agg #[.int .u64 (hi64 (val2 ah al + val2 bh bl) : Nat), .int .u64 (lo64 (val2 ah al + val2 bh bl) : Nat)], .bool (decide (340282366920938463463374607431768211456 ≤ val2 ah al + val2 bh bl))]) ∧ Below w.heap.size w w' := by
  have hc : up64 (al + bl) ≤ 1 := by unfold up64; omega
  go_enter Try.func43, Try.ntmps43
  go_wp2_with (first | simp only [add64_0 al bl] | simp only [add64 ah bh _ hc])
  exact bodyPost_ret (v := .tuple #[.agg #[.int .u64 (lo64 (ah + bh + up64 (al + bl)) : Nat), .int .u64 (lo64 (al + bl) : Nat)], .bool (((up64 (ah + bh + up64 (al + bl)) : Nat) : Int) == 1)]) (by simp [results, Try.results43, go_sem]) rfl ⟨by rw [add_hi, add_lo, add_ov ah al bh bl h1 h2 h3 h4], by (repeat (first | exact Below.refl _ _ | assumption | (refine Below.alloc ?_ (by first | omega | (simp; done) | (simp; omega)) _) | (refine Below.setCell ?_ (by first | omega | (simp; done) | (simp; omega)) _) | refine Below.drew ?_ | refine below_drewN ?_ _))⟩
end Go.Proofs.Ytaeebipcgeembaa
