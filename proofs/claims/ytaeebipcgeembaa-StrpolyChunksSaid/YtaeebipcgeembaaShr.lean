/-
  Walk of wide.Shr by any number of bits between 0 and 64; wide.Add, Cmp, Mul of numbers of 128 bits told as numbers. Conditions: as each says.
-/
import Derived.Test.YtaeebipcgeembaaWord
import Derived.Test.YtaeebipcgeembaaWideA
import Derived.Test.YtaeebipcgeembaaWideC
import Derived.Test.YtaeebipcgeembaaBox
import Derived.Deep.RegionHeld3
import Derived.Laws.Bits64
import Derived.IntWalk
import Derived.Laws.Bits64b
namespace Go.Proofs.Ytaeebipcgeembaa
open Go.RowKit Go.Shelf
set_option linter.unusedVariables false

theorem shr_hi (X k : Nat) (h1 : k < 64) : ((hi64 X : Nat) : Int) / 2 ^ k = ((hi64 (m128 X / 2 ^ k) : Nat) : Int) := by
  have e : ((hi64 X : Nat) : Int) / 2 ^ k = ((hi64 X / 2 ^ k : Nat) : Int) := by rw [Int.natCast_ediv, Int.natCast_pow]; rfl
  rw [e]
  congr 1
  have h3 : hi64 X / 2 ^ k < 18446744073709551616 := Nat.lt_of_le_of_lt (Nat.div_le_self _ _) (hi64_lt X)
  have h4 : m128 X / 2 ^ k / 18446744073709551616 = hi64 X / 2 ^ k := by
    rw [Nat.div_div_eq_div_mul, Nat.mul_comm, ← Nat.div_div_eq_div_mul]
    congr 1
    unfold m128 hi64
    omega
  show _ = m128 X / 2 ^ k / 18446744073709551616 % 18446744073709551616
  rw [h4, Nat.mod_eq_of_lt h3]
theorem shr_lo (X k j : Nat) (h1 : k < 64) (hj : j = 64 - k) : bits .or .u64 (((lo64 X : Nat) : Int) / 2 ^ k) (IntKind.u64.wrap (((hi64 X : Nat) : Int) * 2 ^ j)) = ((lo64 (m128 X / 2 ^ k) : Nat) : Int) := by
  have e : ((lo64 X : Nat) : Int) / 2 ^ k = ((lo64 X / 2 ^ k : Nat) : Int) := by rw [Int.natCast_ediv, Int.natCast_pow]; rfl
  have e2 : IntKind.u64.wrap (((hi64 X : Nat) : Int) * 2 ^ j) = ((hi64 X * 2 ^ j % 18446744073709551616 : Nat) : Int) := by
    rw [← u64_of]
    congr 1
  have h64 : (18446744073709551616 : Nat) = 2 ^ k * 2 ^ j := by rw [← Nat.pow_add, hj, show k + (64 - k) = 64 by omega]
  have hl : lo64 X / 2 ^ k < 2 ^ j := by
    refine Nat.div_lt_of_lt_mul ?_
    have := lo64_lt X
    omega
  have hm : hi64 X * 2 ^ j % 18446744073709551616 = 2 ^ j * (hi64 X % 2 ^ k) := by rw [h64, Nat.mul_comm (2 ^ k), Nat.mul_comm (hi64 X), Nat.mul_mod_mul_left]
  have hN : m128 X / 2 ^ k = lo64 X / 2 ^ k + 2 ^ j * hi64 X := by
    have e3 : m128 X = lo64 X + 2 ^ k * (2 ^ j * hi64 X) := by rw [← Nat.mul_assoc, ← h64]; unfold m128 lo64 hi64; omega
    rw [e3, Nat.add_mul_div_left _ _ (Nat.two_pow_pos k)]
  rw [e, e2, bits_or_u64_nat _ _ (Nat.lt_of_le_of_lt (Nat.div_le_self _ _) (lo64_lt X)) (Nat.mod_lt _ (by omega)), hN, hm]
  congr 1
  show _ = (lo64 X / 2 ^ k + 2 ^ j * hi64 X) % 18446744073709551616
  have hc : hi64 X % 2 ^ k < 2 ^ k := Nat.mod_lt _ (Nat.two_pow_pos k)
  have h6 : 2 ^ j * (hi64 X % 2 ^ k) + 2 ^ j ≤ 2 ^ k * 2 ^ j := by rw [← Nat.mul_succ, Nat.mul_comm (2 ^ k)]; exact Nat.mul_le_mul_left _ hc
  have h7 : lo64 X / 2 ^ k + 2 ^ j * hi64 X = lo64 X / 2 ^ k + 2 ^ j * (hi64 X % 2 ^ k) + 2 ^ k * 2 ^ j * (hi64 X / 2 ^ k) := by
    conv => lhs; rw [← Nat.mod_add_div (hi64 X) (2 ^ k), Nat.mul_add, ← Nat.mul_assoc, Nat.mul_comm (2 ^ j) (2 ^ k), ← Nat.add_assoc]
  have h8 : (lo64 X / 2 ^ k + 2 ^ j * (hi64 X % 2 ^ k) + 2 ^ k * 2 ^ j * (hi64 X / 2 ^ k)) % (2 ^ k * 2 ^ j) = lo64 X / 2 ^ k + 2 ^ j * (hi64 X % 2 ^ k) := by
    rw [Nat.add_mul_mod_self_left]
    exact Nat.mod_eq_of_lt (by omega)
  rw [h7, h64, h8, Nat.or_comm, ← Nat.two_pow_add_eq_or_of_lt hl, Nat.add_comm]

set_option maxHeartbeats 1000000 in
theorem shr_u (X k : Nat) (w : World) (h0 : 0 < k) (h1 : k < 64) :
    Calls Try.prog 60 #[.agg #[.int .u64 (hi64 (X) : Nat), .int .u64 (lo64 (X) : Nat)], .int .i64 k] w (Ret128 w (m128 X / 2 ^ k)) := by
  have t1 : ¬ ((k : Int) ≤ 0) := by omega
  have t2 : ¬ ((128 : Int) ≤ (k : Int)) := by omega
  have t3 : ¬ ((64 : Int) ≤ (k : Int)) := by omega
  have t4 : (0 : Int) ≤ (k : Int) := by omega
  have t5 : (k : Int) < 64 := by omega
  obtain ⟨j, hj⟩ : ∃ j, j = 64 - k := ⟨_, rfl⟩
  have t6 : IntKind.i64.wrap (64 - (k : Int)) = (j : Int) := by rw [IntWalk.i64_in _ (by omega)]; omega
  have t7 : (0 : Int) ≤ (j : Int) := by omega
  have t8 : (j : Int) < 64 := by omega
  have HJ := hide hj
  clear hj
  go_enter Try.func60, Try.ntmps60
  go_wp2
  go_region_held3 (fun v => BoxU v w.heap.size X) (refine ⟨?_, ?_, ?_, ?_, ?_⟩ <;> simp [go_sem]) (fail)
  go_wp2
  rw [shr_hi X k h1, shr_lo X k j h1 HJ.out]
  exact bodyPost_ret (v := .agg #[.int .u64 (hi64 (m128 X / 2 ^ k) : Nat), .int .u64 (lo64 (m128 X / 2 ^ k) : Nat)]) (by simp [results, Try.results60, go_sem]) rfl ⟨rfl, by (repeat (first | exact Below.refl _ _ | assumption | (refine Below.alloc ?_ (by first | omega | (simp; done) | (simp; omega)) _) | (refine Below.setCell ?_ (by first | omega | (simp; done) | (simp; omega)) _) | refine Below.drew ?_ | refine below_drewN ?_ _))⟩
theorem dec_lt {a b : Nat} (h : a < b) : decide (b ≤ a) = false := decide_eq_false (by omega)
theorem cmp_u (X Y : Nat) (w : World) : Calls Try.prog 59 #[.agg #[.int .u64 (hi64 (X) : Nat), .int .u64 (lo64 (X) : Nat)], .agg #[.int .u64 (hi64 (Y) : Nat), .int .u64 (lo64 (Y) : Nat)]] w fun e w' => e = .returned (.int .i64 (cmpV (m128 X) (m128 Y))) ∧ Below w.heap.size w w' :=
  (wcmp_any _ _ _ _ w (lo64_lt X) (lo64_lt Y)).mono fun e w' h => by rw [val2_of, val2_of] at h; exact h
theorem addm_hi (X Y : Nat) : hi64 (m128 X + m128 Y) = hi64 (X + Y) := by unfold hi64 m128; omega
theorem addm_lo (X Y : Nat) : lo64 (m128 X + m128 Y) = lo64 (X + Y) := by unfold lo64 m128; omega
theorem addw_u (X Y : Nat) (w : World) : Calls Try.prog 43 #[.agg #[.int .u64 (hi64 (X) : Nat), .int .u64 (lo64 (X) : Nat)], .agg #[.int .u64 (hi64 (Y) : Nat), .int .u64 (lo64 (Y) : Nat)]] w fun e w' => e = .returned (.tuple #[.agg #[.int .u64 (hi64 (X + Y) : Nat), .int .u64 (lo64 (X + Y) : Nat)], .bool (decide (340282366920938463463374607431768211456 ≤ m128 X + m128 Y))]) ∧ Below w.heap.size w w' :=
  (wadd_any _ _ _ _ w (hi64_lt X) (lo64_lt X) (hi64_lt Y) (lo64_lt Y)).mono fun e w' h => by rw [val2_of, val2_of, addm_hi, addm_lo] at h; exact h
end Go.Proofs.Ytaeebipcgeembaa
