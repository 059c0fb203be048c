/-
  Walks of the turns of 64 bits, the library's and the reference's. Conditions: numbers fit 64 bits, a turn is 0 to 63.
-/
import Derived.Test.YtjgcpacdiiifjaaWideC
import Derived.Test.YtjgcpacdiiifjaaBox
import Derived.Deep.LoopGhost
import Derived.Laws.Bits64
import Derived.Laws.Bits64b
import Derived.IntWalk
namespace Go.Proofs.Ytjgcpacdiiifjaa
open Go.RowKit Go.Shelf
set_option linter.unusedVariables false

/-- x turned to the left by k bits of 64. -/
def rotl (x k : Nat) : Nat := x * 2 ^ k % 18446744073709551616 + x / 2 ^ (64 - k)
theorem rotl_low (x k : Nat) (hk : k ≤ 64) : x * 2 ^ k % 18446744073709551616 = 2 ^ k * (x % 2 ^ (64 - k)) := by
  rw [show (18446744073709551616 : Nat) = 2 ^ k * 2 ^ (64 - k) by rw [← Nat.pow_add, show k + (64 - k) = 64 by omega], Nat.mul_comm x, Nat.mul_mod_mul_left]
theorem rotl_hi (x k : Nat) (hk : k ≤ 64) (hx : x < 18446744073709551616) : x / 2 ^ (64 - k) < 2 ^ k := by
  refine Nat.div_lt_of_lt_mul ?_
  rw [← Nat.pow_add, show 64 - k + k = 64 by omega]
  omega
theorem rotl_lt (x k : Nat) (hk : k ≤ 64) (hx : x < 18446744073709551616) : rotl x k < 18446744073709551616 := by
  unfold rotl
  rw [rotl_low x k hk]
  have h1 := rotl_hi x k hk hx
  have h2 := Nat.mod_lt x (Nat.two_pow_pos (64 - k))
  have h3 : 2 ^ k * (x % 2 ^ (64 - k)) + 2 ^ k ≤ 2 ^ k * 2 ^ (64 - k) := by rw [← Nat.mul_succ]; exact Nat.mul_le_mul_left _ h2
  rw [← Nat.pow_add, show k + (64 - k) = 64 by omega] at h3
  omega
theorem rotl_zero (x : Nat) (hx : x < 18446744073709551616) : rotl x 0 = x := by
  unfold rotl
  rw [Nat.pow_zero, Nat.mul_one, Nat.mod_eq_of_lt hx, Nat.div_eq_of_lt (by omega), Nat.add_zero]
theorem rotl_or (x k : Nat) (hk : k ≤ 64) (hx : x < 18446744073709551616) : x * 2 ^ k % 18446744073709551616 ||| x / 2 ^ (64 - k) = rotl x k := by
  unfold rotl
  rw [rotl_low x k hk, ← Nat.two_pow_add_eq_or_of_lt (rotl_hi x k hk hx)]
theorem rotl_succ (x k : Nat) (hk : k < 64) (hx : x < 18446744073709551616) : rotl x (k + 1) = rotl x k * 2 % 18446744073709551616 + rotl x k / 9223372036854775808 := by
  have hl := rotl_hi x k (by omega) hx
  obtain ⟨m, hm⟩ : ∃ m, 64 - k = m + 1 := ⟨63 - k, by omega⟩
  have hm2 : 64 - (k + 1) = m := by omega
  have h63 : (9223372036854775808 : Nat) = 2 ^ k * 2 ^ m := by rw [← Nat.pow_add, show k + m = 63 by omega]
  have e1 : rotl x k = 2 ^ k * (x % 2 ^ (m + 1)) + x / 2 ^ (m + 1) := by unfold rotl; rw [rotl_low x k (by omega), hm]
  have e2 : rotl x (k + 1) = 2 ^ (k + 1) * (x % 2 ^ m) + x / 2 ^ m := by unfold rotl; rw [rotl_low x (k + 1) (by omega), hm2]
  have e3 : x % 2 ^ (m + 1) = x % 2 ^ m + 2 ^ m * (x / 2 ^ m % 2) := by rw [Nat.pow_succ, Nat.mod_mul]
  have e4 : x / 2 ^ m = 2 * (x / 2 ^ (m + 1)) + x / 2 ^ m % 2 := by rw [Nat.pow_succ, ← Nat.div_div_eq_div_mul]; omega
  rw [hm] at hl
  have hr := Nat.mod_lt x (Nat.two_pow_pos m)
  have h5 : rotl x k = 2 ^ k * (x % 2 ^ m) + x / 2 ^ (m + 1) + 2 ^ k * 2 ^ m * (x / 2 ^ m % 2) := by
    rw [e1, e3, Nat.mul_add, ← Nat.mul_assoc]
    omega
  have h6 : 2 ^ k * (x % 2 ^ m) + 2 ^ k ≤ 2 ^ k * 2 ^ m := by rw [← Nat.mul_succ]; exact Nat.mul_le_mul_left _ hr
  rw [e2, h5, Nat.pow_succ 2 k, Nat.mul_comm (2 ^ k) 2, Nat.mul_assoc 2, e4, ← h63] at *
  generalize 2 ^ k * (x % 2 ^ m) = A at *
  generalize x / 2 ^ (m + 1) = H at *
  have hb : (2 * H + x / 2 ^ m % 2) % 2 = x / 2 ^ m % 2 := by omega
  generalize x / 2 ^ m % 2 = b at *
  rcases (show b = 0 ∨ b = 1 by omega) with h | h <;> subst h <;> omega
set_option maxHeartbeats 1000000 in
theorem left64 (k : Nat) (hk : k ≤ 64) (w : World) : Calls Try.prog 80 #[.int .i64 k, .int .i64 64] w fun e w' => e = .returned (.int .i64 (k % 64 : Nat)) ∧ w = w' := by
  have t1 : (k : Int) ≤ 64 := by omega
  obtain ⟨r, hr⟩ : ∃ r, r = k % 64 := ⟨_, rfl⟩
  have e1 : (k : Int) % 64 = (r : Int) := by rw [hr]; rfl
  have t2 : ¬ (r : Int) < 0 := by omega
  have HR := hide hr
  clear hr
  go_enter Try.func80, Try.ntmps80
  go_wp2
  go_ret
  exact ⟨rfl, rfl⟩
set_option maxHeartbeats 1000000 in
theorem rotr_ref (x k : Nat) (hk : k ≤ 64) (hx : x < 18446744073709551616) (w : World) : Calls Try.prog 72 #[.int .u64 x, .int .i64 k] w fun e w' => e = .returned (.int .u64 (rotl x (k % 64) : Nat)) ∧ w = w' := by
  have HL := hide (left64 k hk)
  have hs : k % 64 < 64 := Nat.mod_lt _ (by omega)
  generalize k % 64 = s at *
  go_enter Try.func72, Try.ntmps72
  go_wp2
  go_loopg [0, 5] s (fun m v0 v5 wr => ∃ j r : Nat, m = s - j ∧ j ≤ s ∧ v5 = .int .i64 j ∧ v0 = .int .u64 r ∧ r < 18446744073709551616 ∧ Hid (r = rotl x j) ∧ wr = w)
  case atStart => exact ⟨0, x, rfl, by omega, rfl, rfl, hx, hide (rotl_zero x hx).symm, rfl⟩
  case round =>
    obtain ⟨j, r, hm, hj, rfl, rfl, hr, hR, rfl⟩ := hrel
    have HM := hide hm
    clear hm
    by_cases hlt : j < s
    · have t1 : (j : Int) < (s : Int) := by omega
      have hst := rotl_succ x j (by omega) hx
      have hl := rotl_lt x (j + 1) (by omega) hx
      rw [← hR.out] at hst
      rw [hst] at hl
      have ev : IntKind.u64.wrap (IntKind.u64.wrap ((r : Int) * 2) + (r : Int) / 9223372036854775808) = ((r * 2 % 18446744073709551616 + r / 9223372036854775808 : Nat) : Int) := by
        rw [IntKind.wrap_u64, IntKind.wrap_u64]
        omega
      have HST := hide hst
      have EV := hide ev
      clear hst ev
      go_wp2_with fail
      refine (HL.out _).mono ?_
      rintro e w1 ⟨rfl, rfl⟩
      go_wp2_with fail
      go_roundg (s - (j + 1))
      case measure => rw [HM.out]; omega
      case rel => exact ⟨j + 1, _, rfl, by omega, by go_num, val_i EV.out, hl, hide HST.out.symm, rfl⟩
    · have hjs : j = s := by omega
      subst hjs
      go_wp2_with fail
      refine (HL.out _).mono ?_
      rintro e w1 ⟨rfl, rfl⟩
      go_wp2_with fail
      go_ret
      exact ⟨ret_i (by rw [hR.out]), rfl⟩
set_option maxHeartbeats 1000000 in
theorem rotl_lib (x h s : Nat) (hh : h < 64) (hs : s = (64 - h) % 64) (hx : x < 18446744073709551616) (w : World) : Calls Try.prog 81 #[.int .u64 x, .int .i64 (-(h : Int))] w fun e w' => e = .returned (.int .u64 (rotl x s : Nat)) ∧ w = w' := by
  have e1 : bits .and .u64 (IntKind.u64.wrap (-(h : Int))) 63 = (s : Int) := by
    have e0 : IntKind.u64.wrap (-(h : Int)) = (((18446744073709551616 - h) % 18446744073709551616 : Nat) : Int) := by rw [IntKind.wrap_u64]; omega
    rw [e0, show (63 : Int) = ((63 : Nat) : Int) from rfl, bits_and_u64_nat _ _ (Nat.mod_lt _ (by omega)) (by omega), show (63 : Nat) = 2 ^ 6 - 1 by decide, Nat.and_two_pow_sub_one_eq_mod]
    congr 1
    omega
  have t1 : (0 : Int) ≤ (s : Int) := by omega
  have t2 : (s : Int) < 64 := by omega
  have hor := rotl_or x s (by omega) hx
  obtain ⟨j, hj⟩ : ∃ j, j = 64 - s := ⟨_, rfl⟩
  have e3 : (64 : Int) - (s : Int) = (j : Int) := by omega
  rw [← hj] at hor
  have e4 : IntKind.u64.wrap ((x : Int) * 2 ^ s) = ((x * 2 ^ s % 18446744073709551616 : Nat) : Int) := by
    rw [← u64_of]
    congr 1
  have e5 : (x : Int) / 2 ^ j = ((x / 2 ^ j : Nat) : Int) := by rw [Int.natCast_ediv, Int.natCast_pow]; rfl
  have e6 : bits .or .u64 (IntKind.u64.wrap ((x : Int) * 2 ^ s)) ((x : Int) / 2 ^ j) = ((rotl x s : Nat) : Int) := by
    rw [e4, e5, bits_or_u64_nat _ _ (Nat.mod_lt _ (by omega)) (Nat.lt_of_le_of_lt (Nat.div_le_self _ _) hx), hor]
  have E6 := hide e6
  have HJ := hide hj
  have t3 : (j : Int) ≤ 64 := by omega
  have t4 : (1 : Int) ≤ (j : Int) := by omega
  clear hs hor e4 e5 e6 hj
  go_enter Try.func81, Try.ntmps81
  go_wp2
  go_ret
  exact ⟨ret_i E6.out, rfl⟩
end Go.Proofs.Ytjgcpacdiiifjaa
