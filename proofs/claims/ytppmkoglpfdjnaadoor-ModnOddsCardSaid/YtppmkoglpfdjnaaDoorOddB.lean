/-
  Walk of the reference's Twos and of the law ModnOdds. Conditions: the library's table is as its text lays it.
-/
import Derived.Test.YtppmkoglpfdjnaaDoorOddA
import Derived.Test.YtppmkoglpfdjnaaDoorModQ
import Derived.Test.YtppmkoglpfdjnaaDoorBoxB
import Derived.Deep.RegionHeld3
import Derived.Deep.DeepCutAuto
namespace Go.Proofs.YtppmkoglpfdjnaaDoor
open Go.RowKit
set_option linter.unusedVariables false

theorem ctz_at (x k : Nat) (hx : x < 18446744073709551616) (hk : k < 64) (hall : ∀ j, j < k → x / 2 ^ j % 2 = 0) (h : x / 2 ^ k % 2 = 1) : Lib.ctz 64 x = k := by
  have h0 : x ≠ 0 := fun e => by subst e; simp at h
  obtain ⟨h1, h2⟩ := ctz_spec x h0 hx
  generalize Lib.ctz 64 x = c at *
  rcases Nat.lt_trichotomy c k with hlt | rfl | hgt
  · rw [hall c hlt] at h1; omega
  · rfl
  · exfalso
    obtain ⟨d, rfl⟩ : ∃ d, c = k + 1 + d := ⟨c - k - 1, by omega⟩
    have e : x = 2 ^ k * (2 * (x / 2 ^ (k + 1 + d) * 2 ^ d)) := by
      conv => lhs; rw [← h2]
      rw [Nat.pow_add, Nat.pow_succ]
      generalize x / (2 ^ k * 2 * 2 ^ d) = q
      rw [Nat.mul_comm q, Nat.mul_assoc, Nat.mul_assoc, Nat.mul_comm (2 ^ d) q]
    have h3 : x / 2 ^ k = 2 * (x / 2 ^ (k + 1 + d) * 2 ^ d) := by
      conv => lhs; rw [e]
      exact Nat.mul_div_cancel_left _ (Nat.two_pow_pos k)
    omega
theorem ctz_all (x : Nat) (hx : x < 18446744073709551616) (hall : ∀ j, j < 64 → x / 2 ^ j % 2 = 0) : Lib.ctz 64 x = 64 := by
  by_cases h0 : x = 0
  · subst h0; exact ctz_zero
  · exfalso
    obtain ⟨h1, _⟩ := ctz_spec x h0 hx
    have := hall _ (Lib.lowest_bit 64 x h0 hx).2
    omega
set_option maxHeartbeats 1000000 in
theorem twos_ref (x : Nat) (hx : x < 18446744073709551616) (w : World) : Calls Tryd.prog 12 #[.int .u64 x] w fun e w' => e = .returned (.int .i64 (Lib.ctz 64 x : Nat)) ∧ w = w' := by
  have HX := hide hx
  clear hx
  go_enter Tryd.func12, Tryd.ntmps12
  go_wp2_with fail
  go_loop [0, 3] (fun a i => ∃ k y : Nat, k ≤ 64 ∧ i = .int .i64 k ∧ a = .int .u64 y ∧ Hid (y = x / 2 ^ k) ∧ Hid (∀ j, j < k → x / 2 ^ j % 2 = 0)) (fun _ i => 64 - (intOf i).toNat)
  case atStart => exact ⟨0, x, by omega, rfl, rfl, hide (by rw [Nat.pow_zero, Nat.div_one]), hide fun j h => absurd h (by omega)⟩
  case round =>
    obtain ⟨k, y, hk, rfl, rfl, hy, hall⟩ := hrel
    by_cases hlt : k < 64
    · have t1 : (k : Int) < 64 := by omega
      by_cases hev : y % 2 = 0
      · have t2 : ((y : Int) % 2 == 0) = true := by rw [beq_iff_eq]; omega
        have HN := hide (show ∀ j, j < k + 1 → x / 2 ^ j % 2 = 0 from fun j hj => by
          by_cases e : j = k
          · subst e; rw [← hy.out]; exact hev
          · exact hall.out j (by omega))
        have HY := hide (show y / 2 = x / 2 ^ (k + 1) from by rw [hy.out, Nat.div_div_eq_div_mul, Nat.pow_succ])
        have hc : (y : Int) / 2 = ((y / 2 : Nat) : Int) := by omega
        have hyl : y < 18446744073709551616 := by rw [hy.out]; exact Nat.lt_of_le_of_lt (Nat.div_le_self _ _) HX.out
        have hw : IntKind.u64.wrap ((y / 2 : Nat) : Int) = ((y / 2 : Nat) : Int) := by rw [IntKind.wrap_u64]; omega
        clear hev hyl
        generalize y / 2 = y2 at *
        go_wp2_with fail
        go_round
        case rel => exact ⟨k + 1, y2, by omega, by go_num, by first | rfl | (rw [hw]) | (rw [hc]), HY, HN⟩
        case measure => simp [intOf]; omega
      · have t2 : ((y : Int) % 2 == 0) = false := by rw [beq_eq_false_iff_ne]; omega
        have HE := hide (ctz_at x k HX.out hlt hall.out (by rw [← hy.out]; omega))
        clear hev
        go_wp2_with fail
        go_ret
        exact ⟨ret_i (by rw [HE.out]), rfl⟩
    · have hk64 : k = 64 := by omega
      subst hk64
      have HE := hide (ctz_all x HX.out hall.out)
      go_wp2_with fail
      go_ret
      exact ⟨ret_i (by rw [HE.out]; rfl), rfl⟩

end Go.Proofs.YtppmkoglpfdjnaaDoor
