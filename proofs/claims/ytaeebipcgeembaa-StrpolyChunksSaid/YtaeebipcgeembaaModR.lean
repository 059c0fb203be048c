/-
  Walks of the reference's sums, products and powers modulo a number. Conditions: numbers fit 64 bits.
-/
import Derived.Test.YtaeebipcgeembaaBase
import Derived.Test.YtaeebipcgeembaaProg
import Derived.Test.YtaeebipcgeembaaMersM
import Derived.Deep.LoopGhost
import Derived.Laws.Bits64
namespace Go.Proofs.Ytaeebipcgeembaa
open Go.RowKit
set_option linter.unusedVariables false
theorem ModR_here : True := trivial

set_option maxHeartbeats 1000000 in
theorem radd_any (a b n : Nat) (ha : a < 18446744073709551616) (hb : b < 18446744073709551616) (hn : n < 18446744073709551616) (w : World) : Calls Try.prog 28 #[.int .u64 a, .int .u64 b, .int .u64 n] w fun e w' => e = .returned (.int .u64 (mdn n (a + b) : Nat)) ∧ w = w' := by
  by_cases h0 : n = 0
  · subst h0
    rw [mdn_zero]
    show Calls Try.prog 28 #[.int .u64 a, .int .u64 b, .int .u64 0] w _
    go_enter Try.func28, Try.ntmps28
    go_wp2
    go_ret
    exact ⟨rfl, rfl⟩
  · have t0 : ((n : Int) == 0) = false := by rw [beq_eq_false_iff_ne]; omega
    have hp : 0 < n := by omega
    have ex := Nat.mod_lt a hp
    have ey := Nat.mod_lt b hp
    obtain ⟨x, hx⟩ : ∃ x, x = a % n := ⟨_, rfl⟩
    obtain ⟨y, hy⟩ : ∃ y, y = b % n := ⟨_, rfl⟩
    have e1 : (a : Int) % (n : Int) = (x : Int) := by rw [hx]; rfl
    have e2 : (b : Int) % (n : Int) = (y : Int) := by rw [hy]; rfl
    rw [← hx] at ex
    rw [← hy] at ey
    have hr : mdn n (a + b) = (x + y) % n := by rw [mdn_pos hp, hx, hy, ← Nat.add_mod]
    have HR := hide hr
    clear hr hx hy h0
    by_cases hlt : n ≤ x + y
    · have t1 : (n : Int) - (y : Int) ≤ (x : Int) := by omega
      have hv : (x + y) % n = x + y - n := by rw [Nat.mod_eq_sub_mod hlt, Nat.mod_eq_of_lt (by omega)]
      have HV := hide hv
      clear hv hlt
      go_enter Try.func28, Try.ntmps28
      go_wp2
      go_ret
      exact ⟨ret_i (by rw [HR.out, HV.out]; omega), rfl⟩
    · have t1 : ¬ (n : Int) - (y : Int) ≤ (x : Int) := by omega
      have hv : (x + y) % n = x + y := Nat.mod_eq_of_lt (by omega)
      have HV := hide hv
      clear hv hlt
      go_enter Try.func28, Try.ntmps28
      go_wp2
      go_ret
      exact ⟨ret_i (by rw [HR.out, HV.out]; omega), rfl⟩
theorem mul_odd {a b n o T : Nat} (h : (o + a * b) % n = T) (hb : b % 2 = 1) : ((o + a) % n + (a + a) % n * (b / 2)) % n = T := by
  have e : o + a * b = (o + a) + (a + a) * (b / 2) := by
    conv => lhs; rw [← Nat.div_add_mod b 2, hb, Nat.mul_add, Nat.mul_one, ← Nat.mul_assoc, Nat.mul_two]
    omega
  rw [← h, e, Nat.add_mod, Nat.mod_mod, Nat.mul_mod, Nat.mod_mod, ← Nat.mul_mod, ← Nat.add_mod]
theorem mul_even {a b n o T : Nat} (h : (o + a * b) % n = T) (hb : b % 2 = 0) : (o + (a + a) % n * (b / 2)) % n = T := by
  have e : o + a * b = o + (a + a) * (b / 2) := by
    conv => lhs; rw [← Nat.div_add_mod b 2, hb, Nat.add_zero, ← Nat.mul_assoc, Nat.mul_two]
  rw [← h, e, Nat.add_mod, Nat.mul_mod, Nat.mod_mod, ← Nat.mul_mod, ← Nat.add_mod]
set_option maxHeartbeats 2000000 in
theorem rmul_any (a b n : Nat) (ha : a < 18446744073709551616) (hb : b < 18446744073709551616) (hn : n < 18446744073709551616) (w : World) : Calls Try.prog 29 #[.int .u64 a, .int .u64 b, .int .u64 n] w fun e w' => e = .returned (.int .u64 (mdn n (a * b) : Nat)) ∧ w = w' := by
  by_cases h0 : n = 0
  · subst h0
    rw [mdn_zero]
    show Calls Try.prog 29 #[.int .u64 a, .int .u64 b, .int .u64 0] w _
    go_enter Try.func29, Try.ntmps29
    go_wp2
    go_ret
    exact ⟨rfl, rfl⟩
  · have t0 : ((n : Int) == 0) = false := by rw [beq_eq_false_iff_ne]; omega
    have hp : 0 < n := by omega
    have e1 : (a : Int) % (n : Int) = ((a % n : Nat) : Int) := rfl
    have ex := Nat.mod_lt a hp
    have HT : Hid ((0 + a % n * b) % n = a * b % n) := by rw [Nat.zero_add, Nat.mul_mod, Nat.mod_mod, ← Nat.mul_mod]; exact rfl
    have HA := hide (fun x y (hx : x < n) (hy : y < n) => radd_any x y n (by omega) (by omega) hn)
    generalize a % n = x at *
    go_enter Try.func29, Try.ntmps29
    go_wp2
    go_loopg [0, 1, 7] b (fun k va vb vo wr => ∃ A o : Nat, va = .int .u64 A ∧ vb = .int .u64 k ∧ vo = .int .u64 o ∧ A < n ∧ o < n ∧ k ≤ b ∧ Hid ((o + A * k) % n = a * b % n) ∧ wr = w)
    case atStart => exact ⟨x, 0, val_i e1, rfl, rfl, ex, hp, Nat.le_refl _, HT, rfl⟩
    case round =>
      obtain ⟨A, o, rfl, rfl, rfl, hA, ho, hk, hM, rfl⟩ := hrel
      clear HT e1 ex
      by_cases hk0 : 0 < gk
      · have t1 : (0 : Int) < (gk : Int) := by omega
        obtain ⟨g2, hg2⟩ : ∃ g2, g2 = gk / 2 := ⟨_, rfl⟩
        have ed : (gk : Int) / 2 = (g2 : Int) := by omega
        have hg3 : g2 < gk := by omega
        rcases Nat.mod_two_eq_zero_or_one gk with hb2 | hb2
        · have hM' := hide (mul_even hM.out hb2)
          have em2 : (gk : Int) % 2 = 0 := by omega
          rw [← hg2] at hM'
          clear hb2 hM hg2
          go_wp2_with fail
          refine (HA.out A A hA hA _).mono ?_
          rintro e w1 ⟨rfl, rfl⟩
          rw [mdn_pos hp]
          go_wp2
          go_roundg g2
          case measure => omega
          case rel => exact ⟨_, _, rfl, rfl, rfl, Nat.mod_lt _ hp, ho, by omega, hM', rfl⟩
        · have hM' := hide (mul_odd hM.out hb2)
          have em2 : (gk : Int) % 2 = 1 := by omega
          rw [← hg2] at hM'
          clear hb2 hM hg2
          go_wp2_with fail
          refine (HA.out o A ho hA _).mono ?_
          rintro e w1 ⟨rfl, rfl⟩
          rw [mdn_pos hp]
          go_wp2_with fail
          refine (HA.out A A hA hA _).mono ?_
          rintro e w1 ⟨rfl, rfl⟩
          rw [mdn_pos hp]
          go_wp2
          go_roundg g2
          case measure => omega
          case rel => exact ⟨_, _, rfl, rfl, rfl, Nat.mod_lt _ hp, Nat.mod_lt _ hp, by omega, hM', rfl⟩
      · have hk1 : gk = 0 := by omega
        subst hk1
        go_wp2
        go_ret
        have h := hM.out
        rw [Nat.mul_zero, Nat.add_zero, Nat.mod_eq_of_lt ho] at h
        exact ⟨ret_i (by rw [h, mdn_pos hp]), rfl⟩
theorem pow_step (a e j : Nat) : a ^ (e / 2 ^ j) = (a ^ (e / 2 ^ (j + 1))) * (a ^ (e / 2 ^ (j + 1))) * a ^ (e / 2 ^ j % 2) := by
  rw [← Nat.pow_two, ← Nat.pow_mul, ← Nat.pow_add]
  congr 1
  rw [Nat.pow_succ, ← Nat.div_div_eq_div_mul]
  omega
theorem rpow_walk (e j : Nat) : wrap64 (((e : Int) / 2 ^ j).tmod 2) = 0 ∨ True := .inr trivial
end Go.Proofs.Ytaeebipcgeembaa
