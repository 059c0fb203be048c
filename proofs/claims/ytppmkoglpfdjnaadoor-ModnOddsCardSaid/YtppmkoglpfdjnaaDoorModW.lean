/-
  Walks of modn.Add, Sub, Mul, Pow. Conditions: numbers fit 64 bits.
-/
import Derived.Test.YtppmkoglpfdjnaaDoorDivW
import Derived.Test.YtppmkoglpfdjnaaDoorModR
import Derived.Test.YtppmkoglpfdjnaaDoorWord
import Derived.Deep.LoopGhost
namespace Go.Proofs.YtppmkoglpfdjnaaDoor
open Go.RowKit Go.Shelf
set_option linter.unusedVariables false
theorem ModW_here : True := trivial

theorem mpow_odd {a b n o T : Nat} (h : o * a ^ b % n = T) (hb : b % 2 = 1) : o * a % n * (a * a % n) ^ (b / 2) % n = T := by
  have e : o * a ^ b = o * a * (a * a) ^ (b / 2) := by
    conv => lhs; rw [← Nat.div_add_mod b 2, hb, Nat.pow_succ, Nat.pow_mul, Nat.pow_two]
    rw [Nat.mul_comm ((a * a) ^ (b / 2)), ← Nat.mul_assoc]
  rw [← h, e, Nat.mul_mod, Nat.mod_mod, Nat.pow_mod, Nat.mod_mod, ← Nat.pow_mod, ← Nat.mul_mod]
theorem mpow_even {a b n o T : Nat} (h : o * a ^ b % n = T) (hb : b % 2 = 0) : o * (a * a % n) ^ (b / 2) % n = T := by
  have e : o * a ^ b = o * (a * a) ^ (b / 2) := by
    conv => lhs; rw [← Nat.div_add_mod b 2, hb, Nat.add_zero, Nat.pow_mul, Nat.pow_two]
  rw [← h, e, Nat.mul_mod, Nat.pow_mod, Nat.mod_mod, ← Nat.pow_mod, ← Nat.mul_mod]
theorem ne0_facts {n : Nat} (h : n ≠ 0) : ((n : Int) == 0) = false ∧ ¬ (n : Int) = 0 := ⟨by rw [beq_eq_false_iff_ne]; omega, by omega⟩
set_option maxHeartbeats 1000000 in
theorem madd_any (a b n : Nat) (ha : a < 18446744073709551616) (hb : b < 18446744073709551616) (hn : n < 18446744073709551616) (w : World) : Calls Tryd.prog 26 #[.int .u64 a, .int .u64 b, .int .u64 n] w fun e w' => e = .returned (.int .u64 (mdn n (a + b) : Nat)) ∧ Below w.heap.size w w' := by
  by_cases h0 : n = 0
  · subst h0
    rw [mdn_zero]
    show Calls Tryd.prog 26 #[.int .u64 a, .int .u64 b, .int .u64 0] w _
    go_enter Tryd.func26, Tryd.ntmps26
    go_wp2
    go_ret
    exact ⟨rfl, Below.refl _ _⟩
  · obtain ⟨t0, t1⟩ := ne0_facts h0
    have hp : 0 < n := by omega
    obtain ⟨x, hx⟩ : ∃ x, x = a % n := ⟨_, rfl⟩
    obtain ⟨y, hy⟩ : ∃ y, y = b % n := ⟨_, rfl⟩
    have e1 : (a : Int) % (n : Int) = (x : Int) := by rw [hx]; rfl
    have e1t : (a : Int).tmod (n : Int) = (x : Int) := by rw [hx]; rfl
    have e2t : (b : Int).tmod (n : Int) = (y : Int) := by rw [hy]; rfl
    have e2 : (b : Int) % (n : Int) = (y : Int) := by rw [hy]; rfl
    have eA := fun W => add64_0 x y W
    have HR := hide (rem64_any (up64 (x + y)) (lo64 (x + y)) n hp (lo64_lt _) hn)
    have hv : up64 (x + y) * 18446744073709551616 + lo64 (x + y) = x + y := by unfold up64 lo64; omega
    have hm : mdn n (a + b) = (x + y) % n := by rw [mdn_pos hp, hx, hy, ← Nat.add_mod]
    rw [hv, ← hm] at HR
    generalize mdn n (a + b) = r at *
    generalize up64 (x + y) = c at *
    generalize lo64 (x + y) = s at *
    clear hx hy hp h0 hv hm ha hb hn
    go_enter Tryd.func26, Tryd.ntmps26
    go_wp2_with fail
    go_region_with (simp only [eA])
    all_goals
      go_wp2_with fail
      refine (HR.out _).mono ?_
      rintro e w1 ⟨rfl, hb⟩
      have B : Below w.heap.size w w1 := below_call (by (repeat (first | exact Below.refl _ _ | assumption | (refine Below.alloc ?_ (by first | omega | (simp; done) | (simp; omega)) _) | (refine Below.setCell ?_ (by first | omega | (simp; done) | (simp; omega)) _) | refine Below.drew ?_ | refine below_drewN ?_ _))) (Nat.le_refl _) hb
      clear hb
      go_wp2_with fail
      go_ret
      exact ⟨rfl, B⟩
set_option maxHeartbeats 1000000 in
theorem msub_any (a b n : Nat) (ha : a < 18446744073709551616) (hb : b < 18446744073709551616) (hn : n < 18446744073709551616) (w : World) : Calls Tryd.prog 21 #[.int .u64 a, .int .u64 b, .int .u64 n] w fun e w' => e = .returned (.int .u64 (mdn n (a + (n - mdn n b)) : Nat)) ∧ Below w.heap.size w w' := by
  by_cases h0 : n = 0
  · subst h0
    rw [mdn_zero]
    show Calls Tryd.prog 21 #[.int .u64 a, .int .u64 b, .int .u64 0] w _
    go_enter Tryd.func21, Tryd.ntmps21
    go_wp2
    go_ret
    exact ⟨rfl, Below.refl _ _⟩
  · obtain ⟨t0, t1⟩ := ne0_facts h0
    have hp : 0 < n := by omega
    obtain ⟨y, hy⟩ : ∃ y, y = b % n := ⟨_, rfl⟩
    have hyn : y < n := by rw [hy]; exact Nat.mod_lt _ hp
    obtain ⟨z, hz⟩ : ∃ z, z = n - y := ⟨_, rfl⟩
    have e2 : (b : Int) % (n : Int) = (y : Int) := by rw [hy]; rfl
    have e2t : (b : Int).tmod (n : Int) = (y : Int) := by rw [hy]; rfl
    have e3 : IntKind.u64.wrap ((n : Int) - (y : Int)) = (z : Int) := wu_sub (by omega) (by omega)
    have e4 : (n : Int) - (y : Int) = (z : Int) := by omega
    have e5 : IntKind.u64.wrap (z : Int) = (z : Int) := wu (by omega)
    have HA := hide (madd_any a z n ha (by omega) hn)
    have hm : mdn n (a + (n - mdn n b)) = mdn n (a + z) := by rw [mdn_pos hp b, ← hy, hz]
    rw [hm]
    generalize mdn n (a + z) = r at *
    clear hy hp h0 hm ha hb hn hyn hz
    go_enter Tryd.func21, Tryd.ntmps21
    go_wp2_with fail
    refine (HA.out _).mono ?_
    rintro e w1 ⟨rfl, hb⟩
    go_wp2_with fail
    go_ret
    exact ⟨rfl, hb⟩
set_option maxHeartbeats 1000000 in
theorem mmul_any (a b n : Nat) (ha : a < 18446744073709551616) (hb : b < 18446744073709551616) (hn : n < 18446744073709551616) (w : World) : Calls Tryd.prog 22 #[.int .u64 a, .int .u64 b, .int .u64 n] w fun e w' => e = .returned (.int .u64 (mdn n (a * b) : Nat)) ∧ Below w.heap.size w w' := by
  by_cases h0 : n = 0
  · subst h0
    rw [mdn_zero]
    show Calls Tryd.prog 22 #[.int .u64 a, .int .u64 b, .int .u64 0] w _
    go_enter Tryd.func22, Tryd.ntmps22
    go_wp2
    go_ret
    exact ⟨rfl, Below.refl _ _⟩
  · obtain ⟨t0, t1⟩ := ne0_facts h0
    have hp : 0 < n := by omega
    have HM := hide (fun W => mul64 a b W ha hb)
    have HR := hide (rem64_any (up64 (a * b)) (lo64 (a * b)) n hp (lo64_lt _) hn)
    have hv : up64 (a * b) * 18446744073709551616 + lo64 (a * b) = a * b := by unfold up64 lo64; omega
    have hm : mdn n (a * b) = a * b % n := mdn_pos hp _
    rw [hv, ← hm] at HR
    generalize mdn n (a * b) = r at *
    generalize up64 (a * b) = c at *
    generalize lo64 (a * b) = s at *
    clear hp h0 hv hm ha hb hn
    go_enter Tryd.func22, Tryd.ntmps22
    go_wp2_with fail
    refine (HM.out _).mono ?_
    rintro e w1 ⟨rfl, rfl⟩
    go_wp2_with fail
    refine (HR.out _).mono ?_
    rintro e w1 ⟨rfl, hb⟩
    go_wp2_with fail
    go_ret
    exact ⟨rfl, hb⟩
end Go.Proofs.YtppmkoglpfdjnaaDoor
