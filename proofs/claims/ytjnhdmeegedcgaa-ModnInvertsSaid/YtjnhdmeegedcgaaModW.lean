/-
  Walks of modn.Add, Sub, Mul, Pow. Conditions: numbers fit 64 bits.
-/
import Derived.Test.YtjnhdmeegedcgaaDivW
import Derived.Test.YtjnhdmeegedcgaaModR
import Derived.Test.YtjnhdmeegedcgaaWord
import Derived.Deep.LoopGhost
namespace Go.Proofs.Ytjnhdmeegedcgaa
open Go.RowKit Go.Shelf
set_option linter.unusedVariables false

theorem mpow_odd {a b n o T : Nat} (h : o * a ^ b % n = T) (hb : b % 2 = 1) : o * a % n * (a * a % n) ^ (b / 2) % n = T := by
  have e : o * a ^ b = o * a * (a * a) ^ (b / 2) := by
    conv => lhs; rw [← Nat.div_add_mod b 2, hb, Nat.pow_succ, Nat.pow_mul, Nat.pow_two]
    rw [Nat.mul_comm ((a * a) ^ (b / 2)), ← Nat.mul_assoc]
  rw [← h, e, Nat.mul_mod, Nat.mod_mod, Nat.pow_mod, Nat.mod_mod, ← Nat.pow_mod, ← Nat.mul_mod]
theorem mpow_even {a b n o T : Nat} (h : o * a ^ b % n = T) (hb : b % 2 = 0) : o * (a * a % n) ^ (b / 2) % n = T := by
  have e : o * a ^ b = o * (a * a) ^ (b / 2) := by
    conv => lhs; rw [← Nat.div_add_mod b 2, hb, Nat.add_zero, Nat.pow_mul, Nat.pow_two]
  rw [← h, e, Nat.mul_mod, Nat.pow_mod, Nat.mod_mod, ← Nat.pow_mod, ← Nat.mul_mod]
theorem ne0_facts {n : Nat} (h : n ≠ 0) : ((n : Int) == 0) = false ∧ ¬ (n : Int) = 0 := ⟨by rw [beq_eq_false_iff_ne]; omega, by omega⟩
set_option maxHeartbeats 1000000 in
theorem madd_any (a b n : Nat) (ha : a < 18446744073709551616) (hb : b < 18446744073709551616) (hn : n < 18446744073709551616) (w : World) : Calls Try.prog 14 #[.int .u64 a, .int .u64 b, .int .u64 n] w fun e w' => e = .returned (.int .u64 (mdn n (a + b) : Nat)) ∧ Below w.heap.size w w' := by
  by_cases h0 : n = 0
  · subst h0
    rw [mdn_zero]
    show Calls Try.prog 14 #[.int .u64 a, .int .u64 b, .int .u64 0] w _
    go_enter Try.func14, Try.ntmps14
    go_wp2
    go_ret
    exact ⟨rfl, Below.refl _ _⟩
  · obtain ⟨t0, t1⟩ := ne0_facts h0
    have hp : 0 < n := by omega
    obtain ⟨x, hx⟩ : ∃ x, x = a % n := ⟨_, rfl⟩
    obtain ⟨y, hy⟩ : ∃ y, y = b % n := ⟨_, rfl⟩
    have e1 : (a : Int) % (n : Int) = (x : Int) := by rw [hx]; rfl
    have e1t : (a : Int).tmod (n : Int) = (x : Int) := by rw [hx]; rfl
    have e2t : (b : Int).tmod (n : Int) = (y : Int) := by rw [hy]; rfl
    have e2 : (b : Int) % (n : Int) = (y : Int) := by rw [hy]; rfl
    have eA := fun W => add64_0 x y W
    have HR := hide (rem64_any (up64 (x + y)) (lo64 (x + y)) n hp (lo64_lt _) hn)
    have hv : up64 (x + y) * 18446744073709551616 + lo64 (x + y) = x + y := by unfold up64 lo64; omega
    have hm : mdn n (a + b) = (x + y) % n := by rw [mdn_pos hp, hx, hy, ← Nat.add_mod]
    rw [hv, ← hm] at HR
    generalize mdn n (a + b) = r at *
    generalize up64 (x + y) = c at *
    generalize lo64 (x + y) = s at *
    clear hx hy hp h0 hv hm ha hb hn
    go_enter Try.func14, Try.ntmps14
    go_wp2_with fail
    go_region_with (simp only [eA])
    all_goals
      go_wp2_with fail
      refine (HR.out _).mono ?_
      rintro e w1 ⟨rfl, hb⟩
      have B : Below w.heap.size w w1 := below_call (by (repeat (first | exact Below.refl _ _ | assumption | (refine Below.alloc ?_ (by first | omega | (simp; done) | (simp; omega)) _) | (refine Below.setCell ?_ (by first | omega | (simp; done) | (simp; omega)) _) | refine Below.drew ?_ | refine below_drewN ?_ _))) (Nat.le_refl _) hb
      clear hb
      go_wp2_with fail
      go_ret
      exact ⟨rfl, B⟩
set_option maxHeartbeats 1000000 in
theorem msub_any (a b n : Nat) (ha : a < 18446744073709551616) (hb : b < 18446744073709551616) (hn : n < 18446744073709551616) (w : World) : Calls Try.prog 19 #[.int .u64 a, .int .u64 b, .int .u64 n] w fun e w' => e = .returned (.int .u64 (mdn n (a + (n - mdn n b)) : Nat)) ∧ Below w.heap.size w w' := by
  by_cases h0 : n = 0
  · subst h0
    rw [mdn_zero]
    show Calls Try.prog 19 #[.int .u64 a, .int .u64 b, .int .u64 0] w _
    go_enter Try.func19, Try.ntmps19
    go_wp2
    go_ret
    exact ⟨rfl, Below.refl _ _⟩
  · obtain ⟨t0, t1⟩ := ne0_facts h0
    have hp : 0 < n := by omega
    obtain ⟨y, hy⟩ : ∃ y, y = b % n := ⟨_, rfl⟩
    have hyn : y < n := by rw [hy]; exact Nat.mod_lt _ hp
    obtain ⟨z, hz⟩ : ∃ z, z = n - y := ⟨_, rfl⟩
    have e2 : (b : Int) % (n : Int) = (y : Int) := by rw [hy]; rfl
    have e2t : (b : Int).tmod (n : Int) = (y : Int) := by rw [hy]; rfl
    have e3 : IntKind.u64.wrap ((n : Int) - (y : Int)) = (z : Int) := wu_sub (by omega) (by omega)
    have e4 : (n : Int) - (y : Int) = (z : Int) := by omega
    have e5 : IntKind.u64.wrap (z : Int) = (z : Int) := wu (by omega)
    have HA := hide (madd_any a z n ha (by omega) hn)
    have hm : mdn n (a + (n - mdn n b)) = mdn n (a + z) := by rw [mdn_pos hp b, ← hy, hz]
    rw [hm]
    generalize mdn n (a + z) = r at *
    clear hy hp h0 hm ha hb hn hyn hz
    go_enter Try.func19, Try.ntmps19
    go_wp2_with fail
    refine (HA.out _).mono ?_
    rintro e w1 ⟨rfl, hb⟩
    go_wp2_with fail
    go_ret
    exact ⟨rfl, hb⟩
set_option maxHeartbeats 1000000 in
theorem mmul_any (a b n : Nat) (ha : a < 18446744073709551616) (hb : b < 18446744073709551616) (hn : n < 18446744073709551616) (w : World) : Calls Try.prog 16 #[.int .u64 a, .int .u64 b, .int .u64 n] w fun e w' => e = .returned (.int .u64 (mdn n (a * b) : Nat)) ∧ Below w.heap.size w w' := by
  by_cases h0 : n = 0
  · subst h0
    rw [mdn_zero]
    show Calls Try.prog 16 #[.int .u64 a, .int .u64 b, .int .u64 0] w _
    go_enter Try.func16, Try.ntmps16
    go_wp2
    go_ret
    exact ⟨rfl, Below.refl _ _⟩
  · obtain ⟨t0, t1⟩ := ne0_facts h0
    have hp : 0 < n := by omega
    have HM := hide (fun W => mul64 a b W ha hb)
    have HR := hide (rem64_any (up64 (a * b)) (lo64 (a * b)) n hp (lo64_lt _) hn)
    have hv : up64 (a * b) * 18446744073709551616 + lo64 (a * b) = a * b := by unfold up64 lo64; omega
    have hm : mdn n (a * b) = a * b % n := mdn_pos hp _
    rw [hv, ← hm] at HR
    generalize mdn n (a * b) = r at *
    generalize up64 (a * b) = c at *
    generalize lo64 (a * b) = s at *
    clear hp h0 hv hm ha hb hn
    go_enter Try.func16, Try.ntmps16
    go_wp2_with fail
    refine (HM.out _).mono ?_
    rintro e w1 ⟨rfl, rfl⟩
    go_wp2_with fail
    refine (HR.out _).mono ?_
    rintro e w1 ⟨rfl, hb⟩
    go_wp2_with fail
    go_ret
    exact ⟨rfl, hb⟩
set_option maxHeartbeats 2000000 in
theorem mpow_any (a e n : Nat) (ha : a < 18446744073709551616) (he : e < 18446744073709551616) (hn : n < 18446744073709551616) (w : World) : Calls Try.prog 17 #[.int .u64 a, .int .u64 e, .int .u64 n] w fun e' w' => e' = .returned (.int .u64 (mdn n (a ^ e) : Nat)) ∧ Below w.heap.size w w' := by
  by_cases h0 : n = 0
  · subst h0
    rw [mdn_zero]
    show Calls Try.prog 17 #[.int .u64 a, .int .u64 e, .int .u64 0] w _
    go_enter Try.func17, Try.ntmps17
    go_wp2
    go_ret
    exact ⟨rfl, Below.refl _ _⟩
  · obtain ⟨t0, t1⟩ := ne0_facts h0
    have hp : 0 < n := by omega
    have HC := hide (fun x y (hx : x < 18446744073709551616) (hy : y < 18446744073709551616) W => by
      have h := mmul_any x y n hx hy hn W
      rw [mdn_pos hp] at h
      exact h)
    obtain ⟨o1, ho1⟩ : ∃ o, o = 1 % n := ⟨_, rfl⟩
    have e1 : (1 : Int) % (n : Int) = (o1 : Int) := by rw [ho1]; rfl
    have e1t : (1 : Int).tmod (n : Int) = (o1 : Int) := by rw [ho1]; rfl
    have hT : o1 * a ^ e % n = mdn n (a ^ e) := by rw [mdn_pos hp, ho1, Nat.mul_mod, Nat.mod_mod, ← Nat.mul_mod, Nat.one_mul]
    have hol : o1 < n := by rw [ho1]; exact Nat.mod_lt _ hp
    have HT := hide hT
    have B0 := Below.refl w.heap.size w
    clear hT ho1
    generalize mdn n (a ^ e) = T at *
    go_enter Try.func17, Try.ntmps17
    go_wp2
    go_loopg [0, 1, 7] e (fun k va vb vo wr => ∃ A o : Nat, va = .int .u64 A ∧ vb = .int .u64 k ∧ vo = .int .u64 o ∧ A < 18446744073709551616 ∧ o < n ∧ k ≤ e ∧ Hid (o * A ^ k % n = T) ∧ Below w.heap.size w wr)
    case atStart => exact ⟨a, o1, rfl, rfl, rfl, ha, hol, Nat.le_refl _, HT, B0⟩
    case round =>
      obtain ⟨A, o, rfl, rfl, rfl, hA, ho, hk, hM, B⟩ := hrel
      clear HT B0 hol
      by_cases hk0 : 0 < gk
      · have t1 : (0 : Int) < (gk : Int) := by omega
        obtain ⟨g2, hg2⟩ : ∃ g2, g2 = gk / 2 := ⟨_, rfl⟩
        have ed : (gk : Int) / 2 = (g2 : Int) := by omega
        have hg3 : g2 < gk := by omega
        have ho2 : o < 18446744073709551616 := by omega
        rcases Nat.mod_two_eq_zero_or_one gk with hb2 | hb2
        · have hM' := hide (mpow_even hM.out hb2)
          have eb : bits .and .u64 (gk : Int) 1 = 0 := by rw [show (1 : Int) = ((1 : Nat) : Int) from rfl, bits_and_u64_nat _ _ (by omega) (by omega), Nat.and_one_is_mod, hb2]; rfl
          rw [← hg2] at hM'
          clear hb2 hM hg2
          go_wp2_with fail
          refine (HC.out A A hA hA _).mono ?_
          rintro e w1 ⟨rfl, hb⟩
          go_wp2
          go_roundg g2
          case measure => exact hg3
          case rel => exact ⟨_, _, rfl, rfl, rfl, Nat.lt_trans (Nat.mod_lt _ hp) hn, ho, by omega, hM', below_call B (Nat.le_refl _) hb⟩
        · have hM' := hide (mpow_odd hM.out hb2)
          have eb : bits .and .u64 (gk : Int) 1 = 1 := by rw [show (1 : Int) = ((1 : Nat) : Int) from rfl, bits_and_u64_nat _ _ (by omega) (by omega), Nat.and_one_is_mod, hb2]
          rw [← hg2] at hM'
          clear hb2 hM hg2
          go_wp2_with fail
          refine (HC.out o A ho2 hA _).mono ?_
          rintro e w1 ⟨rfl, hb⟩
          replace B : Below w.heap.size w w1 := below_call B (Nat.le_refl _) hb
          clear hb
          go_wp2_with fail
          refine (HC.out A A hA hA _).mono ?_
          rintro e w2 ⟨rfl, hb⟩
          go_wp2
          go_roundg g2
          case measure => exact hg3
          case rel => exact ⟨_, _, rfl, rfl, rfl, Nat.lt_trans (Nat.mod_lt _ hp) hn, Nat.mod_lt _ hp, by omega, hM', below_call B (Nat.le_refl _) hb⟩
      · have hk1 : gk = 0 := by omega
        subst hk1
        go_wp2
        go_ret
        have h := hM.out
        rw [Nat.pow_zero, Nat.mul_one, Nat.mod_eq_of_lt ho] at h
        exact ⟨ret_i (by rw [h]), B⟩
end Go.Proofs.Ytjnhdmeegedcgaa
