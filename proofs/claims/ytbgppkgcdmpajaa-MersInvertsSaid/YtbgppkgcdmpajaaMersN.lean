/-
  Walk of the law MersInverts. Conditions: numbers fit 64 bits.
-/
import Derived.Test.YtbgppkgcdmpajaaMersL
namespace Go.Proofs.Ytbgppkgcdmpajaa
open Go.RowKit Go.Shelf
set_option linter.unusedVariables false

set_option maxRecDepth 100000 in
set_option maxHeartbeats 4000000 in
theorem inverts_law (k : Int) (a b : Nat) (w : World) (ha : a < 18446744073709551616) (hb : b < 18446744073709551616) :
    Calls Try.prog 5 #[.int .i64 k, .int .u64 a, .int .u64 b] w fun e w' => e = .returned (.bool true) ∧ Below w.heap.size w w' := by
  have hpl := prm_le k
  have H1 := hide (Pref_any k)
  by_cases hz : mdn (prm k) a = 0
  · have H2 := hide (inv_no k a ha hz)
    have H3 := hide (invr_no k a ha hz)
    generalize prm k = P at *
    rcases Nat.eq_zero_or_pos P with hP | hP
    · subst hP
      clear hz
      go_enter Try.func5, Try.ntmps5
      go_wp2_with fail
      refine (awake04 _).mono ?_
      rintro e w1 ⟨rfl, B⟩
      go_wp2_with fail
      refine (H1.out _).mono ?_
      rintro e w2 ⟨rfl, rfl⟩
      go_wp2_with fail
      refine (H2.out _).mono ?_
      rintro e w2 ⟨rfl, hb⟩
      replace B : Below w.heap.size w w2 := below_call B (Nat.le_refl _) hb
      clear hb
      go_wp2_with fail
      refine (H3.out _).mono ?_
      rintro e w3 ⟨rfl, rfl⟩
      go_wp2_with fail
      go_ret
      exact ⟨rfl, B⟩
    · have t0 : ((P : Int) == 0) = false := by rw [beq_eq_false_iff_ne]; omega
      have t1 : ¬ P = 0 := by omega
      have e1 : (a : Int) % (P : Int) = 0 := by rw [mdn_pos hP] at hz; omega
      clear hz
      go_enter Try.func5, Try.ntmps5
      go_wp2_with fail
      refine (awake04 _).mono ?_
      rintro e w1 ⟨rfl, B⟩
      go_wp2_with fail
      refine (H1.out _).mono ?_
      rintro e w2 ⟨rfl, rfl⟩
      go_wp2_with fail
      refine (H2.out _).mono ?_
      rintro e w2 ⟨rfl, hb⟩
      replace B : Below w.heap.size w w2 := below_call B (Nat.le_refl _) hb
      clear hb
      go_wp2_with fail
      refine (H3.out _).mono ?_
      rintro e w3 ⟨rfl, rfl⟩
      go_wp2_with fail
      go_ret
      exact ⟨rfl, B⟩
  · obtain ⟨f, p, hF, h3, h4⟩ : ∃ f p : Nat, IsF f p ∧ fld k = (f : Int) ∧ prm k = p := by
      rcases fld_cases k with ⟨h3, h4⟩ | h
      · rw [h4] at hz; exact absurd rfl hz
      · exact h
    have hpr := isF_prime hF
    have hp0 := (isF_facts hF).2.2.2.1
    have H2 := inv_yes k a ha hz
    have H3 := invr_yes k a ha hz
    have H5 := Mul_any k a b ha hb
    rw [h4] at H1 H2 H3 H5 hz hpl
    rw [mdn_pos (by omega)] at hz
    have hx1 := mdn_lt (show 0 < p by omega) (a ^ (p - 2))
    have hx2 : mdn p (a * mdn p (a ^ (p - 2))) = 1 := by rw [mdn_pos (by omega), mdn_pos (by omega)]; exact fermat_inv hpr hz (by omega)
    have H4 := rmul_any a (mdn p (a ^ (p - 2))) p ha (by omega) (by omega)
    rw [hx2] at H4
    have hm : b % p ≠ 0 → mdn p (a * b) ≠ 0 := fun h => by
      rw [mdn_pos (by omega)]
      intro h0
      rcases prime_mul hpr (Nat.dvd_of_mod_eq_zero h0) with h1 | h1
      · exact hz (Nat.mod_eq_zero_of_dvd h1)
      · exact h (Nat.mod_eq_zero_of_dvd h1)
    have HM := hide hm
    replace H2 := hide H2
    replace H3 := hide H3
    replace H4 := hide H4
    replace H5 := hide H5
    clear hx2 hm hpr hF h3 h4
    generalize mdn p (a ^ (p - 2)) = x at *
    generalize mdn p (a * b) = y at *
    have t0 : ((p : Int) == 0) = false := by rw [beq_eq_false_iff_ne]; omega
    have t1 : ¬ p = 0 := by omega
    have t2 : (x : Int) < (p : Int) := by omega
    obtain ⟨q, hq⟩ : ∃ q, q = a % p := ⟨_, rfl⟩
    have e1 : (a : Int) % (p : Int) = (q : Int) := by rw [hq]; rfl
    have e2 : ((q : Int) == 0) = false := by rw [beq_eq_false_iff_ne]; omega
    clear hz hq hx1
    by_cases hbz : b % p = 0
    · have e3 : (b : Int) % (p : Int) = 0 := by omega
      clear hbz HM
      go_enter Try.func5, Try.ntmps5
      go_wp2_with fail
      refine (awake04 _).mono ?_
      rintro e w1 ⟨rfl, B⟩
      go_wp2_with fail
      refine (H1.out _).mono ?_
      rintro e w2 ⟨rfl, rfl⟩
      go_wp2_with fail
      refine (H2.out _).mono ?_
      rintro e w2 ⟨rfl, hb⟩
      replace B : Below w.heap.size w w2 := below_call B (Nat.le_refl _) hb
      clear hb
      go_wp2_with fail
      refine (H3.out _).mono ?_
      rintro e w3 ⟨rfl, rfl⟩
      go_wp2_with fail
      refine (H4.out _).mono ?_
      rintro e w3 ⟨rfl, rfl⟩
      go_wp2_with fail
      go_ret
      exact ⟨rfl, B⟩
    · have hy := HM.out hbz
      obtain ⟨r, hr⟩ : ∃ r, r = b % p := ⟨_, rfl⟩
      have e3 : (b : Int) % (p : Int) = (r : Int) := by rw [hr]; rfl
      have e4 : ((r : Int) == 0) = false := by rw [beq_eq_false_iff_ne]; omega
      have e5 : ((y : Int) != 0) = true := by rw [bne_iff_ne]; omega
      have e6 : ((y : Int) == 0) = false := by rw [beq_eq_false_iff_ne]; omega
      clear hbz HM hy hr
      go_enter Try.func5, Try.ntmps5
      go_wp2_with fail
      refine (awake04 _).mono ?_
      rintro e w1 ⟨rfl, B⟩
      go_wp2_with fail
      refine (H1.out _).mono ?_
      rintro e w2 ⟨rfl, rfl⟩
      go_wp2_with fail
      refine (H2.out _).mono ?_
      rintro e w2 ⟨rfl, hb⟩
      replace B : Below w.heap.size w w2 := below_call B (Nat.le_refl _) hb
      clear hb
      go_wp2_with fail
      refine (H3.out _).mono ?_
      rintro e w3 ⟨rfl, rfl⟩
      go_wp2_with fail
      refine (H4.out _).mono ?_
      rintro e w3 ⟨rfl, rfl⟩
      go_wp2_with fail
      refine (H5.out _).mono ?_
      rintro e w3 ⟨rfl, hb⟩
      replace B : Below w.heap.size w w3 := below_call B (Nat.le_refl _) hb
      clear hb
      go_wp2_with fail
      go_ret
      exact ⟨rfl, B⟩
end Go.Proofs.Ytbgppkgcdmpajaa
