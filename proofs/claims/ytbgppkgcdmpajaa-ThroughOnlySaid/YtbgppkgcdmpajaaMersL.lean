/-
  Walks of chapter 4's 'awake' and of the laws MersReckons, MersPowers, MersInverts. Conditions: numbers fit 64 bits.
-/
import Derived.Test.YtbgppkgcdmpajaaMersC
import Derived.Deep.RegionHeld3
namespace Go.Proofs.Ytbgppkgcdmpajaa
open Go.RowKit Go.Shelf
set_option linter.unusedVariables false

theorem two_inv (p q : Nat) (h : 2 ^ 61 = p + 1) (hq : p - 2 = 61 * q + 60) (hp : 1 < p) : 2 ^ (p - 2) % p = 2 ^ 60 % p := by
  rw [hq, Nat.pow_add, Nat.pow_mul, h, Nat.mul_mod, Nat.pow_mod, Nat.add_mod_left, ← Nat.pow_mod, Nat.one_pow, ← Nat.mul_mod, Nat.one_mul]
theorem prm61 : prm 61 = 2305843009213693951 := rfl
theorem inv61 : mdn (prm 61) (2 ^ (prm 61 - 2)) = 1152921504606846976 := by
  obtain ⟨p, hp⟩ : ∃ p, p = prm 61 := ⟨_, rfl⟩
  have h1 : p = 2305843009213693951 := hp.trans prm61
  rw [← hp, mdn_pos (by omega), two_inv p 37800705069076949 (by omega) (by omega) (by omega), h1]
theorem inv61_call (w : World) : Calls Try.prog 21 #[.int .i64 61, .int .u64 2] w fun e w' => e = .returned (.tuple #[.int .u64 1152921504606846976, .bool true]) ∧ Below w.heap.size w w' := by
  have h := inv_yes 61 2 (by omega) (by decide) w
  rw [inv61] at h
  exact h
theorem fold31_call (w : World) : Calls Try.prog 16 #[.int .i64 31, .agg #[.int .u64 0, .int .u64 2147483648]] w fun e w' => e = .returned (.int .u64 1) ∧ Below w.heap.size w w' := by
  have h := Fold_l 31 2147483648 (by omega) w
  rw [show mdn (prm 31) 2147483648 = 1 by decide] at h
  exact h
theorem p7_call (w : World) : Calls Try.prog 25 #[.int .i64 7] w fun e w' => e = .returned (.int .u64 0) ∧ w = w' := P_any 7 w
set_option maxHeartbeats 1000000 in
theorem awake04 (w : World) : Calls Try.prog 15 #[] w fun e w' => e = .returned (.bool true) ∧ Below w.heap.size w w' := by
  go_enter Try.func15, Try.ntmps15
  go_wp2_with fail
  refine (inv61_call _).mono ?_
  rintro e w1 ⟨rfl, hb1⟩
  go_wp2_with fail
  refine (fold31_call _).mono ?_
  rintro e w2 ⟨rfl, hb2⟩
  go_wp2_with fail
  refine (p7_call _).mono ?_
  rintro e w3 ⟨rfl, rfl⟩
  go_wp2
  go_ret
  exact ⟨rfl, below_call hb1 (Nat.le_refl _) hb2⟩

theorem sub_back (P a b : Nat) (hP : 0 < P) : mdn P (mdn P (a + (P - mdn P b)) + b) = a % P := by
  rw [mdn_pos hP, mdn_pos hP, mdn_pos hP]
  have hb := Nat.mod_lt b hP
  have h1 : (a + (P - b % P)) % P + b = (a + (P - b % P)) % P + b := rfl
  rw [Nat.add_mod, Nat.mod_mod, ← Nat.add_mod]
  have h2 : a + (P - b % P) + b = a + P * (b / P + 1) := by
    have := Nat.mod_add_div b P
    rw [Nat.mul_add]
    omega
  rw [h2, Nat.add_mul_mod_self_left]
set_option maxRecDepth 100000 in
set_option maxHeartbeats 2000000 in
theorem reckons_law (k : Int) (a b : Nat) (w : World) (ha : a < 18446744073709551616) (hb : b < 18446744073709551616) :
    Calls Try.prog 6 #[.int .i64 k, .int .u64 a, .int .u64 b] w fun e w' => e = .returned (.bool true) ∧ Below w.heap.size w w' := by
  have hpl := prm_le k
  have H1 := hide (Pref_any k)
  have H2 := hide (P_any k)
  have H3 := hide (Add_any k a b ha hb)
  have H4 := hide (radd_any a b (prm k) ha hb (by omega))
  have H5 := hide (Mul_any k a b ha hb)
  have H6 := hide (rmul_any a b (prm k) ha hb (by omega))
  have H7 := hide (Is_any k a)
  have H8 := hide (Sub_any k a b ha hb)
  have hd0 : prm k = 0 → mdn (prm k) (a + (prm k - mdn (prm k) b)) = 0 := fun h => by rw [h]; rfl
  have hd1 : 0 < prm k → mdn (prm k) (a + (prm k - mdn (prm k) b)) < prm k := fun h => mdn_lt h _
  have hq : 0 < prm k → mdn (prm k) (mdn (prm k) (a + (prm k - mdn (prm k) b)) + b) = a % prm k := sub_back (prm k) a b
  have HD0 := hide hd0
  have HD1 := hide hd1
  have HQ := hide hq
  clear hd0 hd1 hq
  generalize mdn (prm k) (a + b) = r1 at *
  generalize mdn (prm k) (a * b) = r2 at *
  generalize mdn (prm k) (a + (prm k - mdn (prm k) b)) = d at *
  generalize prm k = P at *
  rcases Nat.eq_zero_or_pos P with hP | hP
  · subst hP
    have hd := HD0.out rfl
    subst hd
    have h7 : decide (a < 0) = false := decide_eq_false (by omega)
    rw [h7] at H7
    clear h7
    have t7 : ¬ ((a : Int) < 0) := by omega
    go_enter Try.func6, Try.ntmps6
    go_wp2_with fail
    refine (awake04 _).mono ?_
    rintro e w1 ⟨rfl, B⟩
    go_wp2_with fail
    refine (H1.out _).mono ?_
    rintro e w2 ⟨rfl, rfl⟩
    go_wp2_with fail
    refine (H2.out _).mono ?_
    rintro e w2 ⟨rfl, rfl⟩
    go_wp2_with fail
    refine (H3.out _).mono ?_
    rintro e w2 ⟨rfl, hb⟩
    replace B : Below w.heap.size w w2 := below_call B (Nat.le_refl _) hb
    clear hb
    go_wp2_with fail
    refine (H4.out _).mono ?_
    rintro e w3 ⟨rfl, rfl⟩
    go_wp2_with fail
    refine (H5.out _).mono ?_
    rintro e w3 ⟨rfl, hb⟩
    replace B : Below w.heap.size w w3 := below_call B (Nat.le_refl _) hb
    clear hb
    go_wp2_with fail
    refine (H6.out _).mono ?_
    rintro e w4 ⟨rfl, rfl⟩
    go_wp2_with fail
    refine (H7.out _).mono ?_
    rintro e w4 ⟨rfl, rfl⟩
    go_wp2_with fail
    refine (H8.out _).mono ?_
    rintro e w4 ⟨rfl, hb⟩
    replace B : Below w.heap.size w w4 := below_call B (Nat.le_refl _) hb
    clear hb
    go_wp2_with fail
    go_ret
    exact ⟨rfl, B⟩
  · have hd := HD1.out hP
    have H9 := radd_any d b P (by omega) hb (by omega)
    rw [HQ.out hP] at H9
    obtain ⟨q, hq⟩ : ∃ q, q = a % P := ⟨_, rfl⟩
    have eq : (a : Int) % (P : Int) = (q : Int) := by rw [hq]; rfl
    rw [← hq] at H9
    replace H9 := hide H9
    have t9 : (d : Int) < (P : Int) := by omega
    have t0 : ((P : Int) == 0) = false := by rw [beq_eq_false_iff_ne]; omega
    have t1 : ¬ P = 0 := by omega
    have eqt : (a : Int).tmod (P : Int) = (q : Int) := by rw [Int.tmod_eq_emod_of_nonneg (by omega)]; exact eq
    clear hq HQ HD0 HD1 hd
    by_cases h7 : a < P
    all_goals
      first | rw [decide_eq_true h7] at H7 | rw [decide_eq_false h7] at H7
      first | have t7 : (a : Int) < (P : Int) := by omega | have t7 : ¬ ((a : Int) < (P : Int)) := by omega
      clear h7
      go_enter Try.func6, Try.ntmps6
      go_wp2_with fail
      refine (awake04 _).mono ?_
      rintro e w1 ⟨rfl, B⟩
      go_wp2_with fail
      refine (H1.out _).mono ?_
      rintro e w2 ⟨rfl, rfl⟩
      go_wp2_with fail
      refine (H2.out _).mono ?_
      rintro e w2 ⟨rfl, rfl⟩
      go_wp2_with fail
      refine (H3.out _).mono ?_
      rintro e w2 ⟨rfl, hb⟩
      replace B : Below w.heap.size w w2 := below_call B (Nat.le_refl _) hb
      clear hb
      go_wp2_with fail
      refine (H4.out _).mono ?_
      rintro e w3 ⟨rfl, rfl⟩
      go_wp2_with fail
      refine (H5.out _).mono ?_
      rintro e w3 ⟨rfl, hb⟩
      replace B : Below w.heap.size w w3 := below_call B (Nat.le_refl _) hb
      clear hb
      go_wp2_with fail
      refine (H6.out _).mono ?_
      rintro e w4 ⟨rfl, rfl⟩
      go_wp2_with fail
      refine (H7.out _).mono ?_
      rintro e w4 ⟨rfl, rfl⟩
      go_wp2_with fail
      refine (H8.out _).mono ?_
      rintro e w4 ⟨rfl, hb⟩
      replace B : Below w.heap.size w w4 := below_call B (Nat.le_refl _) hb
      clear hb
      go_wp2_with fail
      go_region_held3 (fun v => True) (trivial) (first | (go_at_call 27; (with_reducible refine (H9.out _).mono ?_); rintro e w5 ⟨rfl, rfl⟩))
      go_wp2_with fail
      go_ret
      exact ⟨rfl, by (repeat (first | exact Below.refl _ _ | assumption | (refine Below.alloc ?_ (by first | omega | (simp; done) | (simp; omega)) _) | (refine Below.setCell ?_ (by first | omega | (simp; done) | (simp; omega)) _) | refine Below.drew ?_ | refine below_drewN ?_ _))⟩

theorem fermat_inv {p a : Nat} (hp : isPrime p) (h : a % p ≠ 0) (h3 : 3 ≤ p) : a * (a ^ (p - 2) % p) % p = 1 := by
  have h1 := fermat hp (a := a) fun hd => h (Nat.mod_eq_zero_of_dvd hd)
  rw [Nat.mul_mod, Nat.mod_mod, ← Nat.mul_mod, Nat.mul_comm, ← Nat.pow_succ, show (p - 2).succ = p - 1 by omega, h1]
set_option maxRecDepth 100000 in
set_option maxHeartbeats 2000000 in
theorem powers_law (k : Int) (a e : Nat) (w : World) (ha : a < 18446744073709551616) (he : e < 18446744073709551616) :
    Calls Try.prog 4 #[.int .i64 k, .int .u64 a, .int .u64 e] w fun e w' => e = .returned (.bool true) ∧ Below w.heap.size w w' := by
  have hpl := prm_le k
  have H1 := hide (Pref_any k)
  have H2 := hide (Pow_any k a e ha he)
  have H3 := hide (rpow_any a e (prm k) ha he (by omega))
  obtain ⟨d, hd⟩ : ∃ d, d = prm k - 1 := ⟨_, rfl⟩
  have hd2 : 0 < prm k → ((prm k : Nat) : Int) - 1 = (d : Int) := fun h => by omega
  have H4 := Pow_any k a d ha (by omega)
  have hr : 0 < prm k → a % prm k ≠ 0 → mdn (prm k) (a ^ d) = 1 := fun h0 h1 => by
    rcases fld_cases k with ⟨h3, h4⟩ | ⟨f, p, hF, h3, h4⟩
    · omega
    · rw [h4] at h0 h1 hd ⊢
      rw [mdn_pos h0, hd]
      exact fermat (isF_prime hF) fun hdv => h1 (Nat.mod_eq_zero_of_dvd hdv)
  have HD := hide hd2
  have HR := hide hr
  replace H4 := hide H4
  clear hd hd2 hr
  generalize mdn (prm k) (a ^ e) = r1 at *
  generalize mdn (prm k) (a ^ d) = r2 at *
  generalize prm k = P at *
  rcases Nat.eq_zero_or_pos P with hP | hP
  · subst hP
    go_enter Try.func4, Try.ntmps4
    go_wp2_with fail
    refine (awake04 _).mono ?_
    rintro e w1 ⟨rfl, B⟩
    go_wp2_with fail
    refine (H1.out _).mono ?_
    rintro e w2 ⟨rfl, rfl⟩
    go_wp2_with fail
    refine (H2.out _).mono ?_
    rintro e w2 ⟨rfl, hb⟩
    replace B : Below w.heap.size w w2 := below_call B (Nat.le_refl _) hb
    clear hb
    go_wp2_with fail
    refine (H3.out _).mono ?_
    rintro e w3 ⟨rfl, rfl⟩
    go_wp2_with fail
    go_ret
    exact ⟨rfl, B⟩
  · have t0 : ((P : Int) == 0) = false := by rw [beq_eq_false_iff_ne]; omega
    have t1 : ¬ P = 0 := by omega
    have ed := HD.out hP
    have hP1 : (1 : Int) ≤ (P : Int) := by omega
    by_cases hz : a % P = 0
    · have e1 : (a : Int) % (P : Int) = 0 := by omega
      clear hz HD HR ed
      go_enter Try.func4, Try.ntmps4
      go_wp2_with fail
      refine (awake04 _).mono ?_
      rintro e w1 ⟨rfl, B⟩
      go_wp2_with fail
      refine (H1.out _).mono ?_
      rintro e w2 ⟨rfl, rfl⟩
      go_wp2_with fail
      refine (H2.out _).mono ?_
      rintro e w2 ⟨rfl, hb⟩
      replace B : Below w.heap.size w w2 := below_call B (Nat.le_refl _) hb
      clear hb
      go_wp2_with fail
      refine (H3.out _).mono ?_
      rintro e w3 ⟨rfl, rfl⟩
      go_wp2_with fail
      go_ret
      exact ⟨rfl, B⟩
    · have h2 := HR.out hP hz
      subst h2
      obtain ⟨q, hq⟩ : ∃ q, q = a % P := ⟨_, rfl⟩
      have e1 : (a : Int) % (P : Int) = (q : Int) := by rw [hq]; rfl
      have e2 : ((q : Int) == 0) = false := by rw [beq_eq_false_iff_ne]; omega
      clear hz HD HR hq
      go_enter Try.func4, Try.ntmps4
      go_wp2_with fail
      refine (awake04 _).mono ?_
      rintro e w1 ⟨rfl, B⟩
      go_wp2_with fail
      refine (H1.out _).mono ?_
      rintro e w2 ⟨rfl, rfl⟩
      go_wp2_with fail
      refine (H2.out _).mono ?_
      rintro e w2 ⟨rfl, hb⟩
      replace B : Below w.heap.size w w2 := below_call B (Nat.le_refl _) hb
      clear hb
      go_wp2_with fail
      refine (H3.out _).mono ?_
      rintro e w3 ⟨rfl, rfl⟩
      go_wp2_with fail
      refine (H4.out _).mono ?_
      rintro e w3 ⟨rfl, hb⟩
      replace B : Below w.heap.size w w3 := below_call B (Nat.le_refl _) hb
      clear hb
      go_wp2_with fail
      go_ret
      exact ⟨rfl, B⟩
end Go.Proofs.Ytbgppkgcdmpajaa
