/-
  Walks of chapter 3's 'awake' and of the laws ModnReckons, ModnInverts, ModnOnly. Conditions: numbers fit 64 bits.
-/
import Derived.Test.YtjnhdmeegedcgaaModI
import Derived.Test.YtjnhdmeegedcgaaOdd
namespace Go.Proofs.Ytjnhdmeegedcgaa
open Go.RowKit Go.Shelf
set_option linter.unusedVariables false

theorem inv3 : invR 3 10 = .tuple #[.int .u64 ((7 : Nat) : Int), .bool true] := by unfold invR; rw [if_pos (by decide)]; rfl
theorem inv2 : invR 2 10 = .tuple #[.int .u64 0, .bool false] := by unfold invR; rw [if_neg (by decide)]
theorem inv64_3 : inv64 3 = 12297829382473034411 := by decide
set_option maxHeartbeats 1000000 in
theorem awake03 (w : World) : Calls Try.prog 9 #[] w fun e w' => e = .returned (.bool true) ∧ Below w.heap.size w w' := by
  have H1 := hide (minv_pos 3 10 (by omega) (by omega) (by omega))
  have H2 := hide (minv_pos 2 10 (by omega) (by omega) (by omega))
  rw [inv3] at H1
  rw [inv2] at H2
  go_enter Try.func9, Try.ntmps9
  go_wp2_with fail
  refine (H1.out _).mono ?_
  rintro e w1 ⟨rfl, hb⟩
  have B : Below w.heap.size w w1 := hb
  clear hb
  go_wp2_with fail
  refine (H2.out _).mono ?_
  rintro e w2 ⟨rfl, hb⟩
  replace B : Below w.heap.size w w2 := below_call B (Nat.le_refl _) hb
  clear hb
  go_wp2_with fail
  refine (odd_yes 3 (by omega) (by omega) _).mono ?_
  rintro e w3 ⟨rfl, rfl⟩
  rw [inv64_3]
  go_wp2_with fail
  go_ret
  exact ⟨rfl, B⟩
set_option maxRecDepth 100000 in
set_option maxHeartbeats 2000000 in
theorem reckons03_law (a b n : Nat) (w : World) (ha : a < 18446744073709551616) (hb : b < 18446744073709551616) (hn : n < 18446744073709551616) :
    Calls Try.prog 5 #[.int .u64 a, .int .u64 b, .int .u64 n] w fun e w' => e = .returned (.bool true) ∧ Below w.heap.size w w' := by
  have H1 := hide (madd_any a b n ha hb hn)
  have H2 := hide (radd_any a b n ha hb hn)
  have H3 := hide (mmul_any a b n ha hb hn)
  have H4 := hide (rmul_any a b n ha hb hn)
  have H5 := hide (mpow_any a b n ha hb hn)
  have H6 := hide (rpow_any a b n ha hb hn)
  have H7 := hide (msub_any a b n ha hb hn)
  generalize mdn n (a + b) = r1 at *
  generalize mdn n (a * b) = r2 at *
  generalize mdn n (a ^ b) = r3 at *
  by_cases h0 : n = 0
  · subst h0
    rw [mdn_zero] at H7
    clear ha hb hn
    go_enter Try.func5, Try.ntmps5
    go_wp2_with fail
    refine (awake03 _).mono ?_
    rintro e w1 ⟨rfl, B⟩
    go_wp2_with fail
    refine (H1.out _).mono ?_
    rintro e w2 ⟨rfl, hb⟩
    replace B : Below w.heap.size w w2 := below_call B (Nat.le_refl _) hb
    clear hb
    go_wp2_with fail
    refine (H2.out _).mono ?_
    rintro e w3 ⟨rfl, rfl⟩
    go_wp2_with fail
    refine (H3.out _).mono ?_
    rintro e w3 ⟨rfl, hb⟩
    replace B : Below w.heap.size w w3 := below_call B (Nat.le_refl _) hb
    clear hb
    go_wp2_with fail
    refine (H4.out _).mono ?_
    rintro e w4 ⟨rfl, rfl⟩
    go_wp2_with fail
    refine (H5.out _).mono ?_
    rintro e w4 ⟨rfl, hb⟩
    replace B : Below w.heap.size w w4 := below_call B (Nat.le_refl _) hb
    clear hb
    go_wp2_with fail
    refine (H6.out _).mono ?_
    rintro e w5 ⟨rfl, rfl⟩
    go_wp2_with fail
    refine (H7.out _).mono ?_
    rintro e w5 ⟨rfl, hb⟩
    replace B : Below w.heap.size w w5 := below_call B (Nat.le_refl _) hb
    clear hb
    go_wp2_with fail
    go_ret
    exact ⟨rfl, B⟩
  · obtain ⟨t0, t1⟩ := ne0_facts h0
    have t2 : ¬ n = 0 := h0
    have t3 : decide (n = 0) = false := decide_eq_false h0
    have t4 : (n == 0) = false := by rw [beq_eq_false_iff_ne]; exact h0
    have t5 : (0 : Int) < (n : Int) := by omega
    have t6 : (0 : Int) ≤ (n : Int) := by omega
    have hp : 0 < n := by omega
    obtain ⟨d, hd⟩ : ∃ d, d = mdn n (a + (n - mdn n b)) := ⟨_, rfl⟩
    rw [← hd] at H7
    have hdn : d < n := by rw [hd]; exact mdn_lt hp _
    obtain ⟨r, hr⟩ : ∃ r, r = a % n := ⟨_, rfl⟩
    have hback : mdn n (d + b) = r := by
      have h1 := Nat.mod_lt b hp
      have h2 := Nat.div_add_mod b n
      rw [mdn_pos hp, hd, mdn_pos hp, mdn_pos hp, hr, Nat.add_mod, Nat.mod_mod, ← Nat.add_mod]
      have e : a + (n - b % n) + b = a + n * (b / n + 1) := by rw [Nat.mul_add, Nat.mul_one]; omega
      rw [e, Nat.add_mul_mod_self_left]
    have H8 := hide (radd_any d b n (by omega) hb hn)
    rw [hback] at H8
    have e1 : (a : Int) % (n : Int) = (r : Int) := by rw [hr]; rfl
    have e1t : (a : Int).tmod (n : Int) = (r : Int) := by rw [hr]; rfl
    have f1 : decide (d < n) = true := decide_eq_true hdn
    have f2 : decide ((d : Int) < (n : Int)) = true := decide_eq_true (by omega)
    clear hd hdn hr hback hp h0 ha hb hn
    go_enter Try.func5, Try.ntmps5
    go_wp2_with fail
    refine (awake03 _).mono ?_
    rintro e w1 ⟨rfl, B⟩
    go_wp2_with fail
    refine (H1.out _).mono ?_
    rintro e w2 ⟨rfl, hb⟩
    replace B : Below w.heap.size w w2 := below_call B (Nat.le_refl _) hb
    clear hb
    go_wp2_with fail
    refine (H2.out _).mono ?_
    rintro e w3 ⟨rfl, rfl⟩
    go_wp2_with fail
    refine (H3.out _).mono ?_
    rintro e w3 ⟨rfl, hb⟩
    replace B : Below w.heap.size w w3 := below_call B (Nat.le_refl _) hb
    clear hb
    go_wp2_with fail
    refine (H4.out _).mono ?_
    rintro e w4 ⟨rfl, rfl⟩
    go_wp2_with fail
    refine (H5.out _).mono ?_
    rintro e w4 ⟨rfl, hb⟩
    replace B : Below w.heap.size w w4 := below_call B (Nat.le_refl _) hb
    clear hb
    go_wp2_with fail
    refine (H6.out _).mono ?_
    rintro e w5 ⟨rfl, rfl⟩
    go_wp2_with fail
    refine (H7.out _).mono ?_
    rintro e w5 ⟨rfl, hb⟩
    replace B : Below w.heap.size w w5 := below_call B (Nat.le_refl _) hb
    clear hb
    go_wp2_with fail
    go_region_held3 (fun v => True) (trivial) (first | (go_at_call 15; (with_reducible refine (H8.out _).mono ?_); rintro e w6 ⟨rfl, rfl⟩))
    all_goals
      go_wp2_with fail
      go_ret
      exact ⟨rfl, by (repeat (first | exact Below.refl _ _ | assumption | (refine Below.alloc ?_ (by first | omega | (simp; done) | (simp; omega)) _) | (refine Below.setCell ?_ (by first | omega | (simp; done) | (simp; omega)) _) | refine Below.drew ?_ | refine below_drewN ?_ _))⟩
set_option maxRecDepth 100000 in
set_option maxHeartbeats 2000000 in
theorem inverts03_law (a n : Nat) (w : World) (ha : a < 18446744073709551616) (hn : n < 18446744073709551616) :
    Calls Try.prog 4 #[.int .u64 a, .int .u64 n] w fun e w' => e = .returned (.bool true) ∧ Below w.heap.size w w' := by
  have H1 := hide (mgcd_any a n)
  have H2 := hide (rgcd_any a n ha hn)
  by_cases h0 : n = 0
  · subst h0
    have H3 := hide (minv_zero a)
    generalize Nat.gcd a 0 = g at *
    clear ha hn
    go_enter Try.func4, Try.ntmps4
    go_wp2_with fail
    refine (awake03 _).mono ?_
    rintro e w1 ⟨rfl, B⟩
    go_wp2_with fail
    refine (H1.out _).mono ?_
    rintro e w2 ⟨rfl, hb⟩
    replace B : Below w.heap.size w w2 := below_call B (Nat.le_refl _) hb
    clear hb
    go_wp2_with fail
    refine (H2.out _).mono ?_
    rintro e w3 ⟨rfl, rfl⟩
    go_wp2_with fail
    refine (H3.out _).mono ?_
    rintro e w3 ⟨rfl, hb⟩
    replace B : Below w.heap.size w w3 := below_call B (Nat.le_refl _) hb
    clear hb
    go_wp2_with fail
    go_ret
    exact ⟨rfl, B⟩
  · obtain ⟨t0, t1⟩ := ne0_facts h0
    have t2 : ¬ n = 0 := h0
    have t3 : decide (n = 0) = false := decide_eq_false h0
    have t4 : (n == 0) = false := by rw [beq_eq_false_iff_ne]; exact h0
    have t5 : (0 : Int) < (n : Int) := by omega
    have t6 : (0 : Int) ≤ (n : Int) := by omega
    have hp : 0 < n := by omega
    have H3 := hide (minv_pos a n ha hn hp)
    by_cases hg : Nat.gcd a n = 1
    · rw [invR, if_pos hg] at H3
      obtain ⟨s1, s2⟩ := invN_spec (a := a) hp
      rw [hg] at s1
      have H4 := hide (rmul_any a (invN a n) n ha (by omega) hn)
      rw [mdn_pos hp, s1] at H4
      obtain ⟨o1, ho1⟩ : ∃ o, o = 1 % n := ⟨_, rfl⟩
      rw [← ho1] at H4
      have e1 : (1 : Int) % (n : Int) = (o1 : Int) := by rw [ho1]; rfl
      have e1t : (1 : Int).tmod (n : Int) = (o1 : Int) := by rw [ho1]; rfl
      rw [hg] at H1 H2
      generalize invN a n = x at *
      have f1 : decide (x < n) = true := decide_eq_true s2
      have f2 : decide ((x : Int) < (n : Int)) = true := decide_eq_true (by omega)
      clear s1 s2 hp hg h0 ha hn ho1
      go_enter Try.func4, Try.ntmps4
      go_wp2_with fail
      refine (awake03 _).mono ?_
      rintro e w1 ⟨rfl, B⟩
      go_wp2_with fail
      refine (H1.out _).mono ?_
      rintro e w2 ⟨rfl, hb⟩
      replace B : Below w.heap.size w w2 := below_call B (Nat.le_refl _) hb
      clear hb
      go_wp2_with fail
      refine (H2.out _).mono ?_
      rintro e w3 ⟨rfl, rfl⟩
      go_wp2_with fail
      refine (H3.out _).mono ?_
      rintro e w3 ⟨rfl, hb⟩
      replace B : Below w.heap.size w w3 := below_call B (Nat.le_refl _) hb
      clear hb
      go_wp2_with fail
      go_region_held3 (fun v => True) (trivial) (first | (go_at_call 10; (with_reducible refine (H4.out _).mono ?_); rintro e w6 ⟨rfl, rfl⟩))
      all_goals
        go_wp2_with fail
        go_ret
        exact ⟨rfl, by (repeat (first | exact Below.refl _ _ | assumption | (refine Below.alloc ?_ (by first | omega | (simp; done) | (simp; omega)) _) | (refine Below.setCell ?_ (by first | omega | (simp; done) | (simp; omega)) _) | refine Below.drew ?_ | refine below_drewN ?_ _))⟩
    · rw [invR, if_neg hg] at H3
      have f1 : ((Nat.gcd a n : Nat) : Int) != 1 := by rw [bne_iff_ne]; omega
      have f2 : (((Nat.gcd a n : Nat) : Int) != 1) = true := f1
      clear f1
      generalize Nat.gcd a n = g at *
      clear hg hp h0 ha hn
      go_enter Try.func4, Try.ntmps4
      go_wp2_with fail
      refine (awake03 _).mono ?_
      rintro e w1 ⟨rfl, B⟩
      go_wp2_with fail
      refine (H1.out _).mono ?_
      rintro e w2 ⟨rfl, hb⟩
      replace B : Below w.heap.size w w2 := below_call B (Nat.le_refl _) hb
      clear hb
      go_wp2_with fail
      refine (H2.out _).mono ?_
      rintro e w3 ⟨rfl, rfl⟩
      go_wp2_with fail
      refine (H3.out _).mono ?_
      rintro e w3 ⟨rfl, hb⟩
      replace B : Below w.heap.size w w3 := below_call B (Nat.le_refl _) hb
      clear hb
      go_wp2_with fail
      go_ret
      exact ⟨rfl, B⟩
set_option maxRecDepth 100000 in
set_option maxHeartbeats 2000000 in
theorem only03_law (a n b : Nat) (w : World) (ha : a < 18446744073709551616) (hn : n < 18446744073709551616) (hb : b < 18446744073709551616) :
    Calls Try.prog 3 #[.int .u64 a, .int .u64 n, .int .u64 b] w fun e w' => e = .returned (.bool true) ∧ Below w.heap.size w w' := by
  by_cases hbn : n ≤ b
  · have f1 : decide (n ≤ b) = true := decide_eq_true hbn
    have f2 : decide ((n : Int) ≤ (b : Int)) = true := decide_eq_true (by omega)
    clear hbn ha hn hb
    go_enter Try.func3, Try.ntmps3
    go_wp2_with fail
    refine (awake03 _).mono ?_
    rintro e w1 ⟨rfl, B⟩
    go_wp2_with fail
    go_quiet (fail)
    go_wp2_with fail
    go_ret
    exact ⟨rfl, by (repeat (first | exact Below.refl _ _ | assumption | (refine Below.alloc ?_ (by first | omega | (simp; done) | (simp; omega)) _) | (refine Below.setCell ?_ (by first | omega | (simp; done) | (simp; omega)) _) | refine Below.drew ?_ | refine below_drewN ?_ _))⟩
  · have hp : 0 < n := by omega
    have f1 : decide (n ≤ b) = false := decide_eq_false hbn
    have f2 : decide ((n : Int) ≤ (b : Int)) = false := decide_eq_false (by omega)
    have H1 := hide (rmul_any a b n ha hb hn)
    rw [mdn_pos hp] at H1
    obtain ⟨o1, ho1⟩ : ∃ o, o = 1 % n := ⟨_, rfl⟩
    have e0 : max (n : Int) 1 = (n : Int) := by omega
    have e1 : (1 : Int) % (n : Int) = (o1 : Int) := by rw [ho1]; rfl
    have e1t : (1 : Int).tmod (n : Int) = (o1 : Int) := by rw [ho1]; rfl
    obtain ⟨t0, t1⟩ := ne0_facts (n := n) (by omega)
    have t2 : ¬ n = 0 := by omega
    have t3 : decide (n = 0) = false := decide_eq_false (by omega)
    have t4 : (n == 0) = false := by rw [beq_eq_false_iff_ne]; omega
    have t5 : (0 : Int) < (n : Int) := by omega
    by_cases hm : a * b % n = o1
    · have hg : Nat.gcd a n = 1 := inv_gcd (y := b) (by rw [hm, ho1])
      have H3 := hide (minv_pos a n ha hn hp)
      rw [invR, if_pos hg] at H3
      obtain ⟨s1, s2⟩ := invN_spec (a := a) hp
      rw [hg] at s1
      have hx : invN a n = b := inv_only s2 (by omega) s1 (by rw [hm, ho1])
      rw [hx] at H3
      rw [hm] at H1
      clear hm hg s1 s2 hx hp hbn ha hn hb ho1
      go_enter Try.func3, Try.ntmps3
      go_wp2_with fail
      refine (awake03 _).mono ?_
      rintro e w1 ⟨rfl, B⟩
      go_wp2_with fail
      go_region_held3 (fun v => True) (trivial) (first | (go_at_call 10; (with_reducible refine (H1.out _).mono ?_); rintro e w6 ⟨rfl, rfl⟩))
      all_goals
        go_wp2_with fail
        refine (H3.out _).mono ?_
        rintro e w3 ⟨rfl, hb⟩
        have B2 : Below w.heap.size w w3 := below_call (by (repeat (first | exact Below.refl _ _ | assumption | (refine Below.alloc ?_ (by first | omega | (simp; done) | (simp; omega)) _) | (refine Below.setCell ?_ (by first | omega | (simp; done) | (simp; omega)) _) | refine Below.drew ?_ | refine below_drewN ?_ _))) (Nat.le_refl _) hb
        clear hb
        go_wp2_with fail
        go_ret
        exact ⟨rfl, B2⟩
    · have g1 : (((a * b % n : Nat) : Int) != (o1 : Int)) = true := by rw [bne_iff_ne]; omega
      have g2 : (((a * b % n : Nat) : Int) == (o1 : Int)) = false := by rw [beq_eq_false_iff_ne]; omega
      generalize a * b % n = m at *
      have g3 : ¬ m = o1 := hm
      clear hm hp hbn ha hn hb ho1
      go_enter Try.func3, Try.ntmps3
      go_wp2_with fail
      refine (awake03 _).mono ?_
      rintro e w1 ⟨rfl, B⟩
      go_wp2_with fail
      go_region_held3 (fun v => True) (trivial) (first | (go_at_call 10; (with_reducible refine (H1.out _).mono ?_); rintro e w6 ⟨rfl, rfl⟩))
      all_goals
        go_wp2_with fail
        go_ret
        exact ⟨rfl, by (repeat (first | exact Below.refl _ _ | assumption | (refine Below.alloc ?_ (by first | omega | (simp; done) | (simp; omega)) _) | (refine Below.setCell ?_ (by first | omega | (simp; done) | (simp; omega)) _) | refine Below.drew ?_ | refine below_drewN ?_ _))⟩
end Go.Proofs.Ytjnhdmeegedcgaa
