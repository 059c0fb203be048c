/-
  Walks of wide.Cmp4, Bit4, Len4, Of4 and of the reference's Of4. Conditions: numbers fit 256 bits.
-/
import Derived.Test.YtpfpdlgfngkdjaaFour
import Derived.Test.YtpfpdlgfngkdjaaEq4
import Derived.Test.YtpfpdlgfngkdjaaDivW
import Derived.Test.YtpfpdlgfngkdjaaFullU
import Derived.Test.YtpfpdlgfngkdjaaDivR
import Derived.Test.YtpfpdlgfngkdjaaShr
namespace Go.Proofs.Ytpfpdlgfngkdjaa
open Go.RowKit Go.Shelf
set_option linter.unusedVariables false
attribute [local go_sem] eq4

theorem bt_wd (X n i r : Nat) (hi : n / 64 = i) (hr : n % 64 = r) : wd X i / 2 ^ r % 2 = bt X n := by
  unfold wd bt
  have e : n = 64 * i + r := by omega
  rw [e, Nat.pow_add, ← Nat.div_div_eq_div_mul, Nat.pow_mul, show (2 : Nat) ^ 64 = 18446744073709551616 by decide]
  have h : r < 64 := by omega
  generalize X / 18446744073709551616 ^ i = Y
  have h1 : (18446744073709551616 : Nat) = 2 ^ r * 2 ^ (64 - r) := by rw [← Nat.pow_add, show r + (64 - r) = 64 by omega]
  have h2 : Y % 18446744073709551616 / 2 ^ r = Y / 2 ^ r % 2 ^ (64 - r) := by
    rw [h1, Nat.mod_mul_right_div_self]
  rw [h2, Nat.mod_mod_of_dvd]
  exact ⟨2 ^ (64 - r - 1), by rw [← Nat.pow_succ']; congr 1; omega⟩
def bit4B (X : Nat) (n : Int) : Bool := decide (0 ≤ n ∧ n < 256) && decide (bt X n.toNat = 1)
theorem and1_nat (f r q : Nat) (hf : f < 18446744073709551616) (h : f / 2 ^ r % 2 = q) : bits .and .u64 ((f : Int) / 2 ^ r) 1 = (q : Int) := by
  have e : (f : Int) / 2 ^ r = ((f / 2 ^ r : Nat) : Int) := by rw [Int.natCast_ediv, Int.natCast_pow]; rfl
  rw [e, show (1 : Int) = ((1 : Nat) : Int) from rfl, bits_and_u64_nat _ _ (Nat.lt_of_le_of_lt (Nat.div_le_self _ _) hf) (by omega), Nat.and_one_is_mod, h]
set_option maxHeartbeats 2000000 in
theorem bit4_g00 (f0 f1 f2 f3 r : Nat) (n : Int) (h0 : 0 ≤ n) (h1 : n < 256) (hi : n / 64 = 0) (hr : n % 64 = (r : Int)) (hq : bits .and .u64 ((f0 : Int) / 2 ^ r) 1 = 0) (w : World)
    : Calls Try.prog 53 #[.agg #[.int .u64 f0, .int .u64 f1, .int .u64 f2, .int .u64 f3], .int .i64 n] w fun e w' => e = .returned (.bool false) ∧ Below w.heap.size w w' := by
  have t1 : decide (0 ≤ n) = true := decide_eq_true h0
  have t2 : decide (n < 256) = true := decide_eq_true h1
  have t3 : (0 : Int) ≤ (r : Int) := by omega
  have t4 : (r : Int) < 64 := by omega
  go_enter Try.func53, Try.ntmps53
  go_wp2_with fail
  go_ret
  exact ⟨rfl, by (repeat (first | exact Below.refl _ _ | assumption | (refine Below.alloc ?_ (by first | omega | (simp; done) | (simp; omega)) _) | (refine Below.setCell ?_ (by first | omega | (simp; done) | (simp; omega)) _) | refine Below.drew ?_ | refine below_drewN ?_ _))⟩
set_option maxHeartbeats 2000000 in
theorem bit4_g01 (f0 f1 f2 f3 r : Nat) (n : Int) (h0 : 0 ≤ n) (h1 : n < 256) (hi : n / 64 = 0) (hr : n % 64 = (r : Int)) (hq : bits .and .u64 ((f0 : Int) / 2 ^ r) 1 = 1) (w : World)
    : Calls Try.prog 53 #[.agg #[.int .u64 f0, .int .u64 f1, .int .u64 f2, .int .u64 f3], .int .i64 n] w fun e w' => e = .returned (.bool true) ∧ Below w.heap.size w w' := by
  have t1 : decide (0 ≤ n) = true := decide_eq_true h0
  have t2 : decide (n < 256) = true := decide_eq_true h1
  have t3 : (0 : Int) ≤ (r : Int) := by omega
  have t4 : (r : Int) < 64 := by omega
  go_enter Try.func53, Try.ntmps53
  go_wp2_with fail
  go_ret
  exact ⟨rfl, by (repeat (first | exact Below.refl _ _ | assumption | (refine Below.alloc ?_ (by first | omega | (simp; done) | (simp; omega)) _) | (refine Below.setCell ?_ (by first | omega | (simp; done) | (simp; omega)) _) | refine Below.drew ?_ | refine below_drewN ?_ _))⟩
set_option maxHeartbeats 2000000 in
theorem bit4_g10 (f0 f1 f2 f3 r : Nat) (n : Int) (h0 : 0 ≤ n) (h1 : n < 256) (hi : n / 64 = 1) (hr : n % 64 = (r : Int)) (hq : bits .and .u64 ((f1 : Int) / 2 ^ r) 1 = 0) (w : World)
    : Calls Try.prog 53 #[.agg #[.int .u64 f0, .int .u64 f1, .int .u64 f2, .int .u64 f3], .int .i64 n] w fun e w' => e = .returned (.bool false) ∧ Below w.heap.size w w' := by
  have t1 : decide (0 ≤ n) = true := decide_eq_true h0
  have t2 : decide (n < 256) = true := decide_eq_true h1
  have t3 : (0 : Int) ≤ (r : Int) := by omega
  have t4 : (r : Int) < 64 := by omega
  go_enter Try.func53, Try.ntmps53
  go_wp2_with fail
  go_ret
  exact ⟨rfl, by (repeat (first | exact Below.refl _ _ | assumption | (refine Below.alloc ?_ (by first | omega | (simp; done) | (simp; omega)) _) | (refine Below.setCell ?_ (by first | omega | (simp; done) | (simp; omega)) _) | refine Below.drew ?_ | refine below_drewN ?_ _))⟩
set_option maxHeartbeats 2000000 in
theorem bit4_g11 (f0 f1 f2 f3 r : Nat) (n : Int) (h0 : 0 ≤ n) (h1 : n < 256) (hi : n / 64 = 1) (hr : n % 64 = (r : Int)) (hq : bits .and .u64 ((f1 : Int) / 2 ^ r) 1 = 1) (w : World)
    : Calls Try.prog 53 #[.agg #[.int .u64 f0, .int .u64 f1, .int .u64 f2, .int .u64 f3], .int .i64 n] w fun e w' => e = .returned (.bool true) ∧ Below w.heap.size w w' := by
  have t1 : decide (0 ≤ n) = true := decide_eq_true h0
  have t2 : decide (n < 256) = true := decide_eq_true h1
  have t3 : (0 : Int) ≤ (r : Int) := by omega
  have t4 : (r : Int) < 64 := by omega
  go_enter Try.func53, Try.ntmps53
  go_wp2_with fail
  go_ret
  exact ⟨rfl, by (repeat (first | exact Below.refl _ _ | assumption | (refine Below.alloc ?_ (by first | omega | (simp; done) | (simp; omega)) _) | (refine Below.setCell ?_ (by first | omega | (simp; done) | (simp; omega)) _) | refine Below.drew ?_ | refine below_drewN ?_ _))⟩
set_option maxHeartbeats 2000000 in
theorem bit4_g20 (f0 f1 f2 f3 r : Nat) (n : Int) (h0 : 0 ≤ n) (h1 : n < 256) (hi : n / 64 = 2) (hr : n % 64 = (r : Int)) (hq : bits .and .u64 ((f2 : Int) / 2 ^ r) 1 = 0) (w : World)
    : Calls Try.prog 53 #[.agg #[.int .u64 f0, .int .u64 f1, .int .u64 f2, .int .u64 f3], .int .i64 n] w fun e w' => e = .returned (.bool false) ∧ Below w.heap.size w w' := by
  have t1 : decide (0 ≤ n) = true := decide_eq_true h0
  have t2 : decide (n < 256) = true := decide_eq_true h1
  have t3 : (0 : Int) ≤ (r : Int) := by omega
  have t4 : (r : Int) < 64 := by omega
  go_enter Try.func53, Try.ntmps53
  go_wp2_with fail
  go_ret
  exact ⟨rfl, by (repeat (first | exact Below.refl _ _ | assumption | (refine Below.alloc ?_ (by first | omega | (simp; done) | (simp; omega)) _) | (refine Below.setCell ?_ (by first | omega | (simp; done) | (simp; omega)) _) | refine Below.drew ?_ | refine below_drewN ?_ _))⟩
set_option maxHeartbeats 2000000 in
theorem bit4_g21 (f0 f1 f2 f3 r : Nat) (n : Int) (h0 : 0 ≤ n) (h1 : n < 256) (hi : n / 64 = 2) (hr : n % 64 = (r : Int)) (hq : bits .and .u64 ((f2 : Int) / 2 ^ r) 1 = 1) (w : World)
    : Calls Try.prog 53 #[.agg #[.int .u64 f0, .int .u64 f1, .int .u64 f2, .int .u64 f3], .int .i64 n] w fun e w' => e = .returned (.bool true) ∧ Below w.heap.size w w' := by
  have t1 : decide (0 ≤ n) = true := decide_eq_true h0
  have t2 : decide (n < 256) = true := decide_eq_true h1
  have t3 : (0 : Int) ≤ (r : Int) := by omega
  have t4 : (r : Int) < 64 := by omega
  go_enter Try.func53, Try.ntmps53
  go_wp2_with fail
  go_ret
  exact ⟨rfl, by (repeat (first | exact Below.refl _ _ | assumption | (refine Below.alloc ?_ (by first | omega | (simp; done) | (simp; omega)) _) | (refine Below.setCell ?_ (by first | omega | (simp; done) | (simp; omega)) _) | refine Below.drew ?_ | refine below_drewN ?_ _))⟩
set_option maxHeartbeats 2000000 in
theorem bit4_g30 (f0 f1 f2 f3 r : Nat) (n : Int) (h0 : 0 ≤ n) (h1 : n < 256) (hi : n / 64 = 3) (hr : n % 64 = (r : Int)) (hq : bits .and .u64 ((f3 : Int) / 2 ^ r) 1 = 0) (w : World)
    : Calls Try.prog 53 #[.agg #[.int .u64 f0, .int .u64 f1, .int .u64 f2, .int .u64 f3], .int .i64 n] w fun e w' => e = .returned (.bool false) ∧ Below w.heap.size w w' := by
  have t1 : decide (0 ≤ n) = true := decide_eq_true h0
  have t2 : decide (n < 256) = true := decide_eq_true h1
  have t3 : (0 : Int) ≤ (r : Int) := by omega
  have t4 : (r : Int) < 64 := by omega
  go_enter Try.func53, Try.ntmps53
  go_wp2_with fail
  go_ret
  exact ⟨rfl, by (repeat (first | exact Below.refl _ _ | assumption | (refine Below.alloc ?_ (by first | omega | (simp; done) | (simp; omega)) _) | (refine Below.setCell ?_ (by first | omega | (simp; done) | (simp; omega)) _) | refine Below.drew ?_ | refine below_drewN ?_ _))⟩
set_option maxHeartbeats 2000000 in
theorem bit4_g31 (f0 f1 f2 f3 r : Nat) (n : Int) (h0 : 0 ≤ n) (h1 : n < 256) (hi : n / 64 = 3) (hr : n % 64 = (r : Int)) (hq : bits .and .u64 ((f3 : Int) / 2 ^ r) 1 = 1) (w : World)
    : Calls Try.prog 53 #[.agg #[.int .u64 f0, .int .u64 f1, .int .u64 f2, .int .u64 f3], .int .i64 n] w fun e w' => e = .returned (.bool true) ∧ Below w.heap.size w w' := by
  have t1 : decide (0 ≤ n) = true := decide_eq_true h0
  have t2 : decide (n < 256) = true := decide_eq_true h1
  have t3 : (0 : Int) ≤ (r : Int) := by omega
  have t4 : (r : Int) < 64 := by omega
  go_enter Try.func53, Try.ntmps53
  go_wp2_with fail
  go_ret
  exact ⟨rfl, by (repeat (first | exact Below.refl _ _ | assumption | (refine Below.alloc ?_ (by first | omega | (simp; done) | (simp; omega)) _) | (refine Below.setCell ?_ (by first | omega | (simp; done) | (simp; omega)) _) | refine Below.drew ?_ | refine below_drewN ?_ _))⟩
set_option maxHeartbeats 2000000 in
theorem bit4_out (f0 f1 f2 f3 : Nat) (n : Int) (h : n < 0 ∨ 256 ≤ n) (w : World)
    : Calls Try.prog 53 #[.agg #[.int .u64 f0, .int .u64 f1, .int .u64 f2, .int .u64 f3], .int .i64 n] w fun e w' => e = .returned (.bool false) ∧ Below w.heap.size w w' := by
  rcases h with h | h
  · have t1 : decide (0 ≤ n) = false := decide_eq_false (by omega)
    have t2 : ¬ 0 ≤ n := by omega
    go_enter Try.func53, Try.ntmps53
    go_wp2_with fail
    go_ret
    exact ⟨rfl, by (repeat (first | exact Below.refl _ _ | assumption | (refine Below.alloc ?_ (by first | omega | (simp; done) | (simp; omega)) _) | (refine Below.setCell ?_ (by first | omega | (simp; done) | (simp; omega)) _) | refine Below.drew ?_ | refine below_drewN ?_ _))⟩
  · have t1 : decide (n < 256) = false := decide_eq_false (by omega)
    have t2 : ¬ n < 256 := by omega
    have t3 : decide (0 ≤ n) = true := decide_eq_true (by omega)
    have t4 : 0 ≤ n := by omega
    go_enter Try.func53, Try.ntmps53
    go_wp2_with fail
    go_ret
    exact ⟨rfl, by (repeat (first | exact Below.refl _ _ | assumption | (refine Below.alloc ?_ (by first | omega | (simp; done) | (simp; omega)) _) | (refine Below.setCell ?_ (by first | omega | (simp; done) | (simp; omega)) _) | refine Below.drew ?_ | refine below_drewN ?_ _))⟩
theorem bit4_u (X : Nat) (n : Int) (w : World) : Calls Try.prog 53 #[.agg #[.int .u64 (wd (X) 0 : Nat), .int .u64 (wd (X) 1 : Nat), .int .u64 (wd (X) 2 : Nat), .int .u64 (wd (X) 3 : Nat)], .int .i64 n] w fun e w' => e = .returned (.bool (bit4B X n)) ∧ Below w.heap.size w w' := by
  by_cases h : 0 ≤ n ∧ n < 256
  · obtain ⟨h0, h1⟩ := h
    obtain ⟨j, rfl⟩ : ∃ j : Nat, n = (j : Int) := ⟨n.toNat, by omega⟩
    have hj : j < 256 := by omega
    obtain ⟨r, hr⟩ : ∃ r, j % 64 = r := ⟨_, rfl⟩
    have hrI : (j : Int) % 64 = (r : Int) := by omega
    have hB : bit4B X j = decide (bt X j = 1) := by unfold bit4B; rw [decide_eq_true ⟨h0, h1⟩, Bool.true_and, Int.toNat_natCast]
    have hq : bt X j = 0 ∨ bt X j = 1 := by have := bt_le X j; omega
    have hw := bt_wd X j _ r rfl hr
    rcases (show j / 64 = 0 ∨ j / 64 = 1 ∨ j / 64 = 2 ∨ j / 64 = 3 by omega) with h | h | h | h
    · rw [h] at hw
      have hiI : (j : Int) / 64 = 0 := by omega
      rcases hq with hq | hq
      · rw [hB, hq]
        exact bit4_g00 _ _ _ _ r j h0 h1 hiI hrI (and1_nat _ r 0 (wd_lt _ _) (by rw [hw, hq])) w
      · rw [hB, hq]
        exact bit4_g01 _ _ _ _ r j h0 h1 hiI hrI (and1_nat _ r 1 (wd_lt _ _) (by rw [hw, hq])) w
    · rw [h] at hw
      have hiI : (j : Int) / 64 = 1 := by omega
      rcases hq with hq | hq
      · rw [hB, hq]
        exact bit4_g10 _ _ _ _ r j h0 h1 hiI hrI (and1_nat _ r 0 (wd_lt _ _) (by rw [hw, hq])) w
      · rw [hB, hq]
        exact bit4_g11 _ _ _ _ r j h0 h1 hiI hrI (and1_nat _ r 1 (wd_lt _ _) (by rw [hw, hq])) w
    · rw [h] at hw
      have hiI : (j : Int) / 64 = 2 := by omega
      rcases hq with hq | hq
      · rw [hB, hq]
        exact bit4_g20 _ _ _ _ r j h0 h1 hiI hrI (and1_nat _ r 0 (wd_lt _ _) (by rw [hw, hq])) w
      · rw [hB, hq]
        exact bit4_g21 _ _ _ _ r j h0 h1 hiI hrI (and1_nat _ r 1 (wd_lt _ _) (by rw [hw, hq])) w
    · rw [h] at hw
      have hiI : (j : Int) / 64 = 3 := by omega
      rcases hq with hq | hq
      · rw [hB, hq]
        exact bit4_g30 _ _ _ _ r j h0 h1 hiI hrI (and1_nat _ r 0 (wd_lt _ _) (by rw [hw, hq])) w
      · rw [hB, hq]
        exact bit4_g31 _ _ _ _ r j h0 h1 hiI hrI (and1_nat _ r 1 (wd_lt _ _) (by rw [hw, hq])) w
  · have hB : bit4B X n = false := by unfold bit4B; rw [decide_eq_false h, Bool.false_and]
    rw [hB]
    exact bit4_out _ _ _ _ n (by omega) w
set_option maxHeartbeats 2000000 in
theorem len4_g3 (f0 f1 f2 f3 b s : Nat) (h0 : 0 < f3) (hb : b ≤ 64) (hs : (s : Int) = 192 + b) (w : World)
    (H1 : ∀ W, Calls Try.prog 55 #[.int .u64 f3] W fun e w' => e = .returned (.int .i64 b) ∧ W = w')
    : Calls Try.prog 52 #[.agg #[.int .u64 f0, .int .u64 f1, .int .u64 f2, .int .u64 f3]] w fun e w' => e = .returned (.int .i64 s) ∧ Below w.heap.size w w' := by
  replace H1 := hide H1
  have t0 : ¬ f3 = 0 := by omega
  have t1 : ((f3 : Int) == 0) = false := by rw [beq_eq_false_iff_ne]; omega
  have t2 : ¬ (f3 : Int) = 0 := by omega
  clear h0
  go_enter Try.func52, Try.ntmps52
  go_wp2_with fail
  refine wp_loop_rounds 1 ?_
  rw [rounds_succ]
  go_wp2_with fail
  refine (H1.out _).mono ?_
  rintro e w1 ⟨rfl, rfl⟩
  go_wp2_with fail
  go_ret
  exact ⟨(ret_i (by omega) : Ending.returned (.int .i64 (192 + (b : Int))) = _), by (repeat (first | exact Below.refl _ _ | assumption | (refine Below.alloc ?_ (by first | omega | (simp; done) | (simp; omega)) _) | (refine Below.setCell ?_ (by first | omega | (simp; done) | (simp; omega)) _) | refine Below.drew ?_ | refine below_drewN ?_ _))⟩
set_option maxHeartbeats 2000000 in
theorem len4_g2 (f0 f1 f2 b s : Nat) (h0 : 0 < f2) (hb : b ≤ 64) (hs : (s : Int) = 128 + b) (w : World)
    (H1 : ∀ W, Calls Try.prog 55 #[.int .u64 f2] W fun e w' => e = .returned (.int .i64 b) ∧ W = w')
    : Calls Try.prog 52 #[.agg #[.int .u64 f0, .int .u64 f1, .int .u64 f2, .int .u64 0]] w fun e w' => e = .returned (.int .i64 s) ∧ Below w.heap.size w w' := by
  replace H1 := hide H1
  have t0 : ¬ f2 = 0 := by omega
  have t1 : ((f2 : Int) == 0) = false := by rw [beq_eq_false_iff_ne]; omega
  have t2 : ¬ (f2 : Int) = 0 := by omega
  clear h0
  go_enter Try.func52, Try.ntmps52
  go_wp2_with fail
  refine wp_loop_rounds 2 ?_
  rw [rounds_succ]
  go_wp2_with fail
  rw [rounds_succ]
  go_wp2_with fail
  refine (H1.out _).mono ?_
  rintro e w1 ⟨rfl, rfl⟩
  go_wp2_with fail
  go_ret
  exact ⟨(ret_i (by omega) : Ending.returned (.int .i64 (128 + (b : Int))) = _), by (repeat (first | exact Below.refl _ _ | assumption | (refine Below.alloc ?_ (by first | omega | (simp; done) | (simp; omega)) _) | (refine Below.setCell ?_ (by first | omega | (simp; done) | (simp; omega)) _) | refine Below.drew ?_ | refine below_drewN ?_ _))⟩
set_option maxHeartbeats 2000000 in
theorem len4_g1 (f0 f1 b s : Nat) (h0 : 0 < f1) (hb : b ≤ 64) (hs : (s : Int) = 64 + b) (w : World)
    (H1 : ∀ W, Calls Try.prog 55 #[.int .u64 f1] W fun e w' => e = .returned (.int .i64 b) ∧ W = w')
    : Calls Try.prog 52 #[.agg #[.int .u64 f0, .int .u64 f1, .int .u64 0, .int .u64 0]] w fun e w' => e = .returned (.int .i64 s) ∧ Below w.heap.size w w' := by
  replace H1 := hide H1
  have t0 : ¬ f1 = 0 := by omega
  have t1 : ((f1 : Int) == 0) = false := by rw [beq_eq_false_iff_ne]; omega
  have t2 : ¬ (f1 : Int) = 0 := by omega
  clear h0
  go_enter Try.func52, Try.ntmps52
  go_wp2_with fail
  refine wp_loop_rounds 3 ?_
  rw [rounds_succ]
  go_wp2_with fail
  rw [rounds_succ]
  go_wp2_with fail
  rw [rounds_succ]
  go_wp2_with fail
  refine (H1.out _).mono ?_
  rintro e w1 ⟨rfl, rfl⟩
  go_wp2_with fail
  go_ret
  exact ⟨(ret_i (by omega) : Ending.returned (.int .i64 (64 + (b : Int))) = _), by (repeat (first | exact Below.refl _ _ | assumption | (refine Below.alloc ?_ (by first | omega | (simp; done) | (simp; omega)) _) | (refine Below.setCell ?_ (by first | omega | (simp; done) | (simp; omega)) _) | refine Below.drew ?_ | refine below_drewN ?_ _))⟩
set_option maxHeartbeats 2000000 in
theorem len4_g0 (f0 b s : Nat) (h0 : 0 < f0) (hb : b ≤ 64) (hs : (s : Int) = 0 + b) (w : World)
    (H1 : ∀ W, Calls Try.prog 55 #[.int .u64 f0] W fun e w' => e = .returned (.int .i64 b) ∧ W = w')
    : Calls Try.prog 52 #[.agg #[.int .u64 f0, .int .u64 0, .int .u64 0, .int .u64 0]] w fun e w' => e = .returned (.int .i64 s) ∧ Below w.heap.size w w' := by
  replace H1 := hide H1
  have t0 : ¬ f0 = 0 := by omega
  have t1 : ((f0 : Int) == 0) = false := by rw [beq_eq_false_iff_ne]; omega
  have t2 : ¬ (f0 : Int) = 0 := by omega
  clear h0
  go_enter Try.func52, Try.ntmps52
  go_wp2_with fail
  refine wp_loop_rounds 4 ?_
  rw [rounds_succ]
  go_wp2_with fail
  rw [rounds_succ]
  go_wp2_with fail
  rw [rounds_succ]
  go_wp2_with fail
  rw [rounds_succ]
  go_wp2_with fail
  refine (H1.out _).mono ?_
  rintro e w1 ⟨rfl, rfl⟩
  go_wp2_with fail
  go_ret
  exact ⟨(ret_i (by omega) : Ending.returned (.int .i64 (b : Int)) = _), by (repeat (first | exact Below.refl _ _ | assumption | (refine Below.alloc ?_ (by first | omega | (simp; done) | (simp; omega)) _) | (refine Below.setCell ?_ (by first | omega | (simp; done) | (simp; omega)) _) | refine Below.drew ?_ | refine below_drewN ?_ _))⟩
set_option maxHeartbeats 2000000 in
theorem len4_z  (w : World)
    : Calls Try.prog 52 #[.agg #[.int .u64 0, .int .u64 0, .int .u64 0, .int .u64 0]] w fun e w' => e = .returned (.int .i64 0) ∧ Below w.heap.size w w' := by
  go_enter Try.func52, Try.ntmps52
  go_wp2_with fail
  refine wp_loop_rounds 5 ?_
  rw [rounds_succ]
  go_wp2_with fail
  rw [rounds_succ]
  go_wp2_with fail
  rw [rounds_succ]
  go_wp2_with fail
  rw [rounds_succ]
  go_wp2_with fail
  rw [rounds_succ]
  go_wp2_with fail
  go_ret
  exact ⟨rfl, by (repeat (first | exact Below.refl _ _ | assumption | (refine Below.alloc ?_ (by first | omega | (simp; done) | (simp; omega)) _) | (refine Below.setCell ?_ (by first | omega | (simp; done) | (simp; omega)) _) | refine Below.drew ?_ | refine below_drewN ?_ _))⟩
theorem pow64 (i : Nat) : (2 : Nat) ^ (64 * i) = 18446744073709551616 ^ i := by rw [Nat.pow_mul]
theorem len_word {X i f : Nat} (hX : X < 2 ^ 256) (hf : X / 18446744073709551616 ^ i = f) (h0 : 0 < f) (h1 : f < 18446744073709551616) : lenB X 256 = 64 * i + Lib.bitLen f := by
  obtain ⟨b1, b2, b3⟩ := bl_spec f f (Nat.le_refl _) h0 h1
  have hi : 0 < 18446744073709551616 ^ i := wpos i
  have hx := Nat.div_add_mod X (18446744073709551616 ^ i)
  have hm := Nat.mod_lt X hi
  rw [hf] at hx
  have h2 : lenB X 256 ≤ 64 * i + Lib.bitLen f := by
    rw [lenB_iff hX, Nat.pow_add, pow64]
    have : 18446744073709551616 ^ i * (f + 1) ≤ 18446744073709551616 ^ i * 2 ^ Lib.bitLen f := Nat.mul_le_mul_left _ b3
    rw [Nat.mul_add, Nat.mul_one] at this
    omega
  have h3 : ¬ lenB X 256 ≤ 64 * i + (Lib.bitLen f - 1) := by
    rw [lenB_iff hX, Nat.pow_add, pow64]
    have : 18446744073709551616 ^ i * 2 ^ (Lib.bitLen f - 1) ≤ 18446744073709551616 ^ i * f := Nat.mul_le_mul_left _ b2
    omega
  omega
theorem wd_top {X i : Nat} (h : X < 18446744073709551616 ^ (i + 1)) : wd X i = X / 18446744073709551616 ^ i := by
  unfold wd
  exact Nat.mod_eq_of_lt (Nat.div_lt_of_lt_mul (by rw [← Nat.pow_succ]; exact h))
theorem wd_zero {X i : Nat} (h : X < 18446744073709551616 ^ (i + 1)) (h0 : wd X i = 0) : X < 18446744073709551616 ^ i := by
  rw [wd_top h] at h0
  rcases Nat.div_eq_zero_iff.1 h0 with h | h
  · have := wpos i; omega
  · exact h
theorem len64_any (y : Nat) (hy : y < 18446744073709551616) (w : World) : Calls Try.prog 55 #[.int .u64 y] w fun e w' => e = .returned (.int .i64 ((Lib.bitLen y : Nat) : Int)) ∧ w = w' := by
  refine (Try.bits_Len64 (y : Int) w (by omega) (by omega)).mono fun e w' h => ?_
  simpa [eq_comm] using h
theorem wd_out {X i : Nat} (h : X < 18446744073709551616 ^ i) : wd X i = 0 := by unfold wd; rw [Nat.div_eq_of_lt h]
theorem lt_more {X i : Nat} (h : X < 18446744073709551616 ^ i) : X < 18446744073709551616 ^ (i + 1) := Nat.lt_of_lt_of_le h (Nat.pow_le_pow_right (by omega) (by omega))
theorem len4_u (X : Nat) (hX : X < 2 ^ 256) (w : World) : Calls Try.prog 52 #[.agg #[.int .u64 (wd (X) 0 : Nat), .int .u64 (wd (X) 1 : Nat), .int .u64 (wd (X) 2 : Nat), .int .u64 (wd (X) 3 : Nat)]] w fun e w' => e = .returned (.int .i64 (lenB X 256 : Nat)) ∧ Below w.heap.size w w' := by
  have h4 : X < 18446744073709551616 ^ (3 + 1) := by rw [← pow64]; exact hX
  rcases Nat.eq_zero_or_pos (wd X 3) with z3 | p3
  · have h3 := wd_zero h4 z3
    rw [z3]
    rcases Nat.eq_zero_or_pos (wd X 2) with z2 | p2
    · have h2 := wd_zero h3 z2
      rw [z2]
      rcases Nat.eq_zero_or_pos (wd X 1) with z1 | p1
      · have h1 := wd_zero h2 z1
        rw [z1]
        rcases Nat.eq_zero_or_pos (wd X 0) with z0 | p0
        · have h0 := wd_zero h1 z0
          rw [z0]
          obtain rfl : X = 0 := by simpa using h0
          rw [show lenB 0 256 = 0 from (lenB_zero (by decide)).2 rfl]
          exact len4_z w
        · exact len4_g0 _ _ _ p0 (bl_64 (wd_lt X 0)) (by have := len_word hX (wd_top h1).symm p0 (wd_lt X 0); omega) w (len64_any _ (wd_lt X 0))
      · exact len4_g1 _ _ _ _ p1 (bl_64 (wd_lt X 1)) (by have := len_word hX (wd_top h2).symm p1 (wd_lt X 1); omega) w (len64_any _ (wd_lt X 1))
    · exact len4_g2 _ _ _ _ _ p2 (bl_64 (wd_lt X 2)) (by have := len_word hX (wd_top h3).symm p2 (wd_lt X 2); omega) w (len64_any _ (wd_lt X 2))
  · exact len4_g3 _ _ _ _ _ _ p3 (bl_64 (wd_lt X 3)) (by have := len_word hX (wd_top h4).symm p3 (wd_lt X 3); omega) w (len64_any _ (wd_lt X 3))
theorem wd_all {X : Nat} (h : X < 2 ^ 256) : X = wd X 0 + 18446744073709551616 * (wd X 1 + 18446744073709551616 * (wd X 2 + 18446744073709551616 * wd X 3)) := by
  rw [wd0, wd1, wd2, wd3]
  have h2 : X < 115792089237316195423570985008687907853269984665640564039457584007913129639936 := h
  omega
theorem wd_ext {X Y : Nat} (hX : X < 2 ^ 256) (hY : Y < 2 ^ 256) (h0 : wd X 0 = wd Y 0) (h1 : wd X 1 = wd Y 1) (h2 : wd X 2 = wd Y 2) (h3 : wd X 3 = wd Y 3) : X = Y := by
  rw [wd_all hX, wd_all hY, h0, h1, h2, h3]
theorem wlack4 {X Y : Nat} (hX : X < 2 ^ 256) (hY : Y < 2 ^ 256) : (((wlack X Y 4 : Nat) : Int) == 1) = decide (X < Y) := by
  unfold wlack
  rw [← pow64, Nat.mod_eq_of_lt hX, Nat.mod_eq_of_lt hY]
  by_cases h : X < Y
  · rw [if_pos h, decide_eq_true h]; rfl
  · rw [if_neg h, decide_eq_false h]; rfl
end Go.Proofs.Ytpfpdlgfngkdjaa
