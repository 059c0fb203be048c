/-
  Walks of the fields' powers and inverses, and of the reference's. Conditions: numbers fit 64 bits.
-/
import Derived.Test.YtbgppkgcdmpajaaMersB
import Derived.Test.YtbgppkgcdmpajaaModR
namespace Go.Proofs.Ytbgppkgcdmpajaa
open Go.RowKit Go.Shelf
set_option linter.unusedVariables false

set_option maxHeartbeats 400000 in
theorem Pow_0 (k : Int) (hk : fld k = 0) (a e : Nat) (w : World) : Calls Try.prog 19 #[.int .i64 k, .int .u64 a, .int .u64 e] w fun e w' => e = .returned (.int .u64 0) ∧ w = w' := by
  have h := of_f k
  rw [hk] at h
  have H := hide h
  clear h hk
  go_enter Try.func19, Try.ntmps19
  go_wp2_with fail
  refine (H.out _).mono ?_
  rintro e w1 ⟨rfl, rfl⟩
  go_wp2
  go_ret
  exact ⟨rfl, rfl⟩
theorem pow_odd {a b n o T : Nat} (h : o * a ^ b % n = T) (hb : b % 2 = 1) : o * a % n * (a * a % n) ^ (b / 2) % n = T := by
  have e : o * a ^ b = o * a * (a * a) ^ (b / 2) := by
    conv => lhs; rw [← Nat.div_add_mod b 2, hb, Nat.pow_succ, Nat.pow_mul, Nat.pow_two]
    rw [Nat.mul_comm ((a * a) ^ (b / 2)), ← Nat.mul_assoc]
  rw [← h, e, Nat.mul_mod, Nat.mod_mod, Nat.pow_mod, Nat.mod_mod, ← Nat.pow_mod, ← Nat.mul_mod]
theorem pow_even {a b n o T : Nat} (h : o * a ^ b % n = T) (hb : b % 2 = 0) : o * (a * a % n) ^ (b / 2) % n = T := by
  have e : o * a ^ b = o * (a * a) ^ (b / 2) := by
    conv => lhs; rw [← Nat.div_add_mod b 2, hb, Nat.add_zero, Nat.pow_mul, Nat.pow_two]
  rw [← h, e, Nat.mul_mod, Nat.pow_mod, Nat.mod_mod, ← Nat.pow_mod, ← Nat.mul_mod]
theorem mulf_f (k : Int) (f p : Nat) (hF : IsF f p) (hk : fld k = (f : Int)) (hp : prm k = p) (a b : Nat) (ha : a < 18446744073709551616) (hb : b < 18446744073709551616) (w : World) :
    Calls Try.prog 64 #[.int .i64 f, .int .u64 a, .int .u64 b] w fun e w' => e = .returned (.int .u64 (a * b % p : Nat)) ∧ Below w.heap.size w w' := by
  have h := mulf_any k a b ha hb w
  have h0 := (isF_facts hF).2.2.2.1
  rw [hk, hp, mdn_pos (by omega)] at h
  exact h
set_option maxHeartbeats 2000000 in
theorem power_f (k : Int) (f p : Nat) (hF : IsF f p) (hk : fld k = (f : Int)) (hp : prm k = p) (a e : Nat) (ha : a < 18446744073709551616) (he : e < 18446744073709551616) (w : World) :
    Calls Try.prog 63 #[.int .u64 a, .int .u64 e, .func (Fn.func 64) #[.int .i64 f] #[]] w fun e' w' => e' = .returned (.int .u64 (a ^ e % p : Nat)) ∧ Below w.heap.size w w' := by
  have h0 := (isF_facts hF).2.2.2.1
  have h1 := (isF_facts hF).2.2.2.2
  have HC := hide (mulf_f k f p hF hk hp)
  have HT : Hid (1 * a ^ e % p = a ^ e % p) := by rw [Nat.one_mul]; exact rfl
  have B0 := Below.refl w.heap.size w
  clear hF hk hp
  generalize a ^ e % p = T at *
  go_enter Try.func63, Try.ntmps63
  go_wp2
  go_loopg [0, 1, 7] e (fun k va vb vo wr => ∃ A o : Nat, va = .int .u64 A ∧ vb = .int .u64 k ∧ vo = .int .u64 o ∧ A < 18446744073709551616 ∧ o < p ∧ k ≤ e ∧ Hid (o * A ^ k % p = T) ∧ Below w.heap.size w wr)
  case atStart => exact ⟨a, 1, rfl, rfl, rfl, ha, by omega, Nat.le_refl _, HT, B0⟩
  case round =>
    obtain ⟨A, o, rfl, rfl, rfl, hA, ho, hk, hM, B⟩ := hrel
    clear HT B0
    by_cases hk0 : 0 < gk
    · have t1 : (0 : Int) < (gk : Int) := by omega
      obtain ⟨g2, hg2⟩ : ∃ g2, g2 = gk / 2 := ⟨_, rfl⟩
      have ed : (gk : Int) / 2 = (g2 : Int) := by omega
      have hg3 : g2 < gk := by omega
      have ho2 : o < 18446744073709551616 := by omega
      rcases Nat.mod_two_eq_zero_or_one gk with hb2 | hb2
      · have hM' := hide (pow_even hM.out hb2)
        have eb : bits .and .u64 (gk : Int) 1 = 0 := by rw [show (1 : Int) = ((1 : Nat) : Int) from rfl, bits_and_u64_nat _ _ (by omega) (by omega), Nat.and_one_is_mod, hb2]; rfl
        rw [← hg2] at hM'
        clear hb2 hM hg2
        go_wp2_with fail
        refine (HC.out A A hA hA _).mono ?_
        rintro e w1 ⟨rfl, hb⟩
        go_wp2
        go_roundg g2
        case measure => exact hg3
        case rel => exact ⟨_, _, rfl, rfl, rfl, Nat.lt_of_lt_of_le (Nat.mod_lt _ (by omega)) (by omega), ho, by omega, hM', below_call B (Nat.le_refl _) hb⟩
      · have hM' := hide (pow_odd hM.out hb2)
        have eb : bits .and .u64 (gk : Int) 1 = 1 := by rw [show (1 : Int) = ((1 : Nat) : Int) from rfl, bits_and_u64_nat _ _ (by omega) (by omega), Nat.and_one_is_mod, hb2]
        rw [← hg2] at hM'
        clear hb2 hM hg2
        go_wp2_with fail
        refine (HC.out o A ho2 hA _).mono ?_
        rintro e w1 ⟨rfl, hb⟩
        replace B : Below w.heap.size w w1 := below_call B (Nat.le_refl _) hb
        clear hb
        go_wp2_with fail
        refine (HC.out A A hA hA _).mono ?_
        rintro e w2 ⟨rfl, hb⟩
        go_wp2
        go_roundg g2
        case measure => exact hg3
        case rel => exact ⟨_, _, rfl, rfl, rfl, Nat.lt_of_lt_of_le (Nat.mod_lt _ (by omega)) (by omega), Nat.mod_lt _ (by omega), by omega, hM', below_call B (Nat.le_refl _) hb⟩
    · have hk1 : gk = 0 := by omega
      subst hk1
      go_wp2
      go_ret
      have h := hM.out
      rw [Nat.pow_zero, Nat.mul_one, Nat.mod_eq_of_lt ho] at h
      exact ⟨ret_i (by rw [h]), B⟩
set_option maxHeartbeats 400000 in
theorem Pow_f (k : Int) (f p : Nat) (hF : IsF f p) (hk : fld k = (f : Int)) (hp : prm k = p) (a e : Nat) (ha : a < 18446744073709551616) (he : e < 18446744073709551616) (w : World) : Calls Try.prog 19 #[.int .i64 k, .int .u64 a, .int .u64 e] w fun e' w' => e' = .returned (.int .u64 (a ^ e % p : Nat)) ∧ Below w.heap.size w w' := by
  have h := of_f k
  rw [hk] at h
  have H := hide h
  have HC := hide (power_f k f p hF hk hp a e ha he)
  have hf := (isF_facts hF).1
  have t0 : ((f : Int) == 0) = false := by rw [beq_eq_false_iff_ne]; omega
  clear h hk
  generalize a ^ e % p = T at *
  go_enter Try.func19, Try.ntmps19
  go_wp2_with fail
  refine (H.out _).mono ?_
  rintro e w1 ⟨rfl, rfl⟩
  go_wp2_with fail
  refine (HC.out _).mono ?_
  rintro e w1 ⟨rfl, hb⟩
  go_wp2
  go_ret
  exact ⟨rfl, hb⟩
theorem Pow_any (k : Int) (a e : Nat) (ha : a < 18446744073709551616) (he : e < 18446744073709551616) (w : World) : Calls Try.prog 19 #[.int .i64 k, .int .u64 a, .int .u64 e] w fun e' w' => e' = .returned (.int .u64 (mdn (prm k) (a ^ e) : Nat)) ∧ Below w.heap.size w w' := by
  rcases fld_cases k with ⟨h1, h2⟩ | ⟨f, p, hF, h1, h2⟩
  · rw [h2, mdn_zero]
    exact (Pow_0 k h1 a e w).mono fun e' w' ⟨he, hw⟩ => ⟨he, hw ▸ Below.refl _ _⟩
  · have hp := (isF_facts hF).2.2.2.1
    rw [h2, mdn_pos (by omega)]
    exact Pow_f k f p hF h1 h2 a e ha he w
set_option maxHeartbeats 1000000 in
theorem inv_no (k : Int) (a : Nat) (ha : a < 18446744073709551616) (h : mdn (prm k) a = 0) (w : World) : Calls Try.prog 21 #[.int .i64 k, .int .u64 a] w fun e w' => e = .returned (.tuple #[.int .u64 0, .bool false]) ∧ Below w.heap.size w w' := by
  have H := Fold_l k a ha
  rw [h] at H
  have HF := hide H
  clear H h
  go_enter Try.func21, Try.ntmps21
  go_wp2_with fail
  refine (HF.out _).mono ?_
  rintro e w1 ⟨rfl, hb⟩
  go_wp2
  go_ret2
  exact ⟨rfl, hb⟩
set_option maxHeartbeats 1000000 in
theorem inv_yes (k : Int) (a : Nat) (ha : a < 18446744073709551616) (h : mdn (prm k) a ≠ 0) (w : World) : Calls Try.prog 21 #[.int .i64 k, .int .u64 a] w fun e w' => e = .returned (.tuple #[.int .u64 (mdn (prm k) (a ^ (prm k - 2)) : Nat), .bool true]) ∧ Below w.heap.size w w' := by
  have HF := hide (Fold_l k a ha)
  have hpl := prm_le k
  have h4 : 2147483647 ≤ prm k := by
    rcases fld_cases k with ⟨h1, h2⟩ | ⟨f, p, hF, h1, h2⟩
    · rw [h2] at h; exact absurd rfl h
    · rw [h2]; exact (isF_facts hF).2.2.2.1
  have h5 : (((mdn (prm k) a : Nat) : Int) == 0) = false := by rw [beq_eq_false_iff_ne]; omega
  obtain ⟨d, hd⟩ : ∃ d, d = prm k - 2 := ⟨_, rfl⟩
  have HW := hide (Pow_any k a d ha (by omega))
  have HP := hide (P_any k)
  rw [← hd]
  have hd2 : ((prm k : Nat) : Int) - 2 = (d : Int) := by omega
  clear h hd
  generalize mdn (prm k) (a ^ d) = R at *
  generalize mdn (prm k) a = m at *
  generalize prm k = P at *
  go_enter Try.func21, Try.ntmps21
  go_wp2_with fail
  refine (HF.out _).mono ?_
  rintro e w1 ⟨rfl, hb1⟩
  go_wp2_with fail
  refine (HP.out _).mono ?_
  rintro e w2 ⟨rfl, rfl⟩
  go_wp2_with fail
  refine (HW.out _).mono ?_
  rintro e w2 ⟨rfl, hb2⟩
  go_wp2
  go_ret2
  exact ⟨rfl, below_call hb1 (Nat.le_refl _) hb2⟩
set_option maxHeartbeats 400000 in
theorem Pref_any (k : Int) (w : World) : Calls Try.prog 18 #[.int .i64 k] w fun e w' => e = .returned (.int .u64 (prm k : Nat)) ∧ w = w' := by
  by_cases h1 : k = 31
  · subst h1
    go_enter Try.func18, Try.ntmps18
    go_wp2
    go_ret
    exact ⟨rfl, rfl⟩
  · have t1 : (k == 31) = false := by rw [beq_eq_false_iff_ne]; exact h1
    by_cases h2 : k = 61
    · subst h2
      go_enter Try.func18, Try.ntmps18
      go_wp2
      go_ret
      exact ⟨rfl, rfl⟩
    · have t2 : (k == 61) = false := by rw [beq_eq_false_iff_ne]; exact h2
      have e : prm k = 0 := by unfold prm; rw [if_neg h1, if_neg h2]
      rw [e]
      clear e h1 h2
      go_enter Try.func18, Try.ntmps18
      go_wp2
      go_ret
      exact ⟨rfl, rfl⟩
set_option maxHeartbeats 1000000 in
theorem invr_no (k : Int) (a : Nat) (ha : a < 18446744073709551616) (h : mdn (prm k) a = 0) (w : World) : Calls Try.prog 22 #[.int .i64 k, .int .u64 a] w fun e w' => e = .returned (.tuple #[.int .u64 0, .bool false]) ∧ w = w' := by
  have H := hide (Pref_any k)
  have h4 : prm k = 0 ∨ 0 < prm k := by omega
  have h5 : 0 < prm k → (a : Int) % (prm k : Nat) = 0 := fun h0 => by rw [mdn_pos h0] at h; omega
  have H5 := hide h5
  clear h h5
  generalize prm k = P at *
  rcases h4 with h4 | h4
  · subst h4
    go_enter Try.func22, Try.ntmps22
    go_wp2_with fail
    refine (H.out _).mono ?_
    rintro e w1 ⟨rfl, rfl⟩
    go_wp2
    go_ret2
    exact ⟨rfl, rfl⟩
  · have t1 : ((P : Int) == 0) = false := by rw [beq_eq_false_iff_ne]; omega
    have t2 := H5.out h4
    go_enter Try.func22, Try.ntmps22
    go_wp2_with fail
    refine (H.out _).mono ?_
    rintro e w1 ⟨rfl, rfl⟩
    go_wp2
    go_ret2
    exact ⟨rfl, rfl⟩
set_option maxHeartbeats 1000000 in
theorem invr_yes (k : Int) (a : Nat) (ha : a < 18446744073709551616) (h : mdn (prm k) a ≠ 0) (w : World) : Calls Try.prog 22 #[.int .i64 k, .int .u64 a] w fun e w' => e = .returned (.tuple #[.int .u64 (mdn (prm k) (a ^ (prm k - 2)) : Nat), .bool true]) ∧ w = w' := by
  have H := hide (Pref_any k)
  have hpl := prm_le k
  have h4 : 2147483647 ≤ prm k := by
    rcases fld_cases k with ⟨h1, h2⟩ | ⟨f, p, hF, h1, h2⟩
    · rw [h2] at h; exact absurd rfl h
    · rw [h2]; exact (isF_facts hF).2.2.2.1
  have h5 : ((a : Int) % (prm k : Nat) == 0) = false := by rw [mdn_pos (by omega)] at h; rw [beq_eq_false_iff_ne]; omega
  obtain ⟨d, hd⟩ : ∃ d, d = prm k - 2 := ⟨_, rfl⟩
  have HW := hide (rpow_any a d (prm k) ha (by omega) (by omega))
  rw [← hd]
  have hd2 : ((prm k : Nat) : Int) - 2 = (d : Int) := by omega
  clear h hd
  generalize mdn (prm k) (a ^ d) = R at *
  generalize prm k = P at *
  have t1 : ((P : Int) == 0) = false := by rw [beq_eq_false_iff_ne]; omega
  go_enter Try.func22, Try.ntmps22
  go_wp2_with fail
  refine (H.out _).mono ?_
  rintro e w1 ⟨rfl, rfl⟩
  go_wp2_with fail
  refine (HW.out _).mono ?_
  rintro e w1 ⟨rfl, rfl⟩
  go_wp2
  go_ret2
  exact ⟨rfl, rfl⟩
end Go.Proofs.Ytbgppkgcdmpajaa
