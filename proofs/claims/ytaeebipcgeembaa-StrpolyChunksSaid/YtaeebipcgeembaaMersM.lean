/-
  Plain facts on the fields of 2^31 - 1 and 2^61 - 1: what a number is modulo the prime, folding, powers. Conditions: none.
-/
import Derived.Test.YtaeebipcgeembaaPrime
import Derived.Test.YtaeebipcgeembaaWordM
namespace Go.Proofs.Ytaeebipcgeembaa
set_option linter.unusedVariables false

/-- A number modulo another one; modulo 0: 0. -/
def mdn (n x : Nat) : Nat := if n = 0 then 0 else x % n
/-- The field of a number of bits, and its prime; 0: there is none. -/
def fld (k : Int) : Int := if k = 31 then 31 else if k = 61 then 61 else 0
def prm (k : Int) : Nat := if k = 31 then 2147483647 else if k = 61 then 2305843009213693951 else 0
/-- f bits are a field's, p is its prime. -/
def IsF (f p : Nat) : Prop := (f = 31 ∧ p = 2147483647) ∨ (f = 61 ∧ p = 2305843009213693951)
theorem fld_cases (k : Int) : (fld k = 0 ∧ prm k = 0) ∨ ∃ f p : Nat, IsF f p ∧ fld k = (f : Int) ∧ prm k = p := by
  unfold fld prm
  by_cases h1 : k = 31
  · rw [if_pos h1, if_pos h1]; exact .inr ⟨31, 2147483647, .inl ⟨rfl, rfl⟩, rfl, rfl⟩
  · rw [if_neg h1, if_neg h1]
    by_cases h2 : k = 61
    · rw [if_pos h2, if_pos h2]; exact .inr ⟨61, 2305843009213693951, .inr ⟨rfl, rfl⟩, rfl, rfl⟩
    · rw [if_neg h2, if_neg h2]; exact .inl ⟨rfl, rfl⟩
theorem isF_prime {f p : Nat} (h : IsF f p) : isPrime p := by
  rcases h with ⟨_, rfl⟩ | ⟨_, rfl⟩
  · exact prime31
  · exact prime61
theorem isF_facts {f p : Nat} (h : IsF f p) : 0 < f ∧ f < 64 ∧ 2 ^ f = p + 1 ∧ 2147483647 ≤ p ∧ p ≤ 2305843009213693951 := by
  rcases h with ⟨rfl, rfl⟩ | ⟨rfl, rfl⟩ <;> decide
theorem mdn_pos {n : Nat} (h : 0 < n) (x : Nat) : mdn n x = x % n := by unfold mdn; rw [if_neg (by omega)]
theorem mdn_zero (x : Nat) : mdn 0 x = 0 := rfl
theorem mdn_mod (n x : Nat) : mdn n (x % n) = mdn n x := by unfold mdn; split <;> simp
theorem mdn_lt {n : Nat} (h : 0 < n) (x : Nat) : mdn n x < n := by rw [mdn_pos h]; exact Nat.mod_lt _ h
theorem mdn_le (n x : Nat) : mdn n x ≤ n := by unfold mdn; split; omega; exact Nat.le_of_lt (Nat.mod_lt _ (by omega))
theorem mdn_congr {n x y : Nat} (h : x % n = y % n) : mdn n x = mdn n y := by rw [← mdn_mod, h, mdn_mod]
theorem mdn_64 {n : Nat} (h : n < 18446744073709551616) (x : Nat) : mdn n x < 18446744073709551616 := Nat.lt_of_le_of_lt (mdn_le n x) h
theorem prm_le (k : Int) : prm k ≤ 2305843009213693951 := by unfold prm; split <;> (try split) <;> omega
/-- One round of folding. -/
theorem fold_less {f p X : Nat} (h : IsF f p) (hX : p < X) : X % 2 ^ f + X / 2 ^ f < X := by
  obtain ⟨_, _, h2, h3, h4⟩ := isF_facts h
  have h5 := Nat.mod_add_div X (2 ^ f)
  have h6 : 1 ≤ X / 2 ^ f := (Nat.one_le_div_iff (Nat.two_pow_pos f)).2 (by omega)
  have h7 : 2 * (X / 2 ^ f) ≤ 2 ^ f * (X / 2 ^ f) := Nat.mul_le_mul_right _ (by omega)
  omega
theorem fold_same {f p : Nat} (X : Nat) (h : IsF f p) : (X % 2 ^ f + X / 2 ^ f) % p = X % p := by
  obtain ⟨_, _, h2, h3, h4⟩ := isF_facts h
  have h5 := Nat.mod_add_div X (2 ^ f)
  have e : X = X % 2 ^ f + X / 2 ^ f + p * (X / 2 ^ f) := by
    conv => lhs; rw [← h5, h2, Nat.add_mul, Nat.one_mul]
    rw [h2]
    omega
  conv => rhs; rw [e]
  rw [Nat.add_mul_mod_self_left]
theorem and_low {f p : Nat} (h : IsF f p) (n : Nat) : n &&& p = n % 2 ^ f := by
  obtain ⟨_, _, h2, h3, h4⟩ := isF_facts h
  rw [show p = 2 ^ f - 1 by omega, Nat.and_two_pow_sub_one_eq_mod]
theorem lo_mod {f : Nat} (hf : f < 64) (X : Nat) : lo64 X % 2 ^ f = X % 2 ^ f := by
  unfold lo64
  refine Nat.mod_mod_of_dvd _ ?_
  rw [show (18446744073709551616 : Nat) = 2 ^ 64 by decide]
  exact Nat.pow_dvd_pow 2 (by omega)
end Go.Proofs.Ytaeebipcgeembaa
