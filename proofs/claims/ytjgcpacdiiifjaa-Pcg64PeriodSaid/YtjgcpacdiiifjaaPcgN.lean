/-
  Plain facts on x -> x M + a modulo powers of 2, for M = 1 modulo 4 and odd a: so many steps at once, the full period. Conditions: none.
-/
import Derived.Test.YtjgcpacdiiifjaaPcgT
import Derived.Test.YtjgcpacdiiifjaaShl
namespace Go.Proofs.Ytjgcpacdiiifjaa
set_option linter.unusedVariables false

/-- So many steps, whole. -/
def stp (M a X : Nat) : Nat → Nat
  | 0 => X
  | k + 1 => stp M a X k * M + a
theorem stp_add (M a X i : Nat) : ∀ j, stp M a (stp M a X i) j = stp M a X (i + j) := by
  intro j
  induction j with
  | zero => rfl
  | succ j ih => rw [← Nat.add_assoc, stp, stp, ih]
theorem stp_lin (M a X : Nat) : ∀ j, stp M a X j = X * M ^ j + stp M a 0 j := by
  intro j
  induction j with
  | zero => simp [stp]
  | succ j ih => rw [stp, stp, ih, Nat.pow_succ]; grind
theorem stp_congr {M a X Y N : Nat} (h : X % N = Y % N) : ∀ j, stp M a X j % N = stp M a Y j % N := by
  intro j
  induction j with
  | zero => exact h
  | succ j ih => rw [stp, stp, Nat.add_mod, Nat.mul_mod, ih, ← Nat.mul_mod, ← Nat.add_mod]
theorem stp_two (M a j : Nat) : stp M a 0 j * (M ^ j + 1) = stp M a 0 (j + j) := by
  rw [← stp_add, stp_lin M a (stp M a 0 j) j]
  grind
theorem pow_two_split (M i : Nat) : M ^ (2 ^ (i + 1)) = M ^ (2 ^ i) * M ^ (2 ^ i) := by rw [← Nat.pow_add]; congr 1; rw [Nat.pow_succ]; omega
theorem powM {M : Nat} (hM : M % 4 = 1) : ∀ i, ∃ v, M ^ (2 ^ i) = 1 + 2 ^ (i + 2) * v := by
  intro i
  induction i with
  | zero => exact ⟨M / 4, by simp; omega⟩
  | succ i ih =>
    obtain ⟨v, hv⟩ := ih
    refine ⟨v + 2 ^ (i + 1) * v * v, ?_⟩
    rw [pow_two_split, hv, show i + 1 + 2 = (i + 2) + 1 by omega, Nat.pow_succ 2 (i + 2), show i + 2 = (i + 1) + 1 by omega, Nat.pow_succ 2 (i + 1)]
    generalize 2 ^ (i + 1) = q
    grind
theorem stp0 {M a : Nat} (hM : M % 4 = 1) (ha : a % 2 = 1) : ∀ i, ∃ u, stp M a 0 (2 ^ i) = 2 ^ i * (1 + 2 * u) := by
  intro i
  induction i with
  | zero => exact ⟨a / 2, by simp [stp]; omega⟩
  | succ i ih =>
    obtain ⟨u, hu⟩ := ih
    obtain ⟨v, hv⟩ := powM hM i
    refine ⟨u + 2 ^ i * v + u * (2 ^ i * v * 2), ?_⟩
    rw [show 2 ^ (i + 1) = 2 ^ i + 2 ^ i by rw [Nat.pow_succ]; omega, ← stp_two, hu, hv, Nat.pow_add 2 i 2]
    generalize 2 ^ i = q
    grind
theorem stp_pow {M a : Nat} (hM : M % 4 = 1) (ha : a % 2 = 1) (X i : Nat) : stp M a X (2 ^ i) % 2 ^ (i + 1) = (X + 2 ^ i) % 2 ^ (i + 1) := by
  obtain ⟨u, hu⟩ := stp0 hM ha i
  obtain ⟨v, hv⟩ := powM hM i
  rw [stp_lin, hu, hv]
  have e : X * (1 + 2 ^ (i + 2) * v) + 2 ^ i * (1 + 2 * u) = X + 2 ^ i + 2 ^ (i + 1) * (2 * X * v + u) := by
    rw [Nat.pow_add 2 i 2, Nat.pow_succ 2 i]
    generalize 2 ^ i = q
    grind
  rw [e, Nat.add_mul_mod_self_left]
theorem stp_mul {M a : Nat} (hM : M % 4 = 1) (ha : a % 2 = 1) (X i : Nat) : ∀ q, stp M a X (2 ^ i * q) % 2 ^ (i + 1) = (X + 2 ^ i * q) % 2 ^ (i + 1) := by
  intro q
  induction q with
  | zero => rfl
  | succ q ih =>
    rw [Nat.mul_succ, ← stp_add, stp_pow hM ha, Nat.add_mod, ih, ← Nat.add_mod, Nat.add_assoc]
theorem stp_only {M a : Nat} (hM : M % 4 = 1) (ha : a % 2 = 1) (X n m e : Nat) (h : stp M a X n % 2 ^ e = stp M a X m % 2 ^ e) : ∀ i, i ≤ e → n % 2 ^ i = m % 2 ^ i := by
  intro i
  induction i with
  | zero => intro _; rw [Nat.pow_zero, Nat.mod_one, Nat.mod_one]
  | succ i ih =>
    intro hi
    have h1 := ih (by omega)
    have hn := Nat.mod_add_div n (2 ^ i)
    have hm := Nat.mod_add_div m (2 ^ i)
    rw [← h1] at hm
    have h2 : stp M a X n % 2 ^ (i + 1) = stp M a X m % 2 ^ (i + 1) := by
      have hd : 2 ^ (i + 1) ∣ 2 ^ e := Nat.pow_dvd_pow 2 hi
      rw [← Nat.mod_mod_of_dvd (stp M a X n) hd, h, Nat.mod_mod_of_dvd _ hd]
    rw [← hn, ← hm, ← stp_add, ← stp_add, stp_mul hM ha, stp_mul hM ha] at h2
    generalize stp M a X (n % 2 ^ i) = Y at *
    generalize n % 2 ^ i = r at *
    have h3 : (2 ^ i * (n / 2 ^ i)) % 2 ^ (i + 1) = (2 ^ i * (m / 2 ^ i)) % 2 ^ (i + 1) := by
      have hc : ∀ {p x y c : Nat}, (x + c) % p = (y + c) % p → x % p = y % p := fun {p x y c} h => by
        have h1 : ((x : Int) + c) % p = ((y : Int) + c) % p := by exact_mod_cast h
        have h3 : ((x : Int) + c - c) % p = ((y : Int) + c - c) % p := by rw [Int.sub_emod, h1, ← Int.sub_emod]
        rw [show (x : Int) + c - c = x by omega, show (y : Int) + c - c = y by omega] at h3
        exact_mod_cast h3
      exact hc (c := Y) (by rw [Nat.add_comm _ Y, Nat.add_comm _ Y]; exact h2)
    rw [← hn, ← hm, Nat.add_mod, h3, ← Nat.add_mod]
/-- As many steps as there are numbers come back. -/
theorem stp_mod {M a : Nat} (hM : M % 4 = 1) (ha : a % 2 = 1) (X n e : Nat) : stp M a X n % 2 ^ e = stp M a X (n % 2 ^ e) % 2 ^ e := by
  have hn := Nat.mod_add_div n (2 ^ e)
  have h := stp_mul hM ha (stp M a X (n % 2 ^ e)) e (n / 2 ^ e)
  have hd : 2 ^ e ∣ 2 ^ (e + 1) := Nat.pow_dvd_pow 2 (by omega)
  have h2 : stp M a (stp M a X (n % 2 ^ e)) (2 ^ e * (n / 2 ^ e)) % 2 ^ e = (stp M a X (n % 2 ^ e) + 2 ^ e * (n / 2 ^ e)) % 2 ^ e := by
    rw [← Nat.mod_mod_of_dvd _ hd, h, Nat.mod_mod_of_dvd _ hd]
  rw [stp_add, hn, Nat.add_mul_mod_self_left] at h2
  exact h2
/-- One round of the search for the number of steps: the lowest bits that agree. -/
theorem step_bit {M a : Nat} (hM : M % 4 = 1) (ha : a % 2 = 1) {S T i : Nat} (h : S % 2 ^ i = T % 2 ^ i) (hb : S / 2 ^ i % 2 ≠ T / 2 ^ i % 2) : stp M a S (2 ^ i) % 2 ^ (i + 1) = T % 2 ^ (i + 1) := by
  rw [stp_pow hM ha]
  have e1 : ∀ X, X % 2 ^ (i + 1) = X % 2 ^ i + 2 ^ i * (X / 2 ^ i % 2) := fun X => by rw [Nat.pow_succ, Nat.mod_mul]
  rw [e1, e1, Nat.add_mod_right, h, Nat.add_div_right _ (Nat.two_pow_pos i)]
  congr 2
  omega
theorem same_bit {S T i : Nat} (h : S % 2 ^ i = T % 2 ^ i) (hb : S / 2 ^ i % 2 = T / 2 ^ i % 2) : S % 2 ^ (i + 1) = T % 2 ^ (i + 1) := by
  have e1 : ∀ X, X % 2 ^ (i + 1) = X % 2 ^ i + 2 ^ i * (X / 2 ^ i % 2) := fun X => by rw [Nat.pow_succ, Nat.mod_mul]
  rw [e1, e1, h, hb]
theorem mod_bit (n i : Nat) : n % 2 ^ (i + 1) = n % 2 ^ i + 2 ^ i * (n / 2 ^ i % 2) := by rw [Nat.pow_succ, Nat.mod_mul]
end Go.Proofs.Ytjgcpacdiiifjaa
