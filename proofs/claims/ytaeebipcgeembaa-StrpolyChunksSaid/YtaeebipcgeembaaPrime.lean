/-
  Plain facts on primes: Fermat's theorem, Pocklington's test, and that 2^31 - 1, 2^61 - 1 and 2^89 - 1 are primes. Conditions: none.
-/
import Derived.KernelRfl
namespace Go.Proofs.Ytaeebipcgeembaa
set_option linter.unusedVariables false

def isPrime (p : Nat) : Prop := 2 ≤ p ∧ ∀ d, d ∣ p → d = 1 ∨ d = p
theorem prime_coprime {p k : Nat} (hp : isPrime p) (h : ¬ p ∣ k) : Nat.gcd k p = 1 := by
  rcases hp.2 _ (Nat.gcd_dvd_right k p) with h1 | h1
  · exact h1
  · exact absurd (h1 ▸ Nat.gcd_dvd_left k p) h
theorem prime_mul {p a b : Nat} (hp : isPrime p) (h : p ∣ a * b) : p ∣ a ∨ p ∣ b := by
  by_cases ha : p ∣ a
  · exact .inl ha
  · refine .inr ?_
    have hc : Nat.Coprime p a := by rw [Nat.coprime_comm]; exact prime_coprime hp ha
    exact hc.dvd_of_dvd_mul_left h

/-- Binomial numbers. -/
def binom : Nat → Nat → Nat
  | _, 0 => 1
  | 0, _ + 1 => 0
  | n + 1, k + 1 => binom n k + binom n (k + 1)
theorem binom_over (n : Nat) : ∀ k, n < k → binom n k = 0 := by
  induction n with
  | zero => intro k h; obtain ⟨j, rfl⟩ : ∃ j, k = j + 1 := ⟨k - 1, by omega⟩; rfl
  | succ n ih =>
    intro k h
    obtain ⟨j, rfl⟩ : ∃ j, k = j + 1 := ⟨k - 1, by omega⟩
    show binom n j + binom n (j + 1) = 0
    rw [ih j (by omega), ih (j + 1) (by omega)]
theorem binom_zero (n : Nat) : binom n 0 = 1 := by cases n <;> rfl
theorem binom_self (n : Nat) : binom n n = 1 := by
  induction n with
  | zero => rfl
  | succ n ih => show binom n n + binom n (n + 1) = 1; rw [ih, binom_over n (n + 1) (by omega)]
theorem binom_mul (n : Nat) : ∀ k, (k + 1) * binom (n + 1) (k + 1) = (n + 1) * binom n k := by
  induction n with
  | zero =>
    intro k
    cases k with
    | zero => rfl
    | succ k => show (k + 1 + 1) * (binom 0 (k + 1) + binom 0 (k + 1 + 1)) = (0 + 1) * binom 0 (k + 1); simp [binom]
  | succ n ih =>
    intro k
    cases k with
    | zero =>
      have h := ih 0
      show (0 + 1) * (binom (n + 1) 0 + binom (n + 1) (0 + 1)) = (n + 1 + 1) * binom (n + 1) 0
      rw [binom_zero] at h
      rw [binom_zero, Nat.mul_add, h]
      omega
    | succ k =>
      have h1 := ih k
      have h2 := ih (k + 1)
      show (k + 1 + 1) * (binom (n + 1) (k + 1) + binom (n + 1) (k + 1 + 1)) = (n + 1 + 1) * binom (n + 1) (k + 1)
      have h3 : binom (n + 1) (k + 1) = binom n k + binom n (k + 1) := rfl
      rw [Nat.mul_add, h2, Nat.add_mul (n + 1) 1, Nat.add_mul (k + 1) 1, h1, Nat.one_mul, h3, Nat.mul_add]
      omega
/-- The first m terms of (x + 1)^n. -/
def bsum (n x : Nat) : Nat → Nat
  | 0 => 0
  | m + 1 => bsum n x m + binom n m * x ^ m
theorem bsum_succ (n x : Nat) : ∀ m, bsum (n + 1) x (m + 1) = x * bsum n x m + bsum n x (m + 1) := by
  intro m
  induction m with
  | zero => show 0 + binom (n + 1) 0 * x ^ 0 = x * 0 + (0 + binom n 0 * x ^ 0); rw [binom_zero, binom_zero]; omega
  | succ m ih =>
    have e1 : bsum (n + 1) x (m + 1 + 1) = bsum (n + 1) x (m + 1) + (binom n m + binom n (m + 1)) * x ^ (m + 1) := rfl
    have e2 : bsum n x (m + 1 + 1) = bsum n x (m + 1) + binom n (m + 1) * x ^ (m + 1) := rfl
    have e3 : bsum n x (m + 1) = bsum n x m + binom n m * x ^ m := rfl
    have e4 : x * bsum n x (m + 1) = x * bsum n x m + binom n m * x ^ (m + 1) := by
      rw [e3, Nat.mul_add, Nat.pow_succ]
      congr 1
      rw [Nat.mul_left_comm, Nat.mul_comm x]
    rw [e1, ih, e2, e4, Nat.add_mul]
    omega
theorem bsum_pow (x : Nat) : ∀ n, (x + 1) ^ n = bsum n x (n + 1) := by
  intro n
  induction n with
  | zero => show 1 = 0 + binom 0 0 * x ^ 0; rfl
  | succ n ih =>
    have e : bsum n x (n + 1 + 1) = bsum n x (n + 1) := by
      show bsum n x (n + 1) + binom n (n + 1) * x ^ (n + 1) = _
      rw [binom_over n (n + 1) (by omega), Nat.zero_mul, Nat.add_zero]
    rw [bsum_succ, e, ← ih, Nat.pow_succ, Nat.mul_add, Nat.mul_one, Nat.mul_comm]
theorem binom_prime {p k : Nat} (hp : isPrime p) (h0 : 0 < k) (h1 : k < p) : p ∣ binom p k := by
  obtain ⟨j, rfl⟩ : ∃ j, k = j + 1 := ⟨k - 1, by omega⟩
  obtain ⟨n, rfl⟩ : ∃ n, p = n + 1 := ⟨p - 1, by omega⟩
  have h := binom_mul n j
  have hd : n + 1 ∣ (j + 1) * binom (n + 1) (j + 1) := ⟨binom n j, h⟩
  rcases prime_mul hp hd with h2 | h2
  · exact absurd (Nat.le_of_dvd (by omega) h2) (by omega)
  · exact h2
theorem bsum_prime {p : Nat} (hp : isPrime p) (x : Nat) : ∀ m, m < p → bsum p x (m + 1) % p = 1 := by
  intro m
  have h2 := hp.1
  induction m with
  | zero => intro _; show (0 + binom p 0 * x ^ 0) % p = 1; rw [binom_zero, Nat.pow_zero]; exact Nat.mod_eq_of_lt (by omega)
  | succ m ih =>
    intro h
    obtain ⟨c, hc⟩ := binom_prime hp (show 0 < m + 1 by omega) h
    show (bsum p x (m + 1) + binom p (m + 1) * x ^ (m + 1)) % p = 1
    rw [hc, Nat.mul_assoc, Nat.add_mul_mod_self_left]
    exact ih (by omega)
theorem flt {p : Nat} (hp : isPrime p) (x : Nat) : x ^ p % p = x % p := by
  have h2 := hp.1
  induction x with
  | zero => rw [Nat.zero_pow (by omega)]
  | succ x ih =>
    have e : bsum p x (p + 1) = bsum p x p + x ^ p := by show bsum p x p + binom p p * x ^ p = _; rw [binom_self, Nat.one_mul]
    have h := bsum_prime hp x (p - 1) (by omega)
    rw [show p - 1 + 1 = p by omega] at h
    rw [bsum_pow, e, Nat.add_mod, h, ih, Nat.add_comm 1, ← Nat.mod_eq_of_lt (show 1 < p by omega), ← Nat.add_mod, Nat.mod_eq_of_lt (show 1 < p by omega)]
theorem mod_eq_dvd {n a b : Nat} (h : b ≤ a) (e : a % n = b % n) : n ∣ a - b := Nat.dvd_of_mod_eq_zero (Nat.sub_mod_eq_zero_of_mod_eq e)
theorem fermat {p a : Nat} (hp : isPrime p) (h : ¬ p ∣ a) : a ^ (p - 1) % p = 1 := by
  have h2 := hp.1
  have ha : 0 < a := Nat.pos_of_ne_zero fun e => h (e ▸ Nat.dvd_zero p)
  have h1 := flt hp a
  have e : a ^ p = a * a ^ (p - 1) := by rw [Nat.mul_comm, ← Nat.pow_succ]; congr 1; omega
  have hpos : 0 < a ^ (p - 1) := Nat.pow_pos ha
  have hd : p ∣ a * (a ^ (p - 1) - 1) := by
    rw [Nat.mul_sub, Nat.mul_one, ← e]
    refine mod_eq_dvd ?_ h1
    rw [e]
    exact Nat.le_mul_of_pos_right _ hpos
  rcases prime_mul hp hd with h3 | h3
  · exact absurd h3 h
  · obtain ⟨c, hc⟩ := h3
    have : a ^ (p - 1) = 1 + p * c := by omega
    rw [this, Nat.add_mul_mod_self_left]
    exact Nat.mod_eq_of_lt (by omega)

/-- Powers modulo n, for the kernel. -/
def pwm (n : Nat) : Nat → Nat → Nat → Nat → Nat
  | 0, _, _, out => out
  | f + 1, a, e, out => if e = 0 then out else pwm n f (a * a % n) (e / 2) (if e % 2 = 1 then out * a % n else out)
theorem pow_modl (a n e : Nat) : (a % n) ^ e % n = a ^ e % n := (Nat.pow_mod a e n).symm
theorem pwm_spec (n : Nat) (hn : 1 < n) : ∀ f a e out, e < 2 ^ f → out < n → pwm n f a e out = out * a ^ e % n := by
  intro f
  induction f with
  | zero => intro a e out he ho; have : e = 0 := by simpa using he
            subst this; show out = _; rw [Nat.pow_zero, Nat.mul_one, Nat.mod_eq_of_lt ho]
  | succ f ih =>
    intro a e out he ho
    unfold pwm
    by_cases h0 : e = 0
    · rw [if_pos h0, h0, Nat.pow_zero, Nat.mul_one, Nat.mod_eq_of_lt ho]
    · rw [if_neg h0]
      have he2 : e / 2 < 2 ^ f := by rw [Nat.pow_succ] at he; omega
      have hsq : a ^ e = (a * a) ^ (e / 2) * a ^ (e % 2) := by
        rw [← Nat.pow_two, ← Nat.pow_mul, ← Nat.pow_add]
        congr 1
        omega
      by_cases h1 : e % 2 = 1
      · rw [if_pos h1, ih _ _ _ he2 (Nat.mod_lt _ (by omega)), hsq, h1, Nat.pow_one, Nat.mul_mod, Nat.mod_mod, pow_modl, ← Nat.mul_mod, Nat.mul_assoc, Nat.mul_comm a]
      · rw [if_neg h1, ih _ _ _ he2 ho, hsq, show e % 2 = 0 by omega, Nat.pow_zero, Nat.mul_one, Nat.mul_mod, pow_modl, ← Nat.mul_mod]
theorem pwm_pow (n a e f : Nat) (hn : 1 < n) (he : e < 2 ^ f) : a ^ e % n = pwm n f a e 1 := by rw [pwm_spec n hn f a e 1 he hn, Nat.one_mul]

/-- The least divisor but 1. -/
theorem least_div (n : Nat) (hn : 2 ≤ n) : ∃ d, isPrime d ∧ d ∣ n ∧ ∀ c, c ∣ n → 2 ≤ c → d ≤ c := by
  have hex : ∃ d, d ∣ n ∧ 2 ≤ d := ⟨n, Nat.dvd_refl n, hn⟩
  have key : ∀ m, (∃ d, d ≤ m ∧ d ∣ n ∧ 2 ≤ d) → ∃ d, d ∣ n ∧ 2 ≤ d ∧ ∀ c, c ∣ n → 2 ≤ c → d ≤ c := by
    intro m
    induction m with
    | zero => rintro ⟨d, h1, _, h3⟩; omega
    | succ m ih =>
      rintro ⟨d, h1, h2, h3⟩
      by_cases h : ∃ d, d ≤ m ∧ d ∣ n ∧ 2 ≤ d
      · exact ih h
      · refine ⟨d, h2, h3, fun c hc hc2 => ?_⟩
        rcases Nat.lt_or_ge c d with hlt | hge
        · exact absurd ⟨c, by omega, hc, hc2⟩ h
        · exact hge
  obtain ⟨d, h1, h2, h3⟩ := key n ⟨n, Nat.le_refl _, Nat.dvd_refl _, hn⟩
  refine ⟨d, ⟨h2, fun c hc => ?_⟩, h1, h3⟩
  by_cases hc1 : c = 1
  · exact .inl hc1
  · have hpos : 0 < c := Nat.pos_of_dvd_of_pos hc (by omega)
    have := h3 c (Nat.dvd_trans hc h1) (by omega)
    have := Nat.le_of_dvd (by omega) hc
    exact .inr (by omega)
/-- A number whose prime divisors are all too great is a prime. -/
theorem prime_of_least {n : Nat} (hn : 2 ≤ n) (h : ∀ r, isPrime r → r ∣ n → n < r * r) : isPrime n := by
  obtain ⟨d, hp, hd, hl⟩ := least_div n hn
  have hlt := h d hp hd
  obtain ⟨m, hm⟩ := hd
  have hm1 : m = 1 := by
    rcases Nat.lt_or_ge m 2 with h2 | h2
    · rcases (show m = 0 ∨ m = 1 by omega) with h0 | h0
      · subst h0; omega
      · exact h0
    · have h3 := hl m ⟨d, by rw [hm, Nat.mul_comm]⟩ h2
      have := Nat.mul_le_mul_left d h3
      omega
  subst hm1
  rw [hm, Nat.mul_one]
  exact hp
/-- Trial by division, for small numbers. -/
def noDiv (p : Nat) : Nat → Nat → Bool
  | 0, _ => true
  | f + 1, d => p % d != 0 && noDiv p f (d + 1)
theorem noDiv_spec (p : Nat) : ∀ f d, noDiv p f d = true → ∀ c, d ≤ c → c < d + f → ¬ c ∣ p := by
  intro f
  induction f with
  | zero => intro d _ c h1 h2; omega
  | succ f ih =>
    intro d h c h1 h2 hc
    unfold noDiv at h
    simp only [Bool.and_eq_true, bne_iff_ne, ne_eq] at h
    rcases Nat.eq_or_lt_of_le h1 with he | hlt
    · subst he; exact h.1 (Nat.mod_eq_zero_of_dvd hc)
    · exact ih (d + 1) h.2 c (by omega) (by omega) hc
theorem prime_small (p s : Nat) (hp : 2 ≤ p) (hs : p < (s + 2) * (s + 2)) (h : noDiv p s 2 = true) : isPrime p := by
  refine prime_of_least hp fun r hr hd => ?_
  rcases Nat.lt_or_ge r (s + 2) with hlt | hge
  · exact absurd hd (noDiv_spec p s 2 h r hr.1 (by omega))
  · exact Nat.lt_of_lt_of_le hs (Nat.mul_le_mul hge hge)

theorem pow_gcd {c r : Nat} : ∀ m n, c ^ m % r = 1 % r → c ^ n % r = 1 % r → c ^ Nat.gcd m n % r = 1 % r := by
  intro m
  induction m using Nat.strongRecOn with
  | _ m ih =>
    intro n h1 h2
    by_cases hm : m = 0
    · subst hm; rw [Nat.gcd_zero_left]; exact h2
    · rw [Nat.gcd_rec]
      refine ih (n % m) (Nat.mod_lt _ (by omega)) m ?_ h1
      have e : c ^ n = (c ^ m) ^ (n / m) * c ^ (n % m) := by rw [← Nat.pow_mul, ← Nat.pow_add, Nat.div_add_mod]
      rw [e, Nat.mul_mod, Nat.pow_mod, h1, ← Nat.pow_mod, Nat.one_pow, ← Nat.mul_mod, Nat.one_mul] at h2
      exact h2
/-- One prime q of n - 1: each prime divisor of n is 1 more than a multiple of it. -/
theorem pock_one {n q a g : Nat} (hn : 1 < n) (hq : isPrime q) (hg : g * q = n - 1) (h1 : a ^ (n - 1) % n = 1) (h2 : Nat.gcd (a ^ g % n + n - 1) n = 1) {r : Nat} (hr : isPrime r) (hd : r ∣ n) : q ∣ r - 1 := by
  have hr2 := hr.1
  have e1 : (a ^ g) ^ q % r = 1 % r := by
    rw [← Nat.pow_mul, hg, ← Nat.mod_mod_of_dvd _ hd, h1]
  have hc : ¬ r ∣ a ^ g := by
    intro h
    have h3 : r ∣ (a ^ g) ^ q := by
      have hq1 := hq.1
      obtain ⟨j, rfl⟩ : ∃ j, q = j + 1 := ⟨q - 1, by omega⟩
      rw [Nat.pow_succ]
      exact Nat.dvd_mul_left_of_dvd h _
    rw [Nat.mod_eq_zero_of_dvd h3, Nat.mod_eq_of_lt (by omega)] at e1
    omega
  have e2 : (a ^ g) ^ (r - 1) % r = 1 % r := by rw [fermat hr hc, Nat.mod_eq_of_lt (by omega)]
  by_cases hqr : q ∣ r - 1
  · exact hqr
  · exfalso
    have hgcd : Nat.gcd q (r - 1) = 1 := by rw [Nat.gcd_comm]; exact prime_coprime hq hqr
    have e3 := pow_gcd _ _ e1 e2
    rw [hgcd, Nat.pow_one] at e3
    have h4 : r ∣ a ^ g % n + n - 1 := by
      have h5 : (a ^ g % n + n) % r = 1 % r := by
        rw [Nat.add_mod, Nat.mod_mod_of_dvd _ hd, Nat.mod_eq_zero_of_dvd hd, Nat.add_zero, Nat.mod_mod, e3]
      exact mod_eq_dvd (by omega) h5
    have h6 := Nat.dvd_gcd h4 hd
    rw [h2] at h6
    have := Nat.le_of_dvd (by omega) h6
    omega
def pockOk (n q a g : Nat) : Bool := g * q == n - 1 && pwm n 100 a (n - 1) 1 == 1 && Nat.gcd (pwm n 100 a g 1 + n - 1) n == 1
theorem pock {n q a g : Nat} (hn : 1 < n) (hs : n < 2 ^ 100) (hq : isPrime q) (h : pockOk n q a g = true) {r : Nat} (hr : isPrime r) (hd : r ∣ n) : q ∣ r - 1 := by
  unfold pockOk at h
  simp only [Bool.and_eq_true, beq_iff_eq] at h
  obtain ⟨⟨h0, h1⟩, h2⟩ := h
  have hq1 := hq.1
  have hg : g ≤ n - 1 := by rw [← h0]; exact Nat.le_mul_of_pos_right _ (by omega)
  exact pock_one hn hq h0 (by rw [pwm_pow n a (n - 1) 100 hn (by omega)]; exact h1) (by rw [pwm_pow n a g 100 hn (by omega)]; exact h2) hr hd
theorem mul_dvd_of {a b c : Nat} (h : Nat.gcd a b = 1) (h1 : a ∣ c) (h2 : b ∣ c) : a * b ∣ c := Nat.Coprime.mul_dvd_of_dvd_of_dvd h h1 h2

theorem p331 : isPrime 331 := prime_small 331 17 (by omega) (by omega) (by decide +kernel)
theorem p151 : isPrime 151 := prime_small 151 11 (by omega) (by omega) (by decide +kernel)
theorem p61s : isPrime 61 := prime_small 61 6 (by omega) (by omega) (by decide +kernel)
theorem p1321 : isPrime 1321 := prime_small 1321 35 (by omega) (by omega) (by decide +kernel)
theorem prime31 : isPrime 2147483647 := by
  refine prime_of_least (by omega) fun r hr hd => ?_
  have h0 := pock (n := 2147483647) (q := 331) (a := 3) (g := 6487866) (by omega) (by decide) p331 (by decide +kernel) hr hd
  have h1 := pock (n := 2147483647) (q := 151) (a := 3) (g := 14221746) (by omega) (by decide) p151 (by decide +kernel) hr hd
  have h9 := mul_dvd_of (by decide +kernel) h0 h1
  have hr2 := hr.1
  have h8 := Nat.le_of_dvd (by omega) h9
  have h7 : 49982 * 49982 ≤ r * r := Nat.mul_le_mul (by omega) (by omega)
  omega
theorem prime61a {r : Nat} (hr : isPrime r) (hd : r ∣ 2305843009213693951) : 1321 ∣ r - 1 :=
  pock (n := 2305843009213693951) (q := 1321) (a := 3) (g := 1745528394559950) (by omega) (by decide) p1321 (by decide +kernel) hr hd
theorem prime61b {r : Nat} (hr : isPrime r) (hd : r ∣ 2305843009213693951) : 331 ∣ r - 1 :=
  pock (n := 2305843009213693951) (q := 331) (a := 3) (g := 6966293079195450) (by omega) (by decide) p331 (by decide +kernel) hr hd
theorem prime61c {r : Nat} (hr : isPrime r) (hd : r ∣ 2305843009213693951) : 151 ∣ r - 1 :=
  pock (n := 2305843009213693951) (q := 151) (a := 3) (g := 15270483504726450) (by omega) (by decide) p151 (by decide +kernel) hr hd
theorem prime61d {r : Nat} (hr : isPrime r) (hd : r ∣ 2305843009213693951) : 61 ∣ r - 1 :=
  pock (n := 2305843009213693951) (q := 61) (a := 3) (g := 37800705069076950) (by omega) (by decide) p61s (by decide +kernel) hr hd
theorem prime61e {c : Nat} (h0 : 1321 ∣ c) (h1 : 331 ∣ c) (h2 : 151 ∣ c) (h3 : 61 ∣ c) : 4027518961 ∣ c := by
  have a1 : 1321 * 331 ∣ c := mul_dvd_of (by decide +kernel) h0 h1
  have a2 : 1321 * 331 * 151 ∣ c := mul_dvd_of (by decide +kernel) a1 h2
  exact mul_dvd_of (a := 1321 * 331 * 151) (b := 61) (by decide +kernel) a2 h3
theorem prime61 : isPrime 2305843009213693951 := by
  refine prime_of_least (by omega) fun r hr hd => ?_
  have h9 := prime61e (prime61a hr hd) (prime61b hr hd) (prime61c hr hd) (prime61d hr hd)
  have hr2 := hr.1
  have h8 := Nat.le_of_dvd (by omega) h9
  have h7 : 4027518962 ≤ r := by omega
  have h6 := Nat.mul_le_mul h7 h7
  clear h9 hd
  omega
end Go.Proofs.Ytaeebipcgeembaa
