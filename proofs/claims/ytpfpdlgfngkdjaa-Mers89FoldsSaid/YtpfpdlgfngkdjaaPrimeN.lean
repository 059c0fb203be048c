/-
  2^89 - 1 is a prime: Pocklington's test with three primes that divide one less. Conditions: none.
-/
import Derived.Test.YtpfpdlgfngkdjaaPrime
namespace Go.Proofs.Ytpfpdlgfngkdjaa
set_option linter.unusedVariables false

theorem p8707 : isPrime 8707 := prime_small 8707 92 (by omega) (by omega) (by decide +kernel)
theorem p1913 : isPrime 1913 := prime_small 1913 42 (by omega) (by omega) (by decide +kernel)
theorem p2113 : isPrime 2113 := prime_small 2113 44 (by omega) (by omega) (by decide +kernel)
theorem p683 : isPrime 683 := prime_small 683 25 (by omega) (by omega) (by decide +kernel)
theorem primeQ : isPrime 2931542417 := by
  refine prime_of_least (by omega) fun r hr hd => ?_
  have h0 := pock (n := 2931542417) (q := 8707) (a := 3) (g := 336688) (by omega) (by decide) p8707 (by decide +kernel) hr hd
  have h1 := pock (n := 2931542417) (q := 1913) (a := 3) (g := 1532432) (by omega) (by decide) p1913 (by decide +kernel) hr hd
  have h9 := mul_dvd_of (by decide +kernel) h0 h1
  have hr2 := hr.1
  have h8 := Nat.le_of_dvd (by omega) h9
  have h7 : 16656492 * 16656492 ≤ r * r := Nat.mul_le_mul (by omega) (by omega)
  omega
theorem prime89a {r : Nat} (hr : isPrime r) (hd : r ∣ 618970019642690137449562111) : 2931542417 ∣ r - 1 :=
  pock (n := 618970019642690137449562111) (q := 2931542417) (a := 3) (g := 211141416905068830) (by omega) (by decide) primeQ (by decide +kernel) hr hd
theorem prime89b {r : Nat} (hr : isPrime r) (hd : r ∣ 618970019642690137449562111) : 2113 ∣ r - 1 :=
  pock (n := 618970019642690137449562111) (q := 2113) (a := 3) (g := 292934226049545734713470) (by omega) (by decide) p2113 (by decide +kernel) hr hd
theorem prime89c {r : Nat} (hr : isPrime r) (hd : r ∣ 618970019642690137449562111) : 683 ∣ r - 1 :=
  pock (n := 618970019642690137449562111) (q := 683) (a := 3) (g := 906251858920483363762170) (by omega) (by decide) p683 (by decide +kernel) hr hd
theorem prime89e {c : Nat} (h0 : 2931542417 ∣ c) (h1 : 2113 ∣ c) (h2 : 683 ∣ c) : 4230740453823643 ∣ c := by
  have a1 : 2931542417 * 2113 ∣ c := mul_dvd_of (by decide +kernel) h0 h1
  exact mul_dvd_of (a := 2931542417 * 2113) (b := 683) (by decide +kernel) a1 h2
theorem prime89 : isPrime 618970019642690137449562111 := by
  refine prime_of_least (by omega) fun r hr hd => ?_
  have h9 := prime89e (prime89a hr hd) (prime89b hr hd) (prime89c hr hd)
  have hr2 := hr.1
  have h8 := Nat.le_of_dvd (by omega) h9
  have h7 : 4230740453823644 ≤ r := by omega
  have h6 := Nat.mul_le_mul h7 h7
  clear h9 hd
  omega
end Go.Proofs.Ytpfpdlgfngkdjaa
