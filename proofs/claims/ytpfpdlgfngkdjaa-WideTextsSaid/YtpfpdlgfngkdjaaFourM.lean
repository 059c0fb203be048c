/-
  Plain facts on numbers of 256 bits as four words of 64: what adding and subtracting word by word comes to. Conditions: as each says.
-/
import Derived.Test.YtpfpdlgfngkdjaaWordM
namespace Go.Proofs.Ytpfpdlgfngkdjaa
set_option linter.unusedVariables false

/-- Word i of X. -/
def wd (X i : Nat) : Nat := X / 18446744073709551616 ^ i % 18446744073709551616
theorem wd_lt (X i : Nat) : wd X i < 18446744073709551616 := Nat.mod_lt _ (by omega)
/-- What goes beyond word i of a sum. -/
def wcarry (X Y i : Nat) : Nat := (X % 18446744073709551616 ^ i + Y % 18446744073709551616 ^ i) / 18446744073709551616 ^ i
theorem wpos (i : Nat) : 0 < 18446744073709551616 ^ i := Nat.pow_pos (by omega)
theorem wmod_succ (X i : Nat) : X % 18446744073709551616 ^ (i + 1) = X % 18446744073709551616 ^ i + 18446744073709551616 ^ i * wd X i := by rw [Nat.pow_succ, Nat.mod_mul]; rfl
theorem wcarry_le (X Y i : Nat) : wcarry X Y i ≤ 1 := by
  unfold wcarry
  have h1 := Nat.mod_lt X (wpos i)
  have h2 := Nat.mod_lt Y (wpos i)
  have : (X % 18446744073709551616 ^ i + Y % 18446744073709551616 ^ i) / 18446744073709551616 ^ i < 2 := Nat.div_lt_of_lt_mul (by omega)
  omega
theorem wcarry_zero (X Y : Nat) : wcarry X Y 0 = 0 := by simp [wcarry, Nat.mod_one]
theorem wadd_word (X Y i : Nat) : (wd X i + wd Y i + wcarry X Y i) % 18446744073709551616 = wd (X + Y) i := by
  have e : (X + Y) / 18446744073709551616 ^ i = X / 18446744073709551616 ^ i + Y / 18446744073709551616 ^ i + wcarry X Y i := by
    unfold wcarry
    rw [Nat.add_div (wpos i)]
    congr 1
    have h1 := Nat.mod_lt X (wpos i)
    have h2 := Nat.mod_lt Y (wpos i)
    split
    · rename_i h
      exact (Nat.div_eq_of_lt_le (by omega) (by omega)).symm
    · rename_i h
      exact (Nat.div_eq_of_lt (by omega)).symm
  unfold wd
  rw [e]
  omega
theorem wadd_carry (X Y i : Nat) : (wd X i + wd Y i + wcarry X Y i) / 18446744073709551616 = wcarry X Y (i + 1) := by
  have e : X % 18446744073709551616 ^ (i + 1) + Y % 18446744073709551616 ^ (i + 1) = (X % 18446744073709551616 ^ i + Y % 18446744073709551616 ^ i) + 18446744073709551616 ^ i * (wd X i + wd Y i) := by rw [wmod_succ, wmod_succ, Nat.mul_add]; omega
  conv => rhs; unfold wcarry
  rw [e, Nat.pow_succ, ← Nat.div_div_eq_div_mul, Nat.add_mul_div_left _ _ (wpos i)]
  unfold wcarry
  congr 1
  omega
/-- What is below 0 at word i of a difference; the difference modulo 2^256. -/
def wlack (X Y i : Nat) : Nat := if X % 18446744073709551616 ^ i < Y % 18446744073709551616 ^ i then 1 else 0
theorem wlack_le (X Y i : Nat) : wlack X Y i ≤ 1 := by unfold wlack; split <;> omega
theorem wlack_zero (X Y : Nat) : wlack X Y 0 = 0 := by simp [wlack, Nat.mod_one]
def dif256 (X Y : Nat) : Nat := (X % 18446744073709551616 ^ 4 + 18446744073709551616 ^ 4 - Y % 18446744073709551616 ^ 4) % 18446744073709551616 ^ 4
theorem wd_mod (X n i : Nat) (h : i < n) : wd (X % 18446744073709551616 ^ n) i = wd X i := by
  unfold wd
  have e : 18446744073709551616 ^ n = 18446744073709551616 ^ i * (18446744073709551616 * 18446744073709551616 ^ (n - i - 1)) := by rw [← Nat.pow_succ', ← Nat.pow_add, show i + (n - i - 1 + 1) = n by omega]
  rw [e, Nat.mod_mul_right_div_self, Nat.mod_mul_right_mod]
theorem dif256_add (X Y : Nat) : (dif256 X Y + Y) % 18446744073709551616 ^ 4 = X % 18446744073709551616 ^ 4 := by
  have hm : 0 < 18446744073709551616 ^ 4 := wpos 4
  unfold dif256
  generalize 18446744073709551616 ^ 4 = m at *
  have h1 := Nat.mod_lt X hm
  have h2 := Nat.mod_lt Y hm
  rw [Nat.add_mod, Nat.mod_mod]
  have e2 := Nat.add_mod (X % m + m - Y % m) (Y % m) m
  rw [show X % m + m - Y % m + Y % m = X % m + m by omega, Nat.mod_mod] at e2
  rw [← e2, Nat.add_mod_right, Nat.mod_mod]
theorem dif256_low (X Y i : Nat) (h : i ≤ 4) : (dif256 X Y + Y) % 18446744073709551616 ^ i = X % 18446744073709551616 ^ i := by
  have this : (dif256 X Y + Y) % 18446744073709551616 ^ 4 % 18446744073709551616 ^ i = X % 18446744073709551616 ^ 4 % 18446744073709551616 ^ i := by rw [dif256_add]
  rwa [Nat.mod_mod_of_dvd _ (Nat.pow_dvd_pow _ h), Nat.mod_mod_of_dvd _ (Nat.pow_dvd_pow _ h)] at this
theorem wlack_carry (X Y D i : Nat) (h : (D + Y) % 18446744073709551616 ^ i = X % 18446744073709551616 ^ i) : wcarry D Y i = wlack X Y i := by
  have h1 := Nat.mod_lt D (wpos i)
  have h2 := Nat.mod_lt Y (wpos i)
  have hc := wcarry_le D Y i
  have e : D % 18446744073709551616 ^ i + Y % 18446744073709551616 ^ i = 18446744073709551616 ^ i * wcarry D Y i + X % 18446744073709551616 ^ i := by
    rw [← h, Nat.add_mod D Y]
    exact (Nat.div_add_mod _ _).symm
  rcases (show wcarry D Y i = 0 ∨ wcarry D Y i = 1 by omega) with h0 | h0
  · rw [h0] at e ⊢
    unfold wlack
    rw [if_neg (by omega)]
  · rw [h0] at e ⊢
    unfold wlack
    rw [if_pos (by omega)]
theorem wsub_word (X Y i : Nat) (h : i < 4) : (wd X i + 18446744073709551616 - wd Y i - wlack X Y i) % 18446744073709551616 = wd (dif256 X Y) i := by
  have e := wadd_word (dif256 X Y) Y i
  rw [wlack_carry X Y _ i (dif256_low X Y i (by omega))] at e
  have e2 : wd (dif256 X Y + Y) i = wd X i := by rw [← wd_mod _ 4 i h, dif256_add, wd_mod _ 4 i h]
  rw [e2] at e
  have := wd_lt X i; have := wd_lt Y i; have := wlack_le X Y i; have := wd_lt (dif256 X Y) i
  omega
theorem wsub_lack (X Y i : Nat) : (if wd X i < wd Y i + wlack X Y i then 1 else 0) = wlack X Y (i + 1) := by
  have h1 := Nat.mod_lt X (wpos i)
  have h2 := Nat.mod_lt Y (wpos i)
  have hl := wlack_le X Y i
  have e : wlack X Y (i + 1) = if X % 18446744073709551616 ^ i + 18446744073709551616 ^ i * wd X i < Y % 18446744073709551616 ^ i + 18446744073709551616 ^ i * wd Y i then 1 else 0 := by unfold wlack; rw [wmod_succ, wmod_succ]
  rw [e]
  clear e
  unfold wlack at hl ⊢
  generalize wd X i = x
  generalize wd Y i = y
  generalize hm : 18446744073709551616 ^ i = m at *
  generalize X % m = a at *
  generalize Y % m = b at *
  rcases Nat.lt_trichotomy x y with h | h | h
  · have : m * x + m ≤ m * y := by rw [← Nat.mul_succ]; exact Nat.mul_le_mul_left m h
    rw [if_pos (show x < y + _ by split <;> omega), if_pos (by omega)]
  · subst h
    split <;> split <;> split <;> omega
  · have : m * y + m ≤ m * x := by rw [← Nat.mul_succ]; exact Nat.mul_le_mul_left m h
    rw [if_neg (show ¬ x < y + _ by split <;> omega), if_neg (by omega)]
end Go.Proofs.Ytpfpdlgfngkdjaa
