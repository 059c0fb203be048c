/-
  Plain facts on a number's bits as a list, the lowest first: what adding, subtracting, shifting and multiplying bit by bit comes to. Conditions: as each says.
-/
import Derived.WalkKit
namespace Go.Proofs.Ytaeebipcgeembaa
set_option linter.unusedVariables false

/-- Bit i of X; its n lowest bits. -/
def bt (X i : Nat) : Nat := X / 2 ^ i % 2
def bitsOf (X n : Nat) : List Int := (List.range n).map fun i => ((bt X i : Nat) : Int)
theorem bt_le (X i : Nat) : bt X i ≤ 1 := by unfold bt; omega
theorem bt_high {X n i : Nat} (h : X < 2 ^ n) (hi : n ≤ i) : bt X i = 0 := by
  unfold bt
  rw [Nat.div_eq_of_lt (Nat.lt_of_lt_of_le h (Nat.pow_le_pow_right (by omega) hi))]
theorem bitsOf_succ (X n : Nat) : bitsOf X (n + 1) = bitsOf X n ++ [((bt X n : Nat) : Int)] := by simp [bitsOf, List.range_succ]
theorem len_bitsOf (X n : Nat) : (bitsOf X n).length = n := by simp [bitsOf]
theorem get_bitsOf (X n i : Nat) (h : i < (bitsOf X n).length) : (bitsOf X n)[i] = ((bt X i : Nat) : Int) := by simp [bitsOf]
theorem bitsOf_congr {X Y n : Nat} (h : ∀ i, i < n → bt X i = bt Y i) : bitsOf X n = bitsOf Y n := by
  unfold bitsOf
  refine List.map_congr_left fun i hi => ?_
  rw [h i (by simpa using hi)]
theorem bt_mod (X n i : Nat) (h : i < n) : bt (X % 2 ^ n) i = bt X i := by
  unfold bt
  have e : 2 ^ n = 2 ^ i * (2 * 2 ^ (n - i - 1)) := by rw [← Nat.pow_succ', ← Nat.pow_add, show i + (n - i - 1 + 1) = n by omega]
  rw [e, Nat.mod_mul_right_div_self, Nat.mod_mul_right_mod]
theorem bitsOf_mod (X n : Nat) : bitsOf (X % 2 ^ n) n = bitsOf X n := bitsOf_congr fun i hi => bt_mod X n i hi
theorem mod_succ (X i : Nat) : X % 2 ^ (i + 1) = X % 2 ^ i + 2 ^ i * bt X i := by rw [Nat.pow_succ, Nat.mod_mul]; rfl
theorem bitsOf_zero (n : Nat) : bitsOf 0 n = List.replicate n 0 := by
  refine List.ext_getElem (by simp [bitsOf]) fun i h1 h2 => ?_
  simp [bitsOf, bt]
/-- Two rows of bits, one behind the other. -/
theorem bitsOf_join (X Y n m : Nat) (h : X < 2 ^ n) : bitsOf X n ++ bitsOf Y m = bitsOf (X + 2 ^ n * Y) (n + m) := by
  induction m with
  | zero =>
    simp only [bitsOf, List.range_zero, List.map_nil, List.append_nil, Nat.add_zero]
    refine List.map_congr_left fun i hi => ?_
    have hi : i < n := by simpa using hi
    have := bt_mod (X + 2 ^ n * Y) n i hi
    rw [Nat.add_mul_mod_self_left, Nat.mod_eq_of_lt h] at this
    rw [this]
  | succ m ih =>
    rw [bitsOf_succ, ← List.append_assoc, ih, ← Nat.add_assoc, bitsOf_succ]
    congr 3
    unfold bt
    rw [Nat.pow_add, ← Nat.div_div_eq_div_mul, Nat.add_mul_div_left _ _ (Nat.two_pow_pos n), Nat.div_eq_of_lt h, Nat.zero_add]

/-- What goes beyond bit i of a sum. -/
def carry (X Y i : Nat) : Nat := (X % 2 ^ i + Y % 2 ^ i) / 2 ^ i
theorem carry_le (X Y i : Nat) : carry X Y i ≤ 1 := by
  unfold carry
  have h1 := Nat.mod_lt X (Nat.two_pow_pos i)
  have h2 := Nat.mod_lt Y (Nat.two_pow_pos i)
  have : (X % 2 ^ i + Y % 2 ^ i) / 2 ^ i < 2 := Nat.div_lt_of_lt_mul (by omega)
  omega
theorem carry_zero (X Y : Nat) : carry X Y 0 = 0 := by simp [carry, Nat.mod_one]
theorem add_bit (X Y i : Nat) : (bt X i + bt Y i + carry X Y i) % 2 = bt (X + Y) i := by
  have e : (X + Y) / 2 ^ i = X / 2 ^ i + Y / 2 ^ i + carry X Y i := by
    unfold carry
    rw [Nat.add_div (Nat.two_pow_pos i)]
    congr 1
    have h1 := Nat.mod_lt X (Nat.two_pow_pos i)
    have h2 := Nat.mod_lt Y (Nat.two_pow_pos i)
    split
    · rename_i h
      exact (Nat.div_eq_of_lt_le (by omega) (by omega)).symm
    · rename_i h
      exact (Nat.div_eq_of_lt (by omega)).symm
  unfold bt
  rw [e]
  omega
theorem add_carry (X Y i : Nat) : (bt X i + bt Y i + carry X Y i) / 2 = carry X Y (i + 1) := by
  have e : X % 2 ^ (i + 1) + Y % 2 ^ (i + 1) = (X % 2 ^ i + Y % 2 ^ i) + 2 ^ i * (bt X i + bt Y i) := by rw [mod_succ, mod_succ, Nat.mul_add]; omega
  conv => rhs; unfold carry
  rw [e, Nat.pow_succ, ← Nat.div_div_eq_div_mul, Nat.add_mul_div_left _ _ (Nat.two_pow_pos i)]
  unfold carry
  congr 1
  omega
theorem carry_low {X Y n : Nat} (hX : X < 2 ^ n) (hY : Y < 2 ^ n) : carry X Y n = (X + Y) / 2 ^ n := by
  unfold carry
  rw [Nat.mod_eq_of_lt hX, Nat.mod_eq_of_lt hY]

/-- What is below 0 at bit i of a difference. -/
def lack (X Y i : Nat) : Nat := if X % 2 ^ i < Y % 2 ^ i then 1 else 0
theorem lack_le (X Y i : Nat) : lack X Y i ≤ 1 := by unfold lack; split <;> omega
theorem lack_zero (X Y : Nat) : lack X Y 0 = 0 := by simp [lack, Nat.mod_one]
/-- The difference modulo 2^n. -/
def dif (X Y n : Nat) : Nat := (X % 2 ^ n + 2 ^ n - Y % 2 ^ n) % 2 ^ n
theorem lack_carry (X Y D i : Nat) (h : (D + Y) % 2 ^ i = X % 2 ^ i) : carry D Y i = lack X Y i := by
  have h1 := Nat.mod_lt D (Nat.two_pow_pos i)
  have h2 := Nat.mod_lt Y (Nat.two_pow_pos i)
  have hc := carry_le D Y i
  have e : D % 2 ^ i + Y % 2 ^ i = 2 ^ i * carry D Y i + X % 2 ^ i := by
    rw [← h, Nat.add_mod D Y]
    exact (Nat.div_add_mod _ _).symm
  rcases (show carry D Y i = 0 ∨ carry D Y i = 1 by omega) with h0 | h0
  · rw [h0] at e ⊢
    unfold lack
    rw [if_neg (by omega)]
  · rw [h0] at e ⊢
    unfold lack
    rw [if_pos (by omega)]
theorem dif_add (X Y n : Nat) : (dif X Y n + Y) % 2 ^ n = X % 2 ^ n := by
  have h1 := Nat.mod_lt X (Nat.two_pow_pos n)
  have h2 := Nat.mod_lt Y (Nat.two_pow_pos n)
  unfold dif
  have e : X % 2 ^ n + 2 ^ n - Y % 2 ^ n + Y % 2 ^ n = X % 2 ^ n + 2 ^ n := by omega
  rw [Nat.add_mod, Nat.mod_mod]
  have e2 := Nat.add_mod (X % 2 ^ n + 2 ^ n - Y % 2 ^ n) (Y % 2 ^ n) (2 ^ n)
  rw [e, Nat.mod_mod] at e2
  rw [← e2, Nat.add_mod_right, Nat.mod_mod]
theorem dif_add_low (X Y n i : Nat) (h : i ≤ n) : (dif X Y n + Y) % 2 ^ i = X % 2 ^ i := by
  have this : (dif X Y n + Y) % 2 ^ n % 2 ^ i = X % 2 ^ n % 2 ^ i := by rw [dif_add]
  rwa [Nat.mod_mod_of_dvd _ (Nat.pow_dvd_pow 2 h), Nat.mod_mod_of_dvd _ (Nat.pow_dvd_pow 2 h)] at this
theorem sub_bit (X Y n i : Nat) (h : i < n) : (bt X i + 2 - bt Y i - lack X Y i) % 2 = bt (dif X Y n) i := by
  have e := add_bit (dif X Y n) Y i
  rw [lack_carry X Y _ i (dif_add_low X Y n i (by omega))] at e
  have e2 : bt (dif X Y n + Y) i = bt X i := by
    rw [← bt_mod (dif X Y n + Y) n i h, dif_add, bt_mod X n i h]
  rw [e2] at e
  have := bt_le X i; have := bt_le Y i; have := lack_le X Y i; have := bt_le (dif X Y n) i
  omega
theorem sub_lack (X Y i : Nat) : 1 - (bt X i + 2 - bt Y i - lack X Y i) / 2 = lack X Y (i + 1) := by
  have hx := bt_le X i; have hy := bt_le Y i; have hl := lack_le X Y i
  have h1 := Nat.mod_lt X (Nat.two_pow_pos i)
  have h2 := Nat.mod_lt Y (Nat.two_pow_pos i)
  have e : lack X Y (i + 1) = if X % 2 ^ i + 2 ^ i * bt X i < Y % 2 ^ i + 2 ^ i * bt Y i then 1 else 0 := by unfold lack; rw [mod_succ, mod_succ]
  rw [e]
  unfold lack at hl ⊢
  rcases (show bt X i = 0 ∨ bt X i = 1 by omega) with hx0 | hx0 <;> rcases (show bt Y i = 0 ∨ bt Y i = 1 by omega) with hy0 | hy0 <;> rw [hx0, hy0] <;> split <;> split <;> omega
theorem lack_low {X Y n : Nat} (hX : X < 2 ^ n) (hY : Y < 2 ^ n) : lack X Y n = if X < Y then 1 else 0 := by
  unfold lack
  rw [Nat.mod_eq_of_lt hX, Nat.mod_eq_of_lt hY]

theorem shl_bit (X k i : Nat) : bt (X * 2 ^ k) i = if i < k then 0 else bt X (i - k) := by
  unfold bt
  split
  · rename_i h
    have e : 2 ^ k = 2 ^ i * (2 * 2 ^ (k - i - 1)) := by rw [← Nat.pow_succ', ← Nat.pow_add, show i + (k - i - 1 + 1) = k by omega]
    rw [e, ← Nat.mul_assoc, Nat.mul_comm X, Nat.mul_assoc, Nat.mul_div_cancel_left _ (Nat.two_pow_pos i), Nat.mul_left_comm, Nat.mul_mod_right]
  · rename_i h
    have e : 2 ^ i = 2 ^ k * 2 ^ (i - k) := by rw [← Nat.pow_add, show k + (i - k) = i by omega]
    rw [e, ← Nat.div_div_eq_div_mul, Nat.mul_div_cancel _ (Nat.two_pow_pos k)]
theorem shr_bit (X k i : Nat) : bt (X / 2 ^ k) i = bt X (i + k) := by
  unfold bt
  rw [Nat.div_div_eq_div_mul, ← Nat.pow_add, Nat.add_comm k i]
theorem mul_bit_step (X Y i : Nat) : X * (Y % 2 ^ (i + 1)) = X * (Y % 2 ^ i) + (if bt Y i = 1 then X * 2 ^ i else 0) := by
  rw [mod_succ, Nat.mul_add]
  have := bt_le Y i
  rcases (show bt Y i = 0 ∨ bt Y i = 1 by omega) with h | h <;> simp [h]
/-- A row of bits is its number's: two numbers of the same bits are one. -/
theorem bitsOf_inj {X Y n : Nat} (hX : X < 2 ^ n) (hY : Y < 2 ^ n) (h : ∀ i, i < n → bt X i = bt Y i) : X = Y := by
  have key : ∀ k, k ≤ n → X % 2 ^ k = Y % 2 ^ k := by
    intro k
    induction k with
    | zero => intro _; simp [Nat.mod_one]
    | succ k ih => intro hk; rw [mod_succ, mod_succ, ih (by omega), h k (by omega)]
  have := key n (Nat.le_refl _)
  rwa [Nat.mod_eq_of_lt hX, Nat.mod_eq_of_lt hY] at this
end Go.Proofs.Ytaeebipcgeembaa
