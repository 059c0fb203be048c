/-
  Plain functions that say what packages twist and mixed and their references compute, and what follows: turned twice a key is as it was. Conditions: the numbers fit.
-/
import Derived.Test.YtpkekdgpkalceaaTabsM
namespace Go.Proofs.Ytpkekdgpkalceaa
set_option linter.unusedVariables false

/-- The exclusive or of a row's first k entries, from place 'off' on. -/
def sumAt (words : List Nat) (off : Nat) (row : List Int) : Nat → Nat
  | 0 => 0
  | k + 1 => sumAt words off row k ^^^ words.getD (off + 16 * k + (row.getD k 0).toNat) 0
theorem sumAt_eq (words : List Nat) (off m : Nat) (row : List Int) (hg : row.any badc = false) (hm : 16 * row.length ≤ m) (k : Nat) (hk : k ≤ row.length) :
    sumTo ((words.drop off).take m) row k = sumAt words off row k := by
  induction k with
  | zero => rfl
  | succ k ih =>
    have hlt : k < row.length := by omega
    have hr := any_lo row hg k hlt
    have e : row.getD k 0 = row[k] := by simp [List.getD, hlt]
    have hi : 16 * k + row[k].toNat < m := by omega
    simp only [sumTo, sumAt, ih (by omega), e]
    congr 1
    simp only [List.getD, List.getElem?_take, hi, if_true, List.getElem?_drop, Nat.add_assoc]
theorem sumAt_lt (words : List Nat) (off : Nat) (row : List Int) (hw : ∀ x ∈ words, x < 18446744073709551616) (k : Nat) : sumAt words off row k < 18446744073709551616 := by
  induction k with
  | zero => simp [sumAt]
  | succ k ih => exact xor_lt _ _ ih (getD_lt words hw _)

/-- What the twisters tell of a key. -/
def twistV (words : List Nat) (x : Nat) : Nat := sumAt words 128 (letters x 7) 7
def turnR (words : List Nat) (x : Nat) : Nat := x ^^^ (twistV words x % 16 * 268435456)
/-- The error's number beside a key that is turned. -/
def keyE (n need : Nat) (x : Nat) : Int := if n = need then (if x < 4294967296 then 0 else 2) else 13
def turnV (words : List Nat) (x : Nat) : Nat := if keyE words.length 240 x = 0 then turnR words x else 0

theorem letter_low (x i : Nat) (hi : i < 7) : letter x i = letter (x % 268435456) i := by
  unfold letter
  have e : (268435456 : Nat) = 16 ^ i * (16 * 16 ^ (6 - i)) := by
    rw [← Nat.pow_succ', ← Nat.pow_add, show i + (6 - i + 1) = 7 by omega]
  rw [e, Nat.mod_mul_right_div_self, Nat.mod_mul_right_mod]
theorem letters_low (x : Nat) : letters x 7 = letters (x % 268435456) 7 := by
  unfold letters
  refine List.map_congr_left fun i hi => letter_low x i (by simpa using hi)
theorem turn_low (words : List Nat) (x : Nat) : turnR words x % 268435456 = x % 268435456 := by
  unfold turnR
  have := @Nat.xor_mod_two_pow x (twistV words x % 16 * 268435456) 28
  rw [show (2 : Nat) ^ 28 = 268435456 from rfl] at this
  rw [this, Nat.mul_mod_left, Nat.xor_zero]
theorem twist_turn (words : List Nat) (x : Nat) : twistV words (turnR words x) = twistV words x := by
  unfold twistV
  rw [letters_low (turnR words x), turn_low, ← letters_low]
theorem turn_turn (words : List Nat) (x : Nat) : turnR words (turnR words x) = x := by
  show turnR words x ^^^ (twistV words (turnR words x) % 16 * 268435456) = x
  rw [twist_turn]
  unfold turnR
  rw [Nat.xor_assoc, Nat.xor_self, Nat.xor_zero]
theorem turn_inj (words : List Nat) {x y : Nat} (h : turnR words x = turnR words y) : x = y := by
  have := congrArg (turnR words) h
  rwa [turn_turn, turn_turn] at this
theorem turn_lt (words : List Nat) (x : Nat) (hx : x < 4294967296) : turnR words x < 4294967296 := Nat.xor_lt_two_pow (n := 32) hx (by omega)
theorem turnR_lt64 (words : List Nat) (x : Nat) (hx : x < 18446744073709551616) : turnR words x < 18446744073709551616 := xor_lt _ _ hx (by omega)
theorem twistV_lt (words : List Nat) (hw : ∀ x ∈ words, x < 18446744073709551616) (x : Nat) : twistV words x < 18446744073709551616 := sumAt_lt _ _ _ hw _
theorem turn_walk (words : List Nat) (hw : ∀ x ∈ words, x < 18446744073709551616) (x : Nat) (hx : x < 18446744073709551616) :
    bits .xor .u64 (x : Int) (IntKind.u64.wrap (bits .and .u64 ((twistV words x : Nat) : Int) 15 * 268435456)) = ((turnR words x : Nat) : Int) := by
  have h := u64_and_nat (twistV words x) 15 (twistV_lt words hw x) (by omega)
  rw [nat_mask4] at h
  have e : IntKind.u64.wrap (bits .and .u64 ((twistV words x : Nat) : Int) 15 * 268435456) = ((twistV words x % 16 * 268435456 : Nat) : Int) := by
    rw [show ((15 : Nat) : Int) = 15 from rfl] at h
    rw [h, IntKind.wrap_u64]; omega
  rw [e, u64_xor_nat _ _ hx (by omega)]
  rfl
/-- The error's number, and what a seed brings a key to. -/
def tevE (words : List Nat) (b : Int) (x : Nat) : Int := if chk words.length 240 b = 0 then (if x < 4294967296 then 0 else 2) else chk words.length 240 b
end Go.Proofs.Ytpkekdgpkalceaa
