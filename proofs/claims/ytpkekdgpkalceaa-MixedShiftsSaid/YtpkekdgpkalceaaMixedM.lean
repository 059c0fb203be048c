/-
  Plain functions that say what package mixed and its reference compute, and what follows: unlike keys have unlike rows. Conditions: the numbers fit.
-/
import Derived.Test.YtpkekdgpkalceaaTwistM
namespace Go.Proofs.Ytpkekdgpkalceaa
set_option linter.unusedVariables false

/-- What a key's derived letters are the letters of. -/
def mixD (words : List Nat) (x : Nat) : Nat := sumAt words 192 (letters x 8) 8
def mrow (words : List Nat) (x : Nat) : List Int := letters x 8 ++ letters (mixD words x) 4
theorem len_mrow (words : List Nat) (x : Nat) : (mrow words x).length = 12 := by simp [mrow, len_letters]
theorem mixD_lt (words : List Nat) (hw : ∀ x ∈ words, x < 18446744073709551616) (x : Nat) : mixD words x < 18446744073709551616 := sumAt_lt _ _ _ hw _
theorem letters_ok (x k : Nat) : (letters x k).any badc = false := any_no _ fun j hj => by
  have : (letters x k)[j] = letter x j := by simp [letters]
  rw [this]
  have := letter_lo x j
  exact bad_no _ (by omega)
theorem mrow_good (words : List Nat) (x : Nat) : (mrow words x).any badc = false := by
  rw [mrow, List.any_append, letters_ok, letters_ok]; rfl
theorem mod_of_letters (x y : Nat) : ∀ k, (∀ i, i < k → letter x i = letter y i) → x % 16 ^ k = y % 16 ^ k
  | 0, _ => by simp [Nat.mod_one]
  | k + 1, h => by
    have ih := mod_of_letters x y k fun i hi => h i (by omega)
    have hk := h k (by omega)
    unfold letter at hk
    rw [Nat.mod_pow_succ, Nat.mod_pow_succ, ih]
    have : x / 16 ^ k % 16 = y / 16 ^ k % 16 := by omega
    rw [this]
theorem letters_inj (x y : Nat) (hx : x < 4294967296) (hy : y < 4294967296) (h : letters x 8 = letters y 8) : x = y := by
  have := mod_of_letters x y 8 fun i hi => by
    have h2 := congrArg (fun l => l[i]?) h
    simpa [letters, hi] using h2
  rw [Nat.mod_eq_of_lt (by omega), Nat.mod_eq_of_lt (by omega)] at this
  exact this
theorem mrow_inj (words : List Nat) (x y : Nat) (hx : x < 4294967296) (hy : y < 4294967296) (h : mrow words x = mrow words y) : x = y := by
  refine letters_inj x y hx hy ?_
  have := congrArg (List.take 8) h
  simpa [mrow, len_letters] using this
/-- What Row hands back. -/
def mrowV (words : List Nat) (x : Nat) : List Int := if keyE words.length 320 x = 0 then mrow words x else []
/-- The error's number, and what a seed of mixed tabulation brings a key to. -/
def mevE (words : List Nat) (b : Int) (x : Nat) : Int := if chk words.length 320 b = 0 then (if x < 4294967296 then 0 else 2) else chk words.length 320 b
def mevV (words : List Nat) (b : Int) (x : Nat) : Nat := if mevE words b x = 0 then lowV (sumV (words.take 192) (mrow words x)) b else 0
end Go.Proofs.Ytpkekdgpkalceaa
