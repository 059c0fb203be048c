/-
  Plain functions that say what package tabs and its reference compute, over lists of numbers. Conditions: none.
-/
import Derived.WalkKit
namespace Go.Proofs.Ytpkekdgpkalceaa
set_option linter.unusedVariables false

/-- The letter at place i of x. -/
def letter (x i : Nat) : Int := ((x / 16 ^ i % 16 : Nat) : Int)
def letters (x k : Nat) : List Int := (List.range k).map (letter x)
/-- How many letters n asks for. -/
def count (n : Int) : Nat := (min n 16).toNat
theorem letters_succ (x k : Nat) : letters x (k + 1) = letters x k ++ [letter x k] := by simp [letters, List.range_succ]
theorem len_letters (x k : Nat) : (letters x k).length = k := by simp [letters]
theorem letter_lo (x i : Nat) : 0 ≤ letter x i ∧ letter x i < 16 := by unfold letter; omega

/-- The error's number of a seed of n words, of which there should be 'need'. -/
def chk (n need b : Int) : Int := if b < 1 ∨ 64 < b then 1 else if n = need then 0 else 13
/-- No letter. -/
def badc (c : Int) : Bool := decide (c < 0 ∨ 16 ≤ c)
/-- The error's number of a row. -/
def fitsV (n : Nat) (row : List Int) : Int := if n = 16 * row.length then (if row.any badc then 2 else 0) else 1
theorem fits_zero {n : Nat} {row : List Int} (h0 : fitsV n row = 0) : n = 16 * row.length ∧ row.any badc = false := by
  unfold fitsV at h0
  split at h0
  · rename_i hf
    refine ⟨hf, ?_⟩
    cases hx : row.any badc
    · rfl
    · rw [hx] at h0; simp at h0
  · omega
/-- The exclusive or of a row's first k entries. -/
def sumTo (words : List Nat) (row : List Int) : Nat → Nat
  | 0 => 0
  | k + 1 => sumTo words row k ^^^ words.getD (16 * k + (row.getD k 0).toNat) 0
def sumV (words : List Nat) (row : List Int) : Nat := sumTo words row row.length
theorem getD_lt (words : List Nat) (hw : ∀ x ∈ words, x < 18446744073709551616) (i : Nat) : words.getD i 0 < 18446744073709551616 := by
  by_cases h : i < words.length
  · simp [List.getD, h]; exact hw _ (List.getElem_mem h)
  · simp [List.getD, Nat.not_lt.1 h]
theorem xor_lt (a b : Nat) (ha : a < 18446744073709551616) (hb : b < 18446744073709551616) : a ^^^ b < 18446744073709551616 := Nat.xor_lt_two_pow (n := 64) ha hb
theorem sumTo_lt (words : List Nat) (row : List Int) (hw : ∀ x ∈ words, x < 18446744073709551616) (k : Nat) : sumTo words row k < 18446744073709551616 := by
  induction k with
  | zero => simp [sumTo]
  | succ k ih => exact xor_lt _ _ ih (getD_lt words hw _)
theorem any_lo (row : List Int) (h : row.any badc = false) (k : Nat) (hk : k < row.length) : 0 ≤ row[k] ∧ row[k] < 16 := by
  have := (List.any_eq_false.1 h) _ (List.getElem_mem hk)
  simp only [badc, decide_eq_true_eq] at this
  omega
theorem any_yes (row : List Int) (k : Nat) (hk : k < row.length) (h : badc row[k] = true) : row.any badc = true := List.any_eq_true.2 ⟨_, List.getElem_mem hk, h⟩
theorem any_no (row : List Int) (h : ∀ j (h : j < row.length), badc row[j] = false) : row.any badc = false := by
  rw [List.any_eq_false]
  intro x hx
  obtain ⟨j, hj, rfl⟩ := List.getElem_of_mem hx
  simp [h j hj]
theorem bad_yes (c : Int) (h : c < 0 ∨ 15 < c) : badc c = true := by simp [badc]; omega
theorem bad_no (c : Int) (h : 0 ≤ c ∧ c ≤ 15) : badc c = false := by simp [badc]; omega
/-- A number's lowest b bits. -/
def lowV (x : Nat) (b : Int) : Nat := x % 2 ^ b.toNat
/-- So many noughts. -/
def zeros (n : Nat) : List Nat := List.replicate n 0
theorem zeros_succ (n : Nat) : zeros (n + 1) = zeros n ++ [0] := by simp [zeros, List.replicate_succ']
theorem len_zeros (n : Nat) : (zeros n).length = n := List.length_replicate
theorem zeros_lt (n : Nat) : ∀ x ∈ zeros n, x < 18446744073709551616 := fun x hx => by rw [List.eq_of_mem_replicate hx]; omega
end Go.Proofs.Ytpkekdgpkalceaa
