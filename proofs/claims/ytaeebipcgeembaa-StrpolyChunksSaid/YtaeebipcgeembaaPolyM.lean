/-
  Plain facts on polynomials modulo 2^61 - 1 as lists of coefficients, the lowest first: values, trimming, division by X less a number. Conditions: none.
-/
import Derived.Test.YtaeebipcgeembaaMersM
namespace Go.Proofs.Ytaeebipcgeembaa
set_option linter.unusedVariables false

/-- The value of a polynomial, whole. -/
def pval : List Nat → Nat → Nat
  | [], _ => 0
  | a :: l, x => a + x * pval l x
theorem pval_snoc (l : List Nat) (a x : Nat) : pval (l ++ [a]) x = pval l x + a * x ^ l.length := by
  induction l with
  | nil => simp [pval]
  | cons b l ih => simp only [List.cons_append, pval, List.length_cons, ih, Nat.mul_add, Nat.pow_succ]; rw [Nat.mul_left_comm x a, Nat.mul_comm x (x ^ l.length), Nat.add_assoc]
theorem pval_take (l : List Nat) (k x : Nat) (h : k < l.length) : pval (l.take (k + 1)) x = pval (l.take k) x + l[k] * x ^ k := by
  rw [List.take_succ_eq_append_getElem h, pval_snoc, List.length_take, Nat.min_eq_left (by omega)]
theorem pval_drop (l : List Nat) (k x : Nat) (h : k < l.length) : pval (l.drop k) x = l[k] + x * pval (l.drop (k + 1)) x := by
  rw [List.drop_eq_getElem_cons h]
  rfl
/-- How many of the first k are left, when the 0s behind are taken away. -/
def nzc (l : List Nat) : Nat → Nat
  | 0 => 0
  | k + 1 => if l.getD k 0 ≠ 0 then k + 1 else nzc l k
theorem nzc_le (l : List Nat) (k : Nat) : nzc l k ≤ k := by
  induction k with
  | zero => exact Nat.le_refl _
  | succ k ih => unfold nzc; split <;> omega
def trimZ (l : List Nat) : List Nat := l.take (nzc l l.length)
theorem trimZ_len (l : List Nat) : (trimZ l).length = nzc l l.length := by
  unfold trimZ
  rw [List.length_take, Nat.min_eq_left (nzc_le _ _)]
/-- A list of n, of which the first k are told by f, the others 0; likewise from k on. -/
def front (f : Nat → Nat) (n k : Nat) : List Nat := (List.range n).map fun i => if i < k then f i else 0
def back (f : Nat → Nat) (n k : Nat) : List Nat := (List.range n).map fun i => if k ≤ i then f i else 0
theorem len_front (f : Nat → Nat) (n k : Nat) : (front f n k).length = n := by simp [front]
theorem len_back (f : Nat → Nat) (n k : Nat) : (back f n k).length = n := by simp [back]
theorem front_zero (f : Nat → Nat) (n : Nat) : front f n 0 = List.replicate n 0 := by
  refine List.ext_getElem (by simp [front]) fun i h1 h2 => ?_
  simp [front]
theorem back_all (f : Nat → Nat) (n : Nat) : back f n n = List.replicate n 0 := by
  refine List.ext_getElem (by simp [back]) fun i h1 h2 => ?_
  have : i < n := by simpa [back] using h1
  simp only [back, List.getElem_map, List.getElem_range, List.getElem_replicate]
  rw [if_neg (by omega)]
theorem front_all (f : Nat → Nat) (n : Nat) : front f n n = (List.range n).map f := by
  refine List.ext_getElem (by simp [front]) fun i h1 h2 => ?_
  have : i < n := by simpa [front] using h1
  simp only [front, List.getElem_map, List.getElem_range]
  rw [if_pos (by omega)]
theorem back_zero (f : Nat → Nat) (n : Nat) : back f n 0 = (List.range n).map f := by
  refine List.ext_getElem (by simp [back]) fun i h1 h2 => ?_
  simp [back]
theorem front_set (f : Nat → Nat) (n k : Nat) : (front f n k).set k (f k) = front f n (k + 1) := by
  refine List.ext_getElem (by simp [front]) fun i h1 h2 => ?_
  rw [List.getElem_set]
  simp only [front, List.getElem_map, List.getElem_range]
  split
  · rename_i h; subst h; rw [if_pos (by omega)]
  · rename_i h
    by_cases hi : i < k
    · rw [if_pos hi, if_pos (by omega)]
    · rw [if_neg hi, if_neg (by omega)]
theorem back_set (f : Nat → Nat) (n k : Nat) : (back f n (k + 1)).set k (f k) = back f n k := by
  refine List.ext_getElem (by simp [back]) fun i h1 h2 => ?_
  rw [List.getElem_set]
  simp only [back, List.getElem_map, List.getElem_range]
  split
  · rename_i h; subst h; rw [if_pos (by omega)]
  · rename_i h
    by_cases hi : k ≤ i
    · rw [if_pos hi, if_pos (by omega)]
    · rw [if_neg hi, if_neg (by omega)]
theorem map_range_getD (l : List Nat) (f : Nat → Nat) : (List.range l.length).map (fun i => f (l.getD i 0)) = l.map f := by
  refine List.ext_getElem (by simp) fun i h1 h2 => ?_
  have : i < l.length := by simpa using h2
  simp [List.getD, this]
/-- The coefficients of the quotient by X less x. -/
def quoP (p : Nat) (l : List Nat) (x : Nat) : List Nat := (List.range l.length).map fun i => pval (l.drop (i + 1)) x % p
end Go.Proofs.Ytaeebipcgeembaa
