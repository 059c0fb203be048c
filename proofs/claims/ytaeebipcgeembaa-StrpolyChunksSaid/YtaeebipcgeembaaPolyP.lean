/-
  Walk of poly.Mul. Conditions: slices no longer than the form lets them be.
-/
import Derived.Test.YtaeebipcgeembaaPolyR
namespace Go.Proofs.Ytaeebipcgeembaa
open Go.RowKit Go.Shelf
set_option linter.unusedVariables false

def stepM (x y p : Nat) (L : List Nat) : List Nat := L.set p ((L.getD p 0 + x * y % 2305843009213693951) % 2305843009213693951)
def rowM (x i : Nat) (b L : List Nat) : Nat → List Nat
  | 0 => L
  | k + 1 => stepM x (b.getD k 0) (i + k) (rowM x i b L k)
def mulM (a b : List Nat) : Nat → List Nat
  | 0 => List.replicate (a.length + b.length) 0
  | i + 1 => rowM (a.getD i 0) i b (mulM a b i) b.length
theorem len_rowM (x i : Nat) (b L : List Nat) (k : Nat) : (rowM x i b L k).length = L.length := by
  induction k with
  | zero => rfl
  | succ k ih => rw [rowM, stepM, List.length_set, ih]
theorem len_mulM (a b : List Nat) (i : Nat) : (mulM a b i).length = a.length + b.length := by
  induction i with
  | zero => rw [mulM, List.length_replicate]
  | succ i ih => rw [mulM, len_rowM, ih]
theorem lt_rowM (x i : Nat) (b L : List Nat) (hL : ∀ y ∈ L, y < 2305843009213693951) (k : Nat) : ∀ y ∈ rowM x i b L k, y < 2305843009213693951 := by
  induction k with
  | zero => exact hL
  | succ k ih =>
    intro y hy
    rw [rowM, stepM] at hy
    rcases List.mem_or_eq_of_mem_set hy with h | h
    · exact ih y h
    · rw [h]; exact Nat.mod_lt _ (by omega)
theorem lt_mulM (a b : List Nat) (i : Nat) : ∀ y ∈ mulM a b i, y < 2305843009213693951 := by
  induction i with
  | zero =>
    intro y hy
    rw [mulM] at hy
    rw [(List.mem_replicate.1 hy).2]
    omega
  | succ i ih => rw [mulM]; exact lt_rowM _ _ _ _ ih _
def mulP (a b : List Nat) : List Nat := trimZ (mulM a b a.length)
theorem map_mod (L : List Nat) (h : ∀ y ∈ L, y < 2305843009213693951) : L.map (· % 2305843009213693951) = L := by
  refine List.ext_getElem (by simp) fun i h1 h2 => ?_
  rw [List.getElem_map, Nat.mod_eq_of_lt (h _ (List.getElem_mem h2))]

end Go.Proofs.Ytaeebipcgeembaa
