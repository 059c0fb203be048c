/-
  The plain law of strpoly.Bytes: what numbers tell a text. Conditions: bytes.
-/
import Derived.Test.YtaeebipcgeembaaStrH
namespace Go.Proofs.Ytaeebipcgeembaa
open Go.RowKit
set_option linter.unusedVariables false

/-- The highest byte, from the n-th down to the first, that isn't 0; 0 if there is none. -/
def topD (x : Nat) : Nat → Nat
  | 0 => 0
  | n + 1 => if x / 256 ^ (n + 1) % 256 = 0 then topD x n else n + 1
theorem topD_le (x n : Nat) : topD x n ≤ n := by
  induction n with
  | zero => exact Nat.le_refl _
  | succ n ih => unfold topD; split <;> omega
/-- The text that numbers tell, if they tell one. -/
def decN : List Nat → List Nat
  | [] => []
  | [x] => bytesN x (topD x 6)
  | x :: y :: r => bytesN x 7 ++ decN (y :: r)
theorem decN_cons (x : Nat) {r : List Nat} (h : r ≠ []) : decN (x :: r) = bytesN x 7 ++ decN r := by
  cases r with
  | nil => exact (h rfl).elim
  | cons y r => rfl
theorem bytesN_lt (x n : Nat) : ∀ y ∈ bytesN x n, y < 256 := fun y hy => by
  obtain ⟨i, _, rfl⟩ := List.mem_map.1 hy
  exact Nat.mod_lt _ (by omega)
theorem decN_lt : ∀ (l : List Nat), ∀ y ∈ decN l, y < 256
  | [], y, hy => by simp [decN] at hy
  | [x], y, hy => bytesN_lt _ _ y hy
  | x :: z :: r, y, hy => by
    rcases List.mem_append.1 hy with h | h
    · exact bytesN_lt _ _ y h
    · exact decN_lt (z :: r) y h
theorem decN_len : ∀ (l : List Nat), (decN l).length ≤ 7 * l.length
  | [] => by simp [decN]
  | [x] => by
    show (bytesN x (topD x 6)).length ≤ _
    rw [len_bytesN]
    have := topD_le x 6
    simp
    omega
  | x :: z :: r => by
    have := decN_len (z :: r)
    simp only [decN, List.length_append, len_bytesN, List.length_cons] at this ⊢
    omega
theorem bytesN_take (x n k : Nat) (h : k ≤ n) : (bytesN x n).take k = bytesN x k := by
  refine List.ext_getElem (by simp [bytesN]; omega) fun i h1 h2 => ?_
  simp [bytesN]
theorem bytesN_cons (x n : Nat) : bytesN x (n + 1) = x % 256 :: bytesN (x / 256) n := by
  refine List.ext_getElem (by simp [bytesN]) fun i h1 h2 => ?_
  cases i with
  | zero => simp [bytesN]
  | succ i =>
    simp only [bytesN, List.getElem_map, List.getElem_range, List.getElem_cons_succ]
    rw [Nat.div_div_eq_div_mul, Nat.pow_succ, Nat.mul_comm]
theorem bytesN_leN : ∀ (xs : List Nat) (q : Nat), (∀ x ∈ xs, x < 256) → bytesN (leN xs + q * 256 ^ xs.length) xs.length = xs
  | [], q, _ => rfl
  | x :: r, q, h => by
    have hx := h x (by simp)
    rw [List.length_cons, bytesN_cons]
    have e : leN (x :: r) + q * 256 ^ (r.length + 1) = x + 256 * (leN r + q * 256 ^ r.length) := by
      rw [leN, Nat.pow_succ, Nat.mul_add, Nat.mul_left_comm 256 q, Nat.mul_comm 256 (256 ^ r.length), Nat.add_assoc]
    rw [e, show (x + 256 * (leN r + q * 256 ^ r.length)) % 256 = x by omega, show (x + 256 * (leN r + q * 256 ^ r.length)) / 256 = leN r + q * 256 ^ r.length by omega, bytesN_leN r q fun y hy => h y (by simp [hy])]
theorem top_mark (u m : Nat) (hu : u < 256 ^ m) : ∀ d, topD (u + 256 ^ m) (m + d) = m := by
  intro d
  induction d with
  | zero =>
    cases m with
    | zero => rfl
    | succ m =>
      have e : (u + 256 ^ (m + 1)) / 256 ^ (m + 1) = 1 := by
        rw [Nat.add_div_right _ (Nat.pow_pos (by decide)), Nat.div_eq_of_lt hu]
      show (if (u + 256 ^ (m + 1)) / 256 ^ (m + 1) % 256 = 0 then _ else m + 1) = m + 1
      rw [e, if_neg (by decide)]
  | succ d ih =>
    have hp : 256 ^ (m + 1) ≤ 256 ^ (m + d + 1) := Nat.pow_le_pow_right (by decide) (by omega)
    rw [Nat.pow_succ] at hp
    have e : (u + 256 ^ m) / 256 ^ (m + d + 1) = 0 := Nat.div_eq_of_lt (by omega)
    show (if (u + 256 ^ m) / 256 ^ (m + d + 1) % 256 = 0 then topD (u + 256 ^ m) (m + d) else m + d + 1) = m
    rw [e, if_pos rfl, ih]
theorem dec_chunks (b : List Nat) (hby : ∀ x ∈ b, x < 256) : decN (chunksN b) = b := by
  fun_induction chunksN b with
  | case1 b h =>
    have h1 := leN_lt b hby
    have h2 := top_mark (leN b) b.length h1 (6 - b.length)
    rw [show b.length + (6 - b.length) = 6 by omega] at h2
    show bytesN (leN b + 256 ^ b.length) (topD (leN b + 256 ^ b.length) 6) = b
    rw [h2]
    have := bytesN_leN b 1 hby
    rwa [Nat.one_mul] at this
  | case2 b h ih =>
    have hne : chunksN (b.drop 7) ≠ [] := fun e => by
      have := chunksN_pos (b.drop 7)
      rw [e] at this
      simp at this
    rw [decN_cons _ hne, ih (fun x hx => hby x (List.mem_of_mem_drop hx))]
    have h7 : (b.take 7).length = 7 := by rw [List.length_take]; omega
    have := bytesN_leN (b.take 7) 0 (fun x hx => hby x (List.mem_of_mem_take hx))
    rw [Nat.zero_mul, Nat.add_zero, h7] at this
    rw [this, List.take_append_drop]
/-- Numbers tell a text just if they are the numbers of the text that they tell. -/
theorem dec_only {l : List Nat} (h : chunksN (decN l) ≠ l) (c : List Nat) (hc : ∀ x ∈ c, x < 256) : chunksN c ≠ l := fun e => by
  subst e
  rw [dec_chunks c hc] at h
  exact h rfl
end Go.Proofs.Ytaeebipcgeembaa
