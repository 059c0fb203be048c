/-
  Plain laws of the shifts of simple, twisted and mixed tabulation: a shift brings each key to its target, and aimed back it is the seed. Conditions: none.
-/
import Derived.Test.YtpkekdgpkalceaaAimM
import Derived.Test.YtpkekdgpkalceaaMixedM
namespace Go.Proofs.Ytpkekdgpkalceaa
set_option linter.unusedVariables false

/-- Whether a key or a target is none. -/
def tbad (b : Int) (xs ys : List Nat) (i : Nat) : Bool := decide (4294967296 ≤ xs.getD i 0 ∨ lowV (ys.getD i 0) b ≠ ys.getD i 0)
def twice (xs : List Nat) : Bool := decide (∃ i, i < xs.length ∧ ∃ k, k < i ∧ xs.getD k 0 = xs.getD i 0)
/-- The error's number of keys and targets. -/
def targE (b : Int) (xs ys : List Nat) : Int :=
  if xs.length < 1 ∨ 3 < xs.length ∨ xs.length ≠ ys.length then 1
  else if (List.range xs.length).any (tbad b xs ys) then 2
  else if twice xs then 15 else 0
/-- What keys' rows are moved by. -/
def byV (b : Int) (words : List Nat) (rows : List (List Int)) (ys : List Nat) : List Nat := (List.range rows.length).map fun i => lowV (sumV words (rows.getD i [])) b ^^^ ys.getD i 0
def wasV (b : Int) (words : List Nat) (rows : List (List Int)) : List Nat := (List.range rows.length).map fun i => lowV (sumV words (rows.getD i [])) b
theorem len_byV (b : Int) (words : List Nat) (rows : List (List Int)) (ys : List Nat) : (byV b words rows ys).length = rows.length := by simp [byV]
theorem len_wasV (b : Int) (words : List Nat) (rows : List (List Int)) : (wasV b words rows).length = rows.length := by simp [wasV]
theorem get_byV (b : Int) (words : List Nat) (rows : List (List Int)) (ys : List Nat) (i : Nat) (hi : i < rows.length) : (byV b words rows ys).getD i 0 = lowV (sumV words (rows.getD i [])) b ^^^ ys.getD i 0 := by simp [byV, List.getD, hi]
theorem get_wasV (b : Int) (words : List Nat) (rows : List (List Int)) (i : Nat) (hi : i < rows.length) : (wasV b words rows).getD i 0 = lowV (sumV words (rows.getD i [])) b := by simp [wasV, List.getD, hi]
theorem lowV_xor (a c : Nat) (b : Int) : lowV (a ^^^ c) b = lowV a b ^^^ lowV c b := Nat.xor_mod_two_pow
theorem lowV_low (a : Nat) (b : Int) : lowV (lowV a b) b = lowV a b := Nat.mod_mod _ _
theorem lowV_lt (a : Nat) (b : Int) (ha : a < 18446744073709551616) : lowV a b < 18446744073709551616 := Nat.lt_of_le_of_lt (Nat.mod_le _ _) ha
theorem xor_back (a c : Nat) : a ^^^ (a ^^^ c) = c := by rw [← Nat.xor_assoc, Nat.xor_self, Nat.zero_xor]
theorem shift_hits {n m : Nat} {rows : List (List Int)} (g : GoodR n rows m) (b : Int) (words ys : List Nat) (hn : words.length = n) (i : Nat) (hi : i < rows.length) (hy : lowV (ys.getD i 0) b = ys.getD i 0) :
    lowV (sumV (aimV words rows (byV b words rows ys)) (rows.getD i [])) b = ys.getD i 0 := by
  rw [aim_sum g words _ hn (by rw [len_byV]; exact g.num) i hi, lowV_xor, get_byV _ _ _ _ _ hi, lowV_xor, lowV_low, hy, xor_back]
theorem shift_back {n m : Nat} {rows : List (List Int)} (g : GoodR n rows m) (b : Int) (words ys : List Nat) (hn : words.length = n) (hy : ∀ i, i < rows.length → lowV (ys.getD i 0) b = ys.getD i 0) :
    aimV (aimV words rows (byV b words rows ys)) rows (byV b (aimV words rows (byV b words rows ys)) rows (wasV b words rows)) = words := by
  have h : byV b (aimV words rows (byV b words rows ys)) rows (wasV b words rows) = byV b words rows ys := by
    refine nat_ext _ _ (by rw [len_byV, len_byV]) fun i hi => ?_
    rw [len_byV] at hi
    rw [get_byV _ _ _ _ _ hi, get_byV _ _ _ _ _ hi, get_wasV _ _ _ _ hi, shift_hits g b words ys hn i hi (hy i hi), Nat.xor_comm]
  rw [h, aim_back]
theorem byV_lt (b : Int) (words : List Nat) (rows : List (List Int)) (ys : List Nat) (hw : ∀ x ∈ words, x < 18446744073709551616) (hy : ∀ x ∈ ys, x < 18446744073709551616) : ∀ x ∈ byV b words rows ys, x < 18446744073709551616 := fun x hx => by
  obtain ⟨i, _, rfl⟩ := List.mem_map.1 hx
  exact xor_lt _ _ (lowV_lt _ _ (sumTo_lt words _ hw _)) (getD_lt _ hy _)
theorem wasV_lt (b : Int) (words : List Nat) (rows : List (List Int)) (hw : ∀ x ∈ words, x < 18446744073709551616) : ∀ x ∈ wasV b words rows, x < 18446744073709551616 := fun x hx => by
  obtain ⟨i, _, rfl⟩ := List.mem_map.1 hx
  exact lowV_lt _ _ (sumTo_lt words _ hw _)
theorem wasV_low (b : Int) (words : List Nat) (rows : List (List Int)) (i : Nat) (hi : i < rows.length) : lowV ((wasV b words rows).getD i 0) b = (wasV b words rows).getD i 0 := by rw [get_wasV _ _ _ _ hi, lowV_low]

/-- Rows of keys. -/
def keyRows (f : Nat → List Int) (xs : List Nat) : List (List Int) := xs.map f
theorem len_keyRows (f : Nat → List Int) (xs : List Nat) : (keyRows f xs).length = xs.length := by simp [keyRows]
theorem get_keyRows (f : Nat → List Int) (xs : List Nat) (i : Nat) (hi : i < xs.length) : (keyRows f xs).getD i [] = f (xs.getD i 0) := by simp [keyRows, List.getD, hi]
/-- Rows that are told apart by their keys: what Aim says of them. -/
theorem rows_keys (f : Nat → List Int) (q : Nat) (n m : Nat) (xs : List Nat) (h1 : 1 ≤ xs.length) (h3 : xs.length ≤ 3) (hm : xs.length = m) (hq : 1 ≤ q) (hn : n = 16 * q) (hlen : ∀ x, (f x).length = q) (hgood : ∀ x, (f x).any badc = false)
    (hinj : ∀ i k, i < xs.length → k < xs.length → f (xs.getD k 0) = f (xs.getD i 0) → xs.getD k 0 = xs.getD i 0) : rowsE n (keyRows f xs) m = if twice xs then 15 else 0 := by
  have hl := len_keyRows f xs
  have hg := fun i hi => get_keyRows f xs i hi
  unfold rowsE
  rw [if_neg (by rw [hl, hg 0 (by omega), hlen]; omega), if_neg, if_pos]
  · have : sameV (keyRows f xs) = twice xs := by
      unfold sameV twice
      congr 1
      rw [hl]
      refine propext ⟨fun ⟨i, hi, k, hk, he⟩ => ⟨i, hi, k, hk, ?_⟩, fun ⟨i, hi, k, hk, he⟩ => ⟨i, hi, k, hk, ?_⟩⟩
      · rw [hg k (by omega), hg i hi] at he
        exact hinj i k hi (by omega) he
      · rw [hg k (by omega), hg i hi, he]
    rw [this]
  · refine fitsAll_ok _ _ fun j hj => ?_
    rw [hl] at hj
    rw [hg j hj]
    unfold fitsV
    rw [hlen, if_pos hn, hgood]
    rfl
  · have : (keyRows f xs).any (fun r => !(r.length == ((keyRows f xs).getD 0 []).length)) = false := by
      rw [List.any_eq_false]
      intro r hr
      obtain ⟨x, _, rfl⟩ := List.mem_map.1 hr
      rw [hg 0 (by omega), hlen, hlen]
      simp
    rw [this]
    simp
theorem targ_parts {b : Int} {xs ys : List Nat} (h : targE b xs ys = 0) : 1 ≤ xs.length ∧ xs.length ≤ 3 ∧ xs.length = ys.length ∧ (∀ i, i < xs.length → xs.getD i 0 < 4294967296 ∧ lowV (ys.getD i 0) b = ys.getD i 0) ∧ twice xs = false := by
  unfold targE at h
  split at h
  · omega
  · rename_i h1
    split at h
    · omega
    · rename_i h2
      split at h
      · omega
      · rename_i h3
        refine ⟨by omega, by omega, by omega, fun i hi => ?_, by simpa using h3⟩
        have := (List.any_eq_false.1 (Bool.eq_false_iff.2 h2)) i (List.mem_range.2 hi)
        simp only [tbad, decide_eq_true_eq] at this
        exact ⟨by omega, by
          by_cases hh : lowV (ys.getD i 0) b = ys.getD i 0
          · exact hh
          · exact absurd (Or.inr hh) this⟩
theorem targ_was {b : Int} {xs ys zs : List Nat} (h : targE b xs ys = 0) (hz : zs.length = xs.length) (hl : ∀ i, i < xs.length → lowV (zs.getD i 0) b = zs.getD i 0) : targE b xs zs = 0 := by
  obtain ⟨h1, h2, h3, h4, h5⟩ := targ_parts h
  unfold targE
  rw [if_neg (by omega), if_neg, if_neg (by rw [h5]; simp)]
  have : (List.range xs.length).any (tbad b xs zs) = false := by
    rw [List.any_eq_false]
    intro i hi
    have hi := List.mem_range.1 hi
    simp only [tbad, decide_eq_true_eq]
    rintro (h | h)
    · have := (h4 i hi).1; omega
    · exact h (hl i hi)
  rw [this]
  simp
theorem targ_bad {b : Int} {xs ys : List Nat} (h1 : 1 ≤ xs.length) (h2 : xs.length ≤ 3) (h3 : xs.length = ys.length) (i : Nat) (hi : i < xs.length) (h : tbad b xs ys i = true) : targE b xs ys = 2 := by
  unfold targE
  rw [if_neg (by omega), if_pos (List.any_eq_true.2 ⟨i, List.mem_range.2 hi, h⟩)]
theorem targ_ok {b : Int} {xs ys : List Nat} (h1 : 1 ≤ xs.length) (h2 : xs.length ≤ 3) (h3 : xs.length = ys.length) (h : ∀ i, i < xs.length → tbad b xs ys i = false) : targE b xs ys = if twice xs then 15 else 0 := by
  unfold targE
  rw [if_neg (by omega), if_neg]
  have : (List.range xs.length).any (tbad b xs ys) = false := by
    rw [List.any_eq_false]
    intro i hi
    rw [h i (List.mem_range.1 hi)]
    simp
  rw [this]
  simp
theorem tbad_no {b : Int} {xs ys : List Nat} {i : Nat} (h1 : xs.getD i 0 < 4294967296) (h2 : lowV (ys.getD i 0) b = ys.getD i 0) : tbad b xs ys i = false := decide_eq_false (by rintro (h | h); omega; exact h h2)
theorem tbad_parts {b : Int} {xs ys : List Nat} {i : Nat} (h : tbad b xs ys i = false) : xs.getD i 0 < 4294967296 ∧ lowV (ys.getD i 0) b = ys.getD i 0 := by
  have := of_decide_eq_false h
  exact ⟨by omega, by
    by_cases hh : lowV (ys.getD i 0) b = ys.getD i 0
    · exact hh
    · exact absurd (Or.inr hh) this⟩
theorem twice_yes (xs : List Nat) (i k : Nat) (hi : i < xs.length) (hk : k < i) (h : xs.getD k 0 = xs.getD i 0) : twice xs = true := decide_eq_true ⟨i, hi, k, hk, h⟩
theorem twice_no (xs : List Nat) (h : ∀ i k, i < xs.length → k < i → xs.getD k 0 ≠ xs.getD i 0) : twice xs = false := decide_eq_false fun ⟨i, hi, k, hk, he⟩ => h i k hi hk he

/-- Simple tabulation: the rows of keys. -/
def row8 (x : Nat) : List Int := letters x 8
theorem rows8_E (n m : Nat) (xs : List Nat) (h1 : 1 ≤ xs.length) (h3 : xs.length ≤ 3) (hm : xs.length = m) (hn : n = 128) (hx : ∀ i, i < xs.length → xs.getD i 0 < 4294967296) : rowsE n (keyRows row8 xs) m = if twice xs then 15 else 0 :=
  rows_keys row8 8 n m xs h1 h3 hm (by omega) (by omega) (fun x => len_letters x 8) (fun x => letters_ok x 8) (fun i k hi hk h => letters_inj _ _ (hx k hk) (hx i hi) h)
def shiftV (words : List Nat) (b : Int) (xs ys : List Nat) : List Nat := aimV words (keyRows row8 xs) (byV b words (keyRows row8 xs) ys)
def shiftE (n : Nat) (b : Int) (xs ys : List Nat) : Int := if chk n 128 b = 0 then targE b xs ys else chk n 128 b
end Go.Proofs.Ytpkekdgpkalceaa
