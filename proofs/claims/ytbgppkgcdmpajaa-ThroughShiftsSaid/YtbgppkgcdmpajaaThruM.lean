/-
  Plain facts on polynomials through points, modulo 2^61 - 1 (Newton's way): their values, that there is one only, shifting. Conditions: none.
-/
import Derived.Test.YtbgppkgcdmpajaaPolyQ
import Derived.Test.YtbgppkgcdmpajaaMersL
namespace Go.Proofs.Ytbgppkgcdmpajaa
set_option linter.unusedVariables false

def subP (a b : Nat) : Nat := (a + (2305843009213693951 - b % 2305843009213693951)) % 2305843009213693951
theorem subP_add (a b : Nat) : (subP a b + b) % 2305843009213693951 = a % 2305843009213693951 := by unfold subP; omega
theorem subP_zero (x : Nat) : subP 0 x = negP x := by unfold subP negP; rw [Nat.zero_add]
theorem subP_lt (a b : Nat) : subP a b < 2305843009213693951 := Nat.mod_lt _ (by omega)
def invP (a : Nat) : Nat := mdn (prm 61) (a ^ (prm 61 - 2))
theorem invP_lt (a : Nat) : invP a < 18446744073709551616 := mdn_64 (by rw [prm61]; omega) _
theorem invP_gen {p a : Nat} (hp : isPrime p) (h3 : 3 ≤ p) (h : a % p ≠ 0) : a * mdn p (a ^ (p - 2)) % p = 1 := by
  rw [mdn_pos (by omega)]
  exact fermat_inv hp h h3
theorem invP_mul {a : Nat} (h : a % 2305843009213693951 ≠ 0) : a * invP a % 2305843009213693951 = 1 := by
  have h1 := invP_gen (p := prm 61) (a := a) (by rw [prm61]; exact prime61) (by rw [prm61]; omega) (by rw [prm61]; exact h)
  unfold invP
  rw [prm61] at h1 ⊢
  exact h1
theorem trimZ_le {l : List Nat} {n : Nat} (h : ∀ k, n ≤ k → l.getD k 0 = 0) : (trimZ l).length ≤ n := by
  rcases Nat.lt_or_ge n (trimZ l).length with h1 | h1
  · exact absurd (by rw [trimZ_getD]; exact h _ (by omega)) (trimZ_last (l := l) (by omega))
  · exact h1
theorem cv_over1 (a b : List Nat) (q : Nat) (h : a.length + b.length ≤ q + 1) : ∀ i, i ≤ a.length → cv a b q i = 0 := by
  intro i
  induction i with
  | zero => intro _; rfl
  | succ i ih =>
    intro hi
    rw [cv, ih (by omega)]
    split
    · rw [getD_out (by omega : b.length ≤ q - i), Nat.mul_zero]
    · rw [Nat.mul_zero]
theorem len_mulP1 (a b : List Nat) : (mulP a b).length ≤ a.length + b.length - 1 := by
  rw [mulP]
  refine trimZ_le fun k hk => ?_
  have h := mulP_getD a b k
  rw [mulP, trimZ_getD] at h
  rw [h, cv_over1 a b k (by omega) _ (Nat.le_refl _), Nat.zero_mod]
theorem ltp_addP (a b : List Nat) : ∀ y ∈ addP a b, y < 2305843009213693951 := fun y hy => trimZ_lt (lt_addL a b) y hy
theorem ltp_mulP (a b : List Nat) : ∀ y ∈ mulP a b, y < 2305843009213693951 := fun y hy => trimZ_lt (lt_mulM a b _) y hy

/-- The product of X less each of the first k. -/
def thZ (xs : List Nat) : Nat → List Nat
  | 0 => [1]
  | k + 1 => mulP (thZ xs k) [negP (xs.getD k 0), 1]
/-- What Newton's way has after k points. -/
def thS (xs ys : List Nat) : Nat → List Nat
  | 0 => []
  | k + 1 => if subP (ys.getD k 0) (pval (thS xs ys k) (xs.getD k 0) % 2305843009213693951) ≠ 0 then
      addP (thS xs ys k) (mulP (thZ xs k) [subP (ys.getD k 0) (pval (thS xs ys k) (xs.getD k 0) % 2305843009213693951) * invP (pval (thZ xs k) (xs.getD k 0) % 2305843009213693951) % 2305843009213693951])
    else thS xs ys k
theorem len_thZ (xs : List Nat) (k : Nat) : (thZ xs k).length ≤ k + 1 := by
  induction k with
  | zero => exact Nat.le_refl _
  | succ k ih =>
    rw [thZ]
    have := len_mulP1 (thZ xs k) [negP (xs.getD k 0), 1]
    simp only [List.length_cons, List.length_nil] at this
    omega
theorem len_thS (xs ys : List Nat) (k : Nat) : (thS xs ys k).length ≤ k := by
  induction k with
  | zero => exact Nat.le_refl _
  | succ k ih =>
    rw [thS]
    split
    · refine Nat.le_trans (len_addP _ _) ?_
      have h1 := len_mulP1 (thZ xs k) [subP (ys.getD k 0) (pval (thS xs ys k) (xs.getD k 0) % 2305843009213693951) * invP (pval (thZ xs k) (xs.getD k 0) % 2305843009213693951) % 2305843009213693951]
      have h2 := len_thZ xs k
      simp only [List.length_cons, List.length_nil] at h1
      omega
    · omega
theorem lt_thZ (xs : List Nat) (k : Nat) : ∀ y ∈ thZ xs k, y < 2305843009213693951 := by
  cases k with
  | zero => intro y hy; rw [List.mem_singleton.1 hy]; omega
  | succ k => exact ltp_mulP _ _
theorem lt_thS (xs ys : List Nat) (k : Nat) : ∀ y ∈ thS xs ys k, y < 2305843009213693951 := by
  induction k with
  | zero => intro y hy; simp [thS] at hy
  | succ k ih =>
    rw [thS]
    split
    · exact ltp_addP _ _
    · exact ih
theorem pval_two (m y : Nat) : pval [m, 1] y = m + y := by simp [pval]
theorem pval_one (c y : Nat) : pval [c] y = c := by simp [pval]
theorem thZ_val (xs : List Nat) (k y : Nat) : pval (thZ xs (k + 1)) y % 2305843009213693951 = pval (thZ xs k) y * (negP (xs.getD k 0) + y) % 2305843009213693951 := by rw [thZ, pval_mulP, pval_two]
theorem thZ_zero (xs : List Nat) : ∀ k j, j < k → pval (thZ xs k) (xs.getD j 0) % 2305843009213693951 = 0 := by
  intro k
  induction k with
  | zero => intro j h; omega
  | succ k ih =>
    intro j h
    rw [thZ_val]
    by_cases e : j = k
    · subst e
      rw [Nat.mul_mod, negP_add, Nat.mul_zero, Nat.zero_mod]
    · rw [Nat.mul_mod, ih j (by omega), Nat.zero_mul, Nat.zero_mod]
theorem neg_ne {x y : Nat} (hx : x < 2305843009213693951) (hy : y < 2305843009213693951) (h : x ≠ y) : (negP x + y) % 2305843009213693951 ≠ 0 := by unfold negP; omega
theorem mod_mul_ne {p a b : Nat} (hp : isPrime p) (ha : a % p ≠ 0) (hb : b % p ≠ 0) : a * b % p ≠ 0 := fun h => by
  rcases prime_mul hp (Nat.dvd_of_mod_eq_zero h) with h1 | h1
  · exact ha (Nat.mod_eq_zero_of_dvd h1)
  · exact hb (Nat.mod_eq_zero_of_dvd h1)
theorem thZ_ne (xs : List Nat) (hx : ∀ k, xs.getD k 0 < 2305843009213693951) (y : Nat) (hy : y < 2305843009213693951) : ∀ k, (∀ j, j < k → xs.getD j 0 ≠ y) → pval (thZ xs k) y % 2305843009213693951 ≠ 0 := by
  intro k
  induction k with
  | zero => intro _; simp [thZ, pval]
  | succ k ih =>
    intro h
    rw [thZ_val]
    exact mod_mul_ne prime61 (ih fun j hj => h j (by omega)) (neg_ne (hx k) hy (h k (by omega)))
theorem nodup_getD {xs : List Nat} (h : xs.Nodup) {i j : Nat} (hi : i < xs.length) (hj : j < i) : xs.getD j 0 ≠ xs.getD i 0 := by
  rw [getD_in hi, getD_in (by omega : j < xs.length)]
  intro e
  have := (List.nodup_iff_pairwise_ne.1 h)
  exact List.pairwise_iff_getElem.1 this j i (by omega) hi hj e
theorem thZ_nz {xs : List Nat} (hx : ∀ y ∈ xs, y < 2305843009213693951) (hn : xs.Nodup) {k : Nat} (hk : k < xs.length) : pval (thZ xs k) (xs.getD k 0) % 2305843009213693951 ≠ 0 :=
  thZ_ne xs (getD_mem_lt (by omega) hx) _ (getD_mem_lt (by omega) hx k) k fun j hj => nodup_getD hn hk hj
theorem thS_val {xs ys : List Nat} (hx : ∀ y ∈ xs, y < 2305843009213693951) (hn : xs.Nodup) : ∀ k, k ≤ xs.length → ∀ j, j < k → pval (thS xs ys k) (xs.getD j 0) % 2305843009213693951 = ys.getD j 0 % 2305843009213693951 := by
  intro k
  induction k with
  | zero => intro _ j h; omega
  | succ k ih =>
    intro hk j hj
    have hnz := thZ_nz hx hn (k := k) (by omega)
    rw [thS]
    split
    · rw [pval_addP]
      by_cases e : j = k
      · subst e
        have hs := subP_add (ys.getD j 0) (pval (thS xs ys j) (xs.getD j 0) % 2305843009213693951)
        generalize subP (ys.getD j 0) (pval (thS xs ys j) (xs.getD j 0) % 2305843009213693951) = m at *
        have hi := invP_mul (a := pval (thZ xs j) (xs.getD j 0) % 2305843009213693951) (by rw [Nat.mod_mod]; exact hnz)
        generalize hz : pval (thZ xs j) (xs.getD j 0) = Z at *
        have h2 : pval (mulP (thZ xs j) [m * invP (Z % 2305843009213693951) % 2305843009213693951]) (xs.getD j 0) % 2305843009213693951 = m % 2305843009213693951 := by
          rw [pval_mulP, pval_one, hz, cg_mul (Nat.mod_mod Z _).symm (Nat.mod_mod _ _), show Z % 2305843009213693951 * (m * invP (Z % 2305843009213693951)) = m * (Z % 2305843009213693951 * invP (Z % 2305843009213693951)) by grind, cg_mul (rfl : m % _ = m % _) (hi.trans (Nat.mod_eq_of_lt (by omega)).symm), Nat.mul_one]
        rw [← hs, Nat.add_comm]
        exact cg_add h2 (Nat.mod_mod _ _).symm
      · have h2 : ∀ c, pval (mulP (thZ xs k) [c]) (xs.getD j 0) % 2305843009213693951 = 0 % 2305843009213693951 := fun c => by
          rw [pval_mulP, Nat.mul_mod, thZ_zero xs k j (by omega), Nat.zero_mul]
        rw [cg_add (ih (by omega) j (by omega)) (h2 _), Nat.add_zero]
    · rename_i h0
      have h0 := Classical.not_not.1 h0
      by_cases e : j = k
      · subst e
        have hs := subP_add (ys.getD j 0) (pval (thS xs ys j) (xs.getD j 0) % 2305843009213693951)
        rw [h0, Nat.zero_add, Nat.mod_mod] at hs
        exact hs
      · exact ih (by omega) j (by omega)

def padL (c : List Nat) (n : Nat) : List Nat := (List.range n).map fun i => c.getD i 0
theorem len_padL (c : List Nat) (n : Nat) : (padL c n).length = n := by simp [padL]
theorem padL_getD {c : List Nat} {n : Nat} (h : c.length ≤ n) (k : Nat) : (padL c n).getD k 0 = c.getD k 0 := by
  rw [padL, getD_range]
  split
  · rfl
  · rw [getD_out (by omega)]
theorem lt_padL {c : List Nat} (p n : Nat) (hp : 0 < p) (h : ∀ y ∈ c, y < p) : ∀ y ∈ padL c n, y < p := fun y hy => by
  obtain ⟨i, _, rfl⟩ := List.mem_map.1 hy
  exact getD_mem_lt hp h i
def thrP (xs ys : List Nat) : List Nat := padL (thS xs ys xs.length) xs.length
theorem len_thrP (xs ys : List Nat) : (thrP xs ys).length = xs.length := len_padL _ _
theorem lt_thrP (xs ys : List Nat) : ∀ y ∈ thrP xs ys, y < 2305843009213693951 := lt_padL _ _ (by omega) (lt_thS _ _ _)
theorem thrP_val {xs ys : List Nat} (hx : ∀ y ∈ xs, y < 2305843009213693951) (hn : xs.Nodup) {j : Nat} (hj : j < xs.length) : pval (thrP xs ys) (xs.getD j 0) % 2305843009213693951 = ys.getD j 0 % 2305843009213693951 := by
  rw [thrP, pval_congr (padL (thS xs ys xs.length) xs.length) (thS xs ys xs.length) _ (fun k => by rw [padL_getD (len_thS _ _ _)])]
  exact thS_val hx hn _ (Nat.le_refl _) j hj
theorem vals_only {xs l l' : List Nat} (hx : ∀ y ∈ xs, y < 2305843009213693951) (hn : xs.Nodup) (hl : l.length ≤ xs.length) (hl' : l'.length ≤ xs.length)
    (h : ∀ j, j < xs.length → pval l (xs.getD j 0) % 2305843009213693951 = pval l' (xs.getD j 0) % 2305843009213693951) (k : Nat) : l.getD k 0 % 2305843009213693951 = l'.getD k 0 % 2305843009213693951 := by
  obtain ⟨D, hD⟩ : ∃ D, D = (List.range xs.length).map fun k => subP (l.getD k 0) (l'.getD k 0) := ⟨_, rfl⟩
  have hDl : D.length = xs.length := by rw [hD]; simp
  have hDk : ∀ k, l.getD k 0 % 2305843009213693951 = (D.getD k 0 + l'.getD k 0) % 2305843009213693951 := fun k => by
    rw [hD, getD_range]
    split
    · exact (subP_add _ _).symm
    · rw [getD_out (by omega : l.length ≤ k), getD_out (by omega : l'.length ≤ k)]
  have hz := roots_zero prime61 _ D xs (Nat.le_refl _) (by omega) hn (fun y hy => by
    refine ⟨hx y hy, ?_⟩
    obtain ⟨j, hj, rfl⟩ := List.getElem_of_mem hy
    have h1 := pval_sum 2305843009213693951 xs[j] xs.length l D l' hl (by omega) hl' hDk
    have h2 := h j hj
    rw [getD_in hj] at h2
    rw [h2] at h1
    have h3 : (pval D xs[j] + pval l' xs[j]) % 2305843009213693951 = (0 + pval l' xs[j]) % 2305843009213693951 := by rw [Nat.zero_add]; exact h1.symm
    exact cg_cancel h3)
  rw [hDk k]
  have := cg_add (hz k |>.trans (Nat.zero_mod _).symm) (rfl : l'.getD k 0 % 2305843009213693951 = l'.getD k 0 % 2305843009213693951)
  rw [this, Nat.zero_add]
theorem list_eq_mod {p : Nat} {l l' : List Nat} (hl : l.length = l'.length) (h1 : ∀ y ∈ l, y < p) (h2 : ∀ y ∈ l', y < p) (hp : 0 < p) (h : ∀ k, l.getD k 0 % p = l'.getD k 0 % p) : l = l' :=
  getD_ext hl fun k => by
    have := h k
    rwa [Nat.mod_eq_of_lt (getD_mem_lt hp h1 k), Nat.mod_eq_of_lt (getD_mem_lt hp h2 k)] at this
def valsP (c xs : List Nat) : List Nat := xs.map fun x => pval c x % 2305843009213693951
theorem len_valsP (c xs : List Nat) : (valsP c xs).length = xs.length := by simp [valsP]
theorem valsP_getD {c xs : List Nat} {j : Nat} (h : j < xs.length) : (valsP c xs).getD j 0 = pval c (xs.getD j 0) % 2305843009213693951 := by
  rw [getD_in (by rw [len_valsP]; exact h), getD_in h]
  simp [valsP]
theorem lt_valsP (c xs : List Nat) : ∀ y ∈ valsP c xs, y < 2305843009213693951 := fun y hy => by
  obtain ⟨i, _, rfl⟩ := List.mem_map.1 hy
  exact Nat.mod_lt _ (by omega)
theorem through_only {c xs : List Nat} (hc : ∀ y ∈ c, y < 2305843009213693951) (hx : ∀ y ∈ xs, y < 2305843009213693951) (hn : xs.Nodup) (hl : c.length = xs.length) : thrP xs (valsP c xs) = c := by
  refine list_eq_mod ((len_thrP _ _).trans hl.symm) (lt_thrP _ _) hc (by omega) (vals_only hx hn (by rw [len_thrP]; exact Nat.le_refl _) (by omega) fun j hj => ?_)
  rw [thrP_val hx hn hj, valsP_getD hj, Nat.mod_mod]
theorem through_points {xs ys : List Nat} (hx : ∀ y ∈ xs, y < 2305843009213693951) (hy : ∀ y ∈ ys, y < 2305843009213693951) (hn : xs.Nodup) (hl : ys.length = xs.length) : valsP (thrP xs ys) xs = ys := by
  refine list_eq_mod ((len_valsP _ _).trans hl.symm) (lt_valsP _ _) hy (by omega) fun k => ?_
  by_cases hk : k < xs.length
  · rw [valsP_getD hk, Nat.mod_mod, thrP_val hx hn hk]
  · rw [getD_out (by rw [len_valsP]; omega), getD_out (by omega)]
/-- What a shift adds to at each key, and what comes of it. -/
def moreP (c xs ys : List Nat) : List Nat := (List.range xs.length).map fun i => subP (ys.getD i 0) (pval c (xs.getD i 0) % 2305843009213693951)
theorem len_moreP (c xs ys : List Nat) : (moreP c xs ys).length = xs.length := by simp [moreP]
theorem lt_moreP (c xs ys : List Nat) : ∀ y ∈ moreP c xs ys, y < 2305843009213693951 := fun y hy => by
  obtain ⟨i, _, rfl⟩ := List.mem_map.1 hy
  exact subP_lt _ _
def shiftP (c xs ys : List Nat) : List Nat := padL (addP c (thrP xs (moreP c xs ys))) c.length
theorem len_shiftP (c xs ys : List Nat) : (shiftP c xs ys).length = c.length := len_padL _ _
theorem lt_shiftP (c xs ys : List Nat) : ∀ y ∈ shiftP c xs ys, y < 2305843009213693951 := lt_padL _ _ (by omega) (ltp_addP _ _)
theorem shiftP_getD {c xs ys : List Nat} (h : xs.length ≤ c.length) (k : Nat) : (shiftP c xs ys).getD k 0 = (c.getD k 0 + (thrP xs (moreP c xs ys)).getD k 0) % 2305843009213693951 := by
  rw [shiftP, padL_getD (by have := len_addP c (thrP xs (moreP c xs ys)); rw [len_thrP] at this; omega), addP, trimZ_getD, addL_getD]
theorem moreP_getD {c xs ys : List Nat} {j : Nat} (h : j < xs.length) : (moreP c xs ys).getD j 0 = subP (ys.getD j 0) (pval c (xs.getD j 0) % 2305843009213693951) := by rw [moreP, getD_range, if_pos h]
theorem shiftP_val {c xs ys : List Nat} (h : xs.length ≤ c.length) (hx : ∀ y ∈ xs, y < 2305843009213693951) (hn : xs.Nodup) {j : Nat} (hj : j < xs.length) : pval (shiftP c xs ys) (xs.getD j 0) % 2305843009213693951 = ys.getD j 0 % 2305843009213693951 := by
  rw [pval_sum 2305843009213693951 _ c.length (shiftP c xs ys) c (thrP xs (moreP c xs ys)) (by rw [len_shiftP]; exact Nat.le_refl _) (Nat.le_refl _) (by rw [len_thrP]; exact h) (fun k => by rw [shiftP_getD h, Nat.mod_mod])]
  rw [← subP_add (ys.getD j 0) (pval c (xs.getD j 0) % 2305843009213693951), Nat.add_comm]
  exact cg_add (by rw [thrP_val hx hn hj, moreP_getD hj]) (Nat.mod_mod _ _).symm
theorem shift_points {c xs ys : List Nat} (h : xs.length ≤ c.length) (hx : ∀ y ∈ xs, y < 2305843009213693951) (hy : ∀ y ∈ ys, y < 2305843009213693951) (hn : xs.Nodup) (hl : ys.length = xs.length) : valsP (shiftP c xs ys) xs = ys := by
  refine list_eq_mod ((len_valsP _ _).trans hl.symm) (lt_valsP _ _) hy (by omega) fun k => ?_
  by_cases hk : k < xs.length
  · rw [valsP_getD hk, Nat.mod_mod, shiftP_val h hx hn hk]
  · rw [getD_out (by rw [len_valsP]; omega), getD_out (by omega)]
theorem shift_back {c xs ys : List Nat} (hc : ∀ y ∈ c, y < 2305843009213693951) (h : xs.length ≤ c.length) (hx : ∀ y ∈ xs, y < 2305843009213693951) (hn : xs.Nodup) : shiftP (shiftP c xs ys) xs (valsP c xs) = c := by
  have h2 : xs.length ≤ (shiftP c xs ys).length := by rw [len_shiftP]; exact h
  refine list_eq_mod (by rw [len_shiftP, len_shiftP]) (lt_shiftP _ _ _) hc (by omega) fun k => ?_
  rw [shiftP_getD h2, shiftP_getD h, Nat.mod_mod]
  generalize ht1 : thrP xs (moreP c xs ys) = t1 at *
  generalize ht2 : thrP xs (moreP (shiftP c xs ys) xs (valsP c xs)) = t2 at *
  have hl1 : t1.length = xs.length := by rw [← ht1, len_thrP]
  have hl2 : t2.length = xs.length := by rw [← ht2, len_thrP]
  have hz : ∀ k, (addL t1 t2).getD k 0 % 2305843009213693951 = ([] : List Nat).getD k 0 % 2305843009213693951 := vals_only hx hn (by rw [len_addL]; omega) (by simp) fun j hj => by
    rw [pval_sum 2305843009213693951 _ xs.length (addL t1 t2) t1 t2 (by rw [len_addL]; omega) (by omega) (by omega) (fun k => by rw [addL_getD, Nat.mod_mod])]
    have e1 : pval t1 (xs.getD j 0) % 2305843009213693951 = subP (ys.getD j 0) (pval c (xs.getD j 0) % 2305843009213693951) % 2305843009213693951 := by rw [← ht1, thrP_val hx hn hj, moreP_getD hj]
    have e2 : pval t2 (xs.getD j 0) % 2305843009213693951 = subP (pval c (xs.getD j 0) % 2305843009213693951) (ys.getD j 0 % 2305843009213693951) % 2305843009213693951 := by
      rw [← ht2, thrP_val hx hn hj, moreP_getD hj, valsP_getD hj, shiftP_val h hx hn hj]
    rw [cg_add e1 e2]
    generalize pval c (xs.getD j 0) = u
    generalize ys.getD j 0 = v
    unfold subP
    simp only [pval]
    omega
  have h3 := hz k
  rw [addL_getD, Nat.mod_mod, show ([] : List Nat).getD k 0 = 0 from rfl, Nat.zero_mod] at h3
  have h4 : ((c.getD k 0 + t1.getD k 0) % 2305843009213693951 + t2.getD k 0) % 2305843009213693951 = (c.getD k 0 + (t1.getD k 0 + t2.getD k 0)) % 2305843009213693951 := by
    rw [← Nat.add_assoc]
    exact cg_add (Nat.mod_mod _ _) rfl
  rw [h4]
  exact (cg_add rfl (h3.trans (Nat.zero_mod _).symm)).trans (by rw [Nat.add_zero])

/-- What is wrong with points. -/
def chkT (xs ys : List Nat) : Int := if xs.length < 1 ∨ 64 < xs.length ∨ xs.length ≠ ys.length then 1 else if (xs ++ ys).any badP = true then 2 else if xs.Nodup then 0 else 15
theorem chkT_ok {xs ys : List Nat} (h : chkT xs ys = 0) : 1 ≤ xs.length ∧ xs.length ≤ 64 ∧ ys.length = xs.length ∧ (∀ y ∈ xs, y < 2305843009213693951) ∧ (∀ y ∈ ys, y < 2305843009213693951) ∧ xs.Nodup := by
  unfold chkT at h
  split at h
  · omega
  · split at h
    · omega
    · rename_i h2
      split at h
      · rename_i h3
        have h4 : ∀ y ∈ xs ++ ys, y < 2305843009213693951 := fun y hy => by
          have h5 := List.any_eq_false.1 (Bool.not_eq_true _ ▸ h2) y hy
          unfold badP at h5
          simpa using h5
        exact ⟨by omega, by omega, by omega, fun y hy => h4 y (List.mem_append_left _ hy), fun y hy => h4 y (List.mem_append_right _ hy), h3⟩
      · omega
theorem chkT_mk {xs ys : List Nat} (h1 : 1 ≤ xs.length) (h2 : xs.length ≤ 64) (h3 : ys.length = xs.length) (hx : ∀ y ∈ xs, y < 2305843009213693951) (hy : ∀ y ∈ ys, y < 2305843009213693951) (hn : xs.Nodup) : chkT xs ys = 0 := by
  unfold chkT
  rw [if_neg (by omega), if_neg, if_pos hn]
  rw [Bool.not_eq_true]
  refine List.any_eq_false.2 fun y hm => ?_
  have : y < 2305843009213693951 := by
    rcases List.mem_append.1 hm with h | h
    · exact hx y h
    · exact hy y h
  unfold badP
  simpa using this
end Go.Proofs.Ytbgppkgcdmpajaa
