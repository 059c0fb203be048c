/-
  Plain facts on lists of coefficients modulo 2^61 - 1: trimming, sums, products, division by X less a number, how many roots there are. Conditions: none.
-/
import Derived.Test.YtaeebipcgeembaaPolyG
namespace Go.Proofs.Ytaeebipcgeembaa
set_option linter.unusedVariables false

theorem cg_add {p a b c d : Nat} (h : a % p = b % p) (h' : c % p = d % p) : (a + c) % p = (b + d) % p := by rw [Nat.add_mod, h, h', ← Nat.add_mod]
theorem cg_mul {p a b c d : Nat} (h : a % p = b % p) (h' : c % p = d % p) : a * c % p = b * d % p := by rw [Nat.mul_mod, h, h', ← Nat.mul_mod]
theorem cg_cancel {p a b c : Nat} (h : (a + c) % p = (b + c) % p) : a % p = b % p := by
  have h1 : ((a : Int) + c) % p = ((b : Int) + c) % p := by exact_mod_cast h
  have h2 := Int.emod_emod_of_dvd ((a : Int) + c - c) (Int.dvd_refl p)
  have h3 : ((a : Int) + c - c) % p = ((b : Int) + c - c) % p := by rw [Int.sub_emod, h1, ← Int.sub_emod]
  have h4 : (a : Int) % p = (b : Int) % p := by
    rw [show (a : Int) + c - c = a by omega, show (b : Int) + c - c = b by omega] at h3
    exact h3
  exact_mod_cast h4
theorem getD_in {l : List Nat} {k : Nat} (h : k < l.length) : l.getD k 0 = l[k] := by simp [List.getD, h]
theorem getD_out {l : List Nat} {k : Nat} (h : l.length ≤ k) : l.getD k 0 = 0 := by simp [List.getD, h]
theorem getD_ext {l l' : List Nat} (hl : l.length = l'.length) (h : ∀ k, l.getD k 0 = l'.getD k 0) : l = l' := by
  refine List.ext_getElem hl fun i h1 h2 => ?_
  rw [← getD_in h1, ← getD_in h2, h]
theorem getD_tail (l : List Nat) (k : Nat) : l.tail.getD k 0 = l.getD (k + 1) 0 := by cases l <;> simp [List.getD]
theorem getD_drop (l : List Nat) (n k : Nat) : (l.drop n).getD k 0 = l.getD (n + k) 0 := by simp [List.getD]
theorem getD_set (l : List Nat) (p v q : Nat) (h : p < l.length) : (l.set p v).getD q 0 = if p = q then v else l.getD q 0 := by
  simp only [List.getD, List.getElem?_set]
  split
  · rename_i e; subst e; simp
  · rfl
theorem getD_map_mod (p : Nat) (l : List Nat) (k : Nat) : (l.map (· % p)).getD k 0 = l.getD k 0 % p := by
  by_cases h : k < l.length
  · rw [getD_in (by simpa using h), getD_in h, List.getElem_map]
  · rw [getD_out (by simp; omega), getD_out (by omega), Nat.zero_mod]
theorem getD_range (f : Nat → Nat) (n k : Nat) : ((List.range n).map f).getD k 0 = if k < n then f k else 0 := by
  split
  · rename_i h; rw [getD_in (by simpa using h)]; simp
  · rename_i h; rw [getD_out (by simpa using h)]
theorem getD_mem_lt {l : List Nat} {p : Nat} (hp : 0 < p) (h : ∀ y ∈ l, y < p) (k : Nat) : l.getD k 0 < p := by
  by_cases hk : k < l.length
  · rw [getD_in hk]; exact h _ (List.getElem_mem hk)
  · rw [getD_out (by omega)]; exact hp

theorem nzc_top (l : List Nat) (k j : Nat) (h1 : nzc l k ≤ j) (h2 : j < k) : l.getD j 0 = 0 := by
  induction k with
  | zero => omega
  | succ k ih =>
    unfold nzc at h1
    split at h1
    · omega
    · rename_i h
      by_cases e : j = k
      · subst e; exact Classical.not_not.1 h
      · exact ih h1 (by omega)
theorem nzc_last (l : List Nat) (k : Nat) (h : 0 < nzc l k) : l.getD (nzc l k - 1) 0 ≠ 0 := by
  induction k with
  | zero => simp [nzc] at h
  | succ k ih =>
    unfold nzc at h ⊢
    split
    · rename_i h1; simpa using h1
    · rename_i h1; rw [if_neg h1] at h; exact ih h
theorem nzc_congr {l l' : List Nat} (h : ∀ k, l.getD k 0 = l'.getD k 0) (k : Nat) : nzc l k = nzc l' k := by
  induction k with
  | zero => rfl
  | succ k ih => unfold nzc; rw [h, ih]
theorem nzc_up (l : List Nat) (d : Nat) : nzc l (l.length + d) = nzc l l.length := by
  induction d with
  | zero => rfl
  | succ d ih =>
    rw [← Nat.add_assoc, nzc, if_neg (by rw [getD_out (by omega)]; simp), ih]
theorem nzc_at (l : List Nat) {n : Nat} (h : l.length ≤ n) : nzc l n = nzc l l.length := by
  obtain ⟨d, rfl⟩ := Nat.exists_eq_add_of_le h
  exact nzc_up l d
theorem trimZ_getD (l : List Nat) (k : Nat) : (trimZ l).getD k 0 = l.getD k 0 := by
  by_cases h : k < nzc l l.length
  · have := nzc_le l l.length
    rw [getD_in (by rw [trimZ_len]; exact h), getD_in (by omega)]
    simp [trimZ]
  · rw [getD_out (by rw [trimZ_len]; omega)]
    by_cases h2 : k < l.length
    · rw [nzc_top l l.length k (by omega) h2]
    · rw [getD_out (by omega)]
theorem trimZ_ext {l l' : List Nat} (h : ∀ k, l.getD k 0 = l'.getD k 0) : trimZ l = trimZ l' := by
  refine getD_ext ?_ fun k => by rw [trimZ_getD, trimZ_getD, h]
  rw [trimZ_len, trimZ_len, ← nzc_at l (Nat.le_max_left l.length l'.length), ← nzc_at l' (Nat.le_max_right l.length l'.length), nzc_congr h]
theorem trimZ_trimZ (l : List Nat) : trimZ (trimZ l) = trimZ l := trimZ_ext (trimZ_getD l)
theorem trimZ_last {l : List Nat} (h : 0 < (trimZ l).length) : (trimZ l).getD ((trimZ l).length - 1) 0 ≠ 0 := by
  rw [trimZ_getD, trimZ_len]
  rw [trimZ_len] at h
  exact nzc_last _ _ h
theorem trimZ_lt {l : List Nat} {p : Nat} (h : ∀ y ∈ l, y < p) : ∀ y ∈ trimZ l, y < p := fun y hy => h y (List.mem_of_mem_take hy)

theorem pval_tail (l : List Nat) (x : Nat) : pval l x = l.getD 0 0 + x * pval l.tail x := by cases l <;> simp [pval, List.getD]
theorem pval_sum (p x : Nat) : ∀ (n : Nat) (l a b : List Nat), l.length ≤ n → a.length ≤ n → b.length ≤ n → (∀ k, l.getD k 0 % p = (a.getD k 0 + b.getD k 0) % p) → pval l x % p = (pval a x + pval b x) % p := by
  intro n
  induction n with
  | zero =>
    intro l a b h1 h2 h3 _
    rw [List.eq_nil_of_length_eq_zero (by omega : l.length = 0), List.eq_nil_of_length_eq_zero (by omega : a.length = 0), List.eq_nil_of_length_eq_zero (by omega : b.length = 0)]
    rfl
  | succ n ih =>
    intro l a b h1 h2 h3 h
    have hi := ih l.tail a.tail b.tail (by simp; omega) (by simp; omega) (by simp; omega) (fun k => by rw [getD_tail, getD_tail, getD_tail]; exact h (k + 1))
    rw [pval_tail l, pval_tail a, pval_tail b]
    have e : a.getD 0 0 + x * pval a.tail x + (b.getD 0 0 + x * pval b.tail x) = (a.getD 0 0 + b.getD 0 0) + x * (pval a.tail x + pval b.tail x) := by grind
    rw [e]
    exact cg_add (h 0) (cg_mul rfl hi)
theorem pval_congr {p : Nat} (l l' : List Nat) (x : Nat) (h : ∀ k, l.getD k 0 % p = l'.getD k 0 % p) : pval l x % p = pval l' x % p := by
  have h1 := pval_sum p x (max l.length l'.length) l l' [] (by omega) (by omega) (by simp) (fun k => by rw [h]; simp [List.getD])
  simpa [pval] using h1
theorem pval_trimZ (p : Nat) (l : List Nat) (x : Nat) : pval (trimZ l) x % p = pval l x % p := pval_congr _ _ x fun k => by rw [trimZ_getD]
theorem pval_mods (p : Nat) (l : List Nat) (x : Nat) : pval (l.map (· % p)) x % p = pval l x % p := pval_congr _ _ x fun k => by rw [getD_map_mod, Nat.mod_mod]
theorem addL_getD (a b : List Nat) (k : Nat) : (addL a b).getD k 0 = (a.getD k 0 + b.getD k 0) % 2305843009213693951 := by
  rw [addL, getD_range]
  split
  · rfl
  · rw [getD_out (by omega : a.length ≤ k), getD_out (by omega : b.length ≤ k)]
theorem pval_addP (a b : List Nat) (x : Nat) : pval (addP a b) x % 2305843009213693951 = (pval a x + pval b x) % 2305843009213693951 := by
  rw [addP, pval_trimZ]
  exact pval_sum _ x (max a.length b.length) _ _ _ (by rw [len_addL]; exact Nat.le_refl _) (by omega) (by omega) fun k => by rw [addL_getD, Nat.mod_mod]

theorem pval_set (x v : Nat) : ∀ (L : List Nat) (q : Nat), q < L.length → pval (L.set q v) x + L.getD q 0 * x ^ q = pval L x + v * x ^ q := by
  intro L
  induction L with
  | nil => intro q h; simp at h
  | cons a t ih =>
    intro q h
    cases q with
    | zero => simp [pval, List.getD]; omega
    | succ q =>
      have h1 := ih q (by simpa using h)
      simp only [List.set_cons_succ, pval, List.getD_cons_succ, Nat.pow_succ]
      have e1 : t.getD q 0 * (x ^ q * x) = x * (t.getD q 0 * x ^ q) := by grind
      have e2 : v * (x ^ q * x) = x * (v * x ^ q) := by grind
      rw [e1, e2, Nat.add_assoc, ← Nat.mul_add, h1, Nat.mul_add, Nat.add_assoc]
theorem pval_stepM (x c y q : Nat) (L : List Nat) (h : q < L.length) : pval (stepM c y q L) x % 2305843009213693951 = (pval L x + c * y * x ^ q) % 2305843009213693951 := by
  have h1 := pval_set x ((L.getD q 0 + c * y % 2305843009213693951) % 2305843009213693951) L q h
  refine cg_cancel (c := L.getD q 0 * x ^ q) ?_
  rw [stepM, h1, show pval L x + c * y * x ^ q + L.getD q 0 * x ^ q = pval L x + (L.getD q 0 + c * y) * x ^ q by grind]
  exact cg_add rfl (cg_mul (by rw [Nat.mod_mod]; exact cg_add rfl (Nat.mod_mod _ _)) rfl)
theorem pval_rowM (x c i : Nat) (b L : List Nat) : ∀ k, k ≤ b.length → i + b.length ≤ L.length → pval (rowM c i b L k) x % 2305843009213693951 = (pval L x + c * x ^ i * pval (b.take k) x) % 2305843009213693951 := by
  intro k
  induction k with
  | zero => intro _ _; simp [rowM, pval]
  | succ k ih =>
    intro h1 h2
    rw [rowM, pval_stepM x _ _ _ _ (by rw [len_rowM]; omega), pval_take b k x (by omega), getD_in (by omega : k < b.length)]
    rw [show pval L x + c * x ^ i * (pval (b.take k) x + b[k] * x ^ k) = (pval L x + c * x ^ i * pval (b.take k) x) + c * b[k] * x ^ (i + k) by rw [Nat.pow_add]; grind]
    exact cg_add (ih (by omega) h2) rfl
theorem pval_mulM (x : Nat) (a b : List Nat) : ∀ i, i ≤ a.length → pval (mulM a b i) x % 2305843009213693951 = pval (a.take i) x * pval b x % 2305843009213693951 := by
  intro i
  induction i with
  | zero =>
    intro _
    rw [mulM, pval_congr (List.replicate (a.length + b.length) 0) [] x (fun k => by simp [List.getD, List.getElem?_replicate]; split <;> simp)]
    simp [pval]
  | succ i ih =>
    intro h
    rw [mulM, pval_rowM x _ _ _ _ _ (Nat.le_refl _) (by rw [len_mulM]; omega), List.take_length, getD_in (by omega : i < a.length), pval_take a i x (by omega), Nat.add_mul]
    exact cg_add (ih (by omega)) rfl
theorem pval_mulP (a b : List Nat) (x : Nat) : pval (mulP a b) x % 2305843009213693951 = pval a x * pval b x % 2305843009213693951 := by
  rw [mulP, pval_trimZ, pval_mulM x a b _ (Nat.le_refl _), List.take_length]

/-- The sum of the first i products of a coefficient of a and one of b whose places make q. -/
def cv (a b : List Nat) (q : Nat) : Nat → Nat
  | 0 => 0
  | i + 1 => cv a b q i + a.getD i 0 * (if i ≤ q then b.getD (q - i) 0 else 0)
theorem cv_up (a b : List Nat) (q i : Nat) (h : ∀ j, i ≤ j → a.getD j 0 * (if j ≤ q then b.getD (q - j) 0 else 0) = 0) (d : Nat) : cv a b q (i + d) = cv a b q i := by
  induction d with
  | zero => rfl
  | succ d ih => rw [← Nat.add_assoc, cv, ih, h _ (by omega), Nat.add_zero]
theorem cv_same (a b : List Nat) (q : Nat) : cv a b q (q + 1) = cv a b q a.length := by
  have h1 := cv_up a b q (q + 1) (fun j hj => by rw [if_neg (by omega), Nat.mul_zero]) (a.length - (q + 1))
  have h2 := cv_up a b q a.length (fun j hj => by rw [getD_out hj, Nat.zero_mul]) (q + 1 - a.length)
  rw [← h1, ← h2]
  congr 1
  omega
theorem cv_over (a b : List Nat) (q : Nat) (h : a.length + b.length ≤ q) : ∀ i, i ≤ a.length → cv a b q i = 0 := by
  intro i
  induction i with
  | zero => intro _; rfl
  | succ i ih => intro hi; rw [cv, ih (by omega), if_pos (by omega), getD_out (by omega : b.length ≤ q - i), Nat.mul_zero]
theorem rowM_getD (c i : Nat) (b L : List Nat) (q : Nat) : ∀ k, k ≤ b.length → i + b.length ≤ L.length → (rowM c i b L k).getD q 0 % 2305843009213693951 = (L.getD q 0 + if i ≤ q ∧ q < i + k then c * b.getD (q - i) 0 else 0) % 2305843009213693951 := by
  intro k
  induction k with
  | zero => intro _ _; rw [rowM, if_neg (by omega), Nat.add_zero]
  | succ k ih =>
    intro h1 h2
    rw [rowM, stepM, getD_set _ _ _ _ (by rw [len_rowM]; omega)]
    by_cases e : i + k = q
    · subst e
      have hi := ih (by omega) h2
      rw [if_neg (by omega), Nat.add_zero] at hi
      rw [if_pos rfl, if_pos (by omega), Nat.mod_mod, Nat.add_sub_cancel_left]
      exact cg_add hi (Nat.mod_mod _ _)
    · rw [if_neg e, ih (by omega) h2]
      by_cases hq : i ≤ q ∧ q < i + k
      · rw [if_pos hq, if_pos (by omega)]
      · rw [if_neg hq, if_neg (by omega)]
theorem mulM_getD (a b : List Nat) (q : Nat) : ∀ i, i ≤ a.length → (mulM a b i).getD q 0 % 2305843009213693951 = cv a b q i % 2305843009213693951 := by
  intro i
  induction i with
  | zero =>
    intro _
    rw [mulM, cv]
    simp [List.getD, List.getElem?_replicate]
    split <;> simp
  | succ i ih =>
    intro h
    rw [mulM, rowM_getD _ _ _ _ _ _ (Nat.le_refl _) (by rw [len_mulM]; omega), cv]
    refine cg_add (ih (by omega)) ?_
    by_cases hq : i ≤ q
    · rw [if_pos hq]
      by_cases h2 : q < i + b.length
      · rw [if_pos ⟨hq, h2⟩]
      · rw [if_neg (by omega), getD_out (by omega : b.length ≤ q - i), Nat.mul_zero]
    · rw [if_neg (by omega), if_neg hq, Nat.mul_zero]
theorem mulP_getD (a b : List Nat) (q : Nat) : (mulP a b).getD q 0 = cv a b q a.length % 2305843009213693951 := by
  rw [mulP, trimZ_getD, ← mulM_getD a b q _ (Nat.le_refl _), Nat.mod_eq_of_lt (getD_mem_lt (by omega) (lt_mulM a b _) q)]
/-- The coefficients of the product, as the reference reckons them. -/
def convL (a b : List Nat) : List Nat := (List.range (a.length + b.length)).map fun q => cv a b q (q + 1) % 2305843009213693951
theorem len_convL (a b : List Nat) : (convL a b).length = a.length + b.length := by simp [convL]
theorem lt_convL (a b : List Nat) : ∀ y ∈ convL a b, y < 2305843009213693951 := fun y hy => by
  obtain ⟨i, _, rfl⟩ := List.mem_map.1 hy
  exact Nat.mod_lt _ (by omega)
theorem convL_trim (a b : List Nat) : trimZ ((convL a b).map (· % 2305843009213693951)) = mulP a b := by
  rw [map_mod _ (lt_convL a b), mulP]
  refine trimZ_ext fun k => ?_
  have h := mulP_getD a b k
  rw [mulP, trimZ_getD] at h
  rw [h, convL, getD_range]
  split
  · rw [cv_same]
  · rw [cv_over a b k (by omega) _ (Nat.le_refl _), Nat.zero_mod]

/-- The polynomial times X less a number (m is its other one). -/
theorem cv_two_zero (a : List Nat) (m q : Nat) : ∀ i, i + 1 ≤ q → cv a [m, 1] q i = 0 := by
  intro i
  induction i with
  | zero => intro _; rfl
  | succ i ih =>
    intro h
    have h2 : ([m, 1] : List Nat).getD (q - i) 0 = 0 := getD_out (show 2 ≤ q - i by omega)
    rw [cv, ih (by omega), if_pos (by omega), h2, Nat.mul_zero]
theorem cv_two (a : List Nat) (m q : Nat) : cv a [m, 1] q (q + 1) = (if q = 0 then 0 else a.getD (q - 1) 0) + a.getD q 0 * m := by
  cases q with
  | zero => simp [cv, List.getD]
  | succ q =>
    rw [cv, cv, cv_two_zero a m (q + 1) q (Nat.le_refl _)]
    simp [List.getD]
theorem quoP_getD (p : Nat) (l : List Nat) (x k : Nat) : (quoP p l x).getD k 0 = pval (l.drop (k + 1)) x % p := by
  rw [quoP, getD_range]
  split
  · rfl
  · rw [List.drop_eq_nil_of_le (by omega), pval, Nat.zero_mod]
theorem pval_dropD (l : List Nat) (k x : Nat) : pval (l.drop k) x = l.getD k 0 + x * pval (l.drop (k + 1)) x := by
  rw [pval_tail, getD_drop, List.tail_drop, Nat.add_zero]
def negP (x : Nat) : Nat := (2305843009213693951 - x % 2305843009213693951) % 2305843009213693951
theorem negP_add (x : Nat) : (negP x + x) % 2305843009213693951 = 0 := by unfold negP; omega
theorem divide_back (l : List Nat) (x : Nat) : addP (mulP (trimZ (quoP 2305843009213693951 l x)) [negP x, 1]) [pval l x % 2305843009213693951] = trimZ (l.map (· % 2305843009213693951)) := by
  rw [addP]
  refine trimZ_ext fun k => ?_
  rw [addL_getD, mulP_getD, ← cv_same, cv_two, getD_map_mod, trimZ_getD, trimZ_getD, quoP_getD, quoP_getD]
  have hn := negP_add x
  generalize negP x = m at *
  cases k with
  | zero =>
    rw [if_pos rfl, Nat.zero_add, show ([pval l x % 2305843009213693951] : List Nat).getD 0 0 = pval l x % 2305843009213693951 from rfl]
    rw [cg_add (Nat.mod_mod _ _) (Nat.mod_mod _ _), pval_tail l x, ← List.drop_one]
    generalize pval (l.drop (0 + 1)) x = T at *
    rw [cg_add (cg_mul (Nat.mod_mod T 2305843009213693951) rfl) rfl, show T * m + (l.getD 0 0 + x * T) = l.getD 0 0 + T * (m + x) by grind]
    exact (cg_add rfl (cg_mul (rfl : T % _ = T % _) (hn.trans (Nat.zero_mod _).symm))).trans (by simp)
  | succ k =>
    rw [if_neg (by omega), show ([pval l x % 2305843009213693951] : List Nat).getD (k + 1) 0 = 0 from rfl, Nat.add_zero, Nat.mod_mod, Nat.add_sub_cancel, pval_dropD l (k + 1)]
    generalize pval (l.drop (k + 1 + 1)) x = T at *
    rw [cg_add (Nat.mod_mod _ _) (cg_mul (Nat.mod_mod T 2305843009213693951) rfl), show l.getD (k + 1) 0 + x * T + T * m = l.getD (k + 1) 0 + T * (m + x) by grind]
    exact (cg_add rfl (cg_mul (rfl : T % _ = T % _) (hn.trans (Nat.zero_mod _).symm))).trans (by simp)

/-- The quotient by X less x, whole, one shorter. -/
def quoE : List Nat → Nat → List Nat
  | [], _ => []
  | [_], _ => []
  | _ :: b :: t, x => pval (b :: t) x :: quoE (b :: t) x
theorem len_quoE (l : List Nat) (x : Nat) : (quoE l x).length = l.length - 1 := by
  induction l with
  | nil => rfl
  | cons a t ih =>
    cases t with
    | nil => rfl
    | cons b t => rw [quoE, List.length_cons, ih]; simp
theorem quoE_id (l : List Nat) (x y : Nat) : pval l y + x * pval (quoE l x) y = y * pval (quoE l x) y + pval l x := by
  induction l with
  | nil => simp [quoE, pval]
  | cons a t ih =>
    cases t with
    | nil => simp [quoE, pval]
    | cons b t =>
      have e1 : ∀ z, pval (a :: b :: t) z = a + z * pval (b :: t) z := fun z => rfl
      have e2 : pval (quoE (a :: b :: t) x) y = pval (b :: t) x + y * pval (quoE (b :: t) x) y := rfl
      rw [e1, e1, e2]
      clear e1 e2
      generalize pval (quoE (b :: t) x) y = Q at *
      generalize pval (b :: t) y = Ty at *
      generalize pval (b :: t) x = Tx at *
      have : y * Ty + x * (y * Q) = y * (y * Q) + y * Tx := by rw [← Nat.mul_add, ← ih, Nat.mul_add]; grind
      grind
theorem quoE_getD (l : List Nat) (x : Nat) : ∀ k, (quoE l x).getD k 0 = pval (l.drop (k + 1)) x := by
  induction l with
  | nil => intro k; simp [quoE, pval]
  | cons a t ih =>
    intro k
    cases t with
    | nil => simp [quoE, pval]
    | cons b t =>
      cases k with
      | zero => rfl
      | succ k => rw [quoE, List.getD_cons_succ, ih]; rfl
theorem dvd_diff {p Q y x : Nat} (hp : isPrime p) (h : y < x) (hx : x < p) (e : x * Q % p = y * Q % p) : Q % p = 0 := by
  have h1 : p ∣ x * Q - y * Q := mod_eq_dvd (Nat.mul_le_mul_right _ (by omega)) e
  rw [← Nat.sub_mul] at h1
  rcases prime_mul hp h1 with h2 | h2
  · have := Nat.le_of_dvd (by omega) h2
    omega
  · exact Nat.mod_eq_zero_of_dvd h2
theorem roots_zero {p : Nat} (hp : isPrime p) : ∀ (n : Nat) (l rs : List Nat), l.length ≤ n → l.length ≤ rs.length → rs.Nodup → (∀ y ∈ rs, y < p ∧ pval l y % p = 0) → ∀ k, l.getD k 0 % p = 0 := by
  intro n
  induction n with
  | zero =>
    intro l rs h _ _ _ k
    rw [getD_out (by omega), Nat.zero_mod]
  | succ n ih =>
    intro l rs hn hl hnd hr k
    cases rs with
    | nil => rw [getD_out (by simp at hl; subst hl; simp), Nat.zero_mod]
    | cons x rs =>
      have hx := hr x (List.mem_cons_self ..)
      have hq := ih (quoE l x) rs (by rw [len_quoE]; omega) (by rw [len_quoE]; simp at hl; omega) (List.nodup_cons.1 hnd).2 (fun y hy => by
        have hyr := hr y (List.mem_cons_of_mem _ hy)
        refine ⟨hyr.1, ?_⟩
        have hne : x ≠ y := fun e => (List.nodup_cons.1 hnd).1 (e ▸ hy)
        have hid := quoE_id l x y
        have e : x * pval (quoE l x) y % p = y * pval (quoE l x) y % p := by
          have h1 : (pval l y + x * pval (quoE l x) y) % p = (0 + x * pval (quoE l x) y) % p := cg_add (hyr.2.trans (Nat.zero_mod _).symm) rfl
          have h2 : (y * pval (quoE l x) y + pval l x) % p = (y * pval (quoE l x) y + 0) % p := cg_add rfl (hx.2.trans (Nat.zero_mod _).symm)
          rw [Nat.zero_add] at h1
          rw [Nat.add_zero] at h2
          rw [← h1, hid, h2]
        rcases Nat.lt_or_gt_of_ne hne with h | h
        · exact dvd_diff hp h hyr.1 e.symm
        · exact dvd_diff hp h hx.1 e)
      have hd : ∀ j, pval (l.drop j) x % p = 0 := fun j => by
        cases j with
        | zero => rw [List.drop_zero]; exact hx.2
        | succ j => rw [← quoE_getD]; exact hq j
      have h1 := hd k
      rw [pval_dropD] at h1
      have h2 : (l.getD k 0 + x * pval (l.drop (k + 1)) x) % p = (l.getD k 0 + x * 0) % p := cg_add rfl (cg_mul rfl ((hd (k + 1)).trans (Nat.zero_mod _).symm))
      rw [Nat.mul_zero, Nat.add_zero, h1] at h2
      exact h2.symm
/-- There are fewer roots than coefficients, if the last one isn't 0. -/
theorem roots_few {p : Nat} (hp : isPrime p) {l rs : List Nat} (hl : 0 < l.length) (hlast : l.getD (l.length - 1) 0 % p ≠ 0) (hnd : rs.Nodup) (hr : ∀ y ∈ rs, y < p ∧ pval l y % p = 0) : rs.length < l.length := by
  rcases Nat.lt_or_ge rs.length l.length with h | h
  · exact h
  · exact absurd (roots_zero hp _ l rs (Nat.le_refl _) h hnd hr _) hlast

/-- Of the first k numbers of a list those at which coefficients are 0, each once. -/
def rootsS (a l : List Nat) : Nat → List Nat
  | 0 => []
  | k + 1 => if pval a (l.getD k 0 % 2305843009213693951) % 2305843009213693951 = 0 ∧ (l.getD k 0 % 2305843009213693951) ∉ rootsS a l k then rootsS a l k ++ [l.getD k 0 % 2305843009213693951] else rootsS a l k
theorem len_rootsS (a l : List Nat) (k : Nat) : (rootsS a l k).length ≤ k := by
  induction k with
  | zero => exact Nat.le_refl _
  | succ k ih => rw [rootsS]; split <;> (try simp) <;> omega
theorem rootsS_ok (a l : List Nat) (k : Nat) : (rootsS a l k).Nodup ∧ ∀ y ∈ rootsS a l k, y < 2305843009213693951 ∧ pval a y % 2305843009213693951 = 0 := by
  induction k with
  | zero => exact ⟨by simp [rootsS], fun y hy => by simp [rootsS] at hy⟩
  | succ k ih =>
    rw [rootsS]
    split
    · rename_i h
      refine ⟨List.nodup_append.2 ⟨ih.1, by simp, fun x hx y hy e => ?_⟩, fun y hy => ?_⟩
      · rw [List.mem_singleton.1 hy] at e
        exact h.2 (e ▸ hx)
      · rcases List.mem_append.1 hy with h1 | h1
        · exact ih.2 y h1
        · rw [List.mem_singleton.1 h1]
          exact ⟨Nat.mod_lt _ (by omega), h.1⟩
    · exact ih
theorem rootsS_few (a l : List Nat) (k : Nat) (h : 0 < (trimZ (a.map (· % 2305843009213693951))).length) : (rootsS a l k).length < (trimZ (a.map (· % 2305843009213693951))).length := by
  refine roots_few prime61 h ?_ (rootsS_ok a l k).1 fun y hy => ⟨((rootsS_ok a l k).2 y hy).1, by rw [pval_trimZ, pval_mods]; exact ((rootsS_ok a l k).2 y hy).2⟩
  have h1 := trimZ_last h
  rwa [Nat.mod_eq_of_lt (getD_mem_lt (by omega) (trimZ_lt fun y hy => by obtain ⟨z, _, rfl⟩ := List.mem_map.1 hy; exact Nat.mod_lt _ (by omega)) _)]
theorem reckon_add (a b : List Nat) (x : Nat) : pval (addP a b) x % 2305843009213693951 = pval (addP [pval a x % 2305843009213693951] [pval b x % 2305843009213693951]) 0 % 2305843009213693951 := by
  rw [pval_addP, pval_addP]
  simp [pval]
theorem reckon_mul (a b : List Nat) (x : Nat) : pval (mulP a b) x % 2305843009213693951 = pval (mulP [pval a x % 2305843009213693951] [pval b x % 2305843009213693951]) 0 % 2305843009213693951 := by
  rw [pval_mulP, pval_mulP]
  simp [pval]
theorem trimP_self (l : List Nat) (x : Nat) : trimZ ((trimZ (quoP 2305843009213693951 l x)).map (· % 2305843009213693951)) = trimZ (quoP 2305843009213693951 l x) := by
  rw [map_mod _ (trimZ_lt fun y hy => by obtain ⟨i, _, rfl⟩ := List.mem_map.1 hy; exact Nat.mod_lt _ (by omega)), trimZ_trimZ]
end Go.Proofs.Ytaeebipcgeembaa
