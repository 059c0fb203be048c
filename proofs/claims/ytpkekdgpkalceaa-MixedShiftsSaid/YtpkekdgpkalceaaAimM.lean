/-
  Plain functions that say what tabs.Aim does to words, and their laws: each row's sum is what it was and its number; what is changed hangs on rows and numbers alone. Conditions: none.
-/
import Derived.Test.YtpkekdgpkalceaaTabsM
namespace Go.Proofs.Ytpkekdgpkalceaa
set_option linter.unusedVariables false

/-- The first place from i on, of so many, at which f is true; else the last one's next. -/
def fst (f : Nat → Bool) : Nat → Nat → Nat
  | 0, i => i
  | n + 1, i => if f i then i else fst f n (i + 1)
theorem fst_at (f : Nat → Bool) : ∀ n i k, i ≤ k → k < i + n → (∀ j, i ≤ j → j < k → f j = false) → f k = true → fst f n i = k
  | 0, i, k, h1, h2, _, _ => by omega
  | n + 1, i, k, h1, h2, h3, h4 => by
    unfold fst
    by_cases he : i = k
    · subst he; rw [if_pos h4]
    · rw [if_neg (by rw [h3 i (Nat.le_refl _) (by omega)]; simp)]
      exact fst_at f n (i + 1) k (by omega) (by omega) (fun j hj hk => h3 j (by omega) hk) h4
theorem fst_no (f : Nat → Bool) : ∀ n i, (∀ j, i ≤ j → j < i + n → f j = false) → fst f n i = i + n
  | 0, i, _ => rfl
  | n + 1, i, h => by
    unfold fst
    rw [if_neg (by rw [h i (Nat.le_refl _) (by omega)]; simp), fst_no f n (i + 1) (fun j hj hk => h j (by omega) (by omega))]
    omega
theorem fst_cases (f : Nat → Bool) (n : Nat) : (fst f n 0 < n ∧ f (fst f n 0) = true ∧ ∀ j, j < fst f n 0 → f j = false) ∨ (fst f n 0 = n ∧ ∀ j, j < n → f j = false) := by
  by_cases h : ∃ j, j < n ∧ f j = true
  · obtain ⟨j, hj, hf⟩ := h
    have : ∃ k, k < n ∧ f k = true ∧ ∀ j, j < k → f j = false := by
      induction j using Nat.strongRecOn with
      | _ j ih =>
        by_cases h2 : ∃ i, i < j ∧ f i = true
        · obtain ⟨i, hi, hfi⟩ := h2
          exact ih i hi (by omega) hfi
        · refine ⟨j, hj, hf, fun i hi => ?_⟩
          cases hfi : f i
          · rfl
          · exact absurd ⟨i, hi, hfi⟩ h2
    obtain ⟨k, hk, hfk, hlo⟩ := this
    have e := fst_at f n 0 k (Nat.zero_le _) (by omega) (fun j _ hj => hlo j hj) hfk
    left
    rw [e]
    exact ⟨hk, hfk, hlo⟩
  · right
    have hno : ∀ j, j < n → f j = false := fun j hj => by
      cases hfj : f j
      · rfl
      · exact absurd ⟨j, hj, hfj⟩ h
    exact ⟨by rw [fst_no f n 0 (fun j _ hj => hno j (by omega))]; omega, hno⟩

/-- Where a row's entry lies, at place i. -/
def ent (row : List Int) (i : Nat) : Nat := 16 * i + (row.getD i 0).toNat
/-- Whether a row has an entry. -/
def hasE (row : List Int) (e : Nat) : Bool := decide (e / 16 < row.length ∧ row.getD (e / 16) 0 = ((e % 16 : Nat) : Int))
/-- How many of some entries a row has, of the first k. -/
def cntTo (row : List Int) (some : List Nat) : Nat → Nat
  | 0 => 0
  | k + 1 => cntTo row some k + (if hasE row (some.getD k 0) then 1 else 0)
def oddV (row : List Int) (some : List Nat) : Bool := cntTo row some some.length % 2 == 1
/-- Whether a row meets none of the others at place i. -/
def lone (row : List Int) (others : List (List Int)) (i : Nat) : Bool := others.all fun o => !(o.getD i 0 == row.getD i 0)
def differ (a b : List Int) (i : Nat) : Bool := !(a.getD i 0 == b.getD i 0)
def spreadV (row : List Int) (others : List (List Int)) : List Nat :=
  [ent row (fst (differ (others.getD 0 []) row) row.length 0), ent (others.getD 1 []) (fst (differ row (others.getD 1 [])) row.length 0)]
def onlyV (row : List Int) (others : List (List Int)) : List Nat :=
  if fst (lone row others) row.length 0 < row.length then [ent row (fst (lone row others) row.length 0)] else spreadV row others

/-- The words when the first k of some entries are changed by d. -/
def togTo (W : List Nat) (some : List Nat) (d : Nat) : Nat → List Nat
  | 0 => W
  | k + 1 => (togTo W some d k).set (some.getD k 0) ((togTo W some d k).getD (some.getD k 0) 0 ^^^ d)
/-- What is left for each row when the first k rows have been asked. -/
def leftTo (rows : List (List Int)) (some : List Nat) (d : Nat) (L : List Nat) : Nat → List Nat
  | 0 => L
  | k + 1 => if oddV (rows.getD k []) some then (leftTo rows some d L k).set k ((leftTo rows some d L k).getD k 0 ^^^ d) else leftTo rows some d L k
def someV (rows : List (List Int)) (k : Nat) : List Nat := onlyV (rows.getD k []) (rows.take k)
def aimL (rows : List (List Int)) (by_ : List Nat) : Nat → List Nat
  | 0 => by_
  | k + 1 => leftTo rows (someV rows k) ((aimL rows by_ k).getD k 0) (aimL rows by_ k) rows.length
def aimW (words : List Nat) (rows : List (List Int)) (by_ : List Nat) : Nat → List Nat
  | 0 => words
  | k + 1 => togTo (aimW words rows by_ k) (someV rows k) ((aimL rows by_ k).getD k 0) (someV rows k).length
def aimV (words : List Nat) (rows : List (List Int)) (by_ : List Nat) : List Nat := aimW words rows by_ rows.length

/-- The first error's number of rows. -/
def fitsAll (n : Nat) : List (List Int) → Int
  | [] => 0
  | r :: rs => if fitsV n r = 0 then fitsAll n rs else fitsV n r
def sameV (rows : List (List Int)) : Bool := decide (∃ i, i < rows.length ∧ ∃ k, k < i ∧ rows.getD k [] = rows.getD i [])
def rowsE (n : Nat) (rows : List (List Int)) (m : Nat) : Int :=
  if rows.length < 1 ∨ 3 < rows.length ∨ rows.length ≠ m ∨ (rows.getD 0 []).length < 1 then 1
  else if rows.any (fun r => !(r.length == (rows.getD 0 []).length)) then 1
  else if fitsAll n rows = 0 then (if sameV rows then 15 else 0) else fitsAll n rows
theorem fitsAll_hit (n : Nat) : ∀ (rows : List (List Int)) (k : Nat), k < rows.length → (∀ j, j < k → fitsV n (rows.getD j []) = 0) → fitsV n (rows.getD k []) ≠ 0 → fitsAll n rows = fitsV n (rows.getD k [])
  | [], k, h, _, _ => by simp at h
  | r :: rs, 0, _, _, h => by simp [fitsAll] at h ⊢; intro h2; exact absurd h2 h
  | r :: rs, k + 1, h, h1, h2 => by
    have h0 := h1 0 (by omega)
    simp at h0
    simp only [fitsAll, h0, if_true]
    simpa using fitsAll_hit n rs k (by simpa using h) (fun j hj => by simpa using h1 (j + 1) (by omega)) (by simpa using h2)
theorem fitsAll_ok (n : Nat) : ∀ (rows : List (List Int)), (∀ j, j < rows.length → fitsV n (rows.getD j []) = 0) → fitsAll n rows = 0
  | [], _ => rfl
  | r :: rs, h => by
    have h0 := h 0 (by simp)
    simp at h0
    simp only [fitsAll, h0, if_true]
    exact fitsAll_ok n rs fun j hj => by simpa using h (j + 1) (by simpa using hj)
theorem fitsAll_zero (n : Nat) : ∀ (rows : List (List Int)), fitsAll n rows = 0 → ∀ j, j < rows.length → fitsV n (rows.getD j []) = 0
  | [], _, j, hj => by simp at hj
  | r :: rs, h, 0, hj => by
    simp only [fitsAll] at h
    split at h
    · simpa
    · exact absurd h (by assumption)
  | r :: rs, h, j + 1, hj => by
    simp only [fitsAll] at h
    split at h
    · simpa using fitsAll_zero n rs h j (by simpa using hj)
    · exact absurd h (by assumption)

/-- What good rows are. -/
structure GoodR (n : Nat) (rows : List (List Int)) (m : Nat) : Prop where
  pos : 1 ≤ rows.length
  few : rows.length ≤ 3
  num : rows.length = m
  long : 1 ≤ (rows.getD 0 []).length
  alike : ∀ j, j < rows.length → (rows.getD j []).length = (rows.getD 0 []).length
  fits : ∀ j, j < rows.length → fitsV n (rows.getD j []) = 0
  unlike : ∀ i k, i < rows.length → k < i → rows.getD k [] ≠ rows.getD i []
theorem good_of {n m : Nat} {rows : List (List Int)} (h : rowsE n rows m = 0) : GoodR n rows m := by
  unfold rowsE at h
  split at h
  · omega
  · rename_i h1
    split at h
    · omega
    · rename_i h2
      split at h
      · rename_i h3
        split at h
        · omega
        · rename_i h4
          refine ⟨by omega, by omega, by omega, by omega, fun j hj => ?_, fitsAll_zero n rows h3, fun i k hi hk he => ?_⟩
          · have := (List.any_eq_false.1 (Bool.eq_false_iff.2 h2)) (rows.getD j []) (by simp [List.getD, hj])
            simpa using this
          · exact h4 (decide_eq_true ⟨i, hi, k, hk, he⟩)
      · omega

theorem getD_take {α : Type} (l : List α) (d : α) (n k : Nat) (h : k < n) : (l.take n).getD k d = l.getD k d := by
  simp [List.getD, h]
theorem list_ext (a b : List Int) (hl : a.length = b.length) (h : ∀ i, i < a.length → a.getD i 0 = b.getD i 0) : a = b := by
  refine List.ext_getElem hl fun i h1 h2 => ?_
  have := h i h1
  simpa [List.getD, h1, h2] using this
theorem nat_ext (a b : List Nat) (hl : a.length = b.length) (h : ∀ i, i < a.length → a.getD i 0 = b.getD i 0) : a = b := by
  refine List.ext_getElem hl fun i h1 h2 => ?_
  have := h i h1
  simpa [List.getD, h1, h2] using this

/-- Where two unlike rows differ first. -/
theorem differ_hit (a b : List Int) (hl : a.length = b.length) (h : a ≠ b) (n : Nat) (hn : n = a.length) : fst (differ a b) n 0 < n ∧ a.getD (fst (differ a b) n 0) 0 ≠ b.getD (fst (differ a b) n 0) 0 := by
  rcases fst_cases (differ a b) n with ⟨h1, h2, _⟩ | ⟨_, h2⟩
  · exact ⟨h1, by simpa [differ] using h2⟩
  · exfalso
    refine h (list_ext a b hl fun i hi => ?_)
    simpa [differ] using h2 i (by omega)

theorem hasE_ent (r s : List Int) (i : Nat) (hi : i < r.length) (hl : s.length = r.length) (hr : 0 ≤ r.getD i 0 ∧ r.getD i 0 < 16) : hasE s (ent r i) = (s.getD i 0 == r.getD i 0) := by
  obtain ⟨c, hc⟩ := Int.eq_ofNat_of_zero_le hr.1
  have e1 : ent r i / 16 = i := by unfold ent; omega
  have e2 : ent r i % 16 = c := by unfold ent; omega
  unfold hasE
  rw [e1, e2, hc, hl]
  simp [hi]
  rfl
theorem good_lo {n m : Nat} {rows : List (List Int)} (g : GoodR n rows m) (j : Nat) (hj : j < rows.length) (i : Nat) (hi : i < (rows.getD 0 []).length) : 0 ≤ (rows.getD j []).getD i 0 ∧ (rows.getD j []).getD i 0 < 16 := by
  have hl := g.alike j hj
  have := any_lo _ (fits_zero (g.fits j hj)).2 i (by omega)
  simpa [List.getD, show i < (rows[j]?.getD []).length by simpa [List.getD, hj] using (by omega : i < (rows.getD j []).length)] using this

/-- What 'only' tells: of those entries row k has an odd number, and each row before it an even one; each of them is a place of the words. -/
theorem some_odd {n m : Nat} {rows : List (List Int)} (g : GoodR n rows m) (k : Nat) (hk : k < rows.length) :
    oddV (rows.getD k []) (someV rows k) = true ∧ (∀ j, j < k → oddV (rows.getD j []) (someV rows k) = false) ∧ (∀ e, e ∈ someV rows k → e < n) ∧ ((someV rows k).length = 1 ∨ (someV rows k).length = 2) := by
  have hlen : ∀ j, j < rows.length → (rows.getD j []).length = (rows.getD 0 []).length := g.alike
  have hn : n = 16 * (rows.getD 0 []).length := by have := (fits_zero (g.fits 0 (by have := g.pos; omega))).1; exact this
  have hlt : ∀ j i, j < rows.length → i < (rows.getD 0 []).length → ent (rows.getD j []) i < n := fun j i hj hi => by
    have := good_lo g j hj i hi
    unfold ent; omega
  have hkl := hlen k hk
  rcases fst_cases (lone (rows.getD k []) (rows.take k)) (rows.getD k []).length with ⟨h1, h2, _⟩ | ⟨h1, h2⟩
  · have hs : someV rows k = [ent (rows.getD k []) (fst (lone (rows.getD k []) (rows.take k)) (rows.getD k []).length 0)] := by
      unfold someV onlyV; rw [if_pos h1]
    generalize hq : fst (lone (rows.getD k []) (rows.take k)) (rows.getD k []).length 0 = q at *
    have hb := good_lo g k hk q (by omega)
    rw [hs]
    refine ⟨?_, fun j hj => ?_, fun e he => ?_, by simp⟩
    · simp only [oddV, List.length_singleton, cntTo, List.getD_cons_zero]
      rw [hasE_ent _ _ q (by omega) rfl hb]
      simp
    · simp only [oddV, List.length_singleton, cntTo, List.getD_cons_zero]
      rw [hasE_ent _ _ q (by omega) (by rw [hlen j (by omega), hkl]) hb]
      have := (List.all_eq_true.1 h2) (rows.getD j []) (by
        rw [List.mem_iff_getElem]
        exact ⟨j, by simp; omega, by simp [List.getD, show j < rows.length by omega]⟩)
      have hne : ((rows.getD j []).getD q 0 == (rows.getD k []).getD q 0) = false := by simpa using this
      rw [hne]
      simp
    · have := List.mem_singleton.1 he
      subst this
      exact hlt k q hk (by omega)
  · have hk2 : k = 2 := by
      have hfew := g.few
      have hlong := g.long
      rcases Nat.lt_or_ge k 1 with h | h
      · have : k = 0 := by omega
        subst this
        have := h2 0 (by omega)
        simp [lone] at this
      · rcases Nat.lt_or_ge k 2 with h' | h'
        · have : k = 1 := by omega
          subst this
          exfalso
          refine g.unlike 1 0 hk (by omega) (list_ext _ _ (by rw [hkl]) fun i hi => ?_)
          have := h2 i (by omega)
          have h0 : rows.take 1 = [rows.getD 0 []] := by
            match rows, hk with
            | a :: b :: _, _ => rfl
          rw [h0] at this
          simpa [lone] using this
        · omega
    subst hk2
    have h0 : rows.take 2 = [rows.getD 0 [], rows.getD 1 []] := by
      match rows, hk with
      | a :: b :: c :: _, _ => rfl
    have hs : someV rows 2 = spreadV (rows.getD 2 []) [rows.getD 0 [], rows.getD 1 []] := by
      unfold someV onlyV; rw [if_neg (by omega), h0]
    have hne : ∀ i, i < (rows.getD 0 []).length → (rows.getD 0 []).getD i 0 = (rows.getD 2 []).getD i 0 ∨ (rows.getD 1 []).getD i 0 = (rows.getD 2 []).getD i 0 := fun i hi => by
      have := h2 i (by omega)
      rw [h0] at this
      simp [lone] at this
      by_cases h : (rows.getD 0 []).getD i 0 = (rows.getD 2 []).getD i 0
      · exact .inl h
      · exact .inr (by simpa using this (by simpa using h))
    have d1 := differ_hit (rows.getD 0 []) (rows.getD 2 []) (by rw [hkl]) (g.unlike 2 0 hk (by omega)) (rows.getD 2 []).length (by omega)
    have d2 := differ_hit (rows.getD 2 []) (rows.getD 1 []) (by rw [hlen 1 (by omega), hkl]) (fun h => g.unlike 2 1 hk (by omega) h.symm) (rows.getD 2 []).length rfl
    unfold spreadV at hs
    simp only [List.getD_cons_zero, List.getD_cons_succ] at hs
    generalize hp : fst (differ (rows.getD 0 []) (rows.getD 2 [])) (rows.getD 2 []).length 0 = p at *
    generalize hq : fst (differ (rows.getD 2 []) (rows.getD 1 [])) (rows.getD 2 []).length 0 = q at *
    have hp' : p < (rows.getD 0 []).length := by omega
    have hq' : q < (rows.getD 0 []).length := by omega
    have b1 := good_lo g 2 hk p hp'
    have b2 := good_lo g 1 (by omega) q hq'
    have p1 : (rows.getD 1 []).getD p 0 = (rows.getD 2 []).getD p 0 := by rcases hne p hp' with h | h; exact absurd h d1.2; exact h
    have q0 : (rows.getD 0 []).getD q 0 = (rows.getD 2 []).getD q 0 := by rcases hne q hq' with h | h; exact h; exact absurd h.symm d2.2
    have H : ∀ j, j < rows.length → oddV (rows.getD j []) (someV rows 2) = (((if ((rows.getD j []).getD p 0 == (rows.getD 2 []).getD p 0) then 1 else 0) + (if ((rows.getD j []).getD q 0 == (rows.getD 1 []).getD q 0) then 1 else 0)) % 2 == 1) := fun j hj => by
      rw [hs]
      simp only [oddV, List.length_cons, List.length_nil, cntTo, List.getD_cons_zero, List.getD_cons_succ, Nat.zero_add]
      rw [hasE_ent _ _ p (by omega) (by rw [hlen j hj, hkl]) b1, hasE_ent _ _ q (by have := hlen 1 (by omega); omega) (by rw [hlen j hj, hlen 1 (by omega)]) b2]
    refine ⟨?_, fun j hj => ?_, fun e he => ?_, by rw [hs]; simp⟩
    · rw [H 2 hk]
      have : ((rows.getD 2 []).getD q 0 == (rows.getD 1 []).getD q 0) = false := by simpa using d2.2
      rw [this]
      simp
    · rw [H j (by omega)]
      rcases Nat.lt_or_ge j 1 with h | h
      · have : j = 0 := by omega
        subst this
        have h1 : ((rows.getD 0 []).getD p 0 == (rows.getD 2 []).getD p 0) = false := by simpa using d1.2
        have h2 : ((rows.getD 0 []).getD q 0 == (rows.getD 1 []).getD q 0) = false := by rw [q0]; simpa using d2.2
        rw [h1, h2]
        simp
      · have : j = 1 := by omega
        subst this
        have h1 : ((rows.getD 1 []).getD p 0 == (rows.getD 2 []).getD p 0) = true := by rw [p1]; simp
        rw [h1]
        simp
    · rw [hs] at he
      rcases List.mem_cons.1 he with rfl | he
      · exact hlt 2 p hk hp'
      · rcases List.mem_cons.1 he with rfl | he
        · exact hlt 1 q (by omega) hq'
        · simp at he

theorem len_tog (W some : List Nat) (d k : Nat) : (togTo W some d k).length = W.length := by
  induction k with
  | zero => rfl
  | succ k ih => simp [togTo, ih]
theorem len_left (rows : List (List Int)) (some : List Nat) (d : Nat) (L : List Nat) (k : Nat) : (leftTo rows some d L k).length = L.length := by
  induction k with
  | zero => rfl
  | succ k ih => simp only [leftTo]; split <;> simp [ih]
theorem len_aimL (rows : List (List Int)) (by_ : List Nat) (k : Nat) : (aimL rows by_ k).length = by_.length := by
  induction k with
  | zero => rfl
  | succ k ih => simp only [aimL]; rw [len_left, ih]
theorem len_aimW (words : List Nat) (rows : List (List Int)) (by_ : List Nat) (k : Nat) : (aimW words rows by_ k).length = words.length := by
  induction k with
  | zero => rfl
  | succ k ih => simp only [aimW]; rw [len_tog, ih]
theorem len_aim (words : List Nat) (rows : List (List Int)) (by_ : List Nat) : (aimV words rows by_).length = words.length := len_aimW ..
theorem getD_set (W : List Nat) (i v q : Nat) (hq : q < W.length) : (W.set i v).getD q 0 = if i = q then v else W.getD q 0 := by
  simp [List.getD, hq, List.getElem_set]
/-- By what a place is changed. -/
def togD (some : List Nat) (d : Nat) (q : Nat) : Nat → Nat
  | 0 => 0
  | k + 1 => togD some d q k ^^^ (if some.getD k 0 = q then d else 0)
theorem tog_get (W some : List Nat) (d q : Nat) (hq : q < W.length) (k : Nat) : (togTo W some d k).getD q 0 = W.getD q 0 ^^^ togD some d q k := by
  induction k with
  | zero => simp [togTo, togD]
  | succ k ih =>
    simp only [togTo, togD]
    rw [getD_set _ _ _ _ (by rw [len_tog]; exact hq)]
    split
    · rename_i h
      rw [h, ih, Nat.xor_assoc]
    · rw [ih]; simp
def aimD (rows : List (List Int)) (by_ : List Nat) (q : Nat) : Nat → Nat
  | 0 => 0
  | k + 1 => aimD rows by_ q k ^^^ togD (someV rows k) ((aimL rows by_ k).getD k 0) q (someV rows k).length
theorem aimW_get (words : List Nat) (rows : List (List Int)) (by_ : List Nat) (q : Nat) (hq : q < words.length) (k : Nat) : (aimW words rows by_ k).getD q 0 = words.getD q 0 ^^^ aimD rows by_ q k := by
  induction k with
  | zero => simp [aimW, aimD]
  | succ k ih =>
    simp only [aimW, aimD]
    rw [tog_get _ _ _ _ (by rw [len_aimW]; exact hq), ih, Nat.xor_assoc]
/-- What is changed hangs on rows and numbers alone. -/
theorem aim_get (words : List Nat) (rows : List (List Int)) (by_ : List Nat) (q : Nat) (hq : q < words.length) : (aimV words rows by_).getD q 0 = words.getD q 0 ^^^ aimD rows by_ q rows.length := aimW_get _ _ _ _ hq _
theorem aim_back (words : List Nat) (rows : List (List Int)) (by_ : List Nat) : aimV (aimV words rows by_) rows by_ = words := by
  refine nat_ext _ _ (by rw [len_aim, len_aim]) fun q hq => ?_
  rw [len_aim, len_aim] at hq
  rw [aim_get _ _ _ _ (by rw [len_aim]; exact hq), aim_get _ _ _ _ hq, Nat.xor_assoc, Nat.xor_self, Nat.xor_zero]
theorem aim_alone (words more : List Nat) (rows : List (List Int)) (by_ : List Nat) (q : Nat) (hq : q < words.length) (hq' : q < more.length) :
    (aimV words rows by_).getD q 0 ^^^ words.getD q 0 = (aimV more rows by_).getD q 0 ^^^ more.getD q 0 := by
  have h : ∀ a d : Nat, (a ^^^ d) ^^^ a = d := fun a d => by rw [Nat.xor_comm a d, Nat.xor_assoc, Nat.xor_self, Nat.xor_zero]
  rw [aim_get _ _ _ _ hq, aim_get _ _ _ _ hq', h, h]

theorem set_lt (W : List Nat) (hw : ∀ x ∈ W, x < 18446744073709551616) (i v : Nat) (hv : v < 18446744073709551616) : ∀ x ∈ W.set i v, x < 18446744073709551616 := fun x hx => by
  rcases List.mem_or_eq_of_mem_set hx with h | rfl
  · exact hw x h
  · exact hv
theorem tog_lt (W some : List Nat) (d : Nat) (hw : ∀ x ∈ W, x < 18446744073709551616) (hd : d < 18446744073709551616) (k : Nat) : ∀ x ∈ togTo W some d k, x < 18446744073709551616 := by
  induction k with
  | zero => exact hw
  | succ k ih => exact set_lt _ ih _ _ (xor_lt _ _ (getD_lt _ ih _) hd)
theorem left_lt (rows : List (List Int)) (some : List Nat) (d : Nat) (L : List Nat) (hw : ∀ x ∈ L, x < 18446744073709551616) (hd : d < 18446744073709551616) (k : Nat) : ∀ x ∈ leftTo rows some d L k, x < 18446744073709551616 := by
  induction k with
  | zero => exact hw
  | succ k ih =>
    simp only [leftTo]
    split
    · exact set_lt _ ih _ _ (xor_lt _ _ (getD_lt _ ih _) hd)
    · exact ih
theorem aimL_lt (rows : List (List Int)) (by_ : List Nat) (hb : ∀ x ∈ by_, x < 18446744073709551616) (k : Nat) : ∀ x ∈ aimL rows by_ k, x < 18446744073709551616 := by
  induction k with
  | zero => exact hb
  | succ k ih => exact left_lt _ _ _ _ ih (getD_lt _ ih _) _
theorem aimW_lt (words : List Nat) (rows : List (List Int)) (by_ : List Nat) (hw : ∀ x ∈ words, x < 18446744073709551616) (hb : ∀ x ∈ by_, x < 18446744073709551616) (k : Nat) : ∀ x ∈ aimW words rows by_ k, x < 18446744073709551616 := by
  induction k with
  | zero => exact hw
  | succ k ih => exact tog_lt _ _ _ ih (getD_lt _ (aimL_lt rows by_ hb k) _) _
theorem aimV_lt (words : List Nat) (rows : List (List Int)) (by_ : List Nat) (hw : ∀ x ∈ words, x < 18446744073709551616) (hb : ∀ x ∈ by_, x < 18446744073709551616) : ∀ x ∈ aimV words rows by_, x < 18446744073709551616 := aimW_lt _ _ _ hw hb _

/-- A row's sum when one place is changed. -/
theorem sum_set (W : List Nat) (row : List Int) (hg : row.any badc = false) (hl : W.length = 16 * row.length) (e d : Nat) (k : Nat) (hk : k ≤ row.length) (he : e < W.length) :
    sumTo (W.set e (W.getD e 0 ^^^ d)) row k = sumTo W row k ^^^ (if e / 16 < k ∧ row.getD (e / 16) 0 = ((e % 16 : Nat) : Int) then d else 0) := by
  induction k with
  | zero => simp [sumTo]
  | succ k ih =>
    have h := any_lo row hg k (by omega)
    have hgd : row.getD k 0 = row[k] := by simp [List.getD, show k < row.length by omega]
    obtain ⟨c, hc⟩ := Int.eq_ofNat_of_zero_le h.1
    have ht : (row.getD k 0).toNat = c := by omega
    have hc16 : c < 16 := by omega
    simp only [sumTo]
    rw [ih (by omega), getD_set _ _ _ _ (by omega), ht]
    by_cases hq : e = 16 * k + c
    · have h1 : e / 16 = k := by omega
      have h2 : e % 16 = c := by omega
      rw [if_pos hq, h1, h2, if_neg (by omega), if_pos ⟨by omega, by rw [hgd, hc]⟩, hq, Nat.xor_zero, Nat.xor_assoc]
    · rw [if_neg hq]
      by_cases h1 : e / 16 = k
      · have : ¬ row.getD k 0 = ((e % 16 : Nat) : Int) := fun hh => hq (by omega)
        rw [h1, if_neg (by omega), if_neg (fun hh => this hh.2), Nat.xor_zero, Nat.xor_zero]
      · by_cases h2 : e / 16 < k ∧ row.getD (e / 16) 0 = ((e % 16 : Nat) : Int)
        · rw [if_pos h2, if_pos ⟨by omega, h2.2⟩, Nat.xor_assoc, Nat.xor_assoc, Nat.xor_comm d]
        · rw [if_neg h2, if_neg (fun hh => h2 ⟨by omega, hh.2⟩), Nat.xor_zero, Nat.xor_zero]
theorem sum_tog (W some : List Nat) (row : List Int) (hg : row.any badc = false) (hl : W.length = 16 * row.length) (d : Nat) (he : ∀ e, e ∈ some → e < W.length) (k : Nat) (hk : k ≤ some.length) :
    sumV (togTo W some d k) row = sumV W row ^^^ (if cntTo row some k % 2 = 1 then d else 0) := by
  induction k with
  | zero => simp [togTo, cntTo]
  | succ k ih =>
    have hm : some.getD k 0 ∈ some := by simp [List.getD, show k < some.length by omega]
    have hs := sum_set (togTo W some d k) row hg (by rw [len_tog]; exact hl) (some.getD k 0) d row.length (Nat.le_refl _) (by rw [len_tog]; exact he _ hm)
    simp only [togTo, sumV]
    rw [hs]
    have ih' := ih (by omega)
    unfold sumV at ih'
    rw [ih']
    by_cases h1 : some.getD k 0 / 16 < row.length ∧ row.getD (some.getD k 0 / 16) 0 = ((some.getD k 0 % 16 : Nat) : Int)
    · have hc : cntTo row some (k + 1) = cntTo row some k + 1 := by simp only [cntTo]; rw [show hasE row (some.getD k 0) = true from decide_eq_true h1]; rfl
      rw [if_pos h1, hc]
      by_cases h2 : cntTo row some k % 2 = 1
      · rw [if_pos h2, if_neg (by omega), Nat.xor_assoc, Nat.xor_self]
      · rw [if_neg h2, if_pos (by omega), Nat.xor_zero]
    · have hc : cntTo row some (k + 1) = cntTo row some k := by simp only [cntTo]; rw [show hasE row (some.getD k 0) = false from decide_eq_false h1]; rfl
      rw [if_neg h1, hc, Nat.xor_zero]
theorem left_get (rows : List (List Int)) (some : List Nat) (d : Nat) (L : List Nat) (k j : Nat) (hj : j < L.length) :
    (leftTo rows some d L k).getD j 0 = if j < k ∧ oddV (rows.getD j []) some = true then L.getD j 0 ^^^ d else L.getD j 0 := by
  induction k with
  | zero => simp [leftTo]
  | succ k ih =>
    simp only [leftTo]
    split
    · rename_i ho
      rw [getD_set _ _ _ _ (by rw [len_left]; exact hj)]
      by_cases h : k = j
      · subst h
        rw [if_pos rfl, ih, if_neg (by omega), if_pos ⟨by omega, ho⟩]
      · rw [if_neg h, ih]
        by_cases h2 : j < k ∧ oddV (rows.getD j []) some = true
        · rw [if_pos h2, if_pos ⟨by omega, h2.2⟩]
        · rw [if_neg h2, if_neg (fun hh => h2 ⟨by omega, hh.2⟩)]
    · rename_i ho
      rw [ih]
      by_cases h2 : j < k ∧ oddV (rows.getD j []) some = true
      · rw [if_pos h2, if_pos ⟨by omega, h2.2⟩]
      · rw [if_neg h2, if_neg (fun hh => h2 ⟨by rcases Nat.lt_succ_iff_lt_or_eq.1 hh.1 with h | h; exact h; subst h; exact absurd hh.2 ho, hh.2⟩)]

/-- The invariant: what a row's sum is and what is left for it stays; of the rows that were aimed nothing is left. -/
theorem aim_inv {n m : Nat} {rows : List (List Int)} (g : GoodR n rows m) (words by_ : List Nat) (hn : words.length = n) (hm : by_.length = m) (k : Nat) (hk : k ≤ rows.length) :
    (∀ j, j < rows.length → sumV (aimW words rows by_ k) (rows.getD j []) ^^^ (aimL rows by_ k).getD j 0 = sumV words (rows.getD j []) ^^^ by_.getD j 0) ∧ ∀ j, j < k → (aimL rows by_ k).getD j 0 = 0 := by
  induction k with
  | zero => exact ⟨fun j hj => rfl, fun j hj => by omega⟩
  | succ k ih =>
    obtain ⟨i1, i2⟩ := ih (by omega)
    obtain ⟨o1, o2, o3, _⟩ := some_odd g k (by omega)
    have hnum := g.num
    have L := fun j (hj : j < rows.length) => left_get rows (someV rows k) ((aimL rows by_ k).getD k 0) (aimL rows by_ k) rows.length j (by rw [len_aimL]; omega)
    have S := fun j (hj : j < rows.length) => sum_tog (aimW words rows by_ k) (someV rows k) (rows.getD j []) (fits_zero (g.fits j hj)).2 (by rw [len_aimW, hn]; exact (fits_zero (g.fits j hj)).1) ((aimL rows by_ k).getD k 0)
      (fun e he => by rw [len_aimW, hn]; exact o3 e he) (someV rows k).length (Nat.le_refl _)
    refine ⟨fun j hj => ?_, fun j hj => ?_⟩
    · simp only [aimW, aimL]
      rw [S j hj, L j hj, ← i1 j hj]
      by_cases h : oddV (rows.getD j []) (someV rows k) = true
      · rw [if_pos (by simpa [oddV] using h), if_pos ⟨hj, h⟩]
        rw [Nat.xor_assoc, ← Nat.xor_assoc ((aimL rows by_ k).getD k 0), Nat.xor_comm ((aimL rows by_ k).getD k 0) ((aimL rows by_ k).getD j 0), Nat.xor_assoc ((aimL rows by_ k).getD j 0), Nat.xor_self, Nat.xor_zero]
      · rw [if_neg (by simpa [oddV] using h), if_neg (fun hh => h hh.2), Nat.xor_zero]
    · simp only [aimL]
      rw [L j (by omega)]
      rcases Nat.lt_succ_iff_lt_or_eq.1 hj with h | h
      · rw [if_neg (by rw [o2 j h]; simp), i2 j h]
      · subst h
        rw [if_pos ⟨by omega, o1⟩, Nat.xor_self]
/-- Each row's sum is what it was and its number. -/
theorem aim_sum {n m : Nat} {rows : List (List Int)} (g : GoodR n rows m) (words by_ : List Nat) (hn : words.length = n) (hm : by_.length = m) (j : Nat) (hj : j < rows.length) :
    sumV (aimV words rows by_) (rows.getD j []) = sumV words (rows.getD j []) ^^^ by_.getD j 0 := by
  obtain ⟨i1, i2⟩ := aim_inv g words by_ hn hm rows.length (Nat.le_refl _)
  have := i1 j hj
  rw [i2 j hj, Nat.xor_zero] at this
  exact this
end Go.Proofs.Ytpkekdgpkalceaa
