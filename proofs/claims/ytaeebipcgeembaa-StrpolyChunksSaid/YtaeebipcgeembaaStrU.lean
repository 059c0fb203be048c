/-
  The plain law of chapter 25: a text's numbers tell the text; the difference of two texts; how many seeds make them meet. Conditions: bytes.
-/
import Derived.Test.YtaeebipcgeembaaStrM
import Derived.Test.YtaeebipcgeembaaPolyN
import Derived.Test.YtaeebipcgeembaaPolyH
namespace Go.Proofs.Ytaeebipcgeembaa
open Go.RowKit
set_option linter.unusedVariables false

theorem leN_inj : ∀ {a b : List Nat}, a.length = b.length → (∀ x ∈ a, x < 256) → (∀ x ∈ b, x < 256) → leN a = leN b → a = b
  | [], [], _, _, _, _ => rfl
  | x :: a, y :: b, hl, ha, hb, h => by
    have hx := ha x (by simp)
    have hy := hb y (by simp)
    simp only [leN] at h
    have e1 : x = y := by omega
    have e2 : leN a = leN b := by omega
    rw [e1, leN_inj (by simpa using hl) (fun z hz => ha z (by simp [hz])) (fun z hz => hb z (by simp [hz])) e2]
theorem mark_inj {a b : List Nat} (ha : ∀ x ∈ a, x < 256) (hb : ∀ x ∈ b, x < 256) (h : leN a + 256 ^ a.length = leN b + 256 ^ b.length) : a = b := by
  have h1 := leN_lt a ha
  have h2 := leN_lt b hb
  have key : ∀ {m n u v : Nat}, u < 256 ^ m → v < 256 ^ n → m < n → u + 256 ^ m = v + 256 ^ n → False := by
    intro m n u v hu hv hmn he
    have : 256 ^ (m + 1) ≤ 256 ^ n := Nat.pow_le_pow_right (by decide) hmn
    rw [Nat.pow_succ] at this
    omega
  have hl : a.length = b.length := by
    rcases Nat.lt_trichotomy a.length b.length with hlt | he | hgt
    · exact (key h1 h2 hlt h).elim
    · exact he
    · exact (key h2 h1 hgt h.symm).elim
  rw [hl] at h
  exact leN_inj hl ha hb (by omega)
theorem chunksN_pos (b : List Nat) : 0 < (chunksN b).length := by rw [most_len]; omega
theorem chunksN_short {b : List Nat} (h : b.length < 7) : chunksN b = [leN b + 256 ^ b.length] := by rw [chunksN, dif_pos h]
theorem chunksN_long {b : List Nat} (h : ¬ b.length < 7) : chunksN b = leN (b.take 7) :: chunksN (b.drop 7) := by
  conv => lhs; rw [chunksN, dif_neg h]
theorem chunksN_inj : ∀ (n : Nat) {a b : List Nat}, a.length ≤ n → (∀ x ∈ a, x < 256) → (∀ x ∈ b, x < 256) → chunksN a = chunksN b → a = b := by
  intro n
  induction n with
  | zero =>
    intro a b hl ha hb h
    have hlen := congrArg List.length h
    rw [most_len, most_len] at hlen
    have h7 : a.length < 7 := by omega
    have h7' : b.length < 7 := by omega
    rw [chunksN_short h7, chunksN_short h7'] at h
    exact mark_inj ha hb (by simpa using h)
  | succ n ih =>
    intro a b hl ha hb h
    have hlen := congrArg List.length h
    rw [most_len, most_len] at hlen
    by_cases h7 : a.length < 7
    · have h7' : b.length < 7 := by omega
      rw [chunksN_short h7, chunksN_short h7'] at h
      exact mark_inj ha hb (by simpa using h)
    · have h7' : ¬ b.length < 7 := by omega
      rw [chunksN_long h7, chunksN_long h7'] at h
      injection h with e1 e2
      have t1 : a.take 7 = b.take 7 := leN_inj (by rw [List.length_take, List.length_take]; omega) (fun x hx => ha x (List.mem_of_mem_take hx)) (fun x hx => hb x (List.mem_of_mem_take hx)) e1
      have t2 : a.drop 7 = b.drop 7 := ih (by rw [List.length_drop]; omega) (fun x hx => ha x (List.mem_of_mem_drop hx)) (fun x hx => hb x (List.mem_of_mem_drop hx)) e2
      rw [← List.take_append_drop 7 a, ← List.take_append_drop 7 b, t1, t2]
theorem chunks_same {a b : List Nat} (ha : ∀ x ∈ a, x < 256) (hb : ∀ x ∈ b, x < 256) : chunksN a = chunksN b ↔ a = b := ⟨chunksN_inj _ (Nat.le_refl _) ha hb, fun h => by rw [h]⟩

/-- The difference of two texts. -/
def diffN (bs cs : List Nat) : List Nat := addP (monicN bs) ((monicN cs).map negP)
theorem negP_zero : negP 0 = 0 := by decide
theorem getD_negP (l : List Nat) (k : Nat) : (l.map negP).getD k 0 = negP (l.getD k 0) := by
  by_cases h : k < l.length
  · simp [List.getD, h]
  · simp [List.getD, Nat.le_of_not_lt h, negP_zero]
theorem getD_monic_lt (bs : List Nat) (hby : ∀ x ∈ bs, x < 256) (k : Nat) : (monicN bs).getD k 0 < 72057594037927936 := by
  by_cases hk : k < (monicN bs).length
  · rw [show (monicN bs).getD k 0 = (monicN bs)[k] by simp [List.getD, hk]]
    exact monicN_lt bs hby _ (List.getElem_mem hk)
  · simp [List.getD, Nat.le_of_not_lt hk]
theorem diff_getD (bs cs : List Nat) (k : Nat) : (diffN bs cs).getD k 0 = ((monicN bs).getD k 0 + negP ((monicN cs).getD k 0)) % 2305843009213693951 := by
  rw [diffN, addP, trimZ_getD, addL_getD, getD_negP]
theorem diff_zero (bs cs : List Nat) (hb : ∀ x ∈ bs, x < 256) (hc : ∀ x ∈ cs, x < 256) (k : Nat) : (diffN bs cs).getD k 0 = 0 ↔ (monicN bs).getD k 0 = (monicN cs).getD k 0 := by
  rw [diff_getD]
  have h1 := getD_monic_lt bs hb k
  have h2 := getD_monic_lt cs hc k
  generalize (monicN bs).getD k 0 = x at *
  generalize (monicN cs).getD k 0 = y at *
  unfold negP
  omega
theorem monic_last (bs : List Nat) : (monicN bs).getD (chunksN bs).length 0 = 1 := by
  rw [monicN]
  have : (chunksN bs).length = (chunksN bs).reverse.length := by simp
  rw [this]
  simp [List.getD]
theorem monic_inj {bs cs : List Nat} (h : ∀ k, (monicN bs).getD k 0 = (monicN cs).getD k 0) : chunksN bs = chunksN cs := by
  have hl : (chunksN bs).length = (chunksN cs).length := by
    rcases Nat.lt_trichotomy (chunksN bs).length (chunksN cs).length with hlt | he | hgt
    · have h1 := h (chunksN cs).length
      rw [monic_last, show (monicN bs).getD (chunksN cs).length 0 = 0 by simp [List.getD, List.getElem?_eq_none (by rw [len_monicN]; omega : (monicN bs).length ≤ (chunksN cs).length)]] at h1
      omega
    · exact he
    · have h1 := h (chunksN bs).length
      rw [monic_last, show (monicN cs).getD (chunksN bs).length 0 = 0 by simp [List.getD, List.getElem?_eq_none (by rw [len_monicN]; omega : (monicN cs).length ≤ (chunksN bs).length)]] at h1
      omega
  have hm : monicN bs = monicN cs := by
    refine List.ext_getElem (by rw [len_monicN, len_monicN, hl]) fun i h1 h2 => ?_
    have := h i
    simpa [List.getD, h1, h2] using this
  have h3 : (chunksN bs).reverse = (chunksN cs).reverse := by
    unfold monicN at hm
    exact List.append_cancel_right hm
  simpa using congrArg List.reverse h3
theorem diff_nil {bs cs : List Nat} (hb : ∀ x ∈ bs, x < 256) (hc : ∀ x ∈ cs, x < 256) : diffN bs cs = [] ↔ bs = cs := by
  constructor
  · intro h
    refine (chunks_same hb hc).1 (monic_inj fun k => (diff_zero bs cs hb hc k).1 ?_)
    rw [h]
    simp
  · intro h
    subst h
    rcases Nat.eq_zero_or_pos (diffN bs bs).length with h0 | hp
    · exact List.length_eq_zero_iff.1 h0
    · have h1 := trimZ_last (l := addL (monicN bs) ((monicN bs).map negP)) hp
      exact (h1 ((diff_zero bs bs hb hb _).2 rfl)).elim
theorem diff_len (bs cs : List Nat) : (diffN bs cs).length ≤ mostN bs cs + 1 := by
  rw [diffN, addP, trimZ_len]
  refine Nat.le_trans (nzc_le _ _) ?_
  rw [len_addL, List.length_map, len_monicN, len_monicN]
  unfold mostN
  omega
theorem diff_lt (bs cs : List Nat) : ∀ y ∈ diffN bs cs, y < 2305843009213693951 := trimZ_lt (lt_addL _ _)
theorem pval_neg (l : List Nat) (x : Nat) : (pval (l.map negP) x + pval l x) % 2305843009213693951 = 0 := by
  have h := pval_sum 2305843009213693951 x l.length [] (l.map negP) l (by simp) (by simp) (Nat.le_refl _) (fun k => by
    rw [getD_negP, negP_add]
    simp)
  rw [← h]
  rfl
theorem diff_pval (bs cs : List Nat) (a : Nat) : pval (diffN bs cs) a % 2305843009213693951 = 0 ↔ horN a (chunksN bs) = horN a (chunksN cs) := by
  rw [diffN, pval_addP, hor_pval, hor_pval, show (chunksN bs).reverse ++ [1] = monicN bs from rfl, show (chunksN cs).reverse ++ [1] = monicN cs from rfl]
  have h := pval_neg (monicN cs) a
  generalize pval (monicN bs) a = x at *
  generalize pval (monicN cs) a = y at *
  generalize pval ((monicN cs).map negP) a = z at *
  omega
theorem meets_few {bs cs : List Nat} (hb : ∀ x ∈ bs, x < 256) (hc : ∀ x ∈ cs, x < 256) (hne : bs ≠ cs) (rs : List Nat) (hnd : rs.Nodup) (hr : ∀ a ∈ rs, a < 2305843009213693951 ∧ horN a (chunksN bs) = horN a (chunksN cs)) : rs.length ≤ mostN bs cs := by
  have hp : 0 < (diffN bs cs).length := by
    rcases Nat.eq_zero_or_pos (diffN bs cs).length with h0 | hp
    · exact (hne ((diff_nil hb hc).1 (List.length_eq_zero_iff.1 h0))).elim
    · exact hp
  have hlast : (diffN bs cs).getD ((diffN bs cs).length - 1) 0 % 2305843009213693951 ≠ 0 := by
    have h1 := trimZ_last (l := addL (monicN bs) ((monicN cs).map negP)) hp
    rw [Nat.mod_eq_of_lt (getD_mem_lt (by omega) (diff_lt bs cs) _)]
    exact h1
  have h := roots_few prime61 hp hlast hnd (fun y hy => ⟨(hr y hy).1, (diff_pval bs cs y).2 (hr y hy).2⟩)
  have := diff_len bs cs
  omega
end Go.Proofs.Ytaeebipcgeembaa
