/-
  Contracts of pcg64.Steps in plain numbers; the reference's many steps. Conditions: none.
-/
import Derived.Test.YtjgcpacdiiifjaaPcgI
namespace Go.Proofs.Ytjgcpacdiiifjaa
open Go.RowKit Go.Shelf
set_option linter.unusedVariables false

theorem pcgM_4 : pcgM % 4 = 1 := by decide
theorem odd1_2 (I : Nat) : odd1 I % 2 = 1 := by unfold odd1; omega
theorem bitB_iff (S k : Nat) : bitB S k = decide (m128 S / 2 ^ k % 2 = 1) := rfl
theorem bit_same {S Y k : Nat} (h : bitB S k = bitB Y k) : m128 S / 2 ^ k % 2 = m128 Y / 2 ^ k % 2 := by
  unfold bitB at h
  have h1 : m128 S / 2 ^ k % 2 = 1 ↔ m128 Y / 2 ^ k % 2 = 1 := by
    constructor
    · intro e; rw [e] at h; exact of_decide_eq_true h.symm
    · intro e; rw [e] at h; exact of_decide_eq_true h
  omega
theorem bit_diff {S Y k : Nat} (h : bitB S k ≠ bitB Y k) : m128 S / 2 ^ k % 2 ≠ m128 Y / 2 ^ k % 2 := fun e => h (by unfold bitB; rw [e])
theorem m128_low {A B k : Nat} (hk : k ≤ 128) (h : m128 A = m128 B) : A % 2 ^ k = B % 2 ^ k := by
  rw [m128_two, m128_two] at h
  have hd : 2 ^ k ∣ 2 ^ 128 := Nat.pow_dvd_pow 2 hk
  rw [← Nat.mod_mod_of_dvd A hd, h, Nat.mod_mod_of_dvd _ hd]
theorem m128_low' (A k : Nat) (hk : k ≤ 128) : m128 A % 2 ^ k = A % 2 ^ k := m128_low hk (m128_m128 A)
/-- What is known of a state and a number of steps behind k rounds. -/
def StP (X Y I k S n : Nat) : Prop := m128 S = m128 (stp pcgM (odd1 I) X n) ∧ n < 2 ^ k ∧ m128 S % 2 ^ k = m128 Y % 2 ^ k
theorem stP_zero (X Y I : Nat) : StP X Y I 0 X 0 := ⟨rfl, by rw [Nat.pow_zero]; omega, by rw [Nat.pow_zero, Nat.mod_one, Nat.mod_one]⟩
theorem stP_same {X Y I k S n : Nat} (hs : StP X Y I k S n) (h : bitB S k = bitB Y k) : StP X Y I (k + 1) S n :=
  ⟨hs.1, Nat.lt_of_lt_of_le hs.2.1 (Nat.pow_le_pow_right (by omega) (by omega)), same_bit hs.2.2 (bit_same h)⟩
theorem stp_m128 {A B : Nat} (M a j : Nat) (h : m128 A = m128 B) : m128 (stp M a A j) = m128 (stp M a B j) := by
  rw [m128_two, m128_two] at *
  exact stp_congr h j
theorem stP_diff {X Y I k S n : Nat} (hk : k < 128) (hs : StP X Y I k S n) (h : bitB S k ≠ bitB Y k) : StP X Y I (k + 1) (S * pcgM ^ (2 ^ k) + stp pcgM (odd1 I) 0 (2 ^ k)) (n + 2 ^ k) := by
  rw [← stp_lin]
  refine ⟨by rw [← stp_add]; exact stp_m128 _ _ _ hs.1, by have := hs.2.1; rw [Nat.pow_succ]; omega, ?_⟩
  have h1 := step_bit pcgM_4 (odd1_2 I) hs.2.2 (bit_diff h)
  rw [m128_low' _ _ (by omega), ← h1]
  exact m128_low (by omega) (stp_m128 _ _ _ (m128_m128 S).symm)
theorem stp_only128 {X I n m : Nat} (hn : n < 2 ^ 128) (hm : m < 2 ^ 128) (h : m128 (stp pcgM (odd1 I) X n) = m128 (stp pcgM (odd1 I) X m)) : n = m := by
  rw [m128_two, m128_two] at h
  have := stp_only pcgM_4 (odd1_2 I) X n m 128 h 128 (Nat.le_refl _)
  rwa [Nat.mod_eq_of_lt hn, Nat.mod_eq_of_lt hm] at this
theorem stp_exists (X Y I : Nat) : ∀ k, k ≤ 128 → ∃ n, n < 2 ^ k ∧ stp pcgM (odd1 I) X n % 2 ^ k = Y % 2 ^ k := by
  intro k
  induction k with
  | zero => intro _; exact ⟨0, by rw [Nat.pow_zero]; omega, by rw [Nat.pow_zero, Nat.mod_one, Nat.mod_one]⟩
  | succ k ih =>
    intro hk
    obtain ⟨n, hn, h⟩ := ih (by omega)
    by_cases hb : stp pcgM (odd1 I) X n / 2 ^ k % 2 = Y / 2 ^ k % 2
    · exact ⟨n, Nat.lt_of_lt_of_le hn (Nat.pow_le_pow_right (by omega) (by omega)), same_bit h hb⟩
    · exact ⟨n + 2 ^ k, by rw [Nat.pow_succ]; omega, by rw [← stp_add]; exact step_bit pcgM_4 (odd1_2 I) h hb⟩
theorem steps_n (X Y I : Nat) : ∃ n, n < 2 ^ 128 ∧ m128 (stp pcgM (odd1 I) X n) = m128 Y ∧ ∀ W, Calls Try.prog 40 #[.agg #[.int .u64 (hi64 (X) : Nat), .int .u64 (lo64 (X) : Nat)], .agg #[.int .u64 (hi64 (Y) : Nat), .int .u64 (lo64 (Y) : Nat)], .agg #[.int .u64 (hi64 (I) : Nat), .int .u64 (lo64 (I) : Nat)]] W (Ret128 W n) := by
  obtain ⟨n, hn, he⟩ := stp_exists X Y I 128 (Nat.le_refl _)
  rw [← m128_two, ← m128_two] at he
  refine ⟨n, hn, he, fun W => ?_⟩
  refine (steps_g (fun k => pcgM ^ (2 ^ k)) (fun k => stp pcgM (odd1 I) 0 (2 ^ k)) X Y I W (StP X Y I)
    (fun W => by rw [lineT_zero, lineP_zero]; exact one_u I W)
    (fun S k W hk => bit_u S k (by omega) W)
    (fun k S W => of_l _ _ _ W)
    (fun k W => by rw [← lineT_two, ← lineP_two]; exact twice_u _ _ W)
    (fun k W hk => (shl_i 1 (k : Int) (by omega) W).mono fun e w' h => by rw [show (k : Int).toNat = k by omega, Nat.one_mul] at h; exact h)
    (fun n m W => plus_u n m W)
    (stP_zero X Y I) (fun k S n _ hs h => stP_same hs h) (fun k S n hk hs h => stP_diff (by omega) hs h)).mono ?_
  rintro e w' ⟨k, S, m, hs, hc, hk, rfl, hb⟩
  have hS : m128 S = m128 Y := by
    rcases hc with h | ⟨h1, h2⟩
    · have := hs.2.2
      rw [h, m128_two, m128_two, Nat.mod_mod, Nat.mod_mod] at this
      rw [m128_two, m128_two]
      exact this
    · rw [← val2_of, h1, h2, val2_of]
  have hm : m < 2 ^ 128 := Nat.lt_of_lt_of_le hs.2.1 (Nat.pow_le_pow_right (by omega) hk)
  have e : m = n := stp_only128 hm hn (by rw [← hs.1, hS, he])
  subst e
  exact ⟨rfl, hb⟩
end Go.Proofs.Ytjgcpacdiiifjaa
