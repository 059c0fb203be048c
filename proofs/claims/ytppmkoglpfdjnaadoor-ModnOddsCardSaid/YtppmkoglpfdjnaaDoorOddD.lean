/-
  The law ModnOdds, walked. Conditions: the library's table is as its text lays it.
-/
import Derived.Test.YtppmkoglpfdjnaaDoorOddC00
import Derived.Test.YtppmkoglpfdjnaaDoorOddC01
import Derived.Test.YtppmkoglpfdjnaaDoorOddC10
import Derived.Test.YtppmkoglpfdjnaaDoorOddC11
namespace Go.Proofs.YtppmkoglpfdjnaaDoor
open Go.RowKit
set_option linter.unusedVariables false

theorem odds_f6 (a : Nat) (ha : a < 18446744073709551616) : (a = 0 ∧ a / 2 ^ Lib.ctz 64 a = 0) ∨ (a ≠ 0 ∧ a / 2 ^ Lib.ctz 64 a % 2 = 1 ∧ IntKind.u64.wrap (((a / 2 ^ Lib.ctz 64 a : Nat) : Int) * 2 ^ Lib.ctz 64 a) = (a : Int)) := by
  by_cases h : a = 0
  · subst h; exact .inl ⟨rfl, Nat.zero_div _⟩
  · obtain ⟨h1, h2⟩ := ctz_spec a h ha
    refine .inr ⟨h, h1, ?_⟩
    have e : ((a / 2 ^ Lib.ctz 64 a : Nat) : Int) * 2 ^ Lib.ctz 64 a = (a : Int) := by
      have := congrArg (fun n : Nat => (n : Int)) h2
      simpa using this
    rw [e, IntKind.wrap_u64]
    omega
theorem lo_mod2 (X : Nat) : lo64 X % 2 = X % 2 := by unfold lo64; omega
theorem par_int (n : Nat) : ((n : Int) % 2 == 1) = decide (n % 2 = 1) := by
  rw [Bool.eq_iff_iff, beq_iff_eq, decide_eq_true_eq]; omega
theorem odds_u (a X : Nat) (ha : a < 18446744073709551616) (w : World) (hT : TabW w) : Calls Tryd.prog 3 #[.int .u64 a, .agg #[.int .u64 (hi64 (X) : Nat), .int .u64 (lo64 (X) : Nat)]] w fun e w' => e = .returned (.bool true) ∧ Below w.heap.size w w' := by
  have hk := ctz_le a ha
  have hf6 := odds_f6 a ha
  have S : ∀ {n : Nat} {v : Value} (f : Nat), (∀ W, Calls Tryd.prog f #[.int .u64 n] W fun e w' => e = .returned v ∧ W = w') → ∀ W, Calls Tryd.prog f #[.int .u64 n] W fun e w' => e = .returned v ∧ Below W.heap.size W w' :=
    fun f h W => (h W).mono (by rintro e w' ⟨rfl, rfl⟩; exact ⟨rfl, Below.refl _ _⟩)
  have H9 : ∀ W, Below w.heap.size w W → Calls Tryd.prog 11 #[.int .u64 a] W fun e w' => e = .returned (.tuple #[.int .u64 (a / 2 ^ Lib.ctz 64 a : Nat), .int .i64 (Lib.ctz 64 a : Nat)]) ∧ Below W.heap.size W w' := fun W h => (left_any a ha W (hT.call h)).mono (by rintro e w' ⟨rfl, rfl⟩; exact ⟨rfl, Below.refl _ _⟩)
  have H10 := S 12 (fun W => twos_ref a ha W)
  have z64 : ∀ W, Calls Tryd.prog 5 #[.int .u64 (0 : Nat)] W fun e w' => e = .returned (.tuple #[.int .u64 (0 : Nat), .bool false]) ∧ Below W.heap.size W w' := S 5 (fun W => odd_no 0 rfl W)
  have hh0 : hi64 0 = 0 := rfl
  have hl0 : lo64 0 = 0 := rfl
  have inv_of : X % 2 = 1 → hi64 (X * inv128 X) = 0 ∧ lo64 (X * inv128 X) = 1 := fun h => by
    have := inv128_mod X h
    unfold m128 at this
    unfold hi64 lo64
    omega
  have inv_a : a % 2 = 1 → IntKind.u64.wrap ((a : Int) * (inv64 a : Int)) = 1 := fun h => by rw [← Int.natCast_mul, u64_of, inv64_mod a h]; rfl
  have back : a % 2 = 1 → ∀ W, Calls Tryd.prog 5 #[.int .u64 (inv64 a : Nat)] W fun e w' => e = .returned (.tuple #[.int .u64 a, .bool true]) ∧ Below W.heap.size W w' := fun h W => by
    have hb := S 5 (fun W => odd_yes (inv64 a) (inv64_odd a h) (inv64_lt a) W) W
    rw [inv64_back a ha h] at hb
    exact hb
  have F1 := par_int a
  have F2 := par_int (lo64 X)
  rw [lo_mod2] at F2
  rcases Nat.mod_two_eq_zero_or_one a with h1 | h1 <;> rcases Nat.mod_two_eq_zero_or_one X with h2 | h2
  · rw [decide_eq_false (by omega)] at F1 F2
    have H2 := odd2_no X h2
    have H5 := of2_u 0
    have H8 := wtimes_u X 0
    rw [hh0, hl0] at H5
    exact odds_g00 a 0 0 _ _ _ _ 0 0 _ _ false false false rfl rfl _ _ _ w F1 F2 (fun h => by cases h) (fun _ => rfl) (fun h => by cases h) (fun _ => ⟨rfl, rfl⟩) hf6 hk awake03 (S 5 (fun W => odd_no a h1 W)) H2 z64 (of2_u X) H5 (fun W A d A' d' r r' => mul_u A A' d d' X 0 W r r') (fun W A d r => to2_u A d (X * 0) W r) (by rw [hh0, hl0] at H8; exact H8) H9 H10
  · rw [decide_eq_false (by omega)] at F1
    rw [decide_eq_true h2] at F2
    have H2 := odd2_yes X h2
    exact odds_g01 a 0 0 _ _ _ _ (hi64 (inv128 X)) (lo64 (inv128 X)) (hi64 (X * inv128 X)) (lo64 (X * inv128 X)) false true false rfl rfl _ _ _ w F1 F2 (fun h => by cases h) (fun _ => rfl) (fun _ => inv_of h2) (fun h => by cases h) hf6 hk awake03 (S 5 (fun W => odd_no a h1 W)) H2 z64 (of2_u X) (of2_u (inv128 X)) (fun W A d A' d' r r' => mul_u A A' d d' X (inv128 X) W r r') (fun W A d r => to2_u A d (X * inv128 X) W r) (wtimes_u X (inv128 X)) H9 H10
  · rw [decide_eq_true h1] at F1
    rw [decide_eq_false (by omega)] at F2
    have H2 := odd2_no X h2
    have H5 := of2_u 0
    have H8 := wtimes_u X 0
    rw [hh0, hl0] at H5
    exact odds_g10 a (inv64 a) a _ _ _ _ 0 0 _ _ true false true rfl rfl _ _ _ w F1 F2 (fun _ => ⟨inv_a h1, rfl⟩) (fun h => by cases h) (fun h => by cases h) (fun _ => ⟨rfl, rfl⟩) hf6 hk awake03 (S 5 (fun W => odd_yes a h1 ha W)) H2 (back h1) (of2_u X) H5 (fun W A d A' d' r r' => mul_u A A' d d' X 0 W r r') (fun W A d r => to2_u A d (X * 0) W r) (by rw [hh0, hl0] at H8; exact H8) H9 H10
  · rw [decide_eq_true h1] at F1
    rw [decide_eq_true h2] at F2
    have H2 := odd2_yes X h2
    exact odds_g11 a (inv64 a) a _ _ _ _ (hi64 (inv128 X)) (lo64 (inv128 X)) (hi64 (X * inv128 X)) (lo64 (X * inv128 X)) true true true rfl rfl _ _ _ w F1 F2 (fun _ => ⟨inv_a h1, rfl⟩) (fun h => by cases h) (fun _ => inv_of h2) (fun h => by cases h) hf6 hk awake03 (S 5 (fun W => odd_yes a h1 ha W)) H2 (back h1) (of2_u X) (of2_u (inv128 X)) (fun W A d A' d' r r' => mul_u A A' d d' X (inv128 X) W r r') (fun W A d r => to2_u A d (X * inv128 X) W r) (wtimes_u X (inv128 X)) H9 H10
theorem odds_law (a0 xh1 xl1 : Nat) (w : World) (ha : a0 < 18446744073709551616) (hh : xh1 < 18446744073709551616) (hl : xl1 < 18446744073709551616) (hT : TabW w) : Calls Tryd.prog 3 #[.int .u64 a0, .agg #[.int .u64 xh1, .int .u64 xl1]] w fun e w' => e = .returned (.bool true) ∧ Below w.heap.size w w' := by
  have h := odds_u a0 (val2 xh1 xl1) ha w hT
  rw [hi64_val hh hl, lo64_val hl] at h
  exact h
end Go.Proofs.YtppmkoglpfdjnaaDoor
