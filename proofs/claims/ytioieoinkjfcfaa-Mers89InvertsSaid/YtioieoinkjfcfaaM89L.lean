/-
  The law Mers89Inverts. Conditions: words fit 64 bits.
-/
import Derived.Test.YtioieoinkjfcfaaM89I
import Derived.Test.YtioieoinkjfcfaaM89J
import Derived.Test.YtioieoinkjfcfaaM89K
namespace Go.Proofs.Ytioieoinkjfcfaa
open Go.RowKit Go.Shelf
set_option linter.unusedVariables false

theorem pr_ne {p a b : Nat} (hp : isPrime p) (ha : ¬ a % p = 0) (hb : ¬ b % p = 0) : ¬ a * b % p = 0 := by
  intro h
  rcases prime_mul hp (Nat.dvd_of_mod_eq_zero h) with h1 | h1
  · exact ha (Nat.mod_eq_zero_of_dvd h1)
  · exact hb (Nat.mod_eq_zero_of_dvd h1)
theorem inv_mul (X : Nat) (h : ¬ X % P89 = 0) : X * (X ^ (P89 - 2) % P89) % P89 = 1 ∧ X ^ (P89 - 1) % P89 = 1 := by
  have h1 := fermat prime89 (a := X) (fun hd => h (Nat.mod_eq_zero_of_dvd hd))
  rw [← P89_val] at h1
  refine ⟨?_, h1⟩
  rw [Nat.mul_mod, Nat.mod_mod, ← Nat.mul_mod, ← Nat.pow_succ', show (P89 - 2).succ = P89 - 1 by have := P89_val; omega]
  exact h1
theorem word_ne (X : Nat) (hX : X < 340282366920938463463374607431768211456) (h : ¬ X = 0) : ¬ hi64 X = 0 ∨ (hi64 X = 0 ∧ ¬ lo64 X = 0) := by
  have hv := val2_of X
  rw [m128_id hX] at hv
  by_cases hh : hi64 X = 0
  · refine .inr ⟨hh, fun hl => h ?_⟩
    rw [← hv, hh, hl]
    rfl
  · exact .inl hh
theorem inverts05_u (X Y : Nat) (hX : X < 340282366920938463463374607431768211456) (hY : Y < 340282366920938463463374607431768211456) (w : World) : Calls Try.prog 5 #[.agg #[.int .u64 (hi64 (X) : Nat), .int .u64 (lo64 (X) : Nat)], .agg #[.int .u64 (hi64 (Y) : Nat), .int .u64 (lo64 (Y) : Nat)]] w fun e w' => e = .returned (.bool true) ∧ Below w.heap.size w w' := by
  have hX2 : X < 2 ^ 128 := by rw [two128]; exact hX
  have hY2 : Y < 2 ^ 128 := by rw [two128]; exact hY
  have hP2 : P89 < 2 ^ 128 := by rw [two128]; exact P89_lt
  have h3 : ∀ W A c, Rs W A (is (bitsOf X 128)) → Calls Try.prog 35 #[.slice A 128 c] W (Ret128 W (X % P89)) := fun W A c r => mod05_u A c X 128 hX2 (by omega) (by omega) W r
  have h8 : ∀ W A c, Rs W A (is (bitsOf Y 128)) → Calls Try.prog 35 #[.slice A 128 c] W (Ret128 W (Y % P89)) := fun W A c r => mod05_u A c Y 128 hY2 (by omega) (by omega) W r
  by_cases hz : X % P89 = 0
  · rw [hz] at h3
    exact invs05_zero _ _ _ _ _ w (minv89_z X hX hz) (of2_u X) h3
  · obtain ⟨e1, e2⟩ := inv_mul X hz
    have hx := mod_lt89 (X ^ (P89 - 2))
    have h9 := is_u (X ^ (P89 - 2) % P89)
    rw [m128_id hx, decide_eq_true (Nat.mod_lt _ P89_pos)] at h9
    have h10 := rmul05_u X (X ^ (P89 - 2) % P89) hX hx
    rw [e1] at h10
    have h6 : ∀ W A c A' c', Rs W A (is (bitsOf P89 128)) → Rs W A' (is (bitsOf 1 1)) → Calls Try.prog 18 #[.slice A 128 c, .slice A' 1 c', .int .i64 128] W (RetBI W (P89 - 1) 128 (lack P89 1 128 : Nat)) := by
      intro W A c A' c' r r'
      have h := sub_r A A' 128 c 1 c' P89 1 128 128 rfl W r r' hP2 (by decide) (by omega) (by omega) (by omega)
      rw [show dif P89 1 128 = P89 - 1 by decide] at h
      exact h
    have h12 := pow89_u X (P89 - 1) hX (Nat.lt_of_le_of_lt (Nat.sub_le _ _) P89_lt)
    rw [e2] at h12
    have h1 := minv89_u X hX hz
    have h5 : ∀ W, Calls Try.prog 30 #[.int .u64 1, .int .i64 1] W (RetB W 1 1) := fun W => of_u 1 1 1 rfl (by omega) W (by omega)
    by_cases hyz : Y % P89 = 0
    · rw [hyz] at h8
      rcases word_ne _ (mod_lt89 X) hz with hf | ⟨hf0, hf⟩
      · exact invs05_h_none _ _ _ _ _ _ _ _ _ _ _ _ _ _ _ _ hf w h1 (of2_u X) h3 p05 h5 h6 (of2_u Y) h8 h9 h10 (fun W A c r => to2_u A c _ W r) h12
      · unfold Ret128 at h3
        rw [hf0] at h3
        exact invs05_l_none _ _ _ _ _ _ _ _ _ _ _ _ _ _ _ hf w h1 (of2_u X) h3 p05 h5 h6 (of2_u Y) h8 h9 h10 (fun W A c r => to2_u A c _ W r) h12
    · have hm := pr_ne prime89 (a := X) (b := Y) (by rw [← P89_val]; exact hz) (by rw [← P89_val]; exact hyz)
      rw [← P89_val] at hm
      have h13 := mmul89_u X Y hX hY
      unfold Ret128 at h3 h8 h13
      rcases word_ne _ (mod_lt89 X) hz with hf | ⟨hf0, hf⟩
      · rcases word_ne _ (mod_lt89 Y) hyz with hg | ⟨hg0, hg⟩
        · rcases word_ne _ (mod_lt89 (X * Y)) hm with hq | ⟨hq0, hq⟩
          · exact invs05_h_hh _ _ _ _ _ _ _ _ _ _ _ _ _ _ _ _ _ _ _ _ hf hg hq w h1 (of2_u X) h3 p05 h5 h6 (of2_u Y) h8 h9 h10 (fun W A c r => to2_u A c _ W r) h12 h13
          · rw [hq0] at h13
            exact invs05_h_hl _ _ _ _ _ _ _ _ _ _ _ _ _ _ _ _ _ _ _ hf hg hq w h1 (of2_u X) h3 p05 h5 h6 (of2_u Y) h8 h9 h10 (fun W A c r => to2_u A c _ W r) h12 h13
        · rw [hg0] at h8
          rcases word_ne _ (mod_lt89 (X * Y)) hm with hq | ⟨hq0, hq⟩
          · exact invs05_h_lh _ _ _ _ _ _ _ _ _ _ _ _ _ _ _ _ _ _ _ hf hg hq w h1 (of2_u X) h3 p05 h5 h6 (of2_u Y) h8 h9 h10 (fun W A c r => to2_u A c _ W r) h12 h13
          · rw [hq0] at h13
            exact invs05_h_ll _ _ _ _ _ _ _ _ _ _ _ _ _ _ _ _ _ _ hf hg hq w h1 (of2_u X) h3 p05 h5 h6 (of2_u Y) h8 h9 h10 (fun W A c r => to2_u A c _ W r) h12 h13
      · rw [hf0] at h3
        rcases word_ne _ (mod_lt89 Y) hyz with hg | ⟨hg0, hg⟩
        · rcases word_ne _ (mod_lt89 (X * Y)) hm with hq | ⟨hq0, hq⟩
          · exact invs05_l_hh _ _ _ _ _ _ _ _ _ _ _ _ _ _ _ _ _ _ _ hf hg hq w h1 (of2_u X) h3 p05 h5 h6 (of2_u Y) h8 h9 h10 (fun W A c r => to2_u A c _ W r) h12 h13
          · rw [hq0] at h13
            exact invs05_l_hl _ _ _ _ _ _ _ _ _ _ _ _ _ _ _ _ _ _ hf hg hq w h1 (of2_u X) h3 p05 h5 h6 (of2_u Y) h8 h9 h10 (fun W A c r => to2_u A c _ W r) h12 h13
        · rw [hg0] at h8
          rcases word_ne _ (mod_lt89 (X * Y)) hm with hq | ⟨hq0, hq⟩
          · exact invs05_l_lh _ _ _ _ _ _ _ _ _ _ _ _ _ _ _ _ _ _ hf hg hq w h1 (of2_u X) h3 p05 h5 h6 (of2_u Y) h8 h9 h10 (fun W A c r => to2_u A c _ W r) h12 h13
          · rw [hq0] at h13
            exact invs05_l_ll _ _ _ _ _ _ _ _ _ _ _ _ _ _ _ _ _ hf hg hq w h1 (of2_u X) h3 p05 h5 h6 (of2_u Y) h8 h9 h10 (fun W A c r => to2_u A c _ W r) h12 h13
theorem inverts05_law (ah al bh bl : Nat) (w : World) (h1 : ah < 18446744073709551616) (h2 : al < 18446744073709551616) (h3 : bh < 18446744073709551616) (h4 : bl < 18446744073709551616) :
    Calls Try.prog 5 #[.agg #[.int .u64 ah, .int .u64 al], .agg #[.int .u64 bh, .int .u64 bl]] w fun e w' => e = .returned (.bool true) ∧ Below w.heap.size w w' := by
  have h := inverts05_u (val2 ah al) (val2 bh bl) (val2_lt h1 h2) (val2_lt h3 h4) w
  rw [hi64_val h1 h2, lo64_val h2, hi64_val h3 h4, lo64_val h4] at h
  exact h
end Go.Proofs.Ytioieoinkjfcfaa
