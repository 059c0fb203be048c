/-
  Walk of the law WideFours. Conditions: numbers fit 256 bits.
-/
import Derived.Test.YtioieoinkjfcfaaWide4lt
import Derived.Test.YtioieoinkjfcfaaWide4ge
import Derived.Test.YtioieoinkjfcfaaWide4in0
import Derived.Test.YtioieoinkjfcfaaWide4in1
import Derived.Test.YtioieoinkjfcfaaShl4
import Derived.Test.YtioieoinkjfcfaaBitsS
import Derived.Test.YtioieoinkjfcfaaWideA
namespace Go.Proofs.Ytioieoinkjfcfaa
open Go.RowKit Go.Shelf
set_option linter.unusedVariables false
attribute [local go_sem] eq4

theorem carry4 (X Y : Nat) (hX : X < 2 ^ 256) (hY : Y < 2 ^ 256) : (((carry X Y 256 : Nat) : Int) == 1) = (((wcarry X Y 4 : Nat) : Int) == 1) := by
  have e : wcarry X Y 4 = carry X Y 256 := by
    unfold wcarry carry
    rw [← pow64]
  rw [e]
theorem lack4 (X Y : Nat) : (((lack X Y 256 : Nat) : Int) == 1) = (((wlack X Y 4 : Nat) : Int) == 1) := by
  have e : wlack X Y 4 = lack X Y 256 := by
    unfold wlack lack
    rw [← pow64]
  rw [e]
theorem dif4 (X Y : Nat) : dif X Y 256 = dif256 X Y := by
  unfold dif dif256
  rw [← pow64]
theorem wd_m256 (X k : Nat) (hk : k < 4) : wd (X % 2 ^ 256) k = wd X k := by
  rw [show (2 : Nat) ^ 256 = 2 ^ (64 * 4) from rfl, pow64]
  exact wd_mod X 4 k hk
theorem to4_m (A : Option Addr) (c X : Nat) (w : World) (hr : Rs w A (is (bitsOf X 256))) : Calls Try.prog 19 #[.slice A 256 c] w fun e w' => e = .returned (.agg #[.int .u64 (wd (X) 0 : Nat), .int .u64 (wd (X) 1 : Nat), .int .u64 (wd (X) 2 : Nat), .int .u64 (wd (X) 3 : Nat)]) ∧ Below w.heap.size w w' := by
  have h := to4_u A c (X % 2 ^ 256) w (rs_mod hr) (Nat.mod_lt _ (Nat.two_pow_pos _))
  rw [wd_m256 X 0 (by omega), wd_m256 X 1 (by omega), wd_m256 X 2 (by omega), wd_m256 X 3 (by omega)] at h
  exact h
theorem shl4_cap (X : Nat) (n : Int) (j : Nat) (hj : (j : Int) = min (max n 0) 256) (k : Nat) (hk : k < 4) : wd (X * 2 ^ n.toNat) k = wd (X * 2 ^ j) k := by
  by_cases h : n ≤ 256
  · rw [show n.toNat = j by omega]
  · rw [wd_gone X _ k (by omega) hk, wd_gone X _ k (by omega) hk]
theorem fours_u (X Y : Nat) (hX : X < 2 ^ 256) (hY : Y < 2 ^ 256) (n : Int) (w : World) : Calls Try.prog 3 #[.agg #[.int .u64 (wd (X) 0 : Nat), .int .u64 (wd (X) 1 : Nat), .int .u64 (wd (X) 2 : Nat), .int .u64 (wd (X) 3 : Nat)], .agg #[.int .u64 (wd (Y) 0 : Nat), .int .u64 (wd (Y) 1 : Nat), .int .u64 (wd (Y) 2 : Nat), .int .u64 (wd (Y) 3 : Nat)], .int .i64 n] w fun e w' => e = .returned (.bool true) ∧ Below w.heap.size w w' := by
  obtain ⟨j, hj⟩ : ∃ j : Nat, (j : Int) = min (max n 0) 256 := ⟨(min (max n 0) 256).toNat, by omega⟩
  have h4 : ∀ W A c A' c', Rs W A (is (bitsOf X 256)) → Rs W A' (is (bitsOf Y 256)) → Calls Try.prog 16 #[.slice A 256 c, .slice A' 256 c', .int .i64 256] W (RetBI W (X + Y) 256 (carry X Y 256 : Nat)) := fun W A c A' c' r r' => add_r A A' 256 c 256 c' X Y 256 256 rfl W r r' hX hY (by omega) (by omega) (by omega)
  have h6 : ∀ W A c A' c', Rs W A (is (bitsOf X 256)) → Rs W A' (is (bitsOf Y 256)) → Calls Try.prog 18 #[.slice A 256 c, .slice A' 256 c', .int .i64 256] W (RetBI W (dif256 X Y) 256 (lack X Y 256 : Nat)) := fun W A c A' c' r r' => dif4 X Y ▸ sub_r A A' 256 c 256 c' X Y 256 256 rfl W r r' hX hY (by omega) (by omega) (by omega)
  have h10 : ∀ W A c A' c', Rs W A (is (bitsOf X 256)) → Rs W A' (is (bitsOf Y 256)) → Calls Try.prog 21 #[.slice A 256 c, .slice A' 256 c'] W fun e w' => e = .returned (.int .i64 (cmpV X Y)) ∧ W = w' := fun W A c A' c' r r' => cmp_ref A A' 256 c 256 c' _ _ X Y W r r' hX hY (by omega) (by omega)
  have h13 : ∀ W A c, Rs W A (is (bitsOf X 256)) → Calls Try.prog 24 #[.slice A 256 c] W fun e w' => e = .returned (.int .i64 (lenB X 256 : Nat)) ∧ W = w' := fun W A c r => len_ref A 256 c _ X W r (by omega)
  have h14 := shl4_u X n
  rw [shl4_cap X n j hj 0 (by omega), shl4_cap X n j hj 1 (by omega), shl4_cap X n j hj 2 (by omega), shl4_cap X n j hj 3 (by omega)] at h14
  have h15 : ∀ W A c, Rs W A (is (bitsOf X 256)) → Calls Try.prog 26 #[.slice A 256 c, .int .i64 j, .int .i64 256] W (RetB W (X * 2 ^ j) 256) := fun W A c r => shl_r A 256 c X j j rfl (by omega) 256 256 rfl (by omega) (by omega) W r hX
  have h11 := bit4_u X n
  have hcy := carry4 X Y hX hY
  have hlk := lack4 X Y
  by_cases hn : 0 ≤ n ∧ n < 256
  · have hB : bit4B X n = decide (bt X n.toNat = 1) := by unfold bit4B; rw [decide_eq_true hn, Bool.true_and]
    rw [hB] at h11
    rcases (show bt X n.toNat = 0 ∨ bt X n.toNat = 1 by have := bt_le X n.toNat; omega) with hq | hq
    · have h11' : ∀ W, Calls Try.prog 22 #[.agg #[.int .u64 (wd (X) 0 : Nat), .int .u64 (wd (X) 1 : Nat), .int .u64 (wd (X) 2 : Nat), .int .u64 (wd (X) 3 : Nat)], .int .i64 n] W fun e w' => e = .returned (.bool false) ∧ Below W.heap.size W w' := by rw [hq] at h11; exact h11
      exact fours_in0 _ _ _ _ _ _ _ _ _ _ _ _ _ _ _ _ _ _ _ _ _ _ _ _ X n _ _ _ _ _ _ _ _ hcy hlk rfl hj.symm hn.1 hn.2 hq w (of4_ref X) (of4_ref Y) (add4_u X Y) h4 (sub4_u X Y) h6 (fun W A c r => to4_m A c _ W r) (fun W A c r => to4_m A c _ W r) (cmp4_u X Y hX hY) h10 h11' (len4_u X hX) h13 h14 h15 (fun W A c r => to4_m A c _ W r) (of4_any _)
    · have h11' : ∀ W, Calls Try.prog 22 #[.agg #[.int .u64 (wd (X) 0 : Nat), .int .u64 (wd (X) 1 : Nat), .int .u64 (wd (X) 2 : Nat), .int .u64 (wd (X) 3 : Nat)], .int .i64 n] W fun e w' => e = .returned (.bool true) ∧ Below W.heap.size W w' := by rw [hq] at h11; exact h11
      exact fours_in1 _ _ _ _ _ _ _ _ _ _ _ _ _ _ _ _ _ _ _ _ _ _ _ _ X n _ _ _ _ _ _ _ _ hcy hlk rfl hj.symm hn.1 hn.2 hq w (of4_ref X) (of4_ref Y) (add4_u X Y) h4 (sub4_u X Y) h6 (fun W A c r => to4_m A c _ W r) (fun W A c r => to4_m A c _ W r) (cmp4_u X Y hX hY) h10 h11' (len4_u X hX) h13 h14 h15 (fun W A c r => to4_m A c _ W r) (of4_any _)
  · have hB : bit4B X n = false := by unfold bit4B; rw [decide_eq_false hn, Bool.false_and]
    rw [hB] at h11
    by_cases hlt : n < 0
    · exact fours_lt _ _ _ _ _ _ _ _ _ _ _ _ _ _ _ _ _ _ _ _ _ _ _ _ X n _ _ _ _ _ _ _ _ hcy hlk rfl hj.symm hlt w (of4_ref X) (of4_ref Y) (add4_u X Y) h4 (sub4_u X Y) h6 (fun W A c r => to4_m A c _ W r) (fun W A c r => to4_m A c _ W r) (cmp4_u X Y hX hY) h10 h11 (len4_u X hX) h13 h14 h15 (fun W A c r => to4_m A c _ W r) (of4_any _)
    · exact fours_ge _ _ _ _ _ _ _ _ _ _ _ _ _ _ _ _ _ _ _ _ _ _ _ _ X n _ _ _ _ _ _ _ _ hcy hlk rfl hj.symm (by omega) w (of4_ref X) (of4_ref Y) (add4_u X Y) h4 (sub4_u X Y) h6 (fun W A c r => to4_m A c _ W r) (fun W A c r => to4_m A c _ W r) (cmp4_u X Y hX hY) h10 h11 (len4_u X hX) h13 h14 h15 (fun W A c r => to4_m A c _ W r) (of4_any _)
def vl4 (a0 a1 a2 a3 : Nat) : Nat := a0 + 18446744073709551616 * (a1 + 18446744073709551616 * (a2 + 18446744073709551616 * a3))
theorem vl4_lt {a0 a1 a2 a3 : Nat} (h0 : a0 < 18446744073709551616) (h1 : a1 < 18446744073709551616) (h2 : a2 < 18446744073709551616) (h3 : a3 < 18446744073709551616) : vl4 a0 a1 a2 a3 < 2 ^ 256 := by
  show vl4 a0 a1 a2 a3 < 115792089237316195423570985008687907853269984665640564039457584007913129639936
  unfold vl4
  omega
theorem vl4_wd {a0 a1 a2 a3 : Nat} (h0 : a0 < 18446744073709551616) (h1 : a1 < 18446744073709551616) (h2 : a2 < 18446744073709551616) (h3 : a3 < 18446744073709551616) : wd (vl4 a0 a1 a2 a3) 0 = a0 ∧ wd (vl4 a0 a1 a2 a3) 1 = a1 ∧ wd (vl4 a0 a1 a2 a3) 2 = a2 ∧ wd (vl4 a0 a1 a2 a3) 3 = a3 := by
  rw [wd0, wd1, wd2, wd3]
  unfold vl4
  omega
theorem fours_law (a0 a1 a2 a3 b0 b1 b2 b3 : Nat) (n : Int) (w : World) (ha0 : a0 < 18446744073709551616) (ha1 : a1 < 18446744073709551616) (ha2 : a2 < 18446744073709551616) (ha3 : a3 < 18446744073709551616) (hb0 : b0 < 18446744073709551616) (hb1 : b1 < 18446744073709551616) (hb2 : b2 < 18446744073709551616) (hb3 : b3 < 18446744073709551616) :
    Calls Try.prog 3 #[.agg #[.int .u64 a0, .int .u64 a1, .int .u64 a2, .int .u64 a3], .agg #[.int .u64 b0, .int .u64 b1, .int .u64 b2, .int .u64 b3], .int .i64 n] w fun e w' => e = .returned (.bool true) ∧ Below w.heap.size w w' := by
  have h := fours_u (vl4 a0 a1 a2 a3) (vl4 b0 b1 b2 b3) (vl4_lt ha0 ha1 ha2 ha3) (vl4_lt hb0 hb1 hb2 hb3) n w
  obtain ⟨x0, x1, x2, x3⟩ := vl4_wd ha0 ha1 ha2 ha3
  obtain ⟨y0, y1, y2, y3⟩ := vl4_wd hb0 hb1 hb2 hb3
  rw [x0, x1, x2, x3, y0, y1, y2, y3] at h
  exact h
end Go.Proofs.Ytioieoinkjfcfaa
