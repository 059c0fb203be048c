/-
  Walks of the reference's Mod and of the law MersFolds. Conditions: words fit 64 bits.
-/
import Derived.Test.YtbgppkgcdmpajaaMersL
import Derived.Test.YtbgppkgcdmpajaaDivR
namespace Go.Proofs.Ytbgppkgcdmpajaa
open Go.RowKit Go.Shelf
set_option linter.unusedVariables false

set_option maxHeartbeats 1000000 in
theorem mod_ref (X n : Nat) (hn : n < 18446744073709551616) (w : World) : Calls Try.prog 17 #[.agg #[.int .u64 (hi64 (X) : Nat), .int .u64 (lo64 (X) : Nat)], .int .u64 n] w fun e w' => e = .returned (.int .u64 (mdn n (m128 X) : Nat)) ∧ Below w.heap.size w w' := by
  by_cases h0 : n = 0
  · subst h0
    rw [mdn_zero]
    show Calls Try.prog 17 #[.agg #[.int .u64 (hi64 (X) : Nat), .int .u64 (lo64 (X) : Nat)], .int .u64 0] w _
    go_enter Try.func17, Try.ntmps17
    go_wp2
    go_ret
    exact ⟨rfl, by (repeat (first | exact Below.refl _ _ | assumption | (refine Below.alloc ?_ (by first | omega | (simp; done) | (simp; omega)) _) | (refine Below.setCell ?_ (by first | omega | (simp; done) | (simp; omega)) _) | refine Below.drew ?_ | refine below_drewN ?_ _))⟩
  · have t0 : ((n : Int) == 0) = false := by rw [beq_eq_false_iff_ne]; omega
    have hr1 : m128 X % n < n := Nat.mod_lt _ (by omega)
    have hw : wordV (m128 X % n) 0 = mdn n (m128 X) := by rw [word_lo, mdn_pos (by omega)]; exact lo_small (by omega)
    have HW := hide hw
    have hX : m128 X < 2 ^ 128 := by rw [two128]; exact m128_lt X
    have hY : n < 2 ^ 64 := by omega
    have hR : m128 X % n < 2 ^ 129 := Nat.lt_trans hr1 (Nat.lt_of_lt_of_le hY (Nat.pow_le_pow_right (by omega) (by omega)))
    have HX := hide hX; have HY := hide hY; have HR := hide hR
    clear hw hX hY hR hr1
    go_enter Try.func17, Try.ntmps17
    go_wp2_with fail
    refine (of2_u X _).mono ?_
    rintro e w1 ⟨A1, c1, rfl, r1, hb⟩
    have B : Below w.heap.size w w1 := below_call (by (repeat (first | exact Below.refl _ _ | assumption | (refine Below.alloc ?_ (by first | omega | (simp; done) | (simp; omega)) _) | (refine Below.setCell ?_ (by first | omega | (simp; done) | (simp; omega)) _) | refine Below.drew ?_ | refine below_drewN ?_ _))) (Nat.le_refl _) hb
    clear hb
    have r1' : Rs w1 A1 (is (bitsOf (m128 X) 128)) := by rw [m128_pow, bitsOf_mod]; exact r1
    clear r1
    go_wp2_with fail
    refine (of_u n 64 64 rfl (by omega) _ hn).mono ?_
    rintro e w2 ⟨A2, c2, rfl, r2, hb⟩
    replace r1' := Rs.go hb r1'
    replace B : Below w.heap.size w w2 := below_call B (Nat.le_refl _) hb
    clear hb
    go_wp2_with fail
    refine (div_ref A1 A2 128 c1 64 c2 (m128 X) n _ r1' r2 HX.out HY.out (by omega) (by omega) (by omega) 129 (by decide)).mono ?_
    rintro e w3 ⟨A3, c3, A4, c4, rfl, r3, r4, hb⟩
    replace B : Below w.heap.size w w3 := below_call B (Nat.le_refl _) hb
    clear hb r1' r2 r3
    go_wp2_with fail
    refine (word_any A4 129 c4 _ _ 0 0 rfl _ r4 HR.out (by omega) (by omega)).mono ?_
    rintro e w4 ⟨rfl, rfl⟩
    go_wp2
    go_ret
    exact ⟨ret_i (by rw [HW.out]), B⟩
set_option maxRecDepth 100000 in
set_option maxHeartbeats 2000000 in
theorem folds_u (k : Int) (X : Nat) (w : World) : Calls Try.prog 3 #[.int .i64 k, .agg #[.int .u64 (hi64 (X) : Nat), .int .u64 (lo64 (X) : Nat)]] w fun e w' => e = .returned (.bool true) ∧ Below w.heap.size w w' := by
  have hpl := prm_le k
  have H1 := hide (Pref_any k)
  have H2 := hide (Fold_any k X)
  have H3 := hide (mod_ref X (prm k) (by omega))
  generalize mdn (prm k) (m128 X) = r at *
  generalize prm k = P at *
  go_enter Try.func3, Try.ntmps3
  go_wp2_with fail
  refine (awake04 _).mono ?_
  rintro e w1 ⟨rfl, hb⟩
  have X1 := BoxU.call hb (show BoxU _ w.heap.size X from (by (refine ⟨?_, ?_, ?_, ?_, ?_⟩ <;> simp [go_sem] <;> omega)))
  have B : Below w.heap.size w w1 := below_call (by (repeat (first | exact Below.refl _ _ | assumption | (refine Below.alloc ?_ (by first | omega | (simp; done) | (simp; omega)) _) | (refine Below.setCell ?_ (by first | omega | (simp; done) | (simp; omega)) _) | refine Below.drew ?_ | refine below_drewN ?_ _))) (Nat.le_refl _) hb
  clear hb
  go_wp2_with fail
  go_region_held3 (fun v => BoxU v w.heap.size X) (exact X1) (((first | (go_at_call 16; (with_reducible refine (H2.out _).mono ?_); rintro e w2 ⟨rfl, hb⟩) | (go_at_call 18; (with_reducible refine (H1.out _).mono ?_); rintro e w2 ⟨rfl, rfl⟩; have hb := Below.refl w2.heap.size w2) | (go_at_call 17; (with_reducible refine (H3.out _).mono ?_); rintro e w2 ⟨rfl, hb⟩)); replace X1 := BoxU.call hb X1; replace B : Below w.heap.size w _ := below_call (by (repeat (first | exact Below.refl _ _ | assumption | (refine Below.alloc ?_ (by first | omega | (simp; done) | (simp; omega)) _) | (refine Below.setCell ?_ (by first | omega | (simp; done) | (simp; omega)) _) | refine Below.drew ?_ | refine below_drewN ?_ _))) (Nat.le_refl _) hb; clear hb))
  go_wp2_with fail
  go_ret
  exact ⟨rfl, by (repeat (first | exact Below.refl _ _ | assumption | (refine Below.alloc ?_ (by first | omega | (simp; done) | (simp; omega)) _) | (refine Below.setCell ?_ (by first | omega | (simp; done) | (simp; omega)) _) | refine Below.drew ?_ | refine below_drewN ?_ _))⟩
theorem folds_law (k : Int) (ch cl : Nat) (w : World) (h1 : ch < 18446744073709551616) (h2 : cl < 18446744073709551616) : Calls Try.prog 3 #[.int .i64 k, .agg #[.int .u64 ch, .int .u64 cl]] w fun e w' => e = .returned (.bool true) ∧ Below w.heap.size w w' := by
  have h := folds_u k (val2 ch cl) w
  rw [hi64_val h1 h2, lo64_val h2] at h
  exact h
end Go.Proofs.Ytbgppkgcdmpajaa
