/-
  Walk of wide.short: a number of 256 bits by a small one. Conditions: the divisor is not 0.
-/
import Derived.Test.YtpfpdlgfngkdjaaFourW
import Derived.Test.YtpfpdlgfngkdjaaBoxB
namespace Go.Proofs.Ytpfpdlgfngkdjaa
open Go.RowKit Go.Shelf
set_option linter.unusedVariables false

set_option maxHeartbeats 2000000 in
theorem short_g (f0 f1 f2 f3 b q0 q1 q2 q3 r0 r1 r2 r3 : Nat) (w : World)
    (H3 : ∀ W, Calls Try.prog 45 #[.int .u64 0, .int .u64 f3, .int .u64 b] W fun e w' => e = .returned (.tuple #[.int .u64 q3, .int .u64 r3]) ∧ Below W.heap.size W w')
    (H2 : ∀ W, Calls Try.prog 45 #[.int .u64 r3, .int .u64 f2, .int .u64 b] W fun e w' => e = .returned (.tuple #[.int .u64 q2, .int .u64 r2]) ∧ Below W.heap.size W w')
    (H1 : ∀ W, Calls Try.prog 45 #[.int .u64 r2, .int .u64 f1, .int .u64 b] W fun e w' => e = .returned (.tuple #[.int .u64 q1, .int .u64 r1]) ∧ Below W.heap.size W w')
    (H0 : ∀ W, Calls Try.prog 45 #[.int .u64 r1, .int .u64 f0, .int .u64 b] W fun e w' => e = .returned (.tuple #[.int .u64 q0, .int .u64 r0]) ∧ Below W.heap.size W w')
    : Calls Try.prog 24 #[.agg #[.int .u64 f0, .int .u64 f1, .int .u64 f2, .int .u64 f3], .int .u64 b] w fun e w' => e = .returned (.tuple #[.agg #[.int .u64 q0, .int .u64 q1, .int .u64 q2, .int .u64 q3], .int .u64 r0]) ∧ Below w.heap.size w w' := by
  replace H3 := hide H3
  replace H2 := hide H2
  replace H1 := hide H1
  replace H0 := hide H0
  go_enter Try.func24, Try.ntmps24
  go_wp2_with fail
  refine wp_loop_rounds 5 ?_
  rw [rounds_succ]
  go_wp2_with fail
  refine (H3.out _).mono ?_
  rintro e w1 ⟨rfl, hb⟩
  have X1 := Box4.call hb (show Box4 _ w.heap.size (.int .u64 f0) (.int .u64 f1) (.int .u64 f2) (.int .u64 f3) from (by (refine ⟨?_, ?_, ?_, ?_, ?_, ?_, ?_, ?_, ?_⟩ <;> simp [go_sem] <;> omega)))
  have R1 := Box4.call hb (show Box4 _ (w.heap.size + 1) (.int .u64 0) (.int .u64 0) (.int .u64 0) (.int .u64 0) from (by (refine ⟨?_, ?_, ?_, ?_, ?_, ?_, ?_, ?_, ?_⟩ <;> simp [go_sem] <;> omega)))
  have B : Below w.heap.size w w1 := below_call (by (repeat (first | exact Below.refl _ _ | assumption | (refine Below.alloc ?_ (by first | omega | (simp; done) | (simp; omega)) _) | (refine Below.setCell ?_ (by first | omega | (simp; done) | (simp; omega)) _) | refine Below.drew ?_ | refine below_drewN ?_ _))) (Nat.le_refl _) hb
  clear hb
  have k1 : ¬ w.heap.size = w.heap.size + 1 := by omega
  have k2 : w.heap.size ≤ w.heap.size := by omega
  have k3 : w.heap.size ≤ w.heap.size + 1 := by omega
  have X2 : Box4 (w1.setCell ⟨w.heap.size, 3, none⟩ (.int .u64 q3)) w.heap.size (.int .u64 f0) (.int .u64 f1) (.int .u64 f2) (.int .u64 q3) := by (obtain ⟨a0, a1, a2, a3, g0, g1, g2, g3, l⟩ := X1; refine ⟨?_, ?_, ?_, ?_, ?_, ?_, ?_, ?_, ?_⟩ <;> simp [go_sem, *])
  have R2 := Box4.far (k := 3) (v := .int .u64 q3) R1 k1
  have B2 : Below w.heap.size w (w1.setCell ⟨w.heap.size, 3, none⟩ (.int .u64 q3)) := by (repeat (first | exact Below.refl _ _ | assumption | (refine Below.alloc ?_ (by first | omega | (simp; done) | (simp; omega)) _) | (refine Below.setCell ?_ (by first | omega | (simp; done) | (simp; omega)) _) | refine Below.drew ?_ | refine below_drewN ?_ _))
  go_wp2_with fail
  replace X1 := X2
  replace R1 := R2
  replace B := B2
  clear X2 R2 B2
  rw [rounds_succ]
  go_wp2_with fail
  refine (H2.out _).mono ?_
  rintro e w2 ⟨rfl, hb⟩
  replace X1 := Box4.call hb X1
  replace R1 := Box4.call hb R1
  replace B : Below w.heap.size w w2 := below_call B (Nat.le_refl _) hb
  clear hb
  have X2 : Box4 (w2.setCell ⟨w.heap.size, 2, none⟩ (.int .u64 q2)) w.heap.size (.int .u64 f0) (.int .u64 f1) (.int .u64 q2) (.int .u64 q3) := by (obtain ⟨a0, a1, a2, a3, g0, g1, g2, g3, l⟩ := X1; refine ⟨?_, ?_, ?_, ?_, ?_, ?_, ?_, ?_, ?_⟩ <;> simp [go_sem, *])
  have R2 := Box4.far (k := 2) (v := .int .u64 q2) R1 k1
  have B2 : Below w.heap.size w (w2.setCell ⟨w.heap.size, 2, none⟩ (.int .u64 q2)) := by (repeat (first | exact Below.refl _ _ | assumption | (refine Below.alloc ?_ (by first | omega | (simp; done) | (simp; omega)) _) | (refine Below.setCell ?_ (by first | omega | (simp; done) | (simp; omega)) _) | refine Below.drew ?_ | refine below_drewN ?_ _))
  go_wp2_with fail
  replace X1 := X2
  replace R1 := R2
  replace B := B2
  clear X2 R2 B2
  rw [rounds_succ]
  go_wp2_with fail
  refine (H1.out _).mono ?_
  rintro e w3 ⟨rfl, hb⟩
  replace X1 := Box4.call hb X1
  replace R1 := Box4.call hb R1
  replace B : Below w.heap.size w w3 := below_call B (Nat.le_refl _) hb
  clear hb
  have X2 : Box4 (w3.setCell ⟨w.heap.size, 1, none⟩ (.int .u64 q1)) w.heap.size (.int .u64 f0) (.int .u64 q1) (.int .u64 q2) (.int .u64 q3) := by (obtain ⟨a0, a1, a2, a3, g0, g1, g2, g3, l⟩ := X1; refine ⟨?_, ?_, ?_, ?_, ?_, ?_, ?_, ?_, ?_⟩ <;> simp [go_sem, *])
  have R2 := Box4.far (k := 1) (v := .int .u64 q1) R1 k1
  have B2 : Below w.heap.size w (w3.setCell ⟨w.heap.size, 1, none⟩ (.int .u64 q1)) := by (repeat (first | exact Below.refl _ _ | assumption | (refine Below.alloc ?_ (by first | omega | (simp; done) | (simp; omega)) _) | (refine Below.setCell ?_ (by first | omega | (simp; done) | (simp; omega)) _) | refine Below.drew ?_ | refine below_drewN ?_ _))
  go_wp2_with fail
  replace X1 := X2
  replace R1 := R2
  replace B := B2
  clear X2 R2 B2
  rw [rounds_succ]
  go_wp2_with fail
  refine (H0.out _).mono ?_
  rintro e w4 ⟨rfl, hb⟩
  replace X1 := Box4.call hb X1
  replace R1 := Box4.call hb R1
  replace B : Below w.heap.size w w4 := below_call B (Nat.le_refl _) hb
  clear hb
  have X2 : Box4 (w4.setCell ⟨w.heap.size, 0, none⟩ (.int .u64 q0)) w.heap.size (.int .u64 q0) (.int .u64 q1) (.int .u64 q2) (.int .u64 q3) := by (obtain ⟨a0, a1, a2, a3, g0, g1, g2, g3, l⟩ := X1; refine ⟨?_, ?_, ?_, ?_, ?_, ?_, ?_, ?_, ?_⟩ <;> simp [go_sem, *])
  have R2 := Box4.far (k := 0) (v := .int .u64 q0) R1 k1
  have B2 : Below w.heap.size w (w4.setCell ⟨w.heap.size, 0, none⟩ (.int .u64 q0)) := by (repeat (first | exact Below.refl _ _ | assumption | (refine Below.alloc ?_ (by first | omega | (simp; done) | (simp; omega)) _) | (refine Below.setCell ?_ (by first | omega | (simp; done) | (simp; omega)) _) | refine Below.drew ?_ | refine below_drewN ?_ _))
  go_wp2_with fail
  replace X1 := X2
  replace R1 := R2
  replace B := B2
  clear X2 R2 B2
  rw [rounds_succ]
  go_wp2_with fail
  have R2 := Box4.put (.int .u64 q0) (.int .u64 q1) (.int .u64 q2) (.int .u64 q3) R1
  exact bodyPost_ret (v := .tuple #[.agg #[.int .u64 q0, .int .u64 q1, .int .u64 q2, .int .u64 q3], .int .u64 r0]) (by simp [results, Try.results24, go_sem, R2]) rfl ⟨rfl, by (repeat (first | exact Below.refl _ _ | assumption | (refine Below.alloc ?_ (by first | omega | (simp; done) | (simp; omega)) _) | (refine Below.setCell ?_ (by first | omega | (simp; done) | (simp; omega)) _) | refine Below.drew ?_ | refine below_drewN ?_ _))⟩
theorem two_part' (hi lo b : Nat) : hi * 18446744073709551616 + lo = (hi % b * 18446744073709551616 + lo) + b * (hi / b * 18446744073709551616) := by
  have h2 : hi * 18446744073709551616 = b * (hi / b * 18446744073709551616) + hi % b * 18446744073709551616 := by
    rw [← Nat.mul_assoc, ← Nat.add_mul, Nat.div_add_mod]
  rw [h2]
  generalize b * (hi / b * 18446744073709551616) = p
  generalize hi % b * 18446744073709551616 = q
  omega
/-- The words of a quotient, from the highest one on. -/
theorem quo_word (X b i : Nat) (hb : 0 < b) (hb2 : b < 18446744073709551616) : (X / 18446744073709551616 ^ (i + 1) % b * 18446744073709551616 + wd X i) / b = wd (X / b) i ∧ (X / 18446744073709551616 ^ (i + 1) % b * 18446744073709551616 + wd X i) % b = X / 18446744073709551616 ^ i % b := by
  have e : X / 18446744073709551616 ^ i = X / 18446744073709551616 ^ (i + 1) * 18446744073709551616 + wd X i := by
    unfold wd
    rw [Nat.pow_succ, ← Nat.div_div_eq_div_mul]
    omega
  have hq : X / b / 18446744073709551616 ^ i = X / 18446744073709551616 ^ i / b := by rw [Nat.div_div_eq_div_mul, Nat.div_div_eq_div_mul, Nat.mul_comm]
  have hw := wd_lt X i
  unfold wd at hw ⊢
  rw [hq, ← show wd X i = X / 18446744073709551616 ^ i % 18446744073709551616 from rfl, e]
  generalize X / 18446744073709551616 ^ (i + 1) = Y
  have h2 : Y * 18446744073709551616 + wd X i = (Y % b * 18446744073709551616 + wd X i) + b * (Y / b * 18446744073709551616) := two_part' Y (wd X i) b
  constructor
  · have h3 : (Y % b + 1) * 18446744073709551616 ≤ b * 18446744073709551616 := Nat.mul_le_mul_right _ (Nat.mod_lt _ hb)
    have h4 := wd_lt X i
    have h5 : (Y % b * 18446744073709551616 + wd X i) / b < 18446744073709551616 := Nat.div_lt_of_lt_mul (by omega)
    rw [h2, Nat.add_mul_div_left _ _ hb, Nat.add_mul_mod_self_right]
    exact (Nat.mod_eq_of_lt h5).symm
  · rw [h2, Nat.add_mul_mod_self_left]
theorem short_u (X b : Nat) (hX : X < 2 ^ 256) (hb : 0 < b) (hb2 : b < 18446744073709551616) (w : World) : Calls Try.prog 24 #[.agg #[.int .u64 (wd (X) 0 : Nat), .int .u64 (wd (X) 1 : Nat), .int .u64 (wd (X) 2 : Nat), .int .u64 (wd (X) 3 : Nat)], .int .u64 b] w fun e w' => e = .returned (.tuple #[.agg #[.int .u64 (wd (X / b) 0 : Nat), .int .u64 (wd (X / b) 1 : Nat), .int .u64 (wd (X / b) 2 : Nat), .int .u64 (wd (X / b) 3 : Nat)], .int .u64 (X % b : Nat)]) ∧ Below w.heap.size w w' := by
  have h4 : X / 18446744073709551616 ^ (3 + 1) = 0 := Nat.div_eq_of_lt (by rw [← pow64]; exact hX)
  obtain ⟨a3, c3⟩ := quo_word X b 3 hb hb2
  obtain ⟨a2, c2⟩ := quo_word X b 2 hb hb2
  obtain ⟨a1, c1⟩ := quo_word X b 1 hb hb2
  obtain ⟨a0, c0⟩ := quo_word X b 0 hb hb2
  rw [h4, Nat.zero_mod] at a3 c3
  have H3 := div64_any 0 (wd X 3) b hb (wd_lt X 3) hb2
  have H2 := div64_any (X / 18446744073709551616 ^ (2 + 1) % b) (wd X 2) b (Nat.mod_lt _ hb) (wd_lt X 2) hb2
  have H1 := div64_any (X / 18446744073709551616 ^ (1 + 1) % b) (wd X 1) b (Nat.mod_lt _ hb) (wd_lt X 1) hb2
  have H0 := div64_any (X / 18446744073709551616 ^ (0 + 1) % b) (wd X 0) b (Nat.mod_lt _ hb) (wd_lt X 0) hb2
  rw [a3, c3] at H3
  rw [a2, c2] at H2
  rw [a1, c1] at H1
  rw [a0, c0, Nat.pow_zero, Nat.div_one] at H0
  exact short_g _ _ _ _ b _ _ _ _ _ _ _ _ w H3 H2 H1 H0
end Go.Proofs.Ytpfpdlgfngkdjaa
