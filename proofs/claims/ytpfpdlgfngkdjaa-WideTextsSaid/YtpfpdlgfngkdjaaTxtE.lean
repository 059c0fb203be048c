/-
  Walk of wide.long: a number of 256 bits times a small one, and one more. Conditions: none.
-/
import Derived.Test.YtpfpdlgfngkdjaaTxtD
namespace Go.Proofs.Ytpfpdlgfngkdjaa
open Go.RowKit
set_option linter.unusedVariables false

set_option maxRecDepth 100000 in
set_option maxHeartbeats 4000000 in
theorem long_g (f0 h0 l0 s0 c0 f1 h1 l1 s1 c1 f2 h2 l2 s2 c2 f3 h3 l3 s3 c3 m0 m1 m2 m3 m4 b : Nat) (bb : Bool) (hbb : ((m4 : Int) == 0) = bb) (w : World)
    (M0 : ∀ W, Calls Try.prog 44 #[.int .u64 f0, .int .u64 b] W fun e w' => e = .returned (.tuple #[.int .u64 h0, .int .u64 l0]) ∧ Below W.heap.size W w')
    (A0 : ∀ W, (callFunc 46 #[.int .u64 l0, .int .u64 m0, .int .u64 0]).run Try.prog W = .ok (.value (.tuple #[.int .u64 s0, .int .u64 c0])) W)
    (E0 : IntKind.u64.wrap ((h0 : Int) + (c0 : Int)) = (m1 : Int))
    (M1 : ∀ W, Calls Try.prog 44 #[.int .u64 f1, .int .u64 b] W fun e w' => e = .returned (.tuple #[.int .u64 h1, .int .u64 l1]) ∧ Below W.heap.size W w')
    (A1 : ∀ W, (callFunc 46 #[.int .u64 l1, .int .u64 m1, .int .u64 0]).run Try.prog W = .ok (.value (.tuple #[.int .u64 s1, .int .u64 c1])) W)
    (E1 : IntKind.u64.wrap ((h1 : Int) + (c1 : Int)) = (m2 : Int))
    (M2 : ∀ W, Calls Try.prog 44 #[.int .u64 f2, .int .u64 b] W fun e w' => e = .returned (.tuple #[.int .u64 h2, .int .u64 l2]) ∧ Below W.heap.size W w')
    (A2 : ∀ W, (callFunc 46 #[.int .u64 l2, .int .u64 m2, .int .u64 0]).run Try.prog W = .ok (.value (.tuple #[.int .u64 s2, .int .u64 c2])) W)
    (E2 : IntKind.u64.wrap ((h2 : Int) + (c2 : Int)) = (m3 : Int))
    (M3 : ∀ W, Calls Try.prog 44 #[.int .u64 f3, .int .u64 b] W fun e w' => e = .returned (.tuple #[.int .u64 h3, .int .u64 l3]) ∧ Below W.heap.size W w')
    (A3 : ∀ W, (callFunc 46 #[.int .u64 l3, .int .u64 m3, .int .u64 0]).run Try.prog W = .ok (.value (.tuple #[.int .u64 s3, .int .u64 c3])) W)
    (E3 : IntKind.u64.wrap ((h3 : Int) + (c3 : Int)) = (m4 : Int)) :
    Calls Try.prog 26 #[.agg #[.int .u64 f0, .int .u64 f1, .int .u64 f2, .int .u64 f3], .int .u64 b, .int .u64 m0] w fun e w' => e = .returned (.tuple #[.agg #[.int .u64 s0, .int .u64 s1, .int .u64 s2, .int .u64 s3], .bool bb]) ∧ Below w.heap.size w w' := by
  replace M0 := hide M0
  replace A0 := hide A0
  replace E0 := hide E0
  replace M1 := hide M1
  replace A1 := hide A1
  replace E1 := hide E1
  replace M2 := hide M2
  replace A2 := hide A2
  replace E2 := hide E2
  replace M3 := hide M3
  replace A3 := hide A3
  replace E3 := hide E3
  go_enter Try.func26, Try.ntmps26
  go_wp2_with fail
  refine wp_loop_rounds 5 ?_
  rw [rounds_succ]
  have e0 := E0.out
  go_wp2_with fail
  refine (M0.out _).mono ?_
  rintro e w1 ⟨rfl, hb⟩
  have X1 := Box4.call hb (show Box4 _ w.heap.size (.int .u64 f0) (.int .u64 f1) (.int .u64 f2) (.int .u64 f3) from (by (refine ⟨?_, ?_, ?_, ?_, ?_, ?_, ?_, ?_, ?_⟩ <;> simp [go_sem] <;> omega)))
  have R1 := Box4.call hb (show Box4 _ (w.heap.size + 1) (.int .u64 0) (.int .u64 0) (.int .u64 0) (.int .u64 0) from (by (refine ⟨?_, ?_, ?_, ?_, ?_, ?_, ?_, ?_, ?_⟩ <;> simp [go_sem] <;> omega)))
  have B : Below w.heap.size w w1 := below_call (by (repeat (first | exact Below.refl _ _ | assumption | (refine Below.alloc ?_ (by first | omega | (simp; done) | (simp; omega)) _) | (refine Below.setCell ?_ (by first | omega | (simp; done) | (simp; omega)) _) | refine Below.drew ?_ | refine below_drewN ?_ _))) (Nat.le_refl _) hb
  have k1 : ¬ w.heap.size = w.heap.size + 1 := by omega
  have k2 : ¬ w.heap.size + 1 = w.heap.size := by omega
  clear hb
  have X2 : Box4 (w1.setCell ⟨w.heap.size, 0, none⟩ (.int .u64 s0)) w.heap.size (.int .u64 s0) (.int .u64 f1) (.int .u64 f2) (.int .u64 f3) := by (obtain ⟨a0, a1, a2, a3, g0, g1, g2, g3, l⟩ := X1; refine ⟨?_, ?_, ?_, ?_, ?_, ?_, ?_, ?_, ?_⟩ <;> simp [go_sem, *])
  have R2 := Box4.far (k := 0) (v := .int .u64 s0) R1 k1
  have B2 : Below w.heap.size w (w1.setCell ⟨w.heap.size, 0, none⟩ (.int .u64 s0)) := B.setCell (Nat.le_refl _) _
  have a0 := A0.out
  go_wp2_with fail
  clear X1 R1 B a0 e0
  generalize (w1.setCell ⟨w.heap.size, 0, none⟩ (.int .u64 s0)) = wz0 at *
  have X1 := X2
  have R1 := R2
  have B := B2
  clear X2 R2 B2
  rw [rounds_succ]
  have e1 := E1.out
  go_wp2_with fail
  refine (M1.out _).mono ?_
  rintro e w2 ⟨rfl, hb⟩
  replace X1 := Box4.call hb X1
  replace R1 := Box4.call hb R1
  replace B : Below w.heap.size w w2 := below_call B (Nat.le_refl _) hb
  clear hb
  have X2 : Box4 (w2.setCell ⟨w.heap.size, 1, none⟩ (.int .u64 s1)) w.heap.size (.int .u64 s0) (.int .u64 s1) (.int .u64 f2) (.int .u64 f3) := by (obtain ⟨a0, a1, a2, a3, g0, g1, g2, g3, l⟩ := X1; refine ⟨?_, ?_, ?_, ?_, ?_, ?_, ?_, ?_, ?_⟩ <;> simp [go_sem, *])
  have R2 := Box4.far (k := 1) (v := .int .u64 s1) R1 k1
  have B2 : Below w.heap.size w (w2.setCell ⟨w.heap.size, 1, none⟩ (.int .u64 s1)) := B.setCell (Nat.le_refl _) _
  have a1 := A1.out
  go_wp2_with fail
  clear X1 R1 B a1 e1
  generalize (w2.setCell ⟨w.heap.size, 1, none⟩ (.int .u64 s1)) = wz1 at *
  have X1 := X2
  have R1 := R2
  have B := B2
  clear X2 R2 B2
  rw [rounds_succ]
  have e2 := E2.out
  go_wp2_with fail
  refine (M2.out _).mono ?_
  rintro e w3 ⟨rfl, hb⟩
  replace X1 := Box4.call hb X1
  replace R1 := Box4.call hb R1
  replace B : Below w.heap.size w w3 := below_call B (Nat.le_refl _) hb
  clear hb
  have X2 : Box4 (w3.setCell ⟨w.heap.size, 2, none⟩ (.int .u64 s2)) w.heap.size (.int .u64 s0) (.int .u64 s1) (.int .u64 s2) (.int .u64 f3) := by (obtain ⟨a0, a1, a2, a3, g0, g1, g2, g3, l⟩ := X1; refine ⟨?_, ?_, ?_, ?_, ?_, ?_, ?_, ?_, ?_⟩ <;> simp [go_sem, *])
  have R2 := Box4.far (k := 2) (v := .int .u64 s2) R1 k1
  have B2 : Below w.heap.size w (w3.setCell ⟨w.heap.size, 2, none⟩ (.int .u64 s2)) := B.setCell (Nat.le_refl _) _
  have a2 := A2.out
  go_wp2_with fail
  clear X1 R1 B a2 e2
  generalize (w3.setCell ⟨w.heap.size, 2, none⟩ (.int .u64 s2)) = wz2 at *
  have X1 := X2
  have R1 := R2
  have B := B2
  clear X2 R2 B2
  rw [rounds_succ]
  have e3 := E3.out
  go_wp2_with fail
  refine (M3.out _).mono ?_
  rintro e w4 ⟨rfl, hb⟩
  replace X1 := Box4.call hb X1
  replace R1 := Box4.call hb R1
  replace B : Below w.heap.size w w4 := below_call B (Nat.le_refl _) hb
  clear hb
  have X2 : Box4 (w4.setCell ⟨w.heap.size, 3, none⟩ (.int .u64 s3)) w.heap.size (.int .u64 s0) (.int .u64 s1) (.int .u64 s2) (.int .u64 s3) := by (obtain ⟨a0, a1, a2, a3, g0, g1, g2, g3, l⟩ := X1; refine ⟨?_, ?_, ?_, ?_, ?_, ?_, ?_, ?_, ?_⟩ <;> simp [go_sem, *])
  have R2 := Box4.far (k := 3) (v := .int .u64 s3) R1 k1
  have B2 : Below w.heap.size w (w4.setCell ⟨w.heap.size, 3, none⟩ (.int .u64 s3)) := B.setCell (Nat.le_refl _) _
  have a3 := A3.out
  go_wp2_with fail
  clear X1 R1 B a3 e3
  generalize (w4.setCell ⟨w.heap.size, 3, none⟩ (.int .u64 s3)) = wz3 at *
  have X1 := X2
  have R1 := R2
  have B := B2
  clear X2 R2 B2
  rw [rounds_succ]
  go_wp2_with fail
  have R2 := Box4.put (.int .u64 s0) (.int .u64 s1) (.int .u64 s2) (.int .u64 s3) R1
  have B2 : Below w.heap.size w ((((wz3.setCell ⟨w.heap.size + 1, 0, none⟩ (.int .u64 s0)).setCell ⟨w.heap.size + 1, 1, none⟩ (.int .u64 s1)).setCell ⟨w.heap.size + 1, 2, none⟩ (.int .u64 s2)).setCell ⟨w.heap.size + 1, 3, none⟩ (.int .u64 s3)) := (((B.setCell (Nat.le_succ _) _).setCell (Nat.le_succ _) _).setCell (Nat.le_succ _) _).setCell (Nat.le_succ _) _
  exact bodyPost_ret (v := .tuple #[.agg #[.int .u64 s0, .int .u64 s1, .int .u64 s2, .int .u64 s3], .bool bb]) (by simp [results, Try.results26, go_sem, R2]) rfl ⟨rfl, B2⟩
theorem long_word (a m : Nat) (ha : a < 18446744073709551616) (hm : m < 18446744073709551616) : lo64 (lo64 (a * 10) + m) = (a * 10 + m) % 18446744073709551616 ∧ up64 (a * 10) + up64 (lo64 (a * 10) + m) = (a * 10 + m) / 18446744073709551616 := by
  unfold lo64 up64
  omega
theorem long_next (X d i m : Nat) (h : (X * 10 + d) / 18446744073709551616 ^ i = X / 18446744073709551616 ^ i * 10 + m) :
    (wd X i * 10 + m) % 18446744073709551616 = wd (X * 10 + d) i ∧ (X * 10 + d) / 18446744073709551616 ^ (i + 1) = X / 18446744073709551616 ^ (i + 1) * 10 + (wd X i * 10 + m) / 18446744073709551616 := by
  unfold wd
  rw [Nat.pow_succ, ← Nat.div_div_eq_div_mul, ← Nat.div_div_eq_div_mul, h]
  generalize X / 18446744073709551616 ^ i = A
  omega
theorem long_u (X d : Nat) (hX : X < 2 ^ 256) (hd : d < 18446744073709551616) (w : World) : Calls Try.prog 26 #[.agg #[.int .u64 (wd (X) 0 : Nat), .int .u64 (wd (X) 1 : Nat), .int .u64 (wd (X) 2 : Nat), .int .u64 (wd (X) 3 : Nat)], .int .u64 (10 : Nat), .int .u64 d] w fun e w' => e = .returned (.tuple #[.agg #[.int .u64 (wd (X * 10 + d) 0 : Nat), .int .u64 (wd (X * 10 + d) 1 : Nat), .int .u64 (wd (X * 10 + d) 2 : Nat), .int .u64 (wd (X * 10 + d) 3 : Nat)], .bool (decide (X * 10 + d < 2 ^ 256))]) ∧ Below w.heap.size w w' := by
  have W0 := wd_lt X 0
  have W1 := wd_lt X 1
  have W2 := wd_lt X 2
  have W3 := wd_lt X 3
  obtain ⟨a0, b0⟩ := long_next X d 0 d (by rw [Nat.pow_zero, Nat.div_one, Nat.div_one])
  obtain ⟨a1, b1⟩ := long_next X d 1 _ b0
  obtain ⟨a2, b2⟩ := long_next X d 2 _ b1
  obtain ⟨a3, b3⟩ := long_next X d 3 _ b2
  have h4 : X / 18446744073709551616 ^ (3 + 1) = 0 := Nat.div_eq_of_lt (by rw [← pow64]; exact hX)
  rw [h4, Nat.zero_mul, Nat.zero_add] at b3
  have m1 : (wd X 0 * 10 + d) / 18446744073709551616 < 18446744073709551616 := by omega
  have m2 : (wd X 1 * 10 + (wd X 0 * 10 + d) / 18446744073709551616) / 18446744073709551616 < 18446744073709551616 := by omega
  have m3 : (wd X 2 * 10 + (wd X 1 * 10 + (wd X 0 * 10 + d) / 18446744073709551616) / 18446744073709551616) / 18446744073709551616 < 18446744073709551616 := by omega
  have m4 : (wd X 3 * 10 + (wd X 2 * 10 + (wd X 1 * 10 + (wd X 0 * 10 + d) / 18446744073709551616) / 18446744073709551616) / 18446744073709551616) / 18446744073709551616 < 18446744073709551616 := by omega
  obtain ⟨p0, q0⟩ := long_word _ d W0 hd
  obtain ⟨p1, q1⟩ := long_word _ _ W1 m1
  obtain ⟨p2, q2⟩ := long_word _ _ W2 m2
  obtain ⟨p3, q3⟩ := long_word _ _ W3 m3
  rw [a0] at p0
  rw [a1] at p1
  rw [a2] at p2
  rw [a3] at p3
  have hbb : ((((wd X 3 * 10 + (wd X 2 * 10 + (wd X 1 * 10 + (wd X 0 * 10 + d) / 18446744073709551616) / 18446744073709551616) / 18446744073709551616) / 18446744073709551616 : Nat) : Int) == 0) = decide (X * 10 + d < 2 ^ 256) := by
    rw [← b3, Bool.eq_iff_iff, beq_iff_eq, decide_eq_true_eq]
    have hp : (18446744073709551616 : Nat) ^ (3 + 1) = 2 ^ 256 := by rw [← pow64]
    rw [hp]
    constructor
    · intro h
      have : (X * 10 + d) / 2 ^ 256 = 0 := by exact_mod_cast h
      rcases Nat.div_eq_zero_iff.1 this with h | h
      · exact absurd h (by decide)
      · exact h
    · intro h
      rw [Nat.div_eq_of_lt h]
      rfl
  have hmul : ∀ a : Nat, a < 18446744073709551616 → ∀ W, Calls Try.prog 44 #[.int .u64 a, .int .u64 (10 : Nat)] W fun e w' => e = .returned (.tuple #[.int .u64 (up64 (a * 10) : Nat), .int .u64 (lo64 (a * 10) : Nat)]) ∧ Below W.heap.size W w' := fun a ha W =>
    (mul64 a 10 W ha (by omega)).mono (by rintro e w' ⟨rfl, rfl⟩; exact ⟨rfl, Below.refl _ _⟩)
  have hw : ∀ (x y z : Nat), x + y = z → z < 18446744073709551616 → IntKind.u64.wrap ((x : Int) + (y : Int)) = (z : Int) := fun x y z h1 h2 => by
    rw [IntKind.wrap_u64]; omega
  clear b0 b1 b2 b3 a0 a1 a2 a3 h4 hX
  generalize decide (X * 10 + d < 2 ^ 256) = bb at *
  generalize wd (X * 10 + d) 0 = z0 at *
  generalize wd (X * 10 + d) 1 = z1 at *
  generalize wd (X * 10 + d) 2 = z2 at *
  generalize wd (X * 10 + d) 3 = z3 at *
  generalize wd X 0 = f0 at *
  generalize wd X 1 = f1 at *
  generalize wd X 2 = f2 at *
  generalize wd X 3 = f3 at *
  generalize (f0 * 10 + d) / 18446744073709551616 = n1 at *
  generalize (f1 * 10 + n1) / 18446744073709551616 = n2 at *
  generalize (f2 * 10 + n2) / 18446744073709551616 = n3 at *
  generalize (f3 * 10 + n3) / 18446744073709551616 = n4 at *
  have A0 := fun W => add64_0 (lo64 (f0 * 10)) d W
  have A1 := fun W => add64_0 (lo64 (f1 * 10)) n1 W
  have A2 := fun W => add64_0 (lo64 (f2 * 10)) n2 W
  have A3 := fun W => add64_0 (lo64 (f3 * 10)) n3 W
  rw [p0] at A0
  rw [p1] at A1
  rw [p2] at A2
  rw [p3] at A3
  have M0 := hmul f0 W0
  have M1 := hmul f1 W1
  have M2 := hmul f2 W2
  have M3 := hmul f3 W3
  have E0 := hw _ _ _ q0 m1
  have E1 := hw _ _ _ q1 m2
  have E2 := hw _ _ _ q2 m3
  have E3 := hw _ _ _ q3 m4
  clear p0 p1 p2 p3 q0 q1 q2 q3 m1 m2 m3 m4 hmul hw
  generalize up64 (lo64 (f0 * 10) + d) = c0 at *
  generalize up64 (lo64 (f1 * 10) + n1) = c1 at *
  generalize up64 (lo64 (f2 * 10) + n2) = c2 at *
  generalize up64 (lo64 (f3 * 10) + n3) = c3 at *
  exact long_g f0 (up64 (f0 * 10)) (lo64 (f0 * 10)) z0 c0 f1 (up64 (f1 * 10)) (lo64 (f1 * 10)) z1 c1 f2 (up64 (f2 * 10)) (lo64 (f2 * 10)) z2 c2 f3 (up64 (f3 * 10)) (lo64 (f3 * 10)) z3 c3 d n1 n2 n3 n4 10 bb hbb w M0 A0 E0 M1 A1 E1 M2 A2 E2 M3 A3 E3
end Go.Proofs.Ytpfpdlgfngkdjaa
