/-
  Walk of wide.Div. Conditions: the divisor fits 64 bits.
-/
import Derived.Test.YtioieoinkjfcfaaDivW
import Derived.Test.YtioieoinkjfcfaaShl
import Derived.Test.YtioieoinkjfcfaaBoxB
namespace Go.Proofs.Ytioieoinkjfcfaa
open Go.RowKit Go.Shelf
set_option linter.unusedVariables false

theorem div2_hi (X b : Nat) (hb : 0 < b) : hi64 (m128 X / b) = hi64 X / b := by
  have h1 : m128 X / b / 18446744073709551616 = hi64 X / b := by
    rw [Nat.div_div_eq_div_mul, Nat.mul_comm, ← Nat.div_div_eq_div_mul]
    congr 1
    unfold m128 hi64
    omega
  unfold hi64 at *
  rw [h1, Nat.mod_eq_of_lt]
  exact Nat.lt_of_le_of_lt (Nat.div_le_self _ _) (Nat.mod_lt _ (by omega))
theorem lo_keep {q h : Nat} (hq : q < 18446744073709551616) : q = lo64 (q + h * 18446744073709551616) := by unfold lo64; omega
theorem two_part (hi lo b : Nat) : hi * 18446744073709551616 + lo = (hi % b * 18446744073709551616 + lo) + b * (hi / b * 18446744073709551616) := by
  have h2 : hi * 18446744073709551616 = b * (hi / b * 18446744073709551616) + hi % b * 18446744073709551616 := by
    rw [← Nat.mul_assoc, ← Nat.add_mul, Nat.div_add_mod]
  rw [h2]
  generalize b * (hi / b * 18446744073709551616) = p
  generalize hi % b * 18446744073709551616 = q
  omega
theorem div2_all (X b : Nat) (hb : 0 < b) : (hi64 X % b * 18446744073709551616 + lo64 X) / b = lo64 (m128 X / b) ∧ (hi64 X % b * 18446744073709551616 + lo64 X) % b = m128 X % b := by
  have e : m128 X = hi64 X * 18446744073709551616 + lo64 X := (val2_of X).symm
  have h1 := Nat.div_add_mod (hi64 X) b
  have e2 : m128 X = (hi64 X % b * 18446744073709551616 + lo64 X) + b * (hi64 X / b * 18446744073709551616) := by
    rw [e]
    exact two_part _ _ _
  have hlt : hi64 X % b * 18446744073709551616 + lo64 X < b * 18446744073709551616 := by
    have h2 : (hi64 X % b + 1) * 18446744073709551616 ≤ b * 18446744073709551616 := Nat.mul_le_mul_right _ (Nat.mod_lt _ hb)
    have := lo64_lt X
    omega
  have hq : (hi64 X % b * 18446744073709551616 + lo64 X) / b < 18446744073709551616 := Nat.div_lt_of_lt_mul hlt
  constructor
  · rw [e2, Nat.add_mul_div_left _ _ hb]
    exact lo_keep hq
  · rw [e2, Nat.add_mul_mod_self_left]
set_option maxRecDepth 100000 in
set_option maxHeartbeats 2000000 in
theorem wdiv_u (X b : Nat) (hb0 : 0 < b) (hb : b < 18446744073709551616) (w : World) : Calls Try.prog 51 #[.agg #[.int .u64 (hi64 (X) : Nat), .int .u64 (lo64 (X) : Nat)], .int .u64 b] w fun e w' => e = .returned (.tuple #[.agg #[.int .u64 (hi64 (m128 X / b) : Nat), .int .u64 (lo64 (m128 X / b) : Nat)], .int .u64 (m128 X % b : Nat)]) ∧ Below w.heap.size w w' := by
  have H1 := hide (div64_any 0 (hi64 X) b hb0 (hi64_lt X) hb)
  have H2 := hide (div64_any (hi64 X % b) (lo64 X) b (Nat.mod_lt _ hb0) (lo64_lt X) hb)
  obtain ⟨d1, d2⟩ := div2_all X b hb0
  rw [Nat.zero_mul, Nat.zero_add, ← div2_hi X b hb0] at H1
  rw [d1, d2] at H2
  obtain ⟨t0, t1⟩ : ((b : Int) == 0) = false ∧ ¬ (b : Int) = 0 := ⟨by rw [beq_eq_false_iff_ne]; omega, by omega⟩
  generalize hi64 (m128 X / b) = qh at *
  generalize lo64 (m128 X / b) = ql at *
  generalize hi64 X % b = r1 at *
  generalize m128 X % b = r2 at *
  generalize hi64 X = xh at *
  generalize lo64 X = xl at *
  clear d1 d2 hb hb0
  go_enter Try.func51, Try.ntmps51
  go_wp2_with fail
  refine (H1.out _).mono ?_
  rintro e w1 ⟨rfl, hb⟩
  have X1 := Box2.call hb (show Box2 _ w.heap.size (.int .u64 xh) (.int .u64 xl) from (by (refine ⟨?_, ?_, ?_, ?_, ?_⟩ <;> simp [go_sem] <;> omega)))
  have R1 := Box2.call hb (show Box2 _ (w.heap.size + 1) (.int .u64 0) (.int .u64 0) from (by (refine ⟨?_, ?_, ?_, ?_, ?_⟩ <;> simp [go_sem] <;> omega)))
  have B : Below w.heap.size w w1 := below_call (by (repeat (first | exact Below.refl _ _ | assumption | (refine Below.alloc ?_ (by first | omega | (simp; done) | (simp; omega)) _) | (refine Below.setCell ?_ (by first | omega | (simp; done) | (simp; omega)) _) | refine Below.drew ?_ | refine below_drewN ?_ _))) (Nat.le_refl _) hb
  clear hb
  go_wp2_with fail
  refine (H2.out _).mono ?_
  rintro e w2 ⟨rfl, hb⟩
  replace R1 := Box2.call hb R1
  replace B : Below w.heap.size w w2 := below_call B (Nat.le_refl _) hb
  clear hb X1
  go_wp2_with fail
  try go_region_held3 (fun v => True) (trivial) (fail)
  try go_wp2_with fail
  exact bodyPost_ret (v := .tuple #[.agg #[.int .u64 qh, .int .u64 ql], .int .u64 r2]) (by simp [results, Try.results51, go_sem, R1]) rfl ⟨rfl, by (repeat (first | exact Below.refl _ _ | assumption | (refine Below.alloc ?_ (by first | omega | (simp; done) | (simp; omega)) _) | (refine Below.setCell ?_ (by first | omega | (simp; done) | (simp; omega)) _) | refine Below.drew ?_ | refine below_drewN ?_ _))⟩
end Go.Proofs.Ytioieoinkjfcfaa
