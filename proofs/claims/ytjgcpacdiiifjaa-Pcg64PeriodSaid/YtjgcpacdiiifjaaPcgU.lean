/-
  Walks of the 64-bit PCG, its numbers of 128 bits told as numbers modulo 2^128: plus, Step, Shl by one, Seed. Conditions: none.
-/
import Derived.Test.YtjgcpacdiiifjaaPcgB
namespace Go.Proofs.Ytjgcpacdiiifjaa
open Go.RowKit Go.Shelf
set_option linter.unusedVariables false

theorem hi_congr {a b : Nat} (h : m128 a = m128 b) : hi64 a = hi64 b := by rw [← hi64_m a, h, hi64_m]
theorem lo_congr {a b : Nat} (h : m128 a = m128 b) : lo64 a = lo64 b := by rw [← lo64_m a, h, lo64_m]
theorem m128_add (a b : Nat) : m128 (m128 a + m128 b) = m128 (a + b) := by unfold m128; omega
theorem m128_m128 (a : Nat) : m128 (m128 a) = m128 a := by unfold m128; omega
theorem m128_addl (a b : Nat) : m128 (m128 a + b) = m128 (a + b) := by unfold m128; omega
theorem m128_mul (a b : Nat) : m128 (m128 a * m128 b) = m128 (a * b) := by unfold m128; rw [← Nat.mul_mod]
theorem m128_mull (a b : Nat) : m128 (m128 a * b) = m128 (a * b) := by unfold m128; rw [Nat.mul_mod, Nat.mod_mod, ← Nat.mul_mod]
theorem ret128_congr {w : World} {a b : Nat} (h : m128 a = m128 b) {e : Ending} {w' : World} (hr : Ret128 w a e w') : Ret128 w b e w' := by
  obtain ⟨he, hb⟩ := hr
  exact ⟨by rw [he, hi_congr h, lo_congr h], hb⟩
theorem odd_val (I : Nat) : val2 (hi64 I) (odd1 (lo64 I)) = m128 (odd1 I) := by unfold val2 hi64 odd1 lo64 m128; omega
theorem odd1_odd (n : Nat) : odd1 (odd1 n) = odd1 n := by unfold odd1; omega
theorem odd_hi (I : Nat) : hi64 (odd1 I) = hi64 I := by unfold hi64 odd1; omega
theorem odd_lo (I : Nat) : lo64 (odd1 I) = odd1 (lo64 I) := by unfold lo64 odd1; omega

theorem plus_u (X Y : Nat) (w : World) : Calls Try.prog 63 #[.agg #[.int .u64 (hi64 (X) : Nat), .int .u64 (lo64 (X) : Nat)], .agg #[.int .u64 (hi64 (Y) : Nat), .int .u64 (lo64 (Y) : Nat)]] w (Ret128 w (X + Y)) :=
  (plus_any _ _ _ _ w (hi64_lt X) (lo64_lt X) (hi64_lt Y) (lo64_lt Y)).mono fun e w' h => ret128_congr (by rw [val2_of, val2_of, m128_add]) h
theorem odd_u (I : Nat) (w : World) : Calls Try.prog 62 #[.agg #[.int .u64 (hi64 (I) : Nat), .int .u64 (lo64 (I) : Nat)]] w (Ret128 w (odd1 I)) :=
  (odd_any _ _ w (hi64_lt I) (lo64_lt I)).mono fun e w' ⟨he, hb⟩ => ⟨by rw [he, odd_hi, odd_lo], hb⟩
theorem step_u (X I : Nat) (w : World) : Calls Try.prog 36 #[.agg #[.int .u64 (hi64 (X) : Nat), .int .u64 (lo64 (X) : Nat)], .agg #[.int .u64 (hi64 (I) : Nat), .int .u64 (lo64 (I) : Nat)]] w (Ret128 w (X * pcgM + odd1 I)) :=
  (step_any _ _ _ _ w (hi64_lt X) (lo64_lt X) (hi64_lt I) (lo64_lt I)).mono fun e w' h => ret128_congr (by
    rw [val2_of, odd_val, ← m128_add, m128_mull, m128_add, ← m128_add, ← m128_add (X * pcgM)]
    simp only [m128_m128]) h
theorem step_0 (I : Nat) (w : World) : Calls Try.prog 36 #[.agg #[.int .u64 0, .int .u64 0], .agg #[.int .u64 (hi64 (I) : Nat), .int .u64 (lo64 (I) : Nat)]] w (Ret128 w (odd1 I)) :=
  (step_u 0 I w).mono fun e w' h => by rw [Nat.zero_mul, Nat.zero_add] at h; exact h
theorem shl1_u (X : Nat) (w : World) : Calls Try.prog 56 #[.agg #[.int .u64 (hi64 (X) : Nat), .int .u64 (lo64 (X) : Nat)], .int .i64 1] w (Ret128 w (X * 2)) :=
  (shl1_any _ _ w (hi64_lt X) (lo64_lt X)).mono fun e w' h => ret128_congr (by rw [val2_of, m128_mull]) h

set_option maxHeartbeats 2000000 in
theorem seed_u (X V : Nat) (w : World) : Calls Try.prog 13 #[.agg #[.int .u64 (hi64 (X) : Nat), .int .u64 (lo64 (X) : Nat)], .agg #[.int .u64 (hi64 (V) : Nat), .int .u64 (lo64 (V) : Nat)]] w fun e w' =>
      e = .returned (.tuple #[.agg #[.int .u64 (hi64 ((odd1 (V * 2) + X) * pcgM + odd1 (V * 2)) : Nat), .int .u64 (lo64 ((odd1 (V * 2) + X) * pcgM + odd1 (V * 2)) : Nat)], .agg #[.int .u64 (hi64 (odd1 (V * 2)) : Nat), .int .u64 (lo64 (odd1 (V * 2)) : Nat)]]) ∧ Below w.heap.size w w' := by
  go_enter Try.func13, Try.ntmps13
  go_wp2_with fail
  refine (shl1_u V _).mono ?_
  rintro e w1 ⟨rfl, hb⟩
  have X1 := BoxU.call hb (show BoxU _ w.heap.size X from (by (refine ⟨?_, ?_, ?_, ?_, ?_⟩ <;> simp [go_sem] <;> omega)))
  have C := Box2.call hb (show Box2 _ (w.heap.size + 1 + 1) (.int .u64 0) (.int .u64 0) from (by (refine ⟨?_, ?_, ?_, ?_, ?_⟩ <;> simp [go_sem] <;> omega)))
  have D := Box2.call hb (show Box2 _ (w.heap.size + 1 + 1 + 1) (.int .u64 0) (.int .u64 0) from (by (refine ⟨?_, ?_, ?_, ?_, ?_⟩ <;> simp [go_sem] <;> omega)))
  have B : Below w.heap.size w w1 := below_call (by (repeat (first | exact Below.refl _ _ | assumption | (refine Below.alloc ?_ (by first | omega | (simp; done) | (simp; omega)) _) | (refine Below.setCell ?_ (by first | omega | (simp; done) | (simp; omega)) _) | refine Below.drew ?_ | refine below_drewN ?_ _))) (Nat.le_refl _) hb
  clear hb
  go_wp2_with fail
  refine (odd_u _ _).mono ?_
  rintro e w2 ⟨rfl, hb⟩
  replace X1 := BoxU.call hb X1
  replace C := Box2.call hb C
  replace D := Box2.call hb D
  replace B := below_call B (Nat.le_refl _) hb
  clear hb
  generalize hI : odd1 (V * 2) = I
  have kI := hide hI
  clear hI
  go_wp2
  have n1 : w.heap.size + 1 + 1 + 1 < w2.heap.size := D.2.2.2.2
  have J : BoxU (w2.alloc (.cells #[.int .u64 (hi64 I : Nat), .int .u64 (lo64 I : Nat)] 24)) w2.heap.size I := (by (refine ⟨?_, ?_, ?_, ?_, ?_⟩ <;> simp [go_sem] <;> omega))
  replace X1 := Box2.alloc (.cells #[.int .u64 (hi64 I : Nat), .int .u64 (lo64 I : Nat)] 24) X1
  replace C := Box2.alloc (.cells #[.int .u64 (hi64 I : Nat), .int .u64 (lo64 I : Nat)] 24) C
  replace D := Box2.alloc (.cells #[.int .u64 (hi64 I : Nat), .int .u64 (lo64 I : Nat)] 24) D
  replace B := Below.alloc B B.size (.cells #[.int .u64 (hi64 I : Nat), .int .u64 (lo64 I : Nat)] 24)
  generalize w2.alloc (.cells #[.int .u64 (hi64 I : Nat), .int .u64 (lo64 I : Nat)] 24) = W at *
  generalize w2.heap.size = n at *
  go_region_held3 (fun w' => BoxU w' n I ∧ BoxU w' w.heap.size X) (first | exact ⟨J, X1⟩ | (refine ⟨⟨?_, ?_, ?_, ?_, ?_⟩, ⟨?_, ?_, ?_, ?_, ?_⟩⟩ <;> simp [go_sem, *] <;> omega)) (((first | (go_at_call 36; (with_reducible refine (step_0 _ _).mono ?_)) | (go_at_call 63; (with_reducible refine (plus_u _ _ _).mono ?_)) | (go_at_call 36; (with_reducible refine (step_u _ _ _).mono ?_))); rintro e w3 ⟨rfl, hb⟩; replace J := BoxU.call hb J; replace X1 := BoxU.call hb X1; replace C := Box2.call hb C; replace D := Box2.call hb D; replace B : Below w.heap.size w w3 := below_call (by (repeat (first | exact Below.refl _ _ | assumption | (refine Below.alloc ?_ (by first | omega | (simp; done) | (simp; omega)) _) | (refine Below.setCell ?_ (by first | omega | (simp; done) | (simp; omega)) _) | refine Below.drew ?_ | refine below_drewN ?_ _))) (Nat.le_refl _) hb; clear hb))
  generalize hZ : (odd1 I + X) * pcgM + odd1 I = Z
  have kZ := hide hZ
  clear hZ
  go_wp2
  exact bodyPost_ret (v := .tuple #[.agg #[.int .u64 (hi64 (Z) : Nat), .int .u64 (lo64 (Z) : Nat)], .agg #[.int .u64 (hi64 (I) : Nat), .int .u64 (lo64 (I) : Nat)]]) (by simp [results, Try.results13, go_sem, C, D]) rfl ⟨by rw [← kZ.out, ← kI.out, odd1_odd], by (repeat (first | exact Below.refl _ _ | assumption | (refine Below.alloc ?_ (by first | omega | (simp; done) | (simp; omega)) _) | (refine Below.setCell ?_ (by first | omega | (simp; done) | (simp; omega)) _) | refine Below.drew ?_ | refine below_drewN ?_ _))⟩
end Go.Proofs.Ytjgcpacdiiifjaa
