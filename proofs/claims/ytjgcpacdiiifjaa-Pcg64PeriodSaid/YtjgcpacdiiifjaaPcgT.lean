/-
  Walk of the law Pcg64Tells. Conditions: words fit 64 bits.
-/
import Derived.Test.YtjgcpacdiiifjaaPcgF
namespace Go.Proofs.Ytjgcpacdiiifjaa
open Go.RowKit Go.Shelf
set_option linter.unusedVariables false

set_option maxRecDepth 100000 in
set_option maxHeartbeats 8000000 in
theorem tells_g (xh xl ih il zh zl o1 o2 bh bl : Nat) (w : World)
    (h1 : ∀ W, Calls Try.prog 33 #[.agg #[.int .u64 xh, .int .u64 xl], .agg #[.int .u64 ih, .int .u64 il]] W fun e w' => e = .returned (.agg #[.int .u64 zh, .int .u64 zl]) ∧ Below W.heap.size W w')
    (h2 : ∀ W, Calls Try.prog 34 #[.agg #[.int .u64 xh, .int .u64 xl], .agg #[.int .u64 ih, .int .u64 il]] W fun e w' => e = .returned (.tuple #[.int .u64 o1, .agg #[.int .u64 zh, .int .u64 zl]]) ∧ Below W.heap.size W w')
    (h4 : ∀ W, Calls Try.prog 36 #[.agg #[.int .u64 xh, .int .u64 xl], .agg #[.int .u64 ih, .int .u64 il]] W fun e w' => e = .returned (.agg #[.int .u64 zh, .int .u64 zl]) ∧ Below W.heap.size W w')
    (h5 : ∀ W, Calls Try.prog 37 #[.agg #[.int .u64 zh, .int .u64 zl]] W fun e w' => e = .returned (.int .u64 o1) ∧ Below W.heap.size W w')
    (h6 : ∀ W, Calls Try.prog 38 #[.agg #[.int .u64 xh, .int .u64 xl]] W fun e w' => e = .returned (.int .u64 o2) ∧ Below W.heap.size W w')
    (h7 : ∀ W, Calls Try.prog 37 #[.agg #[.int .u64 xh, .int .u64 xl]] W fun e w' => e = .returned (.int .u64 o2) ∧ Below W.heap.size W w')
    (h8 : ∀ W, Calls Try.prog 39 #[.agg #[.int .u64 zh, .int .u64 zl], .agg #[.int .u64 ih, .int .u64 il]] W fun e w' => e = .returned (.agg #[.int .u64 xh, .int .u64 xl]) ∧ Below W.heap.size W w')
    (h9 : ∀ W, Calls Try.prog 39 #[.agg #[.int .u64 xh, .int .u64 xl], .agg #[.int .u64 ih, .int .u64 il]] W fun e w' => e = .returned (.agg #[.int .u64 bh, .int .u64 bl]) ∧ Below W.heap.size W w')
    (h10 : ∀ W, Calls Try.prog 33 #[.agg #[.int .u64 bh, .int .u64 bl], .agg #[.int .u64 ih, .int .u64 il]] W fun e w' => e = .returned (.agg #[.int .u64 xh, .int .u64 xl]) ∧ Below W.heap.size W w')
    : Calls Try.prog 7 #[.agg #[.int .u64 xh, .int .u64 xl], .agg #[.int .u64 ih, .int .u64 il]] w fun e w' => e = .returned (.bool true) ∧ Below w.heap.size w w' := by
  have H1 := hide h1
  have H2 := hide h2
  have H4 := hide h4
  have H5 := hide h5
  have H6 := hide h6
  have H7 := hide h7
  have H8 := hide h8
  have H9 := hide h9
  have H10 := hide h10
  clear h1 h2 h4 h5 h6 h7 h8 h9 h10
  go_enter Try.func7, Try.ntmps7
  go_wp2_with fail
  refine (awake14 _).mono ?_
  rintro e w1 ⟨rfl, hb⟩
  have X1 := Box2.call hb (show Box2 _ w.heap.size (.int .u64 xh) (.int .u64 xl) from (by (refine ⟨?_, ?_, ?_, ?_, ?_⟩ <;> simp [go_sem] <;> omega)))
  have I1 := Box2.call hb (show Box2 _ (w.heap.size + 1) (.int .u64 ih) (.int .u64 il) from (by (refine ⟨?_, ?_, ?_, ?_, ?_⟩ <;> simp [go_sem] <;> omega)))
  have B : Below w.heap.size w w1 := below_call (by (repeat (first | exact Below.refl _ _ | assumption | (refine Below.alloc ?_ (by first | omega | (simp; done) | (simp; omega)) _) | (refine Below.setCell ?_ (by first | omega | (simp; done) | (simp; omega)) _) | refine Below.drew ?_ | refine below_drewN ?_ _))) (Nat.le_refl _) hb
  clear hb
  go_wp2_with fail
  refine (H1.out _).mono ?_
  rintro e w2 ⟨rfl, hb⟩
  replace X1 := Box2.call hb (by first | exact X1 | exact Box2.alloc _ X1 | exact Box2.alloc _ (Box2.alloc _ X1))
  replace I1 := Box2.call hb (by first | exact I1 | exact Box2.alloc _ I1 | exact Box2.alloc _ (Box2.alloc _ I1))
  replace B : Below w.heap.size w w2 := below_call (by (repeat (first | exact Below.refl _ _ | assumption | (refine Below.alloc ?_ (by first | omega | (simp; done) | (simp; omega)) _) | (refine Below.setCell ?_ (by first | omega | (simp; done) | (simp; omega)) _) | refine Below.drew ?_ | refine below_drewN ?_ _))) (Nat.le_refl _) hb
  clear hb
  go_wp2_with fail
  refine (H2.out _).mono ?_
  rintro e w3 ⟨rfl, hb⟩
  have bz := B.size
  have Z1 : Box2 w3 w2.heap.size (.int .u64 zh) (.int .u64 zl) := Box2.call hb (by (refine ⟨?_, ?_, ?_, ?_, ?_⟩ <;> simp [go_sem] <;> omega))
  replace X1 := Box2.call hb (by first | exact X1 | exact Box2.alloc _ X1 | exact Box2.alloc _ (Box2.alloc _ X1))
  replace I1 := Box2.call hb (by first | exact I1 | exact Box2.alloc _ I1 | exact Box2.alloc _ (Box2.alloc _ I1))
  replace B : Below w.heap.size w w3 := below_call (by (repeat (first | exact Below.refl _ _ | assumption | (refine Below.alloc ?_ (by first | omega | (simp; done) | (simp; omega)) _) | (refine Below.setCell ?_ (by first | omega | (simp; done) | (simp; omega)) _) | refine Below.drew ?_ | refine below_drewN ?_ _))) (Nat.le_refl _) hb
  clear hb
  clear bz
  go_wp2_with fail
  have bz := B.size
  have T1 : Box2 (w3.alloc (.cells #[.int .u64 zh, .int .u64 zl] 24)) w3.heap.size (.int .u64 zh) (.int .u64 zl) := (by (refine ⟨?_, ?_, ?_, ?_, ?_⟩ <;> simp [go_sem] <;> omega))
  replace X1 := Box2.alloc (.cells #[.int .u64 zh, .int .u64 zl] 24) X1
  replace I1 := Box2.alloc (.cells #[.int .u64 zh, .int .u64 zl] 24) I1
  replace Z1 := Box2.alloc (.cells #[.int .u64 zh, .int .u64 zl] 24) Z1
  replace B := Below.alloc B B.size (.cells #[.int .u64 zh, .int .u64 zl] 24)
  generalize w3.alloc (.cells #[.int .u64 zh, .int .u64 zl] 24) = W at *
  generalize w3.heap.size = n3 at *
  generalize w2.heap.size = n2 at *
  clear bz
  as_aux_lemma =>
    go_region_held3 (fun v => Box2 v w.heap.size (.int .u64 xh) (.int .u64 xl) ∧ Box2 v (w.heap.size + 1) (.int .u64 ih) (.int .u64 il) ∧ Box2 v n2 (.int .u64 zh) (.int .u64 zl) ∧ Box2 v n3 (.int .u64 zh) (.int .u64 zl)) (exact ⟨X1, I1, Z1, T1⟩) ((first | (go_at_call 35; (with_reducible refine (times_c _).mono ?_); rintro e w4 ⟨rfl, hb⟩; replace X1 := Box2.call hb X1; replace I1 := Box2.call hb I1; replace Z1 := Box2.call hb Z1; replace T1 := Box2.call hb T1; replace B : Below w.heap.size w w4 := below_call (by (repeat (first | exact Below.refl _ _ | assumption | (refine Below.alloc ?_ (by first | omega | (simp; done) | (simp; omega)) _) | (refine Below.setCell ?_ (by first | omega | (simp; done) | (simp; omega)) _) | refine Below.drew ?_ | refine below_drewN ?_ _))) (Nat.le_refl _) hb; clear hb) | (go_at_call 36; (with_reducible refine (H4.out _).mono ?_); rintro e w4 ⟨rfl, hb⟩; replace X1 := Box2.call hb X1; replace I1 := Box2.call hb I1; replace Z1 := Box2.call hb Z1; replace T1 := Box2.call hb T1; replace B : Below w.heap.size w w4 := below_call (by (repeat (first | exact Below.refl _ _ | assumption | (refine Below.alloc ?_ (by first | omega | (simp; done) | (simp; omega)) _) | (refine Below.setCell ?_ (by first | omega | (simp; done) | (simp; omega)) _) | refine Below.drew ?_ | refine below_drewN ?_ _))) (Nat.le_refl _) hb; clear hb) | (go_at_call 37; (with_reducible refine (H5.out _).mono ?_); rintro e w4 ⟨rfl, hb⟩; replace X1 := Box2.call hb X1; replace I1 := Box2.call hb I1; replace Z1 := Box2.call hb Z1; replace T1 := Box2.call hb T1; replace B : Below w.heap.size w w4 := below_call (by (repeat (first | exact Below.refl _ _ | assumption | (refine Below.alloc ?_ (by first | omega | (simp; done) | (simp; omega)) _) | (refine Below.setCell ?_ (by first | omega | (simp; done) | (simp; omega)) _) | refine Below.drew ?_ | refine below_drewN ?_ _))) (Nat.le_refl _) hb; clear hb) | (go_at_call 38; (with_reducible refine (H6.out _).mono ?_); rintro e w4 ⟨rfl, hb⟩; replace X1 := Box2.call hb X1; replace I1 := Box2.call hb I1; replace Z1 := Box2.call hb Z1; replace T1 := Box2.call hb T1; replace B : Below w.heap.size w w4 := below_call (by (repeat (first | exact Below.refl _ _ | assumption | (refine Below.alloc ?_ (by first | omega | (simp; done) | (simp; omega)) _) | (refine Below.setCell ?_ (by first | omega | (simp; done) | (simp; omega)) _) | refine Below.drew ?_ | refine below_drewN ?_ _))) (Nat.le_refl _) hb; clear hb) | (go_at_call 37; (with_reducible refine (H7.out _).mono ?_); rintro e w4 ⟨rfl, hb⟩; replace X1 := Box2.call hb X1; replace I1 := Box2.call hb I1; replace Z1 := Box2.call hb Z1; replace T1 := Box2.call hb T1; replace B : Below w.heap.size w w4 := below_call (by (repeat (first | exact Below.refl _ _ | assumption | (refine Below.alloc ?_ (by first | omega | (simp; done) | (simp; omega)) _) | (refine Below.setCell ?_ (by first | omega | (simp; done) | (simp; omega)) _) | refine Below.drew ?_ | refine below_drewN ?_ _))) (Nat.le_refl _) hb; clear hb) | (go_at_call 39; (with_reducible refine (H8.out _).mono ?_); rintro e w4 ⟨rfl, hb⟩; replace X1 := Box2.call hb X1; replace I1 := Box2.call hb I1; replace Z1 := Box2.call hb Z1; replace T1 := Box2.call hb T1; replace B : Below w.heap.size w w4 := below_call (by (repeat (first | exact Below.refl _ _ | assumption | (refine Below.alloc ?_ (by first | omega | (simp; done) | (simp; omega)) _) | (refine Below.setCell ?_ (by first | omega | (simp; done) | (simp; omega)) _) | refine Below.drew ?_ | refine below_drewN ?_ _))) (Nat.le_refl _) hb; clear hb) | (go_at_call 39; (with_reducible refine (H9.out _).mono ?_); rintro e w4 ⟨rfl, hb⟩; replace X1 := Box2.call hb X1; replace I1 := Box2.call hb I1; replace Z1 := Box2.call hb Z1; replace T1 := Box2.call hb T1; replace B : Below w.heap.size w w4 := below_call (by (repeat (first | exact Below.refl _ _ | assumption | (refine Below.alloc ?_ (by first | omega | (simp; done) | (simp; omega)) _) | (refine Below.setCell ?_ (by first | omega | (simp; done) | (simp; omega)) _) | refine Below.drew ?_ | refine below_drewN ?_ _))) (Nat.le_refl _) hb; clear hb) | (go_at_call 33; (with_reducible refine (H10.out _).mono ?_); rintro e w4 ⟨rfl, hb⟩; replace X1 := Box2.call hb X1; replace I1 := Box2.call hb I1; replace Z1 := Box2.call hb Z1; replace T1 := Box2.call hb T1; replace B : Below w.heap.size w w4 := below_call (by (repeat (first | exact Below.refl _ _ | assumption | (refine Below.alloc ?_ (by first | omega | (simp; done) | (simp; omega)) _) | (refine Below.setCell ?_ (by first | omega | (simp; done) | (simp; omega)) _) | refine Below.drew ?_ | refine below_drewN ?_ _))) (Nat.le_refl _) hb; clear hb)))
    go_wp2_with fail
    go_ret
    refine ⟨rfl, ?_⟩
    (repeat (first | exact Below.refl _ _ | assumption | (refine Below.alloc ?_ (by first | omega | (simp; done) | (simp; omega)) _) | (refine Below.setCell ?_ (by first | omega | (simp; done) | (simp; omega)) _) | refine Below.drew ?_ | refine below_drewN ?_ _))
theorem dif_times (D M V I : Nat) (hM : m128 (M * V) = 1) : m128 (D * V * M + I) = m128 (D + I) := by
  have e : D * V * M = D * (M * V) := by rw [Nat.mul_assoc, Nat.mul_comm V]
  rw [e, ← m128_add, ← m128_mul, hM, Nat.mul_one, m128_m128, m128_add]
theorem dif128_back (X I : Nat) : m128 (dif128 (m128 X) (m128 I) + I) = m128 X := by unfold dif128 m128; omega
theorem dif128_fwd (A I : Nat) : dif128 (m128 (A + I)) (m128 I) = m128 A := by unfold dif128 m128; omega
theorem pcgM_inv : m128 (pcgM * inv128 pcgM) = 1 := inv128_mod pcgM (by decide)
theorem tells_u (X I : Nat) (w : World) : Calls Try.prog 7 #[.agg #[.int .u64 (hi64 (X) : Nat), .int .u64 (lo64 (X) : Nat)], .agg #[.int .u64 (hi64 (I) : Nat), .int .u64 (lo64 (I) : Nat)]] w fun e w' => e = .returned (.bool true) ∧ Below w.heap.size w w' := by
  have h8 : ∀ W, Calls Try.prog 39 #[.agg #[.int .u64 (hi64 (X * pcgM + odd1 I) : Nat), .int .u64 (lo64 (X * pcgM + odd1 I) : Nat)], .agg #[.int .u64 (hi64 (I) : Nat), .int .u64 (lo64 (I) : Nat)]] W (Ret128 W X) := fun W => (back_u (X * pcgM + odd1 I) I W).mono fun e w' h => ret128_congr (by
    rw [dif128_fwd, m128_mull, Nat.mul_assoc, ← m128_mul X, pcgM_inv, Nat.mul_one, m128_m128]) h
  have h10 : ∀ W, Calls Try.prog 33 #[.agg #[.int .u64 (hi64 (dif128 (m128 X) (m128 (odd1 I)) * inv128 pcgM) : Nat), .int .u64 (lo64 (dif128 (m128 X) (m128 (odd1 I)) * inv128 pcgM) : Nat)], .agg #[.int .u64 (hi64 (I) : Nat), .int .u64 (lo64 (I) : Nat)]] W (Ret128 W X) := fun W => (step_ref14 _ I W).mono fun e w' h => ret128_congr (by
    rw [dif_times _ _ _ _ pcgM_inv, dif128_back]) h
  exact tells_g _ _ _ _ _ _ _ _ _ _ w (step_ref14 X I) (next_u X I) (step_u X I) (out_ref (X * pcgM + odd1 I)) (out_u X) (out_ref X) h8 (back_u X I) h10
theorem tells_law (ah al bh bl : Nat) (w : World) (h1 : ah < 18446744073709551616) (h2 : al < 18446744073709551616) (h3 : bh < 18446744073709551616) (h4 : bl < 18446744073709551616) :
    Calls Try.prog 7 #[.agg #[.int .u64 ah, .int .u64 al], .agg #[.int .u64 bh, .int .u64 bl]] w fun e w' => e = .returned (.bool true) ∧ Below w.heap.size w w' := by
  have h := tells_u (val2 ah al) (val2 bh bl) w
  rw [hi64_val h1 h2, lo64_val h2, hi64_val h3 h4, lo64_val h4] at h
  exact h
end Go.Proofs.Ytjgcpacdiiifjaa
