/-
  Walks of the reference's Seed of the 64-bit PCG, of the chapter's 'awake', and of the law Pcg64Seeds. Conditions: words fit 64 bits.
-/
import Derived.Test.YtjgcpacdiiifjaaPcgD
namespace Go.Proofs.Ytjgcpacdiiifjaa
open Go.RowKit Go.Shelf
set_option linter.unusedVariables false

theorem sum_ref14_1 (X : Nat) (w : World) : Calls Try.prog 25 #[.agg #[.int .u64 (hi64 (X) : Nat), .int .u64 (lo64 (X) : Nat)], .agg #[.int .u64 0, .int .u64 1]] w (Ret128 w (X + 1)) := by
  have h := sum_ref14 X 1 w
  rw [show hi64 1 = 0 by decide, show lo64 1 = 1 by decide] at h
  exact h
theorem step_00 (w : World) : Calls Try.prog 36 #[.agg #[.int .u64 0, .int .u64 0], .agg #[.int .u64 0, .int .u64 0]] w fun e w' => e = .returned (.agg #[.int .u64 0, .int .u64 1]) ∧ Below w.heap.size w w' := by
  have h := step_0 0 w
  rw [show hi64 0 = 0 by decide, show lo64 0 = 0 by decide] at h
  refine h.mono ?_
  rintro e w' ⟨he, hb⟩
  exact ⟨by rw [he, show hi64 (odd1 0) = 0 by decide, show lo64 (odd1 0) = 1 by decide]; rfl, hb⟩
set_option maxHeartbeats 1000000 in
theorem awake14 (w : World) : Calls Try.prog 12 #[] w fun e w' => e = .returned (.bool true) ∧ Below w.heap.size w w' := by
  go_enter Try.func12, Try.ntmps12
  go_wp2_with fail
  refine (out7 _).mono ?_
  rintro e w1 ⟨rfl, hb1⟩
  go_wp2_with fail
  refine (step_00 _).mono ?_
  rintro e w2 ⟨rfl, hb2⟩
  go_wp2
  go_ret
  exact ⟨rfl, hb1.trans (hb2.mono hb1.size)⟩
set_option maxHeartbeats 2000000 in
theorem seed_ref14 (X V : Nat) (w : World) : Calls Try.prog 14 #[.agg #[.int .u64 (hi64 (X) : Nat), .int .u64 (lo64 (X) : Nat)], .agg #[.int .u64 (hi64 (V) : Nat), .int .u64 (lo64 (V) : Nat)]] w fun e w' =>
      e = .returned (.tuple #[.agg #[.int .u64 (hi64 ((odd1 (V * 2) + X) * pcgM + odd1 (V * 2)) : Nat), .int .u64 (lo64 ((odd1 (V * 2) + X) * pcgM + odd1 (V * 2)) : Nat)], .agg #[.int .u64 (hi64 (odd1 (V * 2)) : Nat), .int .u64 (lo64 (odd1 (V * 2)) : Nat)]]) ∧ Below w.heap.size w w' := by
  go_enter Try.func14, Try.ntmps14
  go_wp2_with fail
  refine (sum_ref14 _ _ _).mono ?_
  rintro e w1 ⟨rfl, hb⟩
  have X1 := BoxU.call hb (show BoxU _ w.heap.size X from (by (refine ⟨?_, ?_, ?_, ?_, ?_⟩ <;> simp [go_sem] <;> omega)))
  have C := Box2.call hb (show Box2 _ (w.heap.size + 1 + 1) (.int .u64 0) (.int .u64 0) from (by (refine ⟨?_, ?_, ?_, ?_, ?_⟩ <;> simp [go_sem] <;> omega)))
  have D := Box2.call hb (show Box2 _ (w.heap.size + 1 + 1 + 1) (.int .u64 0) (.int .u64 0) from (by (refine ⟨?_, ?_, ?_, ?_, ?_⟩ <;> simp [go_sem] <;> omega)))
  have B : Below w.heap.size w w1 := below_call (by (repeat (first | exact Below.refl _ _ | assumption | (refine Below.alloc ?_ (by first | omega | (simp; done) | (simp; omega)) _) | (refine Below.setCell ?_ (by first | omega | (simp; done) | (simp; omega)) _) | refine Below.drew ?_ | refine below_drewN ?_ _))) (Nat.le_refl _) hb
  clear hb
  go_wp2_with fail
  refine (sum_ref14_1 _ _).mono ?_
  rintro e w2 ⟨rfl, hb⟩
  replace X1 := BoxU.call hb (by first | exact X1 | exact Box2.alloc _ X1 | exact Box2.alloc _ (Box2.alloc _ X1))
  replace C := Box2.call hb (by first | exact C | exact Box2.alloc _ C | exact Box2.alloc _ (Box2.alloc _ C))
  replace D := Box2.call hb (by first | exact D | exact Box2.alloc _ D | exact Box2.alloc _ (Box2.alloc _ D))
  replace B : Below w.heap.size w w2 := below_call (by (repeat (first | exact Below.refl _ _ | assumption | (refine Below.alloc ?_ (by first | omega | (simp; done) | (simp; omega)) _) | (refine Below.setCell ?_ (by first | omega | (simp; done) | (simp; omega)) _) | refine Below.drew ?_ | refine below_drewN ?_ _))) (Nat.le_refl _) hb
  clear hb
  rw [show V + V + 1 = odd1 (V * 2) by unfold odd1; omega]
  generalize hI : odd1 (V * 2) = I
  have kI := hide hI
  clear hI
  go_wp2
  have n1 : w.heap.size + 1 + 1 + 1 < w2.heap.size := D.2.2.2.2
  have J : BoxU (w2.alloc (.cells #[.int .u64 (hi64 I : Nat), .int .u64 (lo64 I : Nat)] 24)) w2.heap.size I := (by (refine ⟨?_, ?_, ?_, ?_, ?_⟩ <;> simp [go_sem] <;> omega))
  replace X1 := Box2.alloc (.cells #[.int .u64 (hi64 I : Nat), .int .u64 (lo64 I : Nat)] 24) X1
  replace C := Box2.alloc (.cells #[.int .u64 (hi64 I : Nat), .int .u64 (lo64 I : Nat)] 24) C
  replace D := Box2.alloc (.cells #[.int .u64 (hi64 I : Nat), .int .u64 (lo64 I : Nat)] 24) D
  replace B := Below.alloc B B.size (.cells #[.int .u64 (hi64 I : Nat), .int .u64 (lo64 I : Nat)] 24)
  generalize w2.alloc (.cells #[.int .u64 (hi64 I : Nat), .int .u64 (lo64 I : Nat)] 24) = W at *
  generalize w2.heap.size = n at *
  go_region_held3 (fun w' => BoxU w' n I ∧ BoxU w' w.heap.size X) (first | exact ⟨J, X1⟩ | (refine ⟨⟨?_, ?_, ?_, ?_, ?_⟩, ⟨?_, ?_, ?_, ?_, ?_⟩⟩ <;> simp [go_sem, *] <;> omega)) ((first | (go_at_call 25; (with_reducible refine (sum_ref14 _ _ _).mono ?_); rintro e w3 ⟨rfl, hb⟩; replace X1 := BoxU.call hb X1; replace C := Box2.call hb C; replace D := Box2.call hb D; replace J := BoxU.call hb J; replace B : Below w.heap.size w w3 := below_call (by (repeat (first | exact Below.refl _ _ | assumption | (refine Below.alloc ?_ (by first | omega | (simp; done) | (simp; omega)) _) | (refine Below.setCell ?_ (by first | omega | (simp; done) | (simp; omega)) _) | refine Below.drew ?_ | refine below_drewN ?_ _))) (Nat.le_refl _) hb; clear hb) | (go_at_call 33; (with_reducible refine (step_ref14 _ _ _).mono ?_); rintro e w3 ⟨rfl, hb⟩; replace X1 := BoxU.call hb X1; replace C := Box2.call hb C; replace D := Box2.call hb D; replace J := BoxU.call hb J; replace B : Below w.heap.size w w3 := below_call (by (repeat (first | exact Below.refl _ _ | assumption | (refine Below.alloc ?_ (by first | omega | (simp; done) | (simp; omega)) _) | (refine Below.setCell ?_ (by first | omega | (simp; done) | (simp; omega)) _) | refine Below.drew ?_ | refine below_drewN ?_ _))) (Nat.le_refl _) hb; clear hb)))
  generalize hZ : (I + X) * pcgM + odd1 I = Z
  have kZ := hide hZ
  clear hZ
  go_wp2
  exact bodyPost_ret (v := .tuple #[.agg #[.int .u64 (hi64 (Z) : Nat), .int .u64 (lo64 (Z) : Nat)], .agg #[.int .u64 (hi64 (I) : Nat), .int .u64 (lo64 (I) : Nat)]]) (by simp [results, Try.results14, go_sem, C, D]) rfl ⟨by rw [← kZ.out, ← kI.out, odd1_odd], by (repeat (first | exact Below.refl _ _ | assumption | (refine Below.alloc ?_ (by first | omega | (simp; done) | (simp; omega)) _) | (refine Below.setCell ?_ (by first | omega | (simp; done) | (simp; omega)) _) | refine Below.drew ?_ | refine below_drewN ?_ _))⟩

theorem odd1_mod (n : Nat) : (((lo64 (odd1 n) : Nat) : Int) % 2 == 1) = true := by
  rw [beq_iff_eq]
  unfold lo64 odd1
  omega
set_option maxRecDepth 100000 in
set_option maxHeartbeats 2000000 in
theorem seeds_law14 (X V : Nat) (w : World) : Calls Try.prog 3 #[.agg #[.int .u64 (hi64 (X) : Nat), .int .u64 (lo64 (X) : Nat)], .agg #[.int .u64 (hi64 (V) : Nat), .int .u64 (lo64 (V) : Nat)]] w fun e w' => e = .returned (.bool true) ∧ Below w.heap.size w w' := by
  have ho := hide (odd1_mod (V * 2))
  go_enter Try.func3, Try.ntmps3
  go_wp2_with fail
  refine (awake14 _).mono ?_
  rintro e w1 ⟨rfl, hb⟩
  have X1 := BoxU.call hb (show BoxU _ w.heap.size X from (by (refine ⟨?_, ?_, ?_, ?_, ?_⟩ <;> simp [go_sem] <;> omega)))
  have V1 := BoxU.call hb (show BoxU _ (w.heap.size + 1) V from (by (refine ⟨?_, ?_, ?_, ?_, ?_⟩ <;> simp [go_sem] <;> omega)))
  have B : Below w.heap.size w w1 := below_call (by (repeat (first | exact Below.refl _ _ | assumption | (refine Below.alloc ?_ (by first | omega | (simp; done) | (simp; omega)) _) | (refine Below.setCell ?_ (by first | omega | (simp; done) | (simp; omega)) _) | refine Below.drew ?_ | refine below_drewN ?_ _))) (Nat.le_refl _) hb
  clear hb
  go_wp2_with fail
  refine (seed_u _ _ _).mono ?_
  rintro e w2 ⟨rfl, hb⟩
  replace X1 := BoxU.call hb (by first | exact X1 | exact Box2.alloc _ X1 | exact Box2.alloc _ (Box2.alloc _ X1))
  replace V1 := BoxU.call hb (by first | exact V1 | exact Box2.alloc _ V1 | exact Box2.alloc _ (Box2.alloc _ V1))
  replace B : Below w.heap.size w w2 := below_call (by (repeat (first | exact Below.refl _ _ | assumption | (refine Below.alloc ?_ (by first | omega | (simp; done) | (simp; omega)) _) | (refine Below.setCell ?_ (by first | omega | (simp; done) | (simp; omega)) _) | refine Below.drew ?_ | refine below_drewN ?_ _))) (Nat.le_refl _) hb
  clear hb
  go_wp2_with fail
  refine (seed_ref14 _ _ _).mono ?_
  rintro e w3 ⟨rfl, hb⟩
  generalize (odd1 (V * 2) + X) * pcgM + odd1 (V * 2) = Z at *
  generalize odd1 (V * 2) = I at *
  have Z1 : Box2 w3 w2.heap.size (.int .u64 (hi64 Z : Nat)) (.int .u64 (lo64 Z : Nat)) := BoxU.call hb (by (refine ⟨?_, ?_, ?_, ?_, ?_⟩ <;> simp [go_sem] <;> omega))
  have I1 : Box2 w3 (w2.heap.size + 1) (.int .u64 (hi64 I : Nat)) (.int .u64 (lo64 I : Nat)) := BoxU.call hb (by (refine ⟨?_, ?_, ?_, ?_, ?_⟩ <;> simp [go_sem] <;> omega))
  have bz := B.size
  replace B : Below w.heap.size w w3 := below_call (by (repeat (first | exact Below.refl _ _ | assumption | (refine Below.alloc ?_ (by first | omega | (simp; done) | (simp; omega)) _) | (refine Below.setCell ?_ (by first | omega | (simp; done) | (simp; omega)) _) | refine Below.drew ?_ | refine below_drewN ?_ _))) (Nat.le_refl _) hb
  clear hb X1 V1
  replace ho := ho.out
  replace bz := B.size
  generalize hi64 Z = zh at *
  generalize lo64 Z = zl at *
  generalize hi64 I = ih at *
  generalize lo64 I = il at *
  as_aux_lemma =>
    go_wp2_with fail
    go_ret
    refine ⟨rfl, ?_⟩
    (repeat (first | exact Below.refl _ _ | assumption | (refine Below.alloc ?_ (by first | omega | (simp; done) | (simp; omega)) _) | (refine Below.setCell ?_ (by first | omega | (simp; done) | (simp; omega)) _) | refine Below.drew ?_ | refine below_drewN ?_ _))

theorem seeds_row14 (ah al bh bl : Nat) (w : World) (h1 : ah < 18446744073709551616) (h2 : al < 18446744073709551616) (h3 : bh < 18446744073709551616) (h4 : bl < 18446744073709551616) :
    Calls Try.prog 3 #[.agg #[.int .u64 ah, .int .u64 al], .agg #[.int .u64 bh, .int .u64 bl]] w fun e w' => e = .returned (.bool true) ∧ Below w.heap.size w w' := by
  have h := seeds_law14 (val2 ah al) (val2 bh bl) w
  rw [hi64_val h1 h2, lo64_val h2, hi64_val h3 h4, lo64_val h4] at h
  exact h
end Go.Proofs.Ytjgcpacdiiifjaa
