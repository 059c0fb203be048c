/-
  Walks of the laws RangesReduces, RangesCounts, RangesRanks. Conditions: numbers fit 64 bits.
-/
import Derived.Test.YtioieoinkjfcfaaRngC
namespace Go.Proofs.Ytioieoinkjfcfaa
open Go.RowKit Go.Shelf
set_option linter.unusedVariables false

set_option maxHeartbeats 2000000 in
theorem reds_bad (x m y : Nat) (k c : Int) (t1 : (c == 0) = false) (w : World)
    (H1 : ∀ W, Calls Try.prog 57 #[.int .u64 x, .int .i64 k, .int .u64 m] W fun e w' => e = .returned (.tuple #[.int .u64 0, .int .i64 c]) ∧ Below W.heap.size W w')
    (H2 : ∀ W, Calls Try.prog 58 #[.int .i64 k, .int .u64 m] W fun e w' => e = .returned (.int .i64 c) ∧ W = w')
    (H3 : ∀ W, Calls Try.prog 59 #[.int .i64 k, .int .u64 m] W fun e w' => e = .returned (.int .i64 c) ∧ W = w')
    : Calls Try.prog 9 #[.int .u64 x, .int .i64 k, .int .u64 m, .int .u64 y] w fun e w' => e = .returned (.bool true) ∧ Below w.heap.size w w' := by
  replace H1 := hide H1
  replace H2 := hide H2
  replace H3 := hide H3
  go_enter Try.func9, Try.ntmps9
  go_wp2_with fail
  refine (awake26 _).mono ?_
  rintro e w1 ⟨rfl, B⟩
  go_wp2_with fail
  refine (H1.out _).mono ?_
  rintro e w2 ⟨rfl, hb⟩
  replace B : Below w.heap.size w w2 := below_call (by (repeat (first | exact Below.refl _ _ | assumption | (refine Below.alloc ?_ (by first | omega | (simp; done) | (simp; omega)) _) | (refine Below.setCell ?_ (by first | omega | (simp; done) | (simp; omega)) _) | refine Below.drew ?_ | refine below_drewN ?_ _))) (Nat.le_refl _) hb
  clear hb
  go_wp2_with fail
  refine (H2.out _).mono ?_
  rintro e wq ⟨rfl, rfl⟩
  go_wp2_with fail
  refine (H3.out _).mono ?_
  rintro e wq ⟨rfl, rfl⟩
  go_wp2_with fail
  go_ret
  exact ⟨rfl, by (repeat (first | exact Below.refl _ _ | assumption | (refine Below.alloc ?_ (by first | omega | (simp; done) | (simp; omega)) _) | (refine Below.setCell ?_ (by first | omega | (simp; done) | (simp; omega)) _) | refine Below.drew ?_ | refine below_drewN ?_ _))⟩
set_option maxHeartbeats 2000000 in
theorem reds_has (x m y : Nat) (k : Int) (w : World)
    (H1 : ∀ W, Calls Try.prog 57 #[.int .u64 x, .int .i64 k, .int .u64 m] W fun e w' => e = .returned (.tuple #[.int .u64 0, .int .i64 2]) ∧ Below W.heap.size W w')
    (H2 : ∀ W, Calls Try.prog 58 #[.int .i64 k, .int .u64 m] W fun e w' => e = .returned (.int .i64 0) ∧ W = w')
    (H3 : ∀ W, Calls Try.prog 59 #[.int .i64 k, .int .u64 m] W fun e w' => e = .returned (.int .i64 0) ∧ W = w')
    (H4 : ∀ W, Calls Try.prog 60 #[.int .u64 x, .int .i64 k] W fun e w' => e = .returned (.bool true) ∧ Below W.heap.size W w')
    : Calls Try.prog 9 #[.int .u64 x, .int .i64 k, .int .u64 m, .int .u64 y] w fun e w' => e = .returned (.bool true) ∧ Below w.heap.size w w' := by
  replace H1 := hide H1
  replace H2 := hide H2
  replace H3 := hide H3
  replace H4 := hide H4
  go_enter Try.func9, Try.ntmps9
  go_wp2_with fail
  refine (awake26 _).mono ?_
  rintro e w1 ⟨rfl, B⟩
  go_wp2_with fail
  refine (H1.out _).mono ?_
  rintro e w2 ⟨rfl, hb⟩
  replace B : Below w.heap.size w w2 := below_call (by (repeat (first | exact Below.refl _ _ | assumption | (refine Below.alloc ?_ (by first | omega | (simp; done) | (simp; omega)) _) | (refine Below.setCell ?_ (by first | omega | (simp; done) | (simp; omega)) _) | refine Below.drew ?_ | refine below_drewN ?_ _))) (Nat.le_refl _) hb
  clear hb
  go_wp2_with fail
  refine (H2.out _).mono ?_
  rintro e wq ⟨rfl, rfl⟩
  go_wp2_with fail
  refine (H3.out _).mono ?_
  rintro e wq ⟨rfl, rfl⟩
  go_wp2_with fail
  refine (H4.out _).mono ?_
  rintro e w3 ⟨rfl, hb⟩
  replace B : Below w.heap.size w w3 := below_call (by (repeat (first | exact Below.refl _ _ | assumption | (refine Below.alloc ?_ (by first | omega | (simp; done) | (simp; omega)) _) | (refine Below.setCell ?_ (by first | omega | (simp; done) | (simp; omega)) _) | refine Below.drew ?_ | refine below_drewN ?_ _))) (Nat.le_refl _) hb
  clear hb
  go_wp2_with fail
  go_ret
  exact ⟨rfl, by (repeat (first | exact Below.refl _ _ | assumption | (refine Below.alloc ?_ (by first | omega | (simp; done) | (simp; omega)) _) | (refine Below.setCell ?_ (by first | omega | (simp; done) | (simp; omega)) _) | refine Below.drew ?_ | refine below_drewN ?_ _))⟩
set_option maxHeartbeats 2000000 in
theorem reds_f (x m y v u : Nat) (k : Int) (hv : v < m) (w : World)
    (H1 : ∀ W, Calls Try.prog 57 #[.int .u64 x, .int .i64 k, .int .u64 m] W fun e w' => e = .returned (.tuple #[.int .u64 v, .int .i64 0]) ∧ Below W.heap.size W w')
    (H2 : ∀ W, Calls Try.prog 58 #[.int .i64 k, .int .u64 m] W fun e w' => e = .returned (.int .i64 0) ∧ W = w')
    (H3 : ∀ W, Calls Try.prog 59 #[.int .i64 k, .int .u64 m] W fun e w' => e = .returned (.int .i64 0) ∧ W = w')
    (H4 : ∀ W, Calls Try.prog 60 #[.int .u64 x, .int .i64 k] W fun e w' => e = .returned (.bool false) ∧ Below W.heap.size W w')
    (H5 : ∀ W, Calls Try.prog 57 #[.int .u64 y, .int .i64 k, .int .u64 m] W fun e w' => e = .returned (.tuple #[.int .u64 u, .int .i64 2]) ∧ Below W.heap.size W w')
    (H6 : ∀ W, Calls Try.prog 61 #[.int .u64 x, .int .i64 k, .int .u64 m] W fun e w' => e = .returned (.int .u64 v) ∧ Below W.heap.size W w')
    : Calls Try.prog 9 #[.int .u64 x, .int .i64 k, .int .u64 m, .int .u64 y] w fun e w' => e = .returned (.bool true) ∧ Below w.heap.size w w' := by
  replace H1 := hide H1
  replace H2 := hide H2
  replace H3 := hide H3
  replace H4 := hide H4
  replace H5 := hide H5
  replace H6 := hide H6
  have t1 : decide (v < m) = true := decide_eq_true hv
  have t2 : (v : Int) < (m : Int) := by omega
  clear hv
  go_enter Try.func9, Try.ntmps9
  go_wp2_with fail
  refine (awake26 _).mono ?_
  rintro e w1 ⟨rfl, B⟩
  go_wp2_with fail
  refine (H1.out _).mono ?_
  rintro e w2 ⟨rfl, hb⟩
  replace B : Below w.heap.size w w2 := below_call (by (repeat (first | exact Below.refl _ _ | assumption | (refine Below.alloc ?_ (by first | omega | (simp; done) | (simp; omega)) _) | (refine Below.setCell ?_ (by first | omega | (simp; done) | (simp; omega)) _) | refine Below.drew ?_ | refine below_drewN ?_ _))) (Nat.le_refl _) hb
  clear hb
  go_wp2_with fail
  refine (H2.out _).mono ?_
  rintro e wq ⟨rfl, rfl⟩
  go_wp2_with fail
  refine (H3.out _).mono ?_
  rintro e wq ⟨rfl, rfl⟩
  go_wp2_with fail
  refine (H4.out _).mono ?_
  rintro e w3 ⟨rfl, hb⟩
  replace B : Below w.heap.size w w3 := below_call (by (repeat (first | exact Below.refl _ _ | assumption | (refine Below.alloc ?_ (by first | omega | (simp; done) | (simp; omega)) _) | (refine Below.setCell ?_ (by first | omega | (simp; done) | (simp; omega)) _) | refine Below.drew ?_ | refine below_drewN ?_ _))) (Nat.le_refl _) hb
  clear hb
  go_wp2_with fail
  refine (H5.out _).mono ?_
  rintro e w4 ⟨rfl, hb⟩
  replace B : Below w.heap.size w w4 := below_call (by (repeat (first | exact Below.refl _ _ | assumption | (refine Below.alloc ?_ (by first | omega | (simp; done) | (simp; omega)) _) | (refine Below.setCell ?_ (by first | omega | (simp; done) | (simp; omega)) _) | refine Below.drew ?_ | refine below_drewN ?_ _))) (Nat.le_refl _) hb
  clear hb
  go_wp2_with fail
  refine (H6.out _).mono ?_
  rintro e w5 ⟨rfl, hb⟩
  replace B : Below w.heap.size w w5 := below_call (by (repeat (first | exact Below.refl _ _ | assumption | (refine Below.alloc ?_ (by first | omega | (simp; done) | (simp; omega)) _) | (refine Below.setCell ?_ (by first | omega | (simp; done) | (simp; omega)) _) | refine Below.drew ?_ | refine below_drewN ?_ _))) (Nat.le_refl _) hb
  clear hb
  go_wp2_with fail
  go_ret
  exact ⟨rfl, by (repeat (first | exact Below.refl _ _ | assumption | (refine Below.alloc ?_ (by first | omega | (simp; done) | (simp; omega)) _) | (refine Below.setCell ?_ (by first | omega | (simp; done) | (simp; omega)) _) | refine Below.drew ?_ | refine below_drewN ?_ _))⟩
set_option maxHeartbeats 2000000 in
theorem reds_gt (x m y v u : Nat) (k : Int) (hv : v < m) (hx : y < x) (w : World)
    (H1 : ∀ W, Calls Try.prog 57 #[.int .u64 x, .int .i64 k, .int .u64 m] W fun e w' => e = .returned (.tuple #[.int .u64 v, .int .i64 0]) ∧ Below W.heap.size W w')
    (H2 : ∀ W, Calls Try.prog 58 #[.int .i64 k, .int .u64 m] W fun e w' => e = .returned (.int .i64 0) ∧ W = w')
    (H3 : ∀ W, Calls Try.prog 59 #[.int .i64 k, .int .u64 m] W fun e w' => e = .returned (.int .i64 0) ∧ W = w')
    (H4 : ∀ W, Calls Try.prog 60 #[.int .u64 x, .int .i64 k] W fun e w' => e = .returned (.bool false) ∧ Below W.heap.size W w')
    (H5 : ∀ W, Calls Try.prog 57 #[.int .u64 y, .int .i64 k, .int .u64 m] W fun e w' => e = .returned (.tuple #[.int .u64 u, .int .i64 0]) ∧ Below W.heap.size W w')
    (H6 : ∀ W, Calls Try.prog 61 #[.int .u64 x, .int .i64 k, .int .u64 m] W fun e w' => e = .returned (.int .u64 v) ∧ Below W.heap.size W w')
    : Calls Try.prog 9 #[.int .u64 x, .int .i64 k, .int .u64 m, .int .u64 y] w fun e w' => e = .returned (.bool true) ∧ Below w.heap.size w w' := by
  replace H1 := hide H1
  replace H2 := hide H2
  replace H3 := hide H3
  replace H4 := hide H4
  replace H5 := hide H5
  replace H6 := hide H6
  have t3 : decide (y < x) = true := decide_eq_true hx
  have t4 : (y : Int) < (x : Int) := by omega
  clear hx
  have t1 : decide (v < m) = true := decide_eq_true hv
  have t2 : (v : Int) < (m : Int) := by omega
  clear hv
  go_enter Try.func9, Try.ntmps9
  go_wp2_with fail
  refine (awake26 _).mono ?_
  rintro e w1 ⟨rfl, B⟩
  go_wp2_with fail
  refine (H1.out _).mono ?_
  rintro e w2 ⟨rfl, hb⟩
  replace B : Below w.heap.size w w2 := below_call (by (repeat (first | exact Below.refl _ _ | assumption | (refine Below.alloc ?_ (by first | omega | (simp; done) | (simp; omega)) _) | (refine Below.setCell ?_ (by first | omega | (simp; done) | (simp; omega)) _) | refine Below.drew ?_ | refine below_drewN ?_ _))) (Nat.le_refl _) hb
  clear hb
  go_wp2_with fail
  refine (H2.out _).mono ?_
  rintro e wq ⟨rfl, rfl⟩
  go_wp2_with fail
  refine (H3.out _).mono ?_
  rintro e wq ⟨rfl, rfl⟩
  go_wp2_with fail
  refine (H4.out _).mono ?_
  rintro e w3 ⟨rfl, hb⟩
  replace B : Below w.heap.size w w3 := below_call (by (repeat (first | exact Below.refl _ _ | assumption | (refine Below.alloc ?_ (by first | omega | (simp; done) | (simp; omega)) _) | (refine Below.setCell ?_ (by first | omega | (simp; done) | (simp; omega)) _) | refine Below.drew ?_ | refine below_drewN ?_ _))) (Nat.le_refl _) hb
  clear hb
  go_wp2_with fail
  refine (H5.out _).mono ?_
  rintro e w4 ⟨rfl, hb⟩
  replace B : Below w.heap.size w w4 := below_call (by (repeat (first | exact Below.refl _ _ | assumption | (refine Below.alloc ?_ (by first | omega | (simp; done) | (simp; omega)) _) | (refine Below.setCell ?_ (by first | omega | (simp; done) | (simp; omega)) _) | refine Below.drew ?_ | refine below_drewN ?_ _))) (Nat.le_refl _) hb
  clear hb
  go_wp2_with fail
  refine (H6.out _).mono ?_
  rintro e w5 ⟨rfl, hb⟩
  replace B : Below w.heap.size w w5 := below_call (by (repeat (first | exact Below.refl _ _ | assumption | (refine Below.alloc ?_ (by first | omega | (simp; done) | (simp; omega)) _) | (refine Below.setCell ?_ (by first | omega | (simp; done) | (simp; omega)) _) | refine Below.drew ?_ | refine below_drewN ?_ _))) (Nat.le_refl _) hb
  clear hb
  go_wp2_with fail
  go_ret
  exact ⟨rfl, by (repeat (first | exact Below.refl _ _ | assumption | (refine Below.alloc ?_ (by first | omega | (simp; done) | (simp; omega)) _) | (refine Below.setCell ?_ (by first | omega | (simp; done) | (simp; omega)) _) | refine Below.drew ?_ | refine below_drewN ?_ _))⟩
set_option maxHeartbeats 2000000 in
theorem reds_le (x m y v u : Nat) (k : Int) (hv : v < m) (hx : x ≤ y) (hu : v ≤ u) (w : World)
    (H1 : ∀ W, Calls Try.prog 57 #[.int .u64 x, .int .i64 k, .int .u64 m] W fun e w' => e = .returned (.tuple #[.int .u64 v, .int .i64 0]) ∧ Below W.heap.size W w')
    (H2 : ∀ W, Calls Try.prog 58 #[.int .i64 k, .int .u64 m] W fun e w' => e = .returned (.int .i64 0) ∧ W = w')
    (H3 : ∀ W, Calls Try.prog 59 #[.int .i64 k, .int .u64 m] W fun e w' => e = .returned (.int .i64 0) ∧ W = w')
    (H4 : ∀ W, Calls Try.prog 60 #[.int .u64 x, .int .i64 k] W fun e w' => e = .returned (.bool false) ∧ Below W.heap.size W w')
    (H5 : ∀ W, Calls Try.prog 57 #[.int .u64 y, .int .i64 k, .int .u64 m] W fun e w' => e = .returned (.tuple #[.int .u64 u, .int .i64 0]) ∧ Below W.heap.size W w')
    (H6 : ∀ W, Calls Try.prog 61 #[.int .u64 x, .int .i64 k, .int .u64 m] W fun e w' => e = .returned (.int .u64 v) ∧ Below W.heap.size W w')
    : Calls Try.prog 9 #[.int .u64 x, .int .i64 k, .int .u64 m, .int .u64 y] w fun e w' => e = .returned (.bool true) ∧ Below w.heap.size w w' := by
  replace H1 := hide H1
  replace H2 := hide H2
  replace H3 := hide H3
  replace H4 := hide H4
  replace H5 := hide H5
  replace H6 := hide H6
  have t3 : decide (y < x) = false := decide_eq_false (by omega)
  have t4 : ¬ (y : Int) < (x : Int) := by omega
  have t5 : decide (v ≤ u) = true := decide_eq_true hu
  have t6 : (v : Int) ≤ (u : Int) := by omega
  clear hx hu
  have t1 : decide (v < m) = true := decide_eq_true hv
  have t2 : (v : Int) < (m : Int) := by omega
  clear hv
  go_enter Try.func9, Try.ntmps9
  go_wp2_with fail
  refine (awake26 _).mono ?_
  rintro e w1 ⟨rfl, B⟩
  go_wp2_with fail
  refine (H1.out _).mono ?_
  rintro e w2 ⟨rfl, hb⟩
  replace B : Below w.heap.size w w2 := below_call (by (repeat (first | exact Below.refl _ _ | assumption | (refine Below.alloc ?_ (by first | omega | (simp; done) | (simp; omega)) _) | (refine Below.setCell ?_ (by first | omega | (simp; done) | (simp; omega)) _) | refine Below.drew ?_ | refine below_drewN ?_ _))) (Nat.le_refl _) hb
  clear hb
  go_wp2_with fail
  refine (H2.out _).mono ?_
  rintro e wq ⟨rfl, rfl⟩
  go_wp2_with fail
  refine (H3.out _).mono ?_
  rintro e wq ⟨rfl, rfl⟩
  go_wp2_with fail
  refine (H4.out _).mono ?_
  rintro e w3 ⟨rfl, hb⟩
  replace B : Below w.heap.size w w3 := below_call (by (repeat (first | exact Below.refl _ _ | assumption | (refine Below.alloc ?_ (by first | omega | (simp; done) | (simp; omega)) _) | (refine Below.setCell ?_ (by first | omega | (simp; done) | (simp; omega)) _) | refine Below.drew ?_ | refine below_drewN ?_ _))) (Nat.le_refl _) hb
  clear hb
  go_wp2_with fail
  refine (H5.out _).mono ?_
  rintro e w4 ⟨rfl, hb⟩
  replace B : Below w.heap.size w w4 := below_call (by (repeat (first | exact Below.refl _ _ | assumption | (refine Below.alloc ?_ (by first | omega | (simp; done) | (simp; omega)) _) | (refine Below.setCell ?_ (by first | omega | (simp; done) | (simp; omega)) _) | refine Below.drew ?_ | refine below_drewN ?_ _))) (Nat.le_refl _) hb
  clear hb
  go_wp2_with fail
  refine (H6.out _).mono ?_
  rintro e w5 ⟨rfl, hb⟩
  replace B : Below w.heap.size w w5 := below_call (by (repeat (first | exact Below.refl _ _ | assumption | (refine Below.alloc ?_ (by first | omega | (simp; done) | (simp; omega)) _) | (refine Below.setCell ?_ (by first | omega | (simp; done) | (simp; omega)) _) | refine Below.drew ?_ | refine below_drewN ?_ _))) (Nat.le_refl _) hb
  clear hb
  go_wp2_with fail
  go_ret
  exact ⟨rfl, by (repeat (first | exact Below.refl _ _ | assumption | (refine Below.alloc ?_ (by first | omega | (simp; done) | (simp; omega)) _) | (refine Below.setCell ?_ (by first | omega | (simp; done) | (simp; omega)) _) | refine Below.drew ?_ | refine below_drewN ?_ _))⟩
theorem reduces_law (x : Nat) (k : Int) (m y : Nat) (w : World) (hx : x < 18446744073709551616) (hm : m < 18446744073709551616) (hy : y < 18446744073709551616) :
    Calls Try.prog 9 #[.int .u64 x, .int .i64 k, .int .u64 m, .int .u64 y] w fun e w' => e = .returned (.bool true) ∧ Below w.heap.size w w' := by
  have h1 := reduce_any x m k hx hm
  have h2 := rchk_ref k m
  have h3 := rchk_any k m
  by_cases hc : chkR k m = 0
  · obtain ⟨k1, k2, hm0⟩ := chkR_ok hc
    have h4 := has_any x k hx
    rw [hasB_iff hx (by omega)] at h4
    rw [hc] at h2 h3
    by_cases hlt : x < 2 ^ k.toNat
    · have hE : redE x k m = 0 := by unfold redE; rw [if_pos hc, if_pos hlt]
      have hV : redV x k m = rdV x k.toNat m := if_pos ⟨hc, hlt⟩
      rw [hE, hV] at h1
      rw [decide_eq_true hlt] at h4
      have hv := rdV_lt (k := k.toNat) hlt hm0
      have h5 := reduce_any y m k hy hm
      have h6 := redr_any x m k hx hm (by omega) k2 hlt hm0
      by_cases hly : y < 2 ^ k.toNat
      · have hE : redE y k m = 0 := by unfold redE; rw [if_pos hc, if_pos hly]
        have hV : redV y k m = rdV y k.toNat m := if_pos ⟨hc, hly⟩
        rw [hE, hV] at h5
        rcases Nat.lt_or_ge y x with hxy | hxy
        · exact reds_gt x m y _ _ k hv hxy w h1 h2 h3 h4 h5 h6
        · exact reds_le x m y _ _ k hv hxy (rdV_mono hxy) w h1 h2 h3 h4 h5 h6
      · have hE : redE y k m = 2 := by unfold redE; rw [if_pos hc, if_neg hly]
        rw [hE] at h5
        exact reds_f x m y _ _ k hv w h1 h2 h3 h4 h5 h6
    · have hE : redE x k m = 2 := by unfold redE; rw [if_pos hc, if_neg hlt]
      have hV : redV x k m = 0 := if_neg (by omega)
      rw [hE, hV] at h1
      rw [decide_eq_false hlt] at h4
      exact reds_has x m y k w h1 h2 h3 h4
  · have hE : redE x k m = chkR k m := if_neg hc
    have hV : redV x k m = 0 := if_neg (by omega)
    rw [hE, hV] at h1
    exact reds_bad x m y k _ (by rw [beq_eq_false_iff_ne]; exact hc) w h1 h2 h3
end Go.Proofs.Ytioieoinkjfcfaa
