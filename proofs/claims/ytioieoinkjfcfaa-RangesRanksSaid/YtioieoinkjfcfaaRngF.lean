/-
  Walks of the law RangesRanks. Conditions: numbers fit 64 bits.
-/
import Derived.Test.YtioieoinkjfcfaaRngC
namespace Go.Proofs.Ytioieoinkjfcfaa
open Go.RowKit Go.Shelf
set_option linter.unusedVariables false

set_option maxHeartbeats 2000000 in
theorem rnks_bad (x m v r : Nat) (k c : Int) (t1 : (c == 0) = false) (w : World)
    (H1 : ∀ W, Calls Try.prog 66 #[.int .u64 x, .int .i64 k, .int .u64 m] W fun e w' => e = .returned (.tuple #[.int .u64 0, .int .u64 0, .int .i64 c]) ∧ Below W.heap.size W w')
    (H2 : ∀ W, Calls Try.prog 58 #[.int .i64 k, .int .u64 m] W fun e w' => e = .returned (.int .i64 c) ∧ W = w')
    (H3 : ∀ W, Calls Try.prog 67 #[.int .u64 v, .int .u64 r, .int .i64 k, .int .u64 m] W fun e w' => e = .returned (.tuple #[.int .u64 0, .int .i64 c]) ∧ Below W.heap.size W w')
    : Calls Try.prog 11 #[.int .u64 x, .int .i64 k, .int .u64 m, .int .u64 v, .int .u64 r] w fun e w' => e = .returned (.bool true) ∧ Below w.heap.size w w' := by
  replace H1 := hide H1
  replace H2 := hide H2
  replace H3 := hide H3
  go_enter Try.func11, Try.ntmps11
  go_wp2_with fail
  refine (awake26 _).mono ?_
  rintro e w1 ⟨rfl, B⟩
  go_wp2_with fail
  refine (H1.out _).mono ?_
  rintro e w2 ⟨rfl, hb⟩
  replace B : Below w.heap.size w w2 := below_call (by (repeat (first | exact Below.refl _ _ | assumption | (refine Below.alloc ?_ (by first | omega | (simp; done) | (simp; omega)) _) | (refine Below.setCell ?_ (by first | omega | (simp; done) | (simp; omega)) _) | refine Below.drew ?_ | refine below_drewN ?_ _))) (Nat.le_refl _) hb
  clear hb
  go_wp2_with fail
  refine (H2.out _).mono ?_
  rintro e wq ⟨rfl, rfl⟩
  go_wp2_with fail
  refine (H3.out _).mono ?_
  rintro e w3 ⟨rfl, hb⟩
  replace B : Below w.heap.size w w3 := below_call (by (repeat (first | exact Below.refl _ _ | assumption | (refine Below.alloc ?_ (by first | omega | (simp; done) | (simp; omega)) _) | (refine Below.setCell ?_ (by first | omega | (simp; done) | (simp; omega)) _) | refine Below.drew ?_ | refine below_drewN ?_ _))) (Nat.le_refl _) hb
  clear hb
  go_wp2_with fail
  go_ret
  exact ⟨rfl, by (repeat (first | exact Below.refl _ _ | assumption | (refine Below.alloc ?_ (by first | omega | (simp; done) | (simp; omega)) _) | (refine Below.setCell ?_ (by first | omega | (simp; done) | (simp; omega)) _) | refine Below.drew ?_ | refine below_drewN ?_ _))⟩
set_option maxRecDepth 100000 in
set_option maxHeartbeats 4000000 in
theorem rnks_has_ge (x m v r : Nat) (k : Int) (hv : m ≤ v) (w : World)
    (H1 : ∀ W, Calls Try.prog 66 #[.int .u64 x, .int .i64 k, .int .u64 m] W fun e w' => e = .returned (.tuple #[.int .u64 0, .int .u64 0, .int .i64 2]) ∧ Below W.heap.size W w')
    (H2 : ∀ W, Calls Try.prog 58 #[.int .i64 k, .int .u64 m] W fun e w' => e = .returned (.int .i64 0) ∧ W = w')
    (H3 : ∀ W, Calls Try.prog 67 #[.int .u64 v, .int .u64 r, .int .i64 k, .int .u64 m] W fun e w' => e = .returned (.tuple #[.int .u64 0, .int .i64 2]) ∧ Below W.heap.size W w')
    (H4 : ∀ W, Calls Try.prog 60 #[.int .u64 x, .int .i64 k] W fun e w' => e = .returned (.bool true) ∧ Below W.heap.size W w')
    : Calls Try.prog 11 #[.int .u64 x, .int .i64 k, .int .u64 m, .int .u64 v, .int .u64 r] w fun e w' => e = .returned (.bool true) ∧ Below w.heap.size w w' := by
  replace H1 := hide H1
  replace H2 := hide H2
  replace H3 := hide H3
  replace H4 := hide H4
  have t1 : decide (m ≤ v) = true := decide_eq_true hv
  have t2 : (m : Int) ≤ (v : Int) := by omega
  clear hv
  go_enter Try.func11, Try.ntmps11
  go_wp2_with fail
  refine (awake26 _).mono ?_
  rintro e w1 ⟨rfl, B⟩
  go_wp2_with fail
  refine (H1.out _).mono ?_
  rintro e w2 ⟨rfl, hb⟩
  replace B : Below w.heap.size w w2 := below_call (by (repeat (first | exact Below.refl _ _ | assumption | (refine Below.alloc ?_ (by first | omega | (simp; done) | (simp; omega)) _) | (refine Below.setCell ?_ (by first | omega | (simp; done) | (simp; omega)) _) | refine Below.drew ?_ | refine below_drewN ?_ _))) (Nat.le_refl _) hb
  clear hb
  go_wp2_with fail
  refine (H2.out _).mono ?_
  rintro e wq ⟨rfl, rfl⟩
  go_wp2_with fail
  refine (H3.out _).mono ?_
  rintro e w3 ⟨rfl, hb⟩
  replace B : Below w.heap.size w w3 := below_call (by (repeat (first | exact Below.refl _ _ | assumption | (refine Below.alloc ?_ (by first | omega | (simp; done) | (simp; omega)) _) | (refine Below.setCell ?_ (by first | omega | (simp; done) | (simp; omega)) _) | refine Below.drew ?_ | refine below_drewN ?_ _))) (Nat.le_refl _) hb
  clear hb
  go_wp2_with fail
  refine (H4.out _).mono ?_
  rintro e w4 ⟨rfl, hb⟩
  replace B : Below w.heap.size w w4 := below_call (by (repeat (first | exact Below.refl _ _ | assumption | (refine Below.alloc ?_ (by first | omega | (simp; done) | (simp; omega)) _) | (refine Below.setCell ?_ (by first | omega | (simp; done) | (simp; omega)) _) | refine Below.drew ?_ | refine below_drewN ?_ _))) (Nat.le_refl _) hb
  clear hb
  go_wp2_with fail
  go_ret
  exact ⟨rfl, by (repeat (first | exact Below.refl _ _ | assumption | (refine Below.alloc ?_ (by first | omega | (simp; done) | (simp; omega)) _) | (refine Below.setCell ?_ (by first | omega | (simp; done) | (simp; omega)) _) | refine Below.drew ?_ | refine below_drewN ?_ _))⟩
set_option maxRecDepth 100000 in
set_option maxHeartbeats 4000000 in
theorem rnks_has_cmp (x m v r nh nl : Nat) (k cc : Int) (hv : v < m) (hcc : 0 ≤ cc) (w : World)
    (H1 : ∀ W, Calls Try.prog 66 #[.int .u64 x, .int .i64 k, .int .u64 m] W fun e w' => e = .returned (.tuple #[.int .u64 0, .int .u64 0, .int .i64 2]) ∧ Below W.heap.size W w')
    (H2 : ∀ W, Calls Try.prog 58 #[.int .i64 k, .int .u64 m] W fun e w' => e = .returned (.int .i64 0) ∧ W = w')
    (H3 : ∀ W, Calls Try.prog 67 #[.int .u64 v, .int .u64 r, .int .i64 k, .int .u64 m] W fun e w' => e = .returned (.tuple #[.int .u64 0, .int .i64 2]) ∧ Below W.heap.size W w')
    (H4 : ∀ W, Calls Try.prog 60 #[.int .u64 x, .int .i64 k] W fun e w' => e = .returned (.bool true) ∧ Below W.heap.size W w')
    (H7 : ∀ W, Calls Try.prog 65 #[.int .u64 v, .int .i64 k, .int .u64 m] W fun e w' => e = .returned (.agg #[.int .u64 nh, .int .u64 nl]) ∧ Below W.heap.size W w')
    (H8 : ∀ W, Calls Try.prog 68 #[.agg #[.int .u64 0, .int .u64 r], .agg #[.int .u64 nh, .int .u64 nl]] W fun e w' => e = .returned (.int .i64 cc) ∧ Below W.heap.size W w')
    : Calls Try.prog 11 #[.int .u64 x, .int .i64 k, .int .u64 m, .int .u64 v, .int .u64 r] w fun e w' => e = .returned (.bool true) ∧ Below w.heap.size w w' := by
  replace H1 := hide H1
  replace H2 := hide H2
  replace H3 := hide H3
  replace H4 := hide H4
  replace H7 := hide H7
  replace H8 := hide H8
  have t1 : decide (m ≤ v) = false := decide_eq_false (by omega)
  have t2 : ¬ (m : Int) ≤ (v : Int) := by omega
  clear hv
  have t3 : decide (0 ≤ cc) = true := decide_eq_true hcc
  go_enter Try.func11, Try.ntmps11
  go_wp2_with fail
  refine (awake26 _).mono ?_
  rintro e w1 ⟨rfl, B⟩
  go_wp2_with fail
  refine (H1.out _).mono ?_
  rintro e w2 ⟨rfl, hb⟩
  replace B : Below w.heap.size w w2 := below_call (by (repeat (first | exact Below.refl _ _ | assumption | (refine Below.alloc ?_ (by first | omega | (simp; done) | (simp; omega)) _) | (refine Below.setCell ?_ (by first | omega | (simp; done) | (simp; omega)) _) | refine Below.drew ?_ | refine below_drewN ?_ _))) (Nat.le_refl _) hb
  clear hb
  go_wp2_with fail
  refine (H2.out _).mono ?_
  rintro e wq ⟨rfl, rfl⟩
  go_wp2_with fail
  refine (H3.out _).mono ?_
  rintro e w3 ⟨rfl, hb⟩
  replace B : Below w.heap.size w w3 := below_call (by (repeat (first | exact Below.refl _ _ | assumption | (refine Below.alloc ?_ (by first | omega | (simp; done) | (simp; omega)) _) | (refine Below.setCell ?_ (by first | omega | (simp; done) | (simp; omega)) _) | refine Below.drew ?_ | refine below_drewN ?_ _))) (Nat.le_refl _) hb
  clear hb
  go_wp2_with fail
  refine (H4.out _).mono ?_
  rintro e w4 ⟨rfl, hb⟩
  replace B : Below w.heap.size w w4 := below_call (by (repeat (first | exact Below.refl _ _ | assumption | (refine Below.alloc ?_ (by first | omega | (simp; done) | (simp; omega)) _) | (refine Below.setCell ?_ (by first | omega | (simp; done) | (simp; omega)) _) | refine Below.drew ?_ | refine below_drewN ?_ _))) (Nat.le_refl _) hb
  clear hb
  go_wp2_with fail
  refine (H7.out _).mono ?_
  rintro e w7 ⟨rfl, hb⟩
  replace B : Below w.heap.size w w7 := below_call (by (repeat (first | exact Below.refl _ _ | assumption | (refine Below.alloc ?_ (by first | omega | (simp; done) | (simp; omega)) _) | (refine Below.setCell ?_ (by first | omega | (simp; done) | (simp; omega)) _) | refine Below.drew ?_ | refine below_drewN ?_ _))) (Nat.le_refl _) hb
  clear hb
  go_wp2_with fail
  refine (H8.out _).mono ?_
  rintro e w8 ⟨rfl, hb⟩
  replace B : Below w.heap.size w w8 := below_call (by (repeat (first | exact Below.refl _ _ | assumption | (refine Below.alloc ?_ (by first | omega | (simp; done) | (simp; omega)) _) | (refine Below.setCell ?_ (by first | omega | (simp; done) | (simp; omega)) _) | refine Below.drew ?_ | refine below_drewN ?_ _))) (Nat.le_refl _) hb
  clear hb
  go_wp2_with fail
  go_ret
  exact ⟨rfl, by (repeat (first | exact Below.refl _ _ | assumption | (refine Below.alloc ?_ (by first | omega | (simp; done) | (simp; omega)) _) | (refine Below.setCell ?_ (by first | omega | (simp; done) | (simp; omega)) _) | refine Below.drew ?_ | refine below_drewN ?_ _))⟩
set_option maxRecDepth 100000 in
set_option maxHeartbeats 4000000 in
theorem rnks_has_in (x m v r y nh nl : Nat) (k cc : Int) (hv : v < m) (hcc : cc < 0) (w : World)
    (H1 : ∀ W, Calls Try.prog 66 #[.int .u64 x, .int .i64 k, .int .u64 m] W fun e w' => e = .returned (.tuple #[.int .u64 0, .int .u64 0, .int .i64 2]) ∧ Below W.heap.size W w')
    (H2 : ∀ W, Calls Try.prog 58 #[.int .i64 k, .int .u64 m] W fun e w' => e = .returned (.int .i64 0) ∧ W = w')
    (H3 : ∀ W, Calls Try.prog 67 #[.int .u64 v, .int .u64 r, .int .i64 k, .int .u64 m] W fun e w' => e = .returned (.tuple #[.int .u64 y, .int .i64 0]) ∧ Below W.heap.size W w')
    (H4 : ∀ W, Calls Try.prog 60 #[.int .u64 x, .int .i64 k] W fun e w' => e = .returned (.bool true) ∧ Below W.heap.size W w')
    (H7 : ∀ W, Calls Try.prog 65 #[.int .u64 v, .int .i64 k, .int .u64 m] W fun e w' => e = .returned (.agg #[.int .u64 nh, .int .u64 nl]) ∧ Below W.heap.size W w')
    (H8 : ∀ W, Calls Try.prog 68 #[.agg #[.int .u64 0, .int .u64 r], .agg #[.int .u64 nh, .int .u64 nl]] W fun e w' => e = .returned (.int .i64 cc) ∧ Below W.heap.size W w')
    (H9 : ∀ W, Calls Try.prog 66 #[.int .u64 y, .int .i64 k, .int .u64 m] W fun e w' => e = .returned (.tuple #[.int .u64 v, .int .u64 r, .int .i64 0]) ∧ Below W.heap.size W w')
    (H10 : ∀ W, Calls Try.prog 60 #[.int .u64 y, .int .i64 k] W fun e w' => e = .returned (.bool false) ∧ Below W.heap.size W w')
    : Calls Try.prog 11 #[.int .u64 x, .int .i64 k, .int .u64 m, .int .u64 v, .int .u64 r] w fun e w' => e = .returned (.bool true) ∧ Below w.heap.size w w' := by
  replace H1 := hide H1
  replace H2 := hide H2
  replace H3 := hide H3
  replace H4 := hide H4
  replace H7 := hide H7
  replace H8 := hide H8
  replace H9 := hide H9
  replace H10 := hide H10
  have t1 : decide (m ≤ v) = false := decide_eq_false (by omega)
  have t2 : ¬ (m : Int) ≤ (v : Int) := by omega
  clear hv
  have t3 : decide (0 ≤ cc) = false := decide_eq_false (by omega)
  have t4 : ¬ 0 ≤ cc := by omega
  go_enter Try.func11, Try.ntmps11
  go_wp2_with fail
  refine (awake26 _).mono ?_
  rintro e w1 ⟨rfl, B⟩
  go_wp2_with fail
  refine (H1.out _).mono ?_
  rintro e w2 ⟨rfl, hb⟩
  replace B : Below w.heap.size w w2 := below_call (by (repeat (first | exact Below.refl _ _ | assumption | (refine Below.alloc ?_ (by first | omega | (simp; done) | (simp; omega)) _) | (refine Below.setCell ?_ (by first | omega | (simp; done) | (simp; omega)) _) | refine Below.drew ?_ | refine below_drewN ?_ _))) (Nat.le_refl _) hb
  clear hb
  go_wp2_with fail
  refine (H2.out _).mono ?_
  rintro e wq ⟨rfl, rfl⟩
  go_wp2_with fail
  refine (H3.out _).mono ?_
  rintro e w3 ⟨rfl, hb⟩
  replace B : Below w.heap.size w w3 := below_call (by (repeat (first | exact Below.refl _ _ | assumption | (refine Below.alloc ?_ (by first | omega | (simp; done) | (simp; omega)) _) | (refine Below.setCell ?_ (by first | omega | (simp; done) | (simp; omega)) _) | refine Below.drew ?_ | refine below_drewN ?_ _))) (Nat.le_refl _) hb
  clear hb
  go_wp2_with fail
  refine (H4.out _).mono ?_
  rintro e w4 ⟨rfl, hb⟩
  replace B : Below w.heap.size w w4 := below_call (by (repeat (first | exact Below.refl _ _ | assumption | (refine Below.alloc ?_ (by first | omega | (simp; done) | (simp; omega)) _) | (refine Below.setCell ?_ (by first | omega | (simp; done) | (simp; omega)) _) | refine Below.drew ?_ | refine below_drewN ?_ _))) (Nat.le_refl _) hb
  clear hb
  go_wp2_with fail
  refine (H7.out _).mono ?_
  rintro e w7 ⟨rfl, hb⟩
  replace B : Below w.heap.size w w7 := below_call (by (repeat (first | exact Below.refl _ _ | assumption | (refine Below.alloc ?_ (by first | omega | (simp; done) | (simp; omega)) _) | (refine Below.setCell ?_ (by first | omega | (simp; done) | (simp; omega)) _) | refine Below.drew ?_ | refine below_drewN ?_ _))) (Nat.le_refl _) hb
  clear hb
  go_wp2_with fail
  refine (H8.out _).mono ?_
  rintro e w8 ⟨rfl, hb⟩
  replace B : Below w.heap.size w w8 := below_call (by (repeat (first | exact Below.refl _ _ | assumption | (refine Below.alloc ?_ (by first | omega | (simp; done) | (simp; omega)) _) | (refine Below.setCell ?_ (by first | omega | (simp; done) | (simp; omega)) _) | refine Below.drew ?_ | refine below_drewN ?_ _))) (Nat.le_refl _) hb
  clear hb
  go_wp2_with fail
  refine (H9.out _).mono ?_
  rintro e w9 ⟨rfl, hb⟩
  replace B : Below w.heap.size w w9 := below_call (by (repeat (first | exact Below.refl _ _ | assumption | (refine Below.alloc ?_ (by first | omega | (simp; done) | (simp; omega)) _) | (refine Below.setCell ?_ (by first | omega | (simp; done) | (simp; omega)) _) | refine Below.drew ?_ | refine below_drewN ?_ _))) (Nat.le_refl _) hb
  clear hb
  go_wp2_with fail
  refine (H10.out _).mono ?_
  rintro e w10 ⟨rfl, hb⟩
  replace B : Below w.heap.size w w10 := below_call (by (repeat (first | exact Below.refl _ _ | assumption | (refine Below.alloc ?_ (by first | omega | (simp; done) | (simp; omega)) _) | (refine Below.setCell ?_ (by first | omega | (simp; done) | (simp; omega)) _) | refine Below.drew ?_ | refine below_drewN ?_ _))) (Nat.le_refl _) hb
  clear hb
  go_wp2_with fail
  go_ret
  exact ⟨rfl, by (repeat (first | exact Below.refl _ _ | assumption | (refine Below.alloc ?_ (by first | omega | (simp; done) | (simp; omega)) _) | (refine Below.setCell ?_ (by first | omega | (simp; done) | (simp; omega)) _) | refine Below.drew ?_ | refine below_drewN ?_ _))⟩
set_option maxRecDepth 100000 in
set_option maxHeartbeats 4000000 in
theorem rnks_no_ge (x m v r u j : Nat) (k : Int) (hv : m ≤ v) (w : World)
    (H1 : ∀ W, Calls Try.prog 66 #[.int .u64 x, .int .i64 k, .int .u64 m] W fun e w' => e = .returned (.tuple #[.int .u64 u, .int .u64 j, .int .i64 0]) ∧ Below W.heap.size W w')
    (H2 : ∀ W, Calls Try.prog 58 #[.int .i64 k, .int .u64 m] W fun e w' => e = .returned (.int .i64 0) ∧ W = w')
    (H3 : ∀ W, Calls Try.prog 67 #[.int .u64 v, .int .u64 r, .int .i64 k, .int .u64 m] W fun e w' => e = .returned (.tuple #[.int .u64 0, .int .i64 2]) ∧ Below W.heap.size W w')
    (H4 : ∀ W, Calls Try.prog 60 #[.int .u64 x, .int .i64 k] W fun e w' => e = .returned (.bool false) ∧ Below W.heap.size W w')
    (H5 : ∀ W, Calls Try.prog 67 #[.int .u64 u, .int .u64 j, .int .i64 k, .int .u64 m] W fun e w' => e = .returned (.tuple #[.int .u64 x, .int .i64 0]) ∧ Below W.heap.size W w')
    (H6 : ∀ W, Calls Try.prog 61 #[.int .u64 x, .int .i64 k, .int .u64 m] W fun e w' => e = .returned (.int .u64 u) ∧ Below W.heap.size W w')
    : Calls Try.prog 11 #[.int .u64 x, .int .i64 k, .int .u64 m, .int .u64 v, .int .u64 r] w fun e w' => e = .returned (.bool true) ∧ Below w.heap.size w w' := by
  replace H1 := hide H1
  replace H2 := hide H2
  replace H3 := hide H3
  replace H4 := hide H4
  replace H5 := hide H5
  replace H6 := hide H6
  have t1 : decide (m ≤ v) = true := decide_eq_true hv
  have t2 : (m : Int) ≤ (v : Int) := by omega
  clear hv
  go_enter Try.func11, Try.ntmps11
  go_wp2_with fail
  refine (awake26 _).mono ?_
  rintro e w1 ⟨rfl, B⟩
  go_wp2_with fail
  refine (H1.out _).mono ?_
  rintro e w2 ⟨rfl, hb⟩
  replace B : Below w.heap.size w w2 := below_call (by (repeat (first | exact Below.refl _ _ | assumption | (refine Below.alloc ?_ (by first | omega | (simp; done) | (simp; omega)) _) | (refine Below.setCell ?_ (by first | omega | (simp; done) | (simp; omega)) _) | refine Below.drew ?_ | refine below_drewN ?_ _))) (Nat.le_refl _) hb
  clear hb
  go_wp2_with fail
  refine (H2.out _).mono ?_
  rintro e wq ⟨rfl, rfl⟩
  go_wp2_with fail
  refine (H3.out _).mono ?_
  rintro e w3 ⟨rfl, hb⟩
  replace B : Below w.heap.size w w3 := below_call (by (repeat (first | exact Below.refl _ _ | assumption | (refine Below.alloc ?_ (by first | omega | (simp; done) | (simp; omega)) _) | (refine Below.setCell ?_ (by first | omega | (simp; done) | (simp; omega)) _) | refine Below.drew ?_ | refine below_drewN ?_ _))) (Nat.le_refl _) hb
  clear hb
  go_wp2_with fail
  refine (H4.out _).mono ?_
  rintro e w4 ⟨rfl, hb⟩
  replace B : Below w.heap.size w w4 := below_call (by (repeat (first | exact Below.refl _ _ | assumption | (refine Below.alloc ?_ (by first | omega | (simp; done) | (simp; omega)) _) | (refine Below.setCell ?_ (by first | omega | (simp; done) | (simp; omega)) _) | refine Below.drew ?_ | refine below_drewN ?_ _))) (Nat.le_refl _) hb
  clear hb
  go_wp2_with fail
  refine (H5.out _).mono ?_
  rintro e w5 ⟨rfl, hb⟩
  replace B : Below w.heap.size w w5 := below_call (by (repeat (first | exact Below.refl _ _ | assumption | (refine Below.alloc ?_ (by first | omega | (simp; done) | (simp; omega)) _) | (refine Below.setCell ?_ (by first | omega | (simp; done) | (simp; omega)) _) | refine Below.drew ?_ | refine below_drewN ?_ _))) (Nat.le_refl _) hb
  clear hb
  go_wp2_with fail
  refine (H6.out _).mono ?_
  rintro e w6 ⟨rfl, hb⟩
  replace B : Below w.heap.size w w6 := below_call (by (repeat (first | exact Below.refl _ _ | assumption | (refine Below.alloc ?_ (by first | omega | (simp; done) | (simp; omega)) _) | (refine Below.setCell ?_ (by first | omega | (simp; done) | (simp; omega)) _) | refine Below.drew ?_ | refine below_drewN ?_ _))) (Nat.le_refl _) hb
  clear hb
  go_wp2_with fail
  go_ret
  exact ⟨rfl, by (repeat (first | exact Below.refl _ _ | assumption | (refine Below.alloc ?_ (by first | omega | (simp; done) | (simp; omega)) _) | (refine Below.setCell ?_ (by first | omega | (simp; done) | (simp; omega)) _) | refine Below.drew ?_ | refine below_drewN ?_ _))⟩
set_option maxRecDepth 100000 in
set_option maxHeartbeats 4000000 in
theorem rnks_no_cmp (x m v r u j nh nl : Nat) (k cc : Int) (hv : v < m) (hcc : 0 ≤ cc) (w : World)
    (H1 : ∀ W, Calls Try.prog 66 #[.int .u64 x, .int .i64 k, .int .u64 m] W fun e w' => e = .returned (.tuple #[.int .u64 u, .int .u64 j, .int .i64 0]) ∧ Below W.heap.size W w')
    (H2 : ∀ W, Calls Try.prog 58 #[.int .i64 k, .int .u64 m] W fun e w' => e = .returned (.int .i64 0) ∧ W = w')
    (H3 : ∀ W, Calls Try.prog 67 #[.int .u64 v, .int .u64 r, .int .i64 k, .int .u64 m] W fun e w' => e = .returned (.tuple #[.int .u64 0, .int .i64 2]) ∧ Below W.heap.size W w')
    (H4 : ∀ W, Calls Try.prog 60 #[.int .u64 x, .int .i64 k] W fun e w' => e = .returned (.bool false) ∧ Below W.heap.size W w')
    (H5 : ∀ W, Calls Try.prog 67 #[.int .u64 u, .int .u64 j, .int .i64 k, .int .u64 m] W fun e w' => e = .returned (.tuple #[.int .u64 x, .int .i64 0]) ∧ Below W.heap.size W w')
    (H6 : ∀ W, Calls Try.prog 61 #[.int .u64 x, .int .i64 k, .int .u64 m] W fun e w' => e = .returned (.int .u64 u) ∧ Below W.heap.size W w')
    (H7 : ∀ W, Calls Try.prog 65 #[.int .u64 v, .int .i64 k, .int .u64 m] W fun e w' => e = .returned (.agg #[.int .u64 nh, .int .u64 nl]) ∧ Below W.heap.size W w')
    (H8 : ∀ W, Calls Try.prog 68 #[.agg #[.int .u64 0, .int .u64 r], .agg #[.int .u64 nh, .int .u64 nl]] W fun e w' => e = .returned (.int .i64 cc) ∧ Below W.heap.size W w')
    : Calls Try.prog 11 #[.int .u64 x, .int .i64 k, .int .u64 m, .int .u64 v, .int .u64 r] w fun e w' => e = .returned (.bool true) ∧ Below w.heap.size w w' := by
  replace H1 := hide H1
  replace H2 := hide H2
  replace H3 := hide H3
  replace H4 := hide H4
  replace H5 := hide H5
  replace H6 := hide H6
  replace H7 := hide H7
  replace H8 := hide H8
  have t1 : decide (m ≤ v) = false := decide_eq_false (by omega)
  have t2 : ¬ (m : Int) ≤ (v : Int) := by omega
  clear hv
  have t3 : decide (0 ≤ cc) = true := decide_eq_true hcc
  go_enter Try.func11, Try.ntmps11
  go_wp2_with fail
  refine (awake26 _).mono ?_
  rintro e w1 ⟨rfl, B⟩
  go_wp2_with fail
  refine (H1.out _).mono ?_
  rintro e w2 ⟨rfl, hb⟩
  replace B : Below w.heap.size w w2 := below_call (by (repeat (first | exact Below.refl _ _ | assumption | (refine Below.alloc ?_ (by first | omega | (simp; done) | (simp; omega)) _) | (refine Below.setCell ?_ (by first | omega | (simp; done) | (simp; omega)) _) | refine Below.drew ?_ | refine below_drewN ?_ _))) (Nat.le_refl _) hb
  clear hb
  go_wp2_with fail
  refine (H2.out _).mono ?_
  rintro e wq ⟨rfl, rfl⟩
  go_wp2_with fail
  refine (H3.out _).mono ?_
  rintro e w3 ⟨rfl, hb⟩
  replace B : Below w.heap.size w w3 := below_call (by (repeat (first | exact Below.refl _ _ | assumption | (refine Below.alloc ?_ (by first | omega | (simp; done) | (simp; omega)) _) | (refine Below.setCell ?_ (by first | omega | (simp; done) | (simp; omega)) _) | refine Below.drew ?_ | refine below_drewN ?_ _))) (Nat.le_refl _) hb
  clear hb
  go_wp2_with fail
  refine (H4.out _).mono ?_
  rintro e w4 ⟨rfl, hb⟩
  replace B : Below w.heap.size w w4 := below_call (by (repeat (first | exact Below.refl _ _ | assumption | (refine Below.alloc ?_ (by first | omega | (simp; done) | (simp; omega)) _) | (refine Below.setCell ?_ (by first | omega | (simp; done) | (simp; omega)) _) | refine Below.drew ?_ | refine below_drewN ?_ _))) (Nat.le_refl _) hb
  clear hb
  go_wp2_with fail
  refine (H5.out _).mono ?_
  rintro e w5 ⟨rfl, hb⟩
  replace B : Below w.heap.size w w5 := below_call (by (repeat (first | exact Below.refl _ _ | assumption | (refine Below.alloc ?_ (by first | omega | (simp; done) | (simp; omega)) _) | (refine Below.setCell ?_ (by first | omega | (simp; done) | (simp; omega)) _) | refine Below.drew ?_ | refine below_drewN ?_ _))) (Nat.le_refl _) hb
  clear hb
  go_wp2_with fail
  refine (H6.out _).mono ?_
  rintro e w6 ⟨rfl, hb⟩
  replace B : Below w.heap.size w w6 := below_call (by (repeat (first | exact Below.refl _ _ | assumption | (refine Below.alloc ?_ (by first | omega | (simp; done) | (simp; omega)) _) | (refine Below.setCell ?_ (by first | omega | (simp; done) | (simp; omega)) _) | refine Below.drew ?_ | refine below_drewN ?_ _))) (Nat.le_refl _) hb
  clear hb
  go_wp2_with fail
  refine (H7.out _).mono ?_
  rintro e w7 ⟨rfl, hb⟩
  replace B : Below w.heap.size w w7 := below_call (by (repeat (first | exact Below.refl _ _ | assumption | (refine Below.alloc ?_ (by first | omega | (simp; done) | (simp; omega)) _) | (refine Below.setCell ?_ (by first | omega | (simp; done) | (simp; omega)) _) | refine Below.drew ?_ | refine below_drewN ?_ _))) (Nat.le_refl _) hb
  clear hb
  go_wp2_with fail
  refine (H8.out _).mono ?_
  rintro e w8 ⟨rfl, hb⟩
  replace B : Below w.heap.size w w8 := below_call (by (repeat (first | exact Below.refl _ _ | assumption | (refine Below.alloc ?_ (by first | omega | (simp; done) | (simp; omega)) _) | (refine Below.setCell ?_ (by first | omega | (simp; done) | (simp; omega)) _) | refine Below.drew ?_ | refine below_drewN ?_ _))) (Nat.le_refl _) hb
  clear hb
  go_wp2_with fail
  go_ret
  exact ⟨rfl, by (repeat (first | exact Below.refl _ _ | assumption | (refine Below.alloc ?_ (by first | omega | (simp; done) | (simp; omega)) _) | (refine Below.setCell ?_ (by first | omega | (simp; done) | (simp; omega)) _) | refine Below.drew ?_ | refine below_drewN ?_ _))⟩
set_option maxRecDepth 100000 in
set_option maxHeartbeats 4000000 in
theorem rnks_no_in (x m v r u j y nh nl : Nat) (k cc : Int) (hv : v < m) (hcc : cc < 0) (w : World)
    (H1 : ∀ W, Calls Try.prog 66 #[.int .u64 x, .int .i64 k, .int .u64 m] W fun e w' => e = .returned (.tuple #[.int .u64 u, .int .u64 j, .int .i64 0]) ∧ Below W.heap.size W w')
    (H2 : ∀ W, Calls Try.prog 58 #[.int .i64 k, .int .u64 m] W fun e w' => e = .returned (.int .i64 0) ∧ W = w')
    (H3 : ∀ W, Calls Try.prog 67 #[.int .u64 v, .int .u64 r, .int .i64 k, .int .u64 m] W fun e w' => e = .returned (.tuple #[.int .u64 y, .int .i64 0]) ∧ Below W.heap.size W w')
    (H4 : ∀ W, Calls Try.prog 60 #[.int .u64 x, .int .i64 k] W fun e w' => e = .returned (.bool false) ∧ Below W.heap.size W w')
    (H5 : ∀ W, Calls Try.prog 67 #[.int .u64 u, .int .u64 j, .int .i64 k, .int .u64 m] W fun e w' => e = .returned (.tuple #[.int .u64 x, .int .i64 0]) ∧ Below W.heap.size W w')
    (H6 : ∀ W, Calls Try.prog 61 #[.int .u64 x, .int .i64 k, .int .u64 m] W fun e w' => e = .returned (.int .u64 u) ∧ Below W.heap.size W w')
    (H7 : ∀ W, Calls Try.prog 65 #[.int .u64 v, .int .i64 k, .int .u64 m] W fun e w' => e = .returned (.agg #[.int .u64 nh, .int .u64 nl]) ∧ Below W.heap.size W w')
    (H8 : ∀ W, Calls Try.prog 68 #[.agg #[.int .u64 0, .int .u64 r], .agg #[.int .u64 nh, .int .u64 nl]] W fun e w' => e = .returned (.int .i64 cc) ∧ Below W.heap.size W w')
    (H9 : ∀ W, Calls Try.prog 66 #[.int .u64 y, .int .i64 k, .int .u64 m] W fun e w' => e = .returned (.tuple #[.int .u64 v, .int .u64 r, .int .i64 0]) ∧ Below W.heap.size W w')
    (H10 : ∀ W, Calls Try.prog 60 #[.int .u64 y, .int .i64 k] W fun e w' => e = .returned (.bool false) ∧ Below W.heap.size W w')
    : Calls Try.prog 11 #[.int .u64 x, .int .i64 k, .int .u64 m, .int .u64 v, .int .u64 r] w fun e w' => e = .returned (.bool true) ∧ Below w.heap.size w w' := by
  replace H1 := hide H1
  replace H2 := hide H2
  replace H3 := hide H3
  replace H4 := hide H4
  replace H5 := hide H5
  replace H6 := hide H6
  replace H7 := hide H7
  replace H8 := hide H8
  replace H9 := hide H9
  replace H10 := hide H10
  have t1 : decide (m ≤ v) = false := decide_eq_false (by omega)
  have t2 : ¬ (m : Int) ≤ (v : Int) := by omega
  clear hv
  have t3 : decide (0 ≤ cc) = false := decide_eq_false (by omega)
  have t4 : ¬ 0 ≤ cc := by omega
  go_enter Try.func11, Try.ntmps11
  go_wp2_with fail
  refine (awake26 _).mono ?_
  rintro e w1 ⟨rfl, B⟩
  go_wp2_with fail
  refine (H1.out _).mono ?_
  rintro e w2 ⟨rfl, hb⟩
  replace B : Below w.heap.size w w2 := below_call (by (repeat (first | exact Below.refl _ _ | assumption | (refine Below.alloc ?_ (by first | omega | (simp; done) | (simp; omega)) _) | (refine Below.setCell ?_ (by first | omega | (simp; done) | (simp; omega)) _) | refine Below.drew ?_ | refine below_drewN ?_ _))) (Nat.le_refl _) hb
  clear hb
  go_wp2_with fail
  refine (H2.out _).mono ?_
  rintro e wq ⟨rfl, rfl⟩
  go_wp2_with fail
  refine (H3.out _).mono ?_
  rintro e w3 ⟨rfl, hb⟩
  replace B : Below w.heap.size w w3 := below_call (by (repeat (first | exact Below.refl _ _ | assumption | (refine Below.alloc ?_ (by first | omega | (simp; done) | (simp; omega)) _) | (refine Below.setCell ?_ (by first | omega | (simp; done) | (simp; omega)) _) | refine Below.drew ?_ | refine below_drewN ?_ _))) (Nat.le_refl _) hb
  clear hb
  go_wp2_with fail
  refine (H4.out _).mono ?_
  rintro e w4 ⟨rfl, hb⟩
  replace B : Below w.heap.size w w4 := below_call (by (repeat (first | exact Below.refl _ _ | assumption | (refine Below.alloc ?_ (by first | omega | (simp; done) | (simp; omega)) _) | (refine Below.setCell ?_ (by first | omega | (simp; done) | (simp; omega)) _) | refine Below.drew ?_ | refine below_drewN ?_ _))) (Nat.le_refl _) hb
  clear hb
  go_wp2_with fail
  refine (H5.out _).mono ?_
  rintro e w5 ⟨rfl, hb⟩
  replace B : Below w.heap.size w w5 := below_call (by (repeat (first | exact Below.refl _ _ | assumption | (refine Below.alloc ?_ (by first | omega | (simp; done) | (simp; omega)) _) | (refine Below.setCell ?_ (by first | omega | (simp; done) | (simp; omega)) _) | refine Below.drew ?_ | refine below_drewN ?_ _))) (Nat.le_refl _) hb
  clear hb
  go_wp2_with fail
  refine (H6.out _).mono ?_
  rintro e w6 ⟨rfl, hb⟩
  replace B : Below w.heap.size w w6 := below_call (by (repeat (first | exact Below.refl _ _ | assumption | (refine Below.alloc ?_ (by first | omega | (simp; done) | (simp; omega)) _) | (refine Below.setCell ?_ (by first | omega | (simp; done) | (simp; omega)) _) | refine Below.drew ?_ | refine below_drewN ?_ _))) (Nat.le_refl _) hb
  clear hb
  go_wp2_with fail
  refine (H7.out _).mono ?_
  rintro e w7 ⟨rfl, hb⟩
  replace B : Below w.heap.size w w7 := below_call (by (repeat (first | exact Below.refl _ _ | assumption | (refine Below.alloc ?_ (by first | omega | (simp; done) | (simp; omega)) _) | (refine Below.setCell ?_ (by first | omega | (simp; done) | (simp; omega)) _) | refine Below.drew ?_ | refine below_drewN ?_ _))) (Nat.le_refl _) hb
  clear hb
  go_wp2_with fail
  refine (H8.out _).mono ?_
  rintro e w8 ⟨rfl, hb⟩
  replace B : Below w.heap.size w w8 := below_call (by (repeat (first | exact Below.refl _ _ | assumption | (refine Below.alloc ?_ (by first | omega | (simp; done) | (simp; omega)) _) | (refine Below.setCell ?_ (by first | omega | (simp; done) | (simp; omega)) _) | refine Below.drew ?_ | refine below_drewN ?_ _))) (Nat.le_refl _) hb
  clear hb
  go_wp2_with fail
  refine (H9.out _).mono ?_
  rintro e w9 ⟨rfl, hb⟩
  replace B : Below w.heap.size w w9 := below_call (by (repeat (first | exact Below.refl _ _ | assumption | (refine Below.alloc ?_ (by first | omega | (simp; done) | (simp; omega)) _) | (refine Below.setCell ?_ (by first | omega | (simp; done) | (simp; omega)) _) | refine Below.drew ?_ | refine below_drewN ?_ _))) (Nat.le_refl _) hb
  clear hb
  go_wp2_with fail
  refine (H10.out _).mono ?_
  rintro e w10 ⟨rfl, hb⟩
  replace B : Below w.heap.size w w10 := below_call (by (repeat (first | exact Below.refl _ _ | assumption | (refine Below.alloc ?_ (by first | omega | (simp; done) | (simp; omega)) _) | (refine Below.setCell ?_ (by first | omega | (simp; done) | (simp; omega)) _) | refine Below.drew ?_ | refine below_drewN ?_ _))) (Nat.le_refl _) hb
  clear hb
  go_wp2_with fail
  go_ret
  exact ⟨rfl, by (repeat (first | exact Below.refl _ _ | assumption | (refine Below.alloc ?_ (by first | omega | (simp; done) | (simp; omega)) _) | (refine Below.setCell ?_ (by first | omega | (simp; done) | (simp; omega)) _) | refine Below.drew ?_ | refine below_drewN ?_ _))⟩
theorem ranks_law (x : Nat) (k : Int) (m v r : Nat) (w : World) (hx : x < 18446744073709551616) (hm : m < 18446744073709551616) (hv : v < 18446744073709551616) (hr : r < 18446744073709551616) :
    Calls Try.prog 11 #[.int .u64 x, .int .i64 k, .int .u64 m, .int .u64 v, .int .u64 r] w fun e w' => e = .returned (.bool true) ∧ Below w.heap.size w w' := by
  have h1 := rank_any x m k hx hm
  have h2 := rchk_ref k m
  have h3 := unrank_any v r m k hv hr hm
  by_cases hc : chkR k m = 0
  · obtain ⟨k1, k2, hm0⟩ := chkR_ok hc
    rw [hc] at h2
    have hp := pow_le_64 k2
    have h4 := has_any x k hx
    rw [hasB_iff hx (by omega)] at h4
    have HU : ∀ y j : Nat, y < 18446744073709551616 → y < m → j < cntV y k.toNat m → ∀ W, Calls Try.prog 67 #[.int .u64 y, .int .u64 j, .int .i64 k, .int .u64 m] W fun e w' => e = .returned (.tuple #[.int .u64 (fstV y k.toNat m + j : Nat), .int .i64 0]) ∧ Below W.heap.size W w' := by
      intro y j hy hym hj W
      have hb1 := fstV_bound (k := k.toNat) hm0 (show y + 1 ≤ m from hym)
      have hcv : cntV y k.toNat m ≤ 2 ^ k.toNat := by unfold cntV; omega
      have h : unrN y j k m = fstV y k.toNat m + j := if_pos ⟨hc, hym, hj⟩
      have h' : unrE y j k m = 0 := by unfold unrE; rw [if_pos hc, if_pos ⟨hym, hj⟩]
      rw [← h, ← h']
      exact unrank_any y j m k hy (by have := unrank_small hm0 hym hj; omega) hm W
    have HR : ∀ y : Nat, y < 18446744073709551616 → y < 2 ^ k.toNat → ∀ W, Calls Try.prog 66 #[.int .u64 y, .int .i64 k, .int .u64 m] W fun e w' => e = .returned (.tuple #[.int .u64 (rdV y k.toNat m : Nat), .int .u64 (y - fstV (rdV y k.toNat m) k.toNat m : Nat), .int .i64 0]) ∧ Below W.heap.size W w' := by
      intro y hy hyk W
      have h : redV y k m = rdV y k.toNat m := if_pos ⟨hc, hyk⟩
      have h' : redE y k m = 0 := by unfold redE; rw [if_pos hc, if_pos hyk]
      have h'' : rnkN y k m = y - fstV (rdV y k.toNat m) k.toNat m := if_pos ⟨hc, hyk⟩
      rw [← h'', ← h, ← h']
      exact rank_any y m k hy hm W
    have HH : ∀ y : Nat, y < 18446744073709551616 → y < 2 ^ k.toNat → ∀ W, Calls Try.prog 60 #[.int .u64 y, .int .i64 k] W fun e w' => e = .returned (.bool false) ∧ Below W.heap.size W w' := by
      intro y hy hyk W
      have h := has_any y k hy W
      rw [hasB_iff hy (by omega), decide_eq_true hyk] at h
      exact h
    by_cases hin : v < m ∧ r < cntV v k.toNat m
    · obtain ⟨hvm, hrc⟩ := hin
      have hys := unrank_small hm0 hvm hrc
      have hyv := unrank_val hm0 hrc
      have h3 := HU v r hv hvm hrc
      have h9 := HR (fstV v k.toNat m + r) (by omega) hys
      rw [hyv, Nat.add_sub_cancel_left] at h9
      have h10 := HH (fstV v k.toNat m + r) (by omega) hys
      have h7 := cntr_any v m k hvm hm (by omega) k2
      have hb1 := fstV_bound (k := k.toNat) hm0 (show v + 1 ≤ m from hvm)
      have hcv : cntV v k.toNat m ≤ 2 ^ k.toNat := by unfold cntV; omega
      have h8 := cmp_low r (cntV v k.toNat m) hr
      rw [m128_id (by omega)] at h8
      have hcc : cmpV r (cntV v k.toNat m) < 0 := by unfold cmpV; rw [if_pos hrc]; omega
      by_cases hlt : x < 2 ^ k.toNat
      · rw [decide_eq_true hlt] at h4
        have hu := rdV_lt (k := k.toNat) hlt hm0
        have hj := rank_cnt x k.toNat m hm0
        have hl := rank_low x k.toNat m hm0
        have h5 := HU (rdV x k.toNat m) (x - fstV (rdV x k.toNat m) k.toNat m) (by omega) hu hj
        rw [Nat.add_sub_cancel' hl] at h5
        exact rnks_no_in x m v r _ _ _ _ _ k _ hvm hcc w (HR x hx hlt) h2 h3 h4 h5 (redr_any x m k hx hm (by omega) k2 hlt hm0) h7 h8 h9 h10
      · rw [decide_eq_false hlt] at h4
        have e1 : redE x k m = 2 := by unfold redE; rw [if_pos hc, if_neg hlt]
        have e2 : redV x k m = 0 := if_neg (by omega)
        have e3 : rnkN x k m = 0 := if_neg (by omega)
        rw [e1, e2, e3] at h1
        exact rnks_has_in x m v r _ _ _ k _ hvm hcc w h1 h2 h3 h4 h7 h8 h9 h10
    · have e1 : unrE v r k m = 2 := by unfold unrE; rw [if_pos hc, if_neg hin]
      have e2 : unrN v r k m = 0 := if_neg (fun h => hin h.2)
      rw [e1, e2] at h3
      by_cases hlt : x < 2 ^ k.toNat
      · rw [decide_eq_true hlt] at h4
        have hu := rdV_lt (k := k.toNat) hlt hm0
        have hj := rank_cnt x k.toNat m hm0
        have hl := rank_low x k.toNat m hm0
        have h5 := HU (rdV x k.toNat m) (x - fstV (rdV x k.toNat m) k.toNat m) (by omega) hu hj
        rw [Nat.add_sub_cancel' hl] at h5
        have h6 := redr_any x m k hx hm (by omega) k2 hlt hm0
        by_cases hvm : v < m
        · have hrc : ¬ r < cntV v k.toNat m := fun h => hin ⟨hvm, h⟩
          have h7 := cntr_any v m k hvm hm (by omega) k2
          have hb1 := fstV_bound (k := k.toNat) hm0 (show v + 1 ≤ m from hvm)
          have hcv : cntV v k.toNat m ≤ 2 ^ k.toNat := by unfold cntV; omega
          have h8 := cmp_low r (cntV v k.toNat m) hr
          rw [m128_id (by omega)] at h8
          have hcc : 0 ≤ cmpV r (cntV v k.toNat m) := by unfold cmpV; rw [if_neg hrc]; split <;> omega
          exact rnks_no_cmp x m v r _ _ _ _ k _ hvm hcc w (HR x hx hlt) h2 h3 h4 h5 h6 h7 h8
        · exact rnks_no_ge x m v r _ _ k (by omega) w (HR x hx hlt) h2 h3 h4 h5 h6
      · rw [decide_eq_false hlt] at h4
        have e1 : redE x k m = 2 := by unfold redE; rw [if_pos hc, if_neg hlt]
        have e2 : redV x k m = 0 := if_neg (by omega)
        have e3 : rnkN x k m = 0 := if_neg (by omega)
        rw [e1, e2, e3] at h1
        by_cases hvm : v < m
        · have hrc : ¬ r < cntV v k.toNat m := fun h => hin ⟨hvm, h⟩
          have h7 := cntr_any v m k hvm hm (by omega) k2
          have hb1 := fstV_bound (k := k.toNat) hm0 (show v + 1 ≤ m from hvm)
          have hcv : cntV v k.toNat m ≤ 2 ^ k.toNat := by unfold cntV; omega
          have h8 := cmp_low r (cntV v k.toNat m) hr
          rw [m128_id (by omega)] at h8
          have hcc : 0 ≤ cmpV r (cntV v k.toNat m) := by unfold cmpV; rw [if_neg hrc]; split <;> omega
          exact rnks_has_cmp x m v r _ _ k _ hvm hcc w h1 h2 h3 h4 h7 h8
        · exact rnks_has_ge x m v r k (by omega) w h1 h2 h3 h4
  · have e1 : redE x k m = chkR k m := if_neg hc
    have e2 : redV x k m = 0 := if_neg (by omega)
    have e3 : rnkN x k m = 0 := if_neg (by omega)
    have e4 : unrE v r k m = chkR k m := if_neg hc
    have e5 : unrN v r k m = 0 := if_neg (fun h => hc h.1)
    rw [e1, e2, e3] at h1
    rw [e4, e5] at h3
    exact rnks_bad x m v r k _ (by rw [beq_eq_false_iff_ne]; exact hc) w h1 h2 h3
end Go.Proofs.Ytioieoinkjfcfaa
