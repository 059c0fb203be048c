/-
  Walks of the law RangesCounts. Conditions: numbers fit 64 bits.
-/
import Derived.Test.YtioieoinkjfcfaaRngC
namespace Go.Proofs.Ytioieoinkjfcfaa
open Go.RowKit Go.Shelf
set_option linter.unusedVariables false

set_option maxHeartbeats 2000000 in
theorem cnts_bad (v m : Nat) (k c : Int) (t1 : (c == 0) = false) (w : World)
    (H1 : ∀ W, Calls Try.prog 62 #[.int .u64 v, .int .i64 k, .int .u64 m] W fun e w' => e = .returned (.tuple #[.agg #[.int .u64 0, .int .u64 0], .int .i64 c]) ∧ Below W.heap.size W w')
    (H2 : ∀ W, Calls Try.prog 63 #[.int .u64 v, .int .i64 k, .int .u64 m] W fun e w' => e = .returned (.tuple #[.agg #[.int .u64 0, .int .u64 0], .int .i64 c]) ∧ Below W.heap.size W w')
    (H3 : ∀ W, Calls Try.prog 58 #[.int .i64 k, .int .u64 m] W fun e w' => e = .returned (.int .i64 c) ∧ Below W.heap.size W w')
    : Calls Try.prog 10 #[.int .u64 v, .int .i64 k, .int .u64 m] w fun e w' => e = .returned (.bool true) ∧ Below w.heap.size w w' := by
  replace H1 := hide H1
  replace H2 := hide H2
  replace H3 := hide H3
  go_enter Try.func10, Try.ntmps10
  go_wp2_with fail
  refine (awake26 _).mono ?_
  rintro e w1 ⟨rfl, B⟩
  go_wp2_with fail
  refine (H1.out _).mono ?_
  rintro e w2 ⟨rfl, hb⟩
  replace B : Below w.heap.size w w2 := below_call B (Nat.le_refl _) hb
  clear hb
  have bz := B.size
  go_wp2_with fail
  refine (H2.out _).mono ?_
  rintro e w3 ⟨rfl, hb⟩
  have F1 := Box2.call hb (show Box2 _ (w2.heap.size) (.int .u64 0) (.int .u64 0) from (by (refine ⟨?_, ?_, ?_, ?_, ?_⟩ <;> simp [go_sem] <;> omega)))
  replace B : Below w.heap.size w w3 := below_call (by (repeat (first | exact Below.refl _ _ | assumption | (refine Below.alloc ?_ (by first | omega | (simp; done) | (simp; omega)) _) | (refine Below.setCell ?_ (by first | omega | (simp; done) | (simp; omega)) _) | refine Below.drew ?_ | refine below_drewN ?_ _))) (Nat.le_refl _) hb
  clear hb bz
  have bz := B.size
  have bz1 := F1.2.2.2.2
  go_wp2_with fail
  refine (H3.out _).mono ?_
  rintro e w4 ⟨rfl, hb⟩
  have N1 := Box2.call hb (show Box2 _ (w3.heap.size) (.int .u64 0) (.int .u64 0) from (by (refine ⟨?_, ?_, ?_, ?_, ?_⟩ <;> simp [go_sem] <;> omega)))
  have Z1 := Box2.call hb (show Box2 _ (w3.heap.size + 1) (.int .u64 0) (.int .u64 0) from (by (refine ⟨?_, ?_, ?_, ?_, ?_⟩ <;> simp [go_sem] <;> omega)))
  replace F1 := Box2.call hb (Box2.alloc _ (Box2.alloc _ F1))
  replace B : Below w.heap.size w w4 := below_call (by (repeat (first | exact Below.refl _ _ | assumption | (refine Below.alloc ?_ (by first | omega | (simp; done) | (simp; omega)) _) | (refine Below.setCell ?_ (by first | omega | (simp; done) | (simp; omega)) _) | refine Below.drew ?_ | refine below_drewN ?_ _))) (Nat.le_refl _) hb
  clear hb bz bz1
  generalize w3.heap.size = n3 at *
  generalize w2.heap.size = n2 at *
  have bz := B.size
  go_wp2_with fail
  go_ret
  exact ⟨rfl, by (repeat (first | exact Below.refl _ _ | assumption | (refine Below.alloc ?_ (by first | omega | (simp; done) | (simp; omega)) _) | (refine Below.setCell ?_ (by first | omega | (simp; done) | (simp; omega)) _) | refine Below.drew ?_ | refine below_drewN ?_ _))⟩
set_option maxHeartbeats 2000000 in
theorem cnts_dom (v m : Nat) (k : Int) (hv : m < v) (w : World)
    (H1 : ∀ W, Calls Try.prog 62 #[.int .u64 v, .int .i64 k, .int .u64 m] W fun e w' => e = .returned (.tuple #[.agg #[.int .u64 0, .int .u64 0], .int .i64 2]) ∧ Below W.heap.size W w')
    (H2 : ∀ W, Calls Try.prog 63 #[.int .u64 v, .int .i64 k, .int .u64 m] W fun e w' => e = .returned (.tuple #[.agg #[.int .u64 0, .int .u64 0], .int .i64 2]) ∧ Below W.heap.size W w')
    (H3 : ∀ W, Calls Try.prog 58 #[.int .i64 k, .int .u64 m] W fun e w' => e = .returned (.int .i64 0) ∧ Below W.heap.size W w')
    : Calls Try.prog 10 #[.int .u64 v, .int .i64 k, .int .u64 m] w fun e w' => e = .returned (.bool true) ∧ Below w.heap.size w w' := by
  replace H1 := hide H1
  replace H2 := hide H2
  replace H3 := hide H3
  have t1 : decide (m < v) = true := decide_eq_true hv
  have t2 : (m : Int) < (v : Int) := by omega
  clear hv
  go_enter Try.func10, Try.ntmps10
  go_wp2_with fail
  refine (awake26 _).mono ?_
  rintro e w1 ⟨rfl, B⟩
  go_wp2_with fail
  refine (H1.out _).mono ?_
  rintro e w2 ⟨rfl, hb⟩
  replace B : Below w.heap.size w w2 := below_call B (Nat.le_refl _) hb
  clear hb
  have bz := B.size
  go_wp2_with fail
  refine (H2.out _).mono ?_
  rintro e w3 ⟨rfl, hb⟩
  have F1 := Box2.call hb (show Box2 _ (w2.heap.size) (.int .u64 0) (.int .u64 0) from (by (refine ⟨?_, ?_, ?_, ?_, ?_⟩ <;> simp [go_sem] <;> omega)))
  replace B : Below w.heap.size w w3 := below_call (by (repeat (first | exact Below.refl _ _ | assumption | (refine Below.alloc ?_ (by first | omega | (simp; done) | (simp; omega)) _) | (refine Below.setCell ?_ (by first | omega | (simp; done) | (simp; omega)) _) | refine Below.drew ?_ | refine below_drewN ?_ _))) (Nat.le_refl _) hb
  clear hb bz
  have bz := B.size
  have bz1 := F1.2.2.2.2
  go_wp2_with fail
  refine (H3.out _).mono ?_
  rintro e w4 ⟨rfl, hb⟩
  have N1 := Box2.call hb (show Box2 _ (w3.heap.size) (.int .u64 0) (.int .u64 0) from (by (refine ⟨?_, ?_, ?_, ?_, ?_⟩ <;> simp [go_sem] <;> omega)))
  have Z1 := Box2.call hb (show Box2 _ (w3.heap.size + 1) (.int .u64 0) (.int .u64 0) from (by (refine ⟨?_, ?_, ?_, ?_, ?_⟩ <;> simp [go_sem] <;> omega)))
  replace F1 := Box2.call hb (Box2.alloc _ (Box2.alloc _ F1))
  replace B : Below w.heap.size w w4 := below_call (by (repeat (first | exact Below.refl _ _ | assumption | (refine Below.alloc ?_ (by first | omega | (simp; done) | (simp; omega)) _) | (refine Below.setCell ?_ (by first | omega | (simp; done) | (simp; omega)) _) | refine Below.drew ?_ | refine below_drewN ?_ _))) (Nat.le_refl _) hb
  clear hb bz bz1
  generalize w3.heap.size = n3 at *
  generalize w2.heap.size = n2 at *
  have bz := B.size
  go_wp2_with fail
  go_ret
  exact ⟨rfl, by (repeat (first | exact Below.refl _ _ | assumption | (refine Below.alloc ?_ (by first | omega | (simp; done) | (simp; omega)) _) | (refine Below.setCell ?_ (by first | omega | (simp; done) | (simp; omega)) _) | refine Below.drew ?_ | refine below_drewN ?_ _))⟩
set_option maxRecDepth 100000 in
set_option maxHeartbeats 4000000 in
theorem cnts_top (m fh fl : Nat) (k : Int) (w : World)
    (H1 : ∀ W, Calls Try.prog 62 #[.int .u64 m, .int .i64 k, .int .u64 m] W fun e w' => e = .returned (.tuple #[.agg #[.int .u64 fh, .int .u64 fl], .int .i64 0]) ∧ Below W.heap.size W w')
    (H2 : ∀ W, Calls Try.prog 63 #[.int .u64 m, .int .i64 k, .int .u64 m] W fun e w' => e = .returned (.tuple #[.agg #[.int .u64 0, .int .u64 0], .int .i64 2]) ∧ Below W.heap.size W w')
    (H3 : ∀ W, Calls Try.prog 58 #[.int .i64 k, .int .u64 m] W fun e w' => e = .returned (.int .i64 0) ∧ Below W.heap.size W w')
    (H4 : ∀ W, Calls Try.prog 64 #[.int .u64 m, .int .i64 k, .int .u64 m] W fun e w' => e = .returned (.agg #[.int .u64 fh, .int .u64 fl]) ∧ Below W.heap.size W w')
    (H5 : ∀ W, Calls Try.prog 48 #[.agg #[.int .u64 0, .int .u64 1], .int .i64 k] W fun e w' => e = .returned (.agg #[.int .u64 fh, .int .u64 fl]) ∧ Below W.heap.size W w')
    : Calls Try.prog 10 #[.int .u64 m, .int .i64 k, .int .u64 m] w fun e w' => e = .returned (.bool true) ∧ Below w.heap.size w w' := by
  replace H1 := hide H1
  replace H2 := hide H2
  replace H3 := hide H3
  replace H4 := hide H4
  replace H5 := hide H5
  have t1 : ¬ (m : Int) < (m : Int) := by omega
  have t2 : decide (m < m) = false := decide_eq_false (by omega)
  go_enter Try.func10, Try.ntmps10
  go_wp2_with fail
  refine (awake26 _).mono ?_
  rintro e w1 ⟨rfl, B⟩
  go_wp2_with fail
  refine (H1.out _).mono ?_
  rintro e w2 ⟨rfl, hb⟩
  replace B : Below w.heap.size w w2 := below_call B (Nat.le_refl _) hb
  clear hb
  have bz := B.size
  go_wp2_with fail
  refine (H2.out _).mono ?_
  rintro e w3 ⟨rfl, hb⟩
  have F1 := Box2.call hb (show Box2 _ (w2.heap.size) (.int .u64 fh) (.int .u64 fl) from (by (refine ⟨?_, ?_, ?_, ?_, ?_⟩ <;> simp [go_sem] <;> omega)))
  replace B : Below w.heap.size w w3 := below_call (by (repeat (first | exact Below.refl _ _ | assumption | (refine Below.alloc ?_ (by first | omega | (simp; done) | (simp; omega)) _) | (refine Below.setCell ?_ (by first | omega | (simp; done) | (simp; omega)) _) | refine Below.drew ?_ | refine below_drewN ?_ _))) (Nat.le_refl _) hb
  clear hb bz
  have bz := B.size
  have bz1 := F1.2.2.2.2
  go_wp2_with fail
  refine (H3.out _).mono ?_
  rintro e w4 ⟨rfl, hb⟩
  have N1 := Box2.call hb (show Box2 _ (w3.heap.size) (.int .u64 0) (.int .u64 0) from (by (refine ⟨?_, ?_, ?_, ?_, ?_⟩ <;> simp [go_sem] <;> omega)))
  have Z1 := Box2.call hb (show Box2 _ (w3.heap.size + 1) (.int .u64 0) (.int .u64 0) from (by (refine ⟨?_, ?_, ?_, ?_, ?_⟩ <;> simp [go_sem] <;> omega)))
  replace F1 := Box2.call hb (Box2.alloc _ (Box2.alloc _ F1))
  replace B : Below w.heap.size w w4 := below_call (by (repeat (first | exact Below.refl _ _ | assumption | (refine Below.alloc ?_ (by first | omega | (simp; done) | (simp; omega)) _) | (refine Below.setCell ?_ (by first | omega | (simp; done) | (simp; omega)) _) | refine Below.drew ?_ | refine below_drewN ?_ _))) (Nat.le_refl _) hb
  clear hb bz bz1
  generalize w3.heap.size = n3 at *
  generalize w2.heap.size = n2 at *
  go_wp2_with fail
  go_region_held3 (fun v => Box2 v (n2) (.int .u64 fh) (.int .u64 fl)) (exact F1) ((go_at_call 64; (with_reducible refine (H4.out _).mono ?_); rintro e w5 ⟨rfl, hb⟩; replace F1 := Box2.call hb F1; replace N1 := Box2.call hb N1; replace Z1 := Box2.call hb Z1; replace B : Below w.heap.size w w5 := below_call (by (repeat (first | exact Below.refl _ _ | assumption | (refine Below.alloc ?_ (by first | omega | (simp; done) | (simp; omega)) _) | (refine Below.setCell ?_ (by first | omega | (simp; done) | (simp; omega)) _) | refine Below.drew ?_ | refine below_drewN ?_ _))) (Nat.le_refl _) hb; clear hb))
  go_wp2_with fail
  go_region_held3 (fun v => Box2 v (n2) (.int .u64 fh) (.int .u64 fl) ∧ Box2 v (n3) (.int .u64 0) (.int .u64 0) ∧ Box2 v (n3 + 1) (.int .u64 0) (.int .u64 0)) (exact ⟨F1, N1, Z1⟩) ((go_at_call 48; (with_reducible refine (H5.out _).mono ?_); rintro e w6 ⟨rfl, hb⟩; replace F1 := Box2.call hb F1; replace N1 := Box2.call hb N1; replace Z1 := Box2.call hb Z1; replace B : Below w.heap.size w w6 := below_call (by (repeat (first | exact Below.refl _ _ | assumption | (refine Below.alloc ?_ (by first | omega | (simp; done) | (simp; omega)) _) | (refine Below.setCell ?_ (by first | omega | (simp; done) | (simp; omega)) _) | refine Below.drew ?_ | refine below_drewN ?_ _))) (Nat.le_refl _) hb; clear hb))
  go_wp2_with fail
  go_ret
  exact ⟨rfl, by (repeat (first | exact Below.refl _ _ | assumption | (refine Below.alloc ?_ (by first | omega | (simp; done) | (simp; omega)) _) | (refine Below.setCell ?_ (by first | omega | (simp; done) | (simp; omega)) _) | refine Below.drew ?_ | refine below_drewN ?_ _))⟩
set_option maxRecDepth 100000 in
set_option maxHeartbeats 4000000 in
theorem cnts_low (v m fh fl nh nl uh ul sh sl r : Nat) (k : Int) (hv : v < m) (w : World)
    (H1 : ∀ W, Calls Try.prog 62 #[.int .u64 v, .int .i64 k, .int .u64 m] W fun e w' => e = .returned (.tuple #[.agg #[.int .u64 fh, .int .u64 fl], .int .i64 0]) ∧ Below W.heap.size W w')
    (H2 : ∀ W, Calls Try.prog 63 #[.int .u64 v, .int .i64 k, .int .u64 m] W fun e w' => e = .returned (.tuple #[.agg #[.int .u64 nh, .int .u64 nl], .int .i64 0]) ∧ Below W.heap.size W w')
    (H3 : ∀ W, Calls Try.prog 58 #[.int .i64 k, .int .u64 m] W fun e w' => e = .returned (.int .i64 0) ∧ Below W.heap.size W w')
    (H4 : ∀ W, Calls Try.prog 64 #[.int .u64 v, .int .i64 k, .int .u64 m] W fun e w' => e = .returned (.agg #[.int .u64 fh, .int .u64 fl]) ∧ Below W.heap.size W w')
    (H5 : ∀ W, Calls Try.prog 48 #[.agg #[.int .u64 0, .int .u64 1], .int .i64 k] W fun e w' => e = .returned (.agg #[.int .u64 sh, .int .u64 sl]) ∧ Below W.heap.size W w')
    (H6 : ∀ W, Calls Try.prog 51 #[.agg #[.int .u64 sh, .int .u64 sl], .int .u64 m] W fun e w' => e = .returned (.tuple #[.agg #[.int .u64 nh, .int .u64 nl], .int .u64 r]) ∧ Below W.heap.size W w')
    (H7 : ∀ W, Calls Try.prog 53 #[.agg #[.int .u64 nh, .int .u64 nl], .agg #[.int .u64 0, .int .u64 1]] W fun e w' => ∃ c : Bool, e = .returned (.tuple #[.agg #[.int .u64 uh, .int .u64 ul], .bool c]) ∧ Below W.heap.size W w')
    (H8 : ∀ W, Calls Try.prog 65 #[.int .u64 v, .int .i64 k, .int .u64 m] W fun e w' => e = .returned (.agg #[.int .u64 nh, .int .u64 nl]) ∧ Below W.heap.size W w')
    : Calls Try.prog 10 #[.int .u64 v, .int .i64 k, .int .u64 m] w fun e w' => e = .returned (.bool true) ∧ Below w.heap.size w w' := by
  replace H1 := hide H1
  replace H2 := hide H2
  replace H3 := hide H3
  replace H4 := hide H4
  replace H5 := hide H5
  replace H6 := hide H6
  replace H7 := hide H7
  replace H8 := hide H8
  have t1 : ¬ (m : Int) < (v : Int) := by omega
  have t2 : decide (m < v) = false := decide_eq_false (by omega)
  have t3 : ((v : Int) == (m : Int)) = false := by rw [beq_eq_false_iff_ne]; omega
  have t4 : ¬ v = m := by omega
  have t5 : (v == m) = false := by rw [beq_eq_false_iff_ne]; omega
  clear hv
  go_enter Try.func10, Try.ntmps10
  go_wp2_with fail
  refine (awake26 _).mono ?_
  rintro e w1 ⟨rfl, B⟩
  go_wp2_with fail
  refine (H1.out _).mono ?_
  rintro e w2 ⟨rfl, hb⟩
  replace B : Below w.heap.size w w2 := below_call B (Nat.le_refl _) hb
  clear hb
  have bz := B.size
  go_wp2_with fail
  refine (H2.out _).mono ?_
  rintro e w3 ⟨rfl, hb⟩
  have F1 := Box2.call hb (show Box2 _ (w2.heap.size) (.int .u64 fh) (.int .u64 fl) from (by (refine ⟨?_, ?_, ?_, ?_, ?_⟩ <;> simp [go_sem] <;> omega)))
  replace B : Below w.heap.size w w3 := below_call (by (repeat (first | exact Below.refl _ _ | assumption | (refine Below.alloc ?_ (by first | omega | (simp; done) | (simp; omega)) _) | (refine Below.setCell ?_ (by first | omega | (simp; done) | (simp; omega)) _) | refine Below.drew ?_ | refine below_drewN ?_ _))) (Nat.le_refl _) hb
  clear hb bz
  have bz := B.size
  have bz1 := F1.2.2.2.2
  go_wp2_with fail
  refine (H3.out _).mono ?_
  rintro e w4 ⟨rfl, hb⟩
  have N1 := Box2.call hb (show Box2 _ (w3.heap.size) (.int .u64 nh) (.int .u64 nl) from (by (refine ⟨?_, ?_, ?_, ?_, ?_⟩ <;> simp [go_sem] <;> omega)))
  have Z1 := Box2.call hb (show Box2 _ (w3.heap.size + 1) (.int .u64 0) (.int .u64 0) from (by (refine ⟨?_, ?_, ?_, ?_, ?_⟩ <;> simp [go_sem] <;> omega)))
  replace F1 := Box2.call hb (Box2.alloc _ (Box2.alloc _ F1))
  replace B : Below w.heap.size w w4 := below_call (by (repeat (first | exact Below.refl _ _ | assumption | (refine Below.alloc ?_ (by first | omega | (simp; done) | (simp; omega)) _) | (refine Below.setCell ?_ (by first | omega | (simp; done) | (simp; omega)) _) | refine Below.drew ?_ | refine below_drewN ?_ _))) (Nat.le_refl _) hb
  clear hb bz bz1
  generalize w3.heap.size = n3 at *
  generalize w2.heap.size = n2 at *
  go_wp2_with fail
  go_region_held3 (fun v => Box2 v (n2) (.int .u64 fh) (.int .u64 fl)) (exact F1) ((go_at_call 64; (with_reducible refine (H4.out _).mono ?_); rintro e w5 ⟨rfl, hb⟩; replace F1 := Box2.call hb F1; replace N1 := Box2.call hb N1; replace Z1 := Box2.call hb Z1; replace B : Below w.heap.size w w5 := below_call (by (repeat (first | exact Below.refl _ _ | assumption | (refine Below.alloc ?_ (by first | omega | (simp; done) | (simp; omega)) _) | (refine Below.setCell ?_ (by first | omega | (simp; done) | (simp; omega)) _) | refine Below.drew ?_ | refine below_drewN ?_ _))) (Nat.le_refl _) hb; clear hb))
  clear F1 Z1
  go_wp2_with fail
  refine (H5.out _).mono ?_
  rintro e w6 ⟨rfl, hb⟩
  replace N1 := Box2.call hb (by first | exact N1 | exact Box2.alloc _ N1 | exact Box2.alloc _ (Box2.alloc _ N1))
  replace B : Below w.heap.size w w6 := below_call (by (repeat (first | exact Below.refl _ _ | assumption | (refine Below.alloc ?_ (by first | omega | (simp; done) | (simp; omega)) _) | (refine Below.setCell ?_ (by first | omega | (simp; done) | (simp; omega)) _) | refine Below.drew ?_ | refine below_drewN ?_ _))) (Nat.le_refl _) hb
  clear hb
  go_wp2_with fail
  refine (H6.out _).mono ?_
  rintro e w7 ⟨rfl, hb⟩
  replace N1 := Box2.call hb (by first | exact N1 | exact Box2.alloc _ N1 | exact Box2.alloc _ (Box2.alloc _ N1))
  replace B : Below w.heap.size w w7 := below_call (by (repeat (first | exact Below.refl _ _ | assumption | (refine Below.alloc ?_ (by first | omega | (simp; done) | (simp; omega)) _) | (refine Below.setCell ?_ (by first | omega | (simp; done) | (simp; omega)) _) | refine Below.drew ?_ | refine below_drewN ?_ _))) (Nat.le_refl _) hb
  clear hb
  have bz := B.size
  go_wp2_with fail
  refine (H7.out _).mono ?_
  rintro e w8 ⟨cb, rfl, hb⟩
  have Q1 := Box2.call hb (show Box2 _ (w7.heap.size) (.int .u64 nh) (.int .u64 nl) from (by (refine ⟨?_, ?_, ?_, ?_, ?_⟩ <;> simp [go_sem] <;> omega)))
  replace N1 := Box2.call hb (Box2.alloc _ N1)
  replace B : Below w.heap.size w w8 := below_call (by (repeat (first | exact Below.refl _ _ | assumption | (refine Below.alloc ?_ (by first | omega | (simp; done) | (simp; omega)) _) | (refine Below.setCell ?_ (by first | omega | (simp; done) | (simp; omega)) _) | refine Below.drew ?_ | refine below_drewN ?_ _))) (Nat.le_refl _) hb
  clear hb bz
  have bz := B.size
  go_wp2_with fail
  have U1 : Box2 (w8.alloc (.cells #[.int .u64 uh, .int .u64 ul] 43)) w8.heap.size (.int .u64 uh) (.int .u64 ul) := (by (refine ⟨?_, ?_, ?_, ?_, ?_⟩ <;> simp [go_sem] <;> omega))
  replace N1 := Box2.alloc (.cells #[.int .u64 uh, .int .u64 ul] 43) N1
  replace Q1 := Box2.alloc (.cells #[.int .u64 uh, .int .u64 ul] 43) Q1
  replace B := Below.alloc B B.size (.cells #[.int .u64 uh, .int .u64 ul] 43)
  generalize w8.alloc (.cells #[.int .u64 uh, .int .u64 ul] 43) = W at *
  generalize w8.heap.size = n8 at *
  generalize w7.heap.size = n7 at *
  clear bz
  go_region_with ((go_at_call 65; (with_reducible refine (H8.out _).mono ?_); rintro e w9 ⟨rfl, hb⟩; replace N1 := Box2.call hb N1; replace Q1 := Box2.call hb Q1; replace U1 := Box2.call hb U1; replace B : Below w.heap.size w w9 := below_call (by (repeat (first | exact Below.refl _ _ | assumption | (refine Below.alloc ?_ (by first | omega | (simp; done) | (simp; omega)) _) | (refine Below.setCell ?_ (by first | omega | (simp; done) | (simp; omega)) _) | refine Below.drew ?_ | refine below_drewN ?_ _))) (Nat.le_refl _) hb; clear hb))
  all_goals go_wp2_with fail
  all_goals go_ret
  all_goals exact ⟨rfl, by (repeat (first | exact Below.refl _ _ | assumption | (refine Below.alloc ?_ (by first | omega | (simp; done) | (simp; omega)) _) | (refine Below.setCell ?_ (by first | omega | (simp; done) | (simp; omega)) _) | refine Below.drew ?_ | refine below_drewN ?_ _))⟩
set_option maxRecDepth 100000 in
set_option maxHeartbeats 4000000 in
theorem cnts_up (v m fh fl nh nl ql sh sl r : Nat) (k : Int) (hv : v < m) (hq : ¬ nl = ql) (w : World)
    (H1 : ∀ W, Calls Try.prog 62 #[.int .u64 v, .int .i64 k, .int .u64 m] W fun e w' => e = .returned (.tuple #[.agg #[.int .u64 fh, .int .u64 fl], .int .i64 0]) ∧ Below W.heap.size W w')
    (H2 : ∀ W, Calls Try.prog 63 #[.int .u64 v, .int .i64 k, .int .u64 m] W fun e w' => e = .returned (.tuple #[.agg #[.int .u64 nh, .int .u64 nl], .int .i64 0]) ∧ Below W.heap.size W w')
    (H3 : ∀ W, Calls Try.prog 58 #[.int .i64 k, .int .u64 m] W fun e w' => e = .returned (.int .i64 0) ∧ Below W.heap.size W w')
    (H4 : ∀ W, Calls Try.prog 64 #[.int .u64 v, .int .i64 k, .int .u64 m] W fun e w' => e = .returned (.agg #[.int .u64 fh, .int .u64 fl]) ∧ Below W.heap.size W w')
    (H5 : ∀ W, Calls Try.prog 48 #[.agg #[.int .u64 0, .int .u64 1], .int .i64 k] W fun e w' => e = .returned (.agg #[.int .u64 sh, .int .u64 sl]) ∧ Below W.heap.size W w')
    (H6 : ∀ W, Calls Try.prog 51 #[.agg #[.int .u64 sh, .int .u64 sl], .int .u64 m] W fun e w' => e = .returned (.tuple #[.agg #[.int .u64 nh, .int .u64 ql], .int .u64 r]) ∧ Below W.heap.size W w')
    (H7 : ∀ W, Calls Try.prog 53 #[.agg #[.int .u64 nh, .int .u64 ql], .agg #[.int .u64 0, .int .u64 1]] W fun e w' => ∃ c : Bool, e = .returned (.tuple #[.agg #[.int .u64 nh, .int .u64 nl], .bool c]) ∧ Below W.heap.size W w')
    (H8 : ∀ W, Calls Try.prog 65 #[.int .u64 v, .int .i64 k, .int .u64 m] W fun e w' => e = .returned (.agg #[.int .u64 nh, .int .u64 nl]) ∧ Below W.heap.size W w')
    : Calls Try.prog 10 #[.int .u64 v, .int .i64 k, .int .u64 m] w fun e w' => e = .returned (.bool true) ∧ Below w.heap.size w w' := by
  replace H1 := hide H1
  replace H2 := hide H2
  replace H3 := hide H3
  replace H4 := hide H4
  replace H5 := hide H5
  replace H6 := hide H6
  replace H7 := hide H7
  replace H8 := hide H8
  have t6 : ((nl : Int) == (ql : Int)) = false := by rw [beq_eq_false_iff_ne]; omega
  have t7 : (nl == ql) = false := by rw [beq_eq_false_iff_ne]; omega
  have t8 : ¬ (nl : Int) = (ql : Int) := by omega
  have t9 : decide (nl = ql) = false := decide_eq_false hq
  have t10 : decide ((nl : Int) = (ql : Int)) = false := decide_eq_false t8
  have t1 : ¬ (m : Int) < (v : Int) := by omega
  have t2 : decide (m < v) = false := decide_eq_false (by omega)
  have t3 : ((v : Int) == (m : Int)) = false := by rw [beq_eq_false_iff_ne]; omega
  have t4 : ¬ v = m := by omega
  have t5 : (v == m) = false := by rw [beq_eq_false_iff_ne]; omega
  clear hv
  go_enter Try.func10, Try.ntmps10
  go_wp2_with fail
  refine (awake26 _).mono ?_
  rintro e w1 ⟨rfl, B⟩
  go_wp2_with fail
  refine (H1.out _).mono ?_
  rintro e w2 ⟨rfl, hb⟩
  replace B : Below w.heap.size w w2 := below_call B (Nat.le_refl _) hb
  clear hb
  have bz := B.size
  go_wp2_with fail
  refine (H2.out _).mono ?_
  rintro e w3 ⟨rfl, hb⟩
  have F1 := Box2.call hb (show Box2 _ (w2.heap.size) (.int .u64 fh) (.int .u64 fl) from (by (refine ⟨?_, ?_, ?_, ?_, ?_⟩ <;> simp [go_sem] <;> omega)))
  replace B : Below w.heap.size w w3 := below_call (by (repeat (first | exact Below.refl _ _ | assumption | (refine Below.alloc ?_ (by first | omega | (simp; done) | (simp; omega)) _) | (refine Below.setCell ?_ (by first | omega | (simp; done) | (simp; omega)) _) | refine Below.drew ?_ | refine below_drewN ?_ _))) (Nat.le_refl _) hb
  clear hb bz
  have bz := B.size
  have bz1 := F1.2.2.2.2
  go_wp2_with fail
  refine (H3.out _).mono ?_
  rintro e w4 ⟨rfl, hb⟩
  have N1 := Box2.call hb (show Box2 _ (w3.heap.size) (.int .u64 nh) (.int .u64 nl) from (by (refine ⟨?_, ?_, ?_, ?_, ?_⟩ <;> simp [go_sem] <;> omega)))
  have Z1 := Box2.call hb (show Box2 _ (w3.heap.size + 1) (.int .u64 0) (.int .u64 0) from (by (refine ⟨?_, ?_, ?_, ?_, ?_⟩ <;> simp [go_sem] <;> omega)))
  replace F1 := Box2.call hb (Box2.alloc _ (Box2.alloc _ F1))
  replace B : Below w.heap.size w w4 := below_call (by (repeat (first | exact Below.refl _ _ | assumption | (refine Below.alloc ?_ (by first | omega | (simp; done) | (simp; omega)) _) | (refine Below.setCell ?_ (by first | omega | (simp; done) | (simp; omega)) _) | refine Below.drew ?_ | refine below_drewN ?_ _))) (Nat.le_refl _) hb
  clear hb bz bz1
  generalize w3.heap.size = n3 at *
  generalize w2.heap.size = n2 at *
  go_wp2_with fail
  go_region_held3 (fun v => Box2 v (n2) (.int .u64 fh) (.int .u64 fl)) (exact F1) ((go_at_call 64; (with_reducible refine (H4.out _).mono ?_); rintro e w5 ⟨rfl, hb⟩; replace F1 := Box2.call hb F1; replace N1 := Box2.call hb N1; replace Z1 := Box2.call hb Z1; replace B : Below w.heap.size w w5 := below_call (by (repeat (first | exact Below.refl _ _ | assumption | (refine Below.alloc ?_ (by first | omega | (simp; done) | (simp; omega)) _) | (refine Below.setCell ?_ (by first | omega | (simp; done) | (simp; omega)) _) | refine Below.drew ?_ | refine below_drewN ?_ _))) (Nat.le_refl _) hb; clear hb))
  clear F1 Z1
  go_wp2_with fail
  refine (H5.out _).mono ?_
  rintro e w6 ⟨rfl, hb⟩
  replace N1 := Box2.call hb (by first | exact N1 | exact Box2.alloc _ N1 | exact Box2.alloc _ (Box2.alloc _ N1))
  replace B : Below w.heap.size w w6 := below_call (by (repeat (first | exact Below.refl _ _ | assumption | (refine Below.alloc ?_ (by first | omega | (simp; done) | (simp; omega)) _) | (refine Below.setCell ?_ (by first | omega | (simp; done) | (simp; omega)) _) | refine Below.drew ?_ | refine below_drewN ?_ _))) (Nat.le_refl _) hb
  clear hb
  go_wp2_with fail
  refine (H6.out _).mono ?_
  rintro e w7 ⟨rfl, hb⟩
  replace N1 := Box2.call hb (by first | exact N1 | exact Box2.alloc _ N1 | exact Box2.alloc _ (Box2.alloc _ N1))
  replace B : Below w.heap.size w w7 := below_call (by (repeat (first | exact Below.refl _ _ | assumption | (refine Below.alloc ?_ (by first | omega | (simp; done) | (simp; omega)) _) | (refine Below.setCell ?_ (by first | omega | (simp; done) | (simp; omega)) _) | refine Below.drew ?_ | refine below_drewN ?_ _))) (Nat.le_refl _) hb
  clear hb
  have bz := B.size
  go_wp2_with fail
  refine (H7.out _).mono ?_
  rintro e w8 ⟨cb, rfl, hb⟩
  have Q1 := Box2.call hb (show Box2 _ (w7.heap.size) (.int .u64 nh) (.int .u64 ql) from (by (refine ⟨?_, ?_, ?_, ?_, ?_⟩ <;> simp [go_sem] <;> omega)))
  replace N1 := Box2.call hb (Box2.alloc _ N1)
  replace B : Below w.heap.size w w8 := below_call (by (repeat (first | exact Below.refl _ _ | assumption | (refine Below.alloc ?_ (by first | omega | (simp; done) | (simp; omega)) _) | (refine Below.setCell ?_ (by first | omega | (simp; done) | (simp; omega)) _) | refine Below.drew ?_ | refine below_drewN ?_ _))) (Nat.le_refl _) hb
  clear hb bz
  have bz := B.size
  go_wp2_with fail
  have U1 : Box2 (w8.alloc (.cells #[.int .u64 nh, .int .u64 nl] 43)) w8.heap.size (.int .u64 nh) (.int .u64 nl) := (by (refine ⟨?_, ?_, ?_, ?_, ?_⟩ <;> simp [go_sem] <;> omega))
  replace N1 := Box2.alloc (.cells #[.int .u64 nh, .int .u64 nl] 43) N1
  replace Q1 := Box2.alloc (.cells #[.int .u64 nh, .int .u64 nl] 43) Q1
  replace B := Below.alloc B B.size (.cells #[.int .u64 nh, .int .u64 nl] 43)
  generalize w8.alloc (.cells #[.int .u64 nh, .int .u64 nl] 43) = W at *
  generalize w8.heap.size = n8 at *
  generalize w7.heap.size = n7 at *
  clear bz
  go_region_held3 (fun v => Box2 v (n3) (.int .u64 nh) (.int .u64 nl) ∧ Box2 v (n7) (.int .u64 nh) (.int .u64 ql) ∧ Box2 v (n8) (.int .u64 nh) (.int .u64 nl)) (exact ⟨N1, Q1, U1⟩) ((go_at_call 65; (with_reducible refine (H8.out _).mono ?_); rintro e w9 ⟨rfl, hb⟩; replace N1 := Box2.call hb N1; replace Q1 := Box2.call hb Q1; replace U1 := Box2.call hb U1; replace B : Below w.heap.size w w9 := below_call (by (repeat (first | exact Below.refl _ _ | assumption | (refine Below.alloc ?_ (by first | omega | (simp; done) | (simp; omega)) _) | (refine Below.setCell ?_ (by first | omega | (simp; done) | (simp; omega)) _) | refine Below.drew ?_ | refine below_drewN ?_ _))) (Nat.le_refl _) hb; clear hb))
  go_wp2_with fail
  go_ret
  exact ⟨rfl, by (repeat (first | exact Below.refl _ _ | assumption | (refine Below.alloc ?_ (by first | omega | (simp; done) | (simp; omega)) _) | (refine Below.setCell ?_ (by first | omega | (simp; done) | (simp; omega)) _) | refine Below.drew ?_ | refine below_drewN ?_ _))⟩
theorem counts_law (v : Nat) (k : Int) (m : Nat) (w : World) (hv : v < 18446744073709551616) (hm : m < 18446744073709551616) :
    Calls Try.prog 10 #[.int .u64 v, .int .i64 k, .int .u64 m] w fun e w' => e = .returned (.bool true) ∧ Below w.heap.size w w' := by
  have h1 := first_any v m k hv hm
  have h2 := count_any v m k hv hm
  have h3 : ∀ W, Calls Try.prog 58 #[.int .i64 k, .int .u64 m] W fun e w' => e = .returned (.int .i64 (chkR k m)) ∧ Below W.heap.size W w' := fun W => (rchk_ref k m W).mono fun e w' hh => ⟨hh.1, hh.2 ▸ Below.refl _ _⟩
  by_cases hc : chkR k m = 0
  · obtain ⟨k1, k2, hm0⟩ := chkR_ok hc
    rw [hc] at h3
    have hs := shl_low 1 k (by omega) k2
    have hp := pow_le_64 k2
    rw [Nat.one_mul] at hs
    rcases Nat.lt_trichotomy v m with hlt | heq | hgt
    · have e1 : fstN v k m = fstV v k.toNat m := if_pos ⟨hc, Nat.le_of_lt hlt⟩
      have e2 : fstE v k m = 0 := by unfold fstE; rw [if_pos hc, if_pos (Nat.le_of_lt hlt)]
      have e3 : cntN v k m = cntV v k.toNat m := if_pos ⟨hc, hlt⟩
      have e4 : cntE v k m = 0 := by unfold cntE; rw [if_pos hc, if_pos hlt]
      rw [e1, e2] at h1
      rw [e3, e4] at h2
      have h4 := fstr_any v m k (Nat.le_of_lt hlt) hm hm0 (by omega) k2
      have h6 := wdiv_u (2 ^ k.toNat) m hm0 hm
      rw [m128_id (by omega)] at h6
      have h7 := addw_one (2 ^ k.toNat / m)
      have h8 := cntr_any v m k hlt hm (by omega) k2
      rcases cntV_two v k.toNat m hm0 with hq | hq
      · rw [hq] at h2 h8
        exact cnts_low v m _ _ _ _ _ _ _ _ _ k hlt w h1 h2 h3 h4 hs h6 h7 h8
      · have hb1 := fstV_bound (k := k.toNat) hm0 (show v + 1 ≤ m from hlt)
        have hcb : cntV v k.toNat m ≤ 2 ^ k.toNat := by unfold cntV; omega
        have hql : 2 ^ k.toNat / m < 18446744073709551616 := by omega
        rcases Nat.lt_or_ge (2 ^ k.toNat / m + 1) 18446744073709551616 with hlt2 | hge
        · have hne : ¬ lo64 (2 ^ k.toNat / m + 1) = lo64 (2 ^ k.toNat / m) := by rw [lo_low hlt2, lo_low hql]; omega
          have hh : hi64 (2 ^ k.toNat / m) = hi64 (2 ^ k.toNat / m + 1) := by rw [hi_low hlt2, hi_low hql]
          rw [hh] at h6 h7
          rw [hq] at h2 h8
          exact cnts_up v m _ _ _ _ _ _ _ _ k hlt hne w h1 h2 h3 h4 hs h6 h7 h8
        · exfalso
          have hm1 : 2 ^ k.toNat / m * m ≤ 2 ^ k.toNat := Nat.div_mul_le_self _ _
          rcases Nat.lt_or_ge m 2 with hm2 | hm2
          · obtain rfl : m = 1 := by omega
            rw [Nat.div_one] at *
            omega
          · have := Nat.mul_le_mul_left (2 ^ k.toNat / m) hm2
            omega
    · subst heq
      have e1 : fstN v k v = 2 ^ k.toNat := by rw [show fstN v k v = fstV v k.toNat v from if_pos ⟨hc, Nat.le_refl _⟩, fstV_top _ _ hm0]
      have e2 : fstE v k v = 0 := by unfold fstE; rw [if_pos hc, if_pos (Nat.le_refl _)]
      have e3 : cntN v k v = 0 := if_neg (by omega)
      have e4 : cntE v k v = 2 := by unfold cntE; rw [if_pos hc, if_neg (by omega)]
      rw [e1, e2] at h1
      rw [e3, e4] at h2
      have h4 := fstr_any v v k (Nat.le_refl _) hm hm0 (by omega) k2
      rw [fstV_top _ _ hm0] at h4
      exact cnts_top v _ _ k w h1 h2 h3 h4 hs
    · have e1 : fstN v k m = 0 := if_neg (by omega)
      have e2 : fstE v k m = 2 := by unfold fstE; rw [if_pos hc, if_neg (by omega)]
      have e3 : cntN v k m = 0 := if_neg (by omega)
      have e4 : cntE v k m = 2 := by unfold cntE; rw [if_pos hc, if_neg (by omega)]
      rw [e1, e2] at h1
      rw [e3, e4] at h2
      exact cnts_dom v m k hgt w h1 h2 h3
  · have e1 : fstN v k m = 0 := if_neg (by omega)
    have e2 : fstE v k m = chkR k m := if_neg hc
    have e3 : cntN v k m = 0 := if_neg (by omega)
    have e4 : cntE v k m = chkR k m := if_neg hc
    rw [e1, e2] at h1
    rw [e3, e4] at h2
    exact cnts_bad v m k _ (by rw [beq_eq_false_iff_ne]; exact hc) w h1 h2 h3
end Go.Proofs.Ytioieoinkjfcfaa
