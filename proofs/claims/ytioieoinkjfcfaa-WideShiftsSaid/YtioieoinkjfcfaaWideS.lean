/-
  Walk of the law WideShifts. Conditions: numbers fit 64 bits.
-/
import Derived.Test.YtioieoinkjfcfaaRngC
namespace Go.Proofs.Ytioieoinkjfcfaa
open Go.RowKit Go.Shelf
set_option linter.unusedVariables false

set_option maxRecDepth 100000 in
set_option maxHeartbeats 4000000 in
theorem shf_zero (xh xl sh sl rh rl : Nat) (n c b : Int) (t1 : max n 0 = c) (t2 : min c 128 = b) (L1 L2 L3 : List Value) (w : World)
    (H1 : ∀ W, Calls Try.prog 29 #[.agg #[.int .u64 xh, .int .u64 xl]] W fun e w' => ∃ A c, e = .returned (.slice A 128 c) ∧ Rs w' A L1 ∧ Below W.heap.size W w')
    (H2 : ∀ W, Calls Try.prog 48 #[.agg #[.int .u64 xh, .int .u64 xl], .int .i64 n] W fun e w' => e = .returned (.agg #[.int .u64 sh, .int .u64 sl]) ∧ Below W.heap.size W w')
    (H3 : ∀ W A c, Rs W A L1 → Calls Try.prog 26 #[.slice A 128 c, .int .i64 b, .int .i64 128] W fun e w' => ∃ A c, e = .returned (.slice A 128 c) ∧ Rs w' A L2 ∧ Below W.heap.size W w')
    (H4 : ∀ W A c, Rs W A L2 → Calls Try.prog 32 #[.slice A 128 c] W fun e w' => e = .returned (.agg #[.int .u64 sh, .int .u64 sl]) ∧ Below W.heap.size W w')
    (H5 : ∀ W, Calls Try.prog 49 #[.agg #[.int .u64 xh, .int .u64 xl], .int .i64 n] W fun e w' => e = .returned (.agg #[.int .u64 rh, .int .u64 rl]) ∧ Below W.heap.size W w')
    (H6 : ∀ W A c, Rs W A L1 → Calls Try.prog 50 #[.slice A 128 c, .int .i64 b, .int .i64 128] W fun e w' => ∃ A c, e = .returned (.slice A 128 c) ∧ Rs w' A L3 ∧ Below W.heap.size W w')
    (H7 : ∀ W A c, Rs W A L3 → Calls Try.prog 32 #[.slice A 128 c] W fun e w' => e = .returned (.agg #[.int .u64 rh, .int .u64 rl]) ∧ Below W.heap.size W w')
    (H8 : ∀ W, Calls Try.prog 51 #[.agg #[.int .u64 xh, .int .u64 xl], .int .u64 0] W fun e w' => e = .returned (.tuple #[.agg #[.int .u64 0, .int .u64 0], .int .u64 0]) ∧ Below W.heap.size W w')
    : Calls Try.prog 8 #[.agg #[.int .u64 xh, .int .u64 xl], .int .i64 n, .int .u64 0] w fun e w' => e = .returned (.bool true) ∧ Below w.heap.size w w' := by
  replace H1 := hide H1
  replace H2 := hide H2
  replace H3 := hide H3
  replace H4 := hide H4
  replace H5 := hide H5
  replace H6 := hide H6
  replace H7 := hide H7
  replace H8 := hide H8
  go_enter Try.func8, Try.ntmps8
  go_wp2_with fail
  refine (awake_wide _).mono ?_
  rintro e w1 ⟨rfl, hb⟩
  have X1 := Box2.call hb (show Box2 _ w.heap.size (.int .u64 xh) (.int .u64 xl) from (by (refine ⟨?_, ?_, ?_, ?_, ?_⟩ <;> simp [go_sem] <;> omega)))
  have B : Below w.heap.size w w1 := below_call (by (repeat (first | exact Below.refl _ _ | assumption | (refine Below.alloc ?_ (by first | omega | (simp; done) | (simp; omega)) _) | (refine Below.setCell ?_ (by first | omega | (simp; done) | (simp; omega)) _) | refine Below.drew ?_ | refine below_drewN ?_ _))) (Nat.le_refl _) hb
  clear hb
  go_wp2_with fail
  refine (H1.out _).mono ?_
  rintro e w2 ⟨A1, c1, rfl, r1, hb⟩
  replace X1 := Box2.call hb (by first | exact X1 | exact Box2.alloc _ X1 | exact Box2.alloc _ (Box2.alloc _ X1))
  replace B : Below w.heap.size w w2 := below_call (by (repeat (first | exact Below.refl _ _ | assumption | (refine Below.alloc ?_ (by first | omega | (simp; done) | (simp; omega)) _) | (refine Below.setCell ?_ (by first | omega | (simp; done) | (simp; omega)) _) | refine Below.drew ?_ | refine below_drewN ?_ _))) (Nat.le_refl _) hb
  clear hb
  go_wp2_with fail
  go_wp2_with fail
  refine (H2.out _).mono ?_
  rintro e w3 ⟨rfl, hb⟩
  replace X1 := Box2.call hb (by first | exact X1 | exact Box2.alloc _ X1 | exact Box2.alloc _ (Box2.alloc _ X1))
  replace r1 := Rs.go hb (by first | exact r1 | exact Rs.alloc r1 _ | exact Rs.alloc (Rs.alloc r1 _) _)
  replace B : Below w.heap.size w w3 := below_call (by (repeat (first | exact Below.refl _ _ | assumption | (refine Below.alloc ?_ (by first | omega | (simp; done) | (simp; omega)) _) | (refine Below.setCell ?_ (by first | omega | (simp; done) | (simp; omega)) _) | refine Below.drew ?_ | refine below_drewN ?_ _))) (Nat.le_refl _) hb
  clear hb
  go_wp2_with fail
  refine (H3.out _ _ _ r1).mono ?_
  rintro e w4 ⟨A2, c2, rfl, r2, hb⟩
  replace X1 := Box2.call hb (by first | exact X1 | exact Box2.alloc _ X1 | exact Box2.alloc _ (Box2.alloc _ X1))
  replace r1 := Rs.go hb (by first | exact r1 | exact Rs.alloc r1 _ | exact Rs.alloc (Rs.alloc r1 _) _)
  replace B : Below w.heap.size w w4 := below_call (by (repeat (first | exact Below.refl _ _ | assumption | (refine Below.alloc ?_ (by first | omega | (simp; done) | (simp; omega)) _) | (refine Below.setCell ?_ (by first | omega | (simp; done) | (simp; omega)) _) | refine Below.drew ?_ | refine below_drewN ?_ _))) (Nat.le_refl _) hb
  clear hb
  go_wp2_with fail
  refine (H4.out _ _ _ r2).mono ?_
  rintro e w5 ⟨rfl, hb⟩
  replace X1 := Box2.call hb (by first | exact X1 | exact Box2.alloc _ X1 | exact Box2.alloc _ (Box2.alloc _ X1))
  replace r1 := Rs.go hb (by first | exact r1 | exact Rs.alloc r1 _ | exact Rs.alloc (Rs.alloc r1 _) _)
  replace B : Below w.heap.size w w5 := below_call (by (repeat (first | exact Below.refl _ _ | assumption | (refine Below.alloc ?_ (by first | omega | (simp; done) | (simp; omega)) _) | (refine Below.setCell ?_ (by first | omega | (simp; done) | (simp; omega)) _) | refine Below.drew ?_ | refine below_drewN ?_ _))) (Nat.le_refl _) hb
  clear hb
  clear r2
  go_wp2_with fail
  refine (H5.out _).mono ?_
  rintro e w6 ⟨rfl, hb⟩
  replace X1 := Box2.call hb (by first | exact X1 | exact Box2.alloc _ X1 | exact Box2.alloc _ (Box2.alloc _ X1))
  replace r1 := Rs.go hb (by first | exact r1 | exact Rs.alloc r1 _ | exact Rs.alloc (Rs.alloc r1 _) _)
  replace B : Below w.heap.size w w6 := below_call (by (repeat (first | exact Below.refl _ _ | assumption | (refine Below.alloc ?_ (by first | omega | (simp; done) | (simp; omega)) _) | (refine Below.setCell ?_ (by first | omega | (simp; done) | (simp; omega)) _) | refine Below.drew ?_ | refine below_drewN ?_ _))) (Nat.le_refl _) hb
  clear hb
  go_wp2_with fail
  refine (H6.out _ _ _ r1).mono ?_
  rintro e w7 ⟨A3, c3, rfl, r3, hb⟩
  replace X1 := Box2.call hb (by first | exact X1 | exact Box2.alloc _ X1 | exact Box2.alloc _ (Box2.alloc _ X1))
  replace r1 := Rs.go hb (by first | exact r1 | exact Rs.alloc r1 _ | exact Rs.alloc (Rs.alloc r1 _) _)
  replace B : Below w.heap.size w w7 := below_call (by (repeat (first | exact Below.refl _ _ | assumption | (refine Below.alloc ?_ (by first | omega | (simp; done) | (simp; omega)) _) | (refine Below.setCell ?_ (by first | omega | (simp; done) | (simp; omega)) _) | refine Below.drew ?_ | refine below_drewN ?_ _))) (Nat.le_refl _) hb
  clear hb
  go_wp2_with fail
  refine (H7.out _ _ _ r3).mono ?_
  rintro e w8 ⟨rfl, hb⟩
  replace X1 := Box2.call hb (by first | exact X1 | exact Box2.alloc _ X1 | exact Box2.alloc _ (Box2.alloc _ X1))
  replace r1 := Rs.go hb (by first | exact r1 | exact Rs.alloc r1 _ | exact Rs.alloc (Rs.alloc r1 _) _)
  replace B : Below w.heap.size w w8 := below_call (by (repeat (first | exact Below.refl _ _ | assumption | (refine Below.alloc ?_ (by first | omega | (simp; done) | (simp; omega)) _) | (refine Below.setCell ?_ (by first | omega | (simp; done) | (simp; omega)) _) | refine Below.drew ?_ | refine below_drewN ?_ _))) (Nat.le_refl _) hb
  clear hb
  clear r3
  go_wp2_with fail
  refine (H8.out _).mono ?_
  rintro e w9 ⟨rfl, hb⟩
  replace B : Below w.heap.size w w9 := below_call (by (repeat (first | exact Below.refl _ _ | assumption | (refine Below.alloc ?_ (by first | omega | (simp; done) | (simp; omega)) _) | (refine Below.setCell ?_ (by first | omega | (simp; done) | (simp; omega)) _) | refine Below.drew ?_ | refine below_drewN ?_ _))) (Nat.le_refl _) hb
  clear hb
  have bz := B.size
  go_wp2_with fail
  go_ret
  exact ⟨rfl, by (repeat (first | exact Below.refl _ _ | assumption | (refine Below.alloc ?_ (by first | omega | (simp; done) | (simp; omega)) _) | (refine Below.setCell ?_ (by first | omega | (simp; done) | (simp; omega)) _) | refine Below.drew ?_ | refine below_drewN ?_ _))⟩
set_option maxRecDepth 100000 in
set_option maxHeartbeats 4000000 in
theorem shf_g (xh xl sh sl rh rl m qh ql r th tl : Nat) (n c b : Int) (t1 : max n 0 = c) (t2 : min c 128 = b) (hr : r < m) (L1 L2 L3 L4 L5 L6 : List Value) (w : World)
    (H1 : ∀ W, Calls Try.prog 29 #[.agg #[.int .u64 xh, .int .u64 xl]] W fun e w' => ∃ A c, e = .returned (.slice A 128 c) ∧ Rs w' A L1 ∧ Below W.heap.size W w')
    (H2 : ∀ W, Calls Try.prog 48 #[.agg #[.int .u64 xh, .int .u64 xl], .int .i64 n] W fun e w' => e = .returned (.agg #[.int .u64 sh, .int .u64 sl]) ∧ Below W.heap.size W w')
    (H3 : ∀ W A c, Rs W A L1 → Calls Try.prog 26 #[.slice A 128 c, .int .i64 b, .int .i64 128] W fun e w' => ∃ A c, e = .returned (.slice A 128 c) ∧ Rs w' A L2 ∧ Below W.heap.size W w')
    (H4 : ∀ W A c, Rs W A L2 → Calls Try.prog 32 #[.slice A 128 c] W fun e w' => e = .returned (.agg #[.int .u64 sh, .int .u64 sl]) ∧ Below W.heap.size W w')
    (H5 : ∀ W, Calls Try.prog 49 #[.agg #[.int .u64 xh, .int .u64 xl], .int .i64 n] W fun e w' => e = .returned (.agg #[.int .u64 rh, .int .u64 rl]) ∧ Below W.heap.size W w')
    (H6 : ∀ W A c, Rs W A L1 → Calls Try.prog 50 #[.slice A 128 c, .int .i64 b, .int .i64 128] W fun e w' => ∃ A c, e = .returned (.slice A 128 c) ∧ Rs w' A L3 ∧ Below W.heap.size W w')
    (H7 : ∀ W A c, Rs W A L3 → Calls Try.prog 32 #[.slice A 128 c] W fun e w' => e = .returned (.agg #[.int .u64 rh, .int .u64 rl]) ∧ Below W.heap.size W w')
    (H8 : ∀ W, Calls Try.prog 51 #[.agg #[.int .u64 xh, .int .u64 xl], .int .u64 m] W fun e w' => e = .returned (.tuple #[.agg #[.int .u64 qh, .int .u64 ql], .int .u64 r]) ∧ Below W.heap.size W w')
    (H9 : ∀ W, Calls Try.prog 30 #[.int .u64 m, .int .i64 64] W fun e w' => ∃ A c, e = .returned (.slice A 64 c) ∧ Rs w' A L4 ∧ Below W.heap.size W w')
    (H10 : ∀ W A c A' c', Rs W A L1 → Rs W A' L4 → Calls Try.prog 52 #[.slice A 128 c, .slice A' 64 c'] W fun e w' => ∃ A c A' c', e = .returned (.tuple #[.slice A 128 c, .slice A' 129 c']) ∧ Rs w' A L5 ∧ Rs w' A' L6 ∧ Below W.heap.size W w')
    (H11 : ∀ W, Calls Try.prog 54 #[.agg #[.int .u64 qh, .int .u64 ql], .agg #[.int .u64 0, .int .u64 m]] W fun e w' => e = .returned (.agg #[.int .u64 th, .int .u64 tl]) ∧ Below W.heap.size W w')
    (H12 : ∀ W, Calls Try.prog 53 #[.agg #[.int .u64 th, .int .u64 tl], .agg #[.int .u64 0, .int .u64 r]] W fun e w' => ∃ c : Bool, e = .returned (.tuple #[.agg #[.int .u64 xh, .int .u64 xl], .bool c]) ∧ Below W.heap.size W w')
    (H13 : ∀ W A c, Rs W A L5 → Calls Try.prog 32 #[.slice A 128 c] W fun e w' => e = .returned (.agg #[.int .u64 qh, .int .u64 ql]) ∧ Below W.heap.size W w')
    (H14 : ∀ W A c, Rs W A L6 → Calls Try.prog 55 #[.slice A 129 c, .int .i64 0] W fun e w' => e = .returned (.int .u64 r) ∧ W = w')
    : Calls Try.prog 8 #[.agg #[.int .u64 xh, .int .u64 xl], .int .i64 n, .int .u64 m] w fun e w' => e = .returned (.bool true) ∧ Below w.heap.size w w' := by
  replace H1 := hide H1
  replace H2 := hide H2
  replace H3 := hide H3
  replace H4 := hide H4
  replace H5 := hide H5
  replace H6 := hide H6
  replace H7 := hide H7
  replace H8 := hide H8
  replace H9 := hide H9
  replace H10 := hide H10
  replace H11 := hide H11
  replace H12 := hide H12
  replace H13 := hide H13
  replace H14 := hide H14
  have t3 : ((m : Int) == 0) = false := by rw [beq_eq_false_iff_ne]; omega
  have t4 : ¬ m = 0 := by omega
  have t5 : decide (r < m) = true := decide_eq_true hr
  have t6 : (r : Int) < (m : Int) := by omega
  clear hr
  go_enter Try.func8, Try.ntmps8
  go_wp2_with fail
  refine (awake_wide _).mono ?_
  rintro e w1 ⟨rfl, hb⟩
  have X1 := Box2.call hb (show Box2 _ w.heap.size (.int .u64 xh) (.int .u64 xl) from (by (refine ⟨?_, ?_, ?_, ?_, ?_⟩ <;> simp [go_sem] <;> omega)))
  have B : Below w.heap.size w w1 := below_call (by (repeat (first | exact Below.refl _ _ | assumption | (refine Below.alloc ?_ (by first | omega | (simp; done) | (simp; omega)) _) | (refine Below.setCell ?_ (by first | omega | (simp; done) | (simp; omega)) _) | refine Below.drew ?_ | refine below_drewN ?_ _))) (Nat.le_refl _) hb
  clear hb
  go_wp2_with fail
  refine (H1.out _).mono ?_
  rintro e w2 ⟨A1, c1, rfl, r1, hb⟩
  replace X1 := Box2.call hb (by first | exact X1 | exact Box2.alloc _ X1 | exact Box2.alloc _ (Box2.alloc _ X1))
  replace B : Below w.heap.size w w2 := below_call (by (repeat (first | exact Below.refl _ _ | assumption | (refine Below.alloc ?_ (by first | omega | (simp; done) | (simp; omega)) _) | (refine Below.setCell ?_ (by first | omega | (simp; done) | (simp; omega)) _) | refine Below.drew ?_ | refine below_drewN ?_ _))) (Nat.le_refl _) hb
  clear hb
  go_wp2_with fail
  go_wp2_with fail
  refine (H2.out _).mono ?_
  rintro e w3 ⟨rfl, hb⟩
  replace X1 := Box2.call hb (by first | exact X1 | exact Box2.alloc _ X1 | exact Box2.alloc _ (Box2.alloc _ X1))
  replace r1 := Rs.go hb (by first | exact r1 | exact Rs.alloc r1 _ | exact Rs.alloc (Rs.alloc r1 _) _)
  replace B : Below w.heap.size w w3 := below_call (by (repeat (first | exact Below.refl _ _ | assumption | (refine Below.alloc ?_ (by first | omega | (simp; done) | (simp; omega)) _) | (refine Below.setCell ?_ (by first | omega | (simp; done) | (simp; omega)) _) | refine Below.drew ?_ | refine below_drewN ?_ _))) (Nat.le_refl _) hb
  clear hb
  go_wp2_with fail
  refine (H3.out _ _ _ r1).mono ?_
  rintro e w4 ⟨A2, c2, rfl, r2, hb⟩
  replace X1 := Box2.call hb (by first | exact X1 | exact Box2.alloc _ X1 | exact Box2.alloc _ (Box2.alloc _ X1))
  replace r1 := Rs.go hb (by first | exact r1 | exact Rs.alloc r1 _ | exact Rs.alloc (Rs.alloc r1 _) _)
  replace B : Below w.heap.size w w4 := below_call (by (repeat (first | exact Below.refl _ _ | assumption | (refine Below.alloc ?_ (by first | omega | (simp; done) | (simp; omega)) _) | (refine Below.setCell ?_ (by first | omega | (simp; done) | (simp; omega)) _) | refine Below.drew ?_ | refine below_drewN ?_ _))) (Nat.le_refl _) hb
  clear hb
  go_wp2_with fail
  refine (H4.out _ _ _ r2).mono ?_
  rintro e w5 ⟨rfl, hb⟩
  replace X1 := Box2.call hb (by first | exact X1 | exact Box2.alloc _ X1 | exact Box2.alloc _ (Box2.alloc _ X1))
  replace r1 := Rs.go hb (by first | exact r1 | exact Rs.alloc r1 _ | exact Rs.alloc (Rs.alloc r1 _) _)
  replace B : Below w.heap.size w w5 := below_call (by (repeat (first | exact Below.refl _ _ | assumption | (refine Below.alloc ?_ (by first | omega | (simp; done) | (simp; omega)) _) | (refine Below.setCell ?_ (by first | omega | (simp; done) | (simp; omega)) _) | refine Below.drew ?_ | refine below_drewN ?_ _))) (Nat.le_refl _) hb
  clear hb
  clear r2
  go_wp2_with fail
  refine (H5.out _).mono ?_
  rintro e w6 ⟨rfl, hb⟩
  replace X1 := Box2.call hb (by first | exact X1 | exact Box2.alloc _ X1 | exact Box2.alloc _ (Box2.alloc _ X1))
  replace r1 := Rs.go hb (by first | exact r1 | exact Rs.alloc r1 _ | exact Rs.alloc (Rs.alloc r1 _) _)
  replace B : Below w.heap.size w w6 := below_call (by (repeat (first | exact Below.refl _ _ | assumption | (refine Below.alloc ?_ (by first | omega | (simp; done) | (simp; omega)) _) | (refine Below.setCell ?_ (by first | omega | (simp; done) | (simp; omega)) _) | refine Below.drew ?_ | refine below_drewN ?_ _))) (Nat.le_refl _) hb
  clear hb
  go_wp2_with fail
  refine (H6.out _ _ _ r1).mono ?_
  rintro e w7 ⟨A3, c3, rfl, r3, hb⟩
  replace X1 := Box2.call hb (by first | exact X1 | exact Box2.alloc _ X1 | exact Box2.alloc _ (Box2.alloc _ X1))
  replace r1 := Rs.go hb (by first | exact r1 | exact Rs.alloc r1 _ | exact Rs.alloc (Rs.alloc r1 _) _)
  replace B : Below w.heap.size w w7 := below_call (by (repeat (first | exact Below.refl _ _ | assumption | (refine Below.alloc ?_ (by first | omega | (simp; done) | (simp; omega)) _) | (refine Below.setCell ?_ (by first | omega | (simp; done) | (simp; omega)) _) | refine Below.drew ?_ | refine below_drewN ?_ _))) (Nat.le_refl _) hb
  clear hb
  go_wp2_with fail
  refine (H7.out _ _ _ r3).mono ?_
  rintro e w8 ⟨rfl, hb⟩
  replace X1 := Box2.call hb (by first | exact X1 | exact Box2.alloc _ X1 | exact Box2.alloc _ (Box2.alloc _ X1))
  replace r1 := Rs.go hb (by first | exact r1 | exact Rs.alloc r1 _ | exact Rs.alloc (Rs.alloc r1 _) _)
  replace B : Below w.heap.size w w8 := below_call (by (repeat (first | exact Below.refl _ _ | assumption | (refine Below.alloc ?_ (by first | omega | (simp; done) | (simp; omega)) _) | (refine Below.setCell ?_ (by first | omega | (simp; done) | (simp; omega)) _) | refine Below.drew ?_ | refine below_drewN ?_ _))) (Nat.le_refl _) hb
  clear hb
  clear r3
  go_wp2_with fail
  refine (H8.out _).mono ?_
  rintro e w9 ⟨rfl, hb⟩
  replace X1 := Box2.call hb (by first | exact X1 | exact Box2.alloc _ X1 | exact Box2.alloc _ (Box2.alloc _ X1))
  replace r1 := Rs.go hb (by first | exact r1 | exact Rs.alloc r1 _ | exact Rs.alloc (Rs.alloc r1 _) _)
  replace B : Below w.heap.size w w9 := below_call (by (repeat (first | exact Below.refl _ _ | assumption | (refine Below.alloc ?_ (by first | omega | (simp; done) | (simp; omega)) _) | (refine Below.setCell ?_ (by first | omega | (simp; done) | (simp; omega)) _) | refine Below.drew ?_ | refine below_drewN ?_ _))) (Nat.le_refl _) hb
  clear hb
  have bz := B.size
  go_wp2_with fail
  refine (H9.out _).mono ?_
  rintro e wa ⟨A4, c4, rfl, r4, hb⟩
  have Q1 := Box2.call hb (show Box2 _ w9.heap.size (.int .u64 qh) (.int .u64 ql) from (by (refine ⟨?_, ?_, ?_, ?_, ?_⟩ <;> simp [go_sem] <;> omega)))
  replace X1 := Box2.call hb (Box2.alloc _ X1)
  replace r1 := Rs.go hb (Rs.alloc r1 _)
  replace B : Below w.heap.size w wa := below_call (by (repeat (first | exact Below.refl _ _ | assumption | (refine Below.alloc ?_ (by first | omega | (simp; done) | (simp; omega)) _) | (refine Below.setCell ?_ (by first | omega | (simp; done) | (simp; omega)) _) | refine Below.drew ?_ | refine below_drewN ?_ _))) (Nat.le_refl _) hb
  clear hb bz
  generalize w9.heap.size = n9 at *
  go_wp2_with fail
  refine (H10.out _ _ _ _ _ r1 r4).mono ?_
  rintro e wb ⟨A5, c5, A6, c6, rfl, r5, r6, hb⟩
  replace X1 := Box2.call hb (by first | exact X1 | exact Box2.alloc _ X1 | exact Box2.alloc _ (Box2.alloc _ X1))
  replace Q1 := Box2.call hb (by first | exact Q1 | exact Box2.alloc _ Q1 | exact Box2.alloc _ (Box2.alloc _ Q1))
  replace B : Below w.heap.size w wb := below_call (by (repeat (first | exact Below.refl _ _ | assumption | (refine Below.alloc ?_ (by first | omega | (simp; done) | (simp; omega)) _) | (refine Below.setCell ?_ (by first | omega | (simp; done) | (simp; omega)) _) | refine Below.drew ?_ | refine below_drewN ?_ _))) (Nat.le_refl _) hb
  clear hb
  clear r1 r4
  go_wp2_with fail
  refine (H11.out _).mono ?_
  rintro e wc ⟨rfl, hb⟩
  replace X1 := Box2.call hb (by first | exact X1 | exact Box2.alloc _ X1 | exact Box2.alloc _ (Box2.alloc _ X1))
  replace Q1 := Box2.call hb (by first | exact Q1 | exact Box2.alloc _ Q1 | exact Box2.alloc _ (Box2.alloc _ Q1))
  replace r5 := Rs.go hb (by first | exact r5 | exact Rs.alloc r5 _ | exact Rs.alloc (Rs.alloc r5 _) _)
  replace r6 := Rs.go hb (by first | exact r6 | exact Rs.alloc r6 _ | exact Rs.alloc (Rs.alloc r6 _) _)
  replace B : Below w.heap.size w wc := below_call (by (repeat (first | exact Below.refl _ _ | assumption | (refine Below.alloc ?_ (by first | omega | (simp; done) | (simp; omega)) _) | (refine Below.setCell ?_ (by first | omega | (simp; done) | (simp; omega)) _) | refine Below.drew ?_ | refine below_drewN ?_ _))) (Nat.le_refl _) hb
  clear hb
  go_wp2_with fail
  refine (H12.out _).mono ?_
  rintro e wd ⟨cb, rfl, hb⟩
  replace X1 := Box2.call hb (by first | exact X1 | exact Box2.alloc _ X1 | exact Box2.alloc _ (Box2.alloc _ X1))
  replace Q1 := Box2.call hb (by first | exact Q1 | exact Box2.alloc _ Q1 | exact Box2.alloc _ (Box2.alloc _ Q1))
  replace r5 := Rs.go hb (by first | exact r5 | exact Rs.alloc r5 _ | exact Rs.alloc (Rs.alloc r5 _) _)
  replace r6 := Rs.go hb (by first | exact r6 | exact Rs.alloc r6 _ | exact Rs.alloc (Rs.alloc r6 _) _)
  replace B : Below w.heap.size w wd := below_call (by (repeat (first | exact Below.refl _ _ | assumption | (refine Below.alloc ?_ (by first | omega | (simp; done) | (simp; omega)) _) | (refine Below.setCell ?_ (by first | omega | (simp; done) | (simp; omega)) _) | refine Below.drew ?_ | refine below_drewN ?_ _))) (Nat.le_refl _) hb
  clear hb
  have bz := B.size
  go_wp2_with fail
  have Y1 : Box2 (wd.alloc (.cells #[.int .u64 xh, .int .u64 xl] 43)) wd.heap.size (.int .u64 xh) (.int .u64 xl) := (by (refine ⟨?_, ?_, ?_, ?_, ?_⟩ <;> simp [go_sem] <;> omega))
  replace X1 := Box2.alloc (.cells #[.int .u64 xh, .int .u64 xl] 43) X1
  replace Q1 := Box2.alloc (.cells #[.int .u64 xh, .int .u64 xl] 43) Q1
  replace r5 := Rs.alloc r5 (.cells #[.int .u64 xh, .int .u64 xl] 43)
  replace r6 := Rs.alloc r6 (.cells #[.int .u64 xh, .int .u64 xl] 43)
  replace B := Below.alloc B B.size (.cells #[.int .u64 xh, .int .u64 xl] 43)
  generalize wd.alloc (.cells #[.int .u64 xh, .int .u64 xl] 43) = W at *
  generalize wd.heap.size = nd at *
  clear bz
  go_region_held3 (fun v => Box2 v (w.heap.size) (.int .u64 xh) (.int .u64 xl) ∧ Box2 v (n9) (.int .u64 qh) (.int .u64 ql) ∧ Box2 v (nd) (.int .u64 xh) (.int .u64 xl)) (exact ⟨X1, Q1, Y1⟩) (first | (go_at_call 32; (with_reducible refine (H13.out _ _ _ (Rs.drew r5)).mono ?_); rintro e we ⟨rfl, hb⟩; replace X1 := Box2.call hb X1; replace Q1 := Box2.call hb Q1; replace r5 := Rs.go hb r5; replace r6 := Rs.go hb r6; replace Y1 := Box2.call hb Y1; replace B : Below w.heap.size w we := below_call (by (repeat (first | exact Below.refl _ _ | assumption | (refine Below.alloc ?_ (by first | omega | (simp; done) | (simp; omega)) _) | (refine Below.setCell ?_ (by first | omega | (simp; done) | (simp; omega)) _) | refine Below.drew ?_ | refine below_drewN ?_ _))) (Nat.le_refl _) hb; clear hb) | (go_at_call 55; (with_reducible refine (H14.out _ _ _ r6).mono ?_); rintro e wf ⟨rfl, rfl⟩))
  go_wp2_with fail
  go_ret
  exact ⟨rfl, B⟩
set_option maxHeartbeats 400000 in
theorem wdiv_0 (xh xl : Nat) (w : World) : Calls Try.prog 51 #[.agg #[.int .u64 xh, .int .u64 xl], .int .u64 0] w fun e w' => e = .returned (.tuple #[.agg #[.int .u64 0, .int .u64 0], .int .u64 0]) ∧ Below w.heap.size w w' := by
  go_enter Try.func51, Try.ntmps51
  go_wp2_with fail
  exact bodyPost_ret (v := .tuple #[.agg #[.int .u64 0, .int .u64 0], .int .u64 0]) (by simp [results, Try.results51, go_sem]) rfl ⟨rfl, by (repeat (first | exact Below.refl _ _ | assumption | (refine Below.alloc ?_ (by first | omega | (simp; done) | (simp; omega)) _) | (refine Below.setCell ?_ (by first | omega | (simp; done) | (simp; omega)) _) | refine Below.drew ?_ | refine below_drewN ?_ _))⟩
theorem addw_low (X y : Nat) (hy : y < 18446744073709551616) (w : World) : Calls Try.prog 53 #[.agg #[.int .u64 (hi64 (X) : Nat), .int .u64 (lo64 (X) : Nat)], .agg #[.int .u64 0, .int .u64 y]] w fun e w' => ∃ c : Bool, e = .returned (.tuple #[.agg #[.int .u64 (hi64 (X + y) : Nat), .int .u64 (lo64 (X + y) : Nat)], .bool c]) ∧ Below w.heap.size w w' := by
  have h := addw_u X y w
  rw [hi_low hy, lo_low hy] at h
  exact h.mono fun e w' ⟨he, hh⟩ => ⟨_, he, hh⟩
theorem shl_far (X j : Nat) (h : 128 ≤ j) : hi64 (X * 2 ^ j) = 0 ∧ lo64 (X * 2 ^ j) = 0 := by
  have e : m128 (X * 2 ^ j) = 0 := by
    rw [m128_pow, show j = 128 + (j - 128) by omega, Nat.pow_add, ← Nat.mul_assoc, Nat.mul_right_comm, Nat.mul_mod_left]
  exact ⟨by rw [← hi64_m, e]; rfl, by rw [← lo64_m, e]; rfl⟩
theorem shl_cap (X : Nat) (n : Int) (j : Nat) (hj : (j : Int) = min (max n 0) 128) : hi64 (X * 2 ^ n.toNat) = hi64 (X * 2 ^ j) ∧ lo64 (X * 2 ^ n.toNat) = lo64 (X * 2 ^ j) := by
  by_cases h : n ≤ 128
  · rw [show n.toNat = j by omega]; exact ⟨rfl, rfl⟩
  · obtain ⟨a1, a2⟩ := shl_far X n.toNat (by omega)
    obtain ⟨b1, b2⟩ := shl_far X j (by omega)
    rw [a1, a2, b1, b2]; exact ⟨rfl, rfl⟩
theorem shr_cap (X : Nat) (hX : X < 2 ^ 128) (n : Int) (j : Nat) (hj : (j : Int) = min (max n 0) 128) : X / 2 ^ n.toNat = X / 2 ^ j := by
  by_cases h : n ≤ 128
  · rw [show n.toNat = j by omega]
  · have hf : ∀ k, 128 ≤ k → X / 2 ^ k = 0 := fun k hk => Nat.div_eq_of_lt (Nat.lt_of_lt_of_le hX (Nat.pow_le_pow_right (by omega) hk))
    rw [hf _ (by omega), hf _ (by omega)]
theorem shifts_u (X : Nat) (hX : X < 340282366920938463463374607431768211456) (n : Int) (hn : n < 9223372036854775808) (m : Nat) (hm : m < 18446744073709551616) (w : World) : Calls Try.prog 8 #[.agg #[.int .u64 (hi64 (X) : Nat), .int .u64 (lo64 (X) : Nat)], .int .i64 n, .int .u64 m] w fun e w' => e = .returned (.bool true) ∧ Below w.heap.size w w' := by
  have hX2 : X < 2 ^ 128 := by rw [two128]; exact hX
  obtain ⟨j, hj⟩ : ∃ j : Nat, (j : Int) = min (max n 0) 128 := ⟨(min (max n 0) 128).toNat, by omega⟩
  obtain ⟨e1, e2⟩ := shl_cap X n j hj
  have e3 := shr_cap X hX2 n j hj
  have h2 := shl_i X n hn
  have h5 := shr_i X n hn
  unfold Ret128 at h2 h5
  rw [e1, e2] at h2
  rw [m128_id hX, e3] at h5
  have h3 : ∀ W A c, Rs W A (is (bitsOf X 128)) → Calls Try.prog 26 #[.slice A 128 c, .int .i64 j, .int .i64 128] W (RetB W (X * 2 ^ j) 128) := fun W A c r => shl_r A 128 c X j j rfl (by omega) 128 128 rfl (by omega) (by omega) W r hX2
  have h6 : ∀ W A c, Rs W A (is (bitsOf X 128)) → Calls Try.prog 50 #[.slice A 128 c, .int .i64 j, .int .i64 128] W (RetB W (X / 2 ^ j) 128) := fun W A c r => shr_r A 128 c X j j rfl (by omega) 128 128 rfl (by omega) (by omega) W r hX2
  rcases Nat.eq_zero_or_pos m with h0 | h0
  · subst h0
    exact shf_zero _ _ _ _ _ _ n _ _ rfl hj.symm _ _ _ w (of2_u X) h2 h3 (fun W A c r => to2_u A c _ W r) h5 h6 (fun W A c r => to2_u A c _ W r) (wdiv_0 _ _)
  · have hm2 : m < 2 ^ 64 := hm
    have hr : X % m < m := Nat.mod_lt _ h0
    have h8 := wdiv_u X m h0 hm
    rw [m128_id hX] at h8
    have h12 := addw_low (X / m * m) (X % m) (by omega)
    rw [Nat.div_add_mod'] at h12
    refine shf_g _ _ _ _ _ _ m _ _ (X % m) _ _ n _ _ rfl hj.symm hr _ _ _ _ _ _ w (of2_u X) h2 h3 (fun W A c r => to2_u A c _ W r) h5 h6 (fun W A c r => to2_u A c _ W r) h8 (fun W => of_u m 64 64 rfl (by omega) W hm)
      (fun W A c A' c' r r' => div_ref A A' 128 c 64 c' X m W r r' hX2 hm2 h0 (by omega) (by omega) 129 (by omega)) (wtimes_l (X / m) m hm) h12 (fun W A c r => to2_u A c _ W r) ?_
    intro W A c r
    have h := word_any A 129 c _ _ 0 0 rfl W r (Nat.lt_of_lt_of_le (Nat.lt_trans hr hm2) (Nat.pow_le_pow_right (by omega) (by omega))) (by omega) (by omega)
    rw [word_lo, lo_low (by omega)] at h
    exact h
theorem shifts_law (ah al : Nat) (n : Int) (m : Nat) (w : World) (h1 : ah < 18446744073709551616) (h2 : al < 18446744073709551616) (hn : -9223372036854775808 ≤ n ∧ n ≤ 9223372036854775807) (hm : m < 18446744073709551616) :
    Calls Try.prog 8 #[.agg #[.int .u64 ah, .int .u64 al], .int .i64 n, .int .u64 m] w fun e w' => e = .returned (.bool true) ∧ Below w.heap.size w w' := by
  have h := shifts_u (val2 ah al) (val2_lt h1 h2) n (by omega) m hm w
  rw [hi64_val h1 h2, lo64_val h2] at h
  exact h
end Go.Proofs.Ytioieoinkjfcfaa
