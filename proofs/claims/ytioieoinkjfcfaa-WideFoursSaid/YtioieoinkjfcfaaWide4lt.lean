/-
  Walk of the law WideFours. Conditions: numbers fit 256 bits.
-/
import Derived.Test.YtioieoinkjfcfaaOf4
import Derived.Test.YtioieoinkjfcfaaShl4
import Derived.Test.YtioieoinkjfcfaaBitsS
import Derived.Test.YtioieoinkjfcfaaWideA
namespace Go.Proofs.Ytioieoinkjfcfaa
open Go.RowKit Go.Shelf
set_option linter.unusedVariables false
attribute [local go_sem] eq4

set_option maxRecDepth 100000 in
set_option maxHeartbeats 4000000 in
theorem fours_lt (a0 a1 a2 a3 b0 b1 b2 b3 s0 s1 s2 s3 d0 d1 d2 d3 e0 e1 e2 e3 : Nat) (L2 L3 L4 L5 : List Value) (X : Nat) (n c b : Int) (ov bl : Bool) (cy lk cc ln : Int) (hcy : (cy == 1) = ov) (hlk : (lk == 1) = bl) (tm : max n 0 = c) (tb : min c 256 = b) (hn : n < 0) (w : World)
    (H1 : ∀ W, Calls Try.prog 14 #[.agg #[.int .u64 a0, .int .u64 a1, .int .u64 a2, .int .u64 a3]] W fun e w' => ∃ A c, e = .returned (.slice A 256 c) ∧ Rs w' A (is (bitsOf X 256)) ∧ Below W.heap.size W w')
    (H2 : ∀ W, Calls Try.prog 14 #[.agg #[.int .u64 b0, .int .u64 b1, .int .u64 b2, .int .u64 b3]] W fun e w' => ∃ A c, e = .returned (.slice A 256 c) ∧ Rs w' A L2 ∧ Below W.heap.size W w')
    (H3 : ∀ W, Calls Try.prog 15 #[.agg #[.int .u64 a0, .int .u64 a1, .int .u64 a2, .int .u64 a3], .agg #[.int .u64 b0, .int .u64 b1, .int .u64 b2, .int .u64 b3]] W fun e w' => e = .returned (.tuple #[.agg #[.int .u64 s0, .int .u64 s1, .int .u64 s2, .int .u64 s3], .bool ov]) ∧ Below W.heap.size W w')
    (H4 : ∀ W A c A' c', Rs W A (is (bitsOf X 256)) → Rs W A' L2 → Calls Try.prog 16 #[.slice A 256 c, .slice A' 256 c', .int .i64 256] W fun e w' => ∃ A c, e = .returned (.tuple #[.slice A 256 c, .int .i64 cy]) ∧ Rs w' A L3 ∧ Below W.heap.size W w')
    (H5 : ∀ W, Calls Try.prog 17 #[.agg #[.int .u64 a0, .int .u64 a1, .int .u64 a2, .int .u64 a3], .agg #[.int .u64 b0, .int .u64 b1, .int .u64 b2, .int .u64 b3]] W fun e w' => e = .returned (.tuple #[.agg #[.int .u64 d0, .int .u64 d1, .int .u64 d2, .int .u64 d3], .bool bl]) ∧ Below W.heap.size W w')
    (H6 : ∀ W A c A' c', Rs W A (is (bitsOf X 256)) → Rs W A' L2 → Calls Try.prog 18 #[.slice A 256 c, .slice A' 256 c', .int .i64 256] W fun e w' => ∃ A c, e = .returned (.tuple #[.slice A 256 c, .int .i64 lk]) ∧ Rs w' A L4 ∧ Below W.heap.size W w')
    (H7 : ∀ W A c, Rs W A L3 → Calls Try.prog 19 #[.slice A 256 c] W fun e w' => e = .returned (.agg #[.int .u64 s0, .int .u64 s1, .int .u64 s2, .int .u64 s3]) ∧ Below W.heap.size W w')
    (H8 : ∀ W A c, Rs W A L4 → Calls Try.prog 19 #[.slice A 256 c] W fun e w' => e = .returned (.agg #[.int .u64 d0, .int .u64 d1, .int .u64 d2, .int .u64 d3]) ∧ Below W.heap.size W w')
    (H9 : ∀ W, Calls Try.prog 20 #[.agg #[.int .u64 a0, .int .u64 a1, .int .u64 a2, .int .u64 a3], .agg #[.int .u64 b0, .int .u64 b1, .int .u64 b2, .int .u64 b3]] W fun e w' => e = .returned (.int .i64 cc) ∧ Below W.heap.size W w')
    (H10 : ∀ W A c A' c', Rs W A (is (bitsOf X 256)) → Rs W A' L2 → Calls Try.prog 21 #[.slice A 256 c, .slice A' 256 c'] W fun e w' => e = .returned (.int .i64 cc) ∧ W = w')
    (H11 : ∀ W, Calls Try.prog 22 #[.agg #[.int .u64 a0, .int .u64 a1, .int .u64 a2, .int .u64 a3], .int .i64 n] W fun e w' => e = .returned (.bool false) ∧ Below W.heap.size W w')
    (H12 : ∀ W, Calls Try.prog 23 #[.agg #[.int .u64 a0, .int .u64 a1, .int .u64 a2, .int .u64 a3]] W fun e w' => e = .returned (.int .i64 ln) ∧ Below W.heap.size W w')
    (H13 : ∀ W A c, Rs W A (is (bitsOf X 256)) → Calls Try.prog 24 #[.slice A 256 c] W fun e w' => e = .returned (.int .i64 ln) ∧ W = w')
    (H14 : ∀ W, Calls Try.prog 25 #[.agg #[.int .u64 a0, .int .u64 a1, .int .u64 a2, .int .u64 a3], .int .i64 n] W fun e w' => e = .returned (.agg #[.int .u64 e0, .int .u64 e1, .int .u64 e2, .int .u64 e3]) ∧ Below W.heap.size W w')
    (H15 : ∀ W A c, Rs W A (is (bitsOf X 256)) → Calls Try.prog 26 #[.slice A 256 c, .int .i64 b, .int .i64 256] W fun e w' => ∃ A c, e = .returned (.slice A 256 c) ∧ Rs w' A L5 ∧ Below W.heap.size W w')
    (H16 : ∀ W A c, Rs W A L5 → Calls Try.prog 19 #[.slice A 256 c] W fun e w' => e = .returned (.agg #[.int .u64 e0, .int .u64 e1, .int .u64 e2, .int .u64 e3]) ∧ Below W.heap.size W w')
    (H17 : ∀ W, Calls Try.prog 27 #[.int .u64 a0] W fun e w' => e = .returned (.agg #[.int .u64 a0, .int .u64 0, .int .u64 0, .int .u64 0]) ∧ Below W.heap.size W w')
    : Calls Try.prog 3 #[.agg #[.int .u64 a0, .int .u64 a1, .int .u64 a2, .int .u64 a3], .agg #[.int .u64 b0, .int .u64 b1, .int .u64 b2, .int .u64 b3], .int .i64 n] w fun e w' => e = .returned (.bool true) ∧ Below w.heap.size w w' := by
  replace H1 := hide H1
  replace H2 := hide H2
  replace H3 := hide H3
  replace H4 := hide H4
  replace H5 := hide H5
  replace H6 := hide H6
  replace H7 := hide H7
  replace H8 := hide H8
  replace H9 := hide H9
  replace H10 := hide H10
  replace H11 := hide H11
  replace H12 := hide H12
  replace H13 := hide H13
  replace H14 := hide H14
  replace H15 := hide H15
  replace H16 := hide H16
  replace H17 := hide H17
  have t1 : decide (0 ≤ n) = false := decide_eq_false (by omega)
  have t2 : ¬ 0 ≤ n := by omega
  go_enter Try.func3, Try.ntmps3
  go_wp2_with fail
  refine (awake_wide _).mono ?_
  rintro e w1 ⟨rfl, hb⟩
  have A1 := Box4.call hb (show Box4 _ (w.heap.size) (.int .u64 a0) (.int .u64 a1) (.int .u64 a2) (.int .u64 a3) from (by (refine ⟨?_, ?_, ?_, ?_, ?_, ?_, ?_, ?_, ?_⟩ <;> simp [go_sem] <;> omega)))
  have B1 := Box4.call hb (show Box4 _ (w.heap.size + 1) (.int .u64 b0) (.int .u64 b1) (.int .u64 b2) (.int .u64 b3) from (by (refine ⟨?_, ?_, ?_, ?_, ?_, ?_, ?_, ?_, ?_⟩ <;> simp [go_sem] <;> omega)))
  have B : Below w.heap.size w w1 := below_call (by (repeat (first | exact Below.refl _ _ | assumption | (refine Below.alloc ?_ (by first | omega | (simp; done) | (simp; omega)) _) | (refine Below.setCell ?_ (by first | omega | (simp; done) | (simp; omega)) _) | refine Below.drew ?_ | refine below_drewN ?_ _))) (Nat.le_refl _) hb
  clear hb
  go_wp2_with fail
  go_region_held3 (fun v => Box4 v (w.heap.size) (.int .u64 a0) (.int .u64 a1) (.int .u64 a2) (.int .u64 a3) ∧ Box4 v (w.heap.size + 1) (.int .u64 b0) (.int .u64 b1) (.int .u64 b2) (.int .u64 b3)) (exact ⟨A1, B1⟩) (first | (go_at_call 14; (with_reducible refine (H1.out _).mono ?_); rintro e w2 ⟨A3, c3, rfl, r1, hb⟩; replace A1 := Box4.call hb A1; replace B1 := Box4.call hb B1; replace B : Below w.heap.size w w2 := below_call (by (repeat (first | exact Below.refl _ _ | assumption | (refine Below.alloc ?_ (by first | omega | (simp; done) | (simp; omega)) _) | (refine Below.setCell ?_ (by first | omega | (simp; done) | (simp; omega)) _) | refine Below.drew ?_ | refine below_drewN ?_ _))) (Nat.le_refl _) hb; clear hb) | (go_at_call 14; (with_reducible refine (H2.out _).mono ?_); rintro e w3 ⟨A4, c4, rfl, r2, hb⟩; replace A1 := Box4.call hb A1; replace B1 := Box4.call hb B1; replace r1 := Rs.go hb r1; replace B : Below w.heap.size w w3 := below_call (by (repeat (first | exact Below.refl _ _ | assumption | (refine Below.alloc ?_ (by first | omega | (simp; done) | (simp; omega)) _) | (refine Below.setCell ?_ (by first | omega | (simp; done) | (simp; omega)) _) | refine Below.drew ?_ | refine below_drewN ?_ _))) (Nat.le_refl _) hb; clear hb))
  go_wp2_with fail
  refine (H3.out _).mono ?_
  rintro e w4 ⟨rfl, hb⟩
  replace A1 := Box4.call hb (by first | exact A1 | exact Box4.alloc _ A1 | exact Box4.alloc _ (Box4.alloc _ A1))
  replace B1 := Box4.call hb (by first | exact B1 | exact Box4.alloc _ B1 | exact Box4.alloc _ (Box4.alloc _ B1))
  replace r1 := Rs.go hb (by first | exact r1 | exact Rs.alloc r1 _ | exact Rs.alloc (Rs.alloc r1 _) _)
  replace r2 := Rs.go hb (by first | exact r2 | exact Rs.alloc r2 _ | exact Rs.alloc (Rs.alloc r2 _) _)
  replace B : Below w.heap.size w w4 := below_call (by (repeat (first | exact Below.refl _ _ | assumption | (refine Below.alloc ?_ (by first | omega | (simp; done) | (simp; omega)) _) | (refine Below.setCell ?_ (by first | omega | (simp; done) | (simp; omega)) _) | refine Below.drew ?_ | refine below_drewN ?_ _))) (Nat.le_refl _) hb
  clear hb
  have bz := B.size
  go_wp2_with fail
  refine (H4.out _ _ _ _ _ (Rs.alloc r1 _) (Rs.alloc r2 _)).mono ?_
  rintro e w5 ⟨A5, c5, rfl, r3, hb⟩
  have S1 := Box4.call hb (show Box4 _ (w4.heap.size) (.int .u64 s0) (.int .u64 s1) (.int .u64 s2) (.int .u64 s3) from (by (refine ⟨?_, ?_, ?_, ?_, ?_, ?_, ?_, ?_, ?_⟩ <;> simp [go_sem] <;> omega)))
  replace A1 := Box4.call hb (by first | exact A1 | exact Box4.alloc _ A1 | exact Box4.alloc _ (Box4.alloc _ A1))
  replace B1 := Box4.call hb (by first | exact B1 | exact Box4.alloc _ B1 | exact Box4.alloc _ (Box4.alloc _ B1))
  replace r1 := Rs.go hb (by first | exact r1 | exact Rs.alloc r1 _ | exact Rs.alloc (Rs.alloc r1 _) _)
  replace r2 := Rs.go hb (by first | exact r2 | exact Rs.alloc r2 _ | exact Rs.alloc (Rs.alloc r2 _) _)
  replace B : Below w.heap.size w w5 := below_call (by (repeat (first | exact Below.refl _ _ | assumption | (refine Below.alloc ?_ (by first | omega | (simp; done) | (simp; omega)) _) | (refine Below.setCell ?_ (by first | omega | (simp; done) | (simp; omega)) _) | refine Below.drew ?_ | refine below_drewN ?_ _))) (Nat.le_refl _) hb
  clear hb
  clear bz
  go_wp2_with fail
  refine (H5.out _).mono ?_
  rintro e w6 ⟨rfl, hb⟩
  replace A1 := Box4.call hb (by first | exact A1 | exact Box4.alloc _ A1 | exact Box4.alloc _ (Box4.alloc _ A1))
  replace B1 := Box4.call hb (by first | exact B1 | exact Box4.alloc _ B1 | exact Box4.alloc _ (Box4.alloc _ B1))
  replace r1 := Rs.go hb (by first | exact r1 | exact Rs.alloc r1 _ | exact Rs.alloc (Rs.alloc r1 _) _)
  replace r2 := Rs.go hb (by first | exact r2 | exact Rs.alloc r2 _ | exact Rs.alloc (Rs.alloc r2 _) _)
  replace S1 := Box4.call hb (by first | exact S1 | exact Box4.alloc _ S1 | exact Box4.alloc _ (Box4.alloc _ S1))
  replace r3 := Rs.go hb (by first | exact r3 | exact Rs.alloc r3 _ | exact Rs.alloc (Rs.alloc r3 _) _)
  replace B : Below w.heap.size w w6 := below_call (by (repeat (first | exact Below.refl _ _ | assumption | (refine Below.alloc ?_ (by first | omega | (simp; done) | (simp; omega)) _) | (refine Below.setCell ?_ (by first | omega | (simp; done) | (simp; omega)) _) | refine Below.drew ?_ | refine below_drewN ?_ _))) (Nat.le_refl _) hb
  clear hb
  have bz := B.size
  go_wp2_with fail
  refine (H6.out _ _ _ _ _ (Rs.alloc r1 _) (Rs.alloc r2 _)).mono ?_
  rintro e w7 ⟨A6, c6, rfl, r4, hb⟩
  have D1 := Box4.call hb (show Box4 _ (w6.heap.size) (.int .u64 d0) (.int .u64 d1) (.int .u64 d2) (.int .u64 d3) from (by (refine ⟨?_, ?_, ?_, ?_, ?_, ?_, ?_, ?_, ?_⟩ <;> simp [go_sem] <;> omega)))
  replace A1 := Box4.call hb (by first | exact A1 | exact Box4.alloc _ A1 | exact Box4.alloc _ (Box4.alloc _ A1))
  replace B1 := Box4.call hb (by first | exact B1 | exact Box4.alloc _ B1 | exact Box4.alloc _ (Box4.alloc _ B1))
  replace r1 := Rs.go hb (by first | exact r1 | exact Rs.alloc r1 _ | exact Rs.alloc (Rs.alloc r1 _) _)
  replace r2 := Rs.go hb (by first | exact r2 | exact Rs.alloc r2 _ | exact Rs.alloc (Rs.alloc r2 _) _)
  replace S1 := Box4.call hb (by first | exact S1 | exact Box4.alloc _ S1 | exact Box4.alloc _ (Box4.alloc _ S1))
  replace r3 := Rs.go hb (by first | exact r3 | exact Rs.alloc r3 _ | exact Rs.alloc (Rs.alloc r3 _) _)
  replace B : Below w.heap.size w w7 := below_call (by (repeat (first | exact Below.refl _ _ | assumption | (refine Below.alloc ?_ (by first | omega | (simp; done) | (simp; omega)) _) | (refine Below.setCell ?_ (by first | omega | (simp; done) | (simp; omega)) _) | refine Below.drew ?_ | refine below_drewN ?_ _))) (Nat.le_refl _) hb
  clear hb
  clear bz
  generalize w6.heap.size = n6 at *
  generalize w4.heap.size = n4 at *
  go_wp2_with fail
  go_region_held3 (fun v => Box4 v (w.heap.size) (.int .u64 a0) (.int .u64 a1) (.int .u64 a2) (.int .u64 a3) ∧ Box4 v (w.heap.size + 1) (.int .u64 b0) (.int .u64 b1) (.int .u64 b2) (.int .u64 b3) ∧ Box4 v (n4) (.int .u64 s0) (.int .u64 s1) (.int .u64 s2) (.int .u64 s3) ∧ Box4 v (n6) (.int .u64 d0) (.int .u64 d1) (.int .u64 d2) (.int .u64 d3)) (exact ⟨A1, B1, S1, D1⟩) (first | (go_at_call 19; (with_reducible refine (H7.out _ _ _ (by first | exact r3 | exact Rs.drew r3)).mono ?_); rintro e w8 ⟨rfl, hb⟩; replace A1 := Box4.call hb A1; replace B1 := Box4.call hb B1; replace r1 := Rs.go hb r1; replace r2 := Rs.go hb r2; replace S1 := Box4.call hb S1; replace r3 := Rs.go hb r3; replace D1 := Box4.call hb D1; replace r4 := Rs.go hb r4; replace B : Below w.heap.size w w8 := below_call (by (repeat (first | exact Below.refl _ _ | assumption | (refine Below.alloc ?_ (by first | omega | (simp; done) | (simp; omega)) _) | (refine Below.setCell ?_ (by first | omega | (simp; done) | (simp; omega)) _) | refine Below.drew ?_ | refine below_drewN ?_ _))) (Nat.le_refl _) hb; clear hb) | (go_at_call 19; (with_reducible refine (H8.out _ _ _ (by first | exact r4 | exact Rs.drew r4)).mono ?_); rintro e w9 ⟨rfl, hb⟩; replace A1 := Box4.call hb A1; replace B1 := Box4.call hb B1; replace r1 := Rs.go hb r1; replace r2 := Rs.go hb r2; replace S1 := Box4.call hb S1; replace r3 := Rs.go hb r3; replace D1 := Box4.call hb D1; replace r4 := Rs.go hb r4; replace B : Below w.heap.size w w9 := below_call (by (repeat (first | exact Below.refl _ _ | assumption | (refine Below.alloc ?_ (by first | omega | (simp; done) | (simp; omega)) _) | (refine Below.setCell ?_ (by first | omega | (simp; done) | (simp; omega)) _) | refine Below.drew ?_ | refine below_drewN ?_ _))) (Nat.le_refl _) hb; clear hb) | (go_at_call 20; (with_reducible refine (H9.out _).mono ?_); rintro e wa ⟨rfl, hb⟩; replace A1 := Box4.call hb A1; replace B1 := Box4.call hb B1; replace r1 := Rs.go hb r1; replace r2 := Rs.go hb r2; replace S1 := Box4.call hb S1; replace r3 := Rs.go hb r3; replace D1 := Box4.call hb D1; replace r4 := Rs.go hb r4; replace B : Below w.heap.size w wa := below_call (by (repeat (first | exact Below.refl _ _ | assumption | (refine Below.alloc ?_ (by first | omega | (simp; done) | (simp; omega)) _) | (refine Below.setCell ?_ (by first | omega | (simp; done) | (simp; omega)) _) | refine Below.drew ?_ | refine below_drewN ?_ _))) (Nat.le_refl _) hb; clear hb) | (go_at_call 21; (with_reducible refine (H10.out _ _ _ _ _ r1 r2).mono ?_); rintro e wq ⟨rfl, rfl⟩))
  clear S1 D1 r2 r3 r4
  go_wp2_with fail
  go_region_held3 (fun v => Box4 v (w.heap.size) (.int .u64 a0) (.int .u64 a1) (.int .u64 a2) (.int .u64 a3)) (exact A1) (first | (go_at_call 22; (with_reducible refine (H11.out _).mono ?_); rintro e wb ⟨rfl, hb⟩; replace A1 := Box4.call hb A1; replace B1 := Box4.call hb B1; replace r1 := Rs.go hb r1; replace B : Below w.heap.size w wb := below_call (by (repeat (first | exact Below.refl _ _ | assumption | (refine Below.alloc ?_ (by first | omega | (simp; done) | (simp; omega)) _) | (refine Below.setCell ?_ (by first | omega | (simp; done) | (simp; omega)) _) | refine Below.drew ?_ | refine below_drewN ?_ _))) (Nat.le_refl _) hb; clear hb) | (go_at_call 23; (with_reducible refine (H12.out _).mono ?_); rintro e wb ⟨rfl, hb⟩; replace A1 := Box4.call hb A1; replace B1 := Box4.call hb B1; replace r1 := Rs.go hb r1; replace B : Below w.heap.size w wb := below_call (by (repeat (first | exact Below.refl _ _ | assumption | (refine Below.alloc ?_ (by first | omega | (simp; done) | (simp; omega)) _) | (refine Below.setCell ?_ (by first | omega | (simp; done) | (simp; omega)) _) | refine Below.drew ?_ | refine below_drewN ?_ _))) (Nat.le_refl _) hb; clear hb) | (go_at_call 24; (with_reducible refine (H13.out _ _ _ (by first | exact r1 | exact Rs.drew r1)).mono ?_); rintro e wq ⟨rfl, rfl⟩) | (go_at_call 25; (with_reducible refine (H14.out _).mono ?_); rintro e wc ⟨rfl, hb⟩; replace A1 := Box4.call hb A1; replace B1 := Box4.call hb B1; replace r1 := Rs.go hb r1; replace B : Below w.heap.size w wc := below_call (by (repeat (first | exact Below.refl _ _ | assumption | (refine Below.alloc ?_ (by first | omega | (simp; done) | (simp; omega)) _) | (refine Below.setCell ?_ (by first | omega | (simp; done) | (simp; omega)) _) | refine Below.drew ?_ | refine below_drewN ?_ _))) (Nat.le_refl _) hb; clear hb) | (go_at_call 26; (with_reducible refine (H15.out _ _ _ (by first | exact r1 | exact Rs.drew r1)).mono ?_); rintro e wd ⟨A7, c7, rfl, r5, hb⟩; replace A1 := Box4.call hb A1; replace B1 := Box4.call hb B1; replace r1 := Rs.go hb r1; replace B : Below w.heap.size w wd := below_call (by (repeat (first | exact Below.refl _ _ | assumption | (refine Below.alloc ?_ (by first | omega | (simp; done) | (simp; omega)) _) | (refine Below.setCell ?_ (by first | omega | (simp; done) | (simp; omega)) _) | refine Below.drew ?_ | refine below_drewN ?_ _))) (Nat.le_refl _) hb; clear hb) | (go_at_call 19; (with_reducible refine (H16.out _ _ _ r5).mono ?_); rintro e we ⟨rfl, hb⟩; replace A1 := Box4.call hb A1; replace B1 := Box4.call hb B1; replace r1 := Rs.go hb r1; replace B : Below w.heap.size w we := below_call (by (repeat (first | exact Below.refl _ _ | assumption | (refine Below.alloc ?_ (by first | omega | (simp; done) | (simp; omega)) _) | (refine Below.setCell ?_ (by first | omega | (simp; done) | (simp; omega)) _) | refine Below.drew ?_ | refine below_drewN ?_ _))) (Nat.le_refl _) hb; clear hb) | (go_at_call 27; (with_reducible refine (H17.out _).mono ?_); rintro e wf ⟨rfl, hb⟩; replace A1 := Box4.call hb A1; replace B1 := Box4.call hb B1; replace r1 := Rs.go hb r1; replace B : Below w.heap.size w wf := below_call (by (repeat (first | exact Below.refl _ _ | assumption | (refine Below.alloc ?_ (by first | omega | (simp; done) | (simp; omega)) _) | (refine Below.setCell ?_ (by first | omega | (simp; done) | (simp; omega)) _) | refine Below.drew ?_ | refine below_drewN ?_ _))) (Nat.le_refl _) hb; clear hb))
  all_goals go_wp2_with fail
  all_goals go_ret
  all_goals exact ⟨rfl, B⟩
end Go.Proofs.Ytioieoinkjfcfaa
