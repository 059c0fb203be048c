/-
  Walk of the law Mers89Inverts. Conditions: as each says.
-/
import Derived.Test.YtioieoinkjfcfaaM89D
namespace Go.Proofs.Ytioieoinkjfcfaa
open Go.RowKit Go.Shelf
set_option linter.unusedVariables false

set_option maxRecDepth 100000 in
set_option maxHeartbeats 4000000 in
theorem invs05_h_none (ah al bh bl xh xl ph pl fh fl : Nat) (cy : Int) (L1 L2 L3 L4 L5 : List Value) (hf : ¬ fh = 0) (w : World)
    (H1 : ∀ W, Calls Try.prog 34 #[.agg #[.int .u64 ah, .int .u64 al]] W fun e w' => e = .returned (.tuple #[.agg #[.int .u64 xh, .int .u64 xl], .bool true]) ∧ Below W.heap.size W w')
    (H2 : ∀ W, Calls Try.prog 29 #[.agg #[.int .u64 ah, .int .u64 al]] W fun e w' => ∃ A c, e = .returned (.slice A 128 c) ∧ Rs w' A L1 ∧ Below W.heap.size W w')
    (H3 : ∀ W A c, Rs W A L1 → Calls Try.prog 35 #[.slice A 128 c] W fun e w' => e = .returned (.agg #[.int .u64 fh, .int .u64 fl]) ∧ Below W.heap.size W w')
    (H4 : ∀ W, Calls Try.prog 36 #[] W fun e w' => ∃ A c, e = .returned (.slice A 128 c) ∧ Rs w' A L2 ∧ Below W.heap.size W w')
    (H5 : ∀ W, Calls Try.prog 30 #[.int .u64 1, .int .i64 1] W fun e w' => ∃ A c, e = .returned (.slice A 1 c) ∧ Rs w' A L3 ∧ Below W.heap.size W w')
    (H6 : ∀ W A c A' c', Rs W A L2 → Rs W A' L3 → Calls Try.prog 18 #[.slice A 128 c, .slice A' 1 c', .int .i64 128] W fun e w' => ∃ A c, e = .returned (.tuple #[.slice A 128 c, .int .i64 cy]) ∧ Rs w' A L4 ∧ Below W.heap.size W w')
    (H7 : ∀ W, Calls Try.prog 29 #[.agg #[.int .u64 bh, .int .u64 bl]] W fun e w' => ∃ A c, e = .returned (.slice A 128 c) ∧ Rs w' A L5 ∧ Below W.heap.size W w')
    (H8 : ∀ W A c, Rs W A L5 → Calls Try.prog 35 #[.slice A 128 c] W fun e w' => e = .returned (.agg #[.int .u64 0, .int .u64 0]) ∧ Below W.heap.size W w')
    (H9 : ∀ W, Calls Try.prog 37 #[.agg #[.int .u64 xh, .int .u64 xl]] W fun e w' => e = .returned (.bool true) ∧ Below W.heap.size W w')
    (H10 : ∀ W, Calls Try.prog 38 #[.agg #[.int .u64 ah, .int .u64 al], .agg #[.int .u64 xh, .int .u64 xl]] W fun e w' => e = .returned (.agg #[.int .u64 0, .int .u64 1]) ∧ Below W.heap.size W w')
    (H11 : ∀ W A c, Rs W A L4 → Calls Try.prog 32 #[.slice A 128 c] W fun e w' => e = .returned (.agg #[.int .u64 ph, .int .u64 pl]) ∧ Below W.heap.size W w')
    (H12 : ∀ W, Calls Try.prog 31 #[.agg #[.int .u64 ah, .int .u64 al], .agg #[.int .u64 ph, .int .u64 pl]] W fun e w' => e = .returned (.agg #[.int .u64 0, .int .u64 1]) ∧ Below W.heap.size W w')
    : Calls Try.prog 5 #[.agg #[.int .u64 ah, .int .u64 al], .agg #[.int .u64 bh, .int .u64 bl]] w fun e w' => e = .returned (.bool true) ∧ Below w.heap.size w w' := by
  replace H1 := hide H1
  replace H2 := hide H2
  replace H3 := hide H3
  replace H4 := hide H4
  replace H5 := hide H5
  replace H6 := hide H6
  replace H7 := hide H7
  replace H8 := hide H8
  replace H9 := hide H9
  replace H10 := hide H10
  replace H11 := hide H11
  replace H12 := hide H12
  have tf1 : ((fh : Int) == 0) = false := by rw [beq_eq_false_iff_ne]; omega
  have tf2 : ¬ (fh : Int) = 0 := by omega
  have tf3 : decide (fh = 0) = false := decide_eq_false (by omega)
  have tf4 : (fh == 0) = false := by rw [beq_eq_false_iff_ne]; omega
  have tf5 : ¬ fh = 0 := by omega
  go_enter Try.func5, Try.ntmps5
  go_wp2_with fail
  refine (awake05 _).mono ?_
  rintro e w1 ⟨rfl, hb⟩
  have A1 := Box2.call hb (show Box2 _ w.heap.size (.int .u64 ah) (.int .u64 al) from (by (refine ⟨?_, ?_, ?_, ?_, ?_⟩ <;> simp [go_sem] <;> omega)))
  have B1 := Box2.call hb (show Box2 _ (w.heap.size + 1) (.int .u64 bh) (.int .u64 bl) from (by (refine ⟨?_, ?_, ?_, ?_, ?_⟩ <;> simp [go_sem] <;> omega)))
  have B : Below w.heap.size w w1 := below_call (by (repeat (first | exact Below.refl _ _ | assumption | (refine Below.alloc ?_ (by first | omega | (simp; done) | (simp; omega)) _) | (refine Below.setCell ?_ (by first | omega | (simp; done) | (simp; omega)) _) | refine Below.drew ?_ | refine below_drewN ?_ _))) (Nat.le_refl _) hb
  clear hb
  have bz := B.size
  go_wp2_with fail
  refine (H1.out _).mono ?_
  rintro e w2 ⟨rfl, hb⟩
  have Z1 := Box2.call hb (show Box2 _ w1.heap.size (.int .u64 0) (.int .u64 0) from (by (refine ⟨?_, ?_, ?_, ?_, ?_⟩ <;> simp [go_sem] <;> omega)))
  replace A1 := Box2.call hb (Box2.alloc _ A1)
  replace B1 := Box2.call hb (Box2.alloc _ B1)
  replace B : Below w.heap.size w w2 := below_call (by (repeat (first | exact Below.refl _ _ | assumption | (refine Below.alloc ?_ (by first | omega | (simp; done) | (simp; omega)) _) | (refine Below.setCell ?_ (by first | omega | (simp; done) | (simp; omega)) _) | refine Below.drew ?_ | refine below_drewN ?_ _))) (Nat.le_refl _) hb
  clear hb bz
  have bz := B.size
  go_wp2_with fail
  have X1 : Box2 (w2.alloc (.cells #[.int .u64 xh, .int .u64 xl] 43)) w2.heap.size (.int .u64 xh) (.int .u64 xl) := (by (refine ⟨?_, ?_, ?_, ?_, ?_⟩ <;> simp [go_sem] <;> omega))
  have zz := Z1.2.2.2.2
  replace A1 := Box2.alloc (.cells #[.int .u64 xh, .int .u64 xl] 43) A1
  replace B1 := Box2.alloc (.cells #[.int .u64 xh, .int .u64 xl] 43) B1
  replace Z1 := Box2.alloc (.cells #[.int .u64 xh, .int .u64 xl] 43) Z1
  replace B := Below.alloc B B.size (.cells #[.int .u64 xh, .int .u64 xl] 43)
  generalize w2.alloc (.cells #[.int .u64 xh, .int .u64 xl] 43) = W at *
  clear bz zz
  generalize w2.heap.size = n2 at *
  generalize w1.heap.size = n1 at *
  go_region_held3 (fun v => Box2 v (w.heap.size) (.int .u64 ah) (.int .u64 al) ∧ Box2 v (n1) (.int .u64 0) (.int .u64 0)) (exact ⟨A1, Z1⟩) (first | (go_at_call 29; (with_reducible refine (H2.out _).mono ?_); rintro e w3 ⟨A3, c3, rfl, r3, hb⟩; replace A1 := Box2.call hb A1; replace B1 := Box2.call hb B1; replace Z1 := Box2.call hb Z1; replace X1 := Box2.call hb X1; replace B : Below w.heap.size w w3 := below_call (by (repeat (first | exact Below.refl _ _ | assumption | (refine Below.alloc ?_ (by first | omega | (simp; done) | (simp; omega)) _) | (refine Below.setCell ?_ (by first | omega | (simp; done) | (simp; omega)) _) | refine Below.drew ?_ | refine below_drewN ?_ _))) (Nat.le_refl _) hb; clear hb) | (go_at_call 35; (with_reducible refine (H3.out _ _ _ r3).mono ?_); rintro e w4 ⟨rfl, hb⟩; replace A1 := Box2.call hb A1; replace B1 := Box2.call hb B1; replace Z1 := Box2.call hb Z1; replace X1 := Box2.call hb X1; replace B : Below w.heap.size w w4 := below_call (by (repeat (first | exact Below.refl _ _ | assumption | (refine Below.alloc ?_ (by first | omega | (simp; done) | (simp; omega)) _) | (refine Below.setCell ?_ (by first | omega | (simp; done) | (simp; omega)) _) | refine Below.drew ?_ | refine below_drewN ?_ _))) (Nat.le_refl _) hb; clear hb))
  clear r3
  go_wp2_with fail
  refine (H4.out _).mono ?_
  rintro e w5 ⟨A5, c5, rfl, r5, hb⟩
  replace A1 := Box2.call hb (by first | exact A1 | exact Box2.alloc _ A1 | exact Box2.alloc _ (Box2.alloc _ A1))
  replace B1 := Box2.call hb (by first | exact B1 | exact Box2.alloc _ B1 | exact Box2.alloc _ (Box2.alloc _ B1))
  replace Z1 := Box2.call hb (by first | exact Z1 | exact Box2.alloc _ Z1 | exact Box2.alloc _ (Box2.alloc _ Z1))
  replace X1 := Box2.call hb (by first | exact X1 | exact Box2.alloc _ X1 | exact Box2.alloc _ (Box2.alloc _ X1))
  replace B : Below w.heap.size w w5 := below_call (by (repeat (first | exact Below.refl _ _ | assumption | (refine Below.alloc ?_ (by first | omega | (simp; done) | (simp; omega)) _) | (refine Below.setCell ?_ (by first | omega | (simp; done) | (simp; omega)) _) | refine Below.drew ?_ | refine below_drewN ?_ _))) (Nat.le_refl _) hb
  clear hb
  go_wp2_with fail
  refine (H5.out _).mono ?_
  rintro e w6 ⟨A6, c6, rfl, r6, hb⟩
  replace A1 := Box2.call hb (by first | exact A1 | exact Box2.alloc _ A1 | exact Box2.alloc _ (Box2.alloc _ A1))
  replace B1 := Box2.call hb (by first | exact B1 | exact Box2.alloc _ B1 | exact Box2.alloc _ (Box2.alloc _ B1))
  replace Z1 := Box2.call hb (by first | exact Z1 | exact Box2.alloc _ Z1 | exact Box2.alloc _ (Box2.alloc _ Z1))
  replace X1 := Box2.call hb (by first | exact X1 | exact Box2.alloc _ X1 | exact Box2.alloc _ (Box2.alloc _ X1))
  replace r5 := Rs.go hb (by first | exact r5 | exact Rs.alloc r5 _ | exact Rs.alloc (Rs.alloc r5 _) _)
  replace B : Below w.heap.size w w6 := below_call (by (repeat (first | exact Below.refl _ _ | assumption | (refine Below.alloc ?_ (by first | omega | (simp; done) | (simp; omega)) _) | (refine Below.setCell ?_ (by first | omega | (simp; done) | (simp; omega)) _) | refine Below.drew ?_ | refine below_drewN ?_ _))) (Nat.le_refl _) hb
  clear hb
  go_wp2_with fail
  refine (H6.out _ _ _ _ _ r5 r6).mono ?_
  rintro e w7 ⟨A7, c7, rfl, r7, hb⟩
  replace A1 := Box2.call hb (by first | exact A1 | exact Box2.alloc _ A1 | exact Box2.alloc _ (Box2.alloc _ A1))
  replace B1 := Box2.call hb (by first | exact B1 | exact Box2.alloc _ B1 | exact Box2.alloc _ (Box2.alloc _ B1))
  replace Z1 := Box2.call hb (by first | exact Z1 | exact Box2.alloc _ Z1 | exact Box2.alloc _ (Box2.alloc _ Z1))
  replace X1 := Box2.call hb (by first | exact X1 | exact Box2.alloc _ X1 | exact Box2.alloc _ (Box2.alloc _ X1))
  replace B : Below w.heap.size w w7 := below_call (by (repeat (first | exact Below.refl _ _ | assumption | (refine Below.alloc ?_ (by first | omega | (simp; done) | (simp; omega)) _) | (refine Below.setCell ?_ (by first | omega | (simp; done) | (simp; omega)) _) | refine Below.drew ?_ | refine below_drewN ?_ _))) (Nat.le_refl _) hb
  clear hb
  clear r5 r6
  go_wp2_with fail
  go_region_held3 (fun v => Box2 v (w.heap.size + 1) (.int .u64 bh) (.int .u64 bl) ∧ Box2 v (n1) (.int .u64 0) (.int .u64 0)) (exact ⟨B1, Z1⟩) (first | (go_at_call 29; (with_reducible refine (H7.out _).mono ?_); rintro e w8 ⟨A8, c8, rfl, r8, hb⟩; replace A1 := Box2.call hb A1; replace B1 := Box2.call hb B1; replace Z1 := Box2.call hb Z1; replace X1 := Box2.call hb X1; replace r7 := Rs.go hb r7; replace B : Below w.heap.size w w8 := below_call (by (repeat (first | exact Below.refl _ _ | assumption | (refine Below.alloc ?_ (by first | omega | (simp; done) | (simp; omega)) _) | (refine Below.setCell ?_ (by first | omega | (simp; done) | (simp; omega)) _) | refine Below.drew ?_ | refine below_drewN ?_ _))) (Nat.le_refl _) hb; clear hb) | (go_at_call 35; (with_reducible refine (H8.out _ _ _ r8).mono ?_); rintro e w9 ⟨rfl, hb⟩; replace A1 := Box2.call hb A1; replace B1 := Box2.call hb B1; replace Z1 := Box2.call hb Z1; replace X1 := Box2.call hb X1; replace r7 := Rs.go hb r7; replace B : Below w.heap.size w w9 := below_call (by (repeat (first | exact Below.refl _ _ | assumption | (refine Below.alloc ?_ (by first | omega | (simp; done) | (simp; omega)) _) | (refine Below.setCell ?_ (by first | omega | (simp; done) | (simp; omega)) _) | refine Below.drew ?_ | refine below_drewN ?_ _))) (Nat.le_refl _) hb; clear hb))
  clear r8
  go_wp2_with fail
  go_region_with ((first | (go_at_call 37; (with_reducible refine (H9.out _).mono ?_); rintro e wa ⟨rfl, hb⟩; replace A1 := Box2.call hb A1; replace B1 := Box2.call hb B1; replace Z1 := Box2.call hb Z1; replace X1 := Box2.call hb X1; replace r7 := Rs.go hb r7; replace B : Below w.heap.size w wa := below_call (by (repeat (first | exact Below.refl _ _ | assumption | (refine Below.alloc ?_ (by first | omega | (simp; done) | (simp; omega)) _) | (refine Below.setCell ?_ (by first | omega | (simp; done) | (simp; omega)) _) | refine Below.drew ?_ | refine below_drewN ?_ _))) (Nat.le_refl _) hb; clear hb) | (go_at_call 38; (with_reducible refine (H10.out _).mono ?_); rintro e wa ⟨rfl, hb⟩; replace A1 := Box2.call hb A1; replace B1 := Box2.call hb B1; replace Z1 := Box2.call hb Z1; replace X1 := Box2.call hb X1; replace r7 := Rs.go hb r7; replace B : Below w.heap.size w wa := below_call (by (repeat (first | exact Below.refl _ _ | assumption | (refine Below.alloc ?_ (by first | omega | (simp; done) | (simp; omega)) _) | (refine Below.setCell ?_ (by first | omega | (simp; done) | (simp; omega)) _) | refine Below.drew ?_ | refine below_drewN ?_ _))) (Nat.le_refl _) hb; clear hb) | (go_at_call 32; (with_reducible refine (H11.out _ _ _ (by first | exact r7 | exact Rs.drew r7)).mono ?_); rintro e wa ⟨rfl, hb⟩; replace A1 := Box2.call hb A1; replace B1 := Box2.call hb B1; replace Z1 := Box2.call hb Z1; replace X1 := Box2.call hb X1; replace r7 := Rs.go hb r7; replace B : Below w.heap.size w wa := below_call (by (repeat (first | exact Below.refl _ _ | assumption | (refine Below.alloc ?_ (by first | omega | (simp; done) | (simp; omega)) _) | (refine Below.setCell ?_ (by first | omega | (simp; done) | (simp; omega)) _) | refine Below.drew ?_ | refine below_drewN ?_ _))) (Nat.le_refl _) hb; clear hb) | (go_at_call 31; (with_reducible refine (H12.out _).mono ?_); rintro e wa ⟨rfl, hb⟩; replace A1 := Box2.call hb A1; replace B1 := Box2.call hb B1; replace Z1 := Box2.call hb Z1; replace X1 := Box2.call hb X1; replace r7 := Rs.go hb r7; replace B : Below w.heap.size w wa := below_call (by (repeat (first | exact Below.refl _ _ | assumption | (refine Below.alloc ?_ (by first | omega | (simp; done) | (simp; omega)) _) | (refine Below.setCell ?_ (by first | omega | (simp; done) | (simp; omega)) _) | refine Below.drew ?_ | refine below_drewN ?_ _))) (Nat.le_refl _) hb; clear hb)))
  all_goals go_wp2_with fail
  all_goals go_ret
  all_goals exact ⟨rfl, by (repeat (first | exact Below.refl _ _ | assumption | (refine Below.alloc ?_ (by first | omega | (simp; done) | (simp; omega)) _) | (refine Below.setCell ?_ (by first | omega | (simp; done) | (simp; omega)) _) | refine Below.drew ?_ | refine below_drewN ?_ _))⟩
end Go.Proofs.Ytioieoinkjfcfaa
