/-
  Walk of mers89.Text and of the law Mers89Folds. Conditions: as each says.
-/
import Derived.Test.YtpfpdlgfngkdjaaM89D
import Derived.Test.YtpfpdlgfngkdjaaTxtD
import Derived.Test.YtpfpdlgfngkdjaaOf4
namespace Go.Proofs.Ytpfpdlgfngkdjaa
open Go.RowKit
set_option linter.unusedVariables false

set_option maxHeartbeats 2000000 in
theorem text89_g (ah al f0 f1 f2 f3 rh rl g0 g1 g2 g3 : Nat) (st : ByteArray) (w : World)
    (H1 : ∀ W, Calls Try.prog 43 #[.agg #[.int .u64 ah, .int .u64 al]] W fun e w' => e = .returned (.agg #[.int .u64 f0, .int .u64 f1, .int .u64 f2, .int .u64 f3]) ∧ Below W.heap.size W w')
    (H2 : ∀ W, Calls Try.prog 16 #[.agg #[.int .u64 f0, .int .u64 f1, .int .u64 f2, .int .u64 f3]] W fun e w' => e = .returned (.agg #[.int .u64 rh, .int .u64 rl]) ∧ Below W.heap.size W w')
    (H3 : ∀ W, Calls Try.prog 43 #[.agg #[.int .u64 rh, .int .u64 rl]] W fun e w' => e = .returned (.agg #[.int .u64 g0, .int .u64 g1, .int .u64 g2, .int .u64 g3]) ∧ Below W.heap.size W w')
    (H4 : ∀ W, Calls Try.prog 6 #[.agg #[.int .u64 g0, .int .u64 g1, .int .u64 g2, .int .u64 g3]] W fun e w' => e = .returned (.string st) ∧ Below W.heap.size W w') :
    Calls Try.prog 21 #[.agg #[.int .u64 ah, .int .u64 al]] w fun e w' => e = .returned (.string st) ∧ Below w.heap.size w w' := by
  replace H1 := hide H1; replace H2 := hide H2; replace H3 := hide H3; replace H4 := hide H4
  have B := (Below.refl w.heap.size w).alloc (Nat.le_refl _) (.cells #[.int .u64 ah, .int .u64 al] 38)
  go_enter Try.func21, Try.ntmps21
  go_wp2_with fail
  refine (H1.out _).mono ?_
  rintro e w1 ⟨rfl, h1⟩
  go_wp2_with fail
  refine (H2.out _).mono ?_
  rintro e w2 ⟨rfl, h2⟩
  go_wp2_with fail
  refine (H3.out _).mono ?_
  rintro e w3 ⟨rfl, h3⟩
  go_wp2_with fail
  refine (H4.out _).mono ?_
  rintro e w4 ⟨rfl, h4⟩
  go_wp2_with fail
  go_ret
  exact ⟨rfl, below_call (below_call (below_call (below_call B (Nat.le_refl _) h1) (Nat.le_refl _) h2) (Nat.le_refl _) h3) (Nat.le_refl _) h4⟩
theorem text89_u (X n : Nat) (hX : X < 340282366920938463463374607431768211456) (D : Digs (X % P89) n) (w : World) : Calls Try.prog 21 #[.agg #[.int .u64 (hi64 (X) : Nat), .int .u64 (lo64 (X) : Nat)]] w fun e w' => e = .returned (.string (bstr (dg (X % P89) n).reverse)) ∧ Below w.heap.size w w' :=
  text89_g _ _ _ _ _ _ _ _ _ _ _ _ _ w (fun W => wider_u X hX W) (fun W => fold_u X (lt_256 hX) W) (fun W => wider_u (X % P89) (mod_lt89 X) W) (fun W => text4_u (X % P89) n (lt_256 (mod_lt89 X)) D W)

set_option maxRecDepth 100000 in
set_option maxHeartbeats 16000000 in
theorem folds_g (c0 c1 c2 c3 ah al fh fl rh rl : Nat) (bi : Bool) (cv : Int) (st : ByteArray) (L2 L4 L6 L7 : List Int) (w : World) (hcv : decide (cv < 0) = bi)
    (H0 : ∀ W, Calls Try.prog 12 #[] W fun e w' => e = .returned (.bool true) ∧ Below W.heap.size W w')
    (H1 : ∀ W, Calls Try.prog 14 #[] W fun e w' => e = .returned (.agg #[.int .u64 33554431, .int .u64 18446744073709551615]) ∧ Below W.heap.size W w')
    (H2 : ∀ W, Calls Try.prog 15 #[] W fun e w' => e = .returned (.agg #[.int .u64 33554431, .int .u64 18446744073709551615]) ∧ Below W.heap.size W w')
    (H3 : ∀ W, Calls Try.prog 16 #[.agg #[.int .u64 c0, .int .u64 c1, .int .u64 c2, .int .u64 c3]] W fun e w' => e = .returned (.agg #[.int .u64 fh, .int .u64 fl]) ∧ Below W.heap.size W w')
    (H4 : ∀ W, Calls Try.prog 9 #[.agg #[.int .u64 c0, .int .u64 c1, .int .u64 c2, .int .u64 c3]] W fun e w' => ∃ A d, e = .returned (.slice A 256 d) ∧ Rs w' A (is L4) ∧ Below W.heap.size W w')
    (H5 : ∀ W A d, Rs W A (is L4) → Calls Try.prog 17 #[.slice A 256 d] W fun e w' => e = .returned (.agg #[.int .u64 fh, .int .u64 fl]) ∧ Below W.heap.size W w')
    (H6 : ∀ W, Calls Try.prog 13 #[.agg #[.int .u64 ah, .int .u64 al]] W fun e w' => ∃ A d, e = .returned (.slice A 128 d) ∧ Rs w' A (is L2) ∧ Below W.heap.size W w')
    (H7 : ∀ W, Calls Try.prog 18 #[.agg #[.int .u64 ah, .int .u64 al]] W fun e w' => e = .returned (.bool bi) ∧ Below W.heap.size W w')
    (H8 : ∀ W, Calls Try.prog 20 #[] W fun e w' => ∃ A d, e = .returned (.slice A 128 d) ∧ Rs w' A (is L6) ∧ Below W.heap.size W w')
    (H9 : ∀ W A d A' d', Rs W A (is L2) → Rs W A' (is L6) → Calls Try.prog 19 #[.slice A 128 d, .slice A' 128 d'] W fun e w' => e = .returned (.int .i64 cv) ∧ Below W.heap.size W w')
    (H10 : ∀ W, Calls Try.prog 21 #[.agg #[.int .u64 ah, .int .u64 al]] W fun e w' => e = .returned (.string st) ∧ Below W.heap.size W w')
    (H11 : ∀ W A d, Rs W A (is L2) → Calls Try.prog 17 #[.slice A 128 d] W fun e w' => e = .returned (.agg #[.int .u64 rh, .int .u64 rl]) ∧ Below W.heap.size W w')
    (H12 : ∀ W, Calls Try.prog 13 #[.agg #[.int .u64 rh, .int .u64 rl]] W fun e w' => ∃ A d, e = .returned (.slice A 128 d) ∧ Rs w' A (is L7) ∧ Below W.heap.size W w')
    (H13 : ∀ W A d, Rs W A (is L7) → Calls Try.prog 8 #[.slice A 128 d] W fun e w' => e = .returned (.string st) ∧ Below W.heap.size W w') :
    Calls Try.prog 4 #[.agg #[.int .u64 c0, .int .u64 c1, .int .u64 c2, .int .u64 c3], .agg #[.int .u64 ah, .int .u64 al]] w fun e w' => e = .returned (.bool true) ∧ Below w.heap.size w w' := by
  replace H0 := hide H0
  replace H1 := hide H1
  replace H2 := hide H2
  replace H3 := hide H3
  replace H4 := hide H4
  replace H5 := hide H5
  replace H6 := hide H6
  replace H7 := hide H7
  replace H8 := hide H8
  replace H9 := hide H9
  replace H10 := hide H10
  replace H11 := hide H11
  replace H12 := hide H12
  replace H13 := hide H13
  have X1 : Box4 ((w.alloc (.cells #[.int .u64 c0, .int .u64 c1, .int .u64 c2, .int .u64 c3] 24)).alloc (.cells #[.int .u64 ah, .int .u64 al] 38)) w.heap.size (.int .u64 c0) (.int .u64 c1) (.int .u64 c2) (.int .u64 c3) := by refine ⟨?_, ?_, ?_, ?_, ?_, ?_, ?_, ?_, ?_⟩ <;> simp [go_sem] <;> omega
  have A1 : Box2 ((w.alloc (.cells #[.int .u64 c0, .int .u64 c1, .int .u64 c2, .int .u64 c3] 24)).alloc (.cells #[.int .u64 ah, .int .u64 al] 38)) (w.heap.size + 1) (.int .u64 ah) (.int .u64 al) := (by (refine ⟨?_, ?_, ?_, ?_, ?_⟩ <;> simp [go_sem] <;> omega))
  have B : Below w.heap.size w ((w.alloc (.cells #[.int .u64 c0, .int .u64 c1, .int .u64 c2, .int .u64 c3] 24)).alloc (.cells #[.int .u64 ah, .int .u64 al] 38)) := by (repeat (first | exact Below.refl _ _ | assumption | (refine Below.alloc ?_ (by first | omega | (simp; done) | (simp; omega)) _) | (refine Below.setCell ?_ (by first | omega | (simp; done) | (simp; omega)) _) | refine Below.drew ?_ | refine below_drewN ?_ _))
  obtain ⟨W0, hW0⟩ : ∃ W0, W0 = (w.alloc (.cells #[.int .u64 c0, .int .u64 c1, .int .u64 c2, .int .u64 c3] 24)).alloc (.cells #[.int .u64 ah, .int .u64 al] 38) := ⟨_, rfl⟩
  rw [← hW0] at X1 A1 B
  go_enter Try.func4, Try.ntmps4
  go_wp2_with fail
  rw [← hW0]
  clear hW0
  refine (H0.out _).mono ?_
  rintro e w1 ⟨rfl, hb⟩
  replace X1 := Box4.call hb X1
  replace A1 := Box2.call hb A1
  replace B : Below w.heap.size w w1 := below_call B (Nat.le_refl _) hb
  clear hb
  go_wp2_with fail
  refine (H6.out _).mono ?_
  rintro e w2 ⟨A5, d5, rfl, r5, hb⟩
  replace X1 := Box4.call hb X1
  replace A1 := Box2.call hb A1
  replace B : Below w.heap.size w w2 := below_call B (Nat.le_refl _) hb
  clear hb
  go_wp2_with fail
  go_region_held3 (fun v => Box4 v w.heap.size (.int .u64 c0) (.int .u64 c1) (.int .u64 c2) (.int .u64 c3) ∧ Box2 v (w.heap.size + 1) (.int .u64 ah) (.int .u64 al)) (exact ⟨X1, A1⟩) (first | (go_at_call 14; (with_reducible refine (H1.out _).mono ?_); rintro e w2 ⟨rfl, hb⟩; replace X1 := Box4.call hb X1; replace A1 := Box2.call hb A1; replace B : Below w.heap.size w w2 := below_call (by (repeat (first | exact Below.refl _ _ | assumption | (refine Below.alloc ?_ (by first | omega | (simp; done) | (simp; omega)) _) | (refine Below.setCell ?_ (by first | omega | (simp; done) | (simp; omega)) _) | refine Below.drew ?_ | refine below_drewN ?_ _))) (Nat.le_refl _) hb; (try (replace r5 := Rs.go hb (by first | exact r5 | exact Rs.drew r5))); (try (replace r4 := Rs.go hb (by first | exact r4 | exact Rs.drew r4))); (try (replace r6 := Rs.go hb (by first | exact r6 | exact Rs.drew r6))); (try (replace r7 := Rs.go hb (by first | exact r7 | exact Rs.drew r7))); clear hb) | (go_at_call 15; (with_reducible refine (H2.out _).mono ?_); rintro e w2 ⟨rfl, hb⟩; replace X1 := Box4.call hb X1; replace A1 := Box2.call hb A1; replace B : Below w.heap.size w w2 := below_call (by (repeat (first | exact Below.refl _ _ | assumption | (refine Below.alloc ?_ (by first | omega | (simp; done) | (simp; omega)) _) | (refine Below.setCell ?_ (by first | omega | (simp; done) | (simp; omega)) _) | refine Below.drew ?_ | refine below_drewN ?_ _))) (Nat.le_refl _) hb; (try (replace r5 := Rs.go hb (by first | exact r5 | exact Rs.drew r5))); (try (replace r4 := Rs.go hb (by first | exact r4 | exact Rs.drew r4))); (try (replace r6 := Rs.go hb (by first | exact r6 | exact Rs.drew r6))); (try (replace r7 := Rs.go hb (by first | exact r7 | exact Rs.drew r7))); clear hb) | (go_at_call 16; (with_reducible refine (H3.out _).mono ?_); rintro e w2 ⟨rfl, hb⟩; replace X1 := Box4.call hb X1; replace A1 := Box2.call hb A1; replace B : Below w.heap.size w w2 := below_call (by (repeat (first | exact Below.refl _ _ | assumption | (refine Below.alloc ?_ (by first | omega | (simp; done) | (simp; omega)) _) | (refine Below.setCell ?_ (by first | omega | (simp; done) | (simp; omega)) _) | refine Below.drew ?_ | refine below_drewN ?_ _))) (Nat.le_refl _) hb; (try (replace r5 := Rs.go hb (by first | exact r5 | exact Rs.drew r5))); (try (replace r4 := Rs.go hb (by first | exact r4 | exact Rs.drew r4))); (try (replace r6 := Rs.go hb (by first | exact r6 | exact Rs.drew r6))); (try (replace r7 := Rs.go hb (by first | exact r7 | exact Rs.drew r7))); clear hb) | (go_at_call 9; (with_reducible refine (H4.out _).mono ?_); rintro e w2 ⟨A4, d4, rfl, r4, hb⟩; replace X1 := Box4.call hb X1; replace A1 := Box2.call hb A1; replace B : Below w.heap.size w w2 := below_call (by (repeat (first | exact Below.refl _ _ | assumption | (refine Below.alloc ?_ (by first | omega | (simp; done) | (simp; omega)) _) | (refine Below.setCell ?_ (by first | omega | (simp; done) | (simp; omega)) _) | refine Below.drew ?_ | refine below_drewN ?_ _))) (Nat.le_refl _) hb; (try (replace r5 := Rs.go hb (by first | exact r5 | exact Rs.drew r5))); (try (replace r4 := Rs.go hb (by first | exact r4 | exact Rs.drew r4))); (try (replace r6 := Rs.go hb (by first | exact r6 | exact Rs.drew r6))); (try (replace r7 := Rs.go hb (by first | exact r7 | exact Rs.drew r7))); clear hb) | (go_at_call 17; (with_reducible refine (H5.out _ _ _ (by first | exact r4 | exact Rs.drew r4)).mono ?_); rintro e w2 ⟨rfl, hb⟩; replace X1 := Box4.call hb X1; replace A1 := Box2.call hb A1; replace B : Below w.heap.size w w2 := below_call (by (repeat (first | exact Below.refl _ _ | assumption | (refine Below.alloc ?_ (by first | omega | (simp; done) | (simp; omega)) _) | (refine Below.setCell ?_ (by first | omega | (simp; done) | (simp; omega)) _) | refine Below.drew ?_ | refine below_drewN ?_ _))) (Nat.le_refl _) hb; (try (replace r5 := Rs.go hb (by first | exact r5 | exact Rs.drew r5))); (try (replace r4 := Rs.go hb (by first | exact r4 | exact Rs.drew r4))); (try (replace r6 := Rs.go hb (by first | exact r6 | exact Rs.drew r6))); (try (replace r7 := Rs.go hb (by first | exact r7 | exact Rs.drew r7))); clear hb) | (go_at_call 18; (with_reducible refine (H7.out _).mono ?_); rintro e w2 ⟨rfl, hb⟩; replace X1 := Box4.call hb X1; replace A1 := Box2.call hb A1; replace B : Below w.heap.size w w2 := below_call (by (repeat (first | exact Below.refl _ _ | assumption | (refine Below.alloc ?_ (by first | omega | (simp; done) | (simp; omega)) _) | (refine Below.setCell ?_ (by first | omega | (simp; done) | (simp; omega)) _) | refine Below.drew ?_ | refine below_drewN ?_ _))) (Nat.le_refl _) hb; (try (replace r5 := Rs.go hb (by first | exact r5 | exact Rs.drew r5))); (try (replace r4 := Rs.go hb (by first | exact r4 | exact Rs.drew r4))); (try (replace r6 := Rs.go hb (by first | exact r6 | exact Rs.drew r6))); (try (replace r7 := Rs.go hb (by first | exact r7 | exact Rs.drew r7))); clear hb) | (go_at_call 20; (with_reducible refine (H8.out _).mono ?_); rintro e w2 ⟨A6, d6, rfl, r6, hb⟩; replace X1 := Box4.call hb X1; replace A1 := Box2.call hb A1; replace B : Below w.heap.size w w2 := below_call (by (repeat (first | exact Below.refl _ _ | assumption | (refine Below.alloc ?_ (by first | omega | (simp; done) | (simp; omega)) _) | (refine Below.setCell ?_ (by first | omega | (simp; done) | (simp; omega)) _) | refine Below.drew ?_ | refine below_drewN ?_ _))) (Nat.le_refl _) hb; (try (replace r5 := Rs.go hb (by first | exact r5 | exact Rs.drew r5))); (try (replace r4 := Rs.go hb (by first | exact r4 | exact Rs.drew r4))); (try (replace r6 := Rs.go hb (by first | exact r6 | exact Rs.drew r6))); (try (replace r7 := Rs.go hb (by first | exact r7 | exact Rs.drew r7))); clear hb) | (go_at_call 21; (with_reducible refine (H10.out _).mono ?_); rintro e w2 ⟨rfl, hb⟩; replace X1 := Box4.call hb X1; replace A1 := Box2.call hb A1; replace B : Below w.heap.size w w2 := below_call (by (repeat (first | exact Below.refl _ _ | assumption | (refine Below.alloc ?_ (by first | omega | (simp; done) | (simp; omega)) _) | (refine Below.setCell ?_ (by first | omega | (simp; done) | (simp; omega)) _) | refine Below.drew ?_ | refine below_drewN ?_ _))) (Nat.le_refl _) hb; (try (replace r5 := Rs.go hb (by first | exact r5 | exact Rs.drew r5))); (try (replace r4 := Rs.go hb (by first | exact r4 | exact Rs.drew r4))); (try (replace r6 := Rs.go hb (by first | exact r6 | exact Rs.drew r6))); (try (replace r7 := Rs.go hb (by first | exact r7 | exact Rs.drew r7))); clear hb) | (go_at_call 17; (with_reducible refine (H11.out _ _ _ (by first | exact r5 | exact Rs.drew r5)).mono ?_); rintro e w2 ⟨rfl, hb⟩; replace X1 := Box4.call hb X1; replace A1 := Box2.call hb A1; replace B : Below w.heap.size w w2 := below_call (by (repeat (first | exact Below.refl _ _ | assumption | (refine Below.alloc ?_ (by first | omega | (simp; done) | (simp; omega)) _) | (refine Below.setCell ?_ (by first | omega | (simp; done) | (simp; omega)) _) | refine Below.drew ?_ | refine below_drewN ?_ _))) (Nat.le_refl _) hb; (try (replace r5 := Rs.go hb (by first | exact r5 | exact Rs.drew r5))); (try (replace r4 := Rs.go hb (by first | exact r4 | exact Rs.drew r4))); (try (replace r6 := Rs.go hb (by first | exact r6 | exact Rs.drew r6))); (try (replace r7 := Rs.go hb (by first | exact r7 | exact Rs.drew r7))); clear hb) | (go_at_call 13; (with_reducible refine (H12.out _).mono ?_); rintro e w2 ⟨A7, d7, rfl, r7, hb⟩; replace X1 := Box4.call hb X1; replace A1 := Box2.call hb A1; replace B : Below w.heap.size w w2 := below_call (by (repeat (first | exact Below.refl _ _ | assumption | (refine Below.alloc ?_ (by first | omega | (simp; done) | (simp; omega)) _) | (refine Below.setCell ?_ (by first | omega | (simp; done) | (simp; omega)) _) | refine Below.drew ?_ | refine below_drewN ?_ _))) (Nat.le_refl _) hb; (try (replace r5 := Rs.go hb (by first | exact r5 | exact Rs.drew r5))); (try (replace r4 := Rs.go hb (by first | exact r4 | exact Rs.drew r4))); (try (replace r6 := Rs.go hb (by first | exact r6 | exact Rs.drew r6))); (try (replace r7 := Rs.go hb (by first | exact r7 | exact Rs.drew r7))); clear hb) | (go_at_call 8; (with_reducible refine (H13.out _ _ _ (by first | exact r7 | exact Rs.drew r7)).mono ?_); rintro e w2 ⟨rfl, hb⟩; replace X1 := Box4.call hb X1; replace A1 := Box2.call hb A1; replace B : Below w.heap.size w w2 := below_call (by (repeat (first | exact Below.refl _ _ | assumption | (refine Below.alloc ?_ (by first | omega | (simp; done) | (simp; omega)) _) | (refine Below.setCell ?_ (by first | omega | (simp; done) | (simp; omega)) _) | refine Below.drew ?_ | refine below_drewN ?_ _))) (Nat.le_refl _) hb; (try (replace r5 := Rs.go hb (by first | exact r5 | exact Rs.drew r5))); (try (replace r4 := Rs.go hb (by first | exact r4 | exact Rs.drew r4))); (try (replace r6 := Rs.go hb (by first | exact r6 | exact Rs.drew r6))); (try (replace r7 := Rs.go hb (by first | exact r7 | exact Rs.drew r7))); clear hb) | (go_at_call 19; (with_reducible refine (H9.out _ _ _ _ _ (by first | exact r5 | exact Rs.drew r5) (by first | exact r6 | exact Rs.drew r6)).mono ?_); rintro e w2 ⟨rfl, hb⟩; replace X1 := Box4.call hb X1; replace A1 := Box2.call hb A1; replace B : Below w.heap.size w w2 := below_call (by (repeat (first | exact Below.refl _ _ | assumption | (refine Below.alloc ?_ (by first | omega | (simp; done) | (simp; omega)) _) | (refine Below.setCell ?_ (by first | omega | (simp; done) | (simp; omega)) _) | refine Below.drew ?_ | refine below_drewN ?_ _))) (Nat.le_refl _) hb; (try (replace r5 := Rs.go hb (by first | exact r5 | exact Rs.drew r5))); (try (replace r4 := Rs.go hb (by first | exact r4 | exact Rs.drew r4))); (try (replace r6 := Rs.go hb (by first | exact r6 | exact Rs.drew r6))); (try (replace r7 := Rs.go hb (by first | exact r7 | exact Rs.drew r7))); clear hb))
  all_goals
    go_wp2_with fail
    go_ret
    exact ⟨ret_b (by simp), B⟩
theorem folds_u (X Y : Nat) (hX : X < 2 ^ 256) (hY : Y < 340282366920938463463374607431768211456) (w : World) : Calls Try.prog 4 #[.agg #[.int .u64 (wd (X) 0 : Nat), .int .u64 (wd (X) 1 : Nat), .int .u64 (wd (X) 2 : Nat), .int .u64 (wd (X) 3 : Nat)], .agg #[.int .u64 (hi64 (Y) : Nat), .int .u64 (lo64 (Y) : Nat)]] w fun e w' => e = .returned (.bool true) ∧ Below w.heap.size w w' := by
  obtain ⟨n, D⟩ := digs_ex (Y % P89) (lt_256 (mod_lt89 Y))
  have hY2 : Y < 2 ^ 128 := by rw [two128]; exact hY
  have hR2 : Y % P89 < 2 ^ 128 := by rw [two128]; exact mod_lt89 Y
  have hP2 : P89 < 2 ^ 128 := by rw [two128]; exact P89_lt
  have h7 := is_u Y
  rw [m128_id hY] at h7
  have hc : decide (cmpV Y P89 < 0) = decide (Y < P89) := by
    unfold cmpV
    by_cases h : Y < P89
    · rw [if_pos h, decide_eq_true h]; rfl
    · rw [if_neg h, decide_eq_false h]; split <;> rfl
  exact folds_g _ _ _ _ _ _ _ _ _ _ _ (cmpV Y P89) _ (bitsOf Y 128) (bitsOf X 256) (bitsOf P89 128) (bitsOf (Y % P89) 128) w hc awake05 mp_any num05 (fold_u X hX) (of4_ref X) (fun W A d r => mod05_u A d X 256 hX (by omega) (by omega) W r) (of2_u Y) h7 p05
    (fun W A d A' d' r r' => (cmp_ref A A' 128 d 128 d' _ _ Y P89 W r r' hY2 hP2 (by omega) (by omega)).mono (by rintro e w' ⟨rfl, rfl⟩; exact ⟨rfl, Below.refl _ _⟩))
    (fun W => text89_u Y n hY D W) (fun W A d r => mod05_u A d Y 128 hY2 (by omega) (by omega) W r) (of2_u (Y % P89)) (fun W A d r => text_ref A d 128 (Y % P89) n W r hR2 (by omega) (by omega) D)
def vl4 (a0 a1 a2 a3 : Nat) : Nat := a0 + 18446744073709551616 * (a1 + 18446744073709551616 * (a2 + 18446744073709551616 * a3))
theorem vl4_lt {a0 a1 a2 a3 : Nat} (h0 : a0 < 18446744073709551616) (h1 : a1 < 18446744073709551616) (h2 : a2 < 18446744073709551616) (h3 : a3 < 18446744073709551616) : vl4 a0 a1 a2 a3 < 2 ^ 256 := by
  show vl4 a0 a1 a2 a3 < 115792089237316195423570985008687907853269984665640564039457584007913129639936
  unfold vl4
  omega
theorem vl4_wd {a0 a1 a2 a3 : Nat} (h0 : a0 < 18446744073709551616) (h1 : a1 < 18446744073709551616) (h2 : a2 < 18446744073709551616) (h3 : a3 < 18446744073709551616) : wd (vl4 a0 a1 a2 a3) 0 = a0 ∧ wd (vl4 a0 a1 a2 a3) 1 = a1 ∧ wd (vl4 a0 a1 a2 a3) 2 = a2 ∧ wd (vl4 a0 a1 a2 a3) 3 = a3 := by
  rw [wd0, wd1, wd2, wd3]
  unfold vl4
  omega
theorem folds_law (c0 c1 c2 c3 ah al : Nat) (w : World) (h0 : c0 < 18446744073709551616) (h1 : c1 < 18446744073709551616) (h2 : c2 < 18446744073709551616) (h3 : c3 < 18446744073709551616) (h4 : ah < 18446744073709551616) (h5 : al < 18446744073709551616) :
    Calls Try.prog 4 #[.agg #[.int .u64 c0, .int .u64 c1, .int .u64 c2, .int .u64 c3], .agg #[.int .u64 ah, .int .u64 al]] w fun e w' => e = .returned (.bool true) ∧ Below w.heap.size w w' := by
  have h := folds_u (vl4 c0 c1 c2 c3) (val2 ah al) (vl4_lt h0 h1 h2 h3) (val2_lt h4 h5) w
  obtain ⟨x0, x1, x2, x3⟩ := vl4_wd h0 h1 h2 h3
  rw [x0, x1, x2, x3, hi64_val h4 h5, lo64_val h5] at h
  exact h
end Go.Proofs.Ytpfpdlgfngkdjaa
