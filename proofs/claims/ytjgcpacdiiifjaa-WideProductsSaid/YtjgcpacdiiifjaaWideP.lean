/-
  Walk of the law WideProducts. Conditions: words fit 64 bits.
-/
import Derived.Test.YtjgcpacdiiifjaaFullU
import Derived.Test.YtjgcpacdiiifjaaOdd
import Derived.Test.YtjgcpacdiiifjaaEq4
namespace Go.Proofs.Ytjgcpacdiiifjaa
open Go.RowKit Go.Shelf
set_option linter.unusedVariables false
attribute [local go_sem] eq4

set_option maxRecDepth 100000 in
set_option maxHeartbeats 4000000 in
theorem prod_g (xh xl yh yl f0 f1 f2 f3 t0 t1 s0 s1 : Nat) (L1 L2 L3 L4 L5 L6 : List Value) (w : World)
    (h1 : ∀ W, Calls Try.prog 16 #[.agg #[.int .u64 xh, .int .u64 xl]] W fun e w' => ∃ A c, e = .returned (.slice A 128 c) ∧ Rs w' A L1 ∧ Below W.heap.size W w')
    (h2 : ∀ W, Calls Try.prog 16 #[.agg #[.int .u64 yh, .int .u64 yl]] W fun e w' => ∃ A c, e = .returned (.slice A 128 c) ∧ Rs w' A L2 ∧ Below W.heap.size W w')
    (h3 : ∀ W A c A' c', Rs W A L1 → Rs W A' L2 → Calls Try.prog 27 #[.slice A 128 c, .slice A' 128 c', .int .i64 256] W fun e w' => ∃ A c, e = .returned (.slice A 256 c) ∧ Rs w' A L3 ∧ Below W.heap.size W w')
    (h4 : ∀ W, Calls Try.prog 28 #[.int .u64 xl, .int .i64 64] W fun e w' => ∃ A c, e = .returned (.slice A 64 c) ∧ Rs w' A L4 ∧ Below W.heap.size W w')
    (h5 : ∀ W, Calls Try.prog 28 #[.int .u64 yl, .int .i64 64] W fun e w' => ∃ A c, e = .returned (.slice A 64 c) ∧ Rs w' A L5 ∧ Below W.heap.size W w')
    (h6 : ∀ W A c A' c', Rs W A L4 → Rs W A' L5 → Calls Try.prog 27 #[.slice A 64 c, .slice A' 64 c', .int .i64 128] W fun e w' => ∃ A c, e = .returned (.slice A 128 c) ∧ Rs w' A L6 ∧ Below W.heap.size W w')
    (h7 : ∀ W, Calls Try.prog 29 #[.agg #[.int .u64 xh, .int .u64 xl], .agg #[.int .u64 yh, .int .u64 yl]] W fun e w' => e = .returned (.agg #[.int .u64 f0, .int .u64 f1, .int .u64 f2, .int .u64 f3]) ∧ Below W.heap.size W w')
    (h8 : ∀ W A c, Rs W A L3 → Calls Try.prog 30 #[.slice A 256 c] W fun e w' => e = .returned (.agg #[.int .u64 f0, .int .u64 f1, .int .u64 f2, .int .u64 f3]) ∧ Below W.heap.size W w')
    (h9 : ∀ W, Calls Try.prog 31 #[.agg #[.int .u64 xh, .int .u64 xl], .agg #[.int .u64 yh, .int .u64 yl]] W fun e w' => e = .returned (.agg #[.int .u64 t0, .int .u64 t1]) ∧ Below W.heap.size W w')
    (h10 : ∀ W A c, Rs W A L3 → Calls Try.prog 21 #[.slice A 256 c] W fun e w' => e = .returned (.agg #[.int .u64 t0, .int .u64 t1]) ∧ Below W.heap.size W w')
    (h11 : ∀ W, Calls Try.prog 32 #[.int .u64 xl, .int .u64 yl] W fun e w' => e = .returned (.agg #[.int .u64 s0, .int .u64 s1]) ∧ Below W.heap.size W w')
    (h12 : ∀ W A c, Rs W A L6 → Calls Try.prog 21 #[.slice A 128 c] W fun e w' => e = .returned (.agg #[.int .u64 s0, .int .u64 s1]) ∧ Below W.heap.size W w')
    : Calls Try.prog 6 #[.agg #[.int .u64 xh, .int .u64 xl], .agg #[.int .u64 yh, .int .u64 yl]] w fun e w' => e = .returned (.bool true) ∧ Below w.heap.size w w' := by
  have H1 := hide h1
  have H2 := hide h2
  have H3 := hide h3
  have H4 := hide h4
  have H5 := hide h5
  have H6 := hide h6
  have H7 := hide h7
  have H8 := hide h8
  have H9 := hide h9
  have H10 := hide h10
  have H11 := hide h11
  have H12 := hide h12
  clear h1 h2 h3 h4 h5 h6 h7 h8 h9 h10 h11 h12
  go_enter Try.func6, Try.ntmps6
  go_wp2_with fail
  refine (awake_wide _).mono ?_
  rintro e w1 ⟨rfl, hb⟩
  have X1 := Box2.call hb (show Box2 _ w.heap.size (.int .u64 xh) (.int .u64 xl) from (by (refine ⟨?_, ?_, ?_, ?_, ?_⟩ <;> simp [go_sem] <;> omega)))
  have Y1 := Box2.call hb (show Box2 _ (w.heap.size + 1) (.int .u64 yh) (.int .u64 yl) from (by (refine ⟨?_, ?_, ?_, ?_, ?_⟩ <;> simp [go_sem] <;> omega)))
  have B : Below w.heap.size w w1 := below_call (by (repeat (first | exact Below.refl _ _ | assumption | (refine Below.alloc ?_ (by first | omega | (simp; done) | (simp; omega)) _) | (refine Below.setCell ?_ (by first | omega | (simp; done) | (simp; omega)) _) | refine Below.drew ?_ | refine below_drewN ?_ _))) (Nat.le_refl _) hb
  clear hb
  go_wp2_with fail
  go_region_held3 (fun v => Box2 v w.heap.size (.int .u64 xh) (.int .u64 xl) ∧ Box2 v (w.heap.size + 1) (.int .u64 yh) (.int .u64 yl)) (exact ⟨X1, Y1⟩) (first | (go_at_call 16; (with_reducible refine (H1.out _).mono ?_); rintro e w2 ⟨A1, c1, rfl, r1, hb⟩; replace X1 := Box2.call hb X1; replace Y1 := Box2.call hb Y1; replace B : Below w.heap.size w w2 := below_call (by (repeat (first | exact Below.refl _ _ | assumption | (refine Below.alloc ?_ (by first | omega | (simp; done) | (simp; omega)) _) | (refine Below.setCell ?_ (by first | omega | (simp; done) | (simp; omega)) _) | refine Below.drew ?_ | refine below_drewN ?_ _))) (Nat.le_refl _) hb; clear hb) | (go_at_call 16; (with_reducible refine (H2.out _).mono ?_); rintro e w3 ⟨A2, c2, rfl, r2, hb⟩; replace X1 := Box2.call hb X1; replace Y1 := Box2.call hb Y1; replace r1 := Rs.go hb r1; replace B : Below w.heap.size w w3 := below_call (by (repeat (first | exact Below.refl _ _ | assumption | (refine Below.alloc ?_ (by first | omega | (simp; done) | (simp; omega)) _) | (refine Below.setCell ?_ (by first | omega | (simp; done) | (simp; omega)) _) | refine Below.drew ?_ | refine below_drewN ?_ _))) (Nat.le_refl _) hb; clear hb))
  go_wp2_with fail
  refine (H3.out _ _ _ _ _ r1 r2).mono ?_
  rintro e w4 ⟨A3, c3, rfl, r3, hb⟩
  replace X1 := Box2.call hb (by first | exact X1 | exact Box2.alloc _ X1 | exact Box2.alloc _ (Box2.alloc _ X1))
  replace Y1 := Box2.call hb (by first | exact Y1 | exact Box2.alloc _ Y1 | exact Box2.alloc _ (Box2.alloc _ Y1))
  replace B : Below w.heap.size w w4 := below_call (by (repeat (first | exact Below.refl _ _ | assumption | (refine Below.alloc ?_ (by first | omega | (simp; done) | (simp; omega)) _) | (refine Below.setCell ?_ (by first | omega | (simp; done) | (simp; omega)) _) | refine Below.drew ?_ | refine below_drewN ?_ _))) (Nat.le_refl _) hb
  clear hb
  clear r1 r2
  go_wp2_with fail
  go_region_held3 (fun v => Box2 v w.heap.size (.int .u64 xh) (.int .u64 xl) ∧ Box2 v (w.heap.size + 1) (.int .u64 yh) (.int .u64 yl)) (exact ⟨X1, Y1⟩) (first | (go_at_call 28; (with_reducible refine (H4.out _).mono ?_); rintro e w5 ⟨A4, c4, rfl, r4, hb⟩; replace X1 := Box2.call hb X1; replace Y1 := Box2.call hb Y1; replace r3 := Rs.go hb r3; replace B : Below w.heap.size w w5 := below_call (by (repeat (first | exact Below.refl _ _ | assumption | (refine Below.alloc ?_ (by first | omega | (simp; done) | (simp; omega)) _) | (refine Below.setCell ?_ (by first | omega | (simp; done) | (simp; omega)) _) | refine Below.drew ?_ | refine below_drewN ?_ _))) (Nat.le_refl _) hb; clear hb) | (go_at_call 28; (with_reducible refine (H5.out _).mono ?_); rintro e w6 ⟨A5, c5, rfl, r5, hb⟩; replace X1 := Box2.call hb X1; replace Y1 := Box2.call hb Y1; replace r3 := Rs.go hb r3; replace r4 := Rs.go hb r4; replace B : Below w.heap.size w w6 := below_call (by (repeat (first | exact Below.refl _ _ | assumption | (refine Below.alloc ?_ (by first | omega | (simp; done) | (simp; omega)) _) | (refine Below.setCell ?_ (by first | omega | (simp; done) | (simp; omega)) _) | refine Below.drew ?_ | refine below_drewN ?_ _))) (Nat.le_refl _) hb; clear hb) | (go_at_call 27; (with_reducible refine (H6.out _ _ _ _ _ r4 r5).mono ?_); rintro e w7 ⟨A6, c6, rfl, r6, hb⟩; replace X1 := Box2.call hb X1; replace Y1 := Box2.call hb Y1; replace r3 := Rs.go hb r3; replace B : Below w.heap.size w w7 := below_call (by (repeat (first | exact Below.refl _ _ | assumption | (refine Below.alloc ?_ (by first | omega | (simp; done) | (simp; omega)) _) | (refine Below.setCell ?_ (by first | omega | (simp; done) | (simp; omega)) _) | refine Below.drew ?_ | refine below_drewN ?_ _))) (Nat.le_refl _) hb; clear hb))
  clear r4 r5
  go_wp2_with fail
  refine (H7.out _).mono ?_
  rintro e w8 ⟨rfl, hb⟩
  replace X1 := Box2.call hb (by first | exact X1 | exact Box2.alloc _ X1 | exact Box2.alloc _ (Box2.alloc _ X1))
  replace Y1 := Box2.call hb (by first | exact Y1 | exact Box2.alloc _ Y1 | exact Box2.alloc _ (Box2.alloc _ Y1))
  replace r3 := Rs.go hb (by first | exact r3 | exact Rs.alloc r3 _ | exact Rs.alloc (Rs.alloc r3 _) _)
  replace r6 := Rs.go hb (by first | exact r6 | exact Rs.alloc r6 _ | exact Rs.alloc (Rs.alloc r6 _) _)
  replace B : Below w.heap.size w w8 := below_call (by (repeat (first | exact Below.refl _ _ | assumption | (refine Below.alloc ?_ (by first | omega | (simp; done) | (simp; omega)) _) | (refine Below.setCell ?_ (by first | omega | (simp; done) | (simp; omega)) _) | refine Below.drew ?_ | refine below_drewN ?_ _))) (Nat.le_refl _) hb
  clear hb
  go_wp2_with fail
  refine (H8.out _ _ _ r3).mono ?_
  rintro e w9 ⟨rfl, hb⟩
  replace X1 := Box2.call hb (by first | exact X1 | exact Box2.alloc _ X1 | exact Box2.alloc _ (Box2.alloc _ X1))
  replace Y1 := Box2.call hb (by first | exact Y1 | exact Box2.alloc _ Y1 | exact Box2.alloc _ (Box2.alloc _ Y1))
  replace r3 := Rs.go hb (by first | exact r3 | exact Rs.alloc r3 _ | exact Rs.alloc (Rs.alloc r3 _) _)
  replace r6 := Rs.go hb (by first | exact r6 | exact Rs.alloc r6 _ | exact Rs.alloc (Rs.alloc r6 _) _)
  replace B : Below w.heap.size w w9 := below_call (by (repeat (first | exact Below.refl _ _ | assumption | (refine Below.alloc ?_ (by first | omega | (simp; done) | (simp; omega)) _) | (refine Below.setCell ?_ (by first | omega | (simp; done) | (simp; omega)) _) | refine Below.drew ?_ | refine below_drewN ?_ _))) (Nat.le_refl _) hb
  clear hb
  go_wp2_with fail
  refine (H9.out _).mono ?_
  rintro e w10 ⟨rfl, hb⟩
  replace X1 := Box2.call hb (by first | exact X1 | exact Box2.alloc _ X1 | exact Box2.alloc _ (Box2.alloc _ X1))
  replace Y1 := Box2.call hb (by first | exact Y1 | exact Box2.alloc _ Y1 | exact Box2.alloc _ (Box2.alloc _ Y1))
  replace r3 := Rs.go hb (by first | exact r3 | exact Rs.alloc r3 _ | exact Rs.alloc (Rs.alloc r3 _) _)
  replace r6 := Rs.go hb (by first | exact r6 | exact Rs.alloc r6 _ | exact Rs.alloc (Rs.alloc r6 _) _)
  replace B : Below w.heap.size w w10 := below_call (by (repeat (first | exact Below.refl _ _ | assumption | (refine Below.alloc ?_ (by first | omega | (simp; done) | (simp; omega)) _) | (refine Below.setCell ?_ (by first | omega | (simp; done) | (simp; omega)) _) | refine Below.drew ?_ | refine below_drewN ?_ _))) (Nat.le_refl _) hb
  clear hb
  go_wp2_with fail
  refine (H10.out _ _ _ r3).mono ?_
  rintro e w11 ⟨rfl, hb⟩
  replace X1 := Box2.call hb (by first | exact X1 | exact Box2.alloc _ X1 | exact Box2.alloc _ (Box2.alloc _ X1))
  replace Y1 := Box2.call hb (by first | exact Y1 | exact Box2.alloc _ Y1 | exact Box2.alloc _ (Box2.alloc _ Y1))
  replace r3 := Rs.go hb (by first | exact r3 | exact Rs.alloc r3 _ | exact Rs.alloc (Rs.alloc r3 _) _)
  replace r6 := Rs.go hb (by first | exact r6 | exact Rs.alloc r6 _ | exact Rs.alloc (Rs.alloc r6 _) _)
  replace B : Below w.heap.size w w11 := below_call (by (repeat (first | exact Below.refl _ _ | assumption | (refine Below.alloc ?_ (by first | omega | (simp; done) | (simp; omega)) _) | (refine Below.setCell ?_ (by first | omega | (simp; done) | (simp; omega)) _) | refine Below.drew ?_ | refine below_drewN ?_ _))) (Nat.le_refl _) hb
  clear hb
  go_wp2_with fail
  refine (H11.out _).mono ?_
  rintro e w12 ⟨rfl, hb⟩
  replace X1 := Box2.call hb (by first | exact X1 | exact Box2.alloc _ X1 | exact Box2.alloc _ (Box2.alloc _ X1))
  replace Y1 := Box2.call hb (by first | exact Y1 | exact Box2.alloc _ Y1 | exact Box2.alloc _ (Box2.alloc _ Y1))
  replace r3 := Rs.go hb (by first | exact r3 | exact Rs.alloc r3 _ | exact Rs.alloc (Rs.alloc r3 _) _)
  replace r6 := Rs.go hb (by first | exact r6 | exact Rs.alloc r6 _ | exact Rs.alloc (Rs.alloc r6 _) _)
  replace B : Below w.heap.size w w12 := below_call (by (repeat (first | exact Below.refl _ _ | assumption | (refine Below.alloc ?_ (by first | omega | (simp; done) | (simp; omega)) _) | (refine Below.setCell ?_ (by first | omega | (simp; done) | (simp; omega)) _) | refine Below.drew ?_ | refine below_drewN ?_ _))) (Nat.le_refl _) hb
  clear hb
  go_wp2_with fail
  refine (H12.out _ _ _ r6).mono ?_
  rintro e w13 ⟨rfl, hb⟩
  replace X1 := Box2.call hb (by first | exact X1 | exact Box2.alloc _ X1 | exact Box2.alloc _ (Box2.alloc _ X1))
  replace Y1 := Box2.call hb (by first | exact Y1 | exact Box2.alloc _ Y1 | exact Box2.alloc _ (Box2.alloc _ Y1))
  replace B : Below w.heap.size w w13 := below_call (by (repeat (first | exact Below.refl _ _ | assumption | (refine Below.alloc ?_ (by first | omega | (simp; done) | (simp; omega)) _) | (refine Below.setCell ?_ (by first | omega | (simp; done) | (simp; omega)) _) | refine Below.drew ?_ | refine below_drewN ?_ _))) (Nat.le_refl _) hb
  clear hb
  go_wp2_with fail
  go_ret
  exact ⟨rfl, B⟩
theorem prod_u (X Y : Nat) (hX : X < 340282366920938463463374607431768211456) (hY : Y < 340282366920938463463374607431768211456) (w : World) : Calls Try.prog 6 #[.agg #[.int .u64 (hi64 (X) : Nat), .int .u64 (lo64 (X) : Nat)], .agg #[.int .u64 (hi64 (Y) : Nat), .int .u64 (lo64 (Y) : Nat)]] w fun e w' => e = .returned (.bool true) ∧ Below w.heap.size w w' := by
  have hX2 : X < 2 ^ 128 := by rw [two128]; exact hX
  have hY2 : Y < 2 ^ 128 := by rw [two128]; exact hY
  have h256 : X * Y < 2 ^ 256 := by rw [show (256 : Nat) = 128 + 128 from rfl, Nat.pow_add]; exact Nat.mul_lt_mul_of_lt_of_lt hX2 hY2
  have hxl : lo64 X < 2 ^ 64 := lo64_lt X
  have hyl : lo64 Y < 2 ^ 64 := lo64_lt Y
  have h128 : lo64 X * lo64 Y < 2 ^ 128 := by rw [show (128 : Nat) = 64 + 64 from rfl, Nat.pow_add]; exact Nat.mul_lt_mul_of_lt_of_lt hxl hyl
  have h7 := full_u X Y
  rw [m128_id hX, m128_id hY] at h7
  exact prod_g _ _ _ _ _ _ _ _ _ _ _ _ _ _ _ _ _ _ w (of2_u X) (of2_u Y)
    (fun W A c A' c' r r' => mul_r A A' 128 c 128 c' X Y 256 256 rfl W r r' hX2 hY2 (by omega) (by omega) (by omega))
    (fun W => of_u (lo64 X) 64 64 rfl (by omega) W (lo64_lt X)) (fun W => of_u (lo64 Y) 64 64 rfl (by omega) W (lo64_lt Y))
    (fun W A c A' c' r r' => mul_r A A' 64 c 64 c' (lo64 X) (lo64 Y) 128 128 rfl W r r' hxl hyl (by omega) (by omega) (by omega))
    h7 (fun W A c r => to4_u A c (X * Y) W r h256) (wtimes_u X Y) (fun W A c r => to2_any A 256 c _ (X * Y) W r h256 (by omega) (Nat.le_refl _))
    (fun W => wmul_any _ _ W (lo64_lt X) (lo64_lt Y)) (fun W A c r => to2_any A 128 c _ (lo64 X * lo64 Y) W r h128 (by omega) (Nat.le_refl _))
theorem prod_law (ah al bh bl : Nat) (w : World) (h1 : ah < 18446744073709551616) (h2 : al < 18446744073709551616) (h3 : bh < 18446744073709551616) (h4 : bl < 18446744073709551616) :
    Calls Try.prog 6 #[.agg #[.int .u64 ah, .int .u64 al], .agg #[.int .u64 bh, .int .u64 bl]] w fun e w' => e = .returned (.bool true) ∧ Below w.heap.size w w' := by
  have h := prod_u (val2 ah al) (val2 bh bl) (val2_lt h1 h2) (val2_lt h3 h4) w
  rw [hi64_val h1 h2, lo64_val h2, hi64_val h3 h4, lo64_val h4] at h
  exact h
end Go.Proofs.Ytjgcpacdiiifjaa
