/-
  Walk of the law Mers89Powers. Conditions: as each says.
-/
import Derived.Test.YtioieoinkjfcfaaM89D
namespace Go.Proofs.Ytioieoinkjfcfaa
open Go.RowKit Go.Shelf
set_option linter.unusedVariables false

set_option maxRecDepth 100000 in
set_option maxHeartbeats 4000000 in
theorem pows05_g (ah al bh bl ch n sh sl rh rl mh ml dh dl : Nat) (cy : Int) (hc : (bh : Int) / 2 = (ch : Int)) (L1 L2 L3 : List Value) (w : World)
    (H1 : ∀ W, Calls Try.prog 29 #[.agg #[.int .u64 ch, .int .u64 bl]] W fun e w' => ∃ A c, e = .returned (.slice A 128 c) ∧ Rs w' A L1 ∧ Below W.heap.size W w')
    (H2 : ∀ W, Calls Try.prog 30 #[.int .u64 n, .int .i64 64] W fun e w' => ∃ A c, e = .returned (.slice A 64 c) ∧ Rs w' A L2 ∧ Below W.heap.size W w')
    (H3 : ∀ W A c A' c', Rs W A L1 → Rs W A' L2 → Calls Try.prog 16 #[.slice A 128 c, .slice A' 64 c', .int .i64 128] W fun e w' => ∃ A c, e = .returned (.tuple #[.slice A 128 c, .int .i64 cy]) ∧ Rs w' A L3 ∧ Below W.heap.size W w')
    (H4 : ∀ W A c, Rs W A L3 → Calls Try.prog 32 #[.slice A 128 c] W fun e w' => e = .returned (.agg #[.int .u64 sh, .int .u64 sl]) ∧ Below W.heap.size W w')
    (H5 : ∀ W, Calls Try.prog 31 #[.agg #[.int .u64 ah, .int .u64 al], .agg #[.int .u64 sh, .int .u64 sl]] W fun e w' => e = .returned (.agg #[.int .u64 rh, .int .u64 rl]) ∧ Below W.heap.size W w')
    (H6 : ∀ W, Calls Try.prog 31 #[.agg #[.int .u64 ah, .int .u64 al], .agg #[.int .u64 ch, .int .u64 bl]] W fun e w' => e = .returned (.agg #[.int .u64 mh, .int .u64 ml]) ∧ Below W.heap.size W w')
    (H7 : ∀ W, Calls Try.prog 31 #[.agg #[.int .u64 ah, .int .u64 al], .agg #[.int .u64 0, .int .u64 n]] W fun e w' => e = .returned (.agg #[.int .u64 dh, .int .u64 dl]) ∧ Below W.heap.size W w')
    (H8 : ∀ W, Calls Try.prog 33 #[.agg #[.int .u64 mh, .int .u64 ml], .agg #[.int .u64 dh, .int .u64 dl]] W fun e w' => e = .returned (.agg #[.int .u64 rh, .int .u64 rl]) ∧ Below W.heap.size W w')
    : Calls Try.prog 4 #[.agg #[.int .u64 ah, .int .u64 al], .agg #[.int .u64 bh, .int .u64 bl], .int .u64 n] w fun e w' => e = .returned (.bool true) ∧ Below w.heap.size w w' := by
  replace H1 := hide H1
  replace H2 := hide H2
  replace H3 := hide H3
  replace H4 := hide H4
  replace H5 := hide H5
  replace H6 := hide H6
  replace H7 := hide H7
  replace H8 := hide H8
  go_enter Try.func4, Try.ntmps4
  go_wp2_with fail
  refine (awake05 _).mono ?_
  rintro e w1 ⟨rfl, hb⟩
  have A1 := Box2.call hb (show Box2 _ w.heap.size (.int .u64 ah) (.int .u64 al) from (by (refine ⟨?_, ?_, ?_, ?_, ?_⟩ <;> simp [go_sem] <;> omega)))
  have B1 := Box2.call hb (show Box2 _ (w.heap.size + 1) (.int .u64 bh) (.int .u64 bl) from (by (refine ⟨?_, ?_, ?_, ?_, ?_⟩ <;> simp [go_sem] <;> omega)))
  have B : Below w.heap.size w w1 := below_call (by (repeat (first | exact Below.refl _ _ | assumption | (refine Below.alloc ?_ (by first | omega | (simp; done) | (simp; omega)) _) | (refine Below.setCell ?_ (by first | omega | (simp; done) | (simp; omega)) _) | refine Below.drew ?_ | refine below_drewN ?_ _))) (Nat.le_refl _) hb
  clear hb
  have k1 : ¬ w.heap.size + 1 = w.heap.size := by omega
  have k2 : w.heap.size ≤ w.heap.size + 1 := by omega
  have A2 := Box2.far (k := 0) (v := .int .u64 ch) A1 k1
  have B2 : Box2 (w1.setCell ⟨w.heap.size + 1, 0, none⟩ (.int .u64 ch)) (w.heap.size + 1) (.int .u64 ch) (.int .u64 bl) := by (obtain ⟨b0, b1, b2, b3, b4⟩ := B1; refine ⟨?_, ?_, ?_, ?_, ?_⟩ <;> simp [go_sem, *])
  have BB : Below w.heap.size w (w1.setCell ⟨w.heap.size + 1, 0, none⟩ (.int .u64 ch)) := by (repeat (first | exact Below.refl _ _ | assumption | (refine Below.alloc ?_ (by first | omega | (simp; done) | (simp; omega)) _) | (refine Below.setCell ?_ (by first | omega | (simp; done) | (simp; omega)) _) | refine Below.drew ?_ | refine below_drewN ?_ _))
  go_wp2_with fail
  clear A1 B1 B
  refine (H1.out _).mono ?_
  rintro e w2 ⟨A3, c3, rfl, r3, hb⟩
  replace A2 := Box2.call hb A2
  replace B2 := Box2.call hb B2
  replace BB : Below w.heap.size w w2 := below_call BB (Nat.le_refl _) hb
  clear hb
  go_wp2_with fail
  refine (H2.out _).mono ?_
  rintro e w3 ⟨A4, c4, rfl, r4, hb⟩
  replace A2 := Box2.call hb (by first | exact A2 | exact Box2.alloc _ A2 | exact Box2.alloc _ (Box2.alloc _ A2))
  replace B2 := Box2.call hb (by first | exact B2 | exact Box2.alloc _ B2 | exact Box2.alloc _ (Box2.alloc _ B2))
  replace r3 := Rs.go hb (by first | exact r3 | exact Rs.alloc r3 _ | exact Rs.alloc (Rs.alloc r3 _) _)
  replace BB : Below w.heap.size w w3 := below_call (by (repeat (first | exact Below.refl _ _ | assumption | (refine Below.alloc ?_ (by first | omega | (simp; done) | (simp; omega)) _) | (refine Below.setCell ?_ (by first | omega | (simp; done) | (simp; omega)) _) | refine Below.drew ?_ | refine below_drewN ?_ _))) (Nat.le_refl _) hb
  clear hb
  go_wp2_with fail
  refine (H3.out _ _ _ _ _ r3 r4).mono ?_
  rintro e w4 ⟨A5, c5, rfl, r5, hb⟩
  replace A2 := Box2.call hb (by first | exact A2 | exact Box2.alloc _ A2 | exact Box2.alloc _ (Box2.alloc _ A2))
  replace B2 := Box2.call hb (by first | exact B2 | exact Box2.alloc _ B2 | exact Box2.alloc _ (Box2.alloc _ B2))
  replace BB : Below w.heap.size w w4 := below_call (by (repeat (first | exact Below.refl _ _ | assumption | (refine Below.alloc ?_ (by first | omega | (simp; done) | (simp; omega)) _) | (refine Below.setCell ?_ (by first | omega | (simp; done) | (simp; omega)) _) | refine Below.drew ?_ | refine below_drewN ?_ _))) (Nat.le_refl _) hb
  clear hb
  clear r3 r4
  go_wp2_with fail
  go_region_held3 (fun v => Box2 v w.heap.size (.int .u64 ah) (.int .u64 al) ∧ Box2 v (w.heap.size + 1) (.int .u64 ch) (.int .u64 bl)) (exact ⟨A2, B2⟩) (first | (go_at_call 32; (with_reducible refine (H4.out _ _ _ (by first | exact r5 | exact Rs.drew r5)).mono ?_); rintro e w5 ⟨rfl, hb⟩; replace A2 := Box2.call hb A2; replace B2 := Box2.call hb B2; replace r5 := Rs.go hb r5; replace BB : Below w.heap.size w w5 := below_call (by (repeat (first | exact Below.refl _ _ | assumption | (refine Below.alloc ?_ (by first | omega | (simp; done) | (simp; omega)) _) | (refine Below.setCell ?_ (by first | omega | (simp; done) | (simp; omega)) _) | refine Below.drew ?_ | refine below_drewN ?_ _))) (Nat.le_refl _) hb; clear hb) | (go_at_call 31; (with_reducible refine (H5.out _).mono ?_); rintro e w5 ⟨rfl, hb⟩; replace A2 := Box2.call hb A2; replace B2 := Box2.call hb B2; replace r5 := Rs.go hb r5; replace BB : Below w.heap.size w w5 := below_call (by (repeat (first | exact Below.refl _ _ | assumption | (refine Below.alloc ?_ (by first | omega | (simp; done) | (simp; omega)) _) | (refine Below.setCell ?_ (by first | omega | (simp; done) | (simp; omega)) _) | refine Below.drew ?_ | refine below_drewN ?_ _))) (Nat.le_refl _) hb; clear hb) | (go_at_call 31; (with_reducible refine (H6.out _).mono ?_); rintro e w5 ⟨rfl, hb⟩; replace A2 := Box2.call hb A2; replace B2 := Box2.call hb B2; replace r5 := Rs.go hb r5; replace BB : Below w.heap.size w w5 := below_call (by (repeat (first | exact Below.refl _ _ | assumption | (refine Below.alloc ?_ (by first | omega | (simp; done) | (simp; omega)) _) | (refine Below.setCell ?_ (by first | omega | (simp; done) | (simp; omega)) _) | refine Below.drew ?_ | refine below_drewN ?_ _))) (Nat.le_refl _) hb; clear hb) | (go_at_call 31; (with_reducible refine (H7.out _).mono ?_); rintro e w5 ⟨rfl, hb⟩; replace A2 := Box2.call hb A2; replace B2 := Box2.call hb B2; replace r5 := Rs.go hb r5; replace BB : Below w.heap.size w w5 := below_call (by (repeat (first | exact Below.refl _ _ | assumption | (refine Below.alloc ?_ (by first | omega | (simp; done) | (simp; omega)) _) | (refine Below.setCell ?_ (by first | omega | (simp; done) | (simp; omega)) _) | refine Below.drew ?_ | refine below_drewN ?_ _))) (Nat.le_refl _) hb; clear hb) | (go_at_call 33; (with_reducible refine (H8.out _).mono ?_); rintro e w5 ⟨rfl, hb⟩; replace A2 := Box2.call hb A2; replace B2 := Box2.call hb B2; replace r5 := Rs.go hb r5; replace BB : Below w.heap.size w w5 := below_call (by (repeat (first | exact Below.refl _ _ | assumption | (refine Below.alloc ?_ (by first | omega | (simp; done) | (simp; omega)) _) | (refine Below.setCell ?_ (by first | omega | (simp; done) | (simp; omega)) _) | refine Below.drew ?_ | refine below_drewN ?_ _))) (Nat.le_refl _) hb; clear hb))
  all_goals go_wp2_with fail
  all_goals go_ret
  all_goals exact ⟨rfl, BB⟩
theorem powers05_u (X Y bh n : Nat) (hX : X < 340282366920938463463374607431768211456) (hY : Y < 170141183460469231731687303715884105728) (hb : bh / 2 = hi64 Y) (hn : n < 18446744073709551616) (w : World) : Calls Try.prog 4 #[.agg #[.int .u64 (hi64 (X) : Nat), .int .u64 (lo64 (X) : Nat)], .agg #[.int .u64 bh, .int .u64 (lo64 Y : Nat)], .int .u64 n] w fun e w' => e = .returned (.bool true) ∧ Below w.heap.size w w' := by
  have hY2 : Y < 2 ^ 128 := by rw [two128]; omega
  have hn2 : n < 2 ^ 64 := hn
  have h7 := pow89_u X n hX (by omega)
  rw [hi_low hn, lo_low hn] at h7
  have h8 := mmul89_u (X ^ Y % P89) (X ^ n % P89) (mod_lt89 _) (mod_lt89 _)
  rw [← Nat.mul_mod, ← Nat.pow_add] at h8
  exact pows05_g _ _ _ _ _ n _ _ _ _ _ _ _ _ _ (by omega) _ _ _ w (of2_u Y) (fun W => of_u n 64 64 rfl (by omega) W hn) (fun W A c A' c' r r' => add_r A A' 128 c 64 c' Y n 128 128 rfl W r r' hY2 hn2 (by omega) (by omega) (by omega)) (fun W A c r => to2_u A c _ W r) (pow89_u X (Y + n) hX (by omega)) (pow89_u X Y hX (by omega)) h7 h8
theorem powers05_law (ah al bh bl n : Nat) (w : World) (h1 : ah < 18446744073709551616) (h2 : al < 18446744073709551616) (h3 : bh < 18446744073709551616) (h4 : bl < 18446744073709551616) (hn : n < 18446744073709551616) :
    Calls Try.prog 4 #[.agg #[.int .u64 ah, .int .u64 al], .agg #[.int .u64 bh, .int .u64 bl], .int .u64 n] w fun e w' => e = .returned (.bool true) ∧ Below w.heap.size w w' := by
  have hY : val2 (bh / 2) bl < 170141183460469231731687303715884105728 := by unfold val2; omega
  have h := powers05_u (val2 ah al) (val2 (bh / 2) bl) bh n (val2_lt h1 h2) hY (by rw [hi64_val (by omega) h4]) hn w
  rw [hi64_val h1 h2, lo64_val h2, lo64_val h4] at h
  exact h
end Go.Proofs.Ytioieoinkjfcfaa
