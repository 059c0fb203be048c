/-
  Walk of the reference's Pow of chapter 5 and of the law Mers89Reckons. Conditions: as each says.
-/
import Derived.Test.YtioieoinkjfcfaaM89D
namespace Go.Proofs.Ytioieoinkjfcfaa
open Go.RowKit Go.Shelf
set_option linter.unusedVariables false

set_option maxRecDepth 100000 in
set_option maxHeartbeats 2000000 in
theorem rpow05_g (X n P : Nat) (f : Nat → Nat) (hn : n ≤ 1000) (hf0 : f 0 = 1) (w : World)
    (H1 : ∀ W (k : Nat), k < n → Calls Try.prog 38 #[.agg #[.int .u64 (hi64 (f k) : Nat), .int .u64 (lo64 (f k) : Nat)], .agg #[.int .u64 (hi64 (X) : Nat), .int .u64 (lo64 (X) : Nat)]] W (Ret128 W (f (k + 1)))) :
    Calls Try.prog 47 #[.agg #[.int .u64 (hi64 (X) : Nat), .int .u64 (lo64 (X) : Nat)], .int .u64 n] w (Ret128 w (f n)) := by
  replace H1 := hide H1
  replace hf0 := hide hf0
  go_enter Try.func47, Try.ntmps47
  go_wp2_with fail
  have A1 : BoxU (((w.alloc (.cells #[.int .u64 (hi64 X : Nat), .int .u64 (lo64 X : Nat)] 43)).alloc (.cells #[.int .u64 0, .int .u64 0] 43)).alloc (.cells #[.int .u64 0, .int .u64 1] 43)) w.heap.size X := (by (refine ⟨?_, ?_, ?_, ?_, ?_⟩ <;> simp [go_sem] <;> omega))
  have R1 : Box2 (((w.alloc (.cells #[.int .u64 (hi64 X : Nat), .int .u64 (lo64 X : Nat)] 43)).alloc (.cells #[.int .u64 0, .int .u64 0] 43)).alloc (.cells #[.int .u64 0, .int .u64 1] 43)) (w.heap.size + 1) (.int .u64 0) (.int .u64 0) := (by (refine ⟨?_, ?_, ?_, ?_, ?_⟩ <;> simp [go_sem] <;> omega))
  have O1 : BoxU (((w.alloc (.cells #[.int .u64 (hi64 X : Nat), .int .u64 (lo64 X : Nat)] 43)).alloc (.cells #[.int .u64 0, .int .u64 0] 43)).alloc (.cells #[.int .u64 0, .int .u64 1] 43)) (w.heap.size + 1 + 1) 1 := (show Box2 _ _ (.int .u64 0) (.int .u64 1) from (by (refine ⟨?_, ?_, ?_, ?_, ?_⟩ <;> simp [go_sem] <;> omega)))
  have B : Below w.heap.size w (((w.alloc (.cells #[.int .u64 (hi64 X : Nat), .int .u64 (lo64 X : Nat)] 43)).alloc (.cells #[.int .u64 0, .int .u64 0] 43)).alloc (.cells #[.int .u64 0, .int .u64 1] 43)) := by (repeat (first | exact Below.refl _ _ | assumption | (refine Below.alloc ?_ (by first | omega | (simp; done) | (simp; omega)) _) | (refine Below.setCell ?_ (by first | omega | (simp; done) | (simp; omega)) _) | refine Below.drew ?_ | refine below_drewN ?_ _))
  generalize ((w.alloc (.cells #[.int .u64 (hi64 X : Nat), .int .u64 (lo64 X : Nat)] 43)).alloc (.cells #[.int .u64 0, .int .u64 0] 43)).alloc (.cells #[.int .u64 0, .int .u64 1] 43) = W at *
  have k2 : ¬ w.heap.size + 1 + 1 = w.heap.size := by omega
  have k3 : ¬ w.heap.size + 1 + 1 = w.heap.size + 1 := by omega
  have k0 : w.heap.size ≤ w.heap.size + 1 + 1 := by omega
  have k1 : w.heap.size ≤ w.heap.size + 1 := by omega
  generalize w.heap.size + 1 + 1 = nO at *
  generalize w.heap.size + 1 = nR at *
  replace O1 : BoxU W nO (f 0) := by rw [hf0.out]; exact O1
  go_loopg [6] n (fun g i wr => ∃ k : Nat, i = .int .u64 k ∧ Hid (k + g = n) ∧ k ≤ n ∧ BoxU wr w.heap.size X ∧ Box2 wr nR (.int .u64 0) (.int .u64 0) ∧ BoxU wr nO (f k) ∧ Below w.heap.size w wr)
  case atStart => exact ⟨0, rfl, hide (by omega), by omega, A1, R1, O1, B⟩
  case round =>
    clear A1 R1 O1 B
    obtain ⟨k, rfl, hg, hkn, A1, R1, O1, B⟩ := hrel
    by_cases hlt : k < n
    · have t1 : (k : Int) < (n : Int) := by omega
      have hk1 := hide (show k + 1 ≤ n by omega)
      have hg0 := hide (show gk - 1 < gk by have := hg.out; omega)
      have hg1 := hide (show k + 1 + (gk - 1) = n by have := hg.out; omega)
      have hn3 : (n : Int) ≤ 1000 := by omega
      have C := hide (fun W => H1.out W k hlt)
      clear hg hkn hlt
      go_wp2_with fail
      refine (C.out _).mono ?_
      rintro e w3 ⟨rfl, hb⟩
      replace A1 := BoxU.call hb A1
      replace R1 := Box2.call hb R1
      replace O1 := BoxU.call hb O1
      replace B : Below w.heap.size w w3 := below_call B (Nat.le_refl _) hb
      clear hb
      have bz := B.size
      have O2 := Box2.put (.int .u64 (hi64 (f (k + 1)) : Nat)) (.int .u64 (lo64 (f (k + 1)) : Nat)) O1
      replace A1 := Box2.far2 (u0 := .int .u64 (hi64 (f (k + 1)) : Nat)) (u1 := .int .u64 (lo64 (f (k + 1)) : Nat)) A1 k2
      replace R1 := Box2.far2 (u0 := .int .u64 (hi64 (f (k + 1)) : Nat)) (u1 := .int .u64 (lo64 (f (k + 1)) : Nat)) R1 k3
      go_wp2_with fail
      go_roundg (gk - 1)
      case measure => exact hg0.out
      case rel => exact ⟨k + 1, by go_num, hg1, hk1.out, A1, R1, O2, by (repeat (first | exact Below.refl _ _ | assumption | (refine Below.alloc ?_ (by first | omega | (simp; done) | (simp; omega)) _) | (refine Below.setCell ?_ (by first | omega | (simp; done) | (simp; omega)) _) | refine Below.drew ?_ | refine below_drewN ?_ _))⟩
    · have hkn2 : k = n := by omega
      subst hkn2
      clear hg hkn hlt
      go_wp2_with fail
      have R2 := Box2.put (.int .u64 (hi64 (f k) : Nat)) (.int .u64 (lo64 (f k) : Nat)) R1
      refine bodyPost_ret (v := .agg #[.int .u64 (hi64 (f k) : Nat), .int .u64 (lo64 (f k) : Nat)]) (by simp [results, Try.results47, go_sem, R2]) rfl ⟨rfl, ?_⟩
      (repeat (first | exact Below.refl _ _ | assumption | (refine Below.alloc ?_ (by first | omega | (simp; done) | (simp; omega)) _) | (refine Below.setCell ?_ (by first | omega | (simp; done) | (simp; omega)) _) | refine Below.drew ?_ | refine below_drewN ?_ _))
theorem rpow05_u (X n : Nat) (hX : X < 340282366920938463463374607431768211456) (hn : n ≤ 1000) (w : World) : Calls Try.prog 47 #[.agg #[.int .u64 (hi64 (X) : Nat), .int .u64 (lo64 (X) : Nat)], .int .u64 n] w (Ret128 w (X ^ n % P89)) := by
  refine rpow05_g X n P89 (fun k => X ^ k % P89) hn (by show X ^ 0 % P89 = 1; rw [Nat.pow_zero, P89_val]) w fun W k hk => ?_
  have h := rmul05_u (X ^ k % P89) X (mod_lt89 _) hX W
  rw [Nat.mod_mul_mod, ← Nat.pow_succ] at h
  exact h
set_option maxRecDepth 100000 in
set_option maxHeartbeats 4000000 in
theorem reck05_big (ah al bh bl n sh sl mh ml dh dl rh rl : Nat) (L1 : List Value) (hn : 12 < n) (w : World)
    (H1 : ∀ W, Calls Try.prog 44 #[.agg #[.int .u64 ah, .int .u64 al], .agg #[.int .u64 bh, .int .u64 bl]] W fun e w' => e = .returned (.agg #[.int .u64 sh, .int .u64 sl]) ∧ Below W.heap.size W w')
    (H2 : ∀ W, Calls Try.prog 45 #[.agg #[.int .u64 ah, .int .u64 al], .agg #[.int .u64 bh, .int .u64 bl]] W fun e w' => e = .returned (.agg #[.int .u64 sh, .int .u64 sl]) ∧ Below W.heap.size W w')
    (H3 : ∀ W, Calls Try.prog 33 #[.agg #[.int .u64 ah, .int .u64 al], .agg #[.int .u64 bh, .int .u64 bl]] W fun e w' => e = .returned (.agg #[.int .u64 mh, .int .u64 ml]) ∧ Below W.heap.size W w')
    (H4 : ∀ W, Calls Try.prog 38 #[.agg #[.int .u64 ah, .int .u64 al], .agg #[.int .u64 bh, .int .u64 bl]] W fun e w' => e = .returned (.agg #[.int .u64 mh, .int .u64 ml]) ∧ Below W.heap.size W w')
    (H5 : ∀ W, Calls Try.prog 46 #[.agg #[.int .u64 ah, .int .u64 al], .agg #[.int .u64 bh, .int .u64 bl]] W fun e w' => e = .returned (.agg #[.int .u64 dh, .int .u64 dl]) ∧ Below W.heap.size W w')
    (H6 : ∀ W, Calls Try.prog 45 #[.agg #[.int .u64 dh, .int .u64 dl], .agg #[.int .u64 bh, .int .u64 bl]] W fun e w' => e = .returned (.agg #[.int .u64 rh, .int .u64 rl]) ∧ Below W.heap.size W w')
    (H7 : ∀ W, Calls Try.prog 29 #[.agg #[.int .u64 ah, .int .u64 al]] W fun e w' => ∃ A c, e = .returned (.slice A 128 c) ∧ Rs w' A L1 ∧ Below W.heap.size W w')
    (H8 : ∀ W A c, Rs W A L1 → Calls Try.prog 35 #[.slice A 128 c] W fun e w' => e = .returned (.agg #[.int .u64 rh, .int .u64 rl]) ∧ Below W.heap.size W w')
    (H9 : ∀ W, Calls Try.prog 37 #[.agg #[.int .u64 dh, .int .u64 dl]] W fun e w' => e = .returned (.bool true) ∧ Below W.heap.size W w')
    : Calls Try.prog 7 #[.agg #[.int .u64 ah, .int .u64 al], .agg #[.int .u64 bh, .int .u64 bl], .int .u64 n] w fun e w' => e = .returned (.bool true) ∧ Below w.heap.size w w' := by
  replace H1 := hide H1
  replace H2 := hide H2
  replace H3 := hide H3
  replace H4 := hide H4
  replace H5 := hide H5
  replace H6 := hide H6
  replace H7 := hide H7
  replace H8 := hide H8
  replace H9 := hide H9
  have t1 : decide (12 < n) = true := decide_eq_true hn
  have t2 : (12 : Int) < (n : Int) := by omega
  have t3 : decide ((12 : Int) < (n : Int)) = true := decide_eq_true t2
  clear hn
  go_enter Try.func7, Try.ntmps7
  go_wp2_with fail
  refine (awake05 _).mono ?_
  rintro e w1 ⟨rfl, hb⟩
  have A1 := Box2.call hb (show Box2 _ w.heap.size (.int .u64 ah) (.int .u64 al) from (by (refine ⟨?_, ?_, ?_, ?_, ?_⟩ <;> simp [go_sem] <;> omega)))
  have B1 := Box2.call hb (show Box2 _ (w.heap.size + 1) (.int .u64 bh) (.int .u64 bl) from (by (refine ⟨?_, ?_, ?_, ?_, ?_⟩ <;> simp [go_sem] <;> omega)))
  have B : Below w.heap.size w w1 := below_call (by (repeat (first | exact Below.refl _ _ | assumption | (refine Below.alloc ?_ (by first | omega | (simp; done) | (simp; omega)) _) | (refine Below.setCell ?_ (by first | omega | (simp; done) | (simp; omega)) _) | refine Below.drew ?_ | refine below_drewN ?_ _))) (Nat.le_refl _) hb
  clear hb
  go_wp2_with fail
  go_region_held3 (fun v => Box2 v w.heap.size (.int .u64 ah) (.int .u64 al) ∧ Box2 v (w.heap.size + 1) (.int .u64 bh) (.int .u64 bl)) (exact ⟨A1, B1⟩) (first | (go_at_call 44; (with_reducible refine (H1.out _).mono ?_); rintro e w2 ⟨rfl, hb⟩; replace A1 := Box2.call hb A1; replace B1 := Box2.call hb B1; replace B : Below w.heap.size w w2 := below_call (by (repeat (first | exact Below.refl _ _ | assumption | (refine Below.alloc ?_ (by first | omega | (simp; done) | (simp; omega)) _) | (refine Below.setCell ?_ (by first | omega | (simp; done) | (simp; omega)) _) | refine Below.drew ?_ | refine below_drewN ?_ _))) (Nat.le_refl _) hb; clear hb) | (go_at_call 45; (with_reducible refine (H2.out _).mono ?_); rintro e w2 ⟨rfl, hb⟩; replace A1 := Box2.call hb A1; replace B1 := Box2.call hb B1; replace B : Below w.heap.size w w2 := below_call (by (repeat (first | exact Below.refl _ _ | assumption | (refine Below.alloc ?_ (by first | omega | (simp; done) | (simp; omega)) _) | (refine Below.setCell ?_ (by first | omega | (simp; done) | (simp; omega)) _) | refine Below.drew ?_ | refine below_drewN ?_ _))) (Nat.le_refl _) hb; clear hb) | (go_at_call 33; (with_reducible refine (H3.out _).mono ?_); rintro e w2 ⟨rfl, hb⟩; replace A1 := Box2.call hb A1; replace B1 := Box2.call hb B1; replace B : Below w.heap.size w w2 := below_call (by (repeat (first | exact Below.refl _ _ | assumption | (refine Below.alloc ?_ (by first | omega | (simp; done) | (simp; omega)) _) | (refine Below.setCell ?_ (by first | omega | (simp; done) | (simp; omega)) _) | refine Below.drew ?_ | refine below_drewN ?_ _))) (Nat.le_refl _) hb; clear hb) | (go_at_call 38; (with_reducible refine (H4.out _).mono ?_); rintro e w2 ⟨rfl, hb⟩; replace A1 := Box2.call hb A1; replace B1 := Box2.call hb B1; replace B : Below w.heap.size w w2 := below_call (by (repeat (first | exact Below.refl _ _ | assumption | (refine Below.alloc ?_ (by first | omega | (simp; done) | (simp; omega)) _) | (refine Below.setCell ?_ (by first | omega | (simp; done) | (simp; omega)) _) | refine Below.drew ?_ | refine below_drewN ?_ _))) (Nat.le_refl _) hb; clear hb) | (go_at_call 46; (with_reducible refine (H5.out _).mono ?_); rintro e w2 ⟨rfl, hb⟩; replace A1 := Box2.call hb A1; replace B1 := Box2.call hb B1; replace B : Below w.heap.size w w2 := below_call (by (repeat (first | exact Below.refl _ _ | assumption | (refine Below.alloc ?_ (by first | omega | (simp; done) | (simp; omega)) _) | (refine Below.setCell ?_ (by first | omega | (simp; done) | (simp; omega)) _) | refine Below.drew ?_ | refine below_drewN ?_ _))) (Nat.le_refl _) hb; clear hb) | (go_at_call 45; (with_reducible refine (H6.out _).mono ?_); rintro e w2 ⟨rfl, hb⟩; replace A1 := Box2.call hb A1; replace B1 := Box2.call hb B1; replace B : Below w.heap.size w w2 := below_call (by (repeat (first | exact Below.refl _ _ | assumption | (refine Below.alloc ?_ (by first | omega | (simp; done) | (simp; omega)) _) | (refine Below.setCell ?_ (by first | omega | (simp; done) | (simp; omega)) _) | refine Below.drew ?_ | refine below_drewN ?_ _))) (Nat.le_refl _) hb; clear hb) | (go_at_call 37; (with_reducible refine (H9.out _).mono ?_); rintro e w2 ⟨rfl, hb⟩; replace A1 := Box2.call hb A1; replace B1 := Box2.call hb B1; replace B : Below w.heap.size w w2 := below_call (by (repeat (first | exact Below.refl _ _ | assumption | (refine Below.alloc ?_ (by first | omega | (simp; done) | (simp; omega)) _) | (refine Below.setCell ?_ (by first | omega | (simp; done) | (simp; omega)) _) | refine Below.drew ?_ | refine below_drewN ?_ _))) (Nat.le_refl _) hb; clear hb) | (go_at_call 29; (with_reducible refine (H7.out _).mono ?_); rintro e w2 ⟨A7, c7, rfl, r7, hb⟩; replace A1 := Box2.call hb A1; replace B1 := Box2.call hb B1; replace B : Below w.heap.size w w2 := below_call (by (repeat (first | exact Below.refl _ _ | assumption | (refine Below.alloc ?_ (by first | omega | (simp; done) | (simp; omega)) _) | (refine Below.setCell ?_ (by first | omega | (simp; done) | (simp; omega)) _) | refine Below.drew ?_ | refine below_drewN ?_ _))) (Nat.le_refl _) hb; clear hb) | (go_at_call 35; (with_reducible refine (H8.out _ _ _ r7).mono ?_); rintro e w2 ⟨rfl, hb⟩; replace A1 := Box2.call hb A1; replace B1 := Box2.call hb B1; replace B : Below w.heap.size w w2 := below_call (by (repeat (first | exact Below.refl _ _ | assumption | (refine Below.alloc ?_ (by first | omega | (simp; done) | (simp; omega)) _) | (refine Below.setCell ?_ (by first | omega | (simp; done) | (simp; omega)) _) | refine Below.drew ?_ | refine below_drewN ?_ _))) (Nat.le_refl _) hb; clear hb))
  go_wp2_with fail
  go_quiet (fail)
  all_goals (try go_wp2_with fail)
  all_goals go_ret
  all_goals exact ⟨rfl, by (repeat (first | exact Below.refl _ _ | assumption | (refine Below.alloc ?_ (by first | omega | (simp; done) | (simp; omega)) _) | (refine Below.setCell ?_ (by first | omega | (simp; done) | (simp; omega)) _) | refine Below.drew ?_ | refine below_drewN ?_ _))⟩
set_option maxRecDepth 100000 in
set_option maxHeartbeats 4000000 in
theorem reck05_small (ah al bh bl n sh sl mh ml dh dl rh rl qh ql : Nat) (L1 : List Value) (hn : n ≤ 12) (w : World)
    (H1 : ∀ W, Calls Try.prog 44 #[.agg #[.int .u64 ah, .int .u64 al], .agg #[.int .u64 bh, .int .u64 bl]] W fun e w' => e = .returned (.agg #[.int .u64 sh, .int .u64 sl]) ∧ Below W.heap.size W w')
    (H2 : ∀ W, Calls Try.prog 45 #[.agg #[.int .u64 ah, .int .u64 al], .agg #[.int .u64 bh, .int .u64 bl]] W fun e w' => e = .returned (.agg #[.int .u64 sh, .int .u64 sl]) ∧ Below W.heap.size W w')
    (H3 : ∀ W, Calls Try.prog 33 #[.agg #[.int .u64 ah, .int .u64 al], .agg #[.int .u64 bh, .int .u64 bl]] W fun e w' => e = .returned (.agg #[.int .u64 mh, .int .u64 ml]) ∧ Below W.heap.size W w')
    (H4 : ∀ W, Calls Try.prog 38 #[.agg #[.int .u64 ah, .int .u64 al], .agg #[.int .u64 bh, .int .u64 bl]] W fun e w' => e = .returned (.agg #[.int .u64 mh, .int .u64 ml]) ∧ Below W.heap.size W w')
    (H5 : ∀ W, Calls Try.prog 46 #[.agg #[.int .u64 ah, .int .u64 al], .agg #[.int .u64 bh, .int .u64 bl]] W fun e w' => e = .returned (.agg #[.int .u64 dh, .int .u64 dl]) ∧ Below W.heap.size W w')
    (H6 : ∀ W, Calls Try.prog 45 #[.agg #[.int .u64 dh, .int .u64 dl], .agg #[.int .u64 bh, .int .u64 bl]] W fun e w' => e = .returned (.agg #[.int .u64 rh, .int .u64 rl]) ∧ Below W.heap.size W w')
    (H7 : ∀ W, Calls Try.prog 29 #[.agg #[.int .u64 ah, .int .u64 al]] W fun e w' => ∃ A c, e = .returned (.slice A 128 c) ∧ Rs w' A L1 ∧ Below W.heap.size W w')
    (H8 : ∀ W A c, Rs W A L1 → Calls Try.prog 35 #[.slice A 128 c] W fun e w' => e = .returned (.agg #[.int .u64 rh, .int .u64 rl]) ∧ Below W.heap.size W w')
    (H9 : ∀ W, Calls Try.prog 37 #[.agg #[.int .u64 dh, .int .u64 dl]] W fun e w' => e = .returned (.bool true) ∧ Below W.heap.size W w')
    (H10 : ∀ W, Calls Try.prog 31 #[.agg #[.int .u64 ah, .int .u64 al], .agg #[.int .u64 0, .int .u64 n]] W fun e w' => e = .returned (.agg #[.int .u64 qh, .int .u64 ql]) ∧ Below W.heap.size W w')
    (H11 : ∀ W, Calls Try.prog 47 #[.agg #[.int .u64 ah, .int .u64 al], .int .u64 n] W fun e w' => e = .returned (.agg #[.int .u64 qh, .int .u64 ql]) ∧ Below W.heap.size W w')
    : Calls Try.prog 7 #[.agg #[.int .u64 ah, .int .u64 al], .agg #[.int .u64 bh, .int .u64 bl], .int .u64 n] w fun e w' => e = .returned (.bool true) ∧ Below w.heap.size w w' := by
  replace H1 := hide H1
  replace H2 := hide H2
  replace H3 := hide H3
  replace H4 := hide H4
  replace H5 := hide H5
  replace H6 := hide H6
  replace H7 := hide H7
  replace H8 := hide H8
  replace H9 := hide H9
  replace H10 := hide H10
  replace H11 := hide H11
  have t1 : decide (12 < n) = false := decide_eq_false (by omega)
  have t2 : ¬ (12 : Int) < (n : Int) := by omega
  have t3 : decide ((12 : Int) < (n : Int)) = false := decide_eq_false t2
  clear hn
  go_enter Try.func7, Try.ntmps7
  go_wp2_with fail
  refine (awake05 _).mono ?_
  rintro e w1 ⟨rfl, hb⟩
  have A1 := Box2.call hb (show Box2 _ w.heap.size (.int .u64 ah) (.int .u64 al) from (by (refine ⟨?_, ?_, ?_, ?_, ?_⟩ <;> simp [go_sem] <;> omega)))
  have B1 := Box2.call hb (show Box2 _ (w.heap.size + 1) (.int .u64 bh) (.int .u64 bl) from (by (refine ⟨?_, ?_, ?_, ?_, ?_⟩ <;> simp [go_sem] <;> omega)))
  have B : Below w.heap.size w w1 := below_call (by (repeat (first | exact Below.refl _ _ | assumption | (refine Below.alloc ?_ (by first | omega | (simp; done) | (simp; omega)) _) | (refine Below.setCell ?_ (by first | omega | (simp; done) | (simp; omega)) _) | refine Below.drew ?_ | refine below_drewN ?_ _))) (Nat.le_refl _) hb
  clear hb
  go_wp2_with fail
  go_region_held3 (fun v => Box2 v w.heap.size (.int .u64 ah) (.int .u64 al) ∧ Box2 v (w.heap.size + 1) (.int .u64 bh) (.int .u64 bl)) (exact ⟨A1, B1⟩) (first | (go_at_call 44; (with_reducible refine (H1.out _).mono ?_); rintro e w2 ⟨rfl, hb⟩; replace A1 := Box2.call hb A1; replace B1 := Box2.call hb B1; replace B : Below w.heap.size w w2 := below_call (by (repeat (first | exact Below.refl _ _ | assumption | (refine Below.alloc ?_ (by first | omega | (simp; done) | (simp; omega)) _) | (refine Below.setCell ?_ (by first | omega | (simp; done) | (simp; omega)) _) | refine Below.drew ?_ | refine below_drewN ?_ _))) (Nat.le_refl _) hb; clear hb) | (go_at_call 45; (with_reducible refine (H2.out _).mono ?_); rintro e w2 ⟨rfl, hb⟩; replace A1 := Box2.call hb A1; replace B1 := Box2.call hb B1; replace B : Below w.heap.size w w2 := below_call (by (repeat (first | exact Below.refl _ _ | assumption | (refine Below.alloc ?_ (by first | omega | (simp; done) | (simp; omega)) _) | (refine Below.setCell ?_ (by first | omega | (simp; done) | (simp; omega)) _) | refine Below.drew ?_ | refine below_drewN ?_ _))) (Nat.le_refl _) hb; clear hb) | (go_at_call 33; (with_reducible refine (H3.out _).mono ?_); rintro e w2 ⟨rfl, hb⟩; replace A1 := Box2.call hb A1; replace B1 := Box2.call hb B1; replace B : Below w.heap.size w w2 := below_call (by (repeat (first | exact Below.refl _ _ | assumption | (refine Below.alloc ?_ (by first | omega | (simp; done) | (simp; omega)) _) | (refine Below.setCell ?_ (by first | omega | (simp; done) | (simp; omega)) _) | refine Below.drew ?_ | refine below_drewN ?_ _))) (Nat.le_refl _) hb; clear hb) | (go_at_call 38; (with_reducible refine (H4.out _).mono ?_); rintro e w2 ⟨rfl, hb⟩; replace A1 := Box2.call hb A1; replace B1 := Box2.call hb B1; replace B : Below w.heap.size w w2 := below_call (by (repeat (first | exact Below.refl _ _ | assumption | (refine Below.alloc ?_ (by first | omega | (simp; done) | (simp; omega)) _) | (refine Below.setCell ?_ (by first | omega | (simp; done) | (simp; omega)) _) | refine Below.drew ?_ | refine below_drewN ?_ _))) (Nat.le_refl _) hb; clear hb) | (go_at_call 46; (with_reducible refine (H5.out _).mono ?_); rintro e w2 ⟨rfl, hb⟩; replace A1 := Box2.call hb A1; replace B1 := Box2.call hb B1; replace B : Below w.heap.size w w2 := below_call (by (repeat (first | exact Below.refl _ _ | assumption | (refine Below.alloc ?_ (by first | omega | (simp; done) | (simp; omega)) _) | (refine Below.setCell ?_ (by first | omega | (simp; done) | (simp; omega)) _) | refine Below.drew ?_ | refine below_drewN ?_ _))) (Nat.le_refl _) hb; clear hb) | (go_at_call 45; (with_reducible refine (H6.out _).mono ?_); rintro e w2 ⟨rfl, hb⟩; replace A1 := Box2.call hb A1; replace B1 := Box2.call hb B1; replace B : Below w.heap.size w w2 := below_call (by (repeat (first | exact Below.refl _ _ | assumption | (refine Below.alloc ?_ (by first | omega | (simp; done) | (simp; omega)) _) | (refine Below.setCell ?_ (by first | omega | (simp; done) | (simp; omega)) _) | refine Below.drew ?_ | refine below_drewN ?_ _))) (Nat.le_refl _) hb; clear hb) | (go_at_call 37; (with_reducible refine (H9.out _).mono ?_); rintro e w2 ⟨rfl, hb⟩; replace A1 := Box2.call hb A1; replace B1 := Box2.call hb B1; replace B : Below w.heap.size w w2 := below_call (by (repeat (first | exact Below.refl _ _ | assumption | (refine Below.alloc ?_ (by first | omega | (simp; done) | (simp; omega)) _) | (refine Below.setCell ?_ (by first | omega | (simp; done) | (simp; omega)) _) | refine Below.drew ?_ | refine below_drewN ?_ _))) (Nat.le_refl _) hb; clear hb) | (go_at_call 29; (with_reducible refine (H7.out _).mono ?_); rintro e w2 ⟨A7, c7, rfl, r7, hb⟩; replace A1 := Box2.call hb A1; replace B1 := Box2.call hb B1; replace B : Below w.heap.size w w2 := below_call (by (repeat (first | exact Below.refl _ _ | assumption | (refine Below.alloc ?_ (by first | omega | (simp; done) | (simp; omega)) _) | (refine Below.setCell ?_ (by first | omega | (simp; done) | (simp; omega)) _) | refine Below.drew ?_ | refine below_drewN ?_ _))) (Nat.le_refl _) hb; clear hb) | (go_at_call 35; (with_reducible refine (H8.out _ _ _ r7).mono ?_); rintro e w2 ⟨rfl, hb⟩; replace A1 := Box2.call hb A1; replace B1 := Box2.call hb B1; replace B : Below w.heap.size w w2 := below_call (by (repeat (first | exact Below.refl _ _ | assumption | (refine Below.alloc ?_ (by first | omega | (simp; done) | (simp; omega)) _) | (refine Below.setCell ?_ (by first | omega | (simp; done) | (simp; omega)) _) | refine Below.drew ?_ | refine below_drewN ?_ _))) (Nat.le_refl _) hb; clear hb))
  go_wp2_with fail
  go_region_held3 (fun v => Box2 v w.heap.size (.int .u64 ah) (.int .u64 al) ∧ Box2 v (w.heap.size + 1) (.int .u64 bh) (.int .u64 bl)) (exact ⟨A1, B1⟩) (first | (go_at_call 31; (with_reducible refine (H10.out _).mono ?_); rintro e w3 ⟨rfl, hb⟩; replace A1 := Box2.call hb A1; replace B1 := Box2.call hb B1; replace B : Below w.heap.size w w3 := below_call (by (repeat (first | exact Below.refl _ _ | assumption | (refine Below.alloc ?_ (by first | omega | (simp; done) | (simp; omega)) _) | (refine Below.setCell ?_ (by first | omega | (simp; done) | (simp; omega)) _) | refine Below.drew ?_ | refine below_drewN ?_ _))) (Nat.le_refl _) hb; clear hb) | (go_at_call 47; (with_reducible refine (H11.out _).mono ?_); rintro e w3 ⟨rfl, hb⟩; replace A1 := Box2.call hb A1; replace B1 := Box2.call hb B1; replace B : Below w.heap.size w w3 := below_call (by (repeat (first | exact Below.refl _ _ | assumption | (refine Below.alloc ?_ (by first | omega | (simp; done) | (simp; omega)) _) | (refine Below.setCell ?_ (by first | omega | (simp; done) | (simp; omega)) _) | refine Below.drew ?_ | refine below_drewN ?_ _))) (Nat.le_refl _) hb; clear hb))
  go_wp2_with fail
  go_ret
  exact ⟨rfl, B⟩
theorem sub_back (X Y : Nat) : ((X + (P89 - Y % P89)) % P89 + Y) % P89 = X % P89 := by
  have h1 := Nat.mod_lt Y P89_pos
  have h2 := Nat.div_add_mod Y P89
  rw [Nat.mod_add_mod]
  have e : X + (P89 - Y % P89) + Y = X + P89 * (Y / P89 + 1) := by rw [Nat.mul_add, Nat.mul_one]; omega
  rw [e, Nat.add_mul_mod_self_left]
theorem reckons05_u (X Y n : Nat) (hX : X < 340282366920938463463374607431768211456) (hY : Y < 340282366920938463463374607431768211456) (hn : n < 18446744073709551616) (w : World) : Calls Try.prog 7 #[.agg #[.int .u64 (hi64 (X) : Nat), .int .u64 (lo64 (X) : Nat)], .agg #[.int .u64 (hi64 (Y) : Nat), .int .u64 (lo64 (Y) : Nat)], .int .u64 n] w fun e w' => e = .returned (.bool true) ∧ Below w.heap.size w w' := by
  have hX2 : X < 2 ^ 128 := by rw [two128]; exact hX
  have hd := mod_lt89 (X + (P89 - Y % P89))
  have h6 := radd05_u _ Y hd hY
  rw [sub_back] at h6
  have h9 := is_u ((X + (P89 - Y % P89)) % P89)
  rw [m128_id hd, decide_eq_true (Nat.mod_lt _ P89_pos)] at h9
  rcases Nat.lt_or_ge 12 n with h | h
  · exact reck05_big _ _ _ _ n _ _ _ _ _ _ _ _ _ h w (madd89_u X Y hX hY) (radd05_u X Y hX hY) (mmul89_u X Y hX hY) (rmul05_u X Y hX hY) (msub89_u X Y hX hY) h6 (of2_u X) (fun W A c r => mod05_u A c X 128 hX2 (by omega) (by omega) W r) h9
  · have h10 := pow89_u X n hX (by omega)
    rw [hi_low hn, lo_low hn] at h10
    exact reck05_small _ _ _ _ n _ _ _ _ _ _ _ _ _ _ _ h w (madd89_u X Y hX hY) (radd05_u X Y hX hY) (mmul89_u X Y hX hY) (rmul05_u X Y hX hY) (msub89_u X Y hX hY) h6 (of2_u X) (fun W A c r => mod05_u A c X 128 hX2 (by omega) (by omega) W r) h9 h10 (rpow05_u X n hX (by omega))
theorem reckons05_law (ah al bh bl n : Nat) (w : World) (h1 : ah < 18446744073709551616) (h2 : al < 18446744073709551616) (h3 : bh < 18446744073709551616) (h4 : bl < 18446744073709551616) (hn : n < 18446744073709551616) :
    Calls Try.prog 7 #[.agg #[.int .u64 ah, .int .u64 al], .agg #[.int .u64 bh, .int .u64 bl], .int .u64 n] w fun e w' => e = .returned (.bool true) ∧ Below w.heap.size w w' := by
  have h := reckons05_u (val2 ah al) (val2 bh bl) n (val2_lt h1 h2) (val2_lt h3 h4) hn w
  rw [hi64_val h1 h2, lo64_val h2, hi64_val h3 h4, lo64_val h4] at h
  exact h
end Go.Proofs.Ytioieoinkjfcfaa
