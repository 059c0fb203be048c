/-
  Walks of the reference of chapter 5, of mers89.Inv and of the chapter's 'awake'. Conditions: as each says.
-/
import Derived.Test.YtpfpdlgfngkdjaaM89C
import Derived.Test.YtpfpdlgfngkdjaaBitsC
import Derived.Test.YtpfpdlgfngkdjaaPrimeN
namespace Go.Proofs.Ytpfpdlgfngkdjaa
open Go.RowKit Go.Shelf
set_option linter.unusedVariables false

theorem pow89_u (X E : Nat) (hX : X < 340282366920938463463374607431768211456) (hE : E < 340282366920938463463374607431768211456) (w : World) : Calls Try.prog 49 #[.agg #[.int .u64 (hi64 (X) : Nat), .int .u64 (lo64 (X) : Nat)], .agg #[.int .u64 (hi64 (E) : Nat), .int .u64 (lo64 (E) : Nat)]] w (Ret128 w (X ^ E % P89)) := by
  have hE2 := lt_256 hE
  refine pow89_g X _ _ E P89 (X ^ E % P89) (lenB E 256) w hX (Nat.le_of_lt P89_lt) (by rw [P89_val]; omega) ((lenB_iff hE2).1 (Nat.le_refl _)) (lenB_le E 256) (by rw [Nat.pow_zero, Nat.div_one, Nat.one_mul]) (wider_u E hE) (len4_u E hE2) ?_ (fun W X Y hX hY => mmul89_u X Y hX hY W)
  intro W k hk
  have h := bit4_u E k W
  have hb : bit4B E k = decide (bt E k = 1) := by
    have := lenB_le E 256
    unfold bit4B
    rw [decide_eq_true (show (0 : Int) ≤ (k : Int) ∧ (k : Int) < 256 by omega), Bool.true_and, Int.toNat_natCast]
  rw [hb] at h
  exact h
set_option maxHeartbeats 400000 in
theorem num05 (w : World) : Calls Try.prog 15 #[] w fun e w' => e = .returned (.agg #[.int .u64 33554431, .int .u64 18446744073709551615]) ∧ Below w.heap.size w w' := by
  go_enter Try.func15, Try.ntmps15
  go_wp2_with fail
  exact bodyPost_ret (v := .agg #[.int .u64 33554431, .int .u64 18446744073709551615]) (by simp [results, Try.results15, go_sem]) rfl ⟨rfl, by (repeat (first | exact Below.refl _ _ | assumption | (refine Below.alloc ?_ (by first | omega | (simp; done) | (simp; omega)) _) | (refine Below.setCell ?_ (by first | omega | (simp; done) | (simp; omega)) _) | refine Below.drew ?_ | refine below_drewN ?_ _))⟩
set_option maxHeartbeats 400000 in
theorem p05 (w : World) : Calls Try.prog 20 #[] w (RetB w P89 128) := by
  have H1 := hide (of2_u P89)
  rw [P89_hi, P89_lo] at H1
  go_enter Try.func20, Try.ntmps20
  go_wp2_with fail
  refine (num05 _).mono ?_
  rintro e w1 ⟨rfl, hb⟩
  have B : Below w.heap.size w w1 := hb
  clear hb
  go_wp2_with fail
  refine (H1.out _).mono ?_
  rintro e w2 ⟨A, c, rfl, r, hb⟩
  replace B : Below w.heap.size w w2 := below_call B (Nat.le_refl _) hb
  clear hb
  go_wp2_with fail
  go_ret
  exact ⟨A, c, rfl, r, B⟩
set_option maxHeartbeats 2000000 in
theorem mod05_g (A : Option Addr) (c rh rl n m : Nat) (L LP LQ LR : List Value) (w : World)
    (H1 : ∀ W, Calls Try.prog 20 #[] W fun e w' => ∃ A c, e = .returned (.slice A 128 c) ∧ Rs w' A LP ∧ Below W.heap.size W w')
    (H2 : ∀ W A c A' c', Rs W A L → Rs W A' LP → Calls Try.prog 28 #[.slice A n c, .slice A' 128 c'] W fun e w' => ∃ A c A' c', e = .returned (.tuple #[.slice A n c, .slice A' m c']) ∧ Rs w' A LQ ∧ Rs w' A' LR ∧ Below W.heap.size W w')
    (H3 : ∀ W A c, Rs W A LR → Calls Try.prog 41 #[.slice A m c] W fun e w' => e = .returned (.agg #[.int .u64 rh, .int .u64 rl]) ∧ Below W.heap.size W w')
    : Rs w A L → Calls Try.prog 17 #[.slice A n c] w fun e w' => e = .returned (.agg #[.int .u64 rh, .int .u64 rl]) ∧ Below w.heap.size w w' := by
  replace H1 := hide H1
  replace H2 := hide H2
  replace H3 := hide H3
  intro rs
  go_enter Try.func17, Try.ntmps17
  go_wp2_with fail
  replace rs := Rs.alloc rs (.cells #[.int .u64 0, .int .u64 0] 38)
  have R1 : Box2 (w.alloc (.cells #[.int .u64 0, .int .u64 0] 38)) w.heap.size (.int .u64 0) (.int .u64 0) := (by (refine ⟨?_, ?_, ?_, ?_, ?_⟩ <;> simp [go_sem] <;> omega))
  have B : Below w.heap.size w (w.alloc (.cells #[.int .u64 0, .int .u64 0] 38)) := by (repeat (first | exact Below.refl _ _ | assumption | (refine Below.alloc ?_ (by first | omega | (simp; done) | (simp; omega)) _) | (refine Below.setCell ?_ (by first | omega | (simp; done) | (simp; omega)) _) | refine Below.drew ?_ | refine below_drewN ?_ _))
  generalize w.alloc (.cells #[.int .u64 0, .int .u64 0] 38) = W at *
  refine (H1.out _).mono ?_
  rintro e w1 ⟨A1, c1, rfl, r1, hb⟩
  replace R1 := Box2.call hb R1
  replace rs := Rs.go hb rs
  replace B : Below w.heap.size w w1 := below_call B (Nat.le_refl _) hb
  clear hb
  go_wp2_with fail
  refine (H2.out _ _ _ _ _ rs r1).mono ?_
  rintro e w2 ⟨A2, c2, A3, c3, rfl, r2, r3, hb⟩
  replace R1 := Box2.call hb (by first | exact R1 | exact Box2.alloc _ R1 | exact Box2.alloc _ (Box2.alloc _ R1))
  replace B : Below w.heap.size w w2 := below_call (by (repeat (first | exact Below.refl _ _ | assumption | (refine Below.alloc ?_ (by first | omega | (simp; done) | (simp; omega)) _) | (refine Below.setCell ?_ (by first | omega | (simp; done) | (simp; omega)) _) | refine Below.drew ?_ | refine below_drewN ?_ _))) (Nat.le_refl _) hb
  clear hb
  clear rs r1 r2
  go_wp2_with fail
  refine (H3.out _ _ _ r3).mono ?_
  rintro e w3 ⟨rfl, hb⟩
  replace R1 := Box2.call hb (by first | exact R1 | exact Box2.alloc _ R1 | exact Box2.alloc _ (Box2.alloc _ R1))
  replace B : Below w.heap.size w w3 := below_call (by (repeat (first | exact Below.refl _ _ | assumption | (refine Below.alloc ?_ (by first | omega | (simp; done) | (simp; omega)) _) | (refine Below.setCell ?_ (by first | omega | (simp; done) | (simp; omega)) _) | refine Below.drew ?_ | refine below_drewN ?_ _))) (Nat.le_refl _) hb
  clear hb
  go_wp2_with fail
  exact bodyPost_ret (v := .agg #[.int .u64 rh, .int .u64 rl]) (by simp [results, Try.results17, go_sem, R1]) rfl ⟨rfl, by (repeat (first | exact Below.refl _ _ | assumption | (refine Below.alloc ?_ (by first | omega | (simp; done) | (simp; omega)) _) | (refine Below.setCell ?_ (by first | omega | (simp; done) | (simp; omega)) _) | refine Below.drew ?_ | refine below_drewN ?_ _))⟩
theorem mod05_u (A : Option Addr) (c X n : Nat) (hX : X < 2 ^ n) (hn : n ≤ 1000) (hn2 : 128 ≤ n) (w : World) (rs : Rs w A (is (bitsOf X n))) : Calls Try.prog 17 #[.slice A n c] w (Ret128 w (X % P89)) := by
  have hP : P89 < 2 ^ 128 := by rw [two128]; exact P89_lt
  refine mod05_g A c _ _ n (n + 1) _ _ _ _ w p05 (fun W A c A' c' r r' => div_ref A A' n c 128 c' X P89 W r r' hX hP P89_pos hn (by omega) (n + 1) (by omega)) (fun W A c r => to2_any A (n + 1) c _ (X % P89) W r ?_ (by omega) (Nat.le_refl _)) rs
  exact Nat.lt_of_lt_of_le (Nat.lt_trans (Nat.mod_lt _ P89_pos) hP) (Nat.pow_le_pow_right (by omega) (by omega))
theorem wsub_two (w : World) : Calls Try.prog 40 #[.agg #[.int .u64 33554431, .int .u64 18446744073709551615], .agg #[.int .u64 0, .int .u64 2]] w fun e w' => ∃ c : Bool, e = .returned (.tuple #[.agg #[.int .u64 (hi64 (P89 - 2) : Nat), .int .u64 (lo64 (P89 - 2) : Nat)], .bool c]) ∧ Below w.heap.size w w' := by
  have h := psub_p 2 (by rw [P89_val]; omega) w
  rw [show hi64 2 = 0 by decide, show lo64 2 = 2 by decide] at h
  exact h
set_option maxHeartbeats 2000000 in
theorem minv89_no (ah al : Nat) (w : World)
    (H1 : ∀ W, Calls Try.prog 16 #[.agg #[.int .u64 al, .int .u64 ah, .int .u64 0, .int .u64 0]] W fun e w' => e = .returned (.agg #[.int .u64 0, .int .u64 0]) ∧ Below W.heap.size W w')
    : Calls Try.prog 34 #[.agg #[.int .u64 ah, .int .u64 al]] w fun e w' => e = .returned (.tuple #[.agg #[.int .u64 0, .int .u64 0], .bool false]) ∧ Below w.heap.size w w' := by
  replace H1 := hide H1
  go_enter Try.func34, Try.ntmps34
  go_wp2_with fail
  refine (wider_any _ _ _).mono ?_
  rintro e w1 ⟨rfl, hb⟩
  have R1 := Box2.call hb (show Box2 _ (w.heap.size + 1) (.int .u64 0) (.int .u64 0) from (by (refine ⟨?_, ?_, ?_, ?_, ?_⟩ <;> simp [go_sem] <;> omega)))
  have B : Below w.heap.size w w1 := below_call (by (repeat (first | exact Below.refl _ _ | assumption | (refine Below.alloc ?_ (by first | omega | (simp; done) | (simp; omega)) _) | (refine Below.setCell ?_ (by first | omega | (simp; done) | (simp; omega)) _) | refine Below.drew ?_ | refine below_drewN ?_ _))) (Nat.le_refl _) hb
  clear hb
  go_wp2_with fail
  refine (H1.out _).mono ?_
  rintro e w2 ⟨rfl, hb⟩
  replace R1 := Box2.call hb (by first | exact R1 | exact Box2.alloc _ R1 | exact Box2.alloc _ (Box2.alloc _ R1))
  replace B : Below w.heap.size w w2 := below_call (by (repeat (first | exact Below.refl _ _ | assumption | (refine Below.alloc ?_ (by first | omega | (simp; done) | (simp; omega)) _) | (refine Below.setCell ?_ (by first | omega | (simp; done) | (simp; omega)) _) | refine Below.drew ?_ | refine below_drewN ?_ _))) (Nat.le_refl _) hb
  clear hb
  go_wp2_with fail
  exact bodyPost_ret (v := .tuple #[.agg #[.int .u64 0, .int .u64 0], .bool false]) (by simp [results, Try.results34, go_sem, R1]) rfl ⟨rfl, by (repeat (first | exact Below.refl _ _ | assumption | (refine Below.alloc ?_ (by first | omega | (simp; done) | (simp; omega)) _) | (refine Below.setCell ?_ (by first | omega | (simp; done) | (simp; omega)) _) | refine Below.drew ?_ | refine below_drewN ?_ _))⟩
set_option maxHeartbeats 2000000 in
theorem minv89_yes_h (ah al fh fl rh rl eh el : Nat) (hne : ¬ fh = 0) (w : World)
    (H1 : ∀ W, Calls Try.prog 16 #[.agg #[.int .u64 al, .int .u64 ah, .int .u64 0, .int .u64 0]] W fun e w' => e = .returned (.agg #[.int .u64 fh, .int .u64 fl]) ∧ Below W.heap.size W w')
    (H2 : ∀ W, Calls Try.prog 40 #[.agg #[.int .u64 33554431, .int .u64 18446744073709551615], .agg #[.int .u64 0, .int .u64 2]] W fun e w' => ∃ c : Bool, e = .returned (.tuple #[.agg #[.int .u64 eh, .int .u64 el], .bool c]) ∧ Below W.heap.size W w')
    (H3 : ∀ W, Calls Try.prog 49 #[.agg #[.int .u64 ah, .int .u64 al], .agg #[.int .u64 eh, .int .u64 el]] W fun e w' => e = .returned (.agg #[.int .u64 rh, .int .u64 rl]) ∧ Below W.heap.size W w')
    : Calls Try.prog 34 #[.agg #[.int .u64 ah, .int .u64 al]] w fun e w' => e = .returned (.tuple #[.agg #[.int .u64 rh, .int .u64 rl], .bool true]) ∧ Below w.heap.size w w' := by
  replace H1 := hide H1
  replace H2 := hide H2
  replace H3 := hide H3
  have t1 : ((fh : Int) == 0) = false := by rw [beq_eq_false_iff_ne]; omega
  have t2 : ¬ (fh : Int) = 0 := by omega
  have t3 : decide (fh = 0) = false := decide_eq_false hne
  go_enter Try.func34, Try.ntmps34
  go_wp2_with fail
  refine (wider_any _ _ _).mono ?_
  rintro e w1 ⟨rfl, hb⟩
  have A1 := Box2.call hb (show Box2 _ w.heap.size (.int .u64 ah) (.int .u64 al) from (by (refine ⟨?_, ?_, ?_, ?_, ?_⟩ <;> simp [go_sem] <;> omega)))
  have R1 := Box2.call hb (show Box2 _ (w.heap.size + 1) (.int .u64 0) (.int .u64 0) from (by (refine ⟨?_, ?_, ?_, ?_, ?_⟩ <;> simp [go_sem] <;> omega)))
  have B : Below w.heap.size w w1 := below_call (by (repeat (first | exact Below.refl _ _ | assumption | (refine Below.alloc ?_ (by first | omega | (simp; done) | (simp; omega)) _) | (refine Below.setCell ?_ (by first | omega | (simp; done) | (simp; omega)) _) | refine Below.drew ?_ | refine below_drewN ?_ _))) (Nat.le_refl _) hb
  clear hb
  go_wp2_with fail
  refine (H1.out _).mono ?_
  rintro e w2 ⟨rfl, hb⟩
  replace A1 := Box2.call hb (by first | exact A1 | exact Box2.alloc _ A1 | exact Box2.alloc _ (Box2.alloc _ A1))
  replace R1 := Box2.call hb (by first | exact R1 | exact Box2.alloc _ R1 | exact Box2.alloc _ (Box2.alloc _ R1))
  replace B : Below w.heap.size w w2 := below_call (by (repeat (first | exact Below.refl _ _ | assumption | (refine Below.alloc ?_ (by first | omega | (simp; done) | (simp; omega)) _) | (refine Below.setCell ?_ (by first | omega | (simp; done) | (simp; omega)) _) | refine Below.drew ?_ | refine below_drewN ?_ _))) (Nat.le_refl _) hb
  clear hb
  go_wp2_with fail
  refine (mp_any _).mono ?_
  rintro e w3 ⟨rfl, hb⟩
  replace A1 := Box2.call hb (by first | exact A1 | exact Box2.alloc _ A1 | exact Box2.alloc _ (Box2.alloc _ A1))
  replace R1 := Box2.call hb (by first | exact R1 | exact Box2.alloc _ R1 | exact Box2.alloc _ (Box2.alloc _ R1))
  replace B : Below w.heap.size w w3 := below_call (by (repeat (first | exact Below.refl _ _ | assumption | (refine Below.alloc ?_ (by first | omega | (simp; done) | (simp; omega)) _) | (refine Below.setCell ?_ (by first | omega | (simp; done) | (simp; omega)) _) | refine Below.drew ?_ | refine below_drewN ?_ _))) (Nat.le_refl _) hb
  clear hb
  go_wp2_with fail
  refine (H2.out _).mono ?_
  rintro e w4 ⟨cb, rfl, hb⟩
  replace A1 := Box2.call hb (by first | exact A1 | exact Box2.alloc _ A1 | exact Box2.alloc _ (Box2.alloc _ A1))
  replace R1 := Box2.call hb (by first | exact R1 | exact Box2.alloc _ R1 | exact Box2.alloc _ (Box2.alloc _ R1))
  replace B : Below w.heap.size w w4 := below_call (by (repeat (first | exact Below.refl _ _ | assumption | (refine Below.alloc ?_ (by first | omega | (simp; done) | (simp; omega)) _) | (refine Below.setCell ?_ (by first | omega | (simp; done) | (simp; omega)) _) | refine Below.drew ?_ | refine below_drewN ?_ _))) (Nat.le_refl _) hb
  clear hb
  have bz := B.size
  go_wp2_with fail
  refine (H3.out _).mono ?_
  rintro e w5 ⟨rfl, hb⟩
  replace R1 := Box2.call hb (by first | exact R1 | exact Box2.alloc _ R1 | exact Box2.alloc _ (Box2.alloc _ R1))
  replace B : Below w.heap.size w w5 := below_call (by (repeat (first | exact Below.refl _ _ | assumption | (refine Below.alloc ?_ (by first | omega | (simp; done) | (simp; omega)) _) | (refine Below.setCell ?_ (by first | omega | (simp; done) | (simp; omega)) _) | refine Below.drew ?_ | refine below_drewN ?_ _))) (Nat.le_refl _) hb
  clear hb
  go_wp2_with fail
  exact bodyPost_ret (v := .tuple #[.agg #[.int .u64 rh, .int .u64 rl], .bool true]) (by simp [results, Try.results34, go_sem, R1]) rfl ⟨rfl, by (repeat (first | exact Below.refl _ _ | assumption | (refine Below.alloc ?_ (by first | omega | (simp; done) | (simp; omega)) _) | (refine Below.setCell ?_ (by first | omega | (simp; done) | (simp; omega)) _) | refine Below.drew ?_ | refine below_drewN ?_ _))⟩
set_option maxHeartbeats 2000000 in
theorem minv89_yes_l (ah al fh fl rh rl eh el : Nat) (hne : ¬ fl = 0) (w : World)
    (H1 : ∀ W, Calls Try.prog 16 #[.agg #[.int .u64 al, .int .u64 ah, .int .u64 0, .int .u64 0]] W fun e w' => e = .returned (.agg #[.int .u64 0, .int .u64 fl]) ∧ Below W.heap.size W w')
    (H2 : ∀ W, Calls Try.prog 40 #[.agg #[.int .u64 33554431, .int .u64 18446744073709551615], .agg #[.int .u64 0, .int .u64 2]] W fun e w' => ∃ c : Bool, e = .returned (.tuple #[.agg #[.int .u64 eh, .int .u64 el], .bool c]) ∧ Below W.heap.size W w')
    (H3 : ∀ W, Calls Try.prog 49 #[.agg #[.int .u64 ah, .int .u64 al], .agg #[.int .u64 eh, .int .u64 el]] W fun e w' => e = .returned (.agg #[.int .u64 rh, .int .u64 rl]) ∧ Below W.heap.size W w')
    : Calls Try.prog 34 #[.agg #[.int .u64 ah, .int .u64 al]] w fun e w' => e = .returned (.tuple #[.agg #[.int .u64 rh, .int .u64 rl], .bool true]) ∧ Below w.heap.size w w' := by
  replace H1 := hide H1
  replace H2 := hide H2
  replace H3 := hide H3
  have t1 : ((fl : Int) == 0) = false := by rw [beq_eq_false_iff_ne]; omega
  have t2 : ¬ (fl : Int) = 0 := by omega
  have t3 : decide (fl = 0) = false := decide_eq_false hne
  go_enter Try.func34, Try.ntmps34
  go_wp2_with fail
  refine (wider_any _ _ _).mono ?_
  rintro e w1 ⟨rfl, hb⟩
  have A1 := Box2.call hb (show Box2 _ w.heap.size (.int .u64 ah) (.int .u64 al) from (by (refine ⟨?_, ?_, ?_, ?_, ?_⟩ <;> simp [go_sem] <;> omega)))
  have R1 := Box2.call hb (show Box2 _ (w.heap.size + 1) (.int .u64 0) (.int .u64 0) from (by (refine ⟨?_, ?_, ?_, ?_, ?_⟩ <;> simp [go_sem] <;> omega)))
  have B : Below w.heap.size w w1 := below_call (by (repeat (first | exact Below.refl _ _ | assumption | (refine Below.alloc ?_ (by first | omega | (simp; done) | (simp; omega)) _) | (refine Below.setCell ?_ (by first | omega | (simp; done) | (simp; omega)) _) | refine Below.drew ?_ | refine below_drewN ?_ _))) (Nat.le_refl _) hb
  clear hb
  go_wp2_with fail
  refine (H1.out _).mono ?_
  rintro e w2 ⟨rfl, hb⟩
  replace A1 := Box2.call hb (by first | exact A1 | exact Box2.alloc _ A1 | exact Box2.alloc _ (Box2.alloc _ A1))
  replace R1 := Box2.call hb (by first | exact R1 | exact Box2.alloc _ R1 | exact Box2.alloc _ (Box2.alloc _ R1))
  replace B : Below w.heap.size w w2 := below_call (by (repeat (first | exact Below.refl _ _ | assumption | (refine Below.alloc ?_ (by first | omega | (simp; done) | (simp; omega)) _) | (refine Below.setCell ?_ (by first | omega | (simp; done) | (simp; omega)) _) | refine Below.drew ?_ | refine below_drewN ?_ _))) (Nat.le_refl _) hb
  clear hb
  go_wp2_with fail
  refine (mp_any _).mono ?_
  rintro e w3 ⟨rfl, hb⟩
  replace A1 := Box2.call hb (by first | exact A1 | exact Box2.alloc _ A1 | exact Box2.alloc _ (Box2.alloc _ A1))
  replace R1 := Box2.call hb (by first | exact R1 | exact Box2.alloc _ R1 | exact Box2.alloc _ (Box2.alloc _ R1))
  replace B : Below w.heap.size w w3 := below_call (by (repeat (first | exact Below.refl _ _ | assumption | (refine Below.alloc ?_ (by first | omega | (simp; done) | (simp; omega)) _) | (refine Below.setCell ?_ (by first | omega | (simp; done) | (simp; omega)) _) | refine Below.drew ?_ | refine below_drewN ?_ _))) (Nat.le_refl _) hb
  clear hb
  go_wp2_with fail
  refine (H2.out _).mono ?_
  rintro e w4 ⟨cb, rfl, hb⟩
  replace A1 := Box2.call hb (by first | exact A1 | exact Box2.alloc _ A1 | exact Box2.alloc _ (Box2.alloc _ A1))
  replace R1 := Box2.call hb (by first | exact R1 | exact Box2.alloc _ R1 | exact Box2.alloc _ (Box2.alloc _ R1))
  replace B : Below w.heap.size w w4 := below_call (by (repeat (first | exact Below.refl _ _ | assumption | (refine Below.alloc ?_ (by first | omega | (simp; done) | (simp; omega)) _) | (refine Below.setCell ?_ (by first | omega | (simp; done) | (simp; omega)) _) | refine Below.drew ?_ | refine below_drewN ?_ _))) (Nat.le_refl _) hb
  clear hb
  have bz := B.size
  go_wp2_with fail
  refine (H3.out _).mono ?_
  rintro e w5 ⟨rfl, hb⟩
  replace R1 := Box2.call hb (by first | exact R1 | exact Box2.alloc _ R1 | exact Box2.alloc _ (Box2.alloc _ R1))
  replace B : Below w.heap.size w w5 := below_call (by (repeat (first | exact Below.refl _ _ | assumption | (refine Below.alloc ?_ (by first | omega | (simp; done) | (simp; omega)) _) | (refine Below.setCell ?_ (by first | omega | (simp; done) | (simp; omega)) _) | refine Below.drew ?_ | refine below_drewN ?_ _))) (Nat.le_refl _) hb
  clear hb
  go_wp2_with fail
  exact bodyPost_ret (v := .tuple #[.agg #[.int .u64 rh, .int .u64 rl], .bool true]) (by simp [results, Try.results34, go_sem, R1]) rfl ⟨rfl, by (repeat (first | exact Below.refl _ _ | assumption | (refine Below.alloc ?_ (by first | omega | (simp; done) | (simp; omega)) _) | (refine Below.setCell ?_ (by first | omega | (simp; done) | (simp; omega)) _) | refine Below.drew ?_ | refine below_drewN ?_ _))⟩
theorem minv89_z (X : Nat) (hX : X < 340282366920938463463374607431768211456) (h : X % P89 = 0) (w : World) : Calls Try.prog 34 #[.agg #[.int .u64 (hi64 (X) : Nat), .int .u64 (lo64 (X) : Nat)]] w fun e w' => e = .returned (.tuple #[.agg #[.int .u64 0, .int .u64 0], .bool false]) ∧ Below w.heap.size w w' := by
  have h1 := fold_w X hX
  rw [h] at h1
  exact minv89_no _ _ w h1
theorem minv89_u (X : Nat) (hX : X < 340282366920938463463374607431768211456) (h : ¬ X % P89 = 0) (w : World) : Calls Try.prog 34 #[.agg #[.int .u64 (hi64 (X) : Nat), .int .u64 (lo64 (X) : Nat)]] w fun e w' => e = .returned (.tuple #[.agg #[.int .u64 (hi64 (X ^ (P89 - 2) % P89) : Nat), .int .u64 (lo64 (X ^ (P89 - 2) % P89) : Nat)], .bool true]) ∧ Below w.heap.size w w' := by
  have h1 := fold_w X hX
  have h3 := pow89_u X (P89 - 2) hX (Nat.lt_of_le_of_lt (Nat.sub_le _ _) P89_lt)
  have hv := mod_lt89 X
  have hne := val2_of (X % P89)
  rw [m128_id hv] at hne
  by_cases hh : hi64 (X % P89) = 0
  · have hl : ¬ lo64 (X % P89) = 0 := by
      intro hl
      rw [hh, hl] at hne
      exact h hne.symm
    unfold Ret128 at h1
    rw [hh] at h1
    exact minv89_yes_l _ _ 0 _ _ _ _ _ hl w h1 wsub_two h3
  · exact minv89_yes_h _ _ _ _ _ _ _ _ hh w h1 wsub_two h3
theorem two_89 : 2 ^ (P89 - 2) % P89 = 309485009821345068724781056 := by
  rw [P89_val]
  rw [pwm_pow 618970019642690137449562111 2 (618970019642690137449562111 - 2) 100 (by omega) (by decide)]
  decide +kernel
set_option maxHeartbeats 400000 in
theorem awake05 (w : World) : Calls Try.prog 12 #[] w fun e w' => e = .returned (.bool true) ∧ Below w.heap.size w w' := by
  have H1 := hide (minv89_u 2 (by omega) (by rw [P89_val]; omega))
  rw [two_89, show hi64 2 = 0 by decide, show lo64 2 = 2 by decide, show hi64 309485009821345068724781056 = 16777216 by decide, show lo64 309485009821345068724781056 = 0 by decide] at H1
  have H2 := hide (fold_u (33554432 * 18446744073709551616) (by decide))
  unfold Ret128 at H2
  rw [show wd (33554432 * 18446744073709551616) 0 = 0 by decide, show wd (33554432 * 18446744073709551616) 1 = 33554432 by decide, show wd (33554432 * 18446744073709551616) 2 = 0 by decide, show wd (33554432 * 18446744073709551616) 3 = 0 by decide, show 33554432 * 18446744073709551616 % P89 = 1 by rw [P89_val], show hi64 1 = 0 by decide, show lo64 1 = 1 by decide] at H2
  go_enter Try.func12, Try.ntmps12
  go_wp2_with fail
  refine (H1.out _).mono ?_
  rintro e w1 ⟨rfl, B⟩
  have bz := B.size
  go_wp2_with fail
  refine (H2.out _).mono ?_
  rintro e w2 ⟨rfl, hb⟩
  have R1 := Box2.call hb (show Box2 _ w1.heap.size (.int .u64 16777216) (.int .u64 0) from (by (refine ⟨?_, ?_, ?_, ?_, ?_⟩ <;> simp [go_sem] <;> omega)))
  replace B : Below w.heap.size w w2 := below_call (by (repeat (first | exact Below.refl _ _ | assumption | (refine Below.alloc ?_ (by first | omega | (simp; done) | (simp; omega)) _) | (refine Below.setCell ?_ (by first | omega | (simp; done) | (simp; omega)) _) | refine Below.drew ?_ | refine below_drewN ?_ _))) (Nat.le_refl _) hb
  clear hb
  go_wp2_with fail
  go_ret
  exact ⟨rfl, B⟩
end Go.Proofs.Ytpfpdlgfngkdjaa
