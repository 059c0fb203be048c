/-
  Walks of the fields' sums, differences and products, and of the reference's. Conditions: numbers fit 64 bits.
-/
import Derived.Test.YtaeebipcgeembaaMersA
import Derived.Deep.RegionHeld3
namespace Go.Proofs.Ytaeebipcgeembaa
open Go.RowKit Go.Shelf
set_option linter.unusedVariables false

theorem fold_any (k : Int) (X : Nat) (w : World) : Calls Try.prog 57 #[.int .i64 (fld k), .agg #[.int .u64 (hi64 (X) : Nat), .int .u64 (lo64 (X) : Nat)]] w fun e w' => e = .returned (.int .u64 (mdn (prm k) (m128 X) : Nat)) ∧ Below w.heap.size w w' := by
  rcases fld_cases k with ⟨h1, h2⟩ | ⟨f, p, hF, h1, h2⟩
  · rw [h1, h2]
    exact fold_0 X w
  · have hp := (isF_facts hF).2.2.2.1
    rw [h1, h2, mdn_pos (by omega)]
    exact fold_f f p hF X w
theorem pf_any (k : Int) (w : World) : Calls Try.prog 55 #[.int .i64 (fld k)] w fun e w' => e = .returned (.int .u64 (prm k : Nat)) ∧ w = w' := by
  rcases fld_cases k with ⟨h1, h2⟩ | ⟨f, p, hF, h1, h2⟩
  · rw [h1, h2]
    exact p_0 w
  · rw [h1, h2]
    exact p_f f p hF w
theorem m128_small {n : Nat} (h : n < 340282366920938463463374607431768211456) : m128 n = n := m128_id h
theorem mul_128 {a b : Nat} (ha : a < 18446744073709551616) (hb : b < 18446744073709551616) : a * b < 340282366920938463463374607431768211456 :=
  Nat.lt_of_lt_of_le (Nat.mul_lt_mul_of_lt_of_lt ha hb) (by omega)
set_option maxHeartbeats 400000 in
theorem mulf_any (k : Int) (a b : Nat) (ha : a < 18446744073709551616) (hb : b < 18446744073709551616) (w : World) : Calls Try.prog 46 #[.int .i64 (fld k), .int .u64 a, .int .u64 b] w fun e w' => e = .returned (.int .u64 (mdn (prm k) (a * b) : Nat)) ∧ Below w.heap.size w w' := by
  have HC := hide (fun W => by have h := fold_any k (a * b) W; rw [m128_small (mul_128 ha hb)] at h; exact h)
  go_enter Try.func46, Try.ntmps46
  go_wp2_with fail
  refine (wmul_any a b _ ha hb).mono ?_
  rintro e w1 ⟨rfl, hb1⟩
  go_wp2_with fail
  refine (HC.out _).mono ?_
  rintro e w2 ⟨rfl, hb2⟩
  go_wp2
  go_ret
  exact ⟨rfl, hb1.trans (hb2.mono hb1.size)⟩
set_option maxHeartbeats 400000 in
theorem P_any (k : Int) (w : World) : Calls Try.prog 40 #[.int .i64 k] w fun e w' => e = .returned (.int .u64 (prm k : Nat)) ∧ w = w' := by
  go_enter Try.func40, Try.ntmps40
  go_wp2_with fail
  refine (of_f k _).mono ?_
  rintro e w1 ⟨rfl, rfl⟩
  go_wp2_with fail
  refine (pf_any k _).mono ?_
  rintro e w1 ⟨rfl, rfl⟩
  go_wp2
  go_ret
  exact ⟨rfl, rfl⟩
set_option maxHeartbeats 1000000 in
theorem Fold_any (k : Int) (X : Nat) (w : World) : Calls Try.prog 44 #[.int .i64 k, .agg #[.int .u64 (hi64 (X) : Nat), .int .u64 (lo64 (X) : Nat)]] w fun e w' => e = .returned (.int .u64 (mdn (prm k) (m128 X) : Nat)) ∧ Below w.heap.size w w' := by
  go_enter Try.func44, Try.ntmps44
  go_wp2_with fail
  have B : Below w.heap.size w (w.alloc (.cells #[.int .u64 (hi64 X : Nat), .int .u64 (lo64 X : Nat)] 61)) := by (repeat (first | exact Below.refl _ _ | assumption | (refine Below.alloc ?_ (by first | omega | (simp; done) | (simp; omega)) _) | (refine Below.setCell ?_ (by first | omega | (simp; done) | (simp; omega)) _) | refine Below.drew ?_ | refine below_drewN ?_ _))
  go_region_held3 (fun v => BoxU v w.heap.size X) (refine ⟨?_, ?_, ?_, ?_, ?_⟩ <;> simp [go_sem, *]) (first | (go_at_call 45; (with_reducible refine (of_f k _).mono ?_); rintro e w1 ⟨rfl, rfl⟩) | (go_at_call 57; (with_reducible refine (fold_any k X _).mono ?_); rintro e w2 ⟨rfl, hb⟩; have X1 := BoxU.call hb (show BoxU _ w.heap.size X from (by (refine ⟨?_, ?_, ?_, ?_, ?_⟩ <;> simp [go_sem] <;> omega))); replace B : Below w.heap.size w w2 := below_call (by (repeat (first | exact Below.refl _ _ | assumption | (refine Below.alloc ?_ (by first | omega | (simp; done) | (simp; omega)) _) | (refine Below.setCell ?_ (by first | omega | (simp; done) | (simp; omega)) _) | refine Below.drew ?_ | refine below_drewN ?_ _))) (Nat.le_refl _) hb; clear hb))
  go_wp2
  go_ret
  exact ⟨rfl, B⟩
theorem Fold_l (k : Int) (x : Nat) (hx : x < 18446744073709551616) (w : World) : Calls Try.prog 44 #[.int .i64 k, .agg #[.int .u64 0, .int .u64 x]] w fun e w' => e = .returned (.int .u64 (mdn (prm k) x : Nat)) ∧ Below w.heap.size w w' := by
  have h := Fold_any k x w
  rw [hi_small hx, lo_small hx, m128_small (by omega)] at h
  exact h
theorem add_ll (a b : Nat) (ha : a < 18446744073709551616) (hb : b < 18446744073709551616) (w : World) : Calls Try.prog 43 #[.agg #[.int .u64 0, .int .u64 a], .agg #[.int .u64 0, .int .u64 b]] w fun e w' => ∃ c : Bool, e = .returned (.tuple #[.agg #[.int .u64 (hi64 (a + b) : Nat), .int .u64 (lo64 (a + b) : Nat)], .bool c]) ∧ Below w.heap.size w w' := by
  have h := add_l a b ha w
  rw [hi_small hb, lo_small hb] at h
  exact h.mono fun e w' ⟨he, hb⟩ => ⟨_, he, hb⟩
set_option maxHeartbeats 1000000 in
theorem Add_any (k : Int) (a b : Nat) (ha : a < 18446744073709551616) (hb : b < 18446744073709551616) (w : World) : Calls Try.prog 26 #[.int .i64 k, .int .u64 a, .int .u64 b] w fun e w' => e = .returned (.int .u64 (mdn (prm k) (a + b) : Nat)) ∧ Below w.heap.size w w' := by
  have HC := hide (fun W => by have h := Fold_any k (a + b) W; rw [m128_small (by omega)] at h; exact h)
  go_enter Try.func26, Try.ntmps26
  go_wp2_with fail
  refine (add_ll a b ha hb _).mono ?_
  rintro e w1 ⟨c, rfl, hb1⟩
  have bz := hb1.size
  go_wp2_with fail
  refine (HC.out _).mono ?_
  rintro e w2 ⟨rfl, hb2⟩
  go_wp2
  go_ret
  exact ⟨rfl, below_call (by (repeat (first | exact Below.refl _ _ | assumption | (refine Below.alloc ?_ (by first | omega | (simp; done) | (simp; omega)) _) | (refine Below.setCell ?_ (by first | omega | (simp; done) | (simp; omega)) _) | refine Below.drew ?_ | refine below_drewN ?_ _))) (Nat.le_refl _) hb2⟩
set_option maxHeartbeats 1000000 in
theorem Sub_any (k : Int) (a b : Nat) (ha : a < 18446744073709551616) (hb : b < 18446744073709551616) (w : World) : Calls Try.prog 36 #[.int .i64 k, .int .u64 a, .int .u64 b] w fun e w' => e = .returned (.int .u64 (mdn (prm k) (a + (prm k - mdn (prm k) b)) : Nat)) ∧ Below w.heap.size w w' := by
  have hle := mdn_le (prm k) b
  have hpl := prm_le k
  have HP := hide (P_any k)
  have HF := hide (Fold_l k b hb)
  have HA := hide (fun d (hd : d ≤ prm k) => Add_any k a d ha (by omega))
  obtain ⟨d, hd⟩ : ∃ d, d = prm k - mdn (prm k) b := ⟨_, rfl⟩
  have hd2 : ((prm k : Nat) : Int) - ((mdn (prm k) b : Nat) : Int) = (d : Int) := by omega
  have HD := hide (show d ≤ prm k by omega)
  have HE := hide hd
  clear hd
  go_enter Try.func36, Try.ntmps36
  go_wp2_with fail
  refine (HP.out _).mono ?_
  rintro e w1 ⟨rfl, rfl⟩
  go_wp2_with fail
  refine (HF.out _).mono ?_
  rintro e w1 ⟨rfl, hb1⟩
  go_wp2_with fail
  refine (HA.out d HD.out _).mono ?_
  rintro e w2 ⟨rfl, hb2⟩
  go_wp2
  go_ret
  exact ⟨ret_i (by rw [HE.out]), below_call hb1 (Nat.le_refl _) hb2⟩
set_option maxHeartbeats 400000 in
theorem Mul_any (k : Int) (a b : Nat) (ha : a < 18446744073709551616) (hb : b < 18446744073709551616) (w : World) : Calls Try.prog 27 #[.int .i64 k, .int .u64 a, .int .u64 b] w fun e w' => e = .returned (.int .u64 (mdn (prm k) (a * b) : Nat)) ∧ Below w.heap.size w w' := by
  go_enter Try.func27, Try.ntmps27
  go_wp2_with fail
  refine (of_f k _).mono ?_
  rintro e w1 ⟨rfl, rfl⟩
  go_wp2_with fail
  refine (mulf_any k a b ha hb _).mono ?_
  rintro e w2 ⟨rfl, hb2⟩
  go_wp2
  go_ret
  exact ⟨rfl, hb2⟩
set_option maxHeartbeats 400000 in
theorem Is_any (k : Int) (a : Nat) (w : World) : Calls Try.prog 23 #[.int .i64 k, .int .u64 a] w fun e w' => e = .returned (.bool (decide (a < prm k))) ∧ w = w' := by
  go_enter Try.func23, Try.ntmps23
  go_wp2_with fail
  refine (P_any k _).mono ?_
  rintro e w1 ⟨rfl, rfl⟩
  go_wp2
  go_ret
  exact ⟨rfl, rfl⟩
end Go.Proofs.Ytaeebipcgeembaa
