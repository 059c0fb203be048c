/-
  Walks of ranges.Check, Reduce, up, First, Count, Rank, Unrank. Conditions: numbers fit 64 bits.
-/
import Derived.Test.YtioieoinkjfcfaaRngM
namespace Go.Proofs.Ytioieoinkjfcfaa
open Go.RowKit Go.Shelf
set_option linter.unusedVariables false

theorem field_lo' (h l : Nat) (W : World) : (Instr.field 43 (.agg #[.int .u64 h, .int .u64 l]) 1).run Try.prog W = .ok (.int .u64 l) W := by kernel_rfl
set_option maxHeartbeats 400000 in
theorem rchk_any (k : Int) (m : Nat) (w : World) : Calls Try.prog 59 #[.int .i64 k, .int .u64 m] w fun e w' => e = .returned (.int .i64 (chkR k m)) ∧ w = w' := by
  rcases (show k < 1 ∨ (1 ≤ k ∧ 64 < k) ∨ (1 ≤ k ∧ k ≤ 64) by omega) with h | ⟨h1, h2⟩ | ⟨h1, h2⟩
  · have hv : chkR k m = 1 := by unfold chkR; rw [if_pos (.inl h)]
    rw [hv]
    have t1 : decide (k < 1) = true := decide_eq_true h
    go_enter Try.func59, Try.ntmps59
    go_wp2
    go_ret
    exact ⟨rfl, rfl⟩
  · have hv : chkR k m = 1 := by unfold chkR; rw [if_pos (.inr h2)]
    rw [hv]
    have t1 : decide (k < 1) = false := decide_eq_false (by omega)
    have t2 : decide (64 < k) = true := decide_eq_true h2
    have t3 : ¬ k < 1 := by omega
    go_enter Try.func59, Try.ntmps59
    go_wp2
    go_ret
    exact ⟨rfl, rfl⟩
  · have t1 : decide (k < 1) = false := decide_eq_false (by omega)
    have t2 : decide (64 < k) = false := decide_eq_false (by omega)
    have t3 : ¬ k < 1 := by omega
    have t4 : ¬ 64 < k := by omega
    by_cases hm : m = 0
    · subst hm
      have hv : chkR k 0 = 8 := by unfold chkR; rw [if_neg (by omega), if_pos rfl]
      rw [hv]
      go_enter Try.func59, Try.ntmps59
      go_wp2
      go_ret
      exact ⟨rfl, rfl⟩
    · have hv : chkR k m = 0 := by unfold chkR; rw [if_neg (by omega), if_neg hm]
      rw [hv]
      have t5 : ((m : Int) == 0) = false := by rw [beq_eq_false_iff_ne]; omega
      have t6 : ¬ (m : Int) = 0 := by omega
      clear hv hm
      go_enter Try.func59, Try.ntmps59
      go_wp2
      go_ret
      exact ⟨rfl, rfl⟩
theorem hi_low {x : Nat} (h : x < 18446744073709551616) : hi64 x = 0 := by unfold hi64; omega
theorem lo_low {x : Nat} (h : x < 18446744073709551616) : lo64 x = x := by unfold lo64; omega
theorem m128_low {x : Nat} (h : x < 18446744073709551616) : m128 x = x := by unfold m128; omega
theorem shr_low (x : Nat) (k : Int) (hx : x < 18446744073709551616) (hk : k ≤ 64) (w : World) : Calls Try.prog 49 #[.agg #[.int .u64 0, .int .u64 x], .int .i64 k] w fun e w' => e = .returned (.agg #[.int .u64 0, .int .u64 (x / 2 ^ k.toNat : Nat)]) ∧ Below w.heap.size w w' := by
  have h := shr_i x k (by omega) w
  rw [hi_low hx, lo_low hx, m128_low hx] at h
  refine h.mono fun e w' hh => ?_
  unfold Ret128 at hh
  have hq : x / 2 ^ k.toNat < 18446744073709551616 := Nat.lt_of_le_of_lt (Nat.div_le_self _ _) hx
  rw [hi_low hq, lo_low hq] at hh
  exact hh
theorem shl_low (x : Nat) (k : Int) (hx : x < 18446744073709551616) (hk : k ≤ 64) (w : World) : Calls Try.prog 48 #[.agg #[.int .u64 0, .int .u64 x], .int .i64 k] w (Ret128 w (x * 2 ^ k.toNat)) := by
  have h := shl_i x k (by omega) w
  rw [hi_low hx, lo_low hx] at h
  exact h
theorem prod_m {a b : Nat} (ha : a < 18446744073709551616) (hb : b < 18446744073709551616) : a * b < 340282366920938463463374607431768211456 :=
  Nat.lt_of_lt_of_le (Nat.mul_lt_mul_of_lt_of_lt ha hb) (by omega)
theorem pow_le_64 {k : Int} (hk : k ≤ 64) : 2 ^ k.toNat ≤ 18446744073709551616 := by
  have : (2 : Nat) ^ k.toNat ≤ 2 ^ 64 := Nat.pow_le_pow_right (by omega) (by omega)
  exact this
/-- What Reduce hands back: the value and the error's number. -/
def redV (x : Nat) (k : Int) (m : Nat) : Nat := if chkR k m = 0 ∧ x < 2 ^ k.toNat then rdV x k.toNat m else 0
def redE (x : Nat) (k : Int) (m : Nat) : Int := if chkR k m = 0 then (if x < 2 ^ k.toNat then 0 else 2) else chkR k m
set_option maxHeartbeats 1000000 in
theorem reduce_g (x m q h0 l0 h1 l1 : Nat) (k c : Int) (w : World) (H1 : ∀ W, Calls Try.prog 59 #[.int .i64 k, .int .u64 m] W fun e w' => e = .returned (.int .i64 0) ∧ W = w')
    (H2 : ∀ W, Calls Try.prog 49 #[.agg #[.int .u64 0, .int .u64 x], .int .i64 k] W fun e w' => e = .returned (.agg #[.int .u64 0, .int .u64 q]) ∧ Below W.heap.size W w')
    (H3 : ∀ W, Calls Try.prog 73 #[.int .u64 x, .int .u64 m] W fun e w' => e = .returned (.agg #[.int .u64 h0, .int .u64 l0]) ∧ Below W.heap.size W w')
    (H4 : ∀ W, Calls Try.prog 49 #[.agg #[.int .u64 h0, .int .u64 l0], .int .i64 k] W fun e w' => e = .returned (.agg #[.int .u64 h1, .int .u64 l1]) ∧ Below W.heap.size W w') :
    Calls Try.prog 57 #[.int .u64 x, .int .i64 k, .int .u64 m] w fun e w' => e = .returned (.tuple #[.int .u64 (if q = 0 then l1 else 0 : Nat), .int .i64 (if q = 0 then 0 else 2)]) ∧ Below w.heap.size w w' := by
  replace H1 := hide H1
  replace H2 := hide H2
  replace H3 := hide H3
  replace H4 := hide H4
  have HF := fun W => field_lo' h1 l1 W
  rcases Nat.eq_zero_or_pos q with hq | hq
  · subst hq
    rw [if_pos rfl, if_pos rfl]
    go_enter Try.func57, Try.ntmps57
    go_wp2_with fail
    refine (H1.out _).mono ?_
    rintro e w1 ⟨rfl, rfl⟩
    go_wp2_with fail
    refine (H2.out _).mono ?_
    rintro e w1 ⟨rfl, hb⟩
    have B : Below w.heap.size w w1 := hb
    clear hb
    go_wp2_with fail
    refine (H3.out _).mono ?_
    rintro e w2 ⟨rfl, hb⟩
    replace B : Below w.heap.size w w2 := below_call B (Nat.le_refl _) hb
    clear hb
    go_wp2_with fail
    refine (H4.out _).mono ?_
    rintro e w3 ⟨rfl, hb⟩
    replace B : Below w.heap.size w w3 := below_call B (Nat.le_refl _) hb
    clear hb
    go_wp2_with fail
    go_ret2
    exact ⟨rfl, B⟩
  · rw [if_neg (by omega), if_neg (by omega)]
    have t1 : ((q : Int) == 0) = false := by rw [beq_eq_false_iff_ne]; omega
    have t2 : ¬ q = 0 := by omega
    have t3 : ¬ (q : Int) = 0 := by omega
    clear hq H3 H4 HF
    go_enter Try.func57, Try.ntmps57
    go_wp2_with fail
    refine (H1.out _).mono ?_
    rintro e w1 ⟨rfl, rfl⟩
    go_wp2_with fail
    refine (H2.out _).mono ?_
    rintro e w1 ⟨rfl, hb⟩
    have B : Below w.heap.size w w1 := hb
    clear hb
    go_wp2_with fail
    go_ret2
    exact ⟨rfl, B⟩
set_option maxHeartbeats 1000000 in
theorem reduce_bad (x m : Nat) (k c : Int) (hc : c ≠ 0) (w : World) (H1 : ∀ W, Calls Try.prog 59 #[.int .i64 k, .int .u64 m] W fun e w' => e = .returned (.int .i64 c) ∧ W = w') :
    Calls Try.prog 57 #[.int .u64 x, .int .i64 k, .int .u64 m] w fun e w' => e = .returned (.tuple #[.int .u64 0, .int .i64 c]) ∧ Below w.heap.size w w' := by
  replace H1 := hide H1
  have t1 : (c == 0) = false := by rw [beq_eq_false_iff_ne]; exact hc
  go_enter Try.func57, Try.ntmps57
  go_wp2_with fail
  refine (H1.out _).mono ?_
  rintro e w1 ⟨rfl, rfl⟩
  go_wp2_with fail
  go_ret2
  exact ⟨rfl, Below.refl _ _⟩
theorem reduce_any (x m : Nat) (k : Int) (hx : x < 18446744073709551616) (hm : m < 18446744073709551616) (w : World) : Calls Try.prog 57 #[.int .u64 x, .int .i64 k, .int .u64 m] w fun e w' => e = .returned (.tuple #[.int .u64 (redV x k m : Nat), .int .i64 (redE x k m)]) ∧ Below w.heap.size w w' := by
  by_cases hc : chkR k m = 0
  · obtain ⟨h1, h2, h3⟩ := chkR_ok hc
    have hp := prod_m hx hm
    have h := reduce_g x m (x / 2 ^ k.toNat) (hi64 (x * m)) (lo64 (x * m)) (hi64 (x * m / 2 ^ k.toNat)) (lo64 (x * m / 2 ^ k.toNat)) k 0 w (fun W => by have := rchk_any k m W; rw [hc] at this; exact this) (shr_low x k hx h2) (fun W => wmul_any x m W hx hm)
      (fun W => (shr_i (x * m) k (by omega) W).mono fun e w' hh => by unfold Ret128 at hh; rw [m128_id hp] at hh; exact hh)
    refine h.mono fun e w' ⟨he, hb⟩ => ⟨?_, hb⟩
    rw [he]
    unfold redV redE
    rw [if_pos hc]
    by_cases hlt : x < 2 ^ k.toNat
    · have hq : x / 2 ^ k.toNat = 0 := Nat.div_eq_of_lt hlt
      rw [if_pos hq, if_pos hq, if_pos ⟨hc, hlt⟩, if_pos hlt]
      have : x * m / 2 ^ k.toNat < m := rdV_lt hlt h3
      rw [lo_low (by omega)]
      rfl
    · have hq : ¬ x / 2 ^ k.toNat = 0 := by
        have := Nat.div_pos (Nat.le_of_not_lt hlt) (Nat.two_pow_pos k.toNat)
        omega
      rw [if_neg hq, if_neg hq, if_neg (by omega), if_neg hlt]
  · refine (reduce_bad x m k _ hc w (fun W => rchk_any k m W)).mono fun e w' ⟨he, hb⟩ => ⟨?_, hb⟩
    rw [he]
    unfold redV redE
    rw [if_neg hc, if_neg (by omega)]
    rfl
set_option maxHeartbeats 1000000 in
theorem up_g (ah al b qh ql r sh sl : Nat) (w : World) (H1 : ∀ W, Calls Try.prog 51 #[.agg #[.int .u64 ah, .int .u64 al], .int .u64 b] W fun e w' => e = .returned (.tuple #[.agg #[.int .u64 qh, .int .u64 ql], .int .u64 r]) ∧ Below W.heap.size W w')
    (H2 : ∀ W, Calls Try.prog 53 #[.agg #[.int .u64 qh, .int .u64 ql], .agg #[.int .u64 0, .int .u64 1]] W fun e w' => ∃ c : Bool, e = .returned (.tuple #[.agg #[.int .u64 sh, .int .u64 sl], .bool c]) ∧ Below W.heap.size W w') :
    Calls Try.prog 86 #[.agg #[.int .u64 ah, .int .u64 al], .int .u64 b] w fun e w' => e = .returned (.agg #[.int .u64 (if 0 < r then sh else qh : Nat), .int .u64 (if 0 < r then sl else ql : Nat)]) ∧ Below w.heap.size w w' := by
  replace H1 := hide H1
  replace H2 := hide H2
  rcases Nat.eq_zero_or_pos r with hr | hr
  · subst hr
    rw [if_neg (by omega), if_neg (by omega)]
    clear H2
    go_enter Try.func86, Try.ntmps86
    go_wp2_with fail
    refine (H1.out _).mono ?_
    rintro e w1 ⟨rfl, hb⟩
    have R1 := Box2.call hb (show Box2 _ (w.heap.size + 1) (.int .u64 0) (.int .u64 0) from (by (refine ⟨?_, ?_, ?_, ?_, ?_⟩ <;> simp [go_sem] <;> omega)))
    have B : Below w.heap.size w w1 := below_call (by (repeat (first | exact Below.refl _ _ | assumption | (refine Below.alloc ?_ (by first | omega | (simp; done) | (simp; omega)) _) | (refine Below.setCell ?_ (by first | omega | (simp; done) | (simp; omega)) _) | refine Below.drew ?_ | refine below_drewN ?_ _))) (Nat.le_refl _) hb
    have z : w.heap.size + 1 < w1.heap.size := R1.2.2.2.2
    clear hb
    go_wp2_with fail
    exact bodyPost_ret (v := .agg #[.int .u64 qh, .int .u64 ql]) (by simp [results, Try.results86, go_sem, R1]) rfl ⟨rfl, by (repeat (first | exact Below.refl _ _ | assumption | (refine Below.alloc ?_ (by first | omega | (simp; done) | (simp; omega)) _) | (refine Below.setCell ?_ (by first | omega | (simp; done) | (simp; omega)) _) | refine Below.drew ?_ | refine below_drewN ?_ _))⟩
  · rw [if_pos hr, if_pos hr]
    have t1 : decide ((0 : Int) < (r : Int)) = true := decide_eq_true (by omega)
    have t2 : (0 : Int) < (r : Int) := by omega
    have t3 : decide (0 < r) = true := decide_eq_true hr
    go_enter Try.func86, Try.ntmps86
    go_wp2_with fail
    refine (H1.out _).mono ?_
    rintro e w1 ⟨rfl, hb⟩
    have R1 := Box2.call hb (show Box2 _ (w.heap.size + 1) (.int .u64 0) (.int .u64 0) from (by (refine ⟨?_, ?_, ?_, ?_, ?_⟩ <;> simp [go_sem] <;> omega)))
    have B : Below w.heap.size w w1 := below_call (by (repeat (first | exact Below.refl _ _ | assumption | (refine Below.alloc ?_ (by first | omega | (simp; done) | (simp; omega)) _) | (refine Below.setCell ?_ (by first | omega | (simp; done) | (simp; omega)) _) | refine Below.drew ?_ | refine below_drewN ?_ _))) (Nat.le_refl _) hb
    clear hb
    go_wp2_with fail
    refine (H2.out _).mono ?_
    rintro e w2 ⟨c, rfl, hb⟩
    have zB := B.size
    have z1 : w.heap.size + 1 < w1.heap.size := R1.2.2.2.2
    have Q1 := Box2.call hb (show Box2 _ w1.heap.size (.int .u64 qh) (.int .u64 ql) from (by (refine ⟨?_, ?_, ?_, ?_, ?_⟩ <;> simp [go_sem] <;> omega)))
    replace R1 := Box2.call hb (Box2.alloc _ R1)
    replace B : Below w.heap.size w w2 := below_call (by (repeat (first | exact Below.refl _ _ | assumption | (refine Below.alloc ?_ (by first | omega | (simp; done) | (simp; omega)) _) | (refine Below.setCell ?_ (by first | omega | (simp; done) | (simp; omega)) _) | refine Below.drew ?_ | refine below_drewN ?_ _))) (Nat.le_refl _) hb
    have z2 : ¬ w1.heap.size = w.heap.size + 1 := by omega
    have z3 : ¬ w.heap.size + 1 = w1.heap.size := by omega
    have z4 : w.heap.size ≤ w1.heap.size := by omega
    have z5 : w.heap.size ≤ w.heap.size + 1 := by omega
    clear hb zB
    generalize w1.heap.size = n1 at *
    go_wp2_with fail
    have R2 := Box2.far2 (u0 := .int .u64 sh) (u1 := .int .u64 sl) R1 z2
    exact bodyPost_ret (v := .agg #[.int .u64 sh, .int .u64 sl]) (by simp [results, Try.results86, go_sem, R2]) rfl ⟨rfl, by (repeat (first | exact Below.refl _ _ | assumption | (refine Below.alloc ?_ (by first | omega | (simp; done) | (simp; omega)) _) | (refine Below.setCell ?_ (by first | omega | (simp; done) | (simp; omega)) _) | refine Below.drew ?_ | refine below_drewN ?_ _))⟩
theorem addw_one (X : Nat) (w : World) : Calls Try.prog 53 #[.agg #[.int .u64 (hi64 (X) : Nat), .int .u64 (lo64 (X) : Nat)], .agg #[.int .u64 0, .int .u64 1]] w fun e w' => ∃ c : Bool, e = .returned (.tuple #[.agg #[.int .u64 (hi64 (X + 1) : Nat), .int .u64 (lo64 (X + 1) : Nat)], .bool c]) ∧ Below w.heap.size w w' := by
  have h := addw_u X 1 w
  rw [show hi64 1 = 0 by decide, show lo64 1 = 1 by decide] at h
  exact h.mono fun e w' ⟨he, hh⟩ => ⟨_, he, hh⟩
theorem up_u (A b : Nat) (hA : A < 340282366920938463463374607431768211456) (hb0 : 0 < b) (hb : b < 18446744073709551616) (w : World) : Calls Try.prog 86 #[.agg #[.int .u64 (hi64 (A) : Nat), .int .u64 (lo64 (A) : Nat)], .int .u64 b] w (Ret128 w ((A + (b - 1)) / b)) := by
  have h := up_g _ _ b _ _ (m128 A % b) _ _ w (wdiv_u A b hb0 hb) (addw_one (m128 A / b))
  refine h.mono fun e w' ⟨he, hh⟩ => ⟨?_, hh⟩
  rw [he, m128_id hA]
  have e1 : (A + (b - 1)) / b = A / b + if 0 < A % b then 1 else 0 := by
    have h1 := Nat.div_add_mod A b
    have h2 := Nat.mod_lt A hb0
    generalize A / b = q at *
    generalize A % b = r at *
    rw [← h1, Nat.add_assoc, Nat.mul_add_div hb0]
    congr 1
    split
    · rename_i h
      rw [show r + (b - 1) = b + (r - 1) by omega, Nat.add_div_left _ hb0, Nat.div_eq_of_lt (by omega)]
    · rename_i h
      rw [show r = 0 by omega, Nat.zero_add, Nat.div_eq_of_lt (by omega)]
  rw [e1]
  by_cases hr : 0 < A % b
  · rw [if_pos hr, if_pos hr, if_pos hr]
  · rw [if_neg hr, if_neg hr, if_neg hr, Nat.add_zero]
/-- What First hands back: the number and the error's number. -/
def fstN (v : Nat) (k : Int) (m : Nat) : Nat := if chkR k m = 0 ∧ v ≤ m then fstV v k.toNat m else 0
def fstE (v : Nat) (k : Int) (m : Nat) : Int := if chkR k m = 0 then (if v ≤ m then 0 else 2) else chkR k m
set_option maxHeartbeats 1000000 in
theorem first_bad (v m : Nat) (k c : Int) (hc : c ≠ 0) (w : World) (H1 : ∀ W, Calls Try.prog 59 #[.int .i64 k, .int .u64 m] W fun e w' => e = .returned (.int .i64 c) ∧ W = w') :
    Calls Try.prog 62 #[.int .u64 v, .int .i64 k, .int .u64 m] w fun e w' => e = .returned (.tuple #[.agg #[.int .u64 0, .int .u64 0], .int .i64 c]) ∧ Below w.heap.size w w' := by
  replace H1 := hide H1
  have t1 : (c == 0) = false := by rw [beq_eq_false_iff_ne]; exact hc
  go_enter Try.func62, Try.ntmps62
  go_wp2_with fail
  refine (H1.out _).mono ?_
  rintro e w1 ⟨rfl, rfl⟩
  go_wp2_with fail
  exact bodyPost_ret (v := .tuple #[.agg #[.int .u64 0, .int .u64 0], .int .i64 c]) (by simp [results, Try.results62, go_sem]) rfl ⟨rfl, by (repeat (first | exact Below.refl _ _ | assumption | (refine Below.alloc ?_ (by first | omega | (simp; done) | (simp; omega)) _) | (refine Below.setCell ?_ (by first | omega | (simp; done) | (simp; omega)) _) | refine Below.drew ?_ | refine below_drewN ?_ _))⟩
set_option maxHeartbeats 1000000 in
theorem first_dom (v m : Nat) (k : Int) (hv : m < v) (w : World) (H1 : ∀ W, Calls Try.prog 59 #[.int .i64 k, .int .u64 m] W fun e w' => e = .returned (.int .i64 0) ∧ W = w') :
    Calls Try.prog 62 #[.int .u64 v, .int .i64 k, .int .u64 m] w fun e w' => e = .returned (.tuple #[.agg #[.int .u64 0, .int .u64 0], .int .i64 2]) ∧ Below w.heap.size w w' := by
  replace H1 := hide H1
  have t1 : decide (m < v) = true := decide_eq_true hv
  have t2 : (m : Int) < (v : Int) := by omega
  go_enter Try.func62, Try.ntmps62
  go_wp2_with fail
  refine (H1.out _).mono ?_
  rintro e w1 ⟨rfl, rfl⟩
  go_wp2_with fail
  exact bodyPost_ret (v := .tuple #[.agg #[.int .u64 0, .int .u64 0], .int .i64 2]) (by simp [results, Try.results62, go_sem]) rfl ⟨rfl, by (repeat (first | exact Below.refl _ _ | assumption | (refine Below.alloc ?_ (by first | omega | (simp; done) | (simp; omega)) _) | (refine Below.setCell ?_ (by first | omega | (simp; done) | (simp; omega)) _) | refine Below.drew ?_ | refine below_drewN ?_ _))⟩
set_option maxHeartbeats 1000000 in
theorem first_g (v m h0 l0 h1 l1 : Nat) (k : Int) (hv : v ≤ m) (w : World) (H1 : ∀ W, Calls Try.prog 59 #[.int .i64 k, .int .u64 m] W fun e w' => e = .returned (.int .i64 0) ∧ W = w')
    (H2 : ∀ W, Calls Try.prog 48 #[.agg #[.int .u64 0, .int .u64 v], .int .i64 k] W fun e w' => e = .returned (.agg #[.int .u64 h0, .int .u64 l0]) ∧ Below W.heap.size W w')
    (H3 : ∀ W, Calls Try.prog 86 #[.agg #[.int .u64 h0, .int .u64 l0], .int .u64 m] W fun e w' => e = .returned (.agg #[.int .u64 h1, .int .u64 l1]) ∧ Below W.heap.size W w') :
    Calls Try.prog 62 #[.int .u64 v, .int .i64 k, .int .u64 m] w fun e w' => e = .returned (.tuple #[.agg #[.int .u64 h1, .int .u64 l1], .int .i64 0]) ∧ Below w.heap.size w w' := by
  replace H1 := hide H1
  replace H2 := hide H2
  replace H3 := hide H3
  have t1 : decide (m < v) = false := decide_eq_false (by omega)
  have t2 : ¬ (m : Int) < (v : Int) := by omega
  go_enter Try.func62, Try.ntmps62
  go_wp2_with fail
  refine (H1.out _).mono ?_
  rintro e w1 ⟨rfl, rfl⟩
  go_wp2_with fail
  refine (H2.out _).mono ?_
  rintro e w1 ⟨rfl, hb⟩
  have R1 := Box2.call hb (show Box2 _ w.heap.size (.int .u64 0) (.int .u64 0) from (by (refine ⟨?_, ?_, ?_, ?_, ?_⟩ <;> simp [go_sem] <;> omega)))
  have B : Below w.heap.size w w1 := below_call (by (repeat (first | exact Below.refl _ _ | assumption | (refine Below.alloc ?_ (by first | omega | (simp; done) | (simp; omega)) _) | (refine Below.setCell ?_ (by first | omega | (simp; done) | (simp; omega)) _) | refine Below.drew ?_ | refine below_drewN ?_ _))) (Nat.le_refl _) hb
  clear hb
  go_wp2_with fail
  refine (H3.out _).mono ?_
  rintro e w2 ⟨rfl, hb⟩
  replace R1 := Box2.call hb R1
  replace B : Below w.heap.size w w2 := below_call B (Nat.le_refl _) hb
  clear hb
  go_wp2_with fail
  exact bodyPost_ret (v := .tuple #[.agg #[.int .u64 h1, .int .u64 l1], .int .i64 0]) (by simp [results, Try.results62, go_sem, R1]) rfl ⟨rfl, by (repeat (first | exact Below.refl _ _ | assumption | (refine Below.alloc ?_ (by first | omega | (simp; done) | (simp; omega)) _) | (refine Below.setCell ?_ (by first | omega | (simp; done) | (simp; omega)) _) | refine Below.drew ?_ | refine below_drewN ?_ _))⟩
theorem first_any (v m : Nat) (k : Int) (hv : v < 18446744073709551616) (hm : m < 18446744073709551616) (w : World) : Calls Try.prog 62 #[.int .u64 v, .int .i64 k, .int .u64 m] w fun e w' => e = .returned (.tuple #[.agg #[.int .u64 (hi64 (fstN v k m) : Nat), .int .u64 (lo64 (fstN v k m) : Nat)], .int .i64 (fstE v k m)]) ∧ Below w.heap.size w w' := by
  have HC : ∀ {c : Int}, chkR k m = c → ∀ W, Calls Try.prog 59 #[.int .i64 k, .int .u64 m] W fun e w' => e = .returned (.int .i64 c) ∧ W = w' := fun h W => h ▸ rchk_any k m W
  by_cases hc : chkR k m = 0
  · obtain ⟨h1, h2, h3⟩ := chkR_ok hc
    by_cases hle : v ≤ m
    · have hN : fstN v k m = (v * 2 ^ k.toNat + (m - 1)) / m := if_pos ⟨hc, hle⟩
      have hE : fstE v k m = 0 := by unfold fstE; rw [if_pos hc, if_pos hle]
      rw [hN, hE]
      have hA : v * 2 ^ k.toNat < 340282366920938463463374607431768211456 := by
        have h4 := Nat.mul_le_mul_left v (pow_le_64 h2)
        omega
      exact first_g v m _ _ _ _ k hle w (HC hc) (shl_low v k hv h2) (up_u _ m hA h3 hm)
    · have hN : fstN v k m = 0 := if_neg (by omega)
      have hE : fstE v k m = 2 := by unfold fstE; rw [if_pos hc, if_neg hle]
      rw [hN, hE]
      exact first_dom v m k (by omega) w (HC hc)
  · have hN : fstN v k m = 0 := if_neg (by omega)
    have hE : fstE v k m = chkR k m := if_neg hc
    rw [hN, hE]
    exact first_bad v m k _ hc w (HC rfl)

set_option maxHeartbeats 1000000 in
theorem part_g (v m h0 l0 bk bm : Nat) (k c : Int) (w : World) (hk : w.cell? ⟨bk, 0, none⟩ = some (.int .i64 k)) (hm : w.cell? ⟨bm, 0, none⟩ = some (.int .u64 m))
    (H1 : ∀ W, Calls Try.prog 62 #[.int .u64 v, .int .i64 k, .int .u64 m] W fun e w' => e = .returned (.tuple #[.agg #[.int .u64 h0, .int .u64 l0], .int .i64 c]) ∧ Below W.heap.size W w') :
    Calls Try.prog 87 #[.int .u64 v, .pointer (some ⟨bk, 0, none⟩), .pointer (some ⟨bm, 0, none⟩)] w fun e w' => e = .returned (.agg #[.int .u64 h0, .int .u64 l0]) ∧ Below w.heap.size w w' := by
  replace H1 := hide H1
  have zk := World.block_lt_of_cell? _ _ hk
  have zm := World.block_lt_of_cell? _ _ hm
  go_enter Try.func87, Try.ntmps87
  go_wp2_with fail
  refine (H1.out _).mono ?_
  rintro e w1 ⟨rfl, hb⟩
  have R1 := Box2.call hb (show Box2 _ w.heap.size (.int .u64 0) (.int .u64 0) from (by (refine ⟨?_, ?_, ?_, ?_, ?_⟩ <;> simp [go_sem] <;> omega)))
  have B : Below w.heap.size w w1 := below_call (by (repeat (first | exact Below.refl _ _ | assumption | (refine Below.alloc ?_ (by first | omega | (simp; done) | (simp; omega)) _) | (refine Below.setCell ?_ (by first | omega | (simp; done) | (simp; omega)) _) | refine Below.drew ?_ | refine below_drewN ?_ _))) (Nat.le_refl _) hb
  clear hb
  go_wp2_with fail
  exact bodyPost_ret (v := .agg #[.int .u64 h0, .int .u64 l0]) (by simp [results, Try.results87, go_sem, R1]) rfl ⟨rfl, by (repeat (first | exact Below.refl _ _ | assumption | (refine Below.alloc ?_ (by first | omega | (simp; done) | (simp; omega)) _) | (refine Below.setCell ?_ (by first | omega | (simp; done) | (simp; omega)) _) | refine Below.drew ?_ | refine below_drewN ?_ _))⟩
end Go.Proofs.Ytioieoinkjfcfaa
