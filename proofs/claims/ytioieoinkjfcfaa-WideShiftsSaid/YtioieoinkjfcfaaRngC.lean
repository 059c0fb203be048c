/-
  Walks of the reference of chapter 26 (Check, Has, Reduce, First, Count) and of the chapter's 'awake'. Conditions: numbers fit 64 bits.
-/
import Derived.Test.YtioieoinkjfcfaaRngB
import Derived.Test.YtioieoinkjfcfaaBitsS
import Derived.Test.YtioieoinkjfcfaaBitsC
import Derived.Test.YtioieoinkjfcfaaDivR
namespace Go.Proofs.Ytioieoinkjfcfaa
open Go.RowKit Go.Shelf
set_option linter.unusedVariables false

set_option maxHeartbeats 400000 in
theorem rchk_ref (k : Int) (m : Nat) (w : World) : Calls Try.prog 58 #[.int .i64 k, .int .u64 m] w fun e w' => e = .returned (.int .i64 (chkR k m)) ∧ w = w' := by
  rcases (show k < 1 ∨ (1 ≤ k ∧ 64 < k) ∨ (1 ≤ k ∧ k ≤ 64) by omega) with h | ⟨h1, h2⟩ | ⟨h1, h2⟩
  · have hv : chkR k m = 1 := by unfold chkR; rw [if_pos (.inl h)]
    rw [hv]
    have t1 : decide (k < 1) = true := decide_eq_true h
    go_enter Try.func58, Try.ntmps58
    go_wp2
    go_ret
    exact ⟨rfl, rfl⟩
  · have hv : chkR k m = 1 := by unfold chkR; rw [if_pos (.inr h2)]
    rw [hv]
    have t1 : decide (k < 1) = false := decide_eq_false (by omega)
    have t2 : decide (64 < k) = true := decide_eq_true h2
    have t3 : ¬ k < 1 := by omega
    go_enter Try.func58, Try.ntmps58
    go_wp2
    go_ret
    exact ⟨rfl, rfl⟩
  · have t1 : decide (k < 1) = false := decide_eq_false (by omega)
    have t2 : decide (64 < k) = false := decide_eq_false (by omega)
    have t3 : ¬ k < 1 := by omega
    have t4 : ¬ 64 < k := by omega
    by_cases hm : m = 0
    · subst hm
      have hv : chkR k 0 = 8 := by unfold chkR; rw [if_neg (by omega), if_pos rfl]
      rw [hv]
      go_enter Try.func58, Try.ntmps58
      go_wp2
      go_ret
      exact ⟨rfl, rfl⟩
    · have hv : chkR k m = 0 := by unfold chkR; rw [if_neg (by omega), if_neg hm]
      rw [hv]
      have t5 : ((m : Int) == 0) = false := by rw [beq_eq_false_iff_ne]; omega
      have t6 : ¬ (m : Int) = 0 := by omega
      clear hv hm
      go_enter Try.func58, Try.ntmps58
      go_wp2
      go_ret
      exact ⟨rfl, rfl⟩
set_option maxHeartbeats 2000000 in
theorem has_g (x l : Nat) (k : Int) (L : List Value) (w : World)
    (H1 : ∀ W, Calls Try.prog 30 #[.int .u64 x, .int .i64 64] W fun e w' => ∃ A c, e = .returned (.slice A 64 c) ∧ Rs w' A L ∧ Below W.heap.size W w')
    (H2 : ∀ W A c, Rs W A L → Calls Try.prog 24 #[.slice A 64 c] W fun e w' => e = .returned (.int .i64 l) ∧ W = w')
    : Calls Try.prog 60 #[.int .u64 x, .int .i64 k] w fun e w' => e = .returned (.bool (decide (k < (l : Int)))) ∧ Below w.heap.size w w' := by
  replace H1 := hide H1
  replace H2 := hide H2
  go_enter Try.func60, Try.ntmps60
  go_wp2_with fail
  refine (H1.out _).mono ?_
  rintro e w1 ⟨A1, c1, rfl, r1, hb⟩
  go_wp2_with fail
  refine (H2.out _ _ _ r1).mono ?_
  rintro e w2 ⟨rfl, rfl⟩
  go_wp2_with fail
  go_ret
  exact ⟨rfl, hb⟩
/-- Whether a number has more bits. -/
def hasB (x : Nat) (k : Int) : Bool := decide (k < (lenB x 64 : Int))
theorem hasB_iff {x : Nat} {k : Int} (hx : x < 18446744073709551616) (hk : 0 ≤ k) : hasB x k = !decide (x < 2 ^ k.toNat) := by
  have h := lenB_iff (X := x) (n := 64) (k := k.toNat) hx
  unfold hasB
  by_cases h2 : x < 2 ^ k.toNat
  · rw [decide_eq_true h2]
    have := h.2 h2
    exact decide_eq_false (by omega)
  · rw [decide_eq_false h2]
    have : ¬ lenB x 64 ≤ k.toNat := fun h3 => h2 (h.1 h3)
    exact decide_eq_true (by omega)
theorem has_any (x : Nat) (k : Int) (hx : x < 18446744073709551616) (w : World) : Calls Try.prog 60 #[.int .u64 x, .int .i64 k] w fun e w' => e = .returned (.bool (hasB x k)) ∧ Below w.heap.size w w' :=
  has_g x (lenB x 64) k _ w (fun W => of_u x 64 64 rfl (by omega) W hx) (fun W A c r => len_ref A 64 c _ x W r (by omega))
set_option maxHeartbeats 2000000 in
theorem redr_g (x m q : Nat) (k : Int) (L1 L2 L3 L4 : List Value) (w : World)
    (H1 : ∀ W, Calls Try.prog 30 #[.int .u64 x, .int .i64 64] W fun e w' => ∃ A c, e = .returned (.slice A 64 c) ∧ Rs w' A L1 ∧ Below W.heap.size W w')
    (H2 : ∀ W, Calls Try.prog 30 #[.int .u64 m, .int .i64 64] W fun e w' => ∃ A c, e = .returned (.slice A 64 c) ∧ Rs w' A L2 ∧ Below W.heap.size W w')
    (H3 : ∀ W A c A' c', Rs W A L1 → Rs W A' L2 → Calls Try.prog 81 #[.slice A 64 c, .slice A' 64 c', .int .i64 128] W fun e w' => ∃ A c, e = .returned (.slice A 128 c) ∧ Rs w' A L3 ∧ Below W.heap.size W w')
    (H4 : ∀ W A c, Rs W A L3 → Calls Try.prog 50 #[.slice A 128 c, .int .i64 k, .int .i64 128] W fun e w' => ∃ A c, e = .returned (.slice A 128 c) ∧ Rs w' A L4 ∧ Below W.heap.size W w')
    (H5 : ∀ W A c, Rs W A L4 → Calls Try.prog 55 #[.slice A 128 c, .int .i64 0] W fun e w' => e = .returned (.int .u64 q) ∧ W = w')
    : Calls Try.prog 61 #[.int .u64 x, .int .i64 k, .int .u64 m] w fun e w' => e = .returned (.int .u64 q) ∧ Below w.heap.size w w' := by
  replace H1 := hide H1
  replace H2 := hide H2
  replace H3 := hide H3
  replace H4 := hide H4
  replace H5 := hide H5
  go_enter Try.func61, Try.ntmps61
  go_wp2_with fail
  refine (H1.out _).mono ?_
  rintro e w1 ⟨A1, c1, rfl, r1, B⟩
  go_wp2_with fail
  refine (H2.out _).mono ?_
  rintro e w2 ⟨A2, c2, rfl, r2, hb⟩
  replace r1 := Rs.go hb (by first | exact r1 | exact Rs.alloc r1 _ | exact Rs.alloc (Rs.alloc r1 _) _)
  replace B : Below w.heap.size w w2 := below_call (by (repeat (first | exact Below.refl _ _ | assumption | (refine Below.alloc ?_ (by first | omega | (simp; done) | (simp; omega)) _) | (refine Below.setCell ?_ (by first | omega | (simp; done) | (simp; omega)) _) | refine Below.drew ?_ | refine below_drewN ?_ _))) (Nat.le_refl _) hb
  clear hb
  go_wp2_with fail
  refine (H3.out _ _ _ _ _ r1 r2).mono ?_
  rintro e w3 ⟨A3, c3, rfl, r3, hb⟩
  replace B : Below w.heap.size w w3 := below_call (by (repeat (first | exact Below.refl _ _ | assumption | (refine Below.alloc ?_ (by first | omega | (simp; done) | (simp; omega)) _) | (refine Below.setCell ?_ (by first | omega | (simp; done) | (simp; omega)) _) | refine Below.drew ?_ | refine below_drewN ?_ _))) (Nat.le_refl _) hb
  clear hb
  clear r1 r2
  go_wp2_with fail
  refine (H4.out _ _ _ r3).mono ?_
  rintro e w4 ⟨A4, c4, rfl, r4, hb⟩
  replace B : Below w.heap.size w w4 := below_call (by (repeat (first | exact Below.refl _ _ | assumption | (refine Below.alloc ?_ (by first | omega | (simp; done) | (simp; omega)) _) | (refine Below.setCell ?_ (by first | omega | (simp; done) | (simp; omega)) _) | refine Below.drew ?_ | refine below_drewN ?_ _))) (Nat.le_refl _) hb
  clear hb
  clear r3
  go_wp2_with fail
  refine (H5.out _ _ _ r4).mono ?_
  rintro e w5 ⟨rfl, rfl⟩
  go_wp2_with fail
  go_ret
  exact ⟨rfl, B⟩
theorem redr_any (x m : Nat) (k : Int) (hx : x < 18446744073709551616) (hm : m < 18446744073709551616) (h1 : 0 ≤ k) (h2 : k ≤ 64) (hlt : x < 2 ^ k.toNat) (hm0 : 0 < m) (w : World) : Calls Try.prog 61 #[.int .u64 x, .int .i64 k, .int .u64 m] w fun e w' => e = .returned (.int .u64 (rdV x k.toNat m : Nat)) ∧ Below w.heap.size w w' := by
  have hx2 : x < 2 ^ 64 := hx
  have hm2 : m < 2 ^ 64 := hm
  have hp : x * m < 2 ^ 128 := by rw [show (128 : Nat) = 64 + 64 from rfl, Nat.pow_add]; exact Nat.mul_lt_mul_of_lt_of_lt hx2 hm2
  have hq : x * m / 2 ^ k.toNat < m := rdV_lt hlt hm0
  have hw : wordV (x * m / 2 ^ k.toNat) 0 = rdV x k.toNat m := by rw [word_lo, lo_low (by omega)]; rfl
  refine redr_g x m _ k _ _ _ _ w (fun W => of_u x 64 64 rfl (by omega) W hx) (fun W => of_u m 64 64 rfl (by omega) W hm) (fun W A c A' c' r r' => mul_r A A' 64 c 64 c' x m 128 128 rfl W r r' hx2 hm2 (by omega) (by omega) (by omega))
    (fun W A c r => shr_r A 128 c _ k k.toNat (by omega) (by omega) 128 128 rfl (by omega) (by omega) W r hp) ?_
  intro W A c r
  have h := word_any A 128 c _ _ 0 0 rfl W r (Nat.lt_of_lt_of_le (Nat.lt_trans hq hm2) (Nat.pow_le_pow_right (by omega) (by omega))) (by omega) (by omega)
  rw [hw] at h
  exact h
set_option maxHeartbeats 2000000 in
theorem fstr_g (v m m1 h0 l0 : Nat) (k cy : Int) (hm1 : IntKind.u64.wrap ((m : Int) - 1) = (m1 : Int)) (L1 L2 L3 L4 L5 L6 L7 : List Value) (w : World)
    (H1 : ∀ W, Calls Try.prog 30 #[.int .u64 v, .int .i64 64] W fun e w' => ∃ A c, e = .returned (.slice A 64 c) ∧ Rs w' A L1 ∧ Below W.heap.size W w')
    (H2 : ∀ W A c, Rs W A L1 → Calls Try.prog 26 #[.slice A 64 c, .int .i64 k, .int .i64 130] W fun e w' => ∃ A c, e = .returned (.slice A 130 c) ∧ Rs w' A L2 ∧ Below W.heap.size W w')
    (H3 : ∀ W, Calls Try.prog 30 #[.int .u64 m1, .int .i64 64] W fun e w' => ∃ A c, e = .returned (.slice A 64 c) ∧ Rs w' A L3 ∧ Below W.heap.size W w')
    (H4 : ∀ W A c A' c', Rs W A L2 → Rs W A' L3 → Calls Try.prog 16 #[.slice A 130 c, .slice A' 64 c', .int .i64 130] W fun e w' => ∃ A c, e = .returned (.tuple #[.slice A 130 c, .int .i64 cy]) ∧ Rs w' A L4 ∧ Below W.heap.size W w')
    (H5 : ∀ W, Calls Try.prog 30 #[.int .u64 m, .int .i64 64] W fun e w' => ∃ A c, e = .returned (.slice A 64 c) ∧ Rs w' A L5 ∧ Below W.heap.size W w')
    (H6 : ∀ W A c A' c', Rs W A L4 → Rs W A' L5 → Calls Try.prog 52 #[.slice A 130 c, .slice A' 64 c'] W fun e w' => ∃ A c A' c', e = .returned (.tuple #[.slice A 130 c, .slice A' 131 c']) ∧ Rs w' A L6 ∧ Rs w' A' L7 ∧ Below W.heap.size W w')
    (H7 : ∀ W A c, Rs W A L6 → Calls Try.prog 32 #[.slice A 130 c] W fun e w' => e = .returned (.agg #[.int .u64 h0, .int .u64 l0]) ∧ Below W.heap.size W w')
    : Calls Try.prog 64 #[.int .u64 v, .int .i64 k, .int .u64 m] w fun e w' => e = .returned (.agg #[.int .u64 h0, .int .u64 l0]) ∧ Below w.heap.size w w' := by
  replace H1 := hide H1
  replace H2 := hide H2
  replace H3 := hide H3
  replace H4 := hide H4
  replace H5 := hide H5
  replace H6 := hide H6
  replace H7 := hide H7
  go_enter Try.func64, Try.ntmps64
  go_wp2_with fail
  refine (H1.out _).mono ?_
  rintro e w1 ⟨A1, c1, rfl, r1, hb⟩
  have R1 := Box2.call hb (show Box2 _ w.heap.size (.int .u64 0) (.int .u64 0) from (by (refine ⟨?_, ?_, ?_, ?_, ?_⟩ <;> simp [go_sem] <;> omega)))
  have B : Below w.heap.size w w1 := below_call (by (repeat (first | exact Below.refl _ _ | assumption | (refine Below.alloc ?_ (by first | omega | (simp; done) | (simp; omega)) _) | (refine Below.setCell ?_ (by first | omega | (simp; done) | (simp; omega)) _) | refine Below.drew ?_ | refine below_drewN ?_ _))) (Nat.le_refl _) hb
  clear hb
  go_wp2_with fail
  refine (H2.out _ _ _ r1).mono ?_
  rintro e w2 ⟨A2, c2, rfl, r2, hb⟩
  replace R1 := Box2.call hb (by first | exact R1 | exact Box2.alloc _ R1 | exact Box2.alloc _ (Box2.alloc _ R1))
  replace B : Below w.heap.size w w2 := below_call (by (repeat (first | exact Below.refl _ _ | assumption | (refine Below.alloc ?_ (by first | omega | (simp; done) | (simp; omega)) _) | (refine Below.setCell ?_ (by first | omega | (simp; done) | (simp; omega)) _) | refine Below.drew ?_ | refine below_drewN ?_ _))) (Nat.le_refl _) hb
  clear hb
  clear r1
  go_wp2_with fail
  refine (H3.out _).mono ?_
  rintro e w3 ⟨A3, c3, rfl, r3, hb⟩
  replace R1 := Box2.call hb (by first | exact R1 | exact Box2.alloc _ R1 | exact Box2.alloc _ (Box2.alloc _ R1))
  replace r2 := Rs.go hb (by first | exact r2 | exact Rs.alloc r2 _ | exact Rs.alloc (Rs.alloc r2 _) _)
  replace B : Below w.heap.size w w3 := below_call (by (repeat (first | exact Below.refl _ _ | assumption | (refine Below.alloc ?_ (by first | omega | (simp; done) | (simp; omega)) _) | (refine Below.setCell ?_ (by first | omega | (simp; done) | (simp; omega)) _) | refine Below.drew ?_ | refine below_drewN ?_ _))) (Nat.le_refl _) hb
  clear hb
  go_wp2_with fail
  refine (H4.out _ _ _ _ _ r2 r3).mono ?_
  rintro e w4 ⟨A4, c4, rfl, r4, hb⟩
  replace R1 := Box2.call hb (by first | exact R1 | exact Box2.alloc _ R1 | exact Box2.alloc _ (Box2.alloc _ R1))
  replace B : Below w.heap.size w w4 := below_call (by (repeat (first | exact Below.refl _ _ | assumption | (refine Below.alloc ?_ (by first | omega | (simp; done) | (simp; omega)) _) | (refine Below.setCell ?_ (by first | omega | (simp; done) | (simp; omega)) _) | refine Below.drew ?_ | refine below_drewN ?_ _))) (Nat.le_refl _) hb
  clear hb
  clear r2 r3
  go_wp2_with fail
  refine (H5.out _).mono ?_
  rintro e w5 ⟨A5, c5, rfl, r5, hb⟩
  replace R1 := Box2.call hb (by first | exact R1 | exact Box2.alloc _ R1 | exact Box2.alloc _ (Box2.alloc _ R1))
  replace r4 := Rs.go hb (by first | exact r4 | exact Rs.alloc r4 _ | exact Rs.alloc (Rs.alloc r4 _) _)
  replace B : Below w.heap.size w w5 := below_call (by (repeat (first | exact Below.refl _ _ | assumption | (refine Below.alloc ?_ (by first | omega | (simp; done) | (simp; omega)) _) | (refine Below.setCell ?_ (by first | omega | (simp; done) | (simp; omega)) _) | refine Below.drew ?_ | refine below_drewN ?_ _))) (Nat.le_refl _) hb
  clear hb
  go_wp2_with fail
  refine (H6.out _ _ _ _ _ r4 r5).mono ?_
  rintro e w6 ⟨A6, c6, A7, c7, rfl, r6, r7, hb⟩
  replace R1 := Box2.call hb (by first | exact R1 | exact Box2.alloc _ R1 | exact Box2.alloc _ (Box2.alloc _ R1))
  replace B : Below w.heap.size w w6 := below_call (by (repeat (first | exact Below.refl _ _ | assumption | (refine Below.alloc ?_ (by first | omega | (simp; done) | (simp; omega)) _) | (refine Below.setCell ?_ (by first | omega | (simp; done) | (simp; omega)) _) | refine Below.drew ?_ | refine below_drewN ?_ _))) (Nat.le_refl _) hb
  clear hb
  clear r4 r5 r7
  go_wp2_with fail
  refine (H7.out _ _ _ r6).mono ?_
  rintro e w7 ⟨rfl, hb⟩
  replace R1 := Box2.call hb (by first | exact R1 | exact Box2.alloc _ R1 | exact Box2.alloc _ (Box2.alloc _ R1))
  replace B : Below w.heap.size w w7 := below_call (by (repeat (first | exact Below.refl _ _ | assumption | (refine Below.alloc ?_ (by first | omega | (simp; done) | (simp; omega)) _) | (refine Below.setCell ?_ (by first | omega | (simp; done) | (simp; omega)) _) | refine Below.drew ?_ | refine below_drewN ?_ _))) (Nat.le_refl _) hb
  clear hb
  go_wp2_with fail
  exact bodyPost_ret (v := .agg #[.int .u64 h0, .int .u64 l0]) (by simp [results, Try.results64, go_sem, R1]) rfl ⟨rfl, by (repeat (first | exact Below.refl _ _ | assumption | (refine Below.alloc ?_ (by first | omega | (simp; done) | (simp; omega)) _) | (refine Below.setCell ?_ (by first | omega | (simp; done) | (simp; omega)) _) | refine Below.drew ?_ | refine below_drewN ?_ _))⟩
theorem fstr_any (v m : Nat) (k : Int) (hv : v ≤ m) (hm : m < 18446744073709551616) (hm0 : 0 < m) (h1 : 0 ≤ k) (h2 : k ≤ 64) (w : World) : Calls Try.prog 64 #[.int .u64 v, .int .i64 k, .int .u64 m] w (Ret128 w (fstV v k.toNat m)) := by
  have hp := pow_le_64 h2
  have hvp := Nat.mul_le_mul_left v hp
  have h130 : (2 : Nat) ^ 130 = 1361129467683753853853498429727072845824 := by decide
  have hA : v * 2 ^ k.toNat < 2 ^ 130 := by rw [h130]; omega
  have hS : v * 2 ^ k.toNat + (m - 1) < 2 ^ 130 := by rw [h130]; omega
  have hQ : (v * 2 ^ k.toNat + (m - 1)) / m < 2 ^ 130 := Nat.lt_of_le_of_lt (Nat.div_le_self _ _) hS
  have hv2 : v < 2 ^ 64 := Nat.lt_of_le_of_lt hv hm
  have hm2 : m < 2 ^ 64 := hm
  have hm12 : m - 1 < 2 ^ 64 := Nat.lt_of_le_of_lt (Nat.sub_le _ _) hm
  exact fstr_g v m (m - 1) _ _ k _ (wu_sub (b := 1) (by omega) (by omega)) _ _ _ _ _ _ _ w (fun W => of_u v 64 64 rfl (by omega) W hv2)
    (fun W A c r => shl_r A 64 c v k k.toNat (by omega) (by omega) 130 130 rfl (by omega) (by omega) W r hv2) (fun W => of_u (m - 1) 64 64 rfl (by omega) W hm12)
    (fun W A c A' c' r r' => add_r A A' 130 c 64 c' (v * 2 ^ k.toNat) (m - 1) 130 130 rfl W r r' hA hm12 (by omega) (by omega) (by omega)) (fun W => of_u m 64 64 rfl (by omega) W hm)
    (fun W A c A' c' r r' => div_ref A A' 130 c 64 c' _ m W r r' hS hm2 hm0 (by omega) (by omega) 131 (by omega)) (fun W A c r => to2_any A 130 c _ _ W r hQ (by omega) (Nat.le_refl _))
set_option maxHeartbeats 2000000 in
theorem cntr_g (v v1 m h0 l0 h1 l1 h2 l2 : Nat) (k cy : Int) (hv1 : IntKind.u64.wrap ((v : Int) + 1) = (v1 : Int)) (L1 L2 L3 : List Value) (w : World)
    (H1 : ∀ W, Calls Try.prog 64 #[.int .u64 v1, .int .i64 k, .int .u64 m] W fun e w' => e = .returned (.agg #[.int .u64 h1, .int .u64 l1]) ∧ Below W.heap.size W w')
    (H2 : ∀ W, Calls Try.prog 29 #[.agg #[.int .u64 h1, .int .u64 l1]] W fun e w' => ∃ A c, e = .returned (.slice A 128 c) ∧ Rs w' A L1 ∧ Below W.heap.size W w')
    (H3 : ∀ W, Calls Try.prog 64 #[.int .u64 v, .int .i64 k, .int .u64 m] W fun e w' => e = .returned (.agg #[.int .u64 h0, .int .u64 l0]) ∧ Below W.heap.size W w')
    (H4 : ∀ W, Calls Try.prog 29 #[.agg #[.int .u64 h0, .int .u64 l0]] W fun e w' => ∃ A c, e = .returned (.slice A 128 c) ∧ Rs w' A L2 ∧ Below W.heap.size W w')
    (H5 : ∀ W A c A' c', Rs W A L1 → Rs W A' L2 → Calls Try.prog 18 #[.slice A 128 c, .slice A' 128 c', .int .i64 128] W fun e w' => ∃ A c, e = .returned (.tuple #[.slice A 128 c, .int .i64 cy]) ∧ Rs w' A L3 ∧ Below W.heap.size W w')
    (H6 : ∀ W A c, Rs W A L3 → Calls Try.prog 32 #[.slice A 128 c] W fun e w' => e = .returned (.agg #[.int .u64 h2, .int .u64 l2]) ∧ Below W.heap.size W w')
    : Calls Try.prog 65 #[.int .u64 v, .int .i64 k, .int .u64 m] w fun e w' => e = .returned (.agg #[.int .u64 h2, .int .u64 l2]) ∧ Below w.heap.size w w' := by
  replace H1 := hide H1
  replace H2 := hide H2
  replace H3 := hide H3
  replace H4 := hide H4
  replace H5 := hide H5
  replace H6 := hide H6
  go_enter Try.func65, Try.ntmps65
  go_wp2_with fail
  refine (H1.out _).mono ?_
  rintro e w1 ⟨rfl, hb⟩
  have R1 := Box2.call hb (show Box2 _ w.heap.size (.int .u64 0) (.int .u64 0) from (by (refine ⟨?_, ?_, ?_, ?_, ?_⟩ <;> simp [go_sem] <;> omega)))
  have B : Below w.heap.size w w1 := below_call (by (repeat (first | exact Below.refl _ _ | assumption | (refine Below.alloc ?_ (by first | omega | (simp; done) | (simp; omega)) _) | (refine Below.setCell ?_ (by first | omega | (simp; done) | (simp; omega)) _) | refine Below.drew ?_ | refine below_drewN ?_ _))) (Nat.le_refl _) hb
  clear hb
  go_wp2_with fail
  refine (H2.out _).mono ?_
  rintro e w2 ⟨A1, c1, rfl, r1, hb⟩
  replace R1 := Box2.call hb (by first | exact R1 | exact Box2.alloc _ R1 | exact Box2.alloc _ (Box2.alloc _ R1))
  replace B : Below w.heap.size w w2 := below_call (by (repeat (first | exact Below.refl _ _ | assumption | (refine Below.alloc ?_ (by first | omega | (simp; done) | (simp; omega)) _) | (refine Below.setCell ?_ (by first | omega | (simp; done) | (simp; omega)) _) | refine Below.drew ?_ | refine below_drewN ?_ _))) (Nat.le_refl _) hb
  clear hb
  go_wp2_with fail
  refine (H3.out _).mono ?_
  rintro e w3 ⟨rfl, hb⟩
  replace R1 := Box2.call hb (by first | exact R1 | exact Box2.alloc _ R1 | exact Box2.alloc _ (Box2.alloc _ R1))
  replace r1 := Rs.go hb (by first | exact r1 | exact Rs.alloc r1 _ | exact Rs.alloc (Rs.alloc r1 _) _)
  replace B : Below w.heap.size w w3 := below_call (by (repeat (first | exact Below.refl _ _ | assumption | (refine Below.alloc ?_ (by first | omega | (simp; done) | (simp; omega)) _) | (refine Below.setCell ?_ (by first | omega | (simp; done) | (simp; omega)) _) | refine Below.drew ?_ | refine below_drewN ?_ _))) (Nat.le_refl _) hb
  clear hb
  go_wp2_with fail
  refine (H4.out _).mono ?_
  rintro e w4 ⟨A2, c2, rfl, r2, hb⟩
  replace R1 := Box2.call hb (by first | exact R1 | exact Box2.alloc _ R1 | exact Box2.alloc _ (Box2.alloc _ R1))
  replace r1 := Rs.go hb (by first | exact r1 | exact Rs.alloc r1 _ | exact Rs.alloc (Rs.alloc r1 _) _)
  replace B : Below w.heap.size w w4 := below_call (by (repeat (first | exact Below.refl _ _ | assumption | (refine Below.alloc ?_ (by first | omega | (simp; done) | (simp; omega)) _) | (refine Below.setCell ?_ (by first | omega | (simp; done) | (simp; omega)) _) | refine Below.drew ?_ | refine below_drewN ?_ _))) (Nat.le_refl _) hb
  clear hb
  go_wp2_with fail
  refine (H5.out _ _ _ _ _ r1 r2).mono ?_
  rintro e w5 ⟨A3, c3, rfl, r3, hb⟩
  replace R1 := Box2.call hb (by first | exact R1 | exact Box2.alloc _ R1 | exact Box2.alloc _ (Box2.alloc _ R1))
  replace B : Below w.heap.size w w5 := below_call (by (repeat (first | exact Below.refl _ _ | assumption | (refine Below.alloc ?_ (by first | omega | (simp; done) | (simp; omega)) _) | (refine Below.setCell ?_ (by first | omega | (simp; done) | (simp; omega)) _) | refine Below.drew ?_ | refine below_drewN ?_ _))) (Nat.le_refl _) hb
  clear hb
  clear r1 r2
  go_wp2_with fail
  refine (H6.out _ _ _ r3).mono ?_
  rintro e w6 ⟨rfl, hb⟩
  replace R1 := Box2.call hb (by first | exact R1 | exact Box2.alloc _ R1 | exact Box2.alloc _ (Box2.alloc _ R1))
  replace B : Below w.heap.size w w6 := below_call (by (repeat (first | exact Below.refl _ _ | assumption | (refine Below.alloc ?_ (by first | omega | (simp; done) | (simp; omega)) _) | (refine Below.setCell ?_ (by first | omega | (simp; done) | (simp; omega)) _) | refine Below.drew ?_ | refine below_drewN ?_ _))) (Nat.le_refl _) hb
  clear hb
  go_wp2_with fail
  exact bodyPost_ret (v := .agg #[.int .u64 h2, .int .u64 l2]) (by simp [results, Try.results65, go_sem, R1]) rfl ⟨rfl, by (repeat (first | exact Below.refl _ _ | assumption | (refine Below.alloc ?_ (by first | omega | (simp; done) | (simp; omega)) _) | (refine Below.setCell ?_ (by first | omega | (simp; done) | (simp; omega)) _) | refine Below.drew ?_ | refine below_drewN ?_ _))⟩
theorem cntr_any (v m : Nat) (k : Int) (hv : v < m) (hm : m < 18446744073709551616) (h1 : 0 ≤ k) (h2 : k ≤ 64) (w : World) : Calls Try.prog 65 #[.int .u64 v, .int .i64 k, .int .u64 m] w (Ret128 w (cntV v k.toNat m)) := by
  have hm0 : 0 < m := by omega
  have hp := pow_le_64 h2
  have hb1 := fstV_bound (k := k.toNat) hm0 (show v + 1 ≤ m from hv)
  have hb0 := fstV_mono (k := k.toNat) hm0 (show v ≤ v + 1 by omega)
  have hX : fstV (v + 1) k.toNat m < 2 ^ 128 := by rw [two128]; omega
  have hY : fstV v k.toNat m < 2 ^ 128 := by rw [two128]; omega
  have hd : dif (fstV (v + 1) k.toNat m) (fstV v k.toNat m) 128 = cntV v k.toNat m := by
    unfold dif
    rw [Nat.mod_eq_of_lt hX, Nat.mod_eq_of_lt hY]
    unfold cntV
    rw [two128] at *
    omega
  have h5 : ∀ W A c A' c', Rs W A (is (bitsOf (fstV (v + 1) k.toNat m) 128)) → Rs W A' (is (bitsOf (fstV v k.toNat m) 128)) → Calls Try.prog 18 #[.slice A 128 c, .slice A' 128 c', .int .i64 128] W (RetBI W (cntV v k.toNat m) 128 (lack (fstV (v + 1) k.toNat m) (fstV v k.toNat m) 128 : Nat)) := by
    intro W A c A' c' r r'
    have h := sub_r A A' 128 c 128 c' _ _ 128 128 rfl W r r' hX hY (by omega) (by omega) (by omega)
    rw [hd] at h
    exact h
  exact cntr_g v (v + 1) m _ _ _ _ _ _ k _ (wu_add (b := 1) (by omega)) _ _ _ w (fstr_any (v + 1) m k hv hm hm0 h1 h2) (of2_u _) (fstr_any v m k (Nat.le_of_lt hv) hm hm0 h1 h2) (of2_u _) h5 (fun W A c r => to2_u A c _ W r)
set_option maxHeartbeats 1000000 in
theorem awake26 (w : World) : Calls Try.prog 56 #[] w fun e w' => e = .returned (.bool true) ∧ Below w.heap.size w w' := by
  have H1 := hide (reduce_any 7 3 3 (by omega) (by omega))
  have H2 := hide (count_any 0 3 3 (by omega) (by omega))
  rw [show redV 7 3 3 = 2 by decide, show redE 7 3 3 = 0 by decide] at H1
  rw [show cntN 0 3 3 = 3 by decide, show cntE 0 3 3 = 0 by decide, show hi64 3 = 0 by decide, show lo64 3 = 3 by decide] at H2
  go_enter Try.func56, Try.ntmps56
  go_wp2_with fail
  refine (H1.out _).mono ?_
  rintro e w1 ⟨rfl, B⟩
  go_wp2_with fail
  refine (H2.out _).mono ?_
  rintro e w2 ⟨rfl, hb⟩
  replace B : Below w.heap.size w w2 := below_call B (Nat.le_refl _) hb
  have bz := B.size
  clear hb
  go_wp2_with fail
  go_ret
  exact ⟨rfl, by (repeat (first | exact Below.refl _ _ | assumption | (refine Below.alloc ?_ (by first | omega | (simp; done) | (simp; omega)) _) | (refine Below.setCell ?_ (by first | omega | (simp; done) | (simp; omega)) _) | refine Below.drew ?_ | refine below_drewN ?_ _))⟩
end Go.Proofs.Ytioieoinkjfcfaa
