/-
  Walks of ranges.Count, Rank, Unrank. Conditions: numbers fit 64 bits.
-/
import Derived.Test.YtioieoinkjfcfaaRngA
import Derived.Test.YtioieoinkjfcfaaOdd
import Derived.Deep.QuietTactic
import Derived.BigQuiet
namespace Go.Proofs.Ytioieoinkjfcfaa
open Go.RowKit Go.Shelf
set_option linter.unusedVariables false

set_option maxHeartbeats 1000000 in
theorem count_bad (v m : Nat) (k c : Int) (hc : c ≠ 0) (w : World) (H1 : ∀ W, Calls Try.prog 59 #[.int .i64 k, .int .u64 m] W fun e w' => e = .returned (.int .i64 c) ∧ W = w') :
    Calls Try.prog 63 #[.int .u64 v, .int .i64 k, .int .u64 m] w fun e w' => e = .returned (.tuple #[.agg #[.int .u64 0, .int .u64 0], .int .i64 c]) ∧ Below w.heap.size w w' := by
  replace H1 := hide H1
  have t1 : (c == 0) = false := by rw [beq_eq_false_iff_ne]; exact hc
  go_enter Try.func63, Try.ntmps63
  go_wp2_with fail
  refine (H1.out _).mono ?_
  rintro e w1 ⟨rfl, rfl⟩
  go_wp2_with fail
  exact bodyPost_ret (v := .tuple #[.agg #[.int .u64 0, .int .u64 0], .int .i64 c]) (by simp [results, Try.results63, go_sem]) rfl ⟨rfl, by (repeat (first | exact Below.refl _ _ | assumption | (refine Below.alloc ?_ (by first | omega | (simp; done) | (simp; omega)) _) | (refine Below.setCell ?_ (by first | omega | (simp; done) | (simp; omega)) _) | refine Below.drew ?_ | refine below_drewN ?_ _))⟩
set_option maxHeartbeats 1000000 in
theorem count_dom (v m : Nat) (k : Int) (hv : m ≤ v) (w : World) (H1 : ∀ W, Calls Try.prog 59 #[.int .i64 k, .int .u64 m] W fun e w' => e = .returned (.int .i64 0) ∧ W = w') :
    Calls Try.prog 63 #[.int .u64 v, .int .i64 k, .int .u64 m] w fun e w' => e = .returned (.tuple #[.agg #[.int .u64 0, .int .u64 0], .int .i64 2]) ∧ Below w.heap.size w w' := by
  replace H1 := hide H1
  have t1 : decide (m ≤ v) = true := decide_eq_true hv
  have t2 : (m : Int) ≤ (v : Int) := by omega
  go_enter Try.func63, Try.ntmps63
  go_wp2_with fail
  refine (H1.out _).mono ?_
  rintro e w1 ⟨rfl, rfl⟩
  go_wp2_with fail
  exact bodyPost_ret (v := .tuple #[.agg #[.int .u64 0, .int .u64 0], .int .i64 2]) (by simp [results, Try.results63, go_sem]) rfl ⟨rfl, by (repeat (first | exact Below.refl _ _ | assumption | (refine Below.alloc ?_ (by first | omega | (simp; done) | (simp; omega)) _) | (refine Below.setCell ?_ (by first | omega | (simp; done) | (simp; omega)) _) | refine Below.drew ?_ | refine below_drewN ?_ _))⟩
set_option maxHeartbeats 1000000 in
theorem count_g (v v1 m h0 l0 h1 l1 h2 l2 : Nat) (k c0 c1 : Int) (hv : v < m) (hm : m < 18446744073709551616) (hv1 : v1 = v + 1) (w : World) (H1 : ∀ W, Calls Try.prog 59 #[.int .i64 k, .int .u64 m] W fun e w' => e = .returned (.int .i64 0) ∧ W = w')
    (H2 : ∀ W, Calls Try.prog 62 #[.int .u64 v1, .int .i64 k, .int .u64 m] W fun e w' => e = .returned (.tuple #[.agg #[.int .u64 h1, .int .u64 l1], .int .i64 c1]) ∧ Below W.heap.size W w')
    (H3 : ∀ W, Calls Try.prog 62 #[.int .u64 v, .int .i64 k, .int .u64 m] W fun e w' => e = .returned (.tuple #[.agg #[.int .u64 h0, .int .u64 l0], .int .i64 c0]) ∧ Below W.heap.size W w')
    (H4 : ∀ W, Calls Try.prog 80 #[.agg #[.int .u64 h1, .int .u64 l1], .agg #[.int .u64 h0, .int .u64 l0]] W fun e w' => ∃ c : Bool, e = .returned (.tuple #[.agg #[.int .u64 h2, .int .u64 l2], .bool c]) ∧ Below W.heap.size W w') :
    Calls Try.prog 63 #[.int .u64 v, .int .i64 k, .int .u64 m] w fun e w' => e = .returned (.tuple #[.agg #[.int .u64 h2, .int .u64 l2], .int .i64 0]) ∧ Below w.heap.size w w' := by
  have K2 := hide (fun W bk bm hk hm => part_g v1 m h1 l1 bk bm k c1 W hk hm H2)
  have K3 := hide (fun W bk bm hk hm => part_g v m h0 l0 bk bm k c0 W hk hm H3)
  clear H2 H3
  replace H1 := hide H1
  replace H4 := hide H4
  have t1 : decide (m ≤ v) = false := decide_eq_false (by omega)
  have t2 : ¬ (m : Int) ≤ (v : Int) := by omega
  have t3 : IntKind.u64.wrap ((v : Int) + 1) = (v1 : Int) := by rw [hv1]; exact wu (n := v + 1) (by omega)
  clear hv1 hm hv
  go_enter Try.func63, Try.ntmps63
  go_wp2_with fail
  refine (H1.out _).mono ?_
  rintro e w1 ⟨rfl, rfl⟩
  go_wp2_with fail
  refine (K2.out _ _ _ (by simp [go_sem]) (by simp [go_sem])).mono ?_
  rintro e w1 ⟨rfl, hb⟩
  have C1 : w1.cell? ⟨w.heap.size, 0, none⟩ = some (.int .i64 k) := cell_call hb (by simp [go_sem])
  have C2 : w1.cell? ⟨w.heap.size + 1, 0, none⟩ = some (.int .u64 m) := cell_call hb (by simp [go_sem])
  have R1 := Box2.call hb (show Box2 _ (w.heap.size + 1 + 1) (.int .u64 0) (.int .u64 0) from (by (refine ⟨?_, ?_, ?_, ?_, ?_⟩ <;> simp [go_sem] <;> omega)))
  have B : Below w.heap.size w w1 := below_call (by (repeat (first | exact Below.refl _ _ | assumption | (refine Below.alloc ?_ (by first | omega | (simp; done) | (simp; omega)) _) | (refine Below.setCell ?_ (by first | omega | (simp; done) | (simp; omega)) _) | refine Below.drew ?_ | refine below_drewN ?_ _))) (Nat.le_refl _) hb
  clear hb
  go_wp2_with fail
  refine (K3.out _ _ _ C1 C2).mono ?_
  rintro e w2 ⟨rfl, hb⟩
  replace R1 := Box2.call hb R1
  replace B : Below w.heap.size w w2 := below_call B (Nat.le_refl _) hb
  clear hb C1 C2
  go_wp2_with fail
  refine (H4.out _).mono ?_
  rintro e w3 ⟨c, rfl, hb⟩
  replace R1 := Box2.call hb R1
  replace B : Below w.heap.size w w3 := below_call B (Nat.le_refl _) hb
  clear hb
  go_wp2_with fail
  exact bodyPost_ret (v := .tuple #[.agg #[.int .u64 h2, .int .u64 l2], .int .i64 0]) (by simp [results, Try.results63, go_sem, R1]) rfl ⟨rfl, by (repeat (first | exact Below.refl _ _ | assumption | (refine Below.alloc ?_ (by first | omega | (simp; done) | (simp; omega)) _) | (refine Below.setCell ?_ (by first | omega | (simp; done) | (simp; omega)) _) | refine Below.drew ?_ | refine below_drewN ?_ _))⟩
/-- What Count hands back: the number and the error's number. -/
def cntN (v : Nat) (k : Int) (m : Nat) : Nat := if chkR k m = 0 ∧ v < m then cntV v k.toNat m else 0
def cntE (v : Nat) (k : Int) (m : Nat) : Int := if chkR k m = 0 then (if v < m then 0 else 2) else chkR k m
theorem count_any (v m : Nat) (k : Int) (hv : v < 18446744073709551616) (hm : m < 18446744073709551616) (w : World) : Calls Try.prog 63 #[.int .u64 v, .int .i64 k, .int .u64 m] w fun e w' => e = .returned (.tuple #[.agg #[.int .u64 (hi64 (cntN v k m) : Nat), .int .u64 (lo64 (cntN v k m) : Nat)], .int .i64 (cntE v k m)]) ∧ Below w.heap.size w w' := by
  have HC : ∀ {c : Int}, chkR k m = c → ∀ W, Calls Try.prog 59 #[.int .i64 k, .int .u64 m] W fun e w' => e = .returned (.int .i64 c) ∧ W = w' := fun h W => h ▸ rchk_any k m W
  by_cases hc : chkR k m = 0
  · obtain ⟨h1, h2, h3⟩ := chkR_ok hc
    by_cases hle : v < m
    · have hN : cntN v k m = cntV v k.toNat m := if_pos ⟨hc, hle⟩
      have hE : cntE v k m = 0 := by unfold cntE; rw [if_pos hc, if_pos hle]
      rw [hN, hE]
      have hb1 := fstV_bound (k := k.toNat) h3 (show v + 1 ≤ m from hle)
      have hb0 := fstV_mono (k := k.toNat) h3 (show v ≤ v + 1 by omega)
      have hp := pow_le_64 h2
      have hF1 : fstN (v + 1) k m = fstV (v + 1) k.toNat m := if_pos ⟨hc, hle⟩
      have hF0 : fstN v k m = fstV v k.toNat m := if_pos ⟨hc, Nat.le_of_lt hle⟩
      have hd : dif128 (m128 (fstN (v + 1) k m)) (m128 (fstN v k m)) = cntV v k.toNat m := by
        rw [hF1, hF0, m128_id (by omega), m128_id (by omega)]
        unfold cntV dif128
        omega
      have h4 := wsub_u (fstN (v + 1) k m) (fstN v k m)
      rw [hd] at h4
      exact count_g v (v + 1) m _ _ _ _ _ _ k _ _ hle hm rfl w (HC hc) (first_any (v + 1) m k (by omega) hm) (first_any v m k hv hm) h4
    · have hN : cntN v k m = 0 := if_neg (by omega)
      have hE : cntE v k m = 2 := by unfold cntE; rw [if_pos hc, if_neg hle]
      rw [hN, hE]
      exact count_dom v m k (by omega) w (HC hc)
  · have hN : cntN v k m = 0 := if_neg (by omega)
    have hE : cntE v k m = chkR k m := if_neg hc
    rw [hN, hE]
    exact count_bad v m k _ hc w (HC rfl)
set_option maxHeartbeats 1000000 in
theorem rank_bad (x m : Nat) (k c : Int) (hc : c ≠ 0) (w : World) (H1 : ∀ W, Calls Try.prog 57 #[.int .u64 x, .int .i64 k, .int .u64 m] W fun e w' => e = .returned (.tuple #[.int .u64 0, .int .i64 c]) ∧ Below W.heap.size W w') :
    Calls Try.prog 66 #[.int .u64 x, .int .i64 k, .int .u64 m] w fun e w' => e = .returned (.tuple #[.int .u64 0, .int .u64 0, .int .i64 c]) ∧ Below w.heap.size w w' := by
  replace H1 := hide H1
  have t1 : (c == 0) = false := by rw [beq_eq_false_iff_ne]; exact hc
  go_enter Try.func66, Try.ntmps66
  go_wp2_with fail
  refine (H1.out _).mono ?_
  rintro e w1 ⟨rfl, B⟩
  go_wp2_with fail
  go_ret3
  exact ⟨rfl, B⟩
set_option maxHeartbeats 1000000 in
theorem rank_g (x m v h0 l0 r : Nat) (k c : Int) (hr : IntKind.u64.wrap ((x : Int) - (l0 : Int)) = (r : Int)) (w : World) (H1 : ∀ W, Calls Try.prog 57 #[.int .u64 x, .int .i64 k, .int .u64 m] W fun e w' => e = .returned (.tuple #[.int .u64 v, .int .i64 0]) ∧ Below W.heap.size W w')
    (H2 : ∀ W, Calls Try.prog 62 #[.int .u64 v, .int .i64 k, .int .u64 m] W fun e w' => e = .returned (.tuple #[.agg #[.int .u64 h0, .int .u64 l0], .int .i64 c]) ∧ Below W.heap.size W w') :
    Calls Try.prog 66 #[.int .u64 x, .int .i64 k, .int .u64 m] w fun e w' => e = .returned (.tuple #[.int .u64 v, .int .u64 r, .int .i64 0]) ∧ Below w.heap.size w w' := by
  replace H1 := hide H1
  replace H2 := hide H2
  go_enter Try.func66, Try.ntmps66
  go_wp2_with fail
  refine (H1.out _).mono ?_
  rintro e w1 ⟨rfl, B⟩
  go_wp2_with fail
  refine (H2.out _).mono ?_
  rintro e w2 ⟨rfl, hb⟩
  have bz := B.size
  replace B : Below w.heap.size w w2 := below_call B (Nat.le_refl _) hb
  have bz2 := B.size
  clear hb
  go_wp2_with fail
  go_quiet (fail)
  all_goals (try go_wp2_with fail)
  all_goals go_ret3
  all_goals exact ⟨rfl, by (repeat (first | exact Below.refl _ _ | assumption | (refine Below.alloc ?_ (by first | omega | (simp; done) | (simp; omega)) _) | (refine Below.setCell ?_ (by first | omega | (simp; done) | (simp; omega)) _) | refine Below.drew ?_ | refine below_drewN ?_ _))⟩
/-- What Rank hands back. -/
def rnkN (x : Nat) (k : Int) (m : Nat) : Nat := if chkR k m = 0 ∧ x < 2 ^ k.toNat then x - fstV (rdV x k.toNat m) k.toNat m else 0
theorem rank_any (x m : Nat) (k : Int) (hx : x < 18446744073709551616) (hm : m < 18446744073709551616) (w : World) : Calls Try.prog 66 #[.int .u64 x, .int .i64 k, .int .u64 m] w fun e w' => e = .returned (.tuple #[.int .u64 (redV x k m : Nat), .int .u64 (rnkN x k m : Nat), .int .i64 (redE x k m)]) ∧ Below w.heap.size w w' := by
  by_cases hc : chkR k m = 0 ∧ x < 2 ^ k.toNat
  · obtain ⟨h1, h2, h3⟩ := chkR_ok hc.1
    have hE : redE x k m = 0 := by unfold redE; rw [if_pos hc.1, if_pos hc.2]
    have hV : redV x k m = rdV x k.toNat m := if_pos hc
    have hN : rnkN x k m = x - fstV (rdV x k.toNat m) k.toNat m := if_pos hc
    have hlt : rdV x k.toNat m < m := rdV_lt hc.2 h3
    have hlow := rank_low x k.toNat m h3
    have hF : fstN (rdV x k.toNat m) k m = fstV (rdV x k.toNat m) k.toNat m := if_pos ⟨hc.1, Nat.le_of_lt hlt⟩
    have hR := reduce_any x m k hx hm
    rw [hE, hV] at hR
    rw [hE, hV, hN]
    have hl : lo64 (fstN (rdV x k.toNat m) k m) = fstV (rdV x k.toNat m) k.toNat m := by rw [hF, lo_low (by omega)]
    refine rank_g x m _ _ _ _ k _ ?_ w hR (first_any _ m k (by omega) hm)
    rw [hl]
    exact wu_sub (by omega) (by omega)
  · have hN : rnkN x k m = 0 := if_neg hc
    have hV : redV x k m = 0 := if_neg hc
    have hE : redE x k m ≠ 0 := by
      unfold redE
      by_cases h : chkR k m = 0
      · rw [if_pos h, if_neg (fun h2 => hc ⟨h, h2⟩)]; omega
      · rw [if_neg h]; exact h
    have hR := reduce_any x m k hx hm
    rw [hV] at hR
    rw [hN, hV]
    exact rank_bad x m k _ hE w hR
set_option maxHeartbeats 1000000 in
theorem unrank_bad (v r m h0 l0 : Nat) (k c : Int) (hc : c ≠ 0) (w : World) (H1 : ∀ W, Calls Try.prog 63 #[.int .u64 v, .int .i64 k, .int .u64 m] W fun e w' => e = .returned (.tuple #[.agg #[.int .u64 h0, .int .u64 l0], .int .i64 c]) ∧ Below W.heap.size W w') :
    Calls Try.prog 67 #[.int .u64 v, .int .u64 r, .int .i64 k, .int .u64 m] w fun e w' => e = .returned (.tuple #[.int .u64 0, .int .i64 c]) ∧ Below w.heap.size w w' := by
  replace H1 := hide H1
  have t1 : (c == 0) = false := by rw [beq_eq_false_iff_ne]; exact hc
  go_enter Try.func67, Try.ntmps67
  go_wp2_with fail
  refine (H1.out _).mono ?_
  rintro e w1 ⟨rfl, B⟩
  have bz := B.size
  go_wp2_with fail
  go_ret2
  exact ⟨rfl, by (repeat (first | exact Below.refl _ _ | assumption | (refine Below.alloc ?_ (by first | omega | (simp; done) | (simp; omega)) _) | (refine Below.setCell ?_ (by first | omega | (simp; done) | (simp; omega)) _) | refine Below.drew ?_ | refine below_drewN ?_ _))⟩
set_option maxHeartbeats 1000000 in
theorem unrank_dom (v r m h0 l0 : Nat) (k c : Int) (hc : 0 ≤ c) (w : World) (H1 : ∀ W, Calls Try.prog 63 #[.int .u64 v, .int .i64 k, .int .u64 m] W fun e w' => e = .returned (.tuple #[.agg #[.int .u64 h0, .int .u64 l0], .int .i64 0]) ∧ Below W.heap.size W w')
    (H2 : ∀ W, Calls Try.prog 68 #[.agg #[.int .u64 0, .int .u64 r], .agg #[.int .u64 h0, .int .u64 l0]] W fun e w' => e = .returned (.int .i64 c) ∧ Below W.heap.size W w') :
    Calls Try.prog 67 #[.int .u64 v, .int .u64 r, .int .i64 k, .int .u64 m] w fun e w' => e = .returned (.tuple #[.int .u64 0, .int .i64 2]) ∧ Below w.heap.size w w' := by
  replace H1 := hide H1
  replace H2 := hide H2
  have t1 : decide (0 ≤ c) = true := decide_eq_true hc
  go_enter Try.func67, Try.ntmps67
  go_wp2_with fail
  refine (H1.out _).mono ?_
  rintro e w1 ⟨rfl, B⟩
  have bz := B.size
  go_wp2_with fail
  refine (H2.out _).mono ?_
  rintro e w2 ⟨rfl, hb⟩
  replace B : Below w.heap.size w w2 := below_call (by (repeat (first | exact Below.refl _ _ | assumption | (refine Below.alloc ?_ (by first | omega | (simp; done) | (simp; omega)) _) | (refine Below.setCell ?_ (by first | omega | (simp; done) | (simp; omega)) _) | refine Below.drew ?_ | refine below_drewN ?_ _))) (Nat.le_refl _) hb
  clear hb
  go_wp2_with fail
  go_ret2
  exact ⟨rfl, by (repeat (first | exact Below.refl _ _ | assumption | (refine Below.alloc ?_ (by first | omega | (simp; done) | (simp; omega)) _) | (refine Below.setCell ?_ (by first | omega | (simp; done) | (simp; omega)) _) | refine Below.drew ?_ | refine below_drewN ?_ _))⟩
set_option maxHeartbeats 1000000 in
theorem unrank_g (v r m h0 l0 h1 l1 y : Nat) (k c c2 : Int) (hc : c < 0) (hy : IntKind.u64.wrap ((l1 : Int) + (r : Int)) = (y : Int)) (w : World) (H1 : ∀ W, Calls Try.prog 63 #[.int .u64 v, .int .i64 k, .int .u64 m] W fun e w' => e = .returned (.tuple #[.agg #[.int .u64 h0, .int .u64 l0], .int .i64 0]) ∧ Below W.heap.size W w')
    (H2 : ∀ W, Calls Try.prog 68 #[.agg #[.int .u64 0, .int .u64 r], .agg #[.int .u64 h0, .int .u64 l0]] W fun e w' => e = .returned (.int .i64 c) ∧ Below W.heap.size W w')
    (H3 : ∀ W, Calls Try.prog 62 #[.int .u64 v, .int .i64 k, .int .u64 m] W fun e w' => e = .returned (.tuple #[.agg #[.int .u64 h1, .int .u64 l1], .int .i64 c2]) ∧ Below W.heap.size W w') :
    Calls Try.prog 67 #[.int .u64 v, .int .u64 r, .int .i64 k, .int .u64 m] w fun e w' => e = .returned (.tuple #[.int .u64 y, .int .i64 0]) ∧ Below w.heap.size w w' := by
  replace H1 := hide H1
  replace H2 := hide H2
  replace H3 := hide H3
  have t1 : decide (0 ≤ c) = false := decide_eq_false (by omega)
  have t2 : ¬ 0 ≤ c := by omega
  go_enter Try.func67, Try.ntmps67
  go_wp2_with fail
  refine (H1.out _).mono ?_
  rintro e w1 ⟨rfl, B⟩
  have bz := B.size
  go_wp2_with fail
  refine (H2.out _).mono ?_
  rintro e w2 ⟨rfl, hb⟩
  replace B : Below w.heap.size w w2 := below_call (by (repeat (first | exact Below.refl _ _ | assumption | (refine Below.alloc ?_ (by first | omega | (simp; done) | (simp; omega)) _) | (refine Below.setCell ?_ (by first | omega | (simp; done) | (simp; omega)) _) | refine Below.drew ?_ | refine below_drewN ?_ _))) (Nat.le_refl _) hb
  clear hb
  go_wp2_with fail
  refine (H3.out _).mono ?_
  rintro e w3 ⟨rfl, hb⟩
  replace B : Below w.heap.size w w3 := below_call B (Nat.le_refl _) hb
  have bz3 := B.size
  clear hb
  go_wp2_with fail
  go_ret2
  exact ⟨rfl, by (repeat (first | exact Below.refl _ _ | assumption | (refine Below.alloc ?_ (by first | omega | (simp; done) | (simp; omega)) _) | (refine Below.setCell ?_ (by first | omega | (simp; done) | (simp; omega)) _) | refine Below.drew ?_ | refine below_drewN ?_ _))⟩
/-- What Unrank hands back. -/
def unrN (v r : Nat) (k : Int) (m : Nat) : Nat := if chkR k m = 0 ∧ v < m ∧ r < cntV v k.toNat m then fstV v k.toNat m + r else 0
def unrE (v r : Nat) (k : Int) (m : Nat) : Int := if chkR k m = 0 then (if v < m ∧ r < cntV v k.toNat m then 0 else 2) else chkR k m
theorem cmp_low (r Y : Nat) (hr : r < 18446744073709551616) (w : World) : Calls Try.prog 68 #[.agg #[.int .u64 0, .int .u64 r], .agg #[.int .u64 (hi64 (Y) : Nat), .int .u64 (lo64 (Y) : Nat)]] w fun e w' => e = .returned (.int .i64 (cmpV r (m128 Y))) ∧ Below w.heap.size w w' := by
  have h := cmp_u r Y w
  rw [hi_low hr, lo_low hr, m128_low hr] at h
  exact h
theorem unrank_any (v r m : Nat) (k : Int) (hv : v < 18446744073709551616) (hr : r < 18446744073709551616) (hm : m < 18446744073709551616) (w : World) : Calls Try.prog 67 #[.int .u64 v, .int .u64 r, .int .i64 k, .int .u64 m] w fun e w' => e = .returned (.tuple #[.int .u64 (unrN v r k m : Nat), .int .i64 (unrE v r k m)]) ∧ Below w.heap.size w w' := by
  have HC := count_any v m k hv hm
  by_cases hc : chkR k m = 0
  · obtain ⟨h1, h2, h3⟩ := chkR_ok hc
    by_cases hlt : v < m
    · have hE0 : cntE v k m = 0 := by unfold cntE; rw [if_pos hc, if_pos hlt]
      have hN0 : cntN v k m = cntV v k.toNat m := if_pos ⟨hc, hlt⟩
      rw [hE0, hN0] at HC
      have hp := pow_le_64 h2
      have hb1 := fstV_bound (k := k.toNat) h3 (show v + 1 ≤ m from hlt)
      have hcv : cntV v k.toNat m ≤ 2 ^ k.toNat := by unfold cntV; omega
      have hcm : m128 (cntV v k.toNat m) = cntV v k.toNat m := m128_id (by omega)
      by_cases hrc : r < cntV v k.toNat m
      · have hE : unrE v r k m = 0 := by unfold unrE; rw [if_pos hc, if_pos ⟨hlt, hrc⟩]
        have hN : unrN v r k m = fstV v k.toNat m + r := if_pos ⟨hc, hlt, hrc⟩
        have hs := unrank_small h3 hlt hrc
        have hF : fstN v k m = fstV v k.toNat m := if_pos ⟨hc, Nat.le_of_lt hlt⟩
        have hl : lo64 (fstN v k m) = fstV v k.toNat m := by rw [hF, lo_low (by omega)]
        rw [hE, hN]
        refine unrank_g v r m _ _ _ _ _ k (cmpV r (cntV v k.toNat m)) _ ?_ ?_ w HC (fun W => by have h := cmp_low r (cntV v k.toNat m) hr W; rw [hcm] at h; exact h) (first_any v m k hv hm)
        · unfold cmpV; rw [if_pos hrc]; omega
        · rw [hl]
          exact wu_add (by omega)
      · have hE : unrE v r k m = 2 := by unfold unrE; rw [if_pos hc, if_neg (by omega)]
        have hN : unrN v r k m = 0 := if_neg (by omega)
        rw [hE, hN]
        refine unrank_dom v r m _ _ k (cmpV r (cntV v k.toNat m)) ?_ w HC (fun W => by have h := cmp_low r (cntV v k.toNat m) hr W; rw [hcm] at h; exact h)
        unfold cmpV
        rw [if_neg hrc]
        split <;> omega
    · have hE0 : cntE v k m = 2 := by unfold cntE; rw [if_pos hc, if_neg hlt]
      have hE : unrE v r k m = 2 := by unfold unrE; rw [if_pos hc, if_neg (by omega)]
      have hN : unrN v r k m = 0 := if_neg (by omega)
      rw [hE0] at HC
      rw [hE, hN]
      exact unrank_bad v r m _ _ k 2 (by omega) w HC
  · have hE0 : cntE v k m = chkR k m := if_neg hc
    have hE : unrE v r k m = chkR k m := if_neg hc
    have hN : unrN v r k m = 0 := if_neg (by omega)
    rw [hE0] at HC
    rw [hE, hN]
    exact unrank_bad v r m _ _ k _ hc w HC
end Go.Proofs.Ytioieoinkjfcfaa
