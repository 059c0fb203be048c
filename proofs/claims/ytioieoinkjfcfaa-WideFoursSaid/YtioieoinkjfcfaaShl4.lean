/-
  Walk of wide.Shl4. Conditions: as each says.
-/
import Derived.Test.YtioieoinkjfcfaaFourW
import Derived.Test.YtioieoinkjfcfaaBoxB
import Derived.Test.YtioieoinkjfcfaaShl
import Derived.RegionTactic
namespace Go.Proofs.Ytioieoinkjfcfaa
open Go.RowKit Go.Shelf
set_option linter.unusedVariables false

set_option maxRecDepth 100000 in
set_option maxHeartbeats 4000000 in
theorem shl4_0p (f0 f1 f2 f3 r s L0 L1 L2 L3 h0 h1 h2 h3 g0 g1 g2 g3 : Nat) (n : Int) (n0 : 0 < n) (n1 : n < 256) (hq : n / 64 = 0) (hr : n % 64 = (r : Int)) (hs : (s : Int) = 64 - (r : Int)) (hp : 0 < r) (eL0 : IntKind.u64.wrap ((f0 : Int) * 2 ^ r) = (L0 : Int)) (eH0 : (f0 : Int) / 2 ^ s = (h0 : Int)) (eO0 : bits .or .u64 0 (L0 : Int) = (g0 : Int)) (eL1 : IntKind.u64.wrap ((f1 : Int) * 2 ^ r) = (L1 : Int)) (eH1 : (f1 : Int) / 2 ^ s = (h1 : Int)) (eO1 : bits .or .u64 (h0 : Int) (L1 : Int) = (g1 : Int)) (eL2 : IntKind.u64.wrap ((f2 : Int) * 2 ^ r) = (L2 : Int)) (eH2 : (f2 : Int) / 2 ^ s = (h2 : Int)) (eO2 : bits .or .u64 (h1 : Int) (L2 : Int) = (g2 : Int)) (eL3 : IntKind.u64.wrap ((f3 : Int) * 2 ^ r) = (L3 : Int)) (eH3 : (f3 : Int) / 2 ^ s = (h3 : Int)) (eO3 : bits .or .u64 (h2 : Int) (L3 : Int) = (g3 : Int)) (w : World)
    : Calls Try.prog 25 #[.agg #[.int .u64 f0, .int .u64 f1, .int .u64 f2, .int .u64 f3], .int .i64 n] w fun e w' => e = .returned (.agg #[.int .u64 g0, .int .u64 g1, .int .u64 g2, .int .u64 g3]) ∧ Below w.heap.size w w' := by
  have t1 : ¬ n ≤ 0 := by omega
  have t2 : ¬ (256 : Int) ≤ n := by omega
  have t3 : (0 : Int) ≤ (r : Int) := by omega
  have t4 : (r : Int) < 64 := by omega
  have t5 : (0 : Int) ≤ (s : Int) := by omega
  have t6 : (s : Int) ≤ 64 := by omega
  have t7 : (s : Int) < 64 := by omega
  have t8 : (0 : Int) < (r : Int) := by omega
  have t9 : IntKind.i64.wrap (64 - (r : Int)) = (s : Int) := by rw [IntWalk.i64_in _ (by omega)]; omega
  have t10 : decide ((0 : Int) < (r : Int)) = true := decide_eq_true t8
  have t11 : decide (0 < r) = true := decide_eq_true hp
  have t12 : 64 - (r : Int) = (s : Int) := by omega
  clear hs hp
  go_enter Try.func25, Try.ntmps25
  go_wp2_with fail
  refine wp_loop_rounds 5 ?_
  rw [rounds_succ]
  go_wp2_with fail
  go_region
  go_wp2_with fail
  rw [rounds_succ]
  go_wp2_with fail
  go_region
  go_wp2_with fail
  rw [rounds_succ]
  go_wp2_with fail
  go_region
  go_wp2_with fail
  rw [rounds_succ]
  go_wp2_with fail
  go_region
  go_wp2_with fail
  rw [rounds_succ]
  go_wp2_with fail
  exact bodyPost_ret (v := .agg #[.int .u64 g0, .int .u64 g1, .int .u64 g2, .int .u64 g3]) (by simp [results, Try.results25, go_sem]) rfl ⟨rfl, by (repeat (first | exact Below.refl _ _ | assumption | (refine Below.alloc ?_ (by first | omega | (simp; done) | (simp; omega)) _) | (refine Below.setCell ?_ (by first | omega | (simp; done) | (simp; omega)) _) | refine Below.drew ?_ | refine below_drewN ?_ _))⟩
set_option maxRecDepth 100000 in
set_option maxHeartbeats 4000000 in
theorem shl4_0z (f0 f1 f2 f3 r s L0 L1 L2 L3 g0 g1 g2 g3 : Nat) (n : Int) (n0 : 0 < n) (n1 : n < 256) (hq : n / 64 = 0) (hr : n % 64 = (r : Int)) (hs : (s : Int) = 64 - (r : Int)) (hp : r = 0) (eL0 : IntKind.u64.wrap ((f0 : Int) * 2 ^ r) = (L0 : Int)) (eO0 : bits .or .u64 0 (L0 : Int) = (g0 : Int)) (eL1 : IntKind.u64.wrap ((f1 : Int) * 2 ^ r) = (L1 : Int)) (eO1 : bits .or .u64 0 (L1 : Int) = (g1 : Int)) (eL2 : IntKind.u64.wrap ((f2 : Int) * 2 ^ r) = (L2 : Int)) (eO2 : bits .or .u64 0 (L2 : Int) = (g2 : Int)) (eL3 : IntKind.u64.wrap ((f3 : Int) * 2 ^ r) = (L3 : Int)) (eO3 : bits .or .u64 0 (L3 : Int) = (g3 : Int)) (w : World)
    : Calls Try.prog 25 #[.agg #[.int .u64 f0, .int .u64 f1, .int .u64 f2, .int .u64 f3], .int .i64 n] w fun e w' => e = .returned (.agg #[.int .u64 g0, .int .u64 g1, .int .u64 g2, .int .u64 g3]) ∧ Below w.heap.size w w' := by
  exfalso
  omega
set_option maxRecDepth 100000 in
set_option maxHeartbeats 4000000 in
theorem shl4_1p (f0 f1 f2 f3 r s L0 L1 L2 h0 h1 h2 g1 g2 g3 : Nat) (n : Int) (n0 : 0 < n) (n1 : n < 256) (hq : n / 64 = 1) (hr : n % 64 = (r : Int)) (hs : (s : Int) = 64 - (r : Int)) (hp : 0 < r) (eL0 : IntKind.u64.wrap ((f0 : Int) * 2 ^ r) = (L0 : Int)) (eH0 : (f0 : Int) / 2 ^ s = (h0 : Int)) (eO0 : bits .or .u64 0 (L0 : Int) = (g1 : Int)) (eL1 : IntKind.u64.wrap ((f1 : Int) * 2 ^ r) = (L1 : Int)) (eH1 : (f1 : Int) / 2 ^ s = (h1 : Int)) (eO1 : bits .or .u64 (h0 : Int) (L1 : Int) = (g2 : Int)) (eL2 : IntKind.u64.wrap ((f2 : Int) * 2 ^ r) = (L2 : Int)) (eH2 : (f2 : Int) / 2 ^ s = (h2 : Int)) (eO2 : bits .or .u64 (h1 : Int) (L2 : Int) = (g3 : Int)) (w : World)
    : Calls Try.prog 25 #[.agg #[.int .u64 f0, .int .u64 f1, .int .u64 f2, .int .u64 f3], .int .i64 n] w fun e w' => e = .returned (.agg #[.int .u64 0, .int .u64 g1, .int .u64 g2, .int .u64 g3]) ∧ Below w.heap.size w w' := by
  have t1 : ¬ n ≤ 0 := by omega
  have t2 : ¬ (256 : Int) ≤ n := by omega
  have t3 : (0 : Int) ≤ (r : Int) := by omega
  have t4 : (r : Int) < 64 := by omega
  have t5 : (0 : Int) ≤ (s : Int) := by omega
  have t6 : (s : Int) ≤ 64 := by omega
  have t7 : (s : Int) < 64 := by omega
  have t8 : (0 : Int) < (r : Int) := by omega
  have t9 : IntKind.i64.wrap (64 - (r : Int)) = (s : Int) := by rw [IntWalk.i64_in _ (by omega)]; omega
  have t10 : decide ((0 : Int) < (r : Int)) = true := decide_eq_true t8
  have t11 : decide (0 < r) = true := decide_eq_true hp
  have t12 : 64 - (r : Int) = (s : Int) := by omega
  clear hs hp
  go_enter Try.func25, Try.ntmps25
  go_wp2_with fail
  refine wp_loop_rounds 4 ?_
  rw [rounds_succ]
  go_wp2_with fail
  go_region
  go_wp2_with fail
  rw [rounds_succ]
  go_wp2_with fail
  go_region
  go_wp2_with fail
  rw [rounds_succ]
  go_wp2_with fail
  go_region
  go_wp2_with fail
  rw [rounds_succ]
  go_wp2_with fail
  exact bodyPost_ret (v := .agg #[.int .u64 0, .int .u64 g1, .int .u64 g2, .int .u64 g3]) (by simp [results, Try.results25, go_sem]) rfl ⟨rfl, by (repeat (first | exact Below.refl _ _ | assumption | (refine Below.alloc ?_ (by first | omega | (simp; done) | (simp; omega)) _) | (refine Below.setCell ?_ (by first | omega | (simp; done) | (simp; omega)) _) | refine Below.drew ?_ | refine below_drewN ?_ _))⟩
set_option maxRecDepth 100000 in
set_option maxHeartbeats 4000000 in
theorem shl4_1z (f0 f1 f2 f3 r s L0 L1 L2 g1 g2 g3 : Nat) (n : Int) (n0 : 0 < n) (n1 : n < 256) (hq : n / 64 = 1) (hr : n % 64 = (r : Int)) (hs : (s : Int) = 64 - (r : Int)) (hp : r = 0) (eL0 : IntKind.u64.wrap ((f0 : Int) * 2 ^ r) = (L0 : Int)) (eO0 : bits .or .u64 0 (L0 : Int) = (g1 : Int)) (eL1 : IntKind.u64.wrap ((f1 : Int) * 2 ^ r) = (L1 : Int)) (eO1 : bits .or .u64 0 (L1 : Int) = (g2 : Int)) (eL2 : IntKind.u64.wrap ((f2 : Int) * 2 ^ r) = (L2 : Int)) (eO2 : bits .or .u64 0 (L2 : Int) = (g3 : Int)) (w : World)
    : Calls Try.prog 25 #[.agg #[.int .u64 f0, .int .u64 f1, .int .u64 f2, .int .u64 f3], .int .i64 n] w fun e w' => e = .returned (.agg #[.int .u64 0, .int .u64 g1, .int .u64 g2, .int .u64 g3]) ∧ Below w.heap.size w w' := by
  have t1 : ¬ n ≤ 0 := by omega
  have t2 : ¬ (256 : Int) ≤ n := by omega
  have t3 : (0 : Int) ≤ (r : Int) := by omega
  have t4 : (r : Int) < 64 := by omega
  have t5 : (0 : Int) ≤ (s : Int) := by omega
  have t6 : (s : Int) ≤ 64 := by omega
  have t8 : ¬ (0 : Int) < (r : Int) := by omega
  have t10 : decide ((0 : Int) < (r : Int)) = false := decide_eq_false t8
  have t11 : decide (0 < r) = false := decide_eq_false (by omega)
  clear hs hp
  go_enter Try.func25, Try.ntmps25
  go_wp2_with fail
  refine wp_loop_rounds 4 ?_
  rw [rounds_succ]
  go_wp2_with fail
  go_region
  go_wp2_with fail
  rw [rounds_succ]
  go_wp2_with fail
  go_region
  go_wp2_with fail
  rw [rounds_succ]
  go_wp2_with fail
  go_region
  go_wp2_with fail
  rw [rounds_succ]
  go_wp2_with fail
  exact bodyPost_ret (v := .agg #[.int .u64 0, .int .u64 g1, .int .u64 g2, .int .u64 g3]) (by simp [results, Try.results25, go_sem]) rfl ⟨rfl, by (repeat (first | exact Below.refl _ _ | assumption | (refine Below.alloc ?_ (by first | omega | (simp; done) | (simp; omega)) _) | (refine Below.setCell ?_ (by first | omega | (simp; done) | (simp; omega)) _) | refine Below.drew ?_ | refine below_drewN ?_ _))⟩
set_option maxRecDepth 100000 in
set_option maxHeartbeats 4000000 in
theorem shl4_2p (f0 f1 f2 f3 r s L0 L1 h0 h1 g2 g3 : Nat) (n : Int) (n0 : 0 < n) (n1 : n < 256) (hq : n / 64 = 2) (hr : n % 64 = (r : Int)) (hs : (s : Int) = 64 - (r : Int)) (hp : 0 < r) (eL0 : IntKind.u64.wrap ((f0 : Int) * 2 ^ r) = (L0 : Int)) (eH0 : (f0 : Int) / 2 ^ s = (h0 : Int)) (eO0 : bits .or .u64 0 (L0 : Int) = (g2 : Int)) (eL1 : IntKind.u64.wrap ((f1 : Int) * 2 ^ r) = (L1 : Int)) (eH1 : (f1 : Int) / 2 ^ s = (h1 : Int)) (eO1 : bits .or .u64 (h0 : Int) (L1 : Int) = (g3 : Int)) (w : World)
    : Calls Try.prog 25 #[.agg #[.int .u64 f0, .int .u64 f1, .int .u64 f2, .int .u64 f3], .int .i64 n] w fun e w' => e = .returned (.agg #[.int .u64 0, .int .u64 0, .int .u64 g2, .int .u64 g3]) ∧ Below w.heap.size w w' := by
  have t1 : ¬ n ≤ 0 := by omega
  have t2 : ¬ (256 : Int) ≤ n := by omega
  have t3 : (0 : Int) ≤ (r : Int) := by omega
  have t4 : (r : Int) < 64 := by omega
  have t5 : (0 : Int) ≤ (s : Int) := by omega
  have t6 : (s : Int) ≤ 64 := by omega
  have t7 : (s : Int) < 64 := by omega
  have t8 : (0 : Int) < (r : Int) := by omega
  have t9 : IntKind.i64.wrap (64 - (r : Int)) = (s : Int) := by rw [IntWalk.i64_in _ (by omega)]; omega
  have t10 : decide ((0 : Int) < (r : Int)) = true := decide_eq_true t8
  have t11 : decide (0 < r) = true := decide_eq_true hp
  have t12 : 64 - (r : Int) = (s : Int) := by omega
  clear hs hp
  go_enter Try.func25, Try.ntmps25
  go_wp2_with fail
  refine wp_loop_rounds 3 ?_
  rw [rounds_succ]
  go_wp2_with fail
  go_region
  go_wp2_with fail
  rw [rounds_succ]
  go_wp2_with fail
  go_region
  go_wp2_with fail
  rw [rounds_succ]
  go_wp2_with fail
  exact bodyPost_ret (v := .agg #[.int .u64 0, .int .u64 0, .int .u64 g2, .int .u64 g3]) (by simp [results, Try.results25, go_sem]) rfl ⟨rfl, by (repeat (first | exact Below.refl _ _ | assumption | (refine Below.alloc ?_ (by first | omega | (simp; done) | (simp; omega)) _) | (refine Below.setCell ?_ (by first | omega | (simp; done) | (simp; omega)) _) | refine Below.drew ?_ | refine below_drewN ?_ _))⟩
set_option maxRecDepth 100000 in
set_option maxHeartbeats 4000000 in
theorem shl4_2z (f0 f1 f2 f3 r s L0 L1 g2 g3 : Nat) (n : Int) (n0 : 0 < n) (n1 : n < 256) (hq : n / 64 = 2) (hr : n % 64 = (r : Int)) (hs : (s : Int) = 64 - (r : Int)) (hp : r = 0) (eL0 : IntKind.u64.wrap ((f0 : Int) * 2 ^ r) = (L0 : Int)) (eO0 : bits .or .u64 0 (L0 : Int) = (g2 : Int)) (eL1 : IntKind.u64.wrap ((f1 : Int) * 2 ^ r) = (L1 : Int)) (eO1 : bits .or .u64 0 (L1 : Int) = (g3 : Int)) (w : World)
    : Calls Try.prog 25 #[.agg #[.int .u64 f0, .int .u64 f1, .int .u64 f2, .int .u64 f3], .int .i64 n] w fun e w' => e = .returned (.agg #[.int .u64 0, .int .u64 0, .int .u64 g2, .int .u64 g3]) ∧ Below w.heap.size w w' := by
  have t1 : ¬ n ≤ 0 := by omega
  have t2 : ¬ (256 : Int) ≤ n := by omega
  have t3 : (0 : Int) ≤ (r : Int) := by omega
  have t4 : (r : Int) < 64 := by omega
  have t5 : (0 : Int) ≤ (s : Int) := by omega
  have t6 : (s : Int) ≤ 64 := by omega
  have t8 : ¬ (0 : Int) < (r : Int) := by omega
  have t10 : decide ((0 : Int) < (r : Int)) = false := decide_eq_false t8
  have t11 : decide (0 < r) = false := decide_eq_false (by omega)
  clear hs hp
  go_enter Try.func25, Try.ntmps25
  go_wp2_with fail
  refine wp_loop_rounds 3 ?_
  rw [rounds_succ]
  go_wp2_with fail
  go_region
  go_wp2_with fail
  rw [rounds_succ]
  go_wp2_with fail
  go_region
  go_wp2_with fail
  rw [rounds_succ]
  go_wp2_with fail
  exact bodyPost_ret (v := .agg #[.int .u64 0, .int .u64 0, .int .u64 g2, .int .u64 g3]) (by simp [results, Try.results25, go_sem]) rfl ⟨rfl, by (repeat (first | exact Below.refl _ _ | assumption | (refine Below.alloc ?_ (by first | omega | (simp; done) | (simp; omega)) _) | (refine Below.setCell ?_ (by first | omega | (simp; done) | (simp; omega)) _) | refine Below.drew ?_ | refine below_drewN ?_ _))⟩
set_option maxRecDepth 100000 in
set_option maxHeartbeats 4000000 in
theorem shl4_3p (f0 f1 f2 f3 r s L0 h0 g3 : Nat) (n : Int) (n0 : 0 < n) (n1 : n < 256) (hq : n / 64 = 3) (hr : n % 64 = (r : Int)) (hs : (s : Int) = 64 - (r : Int)) (hp : 0 < r) (eL0 : IntKind.u64.wrap ((f0 : Int) * 2 ^ r) = (L0 : Int)) (eH0 : (f0 : Int) / 2 ^ s = (h0 : Int)) (eO0 : bits .or .u64 0 (L0 : Int) = (g3 : Int)) (w : World)
    : Calls Try.prog 25 #[.agg #[.int .u64 f0, .int .u64 f1, .int .u64 f2, .int .u64 f3], .int .i64 n] w fun e w' => e = .returned (.agg #[.int .u64 0, .int .u64 0, .int .u64 0, .int .u64 g3]) ∧ Below w.heap.size w w' := by
  have t1 : ¬ n ≤ 0 := by omega
  have t2 : ¬ (256 : Int) ≤ n := by omega
  have t3 : (0 : Int) ≤ (r : Int) := by omega
  have t4 : (r : Int) < 64 := by omega
  have t5 : (0 : Int) ≤ (s : Int) := by omega
  have t6 : (s : Int) ≤ 64 := by omega
  have t7 : (s : Int) < 64 := by omega
  have t8 : (0 : Int) < (r : Int) := by omega
  have t9 : IntKind.i64.wrap (64 - (r : Int)) = (s : Int) := by rw [IntWalk.i64_in _ (by omega)]; omega
  have t10 : decide ((0 : Int) < (r : Int)) = true := decide_eq_true t8
  have t11 : decide (0 < r) = true := decide_eq_true hp
  have t12 : 64 - (r : Int) = (s : Int) := by omega
  clear hs hp
  go_enter Try.func25, Try.ntmps25
  go_wp2_with fail
  refine wp_loop_rounds 2 ?_
  rw [rounds_succ]
  go_wp2_with fail
  go_region
  go_wp2_with fail
  rw [rounds_succ]
  go_wp2_with fail
  exact bodyPost_ret (v := .agg #[.int .u64 0, .int .u64 0, .int .u64 0, .int .u64 g3]) (by simp [results, Try.results25, go_sem]) rfl ⟨rfl, by (repeat (first | exact Below.refl _ _ | assumption | (refine Below.alloc ?_ (by first | omega | (simp; done) | (simp; omega)) _) | (refine Below.setCell ?_ (by first | omega | (simp; done) | (simp; omega)) _) | refine Below.drew ?_ | refine below_drewN ?_ _))⟩
set_option maxRecDepth 100000 in
set_option maxHeartbeats 4000000 in
theorem shl4_3z (f0 f1 f2 f3 r s L0 g3 : Nat) (n : Int) (n0 : 0 < n) (n1 : n < 256) (hq : n / 64 = 3) (hr : n % 64 = (r : Int)) (hs : (s : Int) = 64 - (r : Int)) (hp : r = 0) (eL0 : IntKind.u64.wrap ((f0 : Int) * 2 ^ r) = (L0 : Int)) (eO0 : bits .or .u64 0 (L0 : Int) = (g3 : Int)) (w : World)
    : Calls Try.prog 25 #[.agg #[.int .u64 f0, .int .u64 f1, .int .u64 f2, .int .u64 f3], .int .i64 n] w fun e w' => e = .returned (.agg #[.int .u64 0, .int .u64 0, .int .u64 0, .int .u64 g3]) ∧ Below w.heap.size w w' := by
  have t1 : ¬ n ≤ 0 := by omega
  have t2 : ¬ (256 : Int) ≤ n := by omega
  have t3 : (0 : Int) ≤ (r : Int) := by omega
  have t4 : (r : Int) < 64 := by omega
  have t5 : (0 : Int) ≤ (s : Int) := by omega
  have t6 : (s : Int) ≤ 64 := by omega
  have t8 : ¬ (0 : Int) < (r : Int) := by omega
  have t10 : decide ((0 : Int) < (r : Int)) = false := decide_eq_false t8
  have t11 : decide (0 < r) = false := decide_eq_false (by omega)
  clear hs hp
  go_enter Try.func25, Try.ntmps25
  go_wp2_with fail
  refine wp_loop_rounds 2 ?_
  rw [rounds_succ]
  go_wp2_with fail
  go_region
  go_wp2_with fail
  rw [rounds_succ]
  go_wp2_with fail
  exact bodyPost_ret (v := .agg #[.int .u64 0, .int .u64 0, .int .u64 0, .int .u64 g3]) (by simp [results, Try.results25, go_sem]) rfl ⟨rfl, by (repeat (first | exact Below.refl _ _ | assumption | (refine Below.alloc ?_ (by first | omega | (simp; done) | (simp; omega)) _) | (refine Below.setCell ?_ (by first | omega | (simp; done) | (simp; omega)) _) | refine Below.drew ?_ | refine below_drewN ?_ _))⟩
theorem shL (f r : Nat) : IntKind.u64.wrap ((f : Int) * 2 ^ r) = ((f * 2 ^ r % 18446744073709551616 : Nat) : Int) := by
  rw [← u64_of]
  congr 1
theorem shH (f s : Nat) : (f : Int) / 2 ^ s = ((f / 2 ^ s : Nat) : Int) := by rw [Int.natCast_ediv, Int.natCast_pow]; rfl
theorem or0 (x : Nat) (hx : x < 18446744073709551616) : bits .or .u64 0 (x : Int) = (x : Int) := by
  rw [show (0 : Int) = ((0 : Nat) : Int) from rfl, bits_or_u64_nat _ _ (by omega) hx, Nat.zero_or]
theorem wd_low (X r : Nat) : wd X 0 * 2 ^ r % 18446744073709551616 = wd (X * 2 ^ r) 0 := by
  rw [wd0, wd0, Nat.mod_mul_mod]
theorem sh0 (X r : Nat) : bits .or .u64 0 ((wd X 0 * 2 ^ r % 18446744073709551616 : Nat) : Int) = ((wd (X * 2 ^ r) 0 : Nat) : Int) := by
  rw [or0 _ (Nat.mod_lt _ (by omega)), wd_low]
theorem wd_up (X i r : Nat) (hr : r < 64) : wd (X * 2 ^ r) (i + 1) = hi64 (X / 18446744073709551616 ^ i * 2 ^ r) := by
  unfold wd hi64
  congr 1
  have hB : (18446744073709551616 : Nat) = 2 ^ r * 2 ^ (64 - r) := by rw [← Nat.pow_add, show r + (64 - r) = 64 by omega]
  have hi := wpos i
  have h1 : X * 2 ^ r / 18446744073709551616 ^ i = X / 18446744073709551616 ^ i * 2 ^ r + X % 18446744073709551616 ^ i * 2 ^ r / 18446744073709551616 ^ i := by
    conv => lhs; rw [← Nat.div_add_mod X (18446744073709551616 ^ i), Nat.add_mul, Nat.mul_assoc, Nat.mul_add_div hi]
  have hd : X % 18446744073709551616 ^ i * 2 ^ r / 18446744073709551616 ^ i < 2 ^ r := Nat.div_lt_of_lt_mul (Nat.mul_lt_mul_of_pos_right (Nat.mod_lt _ hi) (Nat.two_pow_pos r))
  rw [Nat.pow_succ, ← Nat.div_div_eq_div_mul, h1]
  generalize X / 18446744073709551616 ^ i = Y at *
  generalize X % 18446744073709551616 ^ i * 2 ^ r / 18446744073709551616 ^ i = d at *
  rw [hB, ← Nat.div_div_eq_div_mul, ← Nat.div_div_eq_div_mul, Nat.mul_comm Y, Nat.mul_add_div (Nat.two_pow_pos r), Nat.div_eq_of_lt hd, Nat.add_zero, Nat.mul_div_cancel_left _ (Nat.two_pow_pos r)]
theorem bits_or_comm (a b : Nat) (ha : a < 18446744073709551616) (hb : b < 18446744073709551616) : bits .or .u64 (a : Int) (b : Int) = bits .or .u64 (b : Int) (a : Int) := by
  rw [bits_or_u64_nat _ _ ha hb, bits_or_u64_nat _ _ hb ha, Nat.or_comm]
theorem sh1 (X i r s : Nat) (hr : r < 64) (hs : s = 64 - r) : bits .or .u64 ((wd X i / 2 ^ s : Nat) : Int) ((wd X (i + 1) * 2 ^ r % 18446744073709551616 : Nat) : Int) = ((wd (X * 2 ^ r) (i + 1) : Nat) : Int) := by
  have e1 : hi64 (X / 18446744073709551616 ^ i) = wd X (i + 1) := by unfold hi64 wd; rw [Nat.pow_succ, Nat.div_div_eq_div_mul]
  have e2 : lo64 (X / 18446744073709551616 ^ i) = wd X i := rfl
  have h := shl_hi (X / 18446744073709551616 ^ i) r s hr hs
  rw [e1, e2, shL, shH] at h
  rw [bits_or_comm _ _ (Nat.lt_of_le_of_lt (Nat.div_le_self _ _) (wd_lt X i)) (Nat.mod_lt _ (by omega)), h, wd_up X i r hr]
theorem shz (X i : Nat) : bits .or .u64 0 ((wd X i * 2 ^ 0 % 18446744073709551616 : Nat) : Int) = ((wd (X * 2 ^ 0) i : Nat) : Int) := by
  rw [or0 _ (Nat.mod_lt _ (by omega)), Nat.pow_zero, Nat.mul_one, Nat.mul_one, Nat.mod_eq_of_lt (wd_lt X i)]
theorem wd_far (X q r k : Nat) (h : q ≤ k) : wd (X * 2 ^ (64 * q + r)) k = wd (X * 2 ^ r) (k - q) := by
  unfold wd
  congr 1
  obtain ⟨j, rfl⟩ : ∃ j, k = q + j := ⟨k - q, by omega⟩
  rw [Nat.pow_add 2, pow64, Nat.add_sub_cancel_left, Nat.pow_add, ← Nat.div_div_eq_div_mul, Nat.mul_left_comm, Nat.mul_div_cancel_left _ (wpos q)]
theorem wd_near (X q r k : Nat) (h : k < q) : wd (X * 2 ^ (64 * q + r)) k = 0 := by
  unfold wd
  obtain ⟨j, rfl⟩ : ∃ j, q = k + (j + 1) := ⟨q - k - 1, by omega⟩
  rw [Nat.pow_add 2, pow64, Nat.pow_add, Nat.mul_left_comm, Nat.mul_assoc, Nat.mul_div_cancel_left _ (wpos k), Nat.pow_succ, Nat.mul_right_comm _ 18446744073709551616, Nat.mul_mod_left]
theorem wd_gone (X n k : Nat) (h : 256 ≤ n) (hk : k < 4) : wd (X * 2 ^ n) k = 0 := by
  have e : n = 64 * 4 + (n - 256) := by omega
  rw [e]
  exact wd_near X 4 _ k hk
set_option maxHeartbeats 400000 in
theorem shl4_low (f0 f1 f2 f3 : Nat) (n : Int) (h : n ≤ 0) (w : World) : Calls Try.prog 25 #[.agg #[.int .u64 f0, .int .u64 f1, .int .u64 f2, .int .u64 f3], .int .i64 n] w fun e w' => e = .returned (.agg #[.int .u64 f0, .int .u64 f1, .int .u64 f2, .int .u64 f3]) ∧ Below w.heap.size w w' := by
  go_enter Try.func25, Try.ntmps25
  go_wp2_with fail
  exact bodyPost_ret (v := .agg #[.int .u64 f0, .int .u64 f1, .int .u64 f2, .int .u64 f3]) (by simp [results, Try.results25, go_sem]) rfl ⟨rfl, by (repeat (first | exact Below.refl _ _ | assumption | (refine Below.alloc ?_ (by first | omega | (simp; done) | (simp; omega)) _) | (refine Below.setCell ?_ (by first | omega | (simp; done) | (simp; omega)) _) | refine Below.drew ?_ | refine below_drewN ?_ _))⟩
set_option maxHeartbeats 400000 in
theorem shl4_high (f0 f1 f2 f3 : Nat) (n : Int) (h : 256 ≤ n) (w : World) : Calls Try.prog 25 #[.agg #[.int .u64 f0, .int .u64 f1, .int .u64 f2, .int .u64 f3], .int .i64 n] w fun e w' => e = .returned (.agg #[.int .u64 0, .int .u64 0, .int .u64 0, .int .u64 0]) ∧ Below w.heap.size w w' := by
  have t1 : ¬ n ≤ 0 := by omega
  go_enter Try.func25, Try.ntmps25
  go_wp2_with fail
  exact bodyPost_ret (v := .agg #[.int .u64 0, .int .u64 0, .int .u64 0, .int .u64 0]) (by simp [results, Try.results25, go_sem]) rfl ⟨rfl, by (repeat (first | exact Below.refl _ _ | assumption | (refine Below.alloc ?_ (by first | omega | (simp; done) | (simp; omega)) _) | (refine Below.setCell ?_ (by first | omega | (simp; done) | (simp; omega)) _) | refine Below.drew ?_ | refine below_drewN ?_ _))⟩
theorem shl4_u (X : Nat) (n : Int) (w : World) : Calls Try.prog 25 #[.agg #[.int .u64 (wd (X) 0 : Nat), .int .u64 (wd (X) 1 : Nat), .int .u64 (wd (X) 2 : Nat), .int .u64 (wd (X) 3 : Nat)], .int .i64 n] w fun e w' => e = .returned (.agg #[.int .u64 (wd (X * 2 ^ n.toNat) 0 : Nat), .int .u64 (wd (X * 2 ^ n.toNat) 1 : Nat), .int .u64 (wd (X * 2 ^ n.toNat) 2 : Nat), .int .u64 (wd (X * 2 ^ n.toNat) 3 : Nat)]) ∧ Below w.heap.size w w' := by
  by_cases h0 : n ≤ 0
  · rw [show n.toNat = 0 by omega, Nat.pow_zero, Nat.mul_one]
    exact shl4_low _ _ _ _ n h0 w
  · by_cases h1 : 256 ≤ n
    · rw [wd_gone X _ 0 (by omega) (by omega), wd_gone X _ 1 (by omega) (by omega), wd_gone X _ 2 (by omega) (by omega), wd_gone X _ 3 (by omega) (by omega)]
      exact shl4_high _ _ _ _ n h1 w
    · obtain ⟨r, hr⟩ : ∃ r : Nat, n % 64 = (r : Int) := ⟨(n % 64).toNat, by omega⟩
      have hr2 : r < 64 := by omega
      have n0 : 0 < n := by omega
      have n1 : n < 256 := by omega
      clear h0 h1
      rcases (show n / 64 = 0 ∨ n / 64 = 1 ∨ n / 64 = 2 ∨ n / 64 = 3 by omega) with hq | hq | hq | hq
      · have e : n.toNat = 64 * 0 + r := by omega
        rw [e]
        rw [wd_far X 0 r 0 (by omega)]
        rw [wd_far X 0 r 1 (by omega)]
        rw [wd_far X 0 r 2 (by omega)]
        rw [wd_far X 0 r 3 (by omega)]
        rcases Nat.eq_zero_or_pos r with hp | hp
        · subst hp
          exact shl4_0z _ _ _ _ 0 64 _ _ _ _ _ _ _ _ n n0 n1 hq hr (by omega) rfl (shL _ 0) (shz X 0) (shL _ 0) (shz X 1) (shL _ 0) (shz X 2) (shL _ 0) (shz X 3) w
        · exact shl4_0p _ _ _ _ r (64 - r) _ _ _ _ _ _ _ _ _ _ _ _ n n0 n1 hq hr (by omega) hp (shL _ r) (shH _ _) (sh0 X r) (shL _ r) (shH _ _) (sh1 X 0 r _ hr2 rfl) (shL _ r) (shH _ _) (sh1 X 1 r _ hr2 rfl) (shL _ r) (shH _ _) (sh1 X 2 r _ hr2 rfl) w
      · have e : n.toNat = 64 * 1 + r := by omega
        rw [e]
        rw [wd_near X 1 r 0 (by omega)]
        rw [wd_far X 1 r 1 (by omega)]
        rw [wd_far X 1 r 2 (by omega)]
        rw [wd_far X 1 r 3 (by omega)]
        rcases Nat.eq_zero_or_pos r with hp | hp
        · subst hp
          exact shl4_1z _ _ _ _ 0 64 _ _ _ _ _ _ n n0 n1 hq hr (by omega) rfl (shL _ 0) (shz X 0) (shL _ 0) (shz X 1) (shL _ 0) (shz X 2) w
        · exact shl4_1p _ _ _ _ r (64 - r) _ _ _ _ _ _ _ _ _ n n0 n1 hq hr (by omega) hp (shL _ r) (shH _ _) (sh0 X r) (shL _ r) (shH _ _) (sh1 X 0 r _ hr2 rfl) (shL _ r) (shH _ _) (sh1 X 1 r _ hr2 rfl) w
      · have e : n.toNat = 64 * 2 + r := by omega
        rw [e]
        rw [wd_near X 2 r 0 (by omega)]
        rw [wd_near X 2 r 1 (by omega)]
        rw [wd_far X 2 r 2 (by omega)]
        rw [wd_far X 2 r 3 (by omega)]
        rcases Nat.eq_zero_or_pos r with hp | hp
        · subst hp
          exact shl4_2z _ _ _ _ 0 64 _ _ _ _ n n0 n1 hq hr (by omega) rfl (shL _ 0) (shz X 0) (shL _ 0) (shz X 1) w
        · exact shl4_2p _ _ _ _ r (64 - r) _ _ _ _ _ _ n n0 n1 hq hr (by omega) hp (shL _ r) (shH _ _) (sh0 X r) (shL _ r) (shH _ _) (sh1 X 0 r _ hr2 rfl) w
      · have e : n.toNat = 64 * 3 + r := by omega
        rw [e]
        rw [wd_near X 3 r 0 (by omega)]
        rw [wd_near X 3 r 1 (by omega)]
        rw [wd_near X 3 r 2 (by omega)]
        rw [wd_far X 3 r 3 (by omega)]
        rcases Nat.eq_zero_or_pos r with hp | hp
        · subst hp
          exact shl4_3z _ _ _ _ 0 64 _ _ n n0 n1 hq hr (by omega) rfl (shL _ 0) (shz X 0) w
        · exact shl4_3p _ _ _ _ r (64 - r) _ _ _ n n0 n1 hq hr (by omega) hp (shL _ r) (shH _ _) (sh0 X r) w
end Go.Proofs.Ytioieoinkjfcfaa
