/-
  Walks of mers89.P, Is, low, wider, next and of the closure of Fold. Conditions: as each says.
-/
import Derived.Test.YtpfpdlgfngkdjaaFourW
import Derived.Test.YtpfpdlgfngkdjaaBoxB
import Derived.Test.YtpfpdlgfngkdjaaShl
import Derived.Test.YtpfpdlgfngkdjaaRngA
import Derived.Deep.DeepCutAuto
import Derived.RegionTactic
namespace Go.Proofs.Ytpfpdlgfngkdjaa
open Go.RowKit Go.Shelf
set_option linter.unusedVariables false

theorem Box4.drew {w : World} {b : Nat} {v0 v1 v2 v3 : Value} (h : Box4 w b v0 v1 v2 v3) : Box4 w.drew b v0 v1 v2 v3 := h
def P89 : Nat := 618970019642690137449562111
set_option maxHeartbeats 400000 in
theorem mp_any (w : World) : Calls Try.prog 14 #[] w fun e w' => e = .returned (.agg #[.int .u64 33554431, .int .u64 18446744073709551615]) ∧ Below w.heap.size w w' := by
  go_enter Try.func14, Try.ntmps14
  go_wp2_with fail
  exact bodyPost_ret (v := .agg #[.int .u64 33554431, .int .u64 18446744073709551615]) (by simp [results, Try.results14, go_sem]) rfl ⟨rfl, by (repeat (first | exact Below.refl _ _ | assumption | (refine Below.alloc ?_ (by first | omega | (simp; done) | (simp; omega)) _) | (refine Below.setCell ?_ (by first | omega | (simp; done) | (simp; omega)) _) | refine Below.drew ?_ | refine below_drewN ?_ _))⟩
set_option maxHeartbeats 400000 in
theorem low_any (f0 f1 f2 f3 : Nat) (w : World) : Calls Try.prog 36 #[.agg #[.int .u64 f0, .int .u64 f1, .int .u64 f2, .int .u64 f3]] w fun e w' => e = .returned (.agg #[.int .u64 f1, .int .u64 f0]) ∧ Below w.heap.size w w' := by
  go_enter Try.func36, Try.ntmps36
  go_wp2_with fail
  exact bodyPost_ret (v := .agg #[.int .u64 f1, .int .u64 f0]) (by simp [results, Try.results36, go_sem]) rfl ⟨rfl, by (repeat (first | exact Below.refl _ _ | assumption | (refine Below.alloc ?_ (by first | omega | (simp; done) | (simp; omega)) _) | (refine Below.setCell ?_ (by first | omega | (simp; done) | (simp; omega)) _) | refine Below.drew ?_ | refine below_drewN ?_ _))⟩
theorem low_two (f0 f1 : Nat) (w : World) : Calls Try.prog 36 #[.agg #[.int .u64 f0, .int .u64 f1, .int .u64 0, .int .u64 0]] w fun e w' => e = .returned (.agg #[.int .u64 f1, .int .u64 f0]) ∧ Below w.heap.size w w' := low_any f0 f1 0 0 w
set_option maxHeartbeats 400000 in
theorem wider_any (h l : Nat) (w : World) : Calls Try.prog 43 #[.agg #[.int .u64 h, .int .u64 l]] w fun e w' => e = .returned (.agg #[.int .u64 l, .int .u64 h, .int .u64 0, .int .u64 0]) ∧ Below w.heap.size w w' := by
  go_enter Try.func43, Try.ntmps43
  go_wp2_with fail
  exact bodyPost_ret (v := .agg #[.int .u64 l, .int .u64 h, .int .u64 0, .int .u64 0]) (by simp [results, Try.results43, go_sem]) rfl ⟨rfl, by (repeat (first | exact Below.refl _ _ | assumption | (refine Below.alloc ?_ (by first | omega | (simp; done) | (simp; omega)) _) | (refine Below.setCell ?_ (by first | omega | (simp; done) | (simp; omega)) _) | refine Below.drew ?_ | refine below_drewN ?_ _))⟩
set_option maxHeartbeats 2000000 in
theorem next_1 (f0 f1 f2 f3 : Nat) (w : World)
    : Calls Try.prog 37 #[.agg #[.int .u64 f0, .int .u64 f1, .int .u64 f2, .int .u64 f3], .int .i64 1] w fun e w' => e = .returned (.int .u64 f1) ∧ Below w.heap.size w w' := by
  go_enter Try.func37, Try.ntmps37
  go_wp2_with fail
  go_ret
  exact ⟨rfl, by (repeat (first | exact Below.refl _ _ | assumption | (refine Below.alloc ?_ (by first | omega | (simp; done) | (simp; omega)) _) | (refine Below.setCell ?_ (by first | omega | (simp; done) | (simp; omega)) _) | refine Below.drew ?_ | refine below_drewN ?_ _))⟩
set_option maxHeartbeats 2000000 in
theorem next_2 (f0 f1 f2 f3 : Nat) (w : World)
    : Calls Try.prog 37 #[.agg #[.int .u64 f0, .int .u64 f1, .int .u64 f2, .int .u64 f3], .int .i64 2] w fun e w' => e = .returned (.int .u64 f2) ∧ Below w.heap.size w w' := by
  go_enter Try.func37, Try.ntmps37
  go_wp2_with fail
  go_ret
  exact ⟨rfl, by (repeat (first | exact Below.refl _ _ | assumption | (refine Below.alloc ?_ (by first | omega | (simp; done) | (simp; omega)) _) | (refine Below.setCell ?_ (by first | omega | (simp; done) | (simp; omega)) _) | refine Below.drew ?_ | refine below_drewN ?_ _))⟩
set_option maxHeartbeats 2000000 in
theorem next_3 (f0 f1 f2 f3 : Nat) (w : World)
    : Calls Try.prog 37 #[.agg #[.int .u64 f0, .int .u64 f1, .int .u64 f2, .int .u64 f3], .int .i64 3] w fun e w' => e = .returned (.int .u64 f3) ∧ Below w.heap.size w w' := by
  go_enter Try.func37, Try.ntmps37
  go_wp2_with fail
  go_ret
  exact ⟨rfl, by (repeat (first | exact Below.refl _ _ | assumption | (refine Below.alloc ?_ (by first | omega | (simp; done) | (simp; omega)) _) | (refine Below.setCell ?_ (by first | omega | (simp; done) | (simp; omega)) _) | refine Below.drew ?_ | refine below_drewN ?_ _))⟩
set_option maxHeartbeats 2000000 in
theorem next_4 (f0 f1 f2 f3 : Nat) (w : World)
    : Calls Try.prog 37 #[.agg #[.int .u64 f0, .int .u64 f1, .int .u64 f2, .int .u64 f3], .int .i64 4] w fun e w' => e = .returned (.int .u64 0) ∧ Below w.heap.size w w' := by
  go_enter Try.func37, Try.ntmps37
  go_wp2_with fail
  go_ret
  exact ⟨rfl, by (repeat (first | exact Below.refl _ _ | assumption | (refine Below.alloc ?_ (by first | omega | (simp; done) | (simp; omega)) _) | (refine Below.setCell ?_ (by first | omega | (simp; done) | (simp; omega)) _) | refine Below.drew ?_ | refine below_drewN ?_ _))⟩
set_option maxHeartbeats 2000000 in
theorem is_g (yh yl : Nat) (c : Int) (b : Bool) (hc : decide (c < 0) = b) (w : World)
    (H1 : ∀ W, Calls Try.prog 23 #[.agg #[.int .u64 yh, .int .u64 yl], .agg #[.int .u64 33554431, .int .u64 18446744073709551615]] W fun e w' => e = .returned (.int .i64 c) ∧ Below W.heap.size W w')
    : Calls Try.prog 18 #[.agg #[.int .u64 yh, .int .u64 yl]] w fun e w' => e = .returned (.bool b) ∧ Below w.heap.size w w' := by
  replace H1 := hide H1
  go_enter Try.func18, Try.ntmps18
  go_wp2_with fail
  have X1 : Box2 (w.alloc (.cells #[.int .u64 yh, .int .u64 yl] 38)) w.heap.size (.int .u64 yh) (.int .u64 yl) := (by (refine ⟨?_, ?_, ?_, ?_, ?_⟩ <;> simp [go_sem] <;> omega))
  have B : Below w.heap.size w (w.alloc (.cells #[.int .u64 yh, .int .u64 yl] 38)) := by (repeat (first | exact Below.refl _ _ | assumption | (refine Below.alloc ?_ (by first | omega | (simp; done) | (simp; omega)) _) | (refine Below.setCell ?_ (by first | omega | (simp; done) | (simp; omega)) _) | refine Below.drew ?_ | refine below_drewN ?_ _))
  generalize w.alloc (.cells #[.int .u64 yh, .int .u64 yl] 38) = W at *
  go_region_held3 (fun v => Box2 v w.heap.size (.int .u64 yh) (.int .u64 yl)) (exact X1) (first | (go_at_call 14; (with_reducible refine (mp_any _).mono ?_); rintro e w1 ⟨rfl, hb⟩; replace X1 := Box2.call hb X1; replace B : Below w.heap.size w w1 := below_call (by (repeat (first | exact Below.refl _ _ | assumption | (refine Below.alloc ?_ (by first | omega | (simp; done) | (simp; omega)) _) | (refine Below.setCell ?_ (by first | omega | (simp; done) | (simp; omega)) _) | refine Below.drew ?_ | refine below_drewN ?_ _))) (Nat.le_refl _) hb; clear hb) | (go_at_call 23; (with_reducible refine (H1.out _).mono ?_); rintro e w2 ⟨rfl, hb⟩; replace X1 := Box2.call hb X1; replace B : Below w.heap.size w w2 := below_call (by (repeat (first | exact Below.refl _ _ | assumption | (refine Below.alloc ?_ (by first | omega | (simp; done) | (simp; omega)) _) | (refine Below.setCell ?_ (by first | omega | (simp; done) | (simp; omega)) _) | refine Below.drew ?_ | refine below_drewN ?_ _))) (Nat.le_refl _) hb; clear hb))
  all_goals go_wp2_with fail
  all_goals go_ret
  all_goals exact ⟨rfl, B⟩
theorem P89_lt : P89 < 340282366920938463463374607431768211456 := by unfold P89; omega
theorem P89_hi : hi64 P89 = 33554431 := by decide
theorem P89_lo : lo64 P89 = 18446744073709551615 := by decide
theorem is_u (Y : Nat) (w : World) : Calls Try.prog 18 #[.agg #[.int .u64 (hi64 (Y) : Nat), .int .u64 (lo64 (Y) : Nat)]] w fun e w' => e = .returned (.bool (decide (m128 Y < P89))) ∧ Below w.heap.size w w' := by
  refine is_g _ _ (cmpV (m128 Y) P89) _ ?_ w fun W => ?_
  · unfold cmpV
    by_cases h : m128 Y < P89
    · rw [if_pos h, decide_eq_true h]; rfl
    · rw [if_neg h, decide_eq_false h]
      exact decide_eq_false (by split <;> omega)
  · have h := cmp_u Y P89 W
    rw [P89_hi, P89_lo, m128_id P89_lt] at h
    exact h
set_option maxRecDepth 100000 in
set_option maxHeartbeats 2000000 in
theorem part_g0 (f0 f1 f2 f3 bx bp yh yl zh z2 rh : Nat) (hA : bits .and .u64 (yh : Int) 33554431 = (rh : Int)) (w : World)
    (H0 : ∀ W, Calls Try.prog 37 #[.agg #[.int .u64 f0, .int .u64 f1, .int .u64 f2, .int .u64 f3], .int .i64 2] W fun e w' => e = .returned (.int .u64 z2) ∧ Below W.heap.size W w')
    (H1 : ∀ W, Calls Try.prog 38 #[.agg #[.int .u64 f1, .int .u64 f0], .int .i64 0] W fun e w' => e = .returned (.agg #[.int .u64 yh, .int .u64 yl]) ∧ Below W.heap.size W w')
    : (Box4 w bx (.int .u64 f0) (.int .u64 f1) (.int .u64 f2) (.int .u64 f3)) → (Box2 w bp (.int .u64 33554431) (.int .u64 18446744073709551615)) → Calls Try.prog 35 #[.int .i64 0, .pointer (some ⟨bx, 0, none⟩), .pointer (some ⟨bp, 0, none⟩)] w fun e w' => e = .returned (.agg #[.int .u64 rh, .int .u64 yl]) ∧ Below w.heap.size w w' := by
  replace H0 := hide H0
  replace H1 := hide H1
  intro X1 P1
  have w0 : IntKind.i64.wrap 0 = 0 := by decide
  have w1 : IntKind.i64.wrap 1 = 1 := by decide
  have w2 : IntKind.i64.wrap 2 = 2 := by decide
  have w3 : IntKind.i64.wrap 3 = 3 := by decide
  have w4 : IntKind.i64.wrap 4 = 4 := by decide
  go_enter Try.func35, Try.ntmps35
  go_wp2_with fail
  have zx := X1.2.2.2.2.2.2.2.2
  have zp := P1.2.2.2.2
  have R1 : Box2 (w.alloc (.cells #[.int .u64 0, .int .u64 0] 38)) w.heap.size (.int .u64 0) (.int .u64 0) := (by (refine ⟨?_, ?_, ?_, ?_, ?_⟩ <;> simp [go_sem] <;> omega))
  replace X1 := Box4.alloc (.cells #[.int .u64 0, .int .u64 0] 38) X1
  replace P1 := Box2.alloc (.cells #[.int .u64 0, .int .u64 0] 38) P1
  have B : Below w.heap.size w (w.alloc (.cells #[.int .u64 0, .int .u64 0] 38)) := by (repeat (first | exact Below.refl _ _ | assumption | (refine Below.alloc ?_ (by first | omega | (simp; done) | (simp; omega)) _) | (refine Below.setCell ?_ (by first | omega | (simp; done) | (simp; omega)) _) | refine Below.drew ?_ | refine below_drewN ?_ _))
  generalize w.alloc (.cells #[.int .u64 0, .int .u64 0] 38) = W at *
  go_upto_region 1 with fail
  go_cut [5] (fun s5 wx => ∃ n5 : Nat, s5 = .pointer (some ⟨n5, 0, none⟩) ∧ Box2 wx n5 (.int .u64 f1) (.int .u64 f0) ∧ Box4 wx bx (.int .u64 f0) (.int .u64 f1) (.int .u64 f2) (.int .u64 f3) ∧ Box2 wx bp (.int .u64 33554431) (.int .u64 18446744073709551615) ∧ Box2 wx w.heap.size (.int .u64 0) (.int .u64 0) ∧ Below w.heap.size w wx)
  case first =>
    have hzW := R1.2.2.2.2
    have hxW := X1.2.2.2.2.2.2.2.2
    have hpW := P1.2.2.2.2
    go_region_held3 (fun v => Box4 v bx (.int .u64 f0) (.int .u64 f1) (.int .u64 f2) (.int .u64 f3)) (first | with_reducible exact X1 | with_reducible exact Box4.drew X1 | with_reducible exact Box4.drew (Box4.alloc _ X1) | with_reducible exact Box4.alloc _ X1 | with_reducible exact Box4.far2 X1 (by omega) | with_reducible exact Box4.far2 (Box4.alloc _ X1) (by omega) | with_reducible exact Box4.alloc _ (Box4.far2 X1 (by omega))) (first | (go_at_call 37; (with_reducible refine (next_1 _ _ _ _ _).mono ?_); rintro e w3 ⟨rfl, hb⟩; (first | (with_reducible replace N := Box2.call hb N) | (with_reducible have N := Box2.newd hb) | (with_reducible have N := Box2.new hb) | skip); replace X1 := Box4.call hb (by first | exact X1 | exact Box4.alloc _ X1 | exact Box4.alloc _ (Box4.alloc _ X1)); replace P1 := Box2.call hb (by first | exact P1 | exact Box2.alloc _ P1 | exact Box2.alloc _ (Box2.alloc _ P1)); replace R1 := Box2.call hb (by first | exact R1 | exact Box2.alloc _ R1 | exact Box2.alloc _ (Box2.alloc _ R1)); replace B : Below w.heap.size w w3 := below_call (by (repeat (first | exact Below.refl _ _ | assumption | (refine Below.alloc ?_ (by first | omega | (simp; done) | (simp; omega)) _) | (refine Below.setCell ?_ (by first | omega | (simp; done) | (simp; omega)) _) | refine Below.drew ?_ | refine below_drewN ?_ _))) (Nat.le_refl _) hb; have hz3 := R1.2.2.2.2; have hx3 := X1.2.2.2.2.2.2.2.2; have hp3 := P1.2.2.2.2; clear hb) | (go_at_call 36; (with_reducible refine (low_two _ _ _).mono ?_); rintro e w4 ⟨rfl, hb⟩; (first | (with_reducible replace N := Box2.call hb N) | (with_reducible have N := Box2.newd hb) | (with_reducible have N := Box2.new hb) | skip); replace X1 := Box4.call hb (by first | exact X1 | exact Box4.alloc _ X1 | exact Box4.alloc _ (Box4.alloc _ X1)); replace P1 := Box2.call hb (by first | exact P1 | exact Box2.alloc _ P1 | exact Box2.alloc _ (Box2.alloc _ P1)); replace R1 := Box2.call hb (by first | exact R1 | exact Box2.alloc _ R1 | exact Box2.alloc _ (Box2.alloc _ R1)); replace B : Below w.heap.size w w4 := below_call (by (repeat (first | exact Below.refl _ _ | assumption | (refine Below.alloc ?_ (by first | omega | (simp; done) | (simp; omega)) _) | (refine Below.setCell ?_ (by first | omega | (simp; done) | (simp; omega)) _) | refine Below.drew ?_ | refine below_drewN ?_ _))) (Nat.le_refl _) hb; have hz4 := R1.2.2.2.2; have hx4 := X1.2.2.2.2.2.2.2.2; have hp4 := P1.2.2.2.2; clear hb))
    all_goals
      have bz := B.size
      clear H0 H1
      go_wp2_with fail
      go_meet
      refine ⟨_, rfl, ?_, ?_, ?_, ?_, ?_⟩
      · exact (by (refine ⟨?_, ?_, ?_, ?_, ?_⟩ <;> simp [go_sem, *] <;> omega))
      · first | with_reducible exact X1 | with_reducible exact Box4.drew X1 | with_reducible exact Box4.drew (Box4.alloc _ X1) | with_reducible exact Box4.alloc _ X1 | with_reducible exact Box4.far2 X1 (by omega) | with_reducible exact Box4.far2 (Box4.alloc _ X1) (by omega) | with_reducible exact Box4.alloc _ (Box4.far2 X1 (by omega))
      · first | with_reducible exact P1 | with_reducible exact Box2.drew P1 | with_reducible exact Box2.drew (Box2.alloc _ P1) | with_reducible exact Box2.alloc _ P1 | with_reducible exact Box2.far2 P1 (by omega) | with_reducible exact Box2.far2 (Box2.alloc _ P1) (by omega) | with_reducible exact Box2.alloc _ (Box2.far2 P1 (by omega))
      · first | with_reducible exact R1 | with_reducible exact Box2.drew R1 | with_reducible exact Box2.drew (Box2.alloc _ R1) | with_reducible exact Box2.alloc _ R1 | with_reducible exact Box2.far2 R1 (by omega) | with_reducible exact Box2.far2 (Box2.alloc _ R1) (by omega) | with_reducible exact Box2.alloc _ (Box2.far2 R1 (by omega))
      · (repeat (first | exact Below.refl _ _ | assumption | (refine Below.alloc ?_ (by first | omega | (simp; done) | (simp; omega)) _) | (refine Below.setCell ?_ (by first | omega | (simp; done) | (simp; omega)) _) | refine Below.drew ?_ | refine below_drewN ?_ _))
  case rest =>
    obtain ⟨n5, rfl, N5, X1, P1, R1, B⟩ := hcut
    have hR := R1.2.2.2.2
    go_wp2_with fail
    refine (H0.out _).mono ?_
    rintro e w5 ⟨rfl, hb⟩
    replace N5 := Box2.call hb (by first | exact N5 | exact Box2.alloc _ N5 | exact Box2.alloc _ (Box2.alloc _ N5))
    replace X1 := Box4.call hb (by first | exact X1 | exact Box4.alloc _ X1 | exact Box4.alloc _ (Box4.alloc _ X1))
    replace P1 := Box2.call hb (by first | exact P1 | exact Box2.alloc _ P1 | exact Box2.alloc _ (Box2.alloc _ P1))
    replace R1 := Box2.call hb (by first | exact R1 | exact Box2.alloc _ R1 | exact Box2.alloc _ (Box2.alloc _ R1))
    replace B : Below w.heap.size w w5 := below_call (by (repeat (first | exact Below.refl _ _ | assumption | (refine Below.alloc ?_ (by first | omega | (simp; done) | (simp; omega)) _) | (refine Below.setCell ?_ (by first | omega | (simp; done) | (simp; omega)) _) | refine Below.drew ?_ | refine below_drewN ?_ _))) (Nat.le_refl _) hb
    clear hb
    have bz := B.size
    go_wp2_with fail
    refine (H1.out _).mono ?_
    rintro e w6 ⟨rfl, hb⟩
    have N6 := Box2.call hb (show Box2 _ w5.heap.size (.int .u64 z2) (.int .u64 0) from (by (refine ⟨?_, ?_, ?_, ?_, ?_⟩ <;> simp [go_sem] <;> omega)))
    replace N5 := Box2.call hb (Box2.alloc _ N5)
    replace X1 := Box4.call hb (Box4.alloc _ X1)
    replace P1 := Box2.call hb (Box2.alloc _ P1)
    replace R1 := Box2.call hb (Box2.alloc _ R1)
    replace B : Below w.heap.size w w6 := below_call (by (repeat (first | exact Below.refl _ _ | assumption | (refine Below.alloc ?_ (by first | omega | (simp; done) | (simp; omega)) _) | (refine Below.setCell ?_ (by first | omega | (simp; done) | (simp; omega)) _) | refine Below.drew ?_ | refine below_drewN ?_ _))) (Nat.le_refl _) hb
    clear hb bz
    have bz := B.size
    go_wp2_with fail
    have R2 := Box2.put (.int .u64 rh) (.int .u64 yl) R1
    have R3 := Box2.alloc (.cells #[.int .u64 yh, .int .u64 yl] 38) R2
    exact bodyPost_ret (v := .agg #[.int .u64 rh, .int .u64 yl]) (by simp [results, Try.results35, go_sem, R3]) rfl ⟨rfl, by (repeat (first | exact Below.refl _ _ | assumption | (refine Below.alloc ?_ (by first | omega | (simp; done) | (simp; omega)) _) | (refine Below.setCell ?_ (by first | omega | (simp; done) | (simp; omega)) _) | refine Below.drew ?_ | refine below_drewN ?_ _))⟩
set_option maxRecDepth 100000 in
set_option maxHeartbeats 2000000 in
theorem part_g89 (f0 f1 f2 f3 bx bp yh yl zh z2 rh : Nat) (hO : bits .or .u64 (yh : Int) (IntKind.u64.wrap ((z2 : Int) * 549755813888)) = (zh : Int)) (hA : bits .and .u64 (zh : Int) 33554431 = (rh : Int)) (w : World)
    (H0 : ∀ W, Calls Try.prog 37 #[.agg #[.int .u64 f0, .int .u64 f1, .int .u64 f2, .int .u64 f3], .int .i64 3] W fun e w' => e = .returned (.int .u64 z2) ∧ Below W.heap.size W w')
    (H1 : ∀ W, Calls Try.prog 38 #[.agg #[.int .u64 f2, .int .u64 f1], .int .i64 25] W fun e w' => e = .returned (.agg #[.int .u64 yh, .int .u64 yl]) ∧ Below W.heap.size W w')
    : (Box4 w bx (.int .u64 f0) (.int .u64 f1) (.int .u64 f2) (.int .u64 f3)) → (Box2 w bp (.int .u64 33554431) (.int .u64 18446744073709551615)) → Calls Try.prog 35 #[.int .i64 89, .pointer (some ⟨bx, 0, none⟩), .pointer (some ⟨bp, 0, none⟩)] w fun e w' => e = .returned (.agg #[.int .u64 rh, .int .u64 yl]) ∧ Below w.heap.size w w' := by
  replace H0 := hide H0
  replace H1 := hide H1
  intro X1 P1
  have w0 : IntKind.i64.wrap 0 = 0 := by decide
  have w1 : IntKind.i64.wrap 1 = 1 := by decide
  have w2 : IntKind.i64.wrap 2 = 2 := by decide
  have w3 : IntKind.i64.wrap 3 = 3 := by decide
  have w4 : IntKind.i64.wrap 4 = 4 := by decide
  go_enter Try.func35, Try.ntmps35
  go_wp2_with fail
  have zx := X1.2.2.2.2.2.2.2.2
  have zp := P1.2.2.2.2
  have R1 : Box2 (w.alloc (.cells #[.int .u64 0, .int .u64 0] 38)) w.heap.size (.int .u64 0) (.int .u64 0) := (by (refine ⟨?_, ?_, ?_, ?_, ?_⟩ <;> simp [go_sem] <;> omega))
  replace X1 := Box4.alloc (.cells #[.int .u64 0, .int .u64 0] 38) X1
  replace P1 := Box2.alloc (.cells #[.int .u64 0, .int .u64 0] 38) P1
  have B : Below w.heap.size w (w.alloc (.cells #[.int .u64 0, .int .u64 0] 38)) := by (repeat (first | exact Below.refl _ _ | assumption | (refine Below.alloc ?_ (by first | omega | (simp; done) | (simp; omega)) _) | (refine Below.setCell ?_ (by first | omega | (simp; done) | (simp; omega)) _) | refine Below.drew ?_ | refine below_drewN ?_ _))
  generalize w.alloc (.cells #[.int .u64 0, .int .u64 0] 38) = W at *
  go_upto_region 1 with fail
  go_cut [5] (fun s5 wx => ∃ n5 : Nat, s5 = .pointer (some ⟨n5, 0, none⟩) ∧ Box2 wx n5 (.int .u64 f2) (.int .u64 f1) ∧ Box4 wx bx (.int .u64 f0) (.int .u64 f1) (.int .u64 f2) (.int .u64 f3) ∧ Box2 wx bp (.int .u64 33554431) (.int .u64 18446744073709551615) ∧ Box2 wx w.heap.size (.int .u64 0) (.int .u64 0) ∧ Below w.heap.size w wx)
  case first =>
    have hzW := R1.2.2.2.2
    have hxW := X1.2.2.2.2.2.2.2.2
    have hpW := P1.2.2.2.2
    go_region_held3 (fun v => Box4 v bx (.int .u64 f0) (.int .u64 f1) (.int .u64 f2) (.int .u64 f3)) (first | with_reducible exact X1 | with_reducible exact Box4.drew X1 | with_reducible exact Box4.drew (Box4.alloc _ X1) | with_reducible exact Box4.alloc _ X1 | with_reducible exact Box4.far2 X1 (by omega) | with_reducible exact Box4.far2 (Box4.alloc _ X1) (by omega) | with_reducible exact Box4.alloc _ (Box4.far2 X1 (by omega))) (first | (go_at_call 37; (with_reducible refine (next_2 _ _ _ _ _).mono ?_); rintro e w3 ⟨rfl, hb⟩; (first | (with_reducible replace N := Box2.call hb N) | (with_reducible have N := Box2.newd hb) | (with_reducible have N := Box2.new hb) | skip); replace X1 := Box4.call hb (by first | exact X1 | exact Box4.alloc _ X1 | exact Box4.alloc _ (Box4.alloc _ X1)); replace P1 := Box2.call hb (by first | exact P1 | exact Box2.alloc _ P1 | exact Box2.alloc _ (Box2.alloc _ P1)); replace R1 := Box2.call hb (by first | exact R1 | exact Box2.alloc _ R1 | exact Box2.alloc _ (Box2.alloc _ R1)); replace B : Below w.heap.size w w3 := below_call (by (repeat (first | exact Below.refl _ _ | assumption | (refine Below.alloc ?_ (by first | omega | (simp; done) | (simp; omega)) _) | (refine Below.setCell ?_ (by first | omega | (simp; done) | (simp; omega)) _) | refine Below.drew ?_ | refine below_drewN ?_ _))) (Nat.le_refl _) hb; have hz3 := R1.2.2.2.2; have hx3 := X1.2.2.2.2.2.2.2.2; have hp3 := P1.2.2.2.2; clear hb) | (go_at_call 36; (with_reducible refine (low_two _ _ _).mono ?_); rintro e w4 ⟨rfl, hb⟩; (first | (with_reducible replace N := Box2.call hb N) | (with_reducible have N := Box2.newd hb) | (with_reducible have N := Box2.new hb) | skip); replace X1 := Box4.call hb (by first | exact X1 | exact Box4.alloc _ X1 | exact Box4.alloc _ (Box4.alloc _ X1)); replace P1 := Box2.call hb (by first | exact P1 | exact Box2.alloc _ P1 | exact Box2.alloc _ (Box2.alloc _ P1)); replace R1 := Box2.call hb (by first | exact R1 | exact Box2.alloc _ R1 | exact Box2.alloc _ (Box2.alloc _ R1)); replace B : Below w.heap.size w w4 := below_call (by (repeat (first | exact Below.refl _ _ | assumption | (refine Below.alloc ?_ (by first | omega | (simp; done) | (simp; omega)) _) | (refine Below.setCell ?_ (by first | omega | (simp; done) | (simp; omega)) _) | refine Below.drew ?_ | refine below_drewN ?_ _))) (Nat.le_refl _) hb; have hz4 := R1.2.2.2.2; have hx4 := X1.2.2.2.2.2.2.2.2; have hp4 := P1.2.2.2.2; clear hb))
    all_goals
      have bz := B.size
      clear H0 H1
      go_wp2_with fail
      go_meet
      refine ⟨_, rfl, ?_, ?_, ?_, ?_, ?_⟩
      · exact (by (refine ⟨?_, ?_, ?_, ?_, ?_⟩ <;> simp [go_sem, *] <;> omega))
      · first | with_reducible exact X1 | with_reducible exact Box4.drew X1 | with_reducible exact Box4.drew (Box4.alloc _ X1) | with_reducible exact Box4.alloc _ X1 | with_reducible exact Box4.far2 X1 (by omega) | with_reducible exact Box4.far2 (Box4.alloc _ X1) (by omega) | with_reducible exact Box4.alloc _ (Box4.far2 X1 (by omega))
      · first | with_reducible exact P1 | with_reducible exact Box2.drew P1 | with_reducible exact Box2.drew (Box2.alloc _ P1) | with_reducible exact Box2.alloc _ P1 | with_reducible exact Box2.far2 P1 (by omega) | with_reducible exact Box2.far2 (Box2.alloc _ P1) (by omega) | with_reducible exact Box2.alloc _ (Box2.far2 P1 (by omega))
      · first | with_reducible exact R1 | with_reducible exact Box2.drew R1 | with_reducible exact Box2.drew (Box2.alloc _ R1) | with_reducible exact Box2.alloc _ R1 | with_reducible exact Box2.far2 R1 (by omega) | with_reducible exact Box2.far2 (Box2.alloc _ R1) (by omega) | with_reducible exact Box2.alloc _ (Box2.far2 R1 (by omega))
      · (repeat (first | exact Below.refl _ _ | assumption | (refine Below.alloc ?_ (by first | omega | (simp; done) | (simp; omega)) _) | (refine Below.setCell ?_ (by first | omega | (simp; done) | (simp; omega)) _) | refine Below.drew ?_ | refine below_drewN ?_ _))
  case rest =>
    obtain ⟨n5, rfl, N5, X1, P1, R1, B⟩ := hcut
    have hR := R1.2.2.2.2
    go_wp2_with fail
    refine (H0.out _).mono ?_
    rintro e w5 ⟨rfl, hb⟩
    replace N5 := Box2.call hb (by first | exact N5 | exact Box2.alloc _ N5 | exact Box2.alloc _ (Box2.alloc _ N5))
    replace X1 := Box4.call hb (by first | exact X1 | exact Box4.alloc _ X1 | exact Box4.alloc _ (Box4.alloc _ X1))
    replace P1 := Box2.call hb (by first | exact P1 | exact Box2.alloc _ P1 | exact Box2.alloc _ (Box2.alloc _ P1))
    replace R1 := Box2.call hb (by first | exact R1 | exact Box2.alloc _ R1 | exact Box2.alloc _ (Box2.alloc _ R1))
    replace B : Below w.heap.size w w5 := below_call (by (repeat (first | exact Below.refl _ _ | assumption | (refine Below.alloc ?_ (by first | omega | (simp; done) | (simp; omega)) _) | (refine Below.setCell ?_ (by first | omega | (simp; done) | (simp; omega)) _) | refine Below.drew ?_ | refine below_drewN ?_ _))) (Nat.le_refl _) hb
    clear hb
    have bz := B.size
    go_wp2_with fail
    refine (H1.out _).mono ?_
    rintro e w6 ⟨rfl, hb⟩
    have N6 := Box2.call hb (show Box2 _ w5.heap.size (.int .u64 z2) (.int .u64 0) from (by (refine ⟨?_, ?_, ?_, ?_, ?_⟩ <;> simp [go_sem] <;> omega)))
    replace N5 := Box2.call hb (Box2.alloc _ N5)
    replace X1 := Box4.call hb (Box4.alloc _ X1)
    replace P1 := Box2.call hb (Box2.alloc _ P1)
    replace R1 := Box2.call hb (Box2.alloc _ R1)
    replace B : Below w.heap.size w w6 := below_call (by (repeat (first | exact Below.refl _ _ | assumption | (refine Below.alloc ?_ (by first | omega | (simp; done) | (simp; omega)) _) | (refine Below.setCell ?_ (by first | omega | (simp; done) | (simp; omega)) _) | refine Below.drew ?_ | refine below_drewN ?_ _))) (Nat.le_refl _) hb
    clear hb bz
    have bz := B.size
    go_wp2_with fail
    have h56 := N6.2.2.2.2
    have Y1 : Box2 (w6.alloc (.cells #[.int .u64 yh, .int .u64 yl] 38)) w6.heap.size (.int .u64 yh) (.int .u64 yl) := (by (refine ⟨?_, ?_, ?_, ?_, ?_⟩ <;> simp [go_sem] <;> omega))
    have hp6 := P1.2.2.2.2
    have hr6 := R1.2.2.2.2
    replace N6 := Box2.alloc (.cells #[.int .u64 yh, .int .u64 yl] 38) N6
    replace P1 := Box2.alloc (.cells #[.int .u64 yh, .int .u64 yl] 38) P1
    replace R1 := Box2.alloc (.cells #[.int .u64 yh, .int .u64 yl] 38) R1
    replace B := Below.alloc B B.size (.cells #[.int .u64 yh, .int .u64 yl] 38)
    clear N5 X1
    generalize w6.alloc (.cells #[.int .u64 yh, .int .u64 yl] 38) = W7 at *
    have k1 : ¬ bp = w6.heap.size := by omega
    have k2 : ¬ w6.heap.size = bp := by omega
    have k3 : ¬ w5.heap.size = w6.heap.size := by omega
    have k4 : ¬ w6.heap.size = w5.heap.size := by omega
    have k5 : ¬ w.heap.size = w6.heap.size := by omega
    have k6 : ¬ w6.heap.size = w.heap.size := by omega
    have k7 : w.heap.size ≤ w6.heap.size := bz
    clear bz h56 hp6 hr6
    generalize w6.heap.size = n7 at *
    generalize w5.heap.size = n6 at *
    go_region
    have P2 := Box2.far (k := 0) (v := .int .u64 zh) P1 k2
    have R2 := Box2.far (k := 0) (v := .int .u64 zh) R1 k6
    go_wp2_with fail
    have R3 := Box2.put (.int .u64 rh) (.int .u64 yl) R2
    exact bodyPost_ret (v := .agg #[.int .u64 rh, .int .u64 yl]) (by simp [results, Try.results35, go_sem, R3]) rfl ⟨rfl, by (repeat (first | exact Below.refl _ _ | assumption | (refine Below.alloc ?_ (by first | omega | (simp; done) | (simp; omega)) _) | (refine Below.setCell ?_ (by first | omega | (simp; done) | (simp; omega)) _) | refine Below.drew ?_ | refine below_drewN ?_ _))⟩
set_option maxRecDepth 100000 in
set_option maxHeartbeats 2000000 in
theorem part_g178 (f0 f1 f2 f3 bx bp yh yl zh z2 rh : Nat) (hO : bits .or .u64 (yh : Int) (IntKind.u64.wrap ((z2 : Int) * 16384)) = (zh : Int)) (hA : bits .and .u64 (zh : Int) 33554431 = (rh : Int)) (w : World)
    (H0 : ∀ W, Calls Try.prog 37 #[.agg #[.int .u64 f0, .int .u64 f1, .int .u64 f2, .int .u64 f3], .int .i64 4] W fun e w' => e = .returned (.int .u64 z2) ∧ Below W.heap.size W w')
    (H1 : ∀ W, Calls Try.prog 38 #[.agg #[.int .u64 f3, .int .u64 f2], .int .i64 50] W fun e w' => e = .returned (.agg #[.int .u64 yh, .int .u64 yl]) ∧ Below W.heap.size W w')
    : (Box4 w bx (.int .u64 f0) (.int .u64 f1) (.int .u64 f2) (.int .u64 f3)) → (Box2 w bp (.int .u64 33554431) (.int .u64 18446744073709551615)) → Calls Try.prog 35 #[.int .i64 178, .pointer (some ⟨bx, 0, none⟩), .pointer (some ⟨bp, 0, none⟩)] w fun e w' => e = .returned (.agg #[.int .u64 rh, .int .u64 yl]) ∧ Below w.heap.size w w' := by
  replace H0 := hide H0
  replace H1 := hide H1
  intro X1 P1
  have w0 : IntKind.i64.wrap 0 = 0 := by decide
  have w1 : IntKind.i64.wrap 1 = 1 := by decide
  have w2 : IntKind.i64.wrap 2 = 2 := by decide
  have w3 : IntKind.i64.wrap 3 = 3 := by decide
  have w4 : IntKind.i64.wrap 4 = 4 := by decide
  go_enter Try.func35, Try.ntmps35
  go_wp2_with fail
  have zx := X1.2.2.2.2.2.2.2.2
  have zp := P1.2.2.2.2
  have R1 : Box2 (w.alloc (.cells #[.int .u64 0, .int .u64 0] 38)) w.heap.size (.int .u64 0) (.int .u64 0) := (by (refine ⟨?_, ?_, ?_, ?_, ?_⟩ <;> simp [go_sem] <;> omega))
  replace X1 := Box4.alloc (.cells #[.int .u64 0, .int .u64 0] 38) X1
  replace P1 := Box2.alloc (.cells #[.int .u64 0, .int .u64 0] 38) P1
  have B : Below w.heap.size w (w.alloc (.cells #[.int .u64 0, .int .u64 0] 38)) := by (repeat (first | exact Below.refl _ _ | assumption | (refine Below.alloc ?_ (by first | omega | (simp; done) | (simp; omega)) _) | (refine Below.setCell ?_ (by first | omega | (simp; done) | (simp; omega)) _) | refine Below.drew ?_ | refine below_drewN ?_ _))
  generalize w.alloc (.cells #[.int .u64 0, .int .u64 0] 38) = W at *
  go_upto_region 1 with fail
  go_cut [5] (fun s5 wx => ∃ n5 : Nat, s5 = .pointer (some ⟨n5, 0, none⟩) ∧ Box2 wx n5 (.int .u64 f3) (.int .u64 f2) ∧ Box4 wx bx (.int .u64 f0) (.int .u64 f1) (.int .u64 f2) (.int .u64 f3) ∧ Box2 wx bp (.int .u64 33554431) (.int .u64 18446744073709551615) ∧ Box2 wx w.heap.size (.int .u64 0) (.int .u64 0) ∧ Below w.heap.size w wx)
  case first =>
    have hzW := R1.2.2.2.2
    have hxW := X1.2.2.2.2.2.2.2.2
    have hpW := P1.2.2.2.2
    go_region_held3 (fun v => Box4 v bx (.int .u64 f0) (.int .u64 f1) (.int .u64 f2) (.int .u64 f3)) (first | with_reducible exact X1 | with_reducible exact Box4.drew X1 | with_reducible exact Box4.drew (Box4.alloc _ X1) | with_reducible exact Box4.alloc _ X1 | with_reducible exact Box4.far2 X1 (by omega) | with_reducible exact Box4.far2 (Box4.alloc _ X1) (by omega) | with_reducible exact Box4.alloc _ (Box4.far2 X1 (by omega))) (first | (go_at_call 37; (with_reducible refine (next_3 _ _ _ _ _).mono ?_); rintro e w3 ⟨rfl, hb⟩; (first | (with_reducible replace N := Box2.call hb N) | (with_reducible have N := Box2.newd hb) | (with_reducible have N := Box2.new hb) | skip); replace X1 := Box4.call hb (by first | exact X1 | exact Box4.alloc _ X1 | exact Box4.alloc _ (Box4.alloc _ X1)); replace P1 := Box2.call hb (by first | exact P1 | exact Box2.alloc _ P1 | exact Box2.alloc _ (Box2.alloc _ P1)); replace R1 := Box2.call hb (by first | exact R1 | exact Box2.alloc _ R1 | exact Box2.alloc _ (Box2.alloc _ R1)); replace B : Below w.heap.size w w3 := below_call (by (repeat (first | exact Below.refl _ _ | assumption | (refine Below.alloc ?_ (by first | omega | (simp; done) | (simp; omega)) _) | (refine Below.setCell ?_ (by first | omega | (simp; done) | (simp; omega)) _) | refine Below.drew ?_ | refine below_drewN ?_ _))) (Nat.le_refl _) hb; have hz3 := R1.2.2.2.2; have hx3 := X1.2.2.2.2.2.2.2.2; have hp3 := P1.2.2.2.2; clear hb) | (go_at_call 36; (with_reducible refine (low_two _ _ _).mono ?_); rintro e w4 ⟨rfl, hb⟩; (first | (with_reducible replace N := Box2.call hb N) | (with_reducible have N := Box2.newd hb) | (with_reducible have N := Box2.new hb) | skip); replace X1 := Box4.call hb (by first | exact X1 | exact Box4.alloc _ X1 | exact Box4.alloc _ (Box4.alloc _ X1)); replace P1 := Box2.call hb (by first | exact P1 | exact Box2.alloc _ P1 | exact Box2.alloc _ (Box2.alloc _ P1)); replace R1 := Box2.call hb (by first | exact R1 | exact Box2.alloc _ R1 | exact Box2.alloc _ (Box2.alloc _ R1)); replace B : Below w.heap.size w w4 := below_call (by (repeat (first | exact Below.refl _ _ | assumption | (refine Below.alloc ?_ (by first | omega | (simp; done) | (simp; omega)) _) | (refine Below.setCell ?_ (by first | omega | (simp; done) | (simp; omega)) _) | refine Below.drew ?_ | refine below_drewN ?_ _))) (Nat.le_refl _) hb; have hz4 := R1.2.2.2.2; have hx4 := X1.2.2.2.2.2.2.2.2; have hp4 := P1.2.2.2.2; clear hb))
    all_goals
      have bz := B.size
      clear H0 H1
      go_wp2_with fail
      go_meet
      refine ⟨_, rfl, ?_, ?_, ?_, ?_, ?_⟩
      · exact (by (refine ⟨?_, ?_, ?_, ?_, ?_⟩ <;> simp [go_sem, *] <;> omega))
      · first | with_reducible exact X1 | with_reducible exact Box4.drew X1 | with_reducible exact Box4.drew (Box4.alloc _ X1) | with_reducible exact Box4.alloc _ X1 | with_reducible exact Box4.far2 X1 (by omega) | with_reducible exact Box4.far2 (Box4.alloc _ X1) (by omega) | with_reducible exact Box4.alloc _ (Box4.far2 X1 (by omega))
      · first | with_reducible exact P1 | with_reducible exact Box2.drew P1 | with_reducible exact Box2.drew (Box2.alloc _ P1) | with_reducible exact Box2.alloc _ P1 | with_reducible exact Box2.far2 P1 (by omega) | with_reducible exact Box2.far2 (Box2.alloc _ P1) (by omega) | with_reducible exact Box2.alloc _ (Box2.far2 P1 (by omega))
      · first | with_reducible exact R1 | with_reducible exact Box2.drew R1 | with_reducible exact Box2.drew (Box2.alloc _ R1) | with_reducible exact Box2.alloc _ R1 | with_reducible exact Box2.far2 R1 (by omega) | with_reducible exact Box2.far2 (Box2.alloc _ R1) (by omega) | with_reducible exact Box2.alloc _ (Box2.far2 R1 (by omega))
      · (repeat (first | exact Below.refl _ _ | assumption | (refine Below.alloc ?_ (by first | omega | (simp; done) | (simp; omega)) _) | (refine Below.setCell ?_ (by first | omega | (simp; done) | (simp; omega)) _) | refine Below.drew ?_ | refine below_drewN ?_ _))
  case rest =>
    obtain ⟨n5, rfl, N5, X1, P1, R1, B⟩ := hcut
    have hR := R1.2.2.2.2
    go_wp2_with fail
    refine (H0.out _).mono ?_
    rintro e w5 ⟨rfl, hb⟩
    replace N5 := Box2.call hb (by first | exact N5 | exact Box2.alloc _ N5 | exact Box2.alloc _ (Box2.alloc _ N5))
    replace X1 := Box4.call hb (by first | exact X1 | exact Box4.alloc _ X1 | exact Box4.alloc _ (Box4.alloc _ X1))
    replace P1 := Box2.call hb (by first | exact P1 | exact Box2.alloc _ P1 | exact Box2.alloc _ (Box2.alloc _ P1))
    replace R1 := Box2.call hb (by first | exact R1 | exact Box2.alloc _ R1 | exact Box2.alloc _ (Box2.alloc _ R1))
    replace B : Below w.heap.size w w5 := below_call (by (repeat (first | exact Below.refl _ _ | assumption | (refine Below.alloc ?_ (by first | omega | (simp; done) | (simp; omega)) _) | (refine Below.setCell ?_ (by first | omega | (simp; done) | (simp; omega)) _) | refine Below.drew ?_ | refine below_drewN ?_ _))) (Nat.le_refl _) hb
    clear hb
    have bz := B.size
    go_wp2_with fail
    refine (H1.out _).mono ?_
    rintro e w6 ⟨rfl, hb⟩
    have N6 := Box2.call hb (show Box2 _ w5.heap.size (.int .u64 z2) (.int .u64 0) from (by (refine ⟨?_, ?_, ?_, ?_, ?_⟩ <;> simp [go_sem] <;> omega)))
    replace N5 := Box2.call hb (Box2.alloc _ N5)
    replace X1 := Box4.call hb (Box4.alloc _ X1)
    replace P1 := Box2.call hb (Box2.alloc _ P1)
    replace R1 := Box2.call hb (Box2.alloc _ R1)
    replace B : Below w.heap.size w w6 := below_call (by (repeat (first | exact Below.refl _ _ | assumption | (refine Below.alloc ?_ (by first | omega | (simp; done) | (simp; omega)) _) | (refine Below.setCell ?_ (by first | omega | (simp; done) | (simp; omega)) _) | refine Below.drew ?_ | refine below_drewN ?_ _))) (Nat.le_refl _) hb
    clear hb bz
    have bz := B.size
    go_wp2_with fail
    have h56 := N6.2.2.2.2
    have Y1 : Box2 (w6.alloc (.cells #[.int .u64 yh, .int .u64 yl] 38)) w6.heap.size (.int .u64 yh) (.int .u64 yl) := (by (refine ⟨?_, ?_, ?_, ?_, ?_⟩ <;> simp [go_sem] <;> omega))
    have hp6 := P1.2.2.2.2
    have hr6 := R1.2.2.2.2
    replace N6 := Box2.alloc (.cells #[.int .u64 yh, .int .u64 yl] 38) N6
    replace P1 := Box2.alloc (.cells #[.int .u64 yh, .int .u64 yl] 38) P1
    replace R1 := Box2.alloc (.cells #[.int .u64 yh, .int .u64 yl] 38) R1
    replace B := Below.alloc B B.size (.cells #[.int .u64 yh, .int .u64 yl] 38)
    clear N5 X1
    generalize w6.alloc (.cells #[.int .u64 yh, .int .u64 yl] 38) = W7 at *
    have k1 : ¬ bp = w6.heap.size := by omega
    have k2 : ¬ w6.heap.size = bp := by omega
    have k3 : ¬ w5.heap.size = w6.heap.size := by omega
    have k4 : ¬ w6.heap.size = w5.heap.size := by omega
    have k5 : ¬ w.heap.size = w6.heap.size := by omega
    have k6 : ¬ w6.heap.size = w.heap.size := by omega
    have k7 : w.heap.size ≤ w6.heap.size := bz
    clear bz h56 hp6 hr6
    generalize w6.heap.size = n7 at *
    generalize w5.heap.size = n6 at *
    go_region
    have P2 := Box2.far (k := 0) (v := .int .u64 zh) P1 k2
    have R2 := Box2.far (k := 0) (v := .int .u64 zh) R1 k6
    go_wp2_with fail
    have R3 := Box2.put (.int .u64 rh) (.int .u64 yl) R2
    exact bodyPost_ret (v := .agg #[.int .u64 rh, .int .u64 yl]) (by simp [results, Try.results35, go_sem, R3]) rfl ⟨rfl, by (repeat (first | exact Below.refl _ _ | assumption | (refine Below.alloc ?_ (by first | omega | (simp; done) | (simp; omega)) _) | (refine Below.setCell ?_ (by first | omega | (simp; done) | (simp; omega)) _) | refine Below.drew ?_ | refine below_drewN ?_ _))⟩
end Go.Proofs.Ytpfpdlgfngkdjaa
