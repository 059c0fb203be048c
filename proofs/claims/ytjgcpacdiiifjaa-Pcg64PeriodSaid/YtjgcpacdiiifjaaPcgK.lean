/-
  Walk of the reference's many steps; the law Pcg64Advances. Conditions: words fit 64 bits.
-/
import Derived.Test.YtjgcpacdiiifjaaPcgJ
import Derived.Deep.QuietTactic
import Derived.BigQuiet
namespace Go.Proofs.Ytjgcpacdiiifjaa
open Go.RowKit Go.Shelf
set_option linter.unusedVariables false

set_option maxRecDepth 100000 in
set_option maxHeartbeats 2000000 in
theorem rsteps_g (S : Nat → Nat) (I n : Nat) (hn : n ≤ 30) (w : World) (h1 : ∀ k W, Calls Try.prog 33 #[.agg #[.int .u64 (hi64 (S k) : Nat), .int .u64 (lo64 (S k) : Nat)], .agg #[.int .u64 (hi64 (I) : Nat), .int .u64 (lo64 (I) : Nat)]] W (Ret128 W (S (k + 1)))) :
    Calls Try.prog 26 #[.agg #[.int .u64 (hi64 (S 0) : Nat), .int .u64 (lo64 (S 0) : Nat)], .agg #[.int .u64 (hi64 (I) : Nat), .int .u64 (lo64 (I) : Nat)], .int .i64 n] w (Ret128 w (S n)) := by
  have H1 := hide h1
  clear h1
  have hn' : (n : Int) ≤ 30 := by omega
  clear hn
  go_enter Try.func26, Try.ntmps26
  go_wp2_with fail
  have S1 : Box2 (((w.alloc (.cells #[.int .u64 (hi64 (S 0) : Nat), .int .u64 (lo64 (S 0) : Nat)] 24)).alloc (.cells #[.int .u64 (hi64 I : Nat), .int .u64 (lo64 I : Nat)] 24)).alloc (.cells #[.int .u64 0, .int .u64 0] 24)) w.heap.size (.int .u64 (hi64 (S 0) : Nat)) (.int .u64 (lo64 (S 0) : Nat)) := (by (refine ⟨?_, ?_, ?_, ?_, ?_⟩ <;> simp [go_sem] <;> omega))
  have I1 : Box2 (((w.alloc (.cells #[.int .u64 (hi64 (S 0) : Nat), .int .u64 (lo64 (S 0) : Nat)] 24)).alloc (.cells #[.int .u64 (hi64 I : Nat), .int .u64 (lo64 I : Nat)] 24)).alloc (.cells #[.int .u64 0, .int .u64 0] 24)) (w.heap.size + 1) (.int .u64 (hi64 I : Nat)) (.int .u64 (lo64 I : Nat)) := (by (refine ⟨?_, ?_, ?_, ?_, ?_⟩ <;> simp [go_sem] <;> omega))
  have R1 : Box2 (((w.alloc (.cells #[.int .u64 (hi64 (S 0) : Nat), .int .u64 (lo64 (S 0) : Nat)] 24)).alloc (.cells #[.int .u64 (hi64 I : Nat), .int .u64 (lo64 I : Nat)] 24)).alloc (.cells #[.int .u64 0, .int .u64 0] 24)) (w.heap.size + 1 + 1) (.int .u64 0) (.int .u64 0) := (by (refine ⟨?_, ?_, ?_, ?_, ?_⟩ <;> simp [go_sem] <;> omega))
  have B : Below w.heap.size w (((w.alloc (.cells #[.int .u64 (hi64 (S 0) : Nat), .int .u64 (lo64 (S 0) : Nat)] 24)).alloc (.cells #[.int .u64 (hi64 I : Nat), .int .u64 (lo64 I : Nat)] 24)).alloc (.cells #[.int .u64 0, .int .u64 0] 24)) := by (repeat (first | exact Below.refl _ _ | assumption | (refine Below.alloc ?_ (by first | omega | (simp; done) | (simp; omega)) _) | (refine Below.setCell ?_ (by first | omega | (simp; done) | (simp; omega)) _) | refine Below.drew ?_ | refine below_drewN ?_ _))
  generalize ((w.alloc (.cells #[.int .u64 (hi64 (S 0) : Nat), .int .u64 (lo64 (S 0) : Nat)] 24)).alloc (.cells #[.int .u64 (hi64 I : Nat), .int .u64 (lo64 I : Nat)] 24)).alloc (.cells #[.int .u64 0, .int .u64 0] 24) = W1 at *
  obtain ⟨nS, hn0⟩ : ∃ n0, w.heap.size = n0 := ⟨_, rfl⟩
  rw [hn0] at S1 I1 R1 B
  simp only [hn0]
  have HN0 := hide hn0
  have y1 : nS ≠ nS + 1 := by omega
  have y2 : nS ≠ nS + 1 + 1 := by omega
  have z2 : nS ≤ nS + 1 + 1 := by omega
  clear hn0
  generalize nS + 1 + 1 = nR at *
  generalize nS + 1 = nI at *
  go_loopg [7] n (fun g v7 wr => ∃ k : Nat, g = n - k ∧ k ≤ n ∧ v7 = .int .i64 k ∧ Box2 wr nS (.int .u64 (hi64 (S k) : Nat)) (.int .u64 (lo64 (S k) : Nat)) ∧ Box2 wr nI (.int .u64 (hi64 I : Nat)) (.int .u64 (lo64 I : Nat)) ∧ Box2 wr nR (.int .u64 0) (.int .u64 0) ∧ Below nS w wr)
  case atStart => exact ⟨0, rfl, Nat.zero_le _, rfl, S1, I1, R1, B⟩
  case round =>
    clear S1 I1 R1 B
    obtain ⟨k, hg, hk, rfl, S1, I1, R1, B⟩ := hrel
    have HG := hide hg
    clear hg
    by_cases hlt : k < n
    · have t1 : (k : Int) < (n : Int) := by omega
      have K1 := hide (H1.out k)
      generalize hi64 (S k) = sh at *
      generalize lo64 (S k) = sl at *
      go_wp2_with fail
      refine (K1.out _).mono ?_
      rintro e w2 ⟨rfl, hb⟩
      replace S1 := Box2.call hb S1
      replace I1 := Box2.call hb I1
      replace R1 := Box2.call hb R1
      replace B : Below nS w w2 := below_call B (Nat.le_of_eq HN0.out.symm) hb
      clear hb K1
      generalize hzh : hi64 (S (k + 1)) = zh at *
      generalize hzl : lo64 (S (k + 1)) = zl at *
      have HZH := hide hzh
      have HZL := hide hzl
      clear hzh hzl
      go_wp2_with fail
      have S2 := Box2.put (.int .u64 zh) (.int .u64 zl) S1
      have I2 := Box2.far2 (u0 := .int .u64 zh) (u1 := .int .u64 zl) I1 y1
      have R2 := Box2.far2 (u0 := .int .u64 zh) (u1 := .int .u64 zl) R1 y2
      have B2 : Below nS w ((w2.setCell ⟨nS, 0, none⟩ (.int .u64 zh)).setCell ⟨nS, 1, none⟩ (.int .u64 zl)) := (B.setCell (Nat.le_refl _) _).setCell (Nat.le_refl _) _
      clear S1 I1 R1 B
      go_roundg (n - (k + 1))
      case measure => rw [HG.out]; omega
      case rel => exact ⟨k + 1, rfl, by omega, by go_num, by rw [HZH.out, HZL.out]; exact S2, I2, R2, B2⟩
    · have hkn : k = n := by omega
      subst hkn
      generalize hsh : hi64 (S k) = sh at *
      generalize hsl : lo64 (S k) = sl at *
      have HSH := hide hsh
      have HSL := hide hsl
      clear hsh hsl
      go_wp2_with fail
      have hR := Box2.put (.int .u64 sh) (.int .u64 sl) R1
      exact bodyPost_ret (v := .agg #[.int .u64 sh, .int .u64 sl]) (by simp [results, Try.results26, go_sem, hR]) rfl ⟨by rw [HSH.out, HSL.out], by rw [HN0.out]; exact (B.setCell z2 _).setCell z2 _⟩
theorem rsteps_u (X I n : Nat) (hn : n ≤ 30) (w : World) : Calls Try.prog 26 #[.agg #[.int .u64 (hi64 (X) : Nat), .int .u64 (lo64 (X) : Nat)], .agg #[.int .u64 (hi64 (I) : Nat), .int .u64 (lo64 (I) : Nat)], .int .i64 n] w (Ret128 w (stp pcgM (odd1 I) X n)) :=
  rsteps_g (stp pcgM (odd1 I) X) I n hn w fun k W => step_ref14 _ I W

set_option maxRecDepth 100000 in
set_option maxHeartbeats 8000000 in
theorem advances_g (xh xl ih il nh nl mh ml ah al bh bl sh sl : Nat) (w : World)
    (h1 : ∀ W, Calls Try.prog 24 #[.agg #[.int .u64 xh, .int .u64 xl], .agg #[.int .u64 ih, .int .u64 il], .agg #[.int .u64 nh, .int .u64 nl]] W fun e w' => e = .returned (.agg #[.int .u64 ah, .int .u64 al]) ∧ Below W.heap.size W w')
    (h2 : ∀ W, Calls Try.prog 24 #[.agg #[.int .u64 ah, .int .u64 al], .agg #[.int .u64 ih, .int .u64 il], .agg #[.int .u64 mh, .int .u64 ml]] W fun e w' => e = .returned (.agg #[.int .u64 bh, .int .u64 bl]) ∧ Below W.heap.size W w')
    (h3 : ∀ W, Calls Try.prog 25 #[.agg #[.int .u64 nh, .int .u64 nl], .agg #[.int .u64 mh, .int .u64 ml]] W fun e w' => e = .returned (.agg #[.int .u64 sh, .int .u64 sl]) ∧ Below W.heap.size W w')
    (h4 : ∀ W, Calls Try.prog 24 #[.agg #[.int .u64 xh, .int .u64 xl], .agg #[.int .u64 ih, .int .u64 il], .agg #[.int .u64 sh, .int .u64 sl]] W fun e w' => e = .returned (.agg #[.int .u64 bh, .int .u64 bl]) ∧ Below W.heap.size W w')
    (h5 : (nh : Int) = 0 → (nl : Int) ≤ 30 → ∀ W, Calls Try.prog 26 #[.agg #[.int .u64 xh, .int .u64 xl], .agg #[.int .u64 ih, .int .u64 il], .int .i64 nl] W fun e w' => e = .returned (.agg #[.int .u64 ah, .int .u64 al]) ∧ Below W.heap.size W w')
    (hc : (0 : Int) < (nh : Int) ∨ (¬ (0 : Int) < (nh : Int) ∧ (30 : Int) < (nl : Int)) ∨ (¬ (0 : Int) < (nh : Int) ∧ ¬ (30 : Int) < (nl : Int))) :
    Calls Try.prog 5 #[.agg #[.int .u64 xh, .int .u64 xl], .agg #[.int .u64 ih, .int .u64 il], .agg #[.int .u64 nh, .int .u64 nl], .agg #[.int .u64 mh, .int .u64 ml]] w fun e w' => e = .returned (.bool true) ∧ Below w.heap.size w w' := by
  have H1 := hide h1
  have H2 := hide h2
  have H3 := hide h3
  have H4 := hide h4
  have H5 := hide h5
  clear h1 h2 h3 h4 h5
  rcases hc with v1 | ⟨v1, v2⟩ | ⟨v1, v2⟩
  · have v1n : decide (0 < nh) = true := decide_eq_true (by omega)
    clear H5
    go_enter Try.func5, Try.ntmps5
    go_wp2_with fail
    refine (awake14 _).mono ?_
    rintro e w1 ⟨rfl, hb⟩
    have X1 := Box2.call hb (show Box2 _ w.heap.size (.int .u64 xh) (.int .u64 xl) from (by (refine ⟨?_, ?_, ?_, ?_, ?_⟩ <;> simp [go_sem] <;> omega)))
    have I1 := Box2.call hb (show Box2 _ (w.heap.size + 1) (.int .u64 ih) (.int .u64 il) from (by (refine ⟨?_, ?_, ?_, ?_, ?_⟩ <;> simp [go_sem] <;> omega)))
    have N1 := Box2.call hb (show Box2 _ (w.heap.size + 1 + 1) (.int .u64 nh) (.int .u64 nl) from (by (refine ⟨?_, ?_, ?_, ?_, ?_⟩ <;> simp [go_sem] <;> omega)))
    have M1 := Box2.call hb (show Box2 _ (w.heap.size + 1 + 1 + 1) (.int .u64 mh) (.int .u64 ml) from (by (refine ⟨?_, ?_, ?_, ?_, ?_⟩ <;> simp [go_sem] <;> omega)))
    have B : Below w.heap.size w w1 := below_call (by (repeat (first | exact Below.refl _ _ | assumption | (refine Below.alloc ?_ (by first | omega | (simp; done) | (simp; omega)) _) | (refine Below.setCell ?_ (by first | omega | (simp; done) | (simp; omega)) _) | refine Below.drew ?_ | refine below_drewN ?_ _))) (Nat.le_refl _) hb
    clear hb
    go_wp2_with fail
    go_region_held3 (fun v => Box2 v w.heap.size (.int .u64 xh) (.int .u64 xl) ∧ Box2 v (w.heap.size + 1) (.int .u64 ih) (.int .u64 il) ∧ Box2 v (w.heap.size + 1 + 1) (.int .u64 nh) (.int .u64 nl) ∧ Box2 v (w.heap.size + 1 + 1 + 1) (.int .u64 mh) (.int .u64 ml)) (exact ⟨X1, I1, N1, M1⟩) (first | (go_at_call 24; (with_reducible refine (H1.out _).mono ?_); rintro e w4 ⟨rfl, hb⟩; replace X1 := Box2.call hb X1; replace I1 := Box2.call hb I1; replace N1 := Box2.call hb N1; replace M1 := Box2.call hb M1; replace B : Below w.heap.size w w4 := below_call (by (repeat (first | exact Below.refl _ _ | assumption | (refine Below.alloc ?_ (by first | omega | (simp; done) | (simp; omega)) _) | (refine Below.setCell ?_ (by first | omega | (simp; done) | (simp; omega)) _) | refine Below.drew ?_ | refine below_drewN ?_ _))) (Nat.le_refl _) hb; clear hb) | (go_at_call 24; (with_reducible refine (H2.out _).mono ?_); rintro e w4 ⟨rfl, hb⟩; replace X1 := Box2.call hb X1; replace I1 := Box2.call hb I1; replace N1 := Box2.call hb N1; replace M1 := Box2.call hb M1; replace B : Below w.heap.size w w4 := below_call (by (repeat (first | exact Below.refl _ _ | assumption | (refine Below.alloc ?_ (by first | omega | (simp; done) | (simp; omega)) _) | (refine Below.setCell ?_ (by first | omega | (simp; done) | (simp; omega)) _) | refine Below.drew ?_ | refine below_drewN ?_ _))) (Nat.le_refl _) hb; clear hb) | (go_at_call 25; (with_reducible refine (H3.out _).mono ?_); rintro e w4 ⟨rfl, hb⟩; replace X1 := Box2.call hb X1; replace I1 := Box2.call hb I1; replace N1 := Box2.call hb N1; replace M1 := Box2.call hb M1; replace B : Below w.heap.size w w4 := below_call (by (repeat (first | exact Below.refl _ _ | assumption | (refine Below.alloc ?_ (by first | omega | (simp; done) | (simp; omega)) _) | (refine Below.setCell ?_ (by first | omega | (simp; done) | (simp; omega)) _) | refine Below.drew ?_ | refine below_drewN ?_ _))) (Nat.le_refl _) hb; clear hb) | (go_at_call 24; (with_reducible refine (H4.out _).mono ?_); rintro e w4 ⟨rfl, hb⟩; replace X1 := Box2.call hb X1; replace I1 := Box2.call hb I1; replace N1 := Box2.call hb N1; replace M1 := Box2.call hb M1; replace B : Below w.heap.size w w4 := below_call (by (repeat (first | exact Below.refl _ _ | assumption | (refine Below.alloc ?_ (by first | omega | (simp; done) | (simp; omega)) _) | (refine Below.setCell ?_ (by first | omega | (simp; done) | (simp; omega)) _) | refine Below.drew ?_ | refine below_drewN ?_ _))) (Nat.le_refl _) hb; clear hb))
    go_wp2_with fail
    go_quiet (fail)
    go_wp2_with fail
    go_ret
    refine ⟨rfl, ?_⟩
    (repeat (first | exact Below.refl _ _ | assumption | (refine Below.alloc ?_ (by first | omega | (simp; done) | (simp; omega)) _) | (refine Below.setCell ?_ (by first | omega | (simp; done) | (simp; omega)) _) | refine Below.drew ?_ | refine below_drewN ?_ _))
  · have v1n : decide (0 < nh) = false := decide_eq_false (by omega)
    have v2n : decide (30 < nl) = true := decide_eq_true (by omega)
    clear H5
    go_enter Try.func5, Try.ntmps5
    go_wp2_with fail
    refine (awake14 _).mono ?_
    rintro e w1 ⟨rfl, hb⟩
    have X1 := Box2.call hb (show Box2 _ w.heap.size (.int .u64 xh) (.int .u64 xl) from (by (refine ⟨?_, ?_, ?_, ?_, ?_⟩ <;> simp [go_sem] <;> omega)))
    have I1 := Box2.call hb (show Box2 _ (w.heap.size + 1) (.int .u64 ih) (.int .u64 il) from (by (refine ⟨?_, ?_, ?_, ?_, ?_⟩ <;> simp [go_sem] <;> omega)))
    have N1 := Box2.call hb (show Box2 _ (w.heap.size + 1 + 1) (.int .u64 nh) (.int .u64 nl) from (by (refine ⟨?_, ?_, ?_, ?_, ?_⟩ <;> simp [go_sem] <;> omega)))
    have M1 := Box2.call hb (show Box2 _ (w.heap.size + 1 + 1 + 1) (.int .u64 mh) (.int .u64 ml) from (by (refine ⟨?_, ?_, ?_, ?_, ?_⟩ <;> simp [go_sem] <;> omega)))
    have B : Below w.heap.size w w1 := below_call (by (repeat (first | exact Below.refl _ _ | assumption | (refine Below.alloc ?_ (by first | omega | (simp; done) | (simp; omega)) _) | (refine Below.setCell ?_ (by first | omega | (simp; done) | (simp; omega)) _) | refine Below.drew ?_ | refine below_drewN ?_ _))) (Nat.le_refl _) hb
    clear hb
    go_wp2_with fail
    go_region_held3 (fun v => Box2 v w.heap.size (.int .u64 xh) (.int .u64 xl) ∧ Box2 v (w.heap.size + 1) (.int .u64 ih) (.int .u64 il) ∧ Box2 v (w.heap.size + 1 + 1) (.int .u64 nh) (.int .u64 nl) ∧ Box2 v (w.heap.size + 1 + 1 + 1) (.int .u64 mh) (.int .u64 ml)) (exact ⟨X1, I1, N1, M1⟩) (first | (go_at_call 24; (with_reducible refine (H1.out _).mono ?_); rintro e w4 ⟨rfl, hb⟩; replace X1 := Box2.call hb X1; replace I1 := Box2.call hb I1; replace N1 := Box2.call hb N1; replace M1 := Box2.call hb M1; replace B : Below w.heap.size w w4 := below_call (by (repeat (first | exact Below.refl _ _ | assumption | (refine Below.alloc ?_ (by first | omega | (simp; done) | (simp; omega)) _) | (refine Below.setCell ?_ (by first | omega | (simp; done) | (simp; omega)) _) | refine Below.drew ?_ | refine below_drewN ?_ _))) (Nat.le_refl _) hb; clear hb) | (go_at_call 24; (with_reducible refine (H2.out _).mono ?_); rintro e w4 ⟨rfl, hb⟩; replace X1 := Box2.call hb X1; replace I1 := Box2.call hb I1; replace N1 := Box2.call hb N1; replace M1 := Box2.call hb M1; replace B : Below w.heap.size w w4 := below_call (by (repeat (first | exact Below.refl _ _ | assumption | (refine Below.alloc ?_ (by first | omega | (simp; done) | (simp; omega)) _) | (refine Below.setCell ?_ (by first | omega | (simp; done) | (simp; omega)) _) | refine Below.drew ?_ | refine below_drewN ?_ _))) (Nat.le_refl _) hb; clear hb) | (go_at_call 25; (with_reducible refine (H3.out _).mono ?_); rintro e w4 ⟨rfl, hb⟩; replace X1 := Box2.call hb X1; replace I1 := Box2.call hb I1; replace N1 := Box2.call hb N1; replace M1 := Box2.call hb M1; replace B : Below w.heap.size w w4 := below_call (by (repeat (first | exact Below.refl _ _ | assumption | (refine Below.alloc ?_ (by first | omega | (simp; done) | (simp; omega)) _) | (refine Below.setCell ?_ (by first | omega | (simp; done) | (simp; omega)) _) | refine Below.drew ?_ | refine below_drewN ?_ _))) (Nat.le_refl _) hb; clear hb) | (go_at_call 24; (with_reducible refine (H4.out _).mono ?_); rintro e w4 ⟨rfl, hb⟩; replace X1 := Box2.call hb X1; replace I1 := Box2.call hb I1; replace N1 := Box2.call hb N1; replace M1 := Box2.call hb M1; replace B : Below w.heap.size w w4 := below_call (by (repeat (first | exact Below.refl _ _ | assumption | (refine Below.alloc ?_ (by first | omega | (simp; done) | (simp; omega)) _) | (refine Below.setCell ?_ (by first | omega | (simp; done) | (simp; omega)) _) | refine Below.drew ?_ | refine below_drewN ?_ _))) (Nat.le_refl _) hb; clear hb))
    go_wp2_with fail
    go_quiet (fail)
    go_wp2_with fail
    go_ret
    refine ⟨rfl, ?_⟩
    (repeat (first | exact Below.refl _ _ | assumption | (refine Below.alloc ?_ (by first | omega | (simp; done) | (simp; omega)) _) | (refine Below.setCell ?_ (by first | omega | (simp; done) | (simp; omega)) _) | refine Below.drew ?_ | refine below_drewN ?_ _))
  · have H5' := hide (H5.out (by omega) (by omega))
    have v1n : decide (0 < nh) = false := decide_eq_false (by omega)
    have v2n : decide (30 < nl) = false := decide_eq_false (by omega)
    have v2i : decide ((30 : Int) < (nl : Int)) = false := decide_eq_false (by omega)
    have v3 : (0 : Int) ≤ (nl : Int) := by omega
    have v4 : (nl : Int) ≤ 30 := by omega
    have v5 : IntKind.i64.wrap (nl : Int) = (nl : Int) := IntWalk.i64_in _ (by omega)
    clear H5
    go_enter Try.func5, Try.ntmps5
    go_wp2_with fail
    refine (awake14 _).mono ?_
    rintro e w1 ⟨rfl, hb⟩
    have X1 := Box2.call hb (show Box2 _ w.heap.size (.int .u64 xh) (.int .u64 xl) from (by (refine ⟨?_, ?_, ?_, ?_, ?_⟩ <;> simp [go_sem] <;> omega)))
    have I1 := Box2.call hb (show Box2 _ (w.heap.size + 1) (.int .u64 ih) (.int .u64 il) from (by (refine ⟨?_, ?_, ?_, ?_, ?_⟩ <;> simp [go_sem] <;> omega)))
    have N1 := Box2.call hb (show Box2 _ (w.heap.size + 1 + 1) (.int .u64 nh) (.int .u64 nl) from (by (refine ⟨?_, ?_, ?_, ?_, ?_⟩ <;> simp [go_sem] <;> omega)))
    have M1 := Box2.call hb (show Box2 _ (w.heap.size + 1 + 1 + 1) (.int .u64 mh) (.int .u64 ml) from (by (refine ⟨?_, ?_, ?_, ?_, ?_⟩ <;> simp [go_sem] <;> omega)))
    have B : Below w.heap.size w w1 := below_call (by (repeat (first | exact Below.refl _ _ | assumption | (refine Below.alloc ?_ (by first | omega | (simp; done) | (simp; omega)) _) | (refine Below.setCell ?_ (by first | omega | (simp; done) | (simp; omega)) _) | refine Below.drew ?_ | refine below_drewN ?_ _))) (Nat.le_refl _) hb
    clear hb
    go_wp2_with fail
    go_region_held3 (fun v => Box2 v w.heap.size (.int .u64 xh) (.int .u64 xl) ∧ Box2 v (w.heap.size + 1) (.int .u64 ih) (.int .u64 il) ∧ Box2 v (w.heap.size + 1 + 1) (.int .u64 nh) (.int .u64 nl) ∧ Box2 v (w.heap.size + 1 + 1 + 1) (.int .u64 mh) (.int .u64 ml)) (exact ⟨X1, I1, N1, M1⟩) (first | (go_at_call 24; (with_reducible refine (H1.out _).mono ?_); rintro e w4 ⟨rfl, hb⟩; replace X1 := Box2.call hb X1; replace I1 := Box2.call hb I1; replace N1 := Box2.call hb N1; replace M1 := Box2.call hb M1; replace B : Below w.heap.size w w4 := below_call (by (repeat (first | exact Below.refl _ _ | assumption | (refine Below.alloc ?_ (by first | omega | (simp; done) | (simp; omega)) _) | (refine Below.setCell ?_ (by first | omega | (simp; done) | (simp; omega)) _) | refine Below.drew ?_ | refine below_drewN ?_ _))) (Nat.le_refl _) hb; clear hb) | (go_at_call 24; (with_reducible refine (H2.out _).mono ?_); rintro e w4 ⟨rfl, hb⟩; replace X1 := Box2.call hb X1; replace I1 := Box2.call hb I1; replace N1 := Box2.call hb N1; replace M1 := Box2.call hb M1; replace B : Below w.heap.size w w4 := below_call (by (repeat (first | exact Below.refl _ _ | assumption | (refine Below.alloc ?_ (by first | omega | (simp; done) | (simp; omega)) _) | (refine Below.setCell ?_ (by first | omega | (simp; done) | (simp; omega)) _) | refine Below.drew ?_ | refine below_drewN ?_ _))) (Nat.le_refl _) hb; clear hb) | (go_at_call 25; (with_reducible refine (H3.out _).mono ?_); rintro e w4 ⟨rfl, hb⟩; replace X1 := Box2.call hb X1; replace I1 := Box2.call hb I1; replace N1 := Box2.call hb N1; replace M1 := Box2.call hb M1; replace B : Below w.heap.size w w4 := below_call (by (repeat (first | exact Below.refl _ _ | assumption | (refine Below.alloc ?_ (by first | omega | (simp; done) | (simp; omega)) _) | (refine Below.setCell ?_ (by first | omega | (simp; done) | (simp; omega)) _) | refine Below.drew ?_ | refine below_drewN ?_ _))) (Nat.le_refl _) hb; clear hb) | (go_at_call 24; (with_reducible refine (H4.out _).mono ?_); rintro e w4 ⟨rfl, hb⟩; replace X1 := Box2.call hb X1; replace I1 := Box2.call hb I1; replace N1 := Box2.call hb N1; replace M1 := Box2.call hb M1; replace B : Below w.heap.size w w4 := below_call (by (repeat (first | exact Below.refl _ _ | assumption | (refine Below.alloc ?_ (by first | omega | (simp; done) | (simp; omega)) _) | (refine Below.setCell ?_ (by first | omega | (simp; done) | (simp; omega)) _) | refine Below.drew ?_ | refine below_drewN ?_ _))) (Nat.le_refl _) hb; clear hb))
    go_wp2_with fail
    go_region_held3 (fun v => Box2 v w.heap.size (.int .u64 xh) (.int .u64 xl) ∧ Box2 v (w.heap.size + 1) (.int .u64 ih) (.int .u64 il) ∧ Box2 v (w.heap.size + 1 + 1) (.int .u64 nh) (.int .u64 nl) ∧ Box2 v (w.heap.size + 1 + 1 + 1) (.int .u64 mh) (.int .u64 ml)) (exact ⟨X1, I1, N1, M1⟩) (first | (go_at_call 24; (with_reducible refine (H1.out _).mono ?_); rintro e w4 ⟨rfl, hb⟩; replace X1 := Box2.call hb X1; replace I1 := Box2.call hb I1; replace N1 := Box2.call hb N1; replace M1 := Box2.call hb M1; replace B : Below w.heap.size w w4 := below_call (by (repeat (first | exact Below.refl _ _ | assumption | (refine Below.alloc ?_ (by first | omega | (simp; done) | (simp; omega)) _) | (refine Below.setCell ?_ (by first | omega | (simp; done) | (simp; omega)) _) | refine Below.drew ?_ | refine below_drewN ?_ _))) (Nat.le_refl _) hb; clear hb) | (go_at_call 26; (with_reducible refine (H5'.out _).mono ?_); rintro e w4 ⟨rfl, hb⟩; replace X1 := Box2.call hb X1; replace I1 := Box2.call hb I1; replace N1 := Box2.call hb N1; replace M1 := Box2.call hb M1; replace B : Below w.heap.size w w4 := below_call (by (repeat (first | exact Below.refl _ _ | assumption | (refine Below.alloc ?_ (by first | omega | (simp; done) | (simp; omega)) _) | (refine Below.setCell ?_ (by first | omega | (simp; done) | (simp; omega)) _) | refine Below.drew ?_ | refine below_drewN ?_ _))) (Nat.le_refl _) hb; clear hb))
    go_wp2_with fail
    go_ret
    refine ⟨rfl, ?_⟩
    (repeat (first | exact Below.refl _ _ | assumption | (refine Below.alloc ?_ (by first | omega | (simp; done) | (simp; omega)) _) | (refine Below.setCell ?_ (by first | omega | (simp; done) | (simp; omega)) _) | refine Below.drew ?_ | refine below_drewN ?_ _))
theorem m128_val {h l : Nat} (h0 : h = 0) (hl : l < 18446744073709551616) : m128 (val2 h l) = l := by subst h0; unfold m128 val2; omega
theorem advances_u (X I N M : Nat) (w : World) : Calls Try.prog 5 #[.agg #[.int .u64 (hi64 (X) : Nat), .int .u64 (lo64 (X) : Nat)], .agg #[.int .u64 (hi64 (I) : Nat), .int .u64 (lo64 (I) : Nat)], .agg #[.int .u64 (hi64 (N) : Nat), .int .u64 (lo64 (N) : Nat)], .agg #[.int .u64 (hi64 (M) : Nat), .int .u64 (lo64 (M) : Nat)]] w fun e w' => e = .returned (.bool true) ∧ Below w.heap.size w w' := by
  have e4 : m128 (stp pcgM (odd1 I) X (m128 (N + M))) = m128 (stp pcgM (odd1 I) (stp pcgM (odd1 I) X (m128 N)) (m128 M)) := by
    rw [stp_add, m128_two (stp _ _ _ (m128 N + m128 M)), stp_mod pcgM_4 (odd1_2 I) X (m128 N + m128 M) 128, ← m128_two, ← m128_two, m128_add]
  exact advances_g _ _ _ _ _ _ _ _ _ _ _ _ _ _ w (advance_u X I N) (advance_u _ I M) (sum_ref14 N M)
    (fun W => (advance_u X I (N + M) W).mono fun e w' h => ret128_congr e4 h)
    (fun hh hl W => (rsteps_u X I (lo64 N) (by omega) W).mono fun e w' h => ret128_congr (by
      have e0 : m128 N = lo64 N := by rw [← val2_of]; unfold val2; omega
      rw [e0]) h)
    (by omega)
theorem advances_law (ah al bh bl ch cl dh dl : Nat) (w : World) (h1 : ah < 18446744073709551616) (h2 : al < 18446744073709551616) (h3 : bh < 18446744073709551616) (h4 : bl < 18446744073709551616) (h5 : ch < 18446744073709551616) (h6 : cl < 18446744073709551616) (h7 : dh < 18446744073709551616) (h8 : dl < 18446744073709551616) :
    Calls Try.prog 5 #[.agg #[.int .u64 ah, .int .u64 al], .agg #[.int .u64 bh, .int .u64 bl], .agg #[.int .u64 ch, .int .u64 cl], .agg #[.int .u64 dh, .int .u64 dl]] w fun e w' => e = .returned (.bool true) ∧ Below w.heap.size w w' := by
  have h := advances_u (val2 ah al) (val2 bh bl) (val2 ch cl) (val2 dh dl) w
  rw [hi64_val h1 h2, lo64_val h2, hi64_val h3 h4, lo64_val h4, hi64_val h5 h6, lo64_val h6, hi64_val h7 h8, lo64_val h8] at h
  exact h
end Go.Proofs.Ytjgcpacdiiifjaa
