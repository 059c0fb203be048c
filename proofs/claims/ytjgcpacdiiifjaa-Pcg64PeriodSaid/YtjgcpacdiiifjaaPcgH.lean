/-
  Walk of pcg64.Advance. Conditions: none.
-/
import Derived.Test.YtjgcpacdiiifjaaPcgG
namespace Go.Proofs.Ytjgcpacdiiifjaa
open Go.RowKit Go.Shelf
set_option linter.unusedVariables false

theorem Box2.far4 {w : World} {b b' : Nat} {v0 v1 u0 u1 u2 u3 : Value} (h : Box2 w b v0 v1) (hne : b' ≠ b) : Box2 ((((w.setCell ⟨b', 0, none⟩ u0).setCell ⟨b', 1, none⟩ u1).setCell ⟨b', 2, none⟩ u2).setCell ⟨b', 3, none⟩ u3) b v0 v1 := Box2.far (Box2.far (Box2.far (Box2.far h hne) hne) hne) hne
set_option maxRecDepth 100000 in
set_option maxHeartbeats 4000000 in
theorem advance_g (S T P : Nat → Nat) (bb : Nat → Bool) (I N : Nat) (w : World)
    (h1 : ∀ W, Calls Try.prog 67 #[.agg #[.int .u64 (hi64 (I) : Nat), .int .u64 (lo64 (I) : Nat)]] W fun e w' => e = .returned (.agg #[.int .u64 (hi64 (T 0) : Nat), .int .u64 (lo64 (T 0) : Nat), .int .u64 (hi64 (P 0) : Nat), .int .u64 (lo64 (P 0) : Nat)]) ∧ Below W.heap.size W w')
    (h2 : ∀ (k : Nat) W, (k : Int) < 128 → Calls Try.prog 69 #[.agg #[.int .u64 (hi64 (N) : Nat), .int .u64 (lo64 (N) : Nat)], .int .i64 k] W fun e w' => e = .returned (.bool (bb k)) ∧ Below W.heap.size W w')
    (h3 : ∀ k W, bb k = true → Calls Try.prog 68 #[.agg #[.int .u64 (hi64 (T k) : Nat), .int .u64 (lo64 (T k) : Nat), .int .u64 (hi64 (P k) : Nat), .int .u64 (lo64 (P k) : Nat)], .agg #[.int .u64 (hi64 (S k) : Nat), .int .u64 (lo64 (S k) : Nat)]] W (Ret128 W (S (k + 1))))
    (h4 : ∀ k W, Calls Try.prog 70 #[.agg #[.int .u64 (hi64 (T k) : Nat), .int .u64 (lo64 (T k) : Nat), .int .u64 (hi64 (P k) : Nat), .int .u64 (lo64 (P k) : Nat)]] W fun e w' => e = .returned (.agg #[.int .u64 (hi64 (T (k + 1)) : Nat), .int .u64 (lo64 (T (k + 1)) : Nat), .int .u64 (hi64 (P (k + 1)) : Nat), .int .u64 (lo64 (P (k + 1)) : Nat)]) ∧ Below W.heap.size W w')
    (h5 : ∀ k, bb k = false → S k = S (k + 1)) :
    Calls Try.prog 24 #[.agg #[.int .u64 (hi64 (S 0) : Nat), .int .u64 (lo64 (S 0) : Nat)], .agg #[.int .u64 (hi64 (I) : Nat), .int .u64 (lo64 (I) : Nat)], .agg #[.int .u64 (hi64 (N) : Nat), .int .u64 (lo64 (N) : Nat)]] w (Ret128 w (S 128)) := by
  have H1 := hide h1; have H2 := hide h2; have H3 := hide h3; have H4 := hide h4; have H5 := hide h5
  clear h1 h2 h3 h4 h5
  go_enter Try.func24, Try.ntmps24
  go_wp2_with fail
  refine (H1.out _).mono ?_
  rintro e w1 ⟨rfl, hb⟩
  have S1 : Box2 w1 w.heap.size (.int .u64 (hi64 (S 0) : Nat)) (.int .u64 (lo64 (S 0) : Nat)) := Box2.call hb (by (refine ⟨?_, ?_, ?_, ?_, ?_⟩ <;> simp [go_sem] <;> omega))
  have N1 : Box2 w1 (w.heap.size + 1 + 1) (.int .u64 (hi64 N : Nat)) (.int .u64 (lo64 N : Nat)) := Box2.call hb (by (refine ⟨?_, ?_, ?_, ?_, ?_⟩ <;> simp [go_sem] <;> omega))
  have R1 : Box2 w1 (w.heap.size + 1 + 1 + 1) (.int .u64 0) (.int .u64 0) := Box2.call hb (by (refine ⟨?_, ?_, ?_, ?_, ?_⟩ <;> simp [go_sem] <;> omega))
  have B : Below w.heap.size w w1 := below_call (by (repeat (first | exact Below.refl _ _ | assumption | (refine Below.alloc ?_ (by first | omega | (simp; done) | (simp; omega)) _) | (refine Below.setCell ?_ (by first | omega | (simp; done) | (simp; omega)) _) | refine Below.drew ?_ | refine below_drewN ?_ _))) (Nat.le_refl _) hb
  have z1 : w.heap.size + 1 + 1 + 1 < w1.heap.size := R1.2.2.2.2
  clear hb
  go_wp2_with fail
  have L1 : Box4 (w1.alloc (.cells #[.int .u64 (hi64 (T 0) : Nat), .int .u64 (lo64 (T 0) : Nat), .int .u64 (hi64 (P 0) : Nat), .int .u64 (lo64 (P 0) : Nat)] 84)) w1.heap.size (.int .u64 (hi64 (T 0) : Nat)) (.int .u64 (lo64 (T 0) : Nat)) (.int .u64 (hi64 (P 0) : Nat)) (.int .u64 (lo64 (P 0) : Nat)) := (by (refine ⟨?_, ?_, ?_, ?_, ?_, ?_, ?_, ?_, ?_⟩ <;> simp [go_sem]))
  replace S1 := Box2.alloc (.cells #[.int .u64 (hi64 (T 0) : Nat), .int .u64 (lo64 (T 0) : Nat), .int .u64 (hi64 (P 0) : Nat), .int .u64 (lo64 (P 0) : Nat)] 84) S1
  replace N1 := Box2.alloc (.cells #[.int .u64 (hi64 (T 0) : Nat), .int .u64 (lo64 (T 0) : Nat), .int .u64 (hi64 (P 0) : Nat), .int .u64 (lo64 (P 0) : Nat)] 84) N1
  replace R1 := Box2.alloc (.cells #[.int .u64 (hi64 (T 0) : Nat), .int .u64 (lo64 (T 0) : Nat), .int .u64 (hi64 (P 0) : Nat), .int .u64 (lo64 (P 0) : Nat)] 84) R1
  replace B := Below.alloc B B.size (.cells #[.int .u64 (hi64 (T 0) : Nat), .int .u64 (lo64 (T 0) : Nat), .int .u64 (hi64 (P 0) : Nat), .int .u64 (lo64 (P 0) : Nat)] 84)
  generalize w1.alloc (.cells #[.int .u64 (hi64 (T 0) : Nat), .int .u64 (lo64 (T 0) : Nat), .int .u64 (hi64 (P 0) : Nat), .int .u64 (lo64 (P 0) : Nat)] 84) = W1 at *
  generalize w1.heap.size = nL at *
  obtain ⟨n0, hn0⟩ : ∃ n0, w.heap.size = n0 := ⟨_, rfl⟩
  rw [hn0] at S1 N1 R1 B z1
  simp only [hn0]
  have HN0 := hide hn0
  have y1 : nL ≠ n0 := by omega
  have y2 : nL ≠ n0 + 1 + 1 := by omega
  have y3 : nL ≠ n0 + 1 + 1 + 1 := by omega
  have y4 : n0 ≠ n0 + 1 + 1 := by omega
  have y5 : n0 ≠ n0 + 1 + 1 + 1 := by omega
  have y6 : n0 ≤ nL := by omega
  clear hn0 z1
  go_loopg [8, 9, 12] 128 (fun g v8 v9 v12 wr => ∃ k : Nat, g = 128 - k ∧ Hid (k ≤ 128) ∧ v12 = .int .i64 k ∧ Box2 wr n0 (.int .u64 (hi64 (S k) : Nat)) (.int .u64 (lo64 (S k) : Nat)) ∧ Box4 wr nL (.int .u64 (hi64 (T k) : Nat)) (.int .u64 (lo64 (T k) : Nat)) (.int .u64 (hi64 (P k) : Nat)) (.int .u64 (lo64 (P k) : Nat)) ∧ Box2 wr (n0 + 1 + 1) (.int .u64 (hi64 N : Nat)) (.int .u64 (lo64 N : Nat)) ∧ Box2 wr (n0 + 1 + 1 + 1) (.int .u64 0) (.int .u64 0) ∧ Below n0 w wr)
  case atStart => exact ⟨0, rfl, hide (by omega), rfl, S1, L1, N1, R1, B⟩
  case round =>
    clear S1 L1 N1 R1 B
    obtain ⟨k, hg, hk, rfl, S1, L1, N1, R1, B⟩ := hrel
    have HG := hide hg
    clear hg
    by_cases hlt : (k : Int) < 128
    · have K2 := hide (fun W => H2.out k W hlt)
      have K3 := hide (H3.out k)
      have K4 := hide (H4.out k)
      have K5 := hide (H5.out k)
      have u0 : (0 : Int) ≤ (k : Int) := by omega
      have HK1 := hide (show k + 1 ≤ 128 by omega)
      cases hbb : bb k with
      | true =>
        rw [hbb] at K2
        have K3' := hide (fun W => K3.out W hbb)
        clear K3 K5 hbb
        generalize hi64 (S k) = sh at *
        generalize lo64 (S k) = sl at *
        generalize hi64 (T k) = th at *
        generalize lo64 (T k) = tl at *
        generalize hi64 (P k) = ph at *
        generalize lo64 (P k) = pl at *
        go_wp2_with fail
        refine (K2.out _).mono ?_
        rintro e w2 ⟨rfl, hb⟩
        replace S1 := Box2.call hb S1
        replace L1 := Box4.call hb L1
        replace N1 := Box2.call hb N1
        replace R1 := Box2.call hb R1
        replace B : Below n0 w w2 := below_call B (Nat.le_of_eq HN0.out.symm) hb
        clear hb
        go_wp2_with fail
        refine (K3'.out _).mono ?_
        rintro e w3 ⟨rfl, hb⟩
        replace S1 := Box2.call hb S1
        replace L1 := Box4.call hb L1
        replace N1 := Box2.call hb N1
        replace R1 := Box2.call hb R1
        replace B : Below n0 w w3 := below_call B (Nat.le_of_eq HN0.out.symm) hb
        clear hb
        generalize hsh : hi64 (S (k + 1)) = sh2 at *
        generalize hsl : lo64 (S (k + 1)) = sl2 at *
        have HSH := hide hsh
        have HSL := hide hsl
        clear hsh hsl
        go_wp2_with fail
        have S2 : Box2 ((w3.setCell ⟨n0, 0, none⟩ (.int .u64 sh2)).setCell ⟨n0, 1, none⟩ (.int .u64 sl2)) n0 (.int .u64 sh2) (.int .u64 sl2) := Box2.put _ _ S1
        have L2 : Box4 ((w3.setCell ⟨n0, 0, none⟩ (.int .u64 sh2)).setCell ⟨n0, 1, none⟩ (.int .u64 sl2)) nL (.int .u64 th) (.int .u64 tl) (.int .u64 ph) (.int .u64 pl) := Box4.far2 L1 (Ne.symm y1)
        have N2 : Box2 ((w3.setCell ⟨n0, 0, none⟩ (.int .u64 sh2)).setCell ⟨n0, 1, none⟩ (.int .u64 sl2)) (n0 + 1 + 1) (.int .u64 (hi64 N : Nat)) (.int .u64 (lo64 N : Nat)) := Box2.far2 N1 y4
        have R2 : Box2 ((w3.setCell ⟨n0, 0, none⟩ (.int .u64 sh2)).setCell ⟨n0, 1, none⟩ (.int .u64 sl2)) (n0 + 1 + 1 + 1) (.int .u64 0) (.int .u64 0) := Box2.far2 R1 y5
        have B2 : Below n0 w ((w3.setCell ⟨n0, 0, none⟩ (.int .u64 sh2)).setCell ⟨n0, 1, none⟩ (.int .u64 sl2)) := (B.setCell (Nat.le_refl _) _).setCell (Nat.le_refl _) _
        clear S1 L1 N1 R1 B
        generalize (w3.setCell ⟨n0, 0, none⟩ (.int .u64 sh2)).setCell ⟨n0, 1, none⟩ (.int .u64 sl2) = W3 at *
        refine (K4.out _).mono ?_
        rintro e w4 ⟨rfl, hb⟩
        replace S2 := Box2.call hb S2
        replace L2 := Box4.call hb L2
        replace N2 := Box2.call hb N2
        replace R2 := Box2.call hb R2
        replace B2 : Below n0 w w4 := below_call B2 (Nat.le_of_eq HN0.out.symm) hb
        clear hb
        generalize hth : hi64 (T (k + 1)) = th2 at *
        generalize htl : lo64 (T (k + 1)) = tl2 at *
        generalize hph : hi64 (P (k + 1)) = ph2 at *
        generalize hpl : lo64 (P (k + 1)) = pl2 at *
        have HTH := hide hth
        have HTL := hide htl
        have HPH := hide hph
        have HPL := hide hpl
        clear hth htl hph hpl
        go_wp2_with fail
        have S3 : Box2 ((((w4.setCell ⟨nL, 0, none⟩ (.int .u64 th2)).setCell ⟨nL, 1, none⟩ (.int .u64 tl2)).setCell ⟨nL, 2, none⟩ (.int .u64 ph2)).setCell ⟨nL, 3, none⟩ (.int .u64 pl2)) n0 (.int .u64 sh2) (.int .u64 sl2) := Box2.far4 S2 y1
        have L3 : Box4 ((((w4.setCell ⟨nL, 0, none⟩ (.int .u64 th2)).setCell ⟨nL, 1, none⟩ (.int .u64 tl2)).setCell ⟨nL, 2, none⟩ (.int .u64 ph2)).setCell ⟨nL, 3, none⟩ (.int .u64 pl2)) nL (.int .u64 th2) (.int .u64 tl2) (.int .u64 ph2) (.int .u64 pl2) := Box4.put _ _ _ _ L2
        have N3 : Box2 ((((w4.setCell ⟨nL, 0, none⟩ (.int .u64 th2)).setCell ⟨nL, 1, none⟩ (.int .u64 tl2)).setCell ⟨nL, 2, none⟩ (.int .u64 ph2)).setCell ⟨nL, 3, none⟩ (.int .u64 pl2)) (n0 + 1 + 1) (.int .u64 (hi64 N : Nat)) (.int .u64 (lo64 N : Nat)) := Box2.far4 N2 y2
        have R3 : Box2 ((((w4.setCell ⟨nL, 0, none⟩ (.int .u64 th2)).setCell ⟨nL, 1, none⟩ (.int .u64 tl2)).setCell ⟨nL, 2, none⟩ (.int .u64 ph2)).setCell ⟨nL, 3, none⟩ (.int .u64 pl2)) (n0 + 1 + 1 + 1) (.int .u64 0) (.int .u64 0) := Box2.far4 R2 y3
        have B3 : Below n0 w ((((w4.setCell ⟨nL, 0, none⟩ (.int .u64 th2)).setCell ⟨nL, 1, none⟩ (.int .u64 tl2)).setCell ⟨nL, 2, none⟩ (.int .u64 ph2)).setCell ⟨nL, 3, none⟩ (.int .u64 pl2)) := (((B2.setCell y6 _).setCell y6 _).setCell y6 _).setCell y6 _
        clear S2 L2 N2 R2 B2
        go_roundg (128 - (k + 1))
        case measure => rw [HG.out]; have := HK1.out; omega
        case rel => exact ⟨k + 1, rfl, HK1, by go_num, by rw [HSH.out, HSL.out]; exact S3, by rw [HTH.out, HTL.out, HPH.out, HPL.out]; exact L3, N3, R3, B3⟩
      | false =>
        rw [hbb] at K2
        have e5 := K5.out hbb
        rw [e5] at S1
        clear K3 K5 hbb e5
        generalize hsh : hi64 (S (k + 1)) = sh2 at *
        generalize hsl : lo64 (S (k + 1)) = sl2 at *
        have HSH := hide hsh
        have HSL := hide hsl
        clear hsh hsl
        generalize hi64 (T k) = th at *
        generalize lo64 (T k) = tl at *
        generalize hi64 (P k) = ph at *
        generalize lo64 (P k) = pl at *
        go_wp2_with fail
        refine (K2.out _).mono ?_
        rintro e w2 ⟨rfl, hb⟩
        have S2 := Box2.call hb S1
        have L2 := Box4.call hb L1
        have N2 := Box2.call hb N1
        have R2 := Box2.call hb R1
        have B2 : Below n0 w w2 := below_call B (Nat.le_of_eq HN0.out.symm) hb
        clear hb S1 L1 N1 R1 B
        go_wp2_with fail
        refine (K4.out _).mono ?_
        rintro e w4 ⟨rfl, hb⟩
        replace S2 := Box2.call hb S2
        replace L2 := Box4.call hb L2
        replace N2 := Box2.call hb N2
        replace R2 := Box2.call hb R2
        replace B2 : Below n0 w w4 := below_call B2 (Nat.le_of_eq HN0.out.symm) hb
        clear hb
        generalize hth : hi64 (T (k + 1)) = th2 at *
        generalize htl : lo64 (T (k + 1)) = tl2 at *
        generalize hph : hi64 (P (k + 1)) = ph2 at *
        generalize hpl : lo64 (P (k + 1)) = pl2 at *
        have HTH := hide hth
        have HTL := hide htl
        have HPH := hide hph
        have HPL := hide hpl
        clear hth htl hph hpl
        go_wp2_with fail
        have S3 : Box2 ((((w4.setCell ⟨nL, 0, none⟩ (.int .u64 th2)).setCell ⟨nL, 1, none⟩ (.int .u64 tl2)).setCell ⟨nL, 2, none⟩ (.int .u64 ph2)).setCell ⟨nL, 3, none⟩ (.int .u64 pl2)) n0 (.int .u64 sh2) (.int .u64 sl2) := Box2.far4 S2 y1
        have L3 : Box4 ((((w4.setCell ⟨nL, 0, none⟩ (.int .u64 th2)).setCell ⟨nL, 1, none⟩ (.int .u64 tl2)).setCell ⟨nL, 2, none⟩ (.int .u64 ph2)).setCell ⟨nL, 3, none⟩ (.int .u64 pl2)) nL (.int .u64 th2) (.int .u64 tl2) (.int .u64 ph2) (.int .u64 pl2) := Box4.put _ _ _ _ L2
        have N3 : Box2 ((((w4.setCell ⟨nL, 0, none⟩ (.int .u64 th2)).setCell ⟨nL, 1, none⟩ (.int .u64 tl2)).setCell ⟨nL, 2, none⟩ (.int .u64 ph2)).setCell ⟨nL, 3, none⟩ (.int .u64 pl2)) (n0 + 1 + 1) (.int .u64 (hi64 N : Nat)) (.int .u64 (lo64 N : Nat)) := Box2.far4 N2 y2
        have R3 : Box2 ((((w4.setCell ⟨nL, 0, none⟩ (.int .u64 th2)).setCell ⟨nL, 1, none⟩ (.int .u64 tl2)).setCell ⟨nL, 2, none⟩ (.int .u64 ph2)).setCell ⟨nL, 3, none⟩ (.int .u64 pl2)) (n0 + 1 + 1 + 1) (.int .u64 0) (.int .u64 0) := Box2.far4 R2 y3
        have B3 : Below n0 w ((((w4.setCell ⟨nL, 0, none⟩ (.int .u64 th2)).setCell ⟨nL, 1, none⟩ (.int .u64 tl2)).setCell ⟨nL, 2, none⟩ (.int .u64 ph2)).setCell ⟨nL, 3, none⟩ (.int .u64 pl2)) := (((B2.setCell y6 _).setCell y6 _).setCell y6 _).setCell y6 _
        clear S2 L2 N2 R2 B2
        go_roundg (128 - (k + 1))
        case measure => rw [HG.out]; have := HK1.out; omega
        case rel => exact ⟨k + 1, rfl, HK1, by go_num, by rw [HSH.out, HSL.out]; exact S3, by rw [HTH.out, HTL.out, HPH.out, HPL.out]; exact L3, N3, R3, B3⟩
    · have hk2 : k = 128 := by have := hk.out; omega
      have HK2 := hide hk2
      clear hk2
      generalize hsh : hi64 (S k) = sh at *
      generalize hsl : lo64 (S k) = sl at *
      have HSH := hide hsh
      have HSL := hide hsl
      clear hsh hsl H1 H2 H3 H4 H5 L1 N1
      go_wp2_with fail
      have hR := Box2.put (.int .u64 sh) (.int .u64 sl) R1
      exact bodyPost_ret (v := .agg #[.int .u64 sh, .int .u64 sl]) (by simp [results, Try.results24, go_sem, hR]) rfl ⟨by rw [← HSH.out, ← HSL.out, HK2.out], by rw [HN0.out]; exact (B.setCell (show n0 ≤ n0 + 1 + 1 + 1 by omega) _).setCell (show n0 ≤ n0 + 1 + 1 + 1 by omega) _⟩
theorem m128_two (n : Nat) : m128 n = n % 2 ^ 128 := by rw [two128]; rfl
/-- The state behind so many steps as the lowest k bits of a number tell. -/
def adS (X I N k : Nat) : Nat := stp pcgM (odd1 I) X (m128 N % 2 ^ k)
theorem adS_yes (X I N k : Nat) (h : bitB N k = true) : adS X I N k * pcgM ^ (2 ^ k) + stp pcgM (odd1 I) 0 (2 ^ k) = adS X I N (k + 1) := by
  have hb : m128 N / 2 ^ k % 2 = 1 := of_decide_eq_true h
  unfold adS
  rw [mod_bit, hb, Nat.mul_one, ← stp_add, stp_lin _ _ (stp pcgM (odd1 I) X (m128 N % 2 ^ k)) (2 ^ k)]
theorem adS_no (X I N k : Nat) (h : bitB N k = false) : adS X I N k = adS X I N (k + 1) := by
  have hb : ¬ m128 N / 2 ^ k % 2 = 1 := of_decide_eq_false h
  unfold adS
  rw [mod_bit, show m128 N / 2 ^ k % 2 = 0 by omega, Nat.mul_zero, Nat.add_zero]
theorem adS_zero (X I N : Nat) : adS X I N 0 = X := by unfold adS; rw [Nat.pow_zero, Nat.mod_one, stp]
theorem lineT_zero (M : Nat) : M ^ (2 ^ 0) = M := by rw [Nat.pow_zero, Nat.pow_one]
theorem lineP_zero (M a : Nat) : stp M a 0 (2 ^ 0) = a := by rw [Nat.pow_zero]; simp [stp]
theorem lineT_two (M k : Nat) : M ^ (2 ^ k) * M ^ (2 ^ k) = M ^ (2 ^ (k + 1)) := (pow_two_split M k).symm
theorem lineP_two (M a k : Nat) : stp M a 0 (2 ^ k) * (M ^ (2 ^ k) + 1) = stp M a 0 (2 ^ (k + 1)) := by rw [stp_two, Nat.pow_succ, Nat.mul_two]
theorem advance_u (X I N : Nat) (w : World) : Calls Try.prog 24 #[.agg #[.int .u64 (hi64 (X) : Nat), .int .u64 (lo64 (X) : Nat)], .agg #[.int .u64 (hi64 (I) : Nat), .int .u64 (lo64 (I) : Nat)], .agg #[.int .u64 (hi64 (N) : Nat), .int .u64 (lo64 (N) : Nat)]] w (Ret128 w (stp pcgM (odd1 I) X (m128 N))) := by
  have h := advance_g (adS X I N) (fun k => pcgM ^ (2 ^ k)) (fun k => stp pcgM (odd1 I) 0 (2 ^ k)) (bitB N) I N w
    (fun W => by rw [lineT_zero, lineP_zero]; exact one_u I W)
    (fun k W hk => bit_u N k (by omega) W)
    (fun k W hb => by rw [← adS_yes X I N k hb]; exact of_l _ _ _ W)
    (fun k W => by rw [← lineT_two, ← lineP_two]; exact twice_u _ _ W)
    (fun k hb => adS_no X I N k hb)
  rw [adS_zero] at h
  have e : adS X I N 128 = stp pcgM (odd1 I) X (m128 N) := by unfold adS; rw [m128_two, Nat.mod_mod]
  rw [e] at h
  exact h
end Go.Proofs.Ytjgcpacdiiifjaa
