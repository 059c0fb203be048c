/-
  Walk of pcg64.Steps. Conditions: none.
-/
import Derived.Test.YtjgcpacdiiifjaaPcgH
import Derived.Outline
namespace Go.Proofs.Ytjgcpacdiiifjaa
open Go.RowKit Go.Shelf
set_option linter.unusedVariables false

set_option maxRecDepth 100000 in
set_option maxHeartbeats 8000000 in
theorem steps_g (T P : Nat → Nat) (X Y I : Nat) (w : World) (St : Nat → Nat → Nat → Prop)
    (h1 : ∀ W, Calls Try.prog 67 #[.agg #[.int .u64 (hi64 (I) : Nat), .int .u64 (lo64 (I) : Nat)]] W fun e w' => e = .returned (.agg #[.int .u64 (hi64 (T 0) : Nat), .int .u64 (lo64 (T 0) : Nat), .int .u64 (hi64 (P 0) : Nat), .int .u64 (lo64 (P 0) : Nat)]) ∧ Below W.heap.size W w')
    (h2 : ∀ (S k : Nat) W, (k : Int) < 128 → Calls Try.prog 69 #[.agg #[.int .u64 (hi64 (S) : Nat), .int .u64 (lo64 (S) : Nat)], .int .i64 k] W fun e w' => e = .returned (.bool (bitB S k)) ∧ Below W.heap.size W w')
    (h3 : ∀ k S W, Calls Try.prog 68 #[.agg #[.int .u64 (hi64 (T k) : Nat), .int .u64 (lo64 (T k) : Nat), .int .u64 (hi64 (P k) : Nat), .int .u64 (lo64 (P k) : Nat)], .agg #[.int .u64 (hi64 (S) : Nat), .int .u64 (lo64 (S) : Nat)]] W fun e w' => e = .returned (.agg #[.int .u64 (hi64 (S * T k + P k) : Nat), .int .u64 (lo64 (S * T k + P k) : Nat)]) ∧ Below W.heap.size W w')
    (h4 : ∀ k W, Calls Try.prog 70 #[.agg #[.int .u64 (hi64 (T k) : Nat), .int .u64 (lo64 (T k) : Nat), .int .u64 (hi64 (P k) : Nat), .int .u64 (lo64 (P k) : Nat)]] W fun e w' => e = .returned (.agg #[.int .u64 (hi64 (T (k + 1)) : Nat), .int .u64 (lo64 (T (k + 1)) : Nat), .int .u64 (hi64 (P (k + 1)) : Nat), .int .u64 (lo64 (P (k + 1)) : Nat)]) ∧ Below W.heap.size W w')
    (h5 : ∀ (k : Nat) W, (k : Int) < 128 → Calls Try.prog 56 #[.agg #[.int .u64 0, .int .u64 1], .int .i64 k] W fun e w' => e = .returned (.agg #[.int .u64 (hi64 (2 ^ k) : Nat), .int .u64 (lo64 (2 ^ k) : Nat)]) ∧ Below W.heap.size W w')
    (h6 : ∀ n m W, Calls Try.prog 63 #[.agg #[.int .u64 (hi64 (n) : Nat), .int .u64 (lo64 (n) : Nat)], .agg #[.int .u64 (hi64 (m) : Nat), .int .u64 (lo64 (m) : Nat)]] W fun e w' => e = .returned (.agg #[.int .u64 (hi64 (n + m) : Nat), .int .u64 (lo64 (n + m) : Nat)]) ∧ Below W.heap.size W w')
    (s0 : St 0 X 0)
    (s1 : ∀ (k S n : Nat), (k : Int) < 128 → St k S n → bitB S k = bitB Y k → St (k + 1) S n)
    (s2 : ∀ (k S n : Nat), (k : Int) < 128 → St k S n → bitB S k ≠ bitB Y k → St (k + 1) (S * T k + P k) (n + 2 ^ k)) :
    Calls Try.prog 40 #[.agg #[.int .u64 (hi64 (X) : Nat), .int .u64 (lo64 (X) : Nat)], .agg #[.int .u64 (hi64 (Y) : Nat), .int .u64 (lo64 (Y) : Nat)], .agg #[.int .u64 (hi64 (I) : Nat), .int .u64 (lo64 (I) : Nat)]] w fun e w' => ∃ k S n, St k S n ∧ (k = 128 ∨ (hi64 S = hi64 Y ∧ lo64 S = lo64 Y)) ∧ k ≤ 128 ∧ e = .returned (.agg #[.int .u64 (hi64 (n) : Nat), .int .u64 (lo64 (n) : Nat)]) ∧ Below w.heap.size w w' := by
  have H1 := hide h1; have H2 := hide h2; have H3 := hide h3; have H4 := hide h4; have H5 := hide h5; have H6 := hide h6; have HS0 := hide s0; have HS1 := hide s1; have HS2 := hide s2
  clear h1 h2 h3 h4 h5 h6 s0 s1 s2
  obtain ⟨Q, hQ⟩ : ∃ Q : Ending → World → Prop, Q = fun e w' => ∃ k S n, St k S n ∧ (k = 128 ∨ (hi64 S = hi64 Y ∧ lo64 S = lo64 Y)) ∧ k ≤ 128 ∧ e = .returned (.agg #[.int .u64 (hi64 (n) : Nat), .int .u64 (lo64 (n) : Nat)]) ∧ Below w.heap.size w w' := ⟨_, rfl⟩
  rw [← hQ]
  have HQ := hide hQ
  clear hQ
  go_enter Try.func40, Try.ntmps40
  go_wp2_with fail
  refine (H1.out _).mono ?_
  rintro e w1 ⟨rfl, hb⟩
  have S1 : Box2 w1 w.heap.size (.int .u64 (hi64 X : Nat)) (.int .u64 (lo64 X : Nat)) := Box2.call hb (by (refine ⟨?_, ?_, ?_, ?_, ?_⟩ <;> simp [go_sem] <;> omega))
  have Y1 : Box2 w1 (w.heap.size + 1) (.int .u64 (hi64 Y : Nat)) (.int .u64 (lo64 Y : Nat)) := Box2.call hb (by (refine ⟨?_, ?_, ?_, ?_, ?_⟩ <;> simp [go_sem] <;> omega))
  have R1 : Box2 w1 (w.heap.size + 1 + 1 + 1) (.int .u64 0) (.int .u64 0) := Box2.call hb (by (refine ⟨?_, ?_, ?_, ?_, ?_⟩ <;> simp [go_sem] <;> omega))
  have C1 : Box2 w1 (w.heap.size + 1 + 1 + 1 + 1) (.int .u64 (hi64 0 : Nat)) (.int .u64 (lo64 0 : Nat)) := Box2.call hb (show Box2 _ (w.heap.size + 1 + 1 + 1 + 1) (.int .u64 0) (.int .u64 0) from (by (refine ⟨?_, ?_, ?_, ?_, ?_⟩ <;> simp [go_sem] <;> omega)))
  have B : Below w.heap.size w w1 := below_call (by (repeat (first | exact Below.refl _ _ | assumption | (refine Below.alloc ?_ (by first | omega | (simp; done) | (simp; omega)) _) | (refine Below.setCell ?_ (by first | omega | (simp; done) | (simp; omega)) _) | refine Below.drew ?_ | refine below_drewN ?_ _))) (Nat.le_refl _) hb
  have z1 : w.heap.size + 1 + 1 + 1 + 1 < w1.heap.size := C1.2.2.2.2
  clear hb
  go_wp2_with fail
  have L1 : Box4 (w1.alloc (.cells #[.int .u64 (hi64 (T 0) : Nat), .int .u64 (lo64 (T 0) : Nat), .int .u64 (hi64 (P 0) : Nat), .int .u64 (lo64 (P 0) : Nat)] 84)) w1.heap.size (.int .u64 (hi64 (T 0) : Nat)) (.int .u64 (lo64 (T 0) : Nat)) (.int .u64 (hi64 (P 0) : Nat)) (.int .u64 (lo64 (P 0) : Nat)) := (by (refine ⟨?_, ?_, ?_, ?_, ?_, ?_, ?_, ?_, ?_⟩ <;> simp [go_sem]))
  replace S1 := Box2.alloc (.cells #[.int .u64 (hi64 (T 0) : Nat), .int .u64 (lo64 (T 0) : Nat), .int .u64 (hi64 (P 0) : Nat), .int .u64 (lo64 (P 0) : Nat)] 84) S1
  replace Y1 := Box2.alloc (.cells #[.int .u64 (hi64 (T 0) : Nat), .int .u64 (lo64 (T 0) : Nat), .int .u64 (hi64 (P 0) : Nat), .int .u64 (lo64 (P 0) : Nat)] 84) Y1
  replace R1 := Box2.alloc (.cells #[.int .u64 (hi64 (T 0) : Nat), .int .u64 (lo64 (T 0) : Nat), .int .u64 (hi64 (P 0) : Nat), .int .u64 (lo64 (P 0) : Nat)] 84) R1
  replace C1 := Box2.alloc (.cells #[.int .u64 (hi64 (T 0) : Nat), .int .u64 (lo64 (T 0) : Nat), .int .u64 (hi64 (P 0) : Nat), .int .u64 (lo64 (P 0) : Nat)] 84) C1
  replace B := Below.alloc B B.size (.cells #[.int .u64 (hi64 (T 0) : Nat), .int .u64 (lo64 (T 0) : Nat), .int .u64 (hi64 (P 0) : Nat), .int .u64 (lo64 (P 0) : Nat)] 84)
  generalize w1.alloc (.cells #[.int .u64 (hi64 (T 0) : Nat), .int .u64 (lo64 (T 0) : Nat), .int .u64 (hi64 (P 0) : Nat), .int .u64 (lo64 (P 0) : Nat)] 84) = W1 at *
  generalize w1.heap.size = nL at *
  obtain ⟨nS, hn0⟩ : ∃ n0, w.heap.size = n0 := ⟨_, rfl⟩
  rw [hn0] at S1 Y1 R1 C1 B z1
  simp only [hn0]
  have HN0 := hide hn0
  have ySY : nS ≠ nS + 1 := by omega
  have ySR : nS ≠ nS + 1 + 1 + 1 := by omega
  have ySC : nS ≠ nS + 1 + 1 + 1 + 1 := by omega
  have ySL : nS ≠ nL := by omega
  have yYS : nS + 1 ≠ nS := by omega
  have yYR : nS + 1 ≠ nS + 1 + 1 + 1 := by omega
  have yYC : nS + 1 ≠ nS + 1 + 1 + 1 + 1 := by omega
  have yYL : nS + 1 ≠ nL := by omega
  have yRS : nS + 1 + 1 + 1 ≠ nS := by omega
  have yRY : nS + 1 + 1 + 1 ≠ nS + 1 := by omega
  have yRC : nS + 1 + 1 + 1 ≠ nS + 1 + 1 + 1 + 1 := by omega
  have yRL : nS + 1 + 1 + 1 ≠ nL := by omega
  have yCS : nS + 1 + 1 + 1 + 1 ≠ nS := by omega
  have yCY : nS + 1 + 1 + 1 + 1 ≠ nS + 1 := by omega
  have yCR : nS + 1 + 1 + 1 + 1 ≠ nS + 1 + 1 + 1 := by omega
  have yCL : nS + 1 + 1 + 1 + 1 ≠ nL := by omega
  have yLS : nL ≠ nS := by omega
  have yLY : nL ≠ nS + 1 := by omega
  have yLR : nL ≠ nS + 1 + 1 + 1 := by omega
  have yLC : nL ≠ nS + 1 + 1 + 1 + 1 := by omega
  have zY : nS ≤ nS + 1 := by omega
  have zR : nS ≤ nS + 1 + 1 + 1 := by omega
  have zC : nS ≤ nS + 1 + 1 + 1 + 1 := by omega
  have zL : nS ≤ nL := by omega
  have zS : nS ≤ nS := Nat.le_refl _
  clear hn0 z1
  generalize nS + 1 + 1 + 1 + 1 = nC at *
  generalize nS + 1 + 1 + 1 = nR at *
  generalize nS + 1 + 1 = nI at *
  generalize nS + 1 = nY at *
  go_loopg [9] 128 (fun g v9 wr => ∃ (k S n : Nat), g = 128 - k ∧ Hid (k ≤ 128) ∧ v9 = .int .i64 k ∧ Hid (St k S n) ∧ Box2 wr nS (.int .u64 (hi64 S : Nat)) (.int .u64 (lo64 S : Nat)) ∧ Box2 wr nY (.int .u64 (hi64 Y : Nat)) (.int .u64 (lo64 Y : Nat)) ∧ Box2 wr nR (.int .u64 0) (.int .u64 0) ∧ Box2 wr nC (.int .u64 (hi64 n : Nat)) (.int .u64 (lo64 n : Nat)) ∧ Box4 wr nL (.int .u64 (hi64 (T k) : Nat)) (.int .u64 (lo64 (T k) : Nat)) (.int .u64 (hi64 (P k) : Nat)) (.int .u64 (lo64 (P k) : Nat)) ∧ Below nS w wr)
  case atStart => exact ⟨0, X, 0, rfl, hide (by omega), rfl, HS0, S1, Y1, R1, C1, L1, B⟩
  case round =>
    clear S1 Y1 R1 C1 L1 B
    obtain ⟨k, S, n, hg, hk, rfl, hst, S1, Y1, R1, C1, L1, B⟩ := hrel
    have HG := hide hg
    clear hg
    by_cases hlt : (k : Int) < 128
    · by_cases he : hi64 S = hi64 Y ∧ lo64 S = lo64 Y
      · have HE := hide he
        rw [he.1, he.2] at S1
        clear he
        generalize hyh : hi64 Y = yh at *
        generalize hyl : lo64 Y = yl at *
        generalize hnh : hi64 n = ch at *
        generalize hnl : lo64 n = cl at *
        have HNH := hide hnh
        have HNL := hide hnl
        clear hyh hyl hnh hnl H1 H2 H3 H4 H5 H6 HS0 HS1 HS2 L1
        go_wp2_with fail
        have hR := Box2.put (.int .u64 ch) (.int .u64 cl) R1
        rw [HQ.out]
        exact bodyPost_ret (v := .agg #[.int .u64 ch, .int .u64 cl]) (by simp [results, Try.results40, go_sem, hR]) rfl ⟨k, S, n, hst.out, Or.inr HE.out, hk.out, by rw [HNH.out, HNL.out], by rw [HN0.out]; exact (B.setCell zR _).setCell zR _⟩
      · have hne := he
        clear he
        by_cases hl : lo64 S = lo64 Y
        · have hh : ¬ hi64 S = hi64 Y := fun e => hne ⟨e, hl⟩
          have K2s := hide (fun W => H2.out S k W hlt)
          have K2y := hide (fun W => H2.out Y k W hlt)
          have K3 := hide (H3.out k S)
          have K4 := hide (H4.out k)
          have K5 := hide (fun W => H5.out k W hlt)
          have K6 := hide (H6.out n (2 ^ k))
          have KS1 := hide (HS1.out k S n hlt hst.out)
          have KS2 := hide (HS2.out k S n hlt hst.out)
          have u0 : (0 : Int) ≤ (k : Int) := by omega
          have HK1 := hide (show k + 1 ≤ 128 by omega)
          generalize hbs : bitB S k = bs at *
          generalize hby : bitB Y k = byy at *
          clear hbs hby
          generalize hsh : hi64 S = sh at *
          generalize hsl : lo64 S = sl at *
          generalize hyh : hi64 Y = yh at *
          generalize hyl : lo64 Y = yl at *
          generalize hi64 (T k) = th at *
          generalize lo64 (T k) = tl at *
          generalize hi64 (P k) = ph at *
          generalize lo64 (P k) = pl at *
          generalize hnh : hi64 n = ch at *
          generalize hnl : lo64 n = cl at *
          have HSH := hide hsh
          have HSL := hide hsl
          have HYH := hide hyh
          have HYL := hide hyl
          have HNH := hide hnh
          have HNL := hide hnl
          clear hsh hsl hyh hyl hnh hnl
          have q1 : ¬ sh = yh := hh
          clear hh hne
          rw [hl] at S1 K2s K3
          have HSL2 := hide hl
          clear hl
          by_cases hbb : bs = byy
          · subst hbb
            have KS := hide (KS1.out rfl)
            clear KS1 KS2 K3 K5 K6
            go_wp2_with fail
            go_region_held3 (fun v => Box2 v nS (.int .u64 sh) (.int .u64 yl) ∧ Box2 v nY (.int .u64 yh) (.int .u64 yl)) (exact ⟨S1, Y1⟩) (first | (go_at_call 69; (with_reducible refine (K2s.out _).mono ?_); rintro e w4 ⟨rfl, hb⟩; replace S1 := Box2.call hb S1; replace Y1 := Box2.call hb Y1; replace R1 := Box2.call hb R1; replace C1 := Box2.call hb C1; replace L1 := Box4.call hb L1; replace B : Below nS w w4 := below_call (by (repeat (first | exact Below.refl _ _ | assumption | (refine Below.alloc ?_ (by first | omega | (simp; done) | (simp; omega)) _) | (refine Below.setCell ?_ (by first | omega | (simp; done) | (simp; omega)) _) | refine Below.drew ?_ | refine below_drewN ?_ _))) (Nat.le_of_eq HN0.out.symm) hb; clear hb) | (go_at_call 69; (with_reducible refine (K2y.out _).mono ?_); rintro e w4 ⟨rfl, hb⟩; replace S1 := Box2.call hb S1; replace Y1 := Box2.call hb Y1; replace R1 := Box2.call hb R1; replace C1 := Box2.call hb C1; replace L1 := Box4.call hb L1; replace B : Below nS w w4 := below_call (by (repeat (first | exact Below.refl _ _ | assumption | (refine Below.alloc ?_ (by first | omega | (simp; done) | (simp; omega)) _) | (refine Below.setCell ?_ (by first | omega | (simp; done) | (simp; omega)) _) | refine Below.drew ?_ | refine below_drewN ?_ _))) (Nat.le_of_eq HN0.out.symm) hb; clear hb))
            go_wp2_with fail
            refine (K4.out _).mono ?_
            rintro e w7 ⟨rfl, hb⟩
            replace S1 := Box2.call hb S1
            replace Y1 := Box2.call hb Y1
            replace R1 := Box2.call hb R1
            replace C1 := Box2.call hb C1
            replace L1 := Box4.call hb L1
            replace B : Below nS w w7 := below_call B (Nat.le_of_eq HN0.out.symm) hb
            clear hb
            generalize hth : hi64 (T (k + 1)) = th2 at *
            generalize htl : lo64 (T (k + 1)) = tl2 at *
            generalize hph : hi64 (P (k + 1)) = ph2 at *
            generalize hpl : lo64 (P (k + 1)) = pl2 at *
            have HTH := hide hth
            have HTL := hide htl
            have HPH := hide hph
            have HPL := hide hpl
            clear hth htl hph hpl
            go_wp2_with fail
            have L3 := Box4.put (.int .u64 th2) (.int .u64 tl2) (.int .u64 ph2) (.int .u64 pl2) L1
            have S3 := Box2.far4 (u0 := .int .u64 th2) (u1 := .int .u64 tl2) (u2 := .int .u64 ph2) (u3 := .int .u64 pl2) S1 yLS
            have Y3 := Box2.far4 (u0 := .int .u64 th2) (u1 := .int .u64 tl2) (u2 := .int .u64 ph2) (u3 := .int .u64 pl2) Y1 yLY
            have R3 := Box2.far4 (u0 := .int .u64 th2) (u1 := .int .u64 tl2) (u2 := .int .u64 ph2) (u3 := .int .u64 pl2) R1 yLR
            have C3 := Box2.far4 (u0 := .int .u64 th2) (u1 := .int .u64 tl2) (u2 := .int .u64 ph2) (u3 := .int .u64 pl2) C1 yLC
            have B3 : Below nS w ((((w7.setCell ⟨nL, 0, none⟩ (.int .u64 th2)).setCell ⟨nL, 1, none⟩ (.int .u64 tl2)).setCell ⟨nL, 2, none⟩ (.int .u64 ph2)).setCell ⟨nL, 3, none⟩ (.int .u64 pl2)) := (((B.setCell zL _).setCell zL _).setCell zL _).setCell zL _
            clear S1 Y1 R1 C1 L1 B
            go_roundg (128 - (k + 1))
            case measure => rw [HG.out]; have := HK1.out; omega
            case rel => exact ⟨k + 1, S, n, rfl, HK1, by go_num, KS, by rw [HSH.out, HSL.out, HSL2.out]; exact S3, Y3, R3, by rw [HNH.out, HNL.out]; exact C3, by rw [HTH.out, HTL.out, HPH.out, HPL.out]; exact L3, B3⟩
          · have KS := hide (KS2.out hbb)
            obtain rfl : byy = !bs := by cases bs <;> cases byy <;> simp_all
            clear KS1 KS2 hbb
            generalize hzh : hi64 (S * T k + P k) = zh at *
            generalize hzl : lo64 (S * T k + P k) = zl at *
            generalize hdh : hi64 (n + 2 ^ k) = dh at *
            generalize hdl : lo64 (n + 2 ^ k) = dl at *
            have HZH := hide hzh
            have HZL := hide hzl
            have HDH := hide hdh
            have HDL := hide hdl
            clear hzh hzl hdh hdl
            generalize hi64 (2 ^ k) = eh at *
            generalize lo64 (2 ^ k) = el at *
            go_wp2_with fail
            go_region_held3 (fun v => Box2 v nS (.int .u64 sh) (.int .u64 yl) ∧ Box2 v nY (.int .u64 yh) (.int .u64 yl)) (exact ⟨S1, Y1⟩) (first | (go_at_call 69; (with_reducible refine (K2s.out _).mono ?_); rintro e w4 ⟨rfl, hb⟩; replace S1 := Box2.call hb S1; replace Y1 := Box2.call hb Y1; replace R1 := Box2.call hb R1; replace C1 := Box2.call hb C1; replace L1 := Box4.call hb L1; replace B : Below nS w w4 := below_call (by (repeat (first | exact Below.refl _ _ | assumption | (refine Below.alloc ?_ (by first | omega | (simp; done) | (simp; omega)) _) | (refine Below.setCell ?_ (by first | omega | (simp; done) | (simp; omega)) _) | refine Below.drew ?_ | refine below_drewN ?_ _))) (Nat.le_of_eq HN0.out.symm) hb; clear hb) | (go_at_call 69; (with_reducible refine (K2y.out _).mono ?_); rintro e w4 ⟨rfl, hb⟩; replace S1 := Box2.call hb S1; replace Y1 := Box2.call hb Y1; replace R1 := Box2.call hb R1; replace C1 := Box2.call hb C1; replace L1 := Box4.call hb L1; replace B : Below nS w w4 := below_call (by (repeat (first | exact Below.refl _ _ | assumption | (refine Below.alloc ?_ (by first | omega | (simp; done) | (simp; omega)) _) | (refine Below.setCell ?_ (by first | omega | (simp; done) | (simp; omega)) _) | refine Below.drew ?_ | refine below_drewN ?_ _))) (Nat.le_of_eq HN0.out.symm) hb; clear hb))
            go_wp2_with fail
            refine (K3.out _).mono ?_
            rintro e w5 ⟨rfl, hb⟩
            replace S1 := Box2.call hb S1
            replace Y1 := Box2.call hb Y1
            replace R1 := Box2.call hb R1
            replace C1 := Box2.call hb C1
            replace L1 := Box4.call hb L1
            replace B : Below nS w w5 := below_call B (Nat.le_of_eq HN0.out.symm) hb
            clear hb
            go_wp2_with fail
            have S2 := Box2.put (.int .u64 zh) (.int .u64 zl) S1
            have Y2 := Box2.far2 (u0 := .int .u64 zh) (u1 := .int .u64 zl) Y1 ySY
            have R2 := Box2.far2 (u0 := .int .u64 zh) (u1 := .int .u64 zl) R1 ySR
            have C2 := Box2.far2 (u0 := .int .u64 zh) (u1 := .int .u64 zl) C1 ySC
            have L2 := Box4.far2 (u0 := .int .u64 zh) (u1 := .int .u64 zl) L1 ySL
            have B2 : Below nS w ((w5.setCell ⟨nS, 0, none⟩ (.int .u64 zh)).setCell ⟨nS, 1, none⟩ (.int .u64 zl)) := (B.setCell zS _).setCell zS _
            clear S1 Y1 R1 C1 L1 B
            generalize (w5.setCell ⟨nS, 0, none⟩ (.int .u64 zh)).setCell ⟨nS, 1, none⟩ (.int .u64 zl) = W5 at *
            have BW : Below W5.heap.size W5 W5 := Below.refl _ _
            go_region_with ((first | (go_at_call 56; (with_reducible refine (K5.out _).mono ?_)) | (go_at_call 63; (with_reducible refine (K6.out _).mono ?_))); rintro e w6 ⟨rfl, hb⟩; replace C2 := Box2.call hb C2; replace BW : Below W5.heap.size W5 w6 := below_call (by (repeat (first | exact Below.refl _ _ | assumption | (refine Below.alloc ?_ (by first | omega | (simp; done) | (simp; omega)) _) | (refine Below.setCell ?_ (by first | omega | (simp; done) | (simp; omega)) _) | refine Below.drew ?_ | refine below_drewN ?_ _))) (Nat.le_refl _) hb; clear hb)
            all_goals
              have S1 := Box2.far2 (u0 := .int .u64 dh) (u1 := .int .u64 dl) (Box2.call BW S2) yCS
              have Y1 := Box2.far2 (u0 := .int .u64 dh) (u1 := .int .u64 dl) (Box2.call BW Y2) yCY
              have R1 := Box2.far2 (u0 := .int .u64 dh) (u1 := .int .u64 dl) (Box2.call BW R2) yCR
              have L1 := Box4.far2 (u0 := .int .u64 dh) (u1 := .int .u64 dl) (Box4.call BW L2) yCL
              have C1 := Box2.put (.int .u64 dh) (.int .u64 dl) C2
              have B := ((below_call B2 (Nat.le_of_eq HN0.out.symm) BW).setCell (p := ⟨nC, 0, none⟩) zC (.int .u64 dh)).setCell (p := ⟨nC, 1, none⟩) zC (.int .u64 dl)
              clear S2 Y2 R2 C2 L2 B2 BW
              go_wp2_with fail
              refine (K4.out _).mono ?_
              rintro e w7 ⟨rfl, hb⟩
              replace S1 := Box2.call hb S1
              replace Y1 := Box2.call hb Y1
              replace R1 := Box2.call hb R1
              replace C1 := Box2.call hb C1
              replace L1 := Box4.call hb L1
              replace B : Below nS w w7 := below_call B (Nat.le_of_eq HN0.out.symm) hb
              clear hb
              generalize hth : hi64 (T (k + 1)) = th2 at *
              generalize htl : lo64 (T (k + 1)) = tl2 at *
              generalize hph : hi64 (P (k + 1)) = ph2 at *
              generalize hpl : lo64 (P (k + 1)) = pl2 at *
              have HTH := hide hth
              have HTL := hide htl
              have HPH := hide hph
              have HPL := hide hpl
              clear hth htl hph hpl
              go_wp2_with fail
              have L3 := Box4.put (.int .u64 th2) (.int .u64 tl2) (.int .u64 ph2) (.int .u64 pl2) L1
              have S3 := Box2.far4 (u0 := .int .u64 th2) (u1 := .int .u64 tl2) (u2 := .int .u64 ph2) (u3 := .int .u64 pl2) S1 yLS
              have Y3 := Box2.far4 (u0 := .int .u64 th2) (u1 := .int .u64 tl2) (u2 := .int .u64 ph2) (u3 := .int .u64 pl2) Y1 yLY
              have R3 := Box2.far4 (u0 := .int .u64 th2) (u1 := .int .u64 tl2) (u2 := .int .u64 ph2) (u3 := .int .u64 pl2) R1 yLR
              have C3 := Box2.far4 (u0 := .int .u64 th2) (u1 := .int .u64 tl2) (u2 := .int .u64 ph2) (u3 := .int .u64 pl2) C1 yLC
              have B3 : Below nS w ((((w7.setCell ⟨nL, 0, none⟩ (.int .u64 th2)).setCell ⟨nL, 1, none⟩ (.int .u64 tl2)).setCell ⟨nL, 2, none⟩ (.int .u64 ph2)).setCell ⟨nL, 3, none⟩ (.int .u64 pl2)) := (((B.setCell zL _).setCell zL _).setCell zL _).setCell zL _
              clear S1 Y1 R1 C1 L1 B
              go_roundg (128 - (k + 1))
              case measure => rw [HG.out]; have := HK1.out; omega
              case rel => exact ⟨k + 1, S * T k + P k, n + 2 ^ k, rfl, HK1, by go_num, KS, by rw [HZH.out, HZL.out]; exact S3, Y3, R3, by rw [HDH.out, HDL.out]; exact C3, by rw [HTH.out, HTL.out, HPH.out, HPL.out]; exact L3, B3⟩
        · have hh := hl
          have K2s := hide (fun W => H2.out S k W hlt)
          have K2y := hide (fun W => H2.out Y k W hlt)
          have K3 := hide (H3.out k S)
          have K4 := hide (H4.out k)
          have K5 := hide (fun W => H5.out k W hlt)
          have K6 := hide (H6.out n (2 ^ k))
          have KS1 := hide (HS1.out k S n hlt hst.out)
          have KS2 := hide (HS2.out k S n hlt hst.out)
          have u0 : (0 : Int) ≤ (k : Int) := by omega
          have HK1 := hide (show k + 1 ≤ 128 by omega)
          generalize hbs : bitB S k = bs at *
          generalize hby : bitB Y k = byy at *
          clear hbs hby
          generalize hsh : hi64 S = sh at *
          generalize hsl : lo64 S = sl at *
          generalize hyh : hi64 Y = yh at *
          generalize hyl : lo64 Y = yl at *
          generalize hi64 (T k) = th at *
          generalize lo64 (T k) = tl at *
          generalize hi64 (P k) = ph at *
          generalize lo64 (P k) = pl at *
          generalize hnh : hi64 n = ch at *
          generalize hnl : lo64 n = cl at *
          have HSH := hide hsh
          have HSL := hide hsl
          have HYH := hide hyh
          have HYL := hide hyl
          have HNH := hide hnh
          have HNL := hide hnl
          clear hsh hsl hyh hyl hnh hnl
          have q1 : ¬ sl = yl := hh
          clear hh hne hl
          by_cases hbb : bs = byy
          · subst hbb
            have KS := hide (KS1.out rfl)
            clear KS1 KS2 K3 K5 K6
            go_wp2_with fail
            go_region_held3 (fun v => Box2 v nS (.int .u64 sh) (.int .u64 sl) ∧ Box2 v nY (.int .u64 yh) (.int .u64 yl)) (exact ⟨S1, Y1⟩) (first | (go_at_call 69; (with_reducible refine (K2s.out _).mono ?_); rintro e w4 ⟨rfl, hb⟩; replace S1 := Box2.call hb S1; replace Y1 := Box2.call hb Y1; replace R1 := Box2.call hb R1; replace C1 := Box2.call hb C1; replace L1 := Box4.call hb L1; replace B : Below nS w w4 := below_call (by (repeat (first | exact Below.refl _ _ | assumption | (refine Below.alloc ?_ (by first | omega | (simp; done) | (simp; omega)) _) | (refine Below.setCell ?_ (by first | omega | (simp; done) | (simp; omega)) _) | refine Below.drew ?_ | refine below_drewN ?_ _))) (Nat.le_of_eq HN0.out.symm) hb; clear hb) | (go_at_call 69; (with_reducible refine (K2y.out _).mono ?_); rintro e w4 ⟨rfl, hb⟩; replace S1 := Box2.call hb S1; replace Y1 := Box2.call hb Y1; replace R1 := Box2.call hb R1; replace C1 := Box2.call hb C1; replace L1 := Box4.call hb L1; replace B : Below nS w w4 := below_call (by (repeat (first | exact Below.refl _ _ | assumption | (refine Below.alloc ?_ (by first | omega | (simp; done) | (simp; omega)) _) | (refine Below.setCell ?_ (by first | omega | (simp; done) | (simp; omega)) _) | refine Below.drew ?_ | refine below_drewN ?_ _))) (Nat.le_of_eq HN0.out.symm) hb; clear hb))
            go_wp2_with fail
            refine (K4.out _).mono ?_
            rintro e w7 ⟨rfl, hb⟩
            replace S1 := Box2.call hb S1
            replace Y1 := Box2.call hb Y1
            replace R1 := Box2.call hb R1
            replace C1 := Box2.call hb C1
            replace L1 := Box4.call hb L1
            replace B : Below nS w w7 := below_call B (Nat.le_of_eq HN0.out.symm) hb
            clear hb
            generalize hth : hi64 (T (k + 1)) = th2 at *
            generalize htl : lo64 (T (k + 1)) = tl2 at *
            generalize hph : hi64 (P (k + 1)) = ph2 at *
            generalize hpl : lo64 (P (k + 1)) = pl2 at *
            have HTH := hide hth
            have HTL := hide htl
            have HPH := hide hph
            have HPL := hide hpl
            clear hth htl hph hpl
            go_wp2_with fail
            have L3 := Box4.put (.int .u64 th2) (.int .u64 tl2) (.int .u64 ph2) (.int .u64 pl2) L1
            have S3 := Box2.far4 (u0 := .int .u64 th2) (u1 := .int .u64 tl2) (u2 := .int .u64 ph2) (u3 := .int .u64 pl2) S1 yLS
            have Y3 := Box2.far4 (u0 := .int .u64 th2) (u1 := .int .u64 tl2) (u2 := .int .u64 ph2) (u3 := .int .u64 pl2) Y1 yLY
            have R3 := Box2.far4 (u0 := .int .u64 th2) (u1 := .int .u64 tl2) (u2 := .int .u64 ph2) (u3 := .int .u64 pl2) R1 yLR
            have C3 := Box2.far4 (u0 := .int .u64 th2) (u1 := .int .u64 tl2) (u2 := .int .u64 ph2) (u3 := .int .u64 pl2) C1 yLC
            have B3 : Below nS w ((((w7.setCell ⟨nL, 0, none⟩ (.int .u64 th2)).setCell ⟨nL, 1, none⟩ (.int .u64 tl2)).setCell ⟨nL, 2, none⟩ (.int .u64 ph2)).setCell ⟨nL, 3, none⟩ (.int .u64 pl2)) := (((B.setCell zL _).setCell zL _).setCell zL _).setCell zL _
            clear S1 Y1 R1 C1 L1 B
            go_roundg (128 - (k + 1))
            case measure => rw [HG.out]; have := HK1.out; omega
            case rel => exact ⟨k + 1, S, n, rfl, HK1, by go_num, KS, by rw [HSH.out, HSL.out]; exact S3, Y3, R3, by rw [HNH.out, HNL.out]; exact C3, by rw [HTH.out, HTL.out, HPH.out, HPL.out]; exact L3, B3⟩
          · have KS := hide (KS2.out hbb)
            obtain rfl : byy = !bs := by cases bs <;> cases byy <;> simp_all
            clear KS1 KS2 hbb
            generalize hzh : hi64 (S * T k + P k) = zh at *
            generalize hzl : lo64 (S * T k + P k) = zl at *
            generalize hdh : hi64 (n + 2 ^ k) = dh at *
            generalize hdl : lo64 (n + 2 ^ k) = dl at *
            have HZH := hide hzh
            have HZL := hide hzl
            have HDH := hide hdh
            have HDL := hide hdl
            clear hzh hzl hdh hdl
            generalize hi64 (2 ^ k) = eh at *
            generalize lo64 (2 ^ k) = el at *
            go_wp2_with fail
            go_region_held3 (fun v => Box2 v nS (.int .u64 sh) (.int .u64 sl) ∧ Box2 v nY (.int .u64 yh) (.int .u64 yl)) (exact ⟨S1, Y1⟩) (first | (go_at_call 69; (with_reducible refine (K2s.out _).mono ?_); rintro e w4 ⟨rfl, hb⟩; replace S1 := Box2.call hb S1; replace Y1 := Box2.call hb Y1; replace R1 := Box2.call hb R1; replace C1 := Box2.call hb C1; replace L1 := Box4.call hb L1; replace B : Below nS w w4 := below_call (by (repeat (first | exact Below.refl _ _ | assumption | (refine Below.alloc ?_ (by first | omega | (simp; done) | (simp; omega)) _) | (refine Below.setCell ?_ (by first | omega | (simp; done) | (simp; omega)) _) | refine Below.drew ?_ | refine below_drewN ?_ _))) (Nat.le_of_eq HN0.out.symm) hb; clear hb) | (go_at_call 69; (with_reducible refine (K2y.out _).mono ?_); rintro e w4 ⟨rfl, hb⟩; replace S1 := Box2.call hb S1; replace Y1 := Box2.call hb Y1; replace R1 := Box2.call hb R1; replace C1 := Box2.call hb C1; replace L1 := Box4.call hb L1; replace B : Below nS w w4 := below_call (by (repeat (first | exact Below.refl _ _ | assumption | (refine Below.alloc ?_ (by first | omega | (simp; done) | (simp; omega)) _) | (refine Below.setCell ?_ (by first | omega | (simp; done) | (simp; omega)) _) | refine Below.drew ?_ | refine below_drewN ?_ _))) (Nat.le_of_eq HN0.out.symm) hb; clear hb))
            go_wp2_with fail
            refine (K3.out _).mono ?_
            rintro e w5 ⟨rfl, hb⟩
            replace S1 := Box2.call hb S1
            replace Y1 := Box2.call hb Y1
            replace R1 := Box2.call hb R1
            replace C1 := Box2.call hb C1
            replace L1 := Box4.call hb L1
            replace B : Below nS w w5 := below_call B (Nat.le_of_eq HN0.out.symm) hb
            clear hb
            go_wp2_with fail
            have S2 := Box2.put (.int .u64 zh) (.int .u64 zl) S1
            have Y2 := Box2.far2 (u0 := .int .u64 zh) (u1 := .int .u64 zl) Y1 ySY
            have R2 := Box2.far2 (u0 := .int .u64 zh) (u1 := .int .u64 zl) R1 ySR
            have C2 := Box2.far2 (u0 := .int .u64 zh) (u1 := .int .u64 zl) C1 ySC
            have L2 := Box4.far2 (u0 := .int .u64 zh) (u1 := .int .u64 zl) L1 ySL
            have B2 : Below nS w ((w5.setCell ⟨nS, 0, none⟩ (.int .u64 zh)).setCell ⟨nS, 1, none⟩ (.int .u64 zl)) := (B.setCell zS _).setCell zS _
            clear S1 Y1 R1 C1 L1 B
            generalize (w5.setCell ⟨nS, 0, none⟩ (.int .u64 zh)).setCell ⟨nS, 1, none⟩ (.int .u64 zl) = W5 at *
            have BW : Below W5.heap.size W5 W5 := Below.refl _ _
            go_region_with ((first | (go_at_call 56; (with_reducible refine (K5.out _).mono ?_)) | (go_at_call 63; (with_reducible refine (K6.out _).mono ?_))); rintro e w6 ⟨rfl, hb⟩; replace C2 := Box2.call hb C2; replace BW : Below W5.heap.size W5 w6 := below_call (by (repeat (first | exact Below.refl _ _ | assumption | (refine Below.alloc ?_ (by first | omega | (simp; done) | (simp; omega)) _) | (refine Below.setCell ?_ (by first | omega | (simp; done) | (simp; omega)) _) | refine Below.drew ?_ | refine below_drewN ?_ _))) (Nat.le_refl _) hb; clear hb)
            all_goals
              have S1 := Box2.far2 (u0 := .int .u64 dh) (u1 := .int .u64 dl) (Box2.call BW S2) yCS
              have Y1 := Box2.far2 (u0 := .int .u64 dh) (u1 := .int .u64 dl) (Box2.call BW Y2) yCY
              have R1 := Box2.far2 (u0 := .int .u64 dh) (u1 := .int .u64 dl) (Box2.call BW R2) yCR
              have L1 := Box4.far2 (u0 := .int .u64 dh) (u1 := .int .u64 dl) (Box4.call BW L2) yCL
              have C1 := Box2.put (.int .u64 dh) (.int .u64 dl) C2
              have B := ((below_call B2 (Nat.le_of_eq HN0.out.symm) BW).setCell (p := ⟨nC, 0, none⟩) zC (.int .u64 dh)).setCell (p := ⟨nC, 1, none⟩) zC (.int .u64 dl)
              clear S2 Y2 R2 C2 L2 B2 BW
              go_wp2_with fail
              refine (K4.out _).mono ?_
              rintro e w7 ⟨rfl, hb⟩
              replace S1 := Box2.call hb S1
              replace Y1 := Box2.call hb Y1
              replace R1 := Box2.call hb R1
              replace C1 := Box2.call hb C1
              replace L1 := Box4.call hb L1
              replace B : Below nS w w7 := below_call B (Nat.le_of_eq HN0.out.symm) hb
              clear hb
              generalize hth : hi64 (T (k + 1)) = th2 at *
              generalize htl : lo64 (T (k + 1)) = tl2 at *
              generalize hph : hi64 (P (k + 1)) = ph2 at *
              generalize hpl : lo64 (P (k + 1)) = pl2 at *
              have HTH := hide hth
              have HTL := hide htl
              have HPH := hide hph
              have HPL := hide hpl
              clear hth htl hph hpl
              go_wp2_with fail
              have L3 := Box4.put (.int .u64 th2) (.int .u64 tl2) (.int .u64 ph2) (.int .u64 pl2) L1
              have S3 := Box2.far4 (u0 := .int .u64 th2) (u1 := .int .u64 tl2) (u2 := .int .u64 ph2) (u3 := .int .u64 pl2) S1 yLS
              have Y3 := Box2.far4 (u0 := .int .u64 th2) (u1 := .int .u64 tl2) (u2 := .int .u64 ph2) (u3 := .int .u64 pl2) Y1 yLY
              have R3 := Box2.far4 (u0 := .int .u64 th2) (u1 := .int .u64 tl2) (u2 := .int .u64 ph2) (u3 := .int .u64 pl2) R1 yLR
              have C3 := Box2.far4 (u0 := .int .u64 th2) (u1 := .int .u64 tl2) (u2 := .int .u64 ph2) (u3 := .int .u64 pl2) C1 yLC
              have B3 : Below nS w ((((w7.setCell ⟨nL, 0, none⟩ (.int .u64 th2)).setCell ⟨nL, 1, none⟩ (.int .u64 tl2)).setCell ⟨nL, 2, none⟩ (.int .u64 ph2)).setCell ⟨nL, 3, none⟩ (.int .u64 pl2)) := (((B.setCell zL _).setCell zL _).setCell zL _).setCell zL _
              clear S1 Y1 R1 C1 L1 B
              go_roundg (128 - (k + 1))
              case measure => rw [HG.out]; have := HK1.out; omega
              case rel => exact ⟨k + 1, S * T k + P k, n + 2 ^ k, rfl, HK1, by go_num, KS, by rw [HZH.out, HZL.out]; exact S3, Y3, R3, by rw [HDH.out, HDL.out]; exact C3, by rw [HTH.out, HTL.out, HPH.out, HPL.out]; exact L3, B3⟩
    · have hk2 : k = 128 := by have := hk.out; omega
      have HK2 := hide hk2
      clear hk2
      generalize hsh : hi64 S = sh at *
      generalize hsl : lo64 S = sl at *
      generalize hnh : hi64 n = ch at *
      generalize hnl : lo64 n = cl at *
      have HSH := hide hsh
      have HSL := hide hsl
      have HNH := hide hnh
      have HNL := hide hnl
      generalize hyh : hi64 Y = yh at *
      generalize hyl : lo64 Y = yl at *
      have HYH := hide hyh
      have HYL := hide hyl
      clear hsh hsl hnh hnl hyh hyl H1 H2 H3 H4 H5 H6 HS0 HS1 HS2 L1
      go_wp2_with fail
      have hR := Box2.put (.int .u64 ch) (.int .u64 cl) R1
      rw [HQ.out]
      exact bodyPost_ret (v := .agg #[.int .u64 ch, .int .u64 cl]) (by simp [results, Try.results40, go_sem, hR]) rfl ⟨k, S, n, hst.out, Or.inl HK2.out, hk.out, by rw [HNH.out, HNL.out], by rw [HN0.out]; exact (B.setCell zR _).setCell zR _⟩
end Go.Proofs.Ytjgcpacdiiifjaa
