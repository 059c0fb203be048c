/-
  Walk of Go's bits.Div64 and bits.Rem64. Conditions: the high word is less than the divisor.
-/
import Derived.Test.YtppmkoglpfdjnaaDoorDivM
import Derived.Test.YtppmkoglpfdjnaaDoorShelf
import Derived.Test.YtppmkoglpfdjnaaDoorShl
import Derived.Deep.DeepCutAuto
import Derived.Deep.CutBlock
import Derived.Deep.LoopGhost
import Derived.Deep.QuietTactic
import Derived.BigQuiet
namespace Go.Proofs.YtppmkoglpfdjnaaDoor
open Go.RowKit Go.Shelf
set_option linter.unusedVariables false

theorem wu {n : Nat} (h : n < 18446744073709551616) : IntKind.u64.wrap (n : Int) = (n : Int) := by rw [u64_of, Nat.mod_eq_of_lt h]
theorem wu_mul {a b n : Nat} (h : n = a * b % 18446744073709551616) : IntKind.u64.wrap ((a : Int) * (b : Int)) = (n : Int) := by rw [← Int.natCast_mul, u64_of, h]
theorem wu_add {a b n : Nat} (h : n = (a + b) % 18446744073709551616) : IntKind.u64.wrap ((a : Int) + (b : Int)) = (n : Int) := by rw [← Int.natCast_add, u64_of, h]
theorem wu_sub {a b n : Nat} (hb : b < 18446744073709551616) (h : n = (a + 18446744073709551616 - b) % 18446744073709551616) : IntKind.u64.wrap ((a : Int) - (b : Int)) = (n : Int) := by
  rw [IntKind.wrap_u64]
  omega

set_option maxRecDepth 100000 in
set_option maxHeartbeats 16000000 in
theorem div64_g (hi lo y s j yy v1 v0 a46 a50 U u10 d1 d0 : Nat) (w : World)
    (HL : Hid (∀ W, Calls Tryd.prog 30 #[.int .u64 y] W fun e w' => e = .returned (.int .i64 s) ∧ W = w'))
    (h1 : 0 < hi) (h2 : hi < y) (s1 : (0 : Int) ≤ (s : Int)) (s2 : (s : Int) < 64)
    (r1 : IntKind.u64.wrap ((y : Int) * 2 ^ s) = (yy : Int)) (r2 : (yy : Int) / 4294967296 = (v1 : Int)) (r3 : bits .and .u64 (yy : Int) 4294967295 = (v0 : Int))
    (r4 : IntKind.u64.wrap ((hi : Int) * 2 ^ s) = (a46 : Int)) (r5 : (64 : Int) - (s : Int) = (j : Int)) (j1 : (0 : Int) ≤ (j : Int)) (r6 : (lo : Int) / 2 ^ j = (a50 : Int))
    (r7 : bits .or .u64 (a46 : Int) (a50 : Int) = (U : Int)) (r8 : IntKind.u64.wrap ((lo : Int) * 2 ^ s) = (u10 : Int)) (r9 : (u10 : Int) / 4294967296 = (d1 : Int)) (r10 : bits .and .u64 (u10 : Int) 4294967295 = (d0 : Int))
    (hv1 : 2147483648 ≤ v1) (hv0 : v0 < 4294967296) (hyy : yy = v1 * 4294967296 + v0) (hyy2 : yy < 18446744073709551616) (hU : U < yy) (hd1 : d1 < 4294967296) (hd0 : d0 < 4294967296) :
    Calls Tryd.prog 29 #[.int .u64 hi, .int .u64 lo, .int .u64 y] w fun e w' => e = .returned (.tuple #[.int .u64 ((U * 4294967296 + d1) / yy * 4294967296 + ((U * 4294967296 + d1) % yy * 4294967296 + d0) / yy : Nat), .int .u64 (((U * 4294967296 + d1) % yy * 4294967296 + d0) % yy / 2 ^ s : Nat)]) ∧ w = w' := by
  have e0 : ((y : Int) == 0) = false := by rw [beq_eq_false_iff_ne]; omega
  have e1 : ((hi : Int) == 0) = false := by rw [beq_eq_false_iff_ne]; omega
  have e2 : decide (y ≤ hi) = false := decide_eq_false (by omega)
  have e3 : ((v1 : Int) == 0) = false := by rw [beq_eq_false_iff_ne]; omega
  have e4 : ¬ (v1 : Int) = 0 := by omega
  have e5 : ¬ v1 = 0 := by omega
  have hR1 : (U * 4294967296 + d1) % yy < yy := Nat.mod_lt _ (by omega)
  have hUa : U < v1 * 4294967296 + v0 := by rw [← hyy]; exact hU
  have Ka0 := kn_start hv1 hv0 hUa hd1
  obtain ⟨qa0, hqa0⟩ : ∃ q, q = U / v1 := ⟨_, rfl⟩
  obtain ⟨ma0, hma0⟩ : ∃ m, m = qa0 * v1 := ⟨_, rfl⟩
  obtain ⟨ra0, hra0⟩ : ∃ r, r = U % v1 := ⟨_, rfl⟩
  have hdma : v1 * (U / v1) + U % v1 = U := Nat.div_add_mod U v1
  have hmqa : ma0 + ra0 = U := by rw [hma0, hra0, hqa0, Nat.mul_comm]; exact hdma
  rw [← hqa0, ← hra0] at Ka0
  have xa1 : (U : Int) / (v1 : Int) = (qa0 : Int) := by rw [hqa0]; rfl
  have xa4 : IntKind.u64.wrap (qa0 : Int) = (qa0 : Int) := wu (Nat.lt_of_le_of_lt (by rw [hqa0]; exact Nat.div_le_self _ _) (show U < 18446744073709551616 by omega))
  have xa2 : IntKind.u64.wrap ((qa0 : Int) * (v1 : Int)) = (ma0 : Int) := wu_mul (by rw [← hma0, Nat.mod_eq_of_lt]; omega)
  have xa3 : IntKind.u64.wrap ((U : Int) - (ma0 : Int)) = (ra0 : Int) := wu_sub (by omega) (by omega)
  have hrav : ra0 < v1 := by rw [hra0]; exact Nat.mod_lt _ (by omega)
  obtain ⟨Q1, hQ1⟩ : ∃ Q, Q = (U * 4294967296 + d1) / yy := ⟨_, rfl⟩
  obtain ⟨R1, hR1e⟩ : ∃ R, R = (U * 4294967296 + d1) % yy := ⟨_, rfl⟩
  rw [← hR1e] at hR1 ⊢
  rw [← hQ1]
  have hUb : R1 < v1 * 4294967296 + v0 := by rw [← hyy]; exact hR1
  have Kb0 := kn_start hv1 hv0 hUb hd0
  obtain ⟨qb0, hqb0⟩ : ∃ q, q = R1 / v1 := ⟨_, rfl⟩
  obtain ⟨mb0, hmb0⟩ : ∃ m, m = qb0 * v1 := ⟨_, rfl⟩
  obtain ⟨rb0, hrb0⟩ : ∃ r, r = R1 % v1 := ⟨_, rfl⟩
  have hdmb : v1 * (R1 / v1) + R1 % v1 = R1 := Nat.div_add_mod R1 v1
  have hmqb : mb0 + rb0 = R1 := by rw [hmb0, hrb0, hqb0, Nat.mul_comm]; exact hdmb
  rw [← hqb0, ← hrb0] at Kb0
  have xb1 : (R1 : Int) / (v1 : Int) = (qb0 : Int) := by rw [hqb0]; rfl
  have xb4 : IntKind.u64.wrap (qb0 : Int) = (qb0 : Int) := wu (Nat.lt_of_le_of_lt (by rw [hqb0]; exact Nat.div_le_self _ _) (show R1 < 18446744073709551616 by omega))
  have xb2 : IntKind.u64.wrap ((qb0 : Int) * (v1 : Int)) = (mb0 : Int) := wu_mul (by rw [← hmb0, Nat.mod_eq_of_lt]; omega)
  have xb3 : IntKind.u64.wrap ((R1 : Int) - (mb0 : Int)) = (rb0 : Int) := wu_sub (by omega) (by omega)
  have hrbv : rb0 < v1 := by rw [hrb0]; exact Nat.mod_lt _ (by omega)
  obtain ⟨Q0, hQ0⟩ : ∃ Q, Q = (R1 * 4294967296 + d0) / yy := ⟨_, rfl⟩
  obtain ⟨R0, hR0e⟩ : ∃ R, R = (R1 * 4294967296 + d0) % yy := ⟨_, rfl⟩
  rw [← hQ0, ← hR0e]
  have lQ1 : Q1 < 4294967296 := by rw [hQ1, hyy]; exact kn_lt hUa hd1
  have lQ0 : Q0 < 4294967296 := by rw [hQ0, hyy]; exact kn_lt hUb hd0
  obtain ⟨b1, hb1⟩ : ∃ b, b = U * 4294967296 % 18446744073709551616 := ⟨_, rfl⟩
  obtain ⟨b2, hb2⟩ : ∃ b, b = (b1 + d1) % 18446744073709551616 := ⟨_, rfl⟩
  obtain ⟨b3, hb3⟩ : ∃ b, b = Q1 * yy % 18446744073709551616 := ⟨_, rfl⟩
  have g1 : IntKind.u64.wrap ((U : Int) * 4294967296) = (b1 : Int) := wu_mul (b := 4294967296) hb1
  have g2 : IntKind.u64.wrap ((b1 : Int) + (d1 : Int)) = (b2 : Int) := wu_add hb2
  have g3 : IntKind.u64.wrap ((Q1 : Int) * (yy : Int)) = (b3 : Int) := wu_mul hb3
  have g4 : IntKind.u64.wrap ((b2 : Int) - (b3 : Int)) = (R1 : Int) := wu_sub (by omega) (by rw [hR1e]; exact (kn_rest U d1 yy b1 b2 b3 (by omega) (by omega) hb1 hb2 (by rw [hb3, hQ1])).symm)
  obtain ⟨c1, hc1⟩ : ∃ b, b = Q1 * 4294967296 := ⟨_, rfl⟩
  obtain ⟨c3, hc3⟩ : ∃ b, b = R1 * 4294967296 % 18446744073709551616 := ⟨_, rfl⟩
  obtain ⟨c4, hc4⟩ : ∃ b, b = (c3 + d0) % 18446744073709551616 := ⟨_, rfl⟩
  obtain ⟨c5, hc5⟩ : ∃ b, b = Q0 * yy % 18446744073709551616 := ⟨_, rfl⟩
  obtain ⟨quo, hquo⟩ : ∃ b, b = Q1 * 4294967296 + Q0 := ⟨_, rfl⟩
  obtain ⟨rem, hrem⟩ : ∃ b, b = R0 / 2 ^ s := ⟨_, rfl⟩
  have g5 : IntKind.u64.wrap ((Q1 : Int) * 4294967296) = (c1 : Int) := wu_mul (b := 4294967296) (by rw [hc1, Nat.mod_eq_of_lt]; omega)
  have g6 : IntKind.u64.wrap ((c1 : Int) + (Q0 : Int)) = (quo : Int) := wu_add (by rw [hquo, hc1, Nat.mod_eq_of_lt]; omega)
  have g7 : IntKind.u64.wrap ((R1 : Int) * 4294967296) = (c3 : Int) := wu_mul (b := 4294967296) hc3
  have g8 : IntKind.u64.wrap ((c3 : Int) + (d0 : Int)) = (c4 : Int) := wu_add hc4
  have g9 : IntKind.u64.wrap ((Q0 : Int) * (yy : Int)) = (c5 : Int) := wu_mul hc5
  have g10 : IntKind.u64.wrap ((c4 : Int) - (c5 : Int)) = (R0 : Int) := wu_sub (by omega) (by rw [hR0e]; exact (kn_rest R1 d0 yy c3 c4 c5 (by omega) (by omega) hc3 hc4 (by rw [hc5, hQ0])).symm)
  have g11 : (R0 : Int) / 2 ^ s = (rem : Int) := by rw [hrem, Int.natCast_ediv, Int.natCast_pow]; rfl
  rw [← hquo, ← hrem]
  have HYL := hide hyy2; have HV1 := hide hv1; have HV0 := hide hv0; have HYY := hide hyy
  have HUA := hide hUa; have HUB := hide hUb; have HD1 := hide hd1; have HD0 := hide hd0
  have HQ1 := hide hQ1; have HQ0 := hide hQ0; have KA0 := hide Ka0; have KB0 := hide Kb0
  have hra : ra0 < 4294967296 := by omega
  have hrb : rb0 < 4294967296 := by omega
  have HRA := hide hra; have HRB := hide hrb
  clear hv1 hv0 hyy hyy2 hU hd1 hd0 hUa hUb hQ1 hQ0 Ka0 Kb0 hra hrb hR1 hR1e hR0e lQ1 lQ0 hb1 hb2 hb3 hc1 hc3 hc4 hc5 hquo hrem h1 h2 hqa0 hma0 hra0 hdma hmqa hrav hqb0 hmb0 hrb0 hdmb hmqb hrbv
  go_enter Tryd.func29, Tryd.ntmps29
  go_wp2_with fail
  refine (HL.out _).mono ?_
  rintro e w1 ⟨rfl, rfl⟩
  clear HL e0 e1 e2
  have HVL := hide (show v1 < 4294967296 by have := HYY.out; have := HYL.out; omega)
  go_upto_block 0 with (fail)
  go_cut [15, 16] (fun s15 s16 wx => s15 = .int .u64 Q1 ∧ w = wx)
  case first =>
    go_wp2_with fail
    go_loopg [15, 16] qa0 (fun g vq vr wr => ∃ q r : Nat, g = q ∧ vq = .int .u64 q ∧ vr = .int .u64 r ∧ Hid (KI U v1 v0 d1 q r) ∧ Hid (r < 4294967296) ∧ w = wr)
    case atStart => exact ⟨qa0, ra0, rfl, rfl, rfl, KA0, HRA, rfl⟩
    case round =>
      obtain ⟨q, r, hg, rfl, rfl, hK, hr, rfl⟩ := hrel
      have HG := hide hg
      clear hg
      by_cases hbig : 4294967296 ≤ q
      · have f3 : decide (4294967296 ≤ q) = true := decide_eq_true hbig
        have f4 : decide ((4294967296 : Int) ≤ (q : Int)) = true := decide_eq_true (by omega)
        obtain ⟨k1, K', k3⟩ := kn_more HV1.out HUA.out HD1.out hK.out (.inl hbig)
        obtain ⟨q', hq'⟩ : ∃ x, x = q - 1 := ⟨_, rfl⟩
        obtain ⟨r', hr'⟩ : ∃ x, x = r + v1 := ⟨_, rfl⟩
        rw [← hq', ← hr'] at K'
        rw [← hq'] at k3
        have z1 : IntKind.u64.wrap ((q : Int) - 1) = (q' : Int) := wu_sub (b := 1) (by omega) (by have := hK.out.2.2; omega)
        have z2 : IntKind.u64.wrap ((r : Int) + (v1 : Int)) = (r' : Int) := wu_add (by have := hr.out; have := HVL.out; omega)
        have HK' := hide K'
        have HQQ := hide (show q' < q by omega)
        by_cases hb : 4294967296 ≤ r'
        · have hQ : q' = Q1 := by rw [kn_break HV1.out HV0.out K' k3 hb, HQ1.out, HYY.out]
          have f1 : decide (4294967296 ≤ r') = true := decide_eq_true hb
          have f2 : decide ((4294967296 : Int) ≤ (r' : Int)) = true := decide_eq_true (by omega)
          clear hq' hr' K' k3 k1 hb HK' HQQ
          subst hQ
          go_wp2_with fail
          go_meet
          exact ⟨rfl, rfl⟩
        · have f1 : decide (4294967296 ≤ r') = false := decide_eq_false hb
          have f2 : decide ((4294967296 : Int) ≤ (r' : Int)) = false := decide_eq_false (by omega)
          have HR' := hide (show r' < 4294967296 by omega)
          clear hq' hr' K' k3 k1 hb
          go_wp2_with fail
          go_roundg q'
          case measure => rw [HG.out]; exact HQQ.out
          case rel => exact ⟨q', r', rfl, rfl, rfl, HK', HR', rfl⟩
      · obtain ⟨p1, hp1⟩ : ∃ x, x = q * v0 := ⟨_, rfl⟩
        obtain ⟨p2, hp2⟩ : ∃ x, x = 4294967296 * r := ⟨_, rfl⟩
        obtain ⟨p3, hp3⟩ : ∃ x, x = 4294967296 * r + d1 := ⟨_, rfl⟩
        have y1 : IntKind.u64.wrap ((q : Int) * (v0 : Int)) = (p1 : Int) := wu_mul (by rw [hp1, Nat.mod_eq_of_lt (kn_small hK.out.2.2 HV0.out)])
        have y2 : IntKind.u64.wrap (4294967296 * (r : Int)) = (p2 : Int) := wu_mul (a := 4294967296) (by rw [hp2, Nat.mod_eq_of_lt]; have := hr.out; omega)
        have y3 : IntKind.u64.wrap ((p2 : Int) + (d1 : Int)) = (p3 : Int) := wu_add (by rw [hp3, hp2, Nat.mod_eq_of_lt]; have := hr.out; have := HD1.out; omega)
        have f3 : decide (4294967296 ≤ q) = false := decide_eq_false hbig
        have f4 : decide ((4294967296 : Int) ≤ (q : Int)) = false := decide_eq_false (by omega)
        by_cases hp : 4294967296 * r + d1 < q * v0
        · have f5 : decide (p3 < p1) = true := decide_eq_true (by rw [hp1, hp3]; exact hp)
          have f6 : decide ((p3 : Int) < (p1 : Int)) = true := decide_eq_true (by rw [hp1, hp3]; exact_mod_cast hp)
          clear hp1 hp2 hp3 hbig
          obtain ⟨k1, K', k3⟩ := kn_more HV1.out HUA.out HD1.out hK.out (.inr hp)
          obtain ⟨q', hq'⟩ : ∃ x, x = q - 1 := ⟨_, rfl⟩
          obtain ⟨r', hr'⟩ : ∃ x, x = r + v1 := ⟨_, rfl⟩
          rw [← hq', ← hr'] at K'
          rw [← hq'] at k3
          have z1 : IntKind.u64.wrap ((q : Int) - 1) = (q' : Int) := wu_sub (b := 1) (by omega) (by have := hK.out.2.2; omega)
          have z2 : IntKind.u64.wrap ((r : Int) + (v1 : Int)) = (r' : Int) := wu_add (by have := hr.out; have := HVL.out; omega)
          have HK' := hide K'
          have HQQ := hide (show q' < q by omega)
          by_cases hb : 4294967296 ≤ r'
          · have hQ : q' = Q1 := by rw [kn_break HV1.out HV0.out K' k3 hb, HQ1.out, HYY.out]
            have f1 : decide (4294967296 ≤ r') = true := decide_eq_true hb
            have f2 : decide ((4294967296 : Int) ≤ (r' : Int)) = true := decide_eq_true (by omega)
            clear hq' hr' K' k3 k1 hb HK' HQQ
            subst hQ
            go_wp2_with fail
            go_meet
            exact ⟨rfl, rfl⟩
          · have f1 : decide (4294967296 ≤ r') = false := decide_eq_false hb
            have f2 : decide ((4294967296 : Int) ≤ (r' : Int)) = false := decide_eq_false (by omega)
            have HR' := hide (show r' < 4294967296 by omega)
            clear hq' hr' K' k3 k1 hb
            go_wp2_with fail
            go_roundg q'
            case measure => rw [HG.out]; exact HQQ.out
            case rel => exact ⟨q', r', rfl, rfl, rfl, HK', HR', rfl⟩
        · have f5 : decide (p3 < p1) = false := decide_eq_false (by rw [hp1, hp3]; exact hp)
          have f6 : decide ((p3 : Int) < (p1 : Int)) = false := decide_eq_false (by rw [hp1, hp3]; exact_mod_cast hp)
          have hQ : q = Q1 := by rw [kn_le HV1.out hK.out (by omega), HQ1.out, HYY.out]
          clear hp1 hp2 hp3 hbig hp HG
          subst hQ
          go_wp2_with fail
          go_meet
          exact ⟨rfl, rfl⟩
  case rest =>
    obtain ⟨rfl, rfl⟩ := hcut
    go_upto_block 2 with (fail)
    go_cut [18, 16] (fun s18 s16 wx => s18 = .int .u64 Q0 ∧ w = wx)
    case first =>
      go_wp2_with fail
      go_loopg [18, 16] qb0 (fun g vq vr wr => ∃ q r : Nat, g = q ∧ vq = .int .u64 q ∧ vr = .int .u64 r ∧ Hid (KI R1 v1 v0 d0 q r) ∧ Hid (r < 4294967296) ∧ w = wr)
      case atStart => exact ⟨qb0, rb0, rfl, rfl, rfl, KB0, HRB, rfl⟩
      case round =>
        obtain ⟨q, r, hg, rfl, rfl, hK, hr, rfl⟩ := hrel
        have HG := hide hg
        clear hg
        by_cases hbig : 4294967296 ≤ q
        · have f3 : decide (4294967296 ≤ q) = true := decide_eq_true hbig
          have f4 : decide ((4294967296 : Int) ≤ (q : Int)) = true := decide_eq_true (by omega)
          obtain ⟨k1, K', k3⟩ := kn_more HV1.out HUB.out HD0.out hK.out (.inl hbig)
          obtain ⟨q', hq'⟩ : ∃ x, x = q - 1 := ⟨_, rfl⟩
          obtain ⟨r', hr'⟩ : ∃ x, x = r + v1 := ⟨_, rfl⟩
          rw [← hq', ← hr'] at K'
          rw [← hq'] at k3
          have z1 : IntKind.u64.wrap ((q : Int) - 1) = (q' : Int) := wu_sub (b := 1) (by omega) (by have := hK.out.2.2; omega)
          have z2 : IntKind.u64.wrap ((r : Int) + (v1 : Int)) = (r' : Int) := wu_add (by have := hr.out; have := HVL.out; omega)
          have HK' := hide K'
          have HQQ := hide (show q' < q by omega)
          by_cases hb : 4294967296 ≤ r'
          · have hQ : q' = Q0 := by rw [kn_break HV1.out HV0.out K' k3 hb, HQ0.out, HYY.out]
            have f1 : decide (4294967296 ≤ r') = true := decide_eq_true hb
            have f2 : decide ((4294967296 : Int) ≤ (r' : Int)) = true := decide_eq_true (by omega)
            clear hq' hr' K' k3 k1 hb HK' HQQ
            subst hQ
            go_wp2_with fail
            go_meet
            exact ⟨rfl, rfl⟩
          · have f1 : decide (4294967296 ≤ r') = false := decide_eq_false hb
            have f2 : decide ((4294967296 : Int) ≤ (r' : Int)) = false := decide_eq_false (by omega)
            have HR' := hide (show r' < 4294967296 by omega)
            clear hq' hr' K' k3 k1 hb
            go_wp2_with fail
            go_roundg q'
            case measure => rw [HG.out]; exact HQQ.out
            case rel => exact ⟨q', r', rfl, rfl, rfl, HK', HR', rfl⟩
        · obtain ⟨p1, hp1⟩ : ∃ x, x = q * v0 := ⟨_, rfl⟩
          obtain ⟨p2, hp2⟩ : ∃ x, x = 4294967296 * r := ⟨_, rfl⟩
          obtain ⟨p3, hp3⟩ : ∃ x, x = 4294967296 * r + d0 := ⟨_, rfl⟩
          have y1 : IntKind.u64.wrap ((q : Int) * (v0 : Int)) = (p1 : Int) := wu_mul (by rw [hp1, Nat.mod_eq_of_lt (kn_small hK.out.2.2 HV0.out)])
          have y2 : IntKind.u64.wrap (4294967296 * (r : Int)) = (p2 : Int) := wu_mul (a := 4294967296) (by rw [hp2, Nat.mod_eq_of_lt]; have := hr.out; omega)
          have y3 : IntKind.u64.wrap ((p2 : Int) + (d0 : Int)) = (p3 : Int) := wu_add (by rw [hp3, hp2, Nat.mod_eq_of_lt]; have := hr.out; have := HD0.out; omega)
          have f3 : decide (4294967296 ≤ q) = false := decide_eq_false hbig
          have f4 : decide ((4294967296 : Int) ≤ (q : Int)) = false := decide_eq_false (by omega)
          by_cases hp : 4294967296 * r + d0 < q * v0
          · have f5 : decide (p3 < p1) = true := decide_eq_true (by rw [hp1, hp3]; exact hp)
            have f6 : decide ((p3 : Int) < (p1 : Int)) = true := decide_eq_true (by rw [hp1, hp3]; exact_mod_cast hp)
            clear hp1 hp2 hp3 hbig
            obtain ⟨k1, K', k3⟩ := kn_more HV1.out HUB.out HD0.out hK.out (.inr hp)
            obtain ⟨q', hq'⟩ : ∃ x, x = q - 1 := ⟨_, rfl⟩
            obtain ⟨r', hr'⟩ : ∃ x, x = r + v1 := ⟨_, rfl⟩
            rw [← hq', ← hr'] at K'
            rw [← hq'] at k3
            have z1 : IntKind.u64.wrap ((q : Int) - 1) = (q' : Int) := wu_sub (b := 1) (by omega) (by have := hK.out.2.2; omega)
            have z2 : IntKind.u64.wrap ((r : Int) + (v1 : Int)) = (r' : Int) := wu_add (by have := hr.out; have := HVL.out; omega)
            have HK' := hide K'
            have HQQ := hide (show q' < q by omega)
            by_cases hb : 4294967296 ≤ r'
            · have hQ : q' = Q0 := by rw [kn_break HV1.out HV0.out K' k3 hb, HQ0.out, HYY.out]
              have f1 : decide (4294967296 ≤ r') = true := decide_eq_true hb
              have f2 : decide ((4294967296 : Int) ≤ (r' : Int)) = true := decide_eq_true (by omega)
              clear hq' hr' K' k3 k1 hb HK' HQQ
              subst hQ
              go_wp2_with fail
              go_meet
              exact ⟨rfl, rfl⟩
            · have f1 : decide (4294967296 ≤ r') = false := decide_eq_false hb
              have f2 : decide ((4294967296 : Int) ≤ (r' : Int)) = false := decide_eq_false (by omega)
              have HR' := hide (show r' < 4294967296 by omega)
              clear hq' hr' K' k3 k1 hb
              go_wp2_with fail
              go_roundg q'
              case measure => rw [HG.out]; exact HQQ.out
              case rel => exact ⟨q', r', rfl, rfl, rfl, HK', HR', rfl⟩
          · have f5 : decide (p3 < p1) = false := decide_eq_false (by rw [hp1, hp3]; exact hp)
            have f6 : decide ((p3 : Int) < (p1 : Int)) = false := decide_eq_false (by rw [hp1, hp3]; exact_mod_cast hp)
            have hQ : q = Q0 := by rw [kn_le HV1.out hK.out (by omega), HQ0.out, HYY.out]
            clear hp1 hp2 hp3 hbig hp HG
            subst hQ
            go_wp2_with fail
            go_meet
            exact ⟨rfl, rfl⟩
    case rest =>
      obtain ⟨rfl, rfl⟩ := hcut
      go_wp2_with fail
      go_ret2
      exact ⟨rfl, rfl⟩
theorem bl_spec : ∀ (n y : Nat), y ≤ n → 0 < y → y < 18446744073709551616 → 1 ≤ Lib.bitLen y ∧ 2 ^ (Lib.bitLen y - 1) ≤ y ∧ y < 2 ^ Lib.bitLen y := by
  intro n
  induction n with
  | zero => intro y h1 h2 _; omega
  | succ n ih =>
    intro y h1 h2 h3
    have hb := Lib.bitLen_half y (by omega) (by omega)
    by_cases h : y = 1
    · subst h
      decide
    · obtain ⟨i1, i2, i3⟩ := ih (y / 2) (by omega) (by omega) (by omega)
      rw [hb]
      generalize Lib.bitLen (y / 2) = b at *
      obtain ⟨c, rfl⟩ : ∃ c, b = c + 1 := ⟨b - 1, by omega⟩
      have e1 : 2 ^ (1 + (c + 1) - 1) = 2 ^ c * 2 := by rw [show 1 + (c + 1) - 1 = c + 1 by omega, Nat.pow_succ]
      have e2 : 2 ^ (1 + (c + 1)) = 2 ^ (c + 1) * 2 := by rw [Nat.add_comm, Nat.pow_succ]
      rw [Nat.add_sub_cancel] at i2
      refine ⟨by omega, ?_, ?_⟩
      · rw [e1]; omega
      · rw [e2]; omega
theorem bl_64 {y : Nat} (hy : y < 18446744073709551616) : Lib.bitLen y ≤ 64 := Lib.bitLen_le y 64 (by omega) (by omega)
theorem lz_any (y : Nat) (hy : y < 18446744073709551616) (w : World) : Calls Tryd.prog 30 #[.int .u64 y] w fun e w' => e = .returned (.int .i64 ((64 - Lib.bitLen y : Nat) : Int)) ∧ w = w' := by
  have h := Tryd.bits_LeadingZeros64 (y : Int) w (by omega) (by omega)
  have h2 := bl_64 hy
  refine h.mono fun e w' ⟨h1, h3⟩ => ⟨?_, h3.symm⟩
  rw [h1]
  refine ret_i ?_
  rw [Int.toNat_natCast]
  omega
set_option maxHeartbeats 1000000 in
theorem div64_zero (lo y : Nat) (hy0 : 0 < y) (hlo : lo < 18446744073709551616) (w : World) : Calls Tryd.prog 29 #[.int .u64 0, .int .u64 lo, .int .u64 y] w fun e w' => e = .returned (.tuple #[.int .u64 (lo / y : Nat), .int .u64 (lo % y : Nat)]) ∧ Below w.heap.size w w' := by
  have hq : lo / y < 18446744073709551616 := Nat.lt_of_le_of_lt (Nat.div_le_self _ _) hlo
  obtain ⟨q, hqe⟩ : ∃ q, q = lo / y := ⟨_, rfl⟩
  obtain ⟨r, hre⟩ : ∃ r, r = lo % y := ⟨_, rfl⟩
  rw [← hqe] at hq ⊢
  rw [← hre]
  have r1 : (lo : Int) / (y : Int) = (q : Int) := by rw [hqe]; rfl
  have r2 : IntKind.u64.wrap (q : Int) = (q : Int) := wu hq
  have r3 : (lo : Int) % (y : Int) = (r : Int) := by rw [hre]; rfl
  have e0 : ((y : Int) == 0) = false := by rw [beq_eq_false_iff_ne]; omega
  have e1 : ¬ (y : Int) = 0 := by omega
  have e2 : ¬ y = 0 := by omega
  have e3 : decide ((y : Int) ≤ 0) = false := decide_eq_false (by omega)
  have e4 : decide (y ≤ 0) = false := decide_eq_false (by omega)
  have R3 := hide r3
  clear hq hqe hre hlo hy0 r3
  go_enter Tryd.func29, Tryd.ntmps29
  go_wp2_with fail
  go_quiet (fail)
  go_wp2_with fail
  go_ret2
  exact ⟨ret_ii rfl R3.out, below_drewN (Below.refl _ _) _⟩
theorem div64_any (hi lo y : Nat) (h : hi < y) (hlo : lo < 18446744073709551616) (hy : y < 18446744073709551616) (w : World) :
    Calls Tryd.prog 29 #[.int .u64 hi, .int .u64 lo, .int .u64 y] w fun e w' => e = .returned (.tuple #[.int .u64 ((hi * 18446744073709551616 + lo) / y : Nat), .int .u64 ((hi * 18446744073709551616 + lo) % y : Nat)]) ∧ Below w.heap.size w w' := by
  by_cases h0 : hi = 0
  · subst h0
    rw [Nat.zero_mul, Nat.zero_add]
    exact div64_zero lo y h hlo w
  · obtain ⟨b1, b2, b3⟩ := bl_spec y y (Nat.le_refl _) (by omega) hy
    have b4 := bl_64 hy
    obtain ⟨s, hs⟩ : ∃ s, s = 64 - Lib.bitLen y := ⟨_, rfl⟩
    obtain ⟨j, hj⟩ : ∃ j, j = 64 - s := ⟨_, rfl⟩
    have hbl : Lib.bitLen y = j := by omega
    have hsj : s + j = 64 := by omega
    rw [hbl] at b1 b2 b3
    have h64 : (18446744073709551616 : Nat) = 2 ^ j * 2 ^ s := by rw [← Nat.pow_add, Nat.add_comm, hsj]
    have h63 : (9223372036854775808 : Nat) = 2 ^ (j - 1) * 2 ^ s := by rw [← Nat.pow_add, show j - 1 + s = 63 by omega]
    have hyy1 : 9223372036854775808 ≤ y * 2 ^ s := by rw [h63]; exact Nat.mul_le_mul_right _ b2
    have hyy2 : y * 2 ^ s < 18446744073709551616 := by rw [h64]; exact Nat.mul_lt_mul_of_pos_right b3 (Nat.two_pow_pos s)
    have hhi : hi * 2 ^ s < 18446744073709551616 := Nat.lt_of_le_of_lt (Nat.mul_le_mul_right _ (by omega)) hyy2
    have hsh := kn_shift (hi := hi) hsj hlo
    have hor := kn_or (hi := hi) hsj hlo hhi
    have hUlt : hi * 2 ^ s + lo / 2 ^ j < y * 2 ^ s := by
      have h1 : (hi * 18446744073709551616 + lo) * 2 ^ s < y * 18446744073709551616 * 2 ^ s := Nat.mul_lt_mul_of_pos_right (by omega) (Nat.two_pow_pos s)
      rw [hsh, Nat.mul_right_comm y] at h1
      omega
    have hu10 : lo * 2 ^ s % 18446744073709551616 < 18446744073709551616 := Nat.mod_lt _ (by omega)
    have hdl : lo / 2 ^ j < 18446744073709551616 := Nat.lt_of_le_of_lt (Nat.div_le_self _ _) hlo
    have hpow : ((2 : Int) ^ s) = ((2 ^ s : Nat) : Int) := by rw [Int.natCast_pow]; rfl
    have hpow2 : ((2 : Int) ^ j) = ((2 ^ j : Nat) : Int) := by rw [Int.natCast_pow]; rfl
    have key := kn_both (hi := hi) (lo := lo) (y := y) (s := s) (by omega) (U := hi * 2 ^ s + lo / 2 ^ j) (u10 := lo * 2 ^ s % 18446744073709551616) (d1 := lo * 2 ^ s % 18446744073709551616 / 4294967296) (d0 := lo * 2 ^ s % 18446744073709551616 % 4294967296) (Y := y * 2 ^ s) (R1 := ((hi * 2 ^ s + lo / 2 ^ j) * 4294967296 + lo * 2 ^ s % 18446744073709551616 / 4294967296) % (y * 2 ^ s)) hsh (by omega) rfl rfl
    have hlz := lz_any y hy
    rw [← hs] at hlz
    refine (div64_g hi lo y s j (y * 2 ^ s) (y * 2 ^ s / 4294967296) (y * 2 ^ s % 4294967296) (hi * 2 ^ s) (lo / 2 ^ j) (hi * 2 ^ s + lo / 2 ^ j) (lo * 2 ^ s % 18446744073709551616) (lo * 2 ^ s % 18446744073709551616 / 4294967296) (lo * 2 ^ s % 18446744073709551616 % 4294967296) w (hide hlz) (by omega) h (by omega) (by omega)
      (by rw [hpow]; exact wu_mul (Nat.mod_eq_of_lt hyy2).symm) rfl (by rw [show (4294967295 : Int) = ((4294967295 : Nat) : Int) from rfl, bits_and_u64_nat _ _ hyy2 (by omega), show (4294967295 : Nat) = 2 ^ 32 - 1 by decide, Nat.and_two_pow_sub_one_eq_mod])
      (by rw [hpow]; exact wu_mul (Nat.mod_eq_of_lt hhi).symm) (by omega) (by omega) (by rw [hpow2]; rfl)
      (by rw [bits_or_u64_nat _ _ hhi hdl, hor]) (by rw [hpow]; exact wu_mul rfl) rfl (by rw [show (4294967295 : Int) = ((4294967295 : Nat) : Int) from rfl, bits_and_u64_nat _ _ hu10 (by omega), show (4294967295 : Nat) = 2 ^ 32 - 1 by decide, Nat.and_two_pow_sub_one_eq_mod])
      (by omega) (by omega) (by omega) hyy2 hUlt (by omega) (by omega)).mono ?_
    rintro e w' ⟨he, rfl⟩
    refine ⟨?_, Below.refl _ _⟩
    rw [he, key.1, key.2]
theorem rem_scale (hi lo y : Nat) : (hi % y * 18446744073709551616 + lo) % y = (hi * 18446744073709551616 + lo) % y := by
  rw [Nat.add_mod, Nat.mul_mod, Nat.mod_mod, ← Nat.mul_mod, ← Nat.add_mod]
set_option maxHeartbeats 400000 in
theorem rem64_any (hi lo y : Nat) (hy0 : 0 < y) (hlo : lo < 18446744073709551616) (hy : y < 18446744073709551616) (w : World) :
    Calls Tryd.prog 27 #[.int .u64 hi, .int .u64 lo, .int .u64 y] w fun e w' => e = .returned (.int .u64 ((hi * 18446744073709551616 + lo) % y : Nat)) ∧ Below w.heap.size w w' := by
  have H := hide (div64_any (hi % y) lo y (Nat.mod_lt _ hy0) hlo hy)
  rw [rem_scale] at H
  generalize (hi * 18446744073709551616 + lo) % y = r at *
  generalize (hi % y * 18446744073709551616 + lo) / y = q at *
  obtain ⟨m, hm⟩ : ∃ m, m = hi % y := ⟨_, rfl⟩
  rw [← hm] at H
  have r3 : (hi : Int) % (y : Int) = (m : Int) := by rw [hm]; rfl
  have e0 : ((y : Int) == 0) = false := by rw [beq_eq_false_iff_ne]; omega
  have e1 : ¬ (y : Int) = 0 := by omega
  have e2 : ¬ y = 0 := by omega
  clear hm hlo hy hy0
  go_enter Tryd.func27, Tryd.ntmps27
  go_wp2_with fail
  refine (H.out _).mono ?_
  rintro e w1 ⟨rfl, hb⟩
  go_wp2_with fail
  go_ret
  exact ⟨rfl, hb⟩
end Go.Proofs.YtppmkoglpfdjnaaDoor
