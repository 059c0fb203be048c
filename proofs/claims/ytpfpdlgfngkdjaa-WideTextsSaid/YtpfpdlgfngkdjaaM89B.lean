/-
  Walk of mers89.Fold. Conditions: numbers fit 256 bits.
-/
import Derived.Test.YtpfpdlgfngkdjaaM89A
import Derived.Test.YtpfpdlgfngkdjaaOdd
import Derived.Test.YtpfpdlgfngkdjaaMersM
namespace Go.Proofs.Ytpfpdlgfngkdjaa
open Go.RowKit Go.Shelf
set_option linter.unusedVariables false

theorem mask25 (z : Nat) (hz : z < 18446744073709551616) : bits .and .u64 (z : Int) 33554431 = ((z % 33554432 : Nat) : Int) := by
  rw [show (33554431 : Int) = ((33554431 : Nat) : Int) from rfl, bits_and_u64_nat _ _ hz (by omega)]
  congr 1
  exact Nat.and_two_pow_sub_one_eq_mod z 25
theorem or25 (y z j : Nat) (hy : y < 18446744073709551616) (m : Int) (hm : m = ((2 ^ j : Nat) : Int)) (hj : 25 ≤ j) (hj2 : j ≤ 64) : ∃ zh : Nat, bits .or .u64 (y : Int) (IntKind.u64.wrap ((z : Int) * m)) = (zh : Int) ∧ zh < 18446744073709551616 ∧ zh % 33554432 = y % 33554432 := by
  subst hm
  refine ⟨y ||| (z * 2 ^ j % 18446744073709551616), ?_, ?_, ?_⟩
  · rw [wu_mul (a := z) (b := 2 ^ j) rfl, bits_or_u64_nat _ _ hy (Nat.mod_lt _ (by omega))]
  · exact Nat.or_lt_two_pow (n := 64) hy (Nat.mod_lt _ (by omega))
  · have e : (33554432 : Nat) = 2 ^ 25 := rfl
    rw [e, Nat.or_mod_two_pow]
    have h0 : z * 2 ^ j % 18446744073709551616 % 2 ^ 25 = 0 := by
      rw [Nat.mod_mod_of_dvd _ (by decide)]
      refine Nat.mod_eq_zero_of_dvd (Nat.dvd_mul_left_of_dvd (Nat.pow_dvd_pow 2 hj) _)
    rw [h0, Nat.or_zero]
theorem or_none (y : Nat) (hy : y < 18446744073709551616) : bits .or .u64 (y : Int) (IntKind.u64.wrap (((0 : Nat) : Int) * 16384)) = (y : Int) := by
  rw [show (((0 : Nat) : Int) * 16384) = ((0 : Nat) : Int) by omega, wu (n := 0) (by omega), bits_or_u64_nat _ _ hy (by omega), Nat.or_zero]
theorem cut89 (Z : Nat) : lo64 (Z % 618970019642690137449562112) = lo64 Z ∧ hi64 (Z % 618970019642690137449562112) = hi64 Z % 33554432 := by
  unfold lo64 hi64
  omega

theorem pw_split (X i s : Nat) : X / 2 ^ (64 * i + s) = X / 18446744073709551616 ^ i / 2 ^ s := by
  rw [Nat.pow_add, pow64, Nat.div_div_eq_div_mul]
theorem two_words (X i : Nat) : X / 18446744073709551616 ^ i = val2 (wd X (i + 1)) (wd X i) + 340282366920938463463374607431768211456 * (X / 18446744073709551616 ^ (i + 2)) := by
  unfold wd val2
  have e1 : X / 18446744073709551616 ^ (i + 1) = X / 18446744073709551616 ^ i / 18446744073709551616 := by rw [Nat.pow_succ, Nat.div_div_eq_div_mul]
  have e2 : X / 18446744073709551616 ^ (i + 2) = X / 18446744073709551616 ^ i / 18446744073709551616 / 18446744073709551616 := by rw [Nat.pow_succ, Nat.pow_succ, Nat.div_div_eq_div_mul, Nat.div_div_eq_div_mul, Nat.mul_assoc]
  rw [e1, e2]
  generalize X / 18446744073709551616 ^ i = Y
  omega
theorem far_cut (V R s : Nat) (hs : s ≤ 39) : (V + 340282366920938463463374607431768211456 * R) / 2 ^ s % 618970019642690137449562112 = V / 2 ^ s % 618970019642690137449562112 := by
  have e : (340282366920938463463374607431768211456 : Nat) = 2 ^ s * (618970019642690137449562112 * 2 ^ (39 - s)) := by
    rw [show (618970019642690137449562112 : Nat) = 2 ^ 89 by decide, ← Nat.pow_add, ← Nat.pow_add, show s + (89 + (39 - s)) = 128 by omega]
  rw [e, Nat.mul_assoc, Nat.add_mul_div_left _ _ (Nat.two_pow_pos s), Nat.mul_assoc, Nat.add_mul_mod_self_left]
theorem shr_val (h l : Nat) (hh : h < 18446744073709551616) (hl : l < 18446744073709551616) (s : Int) (j : Nat) (hs : s = (j : Int)) (hj : j ≤ 64) (w : World) : Calls Try.prog 38 #[.agg #[.int .u64 h, .int .u64 l], .int .i64 s] w (Ret128 w (val2 h l / 2 ^ j)) := by
  have H := shr_i (val2 h l) s (by omega) w
  rw [hi64_val hh hl, lo64_val hl, m128_id (val2_lt hh hl), show s.toNat = j by omega] at H
  exact H
set_option maxHeartbeats 1000000 in
theorem part_u (X k bx bp : Nat) (hX : X < 2 ^ 256) (hk : k = 0 ∨ k = 89 ∨ k = 178) (w : World) (X1 : Box4 w bx (.int .u64 (wd X 0 : Nat)) (.int .u64 (wd X 1 : Nat)) (.int .u64 (wd X 2 : Nat)) (.int .u64 (wd X 3 : Nat))) (P1 : Box2 w bp (.int .u64 33554431) (.int .u64 18446744073709551615)) :
    Calls Try.prog 35 #[.int .i64 k, .pointer (some ⟨bx, 0, none⟩), .pointer (some ⟨bp, 0, none⟩)] w (Ret128 w (X / 2 ^ k % 618970019642690137449562112)) := by
  rcases hk with rfl | rfl | rfl
  · have e : X / 2 ^ 0 % 618970019642690137449562112 = val2 (wd X 1) (wd X 0) / 2 ^ 0 % 618970019642690137449562112 := by
      have h := pw_split X 0 0
      rw [show 64 * 0 + 0 = 0 from rfl] at h
      rw [h, two_words X 0, far_cut _ _ 0 (by omega)]
    rw [e]
    obtain ⟨c1, c2⟩ := cut89 (val2 (wd X 1) (wd X 0) / 2 ^ 0)
    have h := part_g0 _ _ _ _ bx bp _ _ 0 (wd X 2) _ (mask25 (hi64 (val2 (wd X 1) (wd X 0) / 2 ^ 0)) (hi64_lt _)) w (next_2 (wd X 0) (wd X 1) (wd X 2) (wd X 3)) (shr_val (wd X 1) (wd X 0) (wd_lt _ _) (wd_lt _ _) 0 0 rfl (by omega)) X1 P1
    unfold Ret128
    rw [c1, c2]
    exact h
  · have e : X / 2 ^ 89 % 618970019642690137449562112 = val2 (wd X 2) (wd X 1) / 2 ^ 25 % 618970019642690137449562112 := by
      have h := pw_split X 1 25
      rw [show 64 * 1 + 25 = 89 from rfl] at h
      rw [h, two_words X 1, far_cut _ _ 25 (by omega)]
    rw [e]
    obtain ⟨c1, c2⟩ := cut89 (val2 (wd X 2) (wd X 1) / 2 ^ 25)
    obtain ⟨zh, hz, hz2, hz3⟩ := or25 (hi64 (val2 (wd X 2) (wd X 1) / 2 ^ 25)) (wd X 3) 39 (hi64_lt _) 549755813888 rfl (by omega) (by omega)
    have h := part_g89 _ _ _ _ bx bp _ _ zh (wd X 3) _ hz (mask25 zh hz2) w (next_3 (wd X 0) (wd X 1) (wd X 2) (wd X 3)) (shr_val (wd X 2) (wd X 1) (wd_lt _ _) (wd_lt _ _) 25 25 rfl (by omega)) X1 P1
    unfold Ret128
    rw [c1, c2, ← hz3]
    exact h
  · have e : X / 2 ^ 178 % 618970019642690137449562112 = val2 (wd X 3) (wd X 2) / 2 ^ 50 % 618970019642690137449562112 := by
      have h := pw_split X 2 50
      rw [show 64 * 2 + 50 = 178 from rfl] at h
      have h0 : X / 18446744073709551616 ^ (2 + 2) = 0 := Nat.div_eq_of_lt (by rw [← pow64]; exact hX)
      rw [h, two_words X 2, h0, Nat.mul_zero, Nat.add_zero]
    rw [e]
    obtain ⟨c1, c2⟩ := cut89 (val2 (wd X 3) (wd X 2) / 2 ^ 50)
    have hz := or_none (hi64 (val2 (wd X 3) (wd X 2) / 2 ^ 50)) (hi64_lt _)
    have h := part_g178 _ _ _ _ bx bp _ _ _ 0 _ hz (mask25 _ (hi64_lt _)) w (next_4 (wd X 0) (wd X 1) (wd X 2) (wd X 3)) (shr_val (wd X 3) (wd X 2) (wd_lt _ _) (wd_lt _ _) 50 50 rfl (by omega)) X1 P1
    unfold Ret128
    rw [c1, c2]
    exact h
set_option maxRecDepth 100000 in
set_option maxHeartbeats 4000000 in
theorem fold_g (f0 f1 f2 f3 P T : Nat) (pt sm : Nat → Nat) (hs0 : sm 0 = 0) (hlt : sm 267 < 340282366920938463463374607431768211456) (hP0 : 0 < P) (hT : sm 267 % P = T) (w : World)
    (H1 : ∀ W bx bp (k : Nat), (k = 0 ∨ k = 89 ∨ k = 178) → Box4 W bx (.int .u64 f0) (.int .u64 f1) (.int .u64 f2) (.int .u64 f3) → Box2 W bp (.int .u64 33554431) (.int .u64 18446744073709551615) → Calls Try.prog 35 #[.int .i64 k, .pointer (some ⟨bx, 0, none⟩), .pointer (some ⟨bp, 0, none⟩)] W fun e w' => e = .returned (.agg #[.int .u64 (hi64 (pt k) : Nat), .int .u64 (lo64 (pt k) : Nat)]) ∧ Below W.heap.size W w')
    (H2 : ∀ W (k : Nat), (k = 0 ∨ k = 89 ∨ k = 178) → Calls Try.prog 39 #[.agg #[.int .u64 (hi64 (sm k) : Nat), .int .u64 (lo64 (sm k) : Nat)], .agg #[.int .u64 (hi64 (pt k) : Nat), .int .u64 (lo64 (pt k) : Nat)]] W fun e w' => ∃ c : Bool, e = .returned (.tuple #[.agg #[.int .u64 (hi64 (sm (k + 89)) : Nat), .int .u64 (lo64 (sm (k + 89)) : Nat)], .bool c]) ∧ Below W.heap.size W w')
    (H3 : ∀ W (y : Nat), y < 340282366920938463463374607431768211456 → Calls Try.prog 18 #[.agg #[.int .u64 (hi64 (y) : Nat), .int .u64 (lo64 (y) : Nat)]] W fun e w' => e = .returned (.bool (decide (y < P))) ∧ Below W.heap.size W w')
    (H4 : ∀ W (y : Nat), y < 340282366920938463463374607431768211456 → P ≤ y → Calls Try.prog 40 #[.agg #[.int .u64 (hi64 (y) : Nat), .int .u64 (lo64 (y) : Nat)], .agg #[.int .u64 33554431, .int .u64 18446744073709551615]] W fun e w' => ∃ c : Bool, e = .returned (.tuple #[.agg #[.int .u64 (hi64 (y - P) : Nat), .int .u64 (lo64 (y - P) : Nat)], .bool c]) ∧ Below W.heap.size W w') :
    Calls Try.prog 16 #[.agg #[.int .u64 f0, .int .u64 f1, .int .u64 f2, .int .u64 f3]] w fun e w' => e = .returned (.agg #[.int .u64 (hi64 (T) : Nat), .int .u64 (lo64 (T) : Nat)]) ∧ Below w.heap.size w w' := by
  replace H1 := hide H1
  replace H2 := hide H2
  replace H3 := hide H3
  replace H4 := hide H4
  replace hlt := hide hlt
  replace hT := hide hT
  replace hP0 := hide hP0
  replace hs0 := hide hs0
  go_enter Try.func16, Try.ntmps16
  go_wp2_with fail
  refine (mp_any _).mono ?_
  rintro e w1 ⟨rfl, hb⟩
  have X1 := Box4.call hb (show Box4 _ w.heap.size (.int .u64 f0) (.int .u64 f1) (.int .u64 f2) (.int .u64 f3) from (by (refine ⟨?_, ?_, ?_, ?_, ?_, ?_, ?_, ?_, ?_⟩ <;> simp [go_sem] <;> omega)))
  have R1 := Box2.call hb (show Box2 _ (w.heap.size + 1) (.int .u64 0) (.int .u64 0) from (by (refine ⟨?_, ?_, ?_, ?_, ?_⟩ <;> simp [go_sem] <;> omega)))
  have B : Below w.heap.size w w1 := below_call (by (repeat (first | exact Below.refl _ _ | assumption | (refine Below.alloc ?_ (by first | omega | (simp; done) | (simp; omega)) _) | (refine Below.setCell ?_ (by first | omega | (simp; done) | (simp; omega)) _) | refine Below.drew ?_ | refine below_drewN ?_ _))) (Nat.le_refl _) hb
  clear hb
  have bz := B.size
  have zr := R1.2.2.2.2
  go_wp2_with fail
  have P1 : Box2 ((w1.alloc (.cells #[.int .u64 33554431, .int .u64 18446744073709551615] 38)).alloc (.cells #[.int .u64 0, .int .u64 0] 38)) w1.heap.size (.int .u64 33554431) (.int .u64 18446744073709551615) := (by (refine ⟨?_, ?_, ?_, ?_, ?_⟩ <;> simp [go_sem] <;> omega))
  have S1 : BoxU ((w1.alloc (.cells #[.int .u64 33554431, .int .u64 18446744073709551615] 38)).alloc (.cells #[.int .u64 0, .int .u64 0] 38)) (w1.heap.size + 1) 0 := (show Box2 _ _ (.int .u64 0) (.int .u64 0) from (by (refine ⟨?_, ?_, ?_, ?_, ?_⟩ <;> simp [go_sem] <;> omega)))
  replace X1 := Box4.alloc (.cells #[.int .u64 0, .int .u64 0] 38) (Box4.alloc (.cells #[.int .u64 33554431, .int .u64 18446744073709551615] 38) X1)
  replace R1 := Box2.alloc (.cells #[.int .u64 0, .int .u64 0] 38) (Box2.alloc (.cells #[.int .u64 33554431, .int .u64 18446744073709551615] 38) R1)
  replace B := Below.alloc (Below.alloc B bz (.cells #[.int .u64 33554431, .int .u64 18446744073709551615] 38)) (by simp; omega) (.cells #[.int .u64 0, .int .u64 0] 38)
  generalize (w1.alloc (.cells #[.int .u64 33554431, .int .u64 18446744073709551615] 38)).alloc (.cells #[.int .u64 0, .int .u64 0] 38) = W at *
  obtain ⟨n5, hn5⟩ : ∃ n5, n5 = w1.heap.size + 1 := ⟨_, rfl⟩
  rw [← hn5] at S1 ⊢
  have k1 : ¬ n5 = w1.heap.size := by omega
  have k2 : ¬ n5 = w.heap.size := by omega
  have k3 : ¬ n5 = w.heap.size + 1 := by omega
  have k4 : w.heap.size ≤ n5 := by omega
  clear hn5 bz zr
  generalize w1.heap.size = n3 at *
  have hS : BoxU W n5 (sm 0) := by rw [hs0.out]; exact S1
  go_loopg [6] 3 (fun g i wr => g ≤ 3 ∧ i = .int .i64 ((89 * (3 - g) : Nat) : Int) ∧ Box4 wr w.heap.size (.int .u64 f0) (.int .u64 f1) (.int .u64 f2) (.int .u64 f3) ∧ Box2 wr n3 (.int .u64 33554431) (.int .u64 18446744073709551615) ∧ Box2 wr (w.heap.size + 1) (.int .u64 0) (.int .u64 0) ∧ BoxU wr n5 (sm (89 * (3 - g))) ∧ Below w.heap.size w wr)
  case atStart => exact ⟨by omega, rfl, X1, P1, R1, hS, B⟩
  case round =>
    clear hS S1 X1 R1 P1 B
    obtain ⟨hg, rfl, X1, P1, R1, S1, B⟩ := hrel
    have bz := B.size
    obtain ⟨k, hk⟩ : ∃ k, k = 89 * (3 - gk) := ⟨_, rfl⟩
    rw [← hk] at S1 ⊢
    by_cases h0 : 0 < gk
    · have t1 : (k : Int) < 256 := by omega
      have t2 : (0 : Int) ≤ (k : Int) := by omega
      have hkk : k = 0 ∨ k = 89 ∨ k = 178 := by omega
      have HK := hide (show k + 89 = 89 * (3 - (gk - 1)) by omega)
      have HH := hide hkk
      have C1 := hide (fun W (a : Box4 W w.heap.size (.int .u64 f0) (.int .u64 f1) (.int .u64 f2) (.int .u64 f3)) (b : Box2 W n3 (.int .u64 33554431) (.int .u64 18446744073709551615)) => H1.out W _ _ k HH.out a b)
      have C2 := hide (fun W => H2.out W k HH.out)
      have HG := hide h0
      clear hk h0 hkk
      go_wp2_with fail
      go_region_with (first | (go_at_call 35; (with_reducible refine (C1.out _ (by first | exact X1 | exact Box4.drew X1) (by first | exact P1 | exact Box2.drew P1)).mono ?_); rintro e w2 ⟨rfl, hb⟩; replace X1 := Box4.call hb (by first | exact X1 | exact Box4.alloc _ X1 | exact Box4.alloc _ (Box4.alloc _ X1)); replace P1 := Box2.call hb (by first | exact P1 | exact Box2.alloc _ P1 | exact Box2.alloc _ (Box2.alloc _ P1)); replace R1 := Box2.call hb (by first | exact R1 | exact Box2.alloc _ R1 | exact Box2.alloc _ (Box2.alloc _ R1)); replace S1 := Box2.call hb (by first | exact S1 | exact Box2.alloc _ S1 | exact Box2.alloc _ (Box2.alloc _ S1)); replace B : Below w.heap.size w w2 := below_call (by (repeat (first | exact Below.refl _ _ | assumption | (refine Below.alloc ?_ (by first | omega | (simp; done) | (simp; omega)) _) | (refine Below.setCell ?_ (by first | omega | (simp; done) | (simp; omega)) _) | refine Below.drew ?_ | refine below_drewN ?_ _))) (Nat.le_refl _) hb; clear hb) | (go_at_call 39; (with_reducible refine (C2.out _).mono ?_); rintro e w3 ⟨c, rfl, hb⟩; replace X1 := Box4.call hb (by first | exact X1 | exact Box4.alloc _ X1 | exact Box4.alloc _ (Box4.alloc _ X1)); replace P1 := Box2.call hb (by first | exact P1 | exact Box2.alloc _ P1 | exact Box2.alloc _ (Box2.alloc _ P1)); replace R1 := Box2.call hb (by first | exact R1 | exact Box2.alloc _ R1 | exact Box2.alloc _ (Box2.alloc _ R1)); replace S1 := Box2.call hb (by first | exact S1 | exact Box2.alloc _ S1 | exact Box2.alloc _ (Box2.alloc _ S1)); replace B : Below w.heap.size w w3 := below_call (by (repeat (first | exact Below.refl _ _ | assumption | (refine Below.alloc ?_ (by first | omega | (simp; done) | (simp; omega)) _) | (refine Below.setCell ?_ (by first | omega | (simp; done) | (simp; omega)) _) | refine Below.drew ?_ | refine below_drewN ?_ _))) (Nat.le_refl _) hb; clear hb))
      all_goals
        have bz := B.size
        have S2 := Box2.put (.int .u64 (hi64 (sm (k + 89)) : Nat)) (.int .u64 (lo64 (sm (k + 89)) : Nat)) S1
        replace X1 := Box4.far2 (u0 := .int .u64 (hi64 (sm (k + 89)) : Nat)) (u1 := .int .u64 (lo64 (sm (k + 89)) : Nat)) X1 k2
        replace P1 := Box2.far2 (u0 := .int .u64 (hi64 (sm (k + 89)) : Nat)) (u1 := .int .u64 (lo64 (sm (k + 89)) : Nat)) P1 k1
        replace R1 := Box2.far2 (u0 := .int .u64 (hi64 (sm (k + 89)) : Nat)) (u1 := .int .u64 (lo64 (sm (k + 89)) : Nat)) R1 k3
        go_wp2_with fail
        go_roundg (gk - 1)
        case measure => have := HG.out; omega
        case rel =>
          have e1 := HK.out
          refine ⟨by omega, by rw [← e1]; go_num, X1, P1, R1, ?_, by (repeat (first | exact Below.refl _ _ | assumption | (refine Below.alloc ?_ (by first | omega | (simp; done) | (simp; omega)) _) | (refine Below.setCell ?_ (by first | omega | (simp; done) | (simp; omega)) _) | refine Below.drew ?_ | refine below_drewN ?_ _))⟩
          rw [← e1]
          exact S2
    · have hk3 : k = 267 := by omega
      subst hk3
      clear hk hg h0
      go_wp2_with fail
      have HL := hlt
      obtain ⟨y0, hy0⟩ : ∃ y0, y0 = sm 267 := ⟨_, rfl⟩
      have hT2 := hT.out
      have hl2 := hlt.out
      rw [← hy0] at hT2 hl2 S1
      have hT3 := hide hT2
      have hl3 := hide hl2
      clear hT2 hl2 hy0 X1
      obtain ⟨wo, hwo⟩ : ∃ wo : World, wo = wr := ⟨_, rfl⟩
      subst hwo
      go_loopg [] y0 (fun y wr => BoxU wr n5 y ∧ y < 340282366920938463463374607431768211456 ∧ Hid (y % P = T) ∧ Box2 wr n3 (.int .u64 33554431) (.int .u64 18446744073709551615) ∧ Box2 wr (w.heap.size + 1) (.int .u64 0) (.int .u64 0) ∧ Below w.heap.size w wr)
      case atStart => exact ⟨S1, hl3.out, hT3, P1, R1, B⟩
      case round =>
        clear S1 P1 R1 B hl3 hT3
        obtain ⟨Y1, hy, hM, P1, R1, B⟩ := hrel
        have hyy := hide hy
        have C3 := hide (fun W => H3.out W gk hyy.out)
        by_cases hlt2 : gk < P
        · have e1 : decide (gk < P) = true := decide_eq_true hlt2
          rw [e1] at C3
          have e2 := hide (show gk = T by rw [← hM.out, Nat.mod_eq_of_lt hlt2])
          clear e1 hlt2 hy
          go_wp2_with fail
          refine (C3.out _).mono ?_
          rintro e w4 ⟨rfl, hb⟩
          replace Y1 := Box2.call hb Y1
          replace R1 := Box2.call hb R1
          replace B : Below w.heap.size w w4 := below_call B (Nat.le_refl _) hb
          clear hb
          go_wp2_with fail
          have R2 := Box2.put (.int .u64 (hi64 gk : Nat)) (.int .u64 (lo64 gk : Nat)) R1
          refine bodyPost_ret (v := .agg #[.int .u64 (hi64 (gk) : Nat), .int .u64 (lo64 (gk) : Nat)]) (by simp [results, Try.results16, go_sem, R2]) rfl ⟨by rw [e2.out], ?_⟩
          (repeat (first | exact Below.refl _ _ | assumption | (refine Below.alloc ?_ (by first | omega | (simp; done) | (simp; omega)) _) | (refine Below.setCell ?_ (by first | omega | (simp; done) | (simp; omega)) _) | refine Below.drew ?_ | refine below_drewN ?_ _))
        · have e1 : decide (gk < P) = false := decide_eq_false hlt2
          rw [e1] at C3
          have C4 := hide (fun W => H4.out W gk hyy.out (by omega))
          have hMs := hide (show (gk - P) % P = T by rw [← hM.out, Nat.mod_eq_sub_mod (show P ≤ gk by omega)])
          have hle := hide (show gk - P < gk by have := hP0.out; omega)
          have hlz := hide (show gk - P < 340282366920938463463374607431768211456 by omega)
          clear e1 hlt2 hy hM
          go_wp2_with fail
          refine (C3.out _).mono ?_
          rintro e w4 ⟨rfl, hb⟩
          replace Y1 := Box2.call hb Y1
          replace P1 := Box2.call hb P1
          replace R1 := Box2.call hb R1
          replace B : Below w.heap.size w w4 := below_call B (Nat.le_refl _) hb
          clear hb
          go_wp2_with fail
          refine (C4.out _).mono ?_
          rintro e w5 ⟨cb, rfl, hb⟩
          replace Y1 := Box2.call hb Y1
          replace P1 := Box2.call hb P1
          replace R1 := Box2.call hb R1
          replace B : Below w.heap.size w w5 := below_call B (Nat.le_refl _) hb
          clear hb
          have bz := B.size
          obtain ⟨y2, hy2⟩ : ∃ y2, y2 = gk - P := ⟨_, rfl⟩
          rw [← hy2] at hMs hle hlz ⊢
          clear hy2 C4
          have Y2 := Box2.put (.int .u64 (hi64 y2 : Nat)) (.int .u64 (lo64 y2 : Nat)) Y1
          replace P1 := Box2.far2 (u0 := .int .u64 (hi64 y2 : Nat)) (u1 := .int .u64 (lo64 y2 : Nat)) P1 k1
          replace R1 := Box2.far2 (u0 := .int .u64 (hi64 y2 : Nat)) (u1 := .int .u64 (lo64 y2 : Nat)) R1 k3
          go_wp2_with fail
          go_roundg y2
          case measure => exact hle.out
          case rel => exact ⟨Y2, hlz.out, hMs, P1, R1, by (repeat (first | exact Below.refl _ _ | assumption | (refine Below.alloc ?_ (by first | omega | (simp; done) | (simp; omega)) _) | (refine Below.setCell ?_ (by first | omega | (simp; done) | (simp; omega)) _) | refine Below.drew ?_ | refine below_drewN ?_ _))⟩
theorem P89_val : P89 = 618970019642690137449562111 := rfl
theorem fold_mod {X : Nat} (hX : X < 2 ^ 256) : (X / 2 ^ 0 % 618970019642690137449562112 + X / 2 ^ 89 % 618970019642690137449562112 + X / 2 ^ 178 % 618970019642690137449562112) % P89 = X % P89 := by
  have h1 : X / 2 ^ 89 = X / 618970019642690137449562112 := by rw [show (2 : Nat) ^ 89 = 618970019642690137449562112 by decide]
  have h2 : X / 2 ^ 178 = X / 618970019642690137449562112 / 618970019642690137449562112 := by rw [Nat.div_div_eq_div_mul, show (2 : Nat) ^ 178 = 618970019642690137449562112 * 618970019642690137449562112 by decide]
  have h3 : X / 618970019642690137449562112 / 618970019642690137449562112 < 618970019642690137449562112 := by
    rw [← h2]
    refine Nat.div_lt_of_lt_mul (Nat.lt_of_lt_of_le hX ?_)
    decide
  rw [h1, h2, Nat.pow_zero, Nat.div_one, Nat.mod_eq_of_lt h3]
  have h4 := Nat.div_add_mod X 618970019642690137449562112
  have h5 := Nat.div_add_mod (X / 618970019642690137449562112) 618970019642690137449562112
  generalize X / 618970019642690137449562112 / 618970019642690137449562112 = c at *
  generalize X / 618970019642690137449562112 % 618970019642690137449562112 = b at *
  generalize X / 618970019642690137449562112 = q at *
  generalize X % 618970019642690137449562112 = a at *
  have h6 : X = (a + b + c) + P89 * (b + c * 618970019642690137449562113) := by rw [P89_val]; omega
  rw [h6, Nat.add_mul_mod_self_left]
theorem wsub_p (y : Nat) (hy : y < 340282366920938463463374607431768211456) (h : P89 ≤ y) (w : World) : Calls Try.prog 40 #[.agg #[.int .u64 (hi64 (y) : Nat), .int .u64 (lo64 (y) : Nat)], .agg #[.int .u64 33554431, .int .u64 18446744073709551615]] w fun e w' => ∃ c : Bool, e = .returned (.tuple #[.agg #[.int .u64 (hi64 (y - P89) : Nat), .int .u64 (lo64 (y - P89) : Nat)], .bool c]) ∧ Below w.heap.size w w' := by
  have h1 := wsub_u y P89 w
  rw [P89_hi, P89_lo, m128_id hy, m128_id P89_lt, show dif128 y P89 = y - P89 by unfold dif128; omega] at h1
  exact h1
def ptF (X k : Nat) : Nat := X / 2 ^ k % 618970019642690137449562112
theorem ptF_lt (X k : Nat) : ptF X k < 618970019642690137449562112 := Nat.mod_lt _ (by omega)
def smF (X k : Nat) : Nat := if k < 89 then 0 else if k < 178 then ptF X 0 else if k < 267 then ptF X 0 + ptF X 89 else ptF X 0 + ptF X 89 + ptF X 178
theorem smF_next (X k : Nat) (hk : k = 0 ∨ k = 89 ∨ k = 178) : smF X (k + 89) = smF X k + ptF X k := by
  rcases hk with rfl | rfl | rfl
  · show ptF X 0 = 0 + ptF X 0; omega
  · show ptF X 0 + ptF X 89 = ptF X 0 + ptF X 89; rfl
  · show ptF X 0 + ptF X 89 + ptF X 178 = ptF X 0 + ptF X 89 + ptF X 178; rfl
theorem fold_u (X : Nat) (hX : X < 2 ^ 256) (w : World) : Calls Try.prog 16 #[.agg #[.int .u64 (wd (X) 0 : Nat), .int .u64 (wd (X) 1 : Nat), .int .u64 (wd (X) 2 : Nat), .int .u64 (wd (X) 3 : Nat)]] w (Ret128 w (X % P89)) := by
  have h0 := ptF_lt X 0
  have h1 := ptF_lt X 89
  have h2 := ptF_lt X 178
  have hs : smF X 267 = ptF X 0 + ptF X 89 + ptF X 178 := rfl
  refine fold_g _ _ _ _ P89 (X % P89) (ptF X) (smF X) rfl (by rw [hs]; omega) (by rw [P89_val]; omega) (by rw [hs]; exact fold_mod hX) w (fun W bx bp k hk a b => part_u X k bx bp hX hk W a b) ?_ ?_ (fun W y hy h => wsub_p y hy h W)
  · intro W k hk
    have h := addw_u (smF X k) (ptF X k) W
    rw [← smF_next X k hk] at h
    exact h.mono fun e w' ⟨he, hh⟩ => ⟨_, he, hh⟩
  · intro W y hy
    have h := is_u y W
    rw [m128_id hy] at h
    exact h
end Go.Proofs.Ytpfpdlgfngkdjaa
