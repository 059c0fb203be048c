/-
  Walks of the reference's rows of bits, more: Word, To2, Cmp. Conditions: the numbers fit their bits.
-/
import Derived.Test.YtpfpdlgfngkdjaaBits
namespace Go.Proofs.Ytpfpdlgfngkdjaa
open Go.RowKit
set_option linter.unusedVariables false

theorem word_step (X m k : Nat) : X / 2 ^ m % 2 ^ (k + 1) = 2 * (X / 2 ^ (m + 1) % 2 ^ k) + bt X m := by
  unfold bt
  rw [Nat.pow_succ 2 m, ← Nat.div_div_eq_div_mul, Nat.pow_succ, Nat.mul_comm (2 ^ k) 2, Nat.mod_mul]
  omega

/-- 64 bits from 'f' on. -/
def wordV (X f : Nat) : Nat := X / 2 ^ f % 18446744073709551616

set_option maxHeartbeats 400000 in
theorem word_any (A : Option Addr) (n c B X : Nat) (m : Int) (f : Nat) (hm : m = (f : Int)) (w : World) (hr : Rd w B A (is (bitsOf X n))) (hX : X < 2 ^ n) (hn : n ≤ 100000) (hf : f ≤ 100000) :
    Calls Try.prog 29 #[.slice A n c, .int .i64 m] w fun e w' => e = .returned (.int .u64 (wordV X f : Nat)) ∧ w = w' := by
  subst hm
  have HX := hide hX
  clear hX
  go_enter Try.func29, Try.ntmps29
  go_wp2
  go_loop [5, 6] (fun v i => ∃ (I : Int) (k N : Nat), I = 63 - (k : Int) ∧ k ≤ 64 ∧ i = .int .i64 I ∧ v = .int .u64 N ∧ Hid (N = X / 2 ^ (f + (64 - k)) % 2 ^ k)) (fun _ i => (intOf i + 1).toNat)
  case atStart => exact ⟨63, 0, 0, by omega, by omega, rfl, rfl, hide (by simp [Nat.mod_one])⟩
  case round =>
    obtain ⟨I, k, N, hI, hk, rfl, rfl, hH⟩ := hrel
    by_cases hlt : k < 64
    · obtain ⟨j, hj⟩ := Int.eq_ofNat_of_zero_le (show 0 ≤ I by omega)
      have hjk : j = 63 - k := by omega
      have hN : N < 2 ^ k := by rw [hH.out]; exact Nat.mod_lt _ (Nat.two_pow_pos k)
      have hN2 : N < 9223372036854775808 := Nat.lt_of_lt_of_le hN (Nat.pow_le_pow_right (by omega) (show k ≤ 63 by omega))
      have hb := bt_le X (f + j)
      have hst : X / 2 ^ (f + (64 - (k + 1))) % 2 ^ (k + 1) = 2 * N + bt X (f + j) := by
        rw [hH.out, show f + (64 - (k + 1)) = f + j by omega, show f + (64 - k) = f + j + 1 by omega]
        exact word_step X (f + j) k
      have HST := hide hst; have HI := hide hI; have HJ := hide hjk
      subst hj
      clear hst hN hI hjk
      have hj1 : (j : Int) ≤ 63 := by have := HJ.out; omega
      by_cases hin : f + j < n
      · obtain ⟨b, o, rfl, hbb, hc⟩ := hr.i (k := f + j) (by rw [len_bitsOf]; exact hin)
        rw [get_bitsOf] at hc
        have hin2 : (f : Int) + (j : Int) < (n : Int) := by omega
        go_wp2
        go_round
        case rel => exact ⟨(j : Int) - 1, k + 1, 2 * N + bt X (f + j), by have := HI.out; omega, by omega, rfl, val_i (by omega), hide HST.out.symm⟩
        case measure => simp [intOf] <;> omega
      · have hz : bt X (f + j) = 0 := bt_high HX.out (by omega)
        have HZ := hide hz
        clear hz
        have hin2 : (n : Int) ≤ (f : Int) + (j : Int) := by omega
        go_wp2
        go_round
        case rel => exact ⟨(j : Int) - 1, k + 1, 2 * N + bt X (f + j), by have := HI.out; omega, by omega, rfl, val_i (by rw [HZ.out]; omega), hide HST.out.symm⟩
        case measure => simp [intOf] <;> omega
    · have hk64 : k = 64 := by omega
      subst hk64
      have hI1 : I = -1 := by omega
      subst hI1
      go_wp2
      go_ret
      refine ⟨ret_i ?_, rfl⟩
      rw [hH.out]
      rfl

theorem word_hi (X : Nat) : wordV X 64 = hi64 X := rfl
theorem word_lo (X : Nat) : wordV X 0 = lo64 X := by unfold wordV lo64; simp
set_option maxHeartbeats 400000 in
theorem to2_any (A : Option Addr) (n c B X : Nat) (w : World) (hr : Rd w B A (is (bitsOf X n))) (hX : X < 2 ^ n) (hn : n ≤ 100000) (hB : B ≤ w.heap.size) :
    Calls Try.prog 41 #[.slice A n c] w (Ret128 w X) := by
  have HX := hide hX
  clear hX
  go_enter Try.func41, Try.ntmps41
  go_wp2_with fail
  refine (word_any A n c B X 64 64 rfl _ (hr.alloc hB _) HX.out hn (by omega)).mono ?_
  rintro e w1 ⟨rfl, rfl⟩
  go_wp2_with fail
  refine (word_any A n c B X 0 0 rfl _ (hr.alloc hB _) HX.out hn (by omega)).mono ?_
  rintro e w1 ⟨rfl, rfl⟩
  rw [word_hi, word_lo]
  go_wp2
  exact bodyPost_ret (v := .agg #[.int .u64 (hi64 X : Nat), .int .u64 (lo64 X : Nat)]) (by simp [results, Try.results41, go_sem]) rfl ⟨rfl, by (repeat (first | exact Below.refl _ _ | assumption | (refine Below.alloc ?_ (by first | omega | (simp; done) | (simp; omega)) _) | (refine Below.setCell ?_ (by first | omega | (simp; done) | (simp; omega)) _) | refine Below.drew ?_ | refine below_drewN ?_ _))⟩

/-- Which of two is less. -/
def cmpV (X Y : Nat) : Int := if X < Y then -1 else if X = Y then 0 else 1
theorem cmp_less {X Y i : Nat} (h : X / 2 ^ (i + 1) = Y / 2 ^ (i + 1)) (hb : bt X i < bt Y i) : X < Y := by
  have e1 : X / 2 ^ i = 2 * (X / 2 ^ (i + 1)) + bt X i := by unfold bt; rw [Nat.pow_succ, ← Nat.div_div_eq_div_mul]; omega
  have e2 : Y / 2 ^ i = 2 * (Y / 2 ^ (i + 1)) + bt Y i := by unfold bt; rw [Nat.pow_succ, ← Nat.div_div_eq_div_mul]; omega
  have h3 : X / 2 ^ i < Y / 2 ^ i := by omega
  rcases Nat.lt_or_ge X Y with hlt | hge
  · exact hlt
  · have := Nat.div_le_div_right (c := 2 ^ i) hge
    omega
theorem cmp_same {X Y i : Nat} (h : X / 2 ^ (i + 1) = Y / 2 ^ (i + 1)) (hb : bt X i = bt Y i) : X / 2 ^ i = Y / 2 ^ i := by
  have e1 : X / 2 ^ i = 2 * (X / 2 ^ (i + 1)) + bt X i := by unfold bt; rw [Nat.pow_succ, ← Nat.div_div_eq_div_mul]; omega
  have e2 : Y / 2 ^ i = 2 * (Y / 2 ^ (i + 1)) + bt Y i := by unfold bt; rw [Nat.pow_succ, ← Nat.div_div_eq_div_mul]; omega
  omega

set_option maxHeartbeats 1000000 in
theorem cmp_ref (A A' : Option Addr) (p c q c' B B' X Y : Nat) (w : World) (hr : Rd w B A (is (bitsOf X p))) (hr' : Rd w B' A' (is (bitsOf Y q)))
    (hX : X < 2 ^ p) (hY : Y < 2 ^ q) (hp : p ≤ 100000) (hq : q ≤ 100000) :
    Calls Try.prog 19 #[.slice A p c, .slice A' q c'] w fun e w' => e = .returned (.int .i64 (cmpV X Y)) ∧ w = w' := by
  have HX := hide hX; have HY := hide hY
  have hX2 : X < 2 ^ (max p q) := Nat.lt_of_lt_of_le hX (Nat.pow_le_pow_right (by omega) (by omega))
  have hY2 : Y < 2 ^ (max p q) := Nat.lt_of_lt_of_le hY (Nat.pow_le_pow_right (by omega) (by omega))
  have h0 : X / 2 ^ (max p q) = Y / 2 ^ (max p q) := by rw [Nat.div_eq_of_lt hX2, Nat.div_eq_of_lt hY2]
  have H0 := hide h0
  clear hX hY hX2 hY2 h0
  by_cases hpq : p < q
  all_goals
    obtain ⟨m, hm⟩ : ∃ m, m = max p q := ⟨_, rfl⟩
    have hmm : m ≤ 100000 := by omega
    have hm2 : (p : Int) ≤ m ∧ (q : Int) ≤ m ∧ ((m : Int) ≤ p ∨ (m : Int) ≤ q) := by omega
    rw [← hm] at H0
    have HM := hide hm2
    clear hm hm2
    go_enter Try.func19, Try.ntmps19
    go_wp2
    go_loop [5] (fun i => ∃ (I : Int) (k : Nat), I = (k : Int) - 1 ∧ k ≤ m ∧ i = .int .i64 I ∧ Hid (X / 2 ^ k = Y / 2 ^ k)) (fun i => (intOf i + 1).toNat)
    case atStart => exact ⟨_, m, by have := HM.out; omega, Nat.le_refl _, rfl, H0⟩
    case round =>
      obtain ⟨I, k, hI, hk, rfl, hH⟩ := hrel
      by_cases hlt : 0 < k
      · obtain ⟨j, rfl⟩ : ∃ j, k = j + 1 := ⟨k - 1, by omega⟩
        have hIj : I = (j : Int) := by omega
        subst hIj
        have c1 : ∀ W, W = w → Calls Try.prog 42 #[.slice A p c, .int .i64 j] W fun e w' => e = .returned (.int .i64 (bt X j : Nat)) ∧ W = w' := fun W hW => at_nat _ _ _ _ _ _ _ (hW ▸ hr) HX.out hp
        have c2 : ∀ W, W = w → Calls Try.prog 42 #[.slice A' q c', .int .i64 j] W fun e w' => e = .returned (.int .i64 (bt Y j : Nat)) ∧ W = w' := fun W hW => at_nat _ _ _ _ _ _ _ (hW ▸ hr') HY.out hq
        have C1 := hide (c1 _ rfl); have C2 := hide (c2 _ rfl)
        have HI := hide hI
        clear c1 c2 hI
        have hj : (j : Int) ≤ 100000 := by omega
        rcases Nat.lt_trichotomy (bt X j) (bt Y j) with hb | hb | hb
        · have t1 : ((bt X j : Nat) : Int) < ((bt Y j : Nat) : Int) := by omega
          have hv : cmpV X Y = -1 := by unfold cmpV; rw [if_pos (cmp_less hH.out hb)]
          have HV := hide hv; clear hv hb
          go_wp2_with fail
          refine C1.out.mono ?_
          rintro e w' ⟨rfl, rfl⟩
          go_wp2_with fail
          refine C2.out.mono ?_
          rintro e w' ⟨rfl, rfl⟩
          go_wp2_with fail
          go_ret
          exact ⟨ret_i HV.out.symm, rfl⟩
        · have t1 : ¬ ((bt X j : Nat) : Int) < ((bt Y j : Nat) : Int) := by omega
          have t2 : ¬ ((bt Y j : Nat) : Int) < ((bt X j : Nat) : Int) := by omega
          have HB := hide hb; clear hb
          go_wp2_with fail
          refine C1.out.mono ?_
          rintro e w' ⟨rfl, rfl⟩
          go_wp2_with fail
          refine C2.out.mono ?_
          rintro e w' ⟨rfl, rfl⟩
          go_wp2_with fail
          refine C1.out.mono ?_
          rintro e w' ⟨rfl, rfl⟩
          go_wp2_with fail
          refine C2.out.mono ?_
          rintro e w' ⟨rfl, rfl⟩
          go_wp2_with fail
          go_round
          case rel => exact ⟨_, j, rfl, by omega, rfl, hide (cmp_same hH.out HB.out)⟩
          case measure => simp [intOf] <;> omega
        · have t1 : ¬ ((bt X j : Nat) : Int) < ((bt Y j : Nat) : Int) := by omega
          have t2 : ((bt Y j : Nat) : Int) < ((bt X j : Nat) : Int) := by omega
          have hv : cmpV X Y = 1 := by
            have := cmp_less hH.out.symm hb
            unfold cmpV
            rw [if_neg (by omega), if_neg (by omega)]
          have HV := hide hv; clear hv hb
          go_wp2_with fail
          refine C1.out.mono ?_
          rintro e w' ⟨rfl, rfl⟩
          go_wp2_with fail
          refine C2.out.mono ?_
          rintro e w' ⟨rfl, rfl⟩
          go_wp2_with fail
          refine C1.out.mono ?_
          rintro e w' ⟨rfl, rfl⟩
          go_wp2_with fail
          refine C2.out.mono ?_
          rintro e w' ⟨rfl, rfl⟩
          go_wp2_with fail
          go_ret
          exact ⟨ret_i HV.out.symm, rfl⟩
      · have hk0 : k = 0 := by omega
        subst hk0
        have hI1 : I = -1 := by omega
        clear hI
        subst hI1
        go_wp2
        go_ret
        have h2 := hH.out
        rw [Nat.pow_zero, Nat.div_one, Nat.div_one] at h2
        exact ⟨ret_i (by unfold cmpV; rw [h2, if_neg (Nat.lt_irrefl _), if_pos rfl]), rfl⟩
end Go.Proofs.Ytpfpdlgfngkdjaa
