/-
  Walks of the reference's rows of bits, more: Word, To2, Cmp. Conditions: the numbers fit their bits.
-/
import Derived.Test.YtppmkoglpfdjnaaDoorBits
namespace Go.Proofs.YtppmkoglpfdjnaaDoor
open Go.RowKit
set_option linter.unusedVariables false

theorem word_step (X m k : Nat) : X / 2 ^ m % 2 ^ (k + 1) = 2 * (X / 2 ^ (m + 1) % 2 ^ k) + bt X m := by
  unfold bt
  rw [Nat.pow_succ 2 m, ← Nat.div_div_eq_div_mul, Nat.pow_succ, Nat.mul_comm (2 ^ k) 2, Nat.mod_mul]
  omega

/-- 64 bits from 'f' on. -/
def wordV (X f : Nat) : Nat := X / 2 ^ f % 18446744073709551616

set_option maxHeartbeats 400000 in
theorem word_any (A : Option Addr) (n c B X : Nat) (m : Int) (f : Nat) (hm : m = (f : Int)) (w : World) (hr : Rd w B A (is (bitsOf X n))) (hX : X < 2 ^ n) (hn : n ≤ 100000) (hf : f ≤ 100000) :
    Calls Tryd.prog 15 #[.slice A n c, .int .i64 m] w fun e w' => e = .returned (.int .u64 (wordV X f : Nat)) ∧ w = w' := by
  subst hm
  have HX := hide hX
  clear hX
  go_enter Tryd.func15, Tryd.ntmps15
  go_wp2
  go_loop [5, 6] (fun v i => ∃ (I : Int) (k N : Nat), I = 63 - (k : Int) ∧ k ≤ 64 ∧ i = .int .i64 I ∧ v = .int .u64 N ∧ Hid (N = X / 2 ^ (f + (64 - k)) % 2 ^ k)) (fun _ i => (intOf i + 1).toNat)
  case atStart => exact ⟨63, 0, 0, by omega, by omega, rfl, rfl, hide (by simp [Nat.mod_one])⟩
  case round =>
    obtain ⟨I, k, N, hI, hk, rfl, rfl, hH⟩ := hrel
    by_cases hlt : k < 64
    · obtain ⟨j, hj⟩ := Int.eq_ofNat_of_zero_le (show 0 ≤ I by omega)
      have hjk : j = 63 - k := by omega
      have hN : N < 2 ^ k := by rw [hH.out]; exact Nat.mod_lt _ (Nat.two_pow_pos k)
      have hN2 : N < 9223372036854775808 := Nat.lt_of_lt_of_le hN (Nat.pow_le_pow_right (by omega) (show k ≤ 63 by omega))
      have hb := bt_le X (f + j)
      have hst : X / 2 ^ (f + (64 - (k + 1))) % 2 ^ (k + 1) = 2 * N + bt X (f + j) := by
        rw [hH.out, show f + (64 - (k + 1)) = f + j by omega, show f + (64 - k) = f + j + 1 by omega]
        exact word_step X (f + j) k
      have HST := hide hst; have HI := hide hI; have HJ := hide hjk
      subst hj
      clear hst hN hI hjk
      have hj1 : (j : Int) ≤ 63 := by have := HJ.out; omega
      by_cases hin : f + j < n
      · obtain ⟨b, o, rfl, hbb, hc⟩ := hr.i (k := f + j) (by rw [len_bitsOf]; exact hin)
        rw [get_bitsOf] at hc
        have hin2 : (f : Int) + (j : Int) < (n : Int) := by omega
        go_wp2
        go_round
        case rel => exact ⟨(j : Int) - 1, k + 1, 2 * N + bt X (f + j), by have := HI.out; omega, by omega, rfl, val_i (by omega), hide HST.out.symm⟩
        case measure => simp [intOf] <;> omega
      · have hz : bt X (f + j) = 0 := bt_high HX.out (by omega)
        have HZ := hide hz
        clear hz
        have hin2 : (n : Int) ≤ (f : Int) + (j : Int) := by omega
        go_wp2
        go_round
        case rel => exact ⟨(j : Int) - 1, k + 1, 2 * N + bt X (f + j), by have := HI.out; omega, by omega, rfl, val_i (by rw [HZ.out]; omega), hide HST.out.symm⟩
        case measure => simp [intOf] <;> omega
    · have hk64 : k = 64 := by omega
      subst hk64
      have hI1 : I = -1 := by omega
      subst hI1
      go_wp2
      go_ret
      refine ⟨ret_i ?_, rfl⟩
      rw [hH.out]
      rfl

theorem word_hi (X : Nat) : wordV X 64 = hi64 X := rfl
theorem word_lo (X : Nat) : wordV X 0 = lo64 X := by unfold wordV lo64; simp
set_option maxHeartbeats 400000 in
theorem to2_any (A : Option Addr) (n c B X : Nat) (w : World) (hr : Rd w B A (is (bitsOf X n))) (hX : X < 2 ^ n) (hn : n ≤ 100000) (hB : B ≤ w.heap.size) :
    Calls Tryd.prog 7 #[.slice A n c] w (Ret128 w X) := by
  have HX := hide hX
  clear hX
  go_enter Tryd.func7, Tryd.ntmps7
  go_wp2_with fail
  refine (word_any A n c B X 64 64 rfl _ (hr.alloc hB _) HX.out hn (by omega)).mono ?_
  rintro e w1 ⟨rfl, rfl⟩
  go_wp2_with fail
  refine (word_any A n c B X 0 0 rfl _ (hr.alloc hB _) HX.out hn (by omega)).mono ?_
  rintro e w1 ⟨rfl, rfl⟩
  rw [word_hi, word_lo]
  go_wp2
  exact bodyPost_ret (v := .agg #[.int .u64 (hi64 X : Nat), .int .u64 (lo64 X : Nat)]) (by simp [results, Tryd.results7, go_sem]) rfl ⟨rfl, by (repeat (first | exact Below.refl _ _ | assumption | (refine Below.alloc ?_ (by first | omega | (simp; done) | (simp; omega)) _) | (refine Below.setCell ?_ (by first | omega | (simp; done) | (simp; omega)) _) | refine Below.drew ?_ | refine below_drewN ?_ _))⟩

/-- Which of two is less. -/
def cmpV (X Y : Nat) : Int := if X < Y then -1 else if X = Y then 0 else 1
theorem cmp_less {X Y i : Nat} (h : X / 2 ^ (i + 1) = Y / 2 ^ (i + 1)) (hb : bt X i < bt Y i) : X < Y := by
  have e1 : X / 2 ^ i = 2 * (X / 2 ^ (i + 1)) + bt X i := by unfold bt; rw [Nat.pow_succ, ← Nat.div_div_eq_div_mul]; omega
  have e2 : Y / 2 ^ i = 2 * (Y / 2 ^ (i + 1)) + bt Y i := by unfold bt; rw [Nat.pow_succ, ← Nat.div_div_eq_div_mul]; omega
  have h3 : X / 2 ^ i < Y / 2 ^ i := by omega
  rcases Nat.lt_or_ge X Y with hlt | hge
  · exact hlt
  · have := Nat.div_le_div_right (c := 2 ^ i) hge
    omega
theorem cmp_same {X Y i : Nat} (h : X / 2 ^ (i + 1) = Y / 2 ^ (i + 1)) (hb : bt X i = bt Y i) : X / 2 ^ i = Y / 2 ^ i := by
  have e1 : X / 2 ^ i = 2 * (X / 2 ^ (i + 1)) + bt X i := by unfold bt; rw [Nat.pow_succ, ← Nat.div_div_eq_div_mul]; omega
  have e2 : Y / 2 ^ i = 2 * (Y / 2 ^ (i + 1)) + bt Y i := by unfold bt; rw [Nat.pow_succ, ← Nat.div_div_eq_div_mul]; omega
  omega

end Go.Proofs.YtppmkoglpfdjnaaDoor
