/-
  Walk of the reference's product bit by bit. Conditions: the numbers fit their bits.
-/
import Derived.Test.YtppmkoglpfdjnaaDoorBitsB
namespace Go.Proofs.YtppmkoglpfdjnaaDoor
open Go.RowKit
set_option linter.unusedVariables false

theorem bits_add_mod (a b n : Nat) : bitsOf (a % 2 ^ n + b % 2 ^ n) n = bitsOf ((a + b) % 2 ^ n) n := by
  rw [← bitsOf_mod (a % 2 ^ n + b % 2 ^ n), ← Nat.add_mod]

set_option maxHeartbeats 1000000 in
theorem mul_ref (A A' : Option Addr) (p c q c' X Y : Nat) (m : Int) (n : Nat) (h : m = (n : Int)) (hn : n ≤ 1000) (hp : p ≤ 1000) (hq : q ≤ 1000) (w : World) (hr : Rs w A (is (bitsOf X p))) (hr' : Rs w A' (is (bitsOf Y q)))
    (hX : X < 2 ^ p) (hY : Y < 2 ^ q) :
    Calls Tryd.prog 8 #[.slice A p c, .slice A' q c', .int .i64 m] w (RetBits w (X * Y % 2 ^ n) n) := by
  subst h
  have HX := hide hX; have HY := hide hY
  clear hX hY
  go_enter Tryd.func8, Tryd.ntmps8
  go_wp2_with fail
  refine (of_any 0 n n rfl (by omega) _ (by omega)).mono ?_
  rintro e w1 ⟨A1, c1, rfl, hown1, hb1⟩
  go_wp2_with fail
  go_loopw [7, 8] (fun v i wr => ∃ (k : Nat) (A : Option Addr) (c : Nat), k ≤ q ∧ i = .int .i64 k ∧ v = .slice A n c ∧ wr.ownsRow w.heap.size 3 1 (.slice A n c) n (is (bitsOf (X * (Y % 2 ^ k) % 2 ^ n) n)) ∧ Below w.heap.size w wr) (fun _ i _ => q - (intOf i).toNat)
  case atStart => exact ⟨0, A1, c1, Nat.zero_le _, rfl, rfl, by simpa [Nat.mod_one] using hown1, hb1⟩
  case round =>
    obtain ⟨k, A2, c2, hk, rfl, rfl, hown, hbel⟩ := hrel
    by_cases hlt : k < q
    · have hlt1 : (k : Int) < (q : Int) := by omega
      have r := hr.below hbel; have r' := hr'.below hbel
      obtain ⟨b, o, rfl, hbb, hc⟩ := r'.i (k := k) (by rw [len_bitsOf]; exact hlt)
      rw [get_bitsOf] at hc
      have hstep := mul_bit_step X Y k
      by_cases h1 : bt Y k = 1
      · have h2 : ((bt Y k : Nat) : Int) = 1 := by omega
        rw [h2] at hc
        rw [if_pos h1] at hstep
        have HST := hide hstep
        clear hstep h1 h2
        go_wp2_with fail
        refine (shl_ref A p c _ X k k rfl (by omega) n n rfl (by omega) (by omega) _ r HX.out hbel.size).mono ?_
        rintro e w3 ⟨A3, c3, rfl, hown3, hb3⟩
        rw [← bitsOf_mod] at hown3
        go_wp2_with fail
        refine (add_ref A2 A3 n c2 n c3 _ _ _ _ n n rfl (by omega) (by omega) (by omega) _ (Rs.call (Rs.of_own hown) hb3) (Rs.of_own hown3) (Nat.mod_lt _ (Nat.two_pow_pos _)) (Nat.mod_lt _ (Nat.two_pow_pos _)) (Nat.le_refl _) (Nat.le_refl _)).mono ?_
        rintro e w4 ⟨A4, c4, rfl, hown4, hb4⟩
        rw [bits_add_mod, ← HST.out] at hown4
        have B4 := below_call (below_call hbel (Nat.le_refl _) hb3) (Nat.le_refl _) hb4
        have hw3 : w.heap.size ≤ w3.heap.size := Nat.le_trans hbel.size hb3.size
        clear hown3 hown hb3 hb4 r r'
        go_wp2
        go_roundw
        case rel => exact ⟨k + 1, A4, c4, by omega, by go_num, rfl, own_lower hown4 hw3, B4⟩
        case measure => simp [intOf]; omega
      · have h0 : bt Y k = 0 := by have := bt_le Y k; omega
        have h2 : ((bt Y k : Nat) : Int) = 0 := by omega
        rw [h2] at hc
        rw [if_neg h1, Nat.add_zero] at hstep
        have HST := hide hstep
        clear hstep h1 h2 h0 r r'
        go_wp2
        go_roundw
        case rel => exact ⟨k + 1, A2, c2, by omega, by go_num, rfl, by rw [HST.out]; exact hown, hbel⟩
        case measure => simp [intOf]; omega
    · have hkn : k = q := by omega
      subst hkn
      rw [Nat.mod_eq_of_lt HY.out] at hown
      go_wp2
      go_ret
      exact ⟨A2, c2, rfl, hown, hbel⟩
end Go.Proofs.YtppmkoglpfdjnaaDoor
