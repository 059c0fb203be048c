/-
  wide.Full told as a product of numbers; the reference's To4. Conditions: as each says.
-/
import Derived.Test.YtpfpdlgfngkdjaaFull
import Derived.Test.YtpfpdlgfngkdjaaRefU
namespace Go.Proofs.Ytpfpdlgfngkdjaa
open Go.RowKit Go.Shelf
set_option linter.unusedVariables false

theorem wd0 (X : Nat) : wd X 0 = X % 18446744073709551616 := by simp [wd]
theorem wd1 (X : Nat) : wd X 1 = X / 18446744073709551616 % 18446744073709551616 := by simp [wd]
theorem wd2 (X : Nat) : wd X 2 = X / 340282366920938463463374607431768211456 % 18446744073709551616 := by simp [wd]
theorem wd3 (X : Nat) : wd X 3 = X / 6277101735386680763835789423207666416102355444464034512896 % 18446744073709551616 := by simp [wd]
theorem p128 (a b : Nat) (ha : a < 18446744073709551616) (hb : b < 18446744073709551616) : a * b < 340282366920938463463374607431768211456 :=
  Nat.lt_of_lt_of_le (Nat.mul_lt_mul_of_lt_of_lt ha hb) (by omega)
theorem full_sum (ah al bh bl : Nat) : al * bl + 340282366920938463463374607431768211456 * (ah * bh) + 18446744073709551616 * (ah * bl) + 18446744073709551616 * (al * bh) = val2 ah al * val2 bh bl := by
  unfold val2
  rw [Nat.add_mul, Nat.mul_add, Nat.mul_add]
  have e1 : ah * 18446744073709551616 * (bh * 18446744073709551616) = 340282366920938463463374607431768211456 * (ah * bh) := by
    rw [Nat.mul_assoc, Nat.mul_left_comm 18446744073709551616 bh, ← Nat.mul_assoc, Nat.mul_comm]
  have e2 : ah * 18446744073709551616 * bl = 18446744073709551616 * (ah * bl) := by rw [Nat.mul_right_comm, Nat.mul_comm]
  have e3 : al * (bh * 18446744073709551616) = 18446744073709551616 * (al * bh) := by rw [← Nat.mul_assoc, Nat.mul_comm]
  rw [e1, e2, e3]
  omega
theorem words_pair (P Q : Nat) (hP : P < 340282366920938463463374607431768211456) (hQ : Q < 340282366920938463463374607431768211456) : wd (P + 340282366920938463463374607431768211456 * Q) 0 = lo64 P ∧ wd (P + 340282366920938463463374607431768211456 * Q) 1 = hi64 P ∧ wd (P + 340282366920938463463374607431768211456 * Q) 2 = lo64 Q ∧ wd (P + 340282366920938463463374607431768211456 * Q) 3 = hi64 Q := by
  rw [wd0, wd1, wd2, wd3]
  unfold lo64 hi64
  omega
theorem words_mid (P : Nat) (hP : P < 340282366920938463463374607431768211456) : wd (18446744073709551616 * P) 0 = 0 ∧ wd (18446744073709551616 * P) 1 = lo64 P ∧ wd (18446744073709551616 * P) 2 = hi64 P ∧ wd (18446744073709551616 * P) 3 = 0 := by
  rw [wd0, wd1, wd2, wd3]
  unfold lo64 hi64
  omega
theorem full_u (X Y : Nat) (w : World) : Calls Try.prog 56 #[.agg #[.int .u64 (hi64 (X) : Nat), .int .u64 (lo64 (X) : Nat)], .agg #[.int .u64 (hi64 (Y) : Nat), .int .u64 (lo64 (Y) : Nat)]] w fun e w' => e = .returned (.agg #[.int .u64 (wd (m128 X * m128 Y) 0 : Nat), .int .u64 (wd (m128 X * m128 Y) 1 : Nat), .int .u64 (wd (m128 X * m128 Y) 2 : Nat), .int .u64 (wd (m128 X * m128 Y) 3 : Nat)]) ∧ Below w.heap.size w w' := by
  have hs := full_sum (hi64 X) (lo64 X) (hi64 Y) (lo64 Y)
  rw [val2_of, val2_of] at hs
  have ha := hi64_lt X; have hb := lo64_lt X; have hc := hi64_lt Y; have hd := lo64_lt Y
  have h0 := fun W => wmul_any _ _ W hb hd
  have h1 := fun W => wmul_any _ _ W ha hc
  have h2 := fun W => wmul_any _ _ W ha hd
  have h3 := fun W => wmul_any _ _ W hb hc
  have p0 := p128 _ _ hb hd; have p1 := p128 _ _ ha hc; have p2 := p128 _ _ ha hd; have p3 := p128 _ _ hb hc
  generalize lo64 X * lo64 Y = P0 at *
  generalize hi64 X * hi64 Y = P1 at *
  generalize hi64 X * lo64 Y = P2 at *
  generalize lo64 X * hi64 Y = P3 at *
  obtain ⟨a0, a1, a2, a3⟩ := words_pair P0 P1 p0 p1
  obtain ⟨b0, b1, b2, b3⟩ := words_mid P2 p2
  obtain ⟨c0, c1, c2, c3⟩ := words_mid P3 p3
  have h4 := fun W => add4_u (P0 + 340282366920938463463374607431768211456 * P1) (18446744073709551616 * P2) W
  have h5 := fun W => add4_u (P0 + 340282366920938463463374607431768211456 * P1 + 18446744073709551616 * P2) (18446744073709551616 * P3) W
  rw [hs] at h5
  simp only [a0, a1, a2, a3, b0, b1, b2, b3] at h4
  simp only [c0, c1, c2, c3] at h5
  exact full_g _ _ _ _ _ _ _ _ _ _ _ _ _ _ _ _ _ _ _ _ _ _ w h0 h1 h2 h3 h4 h5
set_option maxHeartbeats 2000000 in
theorem to4_u (A : Option Addr) (c X : Nat) (w : World) (hr : Rs w A (is (bitsOf X 256))) (hX : X < 2 ^ 256) : Calls Try.prog 33 #[.slice A 256 c] w fun e w' => e = .returned (.agg #[.int .u64 (wd (X) 0 : Nat), .int .u64 (wd (X) 1 : Nat), .int .u64 (wd (X) 2 : Nat), .int .u64 (wd (X) 3 : Nat)]) ∧ Below w.heap.size w w' := by
  have hwv : ∀ k, k < 4 → wordV X (64 * k) = wd X k := fun k hk => by
    unfold wordV wd
    rw [show (18446744073709551616 : Nat) ^ k = 2 ^ (64 * k) by rw [Nat.pow_mul]]
  have HWV := hide hwv
  have HX := hide hX
  clear hwv hX
  go_enter Try.func33, Try.ntmps33
  go_wp2
  have B0 : Below w.heap.size w ((w.alloc (.cells #[.int .u64 0, .int .u64 0, .int .u64 0, .int .u64 0] 24)).alloc (.cells #[.int .u64 0, .int .u64 0, .int .u64 0, .int .u64 0] 24)) := by (repeat (first | exact Below.refl _ _ | assumption | (refine Below.alloc ?_ (by first | omega | (simp; done) | (simp; omega)) _) | (refine Below.setCell ?_ (by first | omega | (simp; done) | (simp; omega)) _) | refine Below.drew ?_ | refine below_drewN ?_ _))
  go_loopg [4] 4 (fun m v4 wr => ∃ k : Nat, m = 4 - k ∧ k ≤ 4 ∧ v4 = .int .i64 k ∧ Words4 wr (w.heap.size + 1) (fun i => if i < k then wd X i else 0) ∧ Box4 wr w.heap.size (.int .u64 0) (.int .u64 0) (.int .u64 0) (.int .u64 0) ∧ Below w.heap.size w wr)
  case atStart =>
    refine ⟨0, rfl, by omega, rfl, Words4.of ?_, ?_, B0⟩
    all_goals (refine ⟨?_, ?_, ?_, ?_, ?_, ?_, ?_, ?_, ?_⟩ <;> simp [go_sem] <;> omega)
  case round =>
    obtain ⟨k, hm, hk, rfl, A4, R, B⟩ := hrel
    clear B0
    have HM := hide hm
    clear hm
    by_cases hlt : k < 4
    · have t1 : (k : Int) < 4 := by omega
      have t2 : (0 : Int) ≤ (k : Int) := by omega
      have hwk := HWV.out k hlt
      have HK := hide hwk
      clear hwk
      go_wp2_with fail
      refine (word_any A 256 c _ X _ (64 * k) (by omega) _ (hr.below B) HX.out (by omega) (by omega)).mono ?_
      rintro e w1 ⟨rfl, rfl⟩
      rw [HK.out]
      have c1 := A4.1 k hlt
      have c2 := A4.2.1 k hlt
      have c4 := A4.2.2
      have HA := hide A4
      clear A4
      generalize hwd : wd X k = z at *
      have HZ := hide hwd
      clear hwd
      go_wp2_with fail
      go_roundg (3 - k)
      case measure => rw [HM.out]; omega
      case rel =>
        refine ⟨k + 1, by omega, by omega, by go_num, ?_, ?_, ?_⟩
        · exact Words4.store HA.out hlt (by show (if k < k + 1 then wd X k else 0) = z; rw [if_pos (by omega), HZ.out]) (fun i hi => by
            show (if i < k + 1 then wd X i else 0) = (if i < k then wd X i else 0)
            by_cases h : i < k
            · rw [if_pos (show i < k + 1 by omega), if_pos h]
            · rw [if_neg (show ¬ i < k + 1 by omega), if_neg h])
        · exact Box4.far R (by omega)
        · exact B.setCell (show w.heap.size ≤ w.heap.size + 1 by omega) _
    · have hk4 : k = 4 := by omega
      subst hk4
      have A5 := A4.box
      have e0 : (if 0 < 4 then wd X 0 else 0) = wd X 0 := rfl
      have e1 : (if 1 < 4 then wd X 1 else 0) = wd X 1 := rfl
      have e2 : (if 2 < 4 then wd X 2 else 0) = wd X 2 := rfl
      have e3 : (if 3 < 4 then wd X 3 else 0) = wd X 3 := rfl
      have A6 : Box4 wr (w.heap.size + 1) (.int .u64 (wd X 0 : Nat)) (.int .u64 (wd X 1 : Nat)) (.int .u64 (wd X 2 : Nat)) (.int .u64 (wd X 3 : Nat)) := A5
      clear e0 e1 e2 e3 A4 A5
      generalize hz0 : wd X 0 = z0 at *
      generalize hz1 : wd X 1 = z1 at *
      generalize hz2 : wd X 2 = z2 at *
      generalize hz3 : wd X 3 = z3 at *
      have HZ := hide (show wd X 0 = z0 ∧ wd X 1 = z1 ∧ wd X 2 = z2 ∧ wd X 3 = z3 from ⟨hz0, hz1, hz2, hz3⟩)
      clear hz0 hz1 hz2 hz3
      go_wp2_with fail
      exact bodyPost_ret (v := .agg #[.int .u64 z0, .int .u64 z1, .int .u64 z2, .int .u64 z3]) (by simp [results, Try.results33, go_sem, R]) rfl ⟨by rw [HZ.out.1, HZ.out.2.1, HZ.out.2.2.1, HZ.out.2.2.2], by (repeat (first | exact Below.refl _ _ | assumption | (refine Below.alloc ?_ (by first | omega | (simp; done) | (simp; omega)) _) | (refine Below.setCell ?_ (by first | omega | (simp; done) | (simp; omega)) _) | refine Below.drew ?_ | refine below_drewN ?_ _))⟩
end Go.Proofs.Ytpfpdlgfngkdjaa
