/-
  Walk of the reference's Of4. Conditions: none.
-/
import Derived.Test.YtpfpdlgfngkdjaaFourW
import Derived.Test.YtpfpdlgfngkdjaaBoxB
import Derived.Test.YtpfpdlgfngkdjaaRefU
namespace Go.Proofs.Ytpfpdlgfngkdjaa
open Go.RowKit Go.Shelf
set_option linter.unusedVariables false

theorem bits_more (X k : Nat) : bitsOf X (64 * k) ++ bitsOf (wd X k) 64 = bitsOf X (64 * (k + 1)) := by
  have h := bitsOf_join (X % 2 ^ (64 * k)) (wd X k) (64 * k) 64 (Nat.mod_lt _ (Nat.two_pow_pos _))
  rw [bitsOf_mod] at h
  rw [h, show 64 * (k + 1) = 64 * k + 64 by omega]
  refine bitsOf_congr fun i hi => bt_congr (n := 64 * k + 64) ?_ i hi
  have e : X % 2 ^ (64 * k + 64) = X % 2 ^ (64 * k) + 2 ^ (64 * k) * wd X k := by
    rw [Nat.pow_add, Nat.mod_mul]
    unfold wd
    rw [pow64]
  rw [e, Nat.mod_eq_of_lt]
  rw [← e]
  exact Nat.mod_lt _ (Nat.two_pow_pos _)
set_option maxHeartbeats 2000000 in
theorem of4_ref (X : Nat) (w : World) : Calls Try.prog 9 #[.agg #[.int .u64 (wd (X) 0 : Nat), .int .u64 (wd (X) 1 : Nat), .int .u64 (wd (X) 2 : Nat), .int .u64 (wd (X) 3 : Nat)]] w (RetB w X 256) := by
  go_enter Try.func9, Try.ntmps9
  go_wp2_with fail
  have X1 : Words4 (w.alloc (.cells #[.int .u64 (wd X 0 : Nat), .int .u64 (wd X 1 : Nat), .int .u64 (wd X 2 : Nat), .int .u64 (wd X 3 : Nat)] 24)) w.heap.size (wd X) := Words4.of (by (refine ⟨?_, ?_, ?_, ?_, ?_, ?_, ?_, ?_, ?_⟩ <;> simp [go_sem]))
  have B : Below w.heap.size w (w.alloc (.cells #[.int .u64 (wd X 0 : Nat), .int .u64 (wd X 1 : Nat), .int .u64 (wd X 2 : Nat), .int .u64 (wd X 3 : Nat)] 24)) := by (repeat (first | exact Below.refl _ _ | assumption | (refine Below.alloc ?_ (by first | omega | (simp; done) | (simp; omega)) _) | (refine Below.setCell ?_ (by first | omega | (simp; done) | (simp; omega)) _) | refine Below.drew ?_ | refine below_drewN ?_ _))
  have hz : w.heap.size + 1 = (w.alloc (.cells #[.int .u64 (wd X 0 : Nat), .int .u64 (wd X 1 : Nat), .int .u64 (wd X 2 : Nat), .int .u64 (wd X 3 : Nat)] 24)).heap.size := by simp
  generalize w.alloc (.cells #[.int .u64 (wd X 0 : Nat), .int .u64 (wd X 1 : Nat), .int .u64 (wd X 2 : Nat), .int .u64 (wd X 3 : Nat)] 24) = W at *
  have hzl : w.heap.size + 1 ≤ W.heap.size := by omega
  clear hz
  go_loopw [3, 4] (fun v i wr => ∃ k : Nat, k ≤ 4 ∧ i = .int .i64 k ∧ (∃ A c, v = .slice A (64 * k) c) ∧ wr.ownsRow (w.heap.size + 1) 3 1 v (64 * k) (is (bitsOf X (64 * k))) ∧ Words4 wr w.heap.size (wd X) ∧ w.heap.size + 1 ≤ wr.heap.size ∧ Below w.heap.size w wr) (fun _ i _ => 4 - (intOf i).toNat)
  case atStart => exact ⟨0, by omega, rfl, ⟨_, _, rfl⟩, World.ownsRow_nil _ _ _ _, X1, hzl, B⟩
  case round =>
    clear X1 B hzl
    obtain ⟨k, hk, rfl, ⟨A2, c2, rfl⟩, hown, X1, hzl, B⟩ := hrel
    by_cases hlt : k < 4
    · have ht1 : (k : Int) < 4 := by omega
      have ht0 : (0 : Int) ≤ (k : Int) := by omega
      have hc := X1.1 k hlt
      have hwk := wd_lt X k
      have HB := hide (bits_more X k)
      have HW := hide hwk
      clear hwk
      go_wp2_with fail
      refine (of_u (wd X k) 64 64 rfl (by omega) _ HW.out).mono ?_
      rintro e w1 ⟨A1, c1, rfl, r1, hb⟩
      have own1 := own_carry hown hb
      replace X1 := Words4.call hb X1
      replace B : Below w.heap.size w w1 := below_call B (Nat.le_refl _) hb
      have hz1 : w.heap.size + 1 ≤ w1.heap.size := Nat.le_trans hzl hb.size
      clear hb hown hc hzl
      go_wp2_with (at_builtin; (refine wp_appendN rfl _ _ _ rfl (w.heap.size + 1) 3 (.int .i64 0) 8 Try.underlying31 Try.infoInt rfl A2 (64 * k) c2 _ rfl own1 A1 64 c1 _ _ rfl (by rw [len_is, len_bitsOf]) r1 (one_is _) (by omega) (by omega) hz1 ?_))
      intro A' c' w' hown' hb'
      rw [← is_append, HB.out] at hown'
      have X2 : Words4 w' w.heap.size (wd X) := ⟨fun i hi => (hb'.cell (p := ⟨w.heap.size, i, none⟩) (by simp)).trans (X1.1 i hi), fun i hi => (hb'.frozen (p := ⟨w.heap.size, i, none⟩) (by simp)).trans (X1.2.1 i hi), Nat.lt_of_lt_of_le X1.2.2 hb'.size⟩
      have B2 : Below w.heap.size w w' := B.trans (hb'.mono (by omega))
      have hz2 : w.heap.size + 1 ≤ w'.heap.size := Nat.le_trans hz1 hb'.size
      clear X1 B hz1 hb' own1 r1
      have e64 : 64 * k + 64 = 64 * (k + 1) := by omega
      have HE := hide e64
      clear e64
      go_wp2
      go_roundw
      case rel => exact ⟨k + 1, by omega, by go_num, ⟨_, _, by rw [← HE.out]⟩, by rw [← HE.out]; rw [← HE.out] at hown'; exact hown', X2, hz2, B2⟩
      case measure => simp [intOf]; omega
    · have hkn : k = 4 := by omega
      subst hkn
      go_wp2
      go_ret
      exact ⟨A2, c2, rfl, (Rs.of_own hown), B⟩
end Go.Proofs.Ytpfpdlgfngkdjaa
