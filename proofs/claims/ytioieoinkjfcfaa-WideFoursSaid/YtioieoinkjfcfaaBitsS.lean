/-
  Walk of the reference's Shr, and Shl and Shr in the words of the later walks. Conditions: as each says.
-/
import Derived.Test.YtioieoinkjfcfaaRefU
namespace Go.Proofs.Ytioieoinkjfcfaa
open Go.RowKit
set_option linter.unusedVariables false

set_option maxHeartbeats 400000 in
theorem shr_ref (A : Option Addr) (p c B X : Nat) (by_ : Int) (k0 : Nat) (hk0 : by_ = (k0 : Int)) (hk1 : k0 ≤ 100000) (m : Int) (n : Nat) (h : m = (n : Int)) (hn : n ≤ 100000) (hp : p ≤ 100000) (w : World) (hr : Rd w B A (is (bitsOf X p)))
    (hX : X < 2 ^ p) (hB : B ≤ w.heap.size) :
    Calls Try.prog 50 #[.slice A p c, .int .i64 by_, .int .i64 m] w (RetBits w (X / 2 ^ k0) n) := by
  subst h; subst hk0
  have HX := hide hX
  clear hX
  go_enter Try.func50, Try.ntmps50
  go_wp2
  go_loopw [7, 8] (fun v i wr => ∃ k : Nat, k ≤ n ∧ i = .int .i64 k ∧ (∃ A c, v = .slice A k c) ∧ wr.ownsRow w.heap.size 3 1 v k (is (bitsOf (X / 2 ^ k0) k)) ∧ Below w.heap.size w wr) (fun _ i _ => n - (intOf i).toNat)
  case atStart => exact ⟨0, Nat.zero_le _, rfl, ⟨_, _, rfl⟩, World.ownsRow_nil _ _ _ _, Below.refl _ _⟩
  case round =>
    obtain ⟨k, hk, rfl, ⟨A2, c2, rfl⟩, hown, hbel⟩ := hrel
    by_cases hlt : k < n
    · have ht1 : (k : Int) < (n : Int) := by omega
      have r1 := hr.below (hbel.mono hB)
      have he : btI X ((k : Int) + (k0 : Int)) = bt (X / 2 ^ k0) k := by
        rw [shr_bit]
        unfold btI
        rw [if_neg (by omega)]
        congr 1
      have HE := hide he; clear he
      go_wp2_with fail
      refine (at_any _ _ _ _ _ _ _ r1 HX.out hp).mono ?_
      rintro e w' ⟨rfl, rfl⟩
      rw [HE.out]
      go_wp2_with (at_builtin; (refine wp_append1 rfl _ _ _ rfl w.heap.size 3 _ (.int .i64 0) 8 Try.underlying26 Try.infoInt rfl _ _ _ _ rfl hown _ rfl rfl (by omega) (by omega) hbel.size ?_))
      intro A' c' w' hown' hb'
      go_wp2
      go_roundw
      case rel => exact ⟨k + 1, by omega, by go_num, ⟨_, _, rfl⟩, by rw [bitsOf_succ, is_append]; exact hown', hbel.trans hb'⟩
      case measure => simp [intOf]; omega
    · have hkn : k = n := by omega
      subst hkn
      go_wp2
      go_ret
      exact ⟨A2, c2, rfl, hown, hbel⟩
theorem shr_r (A : Option Addr) (p c X : Nat) (by_ : Int) (k0 : Nat) (hk0 : by_ = (k0 : Int)) (hk1 : k0 ≤ 100000) (m : Int) (n : Nat) (h : m = (n : Int)) (hn : n ≤ 100000) (hp : p ≤ 100000) (w : World) (hr : Rs w A (is (bitsOf X p))) (hX : X < 2 ^ p) :
    Calls Try.prog 50 #[.slice A p c, .int .i64 by_, .int .i64 m] w (RetB w (X / 2 ^ k0) n) :=
  (shr_ref A p c _ X by_ k0 hk0 hk1 m n h hn hp w hr hX (Nat.le_refl _)).mono fun e w' hh => RetB.of (fun _ _ => rfl) hh
theorem shl_r (A : Option Addr) (p c X : Nat) (by_ : Int) (k0 : Nat) (hk0 : by_ = (k0 : Int)) (hk1 : k0 ≤ 100000) (m : Int) (n : Nat) (h : m = (n : Int)) (hn : n ≤ 100000) (hp : p ≤ 100000) (w : World) (hr : Rs w A (is (bitsOf X p))) (hX : X < 2 ^ p) :
    Calls Try.prog 26 #[.slice A p c, .int .i64 by_, .int .i64 m] w (RetB w (X * 2 ^ k0) n) :=
  (shl_ref A p c _ X by_ k0 hk0 hk1 m n h hn hp w hr hX (Nat.le_refl _)).mono fun e w' hh => RetB.of (fun _ _ => rfl) hh
end Go.Proofs.Ytioieoinkjfcfaa
