/-
  Walks of tabs.Chars and astragalref22.Letters: both hand back a number's lowest letters. Conditions: the number fits 64 bits.
-/
import Derived.Test.YtpkekdgpkalceaaProg
import Derived.Test.YtpkekdgpkalceaaBase
import Derived.Test.YtpkekdgpkalceaaTabsM
namespace Go.Proofs.Ytpkekdgpkalceaa
open Go.RowKit
set_option linter.unusedVariables false

theorem Try.infoInt : (Try.prog.info? 3).map (fun i => (i.zero, i.size, i.bytes)) = some (some (.int .i64 0), 1, 8) := by kernel_rfl
theorem Try.infoU64 : (Try.prog.info? 30).map (fun i => (i.zero, i.size, i.bytes)) = some (some (.int .u64 0), 1, 8) := by kernel_rfl

theorem and15 (a : Nat) (h : a < 18446744073709551616) : bits .and .u64 (a : Int) 15 = ((a % 16 : Nat) : Int) := by
  have := u64_and_nat a 15 h (by omega)
  rw [nat_mask4] at this
  exact this

theorem letter_walk (x k : Nat) (hx : x < 18446744073709551616) : wrap64 (bits .and .u64 ((x : Int) / 2 ^ (4 * k)) 15) = letter x k := by
  have e : ((x : Int) / 2 ^ (4 * k)) = ((x / 16 ^ k : Nat) : Int) := by
    rw [Int.natCast_ediv, Int.natCast_pow, Int.pow_mul]; rfl
  rw [e, and15 _ (Nat.lt_of_le_of_lt (Nat.div_le_self _ _) hx), IntWalk.wrap64_in _ (by omega)]
  rfl

set_option maxHeartbeats 400000 in
theorem chars_any (x : Nat) (n : Int) (w : World) (hx : x < 18446744073709551616) :
    Calls Try.prog 23 #[.int .u64 x, .int .i64 n] w (RetOwn w 3 (is (letters x (count n)))) := by
  have hm : (count n : Int) = min n 16 ∨ (n < 0 ∧ (count n : Int) = 0) := by unfold count; omega
  have hm16 : count n ≤ 16 := by unfold count; omega
  obtain ⟨i0, hi, hz0, hz1, hz2⟩ := info_parts Try.infoInt
  have hm1 : n < 16 → ∀ k : Nat, ((k : Int) < n ↔ k < count n) := fun h k => by omega
  have hm2 : 16 ≤ n → count n = 16 := fun h => by omega
  have HM := Lib.hid hm
  have HM1 := Lib.hid hm1
  have HM2 := Lib.hid hm2
  clear hm hm1 hm2
  generalize count n = m at *
  go_enter Try.func23, Try.ntmps23
  go_wp2
  all_goals
    go_loopw [5, 9] (fun v i wr => ∃ k : Nat, k ≤ m ∧ i = .int .i64 k ∧ (∃ A c, v = .slice A k c) ∧ wr.ownsRow w.heap.size 3 1 v k (is (letters x k)) ∧ Below w.heap.size w wr) (fun _ i _ => m - (intOf i).toNat)
    case atStart => exact ⟨0, Nat.zero_le _, rfl, ⟨_, _, rfl⟩, World.ownsRow_nil _ _ _ _, Below.refl _ _⟩
    case round =>
      obtain ⟨k, hk, rfl, ⟨A, c, rfl⟩, hown, hbel⟩ := hrel
      go_wp2_with (at_builtin; (refine wp_append1 rfl _ _ _ rfl w.heap.size 3 _ (.int .i64 0) 8 Try.underlying29 Try.infoInt rfl _ _ _ _ rfl hown _ rfl rfl (by omega) (by omega) hbel.size ?_))
      · intro A' c' w' hown' hb'
        have hk16 : k < m := by first | omega | (have hx1 := HM.out; omega)
        rw [letter_walk x k hx] at hown'
        go_wp2
        go_roundw
        case rel => exact ⟨k + 1, by omega, by go_num, ⟨_, _, rfl⟩, by rw [letters_succ, is_append]; exact hown', hbel.trans hb'⟩
        case measure => simp [intOf]; omega
      · have hkm : k = m := by have hx1 := HM.out; omega
        subst hkm
        go_ret
        refine ⟨A, c, ?_, ?_, hbel⟩
        · rw [len_is, len_letters]; rfl
        · rw [len_is, len_letters]; exact hown
end Go.Proofs.Ytpkekdgpkalceaa
