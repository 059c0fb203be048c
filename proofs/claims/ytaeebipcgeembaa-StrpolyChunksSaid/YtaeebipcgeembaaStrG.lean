/-
  load.Put64 of nothing: eight bytes of a number. Conditions: a word.
-/
import Derived.Test.YtaeebipcgeembaaStrX
namespace Go.Proofs.Ytaeebipcgeembaa
open Go.RowKit
set_option linter.unusedVariables false

/-- The lowest n bytes of a number, the lowest first. -/
def bytesN (x n : Nat) : List Nat := (List.range n).map fun i => x / 256 ^ i % 256
theorem len_bytesN (x n : Nat) : (bytesN x n).length = n := by simp [bytesN]
theorem bytesN_succ (x n : Nat) : bytesN x (n + 1) = bytesN x n ++ [x / 256 ^ n % 256] := by simp [bytesN, List.range_succ]
theorem infoB : (Try.prog.info? 5).map (fun i => (i.zero, i.size, i.bytes)) = some (some (.int .u8 0), 1, 1) := by kernel_rfl
theorem wrap_u8_of (y : Nat) : IntKind.u8.wrap (y : Int) = ((y % 256 : Nat) : Int) := by
  simp only [IntKind.wrap, IntKind.signed, IntKind.bits]
  simp
set_option maxRecDepth 100000 in
set_option maxHeartbeats 4000000 in
theorem put_f (x : Nat) (w : World) :
    Calls Try.prog 48 #[.slice none 0 0, .int .u64 x, .int .i64 8] w fun e w' => ∃ A c, e = .returned (.slice A 8 c) ∧ w'.ownsRow w.heap.size 5 1 (.slice A 8 c) 8 (by8 (bytesN x 8)) ∧ Below w.heap.size w w' := by
  have HSU := hide (bytesN_succ x)
  have HZ := hide (show bytesN x 0 = [] from rfl)
  have HD := hide (fun k => show x / 256 ^ k / 256 = x / 256 ^ (k + 1) by rw [Nat.div_div_eq_div_mul, Nat.pow_succ])
  generalize bytesN x = S at *
  go_enter Try.func48, Try.ntmps48
  go_wp2_with fail
  go_loopg [0, 1, 14] 8 (fun g v0 v1 v14 wr => ∃ (k y : Nat) (A : Option Addr) (c : Nat), g = 8 - k ∧ k ≤ 8 ∧ v14 = .int .i64 k ∧ v1 = .int .u64 y ∧ Hid (y = x / 256 ^ k) ∧ v0 = .slice A k c ∧ wr.ownsRow w.heap.size 5 1 (.slice A k c) k (by8 (S k)) ∧ Below w.heap.size w wr)
  case atStart => exact ⟨0, x, _, _, rfl, by omega, rfl, rfl, hide (by simp), rfl, by rw [HZ.out]; exact World.ownsRow_nil _ _ _ _, Below.refl _ _⟩
  case round =>
    obtain ⟨k, y, A, c, hg, hk, rfl, rfl, HY, rfl, hown, B⟩ := hrel
    have HG := hide hg
    clear hg
    by_cases hlt : k < 8
    · have t1 : (k : Int) < 8 := by omega
      have hsk := HSU.out k
      rw [← HY.out] at hsk
      have HY2 := hide (show y / 256 = x / 256 ^ (k + 1) by rw [HY.out]; exact HD.out k)
      obtain ⟨v, hv⟩ : ∃ v, v = y % 256 := ⟨_, rfl⟩
      obtain ⟨z, hz⟩ : ∃ z, z = y / 256 := ⟨_, rfl⟩
      have e1 : IntKind.u8.wrap (y : Int) = (v : Int) := by rw [hv]; exact wrap_u8_of y
      have e2 : (y : Int) / 256 = (z : Int) := by rw [hz]; rfl
      rw [← hv] at hsk
      rw [← hz] at HY2
      have HSK := hide hsk
      clear hsk hv hz
      go_wp2_with (at_builtin; (refine wp_append1 rfl _ _ _ rfl w.heap.size 5 _ (.int .u8 0) 1 Try.underlying23 infoB rfl _ _ _ _ rfl hown _ rfl rfl (by omega) (by omega) B.size ?_))
      intro A3 c3 w4 hown2 hb4
      go_wp2_with fail
      go_roundg (8 - (k + 1))
      case measure => rw [HG.out]; omega
      case rel => exact ⟨k + 1, z, A3, c3, rfl, by omega, by go_num, rfl, HY2, rfl, by rw [HSK.out, by8_append]; exact hown2, B.trans hb4⟩
    · have t1 : ¬ (k : Int) < 8 := by omega
      obtain rfl : k = 8 := by omega
      go_wp2_with fail
      go_ret
      exact ⟨A, c, rfl, hown, B⟩
theorem put64_f (x : Nat) (w : World) :
    Calls Try.prog 32 #[.slice none 0 0, .int .u64 x] w fun e w' => ∃ A c, e = .returned (.slice A 8 c) ∧ w'.ownsRow w.heap.size 5 1 (.slice A 8 c) 8 (by8 (bytesN x 8)) ∧ Below w.heap.size w w' := by
  have h := put_f x w
  generalize bytesN x 8 = L at *
  go_enter Try.func32, Try.ntmps32
  go_wp2_with (go_at_call 48; (with_reducible refine h.mono ?_); rintro e w2 ⟨A, c, rfl, ho, hb⟩)
  go_ret
  exact ⟨A, c, rfl, ho, hb⟩
end Go.Proofs.Ytaeebipcgeembaa
