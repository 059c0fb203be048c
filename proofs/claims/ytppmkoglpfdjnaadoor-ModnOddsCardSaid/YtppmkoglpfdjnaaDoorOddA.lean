/-
  Plain laws of odd numbers' inverses and of factors 2; walks of TrailingZeros64, modn.Left and the reference's Twos. Conditions: the library's table is as its text lays it.
-/
import Derived.Test.YtppmkoglpfdjnaaDoorOdd
import Derived.Test.YtppmkoglpfdjnaaDoorRefU
import Derived.Shelf.Spec.TrailingZeros
namespace Go.Proofs.YtppmkoglpfdjnaaDoor
open Go.RowKit
set_option linter.unusedVariables false

/-- The inverse of the inverse. -/
theorem inv64_odd (a : Nat) (h : a % 2 = 1) : inv64 a % 2 = 1 := by
  have h1 := inv64_mod a h
  rcases Nat.mod_two_eq_zero_or_one (inv64 a) with h2 | h2
  · exfalso
    have : a * inv64 a % 2 = 0 := by rw [Nat.mul_mod, h2, Nat.mul_zero]
    omega
  · exact h2
theorem inv64_back (a : Nat) (ha : a < 18446744073709551616) (h : a % 2 = 1) : inv64 (inv64 a) = a := by
  have h1 := inv64_mod a h
  have h2 := inv64_mod (inv64 a) (inv64_odd a h)
  have h3 := inv64_lt (inv64 a)
  generalize inv64 (inv64 a) = y at *
  generalize inv64 a = x at *
  have e1 : a * x * y % 18446744073709551616 = y % 18446744073709551616 := by rw [Nat.mul_mod, h1, Nat.one_mul, Nat.mod_mod]
  have e2 : a * (x * y) % 18446744073709551616 = a % 18446744073709551616 := by rw [Nat.mul_mod, h2, Nat.mul_one, Nat.mod_mod]
  rw [Nat.mul_assoc] at e1
  omega

/-- The library's table of de Bruijn, in its variable's block. -/
def TabW (w : World) : Prop := ∀ j, j < 64 → w.cell? ⟨0, j, none⟩ = some (.int .u8 (Lib.deBruijn64tab.getD j 0))
theorem TabW.call {w w1 : World} (h : TabW w) (hb : Below w.heap.size w w1) : TabW w1 := fun j hj => cell_call hb (h j hj)

set_option maxHeartbeats 1000000 in
theorem tz_core (x k idx : Nat) (w : World) (hx0 : ((x : Int) == 0) = false)
    (key : IntKind.u64.wrap (bits BinOp.and IntKind.u64 (x : Int) (IntKind.u64.wrap (-(x : Int))) * 285870213051353865) / 288230376151711744 = (idx : Int))
    (hi : idx < 64) (hk : k < 64) (hcell : w.cell? ⟨0, idx, none⟩ = some (.int .u8 k)) :
    Calls Tryd.prog 20 #[.int .u64 x] w fun e w' => e = .returned (.int .i64 k) ∧ w = w' := by
  go_enter Tryd.func20, Tryd.ntmps20
  go_wp2_with (simp only [key])
  go_ret
  exact ⟨rfl, rfl⟩
theorem tz_zero (w : World) : Calls Tryd.prog 20 #[.int .u64 0] w fun e w' => e = .returned (.int .i64 64) ∧ w = w' := by
  go_enter Tryd.func20, Tryd.ntmps20
  go_wp2_with fail
  go_ret
  exact ⟨rfl, rfl⟩
theorem ctz_zero : Lib.ctz 64 0 = 64 := by unfold Lib.ctz; rw [if_pos rfl]
theorem tz_any (x : Nat) (hx : x < 18446744073709551616) (w : World) (hT : TabW w) :
    Calls Tryd.prog 20 #[.int .u64 x] w fun e w' => e = .returned (.int .i64 (Lib.ctz 64 x : Nat)) ∧ w = w' := by
  by_cases hx0 : x = 0
  · subst hx0
    rw [ctz_zero]
    exact tz_zero w
  · obtain ⟨hlow, hk⟩ := Lib.lowest_bit 64 x hx0 hx
    obtain ⟨hi, htab⟩ := Lib.deBruijn64_at _ hk
    have hcell := hT _ hi
    rw [htab] at hcell
    exact tz_core x _ _ w (by simp; omega) (tz64_key x _ hx hx0 hlow) hi hk hcell

theorem ctz_le (x : Nat) (hx : x < 18446744073709551616) : Lib.ctz 64 x ≤ 64 := by
  by_cases h : x = 0
  · subst h; exact Nat.le_refl _
  · exact Nat.le_of_lt (Lib.lowest_bit 64 x h hx).2
set_option maxHeartbeats 1000000 in
theorem left_any (x : Nat) (hx : x < 18446744073709551616) (w : World) (hT : TabW w) :
    Calls Tryd.prog 11 #[.int .u64 x] w fun e w' => e = .returned (.tuple #[.int .u64 (x / 2 ^ Lib.ctz 64 x : Nat), .int .i64 (Lib.ctz 64 x : Nat)]) ∧ w = w' := by
  have C := hide (tz_any x hx w hT)
  have hk := ctz_le x hx
  clear hT
  generalize Lib.ctz 64 x = k at *
  have t1 : (0 : Int) ≤ (k : Int) := by omega
  have t2 : (k : Int) ≤ 64 := by omega
  go_enter Tryd.func11, Tryd.ntmps11
  go_wp2_with fail
  refine C.out.mono ?_
  rintro e w1 ⟨rfl, rfl⟩
  go_wp2_with fail
  go_ret2
  exact ⟨rfl, rfl⟩
theorem ctz_spec (x : Nat) (h0 : x ≠ 0) (hx : x < 18446744073709551616) : x / 2 ^ Lib.ctz 64 x % 2 = 1 ∧ x / 2 ^ Lib.ctz 64 x * 2 ^ Lib.ctz 64 x = x := by
  obtain ⟨m, h1, _⟩ := Lib.ctzFrom_spec 64 x (by omega) hx
  have e : Lib.ctz 64 x = Lib.ctzFrom 64 x := by unfold Lib.ctz; rw [if_neg h0]
  rw [e]
  generalize Lib.ctzFrom 64 x = k at *
  have hp : 0 < 2 ^ k := Nat.two_pow_pos k
  have hd : x / 2 ^ k = 2 * m + 1 := by
    rw [h1, Nat.mul_div_cancel_left _ hp]
  rw [hd]
  constructor
  · omega
  · rw [h1, Nat.mul_comm]
end Go.Proofs.YtppmkoglpfdjnaaDoor
