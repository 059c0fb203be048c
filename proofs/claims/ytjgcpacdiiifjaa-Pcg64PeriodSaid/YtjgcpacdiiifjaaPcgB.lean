/-
  Walks of pcg64.Out at the law's own number, wide.Shl by one, pcg64.Seed. Conditions: words fit 64 bits.
-/
import Derived.Test.YtjgcpacdiiifjaaPcgA
import Derived.Deep.QuietTactic
namespace Go.Proofs.Ytjgcpacdiiifjaa
open Go.RowKit Go.Shelf
set_option linter.unusedVariables false

set_option maxHeartbeats 400000 in
theorem rot0 (w : World) : Calls Try.prog 81 #[.int .u64 7, .int .i64 0] w fun e w' => e = .returned (.int .u64 7) ∧ Below w.heap.size w w' := by
  go_enter Try.func81, Try.ntmps81
  go_wp2_with (first | simp only [show bits .and .u64 0 63 = 0 from by decide] | simp only [show bits .or .u64 7 0 = 7 from by decide])
  go_ret
  exact ⟨rfl, by (repeat (first | exact Below.refl _ _ | assumption | (refine Below.alloc ?_ (by first | omega | (simp; done) | (simp; omega)) _) | (refine Below.setCell ?_ (by first | omega | (simp; done) | (simp; omega)) _) | refine Below.drew ?_ | refine below_drewN ?_ _))⟩

set_option maxHeartbeats 400000 in
theorem lrot0 (w : World) : Calls Try.prog 73 #[.int .u64 7, .int .i64 0] w fun e w' => e = .returned (.int .u64 7) ∧ Below w.heap.size w w' := by
  go_enter Try.func73, Try.ntmps73
  go_wp2_with (fail)
  refine (rot0 _).mono ?_
  rintro e w1 ⟨rfl, hb1⟩
  go_wp2
  go_ret
  exact ⟨rfl, by (repeat (first | exact Below.refl _ _ | assumption | (refine Below.alloc ?_ (by first | omega | (simp; done) | (simp; omega)) _) | (refine Below.setCell ?_ (by first | omega | (simp; done) | (simp; omega)) _) | refine Below.drew ?_ | refine below_drewN ?_ _))⟩

set_option maxHeartbeats 400000 in
theorem out7 (w : World) : Calls Try.prog 38 #[.agg #[.int .u64 0, .int .u64 7]] w fun e w' => e = .returned (.int .u64 7) ∧ Below w.heap.size w w' := by
  go_enter Try.func38, Try.ntmps38
  go_wp2_with (simp only [show bits .xor .u64 0 7 = 7 from by decide])
  refine (lrot0 _).mono ?_
  rintro e w1 ⟨rfl, hb1⟩
  have B1 : Below w.heap.size w w1 := ((Below.refl _ w).alloc (Nat.le_refl _) _).trans (hb1.mono (by simp))
  go_wp2
  go_ret
  exact ⟨rfl, B1⟩

theorem shl1_hi (h l : Nat) (h1 : h < 18446744073709551616) (h2 : l < 18446744073709551616) :
    bits .or .u64 (IntKind.u64.wrap ((h : Int) * 2)) ((l : Int) / 9223372036854775808) = ((hi64 (val2 h l * 2) : Nat) : Int) := by
  have e1 : IntKind.u64.wrap ((h : Int) * 2) = ((h * 2 % 18446744073709551616 : Nat) : Int) := by rw [← u64_of]; rfl
  have e2 : ((l : Int) / 9223372036854775808) = ((l / 9223372036854775808 : Nat) : Int) := rfl
  rw [e1, e2, bits_or_u64_nat _ _ (by omega) (by omega)]
  have h3 : l / 9223372036854775808 = 0 ∨ l / 9223372036854775808 = 1 := by omega
  rcases h3 with h3 | h3
  · rw [h3, Nat.or_zero]; unfold hi64 val2; congr 1; omega
  · rw [h3, or_one]; unfold hi64 val2; congr 1; omega
theorem shl1_lo (h l : Nat) : IntKind.u64.wrap ((l : Int) * 2) = ((lo64 (val2 h l * 2) : Nat) : Int) := by
  have e1 : IntKind.u64.wrap ((l : Int) * 2) = ((l * 2 % 18446744073709551616 : Nat) : Int) := by rw [← u64_of]; rfl
  rw [e1]; unfold lo64 val2; congr 1; omega

set_option maxHeartbeats 400000 in
theorem shl1_any (h l : Nat) (w : World) (h1 : h < 18446744073709551616) (h2 : l < 18446744073709551616) :
    Calls Try.prog 56 #[.agg #[.int .u64 h, .int .u64 l], .int .i64 1] w (Ret128 w (val2 h l * 2)) := by
  go_enter Try.func56, Try.ntmps56
  go_wp2
  have hw : IntKind.i64.wrap 63 = 63 := by decide
  go_region_held3 (fun w' => w'.cell? ⟨w.heap.size, 0, none⟩ = some (.int .u64 h) ∧ w'.cell? ⟨w.heap.size, 1, none⟩ = some (.int .u64 l)) (first | go_keep) (fail)
  go_wp2
  rw [shl1_hi h l h1 h2, shl1_lo h l]
  exact bodyPost_ret (v := .agg #[.int .u64 (hi64 (val2 h l * 2) : Nat), .int .u64 (lo64 (val2 h l * 2) : Nat)]) (by simp [results, Try.results56, go_sem]) rfl ⟨rfl, by (repeat (first | exact Below.refl _ _ | assumption | (refine Below.alloc ?_ (by first | omega | (simp; done) | (simp; omega)) _) | (refine Below.setCell ?_ (by first | omega | (simp; done) | (simp; omega)) _) | refine Below.drew ?_ | refine below_drewN ?_ _))⟩
end Go.Proofs.Ytjgcpacdiiifjaa
