/-
  Walks of wide.Read4 at the text of two noughts, wide.Cmp, wide.Sub, wide.Times, and of the law's own 'awake'. Conditions: words fit 64 bits.
-/
import Derived.Test.YtppmkoglpfdjnaaDoorWord
import Derived.Test.YtppmkoglpfdjnaaDoorBitsB
namespace Go.Proofs.YtppmkoglpfdjnaaDoor
open Go.RowKit Go.Shelf
set_option linter.unusedVariables false

theorem wideA_here : True := trivial
/-- A difference of 128 bits. -/
def dif128 (a b : Nat) : Nat := (a + 340282366920938463463374607431768211456 - b) % 340282366920938463463374607431768211456
theorem sub_hi (ah al bh bl : Nat) (h1 : ah < 18446744073709551616) (h2 : al < 18446744073709551616) (h3 : bh < 18446744073709551616) (h4 : bl < 18446744073709551616) :
    dif64 ah bh (bor64 al bl 0) = hi64 (dif128 (val2 ah al) (val2 bh bl)) := by
  unfold dif64 bor64 hi64 dif128 val2
  split <;> omega
theorem sub_lo (ah al bh bl : Nat) (h1 : ah < 18446744073709551616) (h2 : al < 18446744073709551616) (h3 : bh < 18446744073709551616) (h4 : bl < 18446744073709551616) :
    dif64 al bl 0 = lo64 (dif128 (val2 ah al) (val2 bh bl)) := by
  unfold dif64 lo64 dif128 val2
  omega
theorem sub_bor (ah al bh bl : Nat) (h1 : ah < 18446744073709551616) (h2 : al < 18446744073709551616) (h3 : bh < 18446744073709551616) (h4 : bl < 18446744073709551616) :
    (((bor64 ah bh (bor64 al bl 0) : Nat) : Int) == 1) = decide (val2 ah al < val2 bh bl) := by
  rw [Bool.eq_iff_iff]
  simp only [beq_iff_eq, decide_eq_true_eq]
  unfold bor64 val2
  split <;> split <;> omega
set_option maxHeartbeats 400000 in
theorem wsub_any (ah al bh bl : Nat) (w : World) (h1 : ah < 18446744073709551616) (h2 : al < 18446744073709551616) (h3 : bh < 18446744073709551616) (h4 : bl < 18446744073709551616) :
    Calls Tryd.prog 14 #[.agg #[.int .u64 ah, .int .u64 al], .agg #[.int .u64 bh, .int .u64 bl]] w fun e w' =>
      e = .returned (.tuple #[.agg #[.int .u64 (hi64 (dif128 (val2 ah al) (val2 bh bl)) : Nat), .int .u64 (lo64 (dif128 (val2 ah al) (val2 bh bl)) : Nat)], .bool (decide (val2 ah al < val2 bh bl))]) ∧ Below w.heap.size w w' := by
  have hc := bor64_le al bl 0
  go_enter Tryd.func14, Tryd.ntmps14
  go_wp2_with (first | simp only [sub64_0 al bl] | simp only [sub64 ah bh _ hc])
  exact bodyPost_ret (v := .tuple #[.agg #[.int .u64 (dif64 ah bh (bor64 al bl 0) : Nat), .int .u64 (dif64 al bl 0 : Nat)], .bool (((bor64 ah bh (bor64 al bl 0) : Nat) : Int) == 1)]) (by simp [results, Tryd.results14, go_sem]) rfl ⟨by rw [sub_hi ah al bh bl h1 h2 h3 h4, sub_lo ah al bh bl h1 h2 h3 h4, sub_bor ah al bh bl h1 h2 h3 h4], by (repeat (first | exact Below.refl _ _ | assumption | (refine Below.alloc ?_ (by first | omega | (simp; done) | (simp; omega)) _) | (refine Below.setCell ?_ (by first | omega | (simp; done) | (simp; omega)) _) | refine Below.drew ?_ | refine below_drewN ?_ _))⟩

end Go.Proofs.YtppmkoglpfdjnaaDoor
