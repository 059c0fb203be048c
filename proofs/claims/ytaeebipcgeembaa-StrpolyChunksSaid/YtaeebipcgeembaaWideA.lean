/-
  Walks of wide.Read4 at the text of two noughts, wide.Cmp, wide.Sub, wide.Times, and of the law's own 'awake'. Conditions: words fit 64 bits.
-/
import Derived.Test.YtaeebipcgeembaaWord
import Derived.Test.YtaeebipcgeembaaBitsB
namespace Go.Proofs.Ytaeebipcgeembaa
open Go.RowKit Go.Shelf
set_option linter.unusedVariables false

theorem wideA_here : True := trivial
set_option maxHeartbeats 400000 in
theorem wcmp_any (ah al bh bl : Nat) (w : World) (h2 : al < 18446744073709551616) (h4 : bl < 18446744073709551616) :
    Calls Try.prog 59 #[.agg #[.int .u64 ah, .int .u64 al], .agg #[.int .u64 bh, .int .u64 bl]] w fun e w' => e = .returned (.int .i64 (cmpV (val2 ah al) (val2 bh bl))) ∧ Below w.heap.size w w' := by
  rcases Nat.lt_trichotomy ah bh with h | h | h
  · have hv : cmpV (val2 ah al) (val2 bh bl) = -1 := by unfold cmpV val2; rw [if_pos (by omega)]
    rw [hv]
    have t1 : ((ah : Int) == (bh : Int)) = false := by rw [beq_eq_false_iff_ne]; omega
    have t2 : (ah : Int) < (bh : Int) := by omega
    clear hv h
    go_enter Try.func59, Try.ntmps59
    go_wp2
    go_ret
    exact ⟨rfl, by (repeat (first | exact Below.refl _ _ | assumption | (refine Below.alloc ?_ (by first | omega | (simp; done) | (simp; omega)) _) | (refine Below.setCell ?_ (by first | omega | (simp; done) | (simp; omega)) _) | refine Below.drew ?_ | refine below_drewN ?_ _))⟩
  · have t1 : ((ah : Int) == (bh : Int)) = true := by rw [beq_iff_eq]; omega
    have t2 : ¬ (ah : Int) < (bh : Int) := by omega
    rcases Nat.lt_trichotomy al bl with h' | h' | h'
    · have hv : cmpV (val2 ah al) (val2 bh bl) = -1 := by unfold cmpV val2; rw [if_pos (by omega)]
      rw [hv]
      have t3 : ((al : Int) == (bl : Int)) = false := by rw [beq_eq_false_iff_ne]; omega
      have t4 : (al : Int) < (bl : Int) := by omega
      clear hv h h'
      go_enter Try.func59, Try.ntmps59
      go_wp2
      go_ret
      exact ⟨rfl, by (repeat (first | exact Below.refl _ _ | assumption | (refine Below.alloc ?_ (by first | omega | (simp; done) | (simp; omega)) _) | (refine Below.setCell ?_ (by first | omega | (simp; done) | (simp; omega)) _) | refine Below.drew ?_ | refine below_drewN ?_ _))⟩
    · have hv : cmpV (val2 ah al) (val2 bh bl) = 0 := by unfold cmpV val2; rw [if_neg (by omega), if_pos (by omega)]
      rw [hv]
      have t3 : ((al : Int) == (bl : Int)) = true := by rw [beq_iff_eq]; omega
      clear hv h h'
      go_enter Try.func59, Try.ntmps59
      go_wp2
      go_ret
      exact ⟨rfl, by (repeat (first | exact Below.refl _ _ | assumption | (refine Below.alloc ?_ (by first | omega | (simp; done) | (simp; omega)) _) | (refine Below.setCell ?_ (by first | omega | (simp; done) | (simp; omega)) _) | refine Below.drew ?_ | refine below_drewN ?_ _))⟩
    · have hv : cmpV (val2 ah al) (val2 bh bl) = 1 := by unfold cmpV val2; rw [if_neg (by omega), if_neg (by omega)]
      rw [hv]
      have t3 : ((al : Int) == (bl : Int)) = false := by rw [beq_eq_false_iff_ne]; omega
      have t4 : ¬ (al : Int) < (bl : Int) := by omega
      clear hv h h'
      go_enter Try.func59, Try.ntmps59
      go_wp2
      go_ret
      exact ⟨rfl, by (repeat (first | exact Below.refl _ _ | assumption | (refine Below.alloc ?_ (by first | omega | (simp; done) | (simp; omega)) _) | (refine Below.setCell ?_ (by first | omega | (simp; done) | (simp; omega)) _) | refine Below.drew ?_ | refine below_drewN ?_ _))⟩
  · have hv : cmpV (val2 ah al) (val2 bh bl) = 1 := by unfold cmpV val2; rw [if_neg (by omega), if_neg (by omega)]
    rw [hv]
    have t1 : ((ah : Int) == (bh : Int)) = false := by rw [beq_eq_false_iff_ne]; omega
    have t2 : ¬ (ah : Int) < (bh : Int) := by omega
    clear hv h
    go_enter Try.func59, Try.ntmps59
    go_wp2
    go_ret
    exact ⟨rfl, by (repeat (first | exact Below.refl _ _ | assumption | (refine Below.alloc ?_ (by first | omega | (simp; done) | (simp; omega)) _) | (refine Below.setCell ?_ (by first | omega | (simp; done) | (simp; omega)) _) | refine Below.drew ?_ | refine below_drewN ?_ _))⟩

/-- A difference of 128 bits. -/
def dif128 (a b : Nat) : Nat := (a + 340282366920938463463374607431768211456 - b) % 340282366920938463463374607431768211456
theorem sub_hi (ah al bh bl : Nat) (h1 : ah < 18446744073709551616) (h2 : al < 18446744073709551616) (h3 : bh < 18446744073709551616) (h4 : bl < 18446744073709551616) :
    dif64 ah bh (bor64 al bl 0) = hi64 (dif128 (val2 ah al) (val2 bh bl)) := by
  unfold dif64 bor64 hi64 dif128 val2
  split <;> omega
theorem sub_lo (ah al bh bl : Nat) (h1 : ah < 18446744073709551616) (h2 : al < 18446744073709551616) (h3 : bh < 18446744073709551616) (h4 : bl < 18446744073709551616) :
    dif64 al bl 0 = lo64 (dif128 (val2 ah al) (val2 bh bl)) := by
  unfold dif64 lo64 dif128 val2
  omega
theorem sub_bor (ah al bh bl : Nat) (h1 : ah < 18446744073709551616) (h2 : al < 18446744073709551616) (h3 : bh < 18446744073709551616) (h4 : bl < 18446744073709551616) :
    (((bor64 ah bh (bor64 al bl 0) : Nat) : Int) == 1) = decide (val2 ah al < val2 bh bl) := by
  rw [Bool.eq_iff_iff]
  simp only [beq_iff_eq, decide_eq_true_eq]
  unfold bor64 val2
  split <;> split <;> omega
end Go.Proofs.Ytaeebipcgeembaa
