/-
  Walks of wide.Read4 at the text of two noughts, wide.Cmp, wide.Sub, wide.Times, and of the law's own 'awake'. Conditions: words fit 64 bits.
-/
import Derived.Test.YtpfpdlgfngkdjaaWord
import Derived.Test.YtpfpdlgfngkdjaaBitsB
namespace Go.Proofs.Ytpfpdlgfngkdjaa
open Go.RowKit Go.Shelf
set_option linter.unusedVariables false

set_option maxHeartbeats 400000 in
theorem read00 (w : World) : Calls Try.prog 7 #[.string { data := #[48, 48] }] w fun e w' => e = .returned (.tuple #[.agg #[.int .u64 0, .int .u64 0, .int .u64 0, .int .u64 0], .int .i64 5]) ∧ Below w.heap.size w w' := by
  go_enter Try.func7, Try.ntmps7
  go_wp2
  refine wp_loop_rounds 3 ?_
  rw [rounds_succ]
  go_wp2
  rw [rounds_succ]
  go_wp2
  rw [rounds_succ]
  go_wp2
  exact bodyPost_ret (v := .tuple #[.agg #[.int .u64 0, .int .u64 0, .int .u64 0, .int .u64 0], .int .i64 5]) (by simp [results, Try.results7, go_sem]) rfl ⟨rfl, by (repeat (first | exact Below.refl _ _ | assumption | (refine Below.alloc ?_ (by first | omega | (simp; done) | (simp; omega)) _) | (refine Below.setCell ?_ (by first | omega | (simp; done) | (simp; omega)) _) | refine Below.drew ?_ | refine below_drewN ?_ _))⟩

set_option maxHeartbeats 400000 in
theorem wcmp_any (ah al bh bl : Nat) (w : World) (h2 : al < 18446744073709551616) (h4 : bl < 18446744073709551616) :
    Calls Try.prog 23 #[.agg #[.int .u64 ah, .int .u64 al], .agg #[.int .u64 bh, .int .u64 bl]] w fun e w' => e = .returned (.int .i64 (cmpV (val2 ah al) (val2 bh bl))) ∧ Below w.heap.size w w' := by
  rcases Nat.lt_trichotomy ah bh with h | h | h
  · have hv : cmpV (val2 ah al) (val2 bh bl) = -1 := by unfold cmpV val2; rw [if_pos (by omega)]
    rw [hv]
    have t1 : ((ah : Int) == (bh : Int)) = false := by rw [beq_eq_false_iff_ne]; omega
    have t2 : (ah : Int) < (bh : Int) := by omega
    clear hv h
    go_enter Try.func23, Try.ntmps23
    go_wp2
    go_ret
    exact ⟨rfl, by (repeat (first | exact Below.refl _ _ | assumption | (refine Below.alloc ?_ (by first | omega | (simp; done) | (simp; omega)) _) | (refine Below.setCell ?_ (by first | omega | (simp; done) | (simp; omega)) _) | refine Below.drew ?_ | refine below_drewN ?_ _))⟩
  · have t1 : ((ah : Int) == (bh : Int)) = true := by rw [beq_iff_eq]; omega
    have t2 : ¬ (ah : Int) < (bh : Int) := by omega
    rcases Nat.lt_trichotomy al bl with h' | h' | h'
    · have hv : cmpV (val2 ah al) (val2 bh bl) = -1 := by unfold cmpV val2; rw [if_pos (by omega)]
      rw [hv]
      have t3 : ((al : Int) == (bl : Int)) = false := by rw [beq_eq_false_iff_ne]; omega
      have t4 : (al : Int) < (bl : Int) := by omega
      clear hv h h'
      go_enter Try.func23, Try.ntmps23
      go_wp2
      go_ret
      exact ⟨rfl, by (repeat (first | exact Below.refl _ _ | assumption | (refine Below.alloc ?_ (by first | omega | (simp; done) | (simp; omega)) _) | (refine Below.setCell ?_ (by first | omega | (simp; done) | (simp; omega)) _) | refine Below.drew ?_ | refine below_drewN ?_ _))⟩
    · have hv : cmpV (val2 ah al) (val2 bh bl) = 0 := by unfold cmpV val2; rw [if_neg (by omega), if_pos (by omega)]
      rw [hv]
      have t3 : ((al : Int) == (bl : Int)) = true := by rw [beq_iff_eq]; omega
      clear hv h h'
      go_enter Try.func23, Try.ntmps23
      go_wp2
      go_ret
      exact ⟨rfl, by (repeat (first | exact Below.refl _ _ | assumption | (refine Below.alloc ?_ (by first | omega | (simp; done) | (simp; omega)) _) | (refine Below.setCell ?_ (by first | omega | (simp; done) | (simp; omega)) _) | refine Below.drew ?_ | refine below_drewN ?_ _))⟩
    · have hv : cmpV (val2 ah al) (val2 bh bl) = 1 := by unfold cmpV val2; rw [if_neg (by omega), if_neg (by omega)]
      rw [hv]
      have t3 : ((al : Int) == (bl : Int)) = false := by rw [beq_eq_false_iff_ne]; omega
      have t4 : ¬ (al : Int) < (bl : Int) := by omega
      clear hv h h'
      go_enter Try.func23, Try.ntmps23
      go_wp2
      go_ret
      exact ⟨rfl, by (repeat (first | exact Below.refl _ _ | assumption | (refine Below.alloc ?_ (by first | omega | (simp; done) | (simp; omega)) _) | (refine Below.setCell ?_ (by first | omega | (simp; done) | (simp; omega)) _) | refine Below.drew ?_ | refine below_drewN ?_ _))⟩
  · have hv : cmpV (val2 ah al) (val2 bh bl) = 1 := by unfold cmpV val2; rw [if_neg (by omega), if_neg (by omega)]
    rw [hv]
    have t1 : ((ah : Int) == (bh : Int)) = false := by rw [beq_eq_false_iff_ne]; omega
    have t2 : ¬ (ah : Int) < (bh : Int) := by omega
    clear hv h
    go_enter Try.func23, Try.ntmps23
    go_wp2
    go_ret
    exact ⟨rfl, by (repeat (first | exact Below.refl _ _ | assumption | (refine Below.alloc ?_ (by first | omega | (simp; done) | (simp; omega)) _) | (refine Below.setCell ?_ (by first | omega | (simp; done) | (simp; omega)) _) | refine Below.drew ?_ | refine below_drewN ?_ _))⟩

/-- A difference of 128 bits. -/
def dif128 (a b : Nat) : Nat := (a + 340282366920938463463374607431768211456 - b) % 340282366920938463463374607431768211456
theorem sub_hi (ah al bh bl : Nat) (h1 : ah < 18446744073709551616) (h2 : al < 18446744073709551616) (h3 : bh < 18446744073709551616) (h4 : bl < 18446744073709551616) :
    dif64 ah bh (bor64 al bl 0) = hi64 (dif128 (val2 ah al) (val2 bh bl)) := by
  unfold dif64 bor64 hi64 dif128 val2
  split <;> omega
theorem sub_lo (ah al bh bl : Nat) (h1 : ah < 18446744073709551616) (h2 : al < 18446744073709551616) (h3 : bh < 18446744073709551616) (h4 : bl < 18446744073709551616) :
    dif64 al bl 0 = lo64 (dif128 (val2 ah al) (val2 bh bl)) := by
  unfold dif64 lo64 dif128 val2
  omega
theorem sub_bor (ah al bh bl : Nat) (h1 : ah < 18446744073709551616) (h2 : al < 18446744073709551616) (h3 : bh < 18446744073709551616) (h4 : bl < 18446744073709551616) :
    (((bor64 ah bh (bor64 al bl 0) : Nat) : Int) == 1) = decide (val2 ah al < val2 bh bl) := by
  rw [Bool.eq_iff_iff]
  simp only [beq_iff_eq, decide_eq_true_eq]
  unfold bor64 val2
  split <;> split <;> omega
set_option maxHeartbeats 400000 in
theorem wsub_any (ah al bh bl : Nat) (w : World) (h1 : ah < 18446744073709551616) (h2 : al < 18446744073709551616) (h3 : bh < 18446744073709551616) (h4 : bl < 18446744073709551616) :
    Calls Try.prog 40 #[.agg #[.int .u64 ah, .int .u64 al], .agg #[.int .u64 bh, .int .u64 bl]] w fun e w' =>
      e = .returned (.tuple #[.agg #[.int .u64 (hi64 (dif128 (val2 ah al) (val2 bh bl)) : Nat), .int .u64 (lo64 (dif128 (val2 ah al) (val2 bh bl)) : Nat)], .bool (decide (val2 ah al < val2 bh bl))]) ∧ Below w.heap.size w w' := by
  have hc := bor64_le al bl 0
  go_enter Try.func40, Try.ntmps40
  go_wp2_with (first | simp only [sub64_0 al bl] | simp only [sub64 ah bh _ hc])
  exact bodyPost_ret (v := .tuple #[.agg #[.int .u64 (dif64 ah bh (bor64 al bl 0) : Nat), .int .u64 (dif64 al bl 0 : Nat)], .bool (((bor64 ah bh (bor64 al bl 0) : Nat) : Int) == 1)]) (by simp [results, Try.results40, go_sem]) rfl ⟨by rw [sub_hi ah al bh bl h1 h2 h3 h4, sub_lo ah al bh bl h1 h2 h3 h4, sub_bor ah al bh bl h1 h2 h3 h4], by (repeat (first | exact Below.refl _ _ | assumption | (refine Below.alloc ?_ (by first | omega | (simp; done) | (simp; omega)) _) | (refine Below.setCell ?_ (by first | omega | (simp; done) | (simp; omega)) _) | refine Below.drew ?_ | refine below_drewN ?_ _))⟩

set_option maxHeartbeats 400000 in
theorem awake_wide (w : World) : Calls Try.prog 5 #[] w fun e w' => e = .returned (.bool true) ∧ Below w.heap.size w w' := by
  go_enter Try.func5, Try.ntmps5
  go_wp2_with fail
  refine (read00 _).mono ?_
  rintro e w1 ⟨rfl, hb1⟩
  go_wp2_with fail
  refine (wmul_any 9223372036854775808 2 _ (by omega) (by omega)).mono ?_
  rintro e w2 ⟨rfl, hb2⟩
  rw [show hi64 (9223372036854775808 * 2) = 1 by decide, show lo64 (9223372036854775808 * 2) = 0 by decide]
  go_wp2_with fail
  refine (wcmp_any 0 1 0 0 _ (by omega) (by omega)).mono ?_
  rintro e w3 ⟨rfl, hb3⟩
  rw [show cmpV (val2 0 1) (val2 0 0) = 1 by decide]
  go_wp2
  go_ret
  refine ⟨rfl, hb1.trans ?_⟩
  have h2 := hb2.trans (hb3.mono hb2.size)
  have h1 : Below w1.heap.size w1 (w1.alloc (.cells #[.int .u64 0, .int .u64 0, .int .u64 0, .int .u64 0] 24)) := (Below.refl _ _).alloc (Nat.le_refl _) _
  exact (h1.trans (h2.mono (by simp))).mono hb1.size
end Go.Proofs.Ytpfpdlgfngkdjaa
