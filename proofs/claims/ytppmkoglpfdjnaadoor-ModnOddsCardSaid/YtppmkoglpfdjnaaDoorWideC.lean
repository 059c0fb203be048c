/-
  Walks of wide.Times and wide.Shl. Conditions: words fit 64 bits.
-/
import Derived.Test.YtppmkoglpfdjnaaDoorWideA
namespace Go.Proofs.YtppmkoglpfdjnaaDoor
open Go.RowKit Go.Shelf
set_option linter.unusedVariables false

theorem u64_of (n : Nat) : IntKind.u64.wrap (n : Int) = ((n % 18446744073709551616 : Nat) : Int) := by rw [IntKind.wrap_u64]; omega
theorem times_hi (ah al bh bl : Nat) : (hi64 (al * bl) + (ah * bl % 18446744073709551616 + al * bh % 18446744073709551616) % 18446744073709551616) % 18446744073709551616 = hi64 (val2 ah al * val2 bh bl) := by
  have e : val2 ah al * val2 bh bl = (ah * bh * 18446744073709551616 + (ah * bl + al * bh)) * 18446744073709551616 + al * bl := by
    unfold val2
    rw [Nat.add_mul, Nat.mul_add, Nat.mul_add]
    have e1 : ah * 18446744073709551616 * (bh * 18446744073709551616) = ah * bh * 18446744073709551616 * 18446744073709551616 := by
      rw [Nat.mul_assoc, Nat.mul_left_comm 18446744073709551616 bh, ← Nat.mul_assoc, Nat.mul_assoc (ah * bh)]
    have e2 : ah * 18446744073709551616 * bl = ah * bl * 18446744073709551616 := by rw [Nat.mul_right_comm]
    have e3 : al * (bh * 18446744073709551616) = al * bh * 18446744073709551616 := by rw [Nat.mul_assoc]
    rw [e1, e2, e3, Nat.add_mul, Nat.add_mul]
    omega
  rw [e]
  generalize ah * bh = p; generalize ah * bl = q; generalize al * bh = r; generalize al * bl = s
  unfold hi64
  omega
theorem times_lo (ah al bh bl : Nat) : lo64 (al * bl) = lo64 (val2 ah al * val2 bh bl) := by
  unfold lo64 val2
  rw [Nat.mul_mod (ah * 18446744073709551616 + al), Nat.mul_add_mod_self_right, Nat.mul_add_mod_self_right, ← Nat.mul_mod]

set_option maxHeartbeats 1000000 in
theorem wtimes_any (ah al bh bl : Nat) (w : World) (h1 : ah < 18446744073709551616) (h2 : al < 18446744073709551616) (h3 : bh < 18446744073709551616) (h4 : bl < 18446744073709551616) :
    Calls Tryd.prog 10 #[.agg #[.int .u64 ah, .int .u64 al], .agg #[.int .u64 bh, .int .u64 bl]] w (Ret128 w (val2 ah al * val2 bh bl)) := by
  go_enter Tryd.func10, Tryd.ntmps10
  go_wp2_with fail
  refine (wmul_any al bl _ h2 h4).mono ?_
  rintro e w1 ⟨rfl, hb1⟩
  have q1 : w1.cell? ⟨w.heap.size, 0, none⟩ = some (.int .u64 ah) := cell_call hb1 (by simp [go_sem])
  have q2 : w1.cell? ⟨w.heap.size, 1, none⟩ = some (.int .u64 al) := cell_call hb1 (by simp [go_sem])
  have q3 : w1.cell? ⟨w.heap.size + 1, 0, none⟩ = some (.int .u64 bh) := cell_call hb1 (by simp [go_sem])
  have q4 : w1.cell? ⟨w.heap.size + 1, 1, none⟩ = some (.int .u64 bl) := cell_call hb1 (by simp [go_sem])
  have q5 : w1.cell? ⟨w.heap.size + 1 + 1, 0, none⟩ = some (.int .u64 0) := cell_call hb1 (by simp [go_sem])
  have q6 : w1.cell? ⟨w.heap.size + 1 + 1, 1, none⟩ = some (.int .u64 0) := cell_call hb1 (by simp [go_sem])
  have z := hb1.size
  simp at z
  have f5 : w1.frozen? ⟨w.heap.size + 1 + 1, 0, none⟩ = false := (hb1.frozen (by simp)).trans (by simp [go_sem])
  have f6 : w1.frozen? ⟨w.heap.size + 1 + 1, 1, none⟩ = false := (hb1.frozen (by simp)).trans (by simp [go_sem])
  have y0 : w.heap.size < w1.heap.size := by omega
  have y1 : w.heap.size + 1 < w1.heap.size := by omega
  have y2 : w.heap.size + 1 + 1 < w1.heap.size := by omega
  have B1 : Below w.heap.size w w1 := ((((Below.refl _ w).alloc (Nat.le_refl _) _).alloc (by simp) _).alloc (by simp; omega) _).trans (hb1.mono (by simp; omega))
  clear hb1 z
  go_wp2
  have eh : IntKind.u64.wrap ((hi64 (al * bl) : Nat) + IntKind.u64.wrap (IntKind.u64.wrap ((ah : Int) * bl) + IntKind.u64.wrap ((al : Int) * bh))) = ((hi64 (val2 ah al * val2 bh bl) : Nat) : Int) := by
    rw [← times_hi, ← Int.natCast_mul, ← Int.natCast_mul, u64_of, u64_of, ← Int.natCast_add, u64_of, ← Int.natCast_add, u64_of]
  have el : lo64 (al * bl) = lo64 (val2 ah al * val2 bh bl) := times_lo ah al bh bl
  refine bodyPost_ret (v := .agg #[.int .u64 (hi64 (val2 ah al * val2 bh bl) : Nat), .int .u64 (lo64 (val2 ah al * val2 bh bl) : Nat)]) ?_ rfl ⟨rfl, by (repeat (first | exact Below.refl _ _ | assumption | (refine Below.alloc ?_ (by first | omega | (simp; done) | (simp; omega)) _) | (refine Below.setCell ?_ (by first | omega | (simp; done) | (simp; omega)) _) | refine Below.drew ?_ | refine below_drewN ?_ _))⟩
  rw [← eh, ← el]
  clear eh el
  simp [results, Tryd.results10, go_sem, q5, q6, y2]
end Go.Proofs.YtppmkoglpfdjnaaDoor
