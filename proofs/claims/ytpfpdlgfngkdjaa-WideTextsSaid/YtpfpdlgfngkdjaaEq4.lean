/-
  Two numbers of 256 bits held against each other, as the walk meets it. Conditions: none.
-/
import Derived.Test.YtpfpdlgfngkdjaaProg
import Derived.WalkKit
import Derived.ChangeKeysEq
namespace Go.Proofs.Ytpfpdlgfngkdjaa
open Go.RowKit
set_option linter.unusedVariables false

theorem info_u64 : ∃ i, Try.prog.info? 22 = some i := by
  have h : (Try.prog.info? 22).isSome = true := by kernel_rfl
  exact Option.isSome_iff_exists.1 h
theorem cells_u64 : Try.prog.cellsOf 22 = 1 := by kernel_rfl
theorem eq4 (a0 a1 a2 a3 b0 b1 b2 b3 : Int) (w : World) : (Op.equalIn 10000 24 (.agg #[.int .u64 a0, .int .u64 a1, .int .u64 a2, .int .u64 a3]) (.agg #[.int .u64 b0, .int .u64 b1, .int .u64 b2, .int .u64 b3])).run Try.prog w = .ok ((a0 == b0) && ((a1 == b1) && ((a2 == b2) && (a3 == b3)))) w := by
  obtain ⟨i, hi⟩ := info_u64
  rw [run_equalIn_array w 9999 _ _ Try.underlying24 hi, cells_u64]
  simp only [List.range_succ, List.range_zero, List.nil_append, List.cons_append, Op.eqItems, Sem.run_bind]
  cases h0 : (a0 == b0) <;> cases h1 : (a1 == b1) <;> cases h2 : (a2 == b2) <;> cases h3 : (a3 == b3) <;> simp [part, go_sem, Try.isAgg22, Try.underlying22, h0, h1, h2, h3]
end Go.Proofs.Ytpfpdlgfngkdjaa
