/-
  Walks of chapter 18's 'awake' and of the law PolyEvals. Conditions: slices no longer than the form lets them be.
-/
import Derived.Test.YtaeebipcgeembaaPolyP
namespace Go.Proofs.Ytaeebipcgeembaa
open Go.RowKit Go.Shelf
set_option linter.unusedVariables false

theorem Rs.new2 (w : World) (x y : Nat) (t : TypeId) : Rs (w.alloc (.cells #[.int .u64 x, .int .u64 y] t)) (some ⟨w.heap.size, 0, none⟩) (us [x, y]) := by
  intro _
  refine ⟨_, _, rfl, by simp, fun j u hu => ?_⟩
  match j, hu with
  | 0, hu =>
    injection hu with hu
    subst hu
    simp [go_sem]
  | 1, hu =>
    injection hu with hu
    subst hu
    simp [go_sem]
theorem ev12 : evP [1, 2] 3 = (7, 0) := by decide
theorem mul11 : (mulP [1, 1] [1, 1]).length = 3 := by decide
end Go.Proofs.Ytaeebipcgeembaa
