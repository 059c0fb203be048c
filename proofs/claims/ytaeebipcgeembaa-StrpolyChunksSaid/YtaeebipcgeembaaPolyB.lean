/-
  Walks of chapter 18's functions: plus, times, Trim, Divide, at; the reference's Value. Conditions: slices no longer than the form lets them be.
-/
import Derived.Test.YtaeebipcgeembaaPolyA
namespace Go.Proofs.Ytaeebipcgeembaa
open Go.RowKit Go.Shelf
set_option linter.unusedVariables false

theorem back_getElem (f : Nat → Nat) (n k : Nat) (h : k < (back f n (k + 1)).length) : (back f n (k + 1))[k] = 0 := by
  simp only [back, List.getElem_map, List.getElem_range]
  rw [if_neg (by omega)]
end Go.Proofs.Ytaeebipcgeembaa
