/-
  Walks of chapter 18's functions: at, Check, Eval. Conditions: slices no longer than the form lets them be.
-/
import Derived.Test.YtaeebipcgeembaaPolyB
namespace Go.Proofs.Ytaeebipcgeembaa
open Go.RowKit Go.Shelf
set_option linter.unusedVariables false

theorem head_polyc : 0 = 0 := rfl
def badP (x : Nat) : Bool := !decide (x < 2305843009213693951)
def chkP (l : List Nat) : Int := if l.length < 1 ∨ 64 < l.length then 1 else if l.any badP = true then 2 else 0
def evP (l : List Nat) (x : Nat) : Nat × Int := if chkP l ≠ 0 then (0, chkP l) else if 2305843009213693951 ≤ x then (0, 2) else (pval l x % 2305843009213693951, 0)
theorem chk_len {l : List Nat} (h : chkP l = 0) : l.length ≤ 64 := by
  unfold chkP at h
  split at h <;> omega
end Go.Proofs.Ytaeebipcgeembaa
