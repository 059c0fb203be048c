/-
  Walks of chapter 18's reference: Mul, Minus. Conditions: slices no longer than the form lets them be.
-/
import Derived.Test.YtaeebipcgeembaaPolyN
namespace Go.Proofs.Ytaeebipcgeembaa
open Go.RowKit Go.Shelf
set_option linter.unusedVariables false

theorem minus_r (x : Nat) (hx : x < 18446744073709551616) (w : World) : Calls Try.prog 38 #[.int .u64 x] w fun e w' => e = .returned (.int .u64 (negP x : Nat)) ∧ w = w' := by
  have hn : ((negP x : Nat) : Int) = (2305843009213693951 - (x : Int) % 2305843009213693951) % 2305843009213693951 := by unfold negP; omega
  have HN := hide hn
  clear hn
  generalize negP x = m at *
  go_enter Try.func38, Try.ntmps38
  go_wp2
  go_ret
  exact ⟨ret_i HN.out.symm, rfl⟩
end Go.Proofs.Ytaeebipcgeembaa
