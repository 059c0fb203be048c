/-
  Walks of the reference's numbers as rows of bits: astragalref01. Conditions: the numbers fit their bits.
-/
import Derived.Test.YtaeebipcgeembaaProg
import Derived.Test.YtaeebipcgeembaaBase
import Derived.Test.YtaeebipcgeembaaBitsM
import Derived.Test.YtaeebipcgeembaaWordM
import Derived.Deep.RegionHeld3
namespace Go.Proofs.Ytaeebipcgeembaa
open Go.RowKit
set_option linter.unusedVariables false

theorem Try.infoInt : (Try.prog.info? 3).map (fun i => (i.zero, i.size, i.bytes)) = some (some (.int .i64 0), 1, 8) := by kernel_rfl

/-- It hands back a number's bits in a slice of its own. -/
def RetBits (w : World) (X n : Nat) (e : Ending) (w' : World) : Prop :=
  ∃ A c, e = .returned (.slice A n c) ∧ w'.ownsRow w.heap.size 3 1 (.slice A n c) n (is (bitsOf X n)) ∧ Below w.heap.size w w'
def RetBits2 (w : World) (X n : Nat) (k : Int) (e : Ending) (w' : World) : Prop :=
  ∃ A c, e = .returned (.tuple #[.slice A n c, .int .i64 k]) ∧ w'.ownsRow w.heap.size 3 1 (.slice A n c) n (is (bitsOf X n)) ∧ Below w.heap.size w w'

theorem of_walk (x k : Nat) : wrap64 (((x : Int) / 2 ^ k).tmod 2) = ((bt x k : Nat) : Int) := by
  have e : ((x : Int) / 2 ^ k) = ((x / 2 ^ k : Nat) : Int) := by rw [Int.natCast_ediv, Int.natCast_pow]; rfl
  unfold bt
  rw [e]
  generalize x / 2 ^ k = y
  rw [Int.tmod_eq_emod_of_nonneg (by omega), IntWalk.wrap64_in _ (by omega)]
  omega

/-- A bit, or 0 where there is none. -/
def btI (X : Nat) (i : Int) : Nat := if i < 0 then 0 else bt X i.toNat
theorem btI_nat (X k : Nat) : btI X (k : Int) = bt X k := by unfold btI; rw [if_neg (by omega)]; simp
end Go.Proofs.Ytaeebipcgeembaa
