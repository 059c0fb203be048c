/-
  Walks of chapter 3's 'awake' and of the laws ModnReckons, ModnInverts, ModnOnly. Conditions: numbers fit 64 bits.
-/
import Derived.Test.YtppmkoglpfdjnaaDoorModI
import Derived.Test.YtppmkoglpfdjnaaDoorOdd
namespace Go.Proofs.YtppmkoglpfdjnaaDoor
open Go.RowKit Go.Shelf
set_option linter.unusedVariables false

theorem inv3 : invR 3 10 = .tuple #[.int .u64 ((7 : Nat) : Int), .bool true] := by unfold invR; rw [if_pos (by decide)]; rfl
theorem inv2 : invR 2 10 = .tuple #[.int .u64 0, .bool false] := by unfold invR; rw [if_neg (by decide)]
theorem inv64_3 : inv64 3 = 12297829382473034411 := by decide
set_option maxHeartbeats 1000000 in
theorem awake03 (w : World) : Calls Tryd.prog 4 #[] w fun e w' => e = .returned (.bool true) ∧ Below w.heap.size w w' := by
  have H1 := hide (minv_pos 3 10 (by omega) (by omega) (by omega))
  have H2 := hide (minv_pos 2 10 (by omega) (by omega) (by omega))
  rw [inv3] at H1
  rw [inv2] at H2
  go_enter Tryd.func4, Tryd.ntmps4
  go_wp2_with fail
  refine (H1.out _).mono ?_
  rintro e w1 ⟨rfl, hb⟩
  have B : Below w.heap.size w w1 := hb
  clear hb
  go_wp2_with fail
  refine (H2.out _).mono ?_
  rintro e w2 ⟨rfl, hb⟩
  replace B : Below w.heap.size w w2 := below_call B (Nat.le_refl _) hb
  clear hb
  go_wp2_with fail
  refine (odd_yes 3 (by omega) (by omega) _).mono ?_
  rintro e w3 ⟨rfl, rfl⟩
  rw [inv64_3]
  go_wp2_with fail
  go_ret
  exact ⟨rfl, B⟩
end Go.Proofs.YtppmkoglpfdjnaaDoor
