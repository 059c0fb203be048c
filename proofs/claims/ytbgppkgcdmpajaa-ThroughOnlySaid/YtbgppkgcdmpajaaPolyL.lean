/-
  Walks of chapter 18's 'awake' and of the law PolyEvals. Conditions: slices no longer than the form lets them be.
-/
import Derived.Test.YtbgppkgcdmpajaaPolyP
namespace Go.Proofs.Ytbgppkgcdmpajaa
open Go.RowKit Go.Shelf
set_option linter.unusedVariables false

theorem Rs.new2 (w : World) (x y : Nat) (t : TypeId) : Rs (w.alloc (.cells #[.int .u64 x, .int .u64 y] t)) (some ⟨w.heap.size, 0, none⟩) (us [x, y]) := by
  intro _
  refine ⟨_, _, rfl, by simp, fun j u hu => ?_⟩
  match j, hu with
  | 0, hu =>
    injection hu with hu
    subst hu
    simp [go_sem]
  | 1, hu =>
    injection hu with hu
    subst hu
    simp [go_sem]
theorem ev12 : evP [1, 2] 3 = (7, 0) := by decide
theorem mul11 : (mulP [1, 1] [1, 1]).length = 3 := by decide
set_option maxRecDepth 100000 in
set_option maxHeartbeats 2000000 in
theorem awake18 (w : World) : Calls Try.prog 30 #[] w fun e w' => e = .returned (.bool true) ∧ Below w.heap.size w w' := by
  go_enter Try.func30, Try.ntmps30
  go_wp2_with fail
  refine (eval_p (some ⟨w.heap.size, 0, none⟩) _ 0 [1, 2] 2 3 _ (by first | exact Rs.new2 w 1 2 _ | exact (Rs.new2 w 1 2 _).drew) (by decide) rfl (by decide) (by omega)).mono ?_
  rintro e w3 ⟨rfl, hb⟩
  rw [ev12]
  have B : Below w.heap.size w w3 := below_call (by (repeat (first | exact Below.refl _ _ | assumption | (refine Below.alloc ?_ (by first | omega | (simp; done) | (simp; omega)) _) | (refine Below.setCell ?_ (by first | omega | (simp; done) | (simp; omega)) _) | refine Below.drew ?_ | refine below_drewN ?_ _))) (Nat.le_refl _) hb
  clear hb
  go_wp2_with fail
  have R1 := fun t t' => (Rs.new2 w3 1 1 t).alloc (.cells #[.int .u64 (1 : Nat), .int .u64 (1 : Nat)] t')
  have R2 := fun t t' => Rs.new2 (w3.alloc (.cells #[.int .u64 (1 : Nat), .int .u64 (1 : Nat)] t)) 1 1 t'
  have hs : ∀ t, (w3.alloc (.cells #[.int .u64 (1 : Nat), .int .u64 (1 : Nat)] t)).heap.size = w3.heap.size + 1 := fun t => by simp
  simp only [hs] at R2
  refine (mul_p (some ⟨w3.heap.size, 0, none⟩) (some ⟨w3.heap.size + 1, 0, none⟩) _ _ 2 2 [1, 1] [1, 1] _ (by first | exact R1 _ _ | exact (R1 _ _).drew) (by first | exact R2 _ _ | exact (R2 _ _).drew) rfl rfl (by decide) (by decide) (by decide) (by decide)).mono ?_
  rintro e w4 ⟨A5, c5, rfl, hq, hb⟩
  rw [mul11]
  have B2 : Below w.heap.size w w4 := below_call ((B.alloc B.size _).alloc (by simp; have := B.size; omega) _) (Nat.le_refl _) hb
  clear hb
  go_wp2_with fail
  go_ret
  exact ⟨rfl, B2⟩
set_option maxRecDepth 100000 in
set_option maxHeartbeats 2000000 in
theorem evals18_law (A : Option Addr) (c B : Nat) (l : List Nat) (n x : Nat) (w : World) (hr : Rs w A (us l)) (hl : l.length ≤ 17592186043904) (hn : l.length = n) (hw : ∀ y ∈ l, y < 18446744073709551616) (hx : x < 18446744073709551616) :
    Calls Try.prog 7 #[.slice A n c, .int .u64 x] w fun e w' => e = .returned (.bool true) ∧ Below w.heap.size w w' := by
  have H1 := hide (fun W h => eval_p A c 0 l n x W h hl hn hw hx)
  have H2 := hide (fun W h => eval_r A c 0 l n x W h hl hn hw hx)
  have H3 := hide (fun W (h : Rs W A (us l)) => chk_p A c _ l W h hl n hn)
  have H4 := hide (fun W (h : Rs W A (us l)) => chk_r A c _ l W h hl n hn)
  generalize evP l x = r at *
  obtain ⟨r1, r2⟩ := r
  generalize chkP l = k at *
  clear hw hl hn hx
  go_enter Try.func7, Try.ntmps7
  go_wp2_with fail
  refine (awake18 _).mono ?_
  rintro e w3 ⟨rfl, B⟩
  replace hr := hr.call B
  go_wp2_with fail
  with_reducible refine (H1.out _ hr).mono ?_
  rintro e w4 ⟨rfl, hb⟩
  replace hr := hr.call hb
  replace B : Below w.heap.size w w4 := below_call B (Nat.le_refl _) hb
  clear hb
  go_wp2_with fail
  with_reducible refine (H2.out _ hr).mono ?_
  rintro e w5 ⟨rfl, rfl⟩
  go_wp2_with fail
  with_reducible refine (H3.out _ hr).mono ?_
  rintro e w6 ⟨rfl, rfl⟩
  go_wp2_with fail
  with_reducible refine (H4.out _ hr).mono ?_
  rintro e w7 ⟨rfl, rfl⟩
  go_wp2_with fail
  go_ret
  exact ⟨rfl, B⟩
end Go.Proofs.Ytbgppkgcdmpajaa
