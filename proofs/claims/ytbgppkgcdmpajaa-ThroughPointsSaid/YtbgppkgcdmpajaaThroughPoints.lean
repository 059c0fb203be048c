/-
  The statement ThroughPoints: for every input the Go function 'astragal/astragallaw19.ThroughPoints' returns true, and each argument reads afterwards as it read before. No condition.
-/
import Derived.Test.YtbgppkgcdmpajaaRows
import Derived.Test.YtbgppkgcdmpajaaThruQ
import Derived.Test.YtbgppkgcdmpajaaRowKit
import Derived.Lib.SmallJoins
namespace Go.Proofs.Ytbgppkgcdmpajaa.throughPoints
open Go.ChangeShapes Go.WideShapes Go.ChangeAt Go.RowKit
open Go.ChangeMaps (open_string shut_string)
set_option linter.unusedVariables false

theorem own : ownKnob Try.prog.godebug = none := by kernel_rfl
theorem laidOut : laidOutB Try.prog = true := by kernel_rfl

set_option maxRecDepth 100000 in
theorem lifted (os : Os) (started : os.Started) (H : Type) (enc : TypeId × Value → H) :
    ReturnsInHanded {} Try.checked os 11 .any (Rows.throughPointsSpec.pre6 enc Try.prog Try.f11 Rows.throughPointsRow.domain false) (Rows.throughPointsSpec.post enc Try.prog Try.f11 false true false false) := by
  refine returnsInHanded_of_change_sized (C := Try.checked) own started (by kernel_rfl) Try.func11
    (ChangeSpec.witness6 (enc := enc) (C := Try.checked) false ⟨#[], #[.slice none 0 0, .slice none 0 0], []⟩ 8 (by kernel_rfl) (by kernel_rfl) (by kernel_rfl) (by kernel_rfl)) ?_
  intro W base args ds gs before hval0 hW hcnd hsz0 _
  have hsz : (DataW.weightsEach Try.prog (Try.f11.params.toList ++ Rows.throughPointsSpec.plain.varTypes Try.prog) (ds ++ gs)).all (· ≤ reachBytes) = true := hsz0
  clear hsz0
  have hval : ∀ (j : Nat) t v, Try.f11.params[j]? = some t → args[j]? = some v → Value.okWide Try.prog W .any base t v := hval0
  have hW' := hW
  obtain ⟨p, q, hA0, hV, rfl, hfz, hnd⟩ := hW
  have hA : DataW.TrodAll enc Try.prog W 0 (fun _ => true) true Try.f11.params.toList args.toList ds p := hA0
  rw [Try.params11] at hA hval hsz
  obtain ⟨v0, vs0, d0, ds0, p0, q0, hargs, rfl, rfl, h0, r0⟩ := trodAll_cons hA
  obtain ⟨v1, vs1, d1, ds1, p1, q1, rfl, rfl, rfl, h1, r1⟩ := trodAll_cons r0
  obtain ⟨rfl, rfl, rfl⟩ := trodAll_nil r1
  obtain rfl : args = #[v0, v1] := by cases args; simp_all
  obtain ⟨rfl, rfl⟩ := trodVars_none hV
  obtain ⟨A0, n0, c0, rfl⟩ := okWide_slice Try.underlying36 (hval 0 36 v0 rfl rfl)
  have k0 := h0
  have lt0 : ∀ x ∈ p0, x.block < W.heap.size := by obtain ⟨m, hm⟩ := k0; exact DataW.trod_lt m _ _ _ hm
  obtain ⟨fuel0, hf0⟩ := h0
  obtain ⟨zs0, lz0, rd0, wf0, ⟨nc0, mc0⟩, sh0⟩ := row_ints Try.underlying36 Try.underlying22 (by kernel_rfl) hf0
  have sz0 : n0 ≤ 17592186043904 := row_small hsz 0 rfl rfl Try.underlying36 (by kernel_rfl) lz0 sh0
  obtain ⟨xs0, lx0, ex0, wx0⟩ := nats_of wf0
  rw [ex0] at rd0
  have ln0 : xs0.length = n0 := lx0.trans lz0
  obtain ⟨A1, n1, c1, rfl⟩ := okWide_slice Try.underlying36 (hval 1 36 v1 rfl rfl)
  have k1 := h1
  have lt1 : ∀ x ∈ p1, x.block < W.heap.size := by obtain ⟨m, hm⟩ := k1; exact DataW.trod_lt m _ _ _ hm
  obtain ⟨fuel1, hf1⟩ := h1
  obtain ⟨zs1, lz1, rd1, wf1, ⟨nc1, mc1⟩, sh1⟩ := row_ints Try.underlying36 Try.underlying22 (by kernel_rfl) hf1
  have sz1 : n1 ≤ 17592186043904 := row_small hsz 1 rfl rfl Try.underlying36 (by kernel_rfl) lz1 sh1
  obtain ⟨xs1, lx1, ex1, wx1⟩ := nats_of wf1
  rw [ex1] at rd1
  have ln1 : xs1.length = n1 := lx1.trans lz1
  clear hA0 hval0
  refine (points_law A0 A1 c0 c1 n0 n1 xs0 xs1 W rd0 rd1 ln0 ln1 nc0 mc0 sz0 sz1).mono fun e W' ⟨he, bel⟩ => ?_
  subst he
  exact ⟨_, rfl, _, _, _, [], _, [], hW', trodAll_mk1 (shut_bool Try.underlying4 _), (trodAll_cons_mk (Below.trod laidOut (by kernel_rfl) (of_decide_eq_true (by kernel_rfl)) k0 bel lt0) (trodAll_cons_mk (Below.trod laidOut (by kernel_rfl) (of_decide_eq_true (by kernel_rfl)) k1 bel lt1) trodAll_mk0)), rfl, bel.frame _, fun h => by cases h⟩

theorem over : Rows.throughPointsRow.holds Try.pinned (OpenSpec.ofChange Rows.throughPointsSpec) :=
  OpenClaim.holds_of_wide 11 Try.f11 rfl rfl rfl rfl rfl rfl rfl ⟨rfl, rfl, rfl, rfl, rfl⟩ rfl rfl rfl rfl rfl (by kernel_rfl) Try.func11 (by kernel_rfl)
    (of_decide_eq_true (by kernel_rfl)) (by unfold Func.isWrapper; first | (rw [if_pos (by decide +kernel)]; kernel_rfl) | (rw [if_neg (by decide +kernel)]; exact ⟨rfl, rfl⟩))
    (fun os started H enc _ => lifted os started H enc)

/-- The statement. -/
theorem proved : Rows.ThroughPointsSaid := over
end Go.Proofs.Ytbgppkgcdmpajaa.throughPoints
