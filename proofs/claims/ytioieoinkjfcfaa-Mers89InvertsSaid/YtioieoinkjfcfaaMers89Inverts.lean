/-
  The statement Mers89Inverts: for every input the Go function 'astragal/astragallaw05.Mers89Inverts' returns true, and each argument reads afterwards as it read before. No condition.
-/
import Derived.Test.YtioieoinkjfcfaaRows
import Derived.Test.YtioieoinkjfcfaaM89L
import Derived.Test.YtioieoinkjfcfaaRowKit
import Derived.Lib.SmallJoins
namespace Go.Proofs.Ytioieoinkjfcfaa.mers89Inverts
open Go.ChangeShapes Go.WideShapes Go.ChangeAt Go.RowKit
open Go.ChangeMaps (open_string shut_string)
set_option linter.unusedVariables false

theorem own : ownKnob Try.prog.godebug = none := by kernel_rfl
theorem laidOut : laidOutB Try.prog = true := by kernel_rfl

set_option maxRecDepth 100000 in
theorem lifted (os : Os) (started : os.Started) (H : Type) (enc : TypeId × Value → H) :
    ReturnsInHanded {} Try.checked os 5 .any (Rows.mers89InvertsSpec.pre6 enc Try.prog Try.f5 Rows.mers89InvertsRow.domain false) (Rows.mers89InvertsSpec.post enc Try.prog Try.f5 false true false false) := by
  refine returnsInHanded_of_change_sized (C := Try.checked) own started (by kernel_rfl) Try.func5
    (ChangeSpec.witness6 (enc := enc) (C := Try.checked) false ⟨#[], #[.agg #[.int .u64 0, .int .u64 0], .agg #[.int .u64 0, .int .u64 0]], []⟩ 8 (by kernel_rfl) (by kernel_rfl) (by kernel_rfl) (by kernel_rfl)) ?_
  intro W base args ds gs before hval0 hW hcnd hsz0 _
  have hsz : (DataW.weightsEach Try.prog (Try.f5.params.toList ++ Rows.mers89InvertsSpec.plain.varTypes Try.prog) (ds ++ gs)).all (· ≤ reachBytes) = true := hsz0
  clear hsz0
  have hval : ∀ (j : Nat) t v, Try.f5.params[j]? = some t → args[j]? = some v → Value.okWide Try.prog W .any base t v := hval0
  have hW' := hW
  obtain ⟨p, q, hA0, hV, rfl, hfz, hnd⟩ := hW
  have hA : DataW.TrodAll enc Try.prog W 0 (fun _ => true) true Try.f5.params.toList args.toList ds p := hA0
  rw [Try.params5] at hA hval hsz
  obtain ⟨v0, vs0, d0, ds0, p0, q0, hargs, rfl, rfl, h0, r0⟩ := trodAll_cons hA
  obtain ⟨v1, vs1, d1, ds1, p1, q1, rfl, rfl, rfl, h1, r1⟩ := trodAll_cons r0
  obtain ⟨rfl, rfl, rfl⟩ := trodAll_nil r1
  obtain rfl : args = #[v0, v1] := by cases args; simp_all
  obtain ⟨rfl, rfl⟩ := trodVars_none hV
  have k0 := h0
  have lt0 : ∀ x ∈ p0, x.block < W.heap.size := by obtain ⟨m, hm⟩ := k0; exact DataW.trod_lt m _ _ _ hm
  obtain ⟨va0, vb0, ya0, yb0, m0, rfl, rfl, rfl, ha0, hb0⟩ := Go.Joins.open_agg2 Try.underlying43 (by kernel_rfl) (by kernel_rfl) (hval 0 43 v0 rfl rfl) h0
  obtain ⟨ia0, ea0, _, wa0⟩ := DataW.trod_int Try.underlying22 ha0
  obtain ⟨ib0, eb0, _, wb0⟩ := DataW.trod_int Try.underlying22 hb0
  simp only [List.cons.injEq, and_true] at ea0 eb0
  subst ea0
  subst eb0
  obtain ⟨xh0, rfl, hxh0⟩ := nat_of wa0
  obtain ⟨xl0, rfl, hxl0⟩ := nat_of wb0
  have k1 := h1
  have lt1 : ∀ x ∈ p1, x.block < W.heap.size := by obtain ⟨m, hm⟩ := k1; exact DataW.trod_lt m _ _ _ hm
  obtain ⟨va1, vb1, ya1, yb1, m1, rfl, rfl, rfl, ha1, hb1⟩ := Go.Joins.open_agg2 Try.underlying43 (by kernel_rfl) (by kernel_rfl) (hval 1 43 v1 rfl rfl) h1
  obtain ⟨ia1, ea1, _, wa1⟩ := DataW.trod_int Try.underlying22 ha1
  obtain ⟨ib1, eb1, _, wb1⟩ := DataW.trod_int Try.underlying22 hb1
  simp only [List.cons.injEq, and_true] at ea1 eb1
  subst ea1
  subst eb1
  obtain ⟨xh1, rfl, hxh1⟩ := nat_of wa1
  obtain ⟨xl1, rfl, hxl1⟩ := nat_of wb1
  clear hA0 hval0
  refine (inverts05_law xh0 xl0 xh1 xl1 W hxh0 hxl0 hxh1 hxl1).mono fun e W' ⟨he, bel⟩ => ?_
  subst he
  exact ⟨_, rfl, _, _, _, [], _, [], hW', trodAll_mk1 (shut_bool Try.underlying4 _), (trodAll_cons_mk (Below.trod laidOut (by kernel_rfl) (of_decide_eq_true (by kernel_rfl)) k0 bel lt0) (trodAll_cons_mk (Below.trod laidOut (by kernel_rfl) (of_decide_eq_true (by kernel_rfl)) k1 bel lt1) trodAll_mk0)), rfl, bel.frame _, fun h => by cases h⟩

theorem over : Rows.mers89InvertsRow.holds Try.pinned (OpenSpec.ofChange Rows.mers89InvertsSpec) :=
  OpenClaim.holds_of_wide 5 Try.f5 rfl rfl rfl rfl rfl rfl rfl ⟨rfl, rfl, rfl, rfl, rfl⟩ rfl rfl rfl rfl rfl (by kernel_rfl) Try.func5 (by kernel_rfl)
    (of_decide_eq_true (by kernel_rfl)) (by unfold Func.isWrapper; first | (rw [if_pos (by decide +kernel)]; kernel_rfl) | (rw [if_neg (by decide +kernel)]; exact ⟨rfl, rfl⟩))
    (fun os started H enc _ => lifted os started H enc)

/-- The statement. -/
theorem proved : Rows.Mers89InvertsSaid := over
end Go.Proofs.Ytioieoinkjfcfaa.mers89Inverts
