/-
  The statement WideFours: for every input the Go function 'astragal/astragallaw01.WideFours' returns true, and each argument reads afterwards as it read before. No condition.
-/
import Derived.Test.YtioieoinkjfcfaaRows
import Derived.Test.YtioieoinkjfcfaaWide4
import Derived.Test.YtioieoinkjfcfaaRowKit
import Derived.Lib.SmallJoins
import Derived.Laws.IdiomArrays
namespace Go.Proofs.Ytioieoinkjfcfaa.wideFours
open Go.ChangeShapes Go.WideShapes Go.ChangeAt Go.RowKit
open Go.ChangeMaps (open_string shut_string)
set_option linter.unusedVariables false

theorem own : ownKnob Try.prog.godebug = none := by kernel_rfl
theorem laidOut : laidOutB Try.prog = true := by kernel_rfl

theorem list4 {α : Type} (l : List α) (h : (⟨l⟩ : Array α).size = 4) : ∃ a b c d, l = [a, b, c, d] := by
  match l, h with
  | [a, b, c, d], _ => exact ⟨a, b, c, d, rfl⟩
theorem cellsA24 : Try.prog.cellsOf 24 = 4 := by kernel_rfl
theorem cellsE22 : Try.prog.cellsOf 22 = 1 := by kernel_rfl
set_option maxRecDepth 100000 in
theorem lifted (os : Os) (started : os.Started) (H : Type) (enc : TypeId × Value → H) :
    ReturnsInHanded {} Try.checked os 3 .any (Rows.wideFoursSpec.pre6 enc Try.prog Try.f3 Rows.wideFoursRow.domain false) (Rows.wideFoursSpec.post enc Try.prog Try.f3 false true false false) := by
  refine returnsInHanded_of_change_sized (C := Try.checked) own started (by kernel_rfl) Try.func3
    (ChangeSpec.witness6 (enc := enc) (C := Try.checked) false ⟨#[], #[.agg #[.int .u64 0, .int .u64 0, .int .u64 0, .int .u64 0], .agg #[.int .u64 0, .int .u64 0, .int .u64 0, .int .u64 0], .int .i64 0], []⟩ 8 (by kernel_rfl) (by kernel_rfl) (by kernel_rfl) (by kernel_rfl)) ?_
  intro W base args ds gs before hval0 hW hcnd hsz0 _
  have hsz : (DataW.weightsEach Try.prog (Try.f3.params.toList ++ Rows.wideFoursSpec.plain.varTypes Try.prog) (ds ++ gs)).all (· ≤ reachBytes) = true := hsz0
  clear hsz0
  have hval : ∀ (j : Nat) t v, Try.f3.params[j]? = some t → args[j]? = some v → Value.okWide Try.prog W .any base t v := hval0
  have hW' := hW
  obtain ⟨p, q, hA0, hV, rfl, hfz, hnd⟩ := hW
  have hA : DataW.TrodAll enc Try.prog W 0 (fun _ => true) true Try.f3.params.toList args.toList ds p := hA0
  rw [Try.params3] at hA hval hsz
  obtain ⟨v0, vs0, d0, ds0, p0, q0, hargs, rfl, rfl, h0, r0⟩ := trodAll_cons hA
  obtain ⟨v1, vs1, d1, ds1, p1, q1, rfl, rfl, rfl, h1, r1⟩ := trodAll_cons r0
  obtain ⟨v2, vs2, d2, ds2, p2, q2, rfl, rfl, rfl, h2, r2⟩ := trodAll_cons r1
  obtain ⟨rfl, rfl, rfl⟩ := trodAll_nil r2
  obtain rfl : args = #[v0, v1, v2] := by cases args; simp_all
  obtain ⟨rfl, rfl⟩ := trodVars_none hV
  have k0 := h0
  have lt0 : ∀ x ∈ p0, x.block < W.heap.size := by obtain ⟨m, hm⟩ := k0; exact DataW.trod_lt m _ _ _ hm
  obtain ⟨cs0, rfl, hsz0, _⟩ : ∃ cs, v0 = .agg cs ∧ cs.size = Try.prog.cellsOf 24 ∧ Row.okWide Try.prog W .any base 24 cs := by
    have := hval 0 24 v0 rfl rfl
    simpa [Value.okWide, Try.underlying24] using this
  rw [cellsA24] at hsz0
  obtain ⟨l0⟩ := cs0
  obtain ⟨va0, vb0, vc0, vd0, rfl⟩ := list4 l0 hsz0
  obtain ⟨fuel0, hf0⟩ := h0
  obtain ⟨ya0, yb0, yc0, yd0, m0, hx0, hya0, hyb0, hyc0, hyd0⟩ := trod_array4 Try.underlying24 cellsE22 hf0
  obtain ⟨ia0, ea0, _, wa0⟩ := DataW.trod_int Try.underlying22 hya0
  simp only [List.cons.injEq, and_true] at ea0
  subst ea0
  obtain ⟨x0_0, rfl, hx0_0⟩ := nat_of wa0
  obtain ⟨ib0, eb0, _, wb0⟩ := DataW.trod_int Try.underlying22 hyb0
  simp only [List.cons.injEq, and_true] at eb0
  subst eb0
  obtain ⟨x0_1, rfl, hx0_1⟩ := nat_of wb0
  obtain ⟨ic0, ec0, _, wc0⟩ := DataW.trod_int Try.underlying22 hyc0
  simp only [List.cons.injEq, and_true] at ec0
  subst ec0
  obtain ⟨x0_2, rfl, hx0_2⟩ := nat_of wc0
  obtain ⟨id0, ed0, _, wd0⟩ := DataW.trod_int Try.underlying22 hyd0
  simp only [List.cons.injEq, and_true] at ed0
  subst ed0
  obtain ⟨x0_3, rfl, hx0_3⟩ := nat_of wd0
  have k1 := h1
  have lt1 : ∀ x ∈ p1, x.block < W.heap.size := by obtain ⟨m, hm⟩ := k1; exact DataW.trod_lt m _ _ _ hm
  obtain ⟨cs1, rfl, hsz1, _⟩ : ∃ cs, v1 = .agg cs ∧ cs.size = Try.prog.cellsOf 24 ∧ Row.okWide Try.prog W .any base 24 cs := by
    have := hval 1 24 v1 rfl rfl
    simpa [Value.okWide, Try.underlying24] using this
  rw [cellsA24] at hsz1
  obtain ⟨l1⟩ := cs1
  obtain ⟨va1, vb1, vc1, vd1, rfl⟩ := list4 l1 hsz1
  obtain ⟨fuel1, hf1⟩ := h1
  obtain ⟨ya1, yb1, yc1, yd1, m1, hx1, hya1, hyb1, hyc1, hyd1⟩ := trod_array4 Try.underlying24 cellsE22 hf1
  obtain ⟨ia1, ea1, _, wa1⟩ := DataW.trod_int Try.underlying22 hya1
  simp only [List.cons.injEq, and_true] at ea1
  subst ea1
  obtain ⟨x1_0, rfl, hx1_0⟩ := nat_of wa1
  obtain ⟨ib1, eb1, _, wb1⟩ := DataW.trod_int Try.underlying22 hyb1
  simp only [List.cons.injEq, and_true] at eb1
  subst eb1
  obtain ⟨x1_1, rfl, hx1_1⟩ := nat_of wb1
  obtain ⟨ic1, ec1, _, wc1⟩ := DataW.trod_int Try.underlying22 hyc1
  simp only [List.cons.injEq, and_true] at ec1
  subst ec1
  obtain ⟨x1_2, rfl, hx1_2⟩ := nat_of wc1
  obtain ⟨id1, ed1, _, wd1⟩ := DataW.trod_int Try.underlying22 hyd1
  simp only [List.cons.injEq, and_true] at ed1
  subst ed1
  obtain ⟨x1_3, rfl, hx1_3⟩ := nat_of wd1
  obtain ⟨a2, rfl, rfl, rfl, wf2⟩ := open_int Try.underlying3 (hval 2 3 v2 rfl rfl) h2
  clear hA0 hval0
  refine (fours_law x0_0 x0_1 x0_2 x0_3 x1_0 x1_1 x1_2 x1_3 a2 W hx0_0 hx0_1 hx0_2 hx0_3 hx1_0 hx1_1 hx1_2 hx1_3).mono fun e W' ⟨he, bel⟩ => ?_
  subst he
  exact ⟨_, rfl, _, _, _, [], _, [], hW', trodAll_mk1 (shut_bool Try.underlying4 _), (trodAll_cons_mk (Below.trod laidOut (by kernel_rfl) (of_decide_eq_true (by kernel_rfl)) k0 bel lt0) (trodAll_cons_mk (Below.trod laidOut (by kernel_rfl) (of_decide_eq_true (by kernel_rfl)) k1 bel lt1) (trodAll_cons_mk (shut_int Try.underlying3 wf2) trodAll_mk0))), rfl, bel.frame _, fun h => by cases h⟩

theorem over : Rows.wideFoursRow.holds Try.pinned (OpenSpec.ofChange Rows.wideFoursSpec) :=
  OpenClaim.holds_of_wide 3 Try.f3 rfl rfl rfl rfl rfl rfl rfl ⟨rfl, rfl, rfl, rfl, rfl⟩ rfl rfl rfl rfl rfl (by kernel_rfl) Try.func3 (by kernel_rfl)
    (of_decide_eq_true (by kernel_rfl)) (by unfold Func.isWrapper; first | (rw [if_pos (by decide +kernel)]; kernel_rfl) | (rw [if_neg (by decide +kernel)]; exact ⟨rfl, rfl⟩))
    (fun os started H enc _ => lifted os started H enc)

/-- The statement. -/
theorem proved : Rows.WideFoursSaid := over
end Go.Proofs.Ytioieoinkjfcfaa.wideFours
