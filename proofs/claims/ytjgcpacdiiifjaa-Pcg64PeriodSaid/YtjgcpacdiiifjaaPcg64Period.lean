/-
  The statement Pcg64Period: for every input the Go function 'astragal/astragallaw14.Pcg64Period' returns true, and each argument reads afterwards as it read before. No condition.
-/
import Derived.Test.YtjgcpacdiiifjaaRows
import Derived.Test.YtjgcpacdiiifjaaPcgP
import Derived.Test.YtjgcpacdiiifjaaRowKit
import Derived.Lib.SmallJoins
namespace Go.Proofs.Ytjgcpacdiiifjaa.pcg64Period
open Go.ChangeShapes Go.WideShapes Go.ChangeAt Go.RowKit
open Go.ChangeMaps (open_string shut_string)
set_option linter.unusedVariables false

theorem own : ownKnob Try.prog.godebug = none := by kernel_rfl
theorem laidOut : laidOutB Try.prog = true := by kernel_rfl

set_option maxRecDepth 100000 in
theorem lifted (os : Os) (started : os.Started) (H : Type) (enc : TypeId × Value → H) :
    ReturnsInHanded {} Try.checked os 8 .any (Rows.pcg64PeriodSpec.pre6 enc Try.prog Try.f8 Rows.pcg64PeriodRow.domain false) (Rows.pcg64PeriodSpec.post enc Try.prog Try.f8 false true false false) := by
  refine returnsInHanded_of_change_sized (C := Try.checked) own started (by kernel_rfl) Try.func8
    (ChangeSpec.witness6 (enc := enc) (C := Try.checked) false ⟨#[], #[.agg #[.int .u64 0, .int .u64 0], .agg #[.int .u64 0, .int .u64 0], .agg #[.int .u64 0, .int .u64 0], .agg #[.int .u64 0, .int .u64 0]], []⟩ 8 (by kernel_rfl) (by kernel_rfl) (by kernel_rfl) (by kernel_rfl)) ?_
  intro W base args ds gs before hval0 hW hcnd hsz0 _
  have hsz : (DataW.weightsEach Try.prog (Try.f8.params.toList ++ Rows.pcg64PeriodSpec.plain.varTypes Try.prog) (ds ++ gs)).all (· ≤ reachBytes) = true := hsz0
  clear hsz0
  have hval : ∀ (j : Nat) t v, Try.f8.params[j]? = some t → args[j]? = some v → Value.okWide Try.prog W .any base t v := hval0
  have hW' := hW
  obtain ⟨p, q, hA0, hV, rfl, hfz, hnd⟩ := hW
  have hA : DataW.TrodAll enc Try.prog W 0 (fun _ => true) true Try.f8.params.toList args.toList ds p := hA0
  rw [Try.params8] at hA hval hsz
  obtain ⟨v0, vs0, d0, ds0, p0, q0, hargs, rfl, rfl, h0, r0⟩ := trodAll_cons hA
  obtain ⟨v1, vs1, d1, ds1, p1, q1, rfl, rfl, rfl, h1, r1⟩ := trodAll_cons r0
  obtain ⟨v2, vs2, d2, ds2, p2, q2, rfl, rfl, rfl, h2, r2⟩ := trodAll_cons r1
  obtain ⟨v3, vs3, d3, ds3, p3, q3, rfl, rfl, rfl, h3, r3⟩ := trodAll_cons r2
  obtain ⟨rfl, rfl, rfl⟩ := trodAll_nil r3
  obtain rfl : args = #[v0, v1, v2, v3] := by cases args; simp_all
  obtain ⟨rfl, rfl⟩ := trodVars_none hV
  have k0 := h0
  have lt0 : ∀ x ∈ p0, x.block < W.heap.size := by obtain ⟨m, hm⟩ := k0; exact DataW.trod_lt m _ _ _ hm
  obtain ⟨va0, vb0, ya0, yb0, m0, rfl, rfl, rfl, ha0, hb0⟩ := Go.Joins.open_agg2 Try.underlying24 (by kernel_rfl) (by kernel_rfl) (hval 0 24 v0 rfl rfl) h0
  obtain ⟨ia0, ea0, _, wa0⟩ := DataW.trod_int Try.underlying22 ha0
  obtain ⟨ib0, eb0, _, wb0⟩ := DataW.trod_int Try.underlying22 hb0
  simp only [List.cons.injEq, and_true] at ea0 eb0
  subst ea0
  subst eb0
  obtain ⟨xh0, rfl, hxh0⟩ := nat_of wa0
  obtain ⟨xl0, rfl, hxl0⟩ := nat_of wb0
  have k1 := h1
  have lt1 : ∀ x ∈ p1, x.block < W.heap.size := by obtain ⟨m, hm⟩ := k1; exact DataW.trod_lt m _ _ _ hm
  obtain ⟨va1, vb1, ya1, yb1, m1, rfl, rfl, rfl, ha1, hb1⟩ := Go.Joins.open_agg2 Try.underlying24 (by kernel_rfl) (by kernel_rfl) (hval 1 24 v1 rfl rfl) h1
  obtain ⟨ia1, ea1, _, wa1⟩ := DataW.trod_int Try.underlying22 ha1
  obtain ⟨ib1, eb1, _, wb1⟩ := DataW.trod_int Try.underlying22 hb1
  simp only [List.cons.injEq, and_true] at ea1 eb1
  subst ea1
  subst eb1
  obtain ⟨xh1, rfl, hxh1⟩ := nat_of wa1
  obtain ⟨xl1, rfl, hxl1⟩ := nat_of wb1
  have k2 := h2
  have lt2 : ∀ x ∈ p2, x.block < W.heap.size := by obtain ⟨m, hm⟩ := k2; exact DataW.trod_lt m _ _ _ hm
  obtain ⟨va2, vb2, ya2, yb2, m2, rfl, rfl, rfl, ha2, hb2⟩ := Go.Joins.open_agg2 Try.underlying24 (by kernel_rfl) (by kernel_rfl) (hval 2 24 v2 rfl rfl) h2
  obtain ⟨ia2, ea2, _, wa2⟩ := DataW.trod_int Try.underlying22 ha2
  obtain ⟨ib2, eb2, _, wb2⟩ := DataW.trod_int Try.underlying22 hb2
  simp only [List.cons.injEq, and_true] at ea2 eb2
  subst ea2
  subst eb2
  obtain ⟨xh2, rfl, hxh2⟩ := nat_of wa2
  obtain ⟨xl2, rfl, hxl2⟩ := nat_of wb2
  have k3 := h3
  have lt3 : ∀ x ∈ p3, x.block < W.heap.size := by obtain ⟨m, hm⟩ := k3; exact DataW.trod_lt m _ _ _ hm
  obtain ⟨va3, vb3, ya3, yb3, m3, rfl, rfl, rfl, ha3, hb3⟩ := Go.Joins.open_agg2 Try.underlying24 (by kernel_rfl) (by kernel_rfl) (hval 3 24 v3 rfl rfl) h3
  obtain ⟨ia3, ea3, _, wa3⟩ := DataW.trod_int Try.underlying22 ha3
  obtain ⟨ib3, eb3, _, wb3⟩ := DataW.trod_int Try.underlying22 hb3
  simp only [List.cons.injEq, and_true] at ea3 eb3
  subst ea3
  subst eb3
  obtain ⟨xh3, rfl, hxh3⟩ := nat_of wa3
  obtain ⟨xl3, rfl, hxl3⟩ := nat_of wb3
  clear hA0 hval0
  refine (period_law xh0 xl0 xh1 xl1 xh2 xl2 xh3 xl3 W hxh0 hxl0 hxh1 hxl1 hxh2 hxl2 hxh3 hxl3).mono fun e W' ⟨he, bel⟩ => ?_
  subst he
  exact ⟨_, rfl, _, _, _, [], _, [], hW', trodAll_mk1 (shut_bool Try.underlying4 _), (trodAll_cons_mk (Below.trod laidOut (by kernel_rfl) (of_decide_eq_true (by kernel_rfl)) k0 bel lt0) (trodAll_cons_mk (Below.trod laidOut (by kernel_rfl) (of_decide_eq_true (by kernel_rfl)) k1 bel lt1) (trodAll_cons_mk (Below.trod laidOut (by kernel_rfl) (of_decide_eq_true (by kernel_rfl)) k2 bel lt2) (trodAll_cons_mk (Below.trod laidOut (by kernel_rfl) (of_decide_eq_true (by kernel_rfl)) k3 bel lt3) trodAll_mk0)))), rfl, bel.frame _, fun h => by cases h⟩

theorem over : Rows.pcg64PeriodRow.holds Try.pinned (OpenSpec.ofChange Rows.pcg64PeriodSpec) :=
  OpenClaim.holds_of_wide 8 Try.f8 rfl rfl rfl rfl rfl rfl rfl ⟨rfl, rfl, rfl, rfl, rfl⟩ rfl rfl rfl rfl rfl (by kernel_rfl) Try.func8 (by kernel_rfl)
    (of_decide_eq_true (by kernel_rfl)) (by unfold Func.isWrapper; first | (rw [if_pos (by decide +kernel)]; kernel_rfl) | (rw [if_neg (by decide +kernel)]; exact ⟨rfl, rfl⟩))
    (fun os started H enc _ => lifted os started H enc)

/-- The statement. -/
theorem proved : Rows.Pcg64PeriodSaid := over
end Go.Proofs.Ytjgcpacdiiifjaa.pcg64Period
