/-
  The statement WideTexts: for every input the Go function 'astragal/astragallaw01.WideTexts' returns true, and each argument reads afterwards as it read before. No condition.
-/
import Derived.Test.YtpfpdlgfngkdjaaRows
import Derived.Test.YtpfpdlgfngkdjaaTxtH
import Derived.Test.YtpfpdlgfngkdjaaRowKit
import Derived.Lib.SmallJoins
import Derived.Laws.IdiomArrays
namespace Go.Proofs.Ytpfpdlgfngkdjaa.wideTexts
open Go.ChangeShapes Go.WideShapes Go.ChangeAt Go.RowKit
open Go.ChangeMaps (open_string shut_string)
set_option linter.unusedVariables false

theorem own : ownKnob Try.prog.godebug = none := by kernel_rfl
theorem laidOut : laidOutB Try.prog = true := by kernel_rfl

theorem list4 {α : Type} (l : List α) (h : (⟨l⟩ : Array α).size = 4) : ∃ a b c d, l = [a, b, c, d] := by
  match l, h with
  | [a, b, c, d], _ => exact ⟨a, b, c, d, rfl⟩
theorem cellsA24 : Try.prog.cellsOf 24 = 4 := by kernel_rfl
theorem cellsE22 : Try.prog.cellsOf 22 = 1 := by kernel_rfl
set_option maxRecDepth 100000 in
theorem lifted (os : Os) (started : os.Started) (H : Type) (enc : TypeId × Value → H) :
    ReturnsInHanded {} Try.checked os 3 .any (Rows.wideTextsSpec.pre6 enc Try.prog Try.f3 Rows.wideTextsRow.domain false) (Rows.wideTextsSpec.post enc Try.prog Try.f3 false true false false) := by
  refine returnsInHanded_of_change_sized (C := Try.checked) own started (by kernel_rfl) Try.func3
    (ChangeSpec.witness6 (enc := enc) (C := Try.checked) false ⟨#[], #[.agg #[.int .u64 0, .int .u64 0, .int .u64 0, .int .u64 0], .string .empty], []⟩ 8 (by kernel_rfl) (by kernel_rfl) (by kernel_rfl) (by kernel_rfl)) ?_
  intro W base args ds gs before hval0 hW hcnd hsz0 _
  have hsz : (DataW.weightsEach Try.prog (Try.f3.params.toList ++ Rows.wideTextsSpec.plain.varTypes Try.prog) (ds ++ gs)).all (· ≤ reachBytes) = true := hsz0
  clear hsz0
  have hval : ∀ (j : Nat) t v, Try.f3.params[j]? = some t → args[j]? = some v → Value.okWide Try.prog W .any base t v := hval0
  have hW' := hW
  obtain ⟨p, q, hA0, hV, rfl, hfz, hnd⟩ := hW
  have hA : DataW.TrodAll enc Try.prog W 0 (fun _ => true) true Try.f3.params.toList args.toList ds p := hA0
  rw [Try.params3] at hA hval hsz
  obtain ⟨v0, vs0, d0, ds0, p0, q0, hargs, rfl, rfl, h0, r0⟩ := trodAll_cons hA
  obtain ⟨v1, vs1, d1, ds1, p1, q1, rfl, rfl, rfl, h1, r1⟩ := trodAll_cons r0
  obtain ⟨rfl, rfl, rfl⟩ := trodAll_nil r1
  obtain rfl : args = #[v0, v1] := by cases args; simp_all
  obtain ⟨rfl, rfl⟩ := trodVars_none hV
  have k0 := h0
  have lt0 : ∀ x ∈ p0, x.block < W.heap.size := by obtain ⟨m, hm⟩ := k0; exact DataW.trod_lt m _ _ _ hm
  obtain ⟨cs0, rfl, hsz0, _⟩ : ∃ cs, v0 = .agg cs ∧ cs.size = Try.prog.cellsOf 24 ∧ Row.okWide Try.prog W .any base 24 cs := by
    have := hval 0 24 v0 rfl rfl
    simpa [Value.okWide, Try.underlying24] using this
  rw [cellsA24] at hsz0
  obtain ⟨l0⟩ := cs0
  obtain ⟨va0, vb0, vc0, vd0, rfl⟩ := list4 l0 hsz0
  obtain ⟨fuel0, hf0⟩ := h0
  obtain ⟨ya0, yb0, yc0, yd0, m0, hx0, hya0, hyb0, hyc0, hyd0⟩ := trod_array4 Try.underlying24 cellsE22 hf0
  obtain ⟨ia0, ea0, _, wa0⟩ := DataW.trod_int Try.underlying22 hya0
  simp only [List.cons.injEq, and_true] at ea0
  subst ea0
  obtain ⟨x0_0, rfl, hx0_0⟩ := nat_of wa0
  obtain ⟨ib0, eb0, _, wb0⟩ := DataW.trod_int Try.underlying22 hyb0
  simp only [List.cons.injEq, and_true] at eb0
  subst eb0
  obtain ⟨x0_1, rfl, hx0_1⟩ := nat_of wb0
  obtain ⟨ic0, ec0, _, wc0⟩ := DataW.trod_int Try.underlying22 hyc0
  simp only [List.cons.injEq, and_true] at ec0
  subst ec0
  obtain ⟨x0_2, rfl, hx0_2⟩ := nat_of wc0
  obtain ⟨id0, ed0, _, wd0⟩ := DataW.trod_int Try.underlying22 hyd0
  simp only [List.cons.injEq, and_true] at ed0
  subst ed0
  obtain ⟨x0_3, rfl, hx0_3⟩ := nat_of wd0
  obtain ⟨s1, rfl, rfl, rfl, ws1⟩ := open_string Try.underlying9 (hval 1 9 v1 rfl rfl) h1
  clear hA0 hval0
  refine (texts_law x0_0 x0_1 x0_2 x0_3 s1 W hx0_0 hx0_1 hx0_2 hx0_3 ws1).mono fun e W' ⟨he, bel⟩ => ?_
  subst he
  exact ⟨_, rfl, _, _, _, [], _, [], hW', trodAll_mk1 (shut_bool Try.underlying4 _), (trodAll_cons_mk (Below.trod laidOut (by kernel_rfl) (of_decide_eq_true (by kernel_rfl)) k0 bel lt0) (trodAll_cons_mk (shut_string Try.underlying9 ws1) trodAll_mk0)), rfl, bel.frame _, fun h => by cases h⟩

theorem over : Rows.wideTextsRow.holds Try.pinned (OpenSpec.ofChange Rows.wideTextsSpec) :=
  OpenClaim.holds_of_wide 3 Try.f3 rfl rfl rfl rfl rfl rfl rfl ⟨rfl, rfl, rfl, rfl, rfl⟩ rfl rfl rfl rfl rfl (by kernel_rfl) Try.func3 (by kernel_rfl)
    (of_decide_eq_true (by kernel_rfl)) (by unfold Func.isWrapper; first | (rw [if_pos (by decide +kernel)]; kernel_rfl) | (rw [if_neg (by decide +kernel)]; exact ⟨rfl, rfl⟩))
    (fun os started H enc _ => lifted os started H enc)

/-- The statement. -/
theorem proved : Rows.WideTextsSaid := over
end Go.Proofs.Ytpfpdlgfngkdjaa.wideTexts
