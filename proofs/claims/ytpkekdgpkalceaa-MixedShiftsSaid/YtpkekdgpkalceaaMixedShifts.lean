/-
  The statement MixedShifts: for every input the Go function 'astragal/astragallaw24.MixedShifts' returns true, and each argument reads afterwards as it read before. No condition.
-/
import Derived.Test.YtpkekdgpkalceaaRows
import Derived.Test.YtpkekdgpkalceaaShfY
import Derived.Test.YtpkekdgpkalceaaRowKit
import Derived.Lib.SmallJoins
namespace Go.Proofs.Ytpkekdgpkalceaa.mixedShifts
open Go.ChangeShapes Go.WideShapes Go.ChangeAt Go.RowKit
open Go.ChangeMaps (open_string shut_string)
set_option linter.unusedVariables false

theorem own : ownKnob Try.prog.godebug = none := by kernel_rfl
theorem laidOut : laidOutB Try.prog = true := by kernel_rfl

set_option maxRecDepth 100000 in
theorem lifted (os : Os) (started : os.Started) (H : Type) (enc : TypeId × Value → H) :
    ReturnsInHanded {} Try.checked os 6 .any (Rows.mixedShiftsSpec.pre6 enc Try.prog Try.f6 Rows.mixedShiftsRow.domain false) (Rows.mixedShiftsSpec.post enc Try.prog Try.f6 false true false false) := by
  refine returnsInHanded_of_change_sized (C := Try.checked) own started (by kernel_rfl) Try.func6
    (ChangeSpec.witness6 (enc := enc) (C := Try.checked) false ⟨#[], #[.slice none 0 0, .int .i64 0, .slice none 0 0, .slice none 0 0], []⟩ 8 (by kernel_rfl) (by kernel_rfl) (by kernel_rfl) (by kernel_rfl)) ?_
  intro W base args ds gs before hval0 hW hcnd hsz0 _
  have hsz : (DataW.weightsEach Try.prog (Try.f6.params.toList ++ Rows.mixedShiftsSpec.plain.varTypes Try.prog) (ds ++ gs)).all (· ≤ reachBytes) = true := hsz0
  clear hsz0
  have hval : ∀ (j : Nat) t v, Try.f6.params[j]? = some t → args[j]? = some v → Value.okWide Try.prog W .any base t v := hval0
  have hW' := hW
  obtain ⟨p, q, hA0, hV, rfl, hfz, hnd⟩ := hW
  have hA : DataW.TrodAll enc Try.prog W 0 (fun _ => true) true Try.f6.params.toList args.toList ds p := hA0
  rw [Try.params6] at hA hval hsz
  obtain ⟨v0, vs0, d0, ds0, p0, q0, hargs, rfl, rfl, h0, r0⟩ := trodAll_cons hA
  obtain ⟨v1, vs1, d1, ds1, p1, q1, rfl, rfl, rfl, h1, r1⟩ := trodAll_cons r0
  obtain ⟨v2, vs2, d2, ds2, p2, q2, rfl, rfl, rfl, h2, r2⟩ := trodAll_cons r1
  obtain ⟨v3, vs3, d3, ds3, p3, q3, rfl, rfl, rfl, h3, r3⟩ := trodAll_cons r2
  obtain ⟨rfl, rfl, rfl⟩ := trodAll_nil r3
  obtain rfl : args = #[v0, v1, v2, v3] := by cases args; simp_all
  obtain ⟨rfl, rfl⟩ := trodVars_none hV
  obtain ⟨A0, n0, c0, rfl⟩ := okWide_slice Try.underlying22 (hval 0 22 v0 rfl rfl)
  have k0 := h0
  have lt0 : ∀ x ∈ p0, x.block < W.heap.size := by obtain ⟨m, hm⟩ := k0; exact DataW.trod_lt m _ _ _ hm
  obtain ⟨fuel0, hf0⟩ := h0
  obtain ⟨zs0, lz0, rd0, wf0, ⟨nc0, mc0⟩, sh0⟩ := row_ints Try.underlying22 Try.underlying30 (by kernel_rfl) hf0
  have sz0 : n0 ≤ 17592186043904 := row_small hsz 0 rfl rfl Try.underlying22 (by kernel_rfl) lz0 sh0
  obtain ⟨xs0, lx0, ex0, wx0⟩ := nats_of wf0
  rw [ex0] at rd0
  have ln0 : xs0.length = n0 := lx0.trans lz0
  obtain ⟨a1, rfl, rfl, rfl, wf1⟩ := open_int Try.underlying3 (hval 1 3 v1 rfl rfl) h1
  obtain ⟨A2, n2, c2, rfl⟩ := okWide_slice Try.underlying22 (hval 2 22 v2 rfl rfl)
  have k2 := h2
  have lt2 : ∀ x ∈ p2, x.block < W.heap.size := by obtain ⟨m, hm⟩ := k2; exact DataW.trod_lt m _ _ _ hm
  obtain ⟨fuel2, hf2⟩ := h2
  obtain ⟨zs2, lz2, rd2, wf2, ⟨nc2, mc2⟩, sh2⟩ := row_ints Try.underlying22 Try.underlying30 (by kernel_rfl) hf2
  have sz2 : n2 ≤ 17592186043904 := row_small hsz 2 rfl rfl Try.underlying22 (by kernel_rfl) lz2 sh2
  obtain ⟨xs2, lx2, ex2, wx2⟩ := nats_of wf2
  rw [ex2] at rd2
  have ln2 : xs2.length = n2 := lx2.trans lz2
  obtain ⟨A3, n3, c3, rfl⟩ := okWide_slice Try.underlying22 (hval 3 22 v3 rfl rfl)
  have k3 := h3
  have lt3 : ∀ x ∈ p3, x.block < W.heap.size := by obtain ⟨m, hm⟩ := k3; exact DataW.trod_lt m _ _ _ hm
  obtain ⟨fuel3, hf3⟩ := h3
  obtain ⟨zs3, lz3, rd3, wf3, ⟨nc3, mc3⟩, sh3⟩ := row_ints Try.underlying22 Try.underlying30 (by kernel_rfl) hf3
  have sz3 : n3 ≤ 17592186043904 := row_small hsz 3 rfl rfl Try.underlying22 (by kernel_rfl) lz3 sh3
  obtain ⟨xs3, lx3, ex3, wx3⟩ := nats_of wf3
  rw [ex3] at rd3
  have ln3 : xs3.length = n3 := lx3.trans lz3
  clear hA0 hval0
  refine (mxshifts_law A0 A2 A3 c0 c2 c3 n0 n2 n3 xs0 xs2 xs3 a1 W rd0 rd2 rd3 ln0 ln2 ln3 nc0 sz0 sz2 sz3 wx0 wx2 wx3).mono fun e W' ⟨he, bel⟩ => ?_
  subst he
  exact ⟨_, rfl, _, _, _, [], _, [], hW', trodAll_mk1 (shut_bool Try.underlying4 _), (trodAll_cons_mk (Below.trod laidOut (by kernel_rfl) (of_decide_eq_true (by kernel_rfl)) k0 bel lt0) (trodAll_cons_mk (shut_int Try.underlying3 wf1) (trodAll_cons_mk (Below.trod laidOut (by kernel_rfl) (of_decide_eq_true (by kernel_rfl)) k2 bel lt2) (trodAll_cons_mk (Below.trod laidOut (by kernel_rfl) (of_decide_eq_true (by kernel_rfl)) k3 bel lt3) trodAll_mk0)))), rfl, bel.frame _, fun h => by cases h⟩

theorem over : Rows.mixedShiftsRow.holds Try.pinned (OpenSpec.ofChange Rows.mixedShiftsSpec) :=
  OpenClaim.holds_of_wide 6 Try.f6 rfl rfl rfl rfl rfl rfl rfl ⟨rfl, rfl, rfl, rfl, rfl⟩ rfl rfl rfl rfl rfl (by kernel_rfl) Try.func6 (by kernel_rfl)
    (of_decide_eq_true (by kernel_rfl)) (by unfold Func.isWrapper; first | (rw [if_pos (by decide +kernel)]; kernel_rfl) | (rw [if_neg (by decide +kernel)]; exact ⟨rfl, rfl⟩))
    (fun os started H enc _ => lifted os started H enc)

/-- The statement. -/
theorem proved : Rows.MixedShiftsSaid := over
end Go.Proofs.Ytpkekdgpkalceaa.mixedShifts
