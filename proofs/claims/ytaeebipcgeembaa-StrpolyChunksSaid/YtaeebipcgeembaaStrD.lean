/-
  strpoly.Chunks hands back a text's numbers. Conditions: bytes, no more than 4096 of them.
-/
import Derived.Test.YtaeebipcgeembaaStrC
import Derived.RangeFuncNested
import Derived.Maps.AppendAt
namespace Go.Proofs.Ytaeebipcgeembaa
open Go.RowKit Go.Shelf
set_option linter.unusedVariables false

attribute [local go_sem] Oper.semAt_some

theorem len_chunksN (bs : List Nat) : (chunksN bs).length ≤ bs.length + 1 := by
  fun_induction chunksN bs with
  | case1 b h => simp
  | case2 b h ih => simp at ih ⊢; omega
theorem infoU : (Try.prog.info? 22).map (fun i => (i.zero, i.size, i.bytes)) = some (some (.int .u64 0), 1, 8) := by kernel_rfl

set_option maxRecDepth 100000 in
set_option maxHeartbeats 2000000 in
theorem appendSeq_in (n : Nat) (hn : 5 ≤ n) (B0 n₀ : Nat) (hB0 : n₀ ≤ B0) (bs : List Nat) (hby : ∀ x ∈ bs, x < 256) (A : Option Addr) (m c : Nat) (hm : bs.length = m) (hmc : m ≤ c) (hm2 : m ≤ 4096) (w : World) (hbx : Boxed w B0 23 (.slice A m c)) (hR : Rd w n₀ A (by8 bs)) :
    CallsIn Fence.wide n Try.prog 47 #[.slice none 0 0, .func (.func 41) #[] #[.pointer (some ⟨B0, 0, none⟩)]] w fun e w' =>
      ∃ A' c', e = .returned (.slice A' (chunksN bs).length c') ∧ w'.ownsRow n₀ 22 1 (.slice A' (chunksN bs).length c') (chunksN bs).length (us (chunksN bs)) ∧ Below n₀ w w' := by
  have h1 : 1 ≤ n := by omega
  obtain ⟨i0, hi, hz0, hz1, hz2⟩ := info_parts infoU
  refine callsIn_of_wp_marks Try.func47 rfl trivial ?_ rfl
  simp only [Try.ntmps47, List.size_toArray, List.length_cons, List.length_nil, Nat.reduceAdd, Nat.reduceSub, Array.replicate_succ, Array.replicate_zero, List.push_toArray, List.append_toArray, List.nil_append, List.cons_append]
  gi_wp2
  have bO := Boxed.new w 33 (.slice none 0 0)
  have hB1 : Below n₀ w (w.alloc (Obj.cells #[Value.slice none 0 0] 33)) := (Below.refl n₀ w).alloc (by have := hbx.lt; omega) _
  have hlt := hbx.lt
  refine range_chunks n (by omega) B0 n₀ hB0 rfl (enters_of Try.func41 (by kernel_rfl) rfl) bs A c m (chunks1_in (n - 1) (by omega) B0 n₀ hB0 bs hby A m c hm hmc hm2) (hR.below hB1)
    (fun v pre W => Boxed W B0 23 v ∧ (∃ va, Boxed W w.heap.size 33 va ∧ W.ownsRow n₀ 22 1 va pre.length (us pre) ∧ True) ∧ Below n₀ w W)
    (fun v pre W h => h.1) ?hset ?hdrew ?hI ⟨hbx.alloc _, ⟨_, bO, World.ownsRow_nil _ _ _ _, trivial⟩, hB1⟩
    (fun x => { tmps := #[Value.slice none 0 0, Value.func (Fn.func 41) #[] #[Value.pointer (some { block := B0, off := 0 })], Value.pointer (some { block := w.heap.size, off := 0 }), undef, Value.slice none 0 0, .int .u64 (x : Nat),
      Value.func (Fn.func 41) #[] #[Value.pointer (some { block := B0, off := 0 })], .int .u64 (x : Nat), undef, undef, undef, undef, undef], defers := [] }) ?assign ?body ?done
  case hset =>
    rintro v v' pre W ⟨hb, ⟨va, ha, hr, _⟩, hB⟩
    exact ⟨hb.set v', ⟨va, ha.other (by omega) v', hr.kept (grownBy_setCell' W B0 v') (.inr (hb.not_row (by decide) hr).symm), trivial⟩, hB.setCell (p := ⟨B0, 0, none⟩) hB0 _⟩
  case hdrew =>
    rintro v pre W ⟨hb, ⟨va, ha, hr, _⟩, hB⟩
    exact ⟨hb, ⟨va, ha, hr, trivial⟩, hB.drew⟩
  case hI =>
    intro v
    exact OwnFrom.and (Own.from (boxed_own B0 23 (fun _ => v)) _) (OwnFrom.and (Own.from (holdsRow_own n₀ w.heap.size 33 22 1 (fun pre => pre.length) (fun pre => us pre) (fun _ _ => True)) _) (ownFrom_below (by omega) (by simp; omega)))
  case assign =>
    intro l x W K hK
    simp only [List.setIfInBounds_toArray, List.set]
    gi_wp2
    exact hK
  case body =>
    rintro l v pre x W ⟨hb, ⟨va, ha, hr, _⟩, hB⟩ ⟨rr, hpx⟩
    have hc := ha.cell
    have hpl : pre.length ≤ 5000 := by
      have h1 := len_chunksN bs
      have h2 : (pre ++ x :: rr).length = (chunksN bs).length := by rw [hpx]
      simp at h2
      omega
    gi_wp2_with (gi_at_builtin; refine wpListIn_append_own _ rfl _ _ 33 rfl n₀ 22 i0 (.int .u64 0) 1 8 Try.underlying33 hi hz0 hz1 hz2 rfl (by decide) _ _ _ rfl (hr.alloc _) ⟨W.heap.size, 0, none⟩ 1 1 [.int .u64 (x : Nat)] rfl rfl (cell_one_new _ _ _) (by simp [Value.oneCell']) (by unfold maxLen; omega) (by omega) (by have := hB.size; simp; omega) ?_; intro v' w1 hown' hgrow _; obtain ⟨g', cap', rfl⟩ := ownsRow_succ hown'; obtain ⟨hv1, hv2, hr2, hk2, hb2⟩ := ha.appended (by decide) hr (by have := hB.size; omega) (by omega) hown' hgrow; have hb1 := (hb.alloc _).kept hgrow (hb.not_row (by decide) hr); have hc1 := hv1.cell; have hf1 := hv1.frozen)
    exact ⟨hk2.from _, hb2, hb1.other (by omega) _, ⟨_, hv2, by simpa [us] using hr2, trivial⟩, hB.trans hb2⟩
  case done =>
    rintro D v W hD ⟨hb, ⟨va, ha, hr, _⟩, hB⟩ hB2 hK
    have hc := ha.cell
    obtain ⟨A', c', rfl, hc1, hc2⟩ := own_slice hr
    gi_wp2
    refine ⟨by simp, .inl ⟨_, _, rfl, run_takeDeferred hK, ?_⟩⟩
    refine ⟨_, results_tmp rfl _ _ _, A', c', rfl, ownsRow_putObj hr _ hK rfl, ?_⟩
    exact hB.trans (belowK_b (w := w) (by omega) W D _ _ (by simp at hD; omega) hK rfl rfl)
theorem chunks_f (A : Option Addr) (m c : Nat) (w : World) :
    Calls Try.prog 24 #[.slice A m c] w fun e w' => e = .returned (.func (.func 41) #[] #[.pointer (some ⟨w.heap.size, 0, none⟩)]) ∧ w' = w.alloc (.cells #[.slice A m c] 23) := by
  go_enter Try.func24, Try.ntmps24
  go_wp2
  go_ret
  exact ⟨rfl, rfl⟩
/-- slices.Collect over the chunks. -/
theorem collect_f (B0 n₀ : Nat) (hB0 : n₀ ≤ B0) (bs : List Nat) (hby : ∀ x ∈ bs, x < 256) (A : Option Addr) (m c : Nat) (hm : bs.length = m) (hmc : m ≤ c) (hm2 : m ≤ 4096) (w : World) (hbx : Boxed w B0 23 (.slice A m c)) (hR : Rd w n₀ A (by8 bs)) :
    Calls Try.prog 31 #[.func (.func 41) #[] #[.pointer (some ⟨B0, 0, none⟩)]] w fun e w' =>
      ∃ A' c', e = .returned (.slice A' (chunksN bs).length c') ∧ w'.ownsRow n₀ 22 1 (.slice A' (chunksN bs).length c') (chunksN bs).length (us (chunksN bs)) ∧ Below n₀ w w' := by
  have hA := (callsIn_wide (n := 5)).1 (appendSeq_in 5 (by omega) B0 n₀ hB0 bs hby A m c hm hmc hm2 w hbx hR)
  go_enter Try.func31, Try.ntmps31
  go_wp2_with (go_at_call 47; (with_reducible refine hA.mono ?_); rintro e w2 ⟨A', c', rfl, ho, hB⟩)
  go_ret
  exact ⟨A', c', rfl, ho, hB⟩
/-- strpoly.Chunks. -/
theorem Chunks_f (bs : List Nat) (hby : ∀ x ∈ bs, x < 256) (A : Option Addr) (m c : Nat) (hm : bs.length = m) (hmc : m ≤ c) (hm2 : m ≤ 4096) (w : World) (hR : Rs w A (by8 bs)) :
    Calls Try.prog 14 #[.slice A m c] w fun e w' =>
      ∃ A' c', e = .returned (.slice A' (chunksN bs).length c') ∧ w'.ownsRow w.heap.size 22 1 (.slice A' (chunksN bs).length c') (chunksN bs).length (us (chunksN bs)) ∧ Below w.heap.size w w' := by
  have hB1 : Below w.heap.size w (w.alloc (.cells #[.slice A m c] 23)) := (Below.refl w.heap.size w).alloc (Nat.le_refl _) _
  have hA := collect_f w.heap.size w.heap.size (Nat.le_refl _) bs hby A m c hm hmc hm2 (w.alloc (.cells #[.slice A m c] 23)) (Boxed.new w _ _) (hR.below hB1)
  go_enter Try.func14, Try.ntmps14
  go_wp2_with (go_at_call 24; (with_reducible refine (chunks_f A m c w).mono ?_); rintro e w2 ⟨rfl, rfl⟩)
  go_wp2_with (go_at_call 31; (with_reducible refine hA.mono ?_); rintro e w2 ⟨A', c', rfl, ho, hB⟩)
  go_ret
  exact ⟨A', c', rfl, ho, hB1.trans hB⟩
end Go.Proofs.Ytaeebipcgeembaa
