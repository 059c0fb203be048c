/-
  Walks of Go's slices.Grow and slices.Concat for two rows of numbers. Conditions: rows no longer than a thousand.
-/
import Derived.Test.YtpkekdgpkalceaaTabsA
import Derived.Lib.AppendZerosOnto
import Derived.Lib.Walk
import Derived.Lib.SliceRun
namespace Go.Proofs.Ytpkekdgpkalceaa
open Go.RowKit
set_option linter.unusedVariables false

set_option maxHeartbeats 2000000 in
theorem grow_cat (n : Nat) (h1 : 1 ≤ n) (hn : n ≤ 1000000) (w : World) :
    Calls Try.prog 57 #[.slice none 0 0, .int .i64 n] w fun e w' => ∃ G, e = .returned (.slice (some ⟨w.heap.size, 0, none⟩) 0 G) ∧ w'.ownsRow w.heap.size 30 1 (.slice (some ⟨w.heap.size, 0, none⟩) 0 G) 0 [] ∧ Below w.heap.size w w' := by
  obtain ⟨i0, hi, hz0, hz1, hz2⟩ := info_parts Try.infoU64
  have hrz : ∀ ty, (Builtin.append_ #[22, 3] ty #[.slice none 0 0, .int .i64 (n : Int)]).run Try.prog w =
      .ok (.slice (some ⟨w.heap.size, 0, none⟩) n (grownCap w n 0 30)) (w.drew.alloc (.cells (Builtin.zeroCells (Value.int .u64 0).cells n ++ Builtin.zeroCells (Value.int .u64 0).cells (grownCap w n 0 30 - n)) 30)) := fun ty => by
    have h := Lib.run_append_grow_zeros w 22 3 ty 30 i0 (.int .u64 0) .i64 .i64 Try.underlying22 Try.underlying3 hi hz0 none 0 0 [] (by rw [hz1]; exact run_firstCells_none w.drew 1 0 0 0) n (by omega) (by omega) (by omega) (by omega) (by rw [hz2]; omega) (by
      rw [hz2, Nat.zero_add]
      exact growslice_fits (by omega) (by omega))
    simp only [Nat.zero_add, List.toArray, Array.empty_append] at h
    simpa using h
  have hG := grownCap_ge w n 0 30
  have hG2 := grownCap_le_maxLen w n 0 30 (by unfold maxLen; omega)
  generalize grownCap w n 0 30 = G at *
  have HR := hide hrz
  have t1 : (0 : Int) < (n : Int) := by omega
  have t2 : (n : Int) ≤ (G : Int) := by omega
  have t3 : (G : Int) ≤ 9223372036854775807 := by unfold maxLen at hG2; omega
  have HG2 := hide hG2
  clear hrz hG2
  go_enter Try.func57, Try.ntmps57
  go_wp2_with (at_builtin; refine Lib.wpList_append_run _ rfl _ _ _ _ rfl _ _ rfl rfl _ _ (HR.out _) ?_)
  go_ret
  refine ⟨G, rfl, ⟨rfl, .inr ⟨w.heap.size, G, _, rfl, Nat.le_refl _, heap_alloc_new w _, by omega, HG2.out, ?_, rfl⟩⟩, ((Below.refl _ _).alloc (Nat.le_refl _) _).drew⟩
  simp [Builtin.zeroCells]
  omega
set_option maxRecDepth 100000 in
set_option maxHeartbeats 4000000 in
theorem concat_any (A A' : Option Addr) (B c c' n m cc : Nat) (xs ys : List Nat) (w : World) (h0 : w.cell? ⟨B, 0, none⟩ = some (.slice A n c)) (h1 : w.cell? ⟨B, 1, none⟩ = some (.slice A' m c')) (hx : Rs w A (us xs)) (hy : Rs w A' (us ys)) (hlx : xs.length = n) (hly : ys.length = m) (hn : 1 ≤ n) (hn2 : n ≤ 1000) (hm : m ≤ 1000) :
    Calls Try.prog 43 #[.slice (some ⟨B, 0, none⟩) 2 cc] w fun e w' => ∃ A3 c3, e = .returned (.slice A3 (n + m) c3) ∧ n + m ≤ c3 ∧ Rs w' A3 (us (xs ++ ys)) ∧ Below w.heap.size w w' := by
  obtain ⟨N, hN⟩ : ∃ N, N = n + m := ⟨_, rfl⟩
  have hlen : (xs ++ ys).length = N := by rw [List.length_append, hlx, hly, hN]
  have HX := hide hlx; have HY := hide hly; have HLEN := hide hlen; have HN := hide hN
  have t7 : (n : Int) + (m : Int) = (N : Int) := by omega
  have hN1 : 1 ≤ N := by omega
  have hN2 : N ≤ 2000 := by omega
  have HG := hide (grow_cat N hN1 (by omega))
  clear hlx hly hlen hN
  go_enter Try.func43, Try.ntmps43
  go_wp2_with fail
  refine wp_loop_rounds 3 ?_
  rw [rounds_succ]
  go_wp2_with fail
  rw [rounds_succ]
  go_wp2_with fail
  rw [rounds_succ]
  go_wp2_with fail
  refine (HG.out _).mono ?_
  rintro e w1 ⟨G, rfl, hown, hb⟩
  have k0 := cell_call hb h0
  have k1 := cell_call hb h1
  have hB : B < w.heap.size := World.block_lt_of_cell? _ _ h0
  have hx1 : Rd w1 w.heap.size A (us xs) := Rd.below hx hb
  have hy1 : Rd w1 w.heap.size A' (us ys) := Rd.below hy hb
  have hsz := hb.size
  clear h0 h1 hx hy
  generalize hn0 : w.heap.size = n0 at *
  have HN0 := hide hn0
  clear hn0
  go_wp2_with fail
  refine wp_loop_rounds 3 ?_
  rw [rounds_succ]
  go_wp2_with (at_builtin; refine wp_appendN rfl _ _ _ rfl n0 30 (.int .u64 0) 8 Try.underlying22 Try.infoU64 rfl _ _ _ _ (by rfl) hown _ _ _ _ _ (by rfl) (by rw [len_us]; exact HX.out) hx1 (one_us _) (by omega) (by omega) hsz ?_)
  intro A2 c2 w2 hown2 hb2
  have k2 : w2.cell? ⟨B, 1, none⟩ = some (.slice A' m c') := (hb2.cell hB).trans k1
  have hy2 := hy1.below hb2
  have hsz2 : n0 ≤ w2.heap.size := Nat.le_trans hsz hb2.size
  have hb3 := hb.trans hb2
  clear hb hb2 k0 k1 hx1 hy1 hown
  go_wp2_with fail
  rw [rounds_succ]
  go_wp2_with (at_builtin; refine wp_appendN rfl _ _ _ rfl n0 30 (.int .u64 0) 8 Try.underlying22 Try.infoU64 rfl _ _ _ _ (by rfl) hown2 _ _ _ _ _ (by rfl) (by rw [len_us]; exact HY.out) hy2 (one_us _) (by omega) (by omega) hsz2 ?_)
  intro A3 c3 w3 hown3 hb4
  have hb5 := hb3.trans hb4
  clear hb3 hb4 k2 hy2 hown2
  rw [← us_append] at hown3
  go_wp2_with fail
  rw [rounds_succ]
  go_wp2_with fail
  go_ret
  exact ⟨A3, c3, by rfl, (by rcases own_slice hown3 with ⟨_, _, he, h1, _⟩; injection he with _ _ he; omega), Rs.of_own hown3, by rw [HN0.out]; exact hb5⟩
end Go.Proofs.Ytpkekdgpkalceaa
