/-
  Walks of chapter 19's Check, in the program and in the reference, with Go's slices.Grow and slices.Concat. Conditions: slices no longer than the form lets them be, and no longer than their capacity.
-/
import Derived.Test.YtbgppkgcdmpajaaThruM
import Derived.Lib.AppendZerosOnto
import Derived.Lib.Walk
import Derived.Lib.SliceRun
namespace Go.Proofs.Ytbgppkgcdmpajaa
open Go.RowKit Go.Shelf
set_option linter.unusedVariables false

set_option maxHeartbeats 2000000 in
theorem grow_nil (n : Nat) (h1 : 1 ≤ n) (hn : n ≤ 1000000) (w : World) :
    Calls Try.prog 91 #[.slice none 0 0, .int .i64 n] w fun e w' => ∃ G, e = .returned (.slice (some ⟨w.heap.size, 0, none⟩) 0 G) ∧ w'.ownsRow w.heap.size 22 1 (.slice (some ⟨w.heap.size, 0, none⟩) 0 G) 0 [] ∧ Below w.heap.size w w' := by
  obtain ⟨i0, hi, hz0, hz1, hz2⟩ := info_parts Try.infoU64'
  have hrz : ∀ ty, (Builtin.append_ #[36, 3] ty #[.slice none 0 0, .int .i64 (n : Int)]).run Try.prog w =
      .ok (.slice (some ⟨w.heap.size, 0, none⟩) n (grownCap w n 0 22)) (w.drew.alloc (.cells (Builtin.zeroCells (Value.int .u64 0).cells n ++ Builtin.zeroCells (Value.int .u64 0).cells (grownCap w n 0 22 - n)) 22)) := fun ty => by
    have h := Lib.run_append_grow_zeros w 36 3 ty 22 i0 (.int .u64 0) .i64 .i64 Try.underlying36 Try.underlying3 hi hz0 none 0 0 [] (by rw [hz1]; exact run_firstCells_none w.drew 1 0 0 0) n (by omega) (by omega) (by omega) (by omega) (by rw [hz2]; omega) (by
      rw [hz2, Nat.zero_add]
      exact growslice_fits (by omega) (by omega))
    simp only [Nat.zero_add, List.toArray, Array.empty_append] at h
    simpa using h
  have hG := grownCap_ge w n 0 22
  have hG2 := grownCap_le_maxLen w n 0 22 (by unfold maxLen; omega)
  generalize grownCap w n 0 22 = G at *
  have HR := hide hrz
  have t1 : (0 : Int) < (n : Int) := by omega
  have t2 : (n : Int) ≤ (G : Int) := by omega
  have t3 : (G : Int) ≤ 9223372036854775807 := by unfold maxLen at hG2; omega
  have HG2 := hide hG2
  clear hrz hG2
  go_enter Try.func91, Try.ntmps91
  go_wp2_with (at_builtin; refine Lib.wpList_append_run _ rfl _ _ _ _ rfl _ _ rfl rfl _ _ (HR.out _) ?_)
  go_ret
  refine ⟨G, rfl, ⟨rfl, .inr ⟨w.heap.size, G, _, rfl, Nat.le_refl _, heap_alloc_new w _, by omega, HG2.out, ?_, rfl⟩⟩, ((Below.refl _ _).alloc (Nat.le_refl _) _).drew⟩
  simp [Builtin.zeroCells]
  omega
theorem bad_t (x : Nat) (w : World) : Calls Try.prog 80 #[.int .u64 x] w fun e w' => e = .returned (.bool (badP x)) ∧ w = w' := by
  have h := Is_any 61 x
  rw [prm61'] at h
  have H := hide h
  clear h
  go_enter Try.func80, Try.ntmps80
  go_wp2_with fail
  with_reducible refine (H.out _).mono ?_
  rintro e w1 ⟨rfl, rfl⟩
  go_wp2_with fail
  go_ret
  exact ⟨ret_b rfl, rfl⟩

set_option maxHeartbeats 400000 in
theorem index_t (A : Option Addr) (c B : Nat) (row : List Nat) (w : World) (hr : Rd w B A (us row)) (hl : row.length ≤ 17592186043904) (nr : Nat) (hnr : row.length = nr) :
    Calls Try.prog 89 #[.slice A nr c, .func (.func 80) #[] #[]] w fun e w' => ∃ r : Int, e = .returned (.int .i64 r) ∧ decide (0 ≤ r) = row.any badP ∧ w = w' := by
  subst hnr
  go_enter Try.func89, Try.ntmps89
  go_wp2
  go_loop [8] (fun i => ∃ k : Nat, k ≤ row.length ∧ i = .int .i64 k ∧ Hid (∀ j (h : j < row.length), j < k → badP row[j] = false)) (fun i => row.length - (intOf i).toNat)
  case atStart => exact ⟨0, Nat.zero_le _, rfl, fun j _ h => absurd h (by omega)⟩
  case round =>
    obtain ⟨k, hk, rfl, hall⟩ := hrel
    by_cases hlt : k < row.length
    · obtain ⟨b, o, rfl, hb, hc⟩ := hr.u hlt
      go_wp2_with (go_at_call 80; refine (bad_t _ _).mono ?_; rintro e w' ⟨rfl, rfl⟩)
      · go_ret
        rename_i hbad
        refine ⟨k, rfl, ?_, rfl⟩
        have : row.any badP = true := List.any_eq_true.2 ⟨_, List.getElem_mem hlt, hbad⟩
        rw [this]; simp
      · rename_i hbad
        go_round
        case rel => exact ⟨k + 1, by omega, by go_num, hide fun j h hj => by
                      by_cases e : j = k
                      · subst e; exact hbad
                      · exact hall.out j h (by omega)⟩
        case measure => simp [intOf]; omega
    · go_wp2_with fail
      go_ret
      have hkb : k = row.length := by omega
      subst hkb
      refine ⟨-1, rfl, ?_, rfl⟩
      have : row.any badP = false := by
        rw [List.any_eq_false]
        intro x hx
        obtain ⟨j, hj, rfl⟩ := List.getElem_of_mem hx
        simp [hall.out j hj hj]
      rw [this]; rfl

theorem contains_t (A : Option Addr) (c B : Nat) (row : List Nat) (w : World) (hr : Rd w B A (us row)) (hl : row.length ≤ 17592186043904) (nr : Nat) (hnr : row.length = nr) :
    Calls Try.prog 68 #[.slice A nr c, .func (.func 80) #[] #[]] w fun e w' => e = .returned (.bool (row.any badP)) ∧ w = w' := by
  subst hnr
  go_enter Try.func68, Try.ntmps68
  go_wp2_with (go_at_call 89; refine (index_t _ _ _ _ _ hr hl _ rfl).mono ?_; rintro e w' ⟨r, rfl, hr2, rfl⟩)
  go_ret
  exact ⟨ret_b rfl, rfl⟩


set_option maxRecDepth 100000 in
set_option maxHeartbeats 4000000 in
theorem concat_p (A A' : Option Addr) (B c c' n m cc : Nat) (xs ys : List Nat) (w : World) (h0 : w.cell? ⟨B, 0, none⟩ = some (.slice A n c)) (h1 : w.cell? ⟨B, 1, none⟩ = some (.slice A' m c')) (hx : Rs w A (us xs)) (hy : Rs w A' (us ys)) (hlx : xs.length = n) (hly : ys.length = m) (hn : 1 ≤ n) (hn2 : n ≤ 64) (hm : m ≤ 64) :
    Calls Try.prog 79 #[.slice (some ⟨B, 0, none⟩) 2 cc] w (RetL w (xs ++ ys)) := by
  obtain ⟨N, hN⟩ : ∃ N, N = n + m := ⟨_, rfl⟩
  have hlen : (xs ++ ys).length = N := by rw [List.length_append, hlx, hly, hN]
  have HX := hide hlx; have HY := hide hly; have HLEN := hide hlen; have HN := hide hN
  have t7 : (n : Int) + (m : Int) = (N : Int) := by omega
  have hN1 : 1 ≤ N := by omega
  have hN2 : N ≤ 128 := by omega
  have HG := hide (grow_nil N hN1 (by omega))
  clear hlx hly hlen hN
  go_enter Try.func79, Try.ntmps79
  go_wp2_with fail
  refine wp_loop_rounds 3 ?_
  rw [rounds_succ]
  go_wp2_with fail
  rw [rounds_succ]
  go_wp2_with fail
  rw [rounds_succ]
  go_wp2_with fail
  refine (HG.out _).mono ?_
  rintro e w1 ⟨G, rfl, hown, hb⟩
  have k0 := cell_call hb h0
  have k1 := cell_call hb h1
  have hB : B < w.heap.size := World.block_lt_of_cell? _ _ h0
  have hx1 : Rd w1 w.heap.size A (us xs) := Rd.below hx hb
  have hy1 : Rd w1 w.heap.size A' (us ys) := Rd.below hy hb
  have hsz := hb.size
  clear h0 h1 hx hy
  generalize hn0 : w.heap.size = n0 at *
  have HN0 := hide hn0
  clear hn0
  go_wp2_with fail
  refine wp_loop_rounds 3 ?_
  rw [rounds_succ]
  go_wp2_with (at_builtin; refine wp_appendN rfl _ _ _ rfl n0 22 (.int .u64 0) 8 Try.underlying36 Try.infoU64' rfl _ _ _ _ (by rfl) hown _ _ _ _ _ (by rfl) (by rw [len_us]; exact HX.out) hx1 (one_us _) (by omega) (by omega) hsz ?_)
  intro A2 c2 w2 hown2 hb2
  have k2 : w2.cell? ⟨B, 1, none⟩ = some (.slice A' m c') := (hb2.cell hB).trans k1
  have hy2 := hy1.below hb2
  have hsz2 : n0 ≤ w2.heap.size := Nat.le_trans hsz hb2.size
  have hb3 := hb.trans hb2
  clear hb hb2 k0 k1 hx1 hy1 hown
  go_wp2_with fail
  rw [rounds_succ]
  go_wp2_with (at_builtin; refine wp_appendN rfl _ _ _ rfl n0 22 (.int .u64 0) 8 Try.underlying36 Try.infoU64' rfl _ _ _ _ (by rfl) hown2 _ _ _ _ _ (by rfl) (by rw [len_us]; exact HY.out) hy2 (one_us _) (by omega) (by omega) hsz2 ?_)
  intro A3 c3 w3 hown3 hb4
  have hb5 := hb3.trans hb4
  clear hb3 hb4 k2 hy2 hown2
  rw [← us_append] at hown3
  go_wp2_with fail
  rw [rounds_succ]
  go_wp2_with fail
  go_ret
  exact ⟨A3, c3, by rw [HLEN.out, HN.out]; rfl, Rs.of_own hown3, by rw [HN0.out]; exact hb5⟩
theorem Rs.two (w : World) (v v' : Value) (t : TypeId) : (w.alloc (.cells #[v, v'] t)).cell? ⟨w.heap.size, 0, none⟩ = some v ∧ (w.alloc (.cells #[v, v'] t)).cell? ⟨w.heap.size, 1, none⟩ = some v' := by
  constructor <;> simp [go_sem]
theorem nodup_take_succ {xs : List Nat} {k : Nat} (h : k < xs.length) (hn : (xs.take k).Nodup) (hm : xs[k] ∉ xs.take k) : (xs.take (k + 1)).Nodup := by
  rw [take_succ' h]
  exact List.nodup_append.2 ⟨hn, by simp, fun x hx y hy e => by rw [List.mem_singleton.1 hy] at e; exact hm (e ▸ hx)⟩
theorem not_nodup {xs : List Nat} {k : Nat} (h : k < xs.length) (hm : xs[k] ∈ xs.take k) : ¬ xs.Nodup := fun hn => by
  obtain ⟨j, hj, e⟩ := List.getElem_of_mem hm
  rw [List.length_take] at hj
  rw [List.getElem_take] at e
  have := nodup_getD hn h (j := j) (by omega)
  rw [getD_in h, getD_in (by omega : j < xs.length)] at this
  exact this e
set_option maxRecDepth 100000 in
set_option maxHeartbeats 4000000 in
theorem check_t (A A' : Option Addr) (c c' n m : Nat) (xs ys : List Nat) (w : World) (hx : Rs w A (us xs)) (hy : Rs w A' (us ys)) (hlx : xs.length = n) (hly : ys.length = m) (hnc : n ≤ c) (hcm : c ≤ maxLen) (hn : n ≤ 17592186043904) (hm : m ≤ 17592186043904) :
    Calls Try.prog 50 #[.slice A n c, .slice A' m c'] w fun e w' => e = .returned (.int .i64 (chkT xs ys)) ∧ Below w.heap.size w w' := by
  by_cases h1 : xs.length < 1 ∨ 64 < xs.length ∨ xs.length ≠ ys.length
  · have hk : chkT xs ys = 1 := by unfold chkT; rw [if_pos h1]
    rw [hk]
    have hcase : (n : Int) < 1 ∨ (¬ (n : Int) < 1 ∧ (64 : Int) < (n : Int)) ∨ (¬ (n : Int) < 1 ∧ ¬ (64 : Int) < (n : Int) ∧ ((n : Int) != (m : Int)) = true) := by
      have e : ((n : Int) != (m : Int)) = true ↔ n ≠ m := by rw [bne_iff_ne]; omega
      rw [e]
      omega
    clear h1 hk hx hy hlx hly hcm hnc
    rcases hcase with t1 | ⟨t1, t2⟩ | ⟨t1, t2, t3⟩
    all_goals
      go_enter Try.func50, Try.ntmps50
      go_wp2_with fail
      go_ret
      exact ⟨rfl, Below.refl _ _⟩
  · have hk : chkT xs ys = if (xs ++ ys).any badP = true then 2 else if xs.Nodup then 0 else 15 := by unfold chkT; rw [if_neg h1]
    have hnm : n = m := by omega
    have t1 : ¬ (n : Int) < 1 := by omega
    have t2 : ¬ (64 : Int) < (n : Int) := by omega
    have t3 : ((n : Int) != (m : Int)) = false := by rw [bne_eq_false_iff_eq]; omega
    have q1 : 1 ≤ n := by omega
    have q2 : n ≤ 64 := by omega
    have q3 : m ≤ 64 := by omega
    have t4 : (n : Int) ≤ (c : Int) := by omega
    have t5 : (c : Int) ≤ 9223372036854775807 := by unfold maxLen at hcm; omega
    have hll : (xs ++ ys).length ≤ 200 := by rw [List.length_append]; omega
    have HC := hide (fun W B cc h0 h1 hx hy => concat_p A A' B c c' n m cc xs ys W h0 h1 hx hy hlx hly q1 q2 q3)
    have HB := hide (fun A'' c'' W (h : Rs W A'' (us (xs ++ ys))) => contains_t A'' c'' _ (xs ++ ys) W h (by omega) _ rfl)
    have HK := hide hk
    have HLX := hide hlx
    have HV := hide (fun k (hk : k < n) v W (h : Rs W A (us xs)) => containsv_p A c _ v (xs.take k) W (by rw [us_take]; exact Rs.take k h) (by rw [List.length_take]; omega) k (by rw [List.length_take]; omega))
    clear h1 hk hlx hly hnm hcm
    generalize (xs ++ ys).any badP = bad at *
    generalize xs ++ ys = zs at *
    go_enter Try.func50, Try.ntmps50
    go_wp2_with fail
    have hx1 := hx.alloc (.cells #[.slice A n c, .slice A' m c'] 93)
    have hB1 := (Below.refl w.heap.size w).alloc (Nat.le_refl _) (.cells #[.slice A n c, .slice A' m c'] 36)
    refine (HC.out _ w.heap.size _ (Rs.two w _ _ _).1 (Rs.two w _ _ _).2 (hx.alloc _) (hy.alloc _)).mono ?_
    rintro e w1 ⟨A1, c1, rfl, r1, hb⟩
    replace hx := (hx.alloc _).call hb
    have B : Below w.heap.size w w1 := below_call hB1 (Nat.le_refl _) hb
    clear hb hB1 hx1 hy
    go_wp2_with fail
    refine (HB.out _ _ _ r1).mono ?_
    rintro e w2 ⟨rfl, rfl⟩
    cases bad with
    | true =>
      go_wp2_with fail
      go_ret
      exact ⟨ret_i HK.out.symm, B⟩
    | false =>
      go_wp2_with fail
      go_loop [29] (fun v => ∃ k : Nat, k ≤ n ∧ v = .int .i64 k ∧ Hid ((xs.take k).Nodup)) (fun v => n - (intOf v).toNat)
      case atStart => exact ⟨0, Nat.zero_le _, rfl, hide (by simp)⟩
      case round =>
        obtain ⟨k, hk, rfl, hnd⟩ := hrel
        by_cases hlt : k < n
        · have u1 : (k : Int) < (n : Int) := by omega
          have u2 : (0 : Int) ≤ (k : Int) := by omega
          have u3 : (k : Int) ≤ (c : Int) := by omega
          have hkl : k < xs.length := by rw [HLX.out]; exact hlt
          obtain ⟨b, o, rfl, hbb, hc⟩ := Rd.u hx hkl
          have HVk := hide (HV.out k hlt xs[k])
          by_cases hmem : xs[k] ∈ xs.take k
          · rw [decide_eq_true hmem] at HVk
            have HN := hide (not_nodup hkl hmem)
            clear hmem
            generalize xs[k] = y at *
            go_wp2_with fail
            refine (HVk.out _ hx).mono ?_
            rintro e w3 ⟨rfl, rfl⟩
            go_wp2_with fail
            go_ret
            exact ⟨ret_i (by rw [HK.out, if_neg (by simp), if_neg HN.out]), B⟩
          · rw [decide_eq_false hmem] at HVk
            have HN := hide (nodup_take_succ hkl hnd.out hmem)
            clear hmem
            generalize xs[k] = y at *
            go_wp2_with fail
            refine (HVk.out _ hx).mono ?_
            rintro e w3 ⟨rfl, rfl⟩
            go_wp2_with fail
            go_round
            case rel => exact ⟨k + 1, by omega, by go_num, HN⟩
            case measure => simp [intOf]; omega
        · have hkn : k = n := by omega
          subst hkn
          go_wp2_with fail
          go_ret
          have hnd2 := hnd.out
          rw [List.take_of_length_le (by rw [HLX.out]; exact Nat.le_refl _)] at hnd2
          exact ⟨ret_i (by rw [HK.out, if_neg (by simp), if_pos hnd2]), B⟩
end Go.Proofs.Ytbgppkgcdmpajaa
