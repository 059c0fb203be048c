/-
  Walks of mixed.Eval, its reference, and of the laws MixedRows and MixedEvals. Conditions: slices no longer than the form lets them be.
-/
import Derived.Test.YtgbikmonjonlnaaMixedA
namespace Go.Proofs.Ytgbikmonjonlnaa
open Go.RowKit
set_option linter.unusedVariables false

theorem mev_fits (words : List Nat) (x n : Nat) (hn : words.length = n) (h0 : n = 320) : (words.take 192).length = 192 ∧ fitsV (words.take 192).length (mrow words x) = 0 := by
  have hl : (words.take 192).length = 192 := by simp; omega
  exact ⟨hl, by simp [fitsV, hl, len_mrow, mrow_good]⟩

set_option maxRecDepth 100000 in
set_option maxHeartbeats 400000 in
theorem meval_any (A : Option Addr) (c B : Nat) (words : List Nat) (b : Int) (x : Nat) (w : World) (hwd : Rd w B A (us words)) (hB : B ≤ w.heap.size) (hl : words.length ≤ 17592186043904)
    (hw : ∀ x ∈ words, x < 18446744073709551616) (hx : x < 18446744073709551616) (n : Nat) (hn : words.length = n) (hnc : n ≤ c) :
    Calls Try.prog 32 #[.slice A n c, .int .i64 b, .int .u64 x] w fun e w' => e = .returned (.tuple #[.int .u64 (mevV words b x : Nat), .int .i64 (mevE words b x)]) ∧ Below w.heap.size w w' := by
  have C := hide (fun W => check_mixed A n c b W)
  by_cases h0 : chk (n : Int) 320 b = 0
  · obtain ⟨hb1, hb2, hn2⟩ := chk_zero h0
    rw [h0] at C
    have hk : keyE n 320 x = if x < 4294967296 then 0 else 2 := by simp [keyE, show n = 320 by omega]
    have he : mevE words b x = if x < 4294967296 then 0 else 2 := by simp [mevE, hn, h0]
    have C2 := hide (mrow_any A c B words x w hwd hB hl hw hx n hn hnc)
    rw [hk] at C2
    have HN := hide hn; have HE := hide he; have HW := hide hw
    by_cases hx32 : x < 4294967296
    · rw [if_pos hx32] at C2 he
      have ht : mrowV words x = mrow words x := by simp [mrowV, hn, hk, hx32]
      rw [ht] at C2
      have hcc : 192 ≤ c := by omega
      obtain ⟨b', o, rfl, hbb⟩ := hwd.addr (by rw [len_us]; omega)
      obtain ⟨hl1, hf⟩ := mev_fits words x n hn (by omega)
      have HE2 := hide he; have HLL := hide hl1; have HF := hide hf
      clear h0 hn he hn2 hk ht hl1 hf hw hx hx32
      go_enter Try.func32, Try.ntmps32
      go_wp2_with (go_at_call 34; refine (C.out _).mono ?_; rintro e w' ⟨rfl, rfl⟩)
      refine C2.out.mono ?_
      rintro e w1 ⟨A1, c1, rfl, hown, hbel⟩
      rw [len_is, len_mrow] at hown ⊢
      have hrd := (hwd.below (hbel.mono hB)).cut 0 192
      rw [us_cut] at hrd
      simp only [List.drop_zero, Nat.add_zero] at hrd
      have C3 := hide (sum_tabs (some ⟨b', o, none⟩) A1 192 c1 _ _ _ (mrow words x) w1 hrd (Rd.of_own hown) (by rw [HLL.out]; omega) (by rw [len_mrow]; omega) (fun z hz => HW.out z (List.mem_of_mem_take hz)) 192 HLL.out 12 (len_mrow _ _))
      rw [HF.out] at C3
      have hs : sumE (words.take 192) (mrow words x) = sumV (words.take 192) (mrow words x) := by unfold sumE; rw [if_pos HF.out]
      rw [hs] at C3
      clear hs hrd
      go_wp2_with fail
      refine C3.out.mono ?_
      rintro e w2 ⟨rfl, rfl⟩
      go_wp2_with fail
      refine (low_mixed _ _ _ (sumV_lt _ _ (fun z hz => HW.out z (List.mem_of_mem_take hz))) hb1 hb2).mono ?_
      rintro e w2 ⟨rfl, rfl⟩
      go_wp2
      go_ret2
      exact ⟨ret_ii (by simp [mevV, HE2.out]) HE2.out.symm, hbel⟩
    · rw [if_neg hx32] at C2 he
      have ht : mrowV words x = [] := by simp [mrowV, hn, hk, hx32]
      rw [ht] at C2
      have HE2 := hide he
      clear h0 hn he hn2 hk ht hw hx hx32
      go_enter Try.func32, Try.ntmps32
      go_wp2_with (go_at_call 34; refine (C.out _).mono ?_; rintro e w' ⟨rfl, rfl⟩)
      refine C2.out.mono ?_
      rintro e w1 ⟨A1, c1, rfl, hown, hbel⟩
      go_wp2_with fail
      go_ret2
      exact ⟨ret_ii (by simp [mevV, HE2.out]) HE2.out.symm, hbel⟩
  · have hz : (chk (n : Int) 320 b != 0) = true := by simpa using h0
    have he : mevE words b x = chk n 320 b := by simp [mevE, hn, h0]
    have hv : mevV words b x = 0 := by simp [mevV, he, h0]
    rw [he, hv]
    clear he hv hn
    generalize chk (n : Int) 320 b = z at *
    clear h0
    go_enter Try.func32, Try.ntmps32
    go_wp2_with (go_at_call 34; refine (C.out _).mono ?_; rintro e w' ⟨rfl, rfl⟩)
    go_ret2
    exact ⟨rfl, Below.refl _ _⟩

set_option maxRecDepth 100000 in
set_option maxHeartbeats 400000 in
theorem meval_ref (A : Option Addr) (c B : Nat) (words : List Nat) (b : Int) (x : Nat) (w : World) (hwd : Rd w B A (us words)) (hB : B ≤ w.heap.size) (hl : words.length ≤ 17592186043904)
    (hw : ∀ x ∈ words, x < 18446744073709551616) (hx : x < 18446744073709551616) (n : Nat) (hn : words.length = n) (hnc : n ≤ c) :
    Calls Try.prog 33 #[.slice A n c, .int .i64 b, .int .u64 x] w fun e w' => e = .returned (.tuple #[.int .u64 (mevV words b x : Nat), .int .i64 (mevE words b x)]) ∧ Below w.heap.size w w' := by
  have C := hide (fun W => check_ref A n c b 320 W)
  by_cases h0 : chk (n : Int) 320 b = 0
  · obtain ⟨hb1, hb2, hn2⟩ := chk_zero h0
    rw [h0] at C
    have he : mevE words b x = if x < 4294967296 then 0 else 2 := by simp [mevE, hn, h0]
    have H0 := hide h0; have HN := hide hn; have HE := hide he; have HW := hide hw
    by_cases hx32 : x < 4294967296
    · rw [if_pos hx32] at he
      have hq2 : decide ((4294967296 : Int) ≤ (x : Int)) = false := by simp; omega
      have hcc : 192 ≤ c := by omega
      obtain ⟨b', o, rfl, hbb⟩ := hwd.addr (by rw [len_us]; omega)
      obtain ⟨hl1, hf⟩ := mev_fits words x n hn (by omega)
      have HE2 := hide he; have HLL := hide hl1; have HX := hide hx; have HN2 := hide hn2
      have hrd0 := hwd.cut 0 192
      rw [us_cut] at hrd0
      simp only [List.drop_zero, Nat.add_zero] at hrd0
      clear h0 hn he hn2 hw hx hx32 hl1 hf
      go_enter Try.func33, Try.ntmps33
      go_wp2_with (go_at_call 24; refine (C.out _).mono ?_; rintro e w' ⟨rfl, rfl⟩)
      go_region_with (first | (go_at_call 27; refine (mrow_ref _ c B words x _ hwd.drew hB HW.out HX.out n HN.out (by have := HN2.out; omega)).mono ?_; rintro e w1 ⟨A1, c1, rfl, hown, hbel⟩) | (go_at_call 20; refine (sum_ref _ A1 _ _ _ _ (words.take 192) (mrow words x) _ (hrd0.drew.below (hbel.mono hB)) (Rd.of_own hown) (by rw [HLL.out]; omega) (fun z hz => HW.out z (List.mem_of_mem_take hz)) (by rw [HLL.out, len_mrow]) (mrow_good _ _) 192 HLL.out 12 (len_mrow _ _)).mono ?_; rintro e w2 ⟨rfl, rfl⟩) | (go_at_call 47; refine (low_ref _ _ _ (sumV_lt _ _ (fun z hz => HW.out z (List.mem_of_mem_take hz))) hb1 hb2).mono ?_; rintro e w2 ⟨rfl, rfl⟩))
      all_goals go_wp2
      all_goals go_ret2
      all_goals exact ⟨ret_ii (by simp [mevV, HE2.out]) HE2.out.symm, ((Below.refl _ w).drew).trans hbel⟩
    · rw [if_neg hx32] at he
      have hq2 : decide ((4294967296 : Int) ≤ (x : Int)) = true := by simp; omega
      have HE2 := hide he
      clear h0 hn he hn2 hw hx hx32
      go_enter Try.func33, Try.ntmps33
      go_wp2_with (go_at_call 24; refine (C.out _).mono ?_; rintro e w' ⟨rfl, rfl⟩)
      go_ret2
      exact ⟨ret_ii (by simp [mevV, HE2.out]) HE2.out.symm, Below.refl _ _⟩
  · have hz : (chk (n : Int) 320 b != 0) = true := by simpa using h0
    have he : mevE words b x = chk n 320 b := by simp [mevE, hn, h0]
    have hv : mevV words b x = 0 := by simp [mevV, he, h0]
    rw [he, hv]
    clear he hv hn
    generalize chk (n : Int) 320 b = z at *
    clear h0
    go_enter Try.func33, Try.ntmps33
    go_wp2_with (go_at_call 24; refine (C.out _).mono ?_; rintro e w' ⟨rfl, rfl⟩)
    go_ret2
    exact ⟨rfl, Below.refl _ _⟩

set_option maxRecDepth 100000 in
set_option maxHeartbeats 400000 in
theorem awake_mixed (w : World) : Calls Try.prog 25 #[] w fun e w' => e = .returned (.bool true) ∧ Below w.heap.size w w' := by
  go_enter Try.func25, Try.ntmps25
  go_wp2_with fail
  go_loopw [1, 2] (fun v i wr => ∃ k : Nat, k ≤ 320 ∧ i = .int .i64 k ∧ (∃ A c, v = .slice A k c) ∧ wr.ownsRow w.heap.size 24 1 v k (us (zeros k)) ∧ Below w.heap.size w wr) (fun _ i _ => 320 - (intOf i).toNat)
  case atStart => exact ⟨0, Nat.zero_le _, rfl, ⟨_, _, rfl⟩, World.ownsRow_nil _ _ _ _, Below.refl _ _⟩
  case round =>
    obtain ⟨k, hk, rfl, ⟨A, c, rfl⟩, hown2, hbel2⟩ := hrel
    by_cases hlt : k < 320
    · have hlt2 : (k : Int) < 320 := by omega
      go_wp2_with (at_builtin; (refine wp_append1 rfl _ _ _ rfl w.heap.size 24 _ (.int .u64 0) 8 Try.underlying22 Try.infoU64 rfl _ _ _ _ rfl hown2 _ rfl rfl (by omega) (by omega) hbel2.size ?_))
      intro A' c' w' hown' hb'
      go_wp2
      go_roundw
      case rel => exact ⟨k + 1, by omega, by go_num, ⟨_, _, rfl⟩, by rw [zeros_succ, us_append]; exact hown', hbel2.trans hb'⟩
      case measure => simp [intOf]; omega
    · have hkm : k = 320 := by omega
      subst hkm
      obtain ⟨A2, c2, he, hc2, _⟩ := own_slice hown2
      obtain ⟨rfl, rfl⟩ : A = A2 ∧ c = c2 := by simpa using he
      have C := hide (mrow_any A c _ (zeros 320) 33 wr (Rd.of_own hown2) (Nat.le_refl _) (by rw [len_zeros]; omega) (zeros_lt _) (by omega) _ (len_zeros _) hc2)
      rw [show mrowV (zeros 320) 33 = [1, 2, 0, 0, 0, 0, 0, 0, 0, 0, 0, 0] by decide +kernel, show keyE 320 320 33 = 0 by decide +kernel] at C
      clear hown2 hc2
      go_wp2_with fail
      refine C.out.mono ?_
      rintro e w3 ⟨A3, c3, rfl, hown3, hb3⟩
      have hr := Rd.of_own hown3
      obtain ⟨b, o, rfl, hbb⟩ := hr.addr (by rw [len_is]; simp)
      obtain ⟨b0, o0, h00, _, hc0⟩ := hr.i (k := 0) (by simp)
      obtain ⟨b1, o1, h11, _, hc1⟩ := hr.i (k := 1) (by simp)
      obtain ⟨b2, o2, h22, _, hcB⟩ := hr.i (k := 11) (by simp)
      simp only [Option.some.injEq, Addr.mk.injEq, and_true] at h00 h11 h22
      obtain ⟨rfl, rfl⟩ := h00
      obtain ⟨rfl, rfl⟩ := h11
      obtain ⟨rfl, rfl⟩ := h22
      have hc0' : w3.cell? ⟨b, o, none⟩ = some (.int .i64 1) := by simpa using hc0
      have hc1' : w3.cell? ⟨b, o + 1, none⟩ = some (.int .i64 2) := by simpa using hc1
      have hcB' : w3.cell? ⟨b, o + 11, none⟩ = some (.int .i64 0) := by simpa using hcB
      have z2 : chk 0 320 8 = 13 := by decide
      clear hc0 hc1 hcB hr hown3 C
      rw [len_is]
      simp only [List.length_cons, List.length_nil, Nat.zero_add, Nat.reduceAdd]
      go_wp2_with (go_at_call 34; refine (check_mixed _ _ _ _ _).mono ?_; rintro e w' ⟨rfl, rfl⟩)
      go_ret
      exact ⟨rfl, hbel2.trans (hb3.mono hbel2.size)⟩

set_option maxHeartbeats 400000 in
theorem mevals_law (A : Option Addr) (n c B : Nat) (words : List Nat) (b : Int) (x : Nat) (w : World) (hwd : Rd w B A (us words)) (hB : B ≤ w.heap.size) (hl : words.length ≤ 17592186043904)
    (hw : ∀ x ∈ words, x < 18446744073709551616) (hx : x < 18446744073709551616) (hn : words.length = n) (hnc : n ≤ c) :
    Calls Try.prog 7 #[.slice A n c, .int .i64 b, .int .u64 x] w fun e w' => e = .returned (.bool true) ∧ Below w.heap.size w w' := by
  go_enter Try.func7, Try.ntmps7
  go_wp2_with fail
  refine (awake_mixed _).mono ?_
  rintro e w1 ⟨rfl, hb1⟩
  go_wp2_with fail
  refine (meval_any A c B words b x _ (hwd.below (hb1.mono hB)) (Nat.le_trans hB hb1.size) hl hw hx n hn hnc).mono ?_
  rintro e w2 ⟨rfl, hb2⟩
  go_wp2_with fail
  refine (meval_ref A c B words b x _ ((hwd.below (hb1.mono hB)).below (hb2.mono (Nat.le_trans hB hb1.size))) (Nat.le_trans hB (Nat.le_trans hb1.size hb2.size)) hl hw hx n hn hnc).mono ?_
  rintro e w3 ⟨rfl, hb3⟩
  go_wp2_with (first | (go_at_call 34; refine (check_mixed _ _ _ _ _).mono ?_; rintro e w' ⟨rfl, rfl⟩) | (go_at_call 24; refine (check_ref _ _ _ _ _ _).mono ?_; rintro e w' ⟨rfl, rfl⟩))
  all_goals go_ret
  all_goals exact ⟨rfl, hb1.trans ((hb2.trans (hb3.mono hb2.size)).mono hb1.size)⟩

set_option maxRecDepth 100000 in
set_option maxHeartbeats 1000000 in
theorem mrows_law (A : Option Addr) (n c B : Nat) (words : List Nat) (x y : Nat) (w : World) (hwd : Rd w B A (us words)) (hB : B ≤ w.heap.size) (hl : words.length ≤ 17592186043904)
    (hw : ∀ x ∈ words, x < 18446744073709551616) (hx : x < 18446744073709551616) (hy : y < 18446744073709551616) (hn : words.length = n) (hnc : n ≤ c) :
    Calls Try.prog 5 #[.slice A n c, .int .u64 x, .int .u64 y] w fun e w' => e = .returned (.bool true) ∧ Below w.heap.size w w' := by
  have HN := hide hn
  have C1 : ∀ (z : Nat) W, z < 18446744073709551616 → Below w.heap.size w W → Calls Try.prog 26 #[.slice A n c, .int .u64 z] W (RetOwn2 W 3 (is (mrowV words z)) (keyE n 320 z)) :=
    fun z W hz hb => mrow_any A c B words z W (hwd.below (hb.mono hB)) (Nat.le_trans hB hb.size) hl hw hz n hn hnc
  have C3 : ∀ W, Calls Try.prog 24 #[.slice A n c, .int .i64 64, .int .i64 320] W fun e w' => e = .returned (.int .i64 (chk n 320 64)) ∧ W = w' := fun W => check_ref A n c 64 320 W
  by_cases h0 : n = 320
  · rw [show chk (n : Int) 320 64 = 0 by rw [chk64, if_pos (by omega)]] at C3
    have hv : ∀ z, z < 4294967296 → mrowV words z = mrow words z ∧ keyE n 320 z = 0 := fun z hz => by simp [mrowV, keyE, hn, h0, hz]
    have hv2 : ∀ z, ¬ z < 4294967296 → mrowV words z = [] ∧ keyE n 320 z = 2 := fun z hz => by simp [mrowV, keyE, hn, h0, hz]
    by_cases hx32 : x < 4294967296
    · have hq2 : decide ((4294967296 : Int) ≤ (x : Int)) = false := by simp; omega
      have D : ∀ W, Below w.heap.size w W → Calls Try.prog 27 #[.slice A n c, .int .u64 x] W fun e w' => ∃ A' c', e = .returned (.slice A' 12 c') ∧ w'.ownsRow W.heap.size 3 1 (.slice A' 12 c') 12 (is (mrow words x)) ∧ Below W.heap.size W w' :=
        fun W hb => mrow_ref A c B words x W (hwd.below (hb.mono hB)) (Nat.le_trans hB hb.size) hw hx n hn h0
      have E1 := fun W hb => C1 x W hx hb
      rw [(hv x hx32).1, (hv x hx32).2] at E1
      have E2 := fun W hb => C1 y W hy hb
      have HE1 := hide E1; have HC3 := hide C3; have HD := hide D; have HV := hide hv; have HV2 := hide hv2; have HX := hide hx32
      clear C1 C3 D E1 hn h0 hx32 hw hx hy hv hv2
      have HE2 := hide E2
      clear E2
      go_enter Try.func5, Try.ntmps5
      go_wp2_with fail
      refine (awake_mixed _).mono ?_
      rintro e w1 ⟨rfl, hb1⟩
      go_wp2_with fail
      refine (HE1.out _ hb1).mono ?_
      rintro e w2 ⟨A1, c1, rfl, hown1, hb2⟩
      rw [len_is, len_mrow] at hown1 ⊢
      have b2 := hb1.trans (hb2.mono hb1.size)
      go_wp2_with fail
      refine (HC3.out _).mono ?_
      rintro e w4 ⟨rfl, rfl⟩
      go_wp2_with fail
      refine (HE2.out _ b2).mono ?_
      rintro e w3 ⟨A2, c2, rfl, hown2, hb3⟩
      have b3 := b2.trans (hb3.mono b2.size)
      have r1 := (Rd.of_own hown1).below hb3
      have r2 := Rd.of_own hown2
      rw [len_is]
      clear hown1 hown2
      go_wp2_with fail
      refine (HD.out _ b3).mono ?_
      rintro e w4 ⟨A3, c3, rfl, hown3, hb4⟩
      have b4 := b3.trans (hb4.mono b3.size)
      have r1' := r1.below (hb4.mono hb3.size)
      have r2' := r2.below hb4
      have r3 := Rd.of_own hown3
      clear hown3
      go_wp2_with fail
      refine (ints_any A1 A3 c1 c3 _ _ (mrow words x) (mrow words x) _ r1' r3 (by rw [len_mrow]; omega) (by rw [len_mrow]; omega) 12 (len_mrow _ _) 12 (len_mrow _ _)).mono ?_
      rintro e w5 ⟨rfl, hb5⟩
      have b5 := b4.trans (hb5.mono b4.size)
      rw [show decide (mrow words x = mrow words x) = true by simp]
      by_cases hy32 : y < 4294967296
      · obtain ⟨e1, e2⟩ := HV.out y hy32
        rw [e2, e1, len_mrow]
        have r1'' := r1'.below (hb5.mono (Nat.le_trans hb3.size hb4.size))
        have r2'' := r2'.below (hb5.mono hb4.size)
        rw [e1] at r2''
        have C := hide (fun W (hb : Below w5.heap.size w5 W) => ints_any A1 A2 c1 c2 _ _ (mrow words x) (mrow words y) W (r1''.below (hb.mono (Nat.le_trans hb3.size (Nat.le_trans hb4.size hb5.size)))) (r2''.below (hb.mono (Nat.le_trans hb4.size hb5.size))) (by rw [len_mrow]; omega) (by rw [len_mrow]; omega) 12 (len_mrow _ _) 12 (len_mrow _ _))
        have hxy : decide (mrow words x = mrow words y) = ((x : Int) == (y : Int)) := by
          by_cases h : x = y
          · simp [h]
          · have : ¬ mrow words x = mrow words y := fun h2 => h (mrow_inj words x y HX.out hy32 h2)
            have h3 : ¬ (x : Int) = (y : Int) := by omega
            rw [decide_eq_false this]; symm; rw [beq_eq_false_iff_ne]; exact h3
        rw [hxy] at C
        clear e1 e2 r1 r2 r1' r2' r3 r1'' r2'' hxy hy32
        go_wp2_with fail
        refine (C.out _ (Below.refl _ _)).mono ?_
        rintro e w6 ⟨rfl, hb6⟩
        go_wp2_with fail
        all_goals go_ret
        all_goals exact ⟨rfl, b5.trans (hb6.mono b5.size)⟩
      · obtain ⟨e1, e2⟩ := HV2.out y hy32
        rw [e2]
        clear e1 e2 r1 r2 r1' r2' r3 hy32
        go_wp2_with fail
        go_ret
        exact ⟨rfl, b5⟩
    · have hq2 : decide ((4294967296 : Int) ≤ (x : Int)) = true := by simp; omega
      have E1 := fun W hb => C1 x W hx hb
      rw [(hv2 x hx32).1, (hv2 x hx32).2] at E1
      have HC1 := hide E1; have HC3 := hide C3
      clear C1 C3 E1 hn h0 hx32 hw hx hy hv hv2
      go_enter Try.func5, Try.ntmps5
      go_wp2_with fail
      refine (awake_mixed _).mono ?_
      rintro e w1 ⟨rfl, hb1⟩
      go_wp2_with fail
      refine (HC1.out _ hb1).mono ?_
      rintro e w2 ⟨A1, c1, rfl, hown1, hb2⟩
      rw [len_is] at hown1 ⊢
      have b2 := hb1.trans (hb2.mono hb1.size)
      go_wp2_with fail
      refine (HC3.out _).mono ?_
      rintro e w4 ⟨rfl, rfl⟩
      go_wp2_with fail
      go_ret
      exact ⟨rfl, b2⟩
  · rw [show chk (n : Int) 320 64 = 13 by rw [chk64, if_neg (by omega)]] at C3
    have hv2 : mrowV words x = [] ∧ keyE n 320 x = 13 := by simp [mrowV, keyE, hn, h0]
    have E1 := fun W hb => C1 x W hx hb
    rw [hv2.1, hv2.2] at E1
    have HC1 := hide E1; have HC3 := hide C3
    clear C1 C3 E1 hn h0 hw hx hy hv2
    go_enter Try.func5, Try.ntmps5
    go_wp2_with fail
    refine (awake_mixed _).mono ?_
    rintro e w1 ⟨rfl, hb1⟩
    go_wp2_with fail
    refine (HC1.out _ hb1).mono ?_
    rintro e w2 ⟨A1, c1, rfl, hown1, hb2⟩
    rw [len_is] at hown1 ⊢
    have b2 := hb1.trans (hb2.mono hb1.size)
    go_wp2_with fail
    refine (HC3.out _).mono ?_
    rintro e w4 ⟨rfl, rfl⟩
    go_wp2_with fail
    go_ret
    exact ⟨rfl, b2⟩
end Go.Proofs.Ytgbikmonjonlnaa
