/-
  Walks of mixed.Eval, its reference, and of the laws MixedRows and MixedEvals. Conditions: slices no longer than the form lets them be.
-/
import Derived.Test.YtpkekdgpkalceaaMixedA
namespace Go.Proofs.Ytpkekdgpkalceaa
open Go.RowKit
set_option linter.unusedVariables false

theorem mev_fits (words : List Nat) (x n : Nat) (hn : words.length = n) (h0 : n = 320) : (words.take 192).length = 192 ∧ fitsV (words.take 192).length (mrow words x) = 0 := by
  have hl : (words.take 192).length = 192 := by simp; omega
  exact ⟨hl, by simp [fitsV, hl, len_mrow, mrow_good]⟩

set_option maxRecDepth 100000 in
set_option maxHeartbeats 400000 in
theorem meval_any (A : Option Addr) (c B : Nat) (words : List Nat) (b : Int) (x : Nat) (w : World) (hwd : Rd w B A (us words)) (hB : B ≤ w.heap.size) (hl : words.length ≤ 17592186043904)
    (hw : ∀ x ∈ words, x < 18446744073709551616) (hx : x < 18446744073709551616) (n : Nat) (hn : words.length = n) (hnc : n ≤ c) :
    Calls Try.prog 41 #[.slice A n c, .int .i64 b, .int .u64 x] w fun e w' => e = .returned (.tuple #[.int .u64 (mevV words b x : Nat), .int .i64 (mevE words b x)]) ∧ Below w.heap.size w w' := by
  have C := hide (fun W => check_mixed A n c b W)
  by_cases h0 : chk (n : Int) 320 b = 0
  · obtain ⟨hb1, hb2, hn2⟩ := chk_zero h0
    rw [h0] at C
    have hk : keyE n 320 x = if x < 4294967296 then 0 else 2 := by simp [keyE, show n = 320 by omega]
    have he : mevE words b x = if x < 4294967296 then 0 else 2 := by simp [mevE, hn, h0]
    have C2 := hide (mrow_any A c B words x w hwd hB hl hw hx n hn hnc)
    rw [hk] at C2
    have HN := hide hn; have HE := hide he; have HW := hide hw
    by_cases hx32 : x < 4294967296
    · rw [if_pos hx32] at C2 he
      have ht : mrowV words x = mrow words x := by simp [mrowV, hn, hk, hx32]
      rw [ht] at C2
      have hcc : 192 ≤ c := by omega
      obtain ⟨b', o, rfl, hbb⟩ := hwd.addr (by rw [len_us]; omega)
      obtain ⟨hl1, hf⟩ := mev_fits words x n hn (by omega)
      have HE2 := hide he; have HLL := hide hl1; have HF := hide hf
      clear h0 hn he hn2 hk ht hl1 hf hw hx hx32
      go_enter Try.func41, Try.ntmps41
      go_wp2_with (go_at_call 39; refine (C.out _).mono ?_; rintro e w' ⟨rfl, rfl⟩)
      refine C2.out.mono ?_
      rintro e w1 ⟨A1, c1, rfl, hown, hbel⟩
      rw [len_is, len_mrow] at hown ⊢
      have hrd := (hwd.below (hbel.mono hB)).cut 0 192
      rw [us_cut] at hrd
      simp only [List.drop_zero, Nat.add_zero] at hrd
      have C3 := hide (sum_tabs (some ⟨b', o, none⟩) A1 192 c1 _ _ _ (mrow words x) w1 hrd (Rd.of_own hown) (by rw [HLL.out]; omega) (by rw [len_mrow]; omega) (fun z hz => HW.out z (List.mem_of_mem_take hz)) 192 HLL.out 12 (len_mrow _ _))
      rw [HF.out] at C3
      have hs : sumE (words.take 192) (mrow words x) = sumV (words.take 192) (mrow words x) := by unfold sumE; rw [if_pos HF.out]
      rw [hs] at C3
      clear hs hrd
      go_wp2_with fail
      refine C3.out.mono ?_
      rintro e w2 ⟨rfl, rfl⟩
      go_wp2_with fail
      refine (low_mixed _ _ _ (sumV_lt _ _ (fun z hz => HW.out z (List.mem_of_mem_take hz))) hb1 hb2).mono ?_
      rintro e w2 ⟨rfl, rfl⟩
      go_wp2
      go_ret2
      exact ⟨ret_ii (by simp [mevV, HE2.out]) HE2.out.symm, hbel⟩
    · rw [if_neg hx32] at C2 he
      have ht : mrowV words x = [] := by simp [mrowV, hn, hk, hx32]
      rw [ht] at C2
      have HE2 := hide he
      clear h0 hn he hn2 hk ht hw hx hx32
      go_enter Try.func41, Try.ntmps41
      go_wp2_with (go_at_call 39; refine (C.out _).mono ?_; rintro e w' ⟨rfl, rfl⟩)
      refine C2.out.mono ?_
      rintro e w1 ⟨A1, c1, rfl, hown, hbel⟩
      go_wp2_with fail
      go_ret2
      exact ⟨ret_ii (by simp [mevV, HE2.out]) HE2.out.symm, hbel⟩
  · have hz : (chk (n : Int) 320 b != 0) = true := by simpa using h0
    have he : mevE words b x = chk n 320 b := by simp [mevE, hn, h0]
    have hv : mevV words b x = 0 := by simp [mevV, he, h0]
    rw [he, hv]
    clear he hv hn
    generalize chk (n : Int) 320 b = z at *
    clear h0
    go_enter Try.func41, Try.ntmps41
    go_wp2_with (go_at_call 39; refine (C.out _).mono ?_; rintro e w' ⟨rfl, rfl⟩)
    go_ret2
    exact ⟨rfl, Below.refl _ _⟩

set_option maxRecDepth 100000 in
set_option maxHeartbeats 400000 in
theorem meval_ref (A : Option Addr) (c B : Nat) (words : List Nat) (b : Int) (x : Nat) (w : World) (hwd : Rd w B A (us words)) (hB : B ≤ w.heap.size) (hl : words.length ≤ 17592186043904)
    (hw : ∀ x ∈ words, x < 18446744073709551616) (hx : x < 18446744073709551616) (n : Nat) (hn : words.length = n) (hnc : n ≤ c) :
    Calls Try.prog 19 #[.slice A n c, .int .i64 b, .int .u64 x] w fun e w' => e = .returned (.tuple #[.int .u64 (mevV words b x : Nat), .int .i64 (mevE words b x)]) ∧ Below w.heap.size w w' := by
  have C := hide (fun W => check_ref A n c b 320 W)
  by_cases h0 : chk (n : Int) 320 b = 0
  · obtain ⟨hb1, hb2, hn2⟩ := chk_zero h0
    rw [h0] at C
    have he : mevE words b x = if x < 4294967296 then 0 else 2 := by simp [mevE, hn, h0]
    have H0 := hide h0; have HN := hide hn; have HE := hide he; have HW := hide hw
    by_cases hx32 : x < 4294967296
    · rw [if_pos hx32] at he
      have hq2 : decide ((4294967296 : Int) ≤ (x : Int)) = false := by simp; omega
      have hcc : 192 ≤ c := by omega
      obtain ⟨b', o, rfl, hbb⟩ := hwd.addr (by rw [len_us]; omega)
      obtain ⟨hl1, hf⟩ := mev_fits words x n hn (by omega)
      have HE2 := hide he; have HLL := hide hl1; have HX := hide hx; have HN2 := hide hn2
      have hrd0 := hwd.cut 0 192
      rw [us_cut] at hrd0
      simp only [List.drop_zero, Nat.add_zero] at hrd0
      clear h0 hn he hn2 hw hx hx32 hl1 hf
      go_enter Try.func19, Try.ntmps19
      go_wp2_with (go_at_call 14; refine (C.out _).mono ?_; rintro e w' ⟨rfl, rfl⟩)
      go_region_with (first | (go_at_call 44; refine (mrow_ref _ c B words x _ hwd.drew hB HW.out HX.out n HN.out (by have := HN2.out; omega)).mono ?_; rintro e w1 ⟨A1, c1, rfl, hown, hbel⟩) | (go_at_call 11; refine (sum_ref _ A1 _ _ _ _ (words.take 192) (mrow words x) _ (hrd0.drew.below (hbel.mono hB)) (Rd.of_own hown) (by rw [HLL.out]; omega) (fun z hz => HW.out z (List.mem_of_mem_take hz)) (by rw [HLL.out, len_mrow]) (mrow_good _ _) 192 HLL.out 12 (len_mrow _ _)).mono ?_; rintro e w2 ⟨rfl, rfl⟩) | (go_at_call 36; refine (low_ref _ _ _ (sumV_lt _ _ (fun z hz => HW.out z (List.mem_of_mem_take hz))) hb1 hb2).mono ?_; rintro e w2 ⟨rfl, rfl⟩))
      all_goals go_wp2
      all_goals go_ret2
      all_goals exact ⟨ret_ii (by simp [mevV, HE2.out]) HE2.out.symm, ((Below.refl _ w).drew).trans hbel⟩
    · rw [if_neg hx32] at he
      have hq2 : decide ((4294967296 : Int) ≤ (x : Int)) = true := by simp; omega
      have HE2 := hide he
      clear h0 hn he hn2 hw hx hx32
      go_enter Try.func19, Try.ntmps19
      go_wp2_with (go_at_call 14; refine (C.out _).mono ?_; rintro e w' ⟨rfl, rfl⟩)
      go_ret2
      exact ⟨ret_ii (by simp [mevV, HE2.out]) HE2.out.symm, Below.refl _ _⟩
  · have hz : (chk (n : Int) 320 b != 0) = true := by simpa using h0
    have he : mevE words b x = chk n 320 b := by simp [mevE, hn, h0]
    have hv : mevV words b x = 0 := by simp [mevV, he, h0]
    rw [he, hv]
    clear he hv hn
    generalize chk (n : Int) 320 b = z at *
    clear h0
    go_enter Try.func19, Try.ntmps19
    go_wp2_with (go_at_call 14; refine (C.out _).mono ?_; rintro e w' ⟨rfl, rfl⟩)
    go_ret2
    exact ⟨rfl, Below.refl _ _⟩

set_option maxRecDepth 100000 in
set_option maxHeartbeats 400000 in
theorem awake_mixed (w : World) : Calls Try.prog 17 #[] w fun e w' => e = .returned (.bool true) ∧ Below w.heap.size w w' := by
  go_enter Try.func17, Try.ntmps17
  go_wp2_with fail
  go_loopw [1, 2] (fun v i wr => ∃ k : Nat, k ≤ 320 ∧ i = .int .i64 k ∧ (∃ A c, v = .slice A k c) ∧ wr.ownsRow w.heap.size 30 1 v k (us (zeros k)) ∧ Below w.heap.size w wr) (fun _ i _ => 320 - (intOf i).toNat)
  case atStart => exact ⟨0, Nat.zero_le _, rfl, ⟨_, _, rfl⟩, World.ownsRow_nil _ _ _ _, Below.refl _ _⟩
  case round =>
    obtain ⟨k, hk, rfl, ⟨A, c, rfl⟩, hown2, hbel2⟩ := hrel
    by_cases hlt : k < 320
    · have hlt2 : (k : Int) < 320 := by omega
      go_wp2_with (at_builtin; (refine wp_append1 rfl _ _ _ rfl w.heap.size 30 _ (.int .u64 0) 8 Try.underlying22 Try.infoU64 rfl _ _ _ _ rfl hown2 _ rfl rfl (by omega) (by omega) hbel2.size ?_))
      intro A' c' w' hown' hb'
      go_wp2
      go_roundw
      case rel => exact ⟨k + 1, by omega, by go_num, ⟨_, _, rfl⟩, by rw [zeros_succ, us_append]; exact hown', hbel2.trans hb'⟩
      case measure => simp [intOf]; omega
    · have hkm : k = 320 := by omega
      subst hkm
      obtain ⟨A2, c2, he, hc2, _⟩ := own_slice hown2
      obtain ⟨rfl, rfl⟩ : A = A2 ∧ c = c2 := by simpa using he
      have C := hide (mrow_any A c _ (zeros 320) 33 wr (Rd.of_own hown2) (Nat.le_refl _) (by rw [len_zeros]; omega) (zeros_lt _) (by omega) _ (len_zeros _) hc2)
      rw [show mrowV (zeros 320) 33 = [1, 2, 0, 0, 0, 0, 0, 0, 0, 0, 0, 0] by decide +kernel, show keyE 320 320 33 = 0 by decide +kernel] at C
      clear hown2 hc2
      go_wp2_with fail
      refine C.out.mono ?_
      rintro e w3 ⟨A3, c3, rfl, hown3, hb3⟩
      have hr := Rd.of_own hown3
      obtain ⟨b, o, rfl, hbb⟩ := hr.addr (by rw [len_is]; simp)
      obtain ⟨b0, o0, h00, _, hc0⟩ := hr.i (k := 0) (by simp)
      obtain ⟨b1, o1, h11, _, hc1⟩ := hr.i (k := 1) (by simp)
      obtain ⟨b2, o2, h22, _, hcB⟩ := hr.i (k := 11) (by simp)
      simp only [Option.some.injEq, Addr.mk.injEq, and_true] at h00 h11 h22
      obtain ⟨rfl, rfl⟩ := h00
      obtain ⟨rfl, rfl⟩ := h11
      obtain ⟨rfl, rfl⟩ := h22
      have hc0' : w3.cell? ⟨b, o, none⟩ = some (.int .i64 1) := by simpa using hc0
      have hc1' : w3.cell? ⟨b, o + 1, none⟩ = some (.int .i64 2) := by simpa using hc1
      have hcB' : w3.cell? ⟨b, o + 11, none⟩ = some (.int .i64 0) := by simpa using hcB
      have z2 : chk 0 320 8 = 13 := by decide
      clear hc0 hc1 hcB hr hown3 C
      rw [len_is]
      simp only [List.length_cons, List.length_nil, Nat.zero_add, Nat.reduceAdd]
      go_wp2_with (go_at_call 39; refine (check_mixed _ _ _ _ _).mono ?_; rintro e w' ⟨rfl, rfl⟩)
      go_ret
      exact ⟨rfl, hbel2.trans (hb3.mono hbel2.size)⟩

end Go.Proofs.Ytpkekdgpkalceaa
