/-
  Walks of chapter 19's 'awake' and of its laws. Conditions: slices no longer than the form lets them be, and no longer than their capacity.
-/
import Derived.Test.YtbgppkgcdmpajaaThruF
namespace Go.Proofs.Ytbgppkgcdmpajaa
open Go.RowKit Go.Shelf
set_option linter.unusedVariables false

theorem chk12 : chkT [1, 2] [5, 7] = 0 := by decide
theorem thr12 : thrT [1, 2] [5, 7] = ([3, 2], 0) := by
  rw [thrT, chk12, if_neg (by simp)]
  have h : valsP [3, 2] [1, 2] = [5, 7] := by decide
  rw [← h, through_only (c := [3, 2]) (xs := [1, 2]) (by decide) (by decide) (by decide) rfl]
set_option maxRecDepth 100000 in
set_option maxHeartbeats 2000000 in
theorem awake19 (w : World) : Calls Try.prog 47 #[] w fun e w' => e = .returned (.bool true) ∧ Below w.heap.size w w' := by
  go_enter Try.func47, Try.ntmps47
  go_wp2_with fail
  have R1 := fun t t' => (Rs.new2 w 1 2 t).alloc (.cells #[.int .u64 (5 : Nat), .int .u64 (7 : Nat)] t')
  have R2 := fun t t' => Rs.new2 (w.alloc (.cells #[.int .u64 (1 : Nat), .int .u64 (2 : Nat)] t)) 5 7 t'
  have hs : ∀ t, (w.alloc (.cells #[.int .u64 (1 : Nat), .int .u64 (2 : Nat)] t)).heap.size = w.heap.size + 1 := fun t => by simp
  simp only [hs] at R2
  refine (through_t (some ⟨w.heap.size, 0, none⟩) (some ⟨w.heap.size + 1, 0, none⟩) _ _ 2 2 [1, 2] [5, 7] _ (by first | exact R1 _ _ | exact (R1 _ _).drew) (by first | exact R2 _ _ | exact (R2 _ _).drew) rfl rfl (by decide) (by unfold maxLen; omega) (by decide) (by decide)).mono ?_
  rintro e w4 ⟨A5, c5, rfl, hq, hb⟩
  rw [thr12] at hq ⊢
  have B2 : Below w.heap.size w w4 := below_call (((Below.refl _ _).alloc (Nat.le_refl _) _).alloc (by simp) _) (Nat.le_refl _) hb
  obtain ⟨b, o, rfl, hbb, k0⟩ := Rd.u hq (k := 0) (by decide)
  obtain ⟨b1, o1, hA, hbb1, k1⟩ := Rd.u hq (k := 1) (by decide)
  obtain ⟨rfl, rfl⟩ : b = b1 ∧ o = o1 := by simpa using hA
  have q0 : w4.cell? ⟨b, o, none⟩ = some (.int .u64 3) := k0
  have q1 : w4.cell? ⟨b, o + 1, none⟩ = some (.int .u64 2) := k1
  clear hb k0 k1 hA hq R1 R2 hs
  go_wp2_with fail
  go_ret
  exact ⟨rfl, B2⟩
set_option maxRecDepth 100000 in
set_option maxHeartbeats 4000000 in
theorem points_law (A A' : Option Addr) (c c' n m : Nat) (xs ys : List Nat) (w : World) (hx : Rs w A (us xs)) (hy : Rs w A' (us ys)) (hlx : xs.length = n) (hly : ys.length = m) (hnc : n ≤ c) (hcm : c ≤ maxLen) (hn : n ≤ 17592186043904) (hm : m ≤ 17592186043904) :
    Calls Try.prog 11 #[.slice A n c, .slice A' m c'] w fun e w' => e = .returned (.bool true) ∧ Below w.heap.size w w' := by
  have HT := hide (fun W h h' => through_t A A' c c' n m xs ys W h h' hlx hly hnc hcm hn hm)
  have HC := hide (fun W h h' => check_t A A' c c' n m xs ys W h h' hlx hly hnc hcm hn hm)
  have HR := hide (fun W h h' => check_tr A A' c c' n m xs ys W h h' hlx hly hn hm)
  by_cases hg : 16 < n ∧ n ≤ 64
  · have v1 : (16 : Int) < (n : Int) := by omega
    have v2 : (n : Int) ≤ 64 := by omega
    clear HT HC HR hg hlx hly hnc hcm hn hm
    go_enter Try.func11, Try.ntmps11
    go_wp2_with fail
    refine (awake19 _).mono ?_
    rintro e w1 ⟨rfl, hb⟩
    have B : Below w.heap.size w w1 := hb
    clear hb
    go_wp2_with fail
    go_ret
    exact ⟨rfl, B⟩
  by_cases hk : chkT xs ys = 0
  · obtain ⟨f1, f2, f3, f4, f5, f6⟩ := chkT_ok hk
    have v1 : ¬ (16 : Int) < (n : Int) := by omega
    have e1 : thrT xs ys = (thrP xs ys, 0) := by rw [thrT, if_neg (by omega)]
    rw [e1] at HT
    rw [hk] at HC HR
    have hln : (thrP xs ys).length = n := by rw [len_thrP, hlx]
    have HB := hide (fun A c W (h : Rs W A (us (thrP xs ys))) => below_r A c _ n (thrP xs ys) W h hln hn)
    rw [any_of_all (lt_thrP xs ys)] at HB
    have HV := hide (fun A1 c1 W h h' => values_r A1 A c1 c n n (thrP xs ys) xs W h h' hln hlx (by omega) (by omega) (lt64 (lt_thrP xs ys)) (lt64 f4))
    rw [through_points f4 f5 f6 f3] at HV
    have HW := hide (fun A1 A2 c1 c2 n1 n2 (h1 : ys.length = n1) (h2 : ys.length = n2) W h h' => words_same A1 A2 c1 c2 n1 n2 ys W h h' (by omega) h1 h2)
    have HLN := hide hln
    have HLY := hide hly
    generalize thrP xs ys = R at *
    clear hk hg hlx hly hnc hcm hn hm f1 f2 f3 f4 f5 f6 e1 hln
    go_enter Try.func11, Try.ntmps11
    go_wp2_with fail
    refine (awake19 _).mono ?_
    rintro e w1 ⟨rfl, hb⟩
    replace hx := hx.call hb
    replace hy := hy.call hb
    have B : Below w.heap.size w w1 := hb
    clear hb
    go_wp2_with fail
    refine (HT.out _ hx hy).mono ?_
    rintro e w2 ⟨A1, c1, rfl, r1, hb⟩
    replace hx := hx.call hb
    replace hy := hy.call hb
    replace B : Below w.heap.size w w2 := below_call B (Nat.le_refl _) hb
    clear hb
    rw [HLN.out]
    go_wp2_with fail
    refine (HR.out _ hx hy).mono ?_
    rintro e w3 ⟨rfl, hb⟩
    replace hx := hx.call hb
    replace hy := hy.call hb
    replace r1 := r1.call hb
    replace B : Below w.heap.size w w3 := below_call B (Nat.le_refl _) hb
    clear hb
    go_wp2_with fail
    refine (HC.out _ hx hy).mono ?_
    rintro e w4 ⟨rfl, hb⟩
    replace hx := hx.call hb
    replace hy := hy.call hb
    replace r1 := r1.call hb
    replace B : Below w.heap.size w w4 := below_call B (Nat.le_refl _) hb
    clear hb
    go_wp2_with fail
    refine (HB.out _ _ _ r1).mono ?_
    rintro e w5 ⟨rfl, rfl⟩
    go_wp2_with fail
    refine (HV.out _ _ _ r1 hx).mono ?_
    rintro e w6 ⟨A2, c2, rfl, r2, hb⟩
    replace hx := hx.call hb
    replace hy := hy.call hb
    replace r1 := r1.call hb
    replace B : Below w.heap.size w w6 := below_call B (Nat.le_refl _) hb
    clear hb
    go_wp2_with fail
    refine (HW.out _ _ _ _ _ _ rfl HLY.out _ r2 hy).mono ?_
    rintro e w7 ⟨rfl, hb⟩
    replace B : Below w.heap.size w w7 := below_call B (Nat.le_refl _) hb
    clear hb
    go_wp2_with fail
    go_ret
    exact ⟨rfl, B⟩
  · have e1 : thrT xs ys = ([], chkT xs ys) := by rw [thrT, if_pos hk]
    rw [e1] at HT
    have e2 : (chkT xs ys != 0) = true := by rw [bne_iff_ne]; exact hk
    generalize chkT xs ys = k at *
    have hcase : ¬ (16 : Int) < (n : Int) ∨ ((16 : Int) < (n : Int) ∧ ¬ (n : Int) ≤ 64) := by omega
    clear hk hg hlx hly hnc hcm hn hm e1
    rcases hcase with v1 | ⟨v1, v2⟩
    all_goals
      go_enter Try.func11, Try.ntmps11
      go_wp2_with fail
      refine (awake19 _).mono ?_
      rintro e w1 ⟨rfl, hb⟩
      replace hx := hx.call hb
      replace hy := hy.call hb
      have B : Below w.heap.size w w1 := hb
      clear hb
      go_wp2_with fail
      refine (HT.out _ hx hy).mono ?_
      rintro e w2 ⟨A1, c1, rfl, r1, hb⟩
      replace hx := hx.call hb
      replace hy := hy.call hb
      replace B : Below w.heap.size w w2 := below_call B (Nat.le_refl _) hb
      clear hb
      go_wp2_with fail
      refine (HR.out _ hx hy).mono ?_
      rintro e w3 ⟨rfl, hb⟩
      replace hx := hx.call hb
      replace hy := hy.call hb
      replace B : Below w.heap.size w w3 := below_call B (Nat.le_refl _) hb
      clear hb
      go_wp2_with fail
      refine (HC.out _ hx hy).mono ?_
      rintro e w4 ⟨rfl, hb⟩
      replace hx := hx.call hb
      replace hy := hy.call hb
      replace B : Below w.heap.size w w4 := below_call B (Nat.le_refl _) hb
      clear hb
      go_wp2_with fail
      go_ret
      exact ⟨rfl, B⟩
set_option maxRecDepth 100000 in
set_option maxHeartbeats 4000000 in
theorem only_law (A0 A : Option Addr) (c0 c n0 n : Nat) (a xs : List Nat) (w : World) (ha : Rs w A0 (us a)) (hx : Rs w A (us xs)) (hla : a.length = n0) (hlx : xs.length = n) (hnc : n ≤ c) (hcm : c ≤ maxLen) (hwa : ∀ y ∈ a, y < 18446744073709551616) (hwx : ∀ y ∈ xs, y < 18446744073709551616) (hn0 : n0 ≤ 17592186043904) (hn : n ≤ 17592186043904) :
    Calls Try.prog 12 #[.slice A0 n0 c0, .slice A n c] w fun e w' => e = .returned (.bool true) ∧ Below w.heap.size w w' := by
  by_cases hg : 12 < n0 ∨ n0 ≠ n
  · have hcase : (12 : Int) < (n0 : Int) ∨ (¬ (12 : Int) < (n0 : Int) ∧ ((n0 : Int) != (n : Int)) = true) := by
      have e : ((n0 : Int) != (n : Int)) = true ↔ n0 ≠ n := by rw [bne_iff_ne]; omega
      rw [e]
      omega
    clear hg hla hlx hnc hcm hwa hwx hn0 hn
    rcases hcase with v1 | ⟨v1, v2⟩
    all_goals
      go_enter Try.func12, Try.ntmps12
      go_wp2_with fail
      refine (awake19 _).mono ?_
      rintro e w1 ⟨rfl, hb⟩
      have B : Below w.heap.size w w1 := hb
      clear hb
      go_wp2_with fail
      go_ret
      exact ⟨rfl, B⟩
  obtain rfl : n0 = n := by omega
  have v1 : ¬ (12 : Int) < (n0 : Int) := by omega
  have v2 : ((n0 : Int) != (n0 : Int)) = false := by rw [bne_eq_false_iff_eq]
  have HB := hide (fun W (h : Rs W A0 (us a)) => below_r A0 c0 _ n0 a W h hla hn0)
  have HV := hide (fun W h h' => values_r A0 A c0 c n0 n0 a xs W h h' hla hlx (by omega) (by omega) hwa hwx)
  have hlv : (valsP a xs).length = n0 := by rw [len_valsP, hlx]
  have HLV := hide hlv
  have HR := hide (fun A1 c1 W h h' => check_tr A A1 c c1 n0 n0 xs (valsP a xs) W h h' hlx hlv hn hn)
  have HT := hide (fun A1 c1 W h h' => through_t A A1 c c1 n0 n0 xs (valsP a xs) W h h' hlx hlv hnc hcm hn hn)
  by_cases hb : a.any badP = true
  · rw [hb] at HB
    clear hg hb hla hlx hnc hcm hwa hwx hn0 hn hlv
    go_enter Try.func12, Try.ntmps12
    go_wp2_with fail
    refine (awake19 _).mono ?_
    rintro e w1 ⟨rfl, hb⟩
    replace ha := ha.call hb
    replace hx := hx.call hb
    have B : Below w.heap.size w w1 := hb
    clear hb
    go_wp2_with fail
    refine (HB.out _ ha).mono ?_
    rintro e w2 ⟨rfl, rfl⟩
    go_wp2_with fail
    go_ret
    exact ⟨rfl, B⟩
  · have hb0 : a.any badP = false := Bool.not_eq_true _ ▸ hb
    rw [hb0] at HB
    have hall := all_of_any hb0
    by_cases hk : chkT xs (valsP a xs) = 0
    · obtain ⟨f1, f2, f3, f4, f5, f6⟩ := chkT_ok hk
      have e1 : thrT xs (valsP a xs) = (a, 0) := by rw [thrT, if_neg (by omega), through_only hall f4 f6 (by omega)]
      rw [e1] at HT
      rw [hk] at HR
      have HW := hide (fun A1 c1 c2 n1 (h1 : a.length = n1) W h h' => words_same A1 A0 c1 c2 n1 n0 a W h h' (by omega) h1 hla)
      generalize valsP a xs = ys at *
      clear hg hb hb0 hk hla hlx hnc hcm hwa hwx hn0 hn hlv hall f1 f2 f3 f4 f5 f6 e1
      go_enter Try.func12, Try.ntmps12
      go_wp2_with fail
      refine (awake19 _).mono ?_
      rintro e w1 ⟨rfl, hb⟩
      replace ha := ha.call hb
      replace hx := hx.call hb
      have B : Below w.heap.size w w1 := hb
      clear hb
      go_wp2_with fail
      refine (HB.out _ ha).mono ?_
      rintro e w2 ⟨rfl, rfl⟩
      go_wp2_with fail
      refine (HV.out _ ha hx).mono ?_
      rintro e w3 ⟨A1, c1, rfl, r1, hb⟩
      replace ha := ha.call hb
      replace hx := hx.call hb
      replace B : Below w.heap.size w w3 := below_call B (Nat.le_refl _) hb
      clear hb
      rw [HLV.out]
      go_wp2_with fail
      refine (HR.out _ _ _ hx r1).mono ?_
      rintro e w4 ⟨rfl, hb⟩
      replace ha := ha.call hb
      replace hx := hx.call hb
      replace r1 := r1.call hb
      replace B : Below w.heap.size w w4 := below_call B (Nat.le_refl _) hb
      clear hb
      go_wp2_with fail
      refine (HT.out _ _ _ hx r1).mono ?_
      rintro e w5 ⟨A2, c2, rfl, r2, hb⟩
      replace ha := ha.call hb
      replace B : Below w.heap.size w w5 := below_call B (Nat.le_refl _) hb
      clear hb
      go_wp2_with fail
      refine (HW.out _ _ _ _ rfl _ r2 ha).mono ?_
      rintro e w6 ⟨rfl, hb⟩
      replace B : Below w.heap.size w w6 := below_call B (Nat.le_refl _) hb
      clear hb
      go_wp2_with fail
      go_ret
      exact ⟨rfl, B⟩
    · have e2 : (chkT xs (valsP a xs) != 0) = true := by rw [bne_iff_ne]; exact hk
      generalize chkT xs (valsP a xs) = k at *
      generalize valsP a xs = ys at *
      clear hg hb hb0 hk hla hlx hnc hcm hwa hwx hn0 hn hlv hall HT
      go_enter Try.func12, Try.ntmps12
      go_wp2_with fail
      refine (awake19 _).mono ?_
      rintro e w1 ⟨rfl, hb⟩
      replace ha := ha.call hb
      replace hx := hx.call hb
      have B : Below w.heap.size w w1 := hb
      clear hb
      go_wp2_with fail
      refine (HB.out _ ha).mono ?_
      rintro e w2 ⟨rfl, rfl⟩
      go_wp2_with fail
      refine (HV.out _ ha hx).mono ?_
      rintro e w3 ⟨A1, c1, rfl, r1, hb⟩
      replace ha := ha.call hb
      replace hx := hx.call hb
      replace B : Below w.heap.size w w3 := below_call B (Nat.le_refl _) hb
      clear hb
      rw [HLV.out]
      go_wp2_with fail
      refine (HR.out _ _ _ hx r1).mono ?_
      rintro e w4 ⟨rfl, hb⟩
      replace B : Below w.heap.size w w4 := below_call B (Nat.le_refl _) hb
      clear hb
      go_wp2_with fail
      go_ret
      exact ⟨rfl, B⟩
set_option maxRecDepth 100000 in
set_option maxHeartbeats 8000000 in
theorem values_law (A0 A : Option Addr) (c0 c n0 n : Nat) (a xs : List Nat) (w : World) (ha : Rs w A0 (us a)) (hx : Rs w A (us xs)) (hla : a.length = n0) (hlx : xs.length = n) (hnc : n ≤ c) (hcm : c ≤ maxLen) (hwa : ∀ y ∈ a, y < 18446744073709551616) (hwx : ∀ y ∈ xs, y < 18446744073709551616) (hn0 : n0 ≤ 17592186043904) (hn : n ≤ 17592186043904) :
    Calls Try.prog 14 #[.slice A0 n0 c0, .slice A n c] w fun e w' => e = .returned (.bool true) ∧ Below w.heap.size w w' := by
  by_cases hg : (20 < n0 ∧ n0 ≤ 64) ∨ 12 < n
  · have hcase : ((20 : Int) < (n0 : Int) ∧ (n0 : Int) ≤ 64) ∨ ((20 : Int) < (n0 : Int) ∧ ¬ (n0 : Int) ≤ 64 ∧ (12 : Int) < (n : Int)) ∨ (¬ (20 : Int) < (n0 : Int) ∧ (12 : Int) < (n : Int)) := by omega
    clear hg hla hlx hnc hcm hwa hwx hn0 hn
    rcases hcase with ⟨v1, v2⟩ | ⟨v1, v2, v3⟩ | ⟨v1, v3⟩
    all_goals
      go_enter Try.func14, Try.ntmps14
      go_wp2_with fail
      refine (awake19 _).mono ?_
      rintro e w1 ⟨rfl, hb⟩
      have B : Below w.heap.size w w1 := hb
      clear hb
      go_wp2_with fail
      go_ret
      exact ⟨rfl, B⟩
  have v3 : ¬ (12 : Int) < (n : Int) := by omega
  have hcase : ¬ (20 : Int) < (n0 : Int) ∨ ((20 : Int) < (n0 : Int) ∧ ¬ (n0 : Int) ≤ 64) := by omega
  have HC := hide (fun W (h : Rs W A0 (us a)) => chk_r A0 c0 _ a W h (by omega) n0 hla)
  have HB := hide (fun W (h : Rs W A (us xs)) => below_r A c _ n xs W h hlx hn)
  have HV := hide (fun W h h' => values_t A0 A c0 c n0 n a xs W h h' hla hlx hn0 (by omega) hwa hwx)
  have HZ := hide (fun W h => vanish_t A c n xs W h hlx (by omega) hwx)
  have HZ2 := hide (fun W h => vanish_r A c n xs W h hlx (by omega) hwx)
  have hlz := len_thZ xs n
  have HWZ := hide (fun A1 A2 c1 c2 W h h' => words_same A1 A2 c1 c2 _ _ (thZ xs n) W h h' (by omega) rfl rfl)
  generalize thZ xs n = Z at *
  by_cases hk : chkP a = 0
  · have hl64 := chk_len hk
    have v1 : ¬ (20 : Int) < (n0 : Int) := by omega
    have HV2 := hide (fun W h h' => values_r A0 A c0 c n0 n a xs W h h' hla hlx (by omega) (by omega) hwa hwx)
    have hlv : (valsP a xs).length = n := by rw [len_valsP, hlx]
    have HWV := hide (fun A1 A2 c1 c2 W h h' => words_same A1 A2 c1 c2 _ _ (valsP a xs) W h h' (by omega) rfl rfl)
    rw [hk] at HC
    by_cases hb : xs.any badP = true
    · have e1 : valsT a xs = ([], 2) := by rw [valsT, if_neg (by omega), if_pos hb]
      rw [e1] at HV
      rw [hb] at HB
      clear hg hcase hk hb hla hlx hnc hcm hwa hwx hn0 hn hlz hl64 hlv e1 HV2 HWV
      go_enter Try.func14, Try.ntmps14
      go_wp2_with fail
      refine (awake19 _).mono ?_
      rintro e w1 ⟨rfl, hb⟩
      replace ha := ha.call hb
      replace hx := hx.call hb
      have B : Below w.heap.size w w1 := hb
      clear hb
      go_wp2_with fail
      refine (HV.out _ ha hx).mono ?_
      rintro e w2 ⟨A1, c1, rfl, r1, hb⟩
      replace ha := ha.call hb
      replace hx := hx.call hb
      replace B : Below w.heap.size w w2 := below_call B (Nat.le_refl _) hb
      clear hb
      go_wp2_with fail
      refine (HC.out _ ha).mono ?_
      rintro e w3 ⟨rfl, rfl⟩
      go_wp2_with fail
      refine (HB.out _ hx).mono ?_
      rintro e w4 ⟨rfl, rfl⟩
      go_wp2_with fail
      refine (HZ.out _ hx).mono ?_
      rintro e w5 ⟨A2, c2, rfl, r2, hb⟩
      replace hx := hx.call hb
      replace B : Below w.heap.size w w5 := below_call B (Nat.le_refl _) hb
      clear hb
      go_wp2_with fail
      refine (HZ2.out _ hx).mono ?_
      rintro e w6 ⟨A3, c3, rfl, r3, hb⟩
      replace r2 := r2.call hb
      replace B : Below w.heap.size w w6 := below_call B (Nat.le_refl _) hb
      clear hb
      go_wp2_with fail
      refine (HWZ.out _ _ _ _ _ r2 r3).mono ?_
      rintro e w7 ⟨rfl, hb⟩
      replace B : Below w.heap.size w w7 := below_call B (Nat.le_refl _) hb
      clear hb
      go_wp2_with fail
      go_ret
      exact ⟨rfl, B⟩
    · have hb0 : xs.any badP = false := Bool.not_eq_true _ ▸ hb
      have e1 : valsT a xs = (valsP a xs, 0) := by rw [valsT, if_neg (by omega), if_neg hb]
      rw [e1] at HV
      rw [hb0] at HB
      generalize valsP a xs = V at *
      clear hg hcase hk hb hb0 hla hlx hnc hcm hwa hwx hn0 hn hlz hl64 hlv e1
      go_enter Try.func14, Try.ntmps14
      go_wp2_with fail
      refine (awake19 _).mono ?_
      rintro e w1 ⟨rfl, hb⟩
      replace ha := ha.call hb
      replace hx := hx.call hb
      have B : Below w.heap.size w w1 := hb
      clear hb
      go_wp2_with fail
      refine (HV.out _ ha hx).mono ?_
      rintro e w2 ⟨A1, c1, rfl, r1, hb⟩
      replace ha := ha.call hb
      replace hx := hx.call hb
      replace B : Below w.heap.size w w2 := below_call B (Nat.le_refl _) hb
      clear hb
      go_wp2_with fail
      refine (HC.out _ ha).mono ?_
      rintro e w3 ⟨rfl, rfl⟩
      go_wp2_with fail
      refine (HB.out _ hx).mono ?_
      rintro e w4 ⟨rfl, rfl⟩
      go_wp2_with fail
      refine (HZ.out _ hx).mono ?_
      rintro e w5 ⟨A2, c2, rfl, r2, hb⟩
      replace ha := ha.call hb
      replace hx := hx.call hb
      replace r1 := r1.call hb
      replace B : Below w.heap.size w w5 := below_call B (Nat.le_refl _) hb
      clear hb
      go_wp2_with fail
      refine (HZ2.out _ hx).mono ?_
      rintro e w6 ⟨A3, c3, rfl, r3, hb⟩
      replace ha := ha.call hb
      replace hx := hx.call hb
      replace r1 := r1.call hb
      replace r2 := r2.call hb
      replace B : Below w.heap.size w w6 := below_call B (Nat.le_refl _) hb
      clear hb
      go_wp2_with fail
      refine (HWZ.out _ _ _ _ _ r2 r3).mono ?_
      rintro e w7 ⟨rfl, hb⟩
      replace ha := ha.call hb
      replace hx := hx.call hb
      replace r1 := r1.call hb
      replace B : Below w.heap.size w w7 := below_call B (Nat.le_refl _) hb
      clear hb
      go_wp2_with fail
      refine (HV2.out _ ha hx).mono ?_
      rintro e w8 ⟨A4, c4, rfl, r4, hb⟩
      replace r1 := r1.call hb
      replace B : Below w.heap.size w w8 := below_call B (Nat.le_refl _) hb
      clear hb
      go_wp2_with fail
      refine (HWV.out _ _ _ _ _ r1 r4).mono ?_
      rintro e w9 ⟨rfl, hb⟩
      replace B : Below w.heap.size w w9 := below_call B (Nat.le_refl _) hb
      clear hb
      go_wp2_with fail
      go_ret
      exact ⟨rfl, B⟩
  · have e1 : valsT a xs = ([], chkP a) := by rw [valsT, if_pos hk]
    rw [e1] at HV
    have e2 : (chkP a != 0) = true := by rw [bne_iff_ne]; exact hk
    have e3 : (chkP a == 0) = false := by rw [beq_eq_false_iff_ne]; exact hk
    generalize chkP a = k at *
    clear hg hk hla hlx hnc hcm hwa hwx hn0 hn hlz e1 HB
    rcases hcase with v1 | ⟨v1, v2⟩
    all_goals
      go_enter Try.func14, Try.ntmps14
      go_wp2_with fail
      refine (awake19 _).mono ?_
      rintro e w1 ⟨rfl, hb⟩
      replace ha := ha.call hb
      replace hx := hx.call hb
      have B : Below w.heap.size w w1 := hb
      clear hb
      go_wp2_with fail
      refine (HV.out _ ha hx).mono ?_
      rintro e w2 ⟨A1, c1, rfl, r1, hb⟩
      replace ha := ha.call hb
      replace hx := hx.call hb
      replace B : Below w.heap.size w w2 := below_call B (Nat.le_refl _) hb
      clear hb
      go_wp2_with fail
      refine (HC.out _ ha).mono ?_
      rintro e w3 ⟨rfl, rfl⟩
      go_wp2_with fail
      refine (HZ.out _ hx).mono ?_
      rintro e w5 ⟨A2, c2, rfl, r2, hb⟩
      replace hx := hx.call hb
      replace B : Below w.heap.size w w5 := below_call B (Nat.le_refl _) hb
      clear hb
      go_wp2_with fail
      refine (HZ2.out _ hx).mono ?_
      rintro e w6 ⟨A3, c3, rfl, r3, hb⟩
      replace r2 := r2.call hb
      replace B : Below w.heap.size w w6 := below_call B (Nat.le_refl _) hb
      clear hb
      go_wp2_with fail
      refine (HWZ.out _ _ _ _ _ r2 r3).mono ?_
      rintro e w7 ⟨rfl, hb⟩
      replace B : Below w.heap.size w w7 := below_call B (Nat.le_refl _) hb
      clear hb
      go_wp2_with fail
      go_ret
      exact ⟨rfl, B⟩
set_option maxRecDepth 100000 in
set_option maxHeartbeats 8000000 in
theorem shifts_law (A0 A A' : Option Addr) (c0 c c' n0 n m : Nat) (a xs ys : List Nat) (w : World) (ha : Rs w A0 (us a)) (hx : Rs w A (us xs)) (hy : Rs w A' (us ys)) (hla : a.length = n0) (hlx : xs.length = n) (hly : ys.length = m) (hnc : n ≤ c) (hcm : c ≤ maxLen) (hwa : ∀ y ∈ a, y < 18446744073709551616) (hwx : ∀ y ∈ xs, y < 18446744073709551616) (hn0 : n0 ≤ 17592186043904) (hn : n ≤ 17592186043904) (hm : m ≤ 17592186043904) :
    Calls Try.prog 13 #[.slice A0 n0 c0, .slice A n c, .slice A' m c'] w fun e w' => e = .returned (.bool true) ∧ Below w.heap.size w w' := by
  by_cases hg : (14 < n0 ∧ n0 ≤ 64) ∨ (14 < n ∧ n ≤ 64)
  · have hcase : ((14 : Int) < (n0 : Int) ∧ (n0 : Int) ≤ 64) ∨ ((14 : Int) < (n0 : Int) ∧ ¬ (n0 : Int) ≤ 64 ∧ (14 : Int) < (n : Int) ∧ (n : Int) ≤ 64) ∨ (¬ (14 : Int) < (n0 : Int) ∧ (14 : Int) < (n : Int) ∧ (n : Int) ≤ 64) := by omega
    clear hg hla hlx hnc hcm hwa hwx hn0 hn hly hm
    rcases hcase with ⟨v1, v2⟩ | ⟨v1, v2, v3, v4⟩ | ⟨v1, v3, v4⟩
    all_goals
      go_enter Try.func13, Try.ntmps13
      go_wp2_with fail
      refine (awake19 _).mono ?_
      rintro e w1 ⟨rfl, hb⟩
      have B : Below w.heap.size w w1 := hb
      clear hb
      go_wp2_with fail
      go_ret
      exact ⟨rfl, B⟩
  have hcase0 : ¬ (14 : Int) < (n0 : Int) ∨ ((14 : Int) < (n0 : Int) ∧ ¬ (n0 : Int) ≤ 64) := by omega
  have hcase : ¬ (14 : Int) < (n : Int) ∨ ((14 : Int) < (n : Int) ∧ ¬ (n : Int) ≤ 64) := by omega
  have HS := hide (fun W h h' h'' => shift_t A0 A A' c0 c c' n0 n m a xs ys W h h' h'' hla hlx hly hnc hcm hwa hn0 hn hm)
  have HC := hide (fun W (h : Rs W A0 (us a)) => chk_r A0 c0 _ a W h (by omega) n0 hla)
  have HR := hide (fun W h h' => check_tr A A' c c' n m xs ys W h h' hlx hly hn hm)
  by_cases hk0 : chkP a = 0
  · have hl64 := chk_len hk0
    have v1 : ¬ (14 : Int) < (n0 : Int) := by omega
    rw [hk0] at HC
    by_cases hk : chkT xs ys = 0
    · obtain ⟨f1, f2, f3, f4, f5, f6⟩ := chkT_ok hk
      have v3 : ¬ (14 : Int) < (n : Int) := by omega
      rw [hk] at HR
      by_cases hle : a.length < xs.length
      · have e1 : shT a xs ys = ([], 1) := by rw [shT, if_neg (by omega), if_neg (by omega), if_pos hle]
        rw [e1] at HS
        have v5 : (n0 : Int) < (n : Int) := by omega
        clear hg hcase0 hcase hk0 hk hle hla hlx hly hnc hcm hwa hwx hn0 hn hm hl64 f1 f2 f3 f4 f5 f6 e1
        go_enter Try.func13, Try.ntmps13
        go_wp2_with fail
        refine (awake19 _).mono ?_
        rintro e w1 ⟨rfl, hb⟩
        replace ha := ha.call hb
        replace hx := hx.call hb
        replace hy := hy.call hb
        have B : Below w.heap.size w w1 := hb
        clear hb
        go_wp2_with fail
        refine (HS.out _ ha hx hy).mono ?_
        rintro e w2 ⟨A1, c1, rfl, r1, hb⟩
        replace ha := ha.call hb
        replace hx := hx.call hb
        replace hy := hy.call hb
        replace B : Below w.heap.size w w2 := below_call B (Nat.le_refl _) hb
        clear hb
        go_wp2_with fail
        refine (HC.out _ ha).mono ?_
        rintro e w3 ⟨rfl, rfl⟩
        go_wp2_with fail
        refine (HR.out _ hx hy).mono ?_
        rintro e w4 ⟨rfl, hb⟩
        replace B : Below w.heap.size w w4 := below_call B (Nat.le_refl _) hb
        clear hb
        go_wp2_with fail
        go_ret
        exact ⟨rfl, B⟩
      · have e1 : shT a xs ys = (shiftP a xs ys, 0) := by rw [shT, if_neg (by omega), if_neg (by omega), if_neg hle]
        rw [e1] at HS
        have v5 : ¬ (n0 : Int) < (n : Int) := by omega
        have hls : (shiftP a xs ys).length = n0 := by rw [len_shiftP, hla]
        have hlv : (valsP a xs).length = n := by rw [len_valsP, hlx]
        have HLS := hide hls
        have HLV := hide hlv
        have HV := hide (fun W h h' => values_r A0 A c0 c n0 n a xs W h h' hla hlx (by omega) (by omega) hwa (lt64 f4))
        have HV2 := hide (fun A1 c1 W h h' => values_r A1 A c1 c n0 n (shiftP a xs ys) xs W h h' hls hlx (by omega) (by omega) (lt64 (lt_shiftP _ _ _)) (lt64 f4))
        rw [shift_points (by omega) f4 f5 f6 f3] at HV2
        have HB := hide (fun A1 c1 W (h : Rs W A1 (us (shiftP a xs ys))) => below_r A1 c1 _ n0 (shiftP a xs ys) W h hls hn0)
        rw [any_of_all (lt_shiftP a xs ys)] at HB
        have hkv : chkT xs (valsP a xs) = 0 := chkT_mk f1 f2 (by omega) f4 (lt_valsP _ _) f6
        have hks : chkP (shiftP a xs ys) = 0 := by unfold chkP; rw [if_neg (by rw [len_shiftP]; omega), any_of_all (lt_shiftP a xs ys)]; rfl
        have hall : ∀ y ∈ a, y < 2305843009213693951 := all_of_any (by
          unfold chkP at hk0
          split at hk0
          · omega
          · split at hk0
            · omega
            · exact Bool.not_eq_true _ ▸ (by assumption))
        have HS2 := hide (fun A1 A2 c1 c2 W h h' h'' => shift_t A1 A A2 c1 c c2 n0 n n (shiftP a xs ys) xs (valsP a xs) W h h' h'' hls hlx hlv hnc hcm (lt64 (lt_shiftP _ _ _)) hn0 hn hn)
        have e2 : shT (shiftP a xs ys) xs (valsP a xs) = (a, 0) := by rw [shT, if_neg (by omega), if_neg (by omega), if_neg (by omega), shift_back hall (by omega) f4 f6]
        rw [e2] at HS2
        have HWY := hide (fun A1 c1 c2 W h h' => words_same A1 A' c1 c2 _ m ys W h h' (by omega) rfl hly)
        have HWA := hide (fun A1 c1 c2 W h h' => words_same A1 A0 c1 c2 _ n0 a W h h' (by omega) rfl hla)
        generalize shiftP a xs ys = D at *
        generalize valsP a xs = V at *
        clear hg hcase0 hcase hk0 hk hle hla hlx hly hnc hcm hwa hwx hn0 hn hm hl64 f1 f2 f3 f4 f5 f6 e1 e2 hls hlv hkv hks hall
        go_enter Try.func13, Try.ntmps13
        go_wp2_with fail
        refine (awake19 _).mono ?_
        rintro e w1 ⟨rfl, hb⟩
        replace ha := ha.call hb
        replace hx := hx.call hb
        replace hy := hy.call hb
        have B : Below w.heap.size w w1 := hb
        clear hb
        go_wp2_with fail
        refine (HS.out _ ha hx hy).mono ?_
        rintro e w2 ⟨A1, c1, rfl, r1, hb⟩
        replace ha := ha.call hb
        replace hx := hx.call hb
        replace hy := hy.call hb
        replace B : Below w.heap.size w w2 := below_call B (Nat.le_refl _) hb
        clear hb
        rw [HLS.out]
        go_wp2_with fail
        refine (HC.out _ ha).mono ?_
        rintro e w3 ⟨rfl, rfl⟩
        go_wp2_with fail
        refine (HR.out _ hx hy).mono ?_
        rintro e w4 ⟨rfl, hb⟩
        replace ha := ha.call hb
        replace hx := hx.call hb
        replace hy := hy.call hb
        replace r1 := r1.call hb
        replace B : Below w.heap.size w w4 := below_call B (Nat.le_refl _) hb
        clear hb
        go_wp2_with fail
        refine (HV.out _ ha hx).mono ?_
        rintro e w5 ⟨A2, c2, rfl, r2, hb⟩
        replace ha := ha.call hb
        replace hx := hx.call hb
        replace hy := hy.call hb
        replace r1 := r1.call hb
        replace B : Below w.heap.size w w5 := below_call B (Nat.le_refl _) hb
        clear hb
        rw [HLV.out]
        go_wp2_with fail
        refine (HS2.out _ _ _ _ _ r1 hx r2).mono ?_
        rintro e w6 ⟨A3, c3, rfl, r3, hb⟩
        replace ha := ha.call hb
        replace hx := hx.call hb
        replace hy := hy.call hb
        replace r1 := r1.call hb
        replace B : Below w.heap.size w w6 := below_call B (Nat.le_refl _) hb
        clear hb
        go_wp2_with fail
        refine (HB.out _ _ _ r1).mono ?_
        rintro e w7 ⟨rfl, rfl⟩
        go_wp2_with fail
        refine (HV2.out _ _ _ r1 hx).mono ?_
        rintro e w8 ⟨A4, c4, rfl, r4, hb⟩
        replace ha := ha.call hb
        replace hx := hx.call hb
        replace hy := hy.call hb
        replace r1 := r1.call hb
        replace r3 := r3.call hb
        replace B : Below w.heap.size w w8 := below_call B (Nat.le_refl _) hb
        clear hb
        go_wp2_with fail
        refine (HWY.out _ _ _ _ r4 hy).mono ?_
        rintro e w9 ⟨rfl, hb⟩
        replace ha := ha.call hb
        replace r3 := r3.call hb
        replace B : Below w.heap.size w w9 := below_call B (Nat.le_refl _) hb
        clear hb
        go_wp2_with fail
        refine (HWA.out _ _ _ _ r3 ha).mono ?_
        rintro e w10 ⟨rfl, hb⟩
        replace B : Below w.heap.size w w10 := below_call B (Nat.le_refl _) hb
        clear hb
        go_wp2_with fail
        go_ret
        exact ⟨rfl, B⟩
    · have e1 : shT a xs ys = ([], chkT xs ys) := by rw [shT, if_neg (by omega), if_pos hk]
      rw [e1] at HS
      have e2 : (chkT xs ys != 0) = true := by rw [bne_iff_ne]; exact hk
      have e3 : (chkT xs ys == 0) = false := by rw [beq_eq_false_iff_ne]; exact hk
      generalize chkT xs ys = k at *
      clear hg hcase0 hk0 hk hla hlx hly hnc hcm hwa hwx hn0 hn hm hl64 e1
      rcases hcase with v3 | ⟨v3, v4⟩
      all_goals
        go_enter Try.func13, Try.ntmps13
        go_wp2_with fail
        refine (awake19 _).mono ?_
        rintro e w1 ⟨rfl, hb⟩
        replace ha := ha.call hb
        replace hx := hx.call hb
        replace hy := hy.call hb
        have B : Below w.heap.size w w1 := hb
        clear hb
        go_wp2_with fail
        refine (HS.out _ ha hx hy).mono ?_
        rintro e w2 ⟨A1, c1, rfl, r1, hb⟩
        replace ha := ha.call hb
        replace hx := hx.call hb
        replace hy := hy.call hb
        replace B : Below w.heap.size w w2 := below_call B (Nat.le_refl _) hb
        clear hb
        go_wp2_with fail
        refine (HC.out _ ha).mono ?_
        rintro e w3 ⟨rfl, rfl⟩
        go_wp2_with fail
        refine (HR.out _ hx hy).mono ?_
        rintro e w4 ⟨rfl, hb⟩
        replace B : Below w.heap.size w w4 := below_call B (Nat.le_refl _) hb
        clear hb
        go_wp2_with fail
        go_ret
        exact ⟨rfl, B⟩
  · have e1 : shT a xs ys = ([], chkP a) := by rw [shT, if_pos hk0]
    rw [e1] at HS
    have e2 : (chkP a != 0) = true := by rw [bne_iff_ne]; exact hk0
    have e3 : (chkP a == 0) = false := by rw [beq_eq_false_iff_ne]; exact hk0
    generalize chkP a = k at *
    clear hg hk0 hla hlx hly hnc hcm hwa hwx hn0 hn hm e1 HR
    rcases hcase0 with v1 | ⟨v1, v2⟩ <;> rcases hcase with v3 | ⟨v3, v4⟩
    all_goals
      go_enter Try.func13, Try.ntmps13
      go_wp2_with fail
      refine (awake19 _).mono ?_
      rintro e w1 ⟨rfl, hb⟩
      replace ha := ha.call hb
      replace hx := hx.call hb
      replace hy := hy.call hb
      have B : Below w.heap.size w w1 := hb
      clear hb
      go_wp2_with fail
      refine (HS.out _ ha hx hy).mono ?_
      rintro e w2 ⟨A1, c1, rfl, r1, hb⟩
      replace ha := ha.call hb
      replace hx := hx.call hb
      replace hy := hy.call hb
      replace B : Below w.heap.size w w2 := below_call B (Nat.le_refl _) hb
      clear hb
      go_wp2_with fail
      refine (HC.out _ ha).mono ?_
      rintro e w3 ⟨rfl, rfl⟩
      go_wp2_with fail
      go_ret
      exact ⟨rfl, B⟩
end Go.Proofs.Ytbgppkgcdmpajaa
