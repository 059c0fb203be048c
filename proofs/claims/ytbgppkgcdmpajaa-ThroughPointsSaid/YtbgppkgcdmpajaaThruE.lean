/-
  Walk of chapter 19's Through. Conditions: slices no longer than the form lets them be, and no longer than their capacity.
-/
import Derived.Test.YtbgppkgcdmpajaaThruD
namespace Go.Proofs.Ytbgppkgcdmpajaa
open Go.RowKit Go.Shelf
set_option linter.unusedVariables false

theorem mul_t (a b : Nat) (ha : a < 18446744073709551616) (hb : b < 18446744073709551616) (w : World) : Calls Try.prog 24 #[.int .i64 61, .int .u64 a, .int .u64 b] w fun e w' => e = .returned (.int .u64 (a * b % 2305843009213693951 : Nat)) ∧ Below w.heap.size w w' := by
  have h := Mul_any 61 a b ha hb w
  rw [prm61', mdn_pos (by omega)] at h
  exact h
theorem inv_t (b : Nat) (hb : b < 18446744073709551616) (h : b % 2305843009213693951 ≠ 0) (w : World) : Calls Try.prog 21 #[.int .i64 61, .int .u64 b] w fun e w' => e = .returned (.tuple #[.int .u64 (invP b : Nat), .bool true]) ∧ Below w.heap.size w w' :=
  inv_yes 61 b hb (by rw [prm61', mdn_pos (by omega)]; exact h) w
theorem ratio_t (a b : Nat) (ha : a < 18446744073709551616) (hb : b < 18446744073709551616) (h : b % 2305843009213693951 ≠ 0) (w : World) : Calls Try.prog 75 #[.int .u64 a, .int .u64 b] w fun e w' => e = .returned (.int .u64 (a * invP b % 2305843009213693951 : Nat)) ∧ Below w.heap.size w w' := by
  have HI := hide (inv_t b hb h)
  have HM := hide (mul_t a (invP b) ha (invP_lt b))
  generalize a * invP b % 2305843009213693951 = r at *
  generalize invP b = i at *
  clear h
  go_enter Try.func75, Try.ntmps75
  go_wp2_with fail
  refine (HI.out _).mono ?_
  rintro e w1 ⟨rfl, hb1⟩
  go_wp2_with fail
  refine (HM.out _).mono ?_
  rintro e w2 ⟨rfl, hb2⟩
  go_wp2_with fail
  go_ret
  exact ⟨rfl, below_call hb1 (Nat.le_refl _) hb2⟩
theorem thS_yes (xs ys : List Nat) (k : Nat) (h : subP (ys.getD k 0) (pval (thS xs ys k) (xs.getD k 0) % 2305843009213693951) ≠ 0) : addP (thS xs ys k) (mulP (thZ xs k) [subP (ys.getD k 0) (pval (thS xs ys k) (xs.getD k 0) % 2305843009213693951) * invP (pval (thZ xs k) (xs.getD k 0) % 2305843009213693951) % 2305843009213693951]) = thS xs ys (k + 1) := by
  rw [thS, if_pos h]
theorem thS_no (xs ys : List Nat) (k : Nat) (h : ¬ subP (ys.getD k 0) (pval (thS xs ys k) (xs.getD k 0) % 2305843009213693951) ≠ 0) : thS xs ys k = thS xs ys (k + 1) := by
  rw [thS, if_neg h]
theorem thS_lt64 (xs ys : List Nat) (k : Nat) : ∀ y ∈ thS xs ys k, y < 18446744073709551616 := fun y hy => Nat.lt_trans (lt_thS xs ys k y hy) (by omega)
theorem lt64 {l : List Nat} (h : ∀ y ∈ l, y < 2305843009213693951) : ∀ y ∈ l, y < 18446744073709551616 := fun y hy => Nat.lt_trans (h y hy) (by omega)
/-- What Through hands back. -/
def thrT (xs ys : List Nat) : List Nat × Int := if chkT xs ys ≠ 0 then ([], chkT xs ys) else (thrP xs ys, 0)
set_option maxRecDepth 100000 in
set_option maxHeartbeats 8000000 in
theorem through_ok (A A' : Option Addr) (c c' n m : Nat) (xs ys : List Nat) (w : World) (hx : Rs w A (us xs)) (hy : Rs w A' (us ys)) (hlx : xs.length = n) (hly : ys.length = m) (hnc : n ≤ c) (hcm : c ≤ maxLen) (hk : chkT xs ys = 0) :
    Calls Try.prog 48 #[.slice A n c, .slice A' m c'] w (RetL2 w (thrP xs ys) 0) := by
  obtain ⟨f1, f2, f3, f4, f5, f6⟩ := chkT_ok hk
  have HC := hide (fun W h h' => check_t A A' c c' n m xs ys W h h' hlx hly hnc hcm (by omega) (by omega))
  rw [hk] at HC
  have x64 := lt64 f4
  have y64 := lt64 f5
  have hmod : ∀ a, a % 2305843009213693951 < 18446744073709551616 := lt_modP
  have HVS := hide (fun k (hk : k < n) A c nn (hn : (thS xs ys k).length = nn) W h => value_t A c nn (xs.getD k 0) (thS xs ys k) W h hn (by have := len_thS xs ys k; omega) (thS_lt64 xs ys k) (getD_lt x64 k))
  have HSUB := hide (fun k W => sub_t (ys.getD k 0) (pval (thS xs ys k) (xs.getD k 0) % 2305843009213693951) (getD_lt y64 k) (hmod _) W)
  have HVZ := hide (fun k (hk : k < n) A c nn (hn : (thZ xs k).length = nn) W h => value_t A c nn (xs.getD k 0) (thZ xs k) W h hn (by have := len_thZ xs k; omega) (thZ_lt64 xs k) (getD_lt x64 k))
  have HRAT := hide (fun k (hk : k < n) W => ratio_t (subP (ys.getD k 0) (pval (thS xs ys k) (xs.getD k 0) % 2305843009213693951)) (pval (thZ xs k) (xs.getD k 0) % 2305843009213693951) (Nat.lt_trans (subP_lt _ _) (by omega)) (hmod _) (by rw [Nat.mod_mod]; exact thZ_nz f4 f6 (by omega)) W)
  have HSC := hide (fun k (hk : k < n) r (hr : r < 18446744073709551616) A c nn (hn : (thZ xs k).length = nn) W h => scaled_t A c nn r (thZ xs k) W h hn (by have := len_thZ xs k; omega) (thZ_lt64 xs k) hr)
  have HADD := hide (fun k (hk : k < n) r A A' c c' nn mm (hn : (thS xs ys k).length = nn) (hm : (mulP (thZ xs k) [r]).length = mm) W h h' => add_p A A' c c' nn mm (thS xs ys k) (mulP (thZ xs k) [r]) W h h' hn hm (by have := len_thS xs ys k; omega) (by have := len_mulP (thZ xs k) [r]; have := len_thZ xs k; simp only [List.length_cons, List.length_nil] at *; omega) (thS_lt64 xs ys k) (lt_mulP _ _))
  have HNEG := hide (fun k W => neg_t (xs.getD k 0) (getD_lt x64 k) W)
  have HMUL := hide (fun k (hk : k < n) A A' c c' nn (hn : (thZ xs k).length = nn) W h h' => mul_p A A' c c' nn 2 (thZ xs k) [negP (xs.getD k 0), 1] W h h' hn rfl (by have := len_thZ xs k; omega) (by omega) (thZ_lt64 xs k) (two_lt (negP_lt _)))
  have HZ := hide (fun k => show mulP (thZ xs k) [negP (xs.getD k 0), 1] = thZ xs (k + 1) from rfl)
  have HYES := hide (fun k => thS_yes xs ys k)
  have HNO := hide (fun k => thS_no xs ys k)
  have HRL := hide (fun k => hmod (subP (ys.getD k 0) (pval (thS xs ys k) (xs.getD k 0) % 2305843009213693951) * invP (pval (thZ xs k) (xs.getD k 0) % 2305843009213693951)))
  have hfin : padL (thS xs ys n) n = thrP xs ys := by rw [thrP, hlx]
  have HPAD := hide (fun A c nn (hn : (thS xs ys n).length = nn) W h => padded_t A c nn n (thS xs ys n) W h hn (by have := len_thS xs ys n; omega) (by omega))
  rw [hfin] at HPAD
  have HGX := hide (fun k (h : k < xs.length) => getD_in (l := xs) h)
  have HGY := hide (fun k (h : k < ys.length) => getD_in (l := ys) h)
  have HLX := hide hlx
  have HLY := hide (show ys.length = n by omega)
  obtain rfl : m = n := by omega
  have h0 : thS xs ys 0 = [] := rfl
  have h1 : thZ xs 0 = [1] := rfl
  have n64 : m ≤ 64 := by omega
  have n1 : 1 ≤ m := by omega
  generalize thrP xs ys = R at *
  generalize thS xs ys = FS at *
  generalize thZ xs = FZ at *
  have H0 := hide h0
  have H1 := hide h1
  clear h0 h1 hlx hly hk f1 f2 f3 f4 f5 f6 x64 y64 hmod hfin hcm
  go_enter Try.func48, Try.ntmps48
  go_wp2_with fail
  go_step3
  go_wp2_with fail
  refine (HC.out _ hx hy).mono ?_
  rintro e w1 ⟨rfl, hb⟩
  have B : Below w.heap.size w w1 := hb
  clear hb
  go_wp2_with fail
  go_step3
  go_wp2_with fail
  have r1 := Rs.new1 w1 1 22
  have B1 : Below w.heap.size w (w1.alloc (.cells #[.int .u64 (1 : Nat)] 22)) := B.alloc B.size _
  go_loopg [7, 8, 10, 11, 12, 22] m (fun g v7 v8 v10 v11 v12 v22 wr => ∃ (k n1 n2 : Nat) (A1 A2 : Option Addr) (c1 c2 : Nat), g = m - k ∧ k < m ∧ v22 = .int .i64 k ∧ v7 = .slice A1 n1 c1 ∧ v8 = .slice A2 n2 c2 ∧ Hid ((FS k).length = n1) ∧ Hid ((FZ k).length = n2) ∧ Rs wr A1 (us (FS k)) ∧ Rs wr A2 (us (FZ k)) ∧ Below w.heap.size w wr)
  case atStart => exact ⟨0, 0, 1, _, _, _, _, rfl, by omega, rfl, rfl, rfl, by rw [H0.out]; exact rfl, by rw [H1.out]; exact rfl, by rw [H0.out]; exact Rs.none _, by rw [H1.out]; exact r1, B1⟩
  case round =>
    clear r1 B1 B
    obtain ⟨k, n1, n2, A1, A2, c1, c2, hg, hk, rfl, rfl, rfl, hn1, hn2, rS, rZ, B⟩ := hrel
    have HG := hide hg
    clear hg
    have t1 : (k : Int) < (m : Int) := by omega
    have t2 : (0 : Int) ≤ (k : Int) := by omega
    have hkx : k < xs.length := by rw [HLX.out]; exact hk
    have hky : k < ys.length := by rw [HLY.out]; exact hk
    obtain ⟨b, o, rfl, hbb, hc⟩ := (Rd.below hx B).u (k := k) hkx
    obtain ⟨b2, o2, rfl, hbb2, hc2⟩ := (Rd.below hy B).u (k := k) hky
    have hgx := HGX.out k hkx
    have hgy := HGY.out k hky
    rw [← hgx] at hc
    rw [← hgy] at hc2
    have KVS := hide (HVS.out k hk)
    have KSUB := hide (HSUB.out k)
    have KVZ := hide (HVZ.out k hk)
    have KRAT := hide (HRAT.out k hk)
    have KSC := hide (HSC.out k hk)
    have KADD := hide (HADD.out k hk)
    have KNEG := hide (HNEG.out k)
    have KMUL := hide (HMUL.out k hk)
    rw [HZ.out k] at KMUL
    have KYES := hide (HYES.out k)
    have KNO := hide (HNO.out k)
    have KRL := hide (HRL.out k)
    clear hgx hgy
    generalize negP (xs.getD k 0) = ng at *
    generalize pval (FS k) (xs.getD k 0) % 2305843009213693951 = s at *
    generalize pval (FZ k) (xs.getD k 0) % 2305843009213693951 = z at *
    generalize subP (ys.getD k 0) s = ms at *
    generalize ms * invP z % 2305843009213693951 = r at *
    generalize xs.getD k 0 = x at *
    generalize ys.getD k 0 = y at *
    go_wp2_with fail
    have BW : Below wr.heap.size wr wr := Below.refl _ _
    go_region_held3 (fun w' => w'.cell? ⟨b2, o2 + k, none⟩ = some (.int .u64 (y : Nat))) (exact hc2) (first | (go_at_call 76; (refine (KVS.out A1 c1 n1 hn1.out _ (by first | exact rS | exact rS.drew)).mono ?_); rintro e w3 ⟨rfl, hb⟩; replace hc2 := cell_call hb hc2; replace BW : Below wr.heap.size wr w3 := below_call (by (repeat (first | exact Below.refl _ _ | assumption | (refine Below.alloc ?_ (by first | omega | (simp; done) | (simp; omega)) _) | (refine Below.setCell ?_ (by first | omega | (simp; done) | (simp; omega)) _) | refine Below.drew ?_ | refine below_drewN ?_ _))) (Nat.le_refl _) hb; clear hb) | (go_at_call 29; (with_reducible refine (KSUB.out _).mono ?_); rintro e w3 ⟨rfl, hb⟩; replace hc2 := cell_call hb hc2; replace BW : Below wr.heap.size wr w3 := below_call (by (repeat (first | exact Below.refl _ _ | assumption | (refine Below.alloc ?_ (by first | omega | (simp; done) | (simp; omega)) _) | (refine Below.setCell ?_ (by first | omega | (simp; done) | (simp; omega)) _) | refine Below.drew ?_ | refine below_drewN ?_ _))) (Nat.le_refl _) hb; clear hb))
    replace rS := rS.call BW
    replace rZ := rZ.call BW
    replace B := below_call B (Nat.le_refl _) BW
    clear BW hc hc2
    by_cases hms : ms = 0
    · have KN := hide (KNO.out (by simp [hms]))
      have e1 : ((ms : Int) != 0) = false := by rw [hms]; rfl
      rw [KN.out] at rS
      obtain ⟨nN, hnN⟩ : ∃ nN, nN = n1 := ⟨_, rfl⟩
      have hnN := hide (by rw [← KN.out, hnN]; exact hn1.out : (FS (k + 1)).length = nN)
      rename_i hnN0
      subst hnN0
      have rN := rS
      obtain ⟨AN, hAN⟩ : ∃ AN, AN = A1 := ⟨_, rfl⟩
      obtain ⟨cN, hcN⟩ : ∃ cN, cN = c1 := ⟨_, rfl⟩
      subst hAN
      subst hcN
      clear hms rS
      by_cases hlast : k + 1 = m
      · have e2 : ((k : Int) == (m : Int) - 1) = true := by rw [beq_iff_eq]; omega
        have HLAST := hide hlast
        rw [hlast] at rN
        have hnN := hide (by rw [← HLAST.out]; exact hnN.out : (FS m).length = nN)
        clear hlast
        go_wp2_with fail
        refine (HPAD.out _ _ _ hnN.out _ rN).mono ?_
        rintro e w9 ⟨A9, c9, rfl, r9, hb9⟩
        have B9 := below_call B (Nat.le_refl _) hb9
        clear hb9
        go_wp2_with fail
        try rw [Exit.noGoto_ret]
        go_ret2
        exact ⟨A9, c9, rfl, r9, B9⟩
      · have e2 : ((k : Int) == (m : Int) - 1) = false := by rw [beq_eq_false_iff_ne]; omega
        have hlt2 : k + 1 < m := by omega
        clear hlast
        go_wp2_with fail
        refine (KNEG.out _).mono ?_
        rintro e w8 ⟨rfl, hb⟩
        replace rN := rN.call hb
        replace rZ := rZ.call hb
        replace B : Below w.heap.size w w8 := below_call B (Nat.le_refl _) hb
        clear hb
        go_wp2_with fail
        have RM := fun t => Rs.new2 w8 ng 1 t
        refine (KMUL.out _ _ _ _ _ hn2.out _ (rZ.alloc _) (RM _)).mono ?_
        rintro e w9 ⟨A9, c9, rfl, r9, hb⟩
        replace rN := (rN.alloc _).call hb
        replace B : Below w.heap.size w w9 := below_call (B.alloc B.size _) (Nat.le_refl _) hb
        clear hb RM rZ
        go_wp2_with fail
        go_roundg (m - (k + 1))
        case measure => rw [HG.out]; omega
        case rel => exact ⟨k + 1, nN, _, AN, A9, cN, c9, rfl, hlt2, by go_num, rfl, rfl, hnN, hide rfl, rN, r9, B⟩
    · have KN := hide (KYES.out hms)
      have e1 : ((ms : Int) != 0) = true := by rw [bne_iff_ne]; omega
      have KRL2 := KRL.out
      clear hms
      go_wp2_with fail
      refine (KVZ.out _ _ _ hn2.out _ (by first | exact rZ | exact rZ.drew)).mono ?_
      rintro e w4 ⟨rfl, hb⟩
      replace rS := rS.call hb
      replace rZ := rZ.call hb
      replace B : Below w.heap.size w w4 := below_call B (Nat.le_refl _) hb
      clear hb
      go_wp2_with fail
      refine (KRAT.out _).mono ?_
      rintro e w5 ⟨rfl, hb⟩
      replace rS := rS.call hb
      replace rZ := rZ.call hb
      replace B : Below w.heap.size w w5 := below_call B (Nat.le_refl _) hb
      clear hb
      go_wp2_with fail
      refine (KSC.out r KRL2 _ _ _ hn2.out _ rZ).mono ?_
      rintro e w6 ⟨A6, c6, rfl, r6, hb⟩
      replace rS := rS.call hb
      replace rZ := rZ.call hb
      replace B : Below w.heap.size w w6 := below_call B (Nat.le_refl _) hb
      clear hb
      go_wp2_with fail
      have KADD2 := hide (fun W h h' => KADD.out r A1 A6 c1 c6 n1 _ hn1.out rfl W h h')
      rw [KN.out] at KADD2
      refine (KADD2.out _ rS r6).mono ?_
      rintro e w7 ⟨AN, cN, rfl, rN, hb⟩
      replace rZ := rZ.call hb
      replace B : Below w.heap.size w w7 := below_call B (Nat.le_refl _) hb
      obtain ⟨nN, hnN0⟩ : ∃ nN, (FS (k + 1)).length = nN := ⟨_, rfl⟩
      rw [hnN0]
      have hnN := hide hnN0
      clear hb rS r6 KADD2 hnN0
      by_cases hlast : k + 1 = m
      · have e2 : ((k : Int) == (m : Int) - 1) = true := by rw [beq_iff_eq]; omega
        have HLAST := hide hlast
        rw [hlast] at rN
        have hnN := hide (by rw [← HLAST.out]; exact hnN.out : (FS m).length = nN)
        clear hlast
        go_wp2_with fail
        refine (HPAD.out _ _ _ hnN.out _ rN).mono ?_
        rintro e w9 ⟨A9, c9, rfl, r9, hb9⟩
        have B9 := below_call B (Nat.le_refl _) hb9
        clear hb9
        go_wp2_with fail
        try rw [Exit.noGoto_ret]
        go_ret2
        exact ⟨A9, c9, rfl, r9, B9⟩
      · have e2 : ((k : Int) == (m : Int) - 1) = false := by rw [beq_eq_false_iff_ne]; omega
        have hlt2 : k + 1 < m := by omega
        clear hlast
        go_wp2_with fail
        refine (KNEG.out _).mono ?_
        rintro e w8 ⟨rfl, hb⟩
        replace rN := rN.call hb
        replace rZ := rZ.call hb
        replace B : Below w.heap.size w w8 := below_call B (Nat.le_refl _) hb
        clear hb
        go_wp2_with fail
        have RM := fun t => Rs.new2 w8 ng 1 t
        refine (KMUL.out _ _ _ _ _ hn2.out _ (rZ.alloc _) (RM _)).mono ?_
        rintro e w9 ⟨A9, c9, rfl, r9, hb⟩
        replace rN := (rN.alloc _).call hb
        replace B : Below w.heap.size w w9 := below_call (B.alloc B.size _) (Nat.le_refl _) hb
        clear hb RM rZ
        go_wp2_with fail
        go_roundg (m - (k + 1))
        case measure => rw [HG.out]; omega
        case rel => exact ⟨k + 1, nN, _, AN, A9, cN, c9, rfl, hlt2, by go_num, rfl, rfl, hnN, hide rfl, rN, r9, B⟩
end Go.Proofs.Ytbgppkgcdmpajaa
