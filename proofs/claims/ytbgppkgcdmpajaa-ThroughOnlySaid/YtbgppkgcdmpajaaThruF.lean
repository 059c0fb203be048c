/-
  Walk of chapter 19's Shift, and of Through whatever is wrong. Conditions: slices no longer than the form lets them be, and no longer than their capacity.
-/
import Derived.Test.YtbgppkgcdmpajaaThruE
namespace Go.Proofs.Ytbgppkgcdmpajaa
open Go.RowKit Go.Shelf
set_option linter.unusedVariables false

set_option maxHeartbeats 1000000 in
theorem through_t (A A' : Option Addr) (c c' n m : Nat) (xs ys : List Nat) (w : World) (hx : Rs w A (us xs)) (hy : Rs w A' (us ys)) (hlx : xs.length = n) (hly : ys.length = m) (hnc : n ≤ c) (hcm : c ≤ maxLen) (hn : n ≤ 17592186043904) (hm : m ≤ 17592186043904) :
    Calls Try.prog 48 #[.slice A n c, .slice A' m c'] w (RetL2 w (thrT xs ys).1 (thrT xs ys).2) := by
  by_cases hk : chkT xs ys = 0
  · rw [thrT, if_neg (by omega)]
    exact through_ok A A' c c' n m xs ys w hx hy hlx hly hnc hcm hk
  · rw [thrT, if_pos hk]
    have HC := hide (fun W h h' => check_t A A' c c' n m xs ys W h h' hlx hly hnc hcm hn hm)
    have e1 : (chkT xs ys != 0) = true := by rw [bne_iff_ne]; exact hk
    generalize chkT xs ys = k at *
    clear hk hlx hly hnc hcm hn hm
    go_enter Try.func48, Try.ntmps48
    go_wp2_with fail
    go_step3
    go_wp2_with fail
    refine (HC.out _ hx hy).mono ?_
    rintro e w1 ⟨rfl, hb⟩
    go_wp2_with fail
    try rw [Exit.noGoto_ret]
    go_ret2
    exact retL2_nil hb
def shT (c xs ys : List Nat) : List Nat × Int := if chkP c ≠ 0 then ([], chkP c) else if chkT xs ys ≠ 0 then ([], chkT xs ys) else if c.length < xs.length then ([], 1) else (shiftP c xs ys, 0)
theorem take_moreP {c xs ys : List Nat} {k : Nat} (h : k < xs.length) : (moreP c xs ys).take (k + 1) = (moreP c xs ys).take k ++ [subP (ys.getD k 0) (pval c (xs.getD k 0) % 2305843009213693951)] := by
  rw [take_succ' (by rw [len_moreP]; exact h)]
  simp [moreP]
set_option maxRecDepth 100000 in
set_option maxHeartbeats 8000000 in
theorem shift_ok (A0 A A' : Option Addr) (c0 c c' n0 n m : Nat) (a xs ys : List Nat) (w : World) (ha : Rs w A0 (us a)) (hx : Rs w A (us xs)) (hy : Rs w A' (us ys)) (hla : a.length = n0) (hlx : xs.length = n) (hly : ys.length = m) (hnc : n ≤ c) (hcm : c ≤ maxLen) (hwa : ∀ y ∈ a, y < 18446744073709551616)
    (hk0 : chkP a = 0) (hk : chkT xs ys = 0) (hle : xs.length ≤ a.length) :
    Calls Try.prog 53 #[.slice A0 n0 c0, .slice A n c, .slice A' m c'] w (RetL2 w (shiftP a xs ys) 0) := by
  obtain ⟨f1, f2, f3, f4, f5, f6⟩ := chkT_ok hk
  have f0 := chk_len hk0
  have HC0 := hide (fun W (h : Rs W A0 (us a)) => chk_p A0 c0 _ a W h (by omega) n0 hla)
  have HC := hide (fun W h h' => check_t A A' c c' n m xs ys W h h' hlx hly hnc hcm (by omega) (by omega))
  rw [hk] at HC
  rw [hk0] at HC0
  have x64 := lt64 f4
  have y64 := lt64 f5
  have HVS := hide (fun k W h => value_t A0 c0 n0 (xs.getD k 0) a W h hla (by omega) hwa (getD_lt x64 k))
  have HSUB := hide (fun k W => sub_t (ys.getD k 0) (pval a (xs.getD k 0) % 2305843009213693951) (getD_lt y64 k) (lt_modP _) W)
  have hkm : chkT xs (moreP a xs ys) = 0 := chkT_mk f1 f2 (len_moreP _ _ _) f4 (lt_moreP _ _ _) f6
  have HTH := hide (fun A'' c'' W h h' => through_ok A A'' c c'' n n xs (moreP a xs ys) W h h' hlx (by rw [len_moreP, hlx]) hnc hcm hkm)
  have HADD := hide (fun A' c' W h h' => add_p A0 A' c0 c' n0 _ a (thrP xs (moreP a xs ys)) W h h' hla rfl (by omega) (by rw [len_thrP, hlx]; omega) hwa (lt64 (lt_thrP _ _)))
  have HPAD := hide (fun A c nn (hn : (addP a (thrP xs (moreP a xs ys))).length = nn) W h => padded_t A c nn n0 (addP a (thrP xs (moreP a xs ys))) W h hn (by have := len_addP a (thrP xs (moreP a xs ys)); rw [len_thrP] at this; omega) (by omega))
  have hfin : padL (addP a (thrP xs (moreP a xs ys))) n0 = shiftP a xs ys := by rw [shiftP, hla]
  rw [hfin] at HPAD
  have hln : (thrP xs (moreP a xs ys)).length = n := by rw [len_thrP, hlx]
  have HLN := hide hln
  have HTK := hide (fun k (h : k < xs.length) => take_moreP (c := a) (ys := ys) h)
  have HFULL := hide (show (moreP a xs ys).take n = moreP a xs ys by rw [← hlx, ← len_moreP a xs ys, List.take_length])
  have HGX := hide (fun k (h : k < xs.length) => getD_in (l := xs) h)
  have HGY := hide (fun k (h : k < ys.length) => getD_in (l := ys) h)
  have HLX := hide hlx
  have HLY := hide (show ys.length = n by omega)
  obtain rfl : m = n := by omega
  have n64 : m ≤ 64 := by omega
  have nle : m ≤ n0 := by omega
  have nle2 : n0 ≤ 64 := by omega
  generalize shiftP a xs ys = R at *
  generalize addP a (thrP xs (moreP a xs ys)) = Q at *
  generalize thrP xs (moreP a xs ys) = D at *
  generalize moreP a xs ys = L at *
  clear hlx hly hla hk hk0 f0 f1 f2 f3 f4 f5 f6 x64 y64 hfin hcm hwa hkm hle hln
  go_enter Try.func53, Try.ntmps53
  go_wp2_with fail
  refine (HC0.out _ ha).mono ?_
  rintro e w1 ⟨rfl, rfl⟩
  go_wp2_with fail
  refine (HC.out _ hx hy).mono ?_
  rintro e w1 ⟨rfl, hb⟩
  have B : Below w.heap.size w w1 := hb
  have t0 : ¬ (n0 : Int) < (m : Int) := by omega
  have t0n : decide (n0 < m) = false := by rw [decide_eq_false_iff_not]; omega
  clear hb
  go_wp2_with fail
  go_loopg [10, 11, 12, 33] m (fun g v10 v11 v12 v33 wr => ∃ (k : Nat) (A1 : Option Addr) (c1 : Nat), g = m - k ∧ k ≤ m ∧ v33 = .int .i64 k ∧ v10 = .slice A1 k c1 ∧ wr.ownsRow w.heap.size 22 1 (.slice A1 k c1) k (us (L.take k)) ∧ Below w.heap.size w wr)
  case atStart => exact ⟨0, _, _, rfl, Nat.zero_le _, rfl, rfl, World.ownsRow_nil _ _ _ _, B⟩
  case round =>
    clear B
    obtain ⟨k, A1, c1, hg, hk, rfl, rfl, hown, B⟩ := hrel
    have HG := hide hg
    clear hg
    by_cases hlt : k < m
    · have t1 : (k : Int) < (m : Int) := by omega
      have t2 : (0 : Int) ≤ (k : Int) := by omega
      have hkx : k < xs.length := by rw [HLX.out]; exact hlt
      have hky : k < ys.length := by rw [HLY.out]; exact hlt
      obtain ⟨b, o, rfl, hbb, hc⟩ := (Rd.below hx B).u (k := k) hkx
      obtain ⟨b2, o2, rfl, hbb2, hc2⟩ := (Rd.below hy B).u (k := k) hky
      have rA : Rs wr A0 (us a) := (Rd.below ha B).more B.size
      have hgx := HGX.out k hkx
      have hgy := HGY.out k hky
      rw [← hgx] at hc
      rw [← hgy] at hc2
      have KVS := hide (HVS.out k)
      have KSUB := hide (HSUB.out k)
      have KTK := hide (HTK.out k hkx)
      clear hgx hgy
      generalize pval a (xs.getD k 0) % 2305843009213693951 = s at *
      generalize subP (ys.getD k 0) s = v at *
      generalize xs.getD k 0 = x at *
      generalize ys.getD k 0 = y at *
      go_wp2_with fail
      have BW : Below wr.heap.size wr wr := Below.refl _ _
      have bz := B.size
      go_region_held3 (fun w' => w'.cell? ⟨b2, o2 + k, none⟩ = some (.int .u64 (y : Nat))) (first | exact hc2 | exact cell_alloc _ hc2) (first | (go_at_call 76; (refine (KVS.out _ (by first | exact rA | exact rA.drew)).mono ?_); rintro e w3 ⟨rfl, hb⟩; replace hc2 := cell_call hb hc2; replace BW : Below wr.heap.size wr w3 := below_call (by (repeat (first | exact Below.refl _ _ | assumption | (refine Below.alloc ?_ (by first | omega | (simp; done) | (simp; omega)) _) | (refine Below.setCell ?_ (by first | omega | (simp; done) | (simp; omega)) _) | refine Below.drew ?_ | refine below_drewN ?_ _))) (Nat.le_refl _) hb; clear hb) | (go_at_call 29; (with_reducible refine (KSUB.out _).mono ?_); rintro e w3 ⟨rfl, hb⟩; replace hc2 := cell_call hb hc2; replace BW : Below wr.heap.size wr w3 := below_call (by (repeat (first | exact Below.refl _ _ | assumption | (refine Below.alloc ?_ (by first | omega | (simp; done) | (simp; omega)) _) | (refine Below.setCell ?_ (by first | omega | (simp; done) | (simp; omega)) _) | refine Below.drew ?_ | refine below_drewN ?_ _))) (Nat.le_refl _) hb; clear hb) | ((refine step_appendN (by rfl) _ _ _ (by rfl) w.heap.size 22 (.int .u64 0) 8 Try.underlying36 Try.infoU64' rfl A1 k c1 _ (by rfl) ((own_call hown BW).alloc _) _ 1 1 _ (us [v]) (by rfl) rfl (Rs.new1 _ v _) (one_us _) (by omega) (by omega) (by have := BW.size; simp; omega) ?_); intro A4 c4 w4 hown4 hb4; replace hc2 := (hb4.cell hbb2).trans (cell_alloc _ hc2)))
      have B4 : Below w.heap.size w w4 := ((below_call B (Nat.le_refl _) BW).alloc (by have := BW.size; omega) _).trans hb4
      rw [← us_append, ← KTK.out] at hown4
      clear hown hb4 BW B hc hc2
      go_wp2_with fail
      go_roundg (m - (k + 1))
      case measure => rw [HG.out]; omega
      case rel => exact ⟨k + 1, A4, c4, rfl, by omega, by go_num, rfl, hown4, B4⟩
    · have hkm : k = m := by omega
      subst hkm
      rw [HFULL.out] at hown
      have rL := Rs.of_own hown
      have rX : Rs wr A (us xs) := (Rd.below hx B).more B.size
      have rA : Rs wr A0 (us a) := (Rd.below ha B).more B.size
      go_wp2_with fail
      refine (HTH.out _ _ _ rX rL).mono ?_
      rintro e w5 ⟨A5, c5, rfl, r5, hb⟩
      replace rA := rA.call hb
      replace B : Below w.heap.size w w5 := below_call B (Nat.le_refl _) hb
      clear hb
      go_wp2_with fail
      refine (HADD.out _ _ _ rA r5).mono ?_
      rintro e w6 ⟨A6, c6, rfl, r6, hb⟩
      replace B : Below w.heap.size w w6 := below_call B (Nat.le_refl _) hb
      clear hb
      go_wp2_with fail
      refine (HPAD.out _ _ _ rfl _ r6).mono ?_
      rintro e w7 ⟨A7, c7, rfl, r7, hb⟩
      replace B : Below w.heap.size w w7 := below_call B (Nat.le_refl _) hb
      clear hb
      go_wp2_with fail
      go_ret2
      exact ⟨A7, c7, rfl, r7, B⟩
set_option maxHeartbeats 2000000 in
theorem shift_t (A0 A A' : Option Addr) (c0 c c' n0 n m : Nat) (a xs ys : List Nat) (w : World) (ha : Rs w A0 (us a)) (hx : Rs w A (us xs)) (hy : Rs w A' (us ys)) (hla : a.length = n0) (hlx : xs.length = n) (hly : ys.length = m) (hnc : n ≤ c) (hcm : c ≤ maxLen) (hwa : ∀ y ∈ a, y < 18446744073709551616)
    (hn0 : n0 ≤ 17592186043904) (hn : n ≤ 17592186043904) (hm : m ≤ 17592186043904) :
    Calls Try.prog 53 #[.slice A0 n0 c0, .slice A n c, .slice A' m c'] w (RetL2 w (shT a xs ys).1 (shT a xs ys).2) := by
  have HC0 := hide (fun W (h : Rs W A0 (us a)) => chk_p A0 c0 _ a W h (by omega) n0 hla)
  have HC := hide (fun W h h' => check_t A A' c c' n m xs ys W h h' hlx hly hnc hcm hn hm)
  by_cases hk0 : chkP a = 0
  · by_cases hk : chkT xs ys = 0
    · by_cases hle : xs.length ≤ a.length
      · rw [shT, if_neg (by omega), if_neg (by omega), if_neg (by omega)]
        exact shift_ok A0 A A' c0 c c' n0 n m a xs ys w ha hx hy hla hlx hly hnc hcm hwa hk0 hk hle
      · rw [shT, if_neg (by omega), if_neg (by omega), if_pos (by omega)]
        rw [hk0] at HC0
        rw [hk] at HC
        have t0 : (n0 : Int) < (n : Int) := by omega
        clear hk0 hk hle hla hlx hly hnc hcm hn0 hn hm hwa
        go_enter Try.func53, Try.ntmps53
        go_wp2_with fail
        refine (HC0.out _ ha).mono ?_
        rintro e w1 ⟨rfl, rfl⟩
        go_wp2_with fail
        refine (HC.out _ hx hy).mono ?_
        rintro e w1 ⟨rfl, hb⟩
        go_wp2_with fail
        go_ret2
        exact retL2_nil hb
    · rw [shT, if_neg (by omega), if_pos hk]
      rw [hk0] at HC0
      have e1 : (chkT xs ys != 0) = true := by rw [bne_iff_ne]; exact hk
      generalize chkT xs ys = k at *
      clear hk0 hk hla hlx hly hnc hcm hn0 hn hm hwa
      go_enter Try.func53, Try.ntmps53
      go_wp2_with fail
      refine (HC0.out _ ha).mono ?_
      rintro e w1 ⟨rfl, rfl⟩
      go_wp2_with fail
      refine (HC.out _ hx hy).mono ?_
      rintro e w1 ⟨rfl, hb⟩
      go_wp2_with fail
      go_ret2
      exact retL2_nil hb
  · rw [shT, if_pos hk0]
    have e1 : (chkP a != 0) = true := by rw [bne_iff_ne]; exact hk0
    generalize chkP a = k at *
    clear hk0 hla hlx hly hnc hcm hn0 hn hm hwa HC
    go_enter Try.func53, Try.ntmps53
    go_wp2_with fail
    refine (HC0.out _ ha).mono ?_
    rintro e w1 ⟨rfl, rfl⟩
    go_wp2_with fail
    go_ret2
    exact retL2_nil (Below.refl _ _)
end Go.Proofs.Ytbgppkgcdmpajaa
