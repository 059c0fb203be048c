/-
  Walks of chapter 18's Roots, in the program and in the reference. Conditions: slices no longer than the form lets them be.
-/
import Derived.Test.YtbgppkgcdmpajaaPolyH
namespace Go.Proofs.Ytbgppkgcdmpajaa
open Go.RowKit Go.Shelf
set_option linter.unusedVariables false

set_option maxHeartbeats 400000 in
theorem indexv_p (A : Option Addr) (c B v : Nat) (row : List Nat) (w : World) (hr : Rd w B A (us row)) (hl : row.length ≤ 17592186043904) (nr : Nat) (hnr : row.length = nr) :
    Calls Try.prog 90 #[.slice A nr c, .int .u64 v] w fun e w' => ∃ r : Int, e = .returned (.int .i64 r) ∧ decide (0 ≤ r) = decide (v ∈ row) ∧ w = w' := by
  subst hnr
  go_enter Try.func90, Try.ntmps90
  go_wp2
  go_loop [8] (fun i => ∃ k : Nat, k ≤ row.length ∧ i = .int .i64 k ∧ Hid (∀ j (h : j < row.length), j < k → v ≠ row[j])) (fun i => row.length - (intOf i).toNat)
  case atStart => exact ⟨0, Nat.zero_le _, rfl, fun j _ h => absurd h (by omega)⟩
  case round =>
    obtain ⟨k, hk, rfl, hall⟩ := hrel
    by_cases hlt : k < row.length
    · obtain ⟨b, o, rfl, hb, hc⟩ := hr.u hlt
      by_cases he : v = row[k]
      · have H := hide (show v ∈ row from he ▸ List.getElem_mem hlt)
        have e1 : ((v : Int) == ((row[k] : Nat) : Int)) = true := by rw [← he]; simp
        clear he
        generalize row[k] = y at *
        go_wp2_with fail
        go_ret
        exact ⟨k, rfl, by simp [H.out], rfl⟩
      · have e1 : ((v : Int) == ((row[k] : Nat) : Int)) = false := by rw [beq_eq_false_iff_ne]; intro h; exact he (by omega)
        have HE := hide he
        clear he
        generalize hy : row[k] = y at *
        have HY := hide hy
        clear hy
        go_wp2_with fail
        go_round
        case rel => exact ⟨k + 1, by omega, by go_num, hide fun j h hj => by
                      by_cases e : j = k
                      · subst e; rw [HY.out]; exact HE.out
                      · exact hall.out j h (by omega)⟩
        case measure => simp [intOf]; omega
    · go_wp2_with fail
      go_ret
      have hkb : k = row.length := by omega
      subst hkb
      refine ⟨-1, rfl, ?_, rfl⟩
      have : v ∉ row := fun h => by
        obtain ⟨j, hj, e⟩ := List.getElem_of_mem h
        exact hall.out j hj hj e.symm
      simp [this]
theorem containsv_p (A : Option Addr) (c B v : Nat) (row : List Nat) (w : World) (hr : Rd w B A (us row)) (hl : row.length ≤ 17592186043904) (nr : Nat) (hnr : row.length = nr) :
    Calls Try.prog 74 #[.slice A nr c, .int .u64 v] w fun e w' => e = .returned (.bool (decide (v ∈ row))) ∧ w = w' := by
  have H := hide (indexv_p A c B v row w hr hl nr hnr)
  generalize decide (v ∈ row) = d at *
  clear hnr
  go_enter Try.func74, Try.ntmps74
  go_wp2_with fail
  refine H.out.mono ?_
  rintro e w' ⟨r, rfl, hr2, rfl⟩
  have HR := hide hr2
  clear hr2
  go_wp2_with fail
  go_ret
  exact ⟨ret_b HR.out, rfl⟩

/-- One step of the search for roots. -/
theorem rootsS_yes (a l : List Nat) (k : Nat) (h : pval a (l.getD k 0 % 2305843009213693951) % 2305843009213693951 = 0) (h2 : (l.getD k 0 % 2305843009213693951) ∉ rootsS a l k) : rootsS a l (k + 1) = rootsS a l k ++ [l.getD k 0 % 2305843009213693951] := by
  rw [rootsS, if_pos ⟨h, h2⟩]
theorem rootsS_no1 (a l : List Nat) (k : Nat) (h : ¬ pval a (l.getD k 0 % 2305843009213693951) % 2305843009213693951 = 0) : rootsS a l (k + 1) = rootsS a l k := by
  rw [rootsS, if_neg (fun x => h x.1)]
theorem rootsS_no2 (a l : List Nat) (k : Nat) (h : (l.getD k 0 % 2305843009213693951) ∈ rootsS a l k) : rootsS a l (k + 1) = rootsS a l k := by
  rw [rootsS, if_neg (fun x => x.2 h)]
set_option maxRecDepth 100000 in
set_option maxHeartbeats 4000000 in
theorem roots_p (A A' : Option Addr) (c c' n m : Nat) (a l : List Nat) (w : World) (ha : Rs w A (us a)) (hb : Rs w A' (us l)) (hla : a.length = n) (hlb : l.length = m) (hn : n ≤ 100000) (hm : m ≤ 100000) (hwa : ∀ y ∈ a, y < 18446744073709551616) (hwb : ∀ y ∈ l, y < 18446744073709551616) :
    Calls Try.prog 45 #[.slice A n c, .slice A' m c'] w (RetL w (rootsS a l m)) := by
  have HR := hide (fun k W => rem_p (l.getD k 0) (getD_lt hwb k) W)
  have HV := hide (fun k W (h : Rs W A (us a)) => at_p A c n (l.getD k 0 % 2305843009213693951) a W h hla (by omega) hwa (Nat.lt_trans (Nat.mod_lt _ (by omega)) (by omega)))
  have HC := hide (fun k (hk : k ≤ m) A'' c'' nr W (hnr : (rootsS a l k).length = nr) (h : Rs W A'' (us (rootsS a l k))) => containsv_p A'' c'' _ (l.getD k 0 % 2305843009213693951) (rootsS a l k) W h (by have := len_rootsS a l k; omega) nr hnr)
  have H1 := hide (rootsS_yes a l)
  have H2 := hide (rootsS_no1 a l)
  have H3 := hide (rootsS_no2 a l)
  have HGD := hide (fun k (h : k < l.length) => getD_in (l := l) h)
  have HLE := hide (len_rootsS a l)
  have HLB := hide hlb
  have h0 : rootsS a l 0 = [] := rfl
  generalize rootsS a l = R at *
  have HH0 := hide h0
  clear hla hlb hwa hwb h0
  go_enter Try.func45, Try.ntmps45
  go_wp2_with fail
  go_loopg [5, 10] m (fun g v5 v10 wr => ∃ (k r : Nat) (A : Option Addr) (c : Nat), g = m - k ∧ k ≤ m ∧ v10 = .int .i64 k ∧ v5 = .slice A r c ∧ Hid ((R k).length = r) ∧ wr.ownsRow w.heap.size 22 1 (.slice A r c) r (us (R k)) ∧ Below w.heap.size w wr)
  case atStart => exact ⟨0, 0, _, _, rfl, Nat.zero_le _, rfl, rfl, by rw [HH0.out]; exact rfl, by rw [HH0.out]; exact World.ownsRow_nil _ _ _ _, Below.refl _ _⟩
  case round =>
    obtain ⟨k, r, A1, c1, hg, hk, rfl, rfl, hr, hown, B⟩ := hrel
    have HG := hide hg
    clear hg
    by_cases hlt : k < m
    · have t1 : (k : Int) < (m : Int) := by omega
      have t2 : (0 : Int) ≤ (k : Int) := by omega
      have hkl : k < l.length := by rw [HLB.out]; exact hlt
      obtain ⟨b, o, rfl, hbb, hc⟩ := (hb.below B).u (k := k) hkl
      have RA : Rd wr w.heap.size A (us a) := ha.below B
      have HRk := hide (HR.out k)
      have HVk := hide (HV.out k)
      have HCk := hide (HC.out k hk)
      have H1k := hide (H1.out k)
      have H2k := hide (H2.out k)
      have H3k := hide (H3.out k)
      have hgd := HGD.out k hkl
      rw [← hgd] at hc
      have hrl : r ≤ k := by rw [← hr.out]; exact HLE.out k
      clear hgd
      generalize l.getD k 0 % 2305843009213693951 = y at *
      generalize l.getD k 0 = z at *
      generalize pval a y % 2305843009213693951 = v at *
      go_wp2_with fail
      refine (HRk.out _).mono ?_
      rintro e w1 ⟨rfl, hb1⟩
      replace RA := RA.call B.size hb1
      replace hown := own_carry hown hb1
      replace B : Below w.heap.size w w1 := below_call B (Nat.le_refl _) hb1
      clear hc hb1
      go_wp2_with fail
      refine (HVk.out _ (RA.more B.size)).mono ?_
      rintro e w2 ⟨rfl, hb1⟩
      replace hown := own_carry hown hb1
      replace B : Below w.heap.size w w2 := below_call B (Nat.le_refl _) hb1
      clear RA hb1
      have HRD := Rs.of_own hown
      have HCC := hide (HCk.out A1 c1 r w2 hr.out HRD)
      by_cases hv : v = 0
      · have HV0 := hide hv
        subst hv
        by_cases hin : y ∈ R k
        · have HIN := hide (H3k.out hin)
          rw [decide_eq_true hin] at HCC
          clear hin
          go_wp2_with ((go_at_call 74); (with_reducible refine HCC.out.mono ?_); rintro e w3 ⟨rfl, rfl⟩)
          go_roundg (m - (k + 1))
          case measure => rw [HG.out]; omega
          case rel => exact ⟨k + 1, r, A1, c1, rfl, by omega, by go_num, rfl, hide (by rw [HIN.out]; exact hr.out), by rw [HIN.out]; exact hown, B⟩
        · have HIN := hide (H1k.out HV0.out hin)
          rw [decide_eq_false hin] at HCC
          clear hin
          go_wp2_with (first | ((go_at_call 74); (with_reducible refine HCC.out.mono ?_); rintro e w3 ⟨rfl, rfl⟩) | (at_builtin; (refine wp_append1 rfl _ _ _ rfl w.heap.size 22 _ (.int .u64 0) 8 Try.underlying36 Try.infoU64' rfl _ _ _ _ rfl hown _ rfl rfl (by omega) (by omega) B.size ?_)))
          intro A2 c2 w4 hown2 hb2
          go_wp2_with fail
          go_roundg (m - (k + 1))
          case measure => rw [HG.out]; omega
          case rel => exact ⟨k + 1, r + 1, A2, c2, rfl, by omega, by go_num, rfl, hide (by rw [HIN.out, List.length_append, hr.out]; rfl), by rw [HIN.out, us_append]; exact hown2, B.trans hb2⟩
      · have HIN := hide (H2k.out hv)
        have e1 : ((v : Int) == 0) = false := by rw [beq_eq_false_iff_ne]; omega
        clear hv
        go_wp2_with fail
        go_roundg (m - (k + 1))
        case measure => rw [HG.out]; omega
        case rel => exact ⟨k + 1, r, A1, c1, rfl, by omega, by go_num, rfl, hide (by rw [HIN.out]; exact hr.out), by rw [HIN.out]; exact hown, B⟩
    · have hkm : k = m := by omega
      subst hkm
      go_wp2_with fail
      go_ret
      exact ⟨A1, c1, by rw [hr.out]; rfl, Rs.of_own hown, B⟩
theorem mem_step {l : List Nat} {k v : Nat} (h : k < l.length) : decide (v ∈ l.take (k + 1)) = (decide (v ∈ l.take k) || decide (l[k] = v)) := by
  rw [take_succ' h, Bool.eq_iff_iff, Bool.or_eq_true, decide_eq_true_iff, decide_eq_true_iff, decide_eq_true_iff, List.mem_append, List.mem_singleton, eq_comm (a := v)]
set_option maxRecDepth 100000 in
set_option maxHeartbeats 4000000 in
theorem roots_r (A A' : Option Addr) (c c' n m : Nat) (a l : List Nat) (w : World) (ha : Rs w A (us a)) (hb : Rs w A' (us l)) (hla : a.length = n) (hlb : l.length = m) (hn : n ≤ 100000) (hm : m ≤ 100000) (hwa : ∀ y ∈ a, y < 18446744073709551616) (hwb : ∀ y ∈ l, y < 18446744073709551616) :
    Calls Try.prog 46 #[.slice A n c, .slice A' m c'] w (RetL w (rootsS a l m)) := by
  have HV := hide (fun k W (h : Rd W w.heap.size A (us a)) => value_r A c _ n (l.getD k 0 % 2305843009213693951) a W h hla (by omega) hwa (Nat.lt_trans (Nat.mod_lt _ (by omega)) (by omega)))
  have HT := hide (fun k => show ((l.getD k 0 : Nat) : Int) % 2305843009213693951 = ((l.getD k 0 % 2305843009213693951 : Nat) : Int) by omega)
  have H1 := hide (rootsS_yes a l)
  have H2 := hide (rootsS_no1 a l)
  have H3 := hide (rootsS_no2 a l)
  have HGD := hide (fun k (h : k < l.length) => getD_in (l := l) h)
  have HLE := hide (len_rootsS a l)
  have HLB := hide hlb
  have h0 : rootsS a l 0 = [] := rfl
  generalize rootsS a l = R at *
  have HH0 := hide h0
  clear hla hlb hwa hwb h0
  go_enter Try.func46, Try.ntmps46
  go_wp2_with fail
  go_loopg [5, 13] m (fun g v5 v13 wr => ∃ (k r : Nat) (A : Option Addr) (c : Nat), g = m - k ∧ k ≤ m ∧ v13 = .int .i64 k ∧ v5 = .slice A r c ∧ Hid ((R k).length = r) ∧ wr.ownsRow w.heap.size 22 1 (.slice A r c) r (us (R k)) ∧ Below w.heap.size w wr)
  case atStart => exact ⟨0, 0, _, _, rfl, Nat.zero_le _, rfl, rfl, by rw [HH0.out]; exact rfl, by rw [HH0.out]; exact World.ownsRow_nil _ _ _ _, Below.refl _ _⟩
  case round =>
    obtain ⟨k, r, A1, c1, hg, hk, rfl, rfl, hr, hown, B⟩ := hrel
    have HG := hide hg
    clear hg
    by_cases hlt : k < m
    · have t1 : (k : Int) < (m : Int) := by omega
      have t2 : (0 : Int) ≤ (k : Int) := by omega
      have hkl : k < l.length := by rw [HLB.out]; exact hlt
      obtain ⟨b, o, rfl, hbb, hc⟩ := (hb.below B).u (k := k) hkl
      have RA : Rd wr w.heap.size A (us a) := ha.below B
      have HVk := hide (HV.out k)
      have H1k := hide (H1.out k)
      have H2k := hide (H2.out k)
      have H3k := hide (H3.out k)
      have ht := HT.out k
      have hgd := HGD.out k hkl
      rw [← hgd] at hc
      have hrl : r ≤ k := by rw [← hr.out]; exact HLE.out k
      clear hgd
      generalize l.getD k 0 % 2305843009213693951 = y at *
      generalize l.getD k 0 = z at *
      generalize pval a y % 2305843009213693951 = v at *
      have HRD := Rs.of_own hown
      generalize hLL : R k = L at *
      have HLL := hide hLL
      clear hLL
      go_wp2_with fail
      go_loop [8, 19] (fun v8 v19 => ∃ (j : Nat) (bb : Bool), j ≤ r ∧ v19 = .int .i64 j ∧ v8 = .bool bb ∧ Hid (bb = decide (y ∈ L.take j))) (fun v8 v19 => r - (intOf v19).toNat)
      case atStart => exact ⟨0, false, Nat.zero_le _, rfl, rfl, hide (by simp)⟩
      case round =>
        obtain ⟨j, bb, hj, rfl, rfl, hbb2⟩ := hrel
        by_cases hjr : j < r
        · have t3 : (j : Int) < (r : Int) := by omega
          have t4 : (0 : Int) ≤ (j : Int) := by omega
          have hjl : j < L.length := by rw [hr.out]; exact hjr
          obtain ⟨b2, o2, hA2, hb2, hc2⟩ := HRD.u (k := j) hjl
          subst hA2
          have hst := mem_step (v := y) hjl
          rw [← hbb2.out] at hst
          cases bb with
          | true =>
            have HST := hide (hst.trans (Bool.true_or _))
            clear hst
            generalize L[j] = u at *
            go_wp2_with fail
            go_round
            case rel => exact ⟨j + 1, true, by omega, by go_num, rfl, hide HST.out.symm⟩
            case measure => simp [intOf]; omega
          | false =>
            rw [Bool.false_or] at hst
            have HST := hide hst
            clear hst
            generalize L[j] = u at *
            by_cases hu : u = y
            · rw [decide_eq_true hu] at HST
              have e1 : ((u : Int) == (y : Int)) = true := by rw [hu]; simp
              clear hu
              go_wp2_with fail
              go_round
              case rel => exact ⟨j + 1, true, by omega, by go_num, rfl, hide HST.out.symm⟩
              case measure => simp [intOf]; omega
            · rw [decide_eq_false hu] at HST
              have e1 : ((u : Int) == (y : Int)) = false := by rw [beq_eq_false_iff_ne]; intro h; exact hu (by omega)
              clear hu
              go_wp2_with fail
              go_round
              case rel => exact ⟨j + 1, false, by omega, by go_num, rfl, hide HST.out.symm⟩
              case measure => simp [intOf]; omega
        · have hjr2 : j = r := by omega
          subst hjr2
          have hbm := hbb2.out
          rw [show L.take j = L by rw [← hr.out, List.take_length]] at hbm
          cases bb with
          | true =>
            have HIN := hide (H3k.out (of_decide_eq_true hbm.symm))
            clear hbm
            go_wp2_with fail
            go_roundg (m - (k + 1))
            case measure => rw [HG.out]; omega
            case rel => exact ⟨k + 1, j, A1, c1, rfl, by omega, by go_num, rfl, hide (by rw [HIN.out]; exact hr.out), by rw [HIN.out]; exact hown, B⟩
          | false =>
            have hnin := of_decide_eq_false hbm.symm
            clear hbm
            by_cases hv : v = 0
            · have HIN := hide (H1k.out hv hnin)
              have e1 : ((v : Int) == 0) = true := by rw [beq_iff_eq]; omega
              clear hv hnin
              go_wp2_with (first | ((go_at_call 39); (with_reducible refine (HVk.out _ RA).mono ?_); rintro e w3 ⟨rfl, rfl⟩) | (at_builtin; (refine wp_append1 rfl _ _ _ rfl w.heap.size 22 _ (.int .u64 0) 8 Try.underlying36 Try.infoU64' rfl _ _ _ _ rfl hown _ rfl rfl (by omega) (by omega) B.size ?_)))
              intro A2 c2 w4 hown2 hb2
              go_wp2_with fail
              go_roundg (m - (k + 1))
              case measure => rw [HG.out]; omega
              case rel => exact ⟨k + 1, j + 1, A2, c2, rfl, by omega, by go_num, rfl, hide (by rw [HIN.out, List.length_append, hr.out]; rfl), by rw [HIN.out, us_append]; exact hown2, B.trans hb2⟩
            · have HIN := hide (H2k.out hv)
              have e1 : ((v : Int) == 0) = false := by rw [beq_eq_false_iff_ne]; omega
              clear hv hnin
              go_wp2_with (((go_at_call 39); (with_reducible refine (HVk.out _ RA).mono ?_); rintro e w3 ⟨rfl, rfl⟩))
              go_roundg (m - (k + 1))
              case measure => rw [HG.out]; omega
              case rel => exact ⟨k + 1, j, A1, c1, rfl, by omega, by go_num, rfl, hide (by rw [HIN.out]; exact hr.out), by rw [HIN.out]; exact hown, B⟩
    · have hkm : k = m := by omega
      subst hkm
      go_wp2_with fail
      go_ret
      exact ⟨A1, c1, by rw [hr.out]; rfl, Rs.of_own hown, B⟩
end Go.Proofs.Ytbgppkgcdmpajaa
