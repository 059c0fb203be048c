/-
  Walks of chapter 19's reference: Check, Values, Vanish, Below. Conditions: slices no longer than the form lets them be.
-/
import Derived.Test.YtbgppkgcdmpajaaThruA
namespace Go.Proofs.Ytbgppkgcdmpajaa
open Go.RowKit Go.Shelf
set_option linter.unusedVariables false

theorem any_app {xs ys : List Nat} {k : Nat} (h : k < xs.length) (h' : k < ys.length) (hb : badP xs[k] = true ∨ badP ys[k] = true) : (xs ++ ys).any badP = true := by
  rw [List.any_append, Bool.or_eq_true]
  rcases hb with e | e
  · exact .inl (List.any_eq_true.2 ⟨_, List.getElem_mem h, e⟩)
  · exact .inr (List.any_eq_true.2 ⟨_, List.getElem_mem h', e⟩)
theorem any_app_none {xs ys : List Nat} (h : xs.length = ys.length) (hb : ∀ j (h1 : j < xs.length) (h2 : j < ys.length), badP xs[j] = false ∧ badP ys[j] = false) : (xs ++ ys).any badP = false := by
  rw [List.any_append, any_none fun j hj => (hb j hj (by omega)).1, any_none fun j hj => (hb j (by omega) hj).2]
  rfl
theorem nodup_step {xs : List Nat} {k : Nat} (h : k < xs.length) (hn : (xs.take k).Nodup) (hm : ∀ j (hj : j < xs.length), j < k → xs[j] ≠ xs[k]) : (xs.take (k + 1)).Nodup := by
  refine nodup_take_succ h hn fun hmem => ?_
  obtain ⟨j, hj, e⟩ := List.getElem_of_mem hmem
  rw [List.length_take] at hj
  rw [List.getElem_take] at e
  exact hm j (by omega) (by omega) e
theorem not_nodup2 {xs : List Nat} {k j : Nat} (h : k < xs.length) (hj : j < k) (e : xs[j] = xs[k]) : ¬ xs.Nodup := fun hn => by
  have := nodup_getD hn h (j := j) hj
  rw [getD_in h, getD_in (by omega : j < xs.length)] at this
  exact this e
set_option maxRecDepth 100000 in
set_option maxHeartbeats 4000000 in
theorem check_tr (A A' : Option Addr) (c c' n m : Nat) (xs ys : List Nat) (w : World) (hx : Rs w A (us xs)) (hy : Rs w A' (us ys)) (hlx : xs.length = n) (hly : ys.length = m) (hn : n ≤ 17592186043904) (hm : m ≤ 17592186043904) :
    Calls Try.prog 49 #[.slice A n c, .slice A' m c'] w fun e w' => e = .returned (.int .i64 (chkT xs ys)) ∧ Below w.heap.size w w' := by
  by_cases h1 : xs.length < 1 ∨ 64 < xs.length ∨ xs.length ≠ ys.length
  · have hk : chkT xs ys = 1 := by unfold chkT; rw [if_pos h1]
    rw [hk]
    have hcase : (n : Int) < 1 ∨ (¬ (n : Int) < 1 ∧ (64 : Int) < (n : Int)) ∨ (¬ (n : Int) < 1 ∧ ¬ (64 : Int) < (n : Int) ∧ ((n : Int) != (m : Int)) = true) := by
      have e : ((n : Int) != (m : Int)) = true ↔ n ≠ m := by rw [bne_iff_ne]; omega
      rw [e]
      omega
    clear h1 hk hx hy hlx hly
    rcases hcase with t1 | ⟨t1, t2⟩ | ⟨t1, t2, t3⟩
    all_goals
      go_enter Try.func49, Try.ntmps49
      go_wp2_with fail
      go_ret
      exact ⟨rfl, Below.refl _ _⟩
  · have hk : chkT xs ys = if (xs ++ ys).any badP = true then 2 else if xs.Nodup then 0 else 15 := by unfold chkT; rw [if_neg h1]
    obtain rfl : n = m := by omega
    have t1 : ¬ (n : Int) < 1 := by omega
    have t2 : ¬ (64 : Int) < (n : Int) := by omega
    have t3 : ((n : Int) != (n : Int)) = false := by rw [bne_eq_false_iff_eq]
    have q2 : n ≤ 64 := by omega
    have HK := hide hk
    have HLX := hide hlx
    have HLY := hide hly
    clear h1 hk hlx hly
    go_enter Try.func49, Try.ntmps49
    go_wp2_with fail
    go_loop [5, 25] (fun v5 v => ∃ k : Nat, k ≤ n ∧ v = .int .i64 k ∧ Hid (∀ j (h : j < xs.length) (h' : j < ys.length), j < k → badP xs[j] = false ∧ badP ys[j] = false)) (fun v5 v => n - (intOf v).toNat)
    case atStart => exact ⟨0, Nat.zero_le _, rfl, fun j _ _ h => absurd h (by omega)⟩
    case round =>
      obtain ⟨k, hk, rfl, hall⟩ := hrel
      by_cases hlt : k < n
      · have u1 : (k : Int) < (n : Int) := by omega
        have u2 : (0 : Int) ≤ (k : Int) := by omega
        have hkl : k < xs.length := by rw [HLX.out]; exact hlt
        have hkm : k < ys.length := by rw [HLY.out]; exact hlt
        obtain ⟨b, o, rfl, hbb, hc⟩ := Rd.u hx hkl
        obtain ⟨b2, o2, rfl, hbb2, hc2⟩ := Rd.u hy hkm
        by_cases hb1 : 2305843009213693951 ≤ xs[k]
        · have HB := hide (any_app hkl hkm (.inl (badP_yes hb1)))
          have u3 : (2305843009213693951 : Int) ≤ (xs[k] : Nat) := by omega
          clear hb1
          generalize xs[k] = y at *
          generalize ys[k] = z at *
          go_wp2_with fail
          go_ret
          exact ⟨ret_i (by rw [HK.out, HB.out]; rfl), Below.refl _ _⟩
        · have HB1 := hide (badP_no (Nat.lt_of_not_le hb1))
          have u3 : ¬ (2305843009213693951 : Int) ≤ (xs[k] : Nat) := by omega
          clear hb1
          by_cases hb2 : 2305843009213693951 ≤ ys[k]
          · have HB := hide (any_app hkl hkm (.inr (badP_yes hb2)))
            have u4 : (2305843009213693951 : Int) ≤ (ys[k] : Nat) := by omega
            clear hb2
            generalize xs[k] = y at *
            generalize ys[k] = z at *
            go_wp2_with fail
            go_ret
            exact ⟨ret_i (by rw [HK.out, HB.out]; rfl), Below.refl _ _⟩
          · have HB2 := hide (badP_no (Nat.lt_of_not_le hb2))
            have u4 : ¬ (2305843009213693951 : Int) ≤ (ys[k] : Nat) := by omega
            clear hb2
            generalize hy1 : xs[k] = y at *
            generalize hz1 : ys[k] = z at *
            have HY1 := hide hy1
            have HZ1 := hide hz1
            clear hy1 hz1
            go_wp2_with fail
            go_round
            case rel => exact ⟨k + 1, by omega, by go_num, hide fun j h h' hj => by
                          by_cases e : j = k
                          · subst e; rw [HY1.out, HZ1.out]; exact ⟨HB1.out, HB2.out⟩
                          · exact hall.out j h h' (by omega)⟩
            case measure => simp [intOf]; omega
      · have hkn : k = n := by omega
        subst hkn
        have HB := hide (any_app_none (HLX.out.trans HLY.out.symm) fun j h1 h2 => hall.out j h1 h2 (by rw [← HLX.out]; exact h1))
        clear hall hlt hy
        go_wp2_with fail
        go_loopg [6, 7, 43] k (fun g v6 v7 v wr => ∃ i : Nat, g = k - i ∧ i ≤ k ∧ v = .int .i64 i ∧ Hid ((xs.take i).Nodup) ∧ Below w.heap.size w wr)
        case atStart => exact ⟨0, rfl, Nat.zero_le _, rfl, hide (by simp), Below.refl _ _⟩
        case round =>
          obtain ⟨i, hg, hi, rfl, hnd, B⟩ := hrel
          have HG := hide hg
          clear hg
          by_cases hlt : i < k
          · have u1 : (i : Int) < (k : Int) := by omega
            have u2 : (0 : Int) ≤ (i : Int) := by omega
            have hil : i < xs.length := by rw [HLX.out]; exact hlt
            go_wp2_with fail
            go_loopg [7] i (fun g v7 wr => ∃ j : Nat, g = i - j ∧ j ≤ i ∧ v7 = .int .i64 j ∧ Hid (∀ t (h : t < xs.length), t < j → xs[t] ≠ xs[i]) ∧ Below w.heap.size w wr)
            case atStart => exact ⟨0, rfl, Nat.zero_le _, rfl, hide fun t _ h => absurd h (by omega), B⟩
            case round =>
              clear B
              obtain ⟨j, hg, hj, rfl, hall, B⟩ := hrel
              have HG2 := hide hg
              clear hg
              by_cases hji : j < i
              · have u3 : (j : Int) < (i : Int) := by omega
                have u4 : (0 : Int) ≤ (j : Int) := by omega
                have u5 : (j : Int) < (k : Int) := by omega
                have hjl : j < xs.length := by rw [HLX.out]; omega
                have RX : Rd wr w.heap.size A (us xs) := Rd.below hx B
                obtain ⟨b, o, hA, hbb, hc⟩ := RX.u hil
                obtain ⟨b2, o2, hA2, hbb2, hc2⟩ := RX.u hjl
                subst hA
                obtain ⟨rfl, rfl⟩ : b = b2 ∧ o = o2 := by simpa using hA2
                clear hA2
                by_cases he : xs[j] = xs[i]
                · have HN := hide (not_nodup2 hil hji he)
                  have e1 : (((xs[j] : Nat) : Int) == ((xs[i] : Nat) : Int)) = true := by rw [he]; simp
                  clear he
                  generalize xs[j] = y at *
                  generalize xs[i] = z at *
                  go_wp2_with fail
                  go_quiet (fail)
                  go_wp2_with fail
                  go_ret
                  exact ⟨ret_i (by rw [HK.out, HB.out, if_neg (by simp), if_neg HN.out]), below_drewN B _⟩
                · have e1 : (((xs[j] : Nat) : Int) == ((xs[i] : Nat) : Int)) = false := by rw [beq_eq_false_iff_ne]; intro h; exact he (by omega)
                  have HE := hide he
                  clear he
                  have HALL := hide (show ∀ t (h : t < xs.length), t < j + 1 → xs[t] ≠ xs[i] from fun t h ht => by
                    by_cases e : t = j
                    · subst e; exact HE.out
                    · exact hall.out t h (by omega))
                  clear HE hall
                  generalize hz : xs[i] = z at *
                  have HZ := hide hz
                  clear hz
                  generalize xs[j] = y at *
                  go_wp2_with fail
                  go_quiet (fail)
                  go_wp2_with fail
                  go_roundg (i - (j + 1))
                  case measure => rw [HG2.out]; omega
                  case rel => exact ⟨j + 1, rfl, by omega, by go_num, HALL, below_drewN B _⟩
              · have hji2 : j = i := by omega
                subst hji2
                have HN := hide (nodup_step hil hnd.out hall.out)
                go_wp2_with fail
                go_roundg (k - (j + 1))
                case measure => rw [HG.out]; omega
                case rel => exact ⟨j + 1, rfl, by omega, by go_num, HN, B⟩
          · have hik : i = k := by omega
            subst hik
            go_wp2_with fail
            go_ret
            have hnd2 := hnd.out
            rw [List.take_of_length_le (by rw [HLX.out]; exact Nat.le_refl _)] at hnd2
            exact ⟨ret_i (by rw [HK.out, HB.out, if_neg (by simp), if_pos hnd2]), B⟩
theorem take_valsP {c xs : List Nat} {k : Nat} (h : k < xs.length) : (valsP c xs).take (k + 1) = (valsP c xs).take k ++ [pval c xs[k] % 2305843009213693951] := by
  rw [take_succ' (by rw [len_valsP]; exact h)]
  simp [valsP]
set_option maxRecDepth 100000 in
set_option maxHeartbeats 4000000 in
theorem values_r (A A' : Option Addr) (c c' n m : Nat) (a xs : List Nat) (w : World) (ha : Rs w A (us a)) (hb : Rs w A' (us xs)) (hla : a.length = n) (hlb : xs.length = m) (hn : n ≤ 100000) (hm : m ≤ 100000) (hwa : ∀ y ∈ a, y < 18446744073709551616) (hwb : ∀ y ∈ xs, y < 18446744073709551616) :
    Calls Try.prog 52 #[.slice A n c, .slice A' m c'] w (RetL w (valsP a xs)) := by
  have HV := hide (fun x (hx : x < 18446744073709551616) W (h : Rd W w.heap.size A (us a)) => value_r A c _ n x a W h hla (by omega) hwa hx)
  have HT := hide (fun k (h : k < xs.length) => take_valsP (c := a) h)
  have HW := hide hwb
  have HLB := hide hlb
  have HLV := hide (len_valsP a xs)
  have HFULL := hide (show (valsP a xs).take m = valsP a xs by rw [← hlb, ← len_valsP a xs, List.take_length])
  generalize valsP a xs = R at *
  clear hla hlb hwa hwb
  go_enter Try.func52, Try.ntmps52
  go_wp2_with fail
  go_loopg [5, 10] m (fun g v5 v10 wr => ∃ (k : Nat) (A : Option Addr) (c : Nat), g = m - k ∧ k ≤ m ∧ v10 = .int .i64 k ∧ v5 = .slice A k c ∧ wr.ownsRow w.heap.size 22 1 (.slice A k c) k (us (R.take k)) ∧ Below w.heap.size w wr)
  case atStart => exact ⟨0, _, _, rfl, Nat.zero_le _, rfl, rfl, World.ownsRow_nil _ _ _ _, Below.refl _ _⟩
  case round =>
    obtain ⟨k, A1, c1, hg, hk, rfl, rfl, hown, B⟩ := hrel
    have HG := hide hg
    clear hg
    by_cases hlt : k < m
    · have t1 : (k : Int) < (m : Int) := by omega
      have t2 : (0 : Int) ≤ (k : Int) := by omega
      have hkl : k < xs.length := by rw [HLB.out]; exact hlt
      obtain ⟨b, o, rfl, hbb, hc⟩ := (hb.below B).u (k := k) hkl
      have RA : Rd wr w.heap.size A (us a) := ha.below B
      have HTk := hide (HT.out k hkl)
      have HVk := hide (HV.out xs[k] (HW.out _ (List.getElem_mem hkl)))
      generalize pval a xs[k] % 2305843009213693951 = v at *
      generalize xs[k] = x at *
      go_wp2_with (first | ((go_at_call 39); (with_reducible refine (HVk.out _ RA).mono ?_); rintro e w3 ⟨rfl, rfl⟩) | (at_builtin; (refine wp_append1 rfl _ _ _ rfl w.heap.size 22 _ (.int .u64 0) 8 Try.underlying36 Try.infoU64' rfl _ _ _ _ rfl hown _ rfl rfl (by omega) (by omega) B.size ?_)))
      intro A2 c2 w4 hown2 hb2
      go_wp2_with fail
      go_roundg (m - (k + 1))
      case measure => rw [HG.out]; omega
      case rel => exact ⟨k + 1, A2, c2, rfl, by omega, by go_num, rfl, by rw [HTk.out, us_append]; exact hown2, B.trans hb2⟩
    · have hkm : k = m := by omega
      subst hkm
      go_wp2_with fail
      go_ret
      rw [HFULL.out] at hown
      exact ⟨A1, c1, by rw [HLV.out, HLB.out]; rfl, Rs.of_own hown, B⟩
theorem below_r (A : Option Addr) (c B n : Nat) (l : List Nat) (w : World) (hr : Rd w B A (us l)) (hl : l.length = n) (hn : n ≤ 17592186043904) :
    Calls Try.prog 51 #[.slice A n c] w fun e w' => e = .returned (.bool (!l.any badP)) ∧ w = w' := by
  have HL := hide hl
  clear hl
  generalize hbb : l.any badP = bad at *
  have HB := hide hbb
  clear hbb
  go_enter Try.func51, Try.ntmps51
  go_wp2_with fail
  go_loop [7] (fun i => ∃ k : Nat, k ≤ n ∧ i = .int .i64 k ∧ Hid (∀ j (h : j < l.length), j < k → badP l[j] = false)) (fun i => n - (intOf i).toNat)
  case atStart => exact ⟨0, Nat.zero_le _, rfl, fun j _ h => absurd h (by omega)⟩
  case round =>
    obtain ⟨k, hk, rfl, hall⟩ := hrel
    by_cases hlt : k < n
    · have t1 : (k : Int) < (n : Int) := by omega
      have t2 : (0 : Int) ≤ (k : Int) := by omega
      have hkl : k < l.length := by rw [HL.out]; exact hlt
      obtain ⟨b, o, rfl, hb, hc⟩ := hr.u hkl
      by_cases hbad : 2305843009213693951 ≤ l[k]
      · have HN := hide (any_take hkl (badP_yes hbad))
        have u1 : (2305843009213693951 : Int) ≤ (l[k] : Nat) := by omega
        clear hbad
        generalize l[k] = y at *
        go_wp2_with fail
        go_ret
        exact ⟨ret_b (by rw [← HB.out, HN.out]; rfl), rfl⟩
      · have HN := hide (badP_no (Nat.lt_of_not_le hbad))
        have u1 : ¬ (2305843009213693951 : Int) ≤ (l[k] : Nat) := by omega
        clear hbad
        generalize hy : l[k] = y at *
        have HY := hide hy
        clear hy
        go_wp2_with fail
        go_round
        case rel => exact ⟨k + 1, by omega, by go_num, hide fun j h hj => by
                      by_cases e : j = k
                      · subst e; rw [HY.out]; exact HN.out
                      · exact hall.out j h (by omega)⟩
        case measure => simp [intOf]; omega
    · have hkn : k = n := by omega
      go_wp2_with fail
      go_ret
      exact ⟨ret_b (by rw [← HB.out, any_none fun j hj => hall.out j hj (by rw [hkn, ← HL.out]; exact hj)]; rfl), rfl⟩
theorem all_of_any {l : List Nat} (h : l.any badP = false) : ∀ y ∈ l, y < 2305843009213693951 := fun y hy => by
  have := List.any_eq_false.1 h y hy
  unfold badP at this
  simpa using this
theorem any_of_all {l : List Nat} (h : ∀ y ∈ l, y < 2305843009213693951) : l.any badP = false := by
  refine List.any_eq_false.2 fun y hy => ?_
  have := h y hy
  unfold badP
  simpa using this
theorem thZ_lt64 (xs : List Nat) (k : Nat) : ∀ y ∈ thZ xs k, y < 18446744073709551616 := fun y hy => Nat.lt_trans (lt_thZ xs k y hy) (by omega)
theorem two_lt {m : Nat} (hm : m < 18446744073709551616) : ∀ y ∈ ([m, 1] : List Nat), y < 18446744073709551616 := fun y hy => by
  rcases List.mem_cons.1 hy with h | h
  · omega
  · rw [List.mem_singleton.1 h]; omega
theorem negP_lt (x : Nat) : negP x < 18446744073709551616 := lt_modP _
set_option maxRecDepth 100000 in
set_option maxHeartbeats 4000000 in
theorem vanish_r (A : Option Addr) (c m : Nat) (xs : List Nat) (w : World) (hb : Rs w A (us xs)) (hlb : xs.length = m) (hm : m ≤ 10000) (hwb : ∀ y ∈ xs, y < 18446744073709551616) :
    Calls Try.prog 56 #[.slice A m c] w (RetL w (thZ xs m)) := by
  have HN := hide (fun k W => minus_r (xs.getD k 0) (getD_lt hwb k) W)
  have HM := hide (fun k (hk : k < m) A A' c c' n (hn : (thZ xs k).length = n) W h h' => mulq_r A A' c c' n 2 (thZ xs k) [negP (xs.getD k 0), 1] W h h' hn rfl (by have := len_thZ xs k; omega) (by omega) (thZ_lt64 xs k) (two_lt (negP_lt _)))
  have HZ := hide (fun k => show mulP (thZ xs k) [negP (xs.getD k 0), 1] = thZ xs (k + 1) from rfl)
  have HGD := hide (fun k (h : k < xs.length) => getD_in (l := xs) h)
  have HLB := hide hlb
  have h0 : thZ xs 0 = [1] := rfl
  generalize thZ xs = R at *
  have HH0 := hide h0
  clear hlb hwb h0
  go_enter Try.func56, Try.ntmps56
  go_wp2_with fail
  go_loopg [3, 9] m (fun g v3 v9 wr => ∃ (k n : Nat) (A : Option Addr) (c : Nat), g = m - k ∧ k ≤ m ∧ v9 = .int .i64 k ∧ v3 = .slice A n c ∧ Hid ((R k).length = n) ∧ Rs wr A (us (R k)) ∧ Below w.heap.size w wr)
  case atStart => exact ⟨0, 1, _, _, rfl, Nat.zero_le _, rfl, rfl, by rw [HH0.out]; exact rfl, by rw [HH0.out]; exact Rs.new1 w 1 _, (Below.refl _ _).alloc (Nat.le_refl _) _⟩
  case round =>
    obtain ⟨k, n, A1, c1, hg, hk, rfl, rfl, hn, hrd, B⟩ := hrel
    have HG := hide hg
    clear hg
    by_cases hlt : k < m
    · have t1 : (k : Int) < (m : Int) := by omega
      have t2 : (0 : Int) ≤ (k : Int) := by omega
      have hkl : k < xs.length := by rw [HLB.out]; exact hlt
      obtain ⟨b, o, rfl, hbb, hc⟩ := (Rd.below hb B).u (k := k) hkl
      have HNk := hide (HN.out k)
      have HMk := hide (HM.out k hlt)
      rw [HZ.out k] at HMk
      have hgd := HGD.out k hkl
      rw [← hgd] at hc
      clear hgd
      generalize negP (xs.getD k 0) = y at *
      generalize xs.getD k 0 = x at *
      go_wp2_with fail
      refine (HNk.out _).mono ?_
      rintro e w1 ⟨rfl, rfl⟩
      go_wp2_with fail
      have RM := fun t => Rs.new2 wr y 1 t
      refine (HMk.out _ _ _ _ _ hn.out _ (hrd.alloc _) (RM _)).mono ?_
      rintro e w2 ⟨A2, c2, rfl, r2, hb2⟩
      have B2 : Below w.heap.size w w2 := below_call (B.alloc B.size _) (Nat.le_refl _) hb2
      clear hb2 B RM hc
      go_wp2_with fail
      go_roundg (m - (k + 1))
      case measure => rw [HG.out]; omega
      case rel => exact ⟨k + 1, _, A2, c2, rfl, by omega, by go_num, rfl, hide rfl, r2, B2⟩
    · have hkm : k = m := by omega
      subst hkm
      go_wp2_with fail
      go_ret
      exact ⟨A1, c1, by rw [hn.out]; rfl, hrd, B⟩
end Go.Proofs.Ytbgppkgcdmpajaa
