/-
  Walks of tabs.Shift and of the reference's Targets. Conditions: slices no longer than the form lets them be.
-/
import Derived.Test.YtpkekdgpkalceaaAimH
import Derived.Test.YtpkekdgpkalceaaShfM
import Derived.Deep.RegionWith
namespace Go.Proofs.Ytpkekdgpkalceaa
open Go.RowKit
set_option linter.unusedVariables false

/-- Two own rows of unlike elements lie apart. -/
theorem own_apart {w w' : World} {b1 b2 : Nat} {e1 e2 : TypeId} {v1 v2 : Value} {n1 n2 : Nat} {xs1 xs2 : List Value} (h1 : w.ownsRow b1 e1 1 v1 n1 xs1) (h2 : w.ownsRow b2 e2 1 v2 n2 xs2) (hne : e1 ≠ e2) (hg : w.grownBy w' v2.ownBlock) : w'.ownsRow b1 e1 1 v1 n1 xs1 := by
  refine h1.kept hg ?_
  rcases h1.2 with ⟨rfl, _⟩ | ⟨g, cap, cur, rfl, _, hh, _⟩
  · exact .inl rfl
  · refine .inr fun he => ?_
    rcases h2.2 with ⟨rfl, _⟩ | ⟨g2, cap2, cur2, rfl, _, hh2, _⟩
    · cases he
    · have : g = g2 := by injection he
      subst this
      rw [hh] at hh2
      injection hh2 with hh2
      injection hh2 with _ hh2
      exact hne hh2
theorem wp_append1g {P : Program} {ops : Array Oper} {rest : List Oper} {o : Oper} {a : Act} {w : World} {Q : Exit → Act → World → Prop} (hgd : o.guard = none) (s x : Operand) (t : TypeId)
    (ho : o.op = .call { callee := .builtin .append, args := #[s, x], argTypes := #[t, t] })
    (base : Nat) (e e' : TypeId) (z : Value) (bytes : Nat) (ht : P.underlying t = some (.slice e)) (hinf : (P.info? e).map (fun i => (i.zero, i.size, i.bytes)) = some (some z, 1, bytes)) (hzs : z.cells.size = 1)
    (A : Option Addr) (n c : Nat) (xs : List Value) (hs : a.eval s = .slice A n c) (hown : w.ownsRow base e 1 (.slice A n c) n xs)
    (u : Value) (hx : a.eval x = .slice (some ⟨w.heap.size, 0, none⟩) 1 1) (h1 : u.oneCell' = true)
    (hbytes : (n + 1) * bytes ≤ 140737488355328) (hlen : n + 1 ≤ 140737488355328) (hbase : base ≤ w.heap.size)
    (h : ∀ A' c' w', w'.ownsRow base e 1 (.slice A' (n + 1) c') (n + 1) (xs ++ [u]) → Below base w w' → (w.alloc (.cells #[u] e')).grownBy w' (Value.slice A n c).ownBlock → wpList P ops Q rest (a.put o.dst (.slice A' (n + 1) c')) w') : wpList P ops Q (o :: rest) a (w.alloc (.cells #[u] e')) := by
  obtain ⟨i, hi, hz, hsz, hby⟩ := info_parts hinf
  refine wpList_append_own _ hgd s x t ho base e i z 1 bytes ht hi hz hsz hby hzs (by omega) _ n xs hs (hown.alloc _) ⟨w.heap.size, 0, none⟩ 1 1 [u] hx rfl ?_ ?_ (by unfold maxLen; omega) hbytes (by simp; omega) ?_
  · intro j v hj
    match j, hj with
    | 0, hj => simp at hj; subst hj; simp [Addr.add]
  · intro v hv; simp at hv; subst hv; exact h1
  · intro v' w' hown' hgr _
    obtain ⟨A', c', rfl, _⟩ := own_slice hown'
    exact h A' c' w' hown' (((Below.refl base w).alloc hbase _).grown hgr (by simp; omega) fun k hk => (hown.lt k hk).1) hgr
theorem Try.infoRow : (Try.prog.info? 29).map (fun i => (i.zero, i.size, i.bytes)) = some (some (.slice none 0 0), 1, 24) := by kernel_rfl

set_option maxHeartbeats 8000000 in
theorem targets_ref (A A' : Option Addr) (c c' n m : Nat) (xs ys : List Nat) (b : Int) (w : World) (hx : Rs w A (us xs)) (hy : Rs w A' (us ys)) (hn : xs.length = n) (hm : ys.length = m) (hl : n ≤ 17592186043904) (hl2 : m ≤ 17592186043904)
    (hxw : ∀ x ∈ xs, x < 18446744073709551616) (hyw : ∀ x ∈ ys, x < 18446744073709551616) (hb1 : 1 ≤ b) (hb2 : b ≤ 64) :
    Calls Try.prog 15 #[.int .i64 b, .slice A n c, .slice A' m c'] w fun e w' => e = .returned (.int .i64 (targE b xs ys)) ∧ Below w.heap.size w w' := by
  have HX := hide hxw
  have HY := hide hyw
  have HN := hide hn
  have HM := hide hm
  have hb0 := Below.refl w.heap.size w
  clear hxw hyw hn hm
  by_cases hbad : n < 1 ∨ 3 < n ∨ n ≠ m
  · have hE := hide (show targE b xs ys = 1 from by unfold targE; rw [if_pos (by rw [HN.out, HM.out]; omega)])
    have h3 : (n : Int) < 1 ∨ ((1 : Int) ≤ (n : Int) ∧ (3 : Int) < (n : Int)) ∨ ((1 : Int) ≤ (n : Int) ∧ (n : Int) ≤ 3 ∧ (n : Int) ≠ (m : Int)) := by omega
    clear hbad
    rcases h3 with t1 | ⟨t1, t2⟩ | ⟨t1, t2, t3⟩
    · go_enter Try.func15, Try.ntmps15
      go_wp2_with fail
      go_ret
      exact ⟨ret_i hE.out.symm, hb0⟩
    · go_enter Try.func15, Try.ntmps15
      go_wp2_with fail
      go_ret
      exact ⟨ret_i hE.out.symm, hb0⟩
    · have t4 : ((n : Int) != (m : Int)) = true := by rw [bne_iff_ne]; exact t3
      clear t3
      go_enter Try.func15, Try.ntmps15
      go_wp2_with fail
      go_ret
      exact ⟨ret_i hE.out.symm, hb0⟩
  · have hnm : m = n := by omega
    have t1 : (1 : Int) ≤ (n : Int) := by omega
    have t2 : (n : Int) ≤ 3 := by omega
    subst hnm
    have HQ := hide (show 1 ≤ xs.length ∧ xs.length ≤ 3 ∧ xs.length = ys.length from by rw [HN.out, HM.out]; omega)
    clear hbad
    go_enter Try.func15, Try.ntmps15
    go_wp2_with fail
    go_loopw [27] (fun i wr => ∃ k : Nat, k ≤ m ∧ i = .int .i64 k ∧ Below w.heap.size w wr ∧ Hid (∀ j, j < k → tbad b xs ys j = false)) (fun i _ => m - (intOf i).toNat)
    case atStart => exact ⟨0, Nat.zero_le _, rfl, hb0, hide fun j h => absurd h (by omega)⟩
    case round =>
      obtain ⟨k, hk, rfl, hbr, hall⟩ := hrel
      by_cases hlt : k < m
      · obtain ⟨b3, o3, rfl, hbl3, hc3⟩ := (Rd.below hx hbr).u2 (k := k) (by rw [HN.out]; exact hlt)
        obtain ⟨b4, o4, rfl, hbl4, hc4⟩ := (Rd.below hy hbr).u2 (k := k) (by rw [HM.out]; exact hlt)
        have t6 : (0 : Int) ≤ (k : Int) := by omega
        have t7 : (k : Int) < (m : Int) := by omega
        have hx1 := getD_lt xs HX.out k
        have hy1 := getD_lt ys HY.out k
        have hkn : k < xs.length := by rw [HN.out]; exact hlt
        have HBAD := hide (fun (h : tbad b xs ys k = true) => targ_bad HQ.out.1 HQ.out.2.1 HQ.out.2.2 k hkn h)
        have HT := hide (show tbad b xs ys k = decide (4294967296 ≤ xs.getD k 0 ∨ lowV (ys.getD k 0) b ≠ ys.getD k 0) from rfl)
        have HNx := hide (show tbad b xs ys k = false → ∀ j, j < k + 1 → tbad b xs ys j = false from fun h j hj => by
          by_cases e : j = k
          · subst e; exact h
          · exact hall.out j (by omega))
        have C := hide (fun W => low_ref (ys.getD k 0) b W hy1 hb1 hb2)
        clear hkn
        generalize tbad b xs ys k = tb at *
        generalize xs.getD k 0 = x at *
        generalize ys.getD k 0 = y at *
        generalize lowV y b = ly at *
        by_cases hbx : 4294967296 ≤ x
        · have t8 : (4294967296 : Int) ≤ (x : Int) := by omega
          have HE := hide (HBAD.out (by rw [HT.out]; exact decide_eq_true (.inl hbx)))
          clear HBAD HT HNx hbx hc4
          go_wp2_with fail
          go_quiet (fail)
          go_wp2_with fail
          go_ret
          exact ⟨ret_i HE.out.symm, by first | exact hbr | exact hbr.drew | exact below_drewN hbr _⟩
        · have t8 : ¬ (4294967296 : Int) ≤ (x : Int) := by omega
          have t88 : decide ((4294967296 : Int) ≤ (x : Int)) = false := decide_eq_false t8
          by_cases hly : ly = y
          · have t9 : ((ly : Int) != (y : Int)) = false := by rw [hly]; simp
            have HE := hide (HNx.out (by rw [HT.out]; exact decide_eq_false (by rintro (h | h); omega; exact h hly)))
            clear HBAD HT HNx hbx hly
            go_wp2_with fail
            go_region_held3 (fun v => v.cell? ⟨b3, o3 + k, none⟩ = some (.int .u64 (x : Nat)) ∧ v.cell? ⟨b4, o4 + k, none⟩ = some (.int .u64 (y : Nat))) (exact ⟨hc3, hc4⟩) ((go_at_call 36; (with_reducible refine (C.out _).mono ?_); rintro e w5 ⟨rfl, rfl⟩))
            all_goals
              go_wp2_with fail
              go_roundw
              case rel => exact ⟨k + 1, by omega, by go_num, by first | exact hbr.drew | exact hbr, hide HE.out⟩
              case measure => simp [intOf]; omega
          · have t9 : ((ly : Int) != (y : Int)) = true := by rw [bne_iff_ne]; omega
            have HE := hide (HBAD.out (by rw [HT.out]; exact decide_eq_true (.inr hly)))
            clear HBAD HT HNx hbx hly
            go_wp2_with fail
            go_region_held3 (fun v => v.cell? ⟨b3, o3 + k, none⟩ = some (.int .u64 (x : Nat)) ∧ v.cell? ⟨b4, o4 + k, none⟩ = some (.int .u64 (y : Nat))) (exact ⟨hc3, hc4⟩) ((go_at_call 36; (with_reducible refine (C.out _).mono ?_); rintro e w5 ⟨rfl, rfl⟩))
            all_goals
              go_wp2_with fail
              go_ret
              exact ⟨ret_i HE.out.symm, by first | exact hbr.drew | exact hbr⟩
      · have hkm : k = m := by omega
        subst hkm
        have HE := hide (targ_ok HQ.out.1 HQ.out.2.1 HQ.out.2.2 (by rw [HN.out]; exact hall.out))
        clear hall hlt
        go_wp2_with fail
        go_loopw [51] (fun i wr => ∃ q : Nat, q ≤ k ∧ i = .int .i64 q ∧ Below w.heap.size w wr ∧ Hid (∀ a j, a < q → j < a → xs.getD j 0 ≠ xs.getD a 0)) (fun i _ => k - (intOf i).toNat)
        case atStart => exact ⟨0, Nat.zero_le _, rfl, hbr, hide fun a j h => absurd h (by omega)⟩
        case round =>
          clear hbr
          obtain ⟨q, hq, rfl, hbr, hall⟩ := hrel
          by_cases hlt : q < k
          · go_wp2_with fail
            go_loopw [9] (fun i wr => ∃ j : Nat, j ≤ q ∧ i = .int .i64 j ∧ Below w.heap.size w wr ∧ Hid (∀ a, a < j → xs.getD a 0 ≠ xs.getD q 0)) (fun i _ => q - (intOf i).toNat)
            case atStart => exact ⟨0, Nat.zero_le _, rfl, hbr, hide fun a h => absurd h (by omega)⟩
            case round =>
              clear hbr
              obtain ⟨j, hj, rfl, hbr, hin⟩ := hrel
              by_cases hjl : j < q
              · obtain ⟨b3, o3, rfl, hbl3, hc3⟩ := (Rd.below hx hbr).u2 (k := j) (by rw [HN.out]; omega)
                obtain ⟨b4, o4, e4, hbl4, hc4⟩ := (Rd.below hx hbr).u2 (k := q) (by rw [HN.out]; omega)
                injection e4 with e4
                injection e4 with e41 e42
                subst e41 e42
                have t6 : (0 : Int) ≤ (j : Int) := by omega
                have t7 : (j : Int) < (k : Int) := by omega
                have t8 : (0 : Int) ≤ (q : Int) := by omega
                have t9 : (q : Int) < (k : Int) := by omega
                by_cases heq : xs.getD j 0 = xs.getD q 0
                · have t10 : (((xs.getD j 0 : Nat) : Int) == ((xs.getD q 0 : Nat) : Int)) = true := by rw [heq]; simp
                  have HE3 := hide (show targE b xs ys = 15 from by rw [HE.out, twice_yes xs q j (by rw [HN.out]; omega) hjl heq]; rfl)
                  clear heq
                  generalize xs.getD j 0 = x at *
                  generalize xs.getD q 0 = y at *
                  go_wp2_with fail
                  go_quiet (fail)
                  go_wp2_with fail
                  go_ret
                  exact ⟨ret_i HE3.out.symm, below_drewN hbr _⟩
                · have t10 : (((xs.getD j 0 : Nat) : Int) == ((xs.getD q 0 : Nat) : Int)) = false := by rw [beq_eq_false_iff_ne]; omega
                  have HE3 := hide (show ∀ a, a < j + 1 → xs.getD a 0 ≠ xs.getD q 0 from fun a ha => by
                    by_cases e : a = j
                    · subst e; exact heq
                    · exact hin.out a (by omega))
                  clear heq
                  generalize hx9 : xs.getD j 0 = x at *
                  generalize hy9 : xs.getD q 0 = y at *
                  have HX9 := hide hx9
                  have HY9 := hide hy9
                  clear hx9 hy9
                  go_wp2_with fail
                  go_quiet (fail)
                  go_wp2_with fail
                  go_roundw
                  case rel => exact ⟨j + 1, by omega, by go_num, below_drewN hbr _, hide (by first | exact HE3.out | (rw [HY9.out]; exact HE3.out) | (rw [← HY9.out] at HE3; exact HE3.out))⟩
                  case measure => simp [intOf]; omega
              · have hjq : j = q := by omega
                subst hjq
                go_wp2_with fail
                go_roundw
                case rel => exact ⟨j + 1, by omega, by go_num, hbr, hide fun a i ha hi => by
                              by_cases e : a = j
                              · subst e; exact hin.out i hi
                              · exact hall.out a i (by omega) hi⟩
                case measure => simp [intOf]; omega
          · have hqk : q = k := by omega
            subst hqk
            have HE3 := hide (show targE b xs ys = 0 from by rw [HE.out, twice_no xs (by rw [HN.out]; exact fun i k hi hk => hall.out i k hi hk)]; rfl)
            go_wp2_with fail
            go_ret
            exact ⟨ret_i HE3.out.symm, hbr⟩
end Go.Proofs.Ytpkekdgpkalceaa
