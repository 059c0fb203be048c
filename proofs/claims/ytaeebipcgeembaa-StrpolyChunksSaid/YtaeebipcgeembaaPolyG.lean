/-
  Walks of chapter 18's reference: Trim, Add, Mul. Conditions: slices no longer than the form lets them be.
-/
import Derived.Test.YtaeebipcgeembaaPolyE
namespace Go.Proofs.Ytaeebipcgeembaa
open Go.RowKit Go.Shelf
set_option linter.unusedVariables false

theorem take_succ' {L : List Nat} {k : Nat} (h : k < L.length) : L.take (k + 1) = L.take k ++ [L[k]] := List.take_succ_eq_append_getElem h
theorem nzc_step (L : List Nat) (i : Nat) : nzc L (i + 1) = if L.getD i 0 ≠ 0 then i + 1 else nzc L i := rfl
set_option maxRecDepth 100000 in
set_option maxHeartbeats 4000000 in
theorem trim_r (A : Option Addr) (c n : Nat) (l : List Nat) (w : World) (hr : Rs w A (us l)) (hl : l.length = n) (hn : n ≤ 1000000) (hw : ∀ x ∈ l, x < 18446744073709551616) :
    Calls Try.prog 54 #[.slice A n c] w (RetL w (trimZ (l.map (· % 2305843009213693951)))) := by
  have HW := hide hw
  clear hw
  have hml : ∀ k (h : k < l.length), (l.map (· % 2305843009213693951)).getD k 0 = l[k] % 2305843009213693951 := fun k h => by simp [List.getD, h]
  have hll : (l.map (· % 2305843009213693951)).length = n := by simpa using hl
  have hex : ∀ k (h : k < l.length), (l.map (· % 2305843009213693951)).take (k + 1) = (l.map (· % 2305843009213693951)).take k ++ [l[k] % 2305843009213693951] := fun k h => by
    rw [take_succ' (by simpa using h), List.getElem_map]
  generalize l.map (· % 2305843009213693951) = L at *
  have HML := hide hml; have HLL := hide hll; have HEX := hide hex; have HL := hide hl
  clear hml hll hex hl
  go_enter Try.func54, Try.ntmps54
  go_wp2_with fail
  go_loopg [3, 8] n (fun g v3 v8 wr => ∃ (i : Nat) (A : Option Addr) (c : Nat), g = n - i ∧ i ≤ n ∧ v8 = .int .i64 i ∧ v3 = .slice A (nzc L i) c ∧ wr.ownsRow w.heap.size 22 1 (.slice A (nzc L i) c) (nzc L i) (us (L.take (nzc L i))) ∧ Below w.heap.size w wr)
  case atStart => exact ⟨0, _, _, rfl, Nat.zero_le _, rfl, rfl, World.ownsRow_nil _ _ _ _, Below.refl _ _⟩
  case round =>
    obtain ⟨i, A1, c1, hg, hi, rfl, rfl, hown, B⟩ := hrel
    have HG := hide hg
    clear hg
    by_cases hlt : i < n
    · have t1 : (i : Int) < (n : Int) := by omega
      have t2 : (0 : Int) ≤ (i : Int) := by omega
      have hil : i < l.length := by rw [HL.out]; exact hlt
      obtain ⟨b, o, rfl, hbb, hc⟩ := (hr.below B).u (k := i) hil
      have hstep := nzc_step L i
      rw [HML.out i hil] at hstep
      have hle := nzc_le L i
      by_cases hz : l[i] % 2305843009213693951 = 0
      · rw [if_neg (by omega)] at hstep
        have HS := hide hstep
        have HZ := hide (show (((l[i] : Nat) : Int) % 2305843009213693951 != 0) = false by simp; omega)
        have hz1 := HZ.out
        clear hstep hz
        generalize l[i] = x at *
        go_wp2_with fail
        go_roundg (n - (i + 1))
        case measure => rw [HG.out]; omega
        case rel => exact ⟨i + 1, A1, c1, rfl, by omega, by go_num, by rw [HS.out], by rw [HS.out]; exact hown, B⟩
      · rw [if_pos hz] at hstep
        have HS := hide hstep
        have hz1 : (((l[i] : Nat) : Int) % 2305843009213693951 != 0) = true := by simp; omega
        clear hstep hz
        generalize l[i] = x at *
        go_wp2_with fail
        have HBR := hide hr
        go_loopg [3] (i + 1 - nzc L i) (fun g v3 wr => ∃ (k : Nat) (A : Option Addr) (c : Nat), g = i + 1 - k ∧ k ≤ i + 1 ∧ v3 = .slice A k c ∧ wr.ownsRow w.heap.size 22 1 (.slice A k c) k (us (L.take k)) ∧ Below w.heap.size w wr)
        case atStart => exact ⟨_, A1, c1, rfl, by omega, rfl, hown, B⟩
        case round =>
          clear hown B hc
          obtain ⟨k, A2, c2, hg, hk, rfl, hown, B⟩ := hrel
          have HG2 := hide hg
          clear hg
          by_cases hki : k ≤ i
          · have t3 : (k : Int) ≤ (i : Int) := by omega
            have t4 : (0 : Int) ≤ (k : Int) := by omega
            have t5 : (k : Int) < (n : Int) := by omega
            have hkl : k < l.length := by rw [HL.out]; omega
            obtain ⟨b3, o3, hA3, hbb3, hc3⟩ := (hr.below B).u (k := k) hkl
            obtain ⟨rfl, rfl⟩ : b = b3 ∧ o = o3 := by simpa using hA3
            have hex := HEX.out k hkl
            have HEXk := hide hex
            clear hex hA3
            generalize l[k] = y at *
            go_wp2_with (at_builtin; (refine wp_append1 rfl _ _ _ rfl w.heap.size 22 _ (.int .u64 0) 8 Try.underlying33 Try.infoU64' rfl _ _ _ _ rfl hown _ rfl rfl (by omega) (by omega) B.size ?_))
            intro A' c' w' hown' hb'
            go_wp2_with fail
            go_roundg (i + 1 - (k + 1))
            case measure => rw [HG2.out]; omega
            case rel => exact ⟨k + 1, A', c', rfl, by omega, rfl, by rw [HEXk.out, us_append]; exact hown', B.trans hb'⟩
          · have hki2 : k = i + 1 := by omega
            subst hki2
            go_wp2_with fail
            go_roundg (n - (i + 1))
            case measure => rw [HG.out]; omega
            case rel => exact ⟨i + 1, A2, c2, rfl, by omega, by go_num, by rw [HS.out], by rw [HS.out]; exact hown, B⟩
    · have hin : i = n := by omega
      subst hin
      have hle := nzc_le L i
      have hq : trimZ L = L.take (nzc L i) := by rw [trimZ, HLL.out]
      have hlen : (trimZ L).length = nzc L i := by rw [trimZ_len, HLL.out]
      go_wp2_with fail
      go_ret
      exact ⟨A1, c1, by rw [hlen]; rfl, by rw [hq]; exact Rs.of_own hown, B⟩
theorem len_addL (a b : List Nat) : (addL a b).length = max a.length b.length := by simp [addL]
theorem lt_addL (a b : List Nat) : ∀ y ∈ addL a b, y < 2305843009213693951 := fun y hy => by
  obtain ⟨i, _, rfl⟩ := List.mem_map.1 hy
  exact Nat.mod_lt _ (by omega)
set_option maxRecDepth 100000 in
set_option maxHeartbeats 4000000 in
theorem addq_r (A A' : Option Addr) (c c' n m : Nat) (a b : List Nat) (w : World) (ha : Rs w A (us a)) (hb : Rs w A' (us b)) (hla : a.length = n) (hlb : b.length = m) (hn : n ≤ 100000) (hm : m ≤ 100000) (hwa : ∀ y ∈ a, y < 18446744073709551616) (hwb : ∀ y ∈ b, y < 18446744073709551616) :
    Calls Try.prog 39 #[.slice A n c, .slice A' m c'] w (RetL w (addP a b)) := by
  obtain ⟨N, hN⟩ : ∃ N, N = max n m := ⟨_, rfl⟩
  have hN3 : N ≤ 100000 := by omega
  have hlen : (addL a b).length = N := by rw [len_addL, hla, hlb, hN]
  have hP : ∀ k W, Calls Try.prog 28 #[.int .u64 (a.getD k 0 : Nat), .int .u64 (b.getD k 0 : Nat), .int .u64 2305843009213693951] W fun e w' => e = .returned (.int .u64 ((a.getD k 0 + b.getD k 0) % 2305843009213693951 : Nat)) ∧ W = w' := fun k W => addP_r _ _ (getD_lt hwa k) (getD_lt hwb k) W
  have hex : ∀ k (h : k < N), (addL a b).take (k + 1) = (addL a b).take k ++ [(a.getD k 0 + b.getD k 0) % 2305843009213693951] := fun k h => by
    rw [take_succ' (by rw [hlen]; exact h)]
    simp [addL]
  have hpd : addP a b = trimZ ((addL a b).map (· % 2305843009213693951)) := by rw [map_mod _ (lt_addL a b), addP]
  have htr := fun A c w h => trim_r A c N (addL a b) w h hlen (by omega) (fun y hy => Nat.lt_trans (lt_addL a b y hy) (by omega))
  rw [← hpd] at htr
  have HTR := hide htr; have HP := hide hP; have HEX := hide hex
  have hfull : (addL a b).take N = addL a b := by rw [← hlen, List.take_length]
  have HFULL := hide hfull
  have HGA := hide (fun k (hk : k ≤ 1000000) W (h : Rd W w.heap.size A (us a)) => at_r A c _ n k a W h hla (by omega) hk)
  have HGB := hide (fun k (hk : k ≤ 1000000) W (h : Rd W w.heap.size A' (us b)) => at_r A' c' _ m k b W h hlb (by omega) hk)
  generalize addP a b = R at *
  generalize addL a b = L at *
  have HN := hide hN
  have n1 : n ≤ N := by omega
  have n2 : m ≤ N := by omega
  clear hP hex hpd htr hlen hla hlb hwa hwb hN hfull
  go_enter Try.func39, Try.ntmps39
  go_wp2_with fail
  go_loopg [5, 6] N (fun g v5 v6 wr => ∃ (k : Nat) (A : Option Addr) (c : Nat), g = N - k ∧ k ≤ N ∧ v6 = .int .i64 k ∧ v5 = .slice A k c ∧ wr.ownsRow w.heap.size 22 1 (.slice A k c) k (us (L.take k)) ∧ Below w.heap.size w wr)
  case atStart => exact ⟨0, _, _, rfl, Nat.zero_le _, rfl, rfl, World.ownsRow_nil _ _ _ _, Below.refl _ _⟩
  case round =>
    obtain ⟨k, A1, c1, hg, hk, rfl, rfl, hown, B⟩ := hrel
    have HG := hide hg
    clear hg
    have u0 : (0 : Int) ≤ (k : Int) := by omega
    by_cases hlt : k < N
    · have hcase : (k : Int) < (n : Int) ∨ (¬ (k : Int) < (n : Int) ∧ (k : Int) < (m : Int)) := by have := HN.out; omega
      have GA := hide (fun W h => HGA.out k (by omega) W h)
      have GB := hide (fun W h => HGB.out k (by omega) W h)
      have HPk := hide (HP.out k)
      have HEXk := hide (HEX.out k hlt)
      have RA : Rd wr w.heap.size A (us a) := ha.below B
      have RB : Rd wr w.heap.size A' (us b) := hb.below B
      generalize (a.getD k 0 + b.getD k 0) % 2305843009213693951 = v at *
      generalize a.getD k 0 = x at *
      generalize b.getD k 0 = y at *
      rcases hcase with t3 | ⟨t3, t4⟩
      all_goals
        go_wp2_with (first | ((first | (go_at_call 53; (with_reducible refine (GA.out _ RA).mono ?_)) | (go_at_call 53; (with_reducible refine (GB.out _ RB).mono ?_)) | (go_at_call 28; (with_reducible refine (HPk.out _).mono ?_))); rintro e w3 ⟨rfl, rfl⟩) | (at_builtin; (refine wp_append1 rfl _ _ _ rfl w.heap.size 22 _ (.int .u64 0) 8 Try.underlying33 Try.infoU64' rfl _ _ _ _ rfl hown _ rfl rfl (by omega) (by omega) B.size ?_)))
        intro A2 c2 w2 hown2 hb2
        go_wp2_with fail
        go_roundg (N - (k + 1))
        case measure => rw [HG.out]; omega
        case rel => exact ⟨k + 1, A2, c2, rfl, by omega, by go_num, rfl, by rw [HEXk.out, us_append]; exact hown2, B.trans hb2⟩
    · have hkn : k = N := by omega
      subst hkn
      have t3 : ¬ (k : Int) < (n : Int) := by omega
      have t4 : ¬ (k : Int) < (m : Int) := by omega
      rw [HFULL.out] at hown
      have HT := hide (HTR.out _ c1 _ (Rs.of_own hown))
      go_wp2_with (go_at_call 54; (with_reducible refine HT.out.mono ?_); rintro e w3 ⟨A3, c3, rfl, hq, hb3⟩)
      go_ret
      exact ⟨A3, c3, rfl, hq, below_call B (Nat.le_refl _) hb3⟩
end Go.Proofs.Ytaeebipcgeembaa
