/-
  strpoly.Bytes. Conditions: words, no more than 50.
-/
import Derived.Test.YtaeebipcgeembaaStrI
namespace Go.Proofs.Ytaeebipcgeembaa
open Go.RowKit
set_option linter.unusedVariables false

theorem by8_take (l : List Nat) (k : Nat) : (by8 l).take k = by8 (l.take k) := by simp [by8]
theorem one_by8 (xs : List Nat) : ∀ u ∈ by8 xs, u.oneCell' = true := by
  intro u hu
  obtain ⟨x, _, rfl⟩ := List.mem_map.1 hu
  rfl
theorem bytesN_at (x : Nat) {k : Nat} (h : k < 8) : (by8 (bytesN x 8))[k]? = some (.int .u8 (x / 256 ^ k % 256 : Nat)) := by
  simp [by8, bytesN, h]
theorem put64_g (x : Nat) (w : World) :
    Calls Try.prog 32 #[.slice none 0 0, .int .u64 x] w fun e w' => ∃ g c, e = .returned (.slice (some ⟨g, 0, none⟩) 8 c) ∧ 8 ≤ c ∧ Rs w' (some ⟨g, 0, none⟩) (by8 (bytesN x 8)) ∧ Below w.heap.size w w' := by
  refine (put64_f x w).mono ?_
  rintro e w' ⟨A, c, rfl, ho, hb⟩
  obtain ⟨g, rfl, hg1, hg2⟩ := own_addr2 ho (by omega)
  obtain ⟨A9, c9, h9, h8, _⟩ := own_slice ho
  have hcc : c = c9 := by injection h9
  exact ⟨g, c, rfl, by omega, Rs.of_own ho, hb⟩
set_option maxRecDepth 100000 in
set_option maxHeartbeats 8000000 in
theorem Bytes_f (A : Option Addr) (n c : Nat) (l : List Nat) (w : World) (hl : l.length = n) (hn : n ≤ 50) (hr : Rs w A (us l)) :
    Calls Try.prog 15 #[.slice A n c] w fun e w' => ∃ (D : Option Addr) (d cd : Nat) (b : Bool), e = .returned (.tuple #[.slice D d cd, .bool b]) ∧ Below w.heap.size w w' ∧
      (b = true ∧ chunksN (decN l) = l ∧ d = (decN l).length ∧ d ≤ cd ∧ Rs w' D (by8 (decN l)) ∨ b = false ∧ d = 0 ∧ chunksN (decN l) ≠ l) := by
  have HL := hide hl
  have HMORE := hide (fun k (hk : k < l.length) (h : k + 1 < n) => show decN (l.drop k) = bytesN l[k] 7 ++ decN (l.drop (k + 1)) by
    rw [List.drop_eq_getElem_cons hk, decN_cons]
    intro e
    have := congrArg List.length e
    rw [List.length_drop, hl] at this
    simp at this
    omega)
  have HLAST := hide (fun k (hk : k < l.length) (h : k + 1 = n) => show decN (l.drop k) = bytesN l[k] (topD l[k] 6) by
    rw [List.drop_eq_getElem_cons hk, List.drop_eq_nil_of_le (by omega)]
    rfl)
  have HE := hide (show decN (l.drop n) = [] by rw [List.drop_eq_nil_of_le (by omega)]; rfl)
  have H0 := hide (show decN (l.drop 0) = decN l by simp)
  have hdl := decN_len l
  have HLT := hide (decN_lt l)
  have HR := hide hr
  clear hl
  generalize hDD : decN l = DD at *
  go_enter Try.func15, Try.ntmps15
  go_wp2_with fail
  go_loopg [4, 11] n (fun g v4 v11 wr => ∃ (k j : Nat) (A1 : Option Addr) (c1 : Nat) (pre : List Nat), g = n - k ∧ k ≤ n ∧ v11 = .int .i64 k ∧ v4 = .slice A1 j c1 ∧ wr.ownsRow w.heap.size 5 1 (.slice A1 j c1) j (by8 pre) ∧ Hid (pre.length = j) ∧ j ≤ 8 * k ∧ Hid (pre ++ decN (l.drop k) = DD) ∧ Below w.heap.size w wr)
  case atStart => exact ⟨0, 0, _, _, [], rfl, Nat.zero_le _, rfl, rfl, World.ownsRow_nil _ _ _ _, hide rfl, Nat.le_refl _, hide (by rw [H0.out]; rfl), Below.refl _ _⟩
  case round =>
    obtain ⟨k, j, A1, c1, pre, hg, hk, rfl, rfl, hown, HJ, hj, HC, B⟩ := hrel
    have HG := hide hg
    clear hg
    by_cases hlt : k < n
    · have t1 : (k : Int) < (n : Int) := by omega
      have t2 : (0 : Int) ≤ (k : Int) := by omega
      have hkl : k < l.length := by rw [HL.out]; exact hlt
      obtain ⟨b, o, rfl, hbb, hcx⟩ := (HR.out.below B).u (k := k) hkl
      have e1 : IntKind.i64.wrap ((n : Int) - 1) = (n : Int) - 1 := wrap_i (by omega) (by omega)
      have HM := hide (HMORE.out k hkl)
      have HLA := hide (HLAST.out k hkl)
      generalize l[k] = x at *
      have hPut := hide (put64_g x wr)
      by_cases hmo : k + 1 < n
      · have t3 : (k : Int) < (n : Int) - 1 := by omega
        have HMk := hide (HM.out hmo)
        go_wp2_with (first | (go_at_call 32; (with_reducible refine hPut.out.mono ?_); rintro e w3 ⟨g2, c2, rfl, hc8, RW, hb3⟩; have hown3 := own_carry hown hb3; have B3 : Below w.heap.size w w3 := below_call B (Nat.le_refl _) hb3; have RW7 := rd_take RW 7; rw [bytesN_take x 8 7 (by omega)] at RW7) | (at_builtin; (refine wp_appendN rfl _ _ _ rfl w.heap.size 5 (.int .u8 0) 1 Try.underlying23 infoB rfl _ _ _ _ rfl hown3 _ 7 _ w3.heap.size (by8 (bytesN x 7)) rfl (by rw [len_by8, len_bytesN]) RW7 (one_by8 _) (by omega) (by omega) B3.size ?_)))
        intro A3 c3 w4 hown4 hb4
        rw [← by8_append] at hown4
        go_wp2_with fail
        go_roundg (n - (k + 1))
        case measure => rw [HG.out]; omega
        case rel => exact ⟨k + 1, j + 7, A3, c3, pre ++ bytesN x 7, rfl, by omega, by go_num, rfl, hown4, hide (by rw [List.length_append, HJ.out, len_bytesN]), by omega, hide (by rw [← HC.out, HMk.out, List.append_assoc]), B3.trans hb4⟩
      · have hlast : k + 1 = n := by omega
        have t3 : ¬ (k : Int) < (n : Int) - 1 := by omega
        have HLk := hide (HLA.out hlast)
        have HC2 := hide (show pre ++ bytesN x (topD x 6) = DD by rw [← HC.out, HLk.out])
        have HTL := hide (topD_le x 6)
        obtain ⟨T, hT⟩ : ∃ T, T = topD x 6 := ⟨_, rfl⟩
        have HT := hide hT
        rw [← hT] at HC2 HTL
        clear hT HLk HLA HM
        go_wp2_with (go_at_call 32; (with_reducible refine hPut.out.mono ?_); rintro e w3 ⟨g2, c2, rfl, hc8, RW, hb3⟩; have hown3 := own_carry hown hb3; have B3 : Below w.heap.size w w3 := below_call B (Nat.le_refl _) hb3)
        go_loop [8] (fun v8 => ∃ t : Nat, t ≤ 6 ∧ v8 = .int .i64 t ∧ Hid (topD x t = T)) (fun v8 => (intOf v8).toNat)
        case atStart => exact ⟨6, Nat.le_refl _, rfl, hide HT.out.symm⟩
        case round =>
          obtain ⟨t, ht, rfl, HTD⟩ := hrel
          have RWt := rd_take RW t
          rw [bytesN_take x 8 t (by omega)] at RWt
          have s2 : (0 : Int) ≤ (t : Int) := by omega
          have s3 : (t : Int) ≤ (c2 : Int) := by omega
          have s4 : (t : Int) < 8 := by omega
          have ct : w3.cell? ⟨g2, t, none⟩ = some (.int .u8 (x / 256 ^ t % 256 : Nat)) := by
            obtain ⟨b9, o9, he9, _, h9⟩ := RW (by rw [len_by8, len_bytesN]; omega)
            injection he9 with he9
            injection he9 with e7 e8 e9
            have := h9 t _ (bytesN_at x (by omega))
            rw [← e7, ← e8, Nat.zero_add] at this
            exact this
          by_cases h0 : t = 0
          · have HTT := hide (show pre ++ bytesN x t = DD by rw [← HC2.out, ← HTD.out, h0]; rfl)
            have s1 : ¬ (0 : Int) < (t : Int) := by omega
            clear h0 ct
            go_wp2_with (at_builtin; (refine wp_appendN rfl _ _ _ rfl w.heap.size 5 (.int .u8 0) 1 Try.underlying23 infoB rfl _ _ _ _ rfl hown3 _ t _ w3.heap.size (by8 (bytesN x t)) rfl (by rw [len_by8, len_bytesN]) RWt (one_by8 _) (by omega) (by omega) B3.size ?_))
            intro A3 c3 w4 hown4 hb4
            rw [← by8_append] at hown4
            go_wp2_with fail
            go_roundg (n - (k + 1))
            case measure => rw [HG.out]; omega
            case rel => exact ⟨k + 1, j + t, A3, c3, pre ++ bytesN x t, rfl, by omega, by go_num, rfl, hown4, hide (by rw [List.length_append, HJ.out, len_bytesN]), by omega, hide (by rw [HTT.out, hlast, HE.out, List.append_nil]), B3.trans hb4⟩
          · obtain ⟨u, hu⟩ : ∃ u, t = u + 1 := ⟨t - 1, by omega⟩
            have s1 : (0 : Int) < (t : Int) := by omega
            have HTS := hide (show topD x t = if x / 256 ^ t % 256 = 0 then topD x u else t by rw [hu]; rfl)
            generalize x / 256 ^ t % 256 = v at *
            by_cases hv : v = 0
            · have HU := hide (show topD x u = T by rw [← HTD.out, HTS.out, if_pos hv])
              have s5 : ((v : Int) == 0) = true := by simp [hv]
              have s6 : IntKind.i64.wrap ((t : Int) - 1) = (u : Int) := by rw [wrap_i (by omega) (by omega)]; omega
              have hul : u ≤ 6 := by omega
              have HUT := hide hu
              clear hu hv h0
              go_wp2_with fail
              go_round
              case rel => exact ⟨u, hul, rfl, HU⟩
              case measure => simp [intOf]; have := HUT.out; omega
            · have HTT := hide (show pre ++ bytesN x t = DD by rw [← HC2.out, ← HTD.out, HTS.out, if_neg hv])
              have s5 : ((v : Int) == 0) = false := by simp; omega
              clear hu hv h0
              go_wp2_with (at_builtin; (refine wp_appendN rfl _ _ _ rfl w.heap.size 5 (.int .u8 0) 1 Try.underlying23 infoB rfl _ _ _ _ rfl hown3 _ t _ w3.heap.size (by8 (bytesN x t)) rfl (by rw [len_by8, len_bytesN]) RWt (one_by8 _) (by omega) (by omega) B3.size ?_))
              intro A3 c3 w4 hown4 hb4
              rw [← by8_append] at hown4
              go_wp2_with fail
              go_roundg (n - (k + 1))
              case measure => rw [HG.out]; omega
              case rel => exact ⟨k + 1, j + t, A3, c3, pre ++ bytesN x t, rfl, by omega, by go_num, rfl, hown4, hide (by rw [List.length_append, HJ.out, len_bytesN]), by omega, hide (by rw [HTT.out, hlast, HE.out, List.append_nil]), B3.trans hb4⟩
    · have t1 : ¬ (k : Int) < (n : Int) := by omega
      obtain rfl : k = n := by omega
      have hpre : pre = DD := by rw [← HC.out, HE.out, List.append_nil]
      subst hpre
      have hjc : j ≤ c1 := by
        obtain ⟨A9, c9, h9, h8, _⟩ := own_slice hown
        have hcc : c1 = c9 := by injection h9
        omega
      have RP : Rs wr A1 (by8 pre) := Rs.of_own hown
      have RL : Rs wr A (us l) := (HR.out.below B).more B.size
      have hq1 := len_chunksN pre
      have hC := Chunks_f pre HLT.out A1 j c1 HJ.out hjc (by omega) wr RP
      have HCL := hide (fun A2 c2 A3 c3 W (h : Rs W A2 (us (chunksN pre))) (h' : Rs W A3 (us l)) => equal_u A2 A3 c2 c3 W.heap.size W.heap.size (chunksN pre) l W h h' (by have := HJ.out; omega) (by have := HL.out; omega) _ rfl _ HL.out)
      by_cases hyes : chunksN pre = l
      · have HY := hide hyes
        rw [decide_eq_true hyes] at HCL
        clear hyes
        generalize (chunksN pre).length = q at *
        clear hq1 hdl
        go_wp2_with (first
          | (go_at_call 14; (with_reducible refine hC.mono ?_); rintro e w3 ⟨A3, c3, rfl, ho3, hb3⟩; have R3 := Rs.of_own ho3; have RL3 := Rs.call RL hb3; have RP3 := Rs.call RP hb3)
          | (go_at_call 33; (with_reducible refine (HCL.out _ _ _ _ w3 R3 RL3).mono ?_); rintro e w4 ⟨rfl, hb4⟩; have RP4 := Rs.call RP3 hb4))
        go_ret2
        refine ⟨A1, j, c1, true, rfl, below_call (below_call B (Nat.le_refl _) hb3) (Nat.le_refl _) hb4, .inl ⟨rfl, HY.out, HJ.out.symm, hjc, RP4⟩⟩
      · have HY := hide hyes
        rw [decide_eq_false hyes] at HCL
        clear hyes
        generalize (chunksN pre).length = q at *
        clear hq1 hdl
        go_wp2_with (first
          | (go_at_call 14; (with_reducible refine hC.mono ?_); rintro e w3 ⟨A3, c3, rfl, ho3, hb3⟩; have R3 := Rs.of_own ho3; have RL3 := Rs.call RL hb3)
          | (go_at_call 33; (with_reducible refine (HCL.out _ _ _ _ w3 R3 RL3).mono ?_); rintro e w4 ⟨rfl, hb4⟩))
        go_ret2
        exact ⟨none, 0, 0, false, rfl, below_call (below_call B (Nat.le_refl _) hb3) (Nat.le_refl _) hb4, .inr ⟨rfl, rfl, HY.out⟩⟩
end Go.Proofs.Ytaeebipcgeembaa
