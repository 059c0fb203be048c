/-
  Chapter 25's examples; the law StrpolyEvals. Conditions: words; bytes.
-/
import Derived.Test.YtaeebipcgeembaaStrQ
namespace Go.Proofs.Ytaeebipcgeembaa
open Go.RowKit
set_option linter.unusedVariables false

theorem chunks_nil : chunksN [] = [1] := by rw [chunksN, dif_pos (by simp)]; rfl
set_option maxHeartbeats 1000000 in
theorem awake25 (w : World) : Calls Try.prog 7 #[] w fun e w' => e = .returned (.bool true) ∧ Below w.heap.size w w' := by
  have hC : Calls Try.prog 14 #[.slice none 0 0] w fun e w' => ∃ A' c', e = .returned (.slice A' 1 c') ∧ Rs w' A' (us [1]) ∧ Below w.heap.size w w' := by
    have h := Chunks_f [] (by simp) none 0 0 rfl (Nat.le_refl _) (by omega) w (Rd.nil _ _ _)
    rw [chunks_nil] at h
    exact h.mono fun e w' ⟨A', c', he, ho, hb⟩ => ⟨A', c', he, Rs.of_own ho, hb⟩
  have hE : Hid (∀ W : World, Calls Try.prog 8 #[.int .u64 41, .slice none 0 0] W fun e w' => e = .returned (.tuple #[.int .u64 42, .int .i64 0]) ∧ Below W.heap.size W w') := hide (fun W => by
    have h := eval_good 41 (by omega) [] (by simp) none 0 0 rfl (Nat.le_refl _) (by omega) W (Rd.nil _ _ _)
    rw [chunks_nil, show horN 41 [1] = 42 by decide] at h
    exact h)
  go_enter Try.func7, Try.ntmps7
  go_wp2_with (go_at_call 14; (with_reducible refine hC.mono ?_); rintro e w2 ⟨A2, c2, rfl, RA, hb2⟩)
  clear hC
  go_wp2_with (go_at_call 8; (with_reducible refine (hE.out w2).mono ?_); rintro e w3 ⟨rfl, hb3⟩)
  have RB : Rs w3 A2 (us [1]) := Rs.call RA hb3
  obtain ⟨b, o, rfl, hbb, hc⟩ := RB.u (k := 0) (by simp)
  have hc1 : w3.cell? ⟨b, o, none⟩ = some (.int .u64 1) := hc
  clear hE RA RB hc
  go_wp2_with fail
  have ix : Sem.run Try.prog (Instr.indexAt 33 (.slice (some ⟨b, o, none⟩) 1 c2) (.int .i64 0)) w3 = .ok (.pointer (some ⟨b, o, none⟩)) w3 := by
    simp [go_sem, Try.underlying33]
  rw [ix]
  go_wp2_with fail
  go_ret
  exact ⟨rfl, below_call hb2 (Nat.le_refl _) hb3⟩
theorem eval_both (a : Nat) (A : Option Addr) (m c : Nat) (bs : List Nat) (hby : ∀ x ∈ bs, x < 256) (hm : bs.length = m) (hmc : m ≤ c) : ∃ V E : Nat,
    (∀ W, Rs W A (by8 bs) → Calls Try.prog 8 #[.int .u64 a, .slice A m c] W fun e w' => e = .returned (.tuple #[.int .u64 (V : Nat), .int .i64 (E : Nat)]) ∧ Below W.heap.size W w') ∧
    (∀ W, Rs W A (by8 bs) → Calls Try.prog 9 #[.int .u64 a, .slice A m c] W fun e w' => e = .returned (.tuple #[.int .u64 (V : Nat), .int .i64 (E : Nat)]) ∧ Below W.heap.size W w') := by
  by_cases h1 : 4096 < m
  · exact ⟨0, 4, fun W _ => eval_long a A m c W h1, fun W _ => evalr_long a A m c W h1⟩
  · by_cases h2 : a < 2305843009213693951
    · exact ⟨_, 0, fun W h => eval_good a h2 bs hby A m c hm hmc (by omega) W h, fun W h => evalr_good a h2 bs hby A m c hm (by omega) W h⟩
    · exact ⟨0, 2, fun W _ => eval_bad a A m c W (by omega) h2, fun W _ => evalr_bad a A m c W (by omega) h2⟩
set_option maxRecDepth 100000 in
set_option maxHeartbeats 4000000 in
theorem evals25_law (a h x : Nat) (ha : a < 18446744073709551616) (hh : h < 18446744073709551616) (hx : x < 18446744073709551616) (A : Option Addr) (m c : Nat) (bs : List Nat) (hby : ∀ x ∈ bs, x < 256) (hm : bs.length = m) (hmc : m ≤ c) (w : World) (hr : Rs w A (by8 bs)) :
    Calls Try.prog 3 #[.int .u64 a, .slice A m c, .int .u64 h, .int .u64 x] w fun e w' => e = .returned (.bool true) ∧ Below w.heap.size w w' := by
  have HAW := hide awake25
  by_cases hsk : 400 < m ∧ m ≤ 4096
  · have t1 : (400 : Int) < (m : Int) := by omega
    have t2 : (m : Int) ≤ 4096 := by omega
    clear hsk hm hmc
    go_enter Try.func3, Try.ntmps3
    go_wp2_with (go_at_call 7; (with_reducible refine (HAW.out w).mono ?_); rintro e w2 ⟨rfl, hb2⟩)
    go_ret
    exact ⟨rfl, hb2⟩
  · have tm : (400 : Int) < (m : Int) ∧ ¬ (m : Int) ≤ 4096 ∨ ¬ (400 : Int) < (m : Int) := by omega
    obtain ⟨V, E, hE1, hE2⟩ := eval_both a A m c bs hby hm hmc
    have HE1 := hide hE1
    have HE2 := hide hE2
    clear hE1 hE2 hby hm hmc hsk
    by_cases ca : a < 2305843009213693951
    · by_cases ch : h < 2305843009213693951
      · by_cases cx : x < 2305843009213693951
        · have HA := hide (append_yes a h x ca ch cx)
          have HG := hide (goes_r a h x ca ch cx)
          have da := hide (show decide ((2305843009213693951 : Int) ≤ (a : Int)) = false from decide_eq_false (by omega))
          have dh := hide (show decide ((2305843009213693951 : Int) ≤ (h : Int)) = false from decide_eq_false (by omega))
          have dx := hide (show decide ((2305843009213693951 : Int) ≤ (x : Int)) = false from decide_eq_false (by omega))
          generalize goesN a h x = G at *
          clear ha hh hx ca ch cx
          rcases tm with ⟨t1, t2⟩ | t1
          · go_enter Try.func3, Try.ntmps3
            go_wp2_with (go_at_call 7; (with_reducible refine (HAW.out w).mono ?_); rintro e w2 ⟨rfl, hb2⟩)
            have R2 := Rs.call hr hb2
            go_wp2_with (go_at_call 8; (with_reducible refine (HE1.out w2 R2).mono ?_); rintro e w3 ⟨rfl, hb3⟩)
            have R3 := Rs.call R2 hb3
            go_wp2_with (go_at_call 9; (with_reducible refine (HE2.out w3 R3).mono ?_); rintro e w4 ⟨rfl, hb4⟩)
            go_wp2_with (first | (go_at_call 10; (with_reducible refine (HA.out w4).mono ?_); rintro e w5 ⟨rfl, hb5⟩; have ea := da.out; have eh := dh.out; have ex := dx.out) | (go_at_call 11; (with_reducible refine (HG.out _).mono ?_); rintro e w6 ⟨rfl, rfl⟩))
            go_ret
            exact ⟨rfl, below_call (below_call (below_call hb2 (Nat.le_refl _) hb3) (Nat.le_refl _) hb4) (Nat.le_refl _) hb5⟩
          · go_enter Try.func3, Try.ntmps3
            go_wp2_with (go_at_call 7; (with_reducible refine (HAW.out w).mono ?_); rintro e w2 ⟨rfl, hb2⟩)
            have R2 := Rs.call hr hb2
            go_wp2_with (go_at_call 8; (with_reducible refine (HE1.out w2 R2).mono ?_); rintro e w3 ⟨rfl, hb3⟩)
            have R3 := Rs.call R2 hb3
            go_wp2_with (go_at_call 9; (with_reducible refine (HE2.out w3 R3).mono ?_); rintro e w4 ⟨rfl, hb4⟩)
            go_wp2_with (first | (go_at_call 10; (with_reducible refine (HA.out w4).mono ?_); rintro e w5 ⟨rfl, hb5⟩; have ea := da.out; have eh := dh.out; have ex := dx.out) | (go_at_call 11; (with_reducible refine (HG.out _).mono ?_); rintro e w6 ⟨rfl, rfl⟩))
            go_ret
            exact ⟨rfl, below_call (below_call (below_call hb2 (Nat.le_refl _) hb3) (Nat.le_refl _) hb4) (Nat.le_refl _) hb5⟩
        · have hno : ∀ W, Calls Try.prog 10 #[.int .u64 a, .int .u64 h, .int .u64 x] W fun e w' => e = .returned (.tuple #[.int .u64 0, .int .i64 2]) ∧ Below W.heap.size W w' := fun W => (append_no a h x (by omega) W).mono fun e w' ⟨he, hw⟩ => ⟨he, by rw [hw]; exact Below.refl _ _⟩
          have HA := hide hno
          clear hno
          have da := hide (show decide ((2305843009213693951 : Int) ≤ (a : Int)) = false from decide_eq_false (by omega))
          have dh := hide (show decide ((2305843009213693951 : Int) ≤ (h : Int)) = false from decide_eq_false (by omega))
          have dx := hide (show decide ((2305843009213693951 : Int) ≤ (x : Int)) = true from decide_eq_true (by omega))
          clear ha hh hx ca ch cx
          rcases tm with ⟨t1, t2⟩ | t1
          · go_enter Try.func3, Try.ntmps3
            go_wp2_with (go_at_call 7; (with_reducible refine (HAW.out w).mono ?_); rintro e w2 ⟨rfl, hb2⟩)
            have R2 := Rs.call hr hb2
            go_wp2_with (go_at_call 8; (with_reducible refine (HE1.out w2 R2).mono ?_); rintro e w3 ⟨rfl, hb3⟩)
            have R3 := Rs.call R2 hb3
            go_wp2_with (go_at_call 9; (with_reducible refine (HE2.out w3 R3).mono ?_); rintro e w4 ⟨rfl, hb4⟩)
            go_wp2_with ((go_at_call 10; (with_reducible refine (HA.out w4).mono ?_); rintro e w5 ⟨rfl, hb5⟩; have ea := da.out; have eh := dh.out; have ex := dx.out))
            go_ret
            exact ⟨rfl, below_call (below_call (below_call hb2 (Nat.le_refl _) hb3) (Nat.le_refl _) hb4) (Nat.le_refl _) hb5⟩
          · go_enter Try.func3, Try.ntmps3
            go_wp2_with (go_at_call 7; (with_reducible refine (HAW.out w).mono ?_); rintro e w2 ⟨rfl, hb2⟩)
            have R2 := Rs.call hr hb2
            go_wp2_with (go_at_call 8; (with_reducible refine (HE1.out w2 R2).mono ?_); rintro e w3 ⟨rfl, hb3⟩)
            have R3 := Rs.call R2 hb3
            go_wp2_with (go_at_call 9; (with_reducible refine (HE2.out w3 R3).mono ?_); rintro e w4 ⟨rfl, hb4⟩)
            go_wp2_with ((go_at_call 10; (with_reducible refine (HA.out w4).mono ?_); rintro e w5 ⟨rfl, hb5⟩; have ea := da.out; have eh := dh.out; have ex := dx.out))
            go_ret
            exact ⟨rfl, below_call (below_call (below_call hb2 (Nat.le_refl _) hb3) (Nat.le_refl _) hb4) (Nat.le_refl _) hb5⟩
      · have hno : ∀ W, Calls Try.prog 10 #[.int .u64 a, .int .u64 h, .int .u64 x] W fun e w' => e = .returned (.tuple #[.int .u64 0, .int .i64 2]) ∧ Below W.heap.size W w' := fun W => (append_no a h x (by omega) W).mono fun e w' ⟨he, hw⟩ => ⟨he, by rw [hw]; exact Below.refl _ _⟩
        have HA := hide hno
        clear hno
        have da := hide (show decide ((2305843009213693951 : Int) ≤ (a : Int)) = false from decide_eq_false (by omega))
        have dh := hide (show decide ((2305843009213693951 : Int) ≤ (h : Int)) = true from decide_eq_true (by omega))
        clear ha hh hx ca ch
        rcases tm with ⟨t1, t2⟩ | t1
        · go_enter Try.func3, Try.ntmps3
          go_wp2_with (go_at_call 7; (with_reducible refine (HAW.out w).mono ?_); rintro e w2 ⟨rfl, hb2⟩)
          have R2 := Rs.call hr hb2
          go_wp2_with (go_at_call 8; (with_reducible refine (HE1.out w2 R2).mono ?_); rintro e w3 ⟨rfl, hb3⟩)
          have R3 := Rs.call R2 hb3
          go_wp2_with (go_at_call 9; (with_reducible refine (HE2.out w3 R3).mono ?_); rintro e w4 ⟨rfl, hb4⟩)
          go_wp2_with ((go_at_call 10; (with_reducible refine (HA.out w4).mono ?_); rintro e w5 ⟨rfl, hb5⟩; have ea := da.out; have eh := dh.out))
          go_ret
          exact ⟨rfl, below_call (below_call (below_call hb2 (Nat.le_refl _) hb3) (Nat.le_refl _) hb4) (Nat.le_refl _) hb5⟩
        · go_enter Try.func3, Try.ntmps3
          go_wp2_with (go_at_call 7; (with_reducible refine (HAW.out w).mono ?_); rintro e w2 ⟨rfl, hb2⟩)
          have R2 := Rs.call hr hb2
          go_wp2_with (go_at_call 8; (with_reducible refine (HE1.out w2 R2).mono ?_); rintro e w3 ⟨rfl, hb3⟩)
          have R3 := Rs.call R2 hb3
          go_wp2_with (go_at_call 9; (with_reducible refine (HE2.out w3 R3).mono ?_); rintro e w4 ⟨rfl, hb4⟩)
          go_wp2_with ((go_at_call 10; (with_reducible refine (HA.out w4).mono ?_); rintro e w5 ⟨rfl, hb5⟩; have ea := da.out; have eh := dh.out))
          go_ret
          exact ⟨rfl, below_call (below_call (below_call hb2 (Nat.le_refl _) hb3) (Nat.le_refl _) hb4) (Nat.le_refl _) hb5⟩
    · have hno : ∀ W, Calls Try.prog 10 #[.int .u64 a, .int .u64 h, .int .u64 x] W fun e w' => e = .returned (.tuple #[.int .u64 0, .int .i64 2]) ∧ Below W.heap.size W w' := fun W => (append_no a h x (by omega) W).mono fun e w' ⟨he, hw⟩ => ⟨he, by rw [hw]; exact Below.refl _ _⟩
      have HA := hide hno
      clear hno
      have da := hide (show decide ((2305843009213693951 : Int) ≤ (a : Int)) = true from decide_eq_true (by omega))
      clear ha hh hx ca 
      rcases tm with ⟨t1, t2⟩ | t1
      · go_enter Try.func3, Try.ntmps3
        go_wp2_with (go_at_call 7; (with_reducible refine (HAW.out w).mono ?_); rintro e w2 ⟨rfl, hb2⟩)
        have R2 := Rs.call hr hb2
        go_wp2_with (go_at_call 8; (with_reducible refine (HE1.out w2 R2).mono ?_); rintro e w3 ⟨rfl, hb3⟩)
        have R3 := Rs.call R2 hb3
        go_wp2_with (go_at_call 9; (with_reducible refine (HE2.out w3 R3).mono ?_); rintro e w4 ⟨rfl, hb4⟩)
        go_wp2_with ((go_at_call 10; (with_reducible refine (HA.out w4).mono ?_); rintro e w5 ⟨rfl, hb5⟩; have ea := da.out))
        go_ret
        exact ⟨rfl, below_call (below_call (below_call hb2 (Nat.le_refl _) hb3) (Nat.le_refl _) hb4) (Nat.le_refl _) hb5⟩
      · go_enter Try.func3, Try.ntmps3
        go_wp2_with (go_at_call 7; (with_reducible refine (HAW.out w).mono ?_); rintro e w2 ⟨rfl, hb2⟩)
        have R2 := Rs.call hr hb2
        go_wp2_with (go_at_call 8; (with_reducible refine (HE1.out w2 R2).mono ?_); rintro e w3 ⟨rfl, hb3⟩)
        have R3 := Rs.call R2 hb3
        go_wp2_with (go_at_call 9; (with_reducible refine (HE2.out w3 R3).mono ?_); rintro e w4 ⟨rfl, hb4⟩)
        go_wp2_with ((go_at_call 10; (with_reducible refine (HA.out w4).mono ?_); rintro e w5 ⟨rfl, hb5⟩; have ea := da.out))
        go_ret
        exact ⟨rfl, below_call (below_call (below_call hb2 (Nat.le_refl _) hb3) (Nat.le_refl _) hb4) (Nat.le_refl _) hb5⟩
/-- Bytes read as numbers. -/
theorem bytes_of {zs : List Int} (h : ∀ n ∈ zs, (Lit.int .u8 n).wf = true) : ∃ xs : List Nat, xs.length = zs.length ∧ (zs.map fun n => Value.int .u8 n) = by8 xs ∧ ∀ x ∈ xs, x < 256 := by
  have hw : ∀ n ∈ zs, 0 ≤ n ∧ n < 256 := fun n hn => by
    have := h n hn
    have h2 : IntKind.u8.min ≤ n ∧ n ≤ IntKind.u8.max := by simpa [Lit.wf] using this
    have e1 : IntKind.u8.min = 0 := by decide
    have e2 : IntKind.u8.max = 255 := by decide
    omega
  refine ⟨zs.map Int.toNat, by simp, ?_, ?_⟩
  · simp only [by8, List.map_map]
    refine List.map_congr_left fun n hn => ?_
    have := hw n hn
    simp; omega
  · intro x hx
    obtain ⟨n, hn, rfl⟩ := List.mem_map.1 hx
    have := hw n hn
    omega
theorem evals25_z (a h x : Nat) (ha : a < 18446744073709551616) (hh : h < 18446744073709551616) (hx : x < 18446744073709551616) (A : Option Addr) (m c : Nat) (zs : List Int) (hwf : ∀ n ∈ zs, (Lit.int .u8 n).wf = true) (hm : zs.length = m) (hmc : m ≤ c) (w : World) (hr : Rs w A (zs.map fun n => Value.int .u8 n)) :
    Calls Try.prog 3 #[.int .u64 a, .slice A m c, .int .u64 h, .int .u64 x] w fun e w' => e = .returned (.bool true) ∧ Below w.heap.size w w' := by
  obtain ⟨xs, hl, he, hb⟩ := bytes_of hwf
  rw [he] at hr
  exact evals25_law a h x ha hh hx A m c xs hb (hl.trans hm) hmc w hr
end Go.Proofs.Ytaeebipcgeembaa
