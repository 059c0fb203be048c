/-
  The law WideTexts, walked. Conditions: none.
-/
import Derived.Test.YtpfpdlgfngkdjaaTxtG
import Derived.Test.YtpfpdlgfngkdjaaTxtM
import Derived.Test.YtpfpdlgfngkdjaaOf4
namespace Go.Proofs.Ytpfpdlgfngkdjaa
open Go.RowKit
set_option linter.unusedVariables false
attribute [local go_sem] eq4

set_option maxRecDepth 100000 in
set_option maxHeartbeats 8000000 in
theorem texts_g (c0 c1 c2 c3 v0 v1 v2 v3 : Nat) (z : Int) (bb : Bool) (t s : ByteArray) (n : Nat) (L : List Int) (w : World) (hn : s.size = n) (h100 : n ≤ 100)
    (H0 : ∀ W, Calls Try.prog 5 #[] W fun e w' => e = .returned (.bool true) ∧ Below W.heap.size W w')
    (H1 : ∀ W, Calls Try.prog 6 #[.agg #[.int .u64 c0, .int .u64 c1, .int .u64 c2, .int .u64 c3]] W fun e w' => e = .returned (.string t) ∧ Below W.heap.size W w')
    (H2 : ∀ W, Calls Try.prog 7 #[.string t] W fun e w' => e = .returned (.tuple #[.agg #[.int .u64 c0, .int .u64 c1, .int .u64 c2, .int .u64 c3], .int .i64 0]) ∧ Below W.heap.size W w')
    (H3 : ∀ W, Calls Try.prog 9 #[.agg #[.int .u64 c0, .int .u64 c1, .int .u64 c2, .int .u64 c3]] W fun e w' => ∃ A d, e = .returned (.slice A 256 d) ∧ Rs w' A (is L) ∧ Below W.heap.size W w')
    (H4 : ∀ W A d, Rs W A (is L) → Calls Try.prog 8 #[.slice A 256 d] W fun e w' => e = .returned (.string t) ∧ Below W.heap.size W w')
    (H5 : ∀ W, Calls Try.prog 7 #[.string s] W fun e w' => e = .returned (.tuple #[.agg #[.int .u64 v0, .int .u64 v1, .int .u64 v2, .int .u64 v3], .int .i64 z]) ∧ Below W.heap.size W w')
    (HT : (n = 0 ∧ z = 3 ∧ v0 = 0 ∧ v1 = 0 ∧ v2 = 0 ∧ v3 = 0) ∨
      (1 ≤ n ∧ z = 5 ∧ v0 = 0 ∧ v1 = 0 ∧ v2 = 0 ∧ v3 = 0 ∧ ∀ W, Calls Try.prog 10 #[.string s] W fun e w' => e = .returned (.bool false) ∧ Below W.heap.size W w') ∨
      (1 ≤ n ∧ (z == 0) = bb ∧ (bb = false → z = 9) ∧ (∀ W, Calls Try.prog 10 #[.string s] W fun e w' => e = .returned (.bool true) ∧ Below W.heap.size W w') ∧
        ∀ W, Calls Try.prog 11 #[.string s] W fun e w' => e = .returned (.tuple #[.agg #[.int .u64 v0, .int .u64 v1, .int .u64 v2, .int .u64 v3], .bool bb]) ∧ Below W.heap.size W w')) :
    Calls Try.prog 3 #[.agg #[.int .u64 c0, .int .u64 c1, .int .u64 c2, .int .u64 c3], .string s] w fun e w' => e = .returned (.bool true) ∧ Below w.heap.size w w' := by
  replace H0 := hide H0; replace H1 := hide H1; replace H2 := hide H2; replace H3 := hide H3; replace H4 := hide H4; replace H5 := hide H5; replace HT := hide HT
  obtain ⟨W0, hW0⟩ : ∃ W0, W0 = w.alloc (.cells #[.int .u64 c0, .int .u64 c1, .int .u64 c2, .int .u64 c3] 24) := ⟨_, rfl⟩
  have X1 : Box4 W0 w.heap.size (.int .u64 c0) (.int .u64 c1) (.int .u64 c2) (.int .u64 c3) := by rw [hW0]; refine ⟨?_, ?_, ?_, ?_, ?_, ?_, ?_, ?_, ?_⟩ <;> simp [go_sem]
  have B : Below w.heap.size w W0 := by rw [hW0]; exact (Below.refl _ _).alloc (Nat.le_refl _) _
  have t2 : (n : Int) ≤ 100 := by omega
  go_enter Try.func3, Try.ntmps3
  go_wp2_with fail
  rw [← hW0]
  clear hW0
  refine (H0.out _).mono ?_
  rintro e w1 ⟨rfl, hb⟩
  replace X1 := Box4.call hb X1
  replace B : Below w.heap.size w w1 := below_call B (Nat.le_refl _) hb
  clear hb
  go_wp2_with fail
  refine (H1.out _).mono ?_
  rintro e w2 ⟨rfl, hb⟩
  replace X1 := Box4.call hb X1
  replace B : Below w.heap.size w w2 := below_call B (Nat.le_refl _) hb
  clear hb
  go_wp2_with fail
  refine (H2.out _).mono ?_
  rintro e w3 ⟨rfl, hb⟩
  replace X1 := Box4.call hb X1
  replace B : Below w.heap.size w w3 := below_call B (Nat.le_refl _) hb
  clear hb
  have bz := B.size
  have xz := X1.2.2.2.2.2.2.2.2
  obtain ⟨n6, hn6⟩ : ∃ n6, n6 = w3.heap.size := ⟨_, rfl⟩
  obtain ⟨W4, hW4⟩ : ∃ W4, W4 = w3.alloc (.cells #[.int .u64 c0, .int .u64 c1, .int .u64 c2, .int .u64 c3] 24) := ⟨_, rfl⟩
  have X6 : Box4 W4 n6 (.int .u64 c0) (.int .u64 c1) (.int .u64 c2) (.int .u64 c3) := by rw [hW4, hn6]; refine ⟨?_, ?_, ?_, ?_, ?_, ?_, ?_, ?_, ?_⟩ <;> simp [go_sem]
  have B4 : Below w.heap.size w W4 := by rw [hW4]; exact B.alloc bz _
  have X4 : Box4 W4 w.heap.size (.int .u64 c0) (.int .u64 c1) (.int .u64 c2) (.int .u64 c3) := by rw [hW4]; exact Box4.alloc _ X1
  go_wp2_with fail
  rw [← hW4, ← hn6]
  clear hW4 hn6 X1 B
  have X1 := X4
  have B := B4
  clear X4 B4
  refine (H3.out _).mono ?_
  rintro e w5 ⟨A5, d5, rfl, r5, hb⟩
  replace X1 := Box4.call hb X1
  replace X6 := Box4.call hb X6
  replace B : Below w.heap.size w w5 := below_call B (Nat.le_refl _) hb
  clear hb
  go_wp2_with fail
  refine (H4.out _ _ _ r5).mono ?_
  rintro e w6 ⟨rfl, hb⟩
  replace X1 := Box4.call hb X1
  replace X6 := Box4.call hb X6
  replace B : Below w.heap.size w w6 := below_call B (Nat.le_refl _) hb
  clear hb r5
  go_wp2_with fail
  refine (H5.out _).mono ?_
  rintro e w7 ⟨rfl, hb⟩
  replace X1 := Box4.call hb X1
  replace X6 := Box4.call hb X6
  replace B : Below w.heap.size w w7 := below_call B (Nat.le_refl _) hb
  clear hb X1 X6
  have bz7 := B.size
  obtain ⟨n8, hn8⟩ : ∃ n8, n8 = w7.heap.size := ⟨_, rfl⟩
  have hlt8 : w.heap.size ≤ n8 := by omega
  obtain ⟨W8, hW8⟩ : ∃ W8, W8 = w7.alloc (.cells #[.int .u64 v0, .int .u64 v1, .int .u64 v2, .int .u64 v3] 24) := ⟨_, rfl⟩
  have X8 : Box4 W8 n8 (.int .u64 v0) (.int .u64 v1) (.int .u64 v2) (.int .u64 v3) := by rw [hW8, hn8]; refine ⟨?_, ?_, ?_, ?_, ?_, ?_, ?_, ?_, ?_⟩ <;> simp [go_sem]
  have B8 : Below w.heap.size w W8 := by rw [hW8]; exact B.alloc bz7 _
  rcases HT.out with ⟨h0, rfl, rfl, rfl, rfl, rfl⟩ | ⟨h1, rfl, rfl, rfl, rfl, rfl, H6⟩ | ⟨h1, hz, hz9, H6, H7⟩
  · have hst : s = ⟨#[]⟩ := by
      have h2 : s.data.size = 0 := by rw [← h0, ← hn]; rfl
      cases s with | mk d => simp at h2; rw [h2]
    subst hst
    clear H0 H1 H2 H3 H4 H5 HT
    go_wp2_with fail
    go_ret
    exact ⟨ret_b (by simp), by (repeat (first | exact Below.refl _ _ | assumption | (refine Below.alloc ?_ (by first | omega | (simp; done) | (simp; omega)) _) | (refine Below.setCell ?_ (by first | omega | (simp; done) | (simp; omega)) _) | refine Below.drew ?_ | refine below_drewN ?_ _))⟩
  · replace H6 := hide H6
    have hne := toList_ne s (by omega)
    rw [show ((0 : Nat) : Int) = 0 from rfl] at hW8 X8
    clear H0 H1 H2 H3 H4 H5 HT
    go_wp2_with fail
    rw [← hW8, ← hn8]
    clear hW8 hn8
    refine (H6.out _).mono ?_
    rintro e w9 ⟨rfl, hb⟩
    replace X8 := Box4.call hb X8
    replace B8 : Below w.heap.size w w9 := below_call B8 (Nat.le_refl _) hb
    clear hb H6
    go_wp2_with fail
    go_ret
    exact ⟨ret_b (by simp), B8⟩
  · replace H6 := hide H6
    replace H7 := hide H7
    have hne := toList_ne s (by omega)
    clear H0 H1 H2 H3 H4 H5 HT
    go_wp2_with fail
    rw [← hW8, ← hn8]
    clear hW8 hn8
    refine (H6.out _).mono ?_
    rintro e w9 ⟨rfl, hb⟩
    replace X8 := Box4.call hb X8
    replace B8 : Below w.heap.size w w9 := below_call B8 (Nat.le_refl _) hb
    clear hb H6
    go_wp2_with fail
    refine (H7.out _).mono ?_
    rintro e w10 ⟨rfl, hb⟩
    replace X8 := Box4.call hb X8
    replace B8 : Below w.heap.size w w10 := below_call B8 (Nat.le_refl _) hb
    clear hb H7
    have bz10 := B8.size
    have xz8 := X8.2.2.2.2.2.2.2.2
    have X9 := fun ob => Box4.alloc ob X8
    cases bb
    · have h9 := hz9 rfl
      subst h9
      go_wp2_with fail
      go_ret
      exact ⟨ret_b (by simp), by (repeat (first | exact Below.refl _ _ | assumption | (refine Below.alloc ?_ (by first | omega | (simp; done) | (simp; omega)) _) | (refine Below.setCell ?_ (by first | omega | (simp; done) | (simp; omega)) _) | refine Below.drew ?_ | refine below_drewN ?_ _))⟩
    · have h0 : z = 0 := by simpa using hz
      subst h0
      go_wp2_with fail
      go_ret
      exact ⟨ret_b (by simp), by (repeat (first | exact Below.refl _ _ | assumption | (refine Below.alloc ?_ (by first | omega | (simp; done) | (simp; omega)) _) | (refine Below.setCell ?_ (by first | omega | (simp; done) | (simp; omega)) _) | refine Below.drew ?_ | refine below_drewN ?_ _))⟩

theorem texts_u (X : Nat) (s : ByteArray) (hX : X < 2 ^ 256) (hs : s.size ≤ 9223372036854775807) (w : World) : Calls Try.prog 3 #[.agg #[.int .u64 (wd (X) 0 : Nat), .int .u64 (wd (X) 1 : Nat), .int .u64 (wd (X) 2 : Nat), .int .u64 (wd (X) 3 : Nat)], .string s] w fun e w' => e = .returned (.bool true) ∧ Below w.heap.size w w' := by
  by_cases hbig : 100 < s.size
  · have t0 : (100 : Int) < (s.size : Int) := by omega
    obtain ⟨W0, hW0⟩ : ∃ W0, W0 = w.alloc (.cells #[.int .u64 (wd X 0 : Nat), .int .u64 (wd X 1 : Nat), .int .u64 (wd X 2 : Nat), .int .u64 (wd X 3 : Nat)] 24) := ⟨_, rfl⟩
    have B : Below w.heap.size w W0 := by rw [hW0]; exact (Below.refl _ _).alloc (Nat.le_refl _) _
    go_enter Try.func3, Try.ntmps3
    go_wp2_with fail
    rw [← hW0]
    clear hW0
    refine (awake_wide _).mono ?_
    rintro e w1 ⟨rfl, hb⟩
    go_wp2_with fail
    go_ret
    exact ⟨rfl, below_call B (Nat.le_refl _) hb⟩
  · obtain ⟨n, D⟩ := digs_ex X hX
    obtain ⟨b1, b2⟩ := tx_back X n hX D
    have h2 := read4_u (bstr (dg X n).reverse) n (by rw [bstr_size, List.length_reverse, len_dg]) D.few
    rw [b1, b2] at h2
    have h5 := read4_u s s.size rfl (by omega)
    refine texts_g _ _ _ _ _ _ _ _ _ (decide (vl (by_ s) s.size < 2 ^ 256)) _ s s.size (bitsOf X 256) w rfl (by omega) awake_wide (fun W => text4_u X n hX D W) h2 (of4_ref X) (fun W A d r => text_ref A d 256 X n W r hX (by omega) (by omega) D) h5 ?_
    by_cases h0 : s.size = 0
    · have he : txE (by_ s) s.size = 3 := by unfold txE; rw [if_pos h0]
      have hv : txV (by_ s) s.size = 0 := by unfold txV; rw [he]; rfl
      rw [he, hv, wdz, wdz, wdz, wdz]
      exact .inl ⟨h0, rfl, rfl, rfl, rfl, rfl⟩
    · have h1 : 1 ≤ s.size := by omega
      have hd := fun W => digits_u s s.size rfl h1 (by omega) W
      cases hf : formB (by_ s) s.size
      · have hval := value_u s s.size rfl h1 (by omega) hf
        rw [hf] at hd
        refine .inr (.inr ⟨h1, ?_, ?_, fun W => (hd W).mono (by rintro e w' ⟨rfl, rfl⟩; exact ⟨rfl, Below.refl _ _⟩), hval⟩)
        · by_cases h : vl (by_ s) s.size < 2 ^ 256
          · rw [(tx_ok _ _ h0 hf h).1, decide_eq_true h]; rfl
          · rw [(tx_over _ _ _ h0 hf (Nat.le_refl _) h).1, decide_eq_false h]; rfl
        · intro h
          exact (tx_over _ _ _ h0 hf (Nat.le_refl _) (of_decide_eq_false h)).1
      · obtain ⟨he, hv⟩ := tx_form _ _ h0 hf
        rw [hf] at hd
        rw [he, hv, wdz, wdz, wdz, wdz]
        exact .inr (.inl ⟨h1, rfl, rfl, rfl, rfl, rfl, fun W => (hd W).mono (by rintro e w' ⟨rfl, rfl⟩; exact ⟨rfl, Below.refl _ _⟩)⟩)
def vq4 (a0 a1 a2 a3 : Nat) : Nat := a0 + 18446744073709551616 * (a1 + 18446744073709551616 * (a2 + 18446744073709551616 * a3))
theorem vq4_lt {a0 a1 a2 a3 : Nat} (h0 : a0 < 18446744073709551616) (h1 : a1 < 18446744073709551616) (h2 : a2 < 18446744073709551616) (h3 : a3 < 18446744073709551616) : vq4 a0 a1 a2 a3 < 2 ^ 256 := by
  show vq4 a0 a1 a2 a3 < 115792089237316195423570985008687907853269984665640564039457584007913129639936
  unfold vq4
  omega
theorem vq4_wd {a0 a1 a2 a3 : Nat} (h0 : a0 < 18446744073709551616) (h1 : a1 < 18446744073709551616) (h2 : a2 < 18446744073709551616) (h3 : a3 < 18446744073709551616) : wd (vq4 a0 a1 a2 a3) 0 = a0 ∧ wd (vq4 a0 a1 a2 a3) 1 = a1 ∧ wd (vq4 a0 a1 a2 a3) 2 = a2 ∧ wd (vq4 a0 a1 a2 a3) 3 = a3 := by
  rw [wd0, wd1, wd2, wd3]
  unfold vq4
  omega
theorem texts_law (c0 c1 c2 c3 : Nat) (s : ByteArray) (w : World) (h0 : c0 < 18446744073709551616) (h1 : c1 < 18446744073709551616) (h2 : c2 < 18446744073709551616) (h3 : c3 < 18446744073709551616) (hs : s.size ≤ maxLen) :
    Calls Try.prog 3 #[.agg #[.int .u64 c0, .int .u64 c1, .int .u64 c2, .int .u64 c3], .string s] w fun e w' => e = .returned (.bool true) ∧ Below w.heap.size w w' := by
  have h := texts_u (vq4 c0 c1 c2 c3) s (vq4_lt h0 h1 h2 h3) (by unfold maxLen at hs; omega) w
  obtain ⟨x0, x1, x2, x3⟩ := vq4_wd h0 h1 h2 h3
  rw [x0, x1, x2, x3] at h
  exact h
end Go.Proofs.Ytpfpdlgfngkdjaa
