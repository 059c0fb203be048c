/-
  Walk of the reference's Text. Conditions: bits no more than 1000.
-/
import Derived.Test.YtpfpdlgfngkdjaaTxtC
import Derived.Test.YtpfpdlgfngkdjaaDivR
import Derived.Test.YtpfpdlgfngkdjaaBitsB
namespace Go.Proofs.Ytpfpdlgfngkdjaa
open Go.RowKit
set_option linter.unusedVariables false

theorem dg_rev (X k : Nat) : bstr [((48 + X / 10 ^ k % 10 : Nat) : Int)] ++ bstr (dg X k).reverse = bstr (dg X (k + 1)).reverse := by
  rw [bstr_append, dg_succ, List.reverse_append]
  rfl

set_option maxHeartbeats 8000000 in
theorem text_ref (A : Option Addr) (c p X n : Nat) (w : World) (hr : Rs w A (is (bitsOf X p))) (hX : X < 2 ^ p) (h8 : 8 ≤ p) (hp : p ≤ 1000) (D : Digs X n) :
    Calls Try.prog 8 #[.slice A p c] w fun e w' => e = .returned (.string (bstr (dg X n).reverse)) ∧ Below w.heap.size w w' := by
  have HD := hide D
  have hn1 := D.pos
  have hn100 := D.few
  have HXk := hide (show ∀ k, X / 10 ^ k < 2 ^ p from fun k => Nat.lt_of_le_of_lt (Nat.div_le_self _ _) hX)
  have C0 := hide (of_u 10 8 8 rfl (by omega) w (by omega))
  have hb0 := Below.refl w.heap.size w
  clear D hX
  go_enter Try.func8, Try.ntmps8
  go_wp2_with fail
  refine C0.out.mono ?_
  rintro e w1 ⟨A0, c0, rfl, hten, hb1⟩
  replace hr := Rs.call hr hb1
  clear C0
  have hst0 : (bstr (dg X 0).reverse) = ⟨#[]⟩ := rfl
  have HST := hide hst0
  clear hst0
  go_wp2_with fail
  go_loopg [0, 4] n (fun m v0 v4 wr => ∃ (k c : Nat) (A : Option Addr) (st : ByteArray), m = n - k ∧ k < n ∧ v0 = .slice A p c ∧ v4 = .string st ∧ Hid (st = bstr (dg X k).reverse) ∧ st.size = k ∧ Rs wr A (is (bitsOf (X / 10 ^ k) p)) ∧ Rs wr A0 (is (bitsOf 10 8)) ∧ Below w.heap.size w wr)
  case atStart => exact ⟨0, c, A, _, by omega, by omega, rfl, rfl, hide HST.out.symm, rfl, by rw [Nat.pow_zero, Nat.div_one]; exact hr, hten, hb1⟩
  case round =>
    clear hr hten hb1
    obtain ⟨k, c, A, st, hm, hk, rfl, rfl, hst, hsz, hr, hten, hbel⟩ := hrel
    have C := hide (div_ref A A0 p c 8 c0 (X / 10 ^ k) 10 wr hr hten (HXk.out k) (by omega) (by omega) hp (by omega) (p + 1) (by omega))
    rw [div_next] at C
    have hd10 : X / 10 ^ k % 10 < 10 := Nat.mod_lt _ (by omega)
    have HDS := hide (dg_rev X k)
    have HB := HXk.out (k + 1)
    have hdp : X / 10 ^ k % 10 < 2 ^ (p + 1) := Nat.lt_of_lt_of_le hd10 (Nat.le_trans (show 10 ≤ 2 ^ 8 by omega) (Nat.pow_le_pow_right (by omega) (by omega)))
    have HDP := hide hdp
    have HBB := hide HB
    have HEND := hide (show X / 10 ^ (k + 1) = 0 → k + 1 = n from fun h => by
      rcases Nat.lt_or_ge (k + 1) n with h1 | h1
      · exact absurd h (HD.out.more (k + 1) (by omega) h1)
      · omega)
    have HGO := hide (show X / 10 ^ (k + 1) ≠ 0 → k + 1 < n from fun h => by
      rcases Nat.lt_or_ge (k + 1) n with h1 | h1
      · exact h1
      · have : k + 1 = n := by omega
        rw [this] at h
        exact absurd HD.out.zero h)
    clear hdp HB
    generalize X / 10 ^ k % 10 = dk at *
    generalize X / 10 ^ k = Y at *
    generalize hY1 : X / 10 ^ (k + 1) = Y1 at *
    have HY1 := hide hY1
    clear hY1
    go_wp2_with fail
    refine C.out.mono ?_
    rintro e w2 ⟨A1, c1, A2, c2, rfl, hq, hrem, hb⟩
    replace hten := Rs.call hten hb
    replace hbel : Below w.heap.size w w2 := below_call hbel (Nat.le_refl _) hb
    have C2 := hide (word_any A2 (p + 1) c2 w2.heap.size dk 0 0 rfl w2 hrem HDP.out (by omega) (by omega))
    have hwv : wordV dk 0 = dk := by unfold wordV; rw [Nat.pow_zero, Nat.div_one]; omega
    rw [hwv] at C2
    clear C hb hr hwv
    go_wp2_with fail
    refine C2.out.mono ?_
    rintro e w3 ⟨rfl, rfl⟩
    have hconv := conv_b w2.heap.size 1 1 [((48 + dk : Nat) : Int)] (w2.alloc (.cells #[.int .u8 ((48 + dk : Nat) : Int)] 5)) rfl (fun j v hj => by
      match j, hj with
      | 0, hj => simp [bz] at hj; subst hj; simp [go_sem])
    have hs1 : (bstr [((48 + dk : Nat) : Int)]).size = 1 := bstr_size _
    have hcast : ((48 + dk : Nat) : Int) = 48 + (dk : Int) := by omega
    rw [hcast] at hconv hs1
    have HDS2 := HDS.out
    rw [hcast, ← hst.out] at HDS2
    have hsum : ¬ (1 + k > 9223372036854775807) := by omega
    generalize bstr [48 + (dk : Int)] = s1 at *
    have HDS3 := hide HDS2
    clear HDS2 HDS hcast C2
    replace hq := fun ob => Rs.alloc hq ob
    replace hten := fun ob => Rs.alloc hten ob
    replace hbel := fun ob => hbel.alloc hbel.size ob
    have C3 := hide (fun ob => len_ref A1 p c1 _ Y1 (w2.alloc ob) (hq ob) (by omega))
    have HLZ := hide (lenB_zero HBB.out)
    generalize lenB Y1 p = lb at *
    have hst2 : (s1 ++ st).size = k + 1 := by rw [HDS3.out, bstr_size, List.length_reverse, len_dg]
    have HST2 := hide hst2
    clear hst2
    go_wp2_with fail
    refine (C3.out _).mono ?_
    rintro e w4 ⟨rfl, rfl⟩
    by_cases hz : Y1 = 0
    · have hl0 : lb = 0 := HLZ.out.2 hz
      have HN := hide (HEND.out hz)
      subst hl0
      clear hz HLZ C3
      go_wp2_with fail
      go_ret
      exact ⟨by rw [← HN.out, ← HDS3.out]; rfl, hbel _⟩
    · have hl0 : ((lb : Int) == 0) = false := by
        rw [beq_eq_false_iff_ne]
        intro h
        exact hz (HLZ.out.1 (by omega))
      have HN := hide (HGO.out hz)
      clear hz HLZ C3
      go_wp2_with fail
      go_roundg (n - (k + 1))
      case measure => have := HN.out; omega
      case rel => exact ⟨k + 1, c1, A1, _, rfl, HN.out, rfl, rfl, hide HDS3.out, HST2.out, by rw [HY1.out]; exact hq _, hten _, hbel _⟩
end Go.Proofs.Ytpfpdlgfngkdjaa
