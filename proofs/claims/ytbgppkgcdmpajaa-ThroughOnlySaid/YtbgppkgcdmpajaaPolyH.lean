/-
  Walks of chapter 18's reference: Mul, Minus. Conditions: slices no longer than the form lets them be.
-/
import Derived.Test.YtbgppkgcdmpajaaPolyN
namespace Go.Proofs.Ytbgppkgcdmpajaa
open Go.RowKit Go.Shelf
set_option linter.unusedVariables false

theorem minus_r (x : Nat) (hx : x < 18446744073709551616) (w : World) : Calls Try.prog 38 #[.int .u64 x] w fun e w' => e = .returned (.int .u64 (negP x : Nat)) ∧ w = w' := by
  have hn : ((negP x : Nat) : Int) = (2305843009213693951 - (x : Int) % 2305843009213693951) % 2305843009213693951 := by unfold negP; omega
  have HN := hide hn
  clear hn
  generalize negP x = m at *
  go_enter Try.func38, Try.ntmps38
  go_wp2
  go_ret
  exact ⟨ret_i HN.out.symm, rfl⟩
set_option maxRecDepth 100000 in
set_option maxHeartbeats 4000000 in
theorem mulq_r (A A' : Option Addr) (c c' n m : Nat) (a b : List Nat) (w : World) (ha : Rs w A (us a)) (hb : Rs w A' (us b)) (hla : a.length = n) (hlb : b.length = m) (hn : n ≤ 100000) (hm : m ≤ 100000) (hwa : ∀ y ∈ a, y < 18446744073709551616) (hwb : ∀ y ∈ b, y < 18446744073709551616) :
    Calls Try.prog 37 #[.slice A n c, .slice A' m c'] w (RetL w (mulP a b)) := by
  obtain ⟨N, hN⟩ : ∃ N, N = n + m := ⟨_, rfl⟩
  have hN3 : N ≤ 200000 := by omega
  have hN4 : (n : Int) + (m : Int) = (N : Int) := by omega
  have hlen : (convL a b).length = N := by rw [len_convL, hla, hlb, hN]
  have hP : ∀ i q W, Calls Try.prog 23 #[.int .u64 (a.getD i 0 : Nat), .int .u64 (b.getD q 0 : Nat), .int .u64 2305843009213693951] W fun e w' => e = .returned (.int .u64 (a.getD i 0 * b.getD q 0 % 2305843009213693951 : Nat)) ∧ W = w' := fun i q W => mulP_r _ _ (getD_lt hwa i) (getD_lt hwb q) W
  have hS : ∀ k i q, k = i + q → ∀ W, Calls Try.prog 27 #[.int .u64 (cv a b k i % 2305843009213693951 : Nat), .int .u64 (a.getD i 0 * b.getD q 0 % 2305843009213693951 : Nat), .int .u64 2305843009213693951] W fun e w' => e = .returned (.int .u64 (cv a b k (i + 1) % 2305843009213693951 : Nat)) ∧ W = w' := fun k i q hk W => by
    have h := addP_r (cv a b k i % 2305843009213693951) (a.getD i 0 * b.getD q 0 % 2305843009213693951) (Nat.lt_trans (Nat.mod_lt _ (by omega)) (by omega)) (Nat.lt_trans (Nat.mod_lt _ (by omega)) (by omega)) W
    rw [← Nat.add_mod] at h
    have e : cv a b k (i + 1) = cv a b k i + a.getD i 0 * b.getD q 0 := by rw [cv, if_pos (by omega), show k - i = q by omega]
    rw [e]
    exact h
  have hex : ∀ k (h : k < N), (convL a b).take (k + 1) = (convL a b).take k ++ [cv a b k (k + 1) % 2305843009213693951] := fun k h => by
    rw [take_succ' (by rw [hlen]; exact h)]
    simp [convL]
  have htr := fun A c w h => trim_r A c N (convL a b) w h hlen (by omega) (fun y hy => Nat.lt_trans (lt_convL a b y hy) (by omega))
  simp only [convL_trim] at htr
  have hfull : (convL a b).take N = convL a b := by rw [← hlen, List.take_length]
  have h0 : ∀ k, cv a b k 0 % 2305843009213693951 = 0 := fun k => by rw [cv, Nat.zero_mod]
  have HTR := hide htr; have HP := hide hP; have HS := hide hS; have HEX := hide hex; have HFULL := hide hfull; have H0 := hide h0
  have HGA := hide (fun k (hk : k ≤ 1000000) W (h : Rd W w.heap.size A (us a)) => at_r A c _ n k a W h hla (by omega) hk)
  have HGB := hide (fun k (hk : k ≤ 1000000) W (h : Rd W w.heap.size A' (us b)) => at_r A' c' _ m k b W h hlb (by omega) hk)
  generalize mulP a b = R at *
  generalize convL a b = L at *
  clear hP hS hex htr hlen hla hlb hwa hwb hN hfull h0
  go_enter Try.func37, Try.ntmps37
  go_wp2_with fail
  go_loopg [5, 6] N (fun g v5 v6 wr => ∃ (k : Nat) (A : Option Addr) (c : Nat), g = N - k ∧ k ≤ N ∧ v6 = .int .i64 k ∧ v5 = .slice A k c ∧ wr.ownsRow w.heap.size 22 1 (.slice A k c) k (us (L.take k)) ∧ Below w.heap.size w wr)
  case atStart => exact ⟨0, _, _, rfl, Nat.zero_le _, rfl, rfl, World.ownsRow_nil _ _ _ _, Below.refl _ _⟩
  case round =>
    obtain ⟨k, A1, c1, hg, hk, rfl, rfl, hown, B⟩ := hrel
    have HG := hide hg
    clear hg
    have u0 : (0 : Int) ≤ (k : Int) := by omega
    by_cases hlt : k < N
    · have t1 : (k : Int) < (N : Int) := by omega
      have HEXk := hide (HEX.out k hlt)
      have RA : Rd wr w.heap.size A (us a) := ha.below B
      have RB : Rd wr w.heap.size A' (us b) := hb.below B
      go_wp2_with fail
      go_loop [7, 8] (fun s v => ∃ i : Nat, i ≤ k + 1 ∧ v = .int .i64 i ∧ s = .int .u64 (cv a b k i % 2305843009213693951 : Nat)) (fun s v => k + 1 - (intOf v).toNat)
      case atStart => exact ⟨0, by omega, rfl, by rw [H0.out]; rfl⟩
      case round =>
        obtain ⟨i, hi, rfl, rfl⟩ := hrel
        by_cases hik : i ≤ k
        · obtain ⟨q, hq⟩ : ∃ q, k = i + q := ⟨k - i, by omega⟩
          have t7 : (k : Int) - (i : Int) = (q : Int) := by omega
          have t8 : (i : Int) ≤ (k : Int) := by omega
          have q1 : q ≤ 1000000 := by omega
          have GA := hide (fun W h => HGA.out i (by omega) W h)
          have GB := hide (fun W h => HGB.out q q1 W h)
          have HPk := hide (HP.out i q)
          have HSk := hide (HS.out k i q hq)
          clear hq
          generalize a.getD i 0 * b.getD q 0 % 2305843009213693951 = v at *
          generalize a.getD i 0 = x at *
          generalize b.getD q 0 = y at *
          generalize cv a b k i % 2305843009213693951 = s at *
          generalize hs1 : cv a b k (i + 1) % 2305843009213693951 = s1 at *
          have HS1 := hide hs1
          clear hs1
          go_wp2_with ((first | (go_at_call 72; (with_reducible refine (GA.out _ RA).mono ?_)) | (go_at_call 72; (with_reducible refine (GB.out _ RB).mono ?_)) | (go_at_call 23; (with_reducible refine (HPk.out _).mono ?_)) | (go_at_call 27; (with_reducible refine (HSk.out _).mono ?_))); rintro e w3 ⟨rfl, rfl⟩)
          go_round
          case rel => exact ⟨i + 1, by omega, by go_num, by rw [HS1.out]⟩
          case measure => simp [intOf]; omega
        · have hik2 : i = k + 1 := by omega
          subst hik2
          generalize cv a b k (k + 1) % 2305843009213693951 = s at *
          go_wp2_with (at_builtin; (refine wp_append1 rfl _ _ _ rfl w.heap.size 22 _ (.int .u64 0) 8 Try.underlying36 Try.infoU64' rfl _ _ _ _ rfl hown _ rfl rfl (by omega) (by omega) B.size ?_))
          intro A2 c2 w2 hown2 hb2
          go_wp2_with fail
          go_roundg (N - (k + 1))
          case measure => rw [HG.out]; omega
          case rel => exact ⟨k + 1, A2, c2, rfl, by omega, by go_num, rfl, by rw [HEXk.out, us_append]; exact hown2, B.trans hb2⟩
    · have hkn : k = N := by omega
      subst hkn
      rw [HFULL.out] at hown
      have HT := hide (HTR.out _ c1 _ (Rs.of_own hown))
      go_wp2_with (go_at_call 41; (with_reducible refine HT.out.mono ?_); rintro e w3 ⟨A3, c3, rfl, hq, hb3⟩)
      go_ret
      exact ⟨A3, c3, rfl, hq, below_call B (Nat.le_refl _) hb3⟩
end Go.Proofs.Ytbgppkgcdmpajaa
