/-
  The reference's Chunks hands back a text's numbers. Conditions: bytes, no more than 4096.
-/
import Derived.Test.YtaeebipcgeembaaStrN
import Derived.Test.YtaeebipcgeembaaStrE
import Derived.Test.YtaeebipcgeembaaWords
namespace Go.Proofs.Ytaeebipcgeembaa
open Go.RowKit
set_option linter.unusedVariables false

theorem wrap_i {x : Int} (h0 : 0 ≤ x) (h1 : x < 9223372036854775808) : IntKind.i64.wrap x = x := wrap_i64_of h0 h1
theorem wu_mul256 {M M2 : Nat} (h : M ≤ 256 ^ 6) (h2 : M2 = M * 256) : IntKind.u64.wrap ((M : Int) * 256) = (M2 : Int) := by
  have e : (M : Int) * 256 = (M2 : Int) := by omega
  rw [e, wrap_u64_of (by omega)]
theorem wu_plus {v M : Nat} (h : v < M) (h2 : M ≤ 256 ^ 6) : IntKind.u64.wrap ((v : Int) + (M : Int)) = ((v + M : Nat) : Int) := by
  have e : (v : Int) + (M : Int) = ((v + M : Nat) : Int) := by omega
  rw [e, wrap_u64_of (by omega)]
set_option maxRecDepth 100000 in
set_option maxHeartbeats 4000000 in
theorem chunks_r (bs : List Nat) (hby : ∀ x ∈ bs, x < 256) (A : Option Addr) (c m : Nat) (w : World) (hm : bs.length = m) (hm2 : m ≤ 4096) (hr : Rs w A (by8 bs)) :
    Calls Try.prog 17 #[.slice A m c] w (RetL w (chunksN bs)) := by
  have HN := hide (fun a n (h1 : a + n ≤ m) (h2 : n ≤ 7) W (h : Rd W w.heap.size A (by8 bs)) => num_r bs hby A c m a n w.heap.size W hm hm2 h1 h2 h)
  have HLT := hide (fun k => leN_lt (bs.drop k) (fun x hx => hby x (List.mem_of_mem_drop hx)))
  have HCH := hide (fun k (h : k + 7 ≤ m) => show chunksN (bs.drop k) = leN ((bs.drop k).take 7) :: chunksN (bs.drop (k + 7)) by
    conv => lhs; rw [chunksN, dif_neg (by rw [List.length_drop]; omega)]
    rw [List.drop_drop])
  have HCE := hide (fun k (h : ¬ k + 7 ≤ m) => show chunksN (bs.drop k) = [leN (bs.drop k) + 256 ^ (m - k)] by
    rw [chunksN, dif_pos (by rw [List.length_drop]; omega), List.length_drop, hm])
  have HTK := hide (fun k (h : k ≤ m) => show (bs.drop k).take (m - k) = bs.drop k from List.take_of_length_le (by rw [List.length_drop]; omega))
  have HDL := hide (fun k => show (bs.drop k).length = m - k by rw [List.length_drop, hm])
  have H0 := hide (show chunksN (bs.drop 0) = chunksN bs by simp)
  have HR0 := hide hr
  clear hm hby hr
  go_enter Try.func17, Try.ntmps17
  go_wp2_with fail
  go_loopg [3, 4] m (fun g v3 v4 wr => ∃ (k j : Nat) (A1 : Option Addr) (c1 : Nat) (pre : List Nat), g = m - k ∧ k ≤ m ∧ v4 = .int .i64 k ∧ v3 = .slice A1 j c1 ∧ wr.ownsRow w.heap.size 22 1 (.slice A1 j c1) j (us pre) ∧ Hid (pre.length = j) ∧ j ≤ k ∧ Hid (pre ++ chunksN (bs.drop k) = chunksN bs) ∧ Below w.heap.size w wr)
  case atStart => exact ⟨0, 0, _, _, [], rfl, Nat.zero_le _, rfl, rfl, World.ownsRow_nil _ _ _ _, hide rfl, Nat.le_refl _, hide (by rw [H0.out]; rfl), Below.refl _ _⟩
  case round =>
    obtain ⟨k, j, A1, c1, pre, hg, hk, rfl, rfl, hown, HJ, hjk, HC, B⟩ := hrel
    have HG := hide hg
    clear hg
    have RA : Rd wr w.heap.size A (by8 bs) := Rd.below HR0.out B
    have e1 : IntKind.i64.wrap ((k : Int) + 7) = (k : Int) + 7 := wrap_i (by omega) (by omega)
    by_cases hlt : k + 7 ≤ m
    · have t1 : (k : Int) + 7 ≤ (m : Int) := by omega
      have h7 : Calls Try.prog 34 #[.slice A m c, .int .i64 k, .int .i64 7] wr fun e w' => e = .returned (.int .u64 (leN ((bs.drop k).take 7) : Nat)) ∧ wr = w' := HN.out k 7 hlt (by omega) wr RA
      have HNk := hide h7
      clear h7
      have HCk := hide (HCH.out k hlt)
      obtain ⟨v, hv⟩ : ∃ v, v = leN ((bs.drop k).take 7) := ⟨_, rfl⟩
      rw [← hv] at HNk HCk
      clear hv
      go_wp2_with (first | ((go_at_call 34); (with_reducible refine HNk.out.mono ?_); rintro e w3 ⟨rfl, rfl⟩) | (at_builtin; (refine wp_append1 rfl _ _ _ rfl w.heap.size 22 _ (.int .u64 0) 8 Try.underlying33 Try.infoU64' rfl _ _ _ _ rfl hown _ rfl rfl (by omega) (by omega) B.size ?_)))
      intro A2 c2 w4 hown2 hb2
      go_wp2_with fail
      go_roundg (m - (k + 7))
      case measure => rw [HG.out]; omega
      case rel => exact ⟨k + 7, j + 1, A2, c2, pre ++ [v], rfl, by omega, by go_num, rfl, by rw [us_append]; exact hown2, hide (by rw [List.length_append, HJ.out]; rfl), by omega, hide (by rw [← HC.out, HCk.out, List.append_assoc]; rfl), B.trans hb2⟩
    · have t1 : ¬ (k : Int) + 7 ≤ (m : Int) := by omega
      have HCk := hide (HCE.out k hlt)
      have HLk := hide (HLT.out k)
      rw [HDL.out k] at HLk
      go_wp2_with fail
      go_loop [5, 6] (fun v5 v6 => ∃ i M : Nat, k ≤ i ∧ i ≤ m ∧ v6 = .int .i64 i ∧ v5 = .int .u64 M ∧ Hid (M = 256 ^ (i - k))) (fun _ v6 => m - (intOf v6).toNat)
      case atStart => exact ⟨k, 1, Nat.le_refl _, hk, rfl, rfl, hide (by simp)⟩
      case round =>
        obtain ⟨i, M, hki, him, rfl, rfl, HM⟩ := hrel
        by_cases hi : i < m
        · have t2 : (i : Int) < (m : Int) := by omega
          have hM2 : M ≤ 256 ^ 6 := by rw [HM.out]; exact Nat.pow_le_pow_right (by decide) (by omega)
          obtain ⟨M2, hMM⟩ : ∃ M2, M2 = M * 256 := ⟨_, rfl⟩
          have e2 : IntKind.u64.wrap ((M : Int) * 256) = (M2 : Int) := wu_mul256 hM2 hMM
          have HM2 := hide (show M2 = 256 ^ (i + 1 - k) by rw [show i + 1 - k = i - k + 1 by omega, Nat.pow_succ, hMM, HM.out])
          clear hM2 hMM
          go_wp2_with fail
          go_round
          case rel => exact ⟨i + 1, M2, by omega, by omega, by go_num, rfl, HM2⟩
          case measure => simp [intOf]; omega
        · have t2 : ¬ (i : Int) < (m : Int) := by omega
          obtain rfl : i = m := by omega
          have HNk := hide (HN.out k (i - k) (by omega) (by omega) wr RA)
          rw [HTK.out k hk] at HNk
          obtain ⟨d, hd⟩ : ∃ d, d = i - k := ⟨_, rfl⟩
          have e3 : IntKind.i64.wrap ((i : Int) - (k : Int)) = (d : Int) := by rw [wrap_i (by omega) (by omega)]; omega
          have hM2 : M ≤ 256 ^ 6 := by rw [HM.out]; exact Nat.pow_le_pow_right (by decide) (by omega)
          have hL2 : leN (bs.drop k) < M := by rw [HM.out]; exact HLk.out
          rw [← hd] at HNk
          obtain ⟨v, hv⟩ : ∃ v, v = leN (bs.drop k) := ⟨_, rfl⟩
          rw [← HM.out, ← hv] at HCk
          rw [← hv] at HNk hL2
          obtain ⟨X, hX⟩ : ∃ X, X = v + M := ⟨_, rfl⟩
          rw [← hX] at HCk
          have e4 : IntKind.u64.wrap ((v : Int) + (M : Int)) = (X : Int) := by rw [hX]; exact wu_plus hL2 hM2
          have HEND := hide (show pre ++ [X] = chunksN bs by rw [← HC.out, HCk.out])
          have HLEN := hide (show (chunksN bs).length = j + 1 by rw [← HEND.out, List.length_append, HJ.out]; rfl)
          clear hv hX hd hL2 hM2
          go_wp2_with (first | ((go_at_call 34); (with_reducible refine HNk.out.mono ?_); rintro e w3 ⟨rfl, rfl⟩) | (at_builtin; (refine wp_append1 rfl _ _ _ rfl w.heap.size 22 _ (.int .u64 0) 8 Try.underlying33 Try.infoU64' rfl _ _ _ _ rfl hown _ rfl rfl (by omega) (by omega) B.size ?_)))
          intro A2 c2 w4 hown2 hb2
          go_wp2_with fail
          go_ret
          refine ⟨A2, c2, by rw [HLEN.out]; rfl, ?_, B.trans hb2⟩
          rw [← HEND.out, us_append]
          exact Rs.of_own hown2
end Go.Proofs.Ytaeebipcgeembaa
