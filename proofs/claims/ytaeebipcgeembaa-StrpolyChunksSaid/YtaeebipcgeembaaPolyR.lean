/-
  Walks of chapter 18's reference: Check, Value, Eval, Minus. Conditions: slices no longer than the form lets them be.
-/
import Derived.Test.YtaeebipcgeembaaPolyC
namespace Go.Proofs.Ytaeebipcgeembaa
open Go.RowKit Go.Shelf
set_option linter.unusedVariables false

theorem any_take {row : List Nat} {k : Nat} (h : k < row.length) (hb : badP row[k] = true) : row.any badP = true := List.any_eq_true.2 ⟨_, List.getElem_mem h, hb⟩
theorem any_none {row : List Nat} (h : ∀ j (h : j < row.length), badP row[j] = false) : row.any badP = false := by
  rw [List.any_eq_false]
  intro x hx
  obtain ⟨j, hj, rfl⟩ := List.getElem_of_mem hx
  simp [h j hj]
theorem badP_yes {x : Nat} (h : 2305843009213693951 ≤ x) : badP x = true := by unfold badP; simp; omega
theorem badP_no {x : Nat} (h : x < 2305843009213693951) : badP x = false := by unfold badP; simp; omega

theorem mulP_r (a b : Nat) (ha : a < 18446744073709551616) (hb : b < 18446744073709551616) (W : World) : Calls Try.prog 29 #[.int .u64 a, .int .u64 b, .int .u64 2305843009213693951] W fun e w' => e = .returned (.int .u64 (a * b % 2305843009213693951 : Nat)) ∧ W = w' := by
  have h := rmul_any a b 2305843009213693951 ha hb (by omega) W
  rw [mdn_pos (by omega)] at h
  exact h
theorem addP_r (a b : Nat) (ha : a < 18446744073709551616) (hb : b < 18446744073709551616) (W : World) : Calls Try.prog 28 #[.int .u64 a, .int .u64 b, .int .u64 2305843009213693951] W fun e w' => e = .returned (.int .u64 ((a + b) % 2305843009213693951 : Nat)) ∧ W = w' := by
  have h := radd_any a b 2305843009213693951 ha hb (by omega) W
  rw [mdn_pos (by omega)] at h
  exact h
set_option maxHeartbeats 1000000 in
theorem value_r (A : Option Addr) (c B n x : Nat) (l : List Nat) (w : World) (hr : Rd w B A (us l)) (hl : l.length = n) (hn : n ≤ 17592186043904) (hw : ∀ y ∈ l, y < 18446744073709551616) (hx : x < 18446744073709551616) :
    Calls Try.prog 22 #[.slice A n c, .int .u64 x] w fun e w' => e = .returned (.int .u64 (pval l x % 2305843009213693951 : Nat)) ∧ w = w' := by
  subst hl
  have HW := hide hw
  clear hw
  have HM := hide mulP_r
  have HA := hide addP_r
  go_enter Try.func22, Try.ntmps22
  go_wp2_with fail
  go_loop [5, 6, 11] (fun s q i => ∃ k m t : Nat, k ≤ l.length ∧ i = .int .i64 k ∧ s = .int .u64 m ∧ q = .int .u64 t ∧ m < 2305843009213693951 ∧ t < 2305843009213693951 ∧ Hid (m = pval (l.take k) x % 2305843009213693951) ∧ Hid (t = x ^ k % 2305843009213693951)) (fun s q i => l.length - (intOf i).toNat)
  case atStart => exact ⟨0, 0, 1, Nat.zero_le _, rfl, rfl, rfl, by omega, by omega, hide rfl, hide rfl⟩
  case round =>
    obtain ⟨k, m, t, hk, rfl, rfl, rfl, hm, ht, hM, hT⟩ := hrel
    by_cases hlt : k < l.length
    · obtain ⟨b, o, rfl, hb, hc⟩ := hr.u hlt
      have hy : l[k] < 18446744073709551616 := HW.out _ (List.getElem_mem hlt)
      have hm' : ((m + l[k] * t % 2305843009213693951) % 2305843009213693951) = pval (l.take (k + 1)) x % 2305843009213693951 := by
        rw [pval_take l k x hlt, hM.out, hT.out, Nat.add_mod, Nat.mod_mod, Nat.mod_mod, Nat.mul_mod, Nat.mod_mod, ← Nat.mul_mod, ← Nat.add_mod]
      have ht' : t * x % 2305843009213693951 = x ^ (k + 1) % 2305843009213693951 := by
        rw [hT.out, Nat.pow_succ, Nat.mul_mod, Nat.mod_mod, ← Nat.mul_mod]
      have H1 := hide (HM.out l[k] t hy (by omega))
      have H2 := hide (HA.out m (l[k] * t % 2305843009213693951) (by omega) (by omega))
      have H3 := hide (HM.out t x (by omega) hx)
      rw [hm'] at H2
      rw [ht'] at H3
      generalize l[k] = y at *
      generalize y * t % 2305843009213693951 = yt at *
      have r1 : pval (l.take (k + 1)) x % 2305843009213693951 < 2305843009213693951 := Nat.mod_lt _ (by omega)
      have r2 : x ^ (k + 1) % 2305843009213693951 < 2305843009213693951 := Nat.mod_lt _ (by omega)
      clear hm' ht'
      generalize hp1 : pval (l.take (k + 1)) x % 2305843009213693951 = m1 at *
      generalize hp2 : x ^ (k + 1) % 2305843009213693951 = t1 at *
      have HP1 := hide hp1.symm
      have HP2 := hide hp2.symm
      clear hp1 hp2
      go_wp2_with (first | (go_at_call 29; (with_reducible refine (H1.out _).mono ?_); rintro e w' ⟨rfl, rfl⟩) | (go_at_call 29; (with_reducible refine (H3.out _).mono ?_); rintro e w' ⟨rfl, rfl⟩) | (go_at_call 28; (with_reducible refine (H2.out _).mono ?_); rintro e w' ⟨rfl, rfl⟩))
      go_round
      case rel => exact ⟨k + 1, m1, t1, by omega, by go_num, rfl, rfl, r1, r2, HP1, HP2⟩
      case measure => simp [intOf]; omega
    · go_wp2_with fail
      go_ret
      have hkb : k = l.length := by omega
      subst hkb
      have h := hM.out
      rw [List.take_length] at h
      exact ⟨ret_i (by omega), rfl⟩

end Go.Proofs.Ytaeebipcgeembaa
