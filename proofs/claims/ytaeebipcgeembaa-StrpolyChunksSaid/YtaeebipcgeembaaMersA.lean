/-
  Walks of the fields' own functions: of, p, fold. Conditions: none.
-/
import Derived.Test.YtaeebipcgeembaaMersM
import Derived.Test.YtaeebipcgeembaaShr
import Derived.Deep.LoopGhost
import Derived.Deep.RegionWith
namespace Go.Proofs.Ytaeebipcgeembaa
open Go.RowKit Go.Shelf
set_option linter.unusedVariables false

set_option maxHeartbeats 400000 in
theorem of_f (k : Int) (w : World) : Calls Try.prog 45 #[.int .i64 k] w fun e w' => e = .returned (.int .i64 (fld k)) ∧ w = w' := by
  by_cases h1 : k = 31
  · subst h1
    go_enter Try.func45, Try.ntmps45
    go_wp2
    go_ret
    exact ⟨rfl, rfl⟩
  · have t1 : (k == 31) = false := by rw [beq_eq_false_iff_ne]; exact h1
    by_cases h2 : k = 61
    · subst h2
      go_enter Try.func45, Try.ntmps45
      go_wp2
      go_ret
      exact ⟨rfl, rfl⟩
    · have t2 : (k == 61) = false := by rw [beq_eq_false_iff_ne]; exact h2
      have e : fld k = 0 := by unfold fld; rw [if_neg h1, if_neg h2]
      rw [e]
      clear e h1 h2
      go_enter Try.func45, Try.ntmps45
      go_wp2
      go_ret
      exact ⟨rfl, rfl⟩
set_option maxHeartbeats 400000 in
theorem p_0 (w : World) : Calls Try.prog 55 #[.int .i64 0] w fun e w' => e = .returned (.int .u64 0) ∧ w = w' := by
  go_enter Try.func55, Try.ntmps55
  go_wp2
  go_ret
  exact ⟨rfl, rfl⟩
set_option maxHeartbeats 400000 in
theorem p_f (f p : Nat) (h : IsF f p) (w : World) : Calls Try.prog 55 #[.int .i64 f] w fun e w' => e = .returned (.int .u64 p) ∧ w = w' := by
  rcases h with ⟨rfl, rfl⟩ | ⟨rfl, rfl⟩
  · show Calls Try.prog 55 #[.int .i64 31] w _
    go_enter Try.func55, Try.ntmps55
    go_wp2
    go_ret
    exact ⟨rfl, rfl⟩
  · show Calls Try.prog 55 #[.int .i64 61] w _
    go_enter Try.func55, Try.ntmps55
    go_wp2
    go_ret
    exact ⟨rfl, rfl⟩
theorem hi_small {n : Nat} (h : n < 18446744073709551616) : hi64 n = 0 := by unfold hi64; omega
theorem lo_small {n : Nat} (h : n < 18446744073709551616) : lo64 n = n := by unfold lo64; omega
theorem cmp_l (X p : Nat) (hX : X < 340282366920938463463374607431768211456) (hp : p < 18446744073709551616) (w : World) : Calls Try.prog 59 #[.agg #[.int .u64 (hi64 (X) : Nat), .int .u64 (lo64 (X) : Nat)], .agg #[.int .u64 0, .int .u64 p]] w fun e w' => e = .returned (.int .i64 (cmpV X p)) ∧ Below w.heap.size w w' := by
  have h := cmp_u X p w
  rw [hi_small hp, lo_small hp, m128_id hX, m128_id (show p < 340282366920938463463374607431768211456 by omega)] at h
  exact h
theorem add_l (A D : Nat) (hA : A < 18446744073709551616) (w : World) : Calls Try.prog 43 #[.agg #[.int .u64 0, .int .u64 A], .agg #[.int .u64 (hi64 (D) : Nat), .int .u64 (lo64 (D) : Nat)]] w fun e w' => e = .returned (.tuple #[.agg #[.int .u64 (hi64 (A + D) : Nat), .int .u64 (lo64 (A + D) : Nat)], .bool (decide (340282366920938463463374607431768211456 ≤ m128 A + m128 D))]) ∧ Below w.heap.size w w' := by
  have h := addw_u A D w
  rw [hi_small hA, lo_small hA] at h
  exact h
set_option maxHeartbeats 400000 in
theorem fold_0 (X : Nat) (w : World) : Calls Try.prog 57 #[.int .i64 0, .agg #[.int .u64 (hi64 (X) : Nat), .int .u64 (lo64 (X) : Nat)]] w fun e w' => e = .returned (.int .u64 0) ∧ Below w.heap.size w w' := by
  go_enter Try.func57, Try.ntmps57
  go_wp2
  go_ret
  exact ⟨rfl, by (repeat (first | exact Below.refl _ _ | assumption | (refine Below.alloc ?_ (by first | omega | (simp; done) | (simp; omega)) _) | (refine Below.setCell ?_ (by first | omega | (simp; done) | (simp; omega)) _) | refine Below.drew ?_ | refine below_drewN ?_ _))⟩
set_option maxHeartbeats 4000000 in
theorem fold_f (f p : Nat) (hF : IsF f p) (X : Nat) (w : World) : Calls Try.prog 57 #[.int .i64 f, .agg #[.int .u64 (hi64 (X) : Nat), .int .u64 (lo64 (X) : Nat)]] w fun e w' => e = .returned (.int .u64 (X % 340282366920938463463374607431768211456 % p : Nat)) ∧ Below w.heap.size w w' := by
  obtain ⟨hf0, hf1, h2f, hp0, hp1⟩ := isF_facts hF
  have H2f := hide h2f
  have HF := hide hF
  clear h2f hF
  have t0 : ((f : Int) == 0) = false := by rw [beq_eq_false_iff_ne]; omega
  go_enter Try.func57, Try.ntmps57
  go_wp2_with (go_at_call 55; refine (p_f f p HF.out _).mono ?_; rintro e w' ⟨rfl, rfl⟩)
  have B0 : Below w.heap.size w ((w.alloc (.cells #[.int .u64 (hi64 X : Nat), .int .u64 (lo64 X : Nat)] 61)).alloc (.cells #[.int .u64 0, .int .u64 (p : Nat)] 61)) := by (repeat (first | exact Below.refl _ _ | assumption | (refine Below.alloc ?_ (by first | omega | (simp; done) | (simp; omega)) _) | (refine Below.setCell ?_ (by first | omega | (simp; done) | (simp; omega)) _) | refine Below.drew ?_ | refine below_drewN ?_ _))
  go_loopg [] (m128 X) (fun k wr => BoxU wr w.heap.size k ∧ Box2 wr (w.heap.size + 1) (.int .u64 0) (.int .u64 (p : Nat)) ∧ k < 340282366920938463463374607431768211456 ∧ Hid (k % p = m128 X % p) ∧ Below w.heap.size w wr)
  case atStart =>
    refine ⟨?_, ?_, m128_lt X, hide rfl, B0⟩
    · show Box2 _ _ _ _
      rw [hi64_m, lo64_m]
      exact (by (refine ⟨?_, ?_, ?_, ?_, ?_⟩ <;> simp [go_sem] <;> omega))
    · exact (by (refine ⟨?_, ?_, ?_, ?_, ?_⟩ <;> simp [go_sem] <;> omega))
  case round =>
    obtain ⟨X1, P1, hk, hM, B⟩ := hrel
    clear B0
    have bz := B.size
    by_cases hlt : p < gk
    · have hv : cmpV gk p = 1 := by unfold cmpV; rw [if_neg (by omega), if_neg (by omega)]
      obtain ⟨A, hA⟩ : ∃ A, A = gk % 2 ^ f := ⟨_, rfl⟩
      obtain ⟨D, hD⟩ : ∃ D, D = gk / 2 ^ f := ⟨_, rfl⟩
      have hle : A + D < gk := by rw [hA, hD]; exact fold_less HF.out hlt
      have hA1 : A < 18446744073709551616 := by
        rw [hA]
        have := Nat.mod_lt gk (Nat.two_pow_pos f)
        have e := H2f.out
        omega
      have eA : bits .and .u64 ((lo64 gk : Nat) : Int) ((p : Nat) : Int) = ((A : Nat) : Int) := by
        rw [bits_and_u64_nat _ _ (lo64_lt _) (by omega), and_low HF.out, lo_mod hf1, hA]
      have hS : (A + D) % p = m128 X % p := by rw [hA, hD, fold_same gk HF.out]; exact hM.out
      have HS := hide hS
      have C1 : Hid (∀ W, Calls Try.prog 60 #[.agg #[.int .u64 (hi64 (gk) : Nat), .int .u64 (lo64 (gk) : Nat)], .int .i64 f] W (Ret128 W D)) := fun W => by
        have h := shr_u gk f W hf0 hf1
        rw [m128_id hk, ← hD] at h
        exact h
      clear hS hA hD hM
      go_wp2_with fail
      refine (cmp_l gk p hk (by omega) _).mono ?_
      rintro e w1 ⟨rfl, hb⟩
      rw [hv]
      replace X1 := BoxU.call hb X1
      replace P1 := Box2.call hb P1
      replace B : Below w.heap.size w w1 := below_call B (Nat.le_refl _) hb
      clear hb hv
      go_wp2_with fail
      go_region_with (((first | (go_at_call 60; (with_reducible refine (C1.out _).mono ?_)) | (go_at_call 43; (with_reducible refine (add_l A D hA1 _).mono ?_))); rintro e w2 ⟨rfl, hb⟩; replace X1 := BoxU.call hb X1; replace P1 := Box2.call hb P1; replace B : Below w.heap.size w w2 := below_call (by (repeat (first | exact Below.refl _ _ | assumption | (refine Below.alloc ?_ (by first | omega | (simp; done) | (simp; omega)) _) | (refine Below.setCell ?_ (by first | omega | (simp; done) | (simp; omega)) _) | refine Below.drew ?_ | refine below_drewN ?_ _))) (Nat.le_refl _) hb; clear hb))
      all_goals
        have by1 := B.size
        go_wp2
        go_roundg (A + D)
        case measure => exact hle
        case rel =>
          obtain ⟨a1, a2, a3, a4, a5⟩ := X1
          obtain ⟨b1, b2, b3, b4, b5⟩ := P1
          refine ⟨?_, ?_, by omega, HS, by (repeat (first | exact Below.refl _ _ | assumption | (refine Below.alloc ?_ (by first | omega | (simp; done) | (simp; omega)) _) | (refine Below.setCell ?_ (by first | omega | (simp; done) | (simp; omega)) _) | refine Below.drew ?_ | refine below_drewN ?_ _))⟩
          · refine ⟨?_, ?_, ?_, ?_, ?_⟩ <;> simp [go_sem, *]
          · refine ⟨?_, ?_, ?_, ?_, ?_⟩ <;> simp [go_sem, *]
    · have hle : gk ≤ p := by omega
      have e1 : hi64 gk = 0 := hi_small (by omega)
      have e2 : lo64 gk = gk := lo_small (by omega)
      have hM2 := hM.out
      clear hM
      have C2 : Hid (∀ W, Calls Try.prog 59 #[.agg #[.int .u64 0, .int .u64 gk], .agg #[.int .u64 0, .int .u64 p]] W fun e w' => e = .returned (.int .i64 (cmpV gk p)) ∧ Below W.heap.size W w') := fun W => by
        have h := cmp_l gk p hk (by omega) W
        rw [e1, e2] at h
        exact h
      have X2 : Box2 wr w.heap.size (.int .u64 0) (.int .u64 (gk : Nat)) := by
        have h := X1
        unfold BoxU at h
        rw [e1, e2] at h
        exact h
      clear X1 e1 e2
      by_cases he : gk = p
      · have hv : cmpV gk p = 0 := by unfold cmpV; rw [if_neg (by omega), if_pos he]
        have hr : X % 340282366920938463463374607431768211456 % p = 0 := by
          show m128 X % p = 0
          rw [← hM2, he, Nat.mod_self]
        have HR := hide hr
        have t1 : ((gk : Int) == (p : Int)) = true := by rw [beq_iff_eq]; omega
        clear hr he hM2
        go_wp2_with fail
        refine (C2.out _).mono ?_
        rintro e w1 ⟨rfl, hb⟩
        rw [hv]
        replace X2 := Box2.call hb X2
        replace P1 := Box2.call hb P1
        replace B : Below w.heap.size w w1 := below_call B (Nat.le_refl _) hb
        clear hb hv
        go_wp2
        go_ret
        exact ⟨by rw [HR.out]; rfl, B⟩
      · have hv : cmpV gk p = -1 := by unfold cmpV; rw [if_pos (by omega)]
        have hr : X % 340282366920938463463374607431768211456 % p = gk := by
          show m128 X % p = gk
          rw [← hM2, Nat.mod_eq_of_lt (by omega)]
        have HR := hide hr
        have t1 : ((gk : Int) == (p : Int)) = false := by rw [beq_eq_false_iff_ne]; omega
        clear hr he hM2
        go_wp2_with fail
        refine (C2.out _).mono ?_
        rintro e w1 ⟨rfl, hb⟩
        rw [hv]
        replace X2 := Box2.call hb X2
        replace P1 := Box2.call hb P1
        replace B : Below w.heap.size w w1 := below_call B (Nat.le_refl _) hb
        clear hb hv
        go_wp2
        go_ret
        exact ⟨ret_i (by rw [HR.out]), B⟩
end Go.Proofs.Ytaeebipcgeembaa
