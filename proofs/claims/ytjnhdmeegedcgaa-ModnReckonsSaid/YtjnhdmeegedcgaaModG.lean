/-
  Walks of the greatest common divisors, the program's and the reference's, and of modn.Inv. Conditions: numbers fit 64 bits.
-/
import Derived.Test.YtjnhdmeegedcgaaModW
import Derived.ScopeJumps
import Derived.WalkMore
namespace Go.Proofs.Ytjnhdmeegedcgaa
open Go.RowKit Go.Shelf
set_option linter.unusedVariables false

set_option maxRecDepth 100000 in
set_option maxHeartbeats 2000000 in
theorem mgcd_any (a b : Nat) (w : World) : Calls Try.prog 12 #[.int .u64 a, .int .u64 b] w fun e w' => e = .returned (.int .u64 (Nat.gcd a b : Nat)) ∧ Below w.heap.size w w' := by
  obtain ⟨G, hG⟩ : ∃ G, G = Nat.gcd a b := ⟨_, rfl⟩
  rw [← hG]
  have HG := hide hG
  clear hG
  go_enter Try.func12, Try.ntmps12
  go_wp2_with fail
  have pass : ∀ (A B : Nat) (u5 u6 u7 u8 u9 u10 u11 : Value) (wr : World), Hid (Nat.gcd A B = G) → Below w.heap.size w wr → True := fun _ _ _ _ _ _ _ _ _ _ _ _ => trivial
  refine wp_scope_jumps 0 (fun a' w' => ∃ (A B : Nat) (u5 u6 u7 u8 u9 u10 u11 : Value), a' = { tmps := #[.int .u64 A, .int .u64 B, undef, undef, .int .u64 0, u5, u6, u7, u8, u9, u10, u11], defers := [] } ∧ Hid (Nat.gcd A B = G) ∧ Below w.heap.size w w') (fun a' _ => (intOf (a'.tmps.getD 1 undef)).toNat) rfl ?_ ?_
  · by_cases hb : b = 0
    · subst hb
      have hg := HG.out
      rw [Nat.gcd_zero_right] at hg
      have HG2 := hide hg
      clear hg pass
      go_wp2_with fail
      go_step3
      go_wp2_with fail
      simp only [Exit.jump]
      go_ret
      exact ⟨ret_i (by rw [HG2.out]), Below.refl _ _⟩
    · obtain ⟨t0, t1⟩ := ne0_facts hb
      obtain ⟨r, hr⟩ : ∃ r, r = a % b := ⟨_, rfl⟩
      have e1 : (a : Int) % (b : Int) = (r : Int) := by rw [hr]; rfl
      have e1t : (a : Int).tmod (b : Int) = (r : Int) := by rw [hr]; rfl
      have HN := hide (show Nat.gcd b r = G by rw [HG.out, hr, Nat.gcd_comm b, ← Nat.gcd_rec, Nat.gcd_comm])
      clear hr hb pass
      go_wp2_with fail
      go_step3
      go_wp2_with fail
      go_quiet (fail)
      go_wp2_with fail
      go_step3
      exact ⟨rfl, b, r, _, _, _, _, _, _, _, rfl, HN, by (repeat (first | exact Below.refl _ _ | assumption | (refine Below.alloc ?_ (by first | omega | (simp; done) | (simp; omega)) _) | (refine Below.setCell ?_ (by first | omega | (simp; done) | (simp; omega)) _) | refine Below.drew ?_ | refine below_drewN ?_ _))⟩
  · rintro a' w' ⟨A, B, u5, u6, u7, u8, u9, u10, u11, rfl, hg, hB⟩
    clear pass
    by_cases hb : B = 0
    · subst hb
      have hg := hg.out
      rw [Nat.gcd_zero_right] at hg
      have HG2 := hide hg
      clear hg
      go_wp2_with fail
      simp only [Exit.jump]
      go_ret
      exact ⟨ret_i (by rw [HG2.out]), hB⟩
    · obtain ⟨t0, t1⟩ := ne0_facts hb
      obtain ⟨r, hr⟩ : ∃ r, r = A % B := ⟨_, rfl⟩
      have e1 : (A : Int) % (B : Int) = (r : Int) := by rw [hr]; rfl
      have e1t : (A : Int).tmod (B : Int) = (r : Int) := by rw [hr]; rfl
      have HN := hide (show Nat.gcd B r = G by rw [← hg.out, hr, Nat.gcd_comm B, ← Nat.gcd_rec, Nat.gcd_comm])
      have hlt : r < B := by rw [hr]; exact Nat.mod_lt _ (by omega)
      have HLT := hide hlt
      clear hr hb hlt
      go_wp2_with fail
      go_quiet (fail)
      go_wp2_with fail
      go_step3
      refine ⟨rfl, ⟨B, r, _, _, _, _, _, _, _, rfl, HN, by (repeat (first | exact Below.refl _ _ | assumption | (refine Below.alloc ?_ (by first | omega | (simp; done) | (simp; omega)) _) | (refine Below.setCell ?_ (by first | omega | (simp; done) | (simp; omega)) _) | refine Below.drew ?_ | refine below_drewN ?_ _))⟩, ?_⟩
      simp [intOf]
      exact HLT.out
theorem gcd_half_odd {a b : Nat} (hb : b % 2 = 1) : Nat.gcd (2 * a) b = Nat.gcd a b :=
  Nat.Coprime.gcd_mul_left_cancel a (by
    have h := Nat.gcd_rec 2 b
    rw [hb] at h
    exact h.trans (Nat.gcd_one_left 2))
theorem gcd_two_two (a b : Nat) : Nat.gcd (2 * a) (2 * b) = 2 * Nat.gcd a b := Nat.gcd_mul_left 2 a b
theorem gcd_less {a b : Nat} (h : b ≤ a) : Nat.gcd (a - b) b = Nat.gcd a b := by
  obtain ⟨d, rfl⟩ := Nat.exists_eq_add_of_le h
  rw [Nat.add_sub_cancel_left, Nat.gcd_comm, Nat.gcd_comm (b + d)]
  simp
theorem par_facts (n : Nat) : (((n : Int) % 2 == 0) = decide (n % 2 = 0)) := by
  rw [Bool.eq_iff_iff, beq_iff_eq, decide_eq_true_iff]
  omega
set_option maxRecDepth 100000 in
set_option maxHeartbeats 4000000 in
theorem rgcd_any (a b : Nat) (ha : a < 18446744073709551616) (hb : b < 18446744073709551616) (w : World) : Calls Try.prog 13 #[.int .u64 a, .int .u64 b] w fun e w' => e = .returned (.int .u64 (Nat.gcd a b : Nat)) ∧ w = w' := by
  by_cases h0 : a = 0
  · subst h0
    rw [Nat.gcd_zero_left]
    have e1 : IntKind.u64.wrap (0 + (b : Int)) = (b : Int) := by rw [Int.zero_add]; exact wu hb
    have e2 : IntKind.u64.wrap (b : Int) = (b : Int) := wu hb
    clear ha hb
    show Calls Try.prog 13 #[.int .u64 0, .int .u64 b] w _
    go_enter Try.func13, Try.ntmps13
    go_wp2_with fail
    go_ret
    exact ⟨rfl, rfl⟩
  · by_cases h1 : b = 0
    · subst h1
      rw [Nat.gcd_zero_right]
      obtain ⟨t0, t1⟩ := ne0_facts h0
      have e1 : IntKind.u64.wrap ((a : Int) + 0) = (a : Int) := by rw [Int.add_zero]; exact wu ha
      have e2 : IntKind.u64.wrap (a : Int) = (a : Int) := wu ha
      clear ha hb h0
      show Calls Try.prog 13 #[.int .u64 a, .int .u64 0] w _
      go_enter Try.func13, Try.ntmps13
      go_wp2_with fail
      go_ret
      exact ⟨rfl, rfl⟩
    · obtain ⟨t0, t1⟩ := ne0_facts h0
      obtain ⟨t2, t3⟩ := ne0_facts h1
      obtain ⟨G, hG⟩ : ∃ G, G = Nat.gcd a b := ⟨_, rfl⟩
      rw [← hG]
      have HG := hide hG
      have HA := hide ha
      have HAM := hide ha; have HBM := hide hb
      have HA0 := hide (show 0 < a by omega)
      have HB0 := hide (show 0 < b by omega)
      clear hG ha hb h0 h1
      go_enter Try.func13, Try.ntmps13
      go_wp2_with fail
      go_loopg [0, 1, 5] a (fun g va vb vt wr => ∃ A B t : Nat, g = A ∧ va = .int .u64 A ∧ vb = .int .u64 B ∧ vt = .int .u64 t ∧ Hid (Nat.gcd A B * t = G) ∧ Hid (A * t ≤ a) ∧ Hid (0 < A) ∧ Hid (0 < B) ∧ Hid (A < 18446744073709551616) ∧ Hid (B < 18446744073709551616) ∧ w = wr)
      case atStart => exact ⟨a, b, 1, rfl, rfl, rfl, rfl, hide (by rw [Nat.mul_one, HG.out]), hide (by omega), HA0, HB0, HAM, HBM, rfl⟩
      case round =>
        obtain ⟨A, B, t, hg, rfl, rfl, rfl, hgc, hle, hA0, hB0, hAM, hBM, rfl⟩ := hrel
        have HM := hide hg
        clear hg
        have p1 := par_facts A
        have p2 := par_facts B
        by_cases hev : A % 2 = 0 ∧ B % 2 = 0
        · obtain ⟨A', hA'⟩ : ∃ x, A = 2 * x := ⟨A / 2, by omega⟩
          obtain ⟨B', hB'⟩ : ∃ x, B = 2 * x := ⟨B / 2, by omega⟩
          rw [decide_eq_true hev.1] at p1
          rw [decide_eq_true hev.2] at p2
          have e1 : (A : Int) / 2 = (A' : Int) := by omega
          have e2 : (B : Int) / 2 = (B' : Int) := by omega
          have e4 : IntKind.u64.wrap (A' : Int) = (A' : Int) := wu (by have := hAM.out; omega)
          have e5 : IntKind.u64.wrap (B' : Int) = (B' : Int) := wu (by have := hBM.out; omega)
          have HN5 := hide (show A' < 18446744073709551616 by have := hAM.out; omega)
          have HN6 := hide (show B' < 18446744073709551616 by have := hBM.out; omega)
          obtain ⟨t', ht'⟩ : ∃ x, x = t * 2 := ⟨_, rfl⟩
          have hAt : A' * t' = A * t := by rw [ht', hA']; grind
          have htt : t' ≤ A * t := by rw [← hAt]; exact Nat.le_mul_of_pos_left _ (by have := hA0.out; omega)
          have e3 : IntKind.u64.wrap ((t : Int) * 2) = (t' : Int) := wu_mul (b := 2) (by rw [← ht', Nat.mod_eq_of_lt]; have := hle.out; have := HA.out; omega)
          have HN1 := hide (show Nat.gcd A' B' * t' = G by rw [← hgc.out, hA', hB', gcd_two_two, ht']; grind)
          have HN2 := hide (show A' * t' ≤ a by rw [hAt]; exact hle.out)
          have HN3 := hide (show 0 < A' by have := hA0.out; omega)
          have HN4 := hide (show 0 < B' by have := hB0.out; omega)
          have HLT := hide (show A' < A by have := hA0.out; omega)
          clear hev hA' hB' ht' hAt htt
          go_wp2_with fail
          go_roundg A'
          case measure => rw [HM.out]; exact HLT.out
          case rel => exact ⟨A', B', t', rfl, rfl, rfl, rfl, HN1, HN2, HN3, HN4, HN5, HN6, rfl⟩
        · have hex : ((A : Int) % 2 == 0) = false ∨ (((A : Int) % 2 == 0) = true ∧ ((B : Int) % 2 == 0) = false) := by
            rw [p1, p2]
            by_cases h : A % 2 = 0
            · exact .inr ⟨decide_eq_true h, decide_eq_false fun h2 => hev ⟨h, h2⟩⟩
            · exact .inl (decide_eq_false h)
          have HEV := hide (show A % 2 = 1 ∨ B % 2 = 1 by omega)
          clear hev p1 p2
          have inner : ∀ (W : World), True := fun _ => trivial
          rcases hex with q1 | ⟨q1, q2⟩
          all_goals
            go_wp2_with fail
            go_loopg [0, 1] (A + B) (fun g va vb wr => ∃ X Y : Nat, g = X + Y ∧ va = .int .u64 X ∧ vb = .int .u64 Y ∧ Hid (Nat.gcd X Y * t = G) ∧ Hid (X * t ≤ a) ∧ Hid (X % 2 = 1 ∨ Y % 2 = 1) ∧ Hid (0 < X) ∧ Hid (0 < Y) ∧ Hid (X < 18446744073709551616) ∧ Hid (Y < 18446744073709551616) ∧ w = wr)
            case atStart => exact ⟨A, B, rfl, rfl, rfl, hgc, hle, HEV, hA0, hB0, hAM, hBM, rfl⟩
            case round =>
              clear inner
              obtain ⟨X, Y, hg, rfl, rfl, hgc, hle, hpar, hX0, hY0, hXM, hYM, rfl⟩ := hrel
              have HM2 := hide hg
              clear hg
              have p1 := par_facts X
              have p2 := par_facts Y
              by_cases hXY : X = Y
              · subst hXY
                obtain ⟨m, hm⟩ : ∃ m, m = X * t := ⟨_, rfl⟩
                have e1 : IntKind.u64.wrap ((X : Int) * (t : Int)) = (m : Int) := wu_mul (by rw [← hm, Nat.mod_eq_of_lt]; have := hle.out; have := HA.out; omega)
                have HR := hide (show m = G by rw [hm, ← hgc.out, Nat.gcd_self])
                clear hm p1 p2
                go_wp2_with fail
                go_ret
                exact ⟨ret_i (by rw [HR.out]), rfl⟩
              · have f1 : ((X : Int) == (Y : Int)) = false := by rw [beq_eq_false_iff_ne]; omega
                have f2 : ((X : Int) != (Y : Int)) = true := by rw [bne_iff_ne]; omega
                by_cases hx : X % 2 = 0
                · rw [decide_eq_true hx] at p1
                  obtain ⟨X', hX'⟩ : ∃ x, X = 2 * x := ⟨X / 2, by omega⟩
                  have e1 : (X : Int) / 2 = (X' : Int) := by omega
                  have e4 : IntKind.u64.wrap (X' : Int) = (X' : Int) := wu (by have := hXM.out; omega)
                  have HN5 := hide (show X' < 18446744073709551616 by have := hXM.out; omega)
                  have hy : Y % 2 = 1 := by have := hpar.out; omega
                  have HN1 := hide (show Nat.gcd X' Y * t = G by rw [← hgc.out, hX', gcd_half_odd hy])
                  have HN2 := hide (show X' * t ≤ a by have h := hle.out; rw [hX', Nat.mul_assoc] at h; omega)
                  have HN3 := hide (show X' % 2 = 1 ∨ Y % 2 = 1 from .inr hy)
                  have HN4 := hide (show 0 < X' by have := hX0.out; omega)
                  have HLT := hide (show X' + Y < X + Y by have := hX0.out; omega)
                  clear hx hX' hy hXY p2
                  go_wp2_with fail
                  go_roundg (X' + Y)
                  case measure => rw [HM2.out]; exact HLT.out
                  case rel => exact ⟨X', Y, rfl, rfl, rfl, HN1, HN2, HN3, HN4, hY0, HN5, hYM, rfl⟩
                · rw [decide_eq_false hx] at p1
                  have hx1 : X % 2 = 1 := by omega
                  by_cases hy : Y % 2 = 0
                  · rw [decide_eq_true hy] at p2
                    obtain ⟨Y', hY'⟩ : ∃ x, Y = 2 * x := ⟨Y / 2, by omega⟩
                    have e1 : (Y : Int) / 2 = (Y' : Int) := by omega
                    have e4 : IntKind.u64.wrap (Y' : Int) = (Y' : Int) := wu (by have := hYM.out; omega)
                    have HN5 := hide (show Y' < 18446744073709551616 by have := hYM.out; omega)
                    have HN1 := hide (show Nat.gcd X Y' * t = G by rw [← hgc.out, hY', Nat.gcd_comm X (2 * Y'), gcd_half_odd hx1, Nat.gcd_comm])
                    have HN3 := hide (show X % 2 = 1 ∨ Y' % 2 = 1 from .inl hx1)
                    have HN4 := hide (show 0 < Y' by have := hY0.out; omega)
                    have HLT := hide (show X + Y' < X + Y by have := hY0.out; omega)
                    clear hx hY' hy hXY hx1
                    go_wp2_with fail
                    go_roundg (X + Y')
                    case measure => rw [HM2.out]; exact HLT.out
                    case rel => exact ⟨X, Y', rfl, rfl, rfl, HN1, hle, HN3, hX0, HN4, hXM, HN5, rfl⟩
                  · rw [decide_eq_false hy] at p2
                    have hy1 : Y % 2 = 1 := by omega
                    by_cases hlt : Y < X
                    · have f3 : decide (Y < X) = true := decide_eq_true hlt
                      have f4 : decide ((Y : Int) < (X : Int)) = true := decide_eq_true (by omega)
                      obtain ⟨Z, hZ⟩ : ∃ z, z = X - Y := ⟨_, rfl⟩
                      have e1 : IntKind.u64.wrap ((X : Int) - (Y : Int)) = (Z : Int) := by rw [show (X : Int) - (Y : Int) = (Z : Int) by omega]; exact wu (by have := hXM.out; omega)
                      have e2 : (X : Int) - (Y : Int) = (Z : Int) := by omega
                      have e3 : IntKind.u64.wrap (Z : Int) = (Z : Int) := wu (by have := hXM.out; omega)
                      have HN5 := hide (show Z < 18446744073709551616 by have := hXM.out; omega)
                      have HN1 := hide (show Nat.gcd Z Y * t = G by rw [← hgc.out, hZ, gcd_less (by omega)])
                      have HN2 := hide (show Z * t ≤ a from Nat.le_trans (Nat.mul_le_mul_right _ (by omega)) hle.out)
                      have HN3 := hide (show Z % 2 = 1 ∨ Y % 2 = 1 from .inr hy1)
                      have HN4 := hide (show 0 < Z by omega)
                      have HLT := hide (show Z + Y < X + Y by have := hY0.out; omega)
                      clear hx hy hXY hx1 hy1 hZ hlt
                      go_wp2_with fail
                      go_roundg (Z + Y)
                      case measure => rw [HM2.out]; exact HLT.out
                      case rel => exact ⟨Z, Y, rfl, rfl, rfl, HN1, HN2, HN3, HN4, hY0, HN5, hYM, rfl⟩
                    · have f3 : decide (Y < X) = false := decide_eq_false hlt
                      have f4 : decide ((Y : Int) < (X : Int)) = false := decide_eq_false (by omega)
                      obtain ⟨Z, hZ⟩ : ∃ z, z = Y - X := ⟨_, rfl⟩
                      have e1 : IntKind.u64.wrap ((Y : Int) - (X : Int)) = (Z : Int) := by rw [show (Y : Int) - (X : Int) = (Z : Int) by omega]; exact wu (by have := hYM.out; omega)
                      have e2 : (Y : Int) - (X : Int) = (Z : Int) := by omega
                      have e3 : IntKind.u64.wrap (Z : Int) = (Z : Int) := wu (by have := hYM.out; omega)
                      have HN5 := hide (show Z < 18446744073709551616 by have := hYM.out; omega)
                      have HN1 := hide (show Nat.gcd X Z * t = G by rw [← hgc.out, hZ, Nat.gcd_comm, gcd_less (by omega), Nat.gcd_comm])
                      have HN3 := hide (show X % 2 = 1 ∨ Z % 2 = 1 from .inl hx1)
                      have HN4 := hide (show 0 < Z by omega)
                      have HLT := hide (show X + Z < X + Y by have := hX0.out; omega)
                      clear hx hy hXY hx1 hy1 hZ hlt
                      go_wp2_with fail
                      go_roundg (X + Z)
                      case measure => rw [HM2.out]; exact HLT.out
                      case rel => exact ⟨X, Z, rfl, rfl, rfl, HN1, hle, HN3, hX0, HN4, hXM, HN5, rfl⟩
end Go.Proofs.Ytjnhdmeegedcgaa
