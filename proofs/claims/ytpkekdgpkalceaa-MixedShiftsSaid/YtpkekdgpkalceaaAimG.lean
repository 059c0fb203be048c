/-
  Walk of the reference's Rows. Conditions: slices no longer than the form lets them be.
-/
import Derived.Test.YtpkekdgpkalceaaAimF
import Derived.Deep.RegionHeld3
namespace Go.Proofs.Ytpkekdgpkalceaa
open Go.RowKit
set_option linter.unusedVariables false

theorem same_yes (rows : List (List Int)) (i k : Nat) (hi : i < rows.length) (hk : k < i) (h : rows.getD k [] = rows.getD i []) : sameV rows = true := decide_eq_true ⟨i, hi, k, hk, h⟩
theorem same_no (rows : List (List Int)) (h : ∀ i k, i < rows.length → k < i → rows.getD k [] ≠ rows.getD i []) : sameV rows = false := decide_eq_false fun ⟨i, hi, k, hk, he⟩ => h i k hi hk he

set_option maxHeartbeats 8000000 in
theorem rows_ref (A Ar : Option Addr) (c cr n nr nb : Nat) (rows : List (List Int)) (w : World) (hro : RdR w w.heap.size Ar rows)
    (hnr : rows.length = nr) (hl : n ≤ 17592186043904) (hl2 : nr ≤ 17592186043904) (hl3 : nb ≤ 17592186043904)
    (hll : ∀ j, j < rows.length → (rows.getD j []).length ≤ 17592186043904) :
    Calls Try.prog 10 #[.slice A n c, .slice Ar nr cr, .int .i64 nb] w fun e w' => e = .returned (.int .i64 (rowsE n rows nb)) ∧ Below w.heap.size w w' := by
  have HLL := hide hll
  have HNR := hide hnr
  clear hll hnr
  have hb0 := Below.refl w.heap.size w
  by_cases hbad : nr < 1 ∨ 3 < nr ∨ nr ≠ nb
  · have hE := hide (show rowsE n rows nb = 1 from by unfold rowsE; rw [if_pos (by rw [HNR.out]; omega)])
    have h3 : (nr : Int) < 1 ∨ ((1 : Int) ≤ (nr : Int) ∧ (3 : Int) < (nr : Int)) ∨ ((1 : Int) ≤ (nr : Int) ∧ (nr : Int) ≤ 3 ∧ (nr : Int) ≠ (nb : Int)) := by omega
    clear hbad
    rcases h3 with t1 | ⟨t1, t2⟩ | ⟨t1, t2, t3⟩
    · go_enter Try.func10, Try.ntmps10
      go_wp2_with fail
      go_ret
      exact ⟨ret_i hE.out.symm, hb0⟩
    · go_enter Try.func10, Try.ntmps10
      go_wp2_with fail
      go_ret
      exact ⟨ret_i hE.out.symm, hb0⟩
    · have t4 : ((nr : Int) != (nb : Int)) = true := by rw [bne_iff_ne]; exact t3
      clear t3
      go_enter Try.func10, Try.ntmps10
      go_wp2_with fail
      go_ret
      exact ⟨ret_i hE.out.symm, hb0⟩
  · have hnb : nb = nr := by omega
    have t1 : (1 : Int) ≤ (nr : Int) := by omega
    have t2 : (nr : Int) ≤ 3 := by omega
    subst hnb
    have hA : ¬ (rows.length < 1 ∨ 3 < rows.length ∨ rows.length ≠ nb) := by rw [HNR.out]; omega
    have HA := hide hA
    clear hbad hA
    obtain ⟨b, o, A0, c0, rfl, hbl, hc0, hr0⟩ := hro.at_ (k := 0) (by rw [HNR.out]; omega)
    rw [Nat.add_zero] at hc0
    clear hr0
    by_cases hz : (rows.getD 0 []).length < 1
    · have hE := hide (show rowsE n rows nb = 1 from by unfold rowsE; rw [if_pos (by omega)])
      have t3 : (((rows.getD 0 []).length : Nat) : Int) < 1 := by omega
      clear hz
      generalize (rows.getD 0 []).length = r0 at *
      go_enter Try.func10, Try.ntmps10
      go_wp2_with fail
      go_ret
      exact ⟨ret_i hE.out.symm, hb0⟩
    · have t3 : (1 : Int) ≤ (((rows.getD 0 []).length : Nat) : Int) := by omega
      have HZ := hide hz
      have HC := hide (show rows.any (fun r => !(r.length == (rows.getD 0 []).length)) = true → rowsE n rows nb = 1 from fun h => by unfold rowsE; rw [if_neg (by have := HA.out; omega), if_pos h])
      have HD := hide (show rows.any (fun r => !(r.length == (rows.getD 0 []).length)) = false → rowsE n rows nb = (if fitsAll n rows = 0 then (if sameV rows then 15 else 0) else fitsAll n rows) from fun h => by unfold rowsE; rw [if_neg (by have := HA.out; omega), if_neg (by rw [h]; simp)])
      have HAN := hide (show ∀ k, k < nb → (rows.getD k []).length ≠ (rows.getD 0 []).length → rows.any (fun r => !(r.length == (rows.getD 0 []).length)) = true from fun k hk h =>
        List.any_eq_true.2 ⟨rows.getD k [], by simp [List.getD, show k < rows.length by rw [HNR.out]; exact hk], by simpa using h⟩)
      have HNY := hide (show (∀ k, k < nb → (rows.getD k []).length = (rows.getD 0 []).length) → rows.any (fun r => !(r.length == (rows.getD 0 []).length)) = false from fun h => by
        rw [List.any_eq_false]
        intro x hx
        obtain ⟨j, hj, rfl⟩ := List.getElem_of_mem hx
        have := h j (by rw [← HNR.out]; exact hj)
        simpa [List.getD, hj] using this)
      clear hz HA
      have hL0 := HLL.out 0 (by rw [HNR.out]; omega)
      generalize rows.any (fun r => !(r.length == (rows.getD 0 []).length)) = anyB at *
      generalize (rows.getD 0 []).length = r0 at *
      go_enter Try.func10, Try.ntmps10
      go_wp2_with fail
      go_loop [37] (fun i => ∃ k : Nat, k ≤ nb ∧ i = .int .i64 k ∧ Hid (∀ j, j < k → (rows.getD j []).length = r0)) (fun i => nb - (intOf i).toNat)
      case atStart => exact ⟨0, Nat.zero_le _, rfl, hide fun j h => absurd h (by omega)⟩
      case round =>
        obtain ⟨k, hk, rfl, hall⟩ := hrel
        by_cases hlt : k < nb
        · obtain ⟨A3, c3, hc3, hr3⟩ := hro.at2 (k := k) (by rw [HNR.out]; exact hlt)
          have hlk := HLL.out k (by rw [HNR.out]; exact hlt)
          have HY := hide (HAN.out k hlt)
          have HNo := hide (show (rows.getD k []).length = r0 → ∀ j, j < k + 1 → (rows.getD j []).length = r0 from fun h j hj => by
              by_cases e : j = k
              · subst e; exact h
              · exact hall.out j (by omega))
          clear hr3
          generalize (rows.getD k []).length = rk at *
          by_cases he : rk = r0
          · have t5 : ((rk : Int) != (r0 : Int)) = false := by rw [he]; simp
            have HE := hide he
            clear he
            go_wp2_with fail
            go_round
            case rel => exact ⟨k + 1, by omega, by go_num, hide (HNo.out HE.out)⟩
            case measure => simp [intOf]; omega
          · have t5 : ((rk : Int) != (r0 : Int)) = true := by rw [bne_iff_ne]; omega
            have HE := hide he
            clear he
            go_wp2_with fail
            go_ret
            exact ⟨ret_i (HC.out (HY.out HE.out)).symm, hb0⟩
        · have hkb : k = nb := by omega
          subst hkb
          have HE1 := hide (HD.out (HNY.out hall.out))
          clear HC HD HAN HNY hall hlt
          go_wp2_with fail
          go_loop [51] (fun i => ∃ q : Nat, q ≤ k ∧ i = .int .i64 q ∧ Hid (∀ j, j < q → fitsV n (rows.getD j []) = 0)) (fun i => k - (intOf i).toNat)
          case atStart => exact ⟨0, Nat.zero_le _, rfl, hide fun j h => absurd h (by omega)⟩
          case round =>
            obtain ⟨q, hq, rfl, hall⟩ := hrel
            by_cases hlt : q < k
            · obtain ⟨A3, c3, hc3, hr3⟩ := hro.at2 (k := q) (by rw [HNR.out]; exact hlt)
              have C := hide (fun (hh : (rows.getD q []).length ≤ 17592186043904) => fits_ref A A3 n c c3 w.heap.size (rows.getD q []) w hr3 hh hl _ rfl)
              have hlk := HLL.out q (by rw [HNR.out]; exact hlt)
              have HY := hide (show fitsV n (rows.getD q []) ≠ 0 → rowsE n rows k = fitsV n (rows.getD q []) from fun h => by
                have := fitsAll_hit n rows q (by rw [HNR.out]; exact hlt) hall.out h
                rw [HE1.out, this, if_neg h])
              have HNo := hide (show fitsV n (rows.getD q []) = 0 → ∀ j, j < q + 1 → fitsV n (rows.getD j []) = 0 from fun h j hj => by
                by_cases e : j = q
                · subst e; exact h
                · exact hall.out j (by omega))
              clear hr3
              generalize rows.getD q [] = rk at *
              generalize fitsV n rk = z at *
              go_wp2_with fail
              refine (C.out hlk).mono ?_
              rintro e w3 ⟨rfl, rfl⟩
              by_cases hz0 : z = 0
              · have t5 : (z != 0) = false := by rw [hz0]; rfl
                have HZ0 := hide hz0
                clear hz0
                go_wp2_with fail
                go_round
                case rel => exact ⟨q + 1, by omega, by go_num, hide (HNo.out HZ0.out)⟩
                case measure => simp [intOf]; omega
              · have t5 : (z != 0) = true := by rw [bne_iff_ne]; exact hz0
                have HZ0 := hide hz0
                clear hz0
                go_wp2_with fail
                go_ret
                exact ⟨ret_i (HY.out HZ0.out).symm, hb0⟩
            · have hkb : q = k := by omega
              subst hkb
              have HE2 := hide (show rowsE n rows q = (if sameV rows then 15 else 0) from by
                rw [HE1.out, if_pos (fitsAll_ok n rows (by rw [HNR.out]; exact hall.out))])
              clear HE1 hall hlt
              go_wp2_with fail
              go_loopw [64] (fun i wr => ∃ k : Nat, k ≤ q ∧ i = .int .i64 k ∧ Below w.heap.size w wr ∧ Hid (∀ a b, a < k → b < a → rows.getD b [] ≠ rows.getD a [])) (fun i _ => q - (intOf i).toNat)
              case atStart => exact ⟨0, Nat.zero_le _, rfl, hb0, hide fun a b h => absurd h (by omega)⟩
              case round =>
                obtain ⟨k, hk, rfl, hbr, hall⟩ := hrel
                by_cases hlt : k < q
                · go_wp2_with fail
                  go_loopw [13] (fun i wr => ∃ j : Nat, j ≤ k ∧ i = .int .i64 j ∧ Below w.heap.size w wr ∧ Hid (∀ b, b < j → rows.getD b [] ≠ rows.getD k [])) (fun i _ => k - (intOf i).toNat)
                  case atStart => exact ⟨0, Nat.zero_le _, rfl, hbr, hide fun b h => absurd h (by omega)⟩
                  case round =>
                    clear hbr
                    obtain ⟨j, hj, rfl, hbr, hin⟩ := hrel
                    by_cases hjl : j < k
                    · have hjr : j < rows.length := by rw [HNR.out]; omega
                      have hkr : k < rows.length := by rw [HNR.out]; omega
                      have hror := hro.below hbr
                      obtain ⟨A3, c3, hc3, hr3⟩ := hror.at2 hjr
                      obtain ⟨A4, c4, hc4, hr4⟩ := hror.at2 hkr
                      have C := hide (fun (W : World) (h : Below wr.heap.size wr W) => same_ref A3 A4 c3 c4 w.heap.size w.heap.size (rows.getD j []) (rows.getD k []) W (hr3.below (h.mono hbr.size)) (hr4.below (h.mono hbr.size)) (HLL.out j hjr) (HLL.out k hkr) _ rfl _ rfl)
                      have hr := Below.refl wr.heap.size wr
                      have HY := hide (show decide (rows.getD j [] = rows.getD k []) = true → rowsE n rows q = 15 from fun h => by rw [HE2.out, same_yes rows k j hkr hjl (of_decide_eq_true h)]; rfl)
                      have HNo := hide (show decide (rows.getD j [] = rows.getD k []) = false → ∀ b, b < j + 1 → rows.getD b [] ≠ rows.getD k [] from fun h b hb => by
                        by_cases e : b = j
                        · subst e; exact of_decide_eq_false h
                        · exact hin.out b (by omega))
                      have t6 : (0 : Int) ≤ (j : Int) := by omega
                      have t7 : (j : Int) < (q : Int) := by omega
                      have t8 : (0 : Int) ≤ (k : Int) := by omega
                      have t9 : (k : Int) < (q : Int) := by omega
                      clear hr3 hr4 hror
                      generalize decide (rows.getD j [] = rows.getD k []) = yes at *
                      generalize (rows.getD j []).length = lj at *
                      generalize (rows.getD k []).length = lk at *
                      go_wp2_with fail
                      go_region_held3 (fun v => v.cell? ⟨b, o + j, none⟩ = some (.slice A3 lj c3) ∧ v.cell? ⟨b, o + k, none⟩ = some (.slice A4 lk c4)) (exact ⟨hc3, hc4⟩) ((go_at_call 34; (with_reducible refine (C.out _ (Below.drew (Below.refl _ _))).mono ?_); rintro e w5 ⟨rfl, hb5⟩; replace hbr : Below w.heap.size w w5 := below_call (w1 := wr) hbr (Nat.le_refl _) (Below.trans (Below.drew (Below.refl _ _)) hb5); replace hc3 := cell_call (Below.trans (Below.drew (Below.refl _ _)) hb5) hc3; replace hc4 := cell_call (Below.trans (Below.drew (Below.refl _ _)) hb5) hc4))
                      cases yes
                      · have HN3 := hide (HNo.out rfl)
                        go_wp2_with fail
                        go_roundw
                        case rel => exact ⟨j + 1, by omega, by go_num, hbr, hide HN3.out⟩
                        case measure => simp [intOf]; omega
                      · have HE3 := hide (HY.out rfl)
                        go_wp2_with fail
                        go_ret
                        exact ⟨ret_i HE3.out.symm, hbr⟩
                    · have hjk : j = k := by omega
                      subst hjk
                      go_wp2_with fail
                      go_roundw
                      case rel => exact ⟨j + 1, by omega, by go_num, hbr, hide fun a b ha hb => by
                                    by_cases e : a = j
                                    · subst e; exact hin.out b hb
                                    · exact hall.out a b (by omega) hb⟩
                      case measure => simp [intOf]; omega
                · have hkq : k = q := by omega
                  subst hkq
                  have HE3 := hide (show rowsE n rows k = 0 from by rw [HE2.out, same_no rows (by rw [HNR.out]; intro a b ha hb; exact hall.out a b ha hb)]; rfl)
                  go_wp2_with fail
                  go_ret
                  exact ⟨ret_i HE3.out.symm, hbr⟩
end Go.Proofs.Ytpkekdgpkalceaa
