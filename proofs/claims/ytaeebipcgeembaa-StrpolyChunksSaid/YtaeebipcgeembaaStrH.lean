/-
  slices.Equal over words. Conditions: slices no longer than the form lets them be.
-/
import Derived.Test.YtaeebipcgeembaaStrG

namespace Go.Proofs.Ytaeebipcgeembaa
open Go.RowKit
set_option linter.unusedVariables false

set_option maxHeartbeats 1000000 in
theorem equal_u (A A' : Option Addr) (c c' B B' : Nat) (xs ys : List Nat) (w : World) (hx : Rd w B A (us xs)) (hy : Rd w B' A' (us ys)) (hl : xs.length ≤ 17592186043904) (hl' : ys.length ≤ 17592186043904) (nx : Nat) (hnx : xs.length = nx) (ny : Nat) (hny : ys.length = ny) :
    Calls Try.prog 33 #[.slice A nx c, .slice A' ny c'] w fun e w' => e = .returned (.bool (decide (xs = ys))) ∧ Below w.heap.size w w' := by
  subst hnx
  subst hny
  by_cases hq : xs.length = ys.length
  · have hq1 : ((xs.length : Int) != (ys.length : Int)) = false := by simp; omega
    have HQ := hide hq
    have hle : xs.length ≤ ys.length := by omega
    clear hq
    go_enter Try.func33, Try.ntmps33
    go_wp2
    go_loopw [13] (fun i wr => ∃ k : Nat, k ≤ xs.length ∧ i = .int .i64 k ∧ Hid (xs.take k = ys.take k) ∧ Below w.heap.size w wr ∧ Rd wr B A (us xs) ∧ Rd wr B' A' (us ys)) (fun i _ => xs.length - (intOf i).toNat)
    case atStart => exact ⟨0, Nat.zero_le _, rfl, hide (by simp), Below.refl _ _, hx, hy⟩
    case round =>
      obtain ⟨k, hk, rfl, hH, hbel, hx', hy'⟩ := hrel
      clear hx hy
      by_cases hlt : k < xs.length
      · have hlt2 : k < ys.length := by omega
        obtain ⟨b, o, rfl, hb, hc⟩ := hx'.u hlt
        obtain ⟨b2, o2, rfl, hb2, hc2⟩ := hy'.u hlt2
        by_cases heq : xs[k] = ys[k]
        · have hb1 : ((((xs[k] : Nat) : Int)) != (((ys[k] : Nat) : Int))) = false := by simp [heq]
          have HE := hide heq; clear heq
          go_wp2
          go_quiet (fail)
          go_wp2
          go_roundw
          case rel => exact ⟨k + 1, by omega, by go_num, hide (by rw [List.take_succ_eq_append_getElem hlt, List.take_succ_eq_append_getElem hlt2, hH.out, HE.out]), below_drewN hbel _, hx'.drewN _, hy'.drewN _⟩
          case measure => simp [intOf]; omega
        · have hb1 : ((((xs[k] : Nat) : Int)) != (((ys[k] : Nat) : Int))) = true := by simp; exact_mod_cast heq
          have HE := hide heq; clear heq
          go_wp2
          go_quiet (fail)
          go_wp2
          go_ret
          exact ⟨ret_b (by symm; rw [decide_eq_false_iff_not]; intro h; exact HE.out (by simp only [h])), below_drewN hbel _⟩
      · go_wp2
        go_ret
        have hkb : k = xs.length := by omega
        subst hkb
        exact ⟨ret_b (by have h1 := hH.out; rw [List.take_length, HQ.out, List.take_length] at h1; simp [h1]), hbel⟩
  · have hq1 : ((xs.length : Int) != (ys.length : Int)) = true := by simp; omega
    have HQ := hide hq; clear hq
    go_enter Try.func33, Try.ntmps33
    go_wp2
    go_ret
    exact ⟨ret_b (by symm; rw [decide_eq_false_iff_not]; intro h; exact HQ.out (by rw [h])), Below.refl _ _⟩


end Go.Proofs.Ytaeebipcgeembaa
