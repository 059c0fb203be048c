/-
  Walks of chapter 18's coefficient readers: the reference's at, poly.Add's closure. Conditions: slices no longer than the form lets them be.
-/
import Derived.Test.YtaeebipcgeembaaPolyL
namespace Go.Proofs.Ytaeebipcgeembaa
open Go.RowKit Go.Shelf
set_option linter.unusedVariables false

theorem at_r (A : Option Addr) (c B n k : Nat) (l : List Nat) (w : World) (hr : Rd w B A (us l)) (hl : l.length = n) (hn : n ≤ 1000000) (hk : k ≤ 1000000) :
    Calls Try.prog 53 #[.slice A n c, .int .i64 k] w fun e w' => e = .returned (.int .u64 (l.getD k 0 : Nat)) ∧ w = w' := by
  subst hl
  by_cases h : k < l.length
  · obtain ⟨b, o, rfl, hb, hc⟩ := hr.u h
    have hg : l.getD k 0 = l[k] := by simp [List.getD, h]
    rw [hg]
    have t1 : (0 : Int) ≤ (k : Int) := by omega
    have t2 : (k : Int) < (l.length : Int) := by omega
    clear hg
    generalize l[k] = y at *
    go_enter Try.func53, Try.ntmps53
    go_wp2_with fail
    go_ret
    exact ⟨rfl, rfl⟩
  · have hg : l.getD k 0 = 0 := by simp [List.getD, h]
    rw [hg]
    have t1 : (0 : Int) ≤ (k : Int) := by omega
    have t2 : ¬ (k : Int) < (l.length : Int) := by omega
    clear hg
    go_enter Try.func53, Try.ntmps53
    go_wp2_with fail
    go_ret
    exact ⟨rfl, rfl⟩
theorem get_p (A : Option Addr) (c B n k : Nat) (l : List Nat) (w : World) (hr : Rd w B A (us l)) (hl : l.length = n) (hn : n ≤ 1000000) (hk : k ≤ 1000000) :
    Calls Try.prog 50 #[.slice A n c, .int .i64 k] w fun e w' => e = .returned (.int .u64 (l.getD k 0 : Nat)) ∧ w = w' := by
  subst hl
  by_cases h : k < l.length
  · obtain ⟨b, o, rfl, hb, hc⟩ := hr.u h
    have hg : l.getD k 0 = l[k] := by simp [List.getD, h]
    rw [hg]
    have t1 : (0 : Int) ≤ (k : Int) := by omega
    have t2 : (k : Int) < (l.length : Int) := by omega
    clear hg
    generalize l[k] = y at *
    go_enter Try.func50, Try.ntmps50
    go_wp2_with fail
    go_ret
    exact ⟨rfl, rfl⟩
  · have hg : l.getD k 0 = 0 := by simp [List.getD, h]
    rw [hg]
    have t1 : (0 : Int) ≤ (k : Int) := by omega
    have t2 : ¬ (k : Int) < (l.length : Int) := by omega
    clear hg
    go_enter Try.func50, Try.ntmps50
    go_wp2_with fail
    go_ret
    exact ⟨rfl, rfl⟩
end Go.Proofs.Ytaeebipcgeembaa
