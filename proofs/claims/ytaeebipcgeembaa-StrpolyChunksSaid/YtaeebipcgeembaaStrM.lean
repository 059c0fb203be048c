/-
  strpoly.Meets and strpoly.Most. Conditions: bytes, no more than 4096.
-/
import Derived.Test.YtaeebipcgeembaaStrA
import Derived.Test.YtaeebipcgeembaaStrS
namespace Go.Proofs.Ytaeebipcgeembaa
open Go.RowKit
set_option linter.unusedVariables false

theorem most_len (bs : List Nat) : (chunksN bs).length = bs.length / 7 + 1 := by
  fun_induction chunksN bs with
  | case1 b h =>
    have : b.length / 7 = 0 := Nat.div_eq_of_lt h
    simp [this]
  | case2 b h ih => simp at ih ⊢; omega
/-- The greater number of chunks. -/
def mostN (bs cs : List Nat) : Nat := max (chunksN bs).length (chunksN cs).length
theorem mostN_eq (bs cs : List Nat) : mostN bs cs = max bs.length cs.length / 7 + 1 := by
  unfold mostN
  rw [most_len, most_len]
  omega
set_option maxHeartbeats 1000000 in
theorem most_f (A A' : Option Addr) (n m c c' : Nat) (xs ys : List Nat) (w : World) (hn : xs.length = n) (hm : ys.length = m) (h4 : n ≤ 4096) (h5 : m ≤ 4096) :
    Calls Try.prog 13 #[.slice A n c, .slice A' m c'] w fun e w' => e = .returned (.int .i64 (mostN xs ys : Nat)) ∧ w = w' := by
  have hR := mostN_eq xs ys
  rw [hn, hm] at hR
  generalize mostN xs ys = R at *
  obtain ⟨N, hN⟩ : ∃ N, N = max n m := ⟨_, rfl⟩
  have u1 : max (n : Int) (m : Int) = (N : Int) := by omega
  obtain ⟨q, hq⟩ : ∃ q, q = N / 7 := ⟨_, rfl⟩
  have hq2 : (N : Int).tdiv 7 = (q : Int) := by rw [hq]; rfl
  have e1 : IntKind.i64.wrap (q : Int) = (q : Int) := wrap_i (by omega) (by omega)
  have e2 : IntKind.i64.wrap ((q : Int) + 1) = (R : Int) := by rw [wrap_i (by omega) (by omega)]; omega
  clear hN hq hn hm hR h4 h5
  go_enter Try.func13, Try.ntmps13
  go_wp2_with fail
  go_ret
  exact ⟨rfl, rfl⟩
set_option maxHeartbeats 1000000 in
theorem meets_bad (a : Nat) (ha : ¬ a < 2305843009213693951) (A A' : Option Addr) (n m c c' : Nat) (h4 : n ≤ 4096) (w : World) :
    Calls Try.prog 12 #[.int .u64 a, .slice A n c, .slice A' m c'] w fun e w' => e = .returned (.tuple #[.bool false, .int .i64 2]) ∧ Below w.heap.size w w' := by
  have h1 := eval_bad a A n c w h4 ha
  clear ha h4
  go_enter Try.func12, Try.ntmps12
  go_wp2_with (go_at_call 8; (with_reducible refine h1.mono ?_); rintro e w2 ⟨rfl, hb2⟩)
  go_ret2
  exact ⟨rfl, hb2⟩
set_option maxHeartbeats 1000000 in
theorem meets_good (a : Nat) (ha : a < 2305843009213693951) (A A' : Option Addr) (n m c c' : Nat) (xs ys : List Nat) (w : World) (hn : xs.length = n) (hm : ys.length = m) (hnc : n ≤ c) (hmc : m ≤ c') (h4 : n ≤ 4096) (h5 : m ≤ 4096) (hx : ∀ x ∈ xs, x < 256) (hy : ∀ y ∈ ys, y < 256) (hr : Rs w A (by8 xs)) (hr' : Rs w A' (by8 ys)) :
    Calls Try.prog 12 #[.int .u64 a, .slice A n c, .slice A' m c'] w fun e w' => e = .returned (.tuple #[.bool (!decide (xs = ys) && decide (horN a (chunksN xs) = horN a (chunksN ys))), .int .i64 (if xs = ys then 15 else 0)]) ∧ Below w.heap.size w w' := by
  have HE1 := hide (fun W h => eval_good a ha xs hx A n c hn hnc h4 W h)
  have HE2 := hide (fun W h => eval_good a ha ys hy A' m c' hm hmc h5 W h)
  have HQ := hide (fun W h h' => equal_b A A' n m c c' xs ys W hn hm hx hy h h')
  generalize horN a (chunksN xs) = U at *
  generalize horN a (chunksN ys) = V at *
  clear ha hn hm hnc hmc h4 h5 hx hy
  by_cases hs : xs = ys
  · rw [decide_eq_true hs] at HQ
    rw [decide_eq_true hs, if_pos hs]
    clear hs
    go_enter Try.func12, Try.ntmps12
    go_wp2_with (go_at_call 8; (with_reducible refine (HE1.out w hr).mono ?_); rintro e w2 ⟨rfl, hb2⟩; clear HE1)
    have R1 := Rs.call hr hb2
    have R1' := Rs.call hr' hb2
    go_wp2_with (go_at_call 8; (with_reducible refine (HE2.out w2 R1').mono ?_); rintro e w3 ⟨rfl, hb3⟩)
    have R2 := Rs.call R1 hb3
    have R2' := Rs.call R1' hb3
    go_wp2_with (go_at_call 30; (with_reducible refine (HQ.out w3 R2 R2').mono ?_); rintro e w4 ⟨rfl, rfl⟩)
    go_ret2
    exact ⟨rfl, below_call hb2 (Nat.le_refl _) hb3⟩
  · rw [decide_eq_false hs] at HQ
    rw [decide_eq_false hs, if_neg hs]
    clear hs
    go_enter Try.func12, Try.ntmps12
    go_wp2_with (go_at_call 8; (with_reducible refine (HE1.out w hr).mono ?_); rintro e w2 ⟨rfl, hb2⟩; clear HE1)
    have R1 := Rs.call hr hb2
    have R1' := Rs.call hr' hb2
    go_wp2_with (go_at_call 8; (with_reducible refine (HE2.out w2 R1').mono ?_); rintro e w3 ⟨rfl, hb3⟩)
    have R2 := Rs.call R1 hb3
    have R2' := Rs.call R1' hb3
    go_wp2_with (go_at_call 30; (with_reducible refine (HQ.out w3 R2 R2').mono ?_); rintro e w4 ⟨rfl, rfl⟩)
    go_ret2
    have hUV : ((U : Int) == (V : Int)) = (!false && decide (U = V)) := by rw [Bool.eq_iff_iff]; simp [Int.natCast_inj]
    rw [← hUV]
    exact ⟨rfl, below_call hb2 (Nat.le_refl _) hb3⟩
end Go.Proofs.Ytaeebipcgeembaa
