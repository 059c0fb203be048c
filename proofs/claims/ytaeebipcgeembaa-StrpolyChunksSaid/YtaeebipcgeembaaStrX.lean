/-
  The law StrpolyDiffers. Conditions: words; bytes.
-/
import Derived.Test.YtaeebipcgeembaaStrW
import Derived.Test.YtaeebipcgeembaaStrV
namespace Go.Proofs.Ytaeebipcgeembaa
open Go.RowKit
set_option linter.unusedVariables false

theorem words_tt (A A' : Option Addr) (n c c' : Nat) (D : List Nat) (W : World) (hn : D.length = n) (h5 : n ≤ 2000) (h : Rs W A (us D)) (h' : Rs W A' (us D)) : Calls Try.prog 16 #[.slice A n c, .slice A' n c'] W fun e w' => e = .returned (.bool true) ∧ Below W.heap.size W w' := by
  have h := words_any A A' c c' W.heap.size W.heap.size D D W h h' (by omega) (by omega) n hn n hn
  rw [decide_eq_true rfl] at h
  exact h
set_option maxRecDepth 100000 in
set_option maxHeartbeats 4000000 in
theorem differs_skip (a : Nat) (A1 A2 : Option Addr) (n1 n2 c1 c2 : Nat) (w : World) (h : 200 < n1 ∨ 200 < n2) :
    Calls Try.prog 6 #[.int .u64 a, .slice A1 n1 c1, .slice A2 n2 c2] w fun e w' => e = .returned (.bool true) ∧ Below w.heap.size w w' := by
  have HAW := hide awake25
  by_cases h1 : 200 < n1
  · have t1 : (200 : Int) < (n1 : Int) := by omega
    clear h h1
    go_enter Try.func6, Try.ntmps6
    go_wp2_with (go_at_call 7; (with_reducible refine (HAW.out w).mono ?_); rintro e w2 ⟨rfl, hb2⟩)
    go_ret
    exact ⟨rfl, hb2⟩
  · have t1 : ¬ (200 : Int) < (n1 : Int) := by omega
    have t2 : (200 : Int) < (n2 : Int) := by omega
    clear h h1
    go_enter Try.func6, Try.ntmps6
    go_wp2_with (go_at_call 7; (with_reducible refine (HAW.out w).mono ?_); rintro e w2 ⟨rfl, hb2⟩)
    go_ret
    exact ⟨rfl, hb2⟩
set_option maxRecDepth 100000 in
set_option maxHeartbeats 8000000 in
theorem differs_bs (a  R : Nat) (D bs cs : List Nat) (A1 A2 : Option Addr) (n1 n2 c1 c2 : Nat) (w : World) (hr1 : Rs w A1 (by8 bs)) (hr2 : Rs w A2 (by8 cs))
    (h1 : n1 ≤ 200) (h2 : n2 ≤ 200) (hR : R ≤ 1000)
    (HD : Hid (∀ W, Rs W A1 (by8 bs) → Rs W A2 (by8 cs) → Calls Try.prog 19 #[.slice A1 n1 c1, .slice A2 n2 c2] W fun e w' => ∃ A c, e = .returned (.slice A 0 c) ∧ Rs w' A (us D) ∧ Below W.heap.size W w'))
    (HDR : Hid (∀ W, Rs W A1 (by8 bs) → Rs W A2 (by8 cs) → Calls Try.prog 20 #[.slice A1 n1 c1, .slice A2 n2 c2] W fun e w' => ∃ A c, e = .returned (.slice A 0 c) ∧ Rs w' A (us D) ∧ Below W.heap.size W w'))
    (HW : Hid (∀ A A' c c' W, Rs W A (us D) → Rs W A' (us D) → Calls Try.prog 16 #[.slice A 0 c, .slice A' 0 c'] W fun e w' => e = .returned (.bool true) ∧ Below W.heap.size W w'))
    (HMO : Hid (∀ W, Calls Try.prog 13 #[.slice A1 n1 c1, .slice A2 n2 c2] W fun e w' => e = .returned (.int .i64 (R : Nat)) ∧ W = w'))
    (HMR : Hid (∀ W, Rs W A1 (by8 bs) → Rs W A2 (by8 cs) → Calls Try.prog 21 #[.slice A1 n1 c1, .slice A2 n2 c2] W fun e w' => e = .returned (.int .i64 (R : Nat)) ∧ Below W.heap.size W w'))
    (HS : Hid (∀ W, Rs W A1 (by8 bs) → Rs W A2 (by8 cs) → Calls Try.prog 18 #[.slice A1 n1 c1, .slice A2 n2 c2] W fun e w' => e = .returned (.bool true) ∧ W = w'))
    (HME : Hid (∀ W, Rs W A1 (by8 bs) → Rs W A2 (by8 cs) → Calls Try.prog 12 #[.int .u64 a, .slice A1 n1 c1, .slice A2 n2 c2] W fun e w' => e = .returned (.tuple #[.bool false, .int .i64 2]) ∧ Below W.heap.size W w'))
    (hP : Hid (decide ((2305843009213693951 : Int) ≤ (a : Int)) = true)) :
    Calls Try.prog 6 #[.int .u64 a, .slice A1 n1 c1, .slice A2 n2 c2] w fun e w' => e = .returned (.bool true) ∧ Below w.heap.size w w' := by
  have HAW := hide awake25
  have t1 : ¬ (200 : Int) < (n1 : Int) := by omega
  have t2 : ¬ (200 : Int) < (n2 : Int) := by omega
  have e1 : IntKind.i64.wrap ((R : Int) + 1) = (R : Int) + 1 := wrap_i (by omega) (by omega)
  have t3 : ¬ (R : Int) + 1 < 0 := by omega
  clear h1 h2 hR
  go_enter Try.func6, Try.ntmps6
  go_wp2_with (go_at_call 7; (with_reducible refine (HAW.out w).mono ?_); rintro e w2 ⟨rfl, hb2⟩)
  have B2 := Rs.call hr1 hb2
  have C2 := Rs.call hr2 hb2
  clear t1 t2 HAW hr1 hr2
  go_wp2_with (go_at_call 19; (with_reducible refine (HD.out w2 B2 C2).mono ?_); rintro e w3 ⟨A3, c3, rfl, D3, hb3⟩)
  have B3 := Rs.call B2 hb3
  have C3 := Rs.call C2 hb3
  have hw3 := below_call hb2 (Nat.le_refl _) hb3
  clear HD B2 C2 hb2 hb3
  go_wp2_with (first
    | (go_at_call 13; (with_reducible refine (HMO.out w3).mono ?_); rintro e w4 ⟨rfl, rfl⟩)
    | (go_at_call 20; (with_reducible refine (HDR.out w3 B3 C3).mono ?_); rintro e w4 ⟨A4, c4, rfl, D4, hb4⟩; have D3' := Rs.call D3 hb4; have B4 := Rs.call B3 hb4; have C4 := Rs.call C3 hb4; have hw4 := below_call hw3 (Nat.le_refl _) hb4; clear D3 B3 C3 hb4 hw3)
    | (go_at_call 16; (with_reducible refine (HW.out _ _ _ _ w4 D3' D4).mono ?_); rintro e w5 ⟨rfl, hb5⟩; have D5 := Rs.call D3' hb5; have B5 := Rs.call B4 hb5; have C5 := Rs.call C4 hb5; have hw5 := below_call hw4 (Nat.le_refl _) hb5; clear D3' D4 B4 C4 hb5 hw4)
    | (go_at_call 21; (with_reducible refine (HMR.out w5 B5 C5).mono ?_); rintro e w6 ⟨rfl, hb6⟩; have D6 := Rs.call D5 hb6; have B6 := Rs.call B5 hb6; have C6 := Rs.call C5 hb6; have hw6 := below_call hw5 (Nat.le_refl _) hb6; clear D5 B5 C5 hb6 hw5)
    | (go_at_call 18; (with_reducible refine (HS.out w6 B6 C6).mono ?_); rintro e w7 ⟨rfl, rfl⟩)
    | (go_at_call 12; (with_reducible refine (HME.out w6 B6 C6).mono ?_); rintro e w8 ⟨rfl, hb8⟩; have D8 := Rs.call D6 hb8; have B8 := Rs.call B6 hb8; have C8 := Rs.call C6 hb8; have hw8 := below_call hw6 (Nat.le_refl _) hb8; have dP := hP.out; clear D6 B6 C6 hb8 hw6 t3)
    | (go_at_call 18; (with_reducible refine (HS.out w8 B8 C8).mono ?_); rintro e w9 ⟨rfl, rfl⟩))
  go_ret
  exact ⟨rfl, hw8⟩
set_option maxRecDepth 100000 in
set_option maxHeartbeats 8000000 in
theorem differs_bn (a K R : Nat) (D bs cs : List Nat) (A1 A2 : Option Addr) (n1 n2 c1 c2 : Nat) (w : World) (hr1 : Rs w A1 (by8 bs)) (hr2 : Rs w A2 (by8 cs))
    (h1 : n1 ≤ 200) (h2 : n2 ≤ 200) (hR : R ≤ 1000) (hK : ((K : Int) == 0) = false) (hKR : K ≤ R + 1)
    (HD : Hid (∀ W, Rs W A1 (by8 bs) → Rs W A2 (by8 cs) → Calls Try.prog 19 #[.slice A1 n1 c1, .slice A2 n2 c2] W fun e w' => ∃ A c, e = .returned (.slice A K c) ∧ Rs w' A (us D) ∧ Below W.heap.size W w'))
    (HDR : Hid (∀ W, Rs W A1 (by8 bs) → Rs W A2 (by8 cs) → Calls Try.prog 20 #[.slice A1 n1 c1, .slice A2 n2 c2] W fun e w' => ∃ A c, e = .returned (.slice A K c) ∧ Rs w' A (us D) ∧ Below W.heap.size W w'))
    (HW : Hid (∀ A A' c c' W, Rs W A (us D) → Rs W A' (us D) → Calls Try.prog 16 #[.slice A K c, .slice A' K c'] W fun e w' => e = .returned (.bool true) ∧ Below W.heap.size W w'))
    (HMO : Hid (∀ W, Calls Try.prog 13 #[.slice A1 n1 c1, .slice A2 n2 c2] W fun e w' => e = .returned (.int .i64 (R : Nat)) ∧ W = w'))
    (HMR : Hid (∀ W, Rs W A1 (by8 bs) → Rs W A2 (by8 cs) → Calls Try.prog 21 #[.slice A1 n1 c1, .slice A2 n2 c2] W fun e w' => e = .returned (.int .i64 (R : Nat)) ∧ Below W.heap.size W w'))
    (HS : Hid (∀ W, Rs W A1 (by8 bs) → Rs W A2 (by8 cs) → Calls Try.prog 18 #[.slice A1 n1 c1, .slice A2 n2 c2] W fun e w' => e = .returned (.bool false) ∧ W = w'))
    (HME : Hid (∀ W, Rs W A1 (by8 bs) → Rs W A2 (by8 cs) → Calls Try.prog 12 #[.int .u64 a, .slice A1 n1 c1, .slice A2 n2 c2] W fun e w' => e = .returned (.tuple #[.bool false, .int .i64 2]) ∧ Below W.heap.size W w'))
    (hP : Hid (decide ((2305843009213693951 : Int) ≤ (a : Int)) = true)) :
    Calls Try.prog 6 #[.int .u64 a, .slice A1 n1 c1, .slice A2 n2 c2] w fun e w' => e = .returned (.bool true) ∧ Below w.heap.size w w' := by
  have HAW := hide awake25
  have t1 : ¬ (200 : Int) < (n1 : Int) := by omega
  have t2 : ¬ (200 : Int) < (n2 : Int) := by omega
  have e1 : IntKind.i64.wrap ((R : Int) + 1) = (R : Int) + 1 := wrap_i (by omega) (by omega)
  have t3 : ¬ (R : Int) + 1 < (K : Int) := by omega
  clear h1 h2 hR hKR
  go_enter Try.func6, Try.ntmps6
  go_wp2_with (go_at_call 7; (with_reducible refine (HAW.out w).mono ?_); rintro e w2 ⟨rfl, hb2⟩)
  have B2 := Rs.call hr1 hb2
  have C2 := Rs.call hr2 hb2
  clear t1 t2 HAW hr1 hr2
  go_wp2_with (go_at_call 19; (with_reducible refine (HD.out w2 B2 C2).mono ?_); rintro e w3 ⟨A3, c3, rfl, D3, hb3⟩)
  have B3 := Rs.call B2 hb3
  have C3 := Rs.call C2 hb3
  have hw3 := below_call hb2 (Nat.le_refl _) hb3
  clear HD B2 C2 hb2 hb3
  go_wp2_with (first
    | (go_at_call 13; (with_reducible refine (HMO.out w3).mono ?_); rintro e w4 ⟨rfl, rfl⟩)
    | (go_at_call 20; (with_reducible refine (HDR.out w3 B3 C3).mono ?_); rintro e w4 ⟨A4, c4, rfl, D4, hb4⟩; have D3' := Rs.call D3 hb4; have B4 := Rs.call B3 hb4; have C4 := Rs.call C3 hb4; have hw4 := below_call hw3 (Nat.le_refl _) hb4; clear D3 B3 C3 hb4 hw3)
    | (go_at_call 16; (with_reducible refine (HW.out _ _ _ _ w4 D3' D4).mono ?_); rintro e w5 ⟨rfl, hb5⟩; have D5 := Rs.call D3' hb5; have B5 := Rs.call B4 hb5; have C5 := Rs.call C4 hb5; have hw5 := below_call hw4 (Nat.le_refl _) hb5; clear D3' D4 B4 C4 hb5 hw4)
    | (go_at_call 21; (with_reducible refine (HMR.out w5 B5 C5).mono ?_); rintro e w6 ⟨rfl, hb6⟩; have D6 := Rs.call D5 hb6; have B6 := Rs.call B5 hb6; have C6 := Rs.call C5 hb6; have hw6 := below_call hw5 (Nat.le_refl _) hb6; clear D5 B5 C5 hb6 hw5)
    | (go_at_call 18; (with_reducible refine (HS.out w6 B6 C6).mono ?_); rintro e w7 ⟨rfl, rfl⟩)
    | (go_at_call 12; (with_reducible refine (HME.out w6 B6 C6).mono ?_); rintro e w8 ⟨rfl, hb8⟩; have D8 := Rs.call D6 hb8; have B8 := Rs.call B6 hb8; have C8 := Rs.call C6 hb8; have hw8 := below_call hw6 (Nat.le_refl _) hb8; have dP := hP.out; clear D6 B6 C6 hb8 hw6 t3)
    | (go_at_call 18; (with_reducible refine (HS.out w8 B8 C8).mono ?_); rintro e w9 ⟨rfl, rfl⟩))
  go_ret
  exact ⟨rfl, hw8⟩
set_option maxRecDepth 100000 in
set_option maxHeartbeats 8000000 in
theorem differs_gs (a  R : Nat) (D bs cs : List Nat) (A1 A2 : Option Addr) (n1 n2 c1 c2 : Nat) (w : World) (hr1 : Rs w A1 (by8 bs)) (hr2 : Rs w A2 (by8 cs))
    (h1 : n1 ≤ 200) (h2 : n2 ≤ 200) (hR : R ≤ 1000)
    (HD : Hid (∀ W, Rs W A1 (by8 bs) → Rs W A2 (by8 cs) → Calls Try.prog 19 #[.slice A1 n1 c1, .slice A2 n2 c2] W fun e w' => ∃ A c, e = .returned (.slice A 0 c) ∧ Rs w' A (us D) ∧ Below W.heap.size W w'))
    (HDR : Hid (∀ W, Rs W A1 (by8 bs) → Rs W A2 (by8 cs) → Calls Try.prog 20 #[.slice A1 n1 c1, .slice A2 n2 c2] W fun e w' => ∃ A c, e = .returned (.slice A 0 c) ∧ Rs w' A (us D) ∧ Below W.heap.size W w'))
    (HW : Hid (∀ A A' c c' W, Rs W A (us D) → Rs W A' (us D) → Calls Try.prog 16 #[.slice A 0 c, .slice A' 0 c'] W fun e w' => e = .returned (.bool true) ∧ Below W.heap.size W w'))
    (HMO : Hid (∀ W, Calls Try.prog 13 #[.slice A1 n1 c1, .slice A2 n2 c2] W fun e w' => e = .returned (.int .i64 (R : Nat)) ∧ W = w'))
    (HMR : Hid (∀ W, Rs W A1 (by8 bs) → Rs W A2 (by8 cs) → Calls Try.prog 21 #[.slice A1 n1 c1, .slice A2 n2 c2] W fun e w' => e = .returned (.int .i64 (R : Nat)) ∧ Below W.heap.size W w'))
    (HS : Hid (∀ W, Rs W A1 (by8 bs) → Rs W A2 (by8 cs) → Calls Try.prog 18 #[.slice A1 n1 c1, .slice A2 n2 c2] W fun e w' => e = .returned (.bool true) ∧ W = w'))
    (HME : Hid (∀ W, Rs W A1 (by8 bs) → Rs W A2 (by8 cs) → Calls Try.prog 12 #[.int .u64 a, .slice A1 n1 c1, .slice A2 n2 c2] W fun e w' => e = .returned (.tuple #[.bool false, .int .i64 15]) ∧ Below W.heap.size W w'))
    (hP : Hid (decide ((2305843009213693951 : Int) ≤ (a : Int)) = false)) :
    Calls Try.prog 6 #[.int .u64 a, .slice A1 n1 c1, .slice A2 n2 c2] w fun e w' => e = .returned (.bool true) ∧ Below w.heap.size w w' := by
  have HAW := hide awake25
  have t1 : ¬ (200 : Int) < (n1 : Int) := by omega
  have t2 : ¬ (200 : Int) < (n2 : Int) := by omega
  have e1 : IntKind.i64.wrap ((R : Int) + 1) = (R : Int) + 1 := wrap_i (by omega) (by omega)
  have t3 : ¬ (R : Int) + 1 < 0 := by omega
  clear h1 h2 hR
  go_enter Try.func6, Try.ntmps6
  go_wp2_with (go_at_call 7; (with_reducible refine (HAW.out w).mono ?_); rintro e w2 ⟨rfl, hb2⟩)
  have B2 := Rs.call hr1 hb2
  have C2 := Rs.call hr2 hb2
  clear t1 t2 HAW hr1 hr2
  go_wp2_with (go_at_call 19; (with_reducible refine (HD.out w2 B2 C2).mono ?_); rintro e w3 ⟨A3, c3, rfl, D3, hb3⟩)
  have B3 := Rs.call B2 hb3
  have C3 := Rs.call C2 hb3
  have hw3 := below_call hb2 (Nat.le_refl _) hb3
  clear HD B2 C2 hb2 hb3
  go_wp2_with (first
    | (go_at_call 13; (with_reducible refine (HMO.out w3).mono ?_); rintro e w4 ⟨rfl, rfl⟩)
    | (go_at_call 20; (with_reducible refine (HDR.out w3 B3 C3).mono ?_); rintro e w4 ⟨A4, c4, rfl, D4, hb4⟩; have D3' := Rs.call D3 hb4; have B4 := Rs.call B3 hb4; have C4 := Rs.call C3 hb4; have hw4 := below_call hw3 (Nat.le_refl _) hb4; clear D3 B3 C3 hb4 hw3)
    | (go_at_call 16; (with_reducible refine (HW.out _ _ _ _ w4 D3' D4).mono ?_); rintro e w5 ⟨rfl, hb5⟩; have D5 := Rs.call D3' hb5; have B5 := Rs.call B4 hb5; have C5 := Rs.call C4 hb5; have hw5 := below_call hw4 (Nat.le_refl _) hb5; clear D3' D4 B4 C4 hb5 hw4)
    | (go_at_call 21; (with_reducible refine (HMR.out w5 B5 C5).mono ?_); rintro e w6 ⟨rfl, hb6⟩; have D6 := Rs.call D5 hb6; have B6 := Rs.call B5 hb6; have C6 := Rs.call C5 hb6; have hw6 := below_call hw5 (Nat.le_refl _) hb6; clear D5 B5 C5 hb6 hw5)
    | (go_at_call 18; (with_reducible refine (HS.out w6 B6 C6).mono ?_); rintro e w7 ⟨rfl, rfl⟩)
    | (go_at_call 12; (with_reducible refine (HME.out w6 B6 C6).mono ?_); rintro e w8 ⟨rfl, hb8⟩; have D8 := Rs.call D6 hb8; have B8 := Rs.call B6 hb8; have C8 := Rs.call C6 hb8; have hw8 := below_call hw6 (Nat.le_refl _) hb8; have dP := hP.out; clear D6 B6 C6 hb8 hw6 t3)
    | (go_at_call 18; (with_reducible refine (HS.out w8 B8 C8).mono ?_); rintro e w9 ⟨rfl, rfl⟩))
  go_ret
  exact ⟨rfl, hw8⟩
set_option maxRecDepth 100000 in
set_option maxHeartbeats 8000000 in
theorem differs_g0 (a K R : Nat) (D bs cs : List Nat) (A1 A2 : Option Addr) (n1 n2 c1 c2 : Nat) (w : World) (hr1 : Rs w A1 (by8 bs)) (hr2 : Rs w A2 (by8 cs))
    (h1 : n1 ≤ 200) (h2 : n2 ≤ 200) (hR : R ≤ 1000) (hK : ((K : Int) == 0) = false) (hKR : K ≤ R + 1)
    (HD : Hid (∀ W, Rs W A1 (by8 bs) → Rs W A2 (by8 cs) → Calls Try.prog 19 #[.slice A1 n1 c1, .slice A2 n2 c2] W fun e w' => ∃ A c, e = .returned (.slice A K c) ∧ Rs w' A (us D) ∧ Below W.heap.size W w'))
    (HDR : Hid (∀ W, Rs W A1 (by8 bs) → Rs W A2 (by8 cs) → Calls Try.prog 20 #[.slice A1 n1 c1, .slice A2 n2 c2] W fun e w' => ∃ A c, e = .returned (.slice A K c) ∧ Rs w' A (us D) ∧ Below W.heap.size W w'))
    (HW : Hid (∀ A A' c c' W, Rs W A (us D) → Rs W A' (us D) → Calls Try.prog 16 #[.slice A K c, .slice A' K c'] W fun e w' => e = .returned (.bool true) ∧ Below W.heap.size W w'))
    (HMO : Hid (∀ W, Calls Try.prog 13 #[.slice A1 n1 c1, .slice A2 n2 c2] W fun e w' => e = .returned (.int .i64 (R : Nat)) ∧ W = w'))
    (HMR : Hid (∀ W, Rs W A1 (by8 bs) → Rs W A2 (by8 cs) → Calls Try.prog 21 #[.slice A1 n1 c1, .slice A2 n2 c2] W fun e w' => e = .returned (.int .i64 (R : Nat)) ∧ Below W.heap.size W w'))
    (HS : Hid (∀ W, Rs W A1 (by8 bs) → Rs W A2 (by8 cs) → Calls Try.prog 18 #[.slice A1 n1 c1, .slice A2 n2 c2] W fun e w' => e = .returned (.bool false) ∧ W = w'))
    (HME : Hid (∀ W, Rs W A1 (by8 bs) → Rs W A2 (by8 cs) → Calls Try.prog 12 #[.int .u64 a, .slice A1 n1 c1, .slice A2 n2 c2] W fun e w' => e = .returned (.tuple #[.bool true, .int .i64 0]) ∧ Below W.heap.size W w'))
    (hP : Hid (decide ((2305843009213693951 : Int) ≤ (a : Int)) = false))
    (HV : Hid (∀ A c W, Rs W A (us D) → Calls Try.prog 22 #[.slice A K c, .int .u64 a] W fun e w' => e = .returned (.int .u64 0) ∧ W = w')) :
    Calls Try.prog 6 #[.int .u64 a, .slice A1 n1 c1, .slice A2 n2 c2] w fun e w' => e = .returned (.bool true) ∧ Below w.heap.size w w' := by
  have HAW := hide awake25
  have t1 : ¬ (200 : Int) < (n1 : Int) := by omega
  have t2 : ¬ (200 : Int) < (n2 : Int) := by omega
  have e1 : IntKind.i64.wrap ((R : Int) + 1) = (R : Int) + 1 := wrap_i (by omega) (by omega)
  have t3 : ¬ (R : Int) + 1 < (K : Int) := by omega
  clear h1 h2 hR hKR
  go_enter Try.func6, Try.ntmps6
  go_wp2_with (go_at_call 7; (with_reducible refine (HAW.out w).mono ?_); rintro e w2 ⟨rfl, hb2⟩)
  have B2 := Rs.call hr1 hb2
  have C2 := Rs.call hr2 hb2
  clear t1 t2 HAW hr1 hr2
  go_wp2_with (go_at_call 19; (with_reducible refine (HD.out w2 B2 C2).mono ?_); rintro e w3 ⟨A3, c3, rfl, D3, hb3⟩)
  have B3 := Rs.call B2 hb3
  have C3 := Rs.call C2 hb3
  have hw3 := below_call hb2 (Nat.le_refl _) hb3
  clear HD B2 C2 hb2 hb3
  go_wp2_with (first
    | (go_at_call 13; (with_reducible refine (HMO.out w3).mono ?_); rintro e w4 ⟨rfl, rfl⟩)
    | (go_at_call 20; (with_reducible refine (HDR.out w3 B3 C3).mono ?_); rintro e w4 ⟨A4, c4, rfl, D4, hb4⟩; have D3' := Rs.call D3 hb4; have B4 := Rs.call B3 hb4; have C4 := Rs.call C3 hb4; have hw4 := below_call hw3 (Nat.le_refl _) hb4; clear D3 B3 C3 hb4 hw3)
    | (go_at_call 16; (with_reducible refine (HW.out _ _ _ _ w4 D3' D4).mono ?_); rintro e w5 ⟨rfl, hb5⟩; have D5 := Rs.call D3' hb5; have B5 := Rs.call B4 hb5; have C5 := Rs.call C4 hb5; have hw5 := below_call hw4 (Nat.le_refl _) hb5; clear D3' D4 B4 C4 hb5 hw4)
    | (go_at_call 21; (with_reducible refine (HMR.out w5 B5 C5).mono ?_); rintro e w6 ⟨rfl, hb6⟩; have D6 := Rs.call D5 hb6; have B6 := Rs.call B5 hb6; have C6 := Rs.call C5 hb6; have hw6 := below_call hw5 (Nat.le_refl _) hb6; clear D5 B5 C5 hb6 hw5)
    | (go_at_call 18; (with_reducible refine (HS.out w6 B6 C6).mono ?_); rintro e w7 ⟨rfl, rfl⟩)
    | (go_at_call 12; (with_reducible refine (HME.out w6 B6 C6).mono ?_); rintro e w8 ⟨rfl, hb8⟩; have D8 := Rs.call D6 hb8; have B8 := Rs.call B6 hb8; have C8 := Rs.call C6 hb8; have hw8 := below_call hw6 (Nat.le_refl _) hb8; have dP := hP.out; clear D6 B6 C6 hb8 hw6 t3)
    | (go_at_call 18; (with_reducible refine (HS.out w8 B8 C8).mono ?_); rintro e w9 ⟨rfl, rfl⟩)
    | (go_at_call 22; (with_reducible refine (HV.out _ _ w8 D8).mono ?_); rintro e w9 ⟨rfl, rfl⟩))
  go_ret
  exact ⟨rfl, hw8⟩
set_option maxRecDepth 100000 in
set_option maxHeartbeats 8000000 in
theorem differs_g1 (a K R V : Nat) (D bs cs : List Nat) (A1 A2 : Option Addr) (n1 n2 c1 c2 : Nat) (w : World) (hr1 : Rs w A1 (by8 bs)) (hr2 : Rs w A2 (by8 cs))
    (h1 : n1 ≤ 200) (h2 : n2 ≤ 200) (hR : R ≤ 1000) (hK : ((K : Int) == 0) = false) (hKR : K ≤ R + 1)
    (HD : Hid (∀ W, Rs W A1 (by8 bs) → Rs W A2 (by8 cs) → Calls Try.prog 19 #[.slice A1 n1 c1, .slice A2 n2 c2] W fun e w' => ∃ A c, e = .returned (.slice A K c) ∧ Rs w' A (us D) ∧ Below W.heap.size W w'))
    (HDR : Hid (∀ W, Rs W A1 (by8 bs) → Rs W A2 (by8 cs) → Calls Try.prog 20 #[.slice A1 n1 c1, .slice A2 n2 c2] W fun e w' => ∃ A c, e = .returned (.slice A K c) ∧ Rs w' A (us D) ∧ Below W.heap.size W w'))
    (HW : Hid (∀ A A' c c' W, Rs W A (us D) → Rs W A' (us D) → Calls Try.prog 16 #[.slice A K c, .slice A' K c'] W fun e w' => e = .returned (.bool true) ∧ Below W.heap.size W w'))
    (HMO : Hid (∀ W, Calls Try.prog 13 #[.slice A1 n1 c1, .slice A2 n2 c2] W fun e w' => e = .returned (.int .i64 (R : Nat)) ∧ W = w'))
    (HMR : Hid (∀ W, Rs W A1 (by8 bs) → Rs W A2 (by8 cs) → Calls Try.prog 21 #[.slice A1 n1 c1, .slice A2 n2 c2] W fun e w' => e = .returned (.int .i64 (R : Nat)) ∧ Below W.heap.size W w'))
    (HS : Hid (∀ W, Rs W A1 (by8 bs) → Rs W A2 (by8 cs) → Calls Try.prog 18 #[.slice A1 n1 c1, .slice A2 n2 c2] W fun e w' => e = .returned (.bool false) ∧ W = w'))
    (HME : Hid (∀ W, Rs W A1 (by8 bs) → Rs W A2 (by8 cs) → Calls Try.prog 12 #[.int .u64 a, .slice A1 n1 c1, .slice A2 n2 c2] W fun e w' => e = .returned (.tuple #[.bool false, .int .i64 0]) ∧ Below W.heap.size W w'))
    (hP : Hid (decide ((2305843009213693951 : Int) ≤ (a : Int)) = false))
    (HV : Hid (∀ A c W, Rs W A (us D) → Calls Try.prog 22 #[.slice A K c, .int .u64 a] W fun e w' => e = .returned (.int .u64 (V : Nat)) ∧ W = w')) (hV : ((V : Int) == 0) = false) :
    Calls Try.prog 6 #[.int .u64 a, .slice A1 n1 c1, .slice A2 n2 c2] w fun e w' => e = .returned (.bool true) ∧ Below w.heap.size w w' := by
  have HAW := hide awake25
  have t1 : ¬ (200 : Int) < (n1 : Int) := by omega
  have t2 : ¬ (200 : Int) < (n2 : Int) := by omega
  have e1 : IntKind.i64.wrap ((R : Int) + 1) = (R : Int) + 1 := wrap_i (by omega) (by omega)
  have t3 : ¬ (R : Int) + 1 < (K : Int) := by omega
  clear h1 h2 hR hKR
  go_enter Try.func6, Try.ntmps6
  go_wp2_with (go_at_call 7; (with_reducible refine (HAW.out w).mono ?_); rintro e w2 ⟨rfl, hb2⟩)
  have B2 := Rs.call hr1 hb2
  have C2 := Rs.call hr2 hb2
  clear t1 t2 HAW hr1 hr2
  go_wp2_with (go_at_call 19; (with_reducible refine (HD.out w2 B2 C2).mono ?_); rintro e w3 ⟨A3, c3, rfl, D3, hb3⟩)
  have B3 := Rs.call B2 hb3
  have C3 := Rs.call C2 hb3
  have hw3 := below_call hb2 (Nat.le_refl _) hb3
  clear HD B2 C2 hb2 hb3
  go_wp2_with (first
    | (go_at_call 13; (with_reducible refine (HMO.out w3).mono ?_); rintro e w4 ⟨rfl, rfl⟩)
    | (go_at_call 20; (with_reducible refine (HDR.out w3 B3 C3).mono ?_); rintro e w4 ⟨A4, c4, rfl, D4, hb4⟩; have D3' := Rs.call D3 hb4; have B4 := Rs.call B3 hb4; have C4 := Rs.call C3 hb4; have hw4 := below_call hw3 (Nat.le_refl _) hb4; clear D3 B3 C3 hb4 hw3)
    | (go_at_call 16; (with_reducible refine (HW.out _ _ _ _ w4 D3' D4).mono ?_); rintro e w5 ⟨rfl, hb5⟩; have D5 := Rs.call D3' hb5; have B5 := Rs.call B4 hb5; have C5 := Rs.call C4 hb5; have hw5 := below_call hw4 (Nat.le_refl _) hb5; clear D3' D4 B4 C4 hb5 hw4)
    | (go_at_call 21; (with_reducible refine (HMR.out w5 B5 C5).mono ?_); rintro e w6 ⟨rfl, hb6⟩; have D6 := Rs.call D5 hb6; have B6 := Rs.call B5 hb6; have C6 := Rs.call C5 hb6; have hw6 := below_call hw5 (Nat.le_refl _) hb6; clear D5 B5 C5 hb6 hw5)
    | (go_at_call 18; (with_reducible refine (HS.out w6 B6 C6).mono ?_); rintro e w7 ⟨rfl, rfl⟩)
    | (go_at_call 12; (with_reducible refine (HME.out w6 B6 C6).mono ?_); rintro e w8 ⟨rfl, hb8⟩; have D8 := Rs.call D6 hb8; have B8 := Rs.call B6 hb8; have C8 := Rs.call C6 hb8; have hw8 := below_call hw6 (Nat.le_refl _) hb8; have dP := hP.out; clear D6 B6 C6 hb8 hw6 t3)
    | (go_at_call 18; (with_reducible refine (HS.out w8 B8 C8).mono ?_); rintro e w9 ⟨rfl, rfl⟩)
    | (go_at_call 22; (with_reducible refine (HV.out _ _ w8 D8).mono ?_); rintro e w9 ⟨rfl, rfl⟩))
  go_ret
  exact ⟨rfl, hw8⟩
set_option maxHeartbeats 4000000 in
theorem differs25_z (a : Nat) (ha : a < 18446744073709551616) (A1 A2 : Option Addr) (n1 n2 c1 c2 : Nat) (zs zs' : List Int) (hb1 : zs.length = n1) (hb2 : zs'.length = n2) (hnc1 : n1 ≤ c1) (hnc2 : n2 ≤ c2) (hwb : ∀ n ∈ zs, (Lit.int .u8 n).wf = true) (hwc : ∀ n ∈ zs', (Lit.int .u8 n).wf = true) (w : World)
    (hr1 : Rs w A1 (zs.map fun n => Value.int .u8 n)) (hr2 : Rs w A2 (zs'.map fun n => Value.int .u8 n)) :
    Calls Try.prog 6 #[.int .u64 a, .slice A1 n1 c1, .slice A2 n2 c2] w fun e w' => e = .returned (.bool true) ∧ Below w.heap.size w w' := by
  obtain ⟨bs, hxl, hxe, hb⟩ := bytes_of hwb
  obtain ⟨cs, hyl, hye, hc⟩ := bytes_of hwc
  rw [hxe] at hr1
  rw [hye] at hr2
  by_cases hsk : 200 < n1 ∨ 200 < n2
  · exact differs_skip a A1 A2 n1 n2 c1 c2 w hsk
  have h1 : n1 ≤ 200 := by omega
  have h2 : n2 ≤ 200 := by omega
  have hn : bs.length = n1 := hxl.trans hb1
  have hm : cs.length = n2 := hyl.trans hb2
  have hR : mostN bs cs ≤ 1000 := by rw [mostN_eq, hn, hm]; omega
  have HD := hide (fun W h h' => diff_f A1 A2 n1 n2 c1 c2 bs cs hn hm hnc1 hnc2 (by omega) (by omega) hb hc W h h')
  have HDR := hide (fun W h h' => diffr_f A1 A2 n1 n2 c1 c2 bs cs hn hm (by omega) (by omega) hb hc W h h')
  have HMO := hide (fun W => most_f A1 A2 n1 n2 c1 c2 bs cs W hn hm (by omega) (by omega))
  have HMR := hide (fun W h h' => most_r A1 A2 n1 n2 c1 c2 bs cs hn hm (by omega) (by omega) hb hc W h h')
  have HS := hide (fun W h h' => same_r A1 A2 n1 n2 c1 c2 bs cs W hn hm hb hc h h')
  have hDl := diff_len bs cs
  have hD64 : ∀ y ∈ diffN bs cs, y < 18446744073709551616 := fun y hy => Nat.lt_trans (diff_lt bs cs y hy) (by omega)
  unfold RetL at HD HDR
  by_cases hs : bs = cs
  · have hD0 : (diffN bs cs).length = 0 := by rw [(diff_nil hb hc).2 hs]; rfl
    have HW := hide (fun A A' c c' W h h' => words_tt A A' 0 c c' (diffN bs cs) W hD0 (by omega) h h')
    rw [hD0] at HD HDR
    rw [decide_eq_true hs] at HS
    by_cases hP : a < 2305843009213693951
    · exact differs_gs a (mostN bs cs) (diffN bs cs) bs cs A1 A2 n1 n2 c1 c2 w hr1 hr2 h1 h2 hR HD HDR HW HMO HMR HS
        (hide fun W h h' => by
          have h := meets_good a hP A1 A2 n1 n2 c1 c2 bs cs W hn hm hnc1 hnc2 (by omega) (by omega) hb hc h h'
          rw [if_pos hs, decide_eq_true hs] at h
          exact h)
        (hide (decide_eq_false (by omega)))
    · exact differs_bs a (mostN bs cs) (diffN bs cs) bs cs A1 A2 n1 n2 c1 c2 w hr1 hr2 h1 h2 hR HD HDR HW HMO HMR HS
        (hide fun W h h' => meets_bad a hP A1 A2 n1 n2 c1 c2 (by omega) W) (hide (decide_eq_true (by omega)))
  · obtain ⟨K, hK⟩ : ∃ K, (diffN bs cs).length = K := ⟨_, rfl⟩
    have HW := hide (fun A A' c c' W h h' => words_tt A A' K c c' (diffN bs cs) W hK (by omega) h h')
    have hKne : ¬ K = 0 := fun h => hs ((diff_nil hb hc).1 (List.length_eq_zero_iff.1 (hK.trans h)))
    have hKz : ((K : Int) == 0) = false := by simp; omega
    rw [hK] at HD HDR hDl
    rw [decide_eq_false hs] at HS
    by_cases hP : a < 2305843009213693951
    · have hV := hide (fun (A : Option Addr) (c : Nat) (W : World) (h : Rs W A (us (diffN bs cs))) => value_r A c W.heap.size K a (diffN bs cs) W h hK (by omega) hD64 ha)
      have hM := fun W h h' => by
        have h := meets_good a hP A1 A2 n1 n2 c1 c2 bs cs W hn hm hnc1 hnc2 (by omega) (by omega) hb hc h h'
        rw [if_neg hs, decide_eq_false hs] at h
        exact h
      by_cases hz : pval (diffN bs cs) a % 2305843009213693951 = 0
      · rw [decide_eq_true ((diff_pval bs cs a).1 hz)] at hM
        rw [hz] at hV
        exact differs_g0 a K (mostN bs cs) (diffN bs cs) bs cs A1 A2 n1 n2 c1 c2 w hr1 hr2 h1 h2 hR hKz hDl HD HDR HW HMO HMR HS (hide hM) (hide (decide_eq_false (by omega))) hV
      · rw [decide_eq_false (fun h => hz ((diff_pval bs cs a).2 h))] at hM
        exact differs_g1 a K (mostN bs cs) _ (diffN bs cs) bs cs A1 A2 n1 n2 c1 c2 w hr1 hr2 h1 h2 hR hKz hDl HD HDR HW HMO HMR HS (hide hM) (hide (decide_eq_false (by omega))) hV (by simp; omega)
    · exact differs_bn a K (mostN bs cs) (diffN bs cs) bs cs A1 A2 n1 n2 c1 c2 w hr1 hr2 h1 h2 hR hKz hDl HD HDR HW HMO HMR HS
        (hide fun W h h' => meets_bad a hP A1 A2 n1 n2 c1 c2 (by omega) W) (hide (decide_eq_true (by omega)))
end Go.Proofs.Ytaeebipcgeembaa
