/-
  The law StrpolyChunks. Conditions: words; bytes.
-/
import Derived.Test.YtaeebipcgeembaaStrJ
namespace Go.Proofs.Ytaeebipcgeembaa
open Go.RowKit
set_option linter.unusedVariables false

set_option maxRecDepth 100000 in
set_option maxHeartbeats 4000000 in
theorem chunks_skip (A0 A1 A2 : Option Addr) (n0 n1 n2 c0 c1 c2 : Nat) (w : World) (h : 300 < n0 ∨ 300 < n1 ∨ 40 < n2) :
    Calls Try.prog 5 #[.slice A0 n0 c0, .slice A1 n1 c1, .slice A2 n2 c2] w fun e w' => e = .returned (.bool true) ∧ Below w.heap.size w w' := by
  have HAW := hide awake25
  by_cases h1 : 300 < n0
  · have t1 : (300 : Int) < (n0 : Int) := by omega
    clear h h1
    go_enter Try.func5, Try.ntmps5
    go_wp2_with (go_at_call 7; (with_reducible refine (HAW.out w).mono ?_); rintro e w2 ⟨rfl, hb2⟩)
    go_ret
    exact ⟨rfl, hb2⟩
  · by_cases h2 : 300 < n1
    · have t1 : ¬ (300 : Int) < (n0 : Int) := by omega
      have t2 : (300 : Int) < (n1 : Int) := by omega
      clear h h1 h2
      go_enter Try.func5, Try.ntmps5
      go_wp2_with (go_at_call 7; (with_reducible refine (HAW.out w).mono ?_); rintro e w2 ⟨rfl, hb2⟩)
      go_ret
      exact ⟨rfl, hb2⟩
    · have t1 : ¬ (300 : Int) < (n0 : Int) := by omega
      have t2 : ¬ (300 : Int) < (n1 : Int) := by omega
      have t3 : (40 : Int) < (n2 : Int) := by omega
      clear h h1 h2
      go_enter Try.func5, Try.ntmps5
      go_wp2_with (go_at_call 7; (with_reducible refine (HAW.out w).mono ?_); rintro e w2 ⟨rfl, hb2⟩)
      go_ret
      exact ⟨rfl, hb2⟩
set_option maxRecDepth 100000 in
set_option maxHeartbeats 8000000 in
theorem chunks_yes (sB : Bool) (q r d : Nat) (M Mc DD bs cs l : List Nat) (A0 A1 A2 : Option Addr) (n0 n1 n2 c0 c1 c2 : Nat) (w : World) (hr0 : Rs w A0 (by8 bs)) (hr1 : Rs w A1 (by8 cs)) (hr2 : Rs w A2 (us l)) (h1 : n0 ≤ 300) (h2 : n1 ≤ 300) (h3 : n2 ≤ 40)
    (HC0 : Hid (∀ W, Rs W A0 (by8 bs) → Calls Try.prog 14 #[.slice A0 n0 c0] W fun e w' => ∃ A c, e = .returned (.slice A q c) ∧ Rs w' A (us M) ∧ Below W.heap.size W w'))
    (HC1 : Hid (∀ W, Rs W A1 (by8 cs) → Calls Try.prog 14 #[.slice A1 n1 c1] W fun e w' => ∃ A c, e = .returned (.slice A r c) ∧ Rs w' A (us Mc) ∧ Below W.heap.size W w'))
    (HR0 : Hid (∀ W, Rs W A0 (by8 bs) → Calls Try.prog 17 #[.slice A0 n0 c0] W fun e w' => ∃ A c, e = .returned (.slice A q c) ∧ Rs w' A (us M) ∧ Below W.heap.size W w'))
    (HB0 : Hid (∀ A c W, Rs W A (us M) → Calls Try.prog 15 #[.slice A q c] W fun e w' => ∃ D cd, e = .returned (.tuple #[.slice D n0 cd, .bool true]) ∧ Rs w' D (by8 bs) ∧ Below W.heap.size W w'))
    (HS0 : Hid (∀ D cd W, Rs W D (by8 bs) → Rs W A0 (by8 bs) → Calls Try.prog 18 #[.slice D n0 cd, .slice A0 n0 c0] W fun e w' => e = .returned (.bool true) ∧ W = w'))
    (HS1 : Hid (∀ W, Rs W A0 (by8 bs) → Rs W A1 (by8 cs) → Calls Try.prog 18 #[.slice A0 n0 c0, .slice A1 n1 c1] W fun e w' => e = .returned (.bool sB) ∧ W = w'))
    (HW1 : Hid (∀ A A' c c' W, Rs W A (us M) → Rs W A' (us M) → Calls Try.prog 16 #[.slice A q c, .slice A' q c'] W fun e w' => e = .returned (.bool true) ∧ Below W.heap.size W w'))
    (HW2 : Hid (∀ A A' c c' W, Rs W A (us M) → Rs W A' (us Mc) → Calls Try.prog 16 #[.slice A q c, .slice A' r c'] W fun e w' => e = .returned (.bool sB) ∧ Below W.heap.size W w'))
    (HBl : Hid (∀ W, Rs W A2 (us l) → Calls Try.prog 15 #[.slice A2 n2 c2] W fun e w' => ∃ D cd, e = .returned (.tuple #[.slice D d cd, .bool true]) ∧ Rs w' D (by8 DD) ∧ Below W.heap.size W w'))
    (HRd : Hid (∀ D cd W, Rs W D (by8 DD) → Calls Try.prog 17 #[.slice D d cd] W fun e w' => ∃ A c, e = .returned (.slice A n2 c) ∧ Rs w' A (us l) ∧ Below W.heap.size W w'))
    (HWl : Hid (∀ A c W, Rs W A (us l) → Rs W A2 (us l) → Calls Try.prog 16 #[.slice A n2 c, .slice A2 n2 c2] W fun e w' => e = .returned (.bool true) ∧ Below W.heap.size W w')) :
    Calls Try.prog 5 #[.slice A0 n0 c0, .slice A1 n1 c1, .slice A2 n2 c2] w fun e w' => e = .returned (.bool true) ∧ Below w.heap.size w w' := by
  have HAW := hide awake25
  have t1 : ¬ (300 : Int) < (n0 : Int) := by omega
  have t2 : ¬ (300 : Int) < (n1 : Int) := by omega
  have t3 : ¬ (40 : Int) < (n2 : Int) := by omega
  clear h1 h2 h3
  go_enter Try.func5, Try.ntmps5
  go_wp2_with (go_at_call 7; (with_reducible refine (HAW.out w).mono ?_); rintro e w2 ⟨rfl, hw2⟩)
  have B2 := Rs.call hr0 hw2
  have C2 := Rs.call hr1 hw2
  have L2 := Rs.call hr2 hw2
  clear t1 t2 t3 HAW hr0 hr1 hr2
  go_wp2_with (first
    | (go_at_call 14; (with_reducible refine (HC0.out w2 B2).mono ?_); rintro e w3 ⟨A3, c3, rfl, M3, hb3⟩; have B3 := Rs.call B2 hb3; have C3 := Rs.call C2 hb3; have L3 := Rs.call L2 hb3; have hw3 := below_call hw2 (Nat.le_refl _) hb3; clear B2 C2 L2 hb3 hw2)
    | (go_at_call 15; (with_reducible refine (HB0.out _ _ w3 M3).mono ?_); rintro e w4 ⟨D4, cd4, rfl, X4, hb4⟩; have B4 := Rs.call B3 hb4; have C4 := Rs.call C3 hb4; have L4 := Rs.call L3 hb4; have M4 := Rs.call M3 hb4; have hw4 := below_call hw3 (Nat.le_refl _) hb4; clear B3 C3 L3 M3 hb4 hw3)
    | (go_at_call 17; (with_reducible refine (HR0.out w4 B4).mono ?_); rintro e w5 ⟨A5, c5, rfl, N5, hb5⟩; have B5 := Rs.call B4 hb5; have C5 := Rs.call C4 hb5; have L5 := Rs.call L4 hb5; have M5 := Rs.call M4 hb5; have X5 := Rs.call X4 hb5; have hw5 := below_call hw4 (Nat.le_refl _) hb5; clear B4 C4 L4 M4 X4 hb5 hw4)
    | (go_at_call 16; (with_reducible refine (HW1.out _ _ _ _ w5 M5 N5).mono ?_); rintro e w6 ⟨rfl, hb6⟩; have B6 := Rs.call B5 hb6; have C6 := Rs.call C5 hb6; have L6 := Rs.call L5 hb6; have M6 := Rs.call M5 hb6; have X6 := Rs.call X5 hb6; have hw6 := below_call hw5 (Nat.le_refl _) hb6; clear B5 C5 L5 M5 X5 hb6 hw5 N5)
    | (go_at_call 18; (with_reducible refine (HS0.out _ _ w6 X6 B6).mono ?_); rintro e w66 ⟨rfl, rfl⟩; clear X6)
    | (go_at_call 14; (with_reducible refine (HC1.out w6 C6).mono ?_); rintro e w7 ⟨A7, c7, rfl, N7, hb7⟩; have B7 := Rs.call B6 hb7; have C7 := Rs.call C6 hb7; have L7 := Rs.call L6 hb7; have M7 := Rs.call M6 hb7; have hw7 := below_call hw6 (Nat.le_refl _) hb7; clear B6 C6 L6 M6 hb7 hw6)
    | (go_at_call 16; (with_reducible refine (HW2.out _ _ _ _ w7 M7 N7).mono ?_); rintro e w8 ⟨rfl, hb8⟩; have B8 := Rs.call B7 hb8; have C8 := Rs.call C7 hb8; have L8 := Rs.call L7 hb8; have hw8 := below_call hw7 (Nat.le_refl _) hb8; clear B7 C7 L7 hb8 hw7 M7 N7)
    | (go_at_call 18; (with_reducible refine (HS1.out w8 B8 C8).mono ?_); rintro e w88 ⟨rfl, rfl⟩)
    | (go_at_call 15; (with_reducible refine (HBl.out w8 L8).mono ?_); rintro e w9 ⟨D9, cd9, rfl, X9, hb9⟩; have L9 := Rs.call L8 hb9; have hw9 := below_call hw8 (Nat.le_refl _) hb9; clear L8 hb9 hw8)
    | (go_at_call 17; (with_reducible refine (HRd.out _ _ w9 X9).mono ?_); rintro e w10 ⟨A10, c10, rfl, N10, hb10⟩; have L10 := Rs.call L9 hb10; have hw10 := below_call hw9 (Nat.le_refl _) hb10; clear L9 hb10 hw9)
    | (go_at_call 16; (with_reducible refine (HWl.out _ _ w10 N10 L10).mono ?_); rintro e w11 ⟨rfl, hb11⟩; have hw11 := below_call hw10 (Nat.le_refl _) hb11; clear  hb11 hw10))
  go_ret
  exact ⟨rfl, hw11⟩
set_option maxRecDepth 100000 in
set_option maxHeartbeats 8000000 in
theorem chunks_no (sB : Bool) (q r : Nat) (M Mc bs cs l : List Nat) (A0 A1 A2 : Option Addr) (n0 n1 n2 c0 c1 c2 : Nat) (w : World) (hr0 : Rs w A0 (by8 bs)) (hr1 : Rs w A1 (by8 cs)) (hr2 : Rs w A2 (us l)) (h1 : n0 ≤ 300) (h2 : n1 ≤ 300) (h3 : n2 ≤ 40)
    (HC0 : Hid (∀ W, Rs W A0 (by8 bs) → Calls Try.prog 14 #[.slice A0 n0 c0] W fun e w' => ∃ A c, e = .returned (.slice A q c) ∧ Rs w' A (us M) ∧ Below W.heap.size W w'))
    (HC1 : Hid (∀ W, Rs W A1 (by8 cs) → Calls Try.prog 14 #[.slice A1 n1 c1] W fun e w' => ∃ A c, e = .returned (.slice A r c) ∧ Rs w' A (us Mc) ∧ Below W.heap.size W w'))
    (HR0 : Hid (∀ W, Rs W A0 (by8 bs) → Calls Try.prog 17 #[.slice A0 n0 c0] W fun e w' => ∃ A c, e = .returned (.slice A q c) ∧ Rs w' A (us M) ∧ Below W.heap.size W w'))
    (HB0 : Hid (∀ A c W, Rs W A (us M) → Calls Try.prog 15 #[.slice A q c] W fun e w' => ∃ D cd, e = .returned (.tuple #[.slice D n0 cd, .bool true]) ∧ Rs w' D (by8 bs) ∧ Below W.heap.size W w'))
    (HS0 : Hid (∀ D cd W, Rs W D (by8 bs) → Rs W A0 (by8 bs) → Calls Try.prog 18 #[.slice D n0 cd, .slice A0 n0 c0] W fun e w' => e = .returned (.bool true) ∧ W = w'))
    (HS1 : Hid (∀ W, Rs W A0 (by8 bs) → Rs W A1 (by8 cs) → Calls Try.prog 18 #[.slice A0 n0 c0, .slice A1 n1 c1] W fun e w' => e = .returned (.bool sB) ∧ W = w'))
    (HW1 : Hid (∀ A A' c c' W, Rs W A (us M) → Rs W A' (us M) → Calls Try.prog 16 #[.slice A q c, .slice A' q c'] W fun e w' => e = .returned (.bool true) ∧ Below W.heap.size W w'))
    (HW2 : Hid (∀ A A' c c' W, Rs W A (us M) → Rs W A' (us Mc) → Calls Try.prog 16 #[.slice A q c, .slice A' r c'] W fun e w' => e = .returned (.bool sB) ∧ Below W.heap.size W w'))
    (HBl : Hid (∀ W, Rs W A2 (us l) → Calls Try.prog 15 #[.slice A2 n2 c2] W fun e w' => ∃ D cd, e = .returned (.tuple #[.slice D 0 cd, .bool false]) ∧ Below W.heap.size W w'))
    (HR1 : Hid (∀ W, Rs W A1 (by8 cs) → Calls Try.prog 17 #[.slice A1 n1 c1] W fun e w' => ∃ A c, e = .returned (.slice A r c) ∧ Rs w' A (us Mc) ∧ Below W.heap.size W w'))
    (HWl : Hid (∀ A c W, Rs W A (us Mc) → Rs W A2 (us l) → Calls Try.prog 16 #[.slice A r c, .slice A2 n2 c2] W fun e w' => e = .returned (.bool false) ∧ Below W.heap.size W w')) :
    Calls Try.prog 5 #[.slice A0 n0 c0, .slice A1 n1 c1, .slice A2 n2 c2] w fun e w' => e = .returned (.bool true) ∧ Below w.heap.size w w' := by
  have HAW := hide awake25
  have t1 : ¬ (300 : Int) < (n0 : Int) := by omega
  have t2 : ¬ (300 : Int) < (n1 : Int) := by omega
  have t3 : ¬ (40 : Int) < (n2 : Int) := by omega
  clear h1 h2 h3
  go_enter Try.func5, Try.ntmps5
  go_wp2_with (go_at_call 7; (with_reducible refine (HAW.out w).mono ?_); rintro e w2 ⟨rfl, hw2⟩)
  have B2 := Rs.call hr0 hw2
  have C2 := Rs.call hr1 hw2
  have L2 := Rs.call hr2 hw2
  clear t1 t2 t3 HAW hr0 hr1 hr2
  go_wp2_with (first
    | (go_at_call 14; (with_reducible refine (HC0.out w2 B2).mono ?_); rintro e w3 ⟨A3, c3, rfl, M3, hb3⟩; have B3 := Rs.call B2 hb3; have C3 := Rs.call C2 hb3; have L3 := Rs.call L2 hb3; have hw3 := below_call hw2 (Nat.le_refl _) hb3; clear B2 C2 L2 hb3 hw2)
    | (go_at_call 15; (with_reducible refine (HB0.out _ _ w3 M3).mono ?_); rintro e w4 ⟨D4, cd4, rfl, X4, hb4⟩; have B4 := Rs.call B3 hb4; have C4 := Rs.call C3 hb4; have L4 := Rs.call L3 hb4; have M4 := Rs.call M3 hb4; have hw4 := below_call hw3 (Nat.le_refl _) hb4; clear B3 C3 L3 M3 hb4 hw3)
    | (go_at_call 17; (with_reducible refine (HR0.out w4 B4).mono ?_); rintro e w5 ⟨A5, c5, rfl, N5, hb5⟩; have B5 := Rs.call B4 hb5; have C5 := Rs.call C4 hb5; have L5 := Rs.call L4 hb5; have M5 := Rs.call M4 hb5; have X5 := Rs.call X4 hb5; have hw5 := below_call hw4 (Nat.le_refl _) hb5; clear B4 C4 L4 M4 X4 hb5 hw4)
    | (go_at_call 16; (with_reducible refine (HW1.out _ _ _ _ w5 M5 N5).mono ?_); rintro e w6 ⟨rfl, hb6⟩; have B6 := Rs.call B5 hb6; have C6 := Rs.call C5 hb6; have L6 := Rs.call L5 hb6; have M6 := Rs.call M5 hb6; have X6 := Rs.call X5 hb6; have hw6 := below_call hw5 (Nat.le_refl _) hb6; clear B5 C5 L5 M5 X5 hb6 hw5 N5)
    | (go_at_call 18; (with_reducible refine (HS0.out _ _ w6 X6 B6).mono ?_); rintro e w66 ⟨rfl, rfl⟩; clear X6)
    | (go_at_call 14; (with_reducible refine (HC1.out w6 C6).mono ?_); rintro e w7 ⟨A7, c7, rfl, N7, hb7⟩; have B7 := Rs.call B6 hb7; have C7 := Rs.call C6 hb7; have L7 := Rs.call L6 hb7; have M7 := Rs.call M6 hb7; have hw7 := below_call hw6 (Nat.le_refl _) hb7; clear B6 C6 L6 M6 hb7 hw6)
    | (go_at_call 16; (with_reducible refine (HW2.out _ _ _ _ w7 M7 N7).mono ?_); rintro e w8 ⟨rfl, hb8⟩; have B8 := Rs.call B7 hb8; have C8 := Rs.call C7 hb8; have L8 := Rs.call L7 hb8; have hw8 := below_call hw7 (Nat.le_refl _) hb8; clear B7 C7 L7 hb8 hw7 M7 N7)
    | (go_at_call 18; (with_reducible refine (HS1.out w8 B8 C8).mono ?_); rintro e w88 ⟨rfl, rfl⟩)
    | (go_at_call 15; (with_reducible refine (HBl.out w8 L8).mono ?_); rintro e w9 ⟨D9, cd9, rfl, hb9⟩; have C9 := Rs.call C8 hb9; have L9 := Rs.call L8 hb9; have hw9 := below_call hw8 (Nat.le_refl _) hb9; clear C8 L8 hb9 hw8)
    | (go_at_call 17; (with_reducible refine (HR1.out w9 C9).mono ?_); rintro e w10 ⟨A10, c10, rfl, N10, hb10⟩; have L10 := Rs.call L9 hb10; have hw10 := below_call hw9 (Nat.le_refl _) hb10; clear L9 hb10 hw9)
    | (go_at_call 16; (with_reducible refine (HWl.out _ _ w10 N10 L10).mono ?_); rintro e w11 ⟨rfl, hb11⟩; have hw11 := below_call hw10 (Nat.le_refl _) hb11; clear  hb11 hw10))
  go_ret
  exact ⟨rfl, hw11⟩
set_option maxHeartbeats 4000000 in
theorem chunks25_z (A0 A1 A2 : Option Addr) (n0 n1 n2 c0 c1 c2 : Nat) (zs zs' : List Int) (l : List Nat) (hb0 : zs.length = n0) (hb1 : zs'.length = n1) (hl : l.length = n2) (hnc0 : n0 ≤ c0) (hnc1 : n1 ≤ c1) (hwb : ∀ n ∈ zs, (Lit.int .u8 n).wf = true) (hwc : ∀ n ∈ zs', (Lit.int .u8 n).wf = true) (w : World)
    (hr0 : Rs w A0 (zs.map fun n => Value.int .u8 n)) (hr1 : Rs w A1 (zs'.map fun n => Value.int .u8 n)) (hr2 : Rs w A2 (us l)) :
    Calls Try.prog 5 #[.slice A0 n0 c0, .slice A1 n1 c1, .slice A2 n2 c2] w fun e w' => e = .returned (.bool true) ∧ Below w.heap.size w w' := by
  obtain ⟨bs, hxl, hxe, hb⟩ := bytes_of hwb
  obtain ⟨cs, hyl, hye, hc⟩ := bytes_of hwc
  rw [hxe] at hr0
  rw [hye] at hr1
  by_cases hsk : 300 < n0 ∨ 300 < n1 ∨ 40 < n2
  · exact chunks_skip A0 A1 A2 n0 n1 n2 c0 c1 c2 w hsk
  have h0 : n0 ≤ 300 := by omega
  have h1 : n1 ≤ 300 := by omega
  have h2 : n2 ≤ 40 := by omega
  have hn : bs.length = n0 := hxl.trans hb0
  have hm : cs.length = n1 := hyl.trans hb1
  have hq := most_len bs
  have hr := most_len cs
  have HC0 : Hid (∀ W, Rs W A0 (by8 bs) → Calls Try.prog 14 #[.slice A0 n0 c0] W fun e w' => ∃ A c, e = .returned (.slice A (chunksN bs).length c) ∧ Rs w' A (us (chunksN bs)) ∧ Below W.heap.size W w') := hide (fun W h => (Chunks_f bs hb A0 n0 c0 hn hnc0 (by omega) W h).mono fun e w' ⟨A, c, he, ho, hbl⟩ => ⟨A, c, he, Rs.of_own ho, hbl⟩)
  have HC1 : Hid (∀ W, Rs W A1 (by8 cs) → Calls Try.prog 14 #[.slice A1 n1 c1] W fun e w' => ∃ A c, e = .returned (.slice A (chunksN cs).length c) ∧ Rs w' A (us (chunksN cs)) ∧ Below W.heap.size W w') := hide (fun W h => (Chunks_f cs hc A1 n1 c1 hm hnc1 (by omega) W h).mono fun e w' ⟨A, c, he, ho, hbl⟩ => ⟨A, c, he, Rs.of_own ho, hbl⟩)
  have HR0 := hide (fun W h => chunks_r bs hb A0 c0 n0 W hn (by omega) h)
  have HR1 := hide (fun W h => chunks_r cs hc A1 c1 n1 W hm (by omega) h)
  unfold RetL at HR0 HR1
  have HB0 : Hid (∀ A c W, Rs W A (us (chunksN bs)) → Calls Try.prog 15 #[.slice A (chunksN bs).length c] W fun e w' => ∃ D cd, e = .returned (.tuple #[.slice D n0 cd, .bool true]) ∧ Rs w' D (by8 bs) ∧ Below W.heap.size W w') := hide (fun A c W h => (Bytes_f A (chunksN bs).length c (chunksN bs) W rfl (by omega) h).mono fun e w' ⟨D, d, cd, b, he, hbl, hcase⟩ => by
    rw [dec_chunks bs hb] at hcase
    rcases hcase with ⟨rfl, _, hd, _, hrd⟩ | ⟨_, _, hne⟩
    · exact ⟨D, cd, by rw [he, hd, hn], hrd, hbl⟩
    · exact (hne rfl).elim)
  have HS0 := hide (fun D cd W h h' => same_r D A0 n0 n0 cd c0 bs bs W hn hn hb hb h h')
  rw [decide_eq_true rfl] at HS0
  have HS1 := hide (fun W h h' => same_r A0 A1 n0 n1 c0 c1 bs cs W hn hm hb hc h h')
  have HW1 := hide (fun A A' c c' W h h' => words_tt A A' (chunksN bs).length c c' (chunksN bs) W rfl (by omega) h h')
  have HW2 := hide (fun (A A' : Option Addr) (c c' : Nat) W (h : Rs W A (us (chunksN bs))) (h' : Rs W A' (us (chunksN cs))) => words_any A A' c c' W.heap.size W.heap.size (chunksN bs) (chunksN cs) W h h' (by omega) (by omega) _ rfl _ rfl)
  rw [show decide (chunksN bs = chunksN cs) = decide (bs = cs) from decide_eq_decide.2 (chunks_same hb hc)] at HW2
  by_cases hy : chunksN (decN l) = l
  · have hdl := decN_len l
    refine chunks_yes (decide (bs = cs)) _ _ (decN l).length _ _ (decN l) bs cs l A0 A1 A2 n0 n1 n2 c0 c1 c2 w hr0 hr1 hr2 h0 h1 h2 HC0 HC1 HR0 HB0 HS0 HS1 HW1 HW2 ?_ ?_ ?_
    · exact hide (fun W h => (Bytes_f A2 n2 c2 l W hl (by omega) h).mono fun e w' ⟨D, d, cd, b, he, hbl, hcase⟩ => by
        rcases hcase with ⟨rfl, _, hd, _, hrd⟩ | ⟨_, _, hne⟩
        · exact ⟨D, cd, by rw [he, hd], hrd, hbl⟩
        · exact (hne hy).elim)
    · exact hide (fun D cd W h => by
        have h9 := chunks_r (decN l) (decN_lt l) D cd (decN l).length W rfl (by omega) h
        unfold RetL at h9
        rw [hy, hl] at h9
        exact h9)
    · exact hide (fun A c W h h' => words_tt A A2 n2 c c2 l W hl (by omega) h h')
  · refine chunks_no (decide (bs = cs)) _ _ _ _ bs cs l A0 A1 A2 n0 n1 n2 c0 c1 c2 w hr0 hr1 hr2 h0 h1 h2 HC0 HC1 HR0 HB0 HS0 HS1 HW1 HW2 ?_ HR1 ?_
    · exact hide (fun W h => (Bytes_f A2 n2 c2 l W hl (by omega) h).mono fun e w' ⟨D, d, cd, b, he, hbl, hcase⟩ => by
        rcases hcase with ⟨_, hyes, _⟩ | ⟨rfl, rfl, _⟩
        · exact (hy hyes).elim
        · exact ⟨D, cd, he, hbl⟩)
    · have hne := dec_only hy cs hc
      exact hide (fun A c W h h' => by
        have h9 := words_any A A2 c c2 W.heap.size W.heap.size (chunksN cs) l W h h' (by omega) (by omega) _ rfl n2 hl
        rw [decide_eq_false hne] at h9
        exact h9)
end Go.Proofs.Ytaeebipcgeembaa
