/-
  Walk of the law WideSums. Conditions: words fit 64 bits.
-/
import Derived.Test.YtjgcpacdiiifjaaWideA
import Derived.Deep.RegionHeld3
namespace Go.Proofs.Ytjgcpacdiiifjaa
open Go.RowKit Go.Shelf
set_option linter.unusedVariables false

theorem carry_one (X Y : Nat) (hX : X < 2 ^ 128) (hY : Y < 2 ^ 128) : (((carry X Y 128 : Nat) : Int) == 1) = decide (340282366920938463463374607431768211456 ≤ X + Y) := by
  rw [carry_low hX hY, Bool.eq_iff_iff]
  simp only [beq_iff_eq, decide_eq_true_eq]
  have e : (2 : Nat) ^ 128 = 340282366920938463463374607431768211456 := by decide
  rw [e] at hX hY ⊢
  omega
theorem lack_one (X Y : Nat) (hX : X < 2 ^ 128) (hY : Y < 2 ^ 128) : (((lack X Y 128 : Nat) : Int) == 1) = decide (X < Y) := by
  rw [lack_low hX hY, Bool.eq_iff_iff]
  simp only [beq_iff_eq, decide_eq_true_eq]
  split <;> omega
theorem dif_eq (X Y : Nat) (hX : X < 2 ^ 128) (hY : Y < 2 ^ 128) : dif X Y 128 = dif128 X Y := by
  unfold dif dif128
  rw [Nat.mod_eq_of_lt hX, Nat.mod_eq_of_lt hY, show (2 : Nat) ^ 128 = 340282366920938463463374607431768211456 by decide]
theorem dif_lt (X Y n : Nat) : dif X Y n < 2 ^ n := Nat.mod_lt _ (Nat.two_pow_pos n)
theorem to2_m (A : Option Addr) (c B X : Nat) (w : World) (hr : Rd w B A (is (bitsOf X 128))) (hB : B ≤ w.heap.size) : Calls Try.prog 21 #[.slice A 128 c] w (Ret128 w X) := by
  rw [← bitsOf_mod] at hr
  refine (to2_any A 128 c B (X % 2 ^ 128) w hr (Nat.mod_lt _ (Nat.two_pow_pos _)) (by omega) hB).mono ?_
  rintro e w' ⟨he, hb⟩
  refine ⟨?_, hb⟩
  rw [he, show hi64 (X % 2 ^ 128) = hi64 X from hi64_m _, show lo64 (X % 2 ^ 128) = lo64 X from lo64_m _]
theorem bits_m (X n : Nat) : bitsOf X n = bitsOf (X % 2 ^ n) n := (bitsOf_mod X n).symm

set_option maxRecDepth 100000 in
set_option maxHeartbeats 2000000 in
theorem wsums_law (ah al bh bl : Nat) (w : World) (h1 : ah < 18446744073709551616) (h2 : al < 18446744073709551616) (h3 : bh < 18446744073709551616) (h4 : bl < 18446744073709551616) :
    Calls Try.prog 4 #[.agg #[.int .u64 ah, .int .u64 al], .agg #[.int .u64 bh, .int .u64 bl]] w fun e w' => e = .returned (.bool true) ∧ Below w.heap.size w w' := by
  have B : Below w.heap.size w w := Below.refl _ _
  go_enter Try.func4, Try.ntmps4
  go_wp2_with fail
  refine (awake_wide _).mono ?_
  rintro e w1 ⟨rfl, hb1⟩
  replace B := below_call (Below.alloc (Below.alloc B (Below.size B) _) (Below.size (Below.alloc B (Below.size B) _)) _) (Nat.le_refl _) hb1
  have q1 : w1.cell? ⟨w.heap.size, 0, none⟩ = some (.int .u64 ah) := cell_call hb1 (by simp [go_sem])
  have q2 : w1.cell? ⟨w.heap.size, 1, none⟩ = some (.int .u64 al) := cell_call hb1 (by simp [go_sem])
  have q3 : w1.cell? ⟨w.heap.size + 1, 0, none⟩ = some (.int .u64 bh) := cell_call hb1 (by simp [go_sem])
  have q4 : w1.cell? ⟨w.heap.size + 1, 1, none⟩ = some (.int .u64 bl) := cell_call hb1 (by simp [go_sem])
  clear hb1
  go_wp2_with fail
  go_region_held3 (fun w' => w'.cell? ⟨w.heap.size, 0, none⟩ = some (.int .u64 ah) ∧ w'.cell? ⟨w.heap.size, 1, none⟩ = some (.int .u64 al) ∧ w'.cell? ⟨w.heap.size + 1, 0, none⟩ = some (.int .u64 bh) ∧ w'.cell? ⟨w.heap.size + 1, 1, none⟩ = some (.int .u64 bl)) (first | exact ⟨q1, q2, q3, q4⟩ | exact ⟨r1, r2, r3, r4⟩ | exact ⟨p1, p2, p3, p4⟩) (first | (go_at_call_of 16 al; refine (of2_any ah al _ h1 h2).mono ?_; rintro e w2 ⟨A1, k1, rfl, hown1, hb2⟩; have p1 := cell_call hb2 q1; have p2 := cell_call hb2 q2; have p3 := cell_call hb2 q3; have p4 := cell_call hb2 q4) | (go_at_call_of 16 bl; refine (of2_any bh bl _ h3 h4).mono ?_; rintro e w3 ⟨A2, k2, rfl, hown2, hb3⟩; have r1 := cell_call hb3 p1; have r2 := cell_call hb3 p2; have r3 := cell_call hb3 p3; have r4 := cell_call hb3 p4))
  clear p1 p2 p3 p4 q1 q2 q3 q4
  have rX := Rs.call (Rs.of_own hown1) hb3
  have rY := Rs.of_own hown2
  replace B := below_call (below_call B.drew (Nat.le_refl _) hb2) (Nat.le_refl _) hb3
  clear hown1 hown2 hb2 hb3
  obtain ⟨X, hX⟩ : ∃ X, X = val2 ah al := ⟨_, rfl⟩
  obtain ⟨Y, hY⟩ : ∃ Y, Y = val2 bh bl := ⟨_, rfl⟩
  have hXlt : X < 2 ^ 128 := by rw [hX]; exact val2_lt h1 h2
  have hYlt : Y < 2 ^ 128 := by rw [hY]; exact val2_lt h3 h4
  rw [← hX] at rX; rw [← hY] at rY
  have CA := hide (fun W => wadd_any ah al bh bl W h1 h2 h3 h4)
  have CS := hide (fun W => wsub_any ah al bh bl W h1 h2 h3 h4)
  have CC := hide (fun W => wcmp_any ah al bh bl W h2 h4)
  rw [← hX, ← hY] at CA CS CC
  have HXL := hide hXlt; have HYL := hide hYlt
  clear hXlt hYlt hX hY
  go_wp2_with fail
  refine (CA.out _).mono ?_
  rintro e w4 ⟨rfl, hb4⟩
  replace r1 := cell_call hb4 r1
  replace r2 := cell_call hb4 r2
  replace r3 := cell_call hb4 r3
  replace r4 := cell_call hb4 r4
  replace rX := Rs.call rX hb4
  replace rY := Rs.call rY hb4
  replace B := below_call B (Nat.le_refl _) hb4
  clear hb4
  go_wp2_with fail
  refine (add_ref A1 A2 128 k1 128 k2 _ _ _ _ 128 128 rfl (by omega) (by omega) (by omega) _ (Rs.alloc rX _) (Rs.alloc rY _) HXL.out HYL.out (Nat.le_refl _) (Nat.le_refl _)).mono ?_
  rintro e w5 ⟨A3, k3, rfl, hown3, hb5⟩
  replace r1 := cell_call hb5 (cell_alloc _ r1)
  replace r2 := cell_call hb5 (cell_alloc _ r2)
  replace r3 := cell_call hb5 (cell_alloc _ r3)
  replace r4 := cell_call hb5 (cell_alloc _ r4)
  replace rX := Rs.call (Rs.alloc rX _) hb5
  replace rY := Rs.call (Rs.alloc rY _) hb5
  replace B := below_call (Below.alloc B (Below.size B) _) (Nat.le_refl _) hb5
  have s1 : w5.cell? ⟨w4.heap.size, 0, none⟩ = some (.int .u64 (hi64 (X + Y) : Nat)) := cell_call hb5 (by simp [go_sem])
  have s2 : w5.cell? ⟨w4.heap.size, 1, none⟩ = some (.int .u64 (lo64 (X + Y) : Nat)) := cell_call hb5 (by simp [go_sem])
  clear hb5
  have rS := Rs.of_own hown3
  clear hown3
  go_wp2_with fail
  refine (CS.out _).mono ?_
  rintro e w6 ⟨rfl, hb6⟩
  replace r1 := cell_call hb6 r1
  replace r2 := cell_call hb6 r2
  replace r3 := cell_call hb6 r3
  replace r4 := cell_call hb6 r4
  replace s1 := cell_call hb6 s1
  replace s2 := cell_call hb6 s2
  replace rX := Rs.call rX hb6
  replace rY := Rs.call rY hb6
  replace rS := Rs.call rS hb6
  replace B := below_call B (Nat.le_refl _) hb6
  clear hb6
  go_wp2_with fail
  refine (sub_ref A1 A2 128 k1 128 k2 _ _ _ _ 128 128 rfl (by omega) (by omega) (by omega) _ (Rs.alloc rX _) (Rs.alloc rY _) HXL.out HYL.out (Nat.le_refl _) (Nat.le_refl _)).mono ?_
  rintro e w7 ⟨A4, k4, rfl, hown4, hb7⟩
  replace r1 := cell_call hb7 (cell_alloc _ r1)
  replace r2 := cell_call hb7 (cell_alloc _ r2)
  replace r3 := cell_call hb7 (cell_alloc _ r3)
  replace r4 := cell_call hb7 (cell_alloc _ r4)
  replace s1 := cell_call hb7 (cell_alloc _ s1)
  replace s2 := cell_call hb7 (cell_alloc _ s2)
  replace rX := Rs.call (Rs.alloc rX _) hb7
  replace rY := Rs.call (Rs.alloc rY _) hb7
  replace rS := Rs.call (Rs.alloc rS _) hb7
  replace B := below_call (Below.alloc B (Below.size B) _) (Nat.le_refl _) hb7
  have u1 : w7.cell? ⟨w6.heap.size, 0, none⟩ = some (.int .u64 (hi64 (dif128 X Y) : Nat)) := cell_call hb7 (by simp [go_sem])
  have u2 : w7.cell? ⟨w6.heap.size, 1, none⟩ = some (.int .u64 (lo64 (dif128 X Y) : Nat)) := cell_call hb7 (by simp [go_sem])
  clear hb7
  have rD := Rs.of_own hown4
  clear hown4
  rw [dif_eq X Y HXL.out HYL.out] at rD
  have eC := carry_one X Y HXL.out HYL.out
  have eL := lack_one X Y HXL.out HYL.out
  have CT1 : Hid (∀ W, Rs W A3 (is (bitsOf (X + Y) 128)) → Calls Try.prog 21 #[.slice A3 128 k3] W fun e w' => e = .returned (.agg #[.int .u64 (hi64 (X + Y) : Nat), .int .u64 (lo64 (X + Y) : Nat)]) ∧ Below W.heap.size W w') := fun W h => to2_m A3 k3 _ (X + Y) W h (Nat.le_refl _)
  have CT2 : Hid (∀ W, Rs W A4 (is (bitsOf (dif128 X Y) 128)) → Calls Try.prog 21 #[.slice A4 128 k4] W fun e w' => e = .returned (.agg #[.int .u64 (hi64 (dif128 X Y) : Nat), .int .u64 (lo64 (dif128 X Y) : Nat)]) ∧ Below W.heap.size W w') := fun W h => to2_m A4 k4 _ (dif128 X Y) W h (Nat.le_refl _)
  have CR : Hid (∀ W, Rs W A1 (is (bitsOf X 128)) → Rs W A2 (is (bitsOf Y 128)) → Calls Try.prog 23 #[.slice A1 128 k1, .slice A2 128 k2] W fun e w' => e = .returned (.int .i64 (cmpV X Y)) ∧ W = w') := fun W h h' => cmp_ref A1 A2 128 k1 128 k2 _ _ X Y W h h' HXL.out HYL.out (by omega) (by omega)
  replace CC := CC.out
  generalize is (bitsOf (X + Y) 128) = LS at *
  generalize is (bitsOf (dif128 X Y) 128) = LD at *
  generalize is (bitsOf X 128) = LX at *
  generalize is (bitsOf Y 128) = LY at *
  generalize hi64 (X + Y) = sh at *
  generalize lo64 (X + Y) = sl at *
  generalize hi64 (dif128 X Y) = dh at *
  generalize lo64 (dif128 X Y) = dl at *
  generalize decide (340282366920938463463374607431768211456 ≤ X + Y) = ov at *
  generalize decide (X < Y) = lk at *
  generalize carry X Y 128 = cC at *
  generalize lack X Y 128 = lL at *
  generalize cmpV X Y = cv at *
  have HCC := hide CC
  clear CC CA CS HXL HYL
  go_wp2_with fail
  as_aux_lemma =>
    go_region_held3 (fun w' => w'.cell? ⟨w.heap.size, 0, none⟩ = some (.int .u64 ah) ∧ w'.cell? ⟨w.heap.size, 1, none⟩ = some (.int .u64 al) ∧ w'.cell? ⟨w.heap.size + 1, 0, none⟩ = some (.int .u64 bh) ∧ w'.cell? ⟨w.heap.size + 1, 1, none⟩ = some (.int .u64 bl) ∧ w'.cell? ⟨w4.heap.size, 0, none⟩ = some (.int .u64 sh) ∧ w'.cell? ⟨w4.heap.size, 1, none⟩ = some (.int .u64 sl) ∧ w'.cell? ⟨w6.heap.size, 0, none⟩ = some (.int .u64 dh) ∧ w'.cell? ⟨w6.heap.size, 1, none⟩ = some (.int .u64 dl)) (first | exact ⟨z1, z2, z3, z4, z5, z6, z7, z8⟩ | exact ⟨y1, y2, y3, y4, y5, y6, y7, y8⟩ | exact ⟨x1, x2, x3, x4, x5, x6, x7, x8⟩ | exact ⟨r1, r2, r3, r4, s1, s2, u1, u2⟩) (first | (go_at_call_of 21 A3; refine (CT1.out _ (Rs.drew rS)).mono ?_; rintro e w8 ⟨rfl, hb8⟩; have x1 := cell_call hb8 r1; have x2 := cell_call hb8 r2; have x3 := cell_call hb8 r3; have x4 := cell_call hb8 r4; have x5 := cell_call hb8 s1; have x6 := cell_call hb8 s2; have x7 := cell_call hb8 u1; have x8 := cell_call hb8 u2) | (go_at_call_of 21 A4; refine (CT2.out _ (Rs.call (Rs.drew rD) hb8)).mono ?_; rintro e w9 ⟨rfl, hb9⟩; have y1 := cell_call hb9 x1; have y2 := cell_call hb9 x2; have y3 := cell_call hb9 x3; have y4 := cell_call hb9 x4; have y5 := cell_call hb9 x5; have y6 := cell_call hb9 x6; have y7 := cell_call hb9 x7; have y8 := cell_call hb9 x8) | (go_at_call 22; refine (HCC.out _).mono ?_; rintro e w10 ⟨rfl, hb10⟩; have z1 := cell_call hb10 y1; have z2 := cell_call hb10 y2; have z3 := cell_call hb10 y3; have z4 := cell_call hb10 y4; have z5 := cell_call hb10 y5; have z6 := cell_call hb10 y6; have z7 := cell_call hb10 y7; have z8 := cell_call hb10 y8) | (go_at_call 23; refine (CR.out _ (Rs.call (Rs.call (Rs.call (Rs.drew rX) hb8) hb9) hb10) (Rs.call (Rs.call (Rs.call (Rs.drew rY) hb8) hb9) hb10)).mono ?_; rintro e w11 ⟨rfl, rfl⟩))
    go_wp2
    go_ret
    exact ⟨rfl, below_call (below_call (below_call B.drew (Nat.le_refl _) hb8) (Nat.le_refl _) hb9) (Nat.le_refl _) hb10⟩
end Go.Proofs.Ytjgcpacdiiifjaa
