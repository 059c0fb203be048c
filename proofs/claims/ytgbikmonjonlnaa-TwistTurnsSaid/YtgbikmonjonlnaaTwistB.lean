/-
  Walk of the law TwistTurns. Conditions: slices no longer than the form lets them be.
-/
import Derived.Test.YtgbikmonjonlnaaTwistA
namespace Go.Proofs.Ytgbikmonjonlnaa
open Go.RowKit
set_option linter.unusedVariables false

set_option maxRecDepth 100000 in
set_option maxHeartbeats 1000000 in
theorem turns_law (A : Option Addr) (n c B : Nat) (words : List Nat) (x y : Nat) (w : World) (hwd : Rd w B A (us words)) (hB : B ≤ w.heap.size) (hl : words.length ≤ 17592186043904)
    (hw : ∀ x ∈ words, x < 18446744073709551616) (hx : x < 18446744073709551616) (hy : y < 18446744073709551616) (hn : words.length = n) (hnc : n ≤ c) :
    Calls Try.prog 6 #[.slice A n c, .int .u64 x, .int .u64 y] w fun e w' => e = .returned (.bool true) ∧ Below w.heap.size w w' := by
  have HN := hide hn
  have C1 : ∀ W, Below w.heap.size w W → Calls Try.prog 29 #[.slice A n c, .int .u64 x] W fun e w' => e = .returned (.tuple #[.int .u64 (turnV words x : Nat), .int .i64 (keyE n 240 x)]) ∧ Below W.heap.size W w' :=
    fun W hb => turn_any A c B words x W (hwd.below (hb.mono hB)) (Nat.le_trans hB hb.size) hl hw hx n hn hnc
  have C2 : ∀ W, Below w.heap.size w W → Calls Try.prog 30 #[.slice A n c, .int .u64 x] W fun e w' => e = .returned (.tuple #[.int .u64 (turnV words x : Nat), .int .i64 (keyE n 240 x)]) ∧ Below W.heap.size W w' :=
    fun W hb => unturn_any A c B words x W (hwd.below (hb.mono hB)) (Nat.le_trans hB hb.size) hl hw hx n hn hnc
  have C3 : ∀ W, Calls Try.prog 24 #[.slice A n c, .int .i64 64, .int .i64 240] W fun e w' => e = .returned (.int .i64 (chk n 240 64)) ∧ W = w' := fun W => check_ref A n c 64 240 W
  by_cases h0 : n = 240
  · rw [show chk (n : Int) 240 64 = 0 by rw [chk64, if_pos (by omega)]] at C3
    by_cases hx32 : x < 4294967296
    · have ht : turnV words x = turnR words x := by simp [turnV, keyE, hn, h0, hx32]
      rw [show keyE n 240 x = 0 by simp [keyE, h0, hx32], ht] at C1 C2
      have hq2 : decide ((4294967296 : Int) ≤ (x : Int)) = false := by simp; omega
      have D : ∀ (z : Nat) W, z < 18446744073709551616 → Below w.heap.size w W → Calls Try.prog 31 #[.slice A n c, .int .u64 z] W fun e w' => e = .returned (.int .u64 (turnR words z : Nat)) ∧ Below W.heap.size W w' :=
        fun z W hz hb => turn_ref A c B words z W (hwd.below (hb.mono hB)) (Nat.le_trans hB hb.size) hw hz n hn h0
      have HC1 := hide C1; have HC2 := hide C2; have HC3 := hide C3; have HD := hide D; have HX := hide hx; have HY := hide hy
      have e1 : (((turnR words x : Nat) : Int) != ((turnR words x : Nat) : Int)) = false := by simp
      have e2 : ((x : Int) != (x : Int)) = false := by simp
      clear C1 C2 C3 D hn h0 hx32 ht hw hx hy
      go_enter Try.func6, Try.ntmps6
      go_wp2_with fail
      refine (awake_twist _).mono ?_
      rintro e w1 ⟨rfl, hb1⟩
      go_wp2_with fail
      refine (HC1.out _ hb1).mono ?_
      rintro e w2 ⟨rfl, hb2⟩
      have b2 := hb1.trans (hb2.mono hb1.size)
      go_wp2_with fail
      refine (HC2.out _ b2).mono ?_
      rintro e w3 ⟨rfl, hb3⟩
      have b3 := b2.trans (hb3.mono b2.size)
      go_wp2_with fail
      refine (HC3.out _).mono ?_
      rintro e w4 ⟨rfl, rfl⟩
      go_wp2_with fail
      refine (HD.out x _ HX.out b3).mono ?_
      rintro e w4 ⟨rfl, hb4⟩
      have b4 := b3.trans (hb4.mono b3.size)
      go_wp2_with fail
      refine (HD.out (turnR words x) _ (turnR_lt64 _ _ HX.out) b4).mono ?_
      rintro e w5 ⟨rfl, hb5⟩
      have b5 := b4.trans (hb5.mono b4.size)
      rw [turn_turn]
      by_cases hy32 : y < 4294967296
      · have hq3 : decide ((4294967296 : Int) ≤ (y : Int)) = false := by simp; omega
        have HY32 := hide hy32; clear hy32
        by_cases hxy : x = y
        · have e3 : (((turnR words y : Nat) : Int) == ((turnR words x : Nat) : Int)) = true := by rw [hxy]; simp
          have e4 : ((x : Int) == (y : Int)) = true := by rw [hxy]; simp
          clear hxy
          go_wp2_with fail
          refine (HD.out y _ HY.out b5).mono ?_
          rintro e w6 ⟨rfl, hb6⟩
          go_wp2_with fail
          go_ret
          exact ⟨rfl, b5.trans (hb6.mono b5.size)⟩
        · have e3 : (((turnR words y : Nat) : Int) == ((turnR words x : Nat) : Int)) = false := by
            rw [beq_eq_false_iff_ne]; intro h; exact hxy (turn_inj words (by omega))
          have e4 : ((x : Int) == (y : Int)) = false := by rw [beq_eq_false_iff_ne]; omega
          clear hxy
          go_wp2_with fail
          refine (HD.out y _ HY.out b5).mono ?_
          rintro e w6 ⟨rfl, hb6⟩
          go_wp2_with fail
          go_ret
          exact ⟨rfl, b5.trans (hb6.mono b5.size)⟩
      · have hq3 : decide ((4294967296 : Int) ≤ (y : Int)) = true := by simp; omega
        clear hy32
        go_wp2_with fail
        go_ret
        exact ⟨rfl, b5⟩
    · have ht : turnV words x = 0 := by simp [turnV, keyE, hn, h0, hx32]
      rw [show keyE n 240 x = 2 by simp [keyE, h0, hx32], ht] at C1 C2
      have hq2 : decide ((4294967296 : Int) ≤ (x : Int)) = true := by simp; omega
      have HC1 := hide C1; have HC2 := hide C2; have HC3 := hide C3
      clear C1 C2 C3 hn h0 hx32 ht hw hx hy
      go_enter Try.func6, Try.ntmps6
      go_wp2_with fail
      refine (awake_twist _).mono ?_
      rintro e w1 ⟨rfl, hb1⟩
      go_wp2_with fail
      refine (HC1.out _ hb1).mono ?_
      rintro e w2 ⟨rfl, hb2⟩
      have b2 := hb1.trans (hb2.mono hb1.size)
      go_wp2_with fail
      refine (HC2.out _ b2).mono ?_
      rintro e w3 ⟨rfl, hb3⟩
      have b3 := b2.trans (hb3.mono b2.size)
      go_wp2_with fail
      refine (HC3.out _).mono ?_
      rintro e w4 ⟨rfl, rfl⟩
      go_wp2_with fail
      go_ret
      exact ⟨rfl, b3⟩
  · rw [show chk (n : Int) 240 64 = 13 by rw [chk64, if_neg (by omega)]] at C3
    have ht : turnV words x = 0 := by simp [turnV, keyE, hn, h0]
    rw [show keyE n 240 x = 13 by simp [keyE, h0], ht] at C1 C2
    have HC1 := hide C1; have HC2 := hide C2; have HC3 := hide C3
    clear C1 C2 C3 hn h0 ht hw hx hy
    go_enter Try.func6, Try.ntmps6
    go_wp2_with fail
    refine (awake_twist _).mono ?_
    rintro e w1 ⟨rfl, hb1⟩
    go_wp2_with fail
    refine (HC1.out _ hb1).mono ?_
    rintro e w2 ⟨rfl, hb2⟩
    have b2 := hb1.trans (hb2.mono hb1.size)
    go_wp2_with fail
    refine (HC2.out _ b2).mono ?_
    rintro e w3 ⟨rfl, hb3⟩
    have b3 := b2.trans (hb3.mono b2.size)
    go_wp2_with fail
    refine (HC3.out _).mono ?_
    rintro e w4 ⟨rfl, rfl⟩
    go_wp2_with fail
    go_ret
    exact ⟨rfl, b3⟩
end Go.Proofs.Ytgbikmonjonlnaa
