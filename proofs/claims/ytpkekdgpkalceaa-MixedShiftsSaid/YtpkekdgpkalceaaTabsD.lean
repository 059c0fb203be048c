/-
  Walks of astragalref22.Eval, of the law's own 'awake' and of the laws TabsSums and TabsEvals. Conditions: slices no longer than the form lets them be.
-/
import Derived.Test.YtpkekdgpkalceaaTabsC
namespace Go.Proofs.Ytpkekdgpkalceaa
open Go.RowKit
set_option linter.unusedVariables false

set_option maxRecDepth 100000 in
set_option maxHeartbeats 400000 in
theorem eval_ref (A : Option Addr) (c B : Nat) (words : List Nat) (b : Int) (x : Nat) (w : World) (hwd : Rd w B A (us words)) (hB : B ≤ w.heap.size) (hl : words.length ≤ 17592186043904)
    (hw : ∀ x ∈ words, x < 18446744073709551616) (hx : x < 18446744073709551616) (nw : Nat) (hnw : words.length = nw) :
    Calls Try.prog 16 #[.slice A nw c, .int .i64 b, .int .u64 x] w fun e w' => e = .returned (.tuple #[.int .u64 (evalV words b x : Nat), .int .i64 (evalE words b x)]) ∧ Below w.heap.size w w' := by
  subst hnw
  by_cases h0 : chk words.length 128 b = 0
  · obtain ⟨hb1, hb2, hn⟩ := chk_zero h0
    have hn2 : words.length = 128 := by omega
    have HW := hide hw; have H0 := hide h0; have HN2 := hide hn2; have HX := hide hx; have HL := hide hl
    clear h0 hn hn2 hw hx hl
    by_cases hx32 : x < 4294967296
    · have hq2 : decide ((4294967296 : Int) ≤ (x : Int)) = false := by simp; omega
      have HX32 := hide hx32
      clear hx32
      go_enter Try.func16, Try.ntmps16
      go_wp2_with (go_at_call 14; refine (check_ref _ _ _ _ _ _).mono ?_; rintro e w' ⟨rfl, rfl⟩; rw [H0.out])
      refine (letters_n x 8 8 rfl (by omega) _ HX.out).mono ?_
      rintro e w1 ⟨A1, c1, rfl, hown, hbel⟩
      have hf : fitsV words.length (letters x 8) = 0 := by simp [fitsV, len_letters, letters_good, HN2.out]
      have HF := hide hf; clear hf
      go_wp2_with fail
      refine (sum_ref _ _ _ _ _ _ words (letters x 8) _ (hwd.below (hbel.mono hB)) (Rd.of_own hown) HL.out HW.out (by rw [len_letters, HN2.out]) (letters_good _ _) _ rfl _ (len_letters _ _)).mono ?_
      rintro e w2 ⟨rfl, rfl⟩
      go_wp2_with fail
      refine (low_ref _ _ _ (sumV_lt _ _ HW.out) hb1 hb2).mono ?_
      rintro e w2 ⟨rfl, rfl⟩
      go_wp2
      go_ret2
      have he : evalE words b x = 0 := by simp [evalE, H0.out, HX32.out]
      exact ⟨ret_ii (by simp [evalV, he]) he.symm, hbel⟩
    · have hq2 : 4294967296 ≤ (x : Int) := by omega
      have HX32 := hide hx32
      clear hx32
      go_enter Try.func16, Try.ntmps16
      go_wp2_with (go_at_call 14; refine (check_ref _ _ _ _ _ _).mono ?_; rintro e w' ⟨rfl, rfl⟩; rw [H0.out])
      go_ret2
      have he : evalE words b x = 2 := by simp [evalE, H0.out, HX32.out]
      exact ⟨ret_ii (by simp [evalV, he]) he.symm, Below.refl _ _⟩
  · have hz : (chk words.length 128 b != 0) = true := by simpa using h0
    have he : evalE words b x = chk words.length 128 b := by simp [evalE, h0]
    have hv : evalV words b x = 0 := by simp [evalV, he, h0]
    rw [he, hv]
    have C := hide fun W => check_ref A words.length c b 128 W
    clear he hv
    generalize chk words.length 128 b = z at *
    clear h0
    go_enter Try.func16, Try.ntmps16
    go_wp2_with (go_at_call 14; refine (C.out _).mono ?_; rintro e w' ⟨rfl, rfl⟩)
    go_ret2
    exact ⟨rfl, Below.refl _ _⟩

/-- The words that 'awake' makes. -/
def upTo (n : Nat) : List Nat := List.range n
theorem upTo_succ (k : Nat) : us (upTo (k + 1)) = us (upTo k) ++ [.int .u64 (k : Int)] := by simp [upTo, List.range_succ, us]

theorem ev0 : evalV (upTo 128) 64 0 = 0 := by decide +kernel
theorem ee0 : evalE (upTo 128) 64 0 = 0 := by decide +kernel

set_option maxHeartbeats 400000 in
theorem awake_tabs (w : World) : Calls Try.prog 8 #[] w fun e w' => e = .returned (.bool true) ∧ Below w.heap.size w w' := by
  go_enter Try.func8, Try.ntmps8
  go_wp2_with fail
  refine (chars_n 33 3 3 rfl (by omega) _ (by omega)).mono ?_
  rintro e w1 ⟨A1, c1, rfl, hown, hbel⟩
  obtain ⟨L, hL⟩ : ∃ L, L = is (letters 33 3) := ⟨_, rfl⟩
  rw [← hL] at hown
  have HL := hide hL; clear hL
  go_wp2_with fail
  go_loopw [2, 3] (fun v i wr => ∃ k : Nat, k ≤ 128 ∧ i = .int .i64 k ∧ (∃ A c, v = .slice A k c) ∧ wr.ownsRow w1.heap.size 30 1 v k (us (upTo k)) ∧ Below w1.heap.size w1 wr) (fun _ i _ => 128 - (intOf i).toNat)
  case atStart => exact ⟨0, Nat.zero_le _, rfl, ⟨_, _, rfl⟩, World.ownsRow_nil _ _ _ _, Below.refl _ _⟩
  case round =>
    obtain ⟨k, hk, rfl, ⟨A, c, rfl⟩, hown2, hbel2⟩ := hrel
    by_cases hlt : k < 128
    · have hlt2 : (k : Int) < 128 := by omega
      go_wp2_with (at_builtin; (refine wp_append1 rfl _ _ _ rfl w1.heap.size 30 _ (.int .u64 0) 8 Try.underlying22 Try.infoU64 rfl _ _ _ _ rfl hown2 _ rfl rfl (by omega) (by omega) hbel2.size ?_))
      intro A' c' w' hown' hb'
      go_wp2
      go_roundw
      case rel => exact ⟨k + 1, by omega, by go_num, ⟨_, _, rfl⟩, by rw [upTo_succ]; exact hown', hbel2.trans hb'⟩
      case measure => simp [intOf]; omega
    · have hkm : k = 128 := by omega
      subst hkm
      go_wp2_with fail
      refine (eval_tabs A c _ (upTo 128) 64 0 _ (Rd.of_own hown2) (Nat.le_refl _) (by simp [upTo]) (by intro x hx; simp [upTo] at hx; omega) (by omega) _ (by simp [upTo])).mono ?_
      rintro e w3 ⟨rfl, hb3⟩
      rw [ev0, ee0]
      have hb4 : Below w1.heap.size w1 w3 := hbel2.trans (hb3.mono hbel2.size)
      have hL := (Rd.of_own hown).below hb4
      rw [HL.out] at hL
      obtain ⟨b, o, rfl, hbb, hc0⟩ := hL.i (k := 0) (by simp [letters])
      obtain ⟨b', o', hbo, _, hc1⟩ := hL.i (k := 1) (by simp [letters])
      obtain ⟨rfl, rfl⟩ : b = b' ∧ o = o' := by simpa using hbo
      have hc0' : w3.cell? ⟨b, o, none⟩ = some (.int .i64 1) := by simpa [letters, letter] using hc0
      have hc1' : w3.cell? ⟨b, o + 1, none⟩ = some (.int .i64 2) := by simpa [letters, letter] using hc1
      clear hc0 hc1 hL hown2 hbb hbo hown
      have z1 : chk 128 128 8 = 0 := by decide
      have z2 : chk 0 128 8 = 13 := by decide
      go_wp2_with (go_at_call 25; refine (check_tabs _ _ _ _ _).mono ?_; rintro e w' ⟨rfl, rfl⟩)
      go_ret
      exact ⟨rfl, hbel.trans (hb4.mono hbel.size)⟩

end Go.Proofs.Ytpkekdgpkalceaa
