/-
  Walks of mixed.Row, mixed.Eval, their references, and of the laws MixedRows and MixedEvals. Conditions: slices no longer than the form lets them be.
-/
import Derived.Test.YtpkekdgpkalceaaTwistA
import Derived.Test.YtpkekdgpkalceaaMixedM
namespace Go.Proofs.Ytpkekdgpkalceaa
open Go.RowKit
set_option linter.unusedVariables false

set_option maxRecDepth 100000 in
set_option maxHeartbeats 400000 in
theorem mrow_any (A : Option Addr) (c B : Nat) (words : List Nat) (x : Nat) (w : World) (hwd : Rd w B A (us words)) (hB : B ≤ w.heap.size) (hl : words.length ≤ 17592186043904)
    (hw : ∀ x ∈ words, x < 18446744073709551616) (hx : x < 18446744073709551616) (n : Nat) (hn : words.length = n) (hnc : n ≤ c) :
    Calls Try.prog 38 #[.slice A n c, .int .u64 x] w (RetOwn2 w 3 (is (mrowV words x)) (keyE n 320 x)) := by
  have C := hide (fun W => check_mixed A n c 64 W)
  by_cases h0 : n = 320
  · have hc2 : chk (n : Int) 320 64 = 0 := by rw [chk64, if_pos (by omega)]
    rw [hc2] at C
    by_cases hx32 : x < 4294967296
    · have hq2 : ((x : Int) / 4294967296 != 0) = false := by
        have : (x : Int) / 4294967296 = 0 := by omega
        simp [this]
      have hcc : 320 ≤ c := by omega
      have hk : keyE n 320 x = 0 := by simp [keyE, h0, hx32]
      have hv : mrowV words x = mrow words x := by simp [mrowV, hn, hk]
      rw [hk, hv]
      obtain ⟨b, o, rfl, hb⟩ := hwd.addr (by rw [len_us]; omega)
      have hlen : ((words.drop 192).take 128).length = 128 := by simp; omega
      have hwp : ∀ x ∈ (words.drop 192).take 128, x < 18446744073709551616 := fun x hx => hw x (List.mem_of_mem_drop (List.mem_of_mem_take hx))
      have hf : fitsV ((words.drop 192).take 128).length (letters x 8) = 0 := by simp [fitsV, hlen, len_letters, letters_ok]
      have hs : sumE ((words.drop 192).take 128) (letters x 8) = mixD words x := by
        simp only [sumE, hf, if_true, sumV, len_letters]
        exact sumAt_eq words 192 128 _ (letters_ok _ _) (by rw [len_letters]; omega) 8 (by rw [len_letters]; omega)
      have HLN := hide hlen; have HWP := hide hwp; have HF := hide hf; have HS := hide hs; have HX := hide hx; have HD := hide (mixD_lt words hw x)
      have hD := mixD_lt words hw x
      clear hlen hwp hf hs hn h0 hx32 hw hx hc2 hk hv hD
      go_enter Try.func38, Try.ntmps38
      go_wp2_with fail
      refine (C.out _).mono ?_
      rintro e w' ⟨rfl, rfl⟩
      go_wp2_with fail
      refine (chars_n x 8 8 rfl (by omega) _ HX.out).mono ?_
      rintro e w1 ⟨A1, c1, rfl, hown, hbel⟩
      have hrd := (hwd.below (hbel.mono hB)).cut 192 128
      rw [us_cut] at hrd
      have C2 := hide (sum_tabs (some ⟨b, o + 192, none⟩) A1 128 c1 _ _ _ (letters x 8) w1 hrd (Rd.of_own hown) (by rw [HLN.out]; omega) (by rw [len_letters]; omega) HWP.out 128 HLN.out 8 (len_letters _ _))
      rw [HS.out, HF.out] at C2
      clear hrd
      go_wp2_with fail
      refine C2.out.mono ?_
      rintro e w2 ⟨rfl, rfl⟩
      go_wp2_with fail
      refine (chars_n (mixD words x) 4 4 rfl (by omega) _ HD.out).mono ?_
      rintro e w3 ⟨A2, c2, rfl, hown2, hbel2⟩
      have hown1 := own_call hown hbel2
      go_wp2_with (at_builtin; (refine wp_appendN rfl _ _ _ rfl w.heap.size 3 (.int .i64 0) 8 Try.underlying29 Try.infoInt rfl _ _ _ _ rfl hown1 _ _ _ _ _ rfl (by rw [len_is, len_letters]) (Rd.of_own hown2) (one_is _) (by omega) (by omega) (Nat.le_trans hbel.size hbel2.size) ?_))
      intro A' c' w' hown' hb'
      go_wp2
      go_ret2
      refine ⟨A', c', ?_, ?_, (hbel.trans (hbel2.mono hbel.size)).trans hb'⟩
      · rw [len_is, len_mrow]; rfl
      · rw [len_is, len_mrow, mrow, is_append]; exact hown'
    · have hq2 : ((x : Int) / 4294967296 != 0) = true := by
        have : ¬ (x : Int) / 4294967296 = 0 := by omega
        simp [this]
      have hk : keyE n 320 x = 2 := by simp [keyE, h0, hx32]
      have hv : mrowV words x = [] := by simp [mrowV, hn, hk]
      rw [hk, hv]
      clear h0 hx32 hw hn hc2 hk hv
      go_enter Try.func38, Try.ntmps38
      go_wp2_with fail
      refine (C.out _).mono ?_
      rintro e w' ⟨rfl, rfl⟩
      go_wp2_with fail
      go_ret2
      exact ⟨none, 0, rfl, World.ownsRow_nil _ _ _ _, Below.refl _ _⟩
  · have hc2 : chk (n : Int) 320 64 = 13 := by rw [chk64, if_neg (by omega)]
    rw [hc2] at C
    have hk : keyE n 320 x = 13 := by simp [keyE, h0]
    have hv : mrowV words x = [] := by simp [mrowV, hn, hk]
    rw [hk, hv]
    clear h0 hw hn hc2 hk hv
    go_enter Try.func38, Try.ntmps38
    go_wp2_with fail
    refine (C.out _).mono ?_
    rintro e w' ⟨rfl, rfl⟩
    go_wp2_with fail
    go_ret2
    exact ⟨none, 0, rfl, World.ownsRow_nil _ _ _ _, Below.refl _ _⟩

set_option maxRecDepth 100000 in
set_option maxHeartbeats 400000 in
theorem mrow_ref (A : Option Addr) (c B : Nat) (words : List Nat) (x : Nat) (w : World) (hwd : Rd w B A (us words)) (hB : B ≤ w.heap.size)
    (hw : ∀ x ∈ words, x < 18446744073709551616) (hx : x < 18446744073709551616) (n : Nat) (hn : words.length = n) (h0 : n = 320) :
    Calls Try.prog 44 #[.slice A n c, .int .u64 x] w fun e w' => ∃ A' c', e = .returned (.slice A' 12 c') ∧ w'.ownsRow w.heap.size 3 1 (.slice A' 12 c') 12 (is (mrow words x)) ∧ Below w.heap.size w w' := by
  have HN := hide (hn.trans h0); have HW := hide hw; have HX := hide hx; have hn240 : 320 ≤ n := by omega
  obtain ⟨b, o, rfl, hb⟩ := hwd.addr (by rw [len_us]; omega)
  have hn241 : n ≤ 320 := by omega
  clear hn h0 hw hx
  go_enter Try.func44, Try.ntmps44
  go_wp2_with fail
  refine (letters_n x 8 8 rfl (by omega) _ HX.out).mono ?_
  rintro e w1 ⟨A1, c1, rfl, hown, hbel⟩
  have hr := Rd.of_own hown
  have hwd1 := hwd.below (hbel.mono hB)
  obtain ⟨L, hL⟩ : ∃ L, L = letters x 8 := ⟨_, rfl⟩
  rw [← hL] at hr
  have hlen : L.length = 8 := by rw [hL, len_letters]
  have hbad : L.any badc = false := by rw [hL, letters_ok]
  have HL := hide hL; have HLen := hide hlen; have HB := hide hbad; have HOWN := hide hown
  have hlen7 : 8 ≤ L.length := by omega
  have hlen8 : L.length ≤ 8 := by omega
  clear hL hlen hbad hown hwd
  go_wp2_with fail
  go_loop [6, 13] (fun s i => ∃ k S : Nat, k ≤ 8 ∧ i = .int .i64 k ∧ s = .int .u64 S ∧ Hid (S = sumAt words 192 L k)) (fun _ i => 8 - (intOf i).toNat)
  case atStart => exact ⟨0, 0, Nat.zero_le _, rfl, rfl, hide rfl⟩
  case round =>
    obtain ⟨k, S, hk, rfl, rfl, hS⟩ := hrel
    by_cases hlt : k < 8
    · have hlt2 : (k : Int) < 8 := by omega
      have hkL : k < L.length := by omega
      obtain ⟨b1, o1, rfl, hb1, hc⟩ := hr.i hkL
      have h16 := any_lo L HB.out k hkL
      obtain ⟨d, hcc⟩ := Int.eq_ofNat_of_zero_le h16.1
      have hc2 : d < 16 := by omega
      have hin : 192 + 16 * k + d < words.length := by rw [HN.out]; omega
      obtain ⟨b2, o2, he2, hb2, hc3⟩ := hwd1.u hin
      obtain ⟨rfl, rfl⟩ : b = b2 ∧ o = o2 := by simpa using he2
      rw [hcc] at hc
      have hst := hide (sumAt_step words 192 L HW.out k hkL d hcc hin)
      have HC := hide hcc; clear hcc h16 he2
      go_wp2
      go_round
      case rel => exact ⟨k + 1, _, by omega, by go_num, val_i (by rw [hS.out]; exact hst.out), hide rfl⟩
      case measure => simp [intOf]; omega
    · have hkb : k = 8 := by omega
      subst hkb
      have hST : S = mixD words x := by rw [hS.out, HL.out]; rfl
      have hlt3 := mixD_lt words HW.out x
      rw [← hST] at hlt3
      have HST := hide hST; clear hST hr
      go_wp2_with fail
      refine (letters_n S 4 4 rfl (by omega) _ hlt3).mono ?_
      rintro e w3 ⟨A2, c2, rfl, hown2, hbel2⟩
      have hown1 := own_call HOWN.out hbel2
      go_wp2_with (at_builtin; (refine wp_appendN rfl _ _ _ rfl w.heap.size 3 (.int .i64 0) 8 Try.underlying29 Try.infoInt rfl _ _ _ _ rfl hown1 _ _ _ _ _ rfl (by rw [len_is, len_letters]) (Rd.of_own hown2) (one_is _) (by omega) (by omega) (Nat.le_trans hbel.size hbel2.size) ?_))
      intro A' c' w' hown' hb'
      go_wp2
      go_ret
      refine ⟨A', c', rfl, ?_, (hbel.trans (hbel2.mono hbel.size)).trans hb'⟩
      rw [mrow, is_append, ← HST.out]; exact hown'

end Go.Proofs.Ytpkekdgpkalceaa
