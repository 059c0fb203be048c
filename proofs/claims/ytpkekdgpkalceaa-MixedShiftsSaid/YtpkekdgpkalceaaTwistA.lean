/-
  Walks of twist.Turn, twist.Unturn, twist.Eval and their references. Conditions: slices no longer than the form lets them be.
-/
import Derived.Test.YtpkekdgpkalceaaTabsD
import Derived.Test.YtpkekdgpkalceaaTwistM
import Derived.Deep.RegionWith
namespace Go.Proofs.Ytpkekdgpkalceaa
open Go.RowKit
set_option linter.unusedVariables false

/-- A piece of a slice reads as that piece of the list. -/
theorem Rd.cut {w : World} {B b o : Nat} {xs : List Value} (h : Rd w B (some ⟨b, o, none⟩) xs) (k m : Nat) : Rd w B (some ⟨b, o + k, none⟩) ((xs.drop k).take m) := by
  intro hp
  have hp2 : 0 < xs.length := by simp at hp; omega
  obtain ⟨b', o', e, hb, hc⟩ := h hp2
  obtain ⟨rfl, rfl⟩ : b = b' ∧ o = o' := by simpa using e
  refine ⟨b, o + k, rfl, hb, fun j u hu => ?_⟩
  rw [Nat.add_assoc]
  refine hc (k + j) u ?_
  rw [List.getElem?_take] at hu
  split at hu
  · simpa [List.getElem?_drop] using hu
  · cases hu
theorem us_cut (xs : List Nat) (k m : Nat) : ((us xs).drop k).take m = us ((xs.drop k).take m) := by simp [us, List.map_take, List.map_drop]

theorem chk64 (n : Nat) (m : Int) : chk n m 64 = if (n : Int) = m then 0 else 13 := by simp [chk]

set_option maxRecDepth 100000 in
set_option maxHeartbeats 400000 in
theorem turn_any (A : Option Addr) (c B : Nat) (words : List Nat) (x : Nat) (w : World) (hwd : Rd w B A (us words)) (hB : B ≤ w.heap.size) (hl : words.length ≤ 17592186043904)
    (hw : ∀ x ∈ words, x < 18446744073709551616) (hx : x < 18446744073709551616) (n : Nat) (hn : words.length = n) (hnc : n ≤ c) :
    Calls Try.prog 45 #[.slice A n c, .int .u64 x] w fun e w' => e = .returned (.tuple #[.int .u64 (turnV words x : Nat), .int .i64 (keyE n 240 x)]) ∧ Below w.heap.size w w' := by
  have HN := hide hn
  by_cases h0 : n = 240
  · by_cases hx32 : x < 4294967296
    · have hq2 : ((x : Int) / 4294967296 != 0) = false := by
        have : (x : Int) / 4294967296 = 0 := by omega
        simp [this]
      have hc2 : chk (n : Int) 240 64 = 0 := by rw [chk64, if_pos (by omega)]
      have hcc : 240 ≤ c := by omega
      obtain ⟨b, o, rfl, hb⟩ := hwd.addr (by rw [len_us]; omega)
      have H0 := hide h0; have HX32 := hide hx32; have HW := hide hw; have HX := hide hx
      have C := hide (fun W => check_twist (some ⟨b, o, none⟩) n c 64 W)
      rw [hc2] at C
      clear h0 hx32 hw hx hn hc2
      go_enter Try.func45, Try.ntmps45
      go_wp2_with fail
      refine (C.out _).mono ?_
      rintro e w' ⟨rfl, rfl⟩
      go_wp2_with fail
      refine (chars_n x 7 7 rfl (by omega) _ HX.out).mono ?_
      rintro e w1 ⟨A1, c1, rfl, hown, hbel⟩
      have hlen : ((words.drop 128).take 112).length = 112 := by have := HN.out; have := H0.out; simp; omega
      have hwp : ∀ x ∈ (words.drop 128).take 112, x < 18446744073709551616 := fun x hx => HW.out x (List.mem_of_mem_drop (List.mem_of_mem_take hx))
      have hrd := (hwd.below (hbel.mono hB)).cut 128 112
      rw [us_cut] at hrd
      have hs : sumE ((words.drop 128).take 112) (letters x 7) = twistV words x := by
        have hf : fitsV ((words.drop 128).take 112).length (letters x 7) = 0 := by simp [fitsV, hlen, len_letters, letters_good]
        simp only [sumE, hf, if_true, sumV, len_letters]
        exact sumAt_eq words 128 112 _ (letters_good _ _) (by rw [len_letters]; omega) 7 (by rw [len_letters]; omega)
      have hf : fitsV ((words.drop 128).take 112).length (letters x 7) = 0 := by simp [fitsV, hlen, len_letters, letters_good]
      have C2 := hide (sum_tabs (some ⟨b, o + 128, none⟩) A1 112 c1 _ _ _ (letters x 7) w1 hrd (Rd.of_own hown) (by omega) (by rw [len_letters]; omega) hwp 112 hlen 7 (len_letters _ _))
      rw [hs, hf] at C2
      have HT := hide (sumAt_lt words 128 (letters x 7) HW.out 7)
      clear hlen hwp hrd hs hf
      go_wp2_with fail
      refine C2.out.mono ?_
      rintro e w2 ⟨rfl, rfl⟩
      go_wp2_with fail
      go_ret2
      have hk : keyE n 240 x = 0 := by simp [keyE, H0.out, HX32.out]
      exact ⟨ret_ii (by rw [turn_walk words HW.out x HX.out]; simp [turnV, HN.out, hk]) hk.symm, hbel⟩
    · have hq2 : ((x : Int) / 4294967296 != 0) = true := by
        have : ¬ (x : Int) / 4294967296 = 0 := by omega
        simp [this]
      have hc2 : chk (n : Int) 240 64 = 0 := by rw [chk64, if_pos (by omega)]
      have C := hide (fun W => check_twist A n c 64 W)
      rw [hc2] at C
      have H0 := hide h0; have HX32 := hide hx32
      clear h0 hx32 hw hn hc2
      go_enter Try.func45, Try.ntmps45
      go_wp2_with fail
      refine (C.out _).mono ?_
      rintro e w' ⟨rfl, rfl⟩
      go_wp2_with fail
      go_ret2
      have hk : keyE n 240 x = 2 := by simp [keyE, H0.out, HX32.out]
      exact ⟨ret_ii (by simp [turnV, HN.out, hk]) hk.symm, Below.refl _ _⟩
  · have hc2 : chk (n : Int) 240 64 = 13 := by rw [chk64, if_neg (by omega)]
    have C := hide (fun W => check_twist A n c 64 W)
    rw [hc2] at C
    have H0 := hide h0
    clear h0 hw hn hc2
    go_enter Try.func45, Try.ntmps45
    go_wp2_with fail
    refine (C.out _).mono ?_
    rintro e w' ⟨rfl, rfl⟩
    go_wp2_with fail
    go_ret2
    have hk : keyE n 240 x = 13 := by simp [keyE, H0.out]
    exact ⟨ret_ii (by simp [turnV, HN.out, hk]) hk.symm, Below.refl _ _⟩

/-- What a round of a sum with an offset loads and adds. -/
theorem sumAt_step (words : List Nat) (off : Nat) (row : List Int) (hw : ∀ x ∈ words, x < 18446744073709551616) (k : Nat) (hk : k < row.length) (c : Nat) (hc : row[k] = (c : Int)) (h : off + 16 * k + c < words.length) :
    bits .xor .u64 ((sumAt words off row k : Nat) : Int) ((words[off + 16 * k + c] : Nat) : Int) = ((sumAt words off row (k + 1) : Nat) : Int) := by
  rw [u64_xor_nat _ _ (sumAt_lt words off row hw k) (hw _ (List.getElem_mem h))]
  have e1 : row.getD k 0 = (c : Int) := by simp [List.getD, hk, hc]
  have e2 : words.getD (off + 16 * k + c) 0 = words[off + 16 * k + c] := by simp [List.getD, h]
  simp only [sumAt, e1, Int.toNat_natCast, e2]

set_option maxRecDepth 100000 in
set_option maxHeartbeats 400000 in
theorem turn_ref (A : Option Addr) (c B : Nat) (words : List Nat) (x : Nat) (w : World) (hwd : Rd w B A (us words)) (hB : B ≤ w.heap.size)
    (hw : ∀ x ∈ words, x < 18446744073709551616) (hx : x < 18446744073709551616) (n : Nat) (hn : words.length = n) (h0 : n = 240) :
    Calls Try.prog 48 #[.slice A n c, .int .u64 x] w fun e w' => e = .returned (.int .u64 (turnR words x : Nat)) ∧ Below w.heap.size w w' := by
  have HN := hide (hn.trans h0); have HW := hide hw; have HX := hide hx; have hn240 : 240 ≤ n := by omega
  have hn241 : n ≤ 240 := by omega
  obtain ⟨b, o, rfl, hb⟩ := hwd.addr (by rw [len_us]; omega)
  clear hn h0 hw hx
  go_enter Try.func48, Try.ntmps48
  go_wp2_with fail
  refine (letters_n x 7 7 rfl (by omega) _ HX.out).mono ?_
  rintro e w1 ⟨A1, c1, rfl, hown, hbel⟩
  have hr := Rd.of_own hown
  have hwd1 := hwd.below (hbel.mono hB)
  obtain ⟨L, hL⟩ : ∃ L, L = letters x 7 := ⟨_, rfl⟩
  rw [← hL] at hr
  have hlen : L.length = 7 := by rw [hL, len_letters]
  have hbad : L.any badc = false := by rw [hL, letters_good]
  have HL := hide hL; have HLen := hide hlen; have HB := hide hbad
  have hlen7 : 7 ≤ L.length := by omega
  have hlen8 : L.length ≤ 7 := by omega
  clear hL hlen hbad hown hwd
  go_wp2_with fail
  go_loop [5, 11] (fun s i => ∃ k S : Nat, k ≤ 7 ∧ i = .int .i64 k ∧ s = .int .u64 S ∧ Hid (S = sumAt words 128 L k)) (fun _ i => 7 - (intOf i).toNat)
  case atStart => exact ⟨0, 0, Nat.zero_le _, rfl, rfl, hide rfl⟩
  case round =>
    obtain ⟨k, S, hk, rfl, rfl, hS⟩ := hrel
    by_cases hlt : k < 7
    · have hlt2 : (k : Int) < 7 := by omega
      have hkL : k < L.length := by omega
      obtain ⟨b1, o1, rfl, hb1, hc⟩ := hr.i hkL
      have h16 := any_lo L HB.out k hkL
      obtain ⟨d, hcc⟩ := Int.eq_ofNat_of_zero_le h16.1
      have hc2 : d < 16 := by omega
      have hin : 128 + 16 * k + d < words.length := by rw [HN.out]; omega
      obtain ⟨b2, o2, he2, hb2, hc3⟩ := hwd1.u hin
      obtain ⟨rfl, rfl⟩ : b = b2 ∧ o = o2 := by simpa using he2
      rw [hcc] at hc
      have hst := hide (sumAt_step words 128 L HW.out k hkL d hcc hin)
      have HC := hide hcc; clear hcc h16 he2
      go_wp2
      go_round
      case rel => exact ⟨k + 1, _, by omega, by go_num, val_i (by rw [hS.out]; exact hst.out), hide rfl⟩
      case measure => simp [intOf]; omega
    · have hkb : k = 7 := by omega
      subst hkb
      have hST : S = twistV words x := by rw [hS.out, HL.out]; rfl
      have hlt := twistV_lt words HW.out x
      rw [← hST] at hlt
      have HST := hide hST; clear hST
      go_wp2
      go_ret
      refine ⟨ret_i ?_, hbel⟩
      rw [show ((S : Int) % 16 * 268435456) = ((S % 16 * 268435456 : Nat) : Int) by omega, u64_xor_nat _ _ HX.out (by omega), HST.out]
      rfl

theorem tev_zero (words : List Nat) (b : Int) (x : Nat) (n : Nat) (hn : words.length = n) (h : chk n 240 b = 0) (hx : x < 4294967296) : evalE (words.take 128) b (turnR words x) = 0 := by
  obtain ⟨h1, h2, h3⟩ := chk_zero h
  have hl : (words.take 128).length = 128 := by simp; omega
  have := turn_lt words x hx
  simp [evalE, chk, hl, this]; omega
/-- What a seed of twisted tabulation brings a key to. -/
def tevV (words : List Nat) (b : Int) (x : Nat) : Nat := if tevE words b x = 0 then evalV (words.take 128) b (turnR words x) else 0

set_option maxRecDepth 100000 in
set_option maxHeartbeats 400000 in
theorem teval_ref (A : Option Addr) (c B : Nat) (words : List Nat) (b : Int) (x : Nat) (w : World) (hwd : Rd w B A (us words)) (hB : B ≤ w.heap.size) (hl : words.length ≤ 17592186043904)
    (hw : ∀ x ∈ words, x < 18446744073709551616) (hx : x < 18446744073709551616) (n : Nat) (hn : words.length = n) (hnc : n ≤ c) :
    Calls Try.prog 22 #[.slice A n c, .int .i64 b, .int .u64 x] w fun e w' => e = .returned (.tuple #[.int .u64 (tevV words b x : Nat), .int .i64 (tevE words b x)]) ∧ Below w.heap.size w w' := by
  have C := hide (fun W => check_ref A n c b 240 W)
  by_cases h0 : chk (n : Int) 240 b = 0
  · obtain ⟨hb1, hb2, hn2⟩ := chk_zero h0
    rw [h0] at C
    have he : tevE words b x = if x < 4294967296 then 0 else 2 := by simp [tevE, hn, h0]
    have H0 := hide h0; have HN := hide hn; have HE := hide he; have HW := hide hw
    by_cases hx32 : x < 4294967296
    · rw [if_pos hx32] at he
      have hq2 : decide ((4294967296 : Int) ≤ (x : Int)) = false := by simp; omega
      have hcc : 128 ≤ c := by omega
      have hl128 : (words.take 128).length = 128 := by simp; omega
      obtain ⟨b', o, rfl, hbb⟩ := hwd.addr (by rw [len_us]; omega)
      have HX32 := hide hx32; have HE2 := hide he
      have HLL := hide hl128; have HX := hide hx; have HN2 := hide hn2
      have hrd0 := hwd.cut 0 128
      rw [us_cut] at hrd0
      simp only [List.drop_zero, Nat.add_zero] at hrd0
      clear h0 hn he hn2 hw hx hx32 hl128
      go_enter Try.func22, Try.ntmps22
      go_wp2_with (go_at_call 14; refine (C.out _).mono ?_; rintro e w' ⟨rfl, rfl⟩)
      go_region_with (first | (go_at_call 48; refine (turn_ref _ c B words x _ hwd.drew hB HW.out HX.out n HN.out (by have := HN2.out; omega)).mono ?_; rintro e w1 ⟨rfl, hbel⟩) | (go_at_call 16; refine (eval_ref _ _ B (words.take 128) b (turnR words x) _ (hrd0.drew.below (hbel.mono hB)) (Nat.le_trans hB hbel.size) (by rw [HLL.out]; omega) (fun z hz => HW.out z (List.mem_of_mem_take hz)) (turnR_lt64 _ _ HX.out) _ HLL.out).mono ?_; rintro e w2 ⟨rfl, hbel2⟩; rw [tev_zero words b x n HN.out H0.out HX32.out]))
      all_goals go_wp2
      all_goals go_ret2
      all_goals exact ⟨ret_ii (by simp [tevV, HE2.out]) HE2.out.symm, ((Below.refl _ w).drew).trans (hbel.trans (hbel2.mono hbel.size))⟩

    · rw [if_neg hx32] at he
      have hq2 : decide ((4294967296 : Int) ≤ (x : Int)) = true := by simp; omega
      have HE2 := hide he
      clear h0 hn he hn2 hw hx hx32
      go_enter Try.func22, Try.ntmps22
      go_wp2_with (go_at_call 14; refine (C.out _).mono ?_; rintro e w' ⟨rfl, rfl⟩)
      go_ret2
      exact ⟨ret_ii (by simp [tevV, HE2.out]) HE2.out.symm, Below.refl _ _⟩
  · have hz : (chk (n : Int) 240 b != 0) = true := by simpa using h0
    have he : tevE words b x = chk n 240 b := by simp [tevE, hn, h0]
    have hv : tevV words b x = 0 := by simp [tevV, he, h0]
    rw [he, hv]
    clear he hv hn
    generalize chk (n : Int) 240 b = z at *
    clear h0
    go_enter Try.func22, Try.ntmps22
    go_wp2_with (go_at_call 14; refine (C.out _).mono ?_; rintro e w' ⟨rfl, rfl⟩)
    go_ret2
    exact ⟨rfl, Below.refl _ _⟩

set_option maxHeartbeats 400000 in
theorem awake_twist (w : World) : Calls Try.prog 20 #[] w fun e w' => e = .returned (.bool true) ∧ Below w.heap.size w w' := by
  go_enter Try.func20, Try.ntmps20
  go_wp2_with fail
  go_loopw [1, 2] (fun v i wr => ∃ k : Nat, k ≤ 240 ∧ i = .int .i64 k ∧ (∃ A c, v = .slice A k c) ∧ wr.ownsRow w.heap.size 30 1 v k (us (zeros k)) ∧ Below w.heap.size w wr) (fun _ i _ => 240 - (intOf i).toNat)
  case atStart => exact ⟨0, Nat.zero_le _, rfl, ⟨_, _, rfl⟩, World.ownsRow_nil _ _ _ _, Below.refl _ _⟩
  case round =>
    obtain ⟨k, hk, rfl, ⟨A, c, rfl⟩, hown2, hbel2⟩ := hrel
    by_cases hlt : k < 240
    · have hlt2 : (k : Int) < 240 := by omega
      go_wp2_with (at_builtin; (refine wp_append1 rfl _ _ _ rfl w.heap.size 30 _ (.int .u64 0) 8 Try.underlying22 Try.infoU64 rfl _ _ _ _ rfl hown2 _ rfl rfl (by omega) (by omega) hbel2.size ?_))
      intro A' c' w' hown' hb'
      go_wp2
      go_roundw
      case rel => exact ⟨k + 1, by omega, by go_num, ⟨_, _, rfl⟩, by rw [zeros_succ, us_append]; exact hown', hbel2.trans hb'⟩
      case measure => simp [intOf]; omega
    · have hkm : k = 240 := by omega
      subst hkm
      obtain ⟨A2, c2, he, hc2, _⟩ := own_slice hown2
      obtain ⟨rfl, rfl⟩ : A = A2 ∧ c = c2 := by simpa using he
      go_wp2_with fail
      refine (turn_any A c _ (zeros 240) 77 _ (Rd.of_own hown2) (Nat.le_refl _) (by rw [len_zeros]; omega) (zeros_lt _) (by omega) _ (len_zeros _) hc2).mono ?_
      rintro e w3 ⟨rfl, hb3⟩
      rw [show turnV (zeros 240) 77 = 77 by decide +kernel, show keyE 240 240 77 = 0 by decide +kernel]
      have z2 : chk 0 240 8 = 13 := by decide
      clear hown2 hc2
      go_wp2_with (go_at_call 46; refine (check_twist _ _ _ _ _).mono ?_; rintro e w' ⟨rfl, rfl⟩)
      go_ret
      exact ⟨rfl, hbel2.trans (hb3.mono hbel2.size)⟩

end Go.Proofs.Ytpkekdgpkalceaa
