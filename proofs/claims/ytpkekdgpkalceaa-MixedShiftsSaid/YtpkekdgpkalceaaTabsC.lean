/-
  Walks of tabs.Sum, astragalref22.Letters and of the two functions of astragalref02 that hold lists against each other. Conditions: slices no longer than the form lets them be.
-/
import Derived.Test.YtpkekdgpkalceaaTabsB
import Derived.Deep.QuietTactic
import Derived.BigQuiet
namespace Go.Proofs.Ytpkekdgpkalceaa
open Go.RowKit
set_option linter.unusedVariables false

/-- What tabs.Sum hands back beside the error's number. -/
def sumE (words : List Nat) (row : List Int) : Nat := if fitsV words.length row = 0 then sumV words row else 0

set_option maxHeartbeats 400000 in
theorem sum_tabs (A A' : Option Addr) (c c' B B' : Nat) (words : List Nat) (row : List Int) (w : World) (hwd : Rd w B A (us words)) (hr : Rd w B' A' (is row)) (hl : words.length ≤ 17592186043904) (hl' : row.length ≤ 17592186043904)
    (hw : ∀ x ∈ words, x < 18446744073709551616) (nw : Nat) (hnw : words.length = nw) (nr : Nat) (hnr : row.length = nr) :
    Calls Try.prog 49 #[.slice A nw c, .slice A' nr c'] w fun e w' => e = .returned (.tuple #[.int .u64 (sumE words row : Nat), .int .i64 (fitsV words.length row)]) ∧ w = w' := by
  subst hnw
  subst hnr
  by_cases h0 : fitsV words.length row = 0
  · have hf : words.length = 16 * row.length := by
      unfold fitsV at h0
      split at h0
      · assumption
      · omega
    have hg : row.any badc = false := by
      unfold fitsV at h0
      rw [if_pos hf] at h0
      cases hx : row.any badc
      · rfl
      · rw [hx] at h0; simp at h0
    have hlo : ∀ k (h : k < row.length), 0 ≤ row[k] ∧ row[k] < 16 := fun k h => any_lo row hg k h
    have HF := hide hf; have HW := hide hw; have HL := hide hlo; have hf2 : words.length ≤ 16 * row.length := by omega
    have hf3 : 16 * row.length ≤ words.length := by omega
    have H0 := hide h0
    have C := hide (fun W => fits_tabs A A' words.length c c' B' row W)
    clear hf hw hlo hg h0
    go_enter Try.func49, Try.ntmps49
    go_wp2_with fail
    refine (C.out _ hr hl' hl _ rfl).mono ?_
    rintro e w' ⟨rfl, rfl⟩
    rw [H0.out]
    go_wp2
    go_loop [7, 18] (fun s i => ∃ k S : Nat, k ≤ row.length ∧ i = .int .i64 k ∧ s = .int .u64 S ∧ Hid (S = sumTo words row k)) (fun _ i => row.length - (intOf i).toNat)
    case atStart => exact ⟨0, 0, Nat.zero_le _, rfl, rfl, hide rfl⟩
    case round =>
      obtain ⟨k, S, hk, rfl, rfl, hS⟩ := hrel
      by_cases hlt : k < row.length
      · obtain ⟨b, o, rfl, hb, hc⟩ := hr.i hlt
        have h16 := HL.out k hlt
        obtain ⟨c, hcc⟩ := Int.eq_ofNat_of_zero_le h16.1
        have hc2 : c < 16 := by omega
        have hin : 16 * k + c < words.length := by omega
        obtain ⟨b2, o2, rfl, hb2, hc3⟩ := hwd.u hin
        rw [hcc] at hc
        have hst := hide (sum_step words row HW.out k hlt c hcc hin)
        have HC := hide hcc; clear hcc h16 HL
        go_wp2
        go_round
        case rel => exact ⟨k + 1, _, by omega, by go_num, val_i (by rw [hS.out]; exact hst.out), hide rfl⟩
        case measure => simp [intOf]; omega
      · go_wp2
        go_ret2
        have hkb : k = row.length := by omega
        subst hkb
        exact ⟨ret_ii (by rw [hS.out]; simp [sumE, H0.out, sumV]) (by rw [H0.out]), rfl⟩
  · have h1 : (fitsV words.length row != 0) = true := by simpa using h0
    have H0 := hide h0
    have C := hide (fun W => fits_tabs A A' words.length c c' B' row W)
    have he : sumE words row = 0 := by simp [sumE, h0]
    rw [he]
    clear h0 he
    generalize fitsV words.length row = z at *
    go_enter Try.func49, Try.ntmps49
    go_wp2_with fail
    refine (C.out _ hr hl' hl _ rfl).mono ?_
    rintro e w' ⟨rfl, rfl⟩
    go_wp2
    go_ret2
    exact ⟨rfl, rfl⟩

theorem letter_next (x k : Nat) : ((x / 16 ^ k : Nat) : Int) % 16 = letter x k := by unfold letter; omega
set_option maxHeartbeats 400000 in
theorem letters_ref (x : Nat) (n : Int) (w : World) (hx : x < 18446744073709551616) :
    Calls Try.prog 37 #[.int .u64 x, .int .i64 n] w (RetOwn w 3 (is (letters x (count n)))) := by
  have hm : (count n : Int) = min n 16 ∨ (n < 0 ∧ (count n : Int) = 0) := by unfold count; omega
  have hm16 : count n ≤ 16 := by unfold count; omega
  have HM := Lib.hid hm
  clear hm
  generalize count n = m at *
  go_enter Try.func37, Try.ntmps37
  go_wp2
  go_loopw [0, 5, 6] (fun y v i wr => ∃ k Y : Nat, k ≤ m ∧ i = .int .i64 k ∧ y = .int .u64 Y ∧ Y < 18446744073709551616 ∧ Hid (Y = x / 16 ^ k) ∧ (∃ A c, v = .slice A k c) ∧ wr.ownsRow w.heap.size 3 1 v k (is (letters x k)) ∧ Below w.heap.size w wr) (fun _ _ i _ => m - (intOf i).toNat)
  case atStart => exact ⟨0, x, Nat.zero_le _, rfl, rfl, hx, hide (by simp), ⟨_, _, rfl⟩, World.ownsRow_nil _ _ _ _, Below.refl _ _⟩
  case round =>
    obtain ⟨k, Y, hk, rfl, rfl, hY, hH, ⟨A, c, rfl⟩, hown, hbel⟩ := hrel
    by_cases hlt : k < m
    · have ht1 : (k : Int) < n := by have := HM.out; omega
      have ht2 : (k : Int) < 16 := by omega
      go_wp2_with (at_builtin; (refine wp_append1 rfl _ _ _ rfl w.heap.size 3 _ (.int .i64 0) 8 Try.underlying29 Try.infoInt rfl _ _ _ _ rfl hown _ rfl rfl (by omega) (by omega) hbel.size ?_))
      intro A' c' w' hown' hb'
      go_wp2
      go_roundw
      case rel =>
        refine ⟨k + 1, Y / 16, by omega, by go_num, val_i (by omega), by omega, hide ?_, ⟨_, _, rfl⟩, ?_, hbel.trans hb'⟩
        · rw [hH.out, Nat.div_div_eq_div_mul, Nat.pow_succ]
        · rw [letters_succ, is_append, ← letter_next, ← hH.out]; exact hown'
      case measure => simp [intOf]; omega
    · have ht : ¬ ((k : Int) < n ∧ (k : Int) < 16) := by have := HM.out; omega
      have hkm : k = m := by omega
      subst hkm
      by_cases ht1 : (k : Int) < n
      all_goals
        go_wp2
        go_ret
        refine ⟨A, c, ?_, ?_, hbel⟩
        · rw [len_is, len_letters]; rfl
        · rw [len_is, len_letters]; exact hown

set_option maxHeartbeats 400000 in
theorem words_any (A A' : Option Addr) (c c' B B' : Nat) (xs ys : List Nat) (w : World) (hx : Rd w B A (us xs)) (hy : Rd w B' A' (us ys)) (hl : xs.length ≤ 17592186043904) (hl' : ys.length ≤ 17592186043904) (nx : Nat) (hnx : xs.length = nx) (ny : Nat) (hny : ys.length = ny) :
    Calls Try.prog 12 #[.slice A nx c, .slice A' ny c'] w fun e w' => e = .returned (.bool (decide (xs = ys))) ∧ Below w.heap.size w w' := by
  subst hnx
  subst hny
  by_cases hq : xs.length = ys.length
  · have hq1 : ((xs.length : Int) != (ys.length : Int)) = false := by simp; omega
    have HQ := hide hq
    have hle : xs.length ≤ ys.length := by omega
    clear hq
    go_enter Try.func12, Try.ntmps12
    go_wp2
    go_loopw [13] (fun i wr => ∃ k : Nat, k ≤ xs.length ∧ i = .int .i64 k ∧ Hid (xs.take k = ys.take k) ∧ Below w.heap.size w wr ∧ Rd wr B A (us xs) ∧ Rd wr B' A' (us ys)) (fun i _ => xs.length - (intOf i).toNat)
    case atStart => exact ⟨0, Nat.zero_le _, rfl, hide (by simp), Below.refl _ _, hx, hy⟩
    case round =>
      obtain ⟨k, hk, rfl, hH, hbel, hx', hy'⟩ := hrel
      clear hx hy
      by_cases hlt : k < xs.length
      · have hlt2 : k < ys.length := by omega
        obtain ⟨b, o, rfl, hb, hc⟩ := hx'.u hlt
        obtain ⟨b2, o2, rfl, hb2, hc2⟩ := hy'.u hlt2
        by_cases heq : xs[k] = ys[k]
        · have hb1 : (((xs[k] : Nat) : Int) != ((ys[k] : Nat) : Int)) = false := by simp [heq]
          have HE := hide heq; clear heq
          go_wp2
          go_quiet (fail)
          go_wp2
          go_roundw
          case rel => exact ⟨k + 1, by omega, by go_num, hide (by rw [List.take_succ_eq_append_getElem hlt, List.take_succ_eq_append_getElem hlt2, hH.out, HE.out]), below_drewN hbel _, hx'.drewN _, hy'.drewN _⟩
          case measure => simp [intOf]; omega
        · have hb1 : (((xs[k] : Nat) : Int) != ((ys[k] : Nat) : Int)) = true := by simp; exact_mod_cast heq
          have HE := hide heq; clear heq
          go_wp2
          go_quiet (fail)
          go_wp2
          go_ret
          exact ⟨ret_b (by symm; rw [decide_eq_false_iff_not]; intro h; exact HE.out (by simp only [h])), below_drewN hbel _⟩
      · go_wp2
        go_ret
        have hkb : k = xs.length := by omega
        subst hkb
        exact ⟨ret_b (by have h1 := hH.out; rw [List.take_length, HQ.out, List.take_length] at h1; simp [h1]), hbel⟩
  · have hq1 : ((xs.length : Int) != (ys.length : Int)) = true := by simp; omega
    have HQ := hide hq; clear hq
    go_enter Try.func12, Try.ntmps12
    go_wp2
    go_ret
    exact ⟨ret_b (by symm; rw [decide_eq_false_iff_not]; intro h; exact HQ.out (by rw [h])), Below.refl _ _⟩

/-- What Eval hands back. -/
def evalE (words : List Nat) (b : Int) (x : Nat) : Int := if chk words.length 128 b = 0 then (if x < 4294967296 then 0 else 2) else chk words.length 128 b
def evalV (words : List Nat) (b : Int) (x : Nat) : Nat := if evalE words b x = 0 then lowV (sumV words (letters x 8)) b else 0
theorem chk_zero {n m b : Int} (h : chk n m b = 0) : 1 ≤ b ∧ b ≤ 64 ∧ n = m := by unfold chk at h; split at h <;> (try split at h) <;> omega
theorem letters_good (x k : Nat) : (letters x k).any badc = false := any_no _ fun j hj => by
  have : (letters x k)[j] = letter x j := by simp [letters]
  rw [this]
  have := letter_lo x j
  exact bad_no _ (by omega)
theorem sumV_lt (words : List Nat) (row : List Int) (hw : ∀ x ∈ words, x < 18446744073709551616) : sumV words row < 18446744073709551616 := sumTo_lt words row hw _

theorem chars_n (x : Nat) (m : Int) (n : Nat) (h : m = (n : Int)) (h16 : n ≤ 16) (w : World) (hx : x < 18446744073709551616) :
    Calls Try.prog 23 #[.int .u64 x, .int .i64 m] w fun e w' => ∃ A c, e = .returned (.slice A n c) ∧ w'.ownsRow w.heap.size 3 1 (.slice A n c) n (is (letters x n)) ∧ Below w.heap.size w w' := by
  subst h
  have hc : count (n : Int) = n := by unfold count; omega
  refine (chars_any x n w hx).mono ?_
  rintro e w' ⟨A, c, he, ho, hb⟩
  rw [hc, len_is, len_letters] at he ho
  exact ⟨A, c, he, ho, hb⟩
theorem letters_n (x : Nat) (m : Int) (n : Nat) (h : m = (n : Int)) (h16 : n ≤ 16) (w : World) (hx : x < 18446744073709551616) :
    Calls Try.prog 37 #[.int .u64 x, .int .i64 m] w fun e w' => ∃ A c, e = .returned (.slice A n c) ∧ w'.ownsRow w.heap.size 3 1 (.slice A n c) n (is (letters x n)) ∧ Below w.heap.size w w' := by
  subst h
  have hc : count (n : Int) = n := by unfold count; omega
  refine (letters_ref x n w hx).mono ?_
  rintro e w' ⟨A, c, he, ho, hb⟩
  rw [hc, len_is, len_letters] at he ho
  exact ⟨A, c, he, ho, hb⟩

set_option maxHeartbeats 400000 in
theorem eval_tabs (A : Option Addr) (c B : Nat) (words : List Nat) (b : Int) (x : Nat) (w : World) (hwd : Rd w B A (us words)) (hB : B ≤ w.heap.size) (hl : words.length ≤ 17592186043904)
    (hw : ∀ x ∈ words, x < 18446744073709551616) (hx : x < 18446744073709551616) (nw : Nat) (hnw : words.length = nw) :
    Calls Try.prog 24 #[.slice A nw c, .int .i64 b, .int .u64 x] w fun e w' => e = .returned (.tuple #[.int .u64 (evalV words b x : Nat), .int .i64 (evalE words b x)]) ∧ Below w.heap.size w w' := by
  subst hnw
  by_cases h0 : chk words.length 128 b = 0
  · obtain ⟨hb1, hb2, hn⟩ := chk_zero h0
    have hq : ((x : Int) / 4294967296 != 0) = !decide (x < 4294967296) := by
      by_cases h : x < 4294967296
      · have : (x : Int) / 4294967296 = 0 := by omega
        simp [h, this]
      · have : ¬ (x : Int) / 4294967296 = 0 := by omega
        simp [h, this]
    have HW := hide hw; have H0 := hide h0; have hn2 : words.length = 128 := by omega
    have HN := hide hn; have HN2 := hide hn2; have HX := hide hx; have HL := hide hl
    clear h0 hn hn2 hw hx hl
    by_cases hx32 : x < 4294967296
    · have hq2 : ((x : Int) / 4294967296 != 0) = false := by rw [hq]; simp [hx32]
      have HX32 := hide hx32
      clear hq hx32
      go_enter Try.func24, Try.ntmps24
      go_wp2_with (go_at_call 25; refine (check_tabs _ _ _ _ _).mono ?_; rintro e w' ⟨rfl, rfl⟩; rw [H0.out])
      refine (chars_n x 8 8 rfl (by omega) _ HX.out).mono ?_
      rintro e w1 ⟨A1, c1, rfl, hown, hbel⟩
      go_wp2_with fail
      refine (sum_tabs _ _ _ _ _ _ words (letters x 8) _ (hwd.below (hbel.mono hB)) (Rd.of_own hown) HL.out (by rw [len_letters]; omega) HW.out _ rfl _ (len_letters _ _)).mono ?_
      rintro e w2 ⟨rfl, rfl⟩
      go_wp2_with fail
      refine (low_tabs _ _ _ ?_ hb1 hb2).mono ?_
      · unfold sumE; split
        · exact sumV_lt _ _ HW.out
        · omega
      rintro e w2 ⟨rfl, rfl⟩
      go_wp2
      go_ret2
      have he : evalE words b x = 0 := by simp [evalE, H0.out, HX32.out]
      have hf : fitsV words.length (letters x 8) = 0 := by simp [fitsV, len_letters, letters_good, HN2.out]
      exact ⟨ret_ii (by simp [evalV, he, sumE, hf]) he.symm, hbel⟩
    · have hq2 : ((x : Int) / 4294967296 != 0) = true := by rw [hq]; simp [hx32]
      have HX32 := hide hx32
      clear hq hx32
      go_enter Try.func24, Try.ntmps24
      go_wp2_with (go_at_call 25; refine (check_tabs _ _ _ _ _).mono ?_; rintro e w' ⟨rfl, rfl⟩; rw [H0.out])
      go_ret2
      have he : evalE words b x = 2 := by simp [evalE, H0.out, HX32.out]
      exact ⟨ret_ii (by simp [evalV, he]) he.symm, Below.refl _ _⟩
  · have hz : (chk words.length 128 b != 0) = true := by simpa using h0
    have he : evalE words b x = chk words.length 128 b := by simp [evalE, h0]
    have hv : evalV words b x = 0 := by simp [evalV, he, h0]
    rw [he, hv]
    have C := hide fun W => check_tabs A words.length c b W
    clear he hv
    generalize chk words.length 128 b = z at *
    clear h0
    go_enter Try.func24, Try.ntmps24
    go_wp2_with (go_at_call 25; refine (C.out _).mono ?_; rintro e w' ⟨rfl, rfl⟩)
    go_ret2
    exact ⟨rfl, Below.refl _ _⟩
end Go.Proofs.Ytpkekdgpkalceaa
