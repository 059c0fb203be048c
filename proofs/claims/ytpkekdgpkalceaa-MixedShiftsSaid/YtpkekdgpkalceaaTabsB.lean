/-
  Walks of the small functions of package tabs and its reference: checks, the lowest bits, whether a row fits, the sum of a row's entries. Conditions: slices no longer than the form lets them be.
-/
import Derived.Test.YtpkekdgpkalceaaTabsA
namespace Go.Proofs.Ytpkekdgpkalceaa
open Go.RowKit
set_option linter.unusedVariables false

theorem check_tabs (A : Option Addr) (n c : Nat) (b : Int) (w : World) :
    Calls Try.prog 25 #[.slice A n c, .int .i64 b] w fun e w' => e = .returned (.int .i64 (chk n 128 b)) ∧ w = w' := by
  go_enter Try.func25, Try.ntmps25
  go_wp2
  all_goals (go_ret; exact ⟨ret_i (by grind [chk]), rfl⟩)
theorem check_twist (A : Option Addr) (n c : Nat) (b : Int) (w : World) :
    Calls Try.prog 46 #[.slice A n c, .int .i64 b] w fun e w' => e = .returned (.int .i64 (chk n 240 b)) ∧ w = w' := by
  go_enter Try.func46, Try.ntmps46
  go_wp2
  all_goals (go_ret; exact ⟨ret_i (by grind [chk]), rfl⟩)
theorem check_mixed (A : Option Addr) (n c : Nat) (b : Int) (w : World) :
    Calls Try.prog 39 #[.slice A n c, .int .i64 b] w fun e w' => e = .returned (.int .i64 (chk n 320 b)) ∧ w = w' := by
  go_enter Try.func39, Try.ntmps39
  go_wp2
  all_goals (go_ret; exact ⟨ret_i (by grind [chk]), rfl⟩)
theorem check_ref (A : Option Addr) (n c : Nat) (b m : Int) (w : World) :
    Calls Try.prog 14 #[.slice A n c, .int .i64 b, .int .i64 m] w fun e w' => e = .returned (.int .i64 (chk n m b)) ∧ w = w' := by
  go_enter Try.func14, Try.ntmps14
  go_wp2
  all_goals (go_ret; exact ⟨ret_i (by grind [chk]), rfl⟩)

/-- 'x << (64 - b) >> (64 - b)'. -/
theorem low_walk (x : Nat) (b : Int) (hx : x < 18446744073709551616) (h1 : 1 ≤ b) (h2 : b ≤ 64) :
    IntKind.u64.wrap ((x : Int) * 2 ^ (64 - b).toNat) / 2 ^ (64 - b).toNat = ((lowV x b : Nat) : Int) := by
  obtain ⟨n, rfl⟩ := Int.eq_ofNat_of_zero_le (show 0 ≤ b by omega)
  have e1 : (64 - (n : Int)).toNat = 64 - n := by omega
  have e2 : IntKind.u64.wrap ((x : Int) * 2 ^ (64 - n)) = ((x * 2 ^ (64 - n) % 18446744073709551616 : Nat) : Int) := by
    rw [IntKind.wrap_u64, Int.natCast_emod, Int.natCast_mul, Int.natCast_pow]; rfl
  have e3 : (18446744073709551616 : Nat) = 2 ^ n * 2 ^ (64 - n) := by rw [← Nat.pow_add, show n + (64 - n) = 64 by omega]
  rw [e1, e2]
  have : (x * 2 ^ (64 - n) % 18446744073709551616) / 2 ^ (64 - n) = x % 2 ^ n := by
    rw [e3, Nat.mul_mod_mul_right, Nat.mul_div_cancel _ (Nat.two_pow_pos _)]
  unfold lowV
  rw [Int.toNat_natCast, ← this, Int.natCast_ediv]
  simp
theorem low_tabs (x : Nat) (b : Int) (w : World) (hx : x < 18446744073709551616) (h1 : 1 ≤ b) (h2 : b ≤ 64) :
    Calls Try.prog 35 #[.int .u64 x, .int .i64 b] w fun e w' => e = .returned (.int .u64 (lowV x b : Nat)) ∧ w = w' := by
  have H := Lib.hid (low_walk x b hx h1 h2)
  go_enter Try.func35, Try.ntmps35
  go_wp2
  go_ret
  exact ⟨ret_i H.out, rfl⟩
theorem low_mixed (x : Nat) (b : Int) (w : World) (hx : x < 18446744073709551616) (h1 : 1 ≤ b) (h2 : b ≤ 64) :
    Calls Try.prog 42 #[.int .u64 x, .int .i64 b] w fun e w' => e = .returned (.int .u64 (lowV x b : Nat)) ∧ w = w' := by
  have H := Lib.hid (low_walk x b hx h1 h2)
  go_enter Try.func42, Try.ntmps42
  go_wp2
  go_ret
  exact ⟨ret_i H.out, rfl⟩
theorem low_step (x k : Nat) : x % 2 ^ k + x / 2 ^ k % 2 * 2 ^ k = x % 2 ^ (k + 1) := by
  rw [Nat.pow_succ, Nat.mod_mul, Nat.mul_comm (2 ^ k)]
theorem cast_mod_mul (O Y W : Nat) : ((O + Y % 2 * W : Nat) : Int) = (O : Int) + (Y : Int) % 2 * W := by simp
set_option maxHeartbeats 400000 in
theorem low_ref (x : Nat) (b : Int) (w : World) (hx : x < 18446744073709551616) (h1 : 1 ≤ b) (h2 : b ≤ 64) :
    Calls Try.prog 36 #[.int .u64 x, .int .i64 b] w fun e w' => e = .returned (.int .u64 (lowV x b : Nat)) ∧ w = w' := by
  go_enter Try.func36, Try.ntmps36
  go_wp2
  go_loop [0, 5, 6, 7] (fun y out pw i => ∃ k Y O W : Nat, (k : Int) ≤ b ∧ i = .int .i64 k ∧ y = .int .u64 Y ∧ out = .int .u64 O ∧ pw = .int .u64 W ∧ Y < 18446744073709551616 ∧ O < 18446744073709551616 ∧ W < 18446744073709551616 ∧ Hid (Y = x / 2 ^ k ∧ O = x % 2 ^ k ∧ W = 2 ^ k % 18446744073709551616)) (fun _ _ _ i => (b - intOf i).toNat)
  case atStart => exact ⟨0, x, 0, 1, by omega, rfl, rfl, rfl, rfl, hx, by omega, by omega, hide ⟨by simp, by simp [Nat.mod_one], rfl⟩⟩
  case round =>
    obtain ⟨k, Y, O, W, hk, rfl, rfl, rfl, rfl, hY, hO, hW, hH⟩ := hrel
    by_cases hlt : (k : Int) < b
    · have hm : Y % 2 * W ≤ W := by rcases Nat.mod_two_eq_zero_or_one Y with h | h <;> simp [h]
      have hs : O + Y % 2 * W = x % 2 ^ (k + 1) := by
        obtain ⟨rfl, rfl, rfl⟩ := hH.out
        rw [Nat.mod_eq_of_lt (Nat.lt_of_lt_of_le (Nat.pow_lt_pow_right (by omega : 1 < 2) (show k < 64 by omega)) (by decide)), low_step]
      have hs2 : x % 2 ^ (k + 1) ≤ x := Nat.mod_le _ _
      have hb1 : (O : Int) + (Y : Int) % 2 * W < 18446744073709551616 := by rw [← cast_mod_mul]; omega
      have hb2 : 0 ≤ (Y : Int) % 2 * W := Int.mul_nonneg (by omega) (by omega)
      have hb3 : (Y : Int) % 2 * W < 18446744073709551616 := by omega
      have HS := hide hs; clear hs hs2 hm
      go_wp2
      go_round
      case rel =>
        obtain ⟨e1, e2, e3⟩ := hH.out
        refine ⟨k + 1, Y / 2, O + Y % 2 * W, W * 2 % 18446744073709551616, by omega, by go_num, val_i (by omega), val_i (by simp), val_i (by simp only [IntKind.wrap_u64]; omega), by omega, ?_, by omega, hide ⟨?_, HS.out, ?_⟩⟩
        · rw [HS.out]; exact Nat.lt_of_le_of_lt (Nat.mod_le _ _) hx
        · rw [e1, Nat.div_div_eq_div_mul, Nat.pow_succ]
        · rw [e3, Nat.pow_succ]; omega
      case measure => simp [intOf]; omega
    · go_wp2
      have hkb : b.toNat = k := by omega
      go_ret
      exact ⟨ret_i (by obtain ⟨e1, e2, e3⟩ := hH.out; unfold lowV; rw [hkb, e2]), rfl⟩

theorem bad_fits (c : Int) (w : World) : Calls Try.prog 52 #[.int .i64 c] w fun e w' => e = .returned (.bool (badc c)) ∧ w = w' := by
  go_enter Try.func52, Try.ntmps52
  go_wp2
  all_goals (go_ret; exact ⟨ret_b (by grind [badc]), rfl⟩)

set_option maxHeartbeats 400000 in
theorem index_fits (A : Option Addr) (c B : Nat) (row : List Int) (w : World) (hr : Rd w B A (is row)) (hl : row.length ≤ 17592186043904) (nr : Nat) (hnr : row.length = nr) :
    Calls Try.prog 58 #[.slice A nr c, .func (.func 52) #[] #[]] w fun e w' => ∃ r : Int, e = .returned (.int .i64 r) ∧ decide (0 ≤ r) = row.any badc ∧ w = w' := by
  subst hnr
  go_enter Try.func58, Try.ntmps58
  go_wp2
  go_loop [8] (fun i => ∃ k : Nat, k ≤ row.length ∧ i = .int .i64 k ∧ Hid (∀ j (h : j < row.length), j < k → badc row[j] = false)) (fun i => row.length - (intOf i).toNat)
  case atStart => exact ⟨0, Nat.zero_le _, rfl, fun j _ h => absurd h (by omega)⟩
  case round =>
    obtain ⟨k, hk, rfl, hall⟩ := hrel
    by_cases hlt : k < row.length
    · obtain ⟨b, o, rfl, hb, hc⟩ := hr.i hlt
      go_wp2_with (go_at_call 52; refine (bad_fits _ _).mono ?_; rintro e w' ⟨rfl, rfl⟩)
      · go_ret
        rename_i hbad
        refine ⟨k, rfl, ?_, rfl⟩
        have : row.any badc = true := List.any_eq_true.2 ⟨_, List.getElem_mem hlt, hbad⟩
        rw [this]; simp
      · rename_i hbad
        go_round
        case rel => exact ⟨k + 1, by omega, by go_num, hide fun j h hj => by
                      by_cases e : j = k
                      · subst e; exact hbad
                      · exact hall.out j h (by omega)⟩
        case measure => simp [intOf]; omega
    · go_wp2_with fail
      go_ret
      have hkb : k = row.length := by omega
      subst hkb
      refine ⟨-1, rfl, ?_, rfl⟩
      have : row.any badc = false := by
        rw [List.any_eq_false]
        intro x hx
        obtain ⟨j, hj, rfl⟩ := List.getElem_of_mem hx
        simp [hall.out j hj hj]
      rw [this]; rfl

theorem contains_fits (A : Option Addr) (c B : Nat) (row : List Int) (w : World) (hr : Rd w B A (is row)) (hl : row.length ≤ 17592186043904) (nr : Nat) (hnr : row.length = nr) :
    Calls Try.prog 51 #[.slice A nr c, .func (.func 52) #[] #[]] w fun e w' => e = .returned (.bool (row.any badc)) ∧ w = w' := by
  subst hnr
  go_enter Try.func51, Try.ntmps51
  go_wp2_with (go_at_call 58; refine (index_fits _ _ _ _ _ hr hl _ rfl).mono ?_; rintro e w' ⟨r, rfl, hr2, rfl⟩)
  go_ret
  exact ⟨ret_b rfl, rfl⟩

theorem fits_tabs (A A' : Option Addr) (n c c' B : Nat) (row : List Int) (w : World) (hr : Rd w B A' (is row)) (hl : row.length ≤ 17592186043904) (hn : n ≤ 17592186043904) (nr : Nat) (hnr : row.length = nr) :
    Calls Try.prog 28 #[.slice A n c, .slice A' nr c'] w fun e w' => e = .returned (.int .i64 (fitsV n row)) ∧ w = w' := by
  subst hnr
  go_enter Try.func28, Try.ntmps28
  go_wp2_with (go_at_call 51; refine (contains_fits _ _ _ _ _ hr hl _ rfl).mono ?_; rintro e w' ⟨rfl, rfl⟩)
  all_goals (go_ret; exact ⟨ret_i (by grind [fitsV]), rfl⟩)

set_option maxHeartbeats 400000 in
theorem fits_ref (A A' : Option Addr) (n c c' B : Nat) (row : List Int) (w : World) (hr : Rd w B A' (is row)) (hl : row.length ≤ 17592186043904) (hn : n ≤ 17592186043904) (nr : Nat) (hnr : row.length = nr) :
    Calls Try.prog 33 #[.slice A n c, .slice A' nr c'] w fun e w' => e = .returned (.int .i64 (fitsV n row)) ∧ w = w' := by
  subst hnr
  by_cases hq : n = 16 * row.length
  · have hq1 : ((n : Int) != 16 * (row.length : Int)) = false := by simp; omega
    have HQ := hide hq; clear hq
    go_enter Try.func33, Try.ntmps33
    go_wp2
    go_loop [15] (fun i => ∃ k : Nat, k ≤ row.length ∧ i = .int .i64 k ∧ Hid (∀ j (h : j < row.length), j < k → badc row[j] = false)) (fun i => row.length - (intOf i).toNat)
    case atStart => exact ⟨0, Nat.zero_le _, rfl, fun j _ h => absurd h (by omega)⟩
    case round =>
      obtain ⟨k, hk, rfl, hall⟩ := hrel
      by_cases hlt : k < row.length
      · obtain ⟨b, o, rfl, hb, hc⟩ := hr.i hlt
        go_wp2
        · go_ret
          exact ⟨ret_i (by simp [fitsV, HQ.out, any_yes row k hlt (bad_yes _ (by assumption))]), rfl⟩
        · have hgood : 0 ≤ row[k] ∧ row[k] ≤ 15 := by assumption
          go_round
          case rel => exact ⟨k + 1, by omega, by go_num, hide fun j h hj => by
                        by_cases e : j = k
                        · subst e; exact bad_no _ hgood
                        · exact hall.out j h (by omega)⟩
          case measure => simp [intOf]; omega
        · go_ret
          exact ⟨ret_i (by simp [fitsV, HQ.out, any_yes row k hlt (bad_yes _ (.inl (by assumption)))]), rfl⟩
      · go_wp2
        go_ret
        have hkb : k = row.length := by omega
        subst hkb
        exact ⟨ret_i (by simp [fitsV, HQ.out, any_no row fun j hj => hall.out j hj hj]), rfl⟩
  · have hq1 : ((n : Int) != 16 * (row.length : Int)) = true := by simp; omega
    have HQ := hide hq; clear hq
    go_enter Try.func33, Try.ntmps33
    go_wp2
    go_ret
    exact ⟨ret_i (by have := HQ.out; simp [fitsV, this]), rfl⟩

/-- What a round of the sum loads and adds. -/
theorem sum_step (words : List Nat) (row : List Int) (hw : ∀ x ∈ words, x < 18446744073709551616) (k : Nat) (hk : k < row.length) (c : Nat) (hc : row[k] = (c : Int)) (h : 16 * k + c < words.length) :
    bits .xor .u64 ((sumTo words row k : Nat) : Int) ((words[16 * k + c] : Nat) : Int) = ((sumTo words row (k + 1) : Nat) : Int) := by
  rw [u64_xor_nat _ _ (sumTo_lt words row hw k) (hw _ (List.getElem_mem h))]
  have e1 : row.getD k 0 = (c : Int) := by simp [List.getD, hk, hc]
  have e2 : words.getD (16 * k + c) 0 = words[16 * k + c] := by simp [List.getD, h]
  simp only [sumTo, e1, Int.toNat_natCast, e2]

set_option maxHeartbeats 400000 in
theorem sum_ref (A A' : Option Addr) (c c' B B' : Nat) (words : List Nat) (row : List Int) (w : World) (hwd : Rd w B A (us words)) (hr : Rd w B' A' (is row)) (hl : words.length ≤ 17592186043904)
    (hw : ∀ x ∈ words, x < 18446744073709551616) (hf : words.length = 16 * row.length) (hg : row.any badc = false) (nw : Nat) (hnw : words.length = nw) (nr : Nat) (hnr : row.length = nr) :
    Calls Try.prog 11 #[.slice A nw c, .slice A' nr c'] w fun e w' => e = .returned (.int .u64 (sumV words row : Nat)) ∧ w = w' := by
  subst hnw
  subst hnr
  have hlo : ∀ k (h : k < row.length), 0 ≤ row[k] ∧ row[k] < 16 := fun k h => any_lo row hg k h
  have HF := hide hf; have HW := hide hw; have HL := hide hlo; have hf2 : words.length ≤ 16 * row.length := by omega
  have hf3 : 16 * row.length ≤ words.length := by omega
  clear hf hw hlo hg
  go_enter Try.func11, Try.ntmps11
  go_wp2
  go_loop [5, 10] (fun s i => ∃ k S : Nat, k ≤ row.length ∧ i = .int .i64 k ∧ s = .int .u64 S ∧ Hid (S = sumTo words row k)) (fun _ i => row.length - (intOf i).toNat)
  case atStart => exact ⟨0, 0, Nat.zero_le _, rfl, rfl, hide rfl⟩
  case round =>
    obtain ⟨k, S, hk, rfl, rfl, hS⟩ := hrel
    by_cases hlt : k < row.length
    · obtain ⟨b, o, rfl, hb, hc⟩ := hr.i hlt
      have h16 := HL.out k hlt
      obtain ⟨c, hcc⟩ := Int.eq_ofNat_of_zero_le h16.1
      have hc2 : c < 16 := by omega
      have hin : 16 * k + c < words.length := by omega
      obtain ⟨b2, o2, rfl, hb2, hc3⟩ := hwd.u hin
      rw [hcc] at hc
      have hst := hide (sum_step words row HW.out k hlt c hcc hin)
      have HC := hide hcc; clear hcc h16 HL
      go_wp2
      go_round
      case rel => exact ⟨k + 1, _, by omega, by go_num, val_i (by rw [hS.out]; exact hst.out), hide rfl⟩
      case measure => simp [intOf]; omega
    · go_wp2
      go_ret
      have hkb : k = row.length := by omega
      subst hkb
      exact ⟨ret_i (by rw [hS.out]; rfl), rfl⟩
end Go.Proofs.Ytpkekdgpkalceaa
