/-
  Walks of the reference's Len and Div, bit by bit. Conditions: the numbers fit their bits.
-/
import Derived.Test.YtpfpdlgfngkdjaaRefU
import Derived.Deep.LoopGhost
namespace Go.Proofs.Ytpfpdlgfngkdjaa
open Go.RowKit
set_option linter.unusedVariables false

/-- One more than the greatest bit that is set, of n. -/
def lenB (X : Nat) : Nat → Nat
  | 0 => 0
  | n + 1 => if bt X n = 1 then n + 1 else lenB X n
theorem lenB_le (X n : Nat) : lenB X n ≤ n := by
  induction n with
  | zero => exact Nat.le_refl _
  | succ n ih => unfold lenB; split <;> omega
theorem lt_step {X n : Nat} (h : X < 2 ^ (n + 1)) (hb : bt X n ≠ 1) : X < 2 ^ n := by
  have h1 := bt_le X n
  have h2 : bt X n = 0 := by omega
  rw [Nat.pow_succ] at h
  unfold bt at h2
  have h3 : X / 2 ^ n < 2 := Nat.div_lt_of_lt_mul h
  have h4 : X / 2 ^ n = 0 := by revert h2 h3; generalize X / 2 ^ n = y; omega
  rcases Nat.div_eq_zero_iff.1 h4 with h5 | h5
  · have := Nat.two_pow_pos n; omega
  · exact h5
theorem lenB_iff {X n k : Nat} (h : X < 2 ^ n) : lenB X n ≤ k ↔ X < 2 ^ k := by
  induction n with
  | zero =>
    have : X = 0 := by simpa using h
    subst this
    exact ⟨fun _ => Nat.two_pow_pos k, fun _ => Nat.zero_le _⟩
  | succ n ih =>
    unfold lenB
    split
    · rename_i hb
      have h2 : 2 ^ n ≤ X := by
        rcases Nat.lt_or_ge X (2 ^ n) with h3 | h3
        · rw [bt_high h3 (Nat.le_refl n)] at hb; omega
        · exact h3
      constructor
      · intro hk; exact Nat.lt_of_lt_of_le h (Nat.pow_le_pow_right (by omega) hk)
      · intro hk
        rcases Nat.lt_or_ge n k with h3 | h3
        · omega
        · have := Nat.pow_le_pow_right (show 0 < 2 by omega) h3
          omega
    · rename_i hb
      exact ih (lt_step h hb)
theorem lenB_zero {X n : Nat} (h : X < 2 ^ n) : lenB X n = 0 ↔ X = 0 := by
  have := lenB_iff (k := 0) h
  rw [Nat.pow_zero] at this
  omega
set_option maxHeartbeats 1000000 in
theorem len_ref (A : Option Addr) (n c B X : Nat) (w : World) (hr : Rd w B A (is (bitsOf X n))) (hn : n ≤ 100000) :
    Calls Try.prog 30 #[.slice A n c] w fun e w' => e = .returned (.int .i64 (lenB X n : Nat)) ∧ w = w' := by
  go_enter Try.func30, Try.ntmps30
  go_wp2
  go_loopg [3, 4] n (fun m v3 v4 wr => ∃ k : Nat, m = n - k ∧ k ≤ n ∧ v3 = .int .i64 (lenB X k : Nat) ∧ v4 = .int .i64 k ∧ wr = w)
  case atStart => exact ⟨0, rfl, Nat.zero_le _, rfl, rfl, rfl⟩
  case round =>
    obtain ⟨k, hm, hk, rfl, rfl, rfl⟩ := hrel
    have HM := hide hm
    clear hm
    by_cases hlt : k < n
    · have t1 : (k : Int) < (n : Int) := by omega
      obtain ⟨b, o, rfl, hbb, hc⟩ := hr.i (k := k) (by rw [len_bitsOf]; exact hlt)
      rw [get_bitsOf] at hc
      by_cases hb : bt X k = 1
      · have e1 : lenB X (k + 1) = k + 1 := by show (if bt X k = 1 then k + 1 else lenB X k) = _; rw [if_pos hb]
        rw [hb] at hc
        have E1 := hide e1
        clear hb e1
        go_wp2
        go_roundg (n - (k + 1))
        case measure => rw [HM.out]; omega
        case rel => exact ⟨k + 1, rfl, by omega, val_i (by rw [E1.out]; omega), by go_num, rfl⟩
      · have e1 : lenB X (k + 1) = lenB X k := by show (if bt X k = 1 then k + 1 else lenB X k) = _; rw [if_neg hb]
        have h0 : bt X k = 0 := by have := bt_le X k; omega
        rw [h0] at hc
        have E1 := hide e1
        clear hb e1 h0
        go_wp2
        go_roundg (n - (k + 1))
        case measure => rw [HM.out]; omega
        case rel => exact ⟨k + 1, rfl, by omega, val_i (by rw [E1.out]), by go_num, rfl⟩
    · have hkn : k = n := by omega
      subst hkn
      go_wp2
      go_ret
      exact ⟨rfl, rfl⟩

theorem bt_2r (r b i : Nat) (hb : b ≤ 1) : bt (2 * r + b) i = if i = 0 then b else bt r (i - 1) := by
  unfold bt
  cases i with
  | zero => simp; omega
  | succ i =>
    simp only [Nat.succ_ne_zero, if_false, Nat.add_sub_cancel]
    rw [Nat.pow_succ', ← Nat.div_div_eq_div_mul, show (2 * r + b) / 2 = r by omega]
theorem bits_set0 (r b n : Nat) (hb : b ≤ 1) : (is (bitsOf (r * 2 ^ 1) n)).set 0 (.int .i64 (b : Nat)) = is (bitsOf (2 * r + b) n) := by
  refine List.ext_getElem (by simp [len_is, len_bitsOf]) fun i h1 h2 => ?_
  rw [List.getElem_set]
  have e : r * 2 ^ 1 = 2 * r + 0 := by omega
  split
  · rename_i h
    subst h
    rw [get_is, get_bitsOf, bt_2r r b _ hb, if_pos rfl]
  · rename_i h
    rw [get_is, get_is, get_bitsOf, get_bitsOf, e, bt_2r r b _ hb, bt_2r r 0 _ (by omega), if_neg (Ne.symm h), if_neg (Ne.symm h)]
theorem bits_setj (q j n : Nat) : (is (bitsOf (2 * q * 2 ^ j) n)).set j (.int .i64 1) = is (bitsOf ((2 * q + 1) * 2 ^ j) n) := by
  refine List.ext_getElem (by simp [len_is, len_bitsOf]) fun i h1 h2 => ?_
  rw [List.getElem_set]
  split
  · rename_i h
    subst h
    rw [get_is, get_bitsOf, shl_bit, if_neg (by omega), bt_2r q 1 _ (by omega), if_pos (by omega)]
    rfl
  · rename_i h
    rw [get_is, get_is, get_bitsOf, get_bitsOf, shl_bit, shl_bit]
    split
    · rfl
    · rw [show 2 * q = 2 * q + 0 from rfl, bt_2r q 1 _ (by omega), bt_2r q 0 _ (by omega), if_neg (by omega), if_neg (by omega)]
theorem half_step (X j : Nat) : X / 2 ^ j = 2 * (X / 2 ^ (j + 1)) + bt X j := by unfold bt; rw [Nat.pow_succ, ← Nat.div_div_eq_div_mul]; omega
theorem div_down {X Y j : Nat} (hY : 0 < Y) (h : Y ≤ 2 * (X / 2 ^ (j + 1) % Y) + bt X j) :
    X / 2 ^ j / Y = 2 * (X / 2 ^ (j + 1) / Y) + 1 ∧ X / 2 ^ j % Y = 2 * (X / 2 ^ (j + 1) % Y) + bt X j - Y := by
  have h1 := Nat.mod_lt (X / 2 ^ (j + 1)) hY
  have h2 := bt_le X j
  have h3 := Nat.mod_add_div (X / 2 ^ (j + 1)) Y
  have h4 : X / 2 ^ j = 2 * (X / 2 ^ (j + 1) % Y) + bt X j - Y + Y * (2 * (X / 2 ^ (j + 1) / Y) + 1) := by
    rw [half_step X j, Nat.mul_add, Nat.mul_one, Nat.mul_left_comm]
    omega
  rw [h4, Nat.add_mul_mod_self_left, Nat.add_mul_div_left _ _ hY]
  rw [Nat.div_eq_of_lt (show 2 * (X / 2 ^ (j + 1) % Y) + bt X j - Y < Y by omega), Nat.mod_eq_of_lt (show 2 * (X / 2 ^ (j + 1) % Y) + bt X j - Y < Y by omega)]
  exact ⟨by omega, rfl⟩
theorem div_stay {X Y j : Nat} (hY : 0 < Y) (h : ¬ Y ≤ 2 * (X / 2 ^ (j + 1) % Y) + bt X j) :
    X / 2 ^ j / Y = 2 * (X / 2 ^ (j + 1) / Y) ∧ X / 2 ^ j % Y = 2 * (X / 2 ^ (j + 1) % Y) + bt X j := by
  have h3 := Nat.mod_add_div (X / 2 ^ (j + 1)) Y
  have h4 : X / 2 ^ j = 2 * (X / 2 ^ (j + 1) % Y) + bt X j + Y * (2 * (X / 2 ^ (j + 1) / Y)) := by
    rw [half_step X j, Nat.mul_left_comm]
    omega
  rw [h4, Nat.add_mul_mod_self_left, Nat.add_mul_div_left _ _ hY]
  rw [Nat.div_eq_of_lt (by omega), Nat.mod_eq_of_lt (by omega)]
  exact ⟨by omega, rfl⟩
/-- Two slices, each read as a number's bits; it has written to its own memory alone. -/
def RetBB (w : World) (X n Y m : Nat) (e : Ending) (w' : World) : Prop := ∃ A c A' c', e = .returned (.tuple #[.slice A n c, .slice A' m c']) ∧ Rs w' A (is (bitsOf X n)) ∧ Rs w' A' (is (bitsOf Y m)) ∧ Below w.heap.size w w'
theorem own_addr' {w : World} {base n c : Nat} {e : TypeId} {A : Option Addr} {xs : List Value} (h : w.ownsRow base e 1 (.slice A n c) n xs) (hn : 0 < n) : ∃ g, A = some ⟨g, 0, none⟩ ∧ base ≤ g ∧ g < w.heap.size := by
  rcases h.2 with ⟨_, h0⟩ | ⟨g, cap, cur, hv, hb, hh, _⟩
  · omega
  · injection hv with h1
    exact ⟨g, h1, hb, (Array.getElem?_eq_some_iff.1 hh).1⟩
theorem own_kept {w : World} {base base' n c n' c' g j : Nat} {e e' : TypeId} {A : Option Addr} {xs ys : List Value} {u : Value} (h : w.ownsRow base e 1 (.slice A n c) n xs)
    (h' : w.ownsRow base' e' 1 (.slice (some ⟨g, 0, none⟩) n' c') n' ys) (hne : ∀ k, (Value.slice A n c).ownBlock = some k → k ≠ g) : (w.setCell ⟨g, j, none⟩ u).ownsRow base e 1 (.slice A n c) n xs := by
  refine h.kept (h'.stored j u).2 ?_
  cases hk : (Value.slice A n c).ownBlock with
  | none => exact .inl rfl
  | some k => exact .inr (fun he => hne k hk (by injection he))
theorem max_cast (p q : Nat) : max (p : Int) (q : Int) = ((max p q : Nat) : Int) := by omega
set_option maxHeartbeats 4000000 in
theorem div_ref (A A' : Option Addr) (p c q c' X Y : Nat) (w : World) (hr : Rs w A (is (bitsOf X p))) (hr' : Rs w A' (is (bitsOf Y q))) (hX : X < 2 ^ p) (hY : Y < 2 ^ q) (hY0 : 0 < Y) (hp : p ≤ 1000) (hq : q ≤ 1000) (n : Nat) (hn : n = max p q + 1) :
    Calls Try.prog 28 #[.slice A p c, .slice A' q c'] w (RetBB w (X / Y) p (X % Y) n) := by
  have hl : lenB Y q ≠ 0 := fun h => by rw [lenB_zero hY] at h; omega
  obtain ⟨L, hL⟩ : ∃ L, L = lenB Y q := ⟨_, rfl⟩
  have HL : Hid (∀ W, Rs W A' (is (bitsOf Y q)) → Calls Try.prog 30 #[.slice A' q c'] W fun e w' => e = .returned (.int .i64 (L : Nat)) ∧ W = w') := fun W h => by rw [hL]; exact len_ref A' q c' _ Y W h (by omega)
  have t0 : ((L : Int) == 0) = false := by rw [beq_eq_false_iff_ne]; omega
  have hn1 : n ≤ 1001 := by omega
  have hqn : q < n := by omega
  have hY2 : Y < 2 ^ (n - 1) := Nat.lt_of_lt_of_le hY (Nat.pow_le_pow_right (by omega) (by omega))
  have HX := hide hX; have HY := hide hY; have HY2 := hide hY2; have HY0 := hide hY0
  clear hl hL hX hY hY2 hY0
  by_cases hpq : p < q
  all_goals
    have hpq2 : (p : Int) < (q : Int) ∨ ¬ (p : Int) < (q : Int) := by omega
    first | have hnn : (q : Int) + 1 = (n : Int) := by omega | have hnn : (p : Int) + 1 = (n : Int) := by omega
    clear hn hpq2
    go_enter Try.func28, Try.ntmps28
    go_wp2_with fail
    refine (of_any 0 p p rfl (by omega) _ (by omega)).mono ?_
    rintro e w1 ⟨A1, c1, rfl, hown1, hb1⟩
    go_wp2_with fail
    refine (of_u 0 n n rfl (by omega) _ (by omega)).mono ?_
    rintro e w2 ⟨A2, c2, rfl, r2, hb2⟩
    replace hown1 := own_carry hown1 hb2
    have B : Below w.heap.size w w2 := below_call hb1 (Nat.le_refl _) hb2
    clear hb1 hb2
    go_wp2_with fail
    refine (HL.out _ (Rs.to (hr'.below B) B.size)).mono ?_
    rintro e w3 ⟨rfl, rfl⟩
    go_wp2_with fail
    go_loopg [8, 9] p (fun k v8 v9 wr => ∃ (I : Int) (A2 : Option Addr) (c2 : Nat), I = (k : Int) - 1 ∧ k ≤ p ∧ v9 = .int .i64 I ∧ v8 = .slice A2 n c2 ∧ Rs wr A2 (is (bitsOf (X / 2 ^ k % Y) n)) ∧ wr.ownsRow w.heap.size 3 1 (.slice A1 p c1) p (is (bitsOf (X / 2 ^ k / Y * 2 ^ k) p)) ∧ Below w.heap.size w wr)
    case atStart =>
      have e0 : X / 2 ^ p = 0 := Nat.div_eq_of_lt HX.out
      refine ⟨_, A2, c2, rfl, Nat.le_refl _, rfl, rfl, ?_, ?_, B⟩
      · rw [e0, Nat.zero_mod]; exact r2
      · rw [e0, Nat.zero_div, Nat.zero_mul]; exact hown1
    case round =>
      clear r2 hown1 B
      obtain ⟨I, A2, c2, hI, hk, rfl, rfl, r2, hq1, B⟩ := hrel
      by_cases hk0 : 0 < gk
      · obtain ⟨j, rfl⟩ : ∃ j, gk = j + 1 := ⟨gk - 1, by omega⟩
        have hIj : I = (j : Int) := by omega
        subst hIj
        clear hI
        have t1 : (0 : Int) ≤ (j : Int) := by omega
        have t2 : (j : Int) < (p : Int) := by omega
        have hrl : X / 2 ^ (j + 1) % Y < 2 ^ n := Nat.lt_of_lt_of_le (Nat.lt_trans (Nat.mod_lt _ HY0.out) HY2.out) (Nat.pow_le_pow_right (by omega) (by omega))
        have hbx := bt_le X j
        have hVl : 2 * (X / 2 ^ (j + 1) % Y) + bt X j < 2 ^ n := by
          have h1 := Nat.mod_lt (X / 2 ^ (j + 1)) HY0.out
          have h2 := HY2.out
          have h3 : 2 ^ n = 2 * 2 ^ (n - 1) := by rw [← Nat.pow_succ']; congr 1; omega
          omega
        have HVL := hide hVl
        have HDn := hide (fun h => div_down (X := X) (Y := Y) (j := j) HY0.out h)
        have HSt := hide (fun h => div_stay (X := X) (Y := Y) (j := j) HY0.out h)
        have hB0 := bits_set0 (X / 2 ^ (j + 1) % Y) (bt X j) n hbx
        have HB0 := hide hB0
        clear hVl hB0
        go_wp2_with fail
        refine (shl_ref A2 n c2 _ _ 1 1 rfl (by omega) n n rfl (by omega) (by omega) _ r2 hrl (Nat.le_refl _)).mono ?_
        rintro e w3 ⟨A3, c3, rfl, hown3, hb⟩
        have hql := hq1.lt
        replace hq1 := own_carry hq1 hb
        have bz := B.size
        replace B : Below w.heap.size w w3 := below_call B (Nat.le_refl _) hb
        clear hb r2 hrl
        obtain ⟨g, rfl, hg1, hg2⟩ := own_addr' hown3 (by omega)
        obtain ⟨b, o, hA, hbb, hc⟩ := (hr.below B).i (k := j) (by rw [len_bitsOf]; omega)
        rw [get_bitsOf] at hc
        subst hA
        have z0 := hown3.frozenAt 0
        have z1 : w3.cell? ⟨g, 0, none⟩ = some (.int .i64 (bt (X / 2 ^ (j + 1) % Y * 2 ^ 1) 0 : Nat)) := by
          rw [hown3.cellAt 0 (by omega), List.getElem?_eq_getElem (by rw [len_is, len_bitsOf]; omega), get_is, get_bitsOf]
        have z2 := (Array.getElem?_eq_some_iff.1 (show w3.heap[g]? = some w3.heap[g] from Array.getElem?_eq_getElem hg2)).1
        have hs := (hown3.stored 0 (.int .i64 (bt X j : Nat))).1
        rw [HB0.out] at hs
        have r4 := Rs.of_own hs
        have hq2 : (w3.setCell ⟨g, 0, none⟩ (.int .i64 (bt X j : Nat))).ownsRow w.heap.size 3 1 (.slice A1 p c1) p _ := own_kept hq1 hown3 (fun k hk he => by
          have h1 := (hql k hk).2
          omega)
        have B2 : Below w.heap.size w (w3.setCell ⟨g, 0, none⟩ (.int .i64 (bt X j : Nat))) := B.setCell (show w.heap.size ≤ g by omega) _
        have hgl : ∀ k, (Value.slice A1 p c1).ownBlock = some k → k < (w3.setCell ⟨g, 0, none⟩ (.int .i64 (bt X j : Nat))).heap.size := fun k hk => (hq2.lt k hk).2
        clear hown3 hq1 hs B hql
        go_wp2_with fail
        refine (cmp_ref _ A' n c3 q c' _ _ _ Y _ r4 (hr'.below B2) HVL.out HY.out (by omega) (by omega)).mono ?_
        rintro e w4 ⟨rfl, rfl⟩
        by_cases hge : Y ≤ 2 * (X / 2 ^ (j + 1) % Y) + bt X j
        · have hv : (0 : Int) ≤ cmpV (2 * (X / 2 ^ (j + 1) % Y) + bt X j) Y := by unfold cmpV; rw [if_neg (by omega)]; split <;> omega
          generalize cmpV (2 * (X / 2 ^ (j + 1) % Y) + bt X j) Y = cv at *
          obtain ⟨hd1, hd2⟩ := HDn.out hge
          have hdf : dif (2 * (X / 2 ^ (j + 1) % Y) + bt X j) Y n = X / 2 ^ j % Y := by
            rw [hd2]
            have h1 := HVL.out
            unfold dif
            rw [Nat.mod_eq_of_lt h1, Nat.mod_eq_of_lt (show Y < 2 ^ n by omega), show 2 * (X / 2 ^ (j + 1) % Y) + bt X j + 2 ^ n - Y = 2 * (X / 2 ^ (j + 1) % Y) + bt X j - Y + 2 ^ n by omega, Nat.add_mod_right, Nat.mod_eq_of_lt (by omega)]
          have HDF := hide hdf
          have HD1 := hide hd1
          clear hd1 hd2 hdf hge
          go_wp2_with fail
          refine (sub_ref _ A' n c3 q c' _ _ _ Y n n rfl (by omega) (by omega) (by omega) _ r4 (hr'.below B2) HVL.out HY.out (Nat.le_refl _) B2.size).mono ?_
          rintro e w5 ⟨A5, c5, rfl, hown5, hb⟩
          rw [HDF.out] at hown5
          have hq3 := own_carry hq2 hb
          have hb5 := hown5.lt
          replace B2 : Below w.heap.size w w5 := below_call B2 (Nat.le_refl _) hb
          clear hb hq2 r4
          obtain ⟨g1, hA1, hg3, hg4⟩ := own_addr' hq3 (by omega)
          subst hA1
          have hg5 := hgl g1 rfl
          have y0 := hq3.frozenAt j
          have y1 : w5.cell? ⟨g1, j, none⟩ = some (.int .i64 (bt (X / 2 ^ (j + 1) / Y * 2 ^ (j + 1)) j : Nat)) := by
            rw [hq3.cellAt j (by omega), List.getElem?_eq_getElem (by rw [len_is, len_bitsOf]; omega), get_is, get_bitsOf]
          have y2 := (Array.getElem?_eq_some_iff.1 (show w5.heap[g1]? = some w5.heap[g1] from Array.getElem?_eq_getElem hg4)).1
          have hq4 := (hq3.stored j (.int .i64 1)).1
          have es : X / 2 ^ (j + 1) / Y * 2 ^ (j + 1) = 2 * (X / 2 ^ (j + 1) / Y) * 2 ^ j := by rw [Nat.pow_succ, Nat.mul_comm (2 ^ j), ← Nat.mul_assoc, Nat.mul_comm _ 2]
          rw [es, bits_setj, ← HD1.out] at hq4
          have hown6 : (w5.setCell ⟨g1, j, none⟩ (.int .i64 1)).ownsRow _ 3 1 (.slice A5 n c5) n _ := own_kept hown5 hq3 (fun k hk he => by
            have h1 := (hb5 k hk).1
            omega)
          have r5 := Rs.of_own hown6
          have B3 : Below w.heap.size w (w5.setCell ⟨g1, j, none⟩ (.int .i64 1)) := B2.setCell (show w.heap.size ≤ g1 by omega) _
          clear hown5 hown6 hq3 B2 es hb5 hgl
          go_wp2
          go_roundg j
          case measure => omega
          case rel => exact ⟨_, A5, c5, rfl, by omega, rfl, rfl, r5, hq4, B3⟩
        · have hv : cmpV (2 * (X / 2 ^ (j + 1) % Y) + bt X j) Y < 0 := by unfold cmpV; rw [if_pos (by omega)]; decide
          generalize cmpV (2 * (X / 2 ^ (j + 1) % Y) + bt X j) Y = cv at *
          obtain ⟨hd1, hd2⟩ := HSt.out hge
          have es : X / 2 ^ (j + 1) / Y * 2 ^ (j + 1) = X / 2 ^ j / Y * 2 ^ j := by rw [hd1, Nat.pow_succ, Nat.mul_comm (2 ^ j), ← Nat.mul_assoc, Nat.mul_comm _ 2]
          rw [es] at hq2
          rw [← hd2] at r4
          clear hd1 hd2 hge es hgl
          go_wp2
          go_roundg j
          case measure => omega
          case rel => exact ⟨_, _, c3, rfl, by omega, rfl, rfl, r4, hq2, B2⟩
      · have hk1 : gk = 0 := by omega
        subst hk1
        have hI1 : I = -1 := by omega
        clear hI
        subst hI1
        rw [Nat.pow_zero, Nat.div_one, Nat.mul_one] at hq1
        rw [Nat.pow_zero, Nat.div_one] at r2
        go_wp2
        go_ret2
        exact ⟨A1, c1, A2, c2, rfl, Rs.of_own hq1, r2, B⟩
end Go.Proofs.Ytpfpdlgfngkdjaa
