/-
  Walks of the reference's Digits and Value. Conditions: the text has no more than a hundred bytes.
-/
import Derived.Test.YtpfpdlgfngkdjaaTxtF
import Derived.Test.YtpfpdlgfngkdjaaFullU
namespace Go.Proofs.Ytpfpdlgfngkdjaa
open Go.RowKit
set_option linter.unusedVariables false

set_option maxHeartbeats 2000000 in
theorem to4_300 (A : Option Addr) (c X : Nat) (w : World) (hr : Rs w A (is (bitsOf X 300))) (hX : X < 2 ^ 300) : Calls Try.prog 33 #[.slice A 300 c] w fun e w' => e = .returned (.agg #[.int .u64 (wd (X) 0 : Nat), .int .u64 (wd (X) 1 : Nat), .int .u64 (wd (X) 2 : Nat), .int .u64 (wd (X) 3 : Nat)]) ∧ Below w.heap.size w w' := by
  have hwv : ∀ k, k < 4 → wordV X (64 * k) = wd X k := fun k hk => by
    unfold wordV wd
    rw [show (18446744073709551616 : Nat) ^ k = 2 ^ (64 * k) by rw [Nat.pow_mul]]
  have HWV := hide hwv
  have HX := hide hX
  clear hwv hX
  go_enter Try.func33, Try.ntmps33
  go_wp2
  have B0 : Below w.heap.size w ((w.alloc (.cells #[.int .u64 0, .int .u64 0, .int .u64 0, .int .u64 0] 24)).alloc (.cells #[.int .u64 0, .int .u64 0, .int .u64 0, .int .u64 0] 24)) := by (repeat (first | exact Below.refl _ _ | assumption | (refine Below.alloc ?_ (by first | omega | (simp; done) | (simp; omega)) _) | (refine Below.setCell ?_ (by first | omega | (simp; done) | (simp; omega)) _) | refine Below.drew ?_ | refine below_drewN ?_ _))
  go_loopg [4] 4 (fun m v4 wr => ∃ k : Nat, m = 4 - k ∧ k ≤ 4 ∧ v4 = .int .i64 k ∧ Words4 wr (w.heap.size + 1) (fun i => if i < k then wd X i else 0) ∧ Box4 wr w.heap.size (.int .u64 0) (.int .u64 0) (.int .u64 0) (.int .u64 0) ∧ Below w.heap.size w wr)
  case atStart =>
    refine ⟨0, rfl, by omega, rfl, Words4.of ?_, ?_, B0⟩
    all_goals (refine ⟨?_, ?_, ?_, ?_, ?_, ?_, ?_, ?_, ?_⟩ <;> simp [go_sem] <;> omega)
  case round =>
    obtain ⟨k, hm, hk, rfl, A4, R, B⟩ := hrel
    clear B0
    have HM := hide hm
    clear hm
    by_cases hlt : k < 4
    · have t1 : (k : Int) < 4 := by omega
      have t2 : (0 : Int) ≤ (k : Int) := by omega
      have hwk := HWV.out k hlt
      have HK := hide hwk
      clear hwk
      go_wp2_with fail
      refine (word_any A 300 c _ X _ (64 * k) (by omega) _ (hr.below B) HX.out (by omega) (by omega)).mono ?_
      rintro e w1 ⟨rfl, rfl⟩
      rw [HK.out]
      have c1 := A4.1 k hlt
      have c2 := A4.2.1 k hlt
      have c4 := A4.2.2
      have HA := hide A4
      clear A4
      generalize hwd : wd X k = z at *
      have HZ := hide hwd
      clear hwd
      go_wp2_with fail
      go_roundg (3 - k)
      case measure => rw [HM.out]; omega
      case rel =>
        refine ⟨k + 1, by omega, by omega, by go_num, ?_, ?_, ?_⟩
        · exact Words4.store HA.out hlt (by show (if k < k + 1 then wd X k else 0) = z; rw [if_pos (by omega), HZ.out]) (fun i hi => by
            show (if i < k + 1 then wd X i else 0) = (if i < k then wd X i else 0)
            by_cases h : i < k
            · rw [if_pos (show i < k + 1 by omega), if_pos h]
            · rw [if_neg (show ¬ i < k + 1 by omega), if_neg h])
        · exact Box4.far R (by omega)
        · exact B.setCell (show w.heap.size ≤ w.heap.size + 1 by omega) _
    · have hk4 : k = 4 := by omega
      subst hk4
      have A5 := A4.box
      have e0 : (if 0 < 4 then wd X 0 else 0) = wd X 0 := rfl
      have e1 : (if 1 < 4 then wd X 1 else 0) = wd X 1 := rfl
      have e2 : (if 2 < 4 then wd X 2 else 0) = wd X 2 := rfl
      have e3 : (if 3 < 4 then wd X 3 else 0) = wd X 3 := rfl
      have A6 : Box4 wr (w.heap.size + 1) (.int .u64 (wd X 0 : Nat)) (.int .u64 (wd X 1 : Nat)) (.int .u64 (wd X 2 : Nat)) (.int .u64 (wd X 3 : Nat)) := A5
      clear e0 e1 e2 e3 A4 A5
      generalize hz0 : wd X 0 = z0 at *
      generalize hz1 : wd X 1 = z1 at *
      generalize hz2 : wd X 2 = z2 at *
      generalize hz3 : wd X 3 = z3 at *
      have HZ := hide (show wd X 0 = z0 ∧ wd X 1 = z1 ∧ wd X 2 = z2 ∧ wd X 3 = z3 from ⟨hz0, hz1, hz2, hz3⟩)
      clear hz0 hz1 hz2 hz3
      go_wp2_with fail
      exact bodyPost_ret (v := .agg #[.int .u64 z0, .int .u64 z1, .int .u64 z2, .int .u64 z3]) (by simp [results, Try.results33, go_sem, R]) rfl ⟨by rw [HZ.out.1, HZ.out.2.1, HZ.out.2.2.1, HZ.out.2.2.2], by (repeat (first | exact Below.refl _ _ | assumption | (refine Below.alloc ?_ (by first | omega | (simp; done) | (simp; omega)) _) | (refine Below.setCell ?_ (by first | omega | (simp; done) | (simp; omega)) _) | refine Below.drew ?_ | refine below_drewN ?_ _))⟩
theorem p300 (x d : Nat) (h : x < 2 ^ 256) (hd : d ≤ 9) : x < 2 ^ 300 ∧ x * 10 < 2 ^ 300 ∧ x * 10 + d < 2 ^ 300 := by
  have e : ∀ a b : Nat, a + b = 300 → (2 : Nat) ^ 300 = 2 ^ a * 2 ^ b := fun a b h => by rw [← h, Nat.pow_add]
  have h2 : (10 : Nat) ≤ 2 ^ 44 := by decide
  rw [e 256 44 rfl]
  generalize (2 : Nat) ^ 256 = P at *
  have h3 : P * 10 ≤ P * 2 ^ 44 := Nat.mul_le_mul_left P h2
  generalize P * 2 ^ 44 = Q at *
  omega
set_option maxHeartbeats 2000000 in
theorem digits_u (st : ByteArray) (n : Nat) (hn : st.size = n) (h1 : 1 ≤ n) (h100 : n ≤ 100) (w : World) :
    Calls Try.prog 10 #[.string st] w fun e w' => e = .returned (.bool (!formB (by_ st) n)) ∧ w = w' := by
  have t1 : (1 : Int) ≤ (n : Int) := by omega
  have t2 : (n : Int) ≤ 100 := by omega
  have hby := hide (show ∀ k (h : k < st.size), (st[k]'h).toNat = by_ st k from fun k h => by unfold by_; rw [dif_pos h])
  go_enter Try.func10, Try.ntmps10
  go_wp2_with fail
  go_loop [3] (fun i => ∃ k : Nat, k ≤ n ∧ i = .int .i64 k ∧ Hid (∀ j, j < k → badD (by_ st) j = false)) (fun i => n - (intOf i).toNat)
  case atStart => exact ⟨0, Nat.zero_le _, rfl, hide fun j h => absurd h (by omega)⟩
  case round =>
    obtain ⟨k, hk, rfl, hall⟩ := hrel
    by_cases hlt : k < n
    · have t3 : (k : Int) < (n : Int) := by omega
      have t4 : (0 : Int) ≤ (k : Int) := by omega
      have hkl : k < st.size := by omega
      have hq := hby.out k hkl
      have HNx := hide (show badD (by_ st) k = false → ∀ j, j < k + 1 → badD (by_ st) j = false from fun h j hj => by
        by_cases e : j = k
        · subst e; exact h
        · exact hall.out j (by omega))
      by_cases hbad : badD (by_ st) k = true
      · have HE := hide (form_yes _ n k hlt hbad)
        have hb2 := of_decide_eq_true hbad
        rw [← hq] at hb2
        have h3 : (((st[k]'hkl).toNat : Nat) : Int) < 48 ∨ ((48 : Int) ≤ (((st[k]'hkl).toNat : Nat) : Int) ∧ (57 : Int) < (((st[k]'hkl).toNat : Nat) : Int)) := by omega
        clear hq hbad hb2 HNx hall
        rcases h3 with t5 | ⟨t5, t6⟩
        · go_wp2_with fail
          go_ret
          exact ⟨ret_b (by rw [HE.out]; rfl), rfl⟩
        · go_wp2_with fail
          go_ret
          exact ⟨ret_b (by rw [HE.out]; rfl), rfl⟩
      · have HG := hide (HNx.out (by simpa using hbad))
        have hb2 : ¬ (by_ st k < 48 ∨ 57 < by_ st k) := fun h => hbad (decide_eq_true h)
        rw [← hq] at hb2
        have t5 : (48 : Int) ≤ (((st[k]'hkl).toNat : Nat) : Int) := by omega
        have t6 : (((st[k]'hkl).toNat : Nat) : Int) ≤ 57 := by omega
        clear hq hbad hb2 HNx hall
        go_wp2_with fail
        go_round
        case rel => exact ⟨k + 1, by omega, by go_num, hide HG.out⟩
        case measure => simp [intOf]; omega
    · have hkn : k = n := by omega
      subst hkn
      have hs0 : 0 < st.size := by omega
      have hq := hby.out 0 hs0
      have t7 : (0 : Int) < (k : Int) := by omega
      by_cases hone : k = 1
      · have HF := hide (form_no _ k hall.out (by omega))
        have t8 : ((k : Int) == 1) = true := by rw [beq_iff_eq]; omega
        clear hq hall hone
        go_wp2_with fail
        go_ret
        exact ⟨ret_b (by rw [HF.out]; rfl), rfl⟩
      · have t8 : ((k : Int) == 1) = false := by rw [beq_eq_false_iff_ne]; omega
        by_cases h48 : by_ st 0 = 48
        · have HF := hide (form_lead _ k h48 (by omega))
          have t9 : ((((st[0]'hs0).toNat : Nat) : Int) != 48) = false := by rw [hq, h48]; rfl
          clear hq hall hone h48
          go_wp2_with fail
          go_ret
          exact ⟨ret_b (by rw [HF.out]; rfl), rfl⟩
        · have HF := hide (form_no _ k hall.out (fun h => h48 h.1))
          have t9 : ((((st[0]'hs0).toNat : Nat) : Int) != 48) = true := by rw [bne_iff_ne, hq]; omega
          clear hq hall hone h48
          go_wp2_with fail
          go_ret
          exact ⟨ret_b (by rw [HF.out]; rfl), rfl⟩

set_option maxRecDepth 100000 in
set_option maxHeartbeats 8000000 in
theorem value_u (st : ByteArray) (n : Nat) (hn : st.size = n) (h1 : 1 ≤ n) (h100 : n ≤ 100) (hf : formB (by_ st) n = false) (w : World) :
    Calls Try.prog 11 #[.string st] w fun e w' => e = .returned (.tuple #[.agg #[.int .u64 (wd (txV (by_ st) n) 0 : Nat), .int .u64 (wd (txV (by_ st) n) 1 : Nat), .int .u64 (wd (txV (by_ st) n) 2 : Nat), .int .u64 (wd (txV (by_ st) n) 3 : Nat)], .bool (decide (vl (by_ st) n < 2 ^ 256))]) ∧ Below w.heap.size w w' := by
  have t1 : (1 : Int) ≤ (n : Int) := by omega
  have t2 : (n : Int) ≤ 100 := by omega
  have hby := hide (show ∀ k (h : k < st.size), (st[k]'h).toNat = by_ st k from fun k h => by unfold by_; rw [dif_pos h])
  have hgood := hide (show ∀ j, j < n → 48 ≤ by_ st j ∧ by_ st j ≤ 57 from fun j hj => by
    have h2 : badD (by_ st) j = false := by
      cases hb : badD (by_ st) j
      · rfl
      · rw [form_yes _ n j hj hb] at hf; exact absurd hf (by simp)
    have := of_decide_eq_false h2
    omega)
  have HF := hide hf
  have HN0 := hide (show n ≠ 0 by omega)
  clear hf
  obtain ⟨W1, hW1⟩ : ∃ W1, W1 = w.alloc (.cells #[.int .u64 0, .int .u64 0, .int .u64 0, .int .u64 0] 24) := ⟨_, rfl⟩
  have R1 : Box4 W1 w.heap.size (.int .u64 0) (.int .u64 0) (.int .u64 0) (.int .u64 0) := by rw [hW1]; refine ⟨?_, ?_, ?_, ?_, ?_, ?_, ?_, ?_, ?_⟩ <;> simp [go_sem]
  have B1 : Below w.heap.size w W1 := by rw [hW1]; exact (Below.refl _ _).alloc (Nat.le_refl _) _
  have C0 : Hid (∀ W, Calls Try.prog 27 #[.int .u64 0, .int .i64 300] W (RetB W 0 300)) := hide (fun W => of_u 0 300 300 (by rfl) (by omega) W (by omega))
  go_enter Try.func11, Try.ntmps11
  go_wp2_with fail
  rw [← hW1]
  clear hW1
  refine (C0.out _).mono ?_
  rintro e w1 ⟨A1, c1, rfl, r1, hb⟩
  replace R1 := Box4.call hb R1
  replace B1 : Below w.heap.size w w1 := below_call B1 (Nat.le_refl _) hb
  clear C0 hb
  go_wp2_with fail
  go_loopw [4, 5] (fun v i wr => ∃ (q c : Nat) (A : Option Addr), q ≤ n ∧ i = .int .i64 q ∧ v = .slice A 300 c ∧ Rs wr A (is (bitsOf (vl (by_ st) q) 300)) ∧ Box4 wr w.heap.size (.int .u64 0) (.int .u64 0) (.int .u64 0) (.int .u64 0) ∧ Below w.heap.size w wr ∧ Hid (vl (by_ st) q < 2 ^ 256)) (fun _ i _ => n - (intOf i).toNat)
  case atStart => exact ⟨0, c1, A1, Nat.zero_le _, rfl, rfl, r1, R1, B1, hide (Nat.pow_pos (by omega))⟩
  case round =>
    clear r1 R1 B1
    obtain ⟨q, c, A, hqn, rfl, rfl, r1, R1, B, hlow⟩ := hrel
    by_cases hlt : q < n
    · have t7 : (q : Int) < (n : Int) := by omega
      have t8 : (0 : Int) ≤ (q : Int) := by omega
      have hql : q < st.size := by omega
      have hq := hby.out q hql
      obtain ⟨g1, g2⟩ := hgood.out q hlt
      obtain ⟨dk, hdk⟩ : ∃ dk, dk = by_ st q - 48 := ⟨_, rfl⟩
      have hd2 : (((st[q]'hql).toNat : Nat) : Int) - 48 = (dk : Int) := by rw [hq]; omega
      have t9 : (48 : Int) ≤ (((st[q]'hql).toNat : Nat) : Int) := by rw [hq]; omega
      have t10 : (((st[q]'hql).toNat : Nat) : Int) ≤ 57 := by rw [hq]; omega
      have hw0 : IntKind.u64.wrap (((st[q]'hql).toNat : Nat) : Int) = (((st[q]'hql).toNat : Nat) : Int) := by rw [IntKind.wrap_u64]; omega
      have hd3 : (dk : Int) ≤ 9 := by omega
      have hw2 : IntKind.u64.wrap (dk : Int) = (dk : Int) := by rw [IntKind.wrap_u64]; omega
      have hd9 : dk ≤ 9 := by omega
      obtain ⟨hv300, hm300, ha300⟩ := p300 (vl (by_ st) q) dk hlow.out hd9
      have hvn : vl (by_ st) q * 10 + dk = vl (by_ st) (q + 1) := by rw [hdk]; rfl
      have C1 : Hid (∀ W, Calls Try.prog 27 #[.int .u64 10, .int .i64 4] W (RetB W 10 4)) := hide (fun W => of_u 10 4 4 (by rfl) (by omega) W (by omega))
      have C2 : Hid (∀ W A c A' c', Rs W A (is (bitsOf (vl (by_ st) q) 300)) → Rs W A' (is (bitsOf 10 4)) → Calls Try.prog 31 #[.slice A 300 c, .slice A' 4 c', .int .i64 300] W (RetB W (vl (by_ st) q * 10) 300)) := hide (fun W A c A' c' r r' => mul_r A A' 300 c 4 c' _ 10 300 300 (by rfl) W r r' hv300 (by omega) (by omega) (by omega) (by omega))
      have C3 : Hid (∀ W, Calls Try.prog 27 #[.int .u64 dk, .int .i64 64] W (RetB W dk 64)) := hide (fun W => of_u dk 64 64 (by rfl) (by omega) W (by omega))
      have C4 := hide (fun W A c A' c' (r : Rs W A (is (bitsOf (vl (by_ st) q * 10) 300))) (r' : Rs W A' (is (bitsOf dk 64))) => add_r A A' 300 c 64 c' _ dk 300 300 (by rfl) W r r' hm300 (Nat.lt_of_le_of_lt hd9 (show 9 < 2 ^ 64 by decide)) (by omega) (by omega) (by omega))
      rw [hvn] at C4 ha300
      have C5 := hide (fun W A c (r : Rs W A (is (bitsOf (vl (by_ st) (q + 1)) 300))) => len_ref A 300 c _ (vl (by_ st) (q + 1)) W r (by omega))
      have HL := hide (lenB_iff (k := 256) ha300)
      have HOV := hide (fun (h : ¬ vl (by_ st) (q + 1) < 2 ^ 256) => tx_over _ n (q + 1) HN0.out HF.out (by omega) h)
      have HMN := hide (vl_mono (by_ st) (q + 1) n (by omega))
      clear hlow hv300 hm300 ha300 hq g1 g2 hdk hvn
      generalize hY : vl (by_ st) (q + 1) = Y at *
      have HY := hide hY
      clear hY
      generalize lenB Y 300 = lb at *
      go_wp2_with fail
      refine (C1.out _).mono ?_
      rintro e w2 ⟨A2, c2, rfl, r2, hb⟩
      replace r1 := Rs.go hb r1
      replace R1 := Box4.call hb R1
      replace B : Below w.heap.size w w2 := below_call B (Nat.le_refl _) hb
      clear hb
      go_wp2_with fail
      refine (C2.out _ _ _ _ _ r1 r2).mono ?_
      rintro e w3 ⟨A3, c3, rfl, r3, hb⟩
      replace R1 := Box4.call hb R1
      replace B : Below w.heap.size w w3 := below_call B (Nat.le_refl _) hb
      clear hb r1 r2
      go_wp2_with fail
      refine (C3.out _).mono ?_
      rintro e w4 ⟨A4, c4, rfl, r4, hb⟩
      replace r3 := Rs.go hb r3
      replace R1 := Box4.call hb R1
      replace B : Below w.heap.size w w4 := below_call B (Nat.le_refl _) hb
      clear hb
      go_wp2_with fail
      refine (C4.out _ _ _ _ _ r3 r4).mono ?_
      rintro e w5 ⟨A5, c5, rfl, r5, hb⟩
      replace R1 := Box4.call hb R1
      replace B : Below w.heap.size w w5 := below_call B (Nat.le_refl _) hb
      clear hb r3 r4
      go_wp2_with fail
      refine (C5.out _ _ _ r5).mono ?_
      rintro e w6 ⟨rfl, rfl⟩
      by_cases hbig : Y < 2 ^ 256
      · have hlb := HL.out.2 hbig
        have t11 : (lb : Int) ≤ 256 := by omega
        have HB := hide hbig
        clear hbig hlb HL HOV
        go_wp2_with fail
        go_roundw
        case rel => exact ⟨q + 1, c5, A5, by omega, by go_num, rfl, by rw [HY.out]; exact r5, R1, B, hide (by rw [HY.out]; exact HB.out)⟩
        case measure => simp [intOf]; omega
      · have hlb : ¬ lb ≤ 256 := fun h => hbig (HL.out.1 h)
        have t11 : (256 : Int) < (lb : Int) := by omega
        have HE := hide (HOV.out hbig)
        have HD := hide (show decide (vl (by_ st) n < 2 ^ 256) = false from decide_eq_false (fun h => hbig (Nat.lt_of_le_of_lt HMN.out h)))
        have R2 := Box4.put (.int .u64 0) (.int .u64 0) (.int .u64 0) (.int .u64 0) R1
        clear hbig hlb HL HOV
        have bz := B.size
        go_wp2_with fail
        exact bodyPost_ret (v := .tuple #[.agg #[.int .u64 0, .int .u64 0, .int .u64 0, .int .u64 0], .bool false]) (by simp [results, Try.results11, go_sem, R2]) rfl ⟨by rw [HE.out.2, HD.out, wdz, wdz, wdz, wdz]; rfl, by (repeat (first | exact Below.refl _ _ | assumption | (refine Below.alloc ?_ (by first | omega | (simp; done) | (simp; omega)) _) | (refine Below.setCell ?_ (by first | omega | (simp; done) | (simp; omega)) _) | refine Below.drew ?_ | refine below_drewN ?_ _))⟩
    · have hqk2 : q = n := by omega
      subst hqk2
      have HE := hide (tx_ok _ q HN0.out HF.out hlow.out)
      have HD := hide (show decide (vl (by_ st) q < 2 ^ 256) = true from decide_eq_true hlow.out)
      have C7 := hide (to4_300 A c (vl (by_ st) q) wr r1 (p300 _ 0 hlow.out (by omega)).1)
      clear hlow
      go_wp2_with fail
      refine C7.out.mono ?_
      rintro e w2 ⟨rfl, hb⟩
      replace R1 := Box4.call hb R1
      replace B : Below w.heap.size w w2 := below_call B (Nat.le_refl _) hb
      have R2 := Box4.put (.int .u64 (wd (vl (by_ st) q) 0 : Nat)) (.int .u64 (wd (vl (by_ st) q) 1 : Nat)) (.int .u64 (wd (vl (by_ st) q) 2 : Nat)) (.int .u64 (wd (vl (by_ st) q) 3 : Nat)) R1
      have bz := B.size
      clear hb C7
      go_wp2_with fail
      exact bodyPost_ret (v := .tuple #[.agg #[.int .u64 (wd (vl (by_ st) q) 0 : Nat), .int .u64 (wd (vl (by_ st) q) 1 : Nat), .int .u64 (wd (vl (by_ st) q) 2 : Nat), .int .u64 (wd (vl (by_ st) q) 3 : Nat)], .bool true]) (by simp [results, Try.results11, go_sem, R2]) rfl ⟨by rw [HE.out.2, HD.out], by (repeat (first | exact Below.refl _ _ | assumption | (refine Below.alloc ?_ (by first | omega | (simp; done) | (simp; omega)) _) | (refine Below.setCell ?_ (by first | omega | (simp; done) | (simp; omega)) _) | refine Below.drew ?_ | refine below_drewN ?_ _))⟩
end Go.Proofs.Ytpfpdlgfngkdjaa
