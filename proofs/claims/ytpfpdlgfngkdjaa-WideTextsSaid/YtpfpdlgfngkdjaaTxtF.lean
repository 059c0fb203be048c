/-
  Walk of wide.Read4. Conditions: the text has no more than a hundred bytes.
-/
import Derived.Test.YtpfpdlgfngkdjaaTxtE
import Derived.Test.YtpfpdlgfngkdjaaWideA
import Derived.Test.YtpfpdlgfngkdjaaM89C
import Derived.Deep.DeepCutAuto
namespace Go.Proofs.Ytpfpdlgfngkdjaa
open Go.RowKit
set_option linter.unusedVariables false

theorem toList_loop (bs : ByteArray) : ∀ (k i : Nat) (r : List UInt8), bs.size - i = k → ByteArray.toList.loop bs i r = r.reverse ++ bs.data.toList.drop i
  | 0, i, r, h => by
    have hs : bs.data.toList.length = bs.size := by rw [Array.length_toList]; rfl
    rw [ByteArray.toList.loop.eq_def, if_neg (by omega), List.drop_eq_nil_of_le (by omega), List.append_nil]
  | k + 1, i, r, h => by
    have hs : bs.data.toList.length = bs.size := by rw [Array.length_toList]; rfl
    have hi : i < bs.size := by omega
    have hd : bs.data.toList.drop i = bs.get! i :: bs.data.toList.drop (i + 1) := by
      rw [List.drop_eq_getElem_cons (by omega)]
      congr 1
      simp [ByteArray.get!, getElem!_pos bs.data i hi]
    rw [ByteArray.toList.loop.eq_def, if_pos hi, toList_loop bs k (i + 1) _ (by omega), hd, List.reverse_cons, List.append_assoc]
    rfl
theorem toList_data (bs : ByteArray) : bs.toList = bs.data.toList := by
  have := toList_loop bs _ 0 [] rfl
  simpa [ByteArray.toList] using this
theorem toList_ne (st : ByteArray) (h : st.size ≠ 0) : (st.toList == ([] : List UInt8)) = false := by
  rw [beq_eq_false_iff_ne, toList_data]
  intro h2
  have h3 : st.data.toList.length = st.size := by rw [Array.length_toList]; rfl
  rw [h2] at h3
  exact h h3.symm
/-- A text's byte. -/
def by_ (st : ByteArray) (i : Nat) : Nat := if h : i < st.size then (st[i]'h).toNat else 0
def badD (f : Nat → Nat) (i : Nat) : Bool := decide (f i < 48 ∨ 57 < f i)
/-- The number of a text's first k digits. -/
def vl (f : Nat → Nat) : Nat → Nat
  | 0 => 0
  | k + 1 => vl f k * 10 + (f k - 48)
theorem vl_mono (f : Nat → Nat) (k n : Nat) (h : k ≤ n) : vl f k ≤ vl f n := by
  induction n with
  | zero => have : k = 0 := by omega
            subst this; exact Nat.le_refl _
  | succ n ih =>
    rcases Nat.lt_or_ge n k with h1 | h1
    · have : k = n + 1 := by omega
      subst this; exact Nat.le_refl _
    · have := ih h1
      simp only [vl]; omega
def formB (f : Nat → Nat) (n : Nat) : Bool := decide (∃ i, i < n ∧ badD f i = true) || decide (f 0 = 48 ∧ 1 < n)
/-- The error's number of a text, and its number. -/
def txE (f : Nat → Nat) (n : Nat) : Int := if n = 0 then 3 else if formB f n then 5 else if vl f n < 2 ^ 256 then 0 else 9
def txV (f : Nat → Nat) (n : Nat) : Nat := if txE f n = 0 then vl f n else 0

theorem tx_form (f : Nat → Nat) (n : Nat) (h0 : n ≠ 0) (h : formB f n = true) : txE f n = 5 ∧ txV f n = 0 := by
  have h1 : txE f n = 5 := by unfold txE; rw [if_neg h0, if_pos h]
  exact ⟨h1, by unfold txV; rw [h1]; rfl⟩
theorem tx_over (f : Nat → Nat) (n k : Nat) (h0 : n ≠ 0) (h : formB f n = false) (hk : k ≤ n) (hv : ¬ vl f k < 2 ^ 256) : txE f n = 9 ∧ txV f n = 0 := by
  have h1 : txE f n = 9 := by
    unfold txE
    rw [if_neg h0, if_neg (by rw [h]; simp), if_neg]
    have := vl_mono f k n hk
    omega
  exact ⟨h1, by unfold txV; rw [h1]; rfl⟩
theorem tx_ok (f : Nat → Nat) (n : Nat) (h0 : n ≠ 0) (h : formB f n = false) (hv : vl f n < 2 ^ 256) : txE f n = 0 ∧ txV f n = vl f n := by
  have h1 : txE f n = 0 := by unfold txE; rw [if_neg h0, if_neg (by rw [h]; simp), if_pos hv]
  exact ⟨h1, by unfold txV; rw [h1]; rfl⟩
theorem form_yes (f : Nat → Nat) (n k : Nat) (hk : k < n) (h : badD f k = true) : formB f n = true := by
  unfold formB
  rw [decide_eq_true (⟨k, hk, h⟩ : ∃ i, i < n ∧ badD f i = true), Bool.true_or]
theorem form_lead (f : Nat → Nat) (n : Nat) (h : f 0 = 48) (hn : 1 < n) : formB f n = true := by
  unfold formB
  rw [decide_eq_true (⟨h, hn⟩ : f 0 = 48 ∧ 1 < n), Bool.or_true]
theorem form_no (f : Nat → Nat) (n : Nat) (h : ∀ i, i < n → badD f i = false) (h2 : ¬ (f 0 = 48 ∧ 1 < n)) : formB f n = false := by
  unfold formB
  rw [decide_eq_false h2, decide_eq_false (fun ⟨i, hi, hb⟩ => by rw [h i hi] at hb; exact absurd hb (by simp)), Bool.or_false]
theorem Box4.drew' {w : World} {b : Nat} {v0 v1 v2 v3 : Value} (h : Box4 w b v0 v1 v2 v3) : Box4 w.drew b v0 v1 v2 v3 := h
theorem wdz (i : Nat) : wd 0 i = 0 := by simp [wd]

set_option maxRecDepth 100000 in
set_option maxHeartbeats 8000000 in
theorem read4_u (st : ByteArray) (n : Nat) (hn : st.size = n) (h100 : n ≤ 100) (w : World) :
    Calls Try.prog 7 #[.string st] w fun e w' => e = .returned (.tuple #[.agg #[.int .u64 (wd (txV (by_ st) n) 0 : Nat), .int .u64 (wd (txV (by_ st) n) 1 : Nat), .int .u64 (wd (txV (by_ st) n) 2 : Nat), .int .u64 (wd (txV (by_ st) n) 3 : Nat)], .int .i64 (txE (by_ st) n)]) ∧ Below w.heap.size w w' := by
  by_cases h0 : n = 0
  · subst h0
    have hst : st = ⟨#[]⟩ := by
      have : st.data.size = 0 := hn
      cases st with | mk d => simp at this; rw [this]
    subst hst
    have he : txE (by_ ⟨#[]⟩) 0 = 3 := rfl
    have hv : txV (by_ ⟨#[]⟩) 0 = 0 := rfl
    rw [he, hv]
    go_enter Try.func7, Try.ntmps7
    go_wp2_with fail
    exact bodyPost_ret (v := .tuple #[.agg #[.int .u64 0, .int .u64 0, .int .u64 0, .int .u64 0], .int .i64 3]) (by simp [results, Try.results7, go_sem]) rfl ⟨rfl, by (repeat (first | exact Below.refl _ _ | assumption | (refine Below.alloc ?_ (by first | omega | (simp; done) | (simp; omega)) _) | (refine Below.setCell ?_ (by first | omega | (simp; done) | (simp; omega)) _) | refine Below.drew ?_ | refine below_drewN ?_ _))⟩
  · have hne := toList_ne st (by omega)
    have t1 : (1 : Int) ≤ (n : Int) := by omega
    have t2 : (n : Int) ≤ 100 := by omega
    have hby := hide (show ∀ k (h : k < st.size), (st[k]'h).toNat = by_ st k from fun k h => by unfold by_; rw [dif_pos h])
    have HN0 := hide h0
    clear h0
    obtain ⟨W1, hW1⟩ : ∃ W1, W1 = w.alloc (.cells #[.int .u64 0, .int .u64 0, .int .u64 0, .int .u64 0] 24) := ⟨_, rfl⟩
    have R1 : Box4 W1 w.heap.size (.int .u64 0) (.int .u64 0) (.int .u64 0) (.int .u64 0) := by rw [hW1]; refine ⟨?_, ?_, ?_, ?_, ?_, ?_, ?_, ?_, ?_⟩ <;> simp [go_sem]
    have B1 : Below w.heap.size w W1 := by rw [hW1]; exact (Below.refl _ _).alloc (Nat.le_refl _) _
    go_enter Try.func7, Try.ntmps7
    go_wp2_with fail
    rw [← hW1]
    clear hW1
    go_loop [14] (fun i => ∃ k : Nat, k ≤ n ∧ i = .int .i64 k ∧ Hid (∀ j, j < k → badD (by_ st) j = false)) (fun i => n - (intOf i).toNat)
    case atStart => exact ⟨0, Nat.zero_le _, rfl, hide fun j h => absurd h (by omega)⟩
    case round =>
      obtain ⟨k, hk, rfl, hall⟩ := hrel
      by_cases hlt : k < n
      · have t3 : (k : Int) < (n : Int) := by omega
        have t4 : (0 : Int) ≤ (k : Int) := by omega
        have hq := hby.out k (by omega)
        have HNx := hide (show badD (by_ st) k = false → ∀ j, j < k + 1 → badD (by_ st) j = false from fun h j hj => by
          by_cases e : j = k
          · subst e; exact h
          · exact hall.out j (by omega))
        by_cases hbad : badD (by_ st) k = true
        · have HE := hide (tx_form _ n HN0.out (form_yes _ n k hlt hbad))
          have hb2 := of_decide_eq_true hbad
          rw [← hq] at hb2
          have h3 : ((st[k].toNat : Nat) : Int) < 48 ∨ ((48 : Int) ≤ ((st[k].toNat : Nat) : Int) ∧ (57 : Int) < ((st[k].toNat : Nat) : Int)) := by omega
          clear hq hbad hb2 HNx hall
          rcases h3 with t5 | ⟨t5, t6⟩
          · go_wp2_with fail
            have R2 := Box4.put (.int .u64 0) (.int .u64 0) (.int .u64 0) (.int .u64 0) R1
            have B2 : Below w.heap.size w ((((W1.setCell ⟨w.heap.size, 0, none⟩ (.int .u64 0)).setCell ⟨w.heap.size, 1, none⟩ (.int .u64 0)).setCell ⟨w.heap.size, 2, none⟩ (.int .u64 0)).setCell ⟨w.heap.size, 3, none⟩ (.int .u64 0)) := (((B1.setCell (Nat.le_refl _) _).setCell (Nat.le_refl _) _).setCell (Nat.le_refl _) _).setCell (Nat.le_refl _) _
            exact bodyPost_ret (v := .tuple #[.agg #[.int .u64 0, .int .u64 0, .int .u64 0, .int .u64 0], .int .i64 5]) (by simp [results, Try.results7, go_sem, R2]) rfl ⟨by rw [HE.out.1, HE.out.2, wdz, wdz, wdz, wdz]; rfl, B2⟩
          · go_wp2_with fail
            have R2 := Box4.put (.int .u64 0) (.int .u64 0) (.int .u64 0) (.int .u64 0) R1
            have B2 : Below w.heap.size w ((((W1.setCell ⟨w.heap.size, 0, none⟩ (.int .u64 0)).setCell ⟨w.heap.size, 1, none⟩ (.int .u64 0)).setCell ⟨w.heap.size, 2, none⟩ (.int .u64 0)).setCell ⟨w.heap.size, 3, none⟩ (.int .u64 0)) := (((B1.setCell (Nat.le_refl _) _).setCell (Nat.le_refl _) _).setCell (Nat.le_refl _) _).setCell (Nat.le_refl _) _
            exact bodyPost_ret (v := .tuple #[.agg #[.int .u64 0, .int .u64 0, .int .u64 0, .int .u64 0], .int .i64 5]) (by simp [results, Try.results7, go_sem, R2]) rfl ⟨by rw [HE.out.1, HE.out.2, wdz, wdz, wdz, wdz]; rfl, B2⟩
        · have HG := hide (HNx.out (by simpa using hbad))
          have hb2 : ¬ (by_ st k < 48 ∨ 57 < by_ st k) := fun h => hbad (decide_eq_true h)
          rw [← hq] at hb2
          have t5 : (48 : Int) ≤ ((st[k].toNat : Nat) : Int) := by omega
          have t6 : ((st[k].toNat : Nat) : Int) ≤ 57 := by omega
          clear hq hbad hb2 HNx hall
          go_wp2_with fail
          go_round
          case rel => exact ⟨k + 1, by omega, by go_num, hide HG.out⟩
          case measure => simp [intOf]; omega
      · have hkn : k = n := by omega
        subst hkn
        have hs0 : 0 < st.size := by omega
        have hq := hby.out 0 hs0
        by_cases hlead : by_ st 0 = 48 ∧ 1 < k
        · have HE := hide (tx_form _ k HN0.out (form_lead _ k hlead.1 hlead.2))
          have t5 : ((((st[0]'hs0).toNat : Nat) : Int) == 48) = true := by rw [beq_iff_eq, hq]; omega
          have t6 : (1 : Int) < (k : Int) := by omega
          clear hq hlead hall
          go_wp2_with fail
          have R2 := Box4.put (.int .u64 0) (.int .u64 0) (.int .u64 0) (.int .u64 0) R1
          have B2 : Below w.heap.size w ((((W1.setCell ⟨w.heap.size, 0, none⟩ (.int .u64 0)).setCell ⟨w.heap.size, 1, none⟩ (.int .u64 0)).setCell ⟨w.heap.size, 2, none⟩ (.int .u64 0)).setCell ⟨w.heap.size, 3, none⟩ (.int .u64 0)) := (((B1.setCell (Nat.le_refl _) _).setCell (Nat.le_refl _) _).setCell (Nat.le_refl _) _).setCell (Nat.le_refl _) _
          exact bodyPost_ret (v := .tuple #[.agg #[.int .u64 0, .int .u64 0, .int .u64 0, .int .u64 0], .int .i64 5]) (by simp [results, Try.results7, go_sem, R2]) rfl ⟨by rw [HE.out.1, HE.out.2, wdz, wdz, wdz, wdz]; rfl, B2⟩
        · have HF := hide (form_no _ k hall.out hlead)
          have h3 : ((((st[0]'hs0).toNat : Nat) : Int) == 48) = false ∨ (((((st[0]'hs0).toNat : Nat) : Int) == 48) = true ∧ ¬ (1 : Int) < (k : Int)) := by
            by_cases h : by_ st 0 = 48
            · exact .inr ⟨by rw [beq_iff_eq, hq]; omega, by have : ¬ 1 < k := fun hh => hlead ⟨h, hh⟩; omega⟩
            · exact .inl (by rw [beq_eq_false_iff_ne, hq]; omega)
          obtain ⟨nA, hnA⟩ : ∃ nA, nA = W1.heap.size := ⟨_, rfl⟩
          have hRl := R1.2.2.2.2.2.2.2.2
          have hlt2 : w.heap.size < nA := by omega
          obtain ⟨W2, hW2⟩ : ∃ W2, W2 = W1.alloc (.cells #[.int .u64 0, .int .u64 0, .int .u64 0, .int .u64 0] 24) := ⟨_, rfl⟩
          have A1 : Box4 W2 nA (.int .u64 (wd (vl (by_ st) 0) 0 : Nat)) (.int .u64 (wd (vl (by_ st) 0) 1 : Nat)) (.int .u64 (wd (vl (by_ st) 0) 2 : Nat)) (.int .u64 (wd (vl (by_ st) 0) 3 : Nat)) := by
            have h0 : vl (by_ st) 0 = 0 := rfl
            rw [h0, wdz, wdz, wdz, wdz, hW2, hnA]
            refine ⟨?_, ?_, ?_, ?_, ?_, ?_, ?_, ?_, ?_⟩ <;> simp [go_sem]
          have R2 : Box4 W2 w.heap.size (.int .u64 0) (.int .u64 0) (.int .u64 0) (.int .u64 0) := by rw [hW2]; exact Box4.alloc _ R1
          have B2 : Below w.heap.size w W2 := by rw [hW2]; exact B1.alloc (by omega) _
          have hgood := hide (show ∀ j, j < k → 48 ≤ by_ st j ∧ by_ st j ≤ 57 from fun j hj => by
            have := of_decide_eq_false (hall.out j hj)
            omega)
          clear hq hlead hall R1 B1 hRl
          rcases h3 with t5 | ⟨t5, t6⟩
          all_goals
            go_wp2_with fail
            rw [← hW2]
            rw [← hnA]
            clear hW2 hnA
            go_loopw [40] (fun i wr => ∃ q : Nat, q ≤ k ∧ i = .int .i64 q ∧ Box4 wr nA (.int .u64 (wd (vl (by_ st) q) 0 : Nat)) (.int .u64 (wd (vl (by_ st) q) 1 : Nat)) (.int .u64 (wd (vl (by_ st) q) 2 : Nat)) (.int .u64 (wd (vl (by_ st) q) 3 : Nat)) ∧ Box4 wr w.heap.size (.int .u64 0) (.int .u64 0) (.int .u64 0) (.int .u64 0) ∧ Below w.heap.size w wr ∧ Hid (vl (by_ st) q < 2 ^ 256)) (fun i _ => k - (intOf i).toNat)
            case atStart => exact ⟨0, Nat.zero_le _, rfl, A1, R2, B2, hide (Nat.pow_pos (by omega))⟩
            case round =>
              clear A1 R2 B2
              obtain ⟨q, hqk, rfl, A1, R1, B, hlow⟩ := hrel
              by_cases hlt : q < k
              · have t7 : (q : Int) < (k : Int) := by omega
                have t8 : (0 : Int) ≤ (q : Int) := by omega
                have hq := hby.out q (by omega)
                obtain ⟨g1, g2⟩ := hgood.out q hlt
                obtain ⟨dk, hdk⟩ : ∃ dk, dk = by_ st q - 48 := ⟨_, rfl⟩
                have hd2 : ((st[q].toNat : Nat) : Int) - 48 = (dk : Int) := by rw [hq]; omega
                have t9 : (48 : Int) ≤ ((st[q].toNat : Nat) : Int) := by rw [hq]; omega
                have t10 : ((st[q].toNat : Nat) : Int) ≤ 57 := by rw [hq]; omega
                have hd3 : (dk : Int) ≤ 9 := by omega
                have hw1 : IntKind.u8.wrap (dk : Int) = (dk : Int) := by rw [IntKind.wrap_u8]; omega
                have hw2 : IntKind.u64.wrap (dk : Int) = (dk : Int) := by rw [IntKind.wrap_u64]; omega
                have C := long_u (vl (by_ st) q) dk hlow.out (by omega)
                have hvn : vl (by_ st) q * 10 + dk = vl (by_ st) (q + 1) := by rw [hdk]; rfl
                rw [hvn] at C
                have HC : Hid (∀ W, Calls Try.prog 26 #[.agg #[.int .u64 (wd (vl (by_ st) q) 0 : Nat), .int .u64 (wd (vl (by_ st) q) 1 : Nat), .int .u64 (wd (vl (by_ st) q) 2 : Nat), .int .u64 (wd (vl (by_ st) q) 3 : Nat)], .int .u64 10, .int .u64 dk] W fun e w' => e = .returned (.tuple #[.agg #[.int .u64 (wd (vl (by_ st) (q + 1)) 0 : Nat), .int .u64 (wd (vl (by_ st) (q + 1)) 1 : Nat), .int .u64 (wd (vl (by_ st) (q + 1)) 2 : Nat), .int .u64 (wd (vl (by_ st) (q + 1)) 3 : Nat)], .bool (decide (vl (by_ st) (q + 1) < 2 ^ 256))]) ∧ Below W.heap.size W w') := hide C
                have HOV := hide (fun (h : ¬ vl (by_ st) (q + 1) < 2 ^ 256) => tx_over _ k (q + 1) HN0.out HF.out (by omega) h)
                have HD := hide (show decide (vl (by_ st) (q + 1) < 2 ^ 256) = decide (vl (by_ st) (q + 1) < 2 ^ 256) from rfl)
                have HNB := hide (show ∀ W, Box4 W nA (.int .u64 (wd (vl (by_ st) (q + 1)) 0 : Nat)) (.int .u64 (wd (vl (by_ st) (q + 1)) 1 : Nat)) (.int .u64 (wd (vl (by_ st) (q + 1)) 2 : Nat)) (.int .u64 (wd (vl (by_ st) (q + 1)) 3 : Nat)) → Box4 W nA (.int .u64 (wd (vl (by_ st) (q + 1)) 0 : Nat)) (.int .u64 (wd (vl (by_ st) (q + 1)) 1 : Nat)) (.int .u64 (wd (vl (by_ st) (q + 1)) 2 : Nat)) (.int .u64 (wd (vl (by_ st) (q + 1)) 3 : Nat)) from fun W h => h)
                obtain ⟨bb, hbb⟩ : ∃ bb, bb = decide (vl (by_ st) (q + 1) < 2 ^ 256) := ⟨_, rfl⟩
                rw [← hbb] at HC
                have HBB := hide hbb
                clear hq C hvn hlow HD hbb hdk g1 g2
                generalize wd (vl (by_ st) q) 0 = y0 at *
                generalize wd (vl (by_ st) q) 1 = y1 at *
                generalize wd (vl (by_ st) q) 2 = y2 at *
                generalize wd (vl (by_ st) q) 3 = y3 at *
                generalize hz0 : wd (vl (by_ st) (q + 1)) 0 = z0 at *
                generalize hz1 : wd (vl (by_ st) (q + 1)) 1 = z1 at *
                generalize hz2 : wd (vl (by_ st) (q + 1)) 2 = z2 at *
                generalize hz3 : wd (vl (by_ st) (q + 1)) 3 = z3 at *
                have HZ := hide (And.intro hz0 (And.intro hz1 (And.intro hz2 hz3)))
                clear hz0 hz1 hz2 hz3
                go_wp2_with fail
                go_cut [7, 8] (fun s7 s8 wx => ∃ n7 : Nat, s7 = .pointer (some ⟨n7, 0, none⟩) ∧ s8 = .bool bb ∧ Box4 wx n7 (.int .u64 z0) (.int .u64 z1) (.int .u64 z2) (.int .u64 z3) ∧ Box4 wx nA (.int .u64 y0) (.int .u64 y1) (.int .u64 y2) (.int .u64 y3) ∧ Box4 wx w.heap.size (.int .u64 0) (.int .u64 0) (.int .u64 0) (.int .u64 0) ∧ Below w.heap.size w wx ∧ nA < n7)
                case first =>
                  have hzW := R1.2.2.2.2.2.2.2.2
                  have haW := A1.2.2.2.2.2.2.2.2
                  go_region_held3 (fun v => Box4 v nA (.int .u64 y0) (.int .u64 y1) (.int .u64 y2) (.int .u64 y3)) (first | with_reducible exact A1 | with_reducible exact Box4.drew' A1 | with_reducible exact Box4.drew' (Box4.alloc _ A1) | with_reducible exact Box4.alloc _ A1 | with_reducible exact Box4.far4 A1 (by omega) | with_reducible exact Box4.far4 (Box4.alloc _ A1) (by omega) | with_reducible exact Box4.alloc _ (Box4.far4 A1 (by omega))) ((go_at_call 26; (with_reducible refine (HC.out _).mono ?_); rintro e w3 ⟨rfl, hb⟩; (first | (with_reducible have N := Box4.newd hb) | (with_reducible have N := Box4.new hb) | skip); replace A1 := Box4.call hb (by first | exact A1 | exact Box4.alloc _ A1 | exact Box4.drew' A1 | exact Box4.alloc _ (Box4.alloc _ A1)); replace R1 := Box4.call hb (by first | exact R1 | exact Box4.alloc _ R1 | exact Box4.drew' R1 | exact Box4.alloc _ (Box4.alloc _ R1)); replace B : Below w.heap.size w w3 := below_call (by (repeat (first | exact Below.refl _ _ | assumption | (refine Below.alloc ?_ (by first | omega | (simp; done) | (simp; omega)) _) | (refine Below.setCell ?_ (by first | omega | (simp; done) | (simp; omega)) _) | refine Below.drew ?_ | refine below_drewN ?_ _))) (Nat.le_refl _) hb; have hz0 := R1.2.2.2.2.2.2.2.2; have ha0 := A1.2.2.2.2.2.2.2.2; clear hb))
                  all_goals
                    have bz := B.size
                    clear HC
                    go_wp2_with fail
                    go_meet
                    refine ⟨_, rfl, rfl, ?_, ?_, ?_, ?_, ?_⟩
                    · exact (by (refine ⟨?_, ?_, ?_, ?_, ?_, ?_, ?_, ?_, ?_⟩ <;> simp [go_sem, *] <;> omega))
                    · first | with_reducible exact A1 | with_reducible exact Box4.drew' A1 | with_reducible exact Box4.drew' (Box4.alloc _ A1) | with_reducible exact Box4.alloc _ A1 | with_reducible exact Box4.far4 A1 (by omega) | with_reducible exact Box4.far4 (Box4.alloc _ A1) (by omega) | with_reducible exact Box4.alloc _ (Box4.far4 A1 (by omega))
                    · first | with_reducible exact R1 | with_reducible exact Box4.drew' R1 | with_reducible exact Box4.drew' (Box4.alloc _ R1) | with_reducible exact Box4.alloc _ R1 | with_reducible exact Box4.far4 R1 (by omega) | with_reducible exact Box4.far4 (Box4.alloc _ R1) (by omega) | with_reducible exact Box4.alloc _ (Box4.far4 R1 (by omega))
                    · (repeat (first | exact Below.refl _ _ | assumption | (refine Below.alloc ?_ (by first | omega | (simp; done) | (simp; omega)) _) | (refine Below.setCell ?_ (by first | omega | (simp; done) | (simp; omega)) _) | refine Below.drew ?_ | refine below_drewN ?_ _))
                    · omega
                case rest =>
                  obtain ⟨n7, rfl, rfl, N7, A1, R1, B, hn7⟩ := hcut
                  have bz := B.size
                  cases bb
                  · have HE := hide (HOV.out (of_decide_eq_false HBB.out.symm))
                    have R2 := Box4.put (.int .u64 0) (.int .u64 0) (.int .u64 0) (.int .u64 0) R1
                    clear HC HOV HBB HZ HNB
                    go_wp2_with fail
                    exact bodyPost_ret (v := .tuple #[.agg #[.int .u64 0, .int .u64 0, .int .u64 0, .int .u64 0], .int .i64 9]) (by simp [results, Try.results7, go_sem, R2]) rfl ⟨by rw [HE.out.1, HE.out.2, wdz, wdz, wdz, wdz]; rfl, by (repeat (first | exact Below.refl _ _ | assumption | (refine Below.alloc ?_ (by first | omega | (simp; done) | (simp; omega)) _) | (refine Below.setCell ?_ (by first | omega | (simp; done) | (simp; omega)) _) | refine Below.drew ?_ | refine below_drewN ?_ _))⟩
                  · have HL := hide (of_decide_eq_true HBB.out.symm)
                    have A2 := Box4.put (.int .u64 (z0 : Nat)) (.int .u64 (z1 : Nat)) (.int .u64 (z2 : Nat)) (.int .u64 (z3 : Nat)) A1
                    have R2 := Box4.far4 (b' := nA) (u0 := .int .u64 (z0 : Nat)) (u1 := .int .u64 (z1 : Nat)) (u2 := .int .u64 (z2 : Nat)) (u3 := .int .u64 (z3 : Nat)) R1 (by omega)
                    clear HC HOV HBB HNB
                    go_wp2_with fail
                    go_roundw
                    case rel => exact ⟨q + 1, by omega, by go_num, by rw [HZ.out.1, HZ.out.2.1, HZ.out.2.2.1, HZ.out.2.2.2]; exact A2, R2, by (repeat (first | exact Below.refl _ _ | assumption | (refine Below.alloc ?_ (by first | omega | (simp; done) | (simp; omega)) _) | (refine Below.setCell ?_ (by first | omega | (simp; done) | (simp; omega)) _) | refine Below.drew ?_ | refine below_drewN ?_ _)), hide HL.out⟩
                    case measure => simp [intOf]; omega
              · have hqk2 : q = k := by omega
                subst hqk2
                have HE := hide (tx_ok _ q HN0.out HF.out hlow.out)
                have R2 := Box4.put (.int .u64 (wd (vl (by_ st) q) 0 : Nat)) (.int .u64 (wd (vl (by_ st) q) 1 : Nat)) (.int .u64 (wd (vl (by_ st) q) 2 : Nat)) (.int .u64 (wd (vl (by_ st) q) 3 : Nat)) R1
                clear hlow
                go_wp2_with fail
                exact bodyPost_ret (v := .tuple #[.agg #[.int .u64 (wd (vl (by_ st) q) 0 : Nat), .int .u64 (wd (vl (by_ st) q) 1 : Nat), .int .u64 (wd (vl (by_ st) q) 2 : Nat), .int .u64 (wd (vl (by_ st) q) 3 : Nat)], .int .i64 0]) (by simp [results, Try.results7, go_sem, R2]) rfl ⟨by rw [HE.out.1, HE.out.2], by (repeat (first | exact Below.refl _ _ | assumption | (refine Below.alloc ?_ (by first | omega | (simp; done) | (simp; omega)) _) | (refine Below.setCell ?_ (by first | omega | (simp; done) | (simp; omega)) _) | refine Below.drew ?_ | refine below_drewN ?_ _))⟩
end Go.Proofs.Ytpfpdlgfngkdjaa
