/-
  Decimal digits: the plain words, a text of bytes, and the walk of wide.Text4. Conditions: the number has 256 bits.
-/
import Derived.Test.YtpfpdlgfngkdjaaTxtA
import Derived.Test.YtpfpdlgfngkdjaaTxtB
import Derived.Test.YtpfpdlgfngkdjaaEq4
import Derived.Test.YtpfpdlgfngkdjaaBoxB
import Derived.Laws.BytesString
import Derived.Laws.Cells
import Derived.OneCell
namespace Go.Proofs.Ytpfpdlgfngkdjaa
open Go.RowKit
set_option linter.unusedVariables false

/-- A text of bytes. -/
def bstr (zs : List Int) : ByteArray := ⟨(zs.map fun n => UInt8.ofNat n.toNat).toArray⟩
theorem bstr_push (zs : List Int) (n : Int) : (bstr zs).push (UInt8.ofNat n.toNat) = bstr (zs ++ [n]) := by
  simp [bstr, ByteArray.push]
theorem bstr_fold : ∀ (zs acc : List Int), zs.foldl (fun r n => r.push (UInt8.ofNat n.toNat)) (bstr acc) = bstr (acc ++ zs)
  | [], acc => by simp
  | z :: zs, acc => by
    rw [List.foldl_cons, bstr_push, bstr_fold zs]
    simp
theorem bstr_all (zs : List Int) : zs.foldl (fun r n => r.push (UInt8.ofNat n.toNat)) ByteArray.empty = bstr zs := by
  have h : ByteArray.empty = bstr [] := rfl
  rw [h, bstr_fold, List.nil_append]
theorem bstr_append (x y : List Int) : bstr x ++ bstr y = bstr (x ++ y) := by
  unfold bstr
  rw [ByteArray.mk_append_mk]
  simp
theorem bstr_size (zs : List Int) : (bstr zs).size = zs.length := by simp [bstr, ByteArray.size]
theorem conv_b (g n c : Nat) (zs : List Int) (w : World) (hn : zs.length = n) (h : ∀ j v, (bz zs)[j]? = some v → w.cell? ⟨g, j, none⟩ = some v) :
    (convert 50 9 (.slice (some ⟨g, 0, none⟩) n c)).run Try.prog w = .ok (.string (bstr zs)) w := by
  subst hn
  rw [run_convert_bytes_string w _ _ 5 _ _ _ Try.underlying50 Try.underlying5 Try.underlying9]
  have hl : (loadCells ⟨g, 0, none⟩ (bz zs).length).run Try.prog w = .ok (bz zs).toArray w := run_loadCells_list w _ _ (fun j v hj => by rw [Addr.add_lit, Nat.zero_add]; exact h j v hj)
  rw [len_bz] at hl
  rw [run_bytesToString w _ _ _ zs hl, bstr_all]

/-- The lowest k decimal digits, as bytes, the lowest first. -/
def dg (X k : Nat) : List Int := (List.range k).map fun i => ((48 + X / 10 ^ i % 10 : Nat) : Int)
theorem dg_succ (X k : Nat) : dg X (k + 1) = dg X k ++ [((48 + X / 10 ^ k % 10 : Nat) : Int)] := by simp [dg, List.range_succ]
theorem len_dg (X k : Nat) : (dg X k).length = k := by simp [dg]
/-- How many digits a number has. -/
structure Digs (X n : Nat) : Prop where
  pos : 1 ≤ n
  few : n ≤ 100
  zero : X / 10 ^ n = 0
  more : ∀ j, 1 ≤ j → j < n → X / 10 ^ j ≠ 0
theorem digs_ex (X : Nat) (hX : X < 2 ^ 256) : ∃ n, Digs X n := by
  have h78 : X / 10 ^ 78 = 0 := Nat.div_eq_of_lt (Nat.lt_trans hX (by decide))
  have : ∃ n, 1 ≤ n ∧ X / 10 ^ n = 0 ∧ n ≤ 78 := ⟨78, by omega, h78, Nat.le_refl _⟩
  obtain ⟨n, hn⟩ := this
  induction n using Nat.strongRecOn with
  | _ n ih =>
    by_cases h : ∃ j, 1 ≤ j ∧ j < n ∧ X / 10 ^ j = 0
    · obtain ⟨j, h1, h2, h3⟩ := h
      exact ih j h2 ⟨h1, h3, by omega⟩
    · exact ⟨n, hn.1, by omega, hn.2.1, fun j h1 h2 h3 => h ⟨j, h1, h2, h3⟩⟩
theorem div_next (X k : Nat) : X / 10 ^ k / 10 = X / 10 ^ (k + 1) := by rw [Nat.div_div_eq_div_mul, Nat.pow_succ]
theorem wd_none (Y : Nat) (hY : Y < 2 ^ 256) : (((wd Y 0 : Nat) : Int) == 0 && (((wd Y 1 : Nat) : Int) == 0 && (((wd Y 2 : Nat) : Int) == 0 && ((wd Y 3 : Nat) : Int) == 0))) = decide (Y = 0) := by
  have h0 := wmod_succ Y 0
  have h1 := wmod_succ Y 1
  have h2 := wmod_succ Y 2
  have h3 := wmod_succ Y 3
  rw [Nat.mod_eq_of_lt (show Y < 18446744073709551616 ^ (3 + 1) by exact hY)] at h3
  rw [Nat.pow_zero, Nat.mod_one] at h0
  rw [Bool.eq_iff_iff]
  simp only [Bool.and_eq_true, beq_iff_eq, decide_eq_true_eq]
  constructor
  · rintro ⟨a, b, c, d⟩
    have a' : wd Y 0 = 0 := by omega
    have b' : wd Y 1 = 0 := by omega
    have c' : wd Y 2 = 0 := by omega
    have d' : wd Y 3 = 0 := by omega
    rw [a'] at h0
    rw [b', Nat.mul_zero, Nat.add_zero] at h1
    rw [c', Nat.mul_zero, Nat.add_zero] at h2
    rw [d', Nat.mul_zero, Nat.add_zero] at h3
    rw [h3, h2, h1, h0]
  · intro h
    subst h
    simp [wd]
/-- A box of four words that holds a number. -/
abbrev BoxF (w : World) (b X : Nat) : Prop := Box4 w b (.int .u64 (wd X 0 : Nat)) (.int .u64 (wd X 1 : Nat)) (.int .u64 (wd X 2 : Nat)) (.int .u64 (wd X 3 : Nat))
theorem Box4.low {w w1 : World} {base b : Nat} {v0 v1 v2 v3 : Value} (h : Box4 w b v0 v1 v2 v3) (hb : Below base w w1) (hlt : b < base) : Box4 w1 b v0 v1 v2 v3 := by
  obtain ⟨a0, a1, a2, a3, f0, f1, f2, f3, l⟩ := h
  have hc : ∀ o, w1.cell? ⟨b, o, none⟩ = w.cell? ⟨b, o, none⟩ := fun o => hb.cell (p := ⟨b, o, none⟩) hlt
  have hf : ∀ o, w1.frozen? ⟨b, o, none⟩ = w.frozen? ⟨b, o, none⟩ := fun o => hb.frozen (p := ⟨b, o, none⟩) hlt
  exact ⟨(hc 0).trans a0, (hc 1).trans a1, (hc 2).trans a2, (hc 3).trans a3, (hf 0).trans f0, (hf 1).trans f1, (hf 2).trans f2, (hf 3).trans f3, Nat.lt_of_lt_of_le l hb.size⟩
theorem own_off {w : World} {base b o n : Nat} {e : TypeId} {v u : Value} {xs : List Value} (h : w.ownsRow base e 1 v n xs) (hlt : b < base) : (w.setCell ⟨b, o, none⟩ u).ownsRow base e 1 v n xs :=
  ownsRow_setCell_other h (fun he => by have := (h.lt b he).1; omega) u
theorem Try.infoU8 : (Try.prog.info? 5).map (fun i => (i.zero, i.size, i.bytes)) = some (some (.int .u8 0), 1, 1) := by kernel_rfl

set_option maxHeartbeats 8000000 in
theorem text4_u (X n : Nat) (hX : X < 2 ^ 256) (D : Digs X n) (w : World) :
    Calls Try.prog 6 #[.agg #[.int .u64 (wd (X) 0 : Nat), .int .u64 (wd (X) 1 : Nat), .int .u64 (wd (X) 2 : Nat), .int .u64 (wd (X) 3 : Nat)]] w fun e w' => e = .returned (.string (bstr (dg X n).reverse)) ∧ Below w.heap.size w w' := by
  have HD := hide D
  have hn1 := D.pos
  have hn100 := D.few
  have HXk := hide (show ∀ k, X / 10 ^ k < 2 ^ 256 from fun k => Nat.lt_of_le_of_lt (Nat.div_le_self _ _) hX)
  obtain ⟨W1, hW1⟩ : ∃ W1, W1 = w.alloc (.cells #[.int .u64 (wd X 0 : Nat), .int .u64 (wd X 1 : Nat), .int .u64 (wd X 2 : Nat), .int .u64 (wd X 3 : Nat)] 24) := ⟨_, rfl⟩
  have X0 : BoxF W1 w.heap.size X := by rw [hW1]; refine ⟨?_, ?_, ?_, ?_, ?_, ?_, ?_, ?_, ?_⟩ <;> simp [go_sem]
  have hbW : Below w.heap.size w W1 := by rw [hW1]; exact (Below.refl _ _).alloc (Nat.le_refl _) _
  clear D hX
  go_enter Try.func6, Try.ntmps6
  go_wp2_with fail
  rw [← hW1]
  clear hW1
  go_loopg [3] n (fun m v wr => ∃ (k c : Nat) (A : Option Addr), m = n - k ∧ k ≤ n ∧ v = .slice A k c ∧ BoxF wr w.heap.size (X / 10 ^ k) ∧ wr.ownsRow (w.heap.size + 1) 5 1 (.slice A k c) k (bz (dg X k)) ∧ Below w.heap.size w wr)
  case atStart => exact ⟨0, 0, none, by omega, Nat.zero_le _, rfl, by rw [Nat.pow_zero, Nat.div_one]; exact X0, World.ownsRow_nil _ _ _ _, hbW⟩
  case round =>
    clear X0 hbW
    obtain ⟨k, c, A, hm, hk, rfl, X1, hown, hbel⟩ := hrel
    have hq : ∀ (bb : Bool), decide (X / 10 ^ k = 0) = bb → ∀ W, (Op.equalIn 10000 24 (.agg #[.int .u64 (wd (X / 10 ^ k) 0 : Nat), .int .u64 (wd (X / 10 ^ k) 1 : Nat), .int .u64 (wd (X / 10 ^ k) 2 : Nat), .int .u64 (wd (X / 10 ^ k) 3 : Nat)]) (.agg #[.int .u64 0, .int .u64 0, .int .u64 0, .int .u64 0])).run Try.prog W = .ok bb W := fun bb h W => by
      rw [eq4, wd_none (X / 10 ^ k) (HXk.out k), h]
    have HQ := hide hq
    clear hq
    by_cases hgo : k < n
    · have C := hide (fun W => short_u (X / 10 ^ k) 10 (HXk.out k) (by omega) (by omega) W)
      rw [div_next] at C
      have hdec : (k = 0 ∨ decide (X / 10 ^ k = 0) = false) := by
        by_cases h0 : k = 0
        · exact .inl h0
        · exact .inr (decide_eq_false (HD.out.more k (by omega) hgo))
      have hsz : w.heap.size + 1 ≤ wr.heap.size := X1.2.2.2.2.2.2.2.2
      have hd10 : X / 10 ^ k % 10 < 10 := Nat.mod_lt _ (by omega)
      have HDS := hide (dg_succ X k)
      replace X1 : Box4 wr w.heap.size (.int .u64 (wd (X / 10 ^ k) 0 : Nat)) (.int .u64 (wd (X / 10 ^ k) 1 : Nat)) (.int .u64 (wd (X / 10 ^ k) 2 : Nat)) (.int .u64 (wd (X / 10 ^ k) 3 : Nat)) := X1
      have hqq : k = 0 ∧ (∃ bb, ∀ W, (Op.equalIn 10000 24 (.agg #[.int .u64 (wd (X / 10 ^ k) 0 : Nat), .int .u64 (wd (X / 10 ^ k) 1 : Nat), .int .u64 (wd (X / 10 ^ k) 2 : Nat), .int .u64 (wd (X / 10 ^ k) 3 : Nat)]) (.agg #[.int .u64 0, .int .u64 0, .int .u64 0, .int .u64 0])).run Try.prog W = .ok bb W) ∨ ∀ W, (Op.equalIn 10000 24 (.agg #[.int .u64 (wd (X / 10 ^ k) 0 : Nat), .int .u64 (wd (X / 10 ^ k) 1 : Nat), .int .u64 (wd (X / 10 ^ k) 2 : Nat), .int .u64 (wd (X / 10 ^ k) 3 : Nat)]) (.agg #[.int .u64 0, .int .u64 0, .int .u64 0, .int .u64 0])).run Try.prog W = .ok false W := by
        rcases hdec with h | h
        · exact .inl ⟨h, _, HQ.out _ rfl⟩
        · exact .inr (HQ.out _ h)
      have HX2 := hide (show ∀ W, Box4 W w.heap.size (.int .u64 (wd (X / 10 ^ (k + 1)) 0 : Nat)) (.int .u64 (wd (X / 10 ^ (k + 1)) 1 : Nat)) (.int .u64 (wd (X / 10 ^ (k + 1)) 2 : Nat)) (.int .u64 (wd (X / 10 ^ (k + 1)) 3 : Nat)) → BoxF W w.heap.size (X / 10 ^ (k + 1)) from fun W h => h)
      clear HQ hdec
      generalize X / 10 ^ k % 10 = dk at *
      generalize wd (X / 10 ^ k) 0 = y0 at *
      generalize wd (X / 10 ^ k) 1 = y1 at *
      generalize wd (X / 10 ^ k) 2 = y2 at *
      generalize wd (X / 10 ^ k) 3 = y3 at *
      generalize wd (X / 10 ^ (k + 1)) 0 = z0 at *
      generalize wd (X / 10 ^ (k + 1)) 1 = z1 at *
      generalize wd (X / 10 ^ (k + 1)) 2 = z2 at *
      generalize wd (X / 10 ^ (k + 1)) 3 = z3 at *
      have hk100 : k < 100 := by omega
      rcases hqq with ⟨rfl, bb, hq⟩ | hq
      · cases bb
        all_goals
          go_wp2_with fail
          refine (C.out _).mono ?_
          rintro e w1 ⟨rfl, hb⟩
          replace X1 := Box4.call hb X1
          replace hown := own_carry hown hb
          replace hbel : Below w.heap.size w w1 := below_call hbel (Nat.le_refl _) hb
          have hsz1 : w.heap.size + 1 ≤ w1.heap.size := X1.2.2.2.2.2.2.2.2
          have X2 := Box4.put (.int .u64 (z0 : Nat)) (.int .u64 (z1 : Nat)) (.int .u64 (z2 : Nat)) (.int .u64 (z3 : Nat)) X1
          have own2 := own_off (o := 3) (u := .int .u64 (z3 : Nat)) (own_off (o := 2) (u := .int .u64 (z2 : Nat)) (own_off (o := 1) (u := .int .u64 (z1 : Nat)) (own_off (o := 0) (u := .int .u64 (z0 : Nat)) hown (Nat.lt_succ_self _)) (Nat.lt_succ_self _)) (Nat.lt_succ_self _)) (Nat.lt_succ_self w.heap.size)
          have hbel2 : Below w.heap.size w ((((w1.setCell ⟨w.heap.size, 0, none⟩ (.int .u64 (z0 : Nat))).setCell ⟨w.heap.size, 1, none⟩ (.int .u64 (z1 : Nat))).setCell ⟨w.heap.size, 2, none⟩ (.int .u64 (z2 : Nat))).setCell ⟨w.heap.size, 3, none⟩ (.int .u64 (z3 : Nat))) :=
            (((hbel.setCell (Nat.le_refl _) _).setCell (Nat.le_refl _) _).setCell (Nat.le_refl _) _).setCell (Nat.le_refl _) _
          have hszE : ((((w1.setCell ⟨w.heap.size, 0, none⟩ (.int .u64 (z0 : Nat))).setCell ⟨w.heap.size, 1, none⟩ (.int .u64 (z1 : Nat))).setCell ⟨w.heap.size, 2, none⟩ (.int .u64 (z2 : Nat))).setCell ⟨w.heap.size, 3, none⟩ (.int .u64 (z3 : Nat))).heap.size = w1.heap.size := by simp [World.setCell]
          clear hb hown hbel hq
          go_wp2_with (at_builtin; refine wp_append1 rfl _ _ _ rfl (w.heap.size + 1) 5 _ (.int .u8 0) 1 Try.underlying50 Try.infoU8 rfl _ _ _ _ rfl own2 _ (by rw [hszE]; rfl) rfl (by omega) (by omega) (by rw [hszE]; exact hsz1) ?_)
          intro A5 c5 w6 hown6 hb6
          replace X2 := Box4.low X2 hb6 (Nat.lt_succ_self _)
          replace hbel2 : Below w.heap.size w w6 := hbel2.trans (hb6.mono (Nat.le_succ _))
          go_wp2_with fail
          go_roundg (n - (0 + 1))
          case measure => omega
          case rel => exact ⟨0 + 1, c5, A5, by omega, by omega, rfl, HX2.out _ X2, by rw [HDS.out]; simpa [bz] using hown6, hbel2⟩
      · go_wp2_with fail
        refine (C.out _).mono ?_
        rintro e w1 ⟨rfl, hb⟩
        replace X1 := Box4.call hb X1
        replace hown := own_carry hown hb
        replace hbel : Below w.heap.size w w1 := below_call hbel (Nat.le_refl _) hb
        have hsz1 : w.heap.size + 1 ≤ w1.heap.size := X1.2.2.2.2.2.2.2.2
        have X2 := Box4.put (.int .u64 (z0 : Nat)) (.int .u64 (z1 : Nat)) (.int .u64 (z2 : Nat)) (.int .u64 (z3 : Nat)) X1
        have own2 := own_off (o := 3) (u := .int .u64 (z3 : Nat)) (own_off (o := 2) (u := .int .u64 (z2 : Nat)) (own_off (o := 1) (u := .int .u64 (z1 : Nat)) (own_off (o := 0) (u := .int .u64 (z0 : Nat)) hown (Nat.lt_succ_self _)) (Nat.lt_succ_self _)) (Nat.lt_succ_self _)) (Nat.lt_succ_self w.heap.size)
        have hbel2 : Below w.heap.size w ((((w1.setCell ⟨w.heap.size, 0, none⟩ (.int .u64 (z0 : Nat))).setCell ⟨w.heap.size, 1, none⟩ (.int .u64 (z1 : Nat))).setCell ⟨w.heap.size, 2, none⟩ (.int .u64 (z2 : Nat))).setCell ⟨w.heap.size, 3, none⟩ (.int .u64 (z3 : Nat))) :=
          (((hbel.setCell (Nat.le_refl _) _).setCell (Nat.le_refl _) _).setCell (Nat.le_refl _) _).setCell (Nat.le_refl _) _
        have hszE : ((((w1.setCell ⟨w.heap.size, 0, none⟩ (.int .u64 (z0 : Nat))).setCell ⟨w.heap.size, 1, none⟩ (.int .u64 (z1 : Nat))).setCell ⟨w.heap.size, 2, none⟩ (.int .u64 (z2 : Nat))).setCell ⟨w.heap.size, 3, none⟩ (.int .u64 (z3 : Nat))).heap.size = w1.heap.size := by simp [World.setCell]
        clear hb hown hbel hq
        go_wp2_with (at_builtin; refine wp_append1 rfl _ _ _ rfl (w.heap.size + 1) 5 _ (.int .u8 0) 1 Try.underlying50 Try.infoU8 rfl _ _ _ _ rfl own2 _ (by rw [hszE]; rfl) rfl (by omega) (by omega) (by rw [hszE]; exact hsz1) ?_)
        intro A5 c5 w6 hown6 hb6
        replace X2 := Box4.low X2 hb6 (Nat.lt_succ_self _)
        replace hbel2 : Below w.heap.size w w6 := hbel2.trans (hb6.mono (Nat.le_succ _))
        go_wp2_with fail
        go_roundg (n - (k + 1))
        case measure => omega
        case rel => exact ⟨k + 1, c5, A5, by omega, by omega, rfl, HX2.out _ X2, by rw [HDS.out]; simpa [bz] using hown6, hbel2⟩
    · have hkn : k = n := by omega
      subst hkn
      have hq := HQ.out true (decide_eq_true HD.out.zero)
      clear HQ
      have t1 : ((k : Int) == 0) = false := by rw [beq_eq_false_iff_ne]; omega
      replace X1 : Box4 wr w.heap.size (.int .u64 (wd (X / 10 ^ k) 0 : Nat)) (.int .u64 (wd (X / 10 ^ k) 1 : Nat)) (.int .u64 (wd (X / 10 ^ k) 2 : Nat)) (.int .u64 (wd (X / 10 ^ k) 3 : Nat)) := X1
      generalize wd (X / 10 ^ k) 0 = y0 at *
      generalize wd (X / 10 ^ k) 1 = y1 at *
      generalize wd (X / 10 ^ k) 2 = y2 at *
      generalize wd (X / 10 ^ k) 3 = y3 at *
      obtain ⟨g, hA, hg1, hg2⟩ : ∃ g, A = some ⟨g, 0, none⟩ ∧ w.heap.size + 1 ≤ g ∧ g < wr.heap.size := by
        rcases hown.2 with ⟨_, h0⟩ | ⟨g, cap, cur, hv, hb, hh, _⟩
        · omega
        · have : A = some ⟨g, 0, none⟩ := by injection hv
          exact ⟨g, this, hb, (Array.getElem?_eq_some_iff.1 hh).1⟩
      subst hA
      have C := hide (reverse_b g c k (w.heap.size + 1) (dg X k).toArray wr (by simp [len_dg]) hn1 (by omega) hg1 (by simpa using hown))
      have hlr : (dg X k).reverse.length = k := by rw [List.length_reverse, len_dg]
      go_wp2_with fail
      refine C.out.mono ?_
      rintro e w1 ⟨rfl, hown1, hb1⟩
      have hconv := conv_b g k c (dg X k).reverse w1 hlr (fun j v hj => by
        have := hown1.cells (g := g) rfl j v hj
        rwa [Addr.add_lit, Nat.zero_add] at this)
      have hb2 : Below w.heap.size w w1 := hbel.trans (hb1.mono (Nat.le_succ _))
      clear C hown1 hb1 hown
      go_wp2_with fail
      go_ret
      exact ⟨rfl, hb2⟩
end Go.Proofs.Ytpfpdlgfngkdjaa
