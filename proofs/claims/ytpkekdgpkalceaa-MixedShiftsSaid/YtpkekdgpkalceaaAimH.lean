/-
  The laws of tabs.Aim, walked: TabsAims, TabsAlone. Conditions: slices no longer than the form lets them be.
-/
import Derived.Test.YtpkekdgpkalceaaAimG
import Derived.Test.YtpkekdgpkalceaaTabsD
namespace Go.Proofs.Ytpkekdgpkalceaa
open Go.RowKit
set_option linter.unusedVariables false

theorem getD_get (xs : List Nat) (k : Nat) (h : k < xs.length) : xs[k] = xs.getD k 0 := by simp [List.getD, h]
theorem Rd.u2 {w : World} {B : Nat} {A : Option Addr} {xs : List Nat} (h : Rd w B A (us xs)) {k : Nat} (hk : k < xs.length) :
    ∃ b o, A = some ⟨b, o, none⟩ ∧ b < B ∧ w.cell? ⟨b, o + k, none⟩ = some (.int .u64 ((xs.getD k 0 : Nat) : Int)) := by
  obtain ⟨b, o, e, hb, hc⟩ := h.u hk
  exact ⟨b, o, e, hb, by rw [hc, getD_get]⟩

set_option maxHeartbeats 8000000 in
theorem aims_law (A Ar Ab : Option Addr) (c cr cb n nr nb : Nat) (words by_ : List Nat) (rows : List (List Int)) (w : World) (hwd : Rs w A (us words)) (hro : RdR w w.heap.size Ar rows) (hby : Rs w Ab (us by_))
    (hn : words.length = n) (hnr : rows.length = nr) (hnb : by_.length = nb) (hl : n ≤ 17592186043904) (hl2 : nr ≤ 17592186043904) (hl3 : nb ≤ 17592186043904) (hcr : nr ≤ cr)
    (hll : ∀ j, j < rows.length → (rows.getD j []).length ≤ 17592186043904) (hw : ∀ x ∈ words, x < 18446744073709551616) (hb : ∀ x ∈ by_, x < 18446744073709551616) :
    Calls Try.prog 3 #[.slice A n c, .slice Ar nr cr, .slice Ab nb cb] w fun e w' => e = .returned (.bool true) ∧ Below w.heap.size w w' := by
  have C0 := hide (awake_tabs w)
  have C1 := hide (fun (W : World) (h : Below w.heap.size w W) => aim_any A Ar Ab c cr cb n nr nb words by_ rows W ((Rd.below hwd h).more h.size) ((hro.below h).more h.size) ((Rd.below hby h).more h.size) hn hnr hnb hl hl2 hl3 hcr hll hw hb)
  have C2 := hide (fun (W : World) (h : Below w.heap.size w W) => rows_ref A Ar c cr n nr nb rows W ((hro.below h).more h.size) hnr hl hl2 hl3 hll)
  have C3 := hide (fun (A1 : Option Addr) (c1 : Nat) (W : World) (h : Below w.heap.size w W) (h1 : Rs W A1 (us (aimV words rows by_))) => aim_any A1 Ar Ab c1 cr cb n nr nb (aimV words rows by_) by_ rows W h1 ((hro.below h).more h.size) ((Rd.below hby h).more h.size) (by rw [len_aim]; exact hn) hnr hnb hl hl2 hl3 hcr hll (aimV_lt _ _ _ hw hb) hb)
  have C4 := hide (fun (A1 : Option Addr) (c1 : Nat) (W : World) (h : Below w.heap.size w W) (h1 : Rs W A1 (us words)) => words_any A1 A c1 c W.heap.size W.heap.size words words W h1 ((Rd.below hwd h).more h.size) (by omega) (by omega) n hn n hn)
  have C5 := hide (fun (A1 : Option Addr) (c1 : Nat) (Ak : Option Addr) (ck k : Nat) (hk : k < rows.length) (g : GoodR n rows nb) (W : World) (h1 : Rs W A1 (us (aimV words rows by_))) (h2 : Rd W w.heap.size Ak (is (rows.getD k []))) => sum_ref A1 Ak c1 ck W.heap.size w.heap.size (aimV words rows by_) (rows.getD k []) W h1 h2 (by rw [len_aim]; omega) (aimV_lt _ _ _ hw hb) (by rw [len_aim, hn]; exact (fits_zero (g.fits k hk)).1) (fits_zero (g.fits k hk)).2 n (by rw [len_aim]; exact hn) _ rfl)
  have C6 := hide (fun (Ak : Option Addr) (ck k : Nat) (hk : k < rows.length) (g : GoodR n rows nb) (W : World) (h1 : Below w.heap.size w W) (h2 : Rd W w.heap.size Ak (is (rows.getD k []))) => sum_ref A Ak c ck w.heap.size w.heap.size words (rows.getD k []) W (Rd.below hwd h1) h2 (by omega) hw (by rw [hn]; exact (fits_zero (g.fits k hk)).1) (fits_zero (g.fits k hk)).2 n hn _ rfl)
  have HS := hide (fun (g : GoodR n rows nb) k (hk : k < rows.length) => (aim_sum g words by_ hn hnb k hk).symm)
  have HBK := hide (aim_back words rows by_)
  have HNR := hide hnr
  have HNB := hide hnb
  have HW := hide hw
  have HB := hide hb
  have hb0 := Below.refl w.heap.size w
  clear hll hw hb hn hnr hnb
  by_cases hbig : 400 < n
  · have t0 : (400 : Int) < (n : Int) := by omega
    go_enter Try.func3, Try.ntmps3
    go_wp2_with fail
    refine C0.out.mono ?_
    rintro e w1 ⟨rfl, hb1⟩
    go_wp2_with fail
    go_ret
    exact ⟨rfl, hb1⟩
  · have t0 : (n : Int) ≤ 400 := by omega
    go_enter Try.func3, Try.ntmps3
    go_wp2_with fail
    refine C0.out.mono ?_
    rintro e w1 ⟨rfl, hb1⟩
    go_wp2_with fail
    refine (C1.out _ hb1).mono ?_
    intro e w2 hq
    obtain ⟨A1, n1, c1, rfl, hok, herr, hb2⟩ := hq
    have hb12 := below_call hb1 (Nat.le_refl _) hb2
    clear C0 C1 hb1
    by_cases hz : rowsE n rows nb = 0
    · obtain ⟨rfl, hs1⟩ := hok hz
      clear herr hok
      have G := hide (good_of hz)
      have HZ := hide hz
      rw [hz]
      clear hz
      go_wp2_with fail
      refine (C2.out _ hb12).mono ?_
      rintro e w3 ⟨rfl, hb3⟩
      have hb13 := below_call hb12 (Nat.le_refl _) hb3
      have hs3 := Rs.call hs1 hb3
      rw [HZ.out]
      clear C2 hs1 hb12
      go_wp2_with fail
      go_loopw [52] (fun i wr => ∃ k : Nat, k ≤ nr ∧ i = .int .i64 k ∧ Below w.heap.size w wr ∧ Rs wr A1 (us (aimV words rows by_))) (fun i _ => nr - (intOf i).toNat)
      case atStart => exact ⟨0, Nat.zero_le _, rfl, hb13, hs3⟩
      case round =>
        clear hs3 hb13
        obtain ⟨k, hk, rfl, hbr, hsr⟩ := hrel
        by_cases hlt : k < nr
        · have hkr : k < rows.length := by rw [HNR.out]; exact hlt
          have hror := hro.below hbr
          obtain ⟨b3, o3, A3, c3, rfl, hbl3, hc3, hr3⟩ := hror.at_ hkr
          obtain ⟨b4, o4, rfl, hbl4, hc4⟩ := (Rd.below hby hbr).u2 (k := k) (by have := G.out.num; have := HNB.out; omega)
          have D1 := hide (C5.out A1 c1 A3 c3 k hkr G.out wr.drew hsr hr3)
          have D2 := hide (C6.out A3 c3 k hkr G.out wr.drew hbr.drew hr3)
          have hx := HS.out G.out k hkr
          have h1 := sumV_lt words (rows.getD k []) HW.out
          have h2 := getD_lt by_ HB.out k
          have hx2 := u64_xor_nat _ _ h1 h2
          rw [hx] at hx2
          have t6 : (0 : Int) ≤ (k : Int) := by omega
          have t7 : (k : Int) < (nb : Int) := by have := G.out.num; have := HNR.out; omega
          clear hr3 hror hx
          generalize sumV (aimV words rows by_) (rows.getD k []) = s1 at *
          generalize sumV words (rows.getD k []) = s0 at *
          generalize by_.getD k 0 = bk at *
          generalize (rows.getD k []).length = lk at *
          go_wp2_with fail
          go_region_held3 (fun v => v.cell? ⟨b4, o4 + k, none⟩ = some (.int .u64 (bk : Nat))) (exact hc4) (first | (go_at_call 11; (with_reducible refine (D1.out).mono ?_); rintro e w5 ⟨rfl, rfl⟩) | (go_at_call 11; (with_reducible refine (D2.out).mono ?_); rintro e w5 ⟨rfl, rfl⟩))
          go_wp2_with fail
          go_roundw
          case rel => exact ⟨k + 1, by omega, by go_num, hbr.drew, hsr⟩
          case measure => simp [intOf]; omega
        · have hkn : k = nr := by omega
          subst hkn
          go_wp2_with fail
          refine (C3.out A1 c1 _ hbr hsr).mono ?_
          intro e w6 hq
          obtain ⟨A6, n6, c6, rfl, hok, _, hb6⟩ := hq
          obtain ⟨rfl, hs6⟩ := hok HZ.out
          rw [HBK.out] at hs6
          have hb16 := below_call hbr (Nat.le_refl _) hb6
          rw [HZ.out]
          clear hok
          go_wp2_with fail
          refine (C4.out A6 c6 _ hb16 hs6).mono ?_
          rintro e w7 ⟨rfl, hb7⟩
          have hb17 := below_call hb16 (Nat.le_refl _) hb7
          go_wp2_with fail
          go_ret
          exact ⟨ret_b (by simp), hb17⟩
    · have hn0 := herr hz
      subst hn0
      have e0 : (rowsE n rows nb != 0) = true := by rw [bne_iff_ne]; exact hz
      clear herr hok hz
      generalize rowsE n rows nb = z at *
      go_wp2_with fail
      refine (C2.out _ hb12).mono ?_
      rintro e w3 ⟨rfl, hb3⟩
      have hb13 := below_call hb12 (Nat.le_refl _) hb3
      go_wp2_with fail
      go_ret
      exact ⟨ret_b (by simp), hb13⟩

set_option maxHeartbeats 8000000 in
theorem alone_law (A Am Ar Ab : Option Addr) (c cm cr cb n nm nr nb : Nat) (words more by_ : List Nat) (rows : List (List Int)) (w : World) (hwd : Rs w A (us words)) (hmd : Rs w Am (us more)) (hro : RdR w w.heap.size Ar rows) (hby : Rs w Ab (us by_))
    (hn : words.length = n) (hnm : more.length = nm) (hnr : rows.length = nr) (hnb : by_.length = nb) (hl : n ≤ 17592186043904) (hlm : nm ≤ 17592186043904) (hl2 : nr ≤ 17592186043904) (hl3 : nb ≤ 17592186043904) (hcr : nr ≤ cr)
    (hll : ∀ j, j < rows.length → (rows.getD j []).length ≤ 17592186043904) (hw : ∀ x ∈ words, x < 18446744073709551616) (hm : ∀ x ∈ more, x < 18446744073709551616) (hb : ∀ x ∈ by_, x < 18446744073709551616) :
    Calls Try.prog 4 #[.slice A n c, .slice Am nm cm, .slice Ar nr cr, .slice Ab nb cb] w fun e w' => e = .returned (.bool true) ∧ Below w.heap.size w w' := by
  have C0 := hide (awake_tabs w)
  have C1 := hide (fun (W : World) (h : Below w.heap.size w W) => aim_any A Ar Ab c cr cb n nr nb words by_ rows W ((Rd.below hwd h).more h.size) ((hro.below h).more h.size) ((Rd.below hby h).more h.size) hn hnr hnb hl hl2 hl3 hcr hll hw hb)
  have C2 := hide (fun (W : World) (h : Below w.heap.size w W) => aim_any Am Ar Ab cm cr cb nm nr nb more by_ rows W ((Rd.below hmd h).more h.size) ((hro.below h).more h.size) ((Rd.below hby h).more h.size) hnm hnr hnb hlm hl2 hl3 hcr hll hm hb)
  have HA := hide (fun q (hq : q < n) (hq' : q < nm) => aim_alone words more rows by_ q (by omega) (by omega))
  have HL1 := hide (show (aimV words rows by_).length = n from by rw [len_aim]; exact hn)
  have HL2 := hide (show (aimV more rows by_).length = nm from by rw [len_aim]; exact hnm)
  have HV1 := hide (aimV_lt words rows by_ hw hb)
  have HV2 := hide (aimV_lt more rows by_ hm hb)
  have HN := hide hn
  have HNM := hide hnm
  have HW := hide hw
  have HM := hide hm
  have hb0 := Below.refl w.heap.size w
  clear hll hw hb hn hnr hnb hm hnm
  by_cases hbig : 400 < n ∨ nm ≠ n
  · have t0 : (400 : Int) < (n : Int) ∨ ((n : Int) ≤ 400 ∧ ((nm : Int) != (n : Int)) = true) := by
      by_cases h : 400 < n
      · exact .inl (by omega)
      · exact .inr ⟨by omega, by rw [bne_iff_ne]; omega⟩
    clear hbig
    rcases t0 with t0 | ⟨t0, t1⟩
    · go_enter Try.func4, Try.ntmps4
      go_wp2_with fail
      refine C0.out.mono ?_
      rintro e w1 ⟨rfl, hb1⟩
      go_wp2_with fail
      go_ret
      exact ⟨rfl, hb1⟩
    · go_enter Try.func4, Try.ntmps4
      go_wp2_with fail
      refine C0.out.mono ?_
      rintro e w1 ⟨rfl, hb1⟩
      go_wp2_with fail
      go_ret
      exact ⟨rfl, hb1⟩
  · have t0 : (n : Int) ≤ 400 := by omega
    have hnm : nm = n := by omega
    subst hnm
    clear hbig
    go_enter Try.func4, Try.ntmps4
    go_wp2_with fail
    refine C0.out.mono ?_
    rintro e w1 ⟨rfl, hb1⟩
    go_wp2_with fail
    refine (C1.out _ hb1).mono ?_
    intro e w2 hq
    obtain ⟨A1, n1, c1, rfl, hok, herr, hb2⟩ := hq
    have hb12 := below_call hb1 (Nat.le_refl _) hb2
    go_wp2_with fail
    refine (C2.out _ hb12).mono ?_
    intro e w3 hq
    obtain ⟨A2, n2, c2, rfl, hok2, herr2, hb3⟩ := hq
    have hb13 := below_call hb12 (Nat.le_refl _) hb3
    clear C0 C1 C2 hb1 hb12
    by_cases hz : rowsE nm rows nb = 0
    · obtain ⟨e1, hs1⟩ := hok hz
      obtain ⟨e2, hs2⟩ := hok2 hz
      have hs1 := Rs.call hs1 hb3
      subst e1
      subst e2
      clear herr hok herr2 hok2 hb2 hb3
      rw [hz]
      clear hz
      go_wp2_with fail
      go_loopw [63] (fun i wr => ∃ k : Nat, k ≤ n2 ∧ i = .int .i64 k ∧ Below w.heap.size w wr ∧ Rs wr A1 (us (aimV words rows by_)) ∧ Rs wr A2 (us (aimV more rows by_))) (fun i _ => n2 - (intOf i).toNat)
      case atStart => exact ⟨0, Nat.zero_le _, rfl, hb13, hs1, hs2⟩
      case round =>
        clear hs1 hs2 hb13
        obtain ⟨k, hk, rfl, hbr, hsr, hsr2⟩ := hrel
        by_cases hlt : k < n2
        · obtain ⟨b3, o3, e3, hbl3, hc3⟩ := Rd.u2 (k := k) hsr (by rw [HL1.out]; exact hlt)
          obtain ⟨b4, o4, e4, hbl4, hc4⟩ := Rd.u2 (k := k) hsr2 (by rw [HL2.out]; exact hlt)
          obtain ⟨b5, o5, e5, hbl5, hc5⟩ := (Rd.below hwd hbr).u2 (k := k) (by rw [HN.out]; exact hlt)
          obtain ⟨b6, o6, e6, hbl6, hc6⟩ := (Rd.below hmd hbr).u2 (k := k) (by rw [HNM.out]; exact hlt)
          subst e3 e4 e5 e6
          have hx := HA.out k hlt hlt
          have x1 := u64_xor_nat _ _ (getD_lt (aimV words rows by_) HV1.out k) (getD_lt words HW.out k)
          have x2 := u64_xor_nat _ _ (getD_lt (aimV more rows by_) HV2.out k) (getD_lt more HM.out k)
          rw [hx] at x1
          have t6 : (0 : Int) ≤ (k : Int) := by omega
          have t7 : (k : Int) < (n2 : Int) := by omega
          clear hx
          generalize (aimV more rows by_).getD k 0 ^^^ more.getD k 0 = d at *
          generalize (aimV words rows by_).getD k 0 = v1 at *
          generalize (aimV more rows by_).getD k 0 = v2 at *
          generalize words.getD k 0 = v3 at *
          generalize more.getD k 0 = v4 at *
          go_wp2_with fail
          go_quiet (fail)
          go_wp2_with fail
          go_roundw
          case rel => exact ⟨k + 1, by omega, by go_num, below_drewN hbr _, hsr.drewN _, hsr2.drewN _⟩
          case measure => simp [intOf]; omega
        · go_wp2_with fail
          go_ret
          exact ⟨rfl, hbr⟩
    · have e1 := herr hz
      have e2 := herr2 hz
      subst e1 e2
      have e0 : (rowsE nm rows nb == 0) = false := by rw [beq_eq_false_iff_ne]; exact hz
      clear herr hok hz herr2 hok2
      generalize rowsE nm rows nb = z at *
      go_wp2_with fail
      refine wp_loop_rounds 1 ?_
      rw [rounds_succ]
      go_wp2_with fail
      go_ret
      exact ⟨rfl, hb13⟩
end Go.Proofs.Ytpkekdgpkalceaa
