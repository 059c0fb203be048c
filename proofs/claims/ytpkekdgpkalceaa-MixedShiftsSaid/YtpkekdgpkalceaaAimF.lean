/-
  Walk of tabs.Aim. Conditions: slices no longer than the form lets them be.
-/
import Derived.Test.YtpkekdgpkalceaaAimE
namespace Go.Proofs.Ytpkekdgpkalceaa
open Go.RowKit
set_option linter.unusedVariables false

theorem RdR.at2 {w : World} {B b o : Nat} {rows : List (List Int)} (h : RdR w B (some ⟨b, o, none⟩) rows) {k : Nat} (hk : k < rows.length) : ∃ A' c, w.cell? ⟨b, o + k, none⟩ = some (.slice A' (rows.getD k []).length c) ∧ Rd w B A' (is (rows.getD k [])) := by
  obtain ⟨b', o', A', c, e, _, h1, h2⟩ := h.at_ hk
  injection e with e
  injection e with e1 e2
  subst e1 e2
  exact ⟨A', c, h1, h2⟩
/-- What Aim hands back. -/
def RetAim (w : World) (n : Nat) (words : List Nat) (rows : List (List Int)) (by_ : List Nat) (nb : Nat) (e : Ending) (w' : World) : Prop :=
  ∃ A' n' c', e = .returned (.tuple #[.slice A' n' c', .int .i64 (rowsE n rows nb)]) ∧ (rowsE n rows nb = 0 → n' = n ∧ Rs w' A' (us (aimV words rows by_))) ∧ (rowsE n rows nb ≠ 0 → n' = 0) ∧ Below w.heap.size w w'
theorem RetAim.err {w w' : World} {n nb : Nat} {words by_ : List Nat} {rows : List (List Int)} (z : Int) (hz : rowsE n rows nb = z) (h0 : z ≠ 0) (hb : Below w.heap.size w w') : RetAim w n words rows by_ nb (.returned (.tuple #[.slice none 0 0, .int .i64 z])) w' := by
  subst hz
  exact ⟨none, 0, 0, rfl, fun h => absurd h h0, fun _ => rfl, hb⟩
theorem RetAim.ok {w w' : World} {n nb : Nat} {words by_ : List Nat} {rows : List (List Int)} {A' : Option Addr} {c' : Nat} (hz : rowsE n rows nb = 0) (hs : Rs w' A' (us (aimV words rows by_))) (hb : Below w.heap.size w w') : RetAim w n words rows by_ nb (.returned (.tuple #[.slice A' n c', .int .i64 0])) w' := by
  exact ⟨A', n, c', by rw [hz], fun _ => ⟨rfl, hs⟩, fun h => absurd hz h, hb⟩

set_option maxHeartbeats 8000000 in
theorem aim_any (A Ar Ab : Option Addr) (c cr cb n nr nb : Nat) (words by_ : List Nat) (rows : List (List Int)) (w : World) (hwd : Rs w A (us words)) (hro : RdR w w.heap.size Ar rows) (hby : Rs w Ab (us by_))
    (hn : words.length = n) (hnr : rows.length = nr) (hnb : by_.length = nb) (hl : n ≤ 17592186043904) (hl2 : nr ≤ 17592186043904) (hl3 : nb ≤ 17592186043904) (hcr : nr ≤ cr)
    (hll : ∀ j, j < rows.length → (rows.getD j []).length ≤ 17592186043904) (hw : ∀ x ∈ words, x < 18446744073709551616) (hb : ∀ x ∈ by_, x < 18446744073709551616) :
    Calls Try.prog 9 #[.slice A n c, .slice Ar nr cr, .slice Ab nb cb] w (RetAim w n words rows by_ nb) := by
  have HLL := hide hll
  have HW := hide hw
  have HB := hide hb
  have HN := hide hn
  have HNR := hide hnr
  have HNB := hide hnb
  clear hll hw hb hn hnr hnb
  have hb0 := Below.refl w.heap.size w
  by_cases hbad : nr < 1 ∨ 3 < nr ∨ nr ≠ nb
  · have hE := hide (show rowsE n rows nb = 1 from by unfold rowsE; rw [if_pos (by rw [HNR.out]; omega)])
    have h3 : (nr : Int) < 1 ∨ ((1 : Int) ≤ (nr : Int) ∧ (3 : Int) < (nr : Int)) ∨ ((1 : Int) ≤ (nr : Int) ∧ (nr : Int) ≤ 3 ∧ (nr : Int) ≠ (nb : Int)) := by omega
    clear hbad
    rcases h3 with t1 | ⟨t1, t2⟩ | ⟨t1, t2, t3⟩
    · go_enter Try.func9, Try.ntmps9
      go_wp2_with fail
      go_ret2
      exact RetAim.err 1 hE.out (by omega) (by (repeat (first | exact Below.refl _ _ | assumption | (refine Below.alloc ?_ (by first | omega | (simp; done) | (simp; omega)) _) | (refine Below.setCell ?_ (by first | omega | (simp; done) | (simp; omega)) _) | refine Below.drew ?_ | refine below_drewN ?_ _)))
    · go_enter Try.func9, Try.ntmps9
      go_wp2_with fail
      go_ret2
      exact RetAim.err 1 hE.out (by omega) (by (repeat (first | exact Below.refl _ _ | assumption | (refine Below.alloc ?_ (by first | omega | (simp; done) | (simp; omega)) _) | (refine Below.setCell ?_ (by first | omega | (simp; done) | (simp; omega)) _) | refine Below.drew ?_ | refine below_drewN ?_ _)))
    · have t4 : ((nr : Int) != (nb : Int)) = true := by rw [bne_iff_ne]; exact t3
      clear t3
      go_enter Try.func9, Try.ntmps9
      go_wp2_with fail
      go_ret2
      exact RetAim.err 1 hE.out (by omega) (by (repeat (first | exact Below.refl _ _ | assumption | (refine Below.alloc ?_ (by first | omega | (simp; done) | (simp; omega)) _) | (refine Below.setCell ?_ (by first | omega | (simp; done) | (simp; omega)) _) | refine Below.drew ?_ | refine below_drewN ?_ _)))
  · have hnb : nb = nr := by omega
    have t1 : (1 : Int) ≤ (nr : Int) := by omega
    have t2 : (nr : Int) ≤ 3 := by omega
    subst hnb
    have hA : ¬ (rows.length < 1 ∨ 3 < rows.length ∨ rows.length ≠ nb) := by rw [HNR.out]; omega
    have HA := hide hA
    clear hbad hA
    obtain ⟨b, o, A0, c0, rfl, hbl, hc0, hr0⟩ := hro.at_ (k := 0) (by rw [HNR.out]; omega)
    rw [Nat.add_zero] at hc0
    have kw0 := fun ob => cell_alloc ob hc0
    by_cases hz : (rows.getD 0 []).length < 1
    · have hE := hide (show rowsE n rows nb = 1 from by unfold rowsE; rw [if_pos (by omega)])
      have t3 : (((rows.getD 0 []).length : Nat) : Int) < 1 := by omega
      clear hz hr0
      generalize (rows.getD 0 []).length = r0 at *
      go_enter Try.func9, Try.ntmps9
      go_wp2_with fail
      go_ret2
      exact RetAim.err 1 hE.out (by omega) (by (repeat (first | exact Below.refl _ _ | assumption | (refine Below.alloc ?_ (by first | omega | (simp; done) | (simp; omega)) _) | (refine Below.setCell ?_ (by first | omega | (simp; done) | (simp; omega)) _) | refine Below.drew ?_ | refine below_drewN ?_ _)))
    · have t3 : (1 : Int) ≤ (((rows.getD 0 []).length : Nat) : Int) := by omega
      have HZ := hide hz
      obtain ⟨W1, hW1⟩ : ∃ W1, W1 = w.alloc (.cells #[.slice (some ⟨b, o, none⟩) nb cr] 23) := ⟨_, rfl⟩
      have box1 : W1.cell? ⟨w.heap.size, 0, none⟩ = some (.slice (some ⟨b, o, none⟩) nb cr) := by rw [hW1]; simp [go_sem]
      have hbW : Below w.heap.size w W1 := by rw [hW1]; exact (Below.refl _ _).alloc (Nat.le_refl _) _
      have hgW : w.heap.size < W1.heap.size := by rw [hW1]; simp
      have hc1 : W1.cell? ⟨b, o, none⟩ = some (.slice A0 (rows.getD 0 []).length c0) := cell_call hbW hc0
      have hro1 := hro.below hbW
      have C1 := hide (contains_len (some ⟨b, o, none⟩) cr w.heap.size nb w.heap.size rows (fun r => !(r.length == (rows.getD 0 []).length)) W1 hro1 (by omega) (by rw [HNR.out]; omega) HNR.out
        (fun j hj A' c' W hbq hrq => len1_any A' none c' cr w.heap.size nb (rows.getD j []).length (rows.getD 0 []).length b o c0 A0 W (cell_call hbq box1) (by omega) (cell_call hbq hc1)))
      have HC := hide (show rows.any (fun r => !(r.length == (rows.getD 0 []).length)) = true → rowsE n rows nb = 1 from fun h => by unfold rowsE; rw [if_neg (by have := HA.out; omega), if_pos h])
      have HD := hide (show rows.any (fun r => !(r.length == (rows.getD 0 []).length)) = false → rowsE n rows nb = (if fitsAll n rows = 0 then (if sameV rows then 15 else 0) else fitsAll n rows) from fun h => by unfold rowsE; rw [if_neg (by have := HA.out; omega), if_neg (by rw [h]; simp)])
      clear hz hr0 hc0 HA
      generalize rows.any (fun r => !(r.length == (rows.getD 0 []).length)) = anyB at *
      generalize (rows.getD 0 []).length = r0 at *
      go_enter Try.func9, Try.ntmps9
      go_wp2_with fail
      rw [← hW1]
      clear hW1 kw0
      refine C1.out.mono ?_
      rintro e w2 ⟨rfl, hb2⟩
      have hbW2 : Below w.heap.size w w2 := below_call hbW (Nat.le_refl _) hb2
      have box2 := cell_call hb2 box1
      have hgW2 : w.heap.size < w2.heap.size := Nat.lt_of_lt_of_le hgW hb2.size
      clear C1 box1 hc1 hro1
      cases hany : anyB
      · have HE1 := hide (HD.out hany)
        subst hany
        clear HC HD
        go_wp2_with fail
        skip
        have hro2 := hro.below hbW2
        have hwd2 := Rd.below hwd hbW2
        have hby2 := Rd.below hby hbW2
        go_loop [47] (fun i => ∃ k : Nat, k ≤ nb ∧ i = .int .i64 k ∧ Hid (∀ j, j < k → fitsV n (rows.getD j []) = 0)) (fun i => nb - (intOf i).toNat)
        case atStart => exact ⟨0, Nat.zero_le _, rfl, hide fun j h => absurd h (by omega)⟩
        case round =>
          obtain ⟨k, hk, rfl, hall⟩ := hrel
          by_cases hlt : k < nb
          · obtain ⟨A3, c3, hc3, hr3⟩ := hro2.at2 (k := k) (by rw [HNR.out]; exact hlt)
            have C := hide (fun (hh : (rows.getD k []).length ≤ 17592186043904) => fits_tabs A A3 n c c3 w.heap.size (rows.getD k []) w2 hr3 hh hl _ rfl)
            have hlk := HLL.out k (by rw [HNR.out]; exact hlt)
            have HY := hide (show fitsV n (rows.getD k []) ≠ 0 → rowsE n rows nb = fitsV n (rows.getD k []) from fun h => by
              have := fitsAll_hit n rows k (by rw [HNR.out]; exact hlt) hall.out h
              rw [HE1.out, this, if_neg h])
            have HNo := hide (show fitsV n (rows.getD k []) = 0 → ∀ j, j < k + 1 → fitsV n (rows.getD j []) = 0 from fun h j hj => by
              by_cases e : j = k
              · subst e; exact h
              · exact hall.out j (by omega))
            clear hr3
            generalize rows.getD k [] = rk at *
            generalize fitsV n rk = z at *
            go_wp2_with fail
            refine (C.out hlk).mono ?_
            rintro e w3 ⟨rfl, rfl⟩
            by_cases hz0 : z = 0
            · have t5 : (z != 0) = false := by rw [hz0]; rfl
              have HZ0 := hide hz0
              clear hz0
              go_wp2_with fail
              go_round
              case rel => exact ⟨k + 1, by omega, by go_num, hide (HNo.out HZ0.out)⟩
              case measure => simp [intOf]; omega
            · have t5 : (z != 0) = true := by rw [bne_iff_ne]; exact hz0
              have HZ0 := hide hz0
              clear hz0
              go_wp2_with fail
              go_ret2
              exact RetAim.err z (HY.out HZ0.out) HZ0.out hbW2
          · have hkb : k = nb := by omega
            subst hkb
            have HE2 := hide (show rowsE n rows k = (if sameV rows then 15 else 0) from by
              rw [HE1.out, if_pos (fitsAll_ok n rows (by rw [HNR.out]; exact hall.out))])
            clear HE1 hall hlt
            have C2 := hide (same_any (some ⟨b, o, none⟩) cr w.heap.size k rows w2 hro2 (by omega) (by rw [HNR.out]; omega) HNR.out hcr HLL.out)
            go_wp2_with fail
            refine C2.out.mono ?_
            rintro e w3 ⟨rfl, hb3⟩
            have hbW3 : Below w.heap.size w w3 := below_call hbW2 (Nat.le_refl _) hb3
            have box3 := cell_call hb3 box2
            have hgW3 : w.heap.size < w3.heap.size := Nat.lt_of_lt_of_le hgW2 hb3.size
            clear C2 box2 hro2
            cases hsame : sameV rows
            · have HE3 := hide (show rowsE n rows k = 0 from by rw [HE2.out, hsame]; rfl)
              have G := hide (good_of HE3.out)
              clear HE2 hsame
              have hn1 : 1 ≤ n := by
                have hg0 := (fits_zero (G.out.fits 0 (by rw [HNR.out]; omega))).1
                have := G.out.long
                omega
              have C3 := hide (clone_any A c n words w3 ((Rd.below hwd hbW3).more hbW3.size) HN.out hn1 hl)
              go_wp2_with fail
              refine C3.out.mono ?_
              rintro e w4 ⟨g1, c1, rfl, ho1, hb4⟩
              have hbW4 : Below w.heap.size w w4 := below_call hbW3 (Nat.le_refl _) hb4
              have box4 := cell_call hb4 box3
              have hg1 := ho1.lt g1 rfl
              have C4 := hide (clone_any Ab cb k by_ w4 ((Rd.below hby hbW4).more hbW4.size) HNB.out (by omega) hl3)
              clear C3 box3
              go_wp2_with fail
              refine C4.out.mono ?_
              rintro e w5 ⟨g2, c2, rfl, ho2, hb5⟩
              have hbW5 : Below w.heap.size w w5 := below_call hbW4 (Nat.le_refl _) hb5
              have hg2 := ho2.lt g2 rfl
              have S0 : AS w w5 w.heap.size g1 g2 (.slice (some ⟨b, o, none⟩) k cr) n c1 (aimW words rows by_ 0) k c2 (aimL rows by_ 0) := ⟨cell_call hb5 box4, own_lower (own_carry ho1 hb5) (by omega), own_lower ho2 (Nat.le_trans (by omega) hb4.size), hbW5⟩
              have n01 : w.heap.size ≠ g1 := by omega
              have n02 : w.heap.size ≠ g2 := by have := hb4.size; omega
              have n12 : g1 ≠ g2 := by omega
              have hg5 : g1 < w5.heap.size ∧ g2 < w5.heap.size := ⟨by have := hb5.size; omega, hg2.2⟩
              clear C4 box4 ho1 ho2 hg1 hg2 hbW5 hb5 hbW4 hb4 hbW3 hb3
              have hbx := S0.box
              go_wp2_with fail
              generalize hm : k = m at *
              clear hm
              go_loopw [66] (fun i wr => ∃ k : Nat, k ≤ m ∧ i = .int .i64 k ∧ AS w wr w.heap.size g1 g2 (.slice (some ⟨b, o, none⟩) m cr) n c1 (aimW words rows by_ k) m c2 (aimL rows by_ k)) (fun i _ => m - (intOf i).toNat)
              case atStart => exact ⟨0, Nat.zero_le _, rfl, S0⟩
              case round =>
                clear hbx S0
                obtain ⟨k, hk, rfl, S⟩ := hrel
                by_cases hlt : k < m
                · have hltr : k < rows.length := by rw [HNR.out]; exact hlt
                  have hror := hro.below S.bel
                  obtain ⟨A3, c3, hc3, hr3⟩ := hror.at2 hltr
                  have hbx := S.box
                  have hsz := S.bel.size
                  have hw1 := (S.o1.lt g1 rfl).2
                  have hw2 := (S.o2.lt g2 rfl).2
                  have C := hide (only_any A3 (some ⟨b, o, none⟩) c3 cr w.heap.size n m k rows G.out wr hltr hr3 hror S.bel.size HLL.out (by rw [HNR.out]; exact hcr))
                  obtain ⟨hodd, hevn, hlim, hes⟩ := some_odd G.out k hltr
                  have HLIM := hide hlim
                  clear hodd hevn hlim hr3
                  have HRK := HLL.out k hltr
                  obtain ⟨es, hesd⟩ : ∃ es, es = someV rows k := ⟨_, rfl⟩
                  rw [← hesd] at C HLIM hes
                  have HW1 : Hid (aimW words rows by_ (k + 1) = togTo (aimW words rows by_ k) es ((aimL rows by_ k).getD k 0) es.length) := by rw [hesd]; exact hide rfl
                  have HL1 : Hid (aimL rows by_ (k + 1) = leftTo rows es ((aimL rows by_ k).getD k 0) (aimL rows by_ k) m) := by rw [hesd, ← HNR.out]; exact hide rfl
                  have hd64 := getD_lt _ (aimL_lt rows by_ HB.out k) k
                  have HDW := hide (aimW_lt words rows by_ HW.out HB.out k)
                  have HDL := hide (aimL_lt rows by_ HB.out k)
                  have HLW := hide (show (aimW words rows by_ k).length = n from by rw [len_aimW]; exact HN.out)
                  have HLLn := hide (show (aimL rows by_ k).length = m from by rw [len_aimL]; exact HNB.out)
                  clear hesd
                  have hx2 := S.cell2 k hlt
                  generalize (rows.getD k []).length = rk at *
                  go_wp2_with fail
                  refine C.out.mono ?_
                  intro e w6 hq
                  obtain ⟨A9, c9, rfl, hs9, hb9, hf9⟩ := hq
                  have S1 := S.call hb9
                  obtain ⟨g3, o3, rfl, SC⟩ := SomeC.of hs9 (by omega)
                  have hg3 := hf9 g3 o3 rfl
                  have n31 : g3 ≠ g1 := by omega
                  have n32 : g3 ≠ g2 := by omega
                  have hx2' := cell_call hb9 hx2
                  have hle : (ns es).length = es.length := len_ns es
                  have HLE := hide hle
                  have hes2 : es.length ≤ 2 := by omega
                  clear C hs9 hf9 hc3 hbx S hx2 hror hle hes hw1 hw2 hsz
                  generalize (aimL rows by_ k).getD k 0 = d at *
                  generalize aimW words rows by_ k = Wk at *
                  generalize aimL rows by_ k = Lk at *
                  go_wp2_with fail
                  rw [HLE.out]
                  go_loopw [82] (fun i wr => ∃ j : Nat, j ≤ es.length ∧ i = .int .i64 j ∧ AS w wr w.heap.size g1 g2 (.slice (some ⟨b, o, none⟩) m cr) n c1 (togTo Wk es d j) m c2 Lk ∧ SomeC wr g3 o3 es) (fun i _ => es.length - (intOf i).toNat)
                  case atStart => exact ⟨0, Nat.zero_le _, rfl, S1, SC⟩
                  case round =>
                    clear S1 SC hx2'
                    obtain ⟨j, hj, rfl, S2, SC2⟩ := hrel
                    by_cases hjl : j < es.length
                    · have hec := SC2 j hjl
                      have hev : es.getD j 0 < n := HLIM.out _ (by simp [List.getD, hjl])
                      have hxc := S2.cell1 (es.getD j 0) hev
                      have hfz := S2.o1.frozenAt (es.getD j 0)
                      have hxl := getD_lt _ (tog_lt Wk es d HDW.out hd64 j) (es.getD j 0)
                      have S3 := S2.put1 n01 n12 (es.getD j 0) ((togTo Wk es d j).getD (es.getD j 0) 0 ^^^ d)
                      have SC3 := SC2.put g1 (es.getD j 0) (.int .u64 (((togTo Wk es d j).getD (es.getD j 0) 0 ^^^ d : Nat) : Int)) n31
                      have hnext : (togTo Wk es d j).set (es.getD j 0) ((togTo Wk es d j).getD (es.getD j 0) 0 ^^^ d) = togTo Wk es d (j + 1) := rfl
                      rw [hnext] at S3
                      have hx := u64_xor_nat _ _ hxl hd64
                      rw [← hx] at S3 SC3
                      clear S2 SC2 hnext hx
                      generalize (togTo Wk es d j).getD (es.getD j 0) 0 = x at *
                      generalize es.getD j 0 = ev at *
                      go_wp2_with fail
                      go_roundw
                      case rel => exact ⟨j + 1, by omega, by go_num, S3, SC3⟩
                      case measure => simp [intOf]; omega
                    · have hje : j = es.length := by omega
                      subst hje
                      rw [← HW1.out] at S2
                      have hbx := S2.box
                      go_wp2_with fail
                      go_loopw [96] (fun i wr => ∃ j : Nat, j ≤ m ∧ i = .int .i64 j ∧ AS w wr w.heap.size g1 g2 (.slice (some ⟨b, o, none⟩) m cr) n c1 (aimW words rows by_ (k + 1)) m c2 (leftTo rows es d Lk j) ∧ SomeC wr g3 o3 es) (fun i _ => m - (intOf i).toNat)
                      case atStart => exact ⟨0, Nat.zero_le _, rfl, S2, SC2⟩
                      case round =>
                        clear S2 SC2 hbx
                        obtain ⟨j, hj, rfl, S4, SC4⟩ := hrel
                        by_cases hjl : j < m
                        · have hjr : j < rows.length := by rw [HNR.out]; exact hjl
                          have hror := hro.below S4.bel
                          obtain ⟨A5, c5, hc5, hr5⟩ := hror.at2 hjr
                          have hbx := S4.box
                          have C := hide (odd_any A5 (some ⟨g3, o3, none⟩) c5 c9 w.heap.size wr.heap.size (rows.getD j []) es wr hr5 SC4.rd S4.bel.size (Nat.le_refl _) (HLL.out j hjr) (by omega) (fits_zero (G.out.fits j hjr)).2 (fun e he => by have := HLIM.out e he; omega) _ rfl _ rfl)
                          have hnext : leftTo rows es d Lk (j + 1) = if oddV (rows.getD j []) es then (leftTo rows es d Lk j).set j ((leftTo rows es d Lk j).getD j 0 ^^^ d) else leftTo rows es d Lk j := rfl
                          have HNX := hide hnext
                          clear hnext hr5 hror
                          generalize oddV (rows.getD j []) es = yes at *
                          generalize (rows.getD j []).length = rj at *
                          go_wp2_with fail
                          refine C.out.mono ?_
                          rintro e w7 ⟨rfl, hb7⟩
                          have S5 := S4.call hb7
                          have SC5 := SC4.call hb7
                          clear S4 SC4 hc5 hbx C
                          cases yes
                          · have HN2 := HNX.out
                            rw [if_neg (by simp)] at HN2
                            have HN3 := hide HN2
                            clear HN2
                            go_wp2_with fail
                            go_roundw
                            case rel => exact ⟨j + 1, by omega, by go_num, by rw [HN3.out]; exact S5, SC5⟩
                            case measure => simp [intOf]; omega
                          · have HN2 := HNX.out
                            rw [if_pos rfl] at HN2
                            have hxc := S5.cell2 j hjl
                            have hfz := S5.o2.frozenAt j
                            have hxl := getD_lt _ (left_lt rows es d Lk HDL.out hd64 j) j
                            have S6 := S5.put2 n02 n12 j ((leftTo rows es d Lk j).getD j 0 ^^^ d)
                            have SC6 := SC5.put g2 j (.int .u64 (((leftTo rows es d Lk j).getD j 0 ^^^ d : Nat) : Int)) n32
                            rw [← HN2] at S6
                            have hx := u64_xor_nat _ _ hxl hd64
                            rw [← hx] at S6 SC6
                            clear S5 SC5 HN2 hx HNX
                            generalize (leftTo rows es d Lk j).getD j 0 = x at *
                            go_wp2_with fail
                            go_roundw
                            case rel => exact ⟨j + 1, by omega, by go_num, S6, SC6⟩
                            case measure => simp [intOf]; omega
                        · have hjm : j = m := by omega
                          subst hjm
                          rw [← HL1.out] at S4
                          go_wp2_with fail
                          go_roundw
                          case rel => exact ⟨k + 1, by omega, by go_num, S4⟩
                          case measure => simp [intOf]; omega
                · have hkm : k = m := by omega
                  subst hkm
                  go_wp2_with fail
                  go_ret2
                  exact RetAim.ok (A' := some ⟨g1, 0, none⟩) HE3.out (by have := Rs.of_own S.o1; unfold aimV; rw [HNR.out]; exact this) S.bel
            · have HE3 := hide (show rowsE n rows k = 15 from by rw [HE2.out, hsame]; rfl)
              go_wp2_with fail
              go_ret2
              exact RetAim.err 15 HE3.out (by omega) hbW3
      · have hE := hide (HC.out hany)
        subst hany
        go_wp2_with fail
        go_ret2
        exact RetAim.err 1 hE.out (by omega) hbW2
end Go.Proofs.Ytpkekdgpkalceaa
