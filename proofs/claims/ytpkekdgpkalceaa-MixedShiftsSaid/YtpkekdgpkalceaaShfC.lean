/-
  The law TabsShifts, walked. Conditions: slices no longer than the form lets them be.
-/
import Derived.Test.YtpkekdgpkalceaaShfB
namespace Go.Proofs.Ytpkekdgpkalceaa
open Go.RowKit
set_option linter.unusedVariables false

theorem shiftE_parts {n : Nat} {b : Int} {xs ys : List Nat} (h : shiftE n b xs ys = 0) : chk n 128 b = 0 ∧ targE b xs ys = 0 := by
  unfold shiftE at h
  split at h
  · exact ⟨by assumption, h⟩
  · exact absurd h (by assumption)
theorem goodR8 {n : Nat} {b : Int} {xs ys : List Nat} (hn : n = 128) (h : targE b xs ys = 0) : GoodR n (keyRows row8 xs) xs.length := by
  obtain ⟨h1, h2, h3, h4, h5⟩ := targ_parts h
  refine good_of ?_
  rw [rows8_E n xs.length xs h1 h2 rfl hn (fun i hi => (h4 i hi).1), h5]
  rfl
theorem wasV_range (b : Int) (words : List Nat) (f : Nat → List Int) (xs : List Nat) : wasV b words (keyRows f xs) = (List.range xs.length).map fun j => lowV (sumV words (f (xs.getD j 0))) b := by
  unfold wasV
  rw [len_keyRows]
  refine List.map_congr_left fun i hi => ?_
  rw [get_keyRows f xs i (List.mem_range.1 hi)]

set_option maxHeartbeats 8000000 in
theorem tshifts_law (A Ax Ay : Option Addr) (c cx cy n nx ny : Nat) (words xs ys : List Nat) (b : Int) (w : World) (hwd : Rs w A (us words)) (hx : Rs w Ax (us xs)) (hy : Rs w Ay (us ys))
    (hn : words.length = n) (hnx : xs.length = nx) (hny : ys.length = ny) (hl : n ≤ 17592186043904) (hl2 : nx ≤ 17592186043904) (hl3 : ny ≤ 17592186043904)
    (hw : ∀ x ∈ words, x < 18446744073709551616) (hxw : ∀ x ∈ xs, x < 18446744073709551616) (hyw : ∀ x ∈ ys, x < 18446744073709551616) :
    Calls Try.prog 5 #[.slice A n c, .int .i64 b, .slice Ax nx cx, .slice Ay ny cy] w fun e w' => e = .returned (.bool true) ∧ Below w.heap.size w w' := by
  have C0 := hide (awake_tabs w)
  have C1 := hide (fun (W : World) (h : Below w.heap.size w W) => shift_any A Ax Ay c cx cy n nx ny words xs ys b W ((Rd.below hwd h).more h.size) ((Rd.below hx h).more h.size) ((Rd.below hy h).more h.size) hn hnx hny hl hl2 hl3 hw hxw hyw)
  have C2 := hide (fun (W : World) => check_ref A n c b 128 W)
  have C3 := hide (fun (W : World) (h : Below w.heap.size w W) (h1 : 1 ≤ b) (h2 : b ≤ 64) => targets_ref Ax Ay cx cy nx ny xs ys b W ((Rd.below hx h).more h.size) ((Rd.below hy h).more h.size) hnx hny hl2 hl3 hxw hyw h1 h2)
  have HN := hide hn
  have HX := hide hnx
  have HY := hide hny
  have HW := hide hw
  have HXW := hide hxw
  have HYW := hide hyw
  clear hn hnx hny hw hxw hyw
  have hb0 := Below.refl w.heap.size w
  go_enter Try.func5, Try.ntmps5
  go_wp2_with fail
  refine C0.out.mono ?_
  rintro e w1 ⟨rfl, hb1⟩
  go_wp2_with fail
  refine (C1.out _ hb1).mono ?_
  intro e w2 hq
  obtain ⟨A1, n1, c1, rfl, hok, herr, hb2⟩ := hq
  have hb12 := below_call hb1 (Nat.le_refl _) hb2
  clear C0 C1 hb1 hb2
  by_cases hz : shiftE n b xs ys = 0
  · obtain ⟨rfl, hs1⟩ := hok hz
    obtain ⟨hc0, ht0⟩ := shiftE_parts hz
    obtain ⟨hb1, hb2, hn128⟩ := chk_zero hc0
    have HN128 := hide (show n1 = 128 by omega)
    have HT := hide ht0
    have HC := hide hc0
    have HZ := hide hz
    have G := hide (goodR8 HN128.out ht0)
    have HP := hide (targ_parts ht0)
    rw [hc0] at C2
    rw [hz]
    clear herr hok hz hc0 ht0 hn128
    go_wp2_with fail
    refine (C2.out _).mono ?_
    rintro e w3 ⟨rfl, rfl⟩
    go_wp2_with fail
    refine (C3.out _ hb12 hb1 hb2).mono ?_
    rintro e w3 ⟨rfl, hb3⟩
    rw [HT.out]
    have hb13 := below_call hb12 (Nat.le_refl _) hb3
    have hs3 := Rs.call hs1 hb3
    clear C2 C3 hs1 hb12 hb3
    have HOUT := hide (show (shiftV words b xs ys).length = n1 from by unfold shiftV; rw [len_aim]; exact HN.out)
    have HOW := hide (show ∀ x ∈ shiftV words b xs ys, x < 18446744073709551616 from aimV_lt _ _ _ HW.out (byV_lt _ _ _ _ HW.out HYW.out))
    have HHIT := hide (show ∀ k, k < nx → lowV (sumV (shiftV words b xs ys) (row8 (xs.getD k 0))) b = ys.getD k 0 from fun k hk => by
      have := shift_hits G.out b words ys HN.out k (by rw [len_keyRows, HX.out]; exact hk) ((HP.out.2.2.2.1 k (by rw [HX.out]; exact hk)).2)
      rw [get_keyRows row8 xs k (by rw [HX.out]; exact hk)] at this
      exact this)
    have HBACK := hide (show shiftV (shiftV words b xs ys) b xs (wasV b words (keyRows row8 xs)) = words from
      shift_back G.out b words ys HN.out (fun i hi => (HP.out.2.2.2.1 i (by rw [len_keyRows] at hi; exact hi)).2))
    have HTW := hide (show shiftE n1 b xs (wasV b words (keyRows row8 xs)) = 0 from by
      unfold shiftE
      rw [if_pos HC.out]
      exact targ_was HT.out (by rw [len_wasV, len_keyRows]) (fun i hi => wasV_low b words _ i (by rw [len_keyRows]; exact hi)))
    have HWL := hide (wasV_lt b words (keyRows row8 xs) HW.out)
    have HWN := hide (show (wasV b words (keyRows row8 xs)).length = nx from by rw [len_wasV, len_keyRows]; exact HX.out)
    obtain ⟨gf, hgf⟩ : ∃ gf : Nat → Nat, gf = fun j => lowV (sumV words (row8 (xs.getD j 0))) b := ⟨_, rfl⟩
    have HWR := hide (show wasV b words (keyRows row8 xs) = (List.range xs.length).map gf from by rw [hgf]; exact wasV_range b words row8 xs)
    have HGF := hide (show ∀ k, gf k = lowV (sumV words (row8 (xs.getD k 0))) b from fun k => by rw [hgf])
    clear hgf
    have t2 : (nx : Int) ≤ 3 := by have := HP.out.2.1; have := HX.out; omega
    have t3 : (nx : Int) = (ny : Int) := by have := HP.out.2.2.1; have := HX.out; have := HY.out; omega
    have t3' : nx = ny := by omega
    have H3 := hide t3'
    clear t3 t3'
    generalize shiftV words b xs ys = out at *
    generalize wasV b words (keyRows row8 xs) = was at *
    have hsz3 := hb13.size
    go_wp2_with fail
    go_loopw [12, 52] (fun v i wr => ∃ (k : Nat) (A2 : Option Addr) (c2 : Nat), k ≤ nx ∧ i = .int .i64 k ∧ v = .slice A2 k c2 ∧ Below w3.heap.size w3 wr ∧ wr.ownsRow w3.heap.size 30 1 (.slice A2 k c2) k (us ((List.range k).map gf))) (fun _ i _ => nx - (intOf i).toNat)
    case atStart => exact ⟨0, none, 0, Nat.zero_le _, rfl, rfl, Below.refl _ _, World.ownsRow_nil _ _ _ _⟩
    case round =>
      obtain ⟨k, A2, c2, hk, rfl, rfl, hbr, hown⟩ := hrel
      have hbwr := below_call hb13 (Nat.le_refl _) hbr
      by_cases hlt : k < nx
      · obtain ⟨b3, o3, rfl, hbl3, hc3⟩ := (Rd.below hx hbwr).u2 (k := k) (by rw [HX.out]; exact hlt)
        obtain ⟨b4, o4, rfl, hbl4, hc4⟩ := (Rd.below hy hbwr).u2 (k := k) (by have := H3.out; rw [HY.out]; omega)
        have hx1 := getD_lt xs HXW.out k
        have hx32 := (HP.out.2.2.2.1 k (by rw [HX.out]; exact hlt)).1
        have D1 := hide (fun (W : World) (h : Below w.heap.size w W) => eval_ref A c w.heap.size words b (xs.getD k 0) W (Rd.below hwd h) h.size (by rw [HN.out]; exact hl) HW.out hx1 n1 HN.out)
        have D2 := hide (fun (W : World) (h : Below w3.heap.size w3 W) => eval_ref A1 c1 w3.heap.size out b (xs.getD k 0) W (Rd.below hs3 h) h.size (by rw [HOUT.out]; exact hl) HOW.out hx1 n1 HOUT.out)
        have e1 : evalE words b (xs.getD k 0) = 0 := by unfold evalE; rw [HN.out, if_pos HC.out, if_pos hx32]
        have e2 : evalE out b (xs.getD k 0) = 0 := by unfold evalE; rw [HOUT.out, if_pos HC.out, if_pos hx32]
        have e3 : evalV words b (xs.getD k 0) = lowV (sumV words (row8 (xs.getD k 0))) b := by unfold evalV; rw [if_pos e1]; rfl
        have e4 : evalV out b (xs.getD k 0) = ys.getD k 0 := by unfold evalV; rw [if_pos e2]; exact HHIT.out k hlt
        rw [e1, e3] at D1
        rw [e2, e4] at D2
        have hnx2 : us ((List.range (k + 1)).map gf) = us ((List.range k).map gf) ++ [.int .u64 ((lowV (sumV words (row8 (xs.getD k 0))) b : Nat) : Int)] := by rw [List.range_succ, List.map_append, us_append, ← HGF.out k]; rfl
        have HNX := hide hnx2
        have t7 : (k : Int) < (ny : Int) := by have := H3.out; omega
        clear e1 e2 e3 e4 hx32 hnx2
        generalize lowV (sumV words (row8 (xs.getD k 0))) b = sv at *
        generalize xs.getD k 0 = x at *
        generalize ys.getD k 0 = y at *
        go_wp2_with fail
        refine (D1.out _ hbwr).mono ?_
        rintro e w5 ⟨rfl, hb5⟩
        replace hown := own_carry hown hb5
        replace hc4 := cell_call hb5 hc4
        replace hbr : Below w3.heap.size w3 w5 := below_call hbr (Nat.le_refl _) hb5
        have hsz5 := hbr.size
        clear hb5 hc3 hbwr
        go_wp2_with (at_builtin; refine wp_append1 rfl _ _ _ rfl w3.heap.size 30 _ (.int .u64 0) 8 Try.underlying22 Try.infoU64 rfl _ _ _ _ rfl hown _ rfl rfl (by omega) (by omega) hsz5 ?_)
        intro A5 c5 w6 hown6 hb6
        replace hc4 := (hb6.cell (p := ⟨b4, o4 + k, none⟩) (by show b4 < w3.heap.size; omega)).trans hc4
        replace hbr : Below w3.heap.size w3 w6 := hbr.trans hb6
        rw [← HNX.out] at hown6
        clear hb6 hown hsz5
        go_wp2_with fail
        refine (D2.out _ hbr).mono ?_
        rintro e w7 ⟨rfl, hb7⟩
        replace hown6 := own_carry hown6 hb7
        replace hc4 := cell_call hb7 hc4
        replace hbr : Below w3.heap.size w3 w7 := below_call hbr (Nat.le_refl _) hb7
        clear hb7
        go_wp2_with fail
        go_roundw
        case rel => exact ⟨k + 1, A5, c5, by omega, by go_num, rfl, hbr, hown6⟩
        case measure => simp [intOf]; omega
      · have hkm : k = nx := by omega
        subst hkm
        have hws := Rs.of_own hown
        have hwr := HWR.out
        rw [HX.out] at hwr
        rw [← hwr] at hws
        have C6 := hide (shift_any A1 Ax A2 c1 cx c2 n1 k k out xs was b wr ((Rd.below hs3 hbr).more hbr.size) ((Rd.below hx hbwr).more hbwr.size) hws HOUT.out HX.out HWN.out hl hl2 hl2 HOW.out HXW.out HWL.out)
        clear hws hwr hown
        go_wp2_with fail
        refine C6.out.mono ?_
        intro e w7 hq
        obtain ⟨A7, n7, c7, rfl, hok7, _, hb7⟩ := hq
        obtain ⟨rfl, hs7⟩ := hok7 HTW.out
        rw [HBACK.out] at hs7
        rw [HTW.out]
        have hb17 := below_call hbwr (Nat.le_refl _) hb7
        have C7 := hide (words_any A7 A c7 c w7.heap.size w.heap.size words words w7 hs7 (Rd.below hwd hb17) (by rw [HN.out]; exact hl) (by rw [HN.out]; exact hl) n7 HN.out n7 HN.out)
        clear hok7 C6
        go_wp2_with fail
        refine C7.out.mono ?_
        rintro e w8 ⟨rfl, hb8⟩
        have hb18 := below_call hb17 (Nat.le_refl _) hb8
        go_wp2_with fail
        go_ret
        exact ⟨ret_b (by simp), hb18⟩
  · have hn0 := herr hz
    subst hn0
    clear herr hok
    by_cases hc0 : chk n 128 b = 0
    · obtain ⟨hb1, hb2, hn128⟩ := chk_zero hc0
      have hE : shiftE n b xs ys = targE b xs ys := by unfold shiftE; rw [if_pos hc0]
      rw [hc0] at C2
      rw [hE] at hz ⊢
      have t5 : (targE b xs ys != 0) = true := by rw [bne_iff_ne]; exact hz
      clear hc0 hE hn128 hz
      generalize targE b xs ys = z at *
      go_wp2_with fail
      refine (C2.out _).mono ?_
      rintro e w3 ⟨rfl, rfl⟩
      go_wp2_with fail
      refine (C3.out _ hb12 hb1 hb2).mono ?_
      rintro e w3 ⟨rfl, hb3⟩
      have hb13 := below_call hb12 (Nat.le_refl _) hb3
      go_wp2_with fail
      go_ret
      exact ⟨ret_b (by simp), hb13⟩
    · have hE : shiftE n b xs ys = chk n 128 b := by unfold shiftE; rw [if_neg hc0]
      rw [hE]
      have t5 : (chk n 128 b != 0) = true := by rw [bne_iff_ne]; exact hc0
      have t6 : (chk n 128 b == 0) = false := by rw [beq_eq_false_iff_ne]; exact hc0
      clear hc0 hE hz
      generalize chk n 128 b = z at *
      go_wp2_with fail
      refine (C2.out _).mono ?_
      rintro e w3 ⟨rfl, rfl⟩
      go_wp2_with fail
      go_ret
      exact ⟨ret_b (by simp), hb12⟩
end Go.Proofs.Ytpkekdgpkalceaa
