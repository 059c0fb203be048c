/-
  The law MixedShifts, walked. Conditions: slices no longer than the form lets them be, and no longer than their capacity.
-/
import Derived.Test.YtpkekdgpkalceaaShfX
import Derived.Deep.RegionHeld3
namespace Go.Proofs.Ytpkekdgpkalceaa
open Go.RowKit
set_option linter.unusedVariables false

theorem len_mshV' (words : List Nat) (b : Int) (xs ys : List Nat) (hn : words.length = 320) : (mshV words b xs ys).length = 320 := len_msh words b xs ys hn
theorem mshV_lt' (words : List Nat) (b : Int) (xs ys : List Nat) (hw : ∀ x ∈ words, x < 18446744073709551616) (hy : ∀ x ∈ ys, x < 18446744073709551616) : ∀ x ∈ mshV words b xs ys, x < 18446744073709551616 := msh_lt words b xs ys hw hy
theorem mshV_drop' (words : List Nat) (b : Int) (xs ys : List Nat) (hn : words.length = 320) : (mshV words b xs ys).drop 192 = words.drop 192 := msh_drop words b xs ys hn
theorem msh_parts {n : Nat} {b : Int} {xs ys : List Nat} (h : mshE n b xs ys = 0) : chk n 320 b = 0 ∧ targE b xs ys = 0 := by
  unfold mshE at h
  split at h
  · exact ⟨by assumption, h⟩
  · exact absurd h (by assumption)
theorem wasM_lt (words : List Nat) (b : Int) (xs : List Nat) (hw : ∀ x ∈ words, x < 18446744073709551616) : ∀ x ∈ wasM words b xs, x < 18446744073709551616 := wasV_lt _ _ _ (take_lt words hw 192)

set_option maxHeartbeats 8000000 in
theorem mxshifts_law (A Ax Ay : Option Addr) (c cx cy n nx ny : Nat) (words xs ys : List Nat) (b : Int) (w : World) (hwd : Rs w A (us words)) (hx : Rs w Ax (us xs)) (hy : Rs w Ay (us ys))
    (hn : words.length = n) (hnx : xs.length = nx) (hny : ys.length = ny) (hnc : n ≤ c) (hl : n ≤ 17592186043904) (hl2 : nx ≤ 17592186043904) (hl3 : ny ≤ 17592186043904)
    (hw : ∀ x ∈ words, x < 18446744073709551616) (hxw : ∀ x ∈ xs, x < 18446744073709551616) (hyw : ∀ x ∈ ys, x < 18446744073709551616) :
    Calls Try.prog 6 #[.slice A n c, .int .i64 b, .slice Ax nx cx, .slice Ay ny cy] w fun e w' => e = .returned (.bool true) ∧ Below w.heap.size w w' := by
  have C0 := hide (awake_mixed w)
  have C1 := hide (fun (W : World) (h : Below w.heap.size w W) => mshift_any A Ax Ay c cx cy n nx ny words xs ys b W ((Rd.below hwd h).more h.size) ((Rd.below hx h).more h.size) ((Rd.below hy h).more h.size) hn hnx hny hl hl2 hl3 hnc hw hxw hyw)
  have C2 := hide (fun (W : World) => check_ref A n c b 320 W)
  have C3 := hide (fun (W : World) (h : Below w.heap.size w W) (h1 : 1 ≤ b) (h2 : b ≤ 64) => targets_ref Ax Ay cx cy nx ny xs ys b W ((Rd.below hx h).more h.size) ((Rd.below hy h).more h.size) hnx hny hl2 hl3 hxw hyw h1 h2)
  have HN := hide hn
  have HX := hide hnx
  have HY := hide hny
  have HW := hide hw
  have HXW := hide hxw
  have HYW := hide hyw
  clear hn hnx hny hw hxw hyw
  have hb0 := Below.refl w.heap.size w
  go_enter Try.func6, Try.ntmps6
  go_wp2_with fail
  refine C0.out.mono ?_
  rintro e w1 ⟨rfl, hb1⟩
  go_wp2_with fail
  refine (C1.out _ hb1).mono ?_
  intro e w2 hq
  obtain ⟨A1, n1, c1, rfl, hok, herr, hcap1, hb2⟩ := hq
  have hb12 := below_call hb1 (Nat.le_refl _) hb2
  clear C0 C1 hb1 hb2
  by_cases hz : mshE n b xs ys = 0
  · obtain ⟨rfl, hs1⟩ := hok hz
    obtain ⟨hc0, ht0⟩ := msh_parts hz
    obtain ⟨hb1, hb2, hn128⟩ := chk_zero hc0
    have HN128 := hide (show n1 = 320 by omega)
    have HT := hide ht0
    have HC := hide hc0
    have HZ := hide hz
    have HP := hide (targ_parts ht0)
    rw [hc0] at C2
    rw [hz]
    clear herr hok hz hc0 ht0 hn128
    go_wp2_with fail
    refine (C2.out _).mono ?_
    rintro e w3 ⟨rfl, rfl⟩
    go_wp2_with fail
    refine (C3.out _ hb12 hb1 hb2).mono ?_
    rintro e w3 ⟨rfl, hb3⟩
    rw [HT.out]
    have hb13 := below_call hb12 (Nat.le_refl _) hb3
    have hs3 := Rs.call hs1 hb3
    clear C2 C3 hs1 hb12 hb3
    have hln : words.length = 320 := by rw [HN.out, HN128.out]
    have HLN := hide hln
    have hcn : chk 320 320 b = 0 := by have := HC.out; rw [HN128.out] at this; exact this
    obtain ⟨hall, htw, hback⟩ := msh_all words b xs ys hln hcn HT.out
    have HOUT := hide (show (mshV words b xs ys).length = n1 from by rw [len_mshV' words b xs ys hln]; exact HN128.out.symm)
    have HOW := hide (mshV_lt' words b xs ys HW.out HYW.out)
    have HALL := hide (fun k (hk : k < nx) => hall k (by rw [HX.out]; exact hk))
    have HBACK := hide hback
    have HTW := hide (show mshE n1 b xs (wasM words b xs) = 0 from by unfold mshE; rw [if_pos HC.out]; exact htw)
    have HWL := hide (wasM_lt words b xs HW.out)
    have HWN := hide (show (wasM words b xs).length = nx from by rw [len_wasM]; exact HX.out)
    have HDROP := hide (mshV_drop' words b xs ys hln)
    obtain ⟨gf, hgf⟩ : ∃ gf : Nat → Nat, gf = fun j => (wasM words b xs).getD j 0 := ⟨_, rfl⟩
    have HWR := hide (show wasM words b xs = (List.range xs.length).map gf from by
      rw [hgf]
      refine nat_ext _ _ (by rw [len_wasM]; simp) fun i hi => ?_
      rw [len_wasM] at hi
      simp [List.getD, hi])
    have HGF := hide (show ∀ k, gf k = (wasM words b xs).getD k 0 from fun k => by rw [hgf])
    clear hgf hall htw hback hcn hln
    have t2 : (nx : Int) ≤ 3 := by have := HP.out.2.1; have := HX.out; omega
    have t3 : (nx : Int) = (ny : Int) := by have := HP.out.2.2.1; have := HX.out; have := HY.out; omega
    have t3' : nx = ny := by omega
    have H3 := hide t3'
    clear t3 t3'
    generalize mshV words b xs ys = out at *
    generalize wasM words b xs = was at *
    have hsz3 := hb13.size
    go_wp2_with fail
    go_loopw [12, 52] (fun v i wr => ∃ (k : Nat) (A2 : Option Addr) (c2 : Nat), k ≤ nx ∧ i = .int .i64 k ∧ v = .slice A2 k c2 ∧ Below w3.heap.size w3 wr ∧ wr.ownsRow w3.heap.size 30 1 (.slice A2 k c2) k (us ((List.range k).map gf))) (fun _ i _ => nx - (intOf i).toNat)
    case atStart => exact ⟨0, none, 0, Nat.zero_le _, rfl, rfl, Below.refl _ _, World.ownsRow_nil _ _ _ _⟩
    case round =>
      obtain ⟨k, A2, c2, hk, rfl, rfl, hbr, hown⟩ := hrel
      have hbwr := below_call hb13 (Nat.le_refl _) hbr
      by_cases hlt : k < nx
      · obtain ⟨b3, o3, rfl, hbl3, hc3⟩ := (Rd.below hx hbwr).u2 (k := k) (by rw [HX.out]; exact hlt)
        obtain ⟨b4, o4, rfl, hbl4, hc4⟩ := (Rd.below hy hbwr).u2 (k := k) (by have := H3.out; rw [HY.out]; omega)
        have hx1 := getD_lt xs HXW.out k
        have hx32 := (HP.out.2.2.2.1 k (by rw [HX.out]; exact hlt)).1
        have D1 := hide (fun (W : World) (h : Below w.heap.size w W) => meval_ref A c w.heap.size words b (xs.getD k 0) W (Rd.below hwd h) h.size (by rw [HN.out]; exact hl) HW.out hx1 n1 HN.out hnc)
        have D2 := hide (fun (W : World) (h : Below w3.heap.size w3 W) => meval_ref A1 c1 w3.heap.size out b (xs.getD k 0) W (Rd.below hs3 h) h.size (by rw [HOUT.out]; exact hl) HOW.out hx1 n1 HOUT.out hcap1)
        obtain ⟨e1, e2, e3, e4⟩ := HALL.out k hlt
        rw [e1, e3] at D1
        rw [e2, e4] at D2
        have hnx2 : us ((List.range (k + 1)).map gf) = us ((List.range k).map gf) ++ [.int .u64 ((was.getD k 0 : Nat) : Int)] := by rw [List.range_succ, List.map_append, us_append, ← HGF.out k]; rfl
        have HNX := hide hnx2
        have t7 : (k : Int) < (ny : Int) := by have := H3.out; omega
        clear e1 e2 e3 e4 hx32 hnx2
        generalize was.getD k 0 = sv at *
        generalize xs.getD k 0 = x at *
        generalize ys.getD k 0 = y at *
        go_wp2_with fail
        refine (D1.out _ hbwr).mono ?_
        rintro e w5 ⟨rfl, hb5⟩
        replace hown := own_carry hown hb5
        replace hc4 := cell_call hb5 hc4
        replace hbr : Below w3.heap.size w3 w5 := below_call hbr (Nat.le_refl _) hb5
        have hsz5 := hbr.size
        clear hb5 hc3 hbwr
        go_wp2_with (at_builtin; refine wp_append1 rfl _ _ _ rfl w3.heap.size 30 _ (.int .u64 0) 8 Try.underlying22 Try.infoU64 rfl _ _ _ _ rfl hown _ rfl rfl (by omega) (by omega) hsz5 ?_)
        intro A5 c5 w6 hown6 hb6
        replace hc4 := (hb6.cell (p := ⟨b4, o4 + k, none⟩) (by show b4 < w3.heap.size; omega)).trans hc4
        replace hbr : Below w3.heap.size w3 w6 := hbr.trans hb6
        rw [← HNX.out] at hown6
        clear hb6 hown hsz5
        go_wp2_with fail
        refine (D2.out _ hbr).mono ?_
        rintro e w7 ⟨rfl, hb7⟩
        replace hown6 := own_carry hown6 hb7
        replace hc4 := cell_call hb7 hc4
        replace hbr : Below w3.heap.size w3 w7 := below_call hbr (Nat.le_refl _) hb7
        clear hb7
        go_wp2_with fail
        go_roundw
        case rel => exact ⟨k + 1, A5, c5, by omega, by go_num, rfl, hbr, hown6⟩
        case measure => simp [intOf]; omega
      · have hkm : k = nx := by omega
        subst hkm
        have hws := Rs.of_own hown
        have hwr := HWR.out
        rw [HX.out] at hwr
        rw [← hwr] at hws
        have C6 := hide (mshift_any A1 Ax A2 c1 cx c2 n1 k k out xs was b wr ((Rd.below hs3 hbr).more hbr.size) ((Rd.below hx hbwr).more hbwr.size) hws HOUT.out HX.out HWN.out hl hl2 hl2 hcap1 HOW.out HXW.out HWL.out)
        clear hws hwr hown
        go_wp2_with fail
        refine C6.out.mono ?_
        intro e w7 hq
        obtain ⟨A7, n7, c7, rfl, hok7, _, _, hb7⟩ := hq
        obtain ⟨rfl, hs7⟩ := hok7 HTW.out
        rw [HBACK.out] at hs7
        rw [HTW.out]
        have hb17 := below_call hbwr (Nat.le_refl _) hb7
        have hn320 := HN128.out
        subst hn320
        obtain ⟨wb, wo, rfl, hwb⟩ := hwd.addr (by rw [len_us, HLN.out]; omega)
        obtain ⟨ob, oo, rfl, hob⟩ := hs3.addr (by rw [len_us, HOUT.out]; omega)
        have hs37 : Rs w7 (some ⟨ob, oo, none⟩) (us out) := ((Rd.below hs3 hbr).call (Nat.le_trans (Nat.le_refl _) hbr.size) hb7).more (Nat.le_trans hbr.size hb7.size)
        have hwd7 : Rs w7 (some ⟨wb, wo, none⟩) (us words) := (Rd.below hwd hb17).more hb17.size
        have C7 := hide (fun (W : World) (h : Below w7.heap.size w7 W) => words_any A7 (some ⟨wb, wo, none⟩) c7 c W.heap.size W.heap.size words words W ((Rd.below hs7 h).more h.size) ((Rd.below hwd7 h).more h.size) (by rw [HN.out]; omega) (by rw [HN.out]; omega) 320 HN.out 320 HN.out)
        have hd : (words.drop 192).take 128 = words.drop 192 := List.take_of_length_le (by have := HLN.out; simp; omega)
        have hp1 := Rs.part hs37 192 128
        have hp2 := Rs.part hwd7 192 128
        rw [HDROP.out, hd] at hp1
        rw [hd] at hp2
        have hdl : (words.drop 192).length = 128 := by have := HLN.out; simp; omega
        have C8 := hide (fun (W : World) (h : Below w7.heap.size w7 W) (ca cb : Nat) => words_any (some ⟨ob, oo + 192, none⟩) (some ⟨wb, wo + 192, none⟩) ca cb W.heap.size W.heap.size (words.drop 192) (words.drop 192) W ((Rd.below hp1 h).more h.size) ((Rd.below hp2 h).more h.size) (by omega) (by omega) 128 hdl 128 hdl)
        have t8 : (320 : Int) ≤ (c : Int) := by omega
        have t9 : (320 : Int) ≤ (c1 : Int) := by omega
        have hq7 : Below w7.heap.size w7 w7 := Below.refl _ _
        have t10 : ¬ c = 192 := by omega
        have t11 : ¬ c1 = 192 := by omega
        rw [decide_eq_true (rfl : words = words)] at C7
        rw [decide_eq_true (rfl : words.drop 192 = words.drop 192)] at C8
        clear hok7 C6 hp1 hp2 hd hdl hs37 hwd7 hs7
        go_wp2_with fail
        go_region_held3 (fun v => True) (trivial) (first | (go_at_call 12; (with_reducible refine (C7.out _ (hq7)).mono ?_); rintro e w8 ⟨rfl, hb8⟩; replace hq7 : Below w7.heap.size w7 w8 := below_call (hq7) (Nat.le_refl _) hb8) | (go_at_call 12; (with_reducible refine (C8.out _ (hq7) _ _).mono ?_); rintro e w8 ⟨rfl, hb8⟩; replace hq7 : Below w7.heap.size w7 w8 := below_call (hq7) (Nat.le_refl _) hb8) | (go_at_call 12; (with_reducible refine (C7.out _ (hq7.drew)).mono ?_); rintro e w8 ⟨rfl, hb8⟩; replace hq7 : Below w7.heap.size w7 w8 := below_call (hq7.drew) (Nat.le_refl _) hb8) | (go_at_call 12; (with_reducible refine (C8.out _ (hq7.drew) _ _).mono ?_); rintro e w8 ⟨rfl, hb8⟩; replace hq7 : Below w7.heap.size w7 w8 := below_call (hq7.drew) (Nat.le_refl _) hb8))
        have hb18 := below_call hb17 (Nat.le_refl _) hq7
        go_wp2_with fail
        go_ret
        exact ⟨ret_b (by simp), hb18⟩
  · have hn0 := herr hz
    subst hn0
    clear herr hok
    by_cases hc0 : chk n 320 b = 0
    · obtain ⟨hb1, hb2, hn128⟩ := chk_zero hc0
      have hE : mshE n b xs ys = targE b xs ys := by unfold mshE; rw [if_pos hc0]
      rw [hc0] at C2
      rw [hE] at hz ⊢
      have t5 : (targE b xs ys != 0) = true := by rw [bne_iff_ne]; exact hz
      clear hc0 hE hn128 hz
      generalize targE b xs ys = z at *
      go_wp2_with fail
      refine (C2.out _).mono ?_
      rintro e w3 ⟨rfl, rfl⟩
      go_wp2_with fail
      refine (C3.out _ hb12 hb1 hb2).mono ?_
      rintro e w3 ⟨rfl, hb3⟩
      have hb13 := below_call hb12 (Nat.le_refl _) hb3
      go_wp2_with fail
      go_ret
      exact ⟨ret_b (by simp), hb13⟩
    · have hE : mshE n b xs ys = chk n 320 b := by unfold mshE; rw [if_neg hc0]
      rw [hE]
      have t5 : (chk n 320 b != 0) = true := by rw [bne_iff_ne]; exact hc0
      have t6 : (chk n 320 b == 0) = false := by rw [beq_eq_false_iff_ne]; exact hc0
      clear hc0 hE hz
      generalize chk n 320 b = z at *
      go_wp2_with fail
      refine (C2.out _).mono ?_
      rintro e w3 ⟨rfl, rfl⟩
      go_wp2_with fail
      go_ret
      exact ⟨ret_b (by simp), hb12⟩
end Go.Proofs.Ytpkekdgpkalceaa
