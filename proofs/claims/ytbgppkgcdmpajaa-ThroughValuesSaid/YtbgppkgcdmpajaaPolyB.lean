/-
  Walks of chapter 18's functions: plus, times, Trim, Divide, at; the reference's Value. Conditions: slices no longer than the form lets them be.
-/
import Derived.Test.YtbgppkgcdmpajaaPolyA
namespace Go.Proofs.Ytbgppkgcdmpajaa
open Go.RowKit Go.Shelf
set_option linter.unusedVariables false

theorem back_getElem (f : Nat → Nat) (n k : Nat) (h : k < (back f n (k + 1)).length) : (back f n (k + 1))[k] = 0 := by
  simp only [back, List.getElem_map, List.getElem_range]
  rw [if_neg (by omega)]
set_option maxHeartbeats 4000000 in
theorem divide_p (A : Option Addr) (c n x : Nat) (l : List Nat) (w : World) (hr : Rs w A (us l)) (hl : l.length = n) (hn : n ≤ 1000000) (hw : ∀ y ∈ l, y < 18446744073709551616) (hx : x < 18446744073709551616) :
    Calls Try.prog 35 #[.slice A n c, .int .u64 x] w fun e w' => ∃ A c, e = .returned (.tuple #[.slice A (trimZ (quoP 2305843009213693951 l x)).length c, .int .u64 (pval l x % 2305843009213693951 : Nat)]) ∧ Rs w' A (us (trimZ (quoP 2305843009213693951 l x))) ∧ Below w.heap.size w w' := by
  have HW := hide hw
  clear hw
  obtain ⟨i0, hi, hz0, hz1, hz2⟩ := info_parts Try.infoU64'
  go_enter Try.func35, Try.ntmps35
  go_wp2_with fail
  go_step3
  go_wp2_with (at_make; refine wpList_make_full _ rfl _ _ _ rfl w.heap.size 22 i0 (.int .u64 0) 1 Try.underlying36 hi hz0 hz1 .i64 .i64 _ _ n rfl rfl rfl rfl (by rw [hz2]; omega) (by unfold maxLen; omega) (Nat.le_refl _) ?_)
  intro w1 hown hgr
  have B0 : Below w.heap.size w w1 := (Below.refl _ _).grown hgr (Nat.le_refl _) (by simp)
  rw [us_rep] at hown
  obtain ⟨f, hf⟩ : ∃ f : Nat → Nat, f = fun i => pval (l.drop (i + 1)) x % 2305843009213693951 := ⟨_, rfl⟩
  have hend : (List.range n).map f = quoP 2305843009213693951 l x := by rw [hf, ← hl]; rfl
  have h0 : ∀ k (h : k < l.length), (f k * x % 2305843009213693951 + l[k]) % 2305843009213693951 = pval (l.drop k) x % 2305843009213693951 := fun k h => by
    rw [hf, pval_drop l k x h, Nat.add_comm l[k], Nat.add_mod, Nat.mod_mod, ← Nat.add_mod, Nat.mul_comm x, Nat.add_mod, Nat.mul_mod, Nat.mod_mod, ← Nat.mul_mod, ← Nat.add_mod]
  have hfk : ∀ k, f k = pval (l.drop (k + 1)) x % 2305843009213693951 := fun k => by rw [hf]
  rw [← back_all f n] at hown
  have HF := hide hfk; have H0 := hide h0; have HEND := hide hend; have HL := hide hl
  have hstart : Hid ((0 : Nat) = pval (l.drop n) x % 2305843009213693951) := by rw [← hl, List.drop_length]; exact rfl
  clear hf hfk h0 hend hl hgr
  go_wp2_with fail
  go_step3
  go_wp2_with fail
  go_loopg [7, 8] n (fun k v7 v8 wr => ∃ (I : Int) (r : Nat), I = (k : Int) - 1 ∧ k ≤ n ∧ v8 = .int .i64 I ∧ v7 = .int .u64 r ∧ r < 2305843009213693951 ∧ Hid (r = pval (l.drop k) x % 2305843009213693951) ∧ wr.ownsRow w.heap.size 22 1 (.slice (some ⟨w.heap.size, 0, none⟩) n n) n (us (back f n k)) ∧ Below w.heap.size w wr)
  case atStart => exact ⟨_, 0, rfl, Nat.le_refl _, rfl, rfl, by omega, hstart, hown, B0⟩
  case round =>
    clear hown B0 hstart
    obtain ⟨I, r, hI, hk, rfl, rfl, hrl, hR, hown, B⟩ := hrel
    by_cases hk0 : 0 < gk
    · obtain ⟨k, rfl⟩ : ∃ k, gk = k + 1 := ⟨gk - 1, by omega⟩
      have hIk : I = (k : Int) := by omega
      subst hIk
      clear hI
      have t1 : (0 : Int) ≤ (k : Int) := by omega
      have t2 : (k : Int) < (n : Int) := by omega
      have hkn : k < n := by omega
      have hkl : k < l.length := by rw [HL.out]; exact hkn
      have hrf : r = f k := by rw [hR.out, HF.out]
      have hy : l[k] < 18446744073709551616 := HW.out _ (List.getElem_mem hkl)
      obtain ⟨b, o, hA, hbb, hc⟩ := (hr.below B).u (k := k) hkl
      subst hA
      have hsz := hown.lt _ rfl
      have z0 := hown.frozenAt k
      have z1 : wr.cell? ⟨w.heap.size, k, none⟩ = some (.int .u64 ((back f n (k + 1))[k]'(by rw [len_back]; exact hkn) : Nat)) := by
        rw [hown.cellAt k (by omega), List.getElem?_eq_getElem (by rw [len_us, len_back]; exact hkn), get_us]
      have hst := (hown.stored k (.int .u64 (r : Nat))).1
      rw [← us_set, hrf, back_set, ← hrf] at hst
      have h0k := H0.out k hkl
      rw [← hrf] at h0k
      generalize l[k] = y at *
      have hne : w.heap.size ≠ b := by omega
      have hne2 : b ≠ w.heap.size := by omega
      have B2 : Below w.heap.size w (wr.setCell ⟨w.heap.size, k, none⟩ (.int .u64 (r : Nat))) := B.setCell (Nat.le_refl _) _
      have hc2 : (wr.setCell ⟨w.heap.size, k, none⟩ (.int .u64 (r : Nat))).cell? ⟨b, o + k, none⟩ = some (.int .u64 (y : Nat)) := by
        rw [World.cell?_setCell_other wr ⟨w.heap.size, k, none⟩ ⟨b, o + k, none⟩ _ (fun e => hne (by injection e))]
        exact hc
      have HT := hide (times_p r x (by omega) hx)
      have HP := hide (plus_p (r * x % 2305843009213693951) y (Nat.lt_trans (Nat.mod_lt _ (by omega)) (by omega)) hy)
      rw [h0k] at HP
      have hnl : pval (l.drop k) x % 2305843009213693951 < 2305843009213693951 := Nat.mod_lt _ (by omega)
      generalize (back f n (k + 1))[k]'(by rw [len_back]; exact hkn) = old at *
      generalize hT : r * x % 2305843009213693951 = rx at *
      generalize hV : pval (l.drop k) x % 2305843009213693951 = v at *
      have HV := hide hV.symm
      clear hown B hT hV hrf h0k
      go_wp2_with fail
      generalize wr.setCell ⟨w.heap.size, k, none⟩ (.int .u64 (r : Nat)) = wp at *
      have BW : Below wp.heap.size wp wp := Below.refl _ _
      go_region_held3 (fun w' => w'.cell? ⟨b, o + k, none⟩ = some (.int .u64 (y : Nat))) (exact hc2) (first | (go_at_call 71; (with_reducible refine (HT.out _).mono ?_); rintro e w3 ⟨rfl, hb⟩; replace hc2 := cell_call hb hc2; replace BW : Below wp.heap.size wp w3 := below_call (by (repeat (first | exact Below.refl _ _ | assumption | (refine Below.alloc ?_ (by first | omega | (simp; done) | (simp; omega)) _) | (refine Below.setCell ?_ (by first | omega | (simp; done) | (simp; omega)) _) | refine Below.drew ?_ | refine below_drewN ?_ _))) (Nat.le_refl _) hb; clear hb) | (go_at_call 70; (with_reducible refine (HP.out _).mono ?_); rintro e w3 ⟨rfl, hb⟩; replace hc2 := cell_call hb hc2; replace BW : Below wp.heap.size wp w3 := below_call (by (repeat (first | exact Below.refl _ _ | assumption | (refine Below.alloc ?_ (by first | omega | (simp; done) | (simp; omega)) _) | (refine Below.setCell ?_ (by first | omega | (simp; done) | (simp; omega)) _) | refine Below.drew ?_ | refine below_drewN ?_ _))) (Nat.le_refl _) hb; clear hb))
      go_wp2_with fail
      go_roundg k
      case measure => exact Nat.lt_succ_self k
      case rel => exact ⟨_, _, rfl, by omega, rfl, rfl, hnl, HV, own_call hst BW, below_call B2 (Nat.le_refl _) BW⟩
    · have hk1 : gk = 0 := by omega
      subst hk1
      have hI1 : I = -1 := by omega
      clear hI
      subst hI1
      rw [back_zero, HEND.out] at hown
      have hR0 := hR.out
      rw [List.drop_zero] at hR0
      have HR0 := hide hR0
      clear hR0 hR
      have hq : (quoP 2305843009213693951 l x).length = n := by unfold quoP; rw [List.length_map, List.length_range, HL.out]
      have hqp : (quoP 2305843009213693951 l x).map (· % 2305843009213693951) = quoP 2305843009213693951 l x := by
        unfold quoP
        rw [List.map_map]
        exact List.map_congr_left fun i _ => Nat.mod_mod _ _
      have HTr := hide (fun (W : World) (h : Rs W (some ⟨w.heap.size, 0, none⟩) (us (quoP 2305843009213693951 l x))) => by
        have h1 := trim_p (some ⟨w.heap.size, 0, none⟩) n n (quoP 2305843009213693951 l x) W h hq hn (fun y hy => by
          unfold quoP at hy
          obtain ⟨i, _, rfl⟩ := List.mem_map.1 hy
          exact Nat.lt_trans (Nat.mod_lt _ (by omega)) (by omega))
        rw [hqp] at h1
        exact h1)
      have r1 := Rs.of_own hown
      generalize hQ : quoP 2305843009213693951 l x = Q at *
      have HQ := hide hQ
      clear hQ
      clear hown hq hqp
      go_wp2_with fail
      go_at_call 44
      with_reducible refine (HTr.out _ r1).mono ?_
      rintro e w3 ⟨A', c', rfl, hq2, hb⟩
      have B3 : Below w.heap.size w w3 := below_call B (Nat.le_refl _) hb
      go_wp2_with fail
      try rw [Exit.noGoto_ret]
      go_ret2
      refine ⟨A', c', ?_, ?_, B3⟩
      · rw [HQ.out, ← HR0.out]; rfl
      · rw [HQ.out]; exact hq2
end Go.Proofs.Ytbgppkgcdmpajaa
