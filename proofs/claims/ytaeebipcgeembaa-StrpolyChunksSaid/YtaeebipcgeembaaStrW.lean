/-
  strpoly.Difference. Conditions: bytes, no more than 400.
-/
import Derived.Test.YtaeebipcgeembaaStrB
namespace Go.Proofs.Ytaeebipcgeembaa
open Go.RowKit
set_option linter.unusedVariables false

/-- The first k turned into their negatives. -/
def negK (C : List Nat) (k : Nat) : List Nat := (List.range C.length).map fun i => if i < k then negP (C.getD i 0) else C.getD i 0
theorem len_negK (C : List Nat) (k : Nat) : (negK C k).length = C.length := by simp [negK]
theorem negK_zero (C : List Nat) : negK C 0 = C := by
  refine List.ext_getElem (by simp [negK]) fun i h1 h2 => ?_
  simp [negK, List.getD, h2]
theorem negK_all (C : List Nat) : negK C C.length = C.map negP := by
  refine List.ext_getElem (by simp [negK]) fun i h1 h2 => ?_
  have : i < C.length := by simpa [negK] using h1
  simp [negK, List.getD, this]
theorem negK_set (C : List Nat) (k : Nat) : (negK C k).set k (negP (C.getD k 0)) = negK C (k + 1) := by
  refine List.ext_getElem (by simp [negK]) fun i h1 h2 => ?_
  rw [List.getElem_set]
  simp only [negK, List.getElem_map, List.getElem_range]
  by_cases e : k = i
  · subst e
    simp
  · rw [if_neg e]
    by_cases hlt : i < k
    · rw [if_pos hlt, if_pos (by omega)]
    · rw [if_neg hlt, if_neg (by omega)]
theorem negK_at (C : List Nat) (k : Nat) (h : k < (us (negK C k)).length) : (us (negK C k))[k] = .int .u64 (C.getD k 0 : Nat) := by
  rw [get_us]
  simp [negK]
theorem sub61 (y : Nat) (hy : y < 18446744073709551616) (w : World) : Calls Try.prog 36 #[.int .i64 61, .int .u64 0, .int .u64 y] w fun e w' => e = .returned (.int .u64 (negP y : Nat)) ∧ Below w.heap.size w w' := by
  have h := Sub_any 61 0 y (by omega) hy w
  rw [prm61', mdn_pos (by omega), mdn_pos (by omega), Nat.zero_add] at h
  exact h
theorem us_set1 (l : List Nat) (k v : Nat) : (us l).set k (.int .u64 (v : Nat)) = us (l.set k v) := (us_set l k v).symm
set_option maxRecDepth 100000 in
set_option maxHeartbeats 4000000 in
theorem diff_f (A A' : Option Addr) (n m c c' : Nat) (bs cs : List Nat) (hn : bs.length = n) (hm : cs.length = m) (hnc : n ≤ c) (hmc : m ≤ c') (h4 : n ≤ 400) (h5 : m ≤ 400) (hb : ∀ x ∈ bs, x < 256) (hc : ∀ x ∈ cs, x < 256) (w : World) (hr : Rs w A (by8 bs)) (hr' : Rs w A' (by8 cs)) :
    Calls Try.prog 19 #[.slice A n c, .slice A' m c'] w (RetL w (diffN bs cs)) := by
  obtain ⟨N1, hN1⟩ : ∃ N, (monicN bs).length = N := ⟨_, rfl⟩
  obtain ⟨N, hN⟩ : ∃ N, (monicN cs).length = N := ⟨_, rfl⟩
  have hl1 : N1 ≤ 1000 := by rw [← hN1, len_monicN, most_len]; omega
  have hl2 : N ≤ 1000 := by rw [← hN, len_monicN, most_len]; omega
  have hl3 : 1 ≤ N := by rw [← hN, len_monicN]; omega
  have HM1 := hide (fun W h => monic_f bs hb A n c N1 hn hnc h4 hN1 W h)
  have HM2 := monic_f cs hc A' m c' N hm hmc h5 hN w hr'
  have HS := hide (fun k W => sub61 ((monicN cs).getD k 0) (Nat.lt_of_lt_of_le (getD_monic_lt cs hc k) (by omega)) W)
  have hlt1 : ∀ y ∈ monicN bs, y < 18446744073709551616 := fun y hy => Nat.lt_of_lt_of_le (monicN_lt bs hb y hy) (by omega)
  have hlt2 : ∀ y ∈ (monicN cs).map negP, y < 18446744073709551616 := fun y hy => by
    obtain ⟨z, _, rfl⟩ := List.mem_map.1 hy
    exact Nat.lt_of_lt_of_le (Nat.mod_lt _ (by omega)) (by omega)
  have HADD := hide (fun (B1 B2 : Option Addr) (d1 d2 : Nat) (W : World) (h1 : Rs W B1 (us (monicN bs))) (h2 : Rs W B2 (us ((monicN cs).map negP))) => add_p B1 B2 d1 d2 N1 N (monicN bs) ((monicN cs).map negP) W h1 h2 hN1 (by rw [List.length_map, hN]) (by omega) (by omega) hlt1 hlt2)
  rw [show addP (monicN bs) ((monicN cs).map negP) = diffN bs cs from rfl] at HADD
  generalize diffN bs cs = D at *
  rw [← negK_all, hN] at HADD
  generalize monicN bs = C1 at *
  generalize monicN cs = C at *
  have HZ := hide (negK_zero C)
  have HSET := hide (negK_set C)
  have HAT := hide (fun k (h : k < (us (negK C k)).length) => negK_at C k h)
  have HLN := hide (fun k => show (us (negK C k)).length = N by rw [len_us, len_negK, hN])
  have HLD := hide (fun k => show (negK C k).length = N by rw [len_negK, hN])
  generalize negK C = M at *
  clear hN hN1 hn hm hnc hmc h4 h5 hb hc hlt1 hlt2 hr'
  unfold RetL
  go_enter Try.func19, Try.ntmps19
  go_wp2_with (go_at_call 35; (with_reducible refine HM2.mono ?_); rintro e w2 ⟨A2, c2, rfl, hown0, hb2⟩)
  clear HM2
  obtain ⟨g, rfl, hg1, hg2⟩ := own_addr2 hown0 (by omega)
  go_loopg [11] N (fun q v11 wr => ∃ k : Nat, q = N - k ∧ k ≤ N ∧ v11 = .int .i64 k ∧ wr.ownsRow w.heap.size 22 1 (.slice (some ⟨g, 0, none⟩) N c2) N (us (M k)) ∧ Below w.heap.size w wr)
  case atStart => exact ⟨0, rfl, Nat.zero_le _, rfl, by rw [HZ.out]; exact hown0, hb2⟩
  case round =>
    clear hown0 hb2
    obtain ⟨k, hg, hk, rfl, hown, B⟩ := hrel
    have HG := hide hg
    clear hg
    by_cases hlt : k < N
    · have t1 : (k : Int) < (N : Int) := by omega
      have t2 : (0 : Int) ≤ (k : Int) := by omega
      have ck : wr.cell? ⟨g, k, none⟩ = some (.int .u64 (C.getD k 0 : Nat)) := by
        rw [hown.cellAt k (by omega), List.getElem?_eq_getElem (by rw [HLN.out]; exact hlt), HAT.out k (by rw [HLN.out]; exact hlt)]
      have hS := HS.out k wr
      have HSETk := hide (HSET.out k)
      obtain ⟨y, hy⟩ : ∃ y, y = C.getD k 0 := ⟨_, rfl⟩
      obtain ⟨v, hv⟩ : ∃ v, v = negP (C.getD k 0) := ⟨_, rfl⟩
      rw [← hv, ← hy] at hS
      rw [← hy] at ck
      rw [← hv] at HSETk
      clear hy hv
      go_wp2_with (go_at_call 36; (with_reducible refine hS.mono ?_); rintro e w3 ⟨rfl, hb3⟩; have ho3 := own_carry hown hb3; have f3 := ho3.frozenAt k; have ck3 := cell_call hb3 ck)
      have ho4 := (ho3.stored k (.int .u64 (v : Nat))).1
      rw [us_set1, HSETk.out] at ho4
      have hb4 : Below w.heap.size w3 (w3.setCell ⟨g, k, none⟩ (.int .u64 (v : Nat))) := (Below.refl _ _).setCell (p := ⟨g, k, none⟩) hg1 _
      go_roundg (N - (k + 1))
      case measure => rw [HG.out]; omega
      case rel => exact ⟨k + 1, rfl, by omega, by go_num, ho4, (below_call B (Nat.le_refl _) hb3).trans hb4⟩
    · have t1 : ¬ (k : Int) < (N : Int) := by omega
      obtain rfl : k = N := by omega
      have R1 : Rs wr A (by8 bs) := (hr.below B).more B.size
      go_wp2_with (go_at_call 35; (with_reducible refine (HM1.out wr R1).mono ?_); rintro e w3 ⟨A3, c3, rfl, ho3, hb3⟩)
      have Q1 : Rs w3 A3 (us C1) := Rs.of_own ho3
      have Q2 : Rs w3 (some ⟨g, 0, none⟩) (us (M k)) := Rs.call (Rs.of_own hown) hb3
      go_wp2_with (go_at_call 37; (with_reducible refine (HADD.out A3 (some ⟨g, 0, none⟩) c3 c2 w3 Q1 Q2).mono ?_); rintro e w4 ⟨A4, c4, rfl, hq4, hb4⟩)
      go_ret
      exact ⟨A4, c4, rfl, hq4, below_call (below_call B (Nat.le_refl _) hb3) (Nat.le_refl _) hb4⟩
set_option maxRecDepth 100000 in
set_option maxHeartbeats 4000000 in
theorem diffr_f (A A' : Option Addr) (n m c c' : Nat) (bs cs : List Nat) (hn : bs.length = n) (hm : cs.length = m) (h4 : n ≤ 400) (h5 : m ≤ 400) (hb : ∀ x ∈ bs, x < 256) (hc : ∀ x ∈ cs, x < 256) (w : World) (hr : Rs w A (by8 bs)) (hr' : Rs w A' (by8 cs)) :
    Calls Try.prog 20 #[.slice A n c, .slice A' m c'] w (RetL w (diffN bs cs)) := by
  obtain ⟨N1, hN1⟩ : ∃ N, (monicN bs).length = N := ⟨_, rfl⟩
  obtain ⟨N, hN⟩ : ∃ N, (monicN cs).length = N := ⟨_, rfl⟩
  have hl1 : N1 ≤ 1000 := by rw [← hN1, len_monicN, most_len]; omega
  have hl2 : N ≤ 1000 := by rw [← hN, len_monicN, most_len]; omega
  have HM1 := hide (fun W h => monic_r bs hb A c n W hn (by omega) h)
  have HM2 := monic_r cs hc A' c' m w hm (by omega) hr'
  have HS := hide (fun k (hk : k < (monicN cs).length) W => minus_r ((monicN cs)[k]) (Nat.lt_of_lt_of_le (monicN_lt cs hc _ (List.getElem_mem hk)) (by omega)) W)
  have hlt1 : ∀ y ∈ monicN bs, y < 18446744073709551616 := fun y hy => Nat.lt_of_lt_of_le (monicN_lt bs hb y hy) (by omega)
  have hlt2 : ∀ y ∈ (monicN cs).map negP, y < 18446744073709551616 := fun y hy => by
    obtain ⟨z, _, rfl⟩ := List.mem_map.1 hy
    exact Nat.lt_of_lt_of_le (Nat.mod_lt _ (by omega)) (by omega)
  have HADD := hide (fun (B1 B2 : Option Addr) (d1 d2 : Nat) (W : World) (h1 : Rs W B1 (us (monicN bs))) (h2 : Rs W B2 (us ((monicN cs).map negP))) => addq_r B1 B2 d1 d2 N1 N (monicN bs) ((monicN cs).map negP) W h1 h2 hN1 (by rw [List.length_map, hN]) (by omega) (by omega) hlt1 hlt2)
  rw [show addP (monicN bs) ((monicN cs).map negP) = diffN bs cs from rfl] at HADD
  have HT := hide (fun k (hk : k < (monicN cs).length) => show ((monicN cs).map negP).take (k + 1) = ((monicN cs).map negP).take k ++ [negP (monicN cs)[k]] by
    rw [List.take_succ_eq_append_getElem (by simpa using hk), List.getElem_map])
  have HFULL := hide (show ((monicN cs).map negP).take N = (monicN cs).map negP from List.take_of_length_le (by rw [List.length_map, hN]; exact Nat.le_refl _))
  unfold RetL at HM1 HM2
  rw [hN] at HM2
  rw [hN1] at HM1
  generalize diffN bs cs = D at *
  generalize (monicN cs).map negP = M at *
  generalize monicN bs = C1 at *
  generalize monicN cs = C at *
  have HN := hide hN
  clear hN hN1 hn hm h4 h5 hb hc hlt1 hlt2 hr'
  unfold RetL
  go_enter Try.func20, Try.ntmps20
  go_wp2_with (go_at_call 25; (with_reducible refine HM2.mono ?_); rintro e w2 ⟨A2, c2, rfl, hq, hb2⟩)
  clear HM2
  go_loopg [5, 11] N (fun q v5 v11 wr => ∃ (k : Nat) (A1 : Option Addr) (c1 : Nat), q = N - k ∧ k ≤ N ∧ v11 = .int .i64 k ∧ v5 = .slice A1 k c1 ∧ wr.ownsRow w2.heap.size 22 1 (.slice A1 k c1) k (us (M.take k)) ∧ Below w2.heap.size w2 wr)
  case atStart => exact ⟨0, _, _, rfl, Nat.zero_le _, rfl, rfl, World.ownsRow_nil _ _ _ _, Below.refl _ _⟩
  case round =>
    obtain ⟨k, A1, c1, hg, hk, rfl, rfl, hown, B⟩ := hrel
    have HG := hide hg
    clear hg
    by_cases hlt : k < N
    · have t1 : (k : Int) < (N : Int) := by omega
      have t2 : (0 : Int) ≤ (k : Int) := by omega
      have hkl : k < C.length := by rw [HN.out]; exact hlt
      obtain ⟨b, o, rfl, hbb, hcx⟩ := (hq.below B).u (k := k) hkl
      have hS := HS.out k hkl wr
      have HTk := hide (HT.out k hkl)
      generalize negP C[k] = v at *
      generalize C[k] = y at *
      go_wp2_with (first | (go_at_call 38; (with_reducible refine hS.mono ?_); rintro e w3 ⟨rfl, rfl⟩) | (at_builtin; (refine wp_append1 rfl _ _ _ rfl w2.heap.size 22 _ (.int .u64 0) 8 Try.underlying33 Try.infoU64' rfl _ _ _ _ rfl hown _ rfl rfl (by omega) (by omega) B.size ?_)))
      intro A3 c3 w4 hown2 hb4
      go_wp2_with fail
      go_roundg (N - (k + 1))
      case measure => rw [HG.out]; omega
      case rel => exact ⟨k + 1, A3, c3, rfl, by omega, by go_num, rfl, by rw [HTk.out, us_append]; exact hown2, B.trans hb4⟩
    · have t1 : ¬ (k : Int) < (N : Int) := by omega
      obtain rfl : k = N := by omega
      rw [HFULL.out] at hown
      have B2 : Below w.heap.size w wr := below_call hb2 (Nat.le_refl _) B
      have R1 : Rs wr A (by8 bs) := (hr.below B2).more B2.size
      go_wp2_with (go_at_call 25; (with_reducible refine (HM1.out wr R1).mono ?_); rintro e w3 ⟨A3, c3, rfl, hq3, hb3⟩)
      have Q2 : Rs w3 A1 (us M) := Rs.call (Rs.of_own hown) hb3
      go_wp2_with (go_at_call 39; (with_reducible refine (HADD.out A3 A1 c3 c1 w3 hq3 Q2).mono ?_); rintro e w4 ⟨A4, c4, rfl, hq4, hb4⟩)
      go_ret
      exact ⟨A4, c4, rfl, hq4, below_call (below_call B2 (Nat.le_refl _) hb3) (Nat.le_refl _) hb4⟩
set_option maxHeartbeats 1000000 in
theorem most_r (A A' : Option Addr) (n m c c' : Nat) (bs cs : List Nat) (hn : bs.length = n) (hm : cs.length = m) (h4 : n ≤ 400) (h5 : m ≤ 400) (hb : ∀ x ∈ bs, x < 256) (hc : ∀ x ∈ cs, x < 256) (w : World) (hr : Rs w A (by8 bs)) (hr' : Rs w A' (by8 cs)) :
    Calls Try.prog 21 #[.slice A n c, .slice A' m c'] w fun e w' => e = .returned (.int .i64 (mostN bs cs : Nat)) ∧ Below w.heap.size w w' := by
  have h1 := chunks_r bs hb A c n w hn (by omega) hr
  have h2 := hide (fun W h => chunks_r cs hc A' c' m W hm (by omega) h)
  obtain ⟨R, hR⟩ : ∃ R, R = mostN bs cs := ⟨_, rfl⟩
  have u1 : max ((chunksN bs).length : Int) ((chunksN cs).length : Int) = (R : Int) := by rw [hR]; unfold mostN; omega
  rw [← hR]
  unfold RetL at h1 h2
  generalize (chunksN bs).length = p at *
  generalize (chunksN cs).length = q at *
  clear hR hn hm h4 h5 hb hc hr
  go_enter Try.func21, Try.ntmps21
  go_wp2_with (go_at_call 17; (with_reducible refine h1.mono ?_); rintro e w2 ⟨A2, c2, rfl, hq2, hb2⟩; clear h1)
  have R2 := Rs.call hr' hb2
  go_wp2_with (go_at_call 17; (with_reducible refine (h2.out w2 R2).mono ?_); rintro e w3 ⟨A3, c3, rfl, hq3, hb3⟩)
  go_ret
  exact ⟨rfl, below_call hb2 (Nat.le_refl _) hb3⟩
end Go.Proofs.Ytaeebipcgeembaa
