/-
  Walks of chapter 18's functions: plus, times, Trim, Divide, at; the reference's Value. Conditions: slices no longer than the form lets them be.
-/
import Derived.Test.YtaeebipcgeembaaPolyM
import Derived.Test.YtaeebipcgeembaaMersC
import Derived.Test.YtaeebipcgeembaaWords
namespace Go.Proofs.Ytaeebipcgeembaa
open Go.RowKit Go.Shelf
set_option linter.unusedVariables false

theorem prm61' : prm 61 = 2305843009213693951 := rfl
theorem plus_p (a b : Nat) (ha : a < 18446744073709551616) (hb : b < 18446744073709551616) (w : World) : Calls Try.prog 51 #[.int .u64 a, .int .u64 b] w fun e w' => e = .returned (.int .u64 ((a + b) % 2305843009213693951 : Nat)) ∧ Below w.heap.size w w' := by
  have h := Add_any 61 a b ha hb
  rw [prm61', mdn_pos (by omega)] at h
  have H := hide h
  clear h
  generalize (a + b) % 2305843009213693951 = r at *
  go_enter Try.func51, Try.ntmps51
  go_wp2_with fail
  refine (H.out _).mono ?_
  rintro e w1 ⟨rfl, hb1⟩
  go_wp2
  go_ret
  exact ⟨rfl, hb1⟩
/-- It hands back a slice that reads as a list, and has written to its own memory alone. -/
def RetL (w : World) (l : List Nat) (e : Ending) (w' : World) : Prop := ∃ A c, e = .returned (.slice A l.length c) ∧ Rs w' A (us l) ∧ Below w.heap.size w w'
theorem rem_p (a : Nat) (ha : a < 18446744073709551616) (w : World) : Calls Try.prog 51 #[.int .u64 a, .int .u64 0] w fun e w' => e = .returned (.int .u64 (a % 2305843009213693951 : Nat)) ∧ Below w.heap.size w w' := by
  have h := plus_p a 0 ha (by omega) w
  rw [Nat.add_zero] at h
  exact h
theorem Rs.take {w : World} {A : Option Addr} {xs : List Value} (n : Nat) (h : Rs w A xs) : Rs w A (xs.take n) := by
  intro hp
  obtain ⟨b, o, he, hb, hc⟩ := h (by rw [List.length_take] at hp; omega)
  refine ⟨b, o, he, hb, fun j u hu => hc j u ?_⟩
  rw [List.getElem?_take] at hu
  split at hu
  · exact hu
  · cases hu
theorem us_take (l : List Nat) (n : Nat) : us (l.take n) = (us l).take n := by simp [us]
theorem us_set (l : List Nat) (k v : Nat) : us (l.set k v) = (us l).set k (.int .u64 (v : Nat)) := by simp [us]
theorem us_rep (n : Nat) : (madeCells #[Value.int .u64 0] n).toList = us (List.replicate n 0) := by
  refine List.ext_getElem (by simp [madeCells, us]) fun i h1 h2 => ?_
  simp [madeCells, us, Nat.mod_one]
theorem own_addr2 {w : World} {base n c : Nat} {e : TypeId} {A : Option Addr} {xs : List Value} (h : w.ownsRow base e 1 (.slice A n c) n xs) (hn : 0 < n) : ∃ g, A = some ⟨g, 0, none⟩ ∧ base ≤ g ∧ g < w.heap.size := by
  rcases h.2 with ⟨_, h0⟩ | ⟨g, cap, cur, hv, hb, hh, _⟩
  · omega
  · injection hv with h1
    exact ⟨g, h1, hb, (Array.getElem?_eq_some_iff.1 hh).1⟩
set_option maxHeartbeats 2000000 in
theorem trim_p (A : Option Addr) (c n : Nat) (l : List Nat) (w : World) (hr : Rs w A (us l)) (hl : l.length = n) (hn : n ≤ 1000000) (hw : ∀ x ∈ l, x < 18446744073709551616) :
    Calls Try.prog 52 #[.slice A n c] w (RetL w (trimZ (l.map (· % 2305843009213693951)))) := by
  have HW := hide hw
  clear hw
  obtain ⟨i0, hi, hz0, hz1, hz2⟩ := info_parts Try.infoU64'
  go_enter Try.func52, Try.ntmps52
  go_wp2_with (at_make; refine wpList_make_full _ rfl _ _ _ rfl w.heap.size 22 i0 (.int .u64 0) 1 Try.underlying33 hi hz0 hz1 .i64 .i64 _ _ n rfl rfl rfl rfl (by rw [hz2]; omega) (by unfold maxLen; omega) (Nat.le_refl _) ?_)
  intro w1 hown hgr
  have B0 : Below w.heap.size w w1 := (Below.refl _ _).grown hgr (Nat.le_refl _) (by simp)
  rw [us_rep] at hown
  obtain ⟨f, hf⟩ : ∃ f : Nat → Nat, f = fun i => (l.map (· % 2305843009213693951)).getD i 0 := ⟨_, rfl⟩
  have hfk : ∀ k (h : k < l.length), f k = l[k] % 2305843009213693951 := fun k h => by rw [hf]; simp [List.getD, h]
  have hnz : ∀ k, nzc (l.map (· % 2305843009213693951)) (k + 1) = if f k ≠ 0 then k + 1 else nzc (l.map (· % 2305843009213693951)) k := fun k => by rw [hf]; rfl
  have hend : (List.range n).map f = l.map (· % 2305843009213693951) := by
    rw [← hl]
    refine List.ext_getElem (by simp) fun i h1 h2 => ?_
    have h3 : i < l.length := by simpa using h2
    simp only [List.getElem_map, List.getElem_range]
    exact hfk i h3
  have hll : (l.map (· % 2305843009213693951)).length = n := by simpa using hl
  rw [← front_zero f n] at hown
  have HFK := hide hfk; have HNZ := hide hnz; have HEND := hide hend; have HLL := hide hll; have HL := hide hl
  clear hf hfk hnz hend hll hl hgr
  generalize hLL : l.map (· % 2305843009213693951) = L at *
  have HLE := hide hLL
  clear hLL
  go_wp2_with fail
  go_loopg [4, 12] n (fun m v4 v12 wr => ∃ k : Nat, m = n - k ∧ k ≤ n ∧ v12 = .int .i64 k ∧ v4 = .int .i64 (nzc L k : Nat) ∧ wr.ownsRow w.heap.size 22 1 (.slice (some ⟨w.heap.size, 0, none⟩) n n) n (us (front f n k)) ∧ Below w.heap.size w wr)
  case atStart => exact ⟨0, rfl, Nat.zero_le _, rfl, rfl, hown, B0⟩
  case round =>
    clear hown B0
    obtain ⟨k, hm, hk, rfl, rfl, hown, B⟩ := hrel
    have HM := hide hm
    clear hm
    by_cases hlt : k < n
    · have t1 : (k : Int) < (n : Int) := by omega
      have t2 : (0 : Int) ≤ (k : Int) := by omega
      have hkl : k < l.length := by rw [HL.out]; exact hlt
      obtain ⟨b, o, rfl, hbb, hc⟩ := (hr.below B).u (k := k) hkl
      have hx : l[k] < 18446744073709551616 := HW.out _ (List.getElem_mem hkl)
      have hfe := HFK.out k hkl
      have hne := HNZ.out k
      have HC := hide (rem_p l[k] hx)
      rw [← hfe] at HC
      generalize l[k] = x at *
      have hsz := hown.lt _ rfl
      have HFE := hide hfe; have HNE := hide hne
      clear hfe hne
      go_wp2_with fail
      refine (HC.out _).mono ?_
      rintro e w2 ⟨rfl, hb⟩
      replace hown := own_carry hown hb
      have B2 : Below w.heap.size w w2 := below_call B (Nat.le_refl _) hb
      clear B hc hb
      have z0 := hown.frozenAt k
      have z1 : w2.cell? ⟨w.heap.size, k, none⟩ = some (.int .u64 ((front f n k)[k]'(by rw [len_front]; exact hlt) : Nat)) := by
        rw [hown.cellAt k (by omega), List.getElem?_eq_getElem (by rw [len_us, len_front]; exact hlt), get_us]
      have hst := (hown.stored k (.int .u64 (f k : Nat))).1
      rw [← us_set, front_set] at hst
      have hsz2 := hown.lt _ rfl
      generalize (front f n k)[k]'(by rw [len_front]; exact hlt) = old at *
      have B3 : Below w.heap.size w (w2.setCell ⟨w.heap.size, k, none⟩ (.int .u64 (f k : Nat))) := B2.setCell (Nat.le_refl _) _
      clear hown B2
      by_cases hz : f k = 0
      · have e0 : ((f k : Int) != 0) = false := by rw [hz]; rfl
        have HE := HNE.out
        rw [if_neg (by omega)] at HE
        have HE2 := hide HE
        clear hz HE
        generalize f k = fk at *
        go_wp2_with fail
        go_roundg (n - (k + 1))
        case measure => rw [HM.out]; omega
        case rel => exact ⟨k + 1, rfl, by omega, by go_num, val_i (by rw [HE2.out]), hst, B3⟩
      · have e0 : ((f k : Int) != 0) = true := by rw [bne_iff_ne]; omega
        have HE := HNE.out
        rw [if_pos hz] at HE
        have HE2 := hide HE
        clear hz HE
        generalize f k = fk at *
        go_wp2_with fail
        go_roundg (n - (k + 1))
        case measure => rw [HM.out]; omega
        case rel => exact ⟨k + 1, rfl, by omega, by go_num, val_i (by rw [HE2.out]; omega), hst, B3⟩
    · have hkn : k = n := by omega
      subst hkn
      have hle := nzc_le L k
      have t3 : ((nzc L k : Nat) : Int) ≤ (k : Int) := by omega
      rw [front_all, HEND.out] at hown
      go_wp2_with fail
      go_ret
      refine ⟨some ⟨w.heap.size, 0, none⟩, nzc L k, ?_, ?_, B⟩
      · rw [trimZ_len, HLE.out, HLL.out]; rfl
      · unfold trimZ
        rw [HLE.out, HLL.out, us_take]
        exact Rs.take _ (Rs.of_own hown)
end Go.Proofs.Ytaeebipcgeembaa
