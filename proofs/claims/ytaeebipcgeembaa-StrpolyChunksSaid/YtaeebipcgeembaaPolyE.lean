/-
  Walk of poly.Add. Conditions: slices no longer than the form lets them be.
-/
import Derived.Test.YtaeebipcgeembaaPolyD
namespace Go.Proofs.Ytaeebipcgeembaa
open Go.RowKit Go.Shelf
set_option linter.unusedVariables false

def addL (a b : List Nat) : List Nat := (List.range (max a.length b.length)).map fun i => (a.getD i 0 + b.getD i 0) % 2305843009213693951
def addP (a b : List Nat) : List Nat := trimZ (addL a b)
theorem getD_lt {l : List Nat} (h : ∀ y ∈ l, y < 18446744073709551616) (k : Nat) : l.getD k 0 < 18446744073709551616 := by
  by_cases hk : k < l.length
  · rw [show l.getD k 0 = l[k] by simp [List.getD, hk]]
    exact h _ (List.getElem_mem hk)
  · rw [show l.getD k 0 = 0 by simp [List.getD, hk]]
    omega
set_option maxRecDepth 100000 in
set_option maxHeartbeats 4000000 in
theorem add_p (A A' : Option Addr) (c c' n m : Nat) (a b : List Nat) (w : World) (ha : Rs w A (us a)) (hb : Rs w A' (us b)) (hla : a.length = n) (hlb : b.length = m) (hn : n ≤ 100000) (hm : m ≤ 100000) (hwa : ∀ y ∈ a, y < 18446744073709551616) (hwb : ∀ y ∈ b, y < 18446744073709551616) :
    Calls Try.prog 37 #[.slice A n c, .slice A' m c'] w (RetL w (addP a b)) := by
  obtain ⟨i0, hi, hz0, hz1, hz2⟩ := info_parts Try.infoU64'
  obtain ⟨N, hN⟩ : ∃ N, N = max n m := ⟨_, rfl⟩
  have hN3 : N ≤ 100000 := by omega
  have hN4 : max (n : Int) (m : Int) = (N : Int) := by omega
  obtain ⟨f, hf⟩ : ∃ f : Nat → Nat, f = fun i => (a.getD i 0 + b.getD i 0) % 2305843009213693951 := ⟨_, rfl⟩
  have hend : addP a b = trimZ ((List.range N).map f) := by rw [addP, addL, hla, hlb, ← hN, hf]
  have hP : ∀ k W, Calls Try.prog 51 #[.int .u64 (a.getD k 0 : Nat), .int .u64 (b.getD k 0 : Nat)] W fun e w' => e = .returned (.int .u64 (f k : Nat)) ∧ Below W.heap.size W w' := fun k W => by
    rw [hf]; exact plus_p _ _ (getD_lt hwa k) (getD_lt hwb k) W
  have hlt : ∀ y ∈ (List.range N).map f, y < 2305843009213693951 := fun y hy => by
    obtain ⟨i, _, rfl⟩ := List.mem_map.1 hy
    rw [hf]
    exact Nat.mod_lt _ (by omega)
  have HP := hide hP; have HEND := hide hend; have HLT := hide hlt
  have HGA := hide (fun k (hk : k ≤ 1000000) W (h : Rd W w.heap.size A (us a)) => get_p A c _ n k a W h hla (by omega) hk)
  have HGB := hide (fun k (hk : k ≤ 1000000) W (h : Rd W w.heap.size A' (us b)) => get_p A' c' _ m k b W h hlb (by omega) hk)
  by_cases hnm : n < m
  · obtain rfl : N = m := by omega
    have u1 : (n : Int) < (N : Int) := by omega
    have u2 : max (n : Int) (N : Int) = (N : Int) := by omega
    clear hP hend hlt hla hlb hwa hwb hf hN hN4
    skip
    go_enter Try.func37, Try.ntmps37
    go_wp2_with (at_make; refine wpList_make_full _ rfl _ _ _ rfl w.heap.size 22 i0 (.int .u64 0) 1 Try.underlying33 hi hz0 hz1 .i64 .i64 _ _ N rfl rfl rfl rfl (by rw [hz2]; omega) (by unfold maxLen; omega) (Nat.le_refl _) ?_)
    intro w1 hown hgr
    have B0 : Below w.heap.size w w1 := (Below.refl _ _).grown hgr (Nat.le_refl _) (by simp)
    rw [us_rep, ← front_zero f N] at hown
    clear hgr
    go_wp2_with fail
    go_loopg [16] N (fun g v16 wr => ∃ k : Nat, g = N - k ∧ k ≤ N ∧ v16 = .int .i64 k ∧ wr.ownsRow w.heap.size 22 1 (.slice (some ⟨w.heap.size, 0, none⟩) N N) N (us (front f N k)) ∧ Below w.heap.size w wr)
    case atStart => exact ⟨0, rfl, Nat.zero_le _, rfl, hown, B0⟩
    case round =>
      clear hown B0
      obtain ⟨k, hg, hk, rfl, hown, B⟩ := hrel
      have HG := hide hg
      clear hg
      by_cases hlt : k < N
      · have t1 : (k : Int) < (N : Int) := by omega
        have t2 : (0 : Int) ≤ (k : Int) := by omega
        have fz := hown.frozenAt k
        have hcz : wr.cell? ⟨w.heap.size, k, none⟩ = some (.int .u64 ((front f N k)[k]'(by rw [len_front]; exact hlt) : Nat)) := by
          rw [hown.cellAt k (by omega), List.getElem?_eq_getElem (by rw [len_us, len_front]; exact hlt), get_us]
        generalize (front f N k)[k]'(by rw [len_front]; exact hlt) = old at *
        have BW : Below wr.heap.size wr wr := Below.refl _ _
        have RA : Rd wr w.heap.size A (us a) := ha.below B
        have RB : Rd wr w.heap.size A' (us b) := hb.below B
        have GA := hide (fun W h => HGA.out k (by omega) W h)
        have GB := hide (fun W h => HGB.out k (by omega) W h)
        have HPk := hide (HP.out k)
        have hst0 := fun (W : World) (h : W.ownsRow w.heap.size 22 1 (.slice (some ⟨w.heap.size, 0, none⟩) N N) N (us (front f N k))) => (h.stored k (.int .u64 (f k : Nat))).1
        simp only [← us_set, front_set] at hst0
        have HST := hide hst0
        clear hst0
        generalize f k = v at *
        generalize a.getD k 0 = x at *
        generalize b.getD k 0 = y at *
        go_wp2_with (first | ((first | (go_at_call 50; (with_reducible refine (GA.out _ RA).mono ?_)) | (go_at_call 50; (with_reducible refine (GB.out _ RB).mono ?_))); rintro e w3 ⟨rfl, rfl⟩) | (go_at_call 51; (with_reducible refine (HPk.out _).mono ?_); rintro e w3 ⟨rfl, hb3⟩; replace hcz := cell_call hb3 hcz; replace BW : Below wr.heap.size wr w3 := below_call (by (repeat (first | exact Below.refl _ _ | assumption | (refine Below.alloc ?_ (by first | omega | (simp; done) | (simp; omega)) _) | (refine Below.setCell ?_ (by first | omega | (simp; done) | (simp; omega)) _) | refine Below.drew ?_ | refine below_drewN ?_ _))) (Nat.le_refl _) hb3; clear hb3; replace fz := (own_call hown BW).frozenAt k))
        all_goals
          have hst := HST.out _ (own_call hown BW)
          go_wp2_with fail
          go_roundg (N - (k + 1))
          case measure => rw [HG.out]; omega
          case rel => exact ⟨k + 1, rfl, by omega, by go_num, hst, (below_call B (Nat.le_refl _) BW).setCell (Nat.le_refl _) _⟩
      · have hkn : k = N := by omega
        subst hkn
        rw [front_all] at hown
        have htr := trim_p (some ⟨w.heap.size, 0, none⟩) k k ((List.range k).map f) wr (Rs.of_own hown) (by simp) (by omega) (fun y hy => Nat.lt_trans (HLT.out y hy) (by omega))
        rw [map_mod _ HLT.out, ← HEND.out] at htr
        have HTr := hide htr
        clear htr hown
        go_wp2_with (go_at_call 52; (with_reducible refine HTr.out.mono ?_); rintro e w3 ⟨A3, c3, rfl, hq, hb3⟩)
        go_ret
        exact ⟨A3, c3, rfl, hq, below_call B (Nat.le_refl _) hb3⟩
  · obtain rfl : N = n := by omega
    have u1 : ¬ (N : Int) < (m : Int) := by omega
    have u2 : max (N : Int) (m : Int) = (N : Int) := by omega
    clear hP hend hlt hla hlb hwa hwb hf hN hN4
    skip
    go_enter Try.func37, Try.ntmps37
    go_wp2_with (at_make; refine wpList_make_full _ rfl _ _ _ rfl w.heap.size 22 i0 (.int .u64 0) 1 Try.underlying33 hi hz0 hz1 .i64 .i64 _ _ N rfl rfl rfl rfl (by rw [hz2]; omega) (by unfold maxLen; omega) (Nat.le_refl _) ?_)
    intro w1 hown hgr
    have B0 : Below w.heap.size w w1 := (Below.refl _ _).grown hgr (Nat.le_refl _) (by simp)
    rw [us_rep, ← front_zero f N] at hown
    clear hgr
    go_wp2_with fail
    go_loopg [16] N (fun g v16 wr => ∃ k : Nat, g = N - k ∧ k ≤ N ∧ v16 = .int .i64 k ∧ wr.ownsRow w.heap.size 22 1 (.slice (some ⟨w.heap.size, 0, none⟩) N N) N (us (front f N k)) ∧ Below w.heap.size w wr)
    case atStart => exact ⟨0, rfl, Nat.zero_le _, rfl, hown, B0⟩
    case round =>
      clear hown B0
      obtain ⟨k, hg, hk, rfl, hown, B⟩ := hrel
      have HG := hide hg
      clear hg
      by_cases hlt : k < N
      · have t1 : (k : Int) < (N : Int) := by omega
        have t2 : (0 : Int) ≤ (k : Int) := by omega
        have fz := hown.frozenAt k
        have hcz : wr.cell? ⟨w.heap.size, k, none⟩ = some (.int .u64 ((front f N k)[k]'(by rw [len_front]; exact hlt) : Nat)) := by
          rw [hown.cellAt k (by omega), List.getElem?_eq_getElem (by rw [len_us, len_front]; exact hlt), get_us]
        generalize (front f N k)[k]'(by rw [len_front]; exact hlt) = old at *
        have BW : Below wr.heap.size wr wr := Below.refl _ _
        have RA : Rd wr w.heap.size A (us a) := ha.below B
        have RB : Rd wr w.heap.size A' (us b) := hb.below B
        have GA := hide (fun W h => HGA.out k (by omega) W h)
        have GB := hide (fun W h => HGB.out k (by omega) W h)
        have HPk := hide (HP.out k)
        have hst0 := fun (W : World) (h : W.ownsRow w.heap.size 22 1 (.slice (some ⟨w.heap.size, 0, none⟩) N N) N (us (front f N k))) => (h.stored k (.int .u64 (f k : Nat))).1
        simp only [← us_set, front_set] at hst0
        have HST := hide hst0
        clear hst0
        generalize f k = v at *
        generalize a.getD k 0 = x at *
        generalize b.getD k 0 = y at *
        go_wp2_with (first | ((first | (go_at_call 50; (with_reducible refine (GA.out _ RA).mono ?_)) | (go_at_call 50; (with_reducible refine (GB.out _ RB).mono ?_))); rintro e w3 ⟨rfl, rfl⟩) | (go_at_call 51; (with_reducible refine (HPk.out _).mono ?_); rintro e w3 ⟨rfl, hb3⟩; replace hcz := cell_call hb3 hcz; replace BW : Below wr.heap.size wr w3 := below_call (by (repeat (first | exact Below.refl _ _ | assumption | (refine Below.alloc ?_ (by first | omega | (simp; done) | (simp; omega)) _) | (refine Below.setCell ?_ (by first | omega | (simp; done) | (simp; omega)) _) | refine Below.drew ?_ | refine below_drewN ?_ _))) (Nat.le_refl _) hb3; clear hb3; replace fz := (own_call hown BW).frozenAt k))
        all_goals
          have hst := HST.out _ (own_call hown BW)
          go_wp2_with fail
          go_roundg (N - (k + 1))
          case measure => rw [HG.out]; omega
          case rel => exact ⟨k + 1, rfl, by omega, by go_num, hst, (below_call B (Nat.le_refl _) BW).setCell (Nat.le_refl _) _⟩
      · have hkn : k = N := by omega
        subst hkn
        rw [front_all] at hown
        have htr := trim_p (some ⟨w.heap.size, 0, none⟩) k k ((List.range k).map f) wr (Rs.of_own hown) (by simp) (by omega) (fun y hy => Nat.lt_trans (HLT.out y hy) (by omega))
        rw [map_mod _ HLT.out, ← HEND.out] at htr
        have HTr := hide htr
        clear htr hown
        go_wp2_with (go_at_call 52; (with_reducible refine HTr.out.mono ?_); rintro e w3 ⟨A3, c3, rfl, hq, hb3⟩)
        go_ret
        exact ⟨A3, c3, rfl, hq, below_call B (Nat.le_refl _) hb3⟩
end Go.Proofs.Ytaeebipcgeembaa
