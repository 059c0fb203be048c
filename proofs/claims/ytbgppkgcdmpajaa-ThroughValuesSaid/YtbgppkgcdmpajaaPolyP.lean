/-
  Walk of poly.Mul. Conditions: slices no longer than the form lets them be.
-/
import Derived.Test.YtbgppkgcdmpajaaPolyR
namespace Go.Proofs.Ytbgppkgcdmpajaa
open Go.RowKit Go.Shelf
set_option linter.unusedVariables false

def stepM (x y p : Nat) (L : List Nat) : List Nat := L.set p ((L.getD p 0 + x * y % 2305843009213693951) % 2305843009213693951)
def rowM (x i : Nat) (b L : List Nat) : Nat → List Nat
  | 0 => L
  | k + 1 => stepM x (b.getD k 0) (i + k) (rowM x i b L k)
def mulM (a b : List Nat) : Nat → List Nat
  | 0 => List.replicate (a.length + b.length) 0
  | i + 1 => rowM (a.getD i 0) i b (mulM a b i) b.length
theorem len_rowM (x i : Nat) (b L : List Nat) (k : Nat) : (rowM x i b L k).length = L.length := by
  induction k with
  | zero => rfl
  | succ k ih => rw [rowM, stepM, List.length_set, ih]
theorem len_mulM (a b : List Nat) (i : Nat) : (mulM a b i).length = a.length + b.length := by
  induction i with
  | zero => rw [mulM, List.length_replicate]
  | succ i ih => rw [mulM, len_rowM, ih]
theorem lt_rowM (x i : Nat) (b L : List Nat) (hL : ∀ y ∈ L, y < 2305843009213693951) (k : Nat) : ∀ y ∈ rowM x i b L k, y < 2305843009213693951 := by
  induction k with
  | zero => exact hL
  | succ k ih =>
    intro y hy
    rw [rowM, stepM] at hy
    rcases List.mem_or_eq_of_mem_set hy with h | h
    · exact ih y h
    · rw [h]; exact Nat.mod_lt _ (by omega)
theorem lt_mulM (a b : List Nat) (i : Nat) : ∀ y ∈ mulM a b i, y < 2305843009213693951 := by
  induction i with
  | zero =>
    intro y hy
    rw [mulM] at hy
    rw [(List.mem_replicate.1 hy).2]
    omega
  | succ i ih => rw [mulM]; exact lt_rowM _ _ _ _ ih _
def mulP (a b : List Nat) : List Nat := trimZ (mulM a b a.length)
theorem map_mod (L : List Nat) (h : ∀ y ∈ L, y < 2305843009213693951) : L.map (· % 2305843009213693951) = L := by
  refine List.ext_getElem (by simp) fun i h1 h2 => ?_
  rw [List.getElem_map, Nat.mod_eq_of_lt (h _ (List.getElem_mem h2))]

set_option maxRecDepth 100000 in
set_option maxHeartbeats 4000000 in
theorem mul_p (A A' : Option Addr) (c c' n m : Nat) (a b : List Nat) (w : World) (ha : Rs w A (us a)) (hb : Rs w A' (us b)) (hla : a.length = n) (hlb : b.length = m) (hn : n ≤ 100000) (hm : m ≤ 100000) (hwa : ∀ y ∈ a, y < 18446744073709551616) (hwb : ∀ y ∈ b, y < 18446744073709551616) :
    Calls Try.prog 43 #[.slice A n c, .slice A' m c'] w (RetL w (mulP a b)) := by
  have HWA := hide hwa
  have HWB := hide hwb
  clear hwa hwb
  obtain ⟨i0, hi, hz0, hz1, hz2⟩ := info_parts Try.infoU64'
  go_enter Try.func43, Try.ntmps43
  go_wp2_with (at_make; refine wpList_make_full _ rfl _ _ _ rfl w.heap.size 22 i0 (.int .u64 0) 1 Try.underlying36 hi hz0 hz1 .i64 .i64 _ _ (n + m) rfl rfl rfl rfl (by rw [hz2]; omega) (by unfold maxLen; omega) (Nat.le_refl _) ?_)
  intro w1 hown hgr
  have B0 : Below w.heap.size w w1 := (Below.refl _ _).grown hgr (Nat.le_refl _) (by simp)
  rw [us_rep] at hown
  have HLA := hide hla
  have HLB := hide hlb
  have hs0 : List.replicate (n + m) 0 = mulM a b 0 := by rw [mulM, hla, hlb]
  rw [hs0] at hown
  have hlen : ∀ i, (mulM a b i).length = n + m := fun i => by rw [len_mulM, hla, hlb]
  have HLM := hide hlen
  clear hs0 hlen hgr hla hlb
  go_wp2_with fail
  go_loopg [18] n (fun g v18 wr => ∃ i : Nat, g = n - i ∧ i ≤ n ∧ v18 = .int .i64 i ∧ wr.ownsRow w.heap.size 22 1 (.slice (some ⟨w.heap.size, 0, none⟩) (n + m) (n + m)) (n + m) (us (mulM a b i)) ∧ Below w.heap.size w wr)
  case atStart => exact ⟨0, rfl, Nat.zero_le _, rfl, hown, B0⟩
  case round =>
    clear hown B0
    obtain ⟨i, hg, hi2, rfl, hown, B⟩ := hrel
    have HG := hide hg
    clear hg
    by_cases hlt : i < n
    · have t1 : (i : Int) < (n : Int) := by omega
      have t2 : (0 : Int) ≤ (i : Int) := by omega
      have hia : i < a.length := by rw [HLA.out]; exact hlt
      obtain ⟨b1, o1, rfl, hbb, hc⟩ := (ha.below B).u (k := i) hia
      have hx : a[i] < 18446744073709551616 := HWA.out _ (List.getElem_mem hia)
      have hax : a.getD i 0 = a[i] := by simp [List.getD, hia]
      have hnx : mulM a b (i + 1) = rowM a[i] i b (mulM a b i) m := by rw [mulM, hax, HLB.out]
      have hlr : ∀ k, (rowM a[i] i b (mulM a b i) k).length = n + m := fun k => by rw [len_rowM, HLM.out]
      have hbr : ∀ k, ∀ y ∈ rowM a[i] i b (mulM a b i) k, y < 2305843009213693951 := fun k => lt_rowM _ _ _ _ (lt_mulM a b i) k
      have hst : ∀ k, rowM a[i] i b (mulM a b i) (k + 1) = stepM a[i] (b.getD k 0) (i + k) (rowM a[i] i b (mulM a b i) k) := fun k => rfl
      have h00 : mulM a b i = rowM a[i] i b (mulM a b i) 0 := rfl
      rw [h00] at hown
      generalize a[i] = x at *
      obtain ⟨f, hf⟩ : ∃ f : Nat → List Nat, f = rowM x i b (mulM a b i) := ⟨_, rfl⟩
      rw [← hf] at hown hnx hlr hbr hst
      have HNX := hide hnx; have HLR := hide hlr; have HBR := hide hbr; have HST := hide hst
      clear hax hnx hlr hbr hst h00 hf
      go_wp2_with fail
      go_loopg [25] m (fun g v25 wr => ∃ k : Nat, g = m - k ∧ k ≤ m ∧ v25 = .int .i64 k ∧ wr.ownsRow w.heap.size 22 1 (.slice (some ⟨w.heap.size, 0, none⟩) (n + m) (n + m)) (n + m) (us (f k)) ∧ Below w.heap.size w wr)
      case atStart => exact ⟨0, rfl, Nat.zero_le _, rfl, hown, B⟩
      case round =>
        clear hown B hc
        obtain ⟨k, hg, hk2, rfl, hown, B⟩ := hrel
        have HG2 := hide hg
        clear hg
        by_cases hkt : k < m
        · have t3 : (k : Int) < (m : Int) := by omega
          have t4 : (0 : Int) ≤ (k : Int) := by omega
          have hkb : k < b.length := by rw [HLB.out]; exact hkt
          obtain ⟨b2, o2, rfl, hbb2, hc2⟩ := (hb.below B).u (k := k) hkb
          have hy : b[k] < 18446744073709551616 := HWB.out _ (List.getElem_mem hkb)
          have hby : b.getD k 0 = b[k] := by simp [List.getD, hkb]
          have hik : i + k < (f k).length := by rw [HLR.out]; omega
          have hz : (f k)[i + k] < 2305843009213693951 := HBR.out k _ (List.getElem_mem hik)
          have hfz : (f k).getD (i + k) 0 = (f k)[i + k] := by simp [List.getD, hik]
          have hcz : wr.cell? ⟨w.heap.size, i + k, none⟩ = some (.int .u64 ((f k)[i + k] : Nat)) := by
            rw [hown.cellAt (i + k) (by omega), List.getElem?_eq_getElem (by rw [len_us]; exact hik), get_us]
          have hstep := HST.out k
          rw [stepM, hby, hfz] at hstep
          have HT := hide (times_p x b[k] hx hy)
          have HP := hide (plus_p (f k)[i + k] (x * b[k] % 2305843009213693951) (by omega) (Nat.lt_trans (Nat.mod_lt _ (by omega)) (by omega)))
          generalize (f k)[i + k] = z at *
          generalize b[k] = y at *
          generalize x * y % 2305843009213693951 = xy at *
          generalize (z + xy) % 2305843009213693951 = v at *
          have HSTEP := hide hstep
          have fz := hown.frozenAt (i + k)
          have t5 : i + k < n + m := by omega
          have t7 : (i : Int) + (k : Int) = ((i + k : Nat) : Int) := by omega
          have t8 : i + k ≤ 200000 := by omega
          generalize i + k = q at *
          generalize hNN : n + m = N at *
          have HNN := hide hNN
          have t6 : (q : Int) < (N : Int) := by omega
          have t9 : (0 : Int) ≤ (q : Int) := by omega
          have t11 : (0 : Int) ≤ (N : Int) := by omega
          have t10 : IntKind.i64.wrap (q : Int) = (q : Int) := by
            unfold IntKind.wrap
            simp [IntKind.signed, IntKind.bits]
            omega
          have BW : Below wr.heap.size wr wr := Below.refl _ _
          clear hstep hfz hby hz hik hkb hx hy hNN
          go_wp2_with fail
          go_region_with (((first | (go_at_call 71; (with_reducible refine (HT.out _).mono ?_)) | (go_at_call 70; (with_reducible refine (HP.out _).mono ?_))); rintro e w3 ⟨rfl, hb⟩; replace hcz := cell_call hb hcz; replace BW : Below wr.heap.size wr w3 := below_call (by (repeat (first | exact Below.refl _ _ | assumption | (refine Below.alloc ?_ (by first | omega | (simp; done) | (simp; omega)) _) | (refine Below.setCell ?_ (by first | omega | (simp; done) | (simp; omega)) _) | refine Below.drew ?_ | refine below_drewN ?_ _))) (Nat.le_refl _) hb; clear hb; replace fz := (own_call hown BW).frozenAt q))
          all_goals
            have hst := ((own_call hown BW).stored q (.int .u64 (v : Nat))).1
            rw [← us_set, ← HSTEP.out] at hst
            go_wp2_with fail
            go_roundg (m - (k + 1))
            case measure => rw [HG2.out]; omega
            case rel => exact ⟨k + 1, rfl, by omega, by go_num, hst, (below_call B (Nat.le_refl _) BW).setCell (Nat.le_refl _) _⟩
        · have hkm : k = m := by omega
          subst hkm
          go_wp2_with fail
          go_roundg (n - (i + 1))
          case measure => rw [HG.out]; omega
          case rel => exact ⟨i + 1, rfl, by omega, by go_num, by rw [HNX.out]; exact hown, B⟩
    · have hin : i = n := by omega
      subst hin
      have HTr := hide (trim_p (some ⟨w.heap.size, 0, none⟩) (i + m) (i + m) (mulM a b i) wr (Rs.of_own hown) (HLM.out i) (by omega) (fun y hy => Nat.lt_trans (lt_mulM a b i y hy) (by omega)))
      go_wp2_with (go_at_call 44; (with_reducible refine HTr.out.mono ?_); rintro e w3 ⟨A3, c3, rfl, hq, hb3⟩)
      go_ret
      rw [map_mod _ (lt_mulM a b i)] at hq ⊢
      have hmp : mulP a b = trimZ (mulM a b i) := by unfold mulP; rw [HLA.out]
      rw [RetL, hmp]
      exact ⟨A3, c3, rfl, hq, below_call B (Nat.le_refl _) hb3⟩
end Go.Proofs.Ytbgppkgcdmpajaa
