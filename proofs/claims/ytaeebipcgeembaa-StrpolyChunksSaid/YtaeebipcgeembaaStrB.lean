/-
  Walk of slices.Reverse over words of the call's own; strpoly.monic. Conditions: no more than 1000 words; bytes.
-/
import Derived.Test.YtaeebipcgeembaaStrU
import Derived.Deep.LoopGhost
import Derived.Deep.RegionHeld3
import Derived.Lib.SlicesMore
import Derived.Sort.WalkB12
namespace Go.Proofs.Ytaeebipcgeembaa
open Go.RowKit Go.Lib Go.Sort
set_option linter.unusedVariables false

def bu (xs : List Int) : List Value := xs.map fun n => .int .u64 n
theorem len_bu (xs : List Int) : (bu xs).length = xs.length := by simp [bu]
theorem bu_at (d : Array Int) (i : Nat) (hi : i < d.size) : (bu d.toList)[i]? = some (.int .u64 d[i]!) := by
  simp [bu, hi]
theorem bu_swp (d : Array Int) (i j : Nat) (hi : i < d.size) (hj : j < d.size) : ((bu d.toList).set i (.int .u64 d[j]!)).set j (.int .u64 d[i]!) = bu (swp d i j).toList := by
  unfold swp bu
  rw [Array.toList_setIfInBounds, Array.toList_setIfInBounds, List.map_set, List.map_set]
theorem own_drew {w : World} {base : Nat} {e : TypeId} {v : Value} {n : Nat} {xs : List Value} (h : w.ownsRow base e 1 v n xs) : w.drew.ownsRow base e 1 v n xs := h

set_option maxHeartbeats 4000000 in
theorem reverse_u (g c n base : Nat) (d : Array Int) (w : World) (hd : d.size = n) (h1 : 1 ≤ n) (hn : n ≤ 1000) (hB : base ≤ g) (hown : w.ownsRow base 22 1 (.slice (some ⟨g, 0, none⟩) n c) n (bu d.toList)) :
    Calls Try.prog 49 #[.slice (some ⟨g, 0, none⟩) n c] w fun e w' => e = .returned (.tuple #[]) ∧ w'.ownsRow base 22 1 (.slice (some ⟨g, 0, none⟩) n c) n (bu d.toList.reverse) ∧ Below base w w' := by
  have HD := hide hd
  have hb0 := Below.refl base w
  clear hd
  go_enter Try.func49, Try.ntmps49
  go_wp2
  go_loopg [2, 3] n (fun k s2 s3 wr => ∃ (i jn : Nat) (jz : Int) (dk : Array Int), s2 = .int .i64 i ∧ s3 = .int .i64 jz ∧ ((i : Int) < jz → jz = jn ∧ jn < n) ∧ (¬ (i : Int) < jz → ¬ i < jn) ∧ jn - i ≤ k ∧
    Hid (dk.size = n) ∧ wr.ownsRow base 22 1 (.slice (some ⟨g, 0, none⟩) n c) n (bu dk.toList) ∧ Below base w wr ∧ Hid (reverseLoop i jn dk = reverseLoop 0 (n - 1) d))
  case atStart => exact ⟨0, n - 1, (n : Int) - 1, d, rfl, rfl, fun h => ⟨by omega, by omega⟩, fun h => by omega, by omega, HD, hown, hb0, hide rfl⟩
  case round =>
    clear hown
    obtain ⟨i, jn, jz, dk, rfl, rfl, h1', h2, hk, hds, hown, hbel, heq⟩ := hrel
    by_cases hlt : (i : Int) < jz
    · obtain ⟨rfl, hjn⟩ := h1' hlt
      have hij : i < jn := by omega
      have hin : i < n := by omega
      have ci : wr.cell? ⟨g, i, none⟩ = some (.int .u64 dk[i]!) := by rw [hown.cellAt i (by omega), bu_at dk i (by rw [hds.out]; omega)]
      have cj : wr.cell? ⟨g, jn, none⟩ = some (.int .u64 dk[jn]!) := by rw [hown.cellAt jn (by omega), bu_at dk jn (by rw [hds.out]; omega)]
      have fi := hown.frozenAt i
      have fj := hown.frozenAt jn
      have own1 := ((own_drew hown).stored i (.int .u64 dk[jn]!)).1
      have own2 := (own1.stored jn (.int .u64 dk[i]!)).1
      rw [bu_swp dk i jn (by rw [hds.out]; omega) (by rw [hds.out]; omega)] at own2
      have HS := hide (show (swp dk i jn).size = n from by rw [size_swp]; exact hds.out)
      have HQ := hide (show reverseLoop (i + 1) (jn - 1) (swp dk i jn) = reverseLoop 0 (n - 1) d from by
        have := heq.out
        rw [reverseLoop, if_pos hij] at this
        exact this)
      have hne : ¬ i = jn := by omega
      have hne2 : ¬ jn = i := by omega
      have t1 : (0 : Int) ≤ (i : Int) := by omega
      have t2 : (i : Int) < (n : Int) := by omega
      have t3 : (0 : Int) ≤ (jn : Int) := by omega
      have t4 : (jn : Int) < (n : Int) := by omega
      clear hown own1 h1' h2
      generalize dk[i]! = vi at *
      generalize dk[jn]! = vj at *
      go_wp2_with fail
      go_region
      all_goals
        go_wp2_with fail
        go_roundg (jn - 1 - (i + 1))
        case measure => omega
        case rel => exact ⟨i + 1, jn - 1, (jn : Int) - 1, swp dk i jn, by go_num, by go_num, fun h => ⟨by omega, by omega⟩, fun h => by omega, Nat.le_refl _, HS, own2, (hbel.drew.setCell (show base ≤ g from hB) _).setCell (show base ≤ g from hB) _, HQ⟩
    · have hnot := h2 hlt
      have hR := heq.out
      rw [reverseLoop, if_neg hnot, ← HD.out, Lib.reverseLoop_reverse] at hR
      rw [hR, Array.toList_reverse] at hown
      clear hR
      go_wp2_with fail
      go_end0
      exact ⟨rfl, hown, hbel⟩
theorem us_bu (l : List Nat) : us l = bu (l.map fun n : Nat => (n : Int)) := by simp [us, bu]
set_option maxHeartbeats 1000000 in
/-- strpoly.monic: a slice of its own. -/
theorem monic_f (bs : List Nat) (hby : ∀ x ∈ bs, x < 256) (A : Option Addr) (m c N : Nat) (hm : bs.length = m) (hmc : m ≤ c) (hm2 : m ≤ 400) (hN : (monicN bs).length = N) (w : World) (hR : Rs w A (by8 bs)) :
    Calls Try.prog 35 #[.slice A m c] w fun e w' => ∃ A' c', e = .returned (.slice A' N c') ∧ w'.ownsRow w.heap.size 22 1 (.slice A' N c') N (us (monicN bs)) ∧ Below w.heap.size w w' := by
  have hC := Chunks_f bs hby A m c hm hmc (by omega) w hR
  have hl := most_len bs
  have hlm := len_monicN bs
  have HE := hide (show monicN bs = (chunksN bs).reverse ++ [1] from rfl)
  generalize monicN bs = R at *
  generalize chunksN bs = L at *
  obtain ⟨n, hn⟩ : ∃ n, L.length = n := ⟨_, rfl⟩
  rw [hn] at hC hl hlm
  obtain rfl : N = n + 1 := by omega
  have hn1 : 1 ≤ n := by omega
  have hn2 : n ≤ 1000 := by omega
  have HN := hide hn
  clear hn hl hlm hN hm2 hm hmc hby hR
  go_enter Try.func35, Try.ntmps35
  go_wp2_with (go_at_call 14; (with_reducible refine hC.mono ?_); rintro e w2 ⟨A2, c2, rfl, ho, hb2⟩)
  clear hC
  obtain ⟨g, rfl, hg1, hg2⟩ := own_addr2 ho (by omega)
  have hRV := reverse_u g c2 n w.heap.size (L.map fun n : Nat => (n : Int)).toArray w2 (by simp [HN.out]) hn1 hn2 hg1 (by rw [us_bu] at ho; simpa using ho)
  rw [← List.map_reverse, ← us_bu] at hRV
  clear ho
  go_wp2_with (first | (go_at_call 49; (with_reducible refine hRV.mono ?_); rintro e w3 ⟨rfl, hown, hb3⟩; have hb4 : Below w.heap.size w w3 := hb2.trans hb3; clear hRV) | (at_builtin; (refine wp_append1 rfl _ _ _ rfl w.heap.size 22 _ (.int .u64 0) 8 Try.underlying33 Try.infoU64' rfl _ _ _ _ rfl hown _ rfl rfl (by omega) (by omega) hb4.size ?_)))
  intro A3 c3 w5 hown2 hb5
  have HALL := hide (show us L.reverse ++ [.int .u64 1] = us R by rw [HE.out, us_append]; rfl)
  rw [HALL.out] at hown2
  go_wp2_with fail
  go_ret
  exact ⟨A3, c3, rfl, hown2, hb4.trans hb5⟩
end Go.Proofs.Ytaeebipcgeembaa
