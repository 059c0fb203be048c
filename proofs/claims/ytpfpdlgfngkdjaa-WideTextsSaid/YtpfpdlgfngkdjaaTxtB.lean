/-
  Walk of slices.Reverse over bytes of the call's own. Conditions: none.
-/
import Derived.Test.YtpfpdlgfngkdjaaProg
import Derived.Test.YtpfpdlgfngkdjaaBase
import Derived.Deep.LoopGhost
import Derived.Deep.RegionHeld3
import Derived.Lib.SlicesMore
import Derived.Sort.WalkB12
namespace Go.Proofs.Ytpfpdlgfngkdjaa
open Go.RowKit Go.Lib Go.Sort
set_option linter.unusedVariables false

def bz (xs : List Int) : List Value := xs.map fun n => .int .u8 n
theorem len_bz (xs : List Int) : (bz xs).length = xs.length := by simp [bz]
theorem bz_at (d : Array Int) (i : Nat) (hi : i < d.size) : (bz d.toList)[i]? = some (.int .u8 d[i]!) := by
  simp [bz, hi]
theorem bz_swp (d : Array Int) (i j : Nat) (hi : i < d.size) (hj : j < d.size) : ((bz d.toList).set i (.int .u8 d[j]!)).set j (.int .u8 d[i]!) = bz (swp d i j).toList := by
  unfold swp bz
  rw [Array.toList_setIfInBounds, Array.toList_setIfInBounds, List.map_set, List.map_set]
theorem own_drew {w : World} {base : Nat} {e : TypeId} {v : Value} {n : Nat} {xs : List Value} (h : w.ownsRow base e 1 v n xs) : w.drew.ownsRow base e 1 v n xs := h

set_option maxHeartbeats 4000000 in
theorem reverse_b (g c n base : Nat) (d : Array Int) (w : World) (hd : d.size = n) (h1 : 1 ≤ n) (hn : n ≤ 1000) (hB : base ≤ g) (hown : w.ownsRow base 5 1 (.slice (some ⟨g, 0, none⟩) n c) n (bz d.toList)) :
    Calls Try.prog 25 #[.slice (some ⟨g, 0, none⟩) n c] w fun e w' => e = .returned (.tuple #[]) ∧ w'.ownsRow base 5 1 (.slice (some ⟨g, 0, none⟩) n c) n (bz d.toList.reverse) ∧ Below base w w' := by
  have HD := hide hd
  have hb0 := Below.refl base w
  clear hd
  go_enter Try.func25, Try.ntmps25
  go_wp2
  go_loopg [2, 3] n (fun k s2 s3 wr => ∃ (i jn : Nat) (jz : Int) (dk : Array Int), s2 = .int .i64 i ∧ s3 = .int .i64 jz ∧ ((i : Int) < jz → jz = jn ∧ jn < n) ∧ (¬ (i : Int) < jz → ¬ i < jn) ∧ jn - i ≤ k ∧
    Hid (dk.size = n) ∧ wr.ownsRow base 5 1 (.slice (some ⟨g, 0, none⟩) n c) n (bz dk.toList) ∧ Below base w wr ∧ Hid (reverseLoop i jn dk = reverseLoop 0 (n - 1) d))
  case atStart => exact ⟨0, n - 1, (n : Int) - 1, d, rfl, rfl, fun h => ⟨by omega, by omega⟩, fun h => by omega, by omega, HD, hown, hb0, hide rfl⟩
  case round =>
    clear hown
    obtain ⟨i, jn, jz, dk, rfl, rfl, h1', h2, hk, hds, hown, hbel, heq⟩ := hrel
    by_cases hlt : (i : Int) < jz
    · obtain ⟨rfl, hjn⟩ := h1' hlt
      have hij : i < jn := by omega
      have hin : i < n := by omega
      have ci : wr.cell? ⟨g, i, none⟩ = some (.int .u8 dk[i]!) := by rw [hown.cellAt i (by omega), bz_at dk i (by rw [hds.out]; omega)]
      have cj : wr.cell? ⟨g, jn, none⟩ = some (.int .u8 dk[jn]!) := by rw [hown.cellAt jn (by omega), bz_at dk jn (by rw [hds.out]; omega)]
      have fi := hown.frozenAt i
      have fj := hown.frozenAt jn
      have own1 := ((own_drew hown).stored i (.int .u8 dk[jn]!)).1
      have own2 := (own1.stored jn (.int .u8 dk[i]!)).1
      rw [bz_swp dk i jn (by rw [hds.out]; omega) (by rw [hds.out]; omega)] at own2
      have HS := hide (show (swp dk i jn).size = n from by rw [size_swp]; exact hds.out)
      have HQ := hide (show reverseLoop (i + 1) (jn - 1) (swp dk i jn) = reverseLoop 0 (n - 1) d from by
        have := heq.out
        rw [reverseLoop, if_pos hij] at this
        exact this)
      have hne : ¬ i = jn := by omega
      have hne2 : ¬ jn = i := by omega
      have t1 : (0 : Int) ≤ (i : Int) := by omega
      have t2 : (i : Int) < (n : Int) := by omega
      have t3 : (0 : Int) ≤ (jn : Int) := by omega
      have t4 : (jn : Int) < (n : Int) := by omega
      clear hown own1 h1' h2
      generalize dk[i]! = vi at *
      generalize dk[jn]! = vj at *
      go_wp2_with fail
      go_region
      all_goals
        go_wp2_with fail
        go_roundg (jn - 1 - (i + 1))
        case measure => omega
        case rel => exact ⟨i + 1, jn - 1, (jn : Int) - 1, swp dk i jn, by go_num, by go_num, fun h => ⟨by omega, by omega⟩, fun h => by omega, Nat.le_refl _, HS, own2, (hbel.drew.setCell (show base ≤ g from hB) _).setCell (show base ≤ g from hB) _, HQ⟩
    · have hnot := h2 hlt
      have hR := heq.out
      rw [reverseLoop, if_neg hnot, ← HD.out, Lib.reverseLoop_reverse] at hR
      rw [hR, Array.toList_reverse] at hown
      clear hR
      go_wp2_with fail
      go_end0
      exact ⟨rfl, hown, hbel⟩
end Go.Proofs.Ytpfpdlgfngkdjaa
