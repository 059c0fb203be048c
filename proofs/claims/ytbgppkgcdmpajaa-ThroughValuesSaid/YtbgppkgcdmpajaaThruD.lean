/-
  Walks of chapter 19: Values, Through, Shift. Conditions: slices no longer than the form lets them be, and no longer than their capacity.
-/
import Derived.Test.YtbgppkgcdmpajaaThruC
import Derived.Outline
namespace Go.Proofs.Ytbgppkgcdmpajaa
open Go.RowKit Go.Shelf
set_option linter.unusedVariables false

/-- It hands back a slice that reads as a list beside an error's number, and has written to its own memory alone. -/
def RetL2 (w : World) (l : List Nat) (k : Int) (e : Ending) (w' : World) : Prop := ∃ A c, e = .returned (.tuple #[.slice A l.length c, .int .i64 k]) ∧ Rs w' A (us l) ∧ Below w.heap.size w w'
theorem Rs.none (w : World) : Rs w none (us []) := fun h => absurd h (by simp [us])
theorem retL2_nil {w w' : World} {k : Int} (h : Below w.heap.size w w') : RetL2 w [] k (.returned (.tuple #[.slice none 0 0, .int .i64 k])) w' := ⟨none, 0, rfl, Rs.none _, h⟩
def valsT (c xs : List Nat) : List Nat × Int := if chkP c ≠ 0 then ([], chkP c) else if xs.any badP = true then ([], 2) else (valsP c xs, 0)
theorem evP_bad (c : List Nat) (x : Nat) (h : chkP c = 0) (hx : 2305843009213693951 ≤ x) : evP c x = (0, 2) := by unfold evP; rw [if_neg (by omega), if_pos hx]
theorem evP_ok (c : List Nat) (x : Nat) (h : chkP c = 0) (hx : x < 2305843009213693951) : evP c x = (pval c x % 2305843009213693951, 0) := by unfold evP; rw [if_neg (by omega), if_neg (by omega)]
set_option maxRecDepth 100000 in
set_option maxHeartbeats 4000000 in
theorem values_t (A A' : Option Addr) (c c' n m : Nat) (a xs : List Nat) (w : World) (ha : Rs w A (us a)) (hb : Rs w A' (us xs)) (hla : a.length = n) (hlb : xs.length = m) (hn : n ≤ 17592186043904) (hm : m ≤ 100000) (hwa : ∀ y ∈ a, y < 18446744073709551616) (hwb : ∀ y ∈ xs, y < 18446744073709551616) :
    Calls Try.prog 54 #[.slice A n c, .slice A' m c'] w (RetL2 w (valsT a xs).1 (valsT a xs).2) := by
  have HC := hide (fun W (h : Rs W A (us a)) => chk_p A c _ a W h (by omega) n hla)
  have HE := hide (fun x (hx : x < 18446744073709551616) W (h : Rs W A (us a)) => eval_p A c 0 a n x W h (by omega) hla hwa hx)
  have HT := hide (fun k (h : k < xs.length) => take_valsP (c := a) h)
  have HW := hide hwb
  have HLB := hide hlb
  have HLV := hide (len_valsP a xs)
  have HFULL := hide (show (valsP a xs).take m = valsP a xs by rw [← hlb, ← len_valsP a xs, List.take_length])
  have HEB := hide (fun x => evP_bad a x)
  have HEO := hide (fun x => evP_ok a x)
  have HV := hide (show valsT a xs = if chkP a ≠ 0 then ([], chkP a) else if xs.any badP = true then ([], 2) else (valsP a xs, 0) from rfl)
  generalize valsT a xs = r at *
  generalize valsP a xs = R at *
  generalize chkP a = k0 at *
  clear hla hlb hwa hwb
  by_cases hk0 : k0 = 0
  · subst hk0
    have hv := HV.out
    rw [if_neg (by simp)] at hv
    have HV := hide hv
    clear hv
    go_enter Try.func54, Try.ntmps54
    go_wp2_with fail
    refine (HC.out _ ha).mono ?_
    rintro e w1 ⟨rfl, rfl⟩
    go_wp2_with fail
    go_loopg [7, 9, 10, 11, 19, 23] m (fun g v7 v9 v10 v11 v19 v23 wr => ∃ (k : Nat) (A : Option Addr) (c : Nat), g = m - k ∧ k ≤ m ∧ v19 = .int .i64 k ∧ v7 = .slice A k c ∧ wr.ownsRow w.heap.size 22 1 (.slice A k c) k (us (R.take k)) ∧ Hid (∀ j (h : j < xs.length), j < k → badP xs[j] = false) ∧ Below w.heap.size w wr)
    case atStart => exact ⟨0, _, _, rfl, Nat.zero_le _, rfl, rfl, World.ownsRow_nil _ _ _ _, fun j _ h => absurd h (by omega), Below.refl _ _⟩
    case round =>
      obtain ⟨k, A1, c1, hg, hk, rfl, rfl, hown, hall, B⟩ := hrel
      have HG := hide hg
      clear hg
      by_cases hlt : k < m
      · have t1 : (k : Int) < (m : Int) := by omega
        have t2 : (0 : Int) ≤ (k : Int) := by omega
        have hkl : k < xs.length := by rw [HLB.out]; exact hlt
        obtain ⟨b, o, rfl, hbb, hc⟩ := (Rd.below hb B).u (k := k) hkl
        have RA : Rs wr A (us a) := (Rd.below ha B).more B.size
        have hxl := HW.out _ (List.getElem_mem hkl)
        have HEk := HE.out xs[k] hxl
        by_cases hbad : 2305843009213693951 ≤ xs[k]
        · rw [HEB.out _ (by first | rfl | trivial) hbad] at HEk
          have HN := hide (any_take hkl (badP_yes hbad))
          have HEK := hide HEk
          clear hbad HEk
          generalize xs[k] = y at *
          go_wp2_with fail
          refine (HEK.out _ RA).mono ?_
          rintro e w2 ⟨rfl, hb2⟩
          go_wp2_with fail
          go_ret2
          have hv := HV.out
          rw [HN.out, if_pos rfl] at hv
          rw [hv]
          exact retL2_nil (below_call B (Nat.le_refl _) hb2)
        · rw [HEO.out _ (by first | rfl | trivial) (Nat.lt_of_not_le hbad)] at HEk
          have HN := hide (badP_no (Nat.lt_of_not_le hbad))
          have HTk := hide (HT.out k hkl)
          have HEK := hide HEk
          clear hbad HEk
          generalize pval a xs[k] % 2305843009213693951 = v at *
          generalize hy : xs[k] = y at *
          have HY := hide hy
          clear hy
          go_wp2_with fail
          refine (HEK.out _ RA).mono ?_
          rintro e w2 ⟨rfl, hb2⟩
          replace hown := own_carry hown hb2
          replace B : Below w.heap.size w w2 := below_call B (Nat.le_refl _) hb2
          clear hb2 hc RA
          go_wp2_with (at_builtin; (refine wp_append1 rfl _ _ _ rfl w.heap.size 22 _ (.int .u64 0) 8 Try.underlying36 Try.infoU64' rfl _ _ _ _ rfl hown _ rfl rfl (by omega) (by omega) B.size ?_))
          intro A2 c2 w4 hown2 hb2
          go_wp2_with fail
          go_roundg (m - (k + 1))
          case measure => rw [HG.out]; omega
          case rel => exact ⟨k + 1, A2, c2, rfl, by omega, by go_num, rfl, by rw [HTk.out, us_append]; exact hown2, hide fun j h hj => by
                      by_cases e : j = k
                      · subst e; rw [HY.out]; exact HN.out
                      · exact hall.out j h (by omega), B.trans hb2⟩
      · have hkm : k = m := by omega
        subst hkm
        go_wp2_with fail
        go_ret2
        have hv := HV.out
        rw [any_none fun j hj => hall.out j hj (by rw [← HLB.out]; exact hj), if_neg (by simp)] at hv
        rw [hv]
        rw [HFULL.out] at hown
        exact ⟨A1, c1, by rw [HLV.out, HLB.out]; rfl, Rs.of_own hown, B⟩
  · have HK := hide hk0
    have e1 : (k0 != 0) = true := by rw [bne_iff_ne]; exact hk0
    have hv := HV.out
    rw [if_pos hk0] at hv
    have HV := hide hv
    clear hv hk0
    go_enter Try.func54, Try.ntmps54
    go_wp2_with fail
    refine (HC.out _ ha).mono ?_
    rintro e w1 ⟨rfl, rfl⟩
    go_wp2_with fail
    go_ret2
    rw [HV.out]
    exact retL2_nil (Below.refl _ _)
end Go.Proofs.Ytbgppkgcdmpajaa
