/-
  Walks of wide.Add4 and wide.Sub4: numbers of 256 bits as four words. Conditions: none.
-/
import Derived.Test.YtpfpdlgfngkdjaaFourM
import Derived.Test.YtpfpdlgfngkdjaaWord
import Derived.Test.YtpfpdlgfngkdjaaBox
import Derived.Deep.LoopGhost
import Derived.Deep.RegionWith
import Derived.Deep.RegionHeld3
namespace Go.Proofs.Ytpfpdlgfngkdjaa
open Go.RowKit Go.Shelf
set_option linter.unusedVariables false

/-- A box of four words f 0 .. f 3, live and not frozen. -/
def Words4 (w : World) (b : Nat) (f : Nat → Nat) : Prop :=
  (∀ i, i < 4 → w.cell? ⟨b, i, none⟩ = some (.int .u64 (f i : Nat))) ∧ (∀ i, i < 4 → w.frozen? ⟨b, i, none⟩ = false) ∧ b < w.heap.size
theorem Words4.call {w w' : World} {b : Nat} {f : Nat → Nat} (hb : Below w.heap.size w w') (h : Words4 w b f) : Words4 w' b f :=
  ⟨fun i hi => cell_call hb (h.1 i hi), fun i hi => (hb.frozen h.2.2).trans (h.2.1 i hi), Nat.lt_of_lt_of_le h.2.2 hb.size⟩
theorem Words4.alloc {w : World} {b : Nat} {f : Nat → Nat} (o : Obj) (h : Words4 w b f) : Words4 (w.alloc o) b f := Words4.call (w' := w.alloc o) ((Below.refl _ w).alloc (Nat.le_refl _) o) h
theorem Words4.drew {w : World} {b : Nat} {f : Nat → Nat} (h : Words4 w b f) : Words4 w.drew b f := h
theorem Words4.box {w : World} {b : Nat} {f : Nat → Nat} (h : Words4 w b f) : Box4 w b (.int .u64 (f 0 : Nat)) (.int .u64 (f 1 : Nat)) (.int .u64 (f 2 : Nat)) (.int .u64 (f 3 : Nat)) :=
  ⟨h.1 0 (by omega), h.1 1 (by omega), h.1 2 (by omega), h.1 3 (by omega), h.2.1 0 (by omega), h.2.1 1 (by omega), h.2.1 2 (by omega), h.2.1 3 (by omega), h.2.2⟩
theorem Words4.of {w : World} {b : Nat} {f : Nat → Nat} (h : Box4 w b (.int .u64 (f 0 : Nat)) (.int .u64 (f 1 : Nat)) (.int .u64 (f 2 : Nat)) (.int .u64 (f 3 : Nat))) : Words4 w b f := by
  obtain ⟨a0, a1, a2, a3, f0, f1, f2, f3, l⟩ := h
  refine ⟨fun i hi => ?_, fun i hi => ?_, l⟩
  · match i, hi with
    | 0, _ => exact a0
    | 1, _ => exact a1
    | 2, _ => exact a2
    | 3, _ => exact a3
  · match i, hi with
    | 0, _ => exact f0
    | 1, _ => exact f1
    | 2, _ => exact f2
    | 3, _ => exact f3
theorem Words4.store {w : World} {b k v : Nat} {f f' : Nat → Nat} (h : Words4 w b f) (hk : k < 4) (h1 : f' k = v) (h2 : ∀ i, i ≠ k → f' i = f i) : Words4 (w.setCell ⟨b, k, none⟩ (.int .u64 (v : Nat))) b f' := by
  refine ⟨fun i hi => ?_, fun i hi => ?_, by simpa [World.setCell] using h.2.2⟩
  · by_cases he : i = k
    · subst he
      obtain ⟨u, hu⟩ : ∃ u, w.cell? ⟨b, i, none⟩ = some u := ⟨_, h.1 i hi⟩
      have := World.cell?_setCell_same w ⟨b, i, none⟩ (.int .u64 (v : Nat)) (by rw [hu])
      rw [this, h1]
    · rw [World.cell?_setCell_other w ⟨b, k, none⟩ ⟨b, i, none⟩ _ (fun e => he (by injection e with _ e2; exact e2.symm)), h2 i he]
      exact h.1 i hi
  · have := h.2.1 i hi
    simpa [go_sem] using this
theorem Words4.far {w : World} {b b' k : Nat} {v : Value} {f : Nat → Nat} (h : Words4 w b f) (hne : b' ≠ b) : Words4 (w.setCell ⟨b', k, none⟩ v) b f := by
  refine ⟨fun i hi => ?_, fun i hi => ?_, by simpa [World.setCell] using h.2.2⟩
  · rw [World.cell?_setCell_other w ⟨b', k, none⟩ ⟨b, i, none⟩ _ (fun e => hne (by injection e))]
    exact h.1 i hi
  · have := h.2.1 i hi
    simpa [go_sem] using this
/-- The first k words of a number, the others of another one. -/
def mix4 (Z X k i : Nat) : Nat := if i < k then wd Z i else wd X i
theorem lo64_wd (X Y k : Nat) : lo64 (wd X k + wd Y k + wcarry X Y k) = wd (X + Y) k := wadd_word X Y k
theorem up64_wd (X Y k : Nat) : up64 (wd X k + wd Y k + wcarry X Y k) = wcarry X Y (k + 1) := wadd_carry X Y k

set_option maxHeartbeats 4000000 in
theorem add4_u (X Y : Nat) (w : World) : Calls Try.prog 57 #[.agg #[.int .u64 (wd (X) 0 : Nat), .int .u64 (wd (X) 1 : Nat), .int .u64 (wd (X) 2 : Nat), .int .u64 (wd (X) 3 : Nat)], .agg #[.int .u64 (wd (Y) 0 : Nat), .int .u64 (wd (Y) 1 : Nat), .int .u64 (wd (Y) 2 : Nat), .int .u64 (wd (Y) 3 : Nat)]] w fun e w' => e = .returned (.tuple #[.agg #[.int .u64 (wd (X + Y) 0 : Nat), .int .u64 (wd (X + Y) 1 : Nat), .int .u64 (wd (X + Y) 2 : Nat), .int .u64 (wd (X + Y) 3 : Nat)], .bool (((wcarry X Y 4 : Nat) : Int) == 1)]) ∧ Below w.heap.size w w' := by
  go_enter Try.func57, Try.ntmps57
  go_wp2
  have B0 : Below w.heap.size w (((w.alloc (.cells #[.int .u64 (wd X 0 : Nat), .int .u64 (wd X 1 : Nat), .int .u64 (wd X 2 : Nat), .int .u64 (wd X 3 : Nat)] 24)).alloc (.cells #[.int .u64 (wd Y 0 : Nat), .int .u64 (wd Y 1 : Nat), .int .u64 (wd Y 2 : Nat), .int .u64 (wd Y 3 : Nat)] 24)).alloc (.cells #[.int .u64 0, .int .u64 0, .int .u64 0, .int .u64 0] 24)) := by (repeat (first | exact Below.refl _ _ | assumption | (refine Below.alloc ?_ (by first | omega | (simp; done) | (simp; omega)) _) | (refine Below.setCell ?_ (by first | omega | (simp; done) | (simp; omega)) _) | refine Below.drew ?_ | refine below_drewN ?_ _))
  go_loopg [6, 8] 4 (fun m v6 v8 wr => ∃ k : Nat, m = 4 - k ∧ k ≤ 4 ∧ v8 = .int .i64 k ∧ v6 = .int .u64 (wcarry X Y k : Nat) ∧ Words4 wr w.heap.size (mix4 (X + Y) X k) ∧ Words4 wr (w.heap.size + 1) (wd Y) ∧ Box4 wr (w.heap.size + 1 + 1) (.int .u64 0) (.int .u64 0) (.int .u64 0) (.int .u64 0) ∧ Below w.heap.size w wr)
  case atStart =>
    refine ⟨0, rfl, by omega, rfl, val_i (by rw [wcarry_zero]; rfl), Words4.of ?_, Words4.of ?_, ?_, B0⟩
    all_goals (refine ⟨?_, ?_, ?_, ?_, ?_, ?_, ?_, ?_, ?_⟩ <;> simp [go_sem, mix4] <;> omega)
  case round =>
    obtain ⟨k, hm, hk, rfl, rfl, A, Bx, C, B⟩ := hrel
    clear B0
    have HM := hide hm
    clear hm
    have bz := B.size
    by_cases hlt : k < 4
    · have t1 : (k : Int) < 4 := by omega
      have t2 : (0 : Int) ≤ (k : Int) := by omega
      have c1 : wr.cell? ⟨w.heap.size, k, none⟩ = some (.int .u64 (wd X k : Nat)) := by
        rw [A.1 k hlt]
        show some (Value.int .u64 ((if k < k then _ else _ : Nat) : Int)) = _
        rw [if_neg (by omega)]
      have c2 := Bx.1 k hlt
      have c3 := A.2.1 k hlt
      have c4 := A.2.2
      have hcl := wcarry_le X Y k
      have HE : Hid (wcarry X Y (k + 1) = up64 (wd X k + wd Y k + wcarry X Y k)) := (up64_wd X Y k).symm
      have HA := hide A
      have HB := hide Bx
      have eAdd := add64 (wd X k) (wd Y k) (wcarry X Y k) hcl
      rw [lo64_wd, up64_wd] at eAdd
      generalize hcc1 : wcarry X Y (k + 1) = cc at *
      have HCC := hide hcc1
      clear hcc1
      generalize wcarry X Y k = cy at *
      clear A Bx
      go_wp2_with fail
      go_region_with (simp only [eAdd])
      all_goals
        go_wp2_with fail
        go_roundg (3 - k)
        case measure => rw [HM.out]; omega
        case rel =>
          refine ⟨k + 1, by omega, by omega, by go_num, val_i (by rw [HCC.out]), ?_, ?_, ?_, ?_⟩
          · exact Words4.store HA.out hlt (by unfold mix4; rw [if_pos (by omega)]) (fun i hi => by
              unfold mix4
              by_cases h : i < k
              · rw [if_pos (show i < k + 1 by omega), if_pos h]
              · rw [if_neg (show ¬ i < k + 1 by omega), if_neg h])
          · exact Words4.far HB.out (by omega)
          · obtain ⟨a0, a1, a2, a3, f0, f1, f2, f3, l⟩ := C
            refine ⟨?_, ?_, ?_, ?_, ?_, ?_, ?_, ?_, ?_⟩ <;> simp [go_sem, *]
          · exact (by (repeat (first | exact Below.refl _ _ | assumption | (refine Below.alloc ?_ (by first | omega | (simp; done) | (simp; omega)) _) | (refine Below.setCell ?_ (by first | omega | (simp; done) | (simp; omega)) _) | refine Below.drew ?_ | refine below_drewN ?_ _)))
    · have hk4 : k = 4 := by omega
      subst hk4
      have A4 := A.box
      have e0 : mix4 (X + Y) X 4 0 = wd (X + Y) 0 := rfl
      have e1 : mix4 (X + Y) X 4 1 = wd (X + Y) 1 := rfl
      have e2 : mix4 (X + Y) X 4 2 = wd (X + Y) 2 := rfl
      have e3 : mix4 (X + Y) X 4 3 = wd (X + Y) 3 := rfl
      rw [e0, e1, e2, e3] at A4
      clear e0 e1 e2 e3 A Bx
      generalize hz0 : wd (X + Y) 0 = z0 at *
      generalize hz1 : wd (X + Y) 1 = z1 at *
      generalize hz2 : wd (X + Y) 2 = z2 at *
      generalize hz3 : wd (X + Y) 3 = z3 at *
      generalize hcc : wcarry X Y 4 = cc at *
      have HZ := hide (show wd (X + Y) 0 = z0 ∧ wd (X + Y) 1 = z1 ∧ wd (X + Y) 2 = z2 ∧ wd (X + Y) 3 = z3 ∧ wcarry X Y 4 = cc from ⟨hz0, hz1, hz2, hz3, hcc⟩)
      clear hz0 hz1 hz2 hz3 hcc
      go_wp2_with fail
      exact bodyPost_ret (v := .tuple #[.agg #[.int .u64 z0, .int .u64 z1, .int .u64 z2, .int .u64 z3], .bool ((cc : Int) == 1)]) (by simp [results, Try.results57, go_sem, C]) rfl ⟨by rw [HZ.out.1, HZ.out.2.1, HZ.out.2.2.1, HZ.out.2.2.2.1, HZ.out.2.2.2.2], by (repeat (first | exact Below.refl _ _ | assumption | (refine Below.alloc ?_ (by first | omega | (simp; done) | (simp; omega)) _) | (refine Below.setCell ?_ (by first | omega | (simp; done) | (simp; omega)) _) | refine Below.drew ?_ | refine below_drewN ?_ _))⟩
theorem dif64_wd (X Y k : Nat) (h : k < 4) : dif64 (wd X k) (wd Y k) (wlack X Y k) = wd (dif256 X Y) k := wsub_word X Y k h
theorem bor64_wd (X Y k : Nat) : bor64 (wd X k) (wd Y k) (wlack X Y k) = wlack X Y (k + 1) := wsub_lack X Y k

end Go.Proofs.Ytpfpdlgfngkdjaa
