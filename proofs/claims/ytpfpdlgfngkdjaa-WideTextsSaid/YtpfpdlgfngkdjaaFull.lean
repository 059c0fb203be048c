/-
  Walk of wide.Full: the whole product of two numbers of 128 bits. Conditions: none.
-/
import Derived.Test.YtpfpdlgfngkdjaaFour
import Derived.Test.YtpfpdlgfngkdjaaBoxB
import Derived.Test.YtpfpdlgfngkdjaaWideA
import Derived.Deep.DeepCutAuto
namespace Go.Proofs.Ytpfpdlgfngkdjaa
open Go.RowKit Go.Shelf
set_option linter.unusedVariables false

set_option maxRecDepth 100000 in
set_option maxHeartbeats 2000000 in
theorem full_g (ah al bh bl q0 l0 q1 l1 q2 l2 q3 l3 m0 m1 m2 m3 f0 f1 f2 f3 : Nat) (c1 c2 : Bool) (w : World)
    (h0 : ∀ W, Calls Try.prog 22 #[.int .u64 al, .int .u64 bl] W fun e w' => e = .returned (.agg #[.int .u64 q0, .int .u64 l0]) ∧ Below W.heap.size W w')
    (h1 : ∀ W, Calls Try.prog 22 #[.int .u64 ah, .int .u64 bh] W fun e w' => e = .returned (.agg #[.int .u64 q1, .int .u64 l1]) ∧ Below W.heap.size W w')
    (h2 : ∀ W, Calls Try.prog 22 #[.int .u64 ah, .int .u64 bl] W fun e w' => e = .returned (.agg #[.int .u64 q2, .int .u64 l2]) ∧ Below W.heap.size W w')
    (h3 : ∀ W, Calls Try.prog 22 #[.int .u64 al, .int .u64 bh] W fun e w' => e = .returned (.agg #[.int .u64 q3, .int .u64 l3]) ∧ Below W.heap.size W w')
    (h4 : ∀ W, Calls Try.prog 57 #[.agg #[.int .u64 l0, .int .u64 q0, .int .u64 l1, .int .u64 q1], .agg #[.int .u64 0, .int .u64 l2, .int .u64 q2, .int .u64 0]] W fun e w' => e = .returned (.tuple #[.agg #[.int .u64 m0, .int .u64 m1, .int .u64 m2, .int .u64 m3], .bool c1]) ∧ Below W.heap.size W w')
    (h5 : ∀ W, Calls Try.prog 57 #[.agg #[.int .u64 m0, .int .u64 m1, .int .u64 m2, .int .u64 m3], .agg #[.int .u64 0, .int .u64 l3, .int .u64 q3, .int .u64 0]] W fun e w' => e = .returned (.tuple #[.agg #[.int .u64 f0, .int .u64 f1, .int .u64 f2, .int .u64 f3], .bool c2]) ∧ Below W.heap.size W w')
    : Calls Try.prog 56 #[.agg #[.int .u64 ah, .int .u64 al], .agg #[.int .u64 bh, .int .u64 bl]] w fun e w' => e = .returned (.agg #[.int .u64 f0, .int .u64 f1, .int .u64 f2, .int .u64 f3]) ∧ Below w.heap.size w w' := by
  have H0 := hide h0
  have H1 := hide h1
  have H2 := hide h2
  have H3 := hide h3
  have H4 := hide h4
  have H5 := hide h5
  clear h0 h1 h2 h3 h4 h5
  go_enter Try.func56, Try.ntmps56
  go_wp2_with fail
  have B : Below w.heap.size w (((w.alloc (.cells #[.int .u64 ah, .int .u64 al] 38)).alloc (.cells #[.int .u64 bh, .int .u64 bl] 38)).alloc (.cells #[.int .u64 0, .int .u64 0, .int .u64 0, .int .u64 0] 24)) := by (repeat (first | exact Below.refl _ _ | assumption | (refine Below.alloc ?_ (by first | omega | (simp; done) | (simp; omega)) _) | (refine Below.setCell ?_ (by first | omega | (simp; done) | (simp; omega)) _) | refine Below.drew ?_ | refine below_drewN ?_ _))
  have A1 : Box2 (((w.alloc (.cells #[.int .u64 ah, .int .u64 al] 38)).alloc (.cells #[.int .u64 bh, .int .u64 bl] 38)).alloc (.cells #[.int .u64 0, .int .u64 0, .int .u64 0, .int .u64 0] 24)) w.heap.size (.int .u64 ah) (.int .u64 al) := (by (refine ⟨?_, ?_, ?_, ?_, ?_⟩ <;> simp [go_sem] <;> omega))
  have B1 : Box2 (((w.alloc (.cells #[.int .u64 ah, .int .u64 al] 38)).alloc (.cells #[.int .u64 bh, .int .u64 bl] 38)).alloc (.cells #[.int .u64 0, .int .u64 0, .int .u64 0, .int .u64 0] 24)) (w.heap.size + 1) (.int .u64 bh) (.int .u64 bl) := (by (refine ⟨?_, ?_, ?_, ?_, ?_⟩ <;> simp [go_sem] <;> omega))
  have R : Box4 (((w.alloc (.cells #[.int .u64 ah, .int .u64 al] 38)).alloc (.cells #[.int .u64 bh, .int .u64 bl] 38)).alloc (.cells #[.int .u64 0, .int .u64 0, .int .u64 0, .int .u64 0] 24)) (w.heap.size + 1 + 1) (.int .u64 0) (.int .u64 0) (.int .u64 0) (.int .u64 0) := by (refine ⟨?_, ?_, ?_, ?_, ?_, ?_, ?_, ?_, ?_⟩ <;> simp [go_sem] <;> omega)
  generalize ((w.alloc (.cells #[.int .u64 ah, .int .u64 al] 38)).alloc (.cells #[.int .u64 bh, .int .u64 bl] 38)).alloc (.cells #[.int .u64 0, .int .u64 0, .int .u64 0, .int .u64 0] 24) = W at *
  go_upto_region 1 with fail
  go_cut [5, 6] (fun s5 s6 wx => ∃ n5 n6 : Nat, s5 = .pointer (some ⟨n5, 0, none⟩) ∧ s6 = .pointer (some ⟨n6, 0, none⟩) ∧ Box2 wx n5 (.int .u64 q0) (.int .u64 l0) ∧ Box2 wx n6 (.int .u64 q1) (.int .u64 l1) ∧ Box2 wx w.heap.size (.int .u64 ah) (.int .u64 al) ∧ Box2 wx (w.heap.size + 1) (.int .u64 bh) (.int .u64 bl) ∧ Box4 wx (w.heap.size + 1 + 1) (.int .u64 0) (.int .u64 0) (.int .u64 0) (.int .u64 0) ∧ Below w.heap.size w wx)
  case first =>
    have hzW := R.2.2.2.2.2.2.2.2
    go_region_held3 (fun v => Box2 v w.heap.size (.int .u64 ah) (.int .u64 al) ∧ Box2 v (w.heap.size + 1) (.int .u64 bh) (.int .u64 bl)) (first | with_reducible exact ⟨A1, B1⟩ | with_reducible exact ⟨Box2.drew A1, Box2.drew B1⟩ | with_reducible exact ⟨Box2.drew (Box2.alloc _ A1), Box2.drew (Box2.alloc _ B1)⟩ | with_reducible exact ⟨Box2.drew (Box2.alloc _ (Box2.alloc _ A1)), Box2.drew (Box2.alloc _ (Box2.alloc _ B1))⟩ | with_reducible exact ⟨Box2.alloc _ A1, Box2.alloc _ B1⟩ | with_reducible exact ⟨Box2.alloc _ (Box2.alloc _ A1), Box2.alloc _ (Box2.alloc _ B1)⟩ | with_reducible exact ⟨Box2.far2 A1 (by omega), Box2.far2 B1 (by omega)⟩ | with_reducible exact ⟨Box2.far2 (Box2.far2 A1 (by omega)) (by omega), Box2.far2 (Box2.far2 B1 (by omega)) (by omega)⟩ | with_reducible exact ⟨Box2.far2 (Box2.alloc _ A1) (by omega), Box2.far2 (Box2.alloc _ B1) (by omega)⟩ | with_reducible exact ⟨Box2.alloc _ (Box2.far2 A1 (by omega)), Box2.alloc _ (Box2.far2 B1 (by omega))⟩ | with_reducible exact ⟨Box2.far2 (Box2.alloc _ (Box2.alloc _ A1)) (by omega), Box2.far2 (Box2.alloc _ (Box2.alloc _ B1)) (by omega)⟩) (first | (go_at_call 22; (with_reducible refine (H0.out _).mono ?_); rintro e w3 ⟨rfl, hb⟩; (first | (with_reducible have N56 := Box2.new2d hb; obtain ⟨N5, N6⟩ := N56) | (with_reducible have N5 := Box2.newd hb) | skip); replace A1 := Box2.call hb (by first | exact A1 | exact Box2.alloc _ A1 | exact Box2.alloc _ (Box2.alloc _ A1)); replace B1 := Box2.call hb (by first | exact B1 | exact Box2.alloc _ B1 | exact Box2.alloc _ (Box2.alloc _ B1)); replace R := Box4.call hb (by first | exact R | exact Box4.alloc _ R | exact Box4.alloc _ (Box4.alloc _ R)); replace B : Below w.heap.size w w3 := below_call (by (repeat (first | exact Below.refl _ _ | assumption | (refine Below.alloc ?_ (by first | omega | (simp; done) | (simp; omega)) _) | (refine Below.setCell ?_ (by first | omega | (simp; done) | (simp; omega)) _) | refine Below.drew ?_ | refine below_drewN ?_ _))) (Nat.le_refl _) hb; have hz3 := hb.size; have hy3 := R.2.2.2.2.2.2.2.2; (first | (have hM3 : W.heap.size ≠ w3.heap.size := Nat.ne_of_lt N5.2.2.2.2; have hM4 := hM3.symm) | skip); clear hb) | (go_at_call 22; (with_reducible refine (H1.out _).mono ?_); rintro e w4 ⟨rfl, hb⟩; (first | (with_reducible replace N5 := Box2.call hb N5; with_reducible replace N6 := Box2.call hb N6) | (with_reducible have N6 := Box2.new hb; with_reducible replace N5 := Box2.call hb (Box2.alloc _ N5)) | (with_reducible replace N5 := Box2.call hb N5) | (with_reducible have N56 := Box2.new2 hb; obtain ⟨N5, N6⟩ := N56) | (with_reducible have N5 := Box2.new hb) | skip); replace A1 := Box2.call hb (by first | exact A1 | exact Box2.alloc _ A1 | exact Box2.alloc _ (Box2.alloc _ A1)); replace B1 := Box2.call hb (by first | exact B1 | exact Box2.alloc _ B1 | exact Box2.alloc _ (Box2.alloc _ B1)); replace R := Box4.call hb (by first | exact R | exact Box4.alloc _ R | exact Box4.alloc _ (Box4.alloc _ R)); replace B : Below w.heap.size w w4 := below_call (by (repeat (first | exact Below.refl _ _ | assumption | (refine Below.alloc ?_ (by first | omega | (simp; done) | (simp; omega)) _) | (refine Below.setCell ?_ (by first | omega | (simp; done) | (simp; omega)) _) | refine Below.drew ?_ | refine below_drewN ?_ _))) (Nat.le_refl _) hb; have hz4 := hb.size; have hy4 := R.2.2.2.2.2.2.2.2; clear hb))
    all_goals
      have bz := B.size
      clear H0 H1 H2 H3 H4 H5
      go_wp2_with fail
      go_meet
      refine ⟨_, _, rfl, rfl, ?_, ?_, ?_, ?_, ?_, ?_⟩
      · exact (by (refine ⟨?_, ?_, ?_, ?_, ?_⟩ <;> simp [go_sem, *] <;> omega))
      · exact (by (refine ⟨?_, ?_, ?_, ?_, ?_⟩ <;> simp [go_sem, *] <;> omega))
      · first | with_reducible exact A1 | with_reducible exact Box2.drew A1 | with_reducible exact Box2.drew (Box2.alloc _ A1) | with_reducible exact Box2.drew (Box2.alloc _ (Box2.alloc _ A1)) | with_reducible exact Box2.alloc _ A1 | with_reducible exact Box2.alloc _ (Box2.alloc _ A1) | with_reducible exact Box2.far2 A1 (by omega) | with_reducible exact Box2.far2 (Box2.far2 A1 (by omega)) (by omega) | with_reducible exact Box2.far2 (Box2.alloc _ A1) (by omega) | with_reducible exact Box2.alloc _ (Box2.far2 A1 (by omega)) | with_reducible exact Box2.far2 (Box2.alloc _ (Box2.alloc _ A1)) (by omega)
      · first | with_reducible exact B1 | with_reducible exact Box2.drew B1 | with_reducible exact Box2.drew (Box2.alloc _ B1) | with_reducible exact Box2.drew (Box2.alloc _ (Box2.alloc _ B1)) | with_reducible exact Box2.alloc _ B1 | with_reducible exact Box2.alloc _ (Box2.alloc _ B1) | with_reducible exact Box2.far2 B1 (by omega) | with_reducible exact Box2.far2 (Box2.far2 B1 (by omega)) (by omega) | with_reducible exact Box2.far2 (Box2.alloc _ B1) (by omega) | with_reducible exact Box2.alloc _ (Box2.far2 B1 (by omega)) | with_reducible exact Box2.far2 (Box2.alloc _ (Box2.alloc _ B1)) (by omega)
      · first | with_reducible exact R | with_reducible exact Box4.alloc _ R | with_reducible exact Box4.alloc _ (Box4.alloc _ R) | with_reducible exact Box4.far2 R (by omega) | with_reducible exact Box4.far2 (Box4.far2 R (by omega)) (by omega) | with_reducible exact Box4.far2 (Box4.alloc _ R) (by omega) | with_reducible exact Box4.alloc _ (Box4.far2 R (by omega)) | with_reducible exact Box4.far2 (Box4.alloc _ (Box4.alloc _ R)) (by omega)
      · (repeat (first | exact Below.refl _ _ | assumption | (refine Below.alloc ?_ (by first | omega | (simp; done) | (simp; omega)) _) | (refine Below.setCell ?_ (by first | omega | (simp; done) | (simp; omega)) _) | refine Below.drew ?_ | refine below_drewN ?_ _))
  case rest =>
    obtain ⟨n5, n6, rfl, rfl, N5, N6, A1, B1, R, B⟩ := hcut
    have bz := B.size
    go_wp2_with fail
    have hn7 : w.heap.size + 1 + 1 < wc.heap.size := R.2.2.2.2.2.2.2.2
    have T7 : Box4 (wc.alloc (.cells #[.int .u64 l0, .int .u64 q0, .int .u64 l1, .int .u64 q1] 24)) wc.heap.size (.int .u64 l0) (.int .u64 q0) (.int .u64 l1) (.int .u64 q1) := by (refine ⟨?_, ?_, ?_, ?_, ?_, ?_, ?_, ?_, ?_⟩ <;> simp [go_sem] <;> omega)
    replace A1 := Box2.alloc (.cells #[.int .u64 l0, .int .u64 q0, .int .u64 l1, .int .u64 q1] 24) A1
    replace B1 := Box2.alloc (.cells #[.int .u64 l0, .int .u64 q0, .int .u64 l1, .int .u64 q1] 24) B1
    replace R := Box4.alloc (.cells #[.int .u64 l0, .int .u64 q0, .int .u64 l1, .int .u64 q1] 24) R
    replace B := Below.alloc B B.size (.cells #[.int .u64 l0, .int .u64 q0, .int .u64 l1, .int .u64 q1] 24)
    clear N5 N6 bz
    generalize wc.alloc (.cells #[.int .u64 l0, .int .u64 q0, .int .u64 l1, .int .u64 q1] 24) = W7 at *
    generalize wc.heap.size = n7 at *
    go_region_held3 (fun v => Box2 v w.heap.size (.int .u64 ah) (.int .u64 al) ∧ Box2 v (w.heap.size + 1) (.int .u64 bh) (.int .u64 bl)) (first | exact ⟨A1, B1⟩ | with_reducible exact ⟨Box2.alloc _ A1, Box2.alloc _ B1⟩) (first | (go_at_call 22; (with_reducible refine (H2.out _).mono ?_); rintro e w3 ⟨rfl, hb⟩; replace A1 := Box2.call hb A1; replace B1 := Box2.call hb B1; replace R := Box4.call hb R; replace T7 := Box4.call hb T7; replace B : Below w.heap.size w w3 := below_call (by (repeat (first | exact Below.refl _ _ | assumption | (refine Below.alloc ?_ (by first | omega | (simp; done) | (simp; omega)) _) | (refine Below.setCell ?_ (by first | omega | (simp; done) | (simp; omega)) _) | refine Below.drew ?_ | refine below_drewN ?_ _))) (Nat.le_refl _) hb; clear hb) | (go_at_call 22; (with_reducible refine (H3.out _).mono ?_); rintro e w4 ⟨rfl, hb⟩; replace A1 := Box2.call hb A1; replace B1 := Box2.call hb B1; replace R := Box4.call hb R; replace T7 := Box4.call hb T7; replace B : Below w.heap.size w w4 := below_call (by (repeat (first | exact Below.refl _ _ | assumption | (refine Below.alloc ?_ (by first | omega | (simp; done) | (simp; omega)) _) | (refine Below.setCell ?_ (by first | omega | (simp; done) | (simp; omega)) _) | refine Below.drew ?_ | refine below_drewN ?_ _))) (Nat.le_refl _) hb; clear hb))
    go_wp2_with fail
    have hn8 : n7 < w4.heap.size := T7.2.2.2.2.2.2.2.2
    have hnR : w.heap.size + 1 + 1 < w4.heap.size := R.2.2.2.2.2.2.2.2
    have SL : Box4 (w4.alloc (.cells #[.int .u64 q2, .int .u64 l2, .int .u64 q3, .int .u64 l3] 38)) w4.heap.size (.int .u64 q2) (.int .u64 l2) (.int .u64 q3) (.int .u64 l3) := by (refine ⟨?_, ?_, ?_, ?_, ?_, ?_, ?_, ?_, ?_⟩ <;> simp [go_sem] <;> omega)
    replace R := Box4.alloc (.cells #[.int .u64 q2, .int .u64 l2, .int .u64 q3, .int .u64 l3] 38) R
    replace T7 := Box4.alloc (.cells #[.int .u64 q2, .int .u64 l2, .int .u64 q3, .int .u64 l3] 38) T7
    replace B := Below.alloc B B.size (.cells #[.int .u64 q2, .int .u64 l2, .int .u64 q3, .int .u64 l3] 38)
    clear A1 B1
    generalize w4.alloc (.cells #[.int .u64 q2, .int .u64 l2, .int .u64 q3, .int .u64 l3] 38) = W8 at *
    generalize w4.heap.size = n8 at *
    have e1 : n7 ≠ n8 := by omega
    have e2 : n8 ≠ n7 := by omega
    have e3 : n7 ≠ w.heap.size + 1 + 1 := by omega
    have e4 : n8 ≠ w.heap.size + 1 + 1 := by omega
    have e5 : w.heap.size + 1 + 1 ≠ n7 := by omega
    have e6 : w.heap.size + 1 + 1 ≠ n8 := by omega
    refine wp_loop_rounds 3 ?_
    rw [rounds_succ]
    go_wp2_with fail
    refine (H4.out _).mono ?_
    rintro e w9 ⟨rfl, hb⟩
    have bz := B.size
    replace R := Box4.call hb (Box4.alloc _ R)
    replace T7 := Box4.call hb (Box4.alloc _ T7)
    replace SL := Box4.call hb (Box4.alloc _ SL)
    replace B : Below w.heap.size w w9 := below_call (by (repeat (first | exact Below.refl _ _ | assumption | (refine Below.alloc ?_ (by first | omega | (simp; done) | (simp; omega)) _) | (refine Below.setCell ?_ (by first | omega | (simp; done) | (simp; omega)) _) | refine Below.drew ?_ | refine below_drewN ?_ _))) (Nat.le_refl _) hb
    clear hb bz
    go_wp2_with fail
    rw [rounds_succ]
    go_wp2_with fail
    refine (H5.out _).mono ?_
    rintro e w10 ⟨rfl, hb⟩
    have bz := B.size
    replace R := Box4.call hb (Box4.alloc _ (Box4.far4 R e3))
    replace T7 := Box4.call hb (Box4.alloc _ (Box4.put _ _ _ _ T7))
    replace B : Below w.heap.size w w10 := below_call (by (repeat (first | exact Below.refl _ _ | assumption | (refine Below.alloc ?_ (by first | omega | (simp; done) | (simp; omega)) _) | (refine Below.setCell ?_ (by first | omega | (simp; done) | (simp; omega)) _) | refine Below.drew ?_ | refine below_drewN ?_ _))) (Nat.le_refl _) hb
    clear hb bz SL
    go_wp2_with fail
    rw [rounds_succ]
    go_wp2_with fail
    have R2 : Box4 ((((((((w10.setCell ⟨n7, 0, none⟩ (.int .u64 f0)).setCell ⟨n7, 1, none⟩ (.int .u64 f1)).setCell ⟨n7, 2, none⟩ (.int .u64 f2)).setCell ⟨n7, 3, none⟩ (.int .u64 f3)).setCell ⟨w.heap.size + 1 + 1, 0, none⟩ (.int .u64 f0)).setCell ⟨w.heap.size + 1 + 1, 1, none⟩ (.int .u64 f1)).setCell ⟨w.heap.size + 1 + 1, 2, none⟩ (.int .u64 f2)).setCell ⟨w.heap.size + 1 + 1, 3, none⟩ (.int .u64 f3)) (w.heap.size + 1 + 1) (.int .u64 f0) (.int .u64 f1) (.int .u64 f2) (.int .u64 f3) := Box4.put _ _ _ _ (Box4.far4 R e3)
    have B2 : Below w.heap.size w ((((((((w10.setCell ⟨n7, 0, none⟩ (.int .u64 f0)).setCell ⟨n7, 1, none⟩ (.int .u64 f1)).setCell ⟨n7, 2, none⟩ (.int .u64 f2)).setCell ⟨n7, 3, none⟩ (.int .u64 f3)).setCell ⟨w.heap.size + 1 + 1, 0, none⟩ (.int .u64 f0)).setCell ⟨w.heap.size + 1 + 1, 1, none⟩ (.int .u64 f1)).setCell ⟨w.heap.size + 1 + 1, 2, none⟩ (.int .u64 f2)).setCell ⟨w.heap.size + 1 + 1, 3, none⟩ (.int .u64 f3)) := (Below.setCell (Below.setCell (Below.setCell (Below.setCell (Below.setCell (Below.setCell (Below.setCell (Below.setCell B (show w.heap.size ≤ n7 by omega) _) (show w.heap.size ≤ n7 by omega) _) (show w.heap.size ≤ n7 by omega) _) (show w.heap.size ≤ n7 by omega) _) (show w.heap.size ≤ w.heap.size + 1 + 1 by omega) _) (show w.heap.size ≤ w.heap.size + 1 + 1 by omega) _) (show w.heap.size ≤ w.heap.size + 1 + 1 by omega) _) (show w.heap.size ≤ w.heap.size + 1 + 1 by omega) _)
    clear R B T7
    generalize ((((((((w10.setCell ⟨n7, 0, none⟩ (.int .u64 f0)).setCell ⟨n7, 1, none⟩ (.int .u64 f1)).setCell ⟨n7, 2, none⟩ (.int .u64 f2)).setCell ⟨n7, 3, none⟩ (.int .u64 f3)).setCell ⟨w.heap.size + 1 + 1, 0, none⟩ (.int .u64 f0)).setCell ⟨w.heap.size + 1 + 1, 1, none⟩ (.int .u64 f1)).setCell ⟨w.heap.size + 1 + 1, 2, none⟩ (.int .u64 f2)).setCell ⟨w.heap.size + 1 + 1, 3, none⟩ (.int .u64 f3)) = Wf at *
    exact bodyPost_ret (v := .agg #[.int .u64 f0, .int .u64 f1, .int .u64 f2, .int .u64 f3]) (by simp [results, Try.results56, go_sem, R2]) rfl ⟨rfl, B2⟩
end Go.Proofs.Ytpfpdlgfngkdjaa
