/-
  Walk of the law ModnOdds, at one case of four. Conditions: the library's table is as its text lays it.
-/
import Derived.Test.YtppmkoglpfdjnaaDoorOddB
import Derived.Deep.RegionWith
namespace Go.Proofs.YtppmkoglpfdjnaaDoor
open Go.RowKit
set_option linter.unusedVariables false

set_option maxRecDepth 100000 in
set_option maxHeartbeats 16000000 in
theorem odds_g10 (a x bk z k ch cl yh yl ph pl : Nat) (b1 b2 b3 : Bool) (HB1 : Hid (b1 = true)) (HB2 : Hid (b2 = false)) (L1 L2 L3 : List Int) (w : World)
    (F1 : ((a : Int) % 2 == 1) = b1) (F2 : ((cl : Int) % 2 == 1) = b2) (F3 : b1 = true → IntKind.u64.wrap ((a : Int) * (x : Int)) = 1 ∧ a = bk) (F4 : b1 = false → x = 0)
    (F5 : b2 = true → ph = 0 ∧ pl = 1) (F5' : b2 = false → yh = 0 ∧ yl = 0) (F6 : (a = 0 ∧ z = 0) ∨ (a ≠ 0 ∧ z % 2 = 1 ∧ IntKind.u64.wrap ((z : Int) * 2 ^ k) = (a : Int))) (hk : k ≤ 64)
    (H0 : ∀ W, Calls Tryd.prog 4 #[] W fun e w' => e = .returned (.bool true) ∧ Below W.heap.size W w')
    (H1 : ∀ W, Calls Tryd.prog 5 #[.int .u64 a] W fun e w' => e = .returned (.tuple #[.int .u64 x, .bool b1]) ∧ Below W.heap.size W w')
    (H2 : ∀ W, Calls Tryd.prog 6 #[.agg #[.int .u64 ch, .int .u64 cl]] W fun e w' => e = .returned (.tuple #[.agg #[.int .u64 yh, .int .u64 yl], .bool b2]) ∧ Below W.heap.size W w')
    (H3 : ∀ W, Calls Tryd.prog 5 #[.int .u64 x] W fun e w' => e = .returned (.tuple #[.int .u64 bk, .bool b3]) ∧ Below W.heap.size W w')
    (H4 : ∀ W, Calls Tryd.prog 9 #[.agg #[.int .u64 ch, .int .u64 cl]] W fun e w' => ∃ A d, e = .returned (.slice A 128 d) ∧ Rs w' A (is L1) ∧ Below W.heap.size W w')
    (H5 : ∀ W, Calls Tryd.prog 9 #[.agg #[.int .u64 yh, .int .u64 yl]] W fun e w' => ∃ A d, e = .returned (.slice A 128 d) ∧ Rs w' A (is L2) ∧ Below W.heap.size W w')
    (H6 : ∀ W A d A' d', Rs W A (is L1) → Rs W A' (is L2) → Calls Tryd.prog 8 #[.slice A 128 d, .slice A' 128 d', .int .i64 128] W fun e w' => ∃ A d, e = .returned (.slice A 128 d) ∧ Rs w' A (is L3) ∧ Below W.heap.size W w')
    (H7 : ∀ W A d, Rs W A (is L3) → Calls Tryd.prog 7 #[.slice A 128 d] W fun e w' => e = .returned (.agg #[.int .u64 ph, .int .u64 pl]) ∧ Below W.heap.size W w')
    (H8 : ∀ W, Calls Tryd.prog 10 #[.agg #[.int .u64 ch, .int .u64 cl], .agg #[.int .u64 yh, .int .u64 yl]] W fun e w' => e = .returned (.agg #[.int .u64 ph, .int .u64 pl]) ∧ Below W.heap.size W w')
    (H9 : ∀ W, Below w.heap.size w W → Calls Tryd.prog 11 #[.int .u64 a] W fun e w' => e = .returned (.tuple #[.int .u64 z, .int .i64 k]) ∧ Below W.heap.size W w')
    (H10 : ∀ W, Calls Tryd.prog 12 #[.int .u64 a] W fun e w' => e = .returned (.int .i64 k) ∧ Below W.heap.size W w') :
    Calls Tryd.prog 3 #[.int .u64 a, .agg #[.int .u64 ch, .int .u64 cl]] w fun e w' => e = .returned (.bool true) ∧ Below w.heap.size w w' := by
  replace H0 := hide H0
  replace H1 := hide H1
  replace H2 := hide H2
  replace H3 := hide H3
  replace H4 := hide H4
  replace H5 := hide H5
  replace H6 := hide H6
  replace H7 := hide H7
  replace H8 := hide H8
  replace H9 := hide H9
  replace H10 := hide H10
  have HF6 := hide F6
  have HF5 := hide F5
  have HF5' := hide F5'
  have t0 : (0 : Int) ≤ (k : Int) := by omega
  have t1 : (k : Int) ≤ 64 := by omega
  have hwk : IntKind.u64.wrap (k : Int) = (k : Int) := by rw [IntKind.wrap_u64]; omega
  obtain ⟨W0, hW0⟩ : ∃ W0, W0 = w.alloc (.cells #[.int .u64 ch, .int .u64 cl] 24) := ⟨_, rfl⟩
  have C1 : Box2 W0 w.heap.size (.int .u64 ch) (.int .u64 cl) := by rw [hW0]; refine ⟨?_, ?_, ?_, ?_, ?_⟩ <;> simp [go_sem]
  have B : Below w.heap.size w W0 := by rw [hW0]; exact (Below.refl _ _).alloc (Nat.le_refl _) _
  clear F5 F5' F6 hk
  go_enter Tryd.func3, Tryd.ntmps3
  go_wp2_with fail
  rw [← hW0]
  clear hW0
  refine (H0.out _).mono ?_
  rintro e w1 ⟨rfl, hb⟩
  replace C1 := Box2.call hb C1
  replace B : Below w.heap.size w w1 := below_call B (Nat.le_refl _) hb
  clear hb
  go_wp2_with fail
  refine (H1.out _).mono ?_
  rintro e w2 ⟨rfl, hb⟩
  replace C1 := Box2.call hb C1
  replace B : Below w.heap.size w w2 := below_call B (Nat.le_refl _) hb
  clear hb
  go_wp2_with fail
  refine (H2.out _).mono ?_
  rintro e w3 ⟨rfl, hb⟩
  replace C1 := Box2.call hb C1
  replace B : Below w.heap.size w w3 := below_call B (Nat.le_refl _) hb
  clear hb
  have bz := B.size
  have cz := C1.2.2.2.2
  obtain ⟨n7, hn7⟩ : ∃ n7, n7 = w3.heap.size := ⟨_, rfl⟩
  have hlt7 : w.heap.size < n7 := by omega
  obtain ⟨W4, hW4⟩ : ∃ W4, W4 = w3.alloc (.cells #[.int .u64 yh, .int .u64 yl] 24) := ⟨_, rfl⟩
  have Y1 : Box2 W4 n7 (.int .u64 yh) (.int .u64 yl) := by rw [hW4, hn7]; refine ⟨?_, ?_, ?_, ?_, ?_⟩ <;> simp [go_sem]
  have C4 : Box2 W4 w.heap.size (.int .u64 ch) (.int .u64 cl) := by rw [hW4]; exact Box2.alloc _ C1
  have B4 : Below w.heap.size w W4 := by rw [hW4]; exact B.alloc bz _
  clear C1 B
  go_wp2_with fail
  rw [← hW4, ← hn7]
  clear hW4 hn7
  refine (H3.out _).mono ?_
  rintro e w5 ⟨rfl, hb⟩
  have C1 := Box2.call hb C4
  replace Y1 := Box2.call hb Y1
  have B : Below w.heap.size w w5 := below_call B4 (Nat.le_refl _) hb
  clear hb C4 B4 bz cz
  have c2 := C1.2.1
  have hb1 := HB1.out
  have hb2 := HB2.out
  clear HB1 HB2
  subst hb1
  subst hb2
  have HP := hide (HF5'.out rfl)
  clear HF5 HF5'
  obtain ⟨hm, rfl⟩ := F3 rfl
  have g1 : ((a : Int) != (a : Int)) = false := by simp
  clear F3 F4
  go_wp2_with fail
  go_cut [11] (fun s11 wx => ∃ n11 : Nat, s11 = .pointer (some ⟨n11, 0, none⟩) ∧ Box2 wx n11 (.int .u64 ph) (.int .u64 pl) ∧ Box2 wx w.heap.size (.int .u64 ch) (.int .u64 cl) ∧ Box2 wx n7 (.int .u64 yh) (.int .u64 yl) ∧ Below w.heap.size w wx)
  case first =>
    have hc00 := C1.2.2.2.2
    have hy00 := Y1.2.2.2.2
    go_region_held3 (fun v => Box2 v w.heap.size (.int .u64 ch) (.int .u64 cl) ∧ Box2 v n7 (.int .u64 yh) (.int .u64 yl)) (first | with_reducible exact ⟨C1, Y1⟩ | with_reducible exact ⟨Box2.drew C1, Box2.drew Y1⟩ | with_reducible exact ⟨Box2.drew (Box2.alloc _ C1), Box2.drew (Box2.alloc _ Y1)⟩ | with_reducible exact ⟨Box2.alloc _ C1, Box2.alloc _ Y1⟩ | with_reducible exact ⟨Box2.far2 C1 (by omega), Box2.far2 Y1 (by omega)⟩ | with_reducible exact ⟨Box2.far2 (Box2.alloc _ C1) (by omega), Box2.far2 (Box2.alloc _ Y1) (by omega)⟩) (first | (go_at_call 9; (with_reducible refine (H4.out _).mono ?_); rintro e w2 ⟨A1, d1, rfl, r1, hb⟩; (first | (with_reducible replace N := Box2.call hb N) | (with_reducible have N := Box2.newd hb) | (with_reducible have N := Box2.new hb) | skip); replace C1 := Box2.call hb (by first | exact C1 | exact Box2.alloc _ C1 | exact Box2.alloc _ (Box2.alloc _ C1)); replace Y1 := Box2.call hb (by first | exact Y1 | exact Box2.alloc _ Y1 | exact Box2.alloc _ (Box2.alloc _ Y1)); replace B : Below w.heap.size w w2 := below_call (by (repeat (first | exact Below.refl _ _ | assumption | (refine Below.alloc ?_ (by first | omega | (simp; done) | (simp; omega)) _) | (refine Below.setCell ?_ (by first | omega | (simp; done) | (simp; omega)) _) | refine Below.drew ?_ | refine below_drewN ?_ _))) (Nat.le_refl _) hb; (try (replace r1 := Rs.go hb (by first | exact r1 | exact Rs.drew r1 | exact Rs.alloc r1 _ | exact Rs.alloc (Rs.drew r1) _ | exact Rs.drew (Rs.alloc r1 _)))); (try (replace r2 := Rs.go hb (by first | exact r2 | exact Rs.drew r2 | exact Rs.alloc r2 _ | exact Rs.alloc (Rs.drew r2) _ | exact Rs.drew (Rs.alloc r2 _)))); (try (replace r3 := Rs.go hb (by first | exact r3 | exact Rs.drew r3 | exact Rs.alloc r3 _ | exact Rs.alloc (Rs.drew r3) _ | exact Rs.drew (Rs.alloc r3 _)))); have hc0 := C1.2.2.2.2; have hy0 := Y1.2.2.2.2; clear hb) | (go_at_call 9; (with_reducible refine (H5.out _).mono ?_); rintro e w2 ⟨A2, d2, rfl, r2, hb⟩; (first | (with_reducible replace N := Box2.call hb N) | (with_reducible have N := Box2.newd hb) | (with_reducible have N := Box2.new hb) | skip); replace C1 := Box2.call hb (by first | exact C1 | exact Box2.alloc _ C1 | exact Box2.alloc _ (Box2.alloc _ C1)); replace Y1 := Box2.call hb (by first | exact Y1 | exact Box2.alloc _ Y1 | exact Box2.alloc _ (Box2.alloc _ Y1)); replace B : Below w.heap.size w w2 := below_call (by (repeat (first | exact Below.refl _ _ | assumption | (refine Below.alloc ?_ (by first | omega | (simp; done) | (simp; omega)) _) | (refine Below.setCell ?_ (by first | omega | (simp; done) | (simp; omega)) _) | refine Below.drew ?_ | refine below_drewN ?_ _))) (Nat.le_refl _) hb; (try (replace r1 := Rs.go hb (by first | exact r1 | exact Rs.drew r1 | exact Rs.alloc r1 _ | exact Rs.alloc (Rs.drew r1) _ | exact Rs.drew (Rs.alloc r1 _)))); (try (replace r2 := Rs.go hb (by first | exact r2 | exact Rs.drew r2 | exact Rs.alloc r2 _ | exact Rs.alloc (Rs.drew r2) _ | exact Rs.drew (Rs.alloc r2 _)))); (try (replace r3 := Rs.go hb (by first | exact r3 | exact Rs.drew r3 | exact Rs.alloc r3 _ | exact Rs.alloc (Rs.drew r3) _ | exact Rs.drew (Rs.alloc r3 _)))); have hc0 := C1.2.2.2.2; have hy0 := Y1.2.2.2.2; clear hb) | (go_at_call 8; (with_reducible refine (H6.out _ _ _ _ _ (by first | exact r1 | exact Rs.drew r1 | exact Rs.alloc r1 _ | exact Rs.alloc (Rs.drew r1) _ | exact Rs.drew (Rs.alloc r1 _)) (by first | exact r2 | exact Rs.drew r2 | exact Rs.alloc r2 _ | exact Rs.alloc (Rs.drew r2) _ | exact Rs.drew (Rs.alloc r2 _))).mono ?_); rintro e w2 ⟨A3, d3, rfl, r3, hb⟩; (first | (with_reducible replace N := Box2.call hb N) | (with_reducible have N := Box2.newd hb) | (with_reducible have N := Box2.new hb) | skip); replace C1 := Box2.call hb (by first | exact C1 | exact Box2.alloc _ C1 | exact Box2.alloc _ (Box2.alloc _ C1)); replace Y1 := Box2.call hb (by first | exact Y1 | exact Box2.alloc _ Y1 | exact Box2.alloc _ (Box2.alloc _ Y1)); replace B : Below w.heap.size w w2 := below_call (by (repeat (first | exact Below.refl _ _ | assumption | (refine Below.alloc ?_ (by first | omega | (simp; done) | (simp; omega)) _) | (refine Below.setCell ?_ (by first | omega | (simp; done) | (simp; omega)) _) | refine Below.drew ?_ | refine below_drewN ?_ _))) (Nat.le_refl _) hb; (try (replace r1 := Rs.go hb (by first | exact r1 | exact Rs.drew r1 | exact Rs.alloc r1 _ | exact Rs.alloc (Rs.drew r1) _ | exact Rs.drew (Rs.alloc r1 _)))); (try (replace r2 := Rs.go hb (by first | exact r2 | exact Rs.drew r2 | exact Rs.alloc r2 _ | exact Rs.alloc (Rs.drew r2) _ | exact Rs.drew (Rs.alloc r2 _)))); (try (replace r3 := Rs.go hb (by first | exact r3 | exact Rs.drew r3 | exact Rs.alloc r3 _ | exact Rs.alloc (Rs.drew r3) _ | exact Rs.drew (Rs.alloc r3 _)))); have hc0 := C1.2.2.2.2; have hy0 := Y1.2.2.2.2; clear hb) | (go_at_call 7; (with_reducible refine (H7.out _ _ _ (by first | exact r3 | exact Rs.drew r3 | exact Rs.alloc r3 _ | exact Rs.alloc (Rs.drew r3) _ | exact Rs.drew (Rs.alloc r3 _))).mono ?_); rintro e w2 ⟨rfl, hb⟩; (first | (with_reducible replace N := Box2.call hb N) | (with_reducible have N := Box2.newd hb) | (with_reducible have N := Box2.new hb) | skip); replace C1 := Box2.call hb (by first | exact C1 | exact Box2.alloc _ C1 | exact Box2.alloc _ (Box2.alloc _ C1)); replace Y1 := Box2.call hb (by first | exact Y1 | exact Box2.alloc _ Y1 | exact Box2.alloc _ (Box2.alloc _ Y1)); replace B : Below w.heap.size w w2 := below_call (by (repeat (first | exact Below.refl _ _ | assumption | (refine Below.alloc ?_ (by first | omega | (simp; done) | (simp; omega)) _) | (refine Below.setCell ?_ (by first | omega | (simp; done) | (simp; omega)) _) | refine Below.drew ?_ | refine below_drewN ?_ _))) (Nat.le_refl _) hb; (try (replace r1 := Rs.go hb (by first | exact r1 | exact Rs.drew r1 | exact Rs.alloc r1 _ | exact Rs.alloc (Rs.drew r1) _ | exact Rs.drew (Rs.alloc r1 _)))); (try (replace r2 := Rs.go hb (by first | exact r2 | exact Rs.drew r2 | exact Rs.alloc r2 _ | exact Rs.alloc (Rs.drew r2) _ | exact Rs.drew (Rs.alloc r2 _)))); (try (replace r3 := Rs.go hb (by first | exact r3 | exact Rs.drew r3 | exact Rs.alloc r3 _ | exact Rs.alloc (Rs.drew r3) _ | exact Rs.drew (Rs.alloc r3 _)))); have hc0 := C1.2.2.2.2; have hy0 := Y1.2.2.2.2; clear hb))
    all_goals
      have bz := B.size
      clear H0 H1 H2 H3 H4 H5 H6 H7 H8 H9 H10
      go_wp2_with fail
      go_meet
      refine ⟨_, rfl, ?_, ?_, ?_, ?_⟩
      · exact (by (refine ⟨?_, ?_, ?_, ?_, ?_⟩ <;> simp [go_sem, *] <;> omega))
      · first | with_reducible exact C1 | with_reducible exact Box2.drew C1 | with_reducible exact Box2.drew (Box2.alloc _ C1) | with_reducible exact Box2.alloc _ C1 | with_reducible exact Box2.far2 C1 (by omega) | with_reducible exact Box2.far2 (Box2.alloc _ C1) (by omega) | with_reducible exact Box2.alloc _ (Box2.far2 C1 (by omega))
      · first | with_reducible exact Y1 | with_reducible exact Box2.drew Y1 | with_reducible exact Box2.drew (Box2.alloc _ Y1) | with_reducible exact Box2.alloc _ Y1 | with_reducible exact Box2.far2 Y1 (by omega) | with_reducible exact Box2.far2 (Box2.alloc _ Y1) (by omega) | with_reducible exact Box2.alloc _ (Box2.far2 Y1 (by omega))
      · (repeat (first | exact Below.refl _ _ | assumption | (refine Below.alloc ?_ (by first | omega | (simp; done) | (simp; omega)) _) | (refine Below.setCell ?_ (by first | omega | (simp; done) | (simp; omega)) _) | refine Below.drew ?_ | refine below_drewN ?_ _))
  case rest =>
    obtain ⟨n11, rfl, P1, C1, Y1, B⟩ := hcut
    have hp := HP.out
    have g2 : ((yh : Int) == 0) = true := by rw [hp.1]; rfl
    have g3 : ((yl : Int) == 0) = true := by rw [hp.2]; rfl
    have g4 : decide ((yh : Int) = 0) = true := by rw [hp.1]; rfl
    have g5 : decide ((yl : Int) = 0) = true := by rw [hp.2]; rfl
    clear hp
    go_wp2_with fail
    go_cut [93] (fun s93 wx => s93 = .bool false ∧ Below w.heap.size w wx)
    case first =>
      have hc00 := C1.2.2.2.2
      have hy00 := Y1.2.2.2.2
      have hp00 := P1.2.2.2.2
      first
        | (go_region_with ((go_at_call 10; (with_reducible refine (H8.out _).mono ?_); rintro e w2 ⟨rfl, hb⟩; replace C1 := Box2.call hb (by first | exact C1 | exact Box2.alloc _ C1 | exact Box2.alloc _ (Box2.alloc _ C1)); replace Y1 := Box2.call hb (by first | exact Y1 | exact Box2.alloc _ Y1 | exact Box2.alloc _ (Box2.alloc _ Y1)); replace P1 := Box2.call hb (by first | exact P1 | exact Box2.alloc _ P1 | exact Box2.alloc _ (Box2.alloc _ P1)); replace B : Below w.heap.size w w2 := below_call (by (repeat (first | exact Below.refl _ _ | assumption | (refine Below.alloc ?_ (by first | omega | (simp; done) | (simp; omega)) _) | (refine Below.setCell ?_ (by first | omega | (simp; done) | (simp; omega)) _) | refine Below.drew ?_ | refine below_drewN ?_ _))) (Nat.le_refl _) hb; clear hb)))
        | fail "the region"
      all_goals
        go_wp2_with fail
        go_meet
        exact ⟨rfl, by first | exact B | exact B.drew⟩
    case rest =>
      obtain ⟨rfl, B⟩ := hcut
      rcases HF6.out with ⟨h6, h7⟩ | ⟨h6, h7, h8⟩
      · have q1 : ((a : Int) == 0) = true := by rw [h6]; rfl
        have q2 : ((z : Int) == 0) = true := by rw [h7]; rfl
        have L9 := hide (H9.out _ B)
        clear h6 h7 HF6 C1 Y1 P1
        go_wp2_with fail
        refine (L9.out).mono ?_
        rintro e w8 ⟨rfl, hb8⟩
        go_wp2_with fail
        refine (H10.out _).mono ?_
        rintro e w9 ⟨rfl, hb9⟩
        go_wp2_with fail
        go_ret
        exact ⟨ret_b (by simp), below_call (below_call B (Nat.le_refl _) hb8) (Nat.le_refl _) hb9⟩
      · have q1 : ((a : Int) == 0) = false := by rw [beq_eq_false_iff_ne]; omega
        have q2 : ((z : Int) % 2 == 1) = true := by rw [beq_iff_eq]; omega
        have L9 := hide (H9.out _ B)
        clear h6 h7 HF6 C1 Y1 P1
        go_wp2_with fail
        refine (L9.out).mono ?_
        rintro e w8 ⟨rfl, hb8⟩
        go_wp2_with fail
        refine (H10.out _).mono ?_
        rintro e w9 ⟨rfl, hb9⟩
        go_wp2_with fail
        go_ret
        exact ⟨ret_b (by simp), below_call (below_call B (Nat.le_refl _) hb8) (Nat.le_refl _) hb9⟩
end Go.Proofs.YtppmkoglpfdjnaaDoor
