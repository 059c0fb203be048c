/-
  Walk of the law Pcg64Period. Conditions: words fit 64 bits.
-/
import Derived.Test.YtjgcpacdiiifjaaPcgK
namespace Go.Proofs.Ytjgcpacdiiifjaa
open Go.RowKit Go.Shelf
set_option linter.unusedVariables false

set_option maxRecDepth 100000 in
set_option maxHeartbeats 8000000 in
theorem period_a (xh xl th tl ih il nh nl ah al ph pl : Nat) (w : World)
    (h1 : ∀ W, Calls Try.prog 40 #[.agg #[.int .u64 xh, .int .u64 xl], .agg #[.int .u64 th, .int .u64 tl], .agg #[.int .u64 ih, .int .u64 il]] W fun e w' => e = .returned (.agg #[.int .u64 ph, .int .u64 pl]) ∧ Below W.heap.size W w')
    (h2 : ∀ W, Calls Try.prog 24 #[.agg #[.int .u64 xh, .int .u64 xl], .agg #[.int .u64 ih, .int .u64 il], .agg #[.int .u64 ph, .int .u64 pl]] W fun e w' => e = .returned (.agg #[.int .u64 th, .int .u64 tl]) ∧ Below W.heap.size W w')
    (h3 : ∀ W, Calls Try.prog 24 #[.agg #[.int .u64 xh, .int .u64 xl], .agg #[.int .u64 ih, .int .u64 il], .agg #[.int .u64 0, .int .u64 0]] W fun e w' => e = .returned (.agg #[.int .u64 xh, .int .u64 xl]) ∧ Below W.heap.size W w')
    (h4 : ∀ W, Calls Try.prog 40 #[.agg #[.int .u64 xh, .int .u64 xl], .agg #[.int .u64 xh, .int .u64 xl], .agg #[.int .u64 ih, .int .u64 il]] W fun e w' => e = .returned (.agg #[.int .u64 0, .int .u64 0]) ∧ Below W.heap.size W w')
    (hz : True) :
    Calls Try.prog 8 #[.agg #[.int .u64 xh, .int .u64 xl], .agg #[.int .u64 th, .int .u64 tl], .agg #[.int .u64 ih, .int .u64 il], .agg #[.int .u64 0, .int .u64 0]] w fun e w' => e = .returned (.bool true) ∧ Below w.heap.size w w' := by
  have H1 := hide h1
  have H2 := hide h2
  have H3 := hide h3
  have H4 := hide h4
  clear h1 h2 h3 h4
  go_enter Try.func8, Try.ntmps8
  go_wp2_with fail
  refine (awake14 _).mono ?_
  rintro e w1 ⟨rfl, hb⟩
  have X1 := Box2.call hb (show Box2 _ w.heap.size (.int .u64 xh) (.int .u64 xl) from (by (refine ⟨?_, ?_, ?_, ?_, ?_⟩ <;> simp [go_sem] <;> omega)))
  have T1 := Box2.call hb (show Box2 _ (w.heap.size + 1) (.int .u64 th) (.int .u64 tl) from (by (refine ⟨?_, ?_, ?_, ?_, ?_⟩ <;> simp [go_sem] <;> omega)))
  have I1 := Box2.call hb (show Box2 _ (w.heap.size + 1 + 1) (.int .u64 ih) (.int .u64 il) from (by (refine ⟨?_, ?_, ?_, ?_, ?_⟩ <;> simp [go_sem] <;> omega)))
  have N1 := Box2.call hb (show Box2 _ (w.heap.size + 1 + 1 + 1) (.int .u64 0) (.int .u64 0) from (by (refine ⟨?_, ?_, ?_, ?_, ?_⟩ <;> simp [go_sem] <;> omega)))
  have B : Below w.heap.size w w1 := below_call (by (repeat (first | exact Below.refl _ _ | assumption | (refine Below.alloc ?_ (by first | omega | (simp; done) | (simp; omega)) _) | (refine Below.setCell ?_ (by first | omega | (simp; done) | (simp; omega)) _) | refine Below.drew ?_ | refine below_drewN ?_ _))) (Nat.le_refl _) hb
  have bz := N1.2.2.2.2
  clear hb
  go_wp2_with fail
  have Z1 : Box2 (w1.alloc (.cells #[.int .u64 0, .int .u64 0] 24)) w1.heap.size (.int .u64 0) (.int .u64 0) := (by (refine ⟨?_, ?_, ?_, ?_, ?_⟩ <;> simp [go_sem] <;> omega))
  replace X1 := Box2.alloc (.cells #[.int .u64 0, .int .u64 0] 24) X1
  replace T1 := Box2.alloc (.cells #[.int .u64 0, .int .u64 0] 24) T1
  replace I1 := Box2.alloc (.cells #[.int .u64 0, .int .u64 0] 24) I1
  replace N1 := Box2.alloc (.cells #[.int .u64 0, .int .u64 0] 24) N1
  replace B := Below.alloc B B.size (.cells #[.int .u64 0, .int .u64 0] 24)
  generalize w1.alloc (.cells #[.int .u64 0, .int .u64 0] 24) = W1 at *
  generalize w1.heap.size = nZ at *
  clear bz
  as_aux_lemma =>
    go_region_held3 (fun v => Box2 v w.heap.size (.int .u64 xh) (.int .u64 xl) ∧ Box2 v (w.heap.size + 1) (.int .u64 th) (.int .u64 tl) ∧ Box2 v (w.heap.size + 1 + 1) (.int .u64 ih) (.int .u64 il) ∧ Box2 v (w.heap.size + 1 + 1 + 1) (.int .u64 0) (.int .u64 0) ∧ Box2 v nZ (.int .u64 0) (.int .u64 0)) (exact ⟨X1, T1, I1, N1, Z1⟩) (first | (go_at_call 40; (with_reducible refine (H1.out _).mono ?_); rintro e w4 ⟨rfl, hb⟩; replace X1 := Box2.call hb X1; replace T1 := Box2.call hb T1; replace I1 := Box2.call hb I1; replace N1 := Box2.call hb N1; replace Z1 := Box2.call hb Z1; replace B : Below w.heap.size w w4 := below_call (by (repeat (first | exact Below.refl _ _ | assumption | (refine Below.alloc ?_ (by first | omega | (simp; done) | (simp; omega)) _) | (refine Below.setCell ?_ (by first | omega | (simp; done) | (simp; omega)) _) | refine Below.drew ?_ | refine below_drewN ?_ _))) (Nat.le_refl _) hb; clear hb) | (go_at_call 24; (with_reducible refine (H2.out _).mono ?_); rintro e w4 ⟨rfl, hb⟩; replace X1 := Box2.call hb X1; replace T1 := Box2.call hb T1; replace I1 := Box2.call hb I1; replace N1 := Box2.call hb N1; replace Z1 := Box2.call hb Z1; replace B : Below w.heap.size w w4 := below_call (by (repeat (first | exact Below.refl _ _ | assumption | (refine Below.alloc ?_ (by first | omega | (simp; done) | (simp; omega)) _) | (refine Below.setCell ?_ (by first | omega | (simp; done) | (simp; omega)) _) | refine Below.drew ?_ | refine below_drewN ?_ _))) (Nat.le_refl _) hb; clear hb) | (go_at_call 24; (with_reducible refine (H3.out _).mono ?_); rintro e w4 ⟨rfl, hb⟩; replace X1 := Box2.call hb X1; replace T1 := Box2.call hb T1; replace I1 := Box2.call hb I1; replace N1 := Box2.call hb N1; replace Z1 := Box2.call hb Z1; replace B : Below w.heap.size w w4 := below_call (by (repeat (first | exact Below.refl _ _ | assumption | (refine Below.alloc ?_ (by first | omega | (simp; done) | (simp; omega)) _) | (refine Below.setCell ?_ (by first | omega | (simp; done) | (simp; omega)) _) | refine Below.drew ?_ | refine below_drewN ?_ _))) (Nat.le_refl _) hb; clear hb) | (go_at_call 40; (with_reducible refine (H4.out _).mono ?_); rintro e w4 ⟨rfl, hb⟩; replace X1 := Box2.call hb X1; replace T1 := Box2.call hb T1; replace I1 := Box2.call hb I1; replace N1 := Box2.call hb N1; replace Z1 := Box2.call hb Z1; replace B : Below w.heap.size w w4 := below_call (by (repeat (first | exact Below.refl _ _ | assumption | (refine Below.alloc ?_ (by first | omega | (simp; done) | (simp; omega)) _) | (refine Below.setCell ?_ (by first | omega | (simp; done) | (simp; omega)) _) | refine Below.drew ?_ | refine below_drewN ?_ _))) (Nat.le_refl _) hb; clear hb))
    go_wp2_with fail
    go_ret
    refine ⟨rfl, ?_⟩
    (repeat (first | exact Below.refl _ _ | assumption | (refine Below.alloc ?_ (by first | omega | (simp; done) | (simp; omega)) _) | (refine Below.setCell ?_ (by first | omega | (simp; done) | (simp; omega)) _) | refine Below.drew ?_ | refine below_drewN ?_ _))
set_option maxRecDepth 100000 in
set_option maxHeartbeats 8000000 in
theorem period_b (xh xl th tl ih il nh nl ah al ph pl : Nat) (w : World)
    (h1 : ∀ W, Calls Try.prog 40 #[.agg #[.int .u64 xh, .int .u64 xl], .agg #[.int .u64 th, .int .u64 tl], .agg #[.int .u64 ih, .int .u64 il]] W fun e w' => e = .returned (.agg #[.int .u64 ph, .int .u64 pl]) ∧ Below W.heap.size W w')
    (h2 : ∀ W, Calls Try.prog 24 #[.agg #[.int .u64 xh, .int .u64 xl], .agg #[.int .u64 ih, .int .u64 il], .agg #[.int .u64 ph, .int .u64 pl]] W fun e w' => e = .returned (.agg #[.int .u64 th, .int .u64 tl]) ∧ Below W.heap.size W w')
    (h3 : ∀ W, Calls Try.prog 24 #[.agg #[.int .u64 xh, .int .u64 xl], .agg #[.int .u64 ih, .int .u64 il], .agg #[.int .u64 nh, .int .u64 nl]] W fun e w' => e = .returned (.agg #[.int .u64 ah, .int .u64 al]) ∧ Below W.heap.size W w')
    (h4 : ∀ W, Calls Try.prog 40 #[.agg #[.int .u64 xh, .int .u64 xl], .agg #[.int .u64 ah, .int .u64 al], .agg #[.int .u64 ih, .int .u64 il]] W fun e w' => e = .returned (.agg #[.int .u64 nh, .int .u64 nl]) ∧ Below W.heap.size W w')
    (hn : ¬ nl = 0) (ha : ¬ ah = xh) :
    Calls Try.prog 8 #[.agg #[.int .u64 xh, .int .u64 xl], .agg #[.int .u64 th, .int .u64 tl], .agg #[.int .u64 ih, .int .u64 il], .agg #[.int .u64 nh, .int .u64 nl]] w fun e w' => e = .returned (.bool true) ∧ Below w.heap.size w w' := by
  have H1 := hide h1
  have H2 := hide h2
  have H3 := hide h3
  have H4 := hide h4
  clear h1 h2 h3 h4
  have d1 : ¬ ah = xh := ha
  have d3 : decide (ah = xh) = false := decide_eq_false ha
  have d4 : ((ah : Int) == (xh : Int)) = false := by rw [beq_eq_false_iff_ne]; omega
  have d5 : (ah == xh) = false := by rw [beq_eq_false_iff_ne]; exact ha
  have d6 : decide ((ah : Int) = (xh : Int)) = false := decide_eq_false (by omega)
  have d2 : ¬ (nl : Int) = 0 := by omega
  go_enter Try.func8, Try.ntmps8
  go_wp2_with fail
  refine (awake14 _).mono ?_
  rintro e w1 ⟨rfl, hb⟩
  have X1 := Box2.call hb (show Box2 _ w.heap.size (.int .u64 xh) (.int .u64 xl) from (by (refine ⟨?_, ?_, ?_, ?_, ?_⟩ <;> simp [go_sem] <;> omega)))
  have T1 := Box2.call hb (show Box2 _ (w.heap.size + 1) (.int .u64 th) (.int .u64 tl) from (by (refine ⟨?_, ?_, ?_, ?_, ?_⟩ <;> simp [go_sem] <;> omega)))
  have I1 := Box2.call hb (show Box2 _ (w.heap.size + 1 + 1) (.int .u64 ih) (.int .u64 il) from (by (refine ⟨?_, ?_, ?_, ?_, ?_⟩ <;> simp [go_sem] <;> omega)))
  have N1 := Box2.call hb (show Box2 _ (w.heap.size + 1 + 1 + 1) (.int .u64 nh) (.int .u64 nl) from (by (refine ⟨?_, ?_, ?_, ?_, ?_⟩ <;> simp [go_sem] <;> omega)))
  have B : Below w.heap.size w w1 := below_call (by (repeat (first | exact Below.refl _ _ | assumption | (refine Below.alloc ?_ (by first | omega | (simp; done) | (simp; omega)) _) | (refine Below.setCell ?_ (by first | omega | (simp; done) | (simp; omega)) _) | refine Below.drew ?_ | refine below_drewN ?_ _))) (Nat.le_refl _) hb
  have bz := N1.2.2.2.2
  clear hb
  go_wp2_with fail
  have Z1 : Box2 (w1.alloc (.cells #[.int .u64 0, .int .u64 0] 24)) w1.heap.size (.int .u64 0) (.int .u64 0) := (by (refine ⟨?_, ?_, ?_, ?_, ?_⟩ <;> simp [go_sem] <;> omega))
  replace X1 := Box2.alloc (.cells #[.int .u64 0, .int .u64 0] 24) X1
  replace T1 := Box2.alloc (.cells #[.int .u64 0, .int .u64 0] 24) T1
  replace I1 := Box2.alloc (.cells #[.int .u64 0, .int .u64 0] 24) I1
  replace N1 := Box2.alloc (.cells #[.int .u64 0, .int .u64 0] 24) N1
  replace B := Below.alloc B B.size (.cells #[.int .u64 0, .int .u64 0] 24)
  generalize w1.alloc (.cells #[.int .u64 0, .int .u64 0] 24) = W1 at *
  generalize w1.heap.size = nZ at *
  clear bz
  as_aux_lemma =>
    go_region_held3 (fun v => Box2 v w.heap.size (.int .u64 xh) (.int .u64 xl) ∧ Box2 v (w.heap.size + 1) (.int .u64 th) (.int .u64 tl) ∧ Box2 v (w.heap.size + 1 + 1) (.int .u64 ih) (.int .u64 il) ∧ Box2 v (w.heap.size + 1 + 1 + 1) (.int .u64 nh) (.int .u64 nl) ∧ Box2 v nZ (.int .u64 0) (.int .u64 0)) (exact ⟨X1, T1, I1, N1, Z1⟩) (first | (go_at_call 40; (with_reducible refine (H1.out _).mono ?_); rintro e w4 ⟨rfl, hb⟩; replace X1 := Box2.call hb X1; replace T1 := Box2.call hb T1; replace I1 := Box2.call hb I1; replace N1 := Box2.call hb N1; replace Z1 := Box2.call hb Z1; replace B : Below w.heap.size w w4 := below_call (by (repeat (first | exact Below.refl _ _ | assumption | (refine Below.alloc ?_ (by first | omega | (simp; done) | (simp; omega)) _) | (refine Below.setCell ?_ (by first | omega | (simp; done) | (simp; omega)) _) | refine Below.drew ?_ | refine below_drewN ?_ _))) (Nat.le_refl _) hb; clear hb) | (go_at_call 24; (with_reducible refine (H2.out _).mono ?_); rintro e w4 ⟨rfl, hb⟩; replace X1 := Box2.call hb X1; replace T1 := Box2.call hb T1; replace I1 := Box2.call hb I1; replace N1 := Box2.call hb N1; replace Z1 := Box2.call hb Z1; replace B : Below w.heap.size w w4 := below_call (by (repeat (first | exact Below.refl _ _ | assumption | (refine Below.alloc ?_ (by first | omega | (simp; done) | (simp; omega)) _) | (refine Below.setCell ?_ (by first | omega | (simp; done) | (simp; omega)) _) | refine Below.drew ?_ | refine below_drewN ?_ _))) (Nat.le_refl _) hb; clear hb) | (go_at_call 24; (with_reducible refine (H3.out _).mono ?_); rintro e w4 ⟨rfl, hb⟩; replace X1 := Box2.call hb X1; replace T1 := Box2.call hb T1; replace I1 := Box2.call hb I1; replace N1 := Box2.call hb N1; replace Z1 := Box2.call hb Z1; replace B : Below w.heap.size w w4 := below_call (by (repeat (first | exact Below.refl _ _ | assumption | (refine Below.alloc ?_ (by first | omega | (simp; done) | (simp; omega)) _) | (refine Below.setCell ?_ (by first | omega | (simp; done) | (simp; omega)) _) | refine Below.drew ?_ | refine below_drewN ?_ _))) (Nat.le_refl _) hb; clear hb) | (go_at_call 40; (with_reducible refine (H4.out _).mono ?_); rintro e w4 ⟨rfl, hb⟩; replace X1 := Box2.call hb X1; replace T1 := Box2.call hb T1; replace I1 := Box2.call hb I1; replace N1 := Box2.call hb N1; replace Z1 := Box2.call hb Z1; replace B : Below w.heap.size w w4 := below_call (by (repeat (first | exact Below.refl _ _ | assumption | (refine Below.alloc ?_ (by first | omega | (simp; done) | (simp; omega)) _) | (refine Below.setCell ?_ (by first | omega | (simp; done) | (simp; omega)) _) | refine Below.drew ?_ | refine below_drewN ?_ _))) (Nat.le_refl _) hb; clear hb))
    go_wp2_with fail
    go_ret
    refine ⟨rfl, ?_⟩
    (repeat (first | exact Below.refl _ _ | assumption | (refine Below.alloc ?_ (by first | omega | (simp; done) | (simp; omega)) _) | (refine Below.setCell ?_ (by first | omega | (simp; done) | (simp; omega)) _) | refine Below.drew ?_ | refine below_drewN ?_ _))
set_option maxRecDepth 100000 in
set_option maxHeartbeats 8000000 in
theorem period_c (xh xl th tl ih il nh nl ah al ph pl : Nat) (w : World)
    (h1 : ∀ W, Calls Try.prog 40 #[.agg #[.int .u64 xh, .int .u64 xl], .agg #[.int .u64 th, .int .u64 tl], .agg #[.int .u64 ih, .int .u64 il]] W fun e w' => e = .returned (.agg #[.int .u64 ph, .int .u64 pl]) ∧ Below W.heap.size W w')
    (h2 : ∀ W, Calls Try.prog 24 #[.agg #[.int .u64 xh, .int .u64 xl], .agg #[.int .u64 ih, .int .u64 il], .agg #[.int .u64 ph, .int .u64 pl]] W fun e w' => e = .returned (.agg #[.int .u64 th, .int .u64 tl]) ∧ Below W.heap.size W w')
    (h3 : ∀ W, Calls Try.prog 24 #[.agg #[.int .u64 xh, .int .u64 xl], .agg #[.int .u64 ih, .int .u64 il], .agg #[.int .u64 nh, .int .u64 nl]] W fun e w' => e = .returned (.agg #[.int .u64 xh, .int .u64 al]) ∧ Below W.heap.size W w')
    (h4 : ∀ W, Calls Try.prog 40 #[.agg #[.int .u64 xh, .int .u64 xl], .agg #[.int .u64 xh, .int .u64 al], .agg #[.int .u64 ih, .int .u64 il]] W fun e w' => e = .returned (.agg #[.int .u64 nh, .int .u64 nl]) ∧ Below W.heap.size W w')
    (hn : ¬ nl = 0) (ha : ¬ al = xl) :
    Calls Try.prog 8 #[.agg #[.int .u64 xh, .int .u64 xl], .agg #[.int .u64 th, .int .u64 tl], .agg #[.int .u64 ih, .int .u64 il], .agg #[.int .u64 nh, .int .u64 nl]] w fun e w' => e = .returned (.bool true) ∧ Below w.heap.size w w' := by
  have H1 := hide h1
  have H2 := hide h2
  have H3 := hide h3
  have H4 := hide h4
  clear h1 h2 h3 h4
  have d1 : ¬ al = xl := ha
  have d3 : decide (al = xl) = false := decide_eq_false ha
  have d4 : ((al : Int) == (xl : Int)) = false := by rw [beq_eq_false_iff_ne]; omega
  have d5 : (al == xl) = false := by rw [beq_eq_false_iff_ne]; exact ha
  have d6 : decide ((al : Int) = (xl : Int)) = false := decide_eq_false (by omega)
  have d2 : ¬ (nl : Int) = 0 := by omega
  go_enter Try.func8, Try.ntmps8
  go_wp2_with fail
  refine (awake14 _).mono ?_
  rintro e w1 ⟨rfl, hb⟩
  have X1 := Box2.call hb (show Box2 _ w.heap.size (.int .u64 xh) (.int .u64 xl) from (by (refine ⟨?_, ?_, ?_, ?_, ?_⟩ <;> simp [go_sem] <;> omega)))
  have T1 := Box2.call hb (show Box2 _ (w.heap.size + 1) (.int .u64 th) (.int .u64 tl) from (by (refine ⟨?_, ?_, ?_, ?_, ?_⟩ <;> simp [go_sem] <;> omega)))
  have I1 := Box2.call hb (show Box2 _ (w.heap.size + 1 + 1) (.int .u64 ih) (.int .u64 il) from (by (refine ⟨?_, ?_, ?_, ?_, ?_⟩ <;> simp [go_sem] <;> omega)))
  have N1 := Box2.call hb (show Box2 _ (w.heap.size + 1 + 1 + 1) (.int .u64 nh) (.int .u64 nl) from (by (refine ⟨?_, ?_, ?_, ?_, ?_⟩ <;> simp [go_sem] <;> omega)))
  have B : Below w.heap.size w w1 := below_call (by (repeat (first | exact Below.refl _ _ | assumption | (refine Below.alloc ?_ (by first | omega | (simp; done) | (simp; omega)) _) | (refine Below.setCell ?_ (by first | omega | (simp; done) | (simp; omega)) _) | refine Below.drew ?_ | refine below_drewN ?_ _))) (Nat.le_refl _) hb
  have bz := N1.2.2.2.2
  clear hb
  go_wp2_with fail
  have Z1 : Box2 (w1.alloc (.cells #[.int .u64 0, .int .u64 0] 24)) w1.heap.size (.int .u64 0) (.int .u64 0) := (by (refine ⟨?_, ?_, ?_, ?_, ?_⟩ <;> simp [go_sem] <;> omega))
  replace X1 := Box2.alloc (.cells #[.int .u64 0, .int .u64 0] 24) X1
  replace T1 := Box2.alloc (.cells #[.int .u64 0, .int .u64 0] 24) T1
  replace I1 := Box2.alloc (.cells #[.int .u64 0, .int .u64 0] 24) I1
  replace N1 := Box2.alloc (.cells #[.int .u64 0, .int .u64 0] 24) N1
  replace B := Below.alloc B B.size (.cells #[.int .u64 0, .int .u64 0] 24)
  generalize w1.alloc (.cells #[.int .u64 0, .int .u64 0] 24) = W1 at *
  generalize w1.heap.size = nZ at *
  clear bz
  as_aux_lemma =>
    go_region_held3 (fun v => Box2 v w.heap.size (.int .u64 xh) (.int .u64 xl) ∧ Box2 v (w.heap.size + 1) (.int .u64 th) (.int .u64 tl) ∧ Box2 v (w.heap.size + 1 + 1) (.int .u64 ih) (.int .u64 il) ∧ Box2 v (w.heap.size + 1 + 1 + 1) (.int .u64 nh) (.int .u64 nl) ∧ Box2 v nZ (.int .u64 0) (.int .u64 0)) (exact ⟨X1, T1, I1, N1, Z1⟩) (first | (go_at_call 40; (with_reducible refine (H1.out _).mono ?_); rintro e w4 ⟨rfl, hb⟩; replace X1 := Box2.call hb X1; replace T1 := Box2.call hb T1; replace I1 := Box2.call hb I1; replace N1 := Box2.call hb N1; replace Z1 := Box2.call hb Z1; replace B : Below w.heap.size w w4 := below_call (by (repeat (first | exact Below.refl _ _ | assumption | (refine Below.alloc ?_ (by first | omega | (simp; done) | (simp; omega)) _) | (refine Below.setCell ?_ (by first | omega | (simp; done) | (simp; omega)) _) | refine Below.drew ?_ | refine below_drewN ?_ _))) (Nat.le_refl _) hb; clear hb) | (go_at_call 24; (with_reducible refine (H2.out _).mono ?_); rintro e w4 ⟨rfl, hb⟩; replace X1 := Box2.call hb X1; replace T1 := Box2.call hb T1; replace I1 := Box2.call hb I1; replace N1 := Box2.call hb N1; replace Z1 := Box2.call hb Z1; replace B : Below w.heap.size w w4 := below_call (by (repeat (first | exact Below.refl _ _ | assumption | (refine Below.alloc ?_ (by first | omega | (simp; done) | (simp; omega)) _) | (refine Below.setCell ?_ (by first | omega | (simp; done) | (simp; omega)) _) | refine Below.drew ?_ | refine below_drewN ?_ _))) (Nat.le_refl _) hb; clear hb) | (go_at_call 24; (with_reducible refine (H3.out _).mono ?_); rintro e w4 ⟨rfl, hb⟩; replace X1 := Box2.call hb X1; replace T1 := Box2.call hb T1; replace I1 := Box2.call hb I1; replace N1 := Box2.call hb N1; replace Z1 := Box2.call hb Z1; replace B : Below w.heap.size w w4 := below_call (by (repeat (first | exact Below.refl _ _ | assumption | (refine Below.alloc ?_ (by first | omega | (simp; done) | (simp; omega)) _) | (refine Below.setCell ?_ (by first | omega | (simp; done) | (simp; omega)) _) | refine Below.drew ?_ | refine below_drewN ?_ _))) (Nat.le_refl _) hb; clear hb) | (go_at_call 40; (with_reducible refine (H4.out _).mono ?_); rintro e w4 ⟨rfl, hb⟩; replace X1 := Box2.call hb X1; replace T1 := Box2.call hb T1; replace I1 := Box2.call hb I1; replace N1 := Box2.call hb N1; replace Z1 := Box2.call hb Z1; replace B : Below w.heap.size w w4 := below_call (by (repeat (first | exact Below.refl _ _ | assumption | (refine Below.alloc ?_ (by first | omega | (simp; done) | (simp; omega)) _) | (refine Below.setCell ?_ (by first | omega | (simp; done) | (simp; omega)) _) | refine Below.drew ?_ | refine below_drewN ?_ _))) (Nat.le_refl _) hb; clear hb))
    go_wp2_with fail
    go_ret
    refine ⟨rfl, ?_⟩
    (repeat (first | exact Below.refl _ _ | assumption | (refine Below.alloc ?_ (by first | omega | (simp; done) | (simp; omega)) _) | (refine Below.setCell ?_ (by first | omega | (simp; done) | (simp; omega)) _) | refine Below.drew ?_ | refine below_drewN ?_ _))
set_option maxRecDepth 100000 in
set_option maxHeartbeats 8000000 in
theorem period_d (xh xl th tl ih il nh nl ah al ph pl : Nat) (w : World)
    (h1 : ∀ W, Calls Try.prog 40 #[.agg #[.int .u64 xh, .int .u64 xl], .agg #[.int .u64 th, .int .u64 tl], .agg #[.int .u64 ih, .int .u64 il]] W fun e w' => e = .returned (.agg #[.int .u64 ph, .int .u64 pl]) ∧ Below W.heap.size W w')
    (h2 : ∀ W, Calls Try.prog 24 #[.agg #[.int .u64 xh, .int .u64 xl], .agg #[.int .u64 ih, .int .u64 il], .agg #[.int .u64 ph, .int .u64 pl]] W fun e w' => e = .returned (.agg #[.int .u64 th, .int .u64 tl]) ∧ Below W.heap.size W w')
    (h3 : ∀ W, Calls Try.prog 24 #[.agg #[.int .u64 xh, .int .u64 xl], .agg #[.int .u64 ih, .int .u64 il], .agg #[.int .u64 nh, .int .u64 0]] W fun e w' => e = .returned (.agg #[.int .u64 ah, .int .u64 al]) ∧ Below W.heap.size W w')
    (h4 : ∀ W, Calls Try.prog 40 #[.agg #[.int .u64 xh, .int .u64 xl], .agg #[.int .u64 ah, .int .u64 al], .agg #[.int .u64 ih, .int .u64 il]] W fun e w' => e = .returned (.agg #[.int .u64 nh, .int .u64 0]) ∧ Below W.heap.size W w')
    (hn : ¬ nh = 0) (ha : ¬ ah = xh) :
    Calls Try.prog 8 #[.agg #[.int .u64 xh, .int .u64 xl], .agg #[.int .u64 th, .int .u64 tl], .agg #[.int .u64 ih, .int .u64 il], .agg #[.int .u64 nh, .int .u64 0]] w fun e w' => e = .returned (.bool true) ∧ Below w.heap.size w w' := by
  have H1 := hide h1
  have H2 := hide h2
  have H3 := hide h3
  have H4 := hide h4
  clear h1 h2 h3 h4
  have d1 : ¬ ah = xh := ha
  have d3 : decide (ah = xh) = false := decide_eq_false ha
  have d4 : ((ah : Int) == (xh : Int)) = false := by rw [beq_eq_false_iff_ne]; omega
  have d5 : (ah == xh) = false := by rw [beq_eq_false_iff_ne]; exact ha
  have d6 : decide ((ah : Int) = (xh : Int)) = false := decide_eq_false (by omega)
  have d2 : ¬ (nh : Int) = 0 := by omega
  go_enter Try.func8, Try.ntmps8
  go_wp2_with fail
  refine (awake14 _).mono ?_
  rintro e w1 ⟨rfl, hb⟩
  have X1 := Box2.call hb (show Box2 _ w.heap.size (.int .u64 xh) (.int .u64 xl) from (by (refine ⟨?_, ?_, ?_, ?_, ?_⟩ <;> simp [go_sem] <;> omega)))
  have T1 := Box2.call hb (show Box2 _ (w.heap.size + 1) (.int .u64 th) (.int .u64 tl) from (by (refine ⟨?_, ?_, ?_, ?_, ?_⟩ <;> simp [go_sem] <;> omega)))
  have I1 := Box2.call hb (show Box2 _ (w.heap.size + 1 + 1) (.int .u64 ih) (.int .u64 il) from (by (refine ⟨?_, ?_, ?_, ?_, ?_⟩ <;> simp [go_sem] <;> omega)))
  have N1 := Box2.call hb (show Box2 _ (w.heap.size + 1 + 1 + 1) (.int .u64 nh) (.int .u64 0) from (by (refine ⟨?_, ?_, ?_, ?_, ?_⟩ <;> simp [go_sem] <;> omega)))
  have B : Below w.heap.size w w1 := below_call (by (repeat (first | exact Below.refl _ _ | assumption | (refine Below.alloc ?_ (by first | omega | (simp; done) | (simp; omega)) _) | (refine Below.setCell ?_ (by first | omega | (simp; done) | (simp; omega)) _) | refine Below.drew ?_ | refine below_drewN ?_ _))) (Nat.le_refl _) hb
  have bz := N1.2.2.2.2
  clear hb
  go_wp2_with fail
  have Z1 : Box2 (w1.alloc (.cells #[.int .u64 0, .int .u64 0] 24)) w1.heap.size (.int .u64 0) (.int .u64 0) := (by (refine ⟨?_, ?_, ?_, ?_, ?_⟩ <;> simp [go_sem] <;> omega))
  replace X1 := Box2.alloc (.cells #[.int .u64 0, .int .u64 0] 24) X1
  replace T1 := Box2.alloc (.cells #[.int .u64 0, .int .u64 0] 24) T1
  replace I1 := Box2.alloc (.cells #[.int .u64 0, .int .u64 0] 24) I1
  replace N1 := Box2.alloc (.cells #[.int .u64 0, .int .u64 0] 24) N1
  replace B := Below.alloc B B.size (.cells #[.int .u64 0, .int .u64 0] 24)
  generalize w1.alloc (.cells #[.int .u64 0, .int .u64 0] 24) = W1 at *
  generalize w1.heap.size = nZ at *
  clear bz
  as_aux_lemma =>
    go_region_held3 (fun v => Box2 v w.heap.size (.int .u64 xh) (.int .u64 xl) ∧ Box2 v (w.heap.size + 1) (.int .u64 th) (.int .u64 tl) ∧ Box2 v (w.heap.size + 1 + 1) (.int .u64 ih) (.int .u64 il) ∧ Box2 v (w.heap.size + 1 + 1 + 1) (.int .u64 nh) (.int .u64 0) ∧ Box2 v nZ (.int .u64 0) (.int .u64 0)) (exact ⟨X1, T1, I1, N1, Z1⟩) (first | (go_at_call 40; (with_reducible refine (H1.out _).mono ?_); rintro e w4 ⟨rfl, hb⟩; replace X1 := Box2.call hb X1; replace T1 := Box2.call hb T1; replace I1 := Box2.call hb I1; replace N1 := Box2.call hb N1; replace Z1 := Box2.call hb Z1; replace B : Below w.heap.size w w4 := below_call (by (repeat (first | exact Below.refl _ _ | assumption | (refine Below.alloc ?_ (by first | omega | (simp; done) | (simp; omega)) _) | (refine Below.setCell ?_ (by first | omega | (simp; done) | (simp; omega)) _) | refine Below.drew ?_ | refine below_drewN ?_ _))) (Nat.le_refl _) hb; clear hb) | (go_at_call 24; (with_reducible refine (H2.out _).mono ?_); rintro e w4 ⟨rfl, hb⟩; replace X1 := Box2.call hb X1; replace T1 := Box2.call hb T1; replace I1 := Box2.call hb I1; replace N1 := Box2.call hb N1; replace Z1 := Box2.call hb Z1; replace B : Below w.heap.size w w4 := below_call (by (repeat (first | exact Below.refl _ _ | assumption | (refine Below.alloc ?_ (by first | omega | (simp; done) | (simp; omega)) _) | (refine Below.setCell ?_ (by first | omega | (simp; done) | (simp; omega)) _) | refine Below.drew ?_ | refine below_drewN ?_ _))) (Nat.le_refl _) hb; clear hb) | (go_at_call 24; (with_reducible refine (H3.out _).mono ?_); rintro e w4 ⟨rfl, hb⟩; replace X1 := Box2.call hb X1; replace T1 := Box2.call hb T1; replace I1 := Box2.call hb I1; replace N1 := Box2.call hb N1; replace Z1 := Box2.call hb Z1; replace B : Below w.heap.size w w4 := below_call (by (repeat (first | exact Below.refl _ _ | assumption | (refine Below.alloc ?_ (by first | omega | (simp; done) | (simp; omega)) _) | (refine Below.setCell ?_ (by first | omega | (simp; done) | (simp; omega)) _) | refine Below.drew ?_ | refine below_drewN ?_ _))) (Nat.le_refl _) hb; clear hb) | (go_at_call 40; (with_reducible refine (H4.out _).mono ?_); rintro e w4 ⟨rfl, hb⟩; replace X1 := Box2.call hb X1; replace T1 := Box2.call hb T1; replace I1 := Box2.call hb I1; replace N1 := Box2.call hb N1; replace Z1 := Box2.call hb Z1; replace B : Below w.heap.size w w4 := below_call (by (repeat (first | exact Below.refl _ _ | assumption | (refine Below.alloc ?_ (by first | omega | (simp; done) | (simp; omega)) _) | (refine Below.setCell ?_ (by first | omega | (simp; done) | (simp; omega)) _) | refine Below.drew ?_ | refine below_drewN ?_ _))) (Nat.le_refl _) hb; clear hb))
    go_wp2_with fail
    go_ret
    refine ⟨rfl, ?_⟩
    (repeat (first | exact Below.refl _ _ | assumption | (refine Below.alloc ?_ (by first | omega | (simp; done) | (simp; omega)) _) | (refine Below.setCell ?_ (by first | omega | (simp; done) | (simp; omega)) _) | refine Below.drew ?_ | refine below_drewN ?_ _))
set_option maxRecDepth 100000 in
set_option maxHeartbeats 8000000 in
theorem period_e (xh xl th tl ih il nh nl ah al ph pl : Nat) (w : World)
    (h1 : ∀ W, Calls Try.prog 40 #[.agg #[.int .u64 xh, .int .u64 xl], .agg #[.int .u64 th, .int .u64 tl], .agg #[.int .u64 ih, .int .u64 il]] W fun e w' => e = .returned (.agg #[.int .u64 ph, .int .u64 pl]) ∧ Below W.heap.size W w')
    (h2 : ∀ W, Calls Try.prog 24 #[.agg #[.int .u64 xh, .int .u64 xl], .agg #[.int .u64 ih, .int .u64 il], .agg #[.int .u64 ph, .int .u64 pl]] W fun e w' => e = .returned (.agg #[.int .u64 th, .int .u64 tl]) ∧ Below W.heap.size W w')
    (h3 : ∀ W, Calls Try.prog 24 #[.agg #[.int .u64 xh, .int .u64 xl], .agg #[.int .u64 ih, .int .u64 il], .agg #[.int .u64 nh, .int .u64 0]] W fun e w' => e = .returned (.agg #[.int .u64 xh, .int .u64 al]) ∧ Below W.heap.size W w')
    (h4 : ∀ W, Calls Try.prog 40 #[.agg #[.int .u64 xh, .int .u64 xl], .agg #[.int .u64 xh, .int .u64 al], .agg #[.int .u64 ih, .int .u64 il]] W fun e w' => e = .returned (.agg #[.int .u64 nh, .int .u64 0]) ∧ Below W.heap.size W w')
    (hn : ¬ nh = 0) (ha : ¬ al = xl) :
    Calls Try.prog 8 #[.agg #[.int .u64 xh, .int .u64 xl], .agg #[.int .u64 th, .int .u64 tl], .agg #[.int .u64 ih, .int .u64 il], .agg #[.int .u64 nh, .int .u64 0]] w fun e w' => e = .returned (.bool true) ∧ Below w.heap.size w w' := by
  have H1 := hide h1
  have H2 := hide h2
  have H3 := hide h3
  have H4 := hide h4
  clear h1 h2 h3 h4
  have d1 : ¬ al = xl := ha
  have d3 : decide (al = xl) = false := decide_eq_false ha
  have d4 : ((al : Int) == (xl : Int)) = false := by rw [beq_eq_false_iff_ne]; omega
  have d5 : (al == xl) = false := by rw [beq_eq_false_iff_ne]; exact ha
  have d6 : decide ((al : Int) = (xl : Int)) = false := decide_eq_false (by omega)
  have d2 : ¬ (nh : Int) = 0 := by omega
  go_enter Try.func8, Try.ntmps8
  go_wp2_with fail
  refine (awake14 _).mono ?_
  rintro e w1 ⟨rfl, hb⟩
  have X1 := Box2.call hb (show Box2 _ w.heap.size (.int .u64 xh) (.int .u64 xl) from (by (refine ⟨?_, ?_, ?_, ?_, ?_⟩ <;> simp [go_sem] <;> omega)))
  have T1 := Box2.call hb (show Box2 _ (w.heap.size + 1) (.int .u64 th) (.int .u64 tl) from (by (refine ⟨?_, ?_, ?_, ?_, ?_⟩ <;> simp [go_sem] <;> omega)))
  have I1 := Box2.call hb (show Box2 _ (w.heap.size + 1 + 1) (.int .u64 ih) (.int .u64 il) from (by (refine ⟨?_, ?_, ?_, ?_, ?_⟩ <;> simp [go_sem] <;> omega)))
  have N1 := Box2.call hb (show Box2 _ (w.heap.size + 1 + 1 + 1) (.int .u64 nh) (.int .u64 0) from (by (refine ⟨?_, ?_, ?_, ?_, ?_⟩ <;> simp [go_sem] <;> omega)))
  have B : Below w.heap.size w w1 := below_call (by (repeat (first | exact Below.refl _ _ | assumption | (refine Below.alloc ?_ (by first | omega | (simp; done) | (simp; omega)) _) | (refine Below.setCell ?_ (by first | omega | (simp; done) | (simp; omega)) _) | refine Below.drew ?_ | refine below_drewN ?_ _))) (Nat.le_refl _) hb
  have bz := N1.2.2.2.2
  clear hb
  go_wp2_with fail
  have Z1 : Box2 (w1.alloc (.cells #[.int .u64 0, .int .u64 0] 24)) w1.heap.size (.int .u64 0) (.int .u64 0) := (by (refine ⟨?_, ?_, ?_, ?_, ?_⟩ <;> simp [go_sem] <;> omega))
  replace X1 := Box2.alloc (.cells #[.int .u64 0, .int .u64 0] 24) X1
  replace T1 := Box2.alloc (.cells #[.int .u64 0, .int .u64 0] 24) T1
  replace I1 := Box2.alloc (.cells #[.int .u64 0, .int .u64 0] 24) I1
  replace N1 := Box2.alloc (.cells #[.int .u64 0, .int .u64 0] 24) N1
  replace B := Below.alloc B B.size (.cells #[.int .u64 0, .int .u64 0] 24)
  generalize w1.alloc (.cells #[.int .u64 0, .int .u64 0] 24) = W1 at *
  generalize w1.heap.size = nZ at *
  clear bz
  as_aux_lemma =>
    go_region_held3 (fun v => Box2 v w.heap.size (.int .u64 xh) (.int .u64 xl) ∧ Box2 v (w.heap.size + 1) (.int .u64 th) (.int .u64 tl) ∧ Box2 v (w.heap.size + 1 + 1) (.int .u64 ih) (.int .u64 il) ∧ Box2 v (w.heap.size + 1 + 1 + 1) (.int .u64 nh) (.int .u64 0) ∧ Box2 v nZ (.int .u64 0) (.int .u64 0)) (exact ⟨X1, T1, I1, N1, Z1⟩) (first | (go_at_call 40; (with_reducible refine (H1.out _).mono ?_); rintro e w4 ⟨rfl, hb⟩; replace X1 := Box2.call hb X1; replace T1 := Box2.call hb T1; replace I1 := Box2.call hb I1; replace N1 := Box2.call hb N1; replace Z1 := Box2.call hb Z1; replace B : Below w.heap.size w w4 := below_call (by (repeat (first | exact Below.refl _ _ | assumption | (refine Below.alloc ?_ (by first | omega | (simp; done) | (simp; omega)) _) | (refine Below.setCell ?_ (by first | omega | (simp; done) | (simp; omega)) _) | refine Below.drew ?_ | refine below_drewN ?_ _))) (Nat.le_refl _) hb; clear hb) | (go_at_call 24; (with_reducible refine (H2.out _).mono ?_); rintro e w4 ⟨rfl, hb⟩; replace X1 := Box2.call hb X1; replace T1 := Box2.call hb T1; replace I1 := Box2.call hb I1; replace N1 := Box2.call hb N1; replace Z1 := Box2.call hb Z1; replace B : Below w.heap.size w w4 := below_call (by (repeat (first | exact Below.refl _ _ | assumption | (refine Below.alloc ?_ (by first | omega | (simp; done) | (simp; omega)) _) | (refine Below.setCell ?_ (by first | omega | (simp; done) | (simp; omega)) _) | refine Below.drew ?_ | refine below_drewN ?_ _))) (Nat.le_refl _) hb; clear hb) | (go_at_call 24; (with_reducible refine (H3.out _).mono ?_); rintro e w4 ⟨rfl, hb⟩; replace X1 := Box2.call hb X1; replace T1 := Box2.call hb T1; replace I1 := Box2.call hb I1; replace N1 := Box2.call hb N1; replace Z1 := Box2.call hb Z1; replace B : Below w.heap.size w w4 := below_call (by (repeat (first | exact Below.refl _ _ | assumption | (refine Below.alloc ?_ (by first | omega | (simp; done) | (simp; omega)) _) | (refine Below.setCell ?_ (by first | omega | (simp; done) | (simp; omega)) _) | refine Below.drew ?_ | refine below_drewN ?_ _))) (Nat.le_refl _) hb; clear hb) | (go_at_call 40; (with_reducible refine (H4.out _).mono ?_); rintro e w4 ⟨rfl, hb⟩; replace X1 := Box2.call hb X1; replace T1 := Box2.call hb T1; replace I1 := Box2.call hb I1; replace N1 := Box2.call hb N1; replace Z1 := Box2.call hb Z1; replace B : Below w.heap.size w w4 := below_call (by (repeat (first | exact Below.refl _ _ | assumption | (refine Below.alloc ?_ (by first | omega | (simp; done) | (simp; omega)) _) | (refine Below.setCell ?_ (by first | omega | (simp; done) | (simp; omega)) _) | refine Below.drew ?_ | refine below_drewN ?_ _))) (Nat.le_refl _) hb; clear hb))
    go_wp2_with fail
    go_ret
    refine ⟨rfl, ?_⟩
    (repeat (first | exact Below.refl _ _ | assumption | (refine Below.alloc ?_ (by first | omega | (simp; done) | (simp; omega)) _) | (refine Below.setCell ?_ (by first | omega | (simp; done) | (simp; omega)) _) | refine Below.drew ?_ | refine below_drewN ?_ _))
theorem period_u (X T I N : Nat) (w : World) : Calls Try.prog 8 #[.agg #[.int .u64 (hi64 (X) : Nat), .int .u64 (lo64 (X) : Nat)], .agg #[.int .u64 (hi64 (T) : Nat), .int .u64 (lo64 (T) : Nat)], .agg #[.int .u64 (hi64 (I) : Nat), .int .u64 (lo64 (I) : Nat)], .agg #[.int .u64 (hi64 (N) : Nat), .int .u64 (lo64 (N) : Nat)]] w fun e w' => e = .returned (.bool true) ∧ Below w.heap.size w w' := by
  obtain ⟨n, hn, he, hS⟩ := steps_n X T I
  obtain ⟨m, hm, hem, hS2⟩ := steps_n X (stp pcgM (odd1 I) X (m128 N)) I
  have hN : m128 N < 2 ^ 128 := by rw [m128_two]; exact Nat.mod_lt _ (Nat.two_pow_pos _)
  have emN : m = m128 N := stp_only128 hm hN hem
  have h2 : ∀ W, Calls Try.prog 24 #[.agg #[.int .u64 (hi64 (X) : Nat), .int .u64 (lo64 (X) : Nat)], .agg #[.int .u64 (hi64 (I) : Nat), .int .u64 (lo64 (I) : Nat)], .agg #[.int .u64 (hi64 (n) : Nat), .int .u64 (lo64 (n) : Nat)]] W (Ret128 W T) := fun W => (advance_u X I n W).mono fun e w' h => ret128_congr (by
    have : m128 n = n := by rw [m128_two, Nat.mod_eq_of_lt hn]
    rw [this, he]) h
  have h4 : ∀ W, Calls Try.prog 40 #[.agg #[.int .u64 (hi64 (X) : Nat), .int .u64 (lo64 (X) : Nat)], .agg #[.int .u64 (hi64 (stp pcgM (odd1 I) X (m128 N)) : Nat), .int .u64 (lo64 (stp pcgM (odd1 I) X (m128 N)) : Nat)], .agg #[.int .u64 (hi64 (I) : Nat), .int .u64 (lo64 (I) : Nat)]] W (Ret128 W N) := fun W => (hS2 W).mono fun e w' h => ret128_congr (by rw [emN, m128_m128]) h
  have h3 := advance_u X I N
  have hz : m128 N = 0 ↔ m128 (stp pcgM (odd1 I) X (m128 N)) = m128 X := by
    constructor
    · intro h; rw [h]; rfl
    · intro h
      exact stp_only128 (X := X) (I := I) (m := 0) hN (Nat.two_pow_pos _) h
  generalize stp pcgM (odd1 I) X (m128 N) = Y at *
  rw [← val2_of N, ← val2_of Y, ← val2_of X] at hz
  have bx := lo64_lt X
  have by_ := lo64_lt Y
  have bn := lo64_lt N
  have h1 := hS
  clear hS hS2
  unfold Ret128 at h1 h2 h3 h4
  by_cases hn0 : hi64 N = 0 ∧ lo64 N = 0
  · have hY := val2_inj by_ bx (hz.1 (by rw [hn0.1, hn0.2]; rfl))
    have e1 : ((hi64 N : Nat) : Int) = 0 := by omega
    have e2 : ((lo64 N : Nat) : Int) = 0 := by omega
    rw [hY.1, hY.2] at h3 h4
    rw [e1, e2] at h3 h4 ⊢
    exact period_a _ _ _ _ _ _ 0 0 0 0 _ _ w h1 h2 h3 h4 trivial
  · have hne : ¬ (hi64 Y = hi64 X ∧ lo64 Y = lo64 X) := fun e => hn0 (by
      have h0 := hz.2 (by rw [e.1, e.2])
      exact val2_inj bn (by omega : (0 : Nat) < 18446744073709551616) (h0.trans (by rfl : (0 : Nat) = val2 0 0)))
    by_cases hl : lo64 N = 0
    · have e2 : ((lo64 N : Nat) : Int) = 0 := by omega
      have hh : ¬ hi64 N = 0 := fun e => hn0 ⟨e, hl⟩
      rw [e2] at h3 h4 ⊢
      by_cases hy : hi64 Y = hi64 X
      · rw [hy] at h3 h4
        exact period_e _ _ _ _ _ _ _ 0 0 _ _ _ w h1 h2 h3 h4 hh (fun e => hne ⟨hy, e⟩)
      · exact period_d _ _ _ _ _ _ _ 0 _ _ _ _ w h1 h2 h3 h4 hh hy
    · by_cases hy : hi64 Y = hi64 X
      · rw [hy] at h3 h4
        exact period_c _ _ _ _ _ _ _ _ 0 _ _ _ w h1 h2 h3 h4 hl (fun e => hne ⟨hy, e⟩)
      · exact period_b _ _ _ _ _ _ _ _ _ _ _ _ w h1 h2 h3 h4 hl hy
theorem period_law (ah al bh bl ch cl dh dl : Nat) (w : World) (h1 : ah < 18446744073709551616) (h2 : al < 18446744073709551616) (h3 : bh < 18446744073709551616) (h4 : bl < 18446744073709551616) (h5 : ch < 18446744073709551616) (h6 : cl < 18446744073709551616) (h7 : dh < 18446744073709551616) (h8 : dl < 18446744073709551616) :
    Calls Try.prog 8 #[.agg #[.int .u64 ah, .int .u64 al], .agg #[.int .u64 bh, .int .u64 bl], .agg #[.int .u64 ch, .int .u64 cl], .agg #[.int .u64 dh, .int .u64 dl]] w fun e w' => e = .returned (.bool true) ∧ Below w.heap.size w w' := by
  have h := period_u (val2 ah al) (val2 bh bl) (val2 ch cl) (val2 dh dl) w
  rw [hi64_val h1 h2, lo64_val h2, hi64_val h3 h4, lo64_val h4, hi64_val h5 h6, lo64_val h6, hi64_val h7 h8, lo64_val h8] at h
  exact h
end Go.Proofs.Ytjgcpacdiiifjaa
