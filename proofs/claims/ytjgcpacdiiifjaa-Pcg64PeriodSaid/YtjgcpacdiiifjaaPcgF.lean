/-
  Walks of the 64-bit PCG's Out, Next and Back, of the reference's Out, and of the law Pcg64Tells. Conditions: words fit 64 bits.
-/
import Derived.Test.YtjgcpacdiiifjaaPcgE
import Derived.Test.YtjgcpacdiiifjaaRot
import Derived.Test.YtjgcpacdiiifjaaOdd
import Derived.Test.YtjgcpacdiiifjaaBoxB
namespace Go.Proofs.Ytjgcpacdiiifjaa
open Go.RowKit Go.Shelf
set_option linter.unusedVariables false

/-- What is told of a state. -/
def outV (X : Nat) : Nat := rotl (hi64 X ^^^ lo64 X) ((64 - hi64 X / 288230376151711744) % 64)
set_option maxHeartbeats 1000000 in
theorem lrot_any (x h s : Nat) (hh : h < 64) (hs : s = (64 - h) % 64) (hx : x < 18446744073709551616) (w : World) : Calls Try.prog 73 #[.int .u64 x, .int .i64 (-(h : Int))] w fun e w' => e = .returned (.int .u64 (rotl x s : Nat)) ∧ w = w' := by
  have e1 : IntKind.i64.wrap ((-(h : Int)).tmod 64) = -(h : Int) := by
    rw [Int.neg_tmod, Int.tmod_eq_emod_of_nonneg (by omega), IntWalk.i64_in _ (by omega)]
    omega
  have e2 : (-(h : Int)).tmod 64 = -(h : Int) := by
    rw [Int.neg_tmod, Int.tmod_eq_emod_of_nonneg (by omega)]
    omega
  have HL := hide (rotl_lib x h s hh hs hx)
  clear hs
  go_enter Try.func73, Try.ntmps73
  go_wp2_with fail
  refine (HL.out _).mono ?_
  rintro e w1 ⟨rfl, rfl⟩
  go_wp2
  go_ret
  exact ⟨rfl, rfl⟩
theorem xor64 (X : Nat) : bits .xor .u64 ((hi64 X : Nat) : Int) ((lo64 X : Nat) : Int) = ((hi64 X ^^^ lo64 X : Nat) : Int) := bits_xor_u64_nat _ _ (hi64_lt X) (lo64_lt X)
theorem xor_lt (X : Nat) : hi64 X ^^^ lo64 X < 18446744073709551616 := Nat.xor_lt_two_pow (n := 64) (hi64_lt X) (lo64_lt X)
set_option maxHeartbeats 1000000 in
theorem out_u (X : Nat) (w : World) : Calls Try.prog 38 #[.agg #[.int .u64 (hi64 (X) : Nat), .int .u64 (lo64 (X) : Nat)]] w fun e w' => e = .returned (.int .u64 (outV X : Nat)) ∧ Below w.heap.size w w' := by
  have hh : hi64 X / 288230376151711744 < 64 := Nat.div_lt_of_lt_mul (Nat.lt_of_lt_of_le (hi64_lt X) (by omega))
  have HL := fun s (hs : s = (64 - hi64 X / 288230376151711744) % 64) => lrot_any (hi64 X ^^^ lo64 X) (hi64 X / 288230376151711744) s hh hs (xor_lt X)
  have HL2 := hide (HL _ rfl)
  have ex := xor64 X
  have HV : Hid (outV X = rotl (hi64 X ^^^ lo64 X) ((64 - hi64 X / 288230376151711744) % 64)) := rfl
  generalize rotl (hi64 X ^^^ lo64 X) ((64 - hi64 X / 288230376151711744) % 64) = R at *
  generalize hi64 X ^^^ lo64 X = xx at *
  have ed : ((hi64 X : Nat) : Int) / 288230376151711744 = ((hi64 X / 288230376151711744 : Nat) : Int) := rfl
  obtain ⟨q, hq⟩ : ∃ q, q = hi64 X / 288230376151711744 := ⟨_, rfl⟩
  rw [← hq] at hh HL2 ed
  clear HL hq
  go_enter Try.func38, Try.ntmps38
  go_wp2_with fail
  refine (HL2.out _).mono ?_
  rintro e w1 ⟨rfl, rfl⟩
  go_wp2
  go_ret
  exact ⟨ret_i (by rw [HV.out]), by (repeat (first | exact Below.refl _ _ | assumption | (refine Below.alloc ?_ (by first | omega | (simp; done) | (simp; omega)) _) | (refine Below.setCell ?_ (by first | omega | (simp; done) | (simp; omega)) _) | refine Below.drew ?_ | refine below_drewN ?_ _))⟩
set_option maxHeartbeats 1000000 in
theorem out_ref (X : Nat) (w : World) : Calls Try.prog 37 #[.agg #[.int .u64 (hi64 (X) : Nat), .int .u64 (lo64 (X) : Nat)]] w fun e w' => e = .returned (.int .u64 (outV X : Nat)) ∧ Below w.heap.size w w' := by
  have hh : hi64 X / 288230376151711744 < 64 := Nat.div_lt_of_lt_mul (Nat.lt_of_lt_of_le (hi64_lt X) (by omega))
  have HL2 := hide (rotr_ref (hi64 X ^^^ lo64 X) (64 - hi64 X / 288230376151711744) (by omega) (xor_lt X))
  have ex := xor64 X
  have HV : Hid (outV X = rotl (hi64 X ^^^ lo64 X) ((64 - hi64 X / 288230376151711744) % 64)) := rfl
  generalize rotl (hi64 X ^^^ lo64 X) ((64 - hi64 X / 288230376151711744) % 64) = R at *
  generalize hi64 X ^^^ lo64 X = xx at *
  obtain ⟨q, hq⟩ : ∃ q, q = hi64 X / 288230376151711744 := ⟨_, rfl⟩
  have ed : ((hi64 X : Nat) : Int) / 288230376151711744 = (q : Int) := by rw [hq]; rfl
  rw [← hq] at hh HL2
  obtain ⟨t, ht⟩ : ∃ t, t = 64 - q := ⟨_, rfl⟩
  rw [← ht] at HL2
  have et : (64 : Int) - (q : Int) = (t : Int) := by omega
  clear hq ht
  go_enter Try.func37, Try.ntmps37
  go_wp2_with fail
  refine (HL2.out _).mono ?_
  rintro e w1 ⟨rfl, rfl⟩
  go_wp2
  go_ret
  exact ⟨ret_i (by rw [HV.out]), by (repeat (first | exact Below.refl _ _ | assumption | (refine Below.alloc ?_ (by first | omega | (simp; done) | (simp; omega)) _) | (refine Below.setCell ?_ (by first | omega | (simp; done) | (simp; omega)) _) | refine Below.drew ?_ | refine below_drewN ?_ _))⟩
set_option maxHeartbeats 2000000 in
theorem next_g (xh xl ih il zh zl o : Nat) (w : World) (h1 : ∀ W, Calls Try.prog 36 #[.agg #[.int .u64 xh, .int .u64 xl], .agg #[.int .u64 ih, .int .u64 il]] W fun e w' => e = .returned (.agg #[.int .u64 zh, .int .u64 zl]) ∧ Below W.heap.size W w')
    (h2 : ∀ W, Calls Try.prog 38 #[.agg #[.int .u64 zh, .int .u64 zl]] W fun e w' => e = .returned (.int .u64 o) ∧ Below W.heap.size W w') :
    Calls Try.prog 34 #[.agg #[.int .u64 xh, .int .u64 xl], .agg #[.int .u64 ih, .int .u64 il]] w fun e w' => e = .returned (.tuple #[.int .u64 o, .agg #[.int .u64 zh, .int .u64 zl]]) ∧ Below w.heap.size w w' := by
  have H1 := hide h1
  have H2 := hide h2
  clear h1 h2
  go_enter Try.func34, Try.ntmps34
  go_wp2_with fail
  refine (H1.out _).mono ?_
  rintro e w1 ⟨rfl, hb⟩
  have X1 := Box2.call hb (show Box2 _ w.heap.size (.int .u64 xh) (.int .u64 xl) from (by (refine ⟨?_, ?_, ?_, ?_, ?_⟩ <;> simp [go_sem] <;> omega)))
  have C := Box2.call hb (show Box2 _ (w.heap.size + 1 + 1) (.int .u64 0) (.int .u64 0) from (by (refine ⟨?_, ?_, ?_, ?_, ?_⟩ <;> simp [go_sem] <;> omega)))
  have B : Below w.heap.size w w1 := below_call (by (repeat (first | exact Below.refl _ _ | assumption | (refine Below.alloc ?_ (by first | omega | (simp; done) | (simp; omega)) _) | (refine Below.setCell ?_ (by first | omega | (simp; done) | (simp; omega)) _) | refine Below.drew ?_ | refine below_drewN ?_ _))) (Nat.le_refl _) hb
  have hz : w.heap.size + 1 + 1 < w1.heap.size := C.2.2.2.2
  clear hb
  go_wp2_with fail
  have Z1 := Box2.put (.int .u64 zh) (.int .u64 zl) X1
  replace C := Box2.far (k := 1) (v := .int .u64 zl) (Box2.far (k := 0) (v := .int .u64 zh) C (show w.heap.size ≠ _ by omega)) (show w.heap.size ≠ _ by omega)
  replace B : Below w.heap.size w ((w1.setCell ⟨w.heap.size, 0, none⟩ (.int .u64 zh)).setCell ⟨w.heap.size, 1, none⟩ (.int .u64 zl)) := (B.setCell (Nat.le_refl _) _).setCell (Nat.le_refl _) _
  clear X1
  generalize (w1.setCell ⟨w.heap.size, 0, none⟩ (.int .u64 zh)).setCell ⟨w.heap.size, 1, none⟩ (.int .u64 zl) = W at *
  clear hz
  have hz := C.2.2.2.2
  go_region_held3 (fun v => Box2 v w.heap.size (.int .u64 zh) (.int .u64 zl)) (first | exact Z1 | exact Box2.far (Box2.far Z1 (by omega)) (by omega)) (first | (go_at_call 38; (with_reducible refine (H2.out _).mono ?_); rintro e w3 ⟨rfl, hb⟩; replace Z1 := Box2.call hb Z1; replace C := Box2.call hb C; replace B : Below w.heap.size w w3 := below_call (by (repeat (first | exact Below.refl _ _ | assumption | (refine Below.alloc ?_ (by first | omega | (simp; done) | (simp; omega)) _) | (refine Below.setCell ?_ (by first | omega | (simp; done) | (simp; omega)) _) | refine Below.drew ?_ | refine below_drewN ?_ _))) (Nat.le_refl _) hb; clear hb))
  go_wp2_with fail
  exact bodyPost_ret (v := .tuple #[.int .u64 o, .agg #[.int .u64 zh, .int .u64 zl]]) (by simp [results, Try.results34, go_sem, C]) rfl ⟨rfl, by (repeat (first | exact Below.refl _ _ | assumption | (refine Below.alloc ?_ (by first | omega | (simp; done) | (simp; omega)) _) | (refine Below.setCell ?_ (by first | omega | (simp; done) | (simp; omega)) _) | refine Below.drew ?_ | refine below_drewN ?_ _))⟩
theorem next_u (X I : Nat) (w : World) : Calls Try.prog 34 #[.agg #[.int .u64 (hi64 (X) : Nat), .int .u64 (lo64 (X) : Nat)], .agg #[.int .u64 (hi64 (I) : Nat), .int .u64 (lo64 (I) : Nat)]] w fun e w' => e = .returned (.tuple #[.int .u64 (outV (X * pcgM + odd1 I) : Nat), .agg #[.int .u64 (hi64 (X * pcgM + odd1 I) : Nat), .int .u64 (lo64 (X * pcgM + odd1 I) : Nat)]]) ∧ Below w.heap.size w w' :=
  next_g _ _ _ _ _ _ _ w (step_u X I) (out_u (X * pcgM + odd1 I))
set_option maxHeartbeats 1000000 in
theorem back_u (X I : Nat) (w : World) : Calls Try.prog 39 #[.agg #[.int .u64 (hi64 (X) : Nat), .int .u64 (lo64 (X) : Nat)], .agg #[.int .u64 (hi64 (I) : Nat), .int .u64 (lo64 (I) : Nat)]] w (Ret128 w (dif128 (m128 X) (m128 (odd1 I)) * inv128 pcgM)) := by
  have HO : Hid (∀ W, Calls Try.prog 74 #[.agg #[.int .u64 2549297995355413924, .int .u64 4865540595714422341]] W fun e w' => e = .returned (.tuple #[.agg #[.int .u64 (hi64 (inv128 pcgM) : Nat), .int .u64 (lo64 (inv128 pcgM) : Nat)], .bool true]) ∧ Below W.heap.size W w') := fun W => by
    have h := odd2_yes pcgM (by decide) W
    rw [pcgM_hi, pcgM_lo] at h
    exact h
  generalize inv128 pcgM = V at *
  go_enter Try.func39, Try.ntmps39
  go_wp2_with fail
  refine (times_c _).mono ?_
  rintro e w1 ⟨rfl, hb⟩
  have X1 := BoxU.call hb (show BoxU _ w.heap.size X from (by (refine ⟨?_, ?_, ?_, ?_, ?_⟩ <;> simp [go_sem] <;> omega)))
  have I1 := BoxU.call hb (show BoxU _ (w.heap.size + 1) I from (by (refine ⟨?_, ?_, ?_, ?_, ?_⟩ <;> simp [go_sem] <;> omega)))
  have C := Box2.call hb (show Box2 _ (w.heap.size + 1 + 1) (.int .u64 0) (.int .u64 0) from (by (refine ⟨?_, ?_, ?_, ?_, ?_⟩ <;> simp [go_sem] <;> omega)))
  have B : Below w.heap.size w w1 := below_call (by (repeat (first | exact Below.refl _ _ | assumption | (refine Below.alloc ?_ (by first | omega | (simp; done) | (simp; omega)) _) | (refine Below.setCell ?_ (by first | omega | (simp; done) | (simp; omega)) _) | refine Below.drew ?_ | refine below_drewN ?_ _))) (Nat.le_refl _) hb
  clear hb
  go_wp2_with fail
  refine (HO.out _).mono ?_
  rintro e w2 ⟨rfl, hb⟩
  replace X1 := BoxU.call hb X1
  replace I1 := BoxU.call hb I1
  replace C := Box2.call hb C
  replace B : Below w.heap.size w w2 := below_call B (Nat.le_refl _) hb
  clear hb
  go_wp2_with fail
  have hz : w.heap.size + 1 + 1 < w2.heap.size := C.2.2.2.2
  have V1 : BoxU (w2.alloc (.cells #[.int .u64 (hi64 V : Nat), .int .u64 (lo64 V : Nat)] 24)) w2.heap.size V := (by (refine ⟨?_, ?_, ?_, ?_, ?_⟩ <;> simp [go_sem] <;> omega))
  replace X1 := Box2.alloc (.cells #[.int .u64 (hi64 V : Nat), .int .u64 (lo64 V : Nat)] 24) X1
  replace I1 := Box2.alloc (.cells #[.int .u64 (hi64 V : Nat), .int .u64 (lo64 V : Nat)] 24) I1
  replace C := Box2.alloc (.cells #[.int .u64 (hi64 V : Nat), .int .u64 (lo64 V : Nat)] 24) C
  replace B := Below.alloc B B.size (.cells #[.int .u64 (hi64 V : Nat), .int .u64 (lo64 V : Nat)] 24)
  have hn : w2.heap.size + 1 = (w2.alloc (.cells #[.int .u64 (hi64 V : Nat), .int .u64 (lo64 V : Nat)] 24)).heap.size := by simp
  generalize w2.alloc (.cells #[.int .u64 (hi64 V : Nat), .int .u64 (lo64 V : Nat)] 24) = W at *
  have hn1 : w2.heap.size < W.heap.size := by omega
  have hne1 : W.heap.size ≠ w2.heap.size := by omega
  have hne2 : w2.heap.size ≠ W.heap.size := by omega
  clear hn
  generalize w2.heap.size = n at *
  go_region_held3 (fun v => BoxU v w.heap.size X ∧ BoxU v (w.heap.size + 1) I) (first | exact ⟨X1, I1⟩ | exact ⟨Box2.alloc _ X1, Box2.alloc _ I1⟩ | exact ⟨Box2.far (Box2.far (Box2.alloc _ X1) (by omega)) (by omega), Box2.far (Box2.far (Box2.alloc _ I1) (by omega)) (by omega)⟩ | exact ⟨Box2.far (Box2.far X1 (by omega)) (by omega), Box2.far (Box2.far I1 (by omega)) (by omega)⟩) (first | (go_at_call 62; (with_reducible refine (odd_u _ _).mono ?_); rintro e w3 ⟨rfl, hb⟩; (first | (have N := Box2.newd hb) | (have N := Box2.new hb) | skip); replace V1 := BoxU.call hb (by first | exact V1 | exact Box2.alloc _ V1); replace X1 := BoxU.call hb (by first | exact X1 | exact Box2.alloc _ X1); replace I1 := BoxU.call hb (by first | exact I1 | exact Box2.alloc _ I1); replace C := Box2.call hb (by first | exact C | exact Box2.alloc _ C); replace B : Below w.heap.size w w3 := below_call (by (repeat (first | exact Below.refl _ _ | assumption | (refine Below.alloc ?_ (by first | omega | (simp; done) | (simp; omega)) _) | (refine Below.setCell ?_ (by first | omega | (simp; done) | (simp; omega)) _) | refine Below.drew ?_ | refine below_drewN ?_ _))) (Nat.le_refl _) hb; have hz3 := C.2.2.2.2; have hn3 := V1.2.2.2.2; have hne3 : w3.heap.size ≠ n := Nat.ne_of_gt hn3; have hne4 : n ≠ w3.heap.size := Nat.ne_of_lt hn3; clear hb) | (go_at_call 19; (with_reducible refine (wsub_u _ _ _).mono ?_); rintro e w4 ⟨c, rfl, hb⟩; (first | replace N := Box2.call hb N | (have N := Box2.new hb) | skip); replace V1 := BoxU.call hb (by first | exact V1 | exact Box2.alloc _ V1); replace X1 := BoxU.call hb (by first | exact X1 | exact Box2.alloc _ X1); replace I1 := BoxU.call hb (by first | exact I1 | exact Box2.alloc _ I1); replace C := Box2.call hb (by first | exact C | exact Box2.alloc _ C); replace B : Below w.heap.size w w4 := below_call (by (repeat (first | exact Below.refl _ _ | assumption | (refine Below.alloc ?_ (by first | omega | (simp; done) | (simp; omega)) _) | (refine Below.setCell ?_ (by first | omega | (simp; done) | (simp; omega)) _) | refine Below.drew ?_ | refine below_drewN ?_ _))) (Nat.le_refl _) hb; have hz4 := C.2.2.2.2; clear hb))
  all_goals
    generalize hD : dif128 (m128 X) (m128 (odd1 I)) = D
    have kD := hide hD
    clear hD
    have bz := B.size
    go_wp2_with fail
    refine (wtimes_u _ _ _).mono ?_
    rintro e w5 ⟨rfl, hb⟩
    replace C := Box2.call hb (by first | exact C | exact Box2.alloc _ C | exact Box2.far (Box2.far C (by omega)) (by omega))
    replace B : Below w.heap.size w w5 := below_call (by (repeat (first | exact Below.refl _ _ | assumption | (refine Below.alloc ?_ (by first | omega | (simp; done) | (simp; omega)) _) | (refine Below.setCell ?_ (by first | omega | (simp; done) | (simp; omega)) _) | refine Below.drew ?_ | refine below_drewN ?_ _))) (Nat.le_refl _) hb
    clear hb
    go_wp2_with fail
    exact bodyPost_ret (v := .agg #[.int .u64 (hi64 (D * V) : Nat), .int .u64 (lo64 (D * V) : Nat)]) (by simp [results, Try.results39, go_sem, C]) rfl ⟨by rw [kD.out], by (repeat (first | exact Below.refl _ _ | assumption | (refine Below.alloc ?_ (by first | omega | (simp; done) | (simp; omega)) _) | (refine Below.setCell ?_ (by first | omega | (simp; done) | (simp; omega)) _) | refine Below.drew ?_ | refine below_drewN ?_ _))⟩
end Go.Proofs.Ytjgcpacdiiifjaa
