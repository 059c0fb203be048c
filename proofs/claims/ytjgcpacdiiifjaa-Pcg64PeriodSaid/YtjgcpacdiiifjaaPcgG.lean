/-
  Walks of the 64-bit PCG's lines of many steps: bit, one, of, twice. Conditions: none.
-/
import Derived.Test.YtjgcpacdiiifjaaPcgN
namespace Go.Proofs.Ytjgcpacdiiifjaa
open Go.RowKit Go.Shelf
set_option linter.unusedVariables false

/-- Whether a bit of a number of 128 bits is set. -/
def bitB (X k : Nat) : Bool := decide (m128 X / 2 ^ k % 2 = 1)
theorem field_lo (h l : Nat) (W : World) : (Instr.field 24 (.agg #[.int .u64 h, .int .u64 l]) 1).run Try.prog W = .ok (.int .u64 l) W := by kernel_rfl
theorem bitB_val (X k : Nat) : bits .and .u64 ((lo64 (m128 X / 2 ^ k) : Nat) : Int) 1 = ((m128 X / 2 ^ k % 2 : Nat) : Int) := by
  rw [show (1 : Int) = ((1 : Nat) : Int) from rfl, bits_and_u64_nat _ _ (lo64_lt _) (by omega), Nat.and_one_is_mod]
  unfold lo64
  congr 1
  omega
set_option maxHeartbeats 1000000 in
theorem bit_u (X k : Nat) (hk : k < 128) (w : World) : Calls Try.prog 69 #[.agg #[.int .u64 (hi64 (X) : Nat), .int .u64 (lo64 (X) : Nat)], .int .i64 k] w fun e w' => e = .returned (.bool (bitB X k)) ∧ Below w.heap.size w w' := by
  have HS := hide (shr_i X (k : Int) (by omega))
  have hk2 : (k : Int).toNat = k := by omega
  rw [hk2] at HS
  have hb := bitB_val X k
  have hq : m128 X / 2 ^ k % 2 = 0 ∨ m128 X / 2 ^ k % 2 = 1 := by omega
  have HD := hide (show bitB X k = decide (m128 X / 2 ^ k % 2 = 1) from rfl)
  generalize bitB X k = d at *
  generalize m128 X / 2 ^ k % 2 = q at *
  generalize hhl : hi64 (m128 X / 2 ^ k) = hh at *
  generalize hll : lo64 (m128 X / 2 ^ k) = ll at *
  have HS2 : Hid (∀ W, Calls Try.prog 57 #[.agg #[.int .u64 (hi64 (X) : Nat), .int .u64 (lo64 (X) : Nat)], .int .i64 k] W fun e w' => e = .returned (.agg #[.int .u64 hh, .int .u64 ll]) ∧ Below W.heap.size W w') := hide fun W => (HS.out W).mono fun e w' h => by unfold Ret128 at h; rw [hhl, hll] at h; exact h
  clear HS hk2 hhl hll hk
  generalize hi64 X = xh at *
  generalize lo64 X = xl at *
  have HF := fun W => field_lo hh ll W
  rcases hq with h | h
  · rw [h] at HD hb
    have eb : bits .and .u64 (ll : Int) 1 = 0 := by rw [hb]; rfl
    clear h hb
    go_enter Try.func69, Try.ntmps69
    go_wp2_with fail
    refine (HS2.out _).mono ?_
    rintro e w1 ⟨rfl, hb1⟩
    have B : Below w.heap.size w w1 := below_call (by (repeat (first | exact Below.refl _ _ | assumption | (refine Below.alloc ?_ (by first | omega | (simp; done) | (simp; omega)) _) | (refine Below.setCell ?_ (by first | omega | (simp; done) | (simp; omega)) _) | refine Below.drew ?_ | refine below_drewN ?_ _))) (Nat.le_refl _) hb1
    clear hb1
    go_wp2_with fail
    go_ret
    exact ⟨ret_b (by rw [HD.out]; rfl), B⟩
  · rw [h] at HD hb
    have eb : bits .and .u64 (ll : Int) 1 = 1 := by rw [hb]; rfl
    clear h hb
    go_enter Try.func69, Try.ntmps69
    go_wp2_with fail
    refine (HS2.out _).mono ?_
    rintro e w1 ⟨rfl, hb1⟩
    have B : Below w.heap.size w w1 := below_call (by (repeat (first | exact Below.refl _ _ | assumption | (refine Below.alloc ?_ (by first | omega | (simp; done) | (simp; omega)) _) | (refine Below.setCell ?_ (by first | omega | (simp; done) | (simp; omega)) _) | refine Below.drew ?_ | refine below_drewN ?_ _))) (Nat.le_refl _) hb1
    clear hb1
    go_wp2_with fail
    go_ret
    exact ⟨ret_b (by rw [HD.out]; rfl), B⟩

theorem pcgM_h : hi64 pcgM = 2549297995355413924 := hi64_val (by omega) (by omega)
theorem pcgM_l : lo64 pcgM = 4865540595714422341 := lo64_val (by omega)
theorem one_u (I : Nat) (w : World) : Calls Try.prog 67 #[.agg #[.int .u64 (hi64 (I) : Nat), .int .u64 (lo64 (I) : Nat)]] w fun e w' => e = .returned (.agg #[.int .u64 (hi64 pcgM : Nat), .int .u64 (lo64 pcgM : Nat), .int .u64 (hi64 (odd1 I) : Nat), .int .u64 (lo64 (odd1 I) : Nat)]) ∧ Below w.heap.size w w' := by
  have h := one_any (hi64 I) (lo64 I) w (hi64_lt I) (lo64_lt I)
  rw [pcgM_h, pcgM_l, odd_hi, odd_lo]
  exact h
theorem of_l (T P X : Nat) (w : World) : Calls Try.prog 68 #[.agg #[.int .u64 (hi64 T : Nat), .int .u64 (lo64 T : Nat), .int .u64 (hi64 P : Nat), .int .u64 (lo64 P : Nat)], .agg #[.int .u64 (hi64 (X) : Nat), .int .u64 (lo64 (X) : Nat)]] w (Ret128 w (X * T + P)) :=
  (line_any _ _ _ _ _ _ w (hi64_lt X) (lo64_lt X) (hi64_lt T) (lo64_lt T) (hi64_lt P) (lo64_lt P)).mono fun e w' h => ret128_congr (by
    rw [val2_of, val2_of, val2_of, ← m128_add, m128_mul, m128_m128, m128_add]) h
theorem times_u (X Y : Nat) (w : World) : Calls Try.prog 31 #[.agg #[.int .u64 (hi64 (X) : Nat), .int .u64 (lo64 (X) : Nat)], .agg #[.int .u64 (hi64 (Y) : Nat), .int .u64 (lo64 (Y) : Nat)]] w (Ret128 w (X * Y)) :=
  (wtimes_any _ _ _ _ w (hi64_lt X) (lo64_lt X) (hi64_lt Y) (lo64_lt Y)).mono fun e w' h => ret128_congr (by
    rw [val2_of, val2_of, m128_mul]) h
theorem plus1_u (X : Nat) (w : World) : Calls Try.prog 63 #[.agg #[.int .u64 (hi64 (X) : Nat), .int .u64 (lo64 (X) : Nat)], .agg #[.int .u64 0, .int .u64 1]] w (Ret128 w (X + 1)) := plus_u X 1 w

set_option maxRecDepth 100000 in
set_option maxHeartbeats 4000000 in
theorem twice_g (th tl ph pl qh ql rh rl vh vl : Nat) (w : World)
    (h1 : ∀ W, Calls Try.prog 31 #[.agg #[.int .u64 th, .int .u64 tl], .agg #[.int .u64 th, .int .u64 tl]] W fun e w' => e = .returned (.agg #[.int .u64 qh, .int .u64 ql]) ∧ Below W.heap.size W w')
    (h2 : ∀ W, Calls Try.prog 63 #[.agg #[.int .u64 th, .int .u64 tl], .agg #[.int .u64 0, .int .u64 1]] W fun e w' => e = .returned (.agg #[.int .u64 rh, .int .u64 rl]) ∧ Below W.heap.size W w')
    (h3 : ∀ W, Calls Try.prog 31 #[.agg #[.int .u64 ph, .int .u64 pl], .agg #[.int .u64 rh, .int .u64 rl]] W fun e w' => e = .returned (.agg #[.int .u64 vh, .int .u64 vl]) ∧ Below W.heap.size W w') :
    Calls Try.prog 70 #[.agg #[.int .u64 th, .int .u64 tl, .int .u64 ph, .int .u64 pl]] w fun e w' => e = .returned (.agg #[.int .u64 qh, .int .u64 ql, .int .u64 vh, .int .u64 vl]) ∧ Below w.heap.size w w' := by
  have H1 := hide h1
  have H2 := hide h2
  have H3 := hide h3
  clear h1 h2 h3
  go_enter Try.func70, Try.ntmps70
  go_wp2_with fail
  have L1 : Box4 ((w.alloc (.cells #[.int .u64 th, .int .u64 tl, .int .u64 ph, .int .u64 pl] 84)).alloc (.cells #[.int .u64 0, .int .u64 0, .int .u64 0, .int .u64 0] 84)) w.heap.size (.int .u64 th) (.int .u64 tl) (.int .u64 ph) (.int .u64 pl) := (by (refine ⟨?_, ?_, ?_, ?_, ?_, ?_, ?_, ?_, ?_⟩ <;> simp [go_sem] <;> omega))
  have D1 : Box4 ((w.alloc (.cells #[.int .u64 th, .int .u64 tl, .int .u64 ph, .int .u64 pl] 84)).alloc (.cells #[.int .u64 0, .int .u64 0, .int .u64 0, .int .u64 0] 84)) (w.heap.size + 1) (.int .u64 0) (.int .u64 0) (.int .u64 0) (.int .u64 0) := (by (refine ⟨?_, ?_, ?_, ?_, ?_, ?_, ?_, ?_, ?_⟩ <;> simp [go_sem] <;> omega))
  have B : Below w.heap.size w ((w.alloc (.cells #[.int .u64 th, .int .u64 tl, .int .u64 ph, .int .u64 pl] 84)).alloc (.cells #[.int .u64 0, .int .u64 0, .int .u64 0, .int .u64 0] 84)) := by (repeat (first | exact Below.refl _ _ | assumption | (refine Below.alloc ?_ (by first | omega | (simp; done) | (simp; omega)) _) | (refine Below.setCell ?_ (by first | omega | (simp; done) | (simp; omega)) _) | refine Below.drew ?_ | refine below_drewN ?_ _))
  generalize (w.alloc (.cells #[.int .u64 th, .int .u64 tl, .int .u64 ph, .int .u64 pl] 84)).alloc (.cells #[.int .u64 0, .int .u64 0, .int .u64 0, .int .u64 0] 84) = W at *
  as_aux_lemma =>
    go_region_held3 (fun v => Box4 v w.heap.size (.int .u64 th) (.int .u64 tl) (.int .u64 ph) (.int .u64 pl)) (first | exact L1 | exact Box4.far4 L1 (by omega)) (first | (go_at_call 31; (with_reducible refine (H1.out _).mono ?_); rintro e w4 ⟨rfl, hb⟩; replace L1 := Box4.call hb L1; replace D1 := Box4.call hb D1; replace B : Below w.heap.size w w4 := below_call (by (repeat (first | exact Below.refl _ _ | assumption | (refine Below.alloc ?_ (by first | omega | (simp; done) | (simp; omega)) _) | (refine Below.setCell ?_ (by first | omega | (simp; done) | (simp; omega)) _) | refine Below.drew ?_ | refine below_drewN ?_ _))) (Nat.le_refl _) hb; clear hb) | (go_at_call 31; (with_reducible refine (H3.out _).mono ?_); rintro e w4 ⟨rfl, hb⟩; replace L1 := Box4.call hb L1; replace D1 := Box4.call hb D1; replace B : Below w.heap.size w w4 := below_call (by (repeat (first | exact Below.refl _ _ | assumption | (refine Below.alloc ?_ (by first | omega | (simp; done) | (simp; omega)) _) | (refine Below.setCell ?_ (by first | omega | (simp; done) | (simp; omega)) _) | refine Below.drew ?_ | refine below_drewN ?_ _))) (Nat.le_refl _) hb; clear hb) | (go_at_call 63; (with_reducible refine (H2.out _).mono ?_); rintro e w4 ⟨rfl, hb⟩; replace L1 := Box4.call hb L1; replace D1 := Box4.call hb D1; replace B : Below w.heap.size w w4 := below_call (by (repeat (first | exact Below.refl _ _ | assumption | (refine Below.alloc ?_ (by first | omega | (simp; done) | (simp; omega)) _) | (refine Below.setCell ?_ (by first | omega | (simp; done) | (simp; omega)) _) | refine Below.drew ?_ | refine below_drewN ?_ _))) (Nat.le_refl _) hb; clear hb))
    go_wp2_with fail
    exact bodyPost_ret (v := .agg #[.int .u64 qh, .int .u64 ql, .int .u64 vh, .int .u64 vl]) (by simp [results, Try.results70, go_sem, D1]) rfl ⟨rfl, by (repeat (first | exact Below.refl _ _ | assumption | (refine Below.alloc ?_ (by first | omega | (simp; done) | (simp; omega)) _) | (refine Below.setCell ?_ (by first | omega | (simp; done) | (simp; omega)) _) | refine Below.drew ?_ | refine below_drewN ?_ _))⟩
theorem twice_u (T P : Nat) (w : World) : Calls Try.prog 70 #[.agg #[.int .u64 (hi64 T : Nat), .int .u64 (lo64 T : Nat), .int .u64 (hi64 P : Nat), .int .u64 (lo64 P : Nat)]] w fun e w' =>
      e = .returned (.agg #[.int .u64 (hi64 (T * T) : Nat), .int .u64 (lo64 (T * T) : Nat), .int .u64 (hi64 (P * (T + 1)) : Nat), .int .u64 (lo64 (P * (T + 1)) : Nat)]) ∧ Below w.heap.size w w' :=
  twice_g _ _ _ _ _ _ _ _ _ _ w (times_u T T) (plus1_u T) (times_u P (T + 1))
end Go.Proofs.Ytjgcpacdiiifjaa
