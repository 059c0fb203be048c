/-
  Walks of modn.Odd and modn.Odd2: the inverse of an odd number modulo 2^64 and 2^128. Conditions: numbers fit 64 bits.
-/
import Derived.Test.YtppmkoglpfdjnaaDoorWideC
import Derived.Test.YtppmkoglpfdjnaaDoorBox
import Derived.Test.YtppmkoglpfdjnaaDoorWideA
import Derived.Deep.LoopGhost
namespace Go.Proofs.YtppmkoglpfdjnaaDoor
open Go.RowKit Go.Shelf
set_option linter.unusedVariables false

/-- One round of Newton's: x (2 - a x) modulo 2^64. -/
def newt (a x : Nat) : Nat := x * ((2 + 18446744073709551616 - a * x % 18446744073709551616) % 18446744073709551616) % 18446744073709551616
/-- The inverse of an odd number modulo 2^64, as the program reckons it. -/
def inv64 (a : Nat) : Nat := newt a (newt a (newt a (newt a (newt a a))))
theorem newt_lt (a x : Nat) : newt a x < 18446744073709551616 := Nat.mod_lt _ (by omega)
theorem inv64_lt (a : Nat) : inv64 a < 18446744073709551616 := newt_lt _ _
theorem newt_int (a x : Nat) : (18446744073709551616 : Int) ∣ (newt a x : Int) - (x : Int) * (2 - (a : Int) * (x : Int)) := by
  have e1 := Nat.div_add_mod (x * ((2 + 18446744073709551616 - a * x % 18446744073709551616) % 18446744073709551616)) 18446744073709551616
  have e2 := Nat.div_add_mod (2 + 18446744073709551616 - a * x % 18446744073709551616) 18446744073709551616
  have e3 := Nat.div_add_mod (a * x) 18446744073709551616
  have e4 := Nat.mod_lt (a * x) (show 0 < 18446744073709551616 by omega)
  have e0 : newt a x = x * ((2 + 18446744073709551616 - a * x % 18446744073709551616) % 18446744073709551616) % 18446744073709551616 := rfl
  rw [← e0] at e1
  have e5 : ((a * x : Nat) : Int) = (a : Int) * (x : Int) := Int.natCast_mul a x
  rw [← e5]
  clear e0 e5
  generalize newt a x = y at *
  generalize a * x = s at *
  generalize hu : (2 + 18446744073709551616 - s % 18446744073709551616) % 18446744073709551616 = u at *
  generalize (2 + 18446744073709551616 - s % 18446744073709551616) / 18446744073709551616 = q2 at *
  generalize s / 18446744073709551616 = q3 at *
  generalize s % 18446744073709551616 = r at *
  have e6 : ((x * u : Nat) : Int) = (x : Int) * (u : Int) := Int.natCast_mul x u
  have e7 : (x : Int) * (u : Int) = (x : Int) * (2 - (s : Int)) + 18446744073709551616 * ((x : Int) * (1 + (q3 : Int) - (q2 : Int))) := by
    rw [Int.mul_left_comm, ← Int.mul_add]
    congr 1
    omega
  generalize x * u / 18446744073709551616 = q1 at *
  generalize x * u = z at *
  generalize (x : Int) * (2 - (s : Int)) = t at *
  exact ⟨(x : Int) * (1 + (q3 : Int) - (q2 : Int)) - (q1 : Int), by omega⟩
/-- a x is 1 modulo m: the next one is 1 modulo m^2. -/
theorem newt_step (a x : Nat) (m : Int) (h : m ∣ (a : Int) * (x : Int) - 1) (hm : m * m ∣ 18446744073709551616) : m * m ∣ (a : Int) * (newt a x : Int) - 1 := by
  have h1 := Int.dvd_trans hm (newt_int a x)
  have h2 : m * m ∣ ((a : Int) * (x : Int) - 1) * ((a : Int) * (x : Int) - 1) := Int.mul_dvd_mul h h
  have e : (a : Int) * (newt a x : Int) - 1 = (a : Int) * ((newt a x : Int) - (x : Int) * (2 - (a : Int) * (x : Int))) - ((a : Int) * (x : Int) - 1) * ((a : Int) * (x : Int) - 1) := by
    generalize (newt a x : Int) = y
    rw [Int.mul_sub, ← Int.mul_assoc]
    generalize (a : Int) * (x : Int) = s
    rw [Int.sub_mul, Int.mul_sub, Int.mul_sub, Int.one_mul]
    omega
  rw [e]
  exact Int.dvd_sub (Int.dvd_mul_of_dvd_right h1) h2
theorem inv64_dvd (a : Nat) (h : a % 2 = 1) : (18446744073709551616 : Int) ∣ (a : Int) * (inv64 a : Int) - 1 := by
  obtain ⟨b, hb⟩ : ∃ b : Int, (a : Int) = 2 * b + 1 := ⟨(a : Int) / 2, by omega⟩
  have h0 : (4 : Int) ∣ (a : Int) * (a : Int) - 1 := by
    refine ⟨b * b + b, ?_⟩
    rw [hb, Int.mul_add, Int.add_mul, Int.mul_one, Int.mul_assoc, Int.mul_left_comm b 2 b, Int.one_mul]
    omega
  have h1 := newt_step a a 4 h0 (by decide)
  have h2 := newt_step a _ _ h1 (by decide)
  have h3 := newt_step a _ _ h2 (by decide)
  have h4 := newt_step a _ _ h3 (by decide)
  have h5 := newt_step a _ _ h4 (by decide)
  exact h5
theorem inv64_mod (a : Nat) (h : a % 2 = 1) : a * inv64 a % 18446744073709551616 = 1 := by
  have h1 := inv64_dvd a h
  have e : ((a * inv64 a : Nat) : Int) = (a : Int) * (inv64 a : Int) := Int.natCast_mul _ _
  rw [← e] at h1
  generalize a * inv64 a = z at *
  omega
/-- The inverse modulo 2^128, as the program reckons it. -/
def inv128 (a : Nat) : Nat := inv64 (lo64 a) * dif128 2 (m128 (a * inv64 (lo64 a)))

set_option maxHeartbeats 400000 in
theorem odd_no (a : Nat) (h : a % 2 = 0) (w : World) : Calls Tryd.prog 5 #[.int .u64 a] w fun e w' => e = .returned (.tuple #[.int .u64 0, .bool false]) ∧ w = w' := by
  have t0 : (a : Int) % 2 = 0 := by omega
  clear h
  go_enter Tryd.func5, Tryd.ntmps5
  go_wp2
  go_ret2
  exact ⟨rfl, rfl⟩
set_option maxHeartbeats 1000000 in
theorem odd_yes (a : Nat) (h : a % 2 = 1) (ha : a < 18446744073709551616) (w : World) : Calls Tryd.prog 5 #[.int .u64 a] w fun e w' => e = .returned (.tuple #[.int .u64 (inv64 a : Nat), .bool true]) ∧ w = w' := by
  have t0 : (a : Int) % 2 = 1 := by omega
  clear h
  have en (x : Nat) : IntKind.u64.wrap ((x : Int) * IntKind.u64.wrap (2 - IntKind.u64.wrap ((a : Int) * (x : Int)))) = ((newt a x : Nat) : Int) := by
    have e1 : IntKind.u64.wrap ((a : Int) * (x : Int)) = ((a * x % 18446744073709551616 : Nat) : Int) := by rw [← Int.natCast_mul, u64_of]
    rw [e1]
    have hm := Nat.mod_lt (a * x) (show 0 < 18446744073709551616 by omega)
    have e2 : IntKind.u64.wrap (2 - ((a * x % 18446744073709551616 : Nat) : Int)) = (((2 + 18446744073709551616 - a * x % 18446744073709551616) % 18446744073709551616 : Nat) : Int) := by
      generalize a * x % 18446744073709551616 = r at *
      rw [IntKind.wrap_u64]
      omega
    rw [e2, ← Int.natCast_mul, u64_of]
    rfl
  have EN := hide en
  clear en
  go_enter Tryd.func5, Tryd.ntmps5
  go_wp2
  go_loopg [4, 9] 5 (fun m v4 v9 wr => ∃ k x : Nat, m = 5 - k ∧ k ≤ 5 ∧ v9 = .int .i64 k ∧ v4 = .int .u64 x ∧ Hid (x = Nat.rec a (fun _ y => newt a y) k) ∧ wr = w)
  case atStart => exact ⟨0, a, rfl, by omega, rfl, rfl, hide rfl, rfl⟩
  case round =>
    obtain ⟨k, x, hm, hk, rfl, rfl, hx, rfl⟩ := hrel
    have HM := hide hm
    clear hm
    by_cases hlt : k < 5
    · have t1 : (k : Int) < 5 := by omega
      have en1 := EN.out x
      go_wp2
      go_roundg (4 - k)
      case measure => rw [HM.out]; omega
      case rel =>
        exact ⟨k + 1, newt a x, by omega, by omega, by go_num, rfl, by rw [hx.out]; exact hide rfl, rfl⟩
    · have hk5 : k = 5 := by omega
      subst hk5
      go_wp2
      go_ret2
      exact ⟨by rw [hx.out]; rfl, rfl⟩
theorem inv128_mod (a : Nat) (h : a % 2 = 1) : m128 (a * inv128 a) = 1 := by
  have hl : lo64 a % 2 = 1 := by unfold lo64; omega
  have h1 := inv64_dvd (lo64 a) hl
  unfold inv128
  generalize inv64 (lo64 a) = x at *
  have h2 : (18446744073709551616 : Int) ∣ (a : Int) * (x : Int) - 1 := by
    have e : (a : Int) = (lo64 a : Int) + 18446744073709551616 * ((a / 18446744073709551616 : Nat) : Int) := by unfold lo64; omega
    rw [e, Int.add_mul, Int.mul_assoc]
    generalize ((a / 18446744073709551616 : Nat) : Int) * (x : Int) = z
    generalize ((lo64 a : Nat) : Int) * (x : Int) = y at *
    omega
  have h3 : (340282366920938463463374607431768211456 : Int) ∣ ((a : Int) * (x : Int) - 1) * ((a : Int) * (x : Int) - 1) := Int.mul_dvd_mul (a := 18446744073709551616) (c := 18446744073709551616) h2 h2
  have e1 : ((a * x : Nat) : Int) = (a : Int) * (x : Int) := Int.natCast_mul a x
  rw [← e1] at h3
  have e2 : a * (x * dif128 2 (m128 (a * x))) = a * x * dif128 2 (m128 (a * x)) := by rw [Nat.mul_assoc]
  rw [e2]
  clear e1 e2 h1 h2 hl h
  generalize a * x = s at *
  have e3 : ((s * dif128 2 (m128 s) : Nat) : Int) = (s : Int) * (dif128 2 (m128 s) : Int) := Int.natCast_mul _ _
  have hd : ∃ q : Int, (dif128 2 (m128 s) : Int) = 2 - (s : Int) + 340282366920938463463374607431768211456 * q := by
    unfold dif128 m128
    refine ⟨(((2 + 340282366920938463463374607431768211456 - s % 340282366920938463463374607431768211456) % 340282366920938463463374607431768211456 : Nat) - 2 + (s : Int)) / 340282366920938463463374607431768211456, ?_⟩
    omega
  obtain ⟨q, hq⟩ := hd
  have e4 : (s : Int) * (dif128 2 (m128 s) : Int) = 1 - ((s : Int) - 1) * ((s : Int) - 1) + 340282366920938463463374607431768211456 * ((s : Int) * q) := by
    rw [hq, Int.mul_add, Int.mul_left_comm, Int.mul_sub, Int.sub_mul, Int.mul_sub, Int.one_mul]
    omega
  unfold m128 at e3 e4 ⊢
  generalize ((s : Int) - 1) * ((s : Int) - 1) = d at *
  generalize (s : Int) * q = r at *
  generalize s * dif128 2 (s % 340282366920938463463374607431768211456) = z at *
  omega
theorem two_hi : hi64 2 = 0 := by decide
theorem two_lo : lo64 2 = 2 := by decide
theorem wsub_u (X Y : Nat) (w : World) : Calls Tryd.prog 14 #[.agg #[.int .u64 (hi64 (X) : Nat), .int .u64 (lo64 (X) : Nat)], .agg #[.int .u64 (hi64 (Y) : Nat), .int .u64 (lo64 (Y) : Nat)]] w fun e w' => ∃ c : Bool, e = .returned (.tuple #[.agg #[.int .u64 (hi64 (dif128 (m128 X) (m128 Y)) : Nat), .int .u64 (lo64 (dif128 (m128 X) (m128 Y)) : Nat)], .bool c]) ∧ Below w.heap.size w w' :=
  (wsub_any _ _ _ _ w (hi64_lt X) (lo64_lt X) (hi64_lt Y) (lo64_lt Y)).mono fun e w' h => by rw [val2_of, val2_of] at h; exact ⟨_, h⟩
theorem wsub_2 (Y : Nat) (w : World) : Calls Tryd.prog 14 #[.agg #[.int .u64 0, .int .u64 2], .agg #[.int .u64 (hi64 (Y) : Nat), .int .u64 (lo64 (Y) : Nat)]] w fun e w' => ∃ c : Bool, e = .returned (.tuple #[.agg #[.int .u64 (hi64 (dif128 2 (m128 Y)) : Nat), .int .u64 (lo64 (dif128 2 (m128 Y)) : Nat)], .bool c]) ∧ Below w.heap.size w w' := by
  have h := wsub_u 2 Y w
  rw [two_hi, two_lo, show m128 2 = 2 by decide] at h
  exact h
theorem wtimes_u (X Y : Nat) (w : World) : Calls Tryd.prog 10 #[.agg #[.int .u64 (hi64 (X) : Nat), .int .u64 (lo64 (X) : Nat)], .agg #[.int .u64 (hi64 (Y) : Nat), .int .u64 (lo64 (Y) : Nat)]] w (Ret128 w (X * Y)) :=
  (wtimes_any _ _ _ _ w (hi64_lt X) (lo64_lt X) (hi64_lt Y) (lo64_lt Y)).mono fun e w' ⟨he, hb⟩ => ⟨by rw [he, val2_of, val2_of, ← hi64_m (m128 X * m128 Y), ← lo64_m (m128 X * m128 Y), show m128 (m128 X * m128 Y) = m128 (X * Y) by unfold m128; rw [← Nat.mul_mod], hi64_m, lo64_m], hb⟩
theorem hi_inv (a : Nat) : hi64 (inv64 a) = 0 := by have := inv64_lt a; unfold hi64; omega
theorem lo_inv (a : Nat) : lo64 (inv64 a) = inv64 a := by have := inv64_lt a; unfold lo64; omega
theorem wtimes_l (X x : Nat) (hx : x < 18446744073709551616) (w : World) : Calls Tryd.prog 10 #[.agg #[.int .u64 (hi64 (X) : Nat), .int .u64 (lo64 (X) : Nat)], .agg #[.int .u64 0, .int .u64 x]] w (Ret128 w (X * x)) := by
  have h := wtimes_u X x w
  rw [show hi64 x = 0 by unfold hi64; omega, show lo64 x = x by unfold lo64; omega] at h
  exact h
theorem wtimes_r (x Y : Nat) (hx : x < 18446744073709551616) (w : World) : Calls Tryd.prog 10 #[.agg #[.int .u64 0, .int .u64 x], .agg #[.int .u64 (hi64 (Y) : Nat), .int .u64 (lo64 (Y) : Nat)]] w (Ret128 w (x * Y)) := by
  have h := wtimes_u x Y w
  rw [show hi64 x = 0 by unfold hi64; omega, show lo64 x = x by unfold lo64; omega] at h
  exact h
set_option maxHeartbeats 1000000 in
theorem odd2_no (X : Nat) (h : X % 2 = 0) (w : World) : Calls Tryd.prog 6 #[.agg #[.int .u64 (hi64 (X) : Nat), .int .u64 (lo64 (X) : Nat)]] w fun e w' => e = .returned (.tuple #[.agg #[.int .u64 0, .int .u64 0], .bool false]) ∧ Below w.heap.size w w' := by
  have hl : lo64 X % 2 = 0 := by unfold lo64; omega
  have HO := hide (odd_no (lo64 X) hl)
  clear hl h
  go_enter Tryd.func6, Tryd.ntmps6
  go_wp2_with fail
  refine (HO.out _).mono ?_
  rintro e w1 ⟨rfl, rfl⟩
  go_wp2
  exact bodyPost_ret (v := .tuple #[.agg #[.int .u64 0, .int .u64 0], .bool false]) (by simp [results, Tryd.results6, go_sem]) rfl ⟨rfl, by (repeat (first | exact Below.refl _ _ | assumption | (refine Below.alloc ?_ (by first | omega | (simp; done) | (simp; omega)) _) | (refine Below.setCell ?_ (by first | omega | (simp; done) | (simp; omega)) _) | refine Below.drew ?_ | refine below_drewN ?_ _))⟩
set_option maxHeartbeats 2000000 in
theorem odd2_yes (X : Nat) (h : X % 2 = 1) (w : World) : Calls Tryd.prog 6 #[.agg #[.int .u64 (hi64 (X) : Nat), .int .u64 (lo64 (X) : Nat)]] w fun e w' => e = .returned (.tuple #[.agg #[.int .u64 (hi64 (inv128 X) : Nat), .int .u64 (lo64 (inv128 X) : Nat)], .bool true]) ∧ Below w.heap.size w w' := by
  have hl : lo64 X % 2 = 1 := by unfold lo64; omega
  have HO := hide (odd_yes (lo64 X) hl (lo64_lt X))
  have hx := inv64_lt (lo64 X)
  obtain ⟨I, hI⟩ : ∃ I, I = inv128 X := ⟨_, rfl⟩
  have HI : Hid (I = inv64 (lo64 X) * dif128 2 (m128 (X * inv64 (lo64 X)))) := hI
  rw [← hI]
  clear hl h hI
  generalize inv64 (lo64 X) = x at *
  go_enter Tryd.func6, Tryd.ntmps6
  go_wp2_with fail
  refine (HO.out _).mono ?_
  rintro e w1 ⟨rfl, rfl⟩
  go_wp2_with fail
  refine (wtimes_l X x hx _).mono ?_
  rintro e w1 ⟨rfl, hb⟩
  have X1 := Box2.call hb (show Box2 _ (w.heap.size + 1 + 1) (.int .u64 0) (.int .u64 (x : Nat)) from (by (refine ⟨?_, ?_, ?_, ?_, ?_⟩ <;> simp [go_sem] <;> omega)))
  have C := Box2.call hb (show Box2 _ (w.heap.size + 1) (.int .u64 0) (.int .u64 0) from (by (refine ⟨?_, ?_, ?_, ?_, ?_⟩ <;> simp [go_sem] <;> omega)))
  have B : Below w.heap.size w w1 := below_call (by (repeat (first | exact Below.refl _ _ | assumption | (refine Below.alloc ?_ (by first | omega | (simp; done) | (simp; omega)) _) | (refine Below.setCell ?_ (by first | omega | (simp; done) | (simp; omega)) _) | refine Below.drew ?_ | refine below_drewN ?_ _))) (Nat.le_refl _) hb
  clear hb
  go_wp2_with fail
  refine (wsub_2 _ _).mono ?_
  rintro e w2 ⟨c, rfl, hb⟩
  replace X1 := Box2.call hb X1
  replace C := Box2.call hb C
  replace B : Below w.heap.size w w2 := below_call B (Nat.le_refl _) hb
  clear hb
  have bz := B.size
  generalize dif128 2 (m128 (X * x)) = D at *
  go_wp2_with fail
  refine (wtimes_r x D hx _).mono ?_
  rintro e w3 ⟨rfl, hb⟩
  replace C := Box2.call hb (Box2.alloc _ C)
  replace B : Below w.heap.size w w3 := below_call (by (repeat (first | exact Below.refl _ _ | assumption | (refine Below.alloc ?_ (by first | omega | (simp; done) | (simp; omega)) _) | (refine Below.setCell ?_ (by first | omega | (simp; done) | (simp; omega)) _) | refine Below.drew ?_ | refine below_drewN ?_ _))) (Nat.le_refl _) hb
  clear hb
  rw [← HI.out]
  go_wp2
  exact bodyPost_ret (v := .tuple #[.agg #[.int .u64 (hi64 (I) : Nat), .int .u64 (lo64 (I) : Nat)], .bool true]) (by simp [results, Tryd.results6, go_sem, C]) rfl ⟨rfl, by (repeat (first | exact Below.refl _ _ | assumption | (refine Below.alloc ?_ (by first | omega | (simp; done) | (simp; omega)) _) | (refine Below.setCell ?_ (by first | omega | (simp; done) | (simp; omega)) _) | refine Below.drew ?_ | refine below_drewN ?_ _))⟩
end Go.Proofs.YtppmkoglpfdjnaaDoor
