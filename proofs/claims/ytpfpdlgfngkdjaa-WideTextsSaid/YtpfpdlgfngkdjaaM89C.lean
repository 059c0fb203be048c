/-
  Walks of mers89.Add, Sub, Mul, Pow, Inv. Conditions: as each says.
-/
import Derived.Test.YtpfpdlgfngkdjaaM89B
namespace Go.Proofs.Ytpfpdlgfngkdjaa
open Go.RowKit Go.Shelf
set_option linter.unusedVariables false

theorem Box4.new {W w' : World} {v0 v1 v2 v3 : Value} {T : TypeId} (hb : Below (W.alloc (.cells #[v0, v1, v2, v3] T)).heap.size (W.alloc (.cells #[v0, v1, v2, v3] T)) w') : Box4 w' W.heap.size v0 v1 v2 v3 :=
  Box4.call hb ⟨by simp [go_sem], by simp [go_sem], by simp [go_sem], by simp [go_sem], by simp [go_sem], by simp [go_sem], by simp [go_sem], by simp [go_sem], by simp [go_sem]⟩
theorem Box4.newd {W w' : World} {v0 v1 v2 v3 : Value} {T : TypeId} (hb : Below (W.alloc (.cells #[v0, v1, v2, v3] T)).drew.heap.size (W.alloc (.cells #[v0, v1, v2, v3] T)).drew w') : Box4 w' W.heap.size v0 v1 v2 v3 :=
  Box4.call hb ⟨by simp [go_sem], by simp [go_sem], by simp [go_sem], by simp [go_sem], by simp [go_sem], by simp [go_sem], by simp [go_sem], by simp [go_sem], by simp [go_sem]⟩
theorem Box2.far4 {w : World} {b b' : Nat} {v0 v1 u0 u1 u2 u3 : Value} (h : Box2 w b v0 v1) (hne : b' ≠ b) : Box2 ((((w.setCell ⟨b', 0, none⟩ u0).setCell ⟨b', 1, none⟩ u1).setCell ⟨b', 2, none⟩ u2).setCell ⟨b', 3, none⟩ u3) b v0 v1 := by
  have h1 := Box2.far (k := 0) (v := u0) h hne
  have h2 := Box2.far (k := 1) (v := u1) h1 hne
  have h3 := Box2.far (k := 2) (v := u2) h2 hne
  have h4 := Box2.far (k := 3) (v := u3) h3 hne
  exact h4
theorem wd_hi {X : Nat} (h : X < 340282366920938463463374607431768211456) : wd X 2 = 0 ∧ wd X 3 = 0 := by
  rw [wd2, wd3]
  omega
theorem wd_lo1 (X : Nat) : wd X 0 = lo64 X ∧ wd X 1 = hi64 X := by
  rw [wd0, wd1]
  exact ⟨rfl, rfl⟩
theorem wider_u (X : Nat) (hX : X < 340282366920938463463374607431768211456) (w : World) : Calls Try.prog 43 #[.agg #[.int .u64 (hi64 (X) : Nat), .int .u64 (lo64 (X) : Nat)]] w fun e w' => e = .returned (.agg #[.int .u64 (wd (X) 0 : Nat), .int .u64 (wd (X) 1 : Nat), .int .u64 (wd (X) 2 : Nat), .int .u64 (wd (X) 3 : Nat)]) ∧ Below w.heap.size w w' := by
  rw [(wd_hi hX).1, (wd_hi hX).2, (wd_lo1 X).1, (wd_lo1 X).2]
  exact wider_any _ _ w
theorem lt_256 {X : Nat} (h : X < 340282366920938463463374607431768211456) : X < 2 ^ 256 := Nat.lt_of_lt_of_le h (by decide)
theorem fold_w (X : Nat) (hX : X < 340282366920938463463374607431768211456) (w : World) : Calls Try.prog 16 #[.agg #[.int .u64 (lo64 X : Nat), .int .u64 (hi64 X : Nat), .int .u64 0, .int .u64 0]] w (Ret128 w (X % P89)) := by
  have h := fold_u X (lt_256 hX) w
  rw [(wd_hi hX).1, (wd_hi hX).2, (wd_lo1 X).1, (wd_lo1 X).2] at h
  exact h
set_option maxHeartbeats 2000000 in
theorem mmul89_g (ah al bh bl s0 s1 s2 s3 rh rl : Nat) (w : World)
    (H1 : ∀ W, Calls Try.prog 56 #[.agg #[.int .u64 ah, .int .u64 al], .agg #[.int .u64 bh, .int .u64 bl]] W fun e w' => e = .returned (.agg #[.int .u64 s0, .int .u64 s1, .int .u64 s2, .int .u64 s3]) ∧ Below W.heap.size W w')
    (H2 : ∀ W, Calls Try.prog 16 #[.agg #[.int .u64 s0, .int .u64 s1, .int .u64 s2, .int .u64 s3]] W fun e w' => e = .returned (.agg #[.int .u64 rh, .int .u64 rl]) ∧ Below W.heap.size W w')
    : Calls Try.prog 54 #[.agg #[.int .u64 ah, .int .u64 al], .agg #[.int .u64 bh, .int .u64 bl]] w fun e w' => e = .returned (.agg #[.int .u64 rh, .int .u64 rl]) ∧ Below w.heap.size w w' := by
  replace H1 := hide H1
  replace H2 := hide H2
  go_enter Try.func54, Try.ntmps54
  go_wp2_with fail
  refine (H1.out _).mono ?_
  rintro e w1 ⟨rfl, hb⟩
  have R1 := Box2.call hb (show Box2 _ (w.heap.size + 1 + 1) (.int .u64 0) (.int .u64 0) from (by (refine ⟨?_, ?_, ?_, ?_, ?_⟩ <;> simp [go_sem] <;> omega)))
  have B : Below w.heap.size w w1 := below_call (by (repeat (first | exact Below.refl _ _ | assumption | (refine Below.alloc ?_ (by first | omega | (simp; done) | (simp; omega)) _) | (refine Below.setCell ?_ (by first | omega | (simp; done) | (simp; omega)) _) | refine Below.drew ?_ | refine below_drewN ?_ _))) (Nat.le_refl _) hb
  clear hb
  go_wp2_with fail
  refine (H2.out _).mono ?_
  rintro e w2 ⟨rfl, hb⟩
  replace R1 := Box2.call hb (by first | exact R1 | exact Box2.alloc _ R1 | exact Box2.alloc _ (Box2.alloc _ R1))
  replace B : Below w.heap.size w w2 := below_call (by (repeat (first | exact Below.refl _ _ | assumption | (refine Below.alloc ?_ (by first | omega | (simp; done) | (simp; omega)) _) | (refine Below.setCell ?_ (by first | omega | (simp; done) | (simp; omega)) _) | refine Below.drew ?_ | refine below_drewN ?_ _))) (Nat.le_refl _) hb
  clear hb
  go_wp2_with fail
  exact bodyPost_ret (v := .agg #[.int .u64 rh, .int .u64 rl]) (by simp [results, Try.results54, go_sem, R1]) rfl ⟨rfl, by (repeat (first | exact Below.refl _ _ | assumption | (refine Below.alloc ?_ (by first | omega | (simp; done) | (simp; omega)) _) | (refine Below.setCell ?_ (by first | omega | (simp; done) | (simp; omega)) _) | refine Below.drew ?_ | refine below_drewN ?_ _))⟩
theorem P89_pos : 0 < P89 := by rw [P89_val]; omega
theorem mod_lt89 (X : Nat) : X % P89 < 340282366920938463463374607431768211456 := Nat.lt_trans (Nat.mod_lt _ P89_pos) P89_lt
theorem psub_p (y : Nat) (hy : y < P89) (w : World) : Calls Try.prog 40 #[.agg #[.int .u64 33554431, .int .u64 18446744073709551615], .agg #[.int .u64 (hi64 (y) : Nat), .int .u64 (lo64 (y) : Nat)]] w fun e w' => ∃ c : Bool, e = .returned (.tuple #[.agg #[.int .u64 (hi64 (P89 - y) : Nat), .int .u64 (lo64 (P89 - y) : Nat)], .bool c]) ∧ Below w.heap.size w w' := by
  have hl := P89_lt
  have h1 := wsub_u P89 y w
  rw [P89_hi, P89_lo, m128_id P89_lt, m128_id (Nat.lt_trans hy P89_lt), show dif128 P89 y = P89 - y by unfold dif128; omega] at h1
  exact h1
theorem mmul89_u (X Y : Nat) (hX : X < 340282366920938463463374607431768211456) (hY : Y < 340282366920938463463374607431768211456) (w : World) : Calls Try.prog 54 #[.agg #[.int .u64 (hi64 (X) : Nat), .int .u64 (lo64 (X) : Nat)], .agg #[.int .u64 (hi64 (Y) : Nat), .int .u64 (lo64 (Y) : Nat)]] w (Ret128 w (X * Y % P89)) := by
  have hs : X * Y < 2 ^ 256 := by
    rw [show (256 : Nat) = 128 + 128 from rfl, Nat.pow_add, two128]
    exact Nat.mul_lt_mul_of_lt_of_lt hX hY
  have h1 := full_u X Y
  rw [m128_id hX, m128_id hY] at h1
  exact mmul89_g _ _ _ _ _ _ _ _ _ _ w h1 (fold_u (X * Y) hs)
theorem powr_step (a o A e k P T : Nat) (h : o * A ^ (e / 2 ^ k) % P = T) : (bt e k = 1 → (o * A % P) * (A * A % P) ^ (e / 2 ^ (k + 1)) % P = T) ∧ (bt e k = 0 → o * (A * A % P) ^ (e / 2 ^ (k + 1)) % P = T) := by
  have e1 : e / 2 ^ k = 2 * (e / 2 ^ (k + 1)) + bt e k := by unfold bt; rw [Nat.pow_succ, ← Nat.div_div_eq_div_mul]; omega
  rw [e1] at h
  generalize e / 2 ^ (k + 1) = q at *
  have e2 : (A * A % P) ^ q % P = A ^ (2 * q) % P := by
    rw [← Nat.pow_mod, Nat.pow_mul, Nat.pow_two]
  constructor
  · intro hb
    rw [hb, Nat.pow_succ] at h
    rw [← h, Nat.mul_mod, Nat.mod_mod, e2, ← Nat.mul_mod, Nat.mul_assoc, Nat.mul_comm A]
  · intro hb
    rw [hb, Nat.add_zero] at h
    rw [← h, Nat.mul_mod, e2, ← Nat.mul_mod]
set_option maxRecDepth 100000 in
set_option maxHeartbeats 4000000 in
theorem pow89_g (a eh el e P T n : Nat) (w : World) (ha : a < 340282366920938463463374607431768211456) (hP : P ≤ 340282366920938463463374607431768211456) (h1P : 1 < P) (hn : e < 2 ^ n) (hn2 : n ≤ 256) (hT : 1 * a ^ (e / 2 ^ 0) % P = T)
    (H1 : ∀ W, Calls Try.prog 43 #[.agg #[.int .u64 eh, .int .u64 el]] W fun e_ w' => e_ = .returned (.agg #[.int .u64 (wd (e) 0 : Nat), .int .u64 (wd (e) 1 : Nat), .int .u64 (wd (e) 2 : Nat), .int .u64 (wd (e) 3 : Nat)]) ∧ Below W.heap.size W w')
    (H2 : ∀ W, Calls Try.prog 52 #[.agg #[.int .u64 (wd (e) 0 : Nat), .int .u64 (wd (e) 1 : Nat), .int .u64 (wd (e) 2 : Nat), .int .u64 (wd (e) 3 : Nat)]] W fun e_ w' => e_ = .returned (.int .i64 n) ∧ Below W.heap.size W w')
    (H3 : ∀ W (k : Nat), k < n → Calls Try.prog 53 #[.agg #[.int .u64 (wd (e) 0 : Nat), .int .u64 (wd (e) 1 : Nat), .int .u64 (wd (e) 2 : Nat), .int .u64 (wd (e) 3 : Nat)], .int .i64 k] W fun e_ w' => e_ = .returned (.bool (decide (bt e k = 1))) ∧ Below W.heap.size W w')
    (H4 : ∀ W (X Y : Nat), X < 340282366920938463463374607431768211456 → Y < 340282366920938463463374607431768211456 → Calls Try.prog 54 #[.agg #[.int .u64 (hi64 (X) : Nat), .int .u64 (lo64 (X) : Nat)], .agg #[.int .u64 (hi64 (Y) : Nat), .int .u64 (lo64 (Y) : Nat)]] W (Ret128 W (X * Y % P))) :
    Calls Try.prog 49 #[.agg #[.int .u64 (hi64 (a) : Nat), .int .u64 (lo64 (a) : Nat)], .agg #[.int .u64 eh, .int .u64 el]] w (Ret128 w T) := by
  replace H1 := hide H1
  replace H2 := hide H2
  replace H3 := hide H3
  replace H4 := hide H4
  have HT := hide hT
  have HN := hide hn
  have HP := hide hP
  have H1P := hide h1P
  have HA := hide ha
  clear hT hn hP h1P ha
  go_enter Try.func49, Try.ntmps49
  go_wp2_with fail
  refine (H1.out _).mono ?_
  rintro e_ w1 ⟨rfl, hb⟩
  have A1 : BoxU w1 w.heap.size a := Box2.call hb (show Box2 _ w.heap.size (.int .u64 (hi64 a : Nat)) (.int .u64 (lo64 a : Nat)) from (by (refine ⟨?_, ?_, ?_, ?_, ?_⟩ <;> simp [go_sem] <;> omega)))
  have E1 := Box2.call hb (show Box2 _ (w.heap.size + 1) (.int .u64 eh) (.int .u64 el) from (by (refine ⟨?_, ?_, ?_, ?_, ?_⟩ <;> simp [go_sem] <;> omega)))
  have R1 := Box2.call hb (show Box2 _ (w.heap.size + 1 + 1) (.int .u64 0) (.int .u64 0) from (by (refine ⟨?_, ?_, ?_, ?_, ?_⟩ <;> simp [go_sem] <;> omega)))
  have O1 : BoxU w1 (w.heap.size + 1 + 1 + 1) 1 := Box2.call hb (show Box2 _ (w.heap.size + 1 + 1 + 1) (.int .u64 0) (.int .u64 1) from (by (refine ⟨?_, ?_, ?_, ?_, ?_⟩ <;> simp [go_sem] <;> omega)))
  have B : Below w.heap.size w w1 := below_call (by (repeat (first | exact Below.refl _ _ | assumption | (refine Below.alloc ?_ (by first | omega | (simp; done) | (simp; omega)) _) | (refine Below.setCell ?_ (by first | omega | (simp; done) | (simp; omega)) _) | refine Below.drew ?_ | refine below_drewN ?_ _))) (Nat.le_refl _) hb
  clear hb
  go_wp2_with fail
  refine (H2.out _).mono ?_
  rintro e_ w2 ⟨rfl, hb⟩
  replace A1 : BoxU w2 w.heap.size a := Box2.call hb A1
  replace E1 := Box2.call hb E1
  replace R1 := Box2.call hb R1
  replace O1 : BoxU w2 (w.heap.size + 1 + 1 + 1) 1 := Box2.call hb O1
  replace B : Below w.heap.size w w2 := below_call B (Nat.le_refl _) hb
  clear hb
  go_wp2_with fail
  have k0 : w.heap.size ≤ w.heap.size + 1 + 1 + 1 := by omega
  have k1 : w.heap.size ≤ w.heap.size + 1 + 1 := by omega
  have k2 : ¬ w.heap.size + 1 + 1 + 1 = w.heap.size := by omega
  have k3 : ¬ w.heap.size + 1 + 1 + 1 = w.heap.size + 1 := by omega
  have k4 : ¬ w.heap.size + 1 + 1 + 1 = w.heap.size + 1 + 1 := by omega
  have k5 : ¬ w.heap.size = w.heap.size + 1 := by omega
  have k6 : ¬ w.heap.size = w.heap.size + 1 + 1 := by omega
  have k7 : ¬ w.heap.size = w.heap.size + 1 + 1 + 1 := by omega
  have k8 : w.heap.size ≤ w.heap.size := by omega
  generalize w.heap.size + 1 + 1 + 1 = nO at *
  generalize w.heap.size + 1 + 1 = nR at *
  generalize w.heap.size + 1 = nE at *
  go_loopg [11] n (fun g i wr => ∃ k o A : Nat, i = .int .i64 k ∧ Hid (k + g = n) ∧ k ≤ n ∧ BoxU wr w.heap.size A ∧ Box2 wr nE (.int .u64 eh) (.int .u64 el) ∧ Box2 wr nR (.int .u64 0) (.int .u64 0) ∧ BoxU wr nO o ∧ Hid (o < P ∧ A < 340282366920938463463374607431768211456 ∧ o * A ^ (e / 2 ^ k) % P = T) ∧ Below w.heap.size w wr)
  case atStart => exact ⟨0, 1, a, rfl, hide (by omega), by omega, A1, E1, R1, O1, hide ⟨H1P.out, HA.out, HT.out⟩, B⟩
  case round =>
    clear A1 E1 R1 O1 B HT HA
    obtain ⟨k, o, A, rfl, hg, hkn, A1, E1, R1, O1, hM, B⟩ := hrel
    have bz := B.size
    by_cases hlt : k < n
    · have t1 : (k : Int) < (n : Int) := by omega
      have hk1 := hide (show k + 1 ≤ n by omega)
      have hg0 := hide (show gk - 1 < gk by have := hg.out; omega)
      have hg1 := hide (show k + 1 + (gk - 1) = n by have := hg.out; omega)
      have hn3 : (n : Int) ≤ 256 := by omega
      have C3 := hide (fun W => H3.out W k hlt)
      have Co := hide (fun W => H4.out W o A (by have := hM.out.1; have := HP.out; omega) hM.out.2.1)
      have Ca := hide (fun W => H4.out W A A hM.out.2.1 hM.out.2.1)
      obtain ⟨A2, hA2⟩ : ∃ A2, A2 = A * A % P := ⟨_, rfl⟩
      obtain ⟨o2, ho2⟩ : ∃ o2, o2 = o * A % P := ⟨_, rfl⟩
      obtain ⟨q1, q2⟩ := powr_step a o A e k P T hM.out.2.2
      rw [← hA2] at q1 q2 Ca
      rw [← ho2] at q1 Co
      have lA := hide (show A2 < 340282366920938463463374607431768211456 by rw [hA2]; exact Nat.lt_of_lt_of_le (Nat.mod_lt _ (by have := H1P.out; omega)) HP.out)
      have lo := hide (show o2 < P by rw [ho2]; exact Nat.mod_lt _ (by have := H1P.out; omega))
      have lo' := hide hM.out.1
      rcases (show bt e k = 0 ∨ bt e k = 1 by have := bt_le e k; omega) with hb | hb
      · have hq := hide (q2 hb)
        have hd : decide (bt e k = 1) = false := decide_eq_false (by omega)
        rw [hd] at C3
        clear q1 q2 hA2 ho2 hd hb hM hkn hg hlt Co lo
        go_wp2_with fail
        refine (H1.out _).mono ?_
        rintro e_ w3 ⟨rfl, hb⟩
        replace A1 := BoxU.call hb A1
        replace E1 := Box2.call hb E1
        replace R1 := Box2.call hb R1
        replace O1 := BoxU.call hb O1
        replace B : Below w.heap.size w w3 := below_call B (Nat.le_refl _) hb
        clear hb
        go_wp2_with fail
        refine (C3.out _).mono ?_
        rintro e_ w4 ⟨rfl, hb⟩
        replace A1 := BoxU.call hb A1
        replace E1 := Box2.call hb E1
        replace R1 := Box2.call hb R1
        replace O1 := BoxU.call hb O1
        replace B : Below w.heap.size w w4 := below_call B (Nat.le_refl _) hb
        clear hb
        go_wp2_with fail
        refine (Ca.out _).mono ?_
        rintro e_ w5 ⟨rfl, hb⟩
        replace A1 := BoxU.call hb A1
        replace E1 := Box2.call hb E1
        replace R1 := Box2.call hb R1
        replace O1 := BoxU.call hb O1
        replace B : Below w.heap.size w w5 := below_call B (Nat.le_refl _) hb
        clear hb
        have A2' := Box2.put (.int .u64 (hi64 A2 : Nat)) (.int .u64 (lo64 A2 : Nat)) A1
        replace E1 := Box2.far2 (u0 := .int .u64 (hi64 A2 : Nat)) (u1 := .int .u64 (lo64 A2 : Nat)) E1 k5
        replace R1 := Box2.far2 (u0 := .int .u64 (hi64 A2 : Nat)) (u1 := .int .u64 (lo64 A2 : Nat)) R1 k6
        have O2 := Box2.far2 (u0 := .int .u64 (hi64 A2 : Nat)) (u1 := .int .u64 (lo64 A2 : Nat)) O1 k7
        clear bz
        have bz := B.size
        go_wp2_with fail
        go_roundg (gk - 1)
        case measure => exact hg0.out
        case rel => exact ⟨k + 1, o, A2, by go_num, hg1, hk1.out, A2', E1, R1, O2, hide ⟨lo'.out, lA.out, hq.out⟩, by (repeat (first | exact Below.refl _ _ | assumption | (refine Below.alloc ?_ (by first | omega | (simp; done) | (simp; omega)) _) | (refine Below.setCell ?_ (by first | omega | (simp; done) | (simp; omega)) _) | refine Below.drew ?_ | refine below_drewN ?_ _))⟩
      · have hq := hide (q1 hb)
        have hd : decide (bt e k = 1) = true := decide_eq_true hb
        rw [hd] at C3
        clear q1 q2 hA2 ho2 hd hb hM hkn hg hlt lo'
        go_wp2_with fail
        refine (H1.out _).mono ?_
        rintro e_ w3 ⟨rfl, hb⟩
        replace A1 := BoxU.call hb A1
        replace E1 := Box2.call hb E1
        replace R1 := Box2.call hb R1
        replace O1 := BoxU.call hb O1
        replace B : Below w.heap.size w w3 := below_call B (Nat.le_refl _) hb
        clear hb
        go_wp2_with fail
        refine (C3.out _).mono ?_
        rintro e_ w4 ⟨rfl, hb⟩
        replace A1 := BoxU.call hb A1
        replace E1 := Box2.call hb E1
        replace R1 := Box2.call hb R1
        replace O1 := BoxU.call hb O1
        replace B : Below w.heap.size w w4 := below_call B (Nat.le_refl _) hb
        clear hb
        go_wp2_with fail
        refine (Co.out _).mono ?_
        rintro e_ w5 ⟨rfl, hb⟩
        replace A1 := BoxU.call hb A1
        replace E1 := Box2.call hb E1
        replace R1 := Box2.call hb R1
        replace O1 := BoxU.call hb O1
        replace B : Below w.heap.size w w5 := below_call B (Nat.le_refl _) hb
        clear hb bz
        have bz := B.size
        have O2 := Box2.put (.int .u64 (hi64 o2 : Nat)) (.int .u64 (lo64 o2 : Nat)) O1
        have A3 := Box2.far2 (u0 := .int .u64 (hi64 o2 : Nat)) (u1 := .int .u64 (lo64 o2 : Nat)) A1 k2
        replace E1 := Box2.far2 (u0 := .int .u64 (hi64 o2 : Nat)) (u1 := .int .u64 (lo64 o2 : Nat)) E1 k3
        replace R1 := Box2.far2 (u0 := .int .u64 (hi64 o2 : Nat)) (u1 := .int .u64 (lo64 o2 : Nat)) R1 k4
        have B2 : Below w.heap.size w ((w5.setCell ⟨nO, 0, none⟩ (.int .u64 (hi64 o2 : Nat))).setCell ⟨nO, 1, none⟩ (.int .u64 (lo64 o2 : Nat))) := by (repeat (first | exact Below.refl _ _ | assumption | (refine Below.alloc ?_ (by first | omega | (simp; done) | (simp; omega)) _) | (refine Below.setCell ?_ (by first | omega | (simp; done) | (simp; omega)) _) | refine Below.drew ?_ | refine below_drewN ?_ _))
        clear B
        go_wp2_with fail
        refine (Ca.out _).mono ?_
        rintro e_ w6 ⟨rfl, hb⟩
        clear A1 O1
        replace A3 := Box2.call hb A3
        replace E1 := Box2.call hb E1
        replace R1 := Box2.call hb R1
        replace O2 := Box2.call hb O2
        have B : Below w.heap.size w w6 := below_call B2 (Nat.le_refl _) hb
        clear hb bz B2
        have bz := B.size
        have A2' := Box2.put (.int .u64 (hi64 A2 : Nat)) (.int .u64 (lo64 A2 : Nat)) A3
        replace E1 := Box2.far2 (u0 := .int .u64 (hi64 A2 : Nat)) (u1 := .int .u64 (lo64 A2 : Nat)) E1 k5
        replace R1 := Box2.far2 (u0 := .int .u64 (hi64 A2 : Nat)) (u1 := .int .u64 (lo64 A2 : Nat)) R1 k6
        replace O2 := Box2.far2 (u0 := .int .u64 (hi64 A2 : Nat)) (u1 := .int .u64 (lo64 A2 : Nat)) O2 k7
        go_wp2_with fail
        go_roundg (gk - 1)
        case measure => exact hg0.out
        case rel => exact ⟨k + 1, o2, A2, by go_num, hg1, hk1.out, A2', E1, R1, O2, hide ⟨lo.out, lA.out, hq.out⟩, by (repeat (first | exact Below.refl _ _ | assumption | (refine Below.alloc ?_ (by first | omega | (simp; done) | (simp; omega)) _) | (refine Below.setCell ?_ (by first | omega | (simp; done) | (simp; omega)) _) | refine Below.drew ?_ | refine below_drewN ?_ _))⟩
    · have hkn2 : k = n := by omega
      subst hkn2
      have hz : e / 2 ^ k = 0 := Nat.div_eq_of_lt HN.out
      have h2 := hM.out.2.2
      rw [hz, Nat.pow_zero, Nat.mul_one, Nat.mod_eq_of_lt hM.out.1] at h2
      subst h2
      clear hM hg hkn hlt hz
      go_wp2_with fail
      have R2 := Box2.put (.int .u64 (hi64 o : Nat)) (.int .u64 (lo64 o : Nat)) R1
      refine bodyPost_ret (v := .agg #[.int .u64 (hi64 (o) : Nat), .int .u64 (lo64 (o) : Nat)]) (by simp [results, Try.results49, go_sem, R2]) rfl ⟨rfl, ?_⟩
      (repeat (first | exact Below.refl _ _ | assumption | (refine Below.alloc ?_ (by first | omega | (simp; done) | (simp; omega)) _) | (refine Below.setCell ?_ (by first | omega | (simp; done) | (simp; omega)) _) | refine Below.drew ?_ | refine below_drewN ?_ _))
end Go.Proofs.Ytpfpdlgfngkdjaa
