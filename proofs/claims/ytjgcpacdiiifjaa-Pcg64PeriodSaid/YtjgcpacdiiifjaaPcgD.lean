/-
  Walks of the reference's Sum, Step and Seed of the 64-bit PCG. Conditions: none.
-/
import Derived.Test.YtjgcpacdiiifjaaPcgU
import Derived.Test.YtjgcpacdiiifjaaRefU
namespace Go.Proofs.Ytjgcpacdiiifjaa
open Go.RowKit Go.Shelf
set_option linter.unusedVariables false

set_option maxHeartbeats 2000000 in
theorem sum_ref14 (X Y : Nat) (w : World) : Calls Try.prog 25 #[.agg #[.int .u64 (hi64 (X) : Nat), .int .u64 (lo64 (X) : Nat)], .agg #[.int .u64 (hi64 (Y) : Nat), .int .u64 (lo64 (Y) : Nat)]] w (Ret128 w (X + Y)) := by
  go_enter Try.func25, Try.ntmps25
  go_wp2
  have B : Below w.heap.size w (((w.alloc (.cells #[.int .u64 (hi64 X : Nat), .int .u64 (lo64 X : Nat)] 24)).alloc (.cells #[.int .u64 (hi64 Y : Nat), .int .u64 (lo64 Y : Nat)] 24)).alloc (.cells #[.int .u64 0, .int .u64 0] 24)) := by (repeat (first | exact Below.refl _ _ | assumption | (refine Below.alloc ?_ (by first | omega | (simp; done) | (simp; omega)) _) | (refine Below.setCell ?_ (by first | omega | (simp; done) | (simp; omega)) _) | refine Below.drew ?_ | refine below_drewN ?_ _))
  generalize hW : ((w.alloc (.cells #[.int .u64 (hi64 X : Nat), .int .u64 (lo64 X : Nat)] 24)).alloc (.cells #[.int .u64 (hi64 Y : Nat), .int .u64 (lo64 Y : Nat)] 24)).alloc (.cells #[.int .u64 0, .int .u64 0] 24) = W at *
  have X1 : BoxU W w.heap.size X := by rw [← hW]; exact (by (refine ⟨?_, ?_, ?_, ?_, ?_⟩ <;> simp [go_sem] <;> omega))
  have Y1 : BoxU W (w.heap.size + 1) Y := by rw [← hW]; exact (by (refine ⟨?_, ?_, ?_, ?_, ?_⟩ <;> simp [go_sem] <;> omega))
  have C : Box2 W (w.heap.size + 1 + 1) (.int .u64 0) (.int .u64 0) := by rw [← hW]; exact (by (refine ⟨?_, ?_, ?_, ?_, ?_⟩ <;> simp [go_sem] <;> omega))
  clear hW
  go_region_held3 (fun w' => BoxU w' w.heap.size X ∧ BoxU w' (w.heap.size + 1) Y) (exact ⟨X1, Y1⟩) ((first | (go_at_call_of 16 X; (with_reducible refine (of2_u _ _).mono ?_); rintro e w3 ⟨A1, c1, rfl, r1, hb⟩; replace X1 := BoxU.call hb X1; replace Y1 := BoxU.call hb Y1; replace C := Box2.call hb C; replace B : Below w.heap.size w w3 := below_call (by (repeat (first | exact Below.refl _ _ | assumption | (refine Below.alloc ?_ (by first | omega | (simp; done) | (simp; omega)) _) | (refine Below.setCell ?_ (by first | omega | (simp; done) | (simp; omega)) _) | refine Below.drew ?_ | refine below_drewN ?_ _))) (Nat.le_refl _) hb; clear hb) | (go_at_call 16; (with_reducible refine (of2_u _ _).mono ?_); rintro e w3 ⟨A2, c2, rfl, r2, hb⟩; replace X1 := BoxU.call hb X1; replace Y1 := BoxU.call hb Y1; replace C := Box2.call hb C; replace r1 := Rs.go hb r1; replace B : Below w.heap.size w w3 := below_call (by (repeat (first | exact Below.refl _ _ | assumption | (refine Below.alloc ?_ (by first | omega | (simp; done) | (simp; omega)) _) | (refine Below.setCell ?_ (by first | omega | (simp; done) | (simp; omega)) _) | refine Below.drew ?_ | refine below_drewN ?_ _))) (Nat.le_refl _) hb; clear hb) | (go_at_call 18; (with_reducible refine (add_u _ _ _ _ _ _ _ r1 r2).mono ?_); rintro e w3 ⟨A3, c3, rfl, r3, hb⟩; replace X1 := BoxU.call hb X1; replace Y1 := BoxU.call hb Y1; replace C := Box2.call hb C; replace B : Below w.heap.size w w3 := below_call (by (repeat (first | exact Below.refl _ _ | assumption | (refine Below.alloc ?_ (by first | omega | (simp; done) | (simp; omega)) _) | (refine Below.setCell ?_ (by first | omega | (simp; done) | (simp; omega)) _) | refine Below.drew ?_ | refine below_drewN ?_ _))) (Nat.le_refl _) hb; clear hb)))
  go_wp2_with fail
  refine (to2_u _ _ _ _ r3).mono ?_
  rintro e w4 ⟨rfl, hb⟩
  replace X1 := BoxU.call hb (by first | exact X1 | exact Box2.alloc _ X1 | exact Box2.alloc _ (Box2.alloc _ X1))
  replace Y1 := BoxU.call hb (by first | exact Y1 | exact Box2.alloc _ Y1 | exact Box2.alloc _ (Box2.alloc _ Y1))
  replace C := Box2.call hb (by first | exact C | exact Box2.alloc _ C | exact Box2.alloc _ (Box2.alloc _ C))
  replace B : Below w.heap.size w w4 := below_call (by (repeat (first | exact Below.refl _ _ | assumption | (refine Below.alloc ?_ (by first | omega | (simp; done) | (simp; omega)) _) | (refine Below.setCell ?_ (by first | omega | (simp; done) | (simp; omega)) _) | refine Below.drew ?_ | refine below_drewN ?_ _))) (Nat.le_refl _) hb
  clear hb
  generalize hZ : X + Y = Z
  have kZ := hide hZ
  clear hZ
  go_wp2
  exact bodyPost_ret (v := .agg #[.int .u64 (hi64 (Z) : Nat), .int .u64 (lo64 (Z) : Nat)]) (by simp [results, Try.results25, go_sem, C]) rfl ⟨by rw [← kZ.out], by (repeat (first | exact Below.refl _ _ | assumption | (refine Below.alloc ?_ (by first | omega | (simp; done) | (simp; omega)) _) | (refine Below.setCell ?_ (by first | omega | (simp; done) | (simp; omega)) _) | refine Below.drew ?_ | refine below_drewN ?_ _))⟩

theorem own_addr {w : World} {base n c : Nat} {e : TypeId} {A : Option Addr} {xs : List Value} (h : w.ownsRow base e 1 (.slice A n c) n xs) (hn : 0 < n) : ∃ g, A = some ⟨g, 0, none⟩ ∧ base ≤ g ∧ g < w.heap.size := by
  rcases h.2 with ⟨_, h0⟩ | ⟨g, cap, cur, hv, hb, hh, _⟩
  · omega
  · injection hv with h1
    exact ⟨g, h1, hb, (Array.getElem?_eq_some_iff.1 hh).1⟩
theorem bits_odd (I : Nat) : (is (bitsOf I 128)).set 0 (.int .i64 1) = is (bitsOf (odd1 I) 128) := by
  refine List.ext_getElem (by simp [len_is, len_bitsOf]) fun i h1 h2 => ?_
  rw [List.getElem_set]
  split
  · rename_i h
    subst h
    rw [get_is, get_bitsOf]
    unfold bt odd1
    simp
  · rename_i h
    rw [get_is, get_is, get_bitsOf, get_bitsOf]
    obtain ⟨k, rfl⟩ : ∃ k, i = k + 1 := ⟨i - 1, by omega⟩
    have e : odd1 I / 2 ^ (k + 1) = I / 2 ^ (k + 1) := by
      rw [Nat.pow_succ, Nat.mul_comm, ← Nat.div_div_eq_div_mul, ← Nat.div_div_eq_div_mul]
      congr 1
      unfold odd1
      omega
    unfold bt
    rw [e]
theorem pcgM_hi : hi64 pcgM = 2549297995355413924 := by decide
theorem pcgM_lo : lo64 pcgM = 4865540595714422341 := by decide
theorem of2_c (w : World) : Calls Try.prog 16 #[.agg #[.int .u64 2549297995355413924, .int .u64 4865540595714422341]] w (RetB w pcgM 128) := by
  have h := of2_u pcgM w
  rw [pcgM_hi, pcgM_lo] at h
  exact h
set_option maxHeartbeats 2000000 in
theorem step_ref14 (X I : Nat) (w : World) : Calls Try.prog 33 #[.agg #[.int .u64 (hi64 (X) : Nat), .int .u64 (lo64 (X) : Nat)], .agg #[.int .u64 (hi64 (I) : Nat), .int .u64 (lo64 (I) : Nat)]] w (Ret128 w (X * pcgM + odd1 I)) := by
  go_enter Try.func33, Try.ntmps33
  go_wp2_with fail
  refine (of2_any _ _ _ (hi64_lt I) (lo64_lt I)).mono ?_
  rintro e w1 ⟨A1, c1, rfl, hown, hb⟩
  have hX : BoxU w1 w.heap.size X := BoxU.call hb (by (refine ⟨?_, ?_, ?_, ?_, ?_⟩ <;> simp [go_sem] <;> omega))
  have C : Box2 w1 (w.heap.size + 1 + 1) (.int .u64 0) (.int .u64 0) := Box2.call hb (by (refine ⟨?_, ?_, ?_, ?_, ?_⟩ <;> simp [go_sem] <;> omega))
  have B : Below w.heap.size w w1 := below_call (by (repeat (first | exact Below.refl _ _ | assumption | (refine Below.alloc ?_ (by first | omega | (simp; done) | (simp; omega)) _) | (refine Below.setCell ?_ (by first | omega | (simp; done) | (simp; omega)) _) | refine Below.drew ?_ | refine below_drewN ?_ _))) (Nat.le_refl _) hb
  rw [val2_of, m128_pow, bitsOf_mod] at hown
  obtain ⟨g, rfl, hg1, hg2⟩ := own_addr hown (by omega)
  have z0 := hown.frozenAt 0
  have z1 : w1.cell? ⟨g, 0, none⟩ = some (.int .i64 (bt I 0 : Nat)) := by
    rw [hown.cellAt 0 (by omega), List.getElem?_eq_getElem (by simp [len_is, len_bitsOf]), get_is, get_bitsOf]
  have r1 : Rs (w1.setCell ⟨g, 0, none⟩ (.int .i64 1)) (some ⟨g, 0, none⟩) (is (bitsOf (odd1 I) 128)) := by
    have h := hown.stored 0 (.int .i64 1)
    rw [bits_odd] at h
    exact Rs.of_own h.1
  have hg3 : w.heap.size + 1 + 1 < g := by simp at hg1; omega
  have X1 : BoxU (w1.setCell ⟨g, 0, none⟩ (.int .i64 1)) w.heap.size X := by
    obtain ⟨a, b, c, d, f⟩ := hX
    refine ⟨?_, ?_, ?_, ?_, ?_⟩ <;> simp [go_sem, *] <;> omega
  have C1 : Box2 (w1.setCell ⟨g, 0, none⟩ (.int .i64 1)) (w.heap.size + 1 + 1) (.int .u64 0) (.int .u64 0) := by
    obtain ⟨a, b, c, d, f⟩ := C
    refine ⟨?_, ?_, ?_, ?_, ?_⟩ <;> simp [go_sem, *] <;> omega
  have B1 : Below w.heap.size w (w1.setCell ⟨g, 0, none⟩ (.int .i64 1)) := B.setCell (show w.heap.size ≤ g by omega) _
  clear hb hX C B hown
  go_wp2_with fail
  clear z0 z1
  refine (of2_c _).mono ?_
  rintro e w2 ⟨A2, c2, rfl, r2, hb⟩
  replace X1 := BoxU.call hb (by first | exact X1 | exact Box2.alloc _ X1 | exact Box2.alloc _ (Box2.alloc _ X1))
  replace C1 := Box2.call hb (by first | exact C1 | exact Box2.alloc _ C1 | exact Box2.alloc _ (Box2.alloc _ C1))
  replace r1 := Rs.go hb (by first | exact r1 | exact Rs.alloc r1 _ | exact Rs.alloc (Rs.alloc r1 _) _)
  replace B1 : Below w.heap.size w w2 := below_call (by (repeat (first | exact Below.refl _ _ | assumption | (refine Below.alloc ?_ (by first | omega | (simp; done) | (simp; omega)) _) | (refine Below.setCell ?_ (by first | omega | (simp; done) | (simp; omega)) _) | refine Below.drew ?_ | refine below_drewN ?_ _))) (Nat.le_refl _) hb
  clear hb
  go_wp2_with fail
  refine (of2_u _ _).mono ?_
  rintro e w3 ⟨A3, c3, rfl, r3, hb⟩
  replace C1 := Box2.call hb (by first | exact C1 | exact Box2.alloc _ C1 | exact Box2.alloc _ (Box2.alloc _ C1))
  replace r1 := Rs.go hb (by first | exact r1 | exact Rs.alloc r1 _ | exact Rs.alloc (Rs.alloc r1 _) _)
  replace r2 := Rs.go hb (by first | exact r2 | exact Rs.alloc r2 _ | exact Rs.alloc (Rs.alloc r2 _) _)
  replace B1 : Below w.heap.size w w3 := below_call (by (repeat (first | exact Below.refl _ _ | assumption | (refine Below.alloc ?_ (by first | omega | (simp; done) | (simp; omega)) _) | (refine Below.setCell ?_ (by first | omega | (simp; done) | (simp; omega)) _) | refine Below.drew ?_ | refine below_drewN ?_ _))) (Nat.le_refl _) hb
  clear hb
  go_wp2_with fail
  refine (mul_u _ _ _ _ _ _ _ r3 r2).mono ?_
  rintro e w4 ⟨A4, c4, rfl, r4, hb⟩
  replace C1 := Box2.call hb (by first | exact C1 | exact Box2.alloc _ C1 | exact Box2.alloc _ (Box2.alloc _ C1))
  replace r1 := Rs.go hb (by first | exact r1 | exact Rs.alloc r1 _ | exact Rs.alloc (Rs.alloc r1 _) _)
  replace B1 : Below w.heap.size w w4 := below_call (by (repeat (first | exact Below.refl _ _ | assumption | (refine Below.alloc ?_ (by first | omega | (simp; done) | (simp; omega)) _) | (refine Below.setCell ?_ (by first | omega | (simp; done) | (simp; omega)) _) | refine Below.drew ?_ | refine below_drewN ?_ _))) (Nat.le_refl _) hb
  clear hb
  go_wp2_with fail
  refine (add_u _ _ _ _ _ _ _ r4 r1).mono ?_
  rintro e w5 ⟨A5, c5, rfl, r5, hb⟩
  replace C1 := Box2.call hb (by first | exact C1 | exact Box2.alloc _ C1 | exact Box2.alloc _ (Box2.alloc _ C1))
  replace B1 : Below w.heap.size w w5 := below_call (by (repeat (first | exact Below.refl _ _ | assumption | (refine Below.alloc ?_ (by first | omega | (simp; done) | (simp; omega)) _) | (refine Below.setCell ?_ (by first | omega | (simp; done) | (simp; omega)) _) | refine Below.drew ?_ | refine below_drewN ?_ _))) (Nat.le_refl _) hb
  clear hb
  go_wp2_with fail
  refine (to2_u _ _ _ _ r5).mono ?_
  rintro e w6 ⟨rfl, hb⟩
  replace C1 := Box2.call hb (by first | exact C1 | exact Box2.alloc _ C1 | exact Box2.alloc _ (Box2.alloc _ C1))
  replace B1 : Below w.heap.size w w6 := below_call (by (repeat (first | exact Below.refl _ _ | assumption | (refine Below.alloc ?_ (by first | omega | (simp; done) | (simp; omega)) _) | (refine Below.setCell ?_ (by first | omega | (simp; done) | (simp; omega)) _) | refine Below.drew ?_ | refine below_drewN ?_ _))) (Nat.le_refl _) hb
  clear hb
  generalize hZ : X * pcgM + odd1 I = Z
  have kZ := hide hZ
  clear hZ
  go_wp2
  exact bodyPost_ret (v := .agg #[.int .u64 (hi64 (Z) : Nat), .int .u64 (lo64 (Z) : Nat)]) (by simp [results, Try.results33, go_sem, C1]) rfl ⟨by rw [← kZ.out], by (repeat (first | exact Below.refl _ _ | assumption | (refine Below.alloc ?_ (by first | omega | (simp; done) | (simp; omega)) _) | (refine Below.setCell ?_ (by first | omega | (simp; done) | (simp; omega)) _) | refine Below.drew ?_ | refine below_drewN ?_ _))⟩
end Go.Proofs.Ytjgcpacdiiifjaa
