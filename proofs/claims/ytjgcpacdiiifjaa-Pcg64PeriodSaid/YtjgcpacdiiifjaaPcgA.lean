/-
  Walks of pcg64.odd, plus, Times, (line).of, one, Step. Conditions: words fit 64 bits.
-/
import Derived.Test.YtjgcpacdiiifjaaWideC
import Derived.Test.YtjgcpacdiiifjaaBox
import Derived.Laws.Bits64
import Derived.Laws.Bits64b
namespace Go.Proofs.Ytjgcpacdiiifjaa
open Go.RowKit Go.Shelf
set_option linter.unusedVariables false

theorem or_one (n : Nat) : n ||| 1 = n / 2 * 2 + 1 := by
  apply Nat.eq_of_testBit_eq
  intro i
  rw [Nat.testBit_or]
  cases i with
  | zero => simp [Nat.testBit_zero]
  | succ k =>
    rw [Nat.testBit_succ, Nat.testBit_succ, Nat.testBit_succ]
    have : (n / 2 * 2 + 1) / 2 = n / 2 := by omega
    rw [this]; simp
/-- The odd number beside n. -/
def odd1 (n : Nat) : Nat := n / 2 * 2 + 1

set_option maxHeartbeats 400000 in
theorem odd_any (h l : Nat) (w : World) (h1 : h < 18446744073709551616) (h2 : l < 18446744073709551616) :
    Calls Try.prog 62 #[.agg #[.int .u64 h, .int .u64 l]] w fun e w' => e = .returned (.agg #[.int .u64 h, .int .u64 (odd1 l : Nat)]) ∧ Below w.heap.size w w' := by
  go_enter Try.func62, Try.ntmps62
  go_wp2
  have e : bits .or .u64 (l : Int) 1 = ((odd1 l : Nat) : Int) := by rw [show (1 : Int) = ((1 : Nat) : Int) from rfl, bits_or_u64_nat l 1 h2 (by omega), or_one]; rfl
  exact bodyPost_ret (v := .agg #[.int .u64 h, .int .u64 (odd1 l : Nat)]) (by rw [← e]; simp [results, Try.results62, go_sem]) rfl ⟨rfl, by (repeat (first | exact Below.refl _ _ | assumption | (refine Below.alloc ?_ (by first | omega | (simp; done) | (simp; omega)) _) | (refine Below.setCell ?_ (by first | omega | (simp; done) | (simp; omega)) _) | refine Below.drew ?_ | refine below_drewN ?_ _))⟩

set_option maxHeartbeats 400000 in
theorem plus_any (ah al bh bl : Nat) (w : World) (h1 : ah < 18446744073709551616) (h2 : al < 18446744073709551616) (h3 : bh < 18446744073709551616) (h4 : bl < 18446744073709551616) :
    Calls Try.prog 63 #[.agg #[.int .u64 ah, .int .u64 al], .agg #[.int .u64 bh, .int .u64 bl]] w (Ret128 w (val2 ah al + val2 bh bl)) := by
  go_enter Try.func63, Try.ntmps63
  go_wp2_with fail
  refine (wadd_any ah al bh bl _ h1 h2 h3 h4).mono ?_
  rintro e w1 ⟨rfl, hb1⟩
  have q5 : w1.cell? ⟨w.heap.size + 1 + 1, 0, none⟩ = some (.int .u64 0) := cell_call hb1 (by simp [go_sem])
  have q6 : w1.cell? ⟨w.heap.size + 1 + 1, 1, none⟩ = some (.int .u64 0) := cell_call hb1 (by simp [go_sem])
  have z := hb1.size
  simp at z
  have f5 : w1.frozen? ⟨w.heap.size + 1 + 1, 0, none⟩ = false := (hb1.frozen (by simp)).trans (by simp [go_sem])
  have f6 : w1.frozen? ⟨w.heap.size + 1 + 1, 1, none⟩ = false := (hb1.frozen (by simp)).trans (by simp [go_sem])
  have y2 : w.heap.size + 1 + 1 < w1.heap.size := by omega
  have y3 : w.heap.size < w1.heap.size := by omega
  have B1 : Below w.heap.size w w1 := ((((Below.refl _ w).alloc (Nat.le_refl _) _).alloc (by simp) _).alloc (by simp; omega) _).trans (hb1.mono (by simp; omega))
  clear hb1 z
  generalize hH : hi64 (val2 ah al + val2 bh bl) = H
  generalize hL : lo64 (val2 ah al + val2 bh bl) = L
  have kH := hide hH; have kL := hide hL; clear hH hL
  go_wp2
  exact bodyPost_ret (v := .agg #[.int .u64 H, .int .u64 L]) (by simp [results, Try.results63, go_sem, q5, q6, y2]) rfl ⟨by rw [kH.out, kL.out], by (repeat (first | exact Below.refl _ _ | assumption | (refine Below.alloc ?_ (by first | omega | (simp; done) | (simp; omega)) _) | (refine Below.setCell ?_ (by first | omega | (simp; done) | (simp; omega)) _) | refine Below.drew ?_ | refine below_drewN ?_ _))⟩

set_option maxHeartbeats 400000 in
theorem times_c (w : World) : Calls Try.prog 35 #[] w fun e w' => e = .returned (.agg #[.int .u64 2549297995355413924, .int .u64 4865540595714422341]) ∧ Below w.heap.size w w' := by
  go_enter Try.func35, Try.ntmps35
  go_wp2
  exact bodyPost_ret (v := .agg #[.int .u64 2549297995355413924, .int .u64 4865540595714422341]) (by simp [results, Try.results35, go_sem]) rfl ⟨rfl, by (repeat (first | exact Below.refl _ _ | assumption | (refine Below.alloc ?_ (by first | omega | (simp; done) | (simp; omega)) _) | (refine Below.setCell ?_ (by first | omega | (simp; done) | (simp; omega)) _) | refine Below.drew ?_ | refine below_drewN ?_ _))⟩

set_option maxHeartbeats 1000000 in
theorem one_any (h l : Nat) (w : World) (h1 : h < 18446744073709551616) (h2 : l < 18446744073709551616) :
    Calls Try.prog 67 #[.agg #[.int .u64 h, .int .u64 l]] w fun e w' =>
      e = .returned (.agg #[.int .u64 2549297995355413924, .int .u64 4865540595714422341, .int .u64 h, .int .u64 (odd1 l : Nat)]) ∧ Below w.heap.size w w' := by
  go_enter Try.func67, Try.ntmps67
  go_wp2
  go_region_held3 (fun w' => w'.cell? ⟨w.heap.size, 0, none⟩ = some (.int .u64 h) ∧ w'.cell? ⟨w.heap.size, 1, none⟩ = some (.int .u64 l)) (first | exact ⟨p1, p2⟩ | exact ⟨r1, r2⟩ | go_keep) (first | (go_at_call 35; refine (times_c _).mono ?_; rintro e w1 ⟨rfl, hb1⟩; obtain ⟨p1, p2, p3, p4, p5⟩ := Box2.call hb1 (show Box2 _ w.heap.size (.int .u64 h) (.int .u64 l) from ⟨by simp [go_sem], by simp [go_sem], by simp [go_sem], by simp [go_sem], by simp [go_sem]⟩); obtain ⟨q0, q1, q2, q3, g0, g1, g2, g3, y⟩ := Box4.call hb1 (show Box4 _ (w.heap.size + 1) (.int .u64 0) (.int .u64 0) (.int .u64 0) (.int .u64 0) from ⟨by simp [go_sem], by simp [go_sem], by simp [go_sem], by simp [go_sem], by simp [go_sem], by simp [go_sem], by simp [go_sem], by simp [go_sem], by simp [go_sem]⟩)) | (go_at_call 62; refine (odd_any h l _ h1 h2).mono ?_; rintro e w2 ⟨rfl, hb2⟩; obtain ⟨r1, r2, r3, r4, r5⟩ := Box2.call hb2 ⟨p1, p2, p3, p4, p5⟩; obtain ⟨k0, k1, k2, k3, l0, l1, l2, l3, y'⟩ := Box4.call hb2 ⟨q0, q1, q2, q3, g0, g1, g2, g3, y⟩))
  go_wp2
  exact bodyPost_ret (v := .agg #[.int .u64 2549297995355413924, .int .u64 4865540595714422341, .int .u64 h, .int .u64 (odd1 l : Nat)]) (by simp [results, Try.results67, go_sem, k0, k1, k2, k3]) rfl ⟨rfl, by have B1 : Below w.heap.size w w1 := (((Below.refl _ w).alloc (Nat.le_refl _) _).alloc (by simp) _).drew.trans (hb1.mono (by simp; omega)); have B2 := B1.trans (hb2.mono (by omega)); (repeat (first | exact Below.refl _ _ | assumption | (refine Below.alloc ?_ (by first | omega | (simp; done) | (simp; omega)) _) | (refine Below.setCell ?_ (by first | omega | (simp; done) | (simp; omega)) _) | refine Below.drew ?_ | refine below_drewN ?_ _))⟩

set_option maxHeartbeats 1000000 in
theorem line_any (xh xl ah al bh bl : Nat) (w : World) (h1 : xh < 18446744073709551616) (h2 : xl < 18446744073709551616) (h3 : ah < 18446744073709551616) (h4 : al < 18446744073709551616) (h5 : bh < 18446744073709551616) (h6 : bl < 18446744073709551616) :
    Calls Try.prog 68 #[.agg #[.int .u64 ah, .int .u64 al, .int .u64 bh, .int .u64 bl], .agg #[.int .u64 xh, .int .u64 xl]] w (Ret128 w (val2 xh xl * val2 ah al + val2 bh bl)) := by
  go_enter Try.func68, Try.ntmps68
  go_wp2
  go_region_held3 (fun w' => w'.cell? ⟨w.heap.size, 0, none⟩ = some (.int .u64 ah) ∧ w'.cell? ⟨w.heap.size, 1, none⟩ = some (.int .u64 al) ∧ w'.cell? ⟨w.heap.size, 2, none⟩ = some (.int .u64 bh) ∧ w'.cell? ⟨w.heap.size, 3, none⟩ = some (.int .u64 bl) ∧ w'.cell? ⟨w.heap.size + 1, 0, none⟩ = some (.int .u64 xh) ∧ w'.cell? ⟨w.heap.size + 1, 1, none⟩ = some (.int .u64 xl)) (first | exact ⟨p0, p1, p2, p3, a0, a1⟩ | exact ⟨P0, P1, P2, P3, A0, A1⟩ | (refine ⟨?_, ?_, ?_, ?_, ?_, ?_⟩ <;> simp [go_sem, P0, P1, P2, P3, A0, A1]) | go_keep) (first | (go_at_call 31; refine (wtimes_any xh xl ah al _ h1 h2 h3 h4).mono ?_; rintro e w1 ⟨rfl, hb1⟩; obtain ⟨p0, p1, p2, p3, f0, f1, f2, f3, fy⟩ := Box4.call hb1 (show Box4 _ (w.heap.size) (.int .u64 ah) (.int .u64 al) (.int .u64 bh) (.int .u64 bl) from ⟨by simp [go_sem], by simp [go_sem], by simp [go_sem], by simp [go_sem], by simp [go_sem], by simp [go_sem], by simp [go_sem], by simp [go_sem], by simp [go_sem]⟩); obtain ⟨a0, a1, g0, g1, gy⟩ := Box2.call hb1 (show Box2 _ (w.heap.size + 1) (.int .u64 xh) (.int .u64 xl) from ⟨by simp [go_sem], by simp [go_sem], by simp [go_sem], by simp [go_sem], by simp [go_sem]⟩); obtain ⟨c0, c1, k0, k1, ky⟩ := Box2.call hb1 (show Box2 _ (w.heap.size + 1 + 1) (.int .u64 0) (.int .u64 0) from ⟨by simp [go_sem], by simp [go_sem], by simp [go_sem], by simp [go_sem], by simp [go_sem]⟩)) | (go_at_call 63; refine (plus_any (hi64 (val2 xh xl * val2 ah al)) (lo64 (val2 xh xl * val2 ah al)) bh bl _ (hi64_lt _) (lo64_lt _) h5 h6).mono ?_; rintro e w2 ⟨rfl, hb2⟩; obtain ⟨P0, P1, P2, P3, F0, F1, F2, F3, Fy⟩ := Box4.call hb2 ⟨p0, p1, p2, p3, f0, f1, f2, f3, fy⟩; obtain ⟨A0, A1, G0, G1, Gy⟩ := Box2.call hb2 ⟨a0, a1, g0, g1, gy⟩; obtain ⟨C0, C1, K0, K1, Ky⟩ := Box2.call hb2 ⟨c0, c1, k0, k1, ky⟩))
  have B1 : Below w.heap.size w w1 := ((((Below.refl _ w).alloc (Nat.le_refl _) _).alloc (by simp) _).alloc (by simp; omega) _).drew.trans (hb1.mono (by simp; omega))
  have B2 := B1.trans (hb2.mono (by omega))
  clear hb1 hb2 B1
  have eX : lo64 (val2 (hi64 (val2 xh xl * val2 ah al)) (lo64 (val2 xh xl * val2 ah al)) + val2 bh bl) = lo64 (val2 xh xl * val2 ah al + val2 bh bl) := by rw [val2_of]; unfold lo64 m128; omega
  have eY : hi64 (val2 (hi64 (val2 xh xl * val2 ah al)) (lo64 (val2 xh xl * val2 ah al)) + val2 bh bl) = hi64 (val2 xh xl * val2 ah al + val2 bh bl) := by rw [val2_of]; unfold hi64 m128; omega
  rw [eX, eY]
  clear eX eY
  go_wp2
  exact bodyPost_ret (v := .agg #[.int .u64 (hi64 (val2 xh xl * val2 ah al + val2 bh bl) : Nat), .int .u64 (lo64 (val2 xh xl * val2 ah al + val2 bh bl) : Nat)]) (by simp [results, Try.results68, go_sem, C0, C1]) rfl ⟨rfl, by (repeat (first | exact Below.refl _ _ | assumption | (refine Below.alloc ?_ (by first | omega | (simp; done) | (simp; omega)) _) | (refine Below.setCell ?_ (by first | omega | (simp; done) | (simp; omega)) _) | refine Below.drew ?_ | refine below_drewN ?_ _))⟩

/-- The number 'Times' of the program. -/
def pcgM : Nat := val2 2549297995355413924 4865540595714422341
set_option maxHeartbeats 1000000 in
theorem step_any (xh xl bh bl : Nat) (w : World) (h1 : xh < 18446744073709551616) (h2 : xl < 18446744073709551616) (h5 : bh < 18446744073709551616) (h6 : bl < 18446744073709551616) :
    Calls Try.prog 36 #[.agg #[.int .u64 xh, .int .u64 xl], .agg #[.int .u64 bh, .int .u64 bl]] w (Ret128 w (val2 xh xl * pcgM + val2 bh (odd1 bl))) := by
  go_enter Try.func36, Try.ntmps36
  go_wp2
  go_region_held3 (fun w' => w'.cell? ⟨w.heap.size, 0, none⟩ = some (.int .u64 xh) ∧ w'.cell? ⟨w.heap.size, 1, none⟩ = some (.int .u64 xl) ∧ w'.cell? ⟨w.heap.size + 1, 0, none⟩ = some (.int .u64 bh) ∧ w'.cell? ⟨w.heap.size + 1, 1, none⟩ = some (.int .u64 bl)) (first | exact ⟨p0, p1, a0, a1⟩ | exact ⟨P0, P1, A0, A1⟩ | (refine ⟨?_, ?_, ?_, ?_⟩ <;> simp [go_sem, P0, P1, A0, A1]) | go_keep) (first | (go_at_call 67; refine (one_any bh bl _ h5 h6).mono ?_; rintro e w1 ⟨rfl, hb1⟩; obtain ⟨p0, p1, f0, f1, fy⟩ := Box2.call hb1 (show Box2 _ (w.heap.size) (.int .u64 xh) (.int .u64 xl) from ⟨by simp [go_sem], by simp [go_sem], by simp [go_sem], by simp [go_sem], by simp [go_sem]⟩); obtain ⟨a0, a1, g0, g1, gy⟩ := Box2.call hb1 (show Box2 _ (w.heap.size + 1) (.int .u64 bh) (.int .u64 bl) from ⟨by simp [go_sem], by simp [go_sem], by simp [go_sem], by simp [go_sem], by simp [go_sem]⟩); obtain ⟨c0, c1, k0, k1, ky⟩ := Box2.call hb1 (show Box2 _ (w.heap.size + 1 + 1) (.int .u64 0) (.int .u64 0) from ⟨by simp [go_sem], by simp [go_sem], by simp [go_sem], by simp [go_sem], by simp [go_sem]⟩)) | (go_at_call 68; refine (line_any xh xl 2549297995355413924 4865540595714422341 bh (odd1 bl) _ h1 h2 (by omega) (by omega) h5 (by unfold odd1; omega)).mono ?_; rintro e w2 ⟨rfl, hb2⟩; obtain ⟨P0, P1, F0, F1, Fy⟩ := Box2.call hb2 ⟨p0, p1, f0, f1, fy⟩; obtain ⟨A0, A1, G0, G1, Gy⟩ := Box2.call hb2 ⟨a0, a1, g0, g1, gy⟩; obtain ⟨C0, C1, K0, K1, Ky⟩ := Box2.call hb2 ⟨c0, c1, k0, k1, ky⟩))
  have B1 : Below w.heap.size w w1 := ((((Below.refl _ w).alloc (Nat.le_refl _) _).alloc (by simp) _).alloc (by simp; omega) _).drew.trans (hb1.mono (by simp; omega))
  have B2 := B1.trans (hb2.mono (by omega))
  clear hb1 hb2 B1
  go_wp2
  exact bodyPost_ret (v := .agg #[.int .u64 (hi64 (val2 xh xl * pcgM + val2 bh (odd1 bl)) : Nat), .int .u64 (lo64 (val2 xh xl * pcgM + val2 bh (odd1 bl)) : Nat)]) (by simp [results, Try.results36, go_sem, C0, C1, pcgM]) rfl ⟨rfl, by (repeat (first | exact Below.refl _ _ | assumption | (refine Below.alloc ?_ (by first | omega | (simp; done) | (simp; omega)) _) | (refine Below.setCell ?_ (by first | omega | (simp; done) | (simp; omega)) _) | refine Below.drew ?_ | refine below_drewN ?_ _))⟩
end Go.Proofs.Ytjgcpacdiiifjaa
