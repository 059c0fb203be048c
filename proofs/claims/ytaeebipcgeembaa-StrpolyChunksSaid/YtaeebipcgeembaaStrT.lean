/-
  Words for a text's chunks; walk of load.Tail. Conditions: no more than 7 bytes.
-/
import Derived.Test.YtaeebipcgeembaaBase
import Derived.Test.YtaeebipcgeembaaProg
import Derived.Laws.Bits64b
namespace Go.Proofs.Ytaeebipcgeembaa
open Go.RowKit
set_option linter.unusedVariables false

/-- Bytes as cells. -/
def by8 (xs : List Nat) : List Value := xs.map fun n : Nat => .int .u8 (n : Int)
theorem len_by8 (xs : List Nat) : (by8 xs).length = xs.length := by simp [by8]
theorem by8_append (a b : List Nat) : by8 (a ++ b) = by8 a ++ by8 b := by simp [by8]
/-- The number of bytes, the lowest first. -/
def leN : List Nat → Nat
  | [] => 0
  | x :: r => x + 256 * leN r
/-- A text's numbers: seven bytes each, the last one with a mark above it. -/
def chunksN (b : List Nat) : List Nat := if h : b.length < 7 then [leN b + 256 ^ b.length] else leN (b.take 7) :: chunksN (b.drop 7)
termination_by b.length
decreasing_by simp; omega

theorem orS (A y s : Nat) (a e : Int) (ha : a = A) (he : e = y) (hA : A % 2 ^ s = 0) (hy : y < 2 ^ s) (hs : A + y < 18446744073709551616) : bits .or .u64 a e = ((A + y : Nat) : Int) := by
  rw [ha, he, bits_or_u64_nat _ _ (by omega) (by omega)]
  have h : A = 2 ^ s * (A / 2 ^ s) := by have := Nat.div_add_mod A (2 ^ s); omega
  have h2 := Nat.two_pow_add_eq_or_of_lt hy (A / 2 ^ s)
  rw [← h] at h2
  rw [h2]
set_option maxHeartbeats 1000000 in
theorem tail_c0 (A : Option Addr) (c : Nat) (w : World) :
    Calls Try.prog 42 #[.slice A 0 c] w fun e w' => e = .returned (.int .u64 (leN [] : Nat)) ∧ w = w' := by
  go_enter Try.func42, Try.ntmps42
  go_wp2_with fail
  go_ret
  exact ⟨rfl, rfl⟩
set_option maxHeartbeats 1000000 in
theorem tail_c1 (x0 : Nat) (h0 : x0 < 256) (b o c : Nat) (w : World) (c0 : w.cell? ⟨b, o, none⟩ = some (.int .u8 x0)) :
    Calls Try.prog 42 #[.slice (some ⟨b, o, none⟩) 1 c] w fun e w' => e = .returned (.int .u64 (leN [x0] : Nat)) ∧ w = w' := by
  go_enter Try.func42, Try.ntmps42
  go_wp2_with fail
  go_ret
  have e0 := orS 0 (x0) 8 (0 : Int) (x0 : Int) rfl (by omega) (by omega) (by omega) (by omega)
  obtain ⟨a0, q0⟩ : ∃ a, a = 0 + x0 := ⟨_, rfl⟩
  rw [← q0] at e0
  exact ⟨ret_i (by rw [e0]; congr 1; simp only [leN]; omega), rfl⟩
set_option maxHeartbeats 1000000 in
theorem tail_c2 (x0 x1 : Nat) (h0 : x0 < 256) (h1 : x1 < 256) (b o c : Nat) (w : World) (c0 : w.cell? ⟨b, o, none⟩ = some (.int .u8 x0)) (c1 : w.cell? ⟨b, o + 1, none⟩ = some (.int .u8 x1)) :
    Calls Try.prog 42 #[.slice (some ⟨b, o, none⟩) 2 c] w fun e w' => e = .returned (.int .u64 (leN [x0, x1] : Nat)) ∧ w = w' := by
  go_enter Try.func42, Try.ntmps42
  go_wp2_with fail
  go_ret
  have e1 := orS 0 (x1 * 256) 16 (0 : Int) ((x1 : Int) * 256) rfl (by omega) (by omega) (by omega) (by omega)
  obtain ⟨a1, q1⟩ : ∃ a, a = 0 + x1 * 256 := ⟨_, rfl⟩
  rw [← q1] at e1
  have e0 := orS a1 (x0) 8 _ (x0 : Int) e1 (by omega) (by omega) (by omega) (by omega)
  obtain ⟨a0, q0⟩ : ∃ a, a = a1 + x0 := ⟨_, rfl⟩
  rw [← q0] at e0
  exact ⟨ret_i (by rw [e0]; congr 1; simp only [leN]; omega), rfl⟩
set_option maxHeartbeats 1000000 in
theorem tail_c3 (x0 x1 x2 : Nat) (h0 : x0 < 256) (h1 : x1 < 256) (h2 : x2 < 256) (b o c : Nat) (w : World) (c0 : w.cell? ⟨b, o, none⟩ = some (.int .u8 x0)) (c1 : w.cell? ⟨b, o + 1, none⟩ = some (.int .u8 x1)) (c2 : w.cell? ⟨b, o + 2, none⟩ = some (.int .u8 x2)) :
    Calls Try.prog 42 #[.slice (some ⟨b, o, none⟩) 3 c] w fun e w' => e = .returned (.int .u64 (leN [x0, x1, x2] : Nat)) ∧ w = w' := by
  go_enter Try.func42, Try.ntmps42
  go_wp2_with fail
  go_ret
  have e2 := orS 0 (x2 * 65536) 24 (0 : Int) ((x2 : Int) * 65536) rfl (by omega) (by omega) (by omega) (by omega)
  obtain ⟨a2, q2⟩ : ∃ a, a = 0 + x2 * 65536 := ⟨_, rfl⟩
  rw [← q2] at e2
  have e1 := orS a2 (x1 * 256) 16 _ ((x1 : Int) * 256) e2 (by omega) (by omega) (by omega) (by omega)
  obtain ⟨a1, q1⟩ : ∃ a, a = a2 + x1 * 256 := ⟨_, rfl⟩
  rw [← q1] at e1
  have e0 := orS a1 (x0) 8 _ (x0 : Int) e1 (by omega) (by omega) (by omega) (by omega)
  obtain ⟨a0, q0⟩ : ∃ a, a = a1 + x0 := ⟨_, rfl⟩
  rw [← q0] at e0
  exact ⟨ret_i (by rw [e0]; congr 1; simp only [leN]; omega), rfl⟩
set_option maxHeartbeats 1000000 in
theorem tail_c4 (x0 x1 x2 x3 : Nat) (h0 : x0 < 256) (h1 : x1 < 256) (h2 : x2 < 256) (h3 : x3 < 256) (b o c : Nat) (w : World) (c0 : w.cell? ⟨b, o, none⟩ = some (.int .u8 x0)) (c1 : w.cell? ⟨b, o + 1, none⟩ = some (.int .u8 x1)) (c2 : w.cell? ⟨b, o + 2, none⟩ = some (.int .u8 x2)) (c3 : w.cell? ⟨b, o + 3, none⟩ = some (.int .u8 x3)) :
    Calls Try.prog 42 #[.slice (some ⟨b, o, none⟩) 4 c] w fun e w' => e = .returned (.int .u64 (leN [x0, x1, x2, x3] : Nat)) ∧ w = w' := by
  go_enter Try.func42, Try.ntmps42
  go_wp2_with fail
  go_ret
  have e3 := orS 0 (x3 * 16777216) 32 (0 : Int) ((x3 : Int) * 16777216) rfl (by omega) (by omega) (by omega) (by omega)
  obtain ⟨a3, q3⟩ : ∃ a, a = 0 + x3 * 16777216 := ⟨_, rfl⟩
  rw [← q3] at e3
  have e2 := orS a3 (x2 * 65536) 24 _ ((x2 : Int) * 65536) e3 (by omega) (by omega) (by omega) (by omega)
  obtain ⟨a2, q2⟩ : ∃ a, a = a3 + x2 * 65536 := ⟨_, rfl⟩
  rw [← q2] at e2
  have e1 := orS a2 (x1 * 256) 16 _ ((x1 : Int) * 256) e2 (by omega) (by omega) (by omega) (by omega)
  obtain ⟨a1, q1⟩ : ∃ a, a = a2 + x1 * 256 := ⟨_, rfl⟩
  rw [← q1] at e1
  have e0 := orS a1 (x0) 8 _ (x0 : Int) e1 (by omega) (by omega) (by omega) (by omega)
  obtain ⟨a0, q0⟩ : ∃ a, a = a1 + x0 := ⟨_, rfl⟩
  rw [← q0] at e0
  exact ⟨ret_i (by rw [e0]; congr 1; simp only [leN]; omega), rfl⟩
set_option maxHeartbeats 1000000 in
theorem tail_c5 (x0 x1 x2 x3 x4 : Nat) (h0 : x0 < 256) (h1 : x1 < 256) (h2 : x2 < 256) (h3 : x3 < 256) (h4 : x4 < 256) (b o c : Nat) (w : World) (c0 : w.cell? ⟨b, o, none⟩ = some (.int .u8 x0)) (c1 : w.cell? ⟨b, o + 1, none⟩ = some (.int .u8 x1)) (c2 : w.cell? ⟨b, o + 2, none⟩ = some (.int .u8 x2)) (c3 : w.cell? ⟨b, o + 3, none⟩ = some (.int .u8 x3)) (c4 : w.cell? ⟨b, o + 4, none⟩ = some (.int .u8 x4)) :
    Calls Try.prog 42 #[.slice (some ⟨b, o, none⟩) 5 c] w fun e w' => e = .returned (.int .u64 (leN [x0, x1, x2, x3, x4] : Nat)) ∧ w = w' := by
  go_enter Try.func42, Try.ntmps42
  go_wp2_with fail
  go_ret
  have e4 := orS 0 (x4 * 4294967296) 40 (0 : Int) ((x4 : Int) * 4294967296) rfl (by omega) (by omega) (by omega) (by omega)
  obtain ⟨a4, q4⟩ : ∃ a, a = 0 + x4 * 4294967296 := ⟨_, rfl⟩
  rw [← q4] at e4
  have e3 := orS a4 (x3 * 16777216) 32 _ ((x3 : Int) * 16777216) e4 (by omega) (by omega) (by omega) (by omega)
  obtain ⟨a3, q3⟩ : ∃ a, a = a4 + x3 * 16777216 := ⟨_, rfl⟩
  rw [← q3] at e3
  have e2 := orS a3 (x2 * 65536) 24 _ ((x2 : Int) * 65536) e3 (by omega) (by omega) (by omega) (by omega)
  obtain ⟨a2, q2⟩ : ∃ a, a = a3 + x2 * 65536 := ⟨_, rfl⟩
  rw [← q2] at e2
  have e1 := orS a2 (x1 * 256) 16 _ ((x1 : Int) * 256) e2 (by omega) (by omega) (by omega) (by omega)
  obtain ⟨a1, q1⟩ : ∃ a, a = a2 + x1 * 256 := ⟨_, rfl⟩
  rw [← q1] at e1
  have e0 := orS a1 (x0) 8 _ (x0 : Int) e1 (by omega) (by omega) (by omega) (by omega)
  obtain ⟨a0, q0⟩ : ∃ a, a = a1 + x0 := ⟨_, rfl⟩
  rw [← q0] at e0
  exact ⟨ret_i (by rw [e0]; congr 1; simp only [leN]; omega), rfl⟩
set_option maxHeartbeats 1000000 in
theorem tail_c6 (x0 x1 x2 x3 x4 x5 : Nat) (h0 : x0 < 256) (h1 : x1 < 256) (h2 : x2 < 256) (h3 : x3 < 256) (h4 : x4 < 256) (h5 : x5 < 256) (b o c : Nat) (w : World) (c0 : w.cell? ⟨b, o, none⟩ = some (.int .u8 x0)) (c1 : w.cell? ⟨b, o + 1, none⟩ = some (.int .u8 x1)) (c2 : w.cell? ⟨b, o + 2, none⟩ = some (.int .u8 x2)) (c3 : w.cell? ⟨b, o + 3, none⟩ = some (.int .u8 x3)) (c4 : w.cell? ⟨b, o + 4, none⟩ = some (.int .u8 x4)) (c5 : w.cell? ⟨b, o + 5, none⟩ = some (.int .u8 x5)) :
    Calls Try.prog 42 #[.slice (some ⟨b, o, none⟩) 6 c] w fun e w' => e = .returned (.int .u64 (leN [x0, x1, x2, x3, x4, x5] : Nat)) ∧ w = w' := by
  go_enter Try.func42, Try.ntmps42
  go_wp2_with fail
  go_ret
  have e5 := orS 0 (x5 * 1099511627776) 48 (0 : Int) ((x5 : Int) * 1099511627776) rfl (by omega) (by omega) (by omega) (by omega)
  obtain ⟨a5, q5⟩ : ∃ a, a = 0 + x5 * 1099511627776 := ⟨_, rfl⟩
  rw [← q5] at e5
  have e4 := orS a5 (x4 * 4294967296) 40 _ ((x4 : Int) * 4294967296) e5 (by omega) (by omega) (by omega) (by omega)
  obtain ⟨a4, q4⟩ : ∃ a, a = a5 + x4 * 4294967296 := ⟨_, rfl⟩
  rw [← q4] at e4
  have e3 := orS a4 (x3 * 16777216) 32 _ ((x3 : Int) * 16777216) e4 (by omega) (by omega) (by omega) (by omega)
  obtain ⟨a3, q3⟩ : ∃ a, a = a4 + x3 * 16777216 := ⟨_, rfl⟩
  rw [← q3] at e3
  have e2 := orS a3 (x2 * 65536) 24 _ ((x2 : Int) * 65536) e3 (by omega) (by omega) (by omega) (by omega)
  obtain ⟨a2, q2⟩ : ∃ a, a = a3 + x2 * 65536 := ⟨_, rfl⟩
  rw [← q2] at e2
  have e1 := orS a2 (x1 * 256) 16 _ ((x1 : Int) * 256) e2 (by omega) (by omega) (by omega) (by omega)
  obtain ⟨a1, q1⟩ : ∃ a, a = a2 + x1 * 256 := ⟨_, rfl⟩
  rw [← q1] at e1
  have e0 := orS a1 (x0) 8 _ (x0 : Int) e1 (by omega) (by omega) (by omega) (by omega)
  obtain ⟨a0, q0⟩ : ∃ a, a = a1 + x0 := ⟨_, rfl⟩
  rw [← q0] at e0
  exact ⟨ret_i (by rw [e0]; congr 1; simp only [leN]; omega), rfl⟩
set_option maxHeartbeats 1000000 in
theorem tail_c7 (x0 x1 x2 x3 x4 x5 x6 : Nat) (h0 : x0 < 256) (h1 : x1 < 256) (h2 : x2 < 256) (h3 : x3 < 256) (h4 : x4 < 256) (h5 : x5 < 256) (h6 : x6 < 256) (b o c : Nat) (w : World) (c0 : w.cell? ⟨b, o, none⟩ = some (.int .u8 x0)) (c1 : w.cell? ⟨b, o + 1, none⟩ = some (.int .u8 x1)) (c2 : w.cell? ⟨b, o + 2, none⟩ = some (.int .u8 x2)) (c3 : w.cell? ⟨b, o + 3, none⟩ = some (.int .u8 x3)) (c4 : w.cell? ⟨b, o + 4, none⟩ = some (.int .u8 x4)) (c5 : w.cell? ⟨b, o + 5, none⟩ = some (.int .u8 x5)) (c6 : w.cell? ⟨b, o + 6, none⟩ = some (.int .u8 x6)) :
    Calls Try.prog 42 #[.slice (some ⟨b, o, none⟩) 7 c] w fun e w' => e = .returned (.int .u64 (leN [x0, x1, x2, x3, x4, x5, x6] : Nat)) ∧ w = w' := by
  go_enter Try.func42, Try.ntmps42
  go_wp2_with fail
  go_ret
  have e6 := orS 0 (x6 * 281474976710656) 56 (0 : Int) ((x6 : Int) * 281474976710656) rfl (by omega) (by omega) (by omega) (by omega)
  obtain ⟨a6, q6⟩ : ∃ a, a = 0 + x6 * 281474976710656 := ⟨_, rfl⟩
  rw [← q6] at e6
  have e5 := orS a6 (x5 * 1099511627776) 48 _ ((x5 : Int) * 1099511627776) e6 (by omega) (by omega) (by omega) (by omega)
  obtain ⟨a5, q5⟩ : ∃ a, a = a6 + x5 * 1099511627776 := ⟨_, rfl⟩
  rw [← q5] at e5
  have e4 := orS a5 (x4 * 4294967296) 40 _ ((x4 : Int) * 4294967296) e5 (by omega) (by omega) (by omega) (by omega)
  obtain ⟨a4, q4⟩ : ∃ a, a = a5 + x4 * 4294967296 := ⟨_, rfl⟩
  rw [← q4] at e4
  have e3 := orS a4 (x3 * 16777216) 32 _ ((x3 : Int) * 16777216) e4 (by omega) (by omega) (by omega) (by omega)
  obtain ⟨a3, q3⟩ : ∃ a, a = a4 + x3 * 16777216 := ⟨_, rfl⟩
  rw [← q3] at e3
  have e2 := orS a3 (x2 * 65536) 24 _ ((x2 : Int) * 65536) e3 (by omega) (by omega) (by omega) (by omega)
  obtain ⟨a2, q2⟩ : ∃ a, a = a3 + x2 * 65536 := ⟨_, rfl⟩
  rw [← q2] at e2
  have e1 := orS a2 (x1 * 256) 16 _ ((x1 : Int) * 256) e2 (by omega) (by omega) (by omega) (by omega)
  obtain ⟨a1, q1⟩ : ∃ a, a = a2 + x1 * 256 := ⟨_, rfl⟩
  rw [← q1] at e1
  have e0 := orS a1 (x0) 8 _ (x0 : Int) e1 (by omega) (by omega) (by omega) (by omega)
  obtain ⟨a0, q0⟩ : ∃ a, a = a1 + x0 := ⟨_, rfl⟩
  rw [← q0] at e0
  exact ⟨ret_i (by rw [e0]; congr 1; simp only [leN]; omega), rfl⟩
/-- Any bytes, no more than 7. -/
theorem tail_c (xs : List Nat) (n c : Nat) (A : Option Addr) (w : World) (hn : xs.length = n) (h7 : n ≤ 7) (hb : ∀ x ∈ xs, x < 256) (hr : Rs w A (by8 xs)) :
    Calls Try.prog 42 #[.slice A n c] w fun e w' => e = .returned (.int .u64 (leN xs : Nat)) ∧ w = w' := by
  subst hn
  match xs, h7, hb, hr with
  | [], _, _, _ => exact tail_c0 A c w
  | [x0], _, hb, hr =>
    obtain ⟨b, o, rfl, _, hc⟩ := hr (by simp [by8])
    exact tail_c1 x0 (hb _ (by simp)) b o c w (hc 0 _ rfl)
  | [x0, x1], _, hb, hr =>
    obtain ⟨b, o, rfl, _, hc⟩ := hr (by simp [by8])
    exact tail_c2 x0 x1 (hb _ (by simp)) (hb _ (by simp)) b o c w (hc 0 _ rfl) (hc 1 _ rfl)
  | [x0, x1, x2], _, hb, hr =>
    obtain ⟨b, o, rfl, _, hc⟩ := hr (by simp [by8])
    exact tail_c3 x0 x1 x2 (hb _ (by simp)) (hb _ (by simp)) (hb _ (by simp)) b o c w (hc 0 _ rfl) (hc 1 _ rfl) (hc 2 _ rfl)
  | [x0, x1, x2, x3], _, hb, hr =>
    obtain ⟨b, o, rfl, _, hc⟩ := hr (by simp [by8])
    exact tail_c4 x0 x1 x2 x3 (hb _ (by simp)) (hb _ (by simp)) (hb _ (by simp)) (hb _ (by simp)) b o c w (hc 0 _ rfl) (hc 1 _ rfl) (hc 2 _ rfl) (hc 3 _ rfl)
  | [x0, x1, x2, x3, x4], _, hb, hr =>
    obtain ⟨b, o, rfl, _, hc⟩ := hr (by simp [by8])
    exact tail_c5 x0 x1 x2 x3 x4 (hb _ (by simp)) (hb _ (by simp)) (hb _ (by simp)) (hb _ (by simp)) (hb _ (by simp)) b o c w (hc 0 _ rfl) (hc 1 _ rfl) (hc 2 _ rfl) (hc 3 _ rfl) (hc 4 _ rfl)
  | [x0, x1, x2, x3, x4, x5], _, hb, hr =>
    obtain ⟨b, o, rfl, _, hc⟩ := hr (by simp [by8])
    exact tail_c6 x0 x1 x2 x3 x4 x5 (hb _ (by simp)) (hb _ (by simp)) (hb _ (by simp)) (hb _ (by simp)) (hb _ (by simp)) (hb _ (by simp)) b o c w (hc 0 _ rfl) (hc 1 _ rfl) (hc 2 _ rfl) (hc 3 _ rfl) (hc 4 _ rfl) (hc 5 _ rfl)
  | [x0, x1, x2, x3, x4, x5, x6], _, hb, hr =>
    obtain ⟨b, o, rfl, _, hc⟩ := hr (by simp [by8])
    exact tail_c7 x0 x1 x2 x3 x4 x5 x6 (hb _ (by simp)) (hb _ (by simp)) (hb _ (by simp)) (hb _ (by simp)) (hb _ (by simp)) (hb _ (by simp)) (hb _ (by simp)) b o c w (hc 0 _ rfl) (hc 1 _ rfl) (hc 2 _ rfl) (hc 3 _ rfl) (hc 4 _ rfl) (hc 5 _ rfl) (hc 6 _ rfl)
  | _ :: _ :: _ :: _ :: _ :: _ :: _ :: _ :: _, h, _, _ => simp at h
end Go.Proofs.Ytaeebipcgeembaa
