/-
  The reference's Num over a text's bytes. Conditions: bytes, no more than 4096; the part lies within; no more than seven bytes.
-/
import Derived.Test.YtaeebipcgeembaaStrD
import Derived.Test.YtaeebipcgeembaaWideC
import Derived.Lib.Hide
namespace Go.Proofs.Ytaeebipcgeembaa
open Go.RowKit
set_option linter.unusedVariables false

theorem leN_step (bs : List Nat) (a k : Nat) (h : a < bs.length) : leN ((bs.drop a).take (k + 1)) = bs[a] + 256 * leN ((bs.drop (a + 1)).take k) := by
  rw [List.drop_eq_getElem_cons h, List.take_succ_cons]
  rfl
theorem Rd.b {w : World} {B : Nat} {A : Option Addr} {xs : List Nat} (h : Rd w B A (by8 xs)) {k : Nat} (hk : k < xs.length) : ∃ b o, A = some ⟨b, o, none⟩ ∧ b < B ∧ w.cell? ⟨b, o + k, none⟩ = some (.int .u8 (xs[k] : Nat)) := by
  obtain ⟨b, o, e, hb, hc⟩ := h (by rw [len_by8]; omega)
  exact ⟨b, o, e, hb, hc k _ (by simp [by8, hk])⟩
set_option maxRecDepth 100000 in
set_option maxHeartbeats 2000000 in
theorem num_r (bs : List Nat) (hby : ∀ x ∈ bs, x < 256) (A : Option Addr) (c m a n B : Nat) (w : World) (hm : bs.length = m) (hm2 : m ≤ 4096) (hat : a + n ≤ m) (hn : n ≤ 7) (hr : Rd w B A (by8 bs)) :
    Calls Try.prog 34 #[.slice A m c, .int .i64 a, .int .i64 n] w fun e w' => e = .returned (.int .u64 (leN ((bs.drop a).take n) : Nat)) ∧ w = w' := by
  have e0 : IntKind.i64.wrap ((n : Int) - 1) = (n : Int) - 1 := by
    simp only [IntKind.wrap, IntKind.signed, IntKind.bits]
    simp
    omega
  obtain ⟨R, hR⟩ : ∃ R, R = leN ((bs.drop a).take n) := ⟨_, rfl⟩
  have HEND := hide (show R = leN ((bs.drop (a + 0)).take (n - 0)) by rw [hR]; simp)
  rw [← hR]
  clear hR
  go_enter Try.func34, Try.ntmps34
  go_wp2_with fail
  go_loop [7, 8] (fun v7 v8 => ∃ k x : Nat, k ≤ n ∧ v8 = .int .i64 ((k : Int) - 1) ∧ v7 = .int .u64 x ∧ Hid (x = leN ((bs.drop (a + k)).take (n - k)))) (fun _ v8 => (intOf v8 + 1).toNat)
  case atStart => exact ⟨n, 0, Nat.le_refl _, by simp, rfl, hide (by simp [leN])⟩
  case round =>
    obtain ⟨k, x, hk, rfl, rfl, HX⟩ := hrel
    cases k with
    | zero =>
      obtain ⟨i, hi⟩ : ∃ i : Int, i = ((0 : Nat) : Int) - 1 := ⟨_, rfl⟩
      rw [← hi]
      have t1 : ¬ (0 : Int) ≤ i := by omega
      clear hi
      go_wp2_with fail
      go_ret
      exact ⟨ret_i (by rw [HX.out, HEND.out]), rfl⟩
    | succ k =>
      obtain ⟨p, hp⟩ : ∃ p, p = a + k := ⟨_, rfl⟩
      have hpl : p < bs.length := by omega
      obtain ⟨b, o, rfl, hb, hc⟩ := hr.b hpl
      have hy := hby bs[p] (List.getElem_mem hpl)
      have hxl : x < 256 ^ 6 := by
        rw [HX.out]
        refine Nat.lt_of_lt_of_le (leN_lt _ (fun y hy => hby y (List.mem_of_mem_drop (List.mem_of_mem_take hy)))) (Nat.pow_le_pow_right (by decide) ?_)
        rw [List.length_take]
        omega
      have HS := hide (leN_step bs p (n - (k + 1)) hpl)
      generalize bs[p] = y at *
      have ei : (((k + 1 : Nat) : Int) - 1) = (k : Int) := by omega
      rw [ei]
      have t1 : (0 : Int) ≤ (k : Int) := by omega
      have t2 : (p : Int) < (m : Int) := by omega
      have t3 : (0 : Int) ≤ (p : Int) := by omega
      have e1 : IntKind.i64.wrap ((a : Int) + (k : Int)) = (p : Int) := by
        rw [hp]
        simp only [IntKind.wrap, IntKind.signed, IntKind.bits]
        simp
        omega
      obtain ⟨x1, hx1⟩ : ∃ x1, x1 = x * 256 := ⟨_, rfl⟩
      obtain ⟨x2, hx2⟩ : ∃ x2, x2 = x1 + y := ⟨_, rfl⟩
      have e2 : IntKind.u64.wrap ((x : Int) * 256) = (x1 : Int) := by
        rw [hx1]
        simp only [IntKind.wrap, IntKind.signed, IntKind.bits]
        simp
        omega
      have e3 : IntKind.u64.wrap ((x1 : Int) + (y : Int)) = (x2 : Int) := by
        rw [hx2]
        simp only [IntKind.wrap, IntKind.signed, IntKind.bits]
        simp
        omega
      have e4 : IntKind.u64.wrap (y : Int) = (y : Int) := by
        simp only [IntKind.wrap, IntKind.signed, IntKind.bits]
        simp
        omega
      have e5 : IntKind.i64.wrap ((k : Int) - 1) = (k : Int) - 1 := by
        simp only [IntKind.wrap, IntKind.signed, IntKind.bits]
        simp
        omega
      have HQ := hide (show x2 = leN ((bs.drop (a + k)).take (n - k)) by
        rw [show n - k = n - (k + 1) + 1 by omega, ← hp, HS.out, hx2, hx1, HX.out, hp, Nat.add_assoc a k 1, Nat.mul_comm, Nat.add_comm])
      clear hx1 hx2 hxl HX HS hy ei
      have HK := hide hk
      have HP := hide hp
      clear hk hp hpl hn hat
      go_wp2_with fail
      go_round
      case rel => exact ⟨k, x2, by have := HK.out; omega, rfl, rfl, HQ⟩
      case measure => simp [intOf]
end Go.Proofs.Ytaeebipcgeembaa
