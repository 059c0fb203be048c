/-
  The iterator over a text's chunks keeps its word. Conditions: bytes; the text lies below n0, the iterator's variable does not.
-/
import Derived.Test.YtaeebipcgeembaaStrR
namespace Go.Proofs.Ytaeebipcgeembaa
open Go.RowKit Go.Shelf
set_option linter.unusedVariables false

attribute [local go_sem] Oper.semAt_some

/-- How many bytes are still to come, read off the variable. -/
def restLen (B0 : Nat) (W : World) : Nat := match W.cell? ⟨B0, 0, none⟩ with
  | some (.slice _ m _) => m
  | _ => 0
theorem restLen_eq {B0 : Nat} {W : World} {A : Option Addr} {m c : Nat} (h : W.cell? ⟨B0, 0, none⟩ = some (.slice A m c)) : restLen B0 W = m := by rw [restLen, h]

theorem wrap_i64_of {x : Int} (h0 : 0 ≤ x) (h1 : x < 9223372036854775808) : IntKind.i64.wrap x = x := by
  simp only [IntKind.wrap, IntKind.signed, IntKind.bits]
  simp
  omega
theorem wrap_u64_of {x : Nat} (h1 : x < 18446744073709551616) : IntKind.u64.wrap (x : Int) = x := by
  simp only [IntKind.wrap, IntKind.signed, IntKind.bits]
  simp
  omega
theorem leN_lt : ∀ (xs : List Nat), (∀ x ∈ xs, x < 256) → leN xs < 256 ^ xs.length
  | [], _ => by simp [leN]
  | x :: r, h => by
    have h1 := leN_lt r (fun y hy => h y (by simp [hy]))
    have h2 := h x (by simp)
    simp only [leN, List.length_cons, Nat.pow_succ]
    omega
theorem rd_take {w : World} {B : Nat} {A : Option Addr} {xs : List Nat} (h : Rd w B A (by8 xs)) (k : Nat) : Rd w B A (by8 (xs.take k)) := fun hp => by
  obtain ⟨b, o, hA, hb, hc⟩ := h (by simp [by8] at hp ⊢; omega)
  refine ⟨b, o, hA, hb, fun j v hj => hc j v ?_⟩
  simp only [by8, List.getElem?_map, List.getElem?_take] at hj ⊢
  split at hj
  · exact hj
  · simp at hj
theorem rd_drop {w : World} {B b o : Nat} {xs : List Nat} (h : Rd w B (some ⟨b, o, none⟩) (by8 xs)) (k : Nat) : Rd w B (some ⟨b, o + k, none⟩) (by8 (xs.drop k)) := fun hp => by
  obtain ⟨b', o', hA, hb, hc⟩ := h (by simp [by8] at hp ⊢; omega)
  injection hA with hA
  injection hA with e1 e2 e3
  subst e1; subst e2
  refine ⟨_, _, rfl, hb, fun j v hj => ?_⟩
  rw [Nat.add_assoc]
  refine hc (k + j) v ?_
  simpa only [by8, List.getElem?_map, List.getElem?_drop] using hj
set_option maxRecDepth 100000 in
set_option maxHeartbeats 2000000 in
theorem chunks1_in (n : Nat) (h2 : 2 ≤ n) (B0 n₀ : Nat) (hB0 : n₀ ≤ B0) (bs : List Nat) (hby : ∀ x ∈ bs, x < 256) (A : Option Addr) (m c : Nat) (hm : bs.length = m) (hmc : m ≤ c) (hm2 : m ≤ 4096) : ChunksGive n B0 n₀ bs (.slice A m c) := by
  intro l J W hbox hset hdrew hY hR h0
  replace hR := hR A m c rfl
  refine callsIn_of_wp Try.func41 rfl trivial ?_ rfl
  simp only [Try.ntmps41, List.size_toArray, List.length_cons, List.length_nil, Nat.reduceAdd, Nat.reduceSub, Array.replicate_succ, Array.replicate_zero, List.push_toArray, List.append_toArray, List.nil_append, List.cons_append]
  have hn1 : 1 ≤ n := by omega
  gi_wp2
  gi_loopw [] (fun wr => ∃ (pre rest : List Nat) (A' : Option Addr) (m' c' : Nat), J (.slice A' m' c') pre wr ∧ rest.length = m' ∧ m' ≤ c' ∧ m' ≤ 4096 ∧ Rd wr n₀ A' (by8 rest) ∧ pre ++ chunksN rest = chunksN bs ∧ (∀ x ∈ rest, x < 256) ∧ Below n₀ W wr)
    (fun wr => restLen B0 wr)
  case atStart =>
    exact ⟨[], bs, A, m, c, h0, hm, hmc, hm2, hR, rfl, hby, Below.refl _ _⟩
  case round =>
    obtain ⟨pre, rest, A', m', c', hJ, hm', hmc', hm2', hR', hch, hby', hB⟩ := hrel
    have hbx := hbox _ _ _ hJ
    have hcx := hbx.cell
    have hsz := hbx.lt
    by_cases h7 : 7 ≤ m'
    · obtain ⟨b, o, rfl, hbn⟩ := hR'.addr (by rw [len_by8]; omega)
      have t1 : (7 : Int) ≤ (m' : Int) := by omega
      gi_wp2
      refine ⟨trivial, ?_⟩
      refine (callsIn_wide.2 (tail_c (rest.take 7) 7 c' _ wr (by simp; omega) (by omega) (fun x hx => hby' x (List.mem_of_mem_take hx)) ((rd_take hR' 7).more (by omega)))).mono ?_
      rintro e w3 ⟨rfl, rfl⟩
      obtain ⟨fn, tmps, assign, body, hy, hYR⟩ := hY _ pre (leN (rest.take 7)) wr hJ ⟨_, by rw [← hch]; conv => rhs; rw [chunksN, dif_neg (by omega)]⟩
      gi_wp2
      refine hYR.mono ?_
      rintro e W3 ⟨rfl, hJ3, hk3⟩
      have hb3 := hbox _ _ _ hJ3
      have hc3 := hb3.cell
      have hf3 := hb3.frozen
      gi_wp2
      have hbs : ∀ v, Below n₀ W3 (W3.setCell ⟨B0, 0, none⟩ v) := fun v => (Below.refl n₀ W3).setCell (p := ⟨B0, 0, none⟩) hB0 _
      go_roundw
      case rel =>
        refine ⟨pre ++ [leN (rest.take 7)], rest.drop 7, _, m' - 7, c' - 7, hset _ _ _ _ hJ3, by simp; omega, by omega, by omega, ?_, ?_, fun x hx => hby' x (List.mem_of_mem_drop hx), (hB.trans hk3).trans (hbs _)⟩
        · split
          · have hd : rest.drop 7 = [] := List.drop_eq_nil_of_le (by omega)
            rw [hd]
            exact Rd.nil _ _ _
          · exact (rd_drop (hR'.below hk3) 7).below (hbs _)
        · rw [← hch]
          conv => rhs; rw [chunksN, dif_neg (by omega)]
          simp
      case measure =>
        rw [restLen_eq hcx, restLen_eq (hb3.set _).cell]
        omega
    · have t1 : ¬ ((7 : Int) ≤ (m' : Int)) := by omega
      have hmx : Try.prog.follows .mixedOrders = true := by kernel_rfl
      have hrs : Rs wr.drew A' (by8 rest) := (hR'.drew).more (by simp; omega)
      have hcd : wr.drew.cell? ⟨B0, 0, none⟩ = some (Value.slice A' m' c') := hcx
      obtain ⟨s, hs⟩ : ∃ s, s = 8 * m' := ⟨_, rfl⟩
      have s0 : (0 : Int) ≤ (s : Int) := by omega
      have s1 : (s : Int) ≤ 64 := by omega
      have hws : IntKind.i64.wrap (8 * (m' : Int)) = (s : Int) := by rw [wrap_i64_of (by omega) (by omega)]; omega
      obtain ⟨M, hM⟩ : ∃ M, M = 2 ^ s := ⟨_, rfl⟩
      have hM6 : M ≤ 2 ^ 48 := by rw [hM]; exact Nat.pow_le_pow_right (by decide) (by omega)
      have hwm : IntKind.u64.wrap (2 ^ s) = (M : Int) := by
        have h : (2 : Int) ^ s = (M : Int) := by rw [hM]; simp
        rw [h, wrap_u64_of (by omega)]
      have hTM : leN rest < M := by
        have h := leN_lt rest hby'
        rw [hM, hs, Nat.pow_mul, ← hm']
        exact h
      obtain ⟨X, hX⟩ : ∃ X, X = leN rest + M := ⟨_, rfl⟩
      have hor : bits .or .u64 (leN rest : Int) (M : Int) = (X : Int) := by
        rw [bits_or_u64_nat _ _ (by omega) (by omega), Nat.or_comm, ← bits_or_u64_nat _ _ (by omega) (by omega), orS M (leN rest) s _ _ rfl rfl (by rw [hM]; exact Nat.mod_self _) (by rw [← hM]; exact hTM) (by omega), hX, Nat.add_comm]
      have hch2 : pre ++ [X] = chunksN bs := by
        rw [← hch, chunksN, dif_pos (by omega), hX, hM, hs, Nat.pow_mul, ← hm']
      obtain ⟨fn, tmps, assign, body, hy, hYR⟩ := hY _ pre X wr.drew (hdrew _ _ _ hJ) ⟨[], hch2⟩
      clear hX hM hs hM6 hTM h7 hm2 hm2' hmc hmc'
      gi_wp2
      gi_region_with_o (first | (refine ⟨trivial, ?_⟩; gi_at_call 42; refine (callsIn_wide.2 (tail_c rest m' c' A' _ hm' (by omega) hby' hrs)).mono ?_; rintro e w3 ⟨rfl, rfl⟩) | (refine hYR.mono ?_; rintro e W3 ⟨rfl, hJ3, hk3⟩))
      all_goals gi_wp2
      all_goals go_end0
      all_goals exact ⟨⟨_, rfl⟩, ⟨_, by rw [← hch2]; exact hJ3⟩, hB.trans ((Below.refl n₀ wr).drew.trans hk3)⟩
end Go.Proofs.Ytaeebipcgeembaa
