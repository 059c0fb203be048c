/-
  A slice of slices of numbers that came in reads as rows. Conditions: none.
-/
import Derived.Test.YtpkekdgpkalceaaRowKit
import Derived.Test.YtpkekdgpkalceaaAimB
import Derived.Deep.Matrix
namespace Go.Proofs.Ytpkekdgpkalceaa
open Go.ChangeShapes Go.WideShapes Go.ChangeAt Go.RowKit Go.Deep
set_option linter.unusedVariables false

section
variable {H : Type} {enc : TypeId × Value → H} {P : Program} {w : World} {held : Bool}
theorem weights_in {e : TypeId} {d : DataW H} : ∀ {l : List (DataW H)}, d ∈ l → ∀ n ∈ d.weights P e, n ∈ DataW.weightsAll P e l
  | [], h, _, _ => by simp at h
  | x :: r, h, n, hn => by
    simp only [DataW.weightsAll, List.mem_append]
    rcases List.mem_cons.1 h with rfl | h
    · exact .inl hn
    · exact .inr (weights_in h n hn)
theorem sized_inner {ts : List TypeId} {ds : List (DataW H)} (h : (DataW.weightsEach P ts ds).all (· ≤ reachBytes) = true) {j : Nat} {t e q : TypeId} {elems spare a b : List (DataW H)} (ht : ts[j]? = some t) (hd : ds[j]? = some (.slice elems spare)) (hu : P.underlying t = some (.slice e))
    (hi : DataW.slice a b ∈ elems) (hq : P.underlying e = some (.slice q)) : (a.length + b.length) * P.bytesOf q ≤ reachBytes := by
  have := List.all_eq_true.1 h _ (DataW.weights_mem_each ht hd ((a.length + b.length) * P.bytesOf q) (by
    simp only [DataW.weights, hu]
    refine List.mem_cons_of_mem _ (List.mem_append_left _ (weights_in hi _ ?_))
    simp [DataW.weights, hq]))
  simpa using this
theorem row_rows {ts : List TypeId} {ds : List (DataW H)} (hsz : (DataW.weightsEach P ts ds).all (· ≤ reachBytes) = true) {t e q : TypeId} {k : IntKind} {fuel : Nat} {A : Option Addr} {len cap : Nat} {x : DataW H × List MemPlace} (hk : k = .i64) (j : Nat) (hjt : ts[j]? = some t) (hjd : ds[j]? = some x.1)
    (ht : P.underlying t = some (.slice e)) (he : P.underlying e = some (.slice q)) (hq : P.underlying q = some (.int k)) (ce : P.cellsOf e = 1) (cq : P.cellsOf q = 1) (be : P.bytesOf e = 24) (bq : P.bytesOf q = 8)
    (h : DataW.trod enc P w 0 (fun _ => true) held fuel t (Value.cells (.slice A len cap)).toList = some x) :
    ∃ rows : List (List Int), rows.length = len ∧ RdR w w.heap.size A rows ∧ (∀ j, j < rows.length → (rows.getD j []).length ≤ 17592186043904) ∧ len ≤ cap ∧ len ≤ 17592186043904 := by
  subst hk
  rcases open_int_rows ht he hq ce cq h with ⟨hcs, hx⟩ | ⟨a, l, c, A', L, C, Z, hcs, _, hl, hm, hx, hr⟩
  · simp [Value.cells] at hcs
    obtain ⟨rfl, rfl, rfl⟩ := hcs
    exact ⟨[], rfl, fun hp => absurd hp (by simp), fun j hj => by simp at hj, Nat.le_refl _, Nat.zero_le _⟩
  · simp [Value.cells] at hcs
    obtain ⟨rfl, rfl, rfl⟩ := hcs
    have hget : ∀ j, j < len → ((List.range len).map fun r => (Z r).take (L r)).getD j [] = (Z j).take (L j) := fun j hj => by simp [List.getD, hj]
    have hlen : ∀ j, j < len → ((Z j).take (L j)).length = L j := fun j hj => by
      obtain ⟨_, h2, _, h4, _⟩ := hr j (by omega)
      simp; omega
    have hxd : x.1 = .slice ((List.range len).map fun r => intRow .i64 (A' r) (L r) (Z r)) ((List.range (cap - len)).map fun j => intRow .i64 (A' (len + j)) (L (len + j)) (Z (len + j))) := by rw [hx]
    rw [hxd] at hjd
    refine ⟨(List.range len).map fun r => (Z r).take (L r), by simp, fun hp => ?_, fun j hj => ?_, hl, ?_⟩
    · have hlp : 0 < len := by simpa using hp
      obtain ⟨b, o, s⟩ := a
      have h0 := (hr 0 (by omega)).1
      have hs : s = none := by simpa [Addr.add] using World.cell?_spot h0
      subst hs
      refine ⟨b, o, rfl, ?_, fun j hj => ?_⟩
      · have := World.block_lt_of_cell? _ _ h0
        simpa [Addr.add] using this
      · have hj' : j < len := by simpa using hj
        obtain ⟨h1, h2, h3, h4, h5, h6, h7⟩ := hr j (by omega)
        refine ⟨A' j, C j, ?_, ?_⟩
        · rw [hget j hj', hlen j hj', ← h1, Addr.add_lit]
        · rw [hget j hj']
          intro hp2
          have hL : 0 < L j := by simp [is] at hp2; omega
          cases hA : A' j with
          | none => have := h6 hA; omega
          | some a' =>
            obtain ⟨b', o', s'⟩ := a'
            obtain ⟨_, hcell⟩ := h7 _ hA
            have hc0 := hcell 0 (by omega)
            have hs' : s' = none := by simpa [Addr.add] using World.cell?_spot hc0
            subst hs'
            refine ⟨b', o', rfl, ?_, fun i u hu => ?_⟩
            · have := World.block_lt_of_cell? _ _ hc0
              simpa [Addr.add] using this
            · have hi : i < L j := by
                have := (List.getElem?_eq_some_iff.1 hu).1
                simp [is] at this; omega
              have := hcell i (by omega)
              rw [Addr.add_lit] at this
              rw [this, ← hu]
              simp [is, hi, List.getD, show i < (Z j).length by omega]
    · have hj' : j < len := by simpa using hj
      rw [hget j hj', hlen j hj']
      obtain ⟨h1, h2, h3, h4, h5, h6, h7⟩ := hr j (by omega)
      cases hA : A' j with
      | none => have := h6 hA; omega
      | some a' =>
        have := sized_inner hsz hjt hjd ht (a := lits .i64 ((Z j).take (L j))) (b := lits .i64 ((Z j).drop (L j))) (by
          rw [List.mem_map]
          exact ⟨j, by simpa using hj', by simp [intRow, hA]⟩) he
        rw [bq] at this
        simp only [lits, List.length_map, List.length_take, List.length_drop, reachBytes] at this
        omega
    · have := sized_slice hsz hjt hjd ht
      rw [be] at this
      simp only [List.length_map, List.length_range, reachBytes] at this
      omega
end
end Go.Proofs.Ytpkekdgpkalceaa
