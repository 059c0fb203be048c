/-
  From a row's reading of its arguments to what the walks ask: a slice of integers that came in reads as a list, and is no longer than the form lets it be. Conditions: none.
-/
import Derived.Test.YtaeebipcgeembaaBase
import Derived.ProofKit
import Derived.OpenShut
import Derived.ShutString
import Derived.ChangeOld
import Derived.SizedLaws
namespace Go.Proofs.Ytaeebipcgeembaa
open Go.ChangeShapes Go.WideShapes Go.ChangeAt Go.RowKit
open Go.ChangeMaps (open_string shut_string)
set_option linter.unusedVariables false

section
variable {H : Type} {enc : TypeId × Value → H} {P : Program} {w : World} {spare : Nat → Bool} {held : Bool}
theorem row_ints {t e : TypeId} {k : IntKind} {fuel : Nat} {A : Option Addr} {len cap : Nat} {x : DataW H × List MemPlace} (ht : P.underlying t = some (.slice e)) (he : P.underlying e = some (.int k)) (hc : P.cellsOf e = 1)
    (h : DataW.trod enc P w 0 spare held fuel t (Value.cells (.slice A len cap)).toList = some x) :
    ∃ zs : List Int, zs.length = len ∧ Rd w w.heap.size A (zs.map fun n => .int k n) ∧ (∀ n ∈ zs, (Lit.int k n).wf = true) ∧ (len ≤ cap ∧ cap ≤ maxLen) ∧ ((x.1 = .nil ∧ len = 0) ∨ ∃ sp, x.1 = .slice (lits k zs) sp) := by
  rcases open_ints ht he hc h with ⟨hcs, hx⟩ | ⟨a, l, c, zs, hcs, _, hl, hm, hz, hx, hcell, hwz⟩
  · simp [Value.cells] at hcs
    obtain ⟨rfl, rfl, rfl⟩ := hcs
    exact ⟨[], rfl, Rd.nil _ _ _, by simp, ⟨Nat.le_refl _, Nat.zero_le _⟩, .inl ⟨by rw [hx], rfl⟩⟩
  · simp [Value.cells] at hcs
    obtain ⟨rfl, rfl, rfl⟩ := hcs
    have hlz : len ≤ zs.length := by rw [hz]; split <;> omega
    refine ⟨zs.take len, by simp; omega, ?_, fun n hn => hwz n (List.mem_of_mem_take hn), ⟨hl, hm⟩, .inr ⟨_, by rw [hx]⟩⟩
    intro hp
    have hlen : 0 < len := by simp at hp; omega
    have h0 := hcell 0 (by omega)
    obtain ⟨b, o, s⟩ := a
    have hs : s = none := by simpa [Addr.add] using World.cell?_spot h0
    subst hs
    refine ⟨b, o, rfl, ?_, fun j u hu => ?_⟩
    · have := World.block_lt_of_cell? _ _ h0
      simpa [Addr.add] using this
    · have hj : j < len := by
        have := (List.getElem?_eq_some_iff.1 hu).1
        simp at this; omega
      have := hcell j (by omega)
      rw [Addr.add_lit] at this
      rw [this, ← hu]
      simp [hj, List.getD, show j < zs.length by omega]
theorem row_small {ts : List TypeId} {ds : List (DataW H)} (h : (DataW.weightsEach P ts ds).all (· ≤ reachBytes) = true) (j : Nat) {t e : TypeId} {k : IntKind} {len : Nat} {zs : List Int} {d : DataW H} (ht : ts[j]? = some t) (hd : ds[j]? = some d)
    (hu : P.underlying t = some (.slice e)) (hb : P.bytesOf e = 8) (hl : zs.length = len) (hx : (d = .nil ∧ len = 0) ∨ ∃ sp, d = .slice (lits k zs) sp) : len ≤ 17592186043904 := by
  rcases hx with ⟨_, h0⟩ | ⟨sp, rfl⟩
  · omega
  · have := sized_slice h ht hd hu
    rw [hb] at this
    simp only [lits, List.length_map, reachBytes] at this
    omega
end
theorem wf_u64 {n : Int} (h : (Lit.int .u64 n).wf = true) : 0 ≤ n ∧ n < 18446744073709551616 := by
  simp [Lit.wf, IntKind.min, IntKind.max, IntKind.signed, IntKind.bits] at h
  omega
theorem wf_i64 {n : Int} (h : (Lit.int .i64 n).wf = true) : -9223372036854775808 ≤ n ∧ n ≤ 9223372036854775807 := by
  simp [Lit.wf, IntKind.min, IntKind.max, IntKind.signed, IntKind.bits] at h
  omega
theorem nats_of {zs : List Int} (h : ∀ n ∈ zs, (Lit.int .u64 n).wf = true) : ∃ xs : List Nat, xs.length = zs.length ∧ (zs.map fun n => Value.int .u64 n) = us xs ∧ ∀ x ∈ xs, x < 18446744073709551616 := by
  refine ⟨zs.map Int.toNat, by simp, ?_, ?_⟩
  · simp only [us, List.map_map]
    refine List.map_congr_left fun n hn => ?_
    have := wf_u64 (h n hn)
    simp; omega
  · intro x hx
    obtain ⟨n, hn, rfl⟩ := List.mem_map.1 hx
    have := wf_u64 (h n hn)
    omega
theorem nat_of {n : Int} (h : (Lit.int .u64 n).wf = true) : ∃ x : Nat, n = (x : Int) ∧ x < 18446744073709551616 := by
  have := wf_u64 h
  exact ⟨n.toNat, by omega, by omega⟩
end Go.Proofs.Ytaeebipcgeembaa
