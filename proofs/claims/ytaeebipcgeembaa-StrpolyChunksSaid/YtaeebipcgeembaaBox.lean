/-
  Boxes of two and of four cells: what a call leaves as it was.
-/
import Derived.Test.YtaeebipcgeembaaBase
import Derived.Test.YtaeebipcgeembaaWordM
namespace Go.Proofs.Ytaeebipcgeembaa
open Go.RowKit

/-- A box of two cells, live and not frozen. -/
abbrev Box2 (w : World) (b : Nat) (v0 v1 : Value) : Prop :=
  w.cell? ⟨b, 0, none⟩ = some v0 ∧ w.cell? ⟨b, 1, none⟩ = some v1 ∧ w.frozen? ⟨b, 0, none⟩ = false ∧ w.frozen? ⟨b, 1, none⟩ = false ∧ b < w.heap.size
/-- A box of four cells, live and not frozen. -/
abbrev Box4 (w : World) (b : Nat) (v0 v1 v2 v3 : Value) : Prop :=
  w.cell? ⟨b, 0, none⟩ = some v0 ∧ w.cell? ⟨b, 1, none⟩ = some v1 ∧ w.cell? ⟨b, 2, none⟩ = some v2 ∧ w.cell? ⟨b, 3, none⟩ = some v3 ∧ w.frozen? ⟨b, 0, none⟩ = false ∧ w.frozen? ⟨b, 1, none⟩ = false ∧ w.frozen? ⟨b, 2, none⟩ = false ∧ w.frozen? ⟨b, 3, none⟩ = false ∧ b < w.heap.size
theorem Box2.call {w w' : World} {b : Nat} {v0 v1 : Value} (hb : Below w.heap.size w w') (h : Box2 w b v0 v1) : Box2 w' b v0 v1 :=
  ⟨cell_call hb h.1, cell_call hb h.2.1, (hb.frozen h.2.2.2.2).trans h.2.2.1, (hb.frozen h.2.2.2.2).trans h.2.2.2.1, Nat.lt_of_lt_of_le h.2.2.2.2 hb.size⟩
theorem Box4.call {w w' : World} {b : Nat} {v0 v1 v2 v3 : Value} (hb : Below w.heap.size w w') (h : Box4 w b v0 v1 v2 v3) : Box4 w' b v0 v1 v2 v3 := by
  obtain ⟨a0, a1, a2, a3, f0, f1, f2, f3, l⟩ := h
  exact ⟨cell_call hb a0, cell_call hb a1, cell_call hb a2, cell_call hb a3, (hb.frozen l).trans f0, (hb.frozen l).trans f1, (hb.frozen l).trans f2, (hb.frozen l).trans f3, Nat.lt_of_lt_of_le l hb.size⟩
/-- A box that holds a number of 128 bits. -/
abbrev BoxU (w : World) (b X : Nat) : Prop := Box2 w b (.int .u64 (hi64 X : Nat)) (.int .u64 (lo64 X : Nat))
theorem BoxU.call {w w' : World} {b X : Nat} (hb : Below w.heap.size w w') (h : BoxU w b X) : BoxU w' b X := Box2.call hb h
theorem Box2.alloc {w : World} {b : Nat} {v0 v1 : Value} (o : Obj) (h : Box2 w b v0 v1) : Box2 (w.alloc o) b v0 v1 :=
  Box2.call (w' := w.alloc o) ((Below.refl _ w).alloc (Nat.le_refl _) o) h
theorem Box4.alloc {w : World} {b : Nat} {v0 v1 v2 v3 : Value} (o : Obj) (h : Box4 w b v0 v1 v2 v3) : Box4 (w.alloc o) b v0 v1 v2 v3 :=
  Box4.call (w' := w.alloc o) ((Below.refl _ w).alloc (Nat.le_refl _) o) h
end Go.Proofs.Ytaeebipcgeembaa
