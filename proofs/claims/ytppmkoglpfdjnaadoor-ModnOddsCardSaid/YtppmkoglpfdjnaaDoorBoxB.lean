/-
  Boxes of two cells, more: a store into another box. Conditions: none.
-/
import Derived.Test.YtppmkoglpfdjnaaDoorBox
namespace Go.Proofs.YtppmkoglpfdjnaaDoor
open Go.RowKit
set_option linter.unusedVariables false
theorem Box2.far {w : World} {b b' k : Nat} {v0 v1 v : Value} (h : Box2 w b v0 v1) (hne : b' ≠ b) : Box2 (w.setCell ⟨b', k, none⟩ v) b v0 v1 := by
  obtain ⟨a0, a1, f0, f1, l⟩ := h
  have h0 : ∀ o, (w.setCell ⟨b', k, none⟩ v).cell? ⟨b, o, none⟩ = w.cell? ⟨b, o, none⟩ := fun o => World.cell?_setCell_other w ⟨b', k, none⟩ ⟨b, o, none⟩ _ (fun e => hne (by injection e))
  exact ⟨(h0 0).trans a0, (h0 1).trans a1, by simpa [go_sem] using f0, by simpa [go_sem] using f1, by simpa [World.setCell] using l⟩
/-- Both cells of a box are stored anew. -/
theorem Box2.put {w : World} {b : Nat} {v0 v1 : Value} (u0 u1 : Value) (h : Box2 w b v0 v1) : Box2 ((w.setCell ⟨b, 0, none⟩ u0).setCell ⟨b, 1, none⟩ u1) b u0 u1 := by
  obtain ⟨a0, a1, f0, f1, l⟩ := h
  refine ⟨?_, ?_, ?_, ?_, ?_⟩ <;> simp [go_sem, *]
/-- A box that has just been made, behind a call. -/
theorem Box2.new {W w' : World} {v0 v1 : Value} {T : TypeId} (hb : Below (W.alloc (.cells #[v0, v1] T)).heap.size (W.alloc (.cells #[v0, v1] T)) w') : Box2 w' W.heap.size v0 v1 :=
  Box2.call hb ⟨by simp [go_sem], by simp [go_sem], by simp [go_sem], by simp [go_sem], by simp [go_sem]⟩
theorem Box2.newd {W w' : World} {v0 v1 : Value} {T : TypeId} (hb : Below (W.alloc (.cells #[v0, v1] T)).drew.heap.size (W.alloc (.cells #[v0, v1] T)).drew w') : Box2 w' W.heap.size v0 v1 :=
  Box2.call hb ⟨by simp [go_sem], by simp [go_sem], by simp [go_sem], by simp [go_sem], by simp [go_sem]⟩
theorem Box2.new2 {W w' : World} {v0 v1 u0 u1 : Value} {T T' : TypeId} (hb : Below ((W.alloc (.cells #[v0, v1] T)).alloc (.cells #[u0, u1] T')).heap.size ((W.alloc (.cells #[v0, v1] T)).alloc (.cells #[u0, u1] T')) w') : Box2 w' W.heap.size v0 v1 ∧ Box2 w' (W.heap.size + 1) u0 u1 :=
  ⟨Box2.call hb ⟨by simp [go_sem], by simp [go_sem], by simp [go_sem], by simp [go_sem], by simp [go_sem]⟩, Box2.call hb ⟨by simp [go_sem], by simp [go_sem], by simp [go_sem], by simp [go_sem], by simp [go_sem]⟩⟩
theorem Box2.new2d {W w' : World} {v0 v1 u0 u1 : Value} {T T' : TypeId} (hb : Below ((W.alloc (.cells #[v0, v1] T)).alloc (.cells #[u0, u1] T')).drew.heap.size ((W.alloc (.cells #[v0, v1] T)).alloc (.cells #[u0, u1] T')).drew w') : Box2 w' W.heap.size v0 v1 ∧ Box2 w' (W.heap.size + 1) u0 u1 :=
  ⟨Box2.call hb ⟨by simp [go_sem], by simp [go_sem], by simp [go_sem], by simp [go_sem], by simp [go_sem]⟩, Box2.call hb ⟨by simp [go_sem], by simp [go_sem], by simp [go_sem], by simp [go_sem], by simp [go_sem]⟩⟩
theorem Box4.far {w : World} {b b' k : Nat} {v0 v1 v2 v3 v : Value} (h : Box4 w b v0 v1 v2 v3) (hne : b' ≠ b) : Box4 (w.setCell ⟨b', k, none⟩ v) b v0 v1 v2 v3 := by
  obtain ⟨a0, a1, a2, a3, f0, f1, f2, f3, l⟩ := h
  have h0 : ∀ o, (w.setCell ⟨b', k, none⟩ v).cell? ⟨b, o, none⟩ = w.cell? ⟨b, o, none⟩ := fun o => World.cell?_setCell_other w ⟨b', k, none⟩ ⟨b, o, none⟩ _ (fun e => hne (by injection e))
  exact ⟨(h0 0).trans a0, (h0 1).trans a1, (h0 2).trans a2, (h0 3).trans a3, by simpa [go_sem] using f0, by simpa [go_sem] using f1, by simpa [go_sem] using f2, by simpa [go_sem] using f3, by simpa [World.setCell] using l⟩
/-- A box of two behind stores into another one's two cells. -/
theorem Box2.far2 {w : World} {b b' : Nat} {v0 v1 u0 u1 : Value} (h : Box2 w b v0 v1) (hne : b' ≠ b) : Box2 ((w.setCell ⟨b', 0, none⟩ u0).setCell ⟨b', 1, none⟩ u1) b v0 v1 := Box2.far (Box2.far h hne) hne
theorem Box4.far2 {w : World} {b b' : Nat} {v0 v1 v2 v3 u0 u1 : Value} (h : Box4 w b v0 v1 v2 v3) (hne : b' ≠ b) : Box4 ((w.setCell ⟨b', 0, none⟩ u0).setCell ⟨b', 1, none⟩ u1) b v0 v1 v2 v3 := Box4.far (Box4.far h hne) hne
theorem Box2.drew {w : World} {b : Nat} {v0 v1 : Value} (h : Box2 w b v0 v1) : Box2 w.drew b v0 v1 := h
theorem Box4.put {w : World} {b : Nat} {v0 v1 v2 v3 : Value} (u0 u1 u2 u3 : Value) (h : Box4 w b v0 v1 v2 v3) : Box4 ((((w.setCell ⟨b, 0, none⟩ u0).setCell ⟨b, 1, none⟩ u1).setCell ⟨b, 2, none⟩ u2).setCell ⟨b, 3, none⟩ u3) b u0 u1 u2 u3 := by
  obtain ⟨a0, a1, a2, a3, f0, f1, f2, f3, l⟩ := h
  refine ⟨?_, ?_, ?_, ?_, ?_, ?_, ?_, ?_, ?_⟩ <;> simp [go_sem, *]
theorem Box4.far4 {w : World} {b b' : Nat} {v0 v1 v2 v3 u0 u1 u2 u3 : Value} (h : Box4 w b v0 v1 v2 v3) (hne : b' ≠ b) : Box4 ((((w.setCell ⟨b', 0, none⟩ u0).setCell ⟨b', 1, none⟩ u1).setCell ⟨b', 2, none⟩ u2).setCell ⟨b', 3, none⟩ u3) b v0 v1 v2 v3 := Box4.far (Box4.far (Box4.far (Box4.far h hne) hne) hne) hne
end Go.Proofs.YtppmkoglpfdjnaaDoor
