/-
  A range over a text's chunks: the iterator's contract (it keeps its place in a variable of its own), and the law of the loop over it. Conditions: bytes; the text lies below n0, the loop's own variables do not.
-/
import Derived.Test.YtaeebipcgeembaaStrT
import Derived.RangeFuncBox
import Derived.RangeFuncLeaves
import Derived.RangeFuncCalls
import Derived.Shelf.Abstract
import Derived.Shelf.RegionOpen
import Derived.OwnWalkIn
import Derived.TacticsInMore
import Derived.LoopNIn
import Derived.LoopIn
import Derived.RegionIn
namespace Go.Proofs.Ytaeebipcgeembaa
open Go.RowKit Go.Shelf
set_option linter.unusedVariables false

attribute [local go_sem] Oper.semAt_some

/-- How a round's body is left: off its end. -/
def goesOn (B n₀ : Nat) (I : World → Prop) (W : World) : Exit → Act → World → Prop
  | .normal, _, W' => KeepsFrom B W W' ∧ Below n₀ W W' ∧ I W'
  | .ret, _, _ => False
  | .exit _, _, _ => False
  | .goto _, _, _ => False
  | .panic _, _, _ => False
  | .outgrown, _, _ => False

/-- What the iterator asks, and says. -/
def ChunksGive (n : Nat) (B0 n₀ : Nat) (bs : List Nat) (v0 : Value) : Prop :=
  ∀ (l : Nat) (J : Value → List Nat → World → Prop) (W : World), (∀ v pre W, J v pre W → Boxed W B0 23 v) → (∀ v v' pre W, J v pre W → J v' pre (W.setCell ⟨B0, 0, none⟩ v')) → (∀ v pre W, J v pre W → J v pre W.drew) →
    (∀ v pre x W, J v pre W → (∃ r, pre ++ x :: r = chunksN bs) → YieldAt Fence.wide (n - 1) Try.prog l #[.int .u64 (x : Nat)] W fun e W' => e = .returned (.bool true) ∧ J v (pre ++ [x]) W' ∧ Below n₀ W W') →
    (∀ A m c, v0 = .slice A m c → Rd W n₀ A (by8 bs)) → J v0 [] W →
    CallsIn Fence.wide n Try.prog 41 #[.func (.yield l) #[] #[], .pointer (some ⟨B0, 0, none⟩)] W fun e W' => (∃ v, e = .returned v) ∧ (∃ v, J v (chunksN bs) W') ∧ Below n₀ W W'

/-- The loop 'for x := range chunks(b)'. -/
theorem range_chunks (n : Nat) (h3 : 3 ≤ n) {g : Operand} {p : Tmp} {assign body : Code} {Q : Exit → Act → World → Prop} {a : Act} {w : World} (B0 n₀ : Nat) (hB0 : n₀ ≤ B0) (hg : a.eval g = .func (.func 41) #[] #[.pointer (some ⟨B0, 0, none⟩)])
    (eg : ∀ args w, (callFunc 41 args).run Try.prog w = .ok (.enter 41 args) w)
    (bs : List Nat) (A : Option Addr) (c m : Nat) (hC : ChunksGive (n - 1) B0 n₀ bs (.slice A m c)) (hR : Rd w n₀ A (by8 bs))
    (I : Value → List Nat → World → Prop) (hbox : ∀ v pre W, I v pre W → Boxed W B0 23 v) (hset : ∀ v v' pre W, I v pre W → I v' pre (W.setCell ⟨B0, 0, none⟩ v')) (hdrew : ∀ v pre W, I v pre W → I v pre W.drew)
    (hI : ∀ v, OwnFrom w.heap.size (I v)) (h0 : I (.slice A m c) [] w) (a₁ : Nat → Act)
    (hassign : ∀ (l x : Nat) (W : World) (K : Act → World → Prop), K (a₁ x) W → assign.wpIn (Fence.wide.inRound l) (n - 1 - 1) Try.prog (Exit.then K (fun _ _ _ => False)) { tmps := a.tmps.setIfInBounds p (.int .u64 (x : Nat)), defers := [] } W)
    (hbody : ∀ (l : Nat) (v : Value) (pre : List Nat) (x : Nat) (W : World), I v pre W → (∃ r, pre ++ x :: r = chunksN bs) → body.wpIn (Fence.wide.inRound l) (n - 1 - 1) Try.prog (goesOn w.heap.size n₀ (I v (pre ++ [x])) W) (a₁ x) W)
    (hdone : ∀ (D : Nat) (v : Value) (W : World), w.heap.size ≤ D → I v (chunksN bs) W → Below n₀ w W → W.heap[D]? = some (.deferred (some [])) → Q .normal { a with defers := { target := .collected D, args := #[] } :: a.defers } W) :
    (Code.rangeFunc g #[p] assign body).wpIn Fence.wide n Try.prog Q a w := by
  have hlt0 := (hbox _ _ _ h0).lt
  refine wpIn_rangeFunc ?_
  intro fn hfn
  obtain ⟨rec, hrec⟩ : ∃ rec : LoopState → Option Code → Loop, rec = fun st pe => { state := st, pending := pe, fn, tmps := a.tmps, params := #[p], assign, body, defers := w.heap.size } := ⟨_, rfl⟩
  obtain ⟨W1, hW1⟩ : ∃ W1, (w.alloc (.deferred (some []))).alloc (.loop (rec .ready none)) = W1 := ⟨_, rfl⟩
  have hL1 : W1.heap[w.heap.size + 1]? = some (.loop (rec .ready none)) := by
    have h := World.alloc_heap_new (w.alloc (.deferred (some []))) (.loop (rec .ready none))
    rw [World.size_alloc, hW1] at h
    exact h
  have hK1 : W1.heap[w.heap.size]? = some (.deferred (some [])) := by
    rw [← hW1]
    exact (Below.heap_alloc _ _ _ (by simp)).trans (World.alloc_heap_new w _)
  have hI1 : I (.slice A m c) [] W1 := by
    rw [← hW1]
    exact (hI _).alloc _ ((hI _).alloc _ h0)
  have hb1 : Below n₀ w W1 := by
    rw [← hW1]
    exact ((Below.refl _ w).alloc (by omega) _).alloc (by simp; omega) _
  have hn2 : 1 ≤ n := by omega
  refine ⟨w.heap.size + 1, [{ target := .collected w.heap.size, args := #[] }], W1, { target := .fn (.func 41) #[.pointer (some ⟨B0, 0, none⟩)], args := #[.func (.yield (w.heap.size + 1)) #[] #[]] }, W1, 41,
    #[.func (.yield (w.heap.size + 1)) #[] #[]] ++ #[.pointer (some ⟨B0, 0, none⟩)], W1, ?_, ?_, ?_, ?_, fun _ => hn2, ?_⟩
  · rw [← hW1, hrec]
    exact run_enterLoop_outer _ _ _ _ _
  · simp only [resolve, hg]
    simp [go_sem]
  · intro f' hf'
    trivial
  · simp [invoke, go_sem, eg]
  · refine (hC (w.heap.size + 1) (fun v pre W => I v pre W ∧ W.heap[w.heap.size + 1]? = some (.loop (rec .ready none)) ∧ W.heap[w.heap.size]? = some (.deferred (some []))) W1 (fun v pre W h => hbox v pre W h.1)
      (fun v v' pre W h => ⟨hset v v' pre W h.1, (Below.heap_setCell _ _ _ _ (show w.heap.size + 1 ≠ B0 by omega)).trans h.2.1, (Below.heap_setCell _ _ _ _ (show w.heap.size ≠ B0 by omega)).trans h.2.2⟩)
      (fun v pre W h => ⟨hdrew v pre W h.1, h.2.1, h.2.2⟩) ?_ (fun A' m' c' e => by injection e with e1 e2 e3; rw [← e1]; exact hR.below hb1) ⟨hI1, hL1, hK1⟩).mono ?_
    · rintro v pre x W ⟨hi, hl, hk⟩ hpx
      have hlt : w.heap.size + 1 < W.heap.size := (Array.getElem?_eq_some_iff.1 hl).1
      have hy := run_yield (P := Try.prog) (args := #[.int .u64 (x : Nat)]) hl (by rw [hrec]; rfl)
      rw [hrec] at hy
      refine ⟨fn, _, assign, body, hy, roundIn_of_wpIn hfn ?_⟩
      have hT : Array.foldl (fun tmps x => match x with | (t, a) => tmps.setIfInBounds t a) a.tmps (#[p].zip #[Value.int .u64 (x : Nat)]) = a.tmps.setIfInBounds p (.int .u64 (x : Nat)) := by simp
      dsimp only
      rw [hT]
      refine hassign _ x W _ ?_
      refine ⟨_, run_beginRound hl (by rw [hrec]), ?_⟩
      have hl2 : (W.putObj (w.heap.size + 1) (.loop { rec .ready none with state := .busy })).heap[w.heap.size + 1]? = some (.loop { rec .ready none with state := .busy }) := World.putObj_heap_same hlt
      have hk2 : (W.putObj (w.heap.size + 1) (.loop { rec .ready none with state := .busy })).heap[w.heap.size]? = some (.deferred (some [])) := (World.putObj_heap_other (by omega)).trans hk
      have hw2 : Below n₀ W (W.putObj (w.heap.size + 1) (.loop { rec .ready none with state := .busy })) := (Below.refl n₀ W).grown (grownBy_putObj' W _ _) (by omega) (fun k e => by cases e; omega)
      refine wpIn_mono (hbody _ v pre x _ ((hI v).putObj _ hi (by omega) hl rfl) hpx) ?_
      rintro e a3 W3 hp
      cases e with
      | normal =>
        obtain ⟨hk3, hkp3, hi3⟩ := hp
        have hl3 := hk3.same _ _ (by omega) hl2 rfl
        have hr := run_endRound (P := Try.prog) none hl3
        rw [hrec] at hr hl3
        refine ⟨_, _, hr, rfl, ⟨(hI v).putObj _ hi3 (by omega) hl3 rfl, ?_, (World.putObj_heap_other (by omega)).trans (hk3.same _ _ (Nat.le_refl _) hk2 rfl)⟩, ?_⟩
        · rw [World.putObj_heap_same (Array.getElem?_eq_some_iff.1 hl3).1, hrec]
          rfl
        · have hs3 := (Array.getElem?_eq_some_iff.1 hl3).1
          exact (hw2.trans hkp3).trans ((Below.refl n₀ W3).grown (grownBy_putObj' W3 _ _) (by omega) (fun k e => by cases e; omega))
      | ret => exact hp.elim
      | exit id => exact hp.elim
      | goto t => exact hp.elim
      | panic ch => exact hp.elim
      | outgrown => exact hp.elim
    · rintro e W2 ⟨⟨v, rfl⟩, ⟨v', hi, hl, hk⟩, hB⟩
      have hr := run_endLoop (P := Try.prog) hl (by rw [hrec]; simp)
      have hs := (Array.getElem?_eq_some_iff.1 hl).1
      refine ⟨none, _, by rw [hrec] at hr; exact hr, hdone _ v' _ (Nat.le_refl _) ((hI v').putObj _ hi (by omega) hl rfl) ?_ ((World.putObj_heap_other (by omega)).trans hk)⟩
      exact (hb1.trans hB).trans ((Below.refl n₀ W2).grown (grownBy_putObj' W2 _ _) (by omega) (fun k e => by cases e; omega))
end Go.Proofs.Ytaeebipcgeembaa
