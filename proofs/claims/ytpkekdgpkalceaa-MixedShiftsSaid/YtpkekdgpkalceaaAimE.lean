/-
  Slices.Clone, tabs.only of good rows, and what the great loop of tabs.Aim owns. Conditions: slices no longer than the form lets them be.
-/
import Derived.Test.YtpkekdgpkalceaaAimD
import Derived.Lib.SliceRun
namespace Go.Proofs.Ytpkekdgpkalceaa
open Go.RowKit
set_option linter.unusedVariables false

theorem us_set' (xs : List Nat) (i v : Nat) : us (xs.set i v) = (us xs).set i (.int .u64 (v : Nat)) := by simp [us, List.map_set]
theorem own_made0 {w : World} {e : TypeId} : (w.alloc (.cells #[] e)).ownsRow w.heap.size e 1 (.slice (some ⟨w.heap.size, 0, none⟩) 0 0) 0 [] := by
  refine ⟨rfl, .inr ⟨w.heap.size, 0, #[], rfl, Nat.le_refl _, (MapKept.heap_alloc w _).1, Nat.le_refl _, Nat.zero_le _, rfl, rfl⟩⟩

set_option maxHeartbeats 800000 in
theorem clone_any (A : Option Addr) (c n : Nat) (xs : List Nat) (w : World) (hr : Rs w A (us xs)) (hn : xs.length = n) (h1 : 1 ≤ n) (hl : n ≤ 17592186043904) :
    Calls Try.prog 30 #[.slice A n c] w fun e w' => ∃ g cc, e = .returned (.slice (some ⟨g, 0, none⟩) n cc) ∧ w'.ownsRow w.heap.size 30 1 (.slice (some ⟨g, 0, none⟩) n cc) n (us xs) ∧ Below w.heap.size w w' := by
  subst hn
  obtain ⟨b, o, rfl, hb⟩ := hr.addr (by rw [len_us]; omega)
  have hb0 := Below.refl w.heap.size w
  have hr1 := fun ob => Rs.alloc hr ob
  have hb1 := fun ob => hb0.alloc (Nat.le_refl _) ob
  have hnil := fun (W : World) => Lib.run_eql_slice_nil W 22 30 (some ⟨b, o, none⟩) xs.length c 0 0 Try.underlying22
  go_enter Try.func30, Try.ntmps30
  go_wp2_with (at_builtin; refine wp_appendN rfl _ _ _ rfl w.heap.size 30 (.int .u64 0) 8 Try.underlying22 Try.infoU64 rfl _ _ _ _ (by rfl) own_made0 _ _ _ _ _ (by rfl) (by rw [len_us]) (hr1 _) (one_us _) (by omega) (by omega) (by simp) ?_)
  intro A2 c2 w2 hown2 hb2
  replace hown2 : w2.ownsRow w.heap.size 30 1 (.slice A2 xs.length c2) xs.length (us xs) := by simpa using hown2
  obtain ⟨b9, o9, e9, hb9⟩ := (Rs.of_own hown2).addr (by rw [len_us]; omega)
  have ho9 : o9 = 0 := by
    rcases hown2.2 with ⟨h, _⟩ | ⟨g, cap, cur, hv, _⟩
    · rw [e9] at h; injection h with h; cases h
    · rw [e9] at hv; injection hv with hv; injection hv with hv; injection hv with _ hv
  subst ho9
  subst e9
  go_wp2
  go_ret
  refine ⟨b9, c2, by simp, hown2, ((hb1 _)).trans hb2⟩

/-- 'only' of a good row and those before it. -/
theorem only_any (A A' : Option Addr) (c c' B n m k : Nat) (rows : List (List Int)) (g : GoodR n rows m) (w : World) (hk : k < rows.length) (hr : Rd w B A (is (rows.getD k []))) (ho : RdR w B A' rows) (hB : B ≤ w.heap.size) (hl : ∀ j, j < rows.length → (rows.getD j []).length ≤ 17592186043904) (hcap : rows.length ≤ c') :
    Calls Try.prog 31 #[.slice A (rows.getD k []).length c, .slice A' k c'] w (RetI w (ns (someV rows k))) := by
  have hlk := hl k hk
  have hal := g.alike k hk
  have hlong := g.long
  have hgk := (fits_zero (g.fits k hk)).2
  have hfew := g.few
  have hoT := ho.take k
  unfold someV
  rcases Nat.lt_or_ge k 1 with h | h
  · have : k = 0 := by omega
    subst this
    exact only0 A A' c c' B _ w hr (by simpa using hoT) hB hlk (by omega) (by omega) hgk _ rfl
  · rcases Nat.lt_or_ge k 2 with h' | h'
    · have : k = 1 := by omega
      subst this
      have h0 : rows.take 1 = [rows.getD 0 []] := by
        match rows, hk with
        | a :: b :: _, _ => rfl
      rw [h0] at hoT ⊢
      exact only1 A A' c c' B _ _ w hr hoT hB hlk (by omega) (by omega) hal.symm (g.unlike 1 0 hk (by omega)) hgk _ rfl
    · have : k = 2 := by omega
      subst this
      have h0 : rows.take 2 = [rows.getD 0 [], rows.getD 1 []] := by
        match rows, hk with
        | a :: b :: c :: _, _ => rfl
      rw [h0] at hoT ⊢
      exact only2 A A' c c' B _ _ _ w hr hoT hB hlk (by omega) (by omega) hal.symm (g.unlike 2 0 hk (by omega)) (by rw [hal, g.alike 1 (by omega)]) (fun h => g.unlike 2 1 hk (by omega) h.symm) (fits_zero (g.fits 1 (by omega))).2 hgk _ rfl

/-- What the great loop of Aim holds: the boxed rows, its own words and what is left. -/
structure AS (w wr : World) (g0 g1 g2 : Nat) (vb : Value) (n c1 : Nat) (W : List Nat) (m c2 : Nat) (L : List Nat) : Prop where
  box : wr.cell? ⟨g0, 0, none⟩ = some vb
  o1 : wr.ownsRow w.heap.size 30 1 (.slice (some ⟨g1, 0, none⟩) n c1) n (us W)
  o2 : wr.ownsRow w.heap.size 30 1 (.slice (some ⟨g2, 0, none⟩) m c2) m (us L)
  bel : Below w.heap.size w wr
section
variable {w wr w1 : World} {g0 g1 g2 : Nat} {vb : Value} {n c1 : Nat} {W : List Nat} {m c2 : Nat} {L : List Nat}
theorem AS.call (h : AS w wr g0 g1 g2 vb n c1 W m c2 L) (hb : Below wr.heap.size wr w1) : AS w w1 g0 g1 g2 vb n c1 W m c2 L :=
  ⟨cell_call hb h.box, own_carry h.o1 hb, own_carry h.o2 hb, below_call h.bel (Nat.le_refl _) hb⟩
theorem AS.put1 (h : AS w wr g0 g1 g2 vb n c1 W m c2 L) (h01 : g0 ≠ g1) (h12 : g1 ≠ g2) (j v : Nat) : AS w (wr.setCell ⟨g1, j, none⟩ (.int .u64 (v : Nat))) g0 g1 g2 vb n c1 (W.set j v) m c2 L := by
  have hst := h.o1.stored j (.int .u64 (v : Nat))
  refine ⟨?_, by rw [us_set']; exact hst.1, h.o2.kept hst.2 (.inr fun e => h12 (by injection e with e; exact e.symm)), h.bel.setCell (show w.heap.size ≤ g1 from (h.o1.lt g1 rfl).1) _⟩
  rw [World.cell?_setCell_other _ _ _ _ (fun e => h01 (by injection e with e; exact e.symm))]
  exact h.box
theorem AS.put2 (h : AS w wr g0 g1 g2 vb n c1 W m c2 L) (h02 : g0 ≠ g2) (h12 : g1 ≠ g2) (j v : Nat) : AS w (wr.setCell ⟨g2, j, none⟩ (.int .u64 (v : Nat))) g0 g1 g2 vb n c1 W m c2 (L.set j v) := by
  have hst := h.o2.stored j (.int .u64 (v : Nat))
  refine ⟨?_, h.o1.kept hst.2 (.inr fun e => h12 (by injection e)), by rw [us_set']; exact hst.1, h.bel.setCell (show w.heap.size ≤ g2 from (h.o2.lt g2 rfl).1) _⟩
  rw [World.cell?_setCell_other _ _ _ _ (fun e => h02 (by injection e with e; exact e.symm))]
  exact h.box
theorem us_get? (W : List Nat) (j : Nat) (hj : j < W.length) : (us W)[j]? = some (.int .u64 (W.getD j 0 : Nat)) := by simp [us, List.getD, hj]
theorem AS.cell1 (h : AS w wr g0 g1 g2 vb n c1 W m c2 L) (j : Nat) (hj : j < n) : wr.cell? ⟨g1, j, none⟩ = some (.int .u64 (W.getD j 0 : Nat)) := by
  have hl := h.o1.1
  rw [len_us] at hl
  rw [h.o1.cellAt j (by omega), us_get? _ _ (by omega)]
theorem AS.cell2 (h : AS w wr g0 g1 g2 vb n c1 W m c2 L) (j : Nat) (hj : j < m) : wr.cell? ⟨g2, j, none⟩ = some (.int .u64 (L.getD j 0 : Nat)) := by
  have hl := h.o2.1
  rw [len_us] at hl
  rw [h.o2.cellAt j (by omega), us_get? _ _ (by omega)]
end
/-- The cells of some entries, in a block of their own. -/
def SomeC (wr : World) (g o : Nat) (es : List Nat) : Prop := ∀ j, j < es.length → wr.cell? ⟨g, o + j, none⟩ = some (.int .i64 (es.getD j 0 : Nat))
theorem SomeC.call {wr w1 : World} {g o : Nat} {es : List Nat} (h : SomeC wr g o es) (hb : Below wr.heap.size wr w1) : SomeC w1 g o es := fun j hj => cell_call hb (h j hj)
theorem SomeC.put {wr : World} {g o : Nat} {es : List Nat} (h : SomeC wr g o es) (g1 j : Nat) (v : Value) (hne : g ≠ g1) : SomeC (wr.setCell ⟨g1, j, none⟩ v) g o es := fun i hi => by
  rw [World.cell?_setCell_other _ _ _ _ (fun e => hne (by injection e with e; exact e.symm))]
  exact h i hi
theorem SomeC.rd {wr : World} {g o : Nat} {es : List Nat} (h : SomeC wr g o es) : Rs wr (some ⟨g, o, none⟩) (is (ns es)) := fun hp => by
  have hp' : 0 < es.length := by simpa [is, ns] using hp
  refine ⟨g, o, rfl, World.block_lt_of_cell? _ _ (h 0 hp'), fun j u hu => ?_⟩
  have hj : j < es.length := by have := (List.getElem?_eq_some_iff.1 hu).1; simpa [is, ns] using this
  rw [h j hj, ← hu]
  simp [is, ns, List.getD, hj]
theorem SomeC.of {wr : World} {A : Option Addr} {es : List Nat} (h : Rs wr A (is (ns es))) (hp : 0 < es.length) : ∃ g o, A = some ⟨g, o, none⟩ ∧ SomeC wr g o es := by
  obtain ⟨b, o, rfl, hb, hc⟩ := h (by simpa [is, ns] using hp)
  refine ⟨b, o, rfl, fun j hj => hc j _ ?_⟩
  simp [is, ns, List.getD, hj]
end Go.Proofs.Ytpkekdgpkalceaa
