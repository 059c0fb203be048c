/-
  Mixed tabulation's shift: plain laws, and the walk of the closure that collects rows and numbers. Conditions: slices no longer than the form lets them be, and no longer than their capacity.
-/
import Derived.Test.YtpkekdgpkalceaaShfU
import Derived.Test.YtpkekdgpkalceaaMixedB
import Derived.RangeFuncNested
namespace Go.Proofs.Ytpkekdgpkalceaa
open Go.RowKit
set_option linter.unusedVariables false

/-- What mixed.Shift hands back. -/
def mshE (n : Nat) (b : Int) (xs ys : List Nat) : Int := if chk n 320 b = 0 then targE b xs ys else chk n 320 b
def rowsM (words xs : List Nat) : List (List Int) := keyRows (mrow words) xs
def mshV (words : List Nat) (b : Int) (xs ys : List Nat) : List Nat := aimV (words.take 192) (rowsM words xs) (byV b (words.take 192) (rowsM words xs) ys) ++ words.drop 192
def wasM (words : List Nat) (b : Int) (xs : List Nat) : List Nat := wasV b (words.take 192) (rowsM words xs)
theorem len_wasM (words : List Nat) (b : Int) (xs : List Nat) : (wasM words b xs).length = xs.length := by unfold wasM rowsM; rw [len_wasV, len_keyRows]
theorem rowsM_E (words : List Nat) (n m : Nat) (xs : List Nat) (h1 : 1 ≤ xs.length) (h3 : xs.length ≤ 3) (hm : xs.length = m) (hn : n = 192) (hx : ∀ i, i < xs.length → xs.getD i 0 < 4294967296) : rowsE n (rowsM words xs) m = if twice xs then 15 else 0 :=
  rows_keys (mrow words) 12 n m xs h1 h3 hm (by omega) (by omega) (len_mrow words) (mrow_good words) (fun i k hi hk h => mrow_inj words _ _ (hx k hk) (hx i hi) h)
theorem goodRM {words : List Nat} {n : Nat} {b : Int} {xs ys : List Nat} (hn : n = 192) (h : targE b xs ys = 0) : GoodR n (rowsM words xs) xs.length := by
  obtain ⟨h1, h2, h3, h4, h5⟩ := targ_parts h
  refine good_of ?_
  rw [rowsM_E words n xs.length xs h1 h2 rfl hn (fun i hi => (h4 i hi).1), h5]
  rfl
theorem msh_row (words : List Nat) (b : Int) (xs ys : List Nat) (hn : words.length = 320) (x : Nat) : mrow (mshV words b xs ys) x = mrow words x := by
  unfold mrow mixD mshV
  rw [sumAt_same _ words 192 _ (cat_high _ words 192 (by rw [len_aim]; simp; omega))]
theorem msh_take (words : List Nat) (b : Int) (xs ys : List Nat) (hn : words.length = 320) : (mshV words b xs ys).take 192 = aimV (words.take 192) (rowsM words xs) (byV b (words.take 192) (rowsM words xs) ys) := by
  unfold mshV
  rw [List.take_append_of_le_length (by rw [len_aim]; simp; omega), List.take_of_length_le (by rw [len_aim]; simp; omega)]
theorem msh_drop (words : List Nat) (b : Int) (xs ys : List Nat) (hn : words.length = 320) : (mshV words b xs ys).drop 192 = words.drop 192 := by
  unfold mshV
  rw [List.drop_append_of_le_length (by rw [len_aim]; simp; omega), List.drop_of_length_le (by rw [len_aim]; simp; omega), List.nil_append]
theorem len_msh (words : List Nat) (b : Int) (xs ys : List Nat) (hn : words.length = 320) : (mshV words b xs ys).length = 320 := by
  unfold mshV
  rw [List.length_append, len_aim]
  simp; omega
theorem msh_lt (words : List Nat) (b : Int) (xs ys : List Nat) (hw : ∀ x ∈ words, x < 18446744073709551616) (hy : ∀ x ∈ ys, x < 18446744073709551616) : ∀ x ∈ mshV words b xs ys, x < 18446744073709551616 := fun x hx => by
  rcases List.mem_append.1 hx with h | h
  · exact aimV_lt _ _ _ (take_lt words hw 192) (byV_lt _ _ _ _ (take_lt words hw 192) hy) x h
  · exact drop_lt words hw 192 x h
theorem mev_of (words : List Nat) (b : Int) (x : Nat) (hn : words.length = 320) (hc : chk 320 320 b = 0) (hx : x < 4294967296) : mevE words b x = 0 ∧ mevV words b x = lowV (sumV (words.take 192) (mrow words x)) b := by
  have h0 : mevE words b x = 0 := by unfold mevE; rw [hn]; show (if chk 320 320 b = 0 then _ else _) = _; rw [if_pos hc, if_pos hx]
  exact ⟨h0, by unfold mevV; rw [if_pos h0]⟩
theorem msh_all (words : List Nat) (b : Int) (xs ys : List Nat) (hn : words.length = 320) (hc : chk 320 320 b = 0) (ht : targE b xs ys = 0) :
    (∀ k, k < xs.length → mevE words b (xs.getD k 0) = 0 ∧ mevE (mshV words b xs ys) b (xs.getD k 0) = 0 ∧ mevV words b (xs.getD k 0) = (wasM words b xs).getD k 0 ∧ mevV (mshV words b xs ys) b (xs.getD k 0) = ys.getD k 0) ∧
    targE b xs (wasM words b xs) = 0 ∧ mshV (mshV words b xs ys) b xs (wasM words b xs) = words := by
  have hp := targ_parts ht
  have hl : (words.take 192).length = 192 := by simp; omega
  have g := goodRM (words := words) (n := 192) rfl ht
  have hlen : (rowsM words xs).length = xs.length := by unfold rowsM; rw [len_keyRows]
  have hkr : ∀ k, k < xs.length → (rowsM words xs).getD k [] = mrow words (xs.getD k 0) := fun k h => get_keyRows _ xs k h
  refine ⟨fun k h => ?_, ?_, ?_⟩
  · have hx := (hp.2.2.2.1 k h).1
    obtain ⟨a1, a2⟩ := mev_of words b _ hn hc hx
    obtain ⟨c1, c2⟩ := mev_of (mshV words b xs ys) b _ (len_msh words b xs ys hn) hc hx
    refine ⟨a1, c1, ?_, ?_⟩
    · rw [a2]
      unfold wasM
      rw [get_wasV _ _ _ k (by rw [hlen]; exact h), hkr k h]
    · rw [c2, msh_take words b xs ys hn, msh_row words b xs ys hn]
      have := shift_hits g b (words.take 192) ys hl k (by rw [hlen]; exact h) (hp.2.2.2.1 k h).2
      rw [hkr k h] at this
      exact this
  · exact targ_was ht (len_wasM words b xs) (fun i hi => wasV_low b _ _ i (by rw [hlen]; exact hi))
  · have hk2 : rowsM (mshV words b xs ys) xs = rowsM words xs := by
      unfold rowsM keyRows
      exact List.map_congr_left fun x _ => msh_row words b xs ys hn x
    show aimV ((mshV words b xs ys).take 192) (rowsM (mshV words b xs ys) xs) (byV b ((mshV words b xs ys).take 192) (rowsM (mshV words b xs ys) xs) (wasM words b xs)) ++ (mshV words b xs ys).drop 192 = words
    rw [hk2, msh_take words b xs ys hn, msh_drop words b xs ys hn]
    have := shift_back g b (words.take 192) ys hl (fun i hi => (hp.2.2.2.1 i (by rw [hlen] at hi; exact hi)).2)
    show aimV (aimV (words.take 192) _ _) _ (byV b (aimV (words.take 192) _ _) _ (wasV b (words.take 192) _)) ++ _ = _
    rw [this, List.take_append_drop]

theorem Boxed.call {W W' : World} {B : Nat} {t : TypeId} {v : Value} (h : Boxed W B t v) (hb : Below W.heap.size W W') : Boxed W' B t v := (hb.block B h.lt).trans h
theorem Boxed.drew' {W : World} {B : Nat} {t : TypeId} {v : Value} (h : Boxed W B t v) : Boxed W.drew B t v := h

/-- The boxes of mixed.Shift, and what lies in them. -/
structure MB (base : Nat) (W : World) (words : List Nat) (A : Option Addr) (n c : Nat) (b : Int) (f : Nat → List Int) (g : Nat → Nat) (k : Nat) : Prop where
  b0 : Boxed W base 22 (.slice A n c)
  b1 : Boxed W (base + 1) 3 (.int .i64 b)
  ex : ∃ (A1 : Option Addr) (c1 : Nat) (A2 : Option Addr) (c2 : Nat) (vs : List Value), Boxed W (base + 2) 23 (.slice A1 k c1) ∧ Boxed W (base + 3) 22 (.slice A2 k c2) ∧ SH base W 12 f g k A1 c1 A2 c2 vs
theorem MB.call {base : Nat} {W W' : World} {words : List Nat} {A : Option Addr} {n c : Nat} {b : Int} {f : Nat → List Int} {g : Nat → Nat} {k : Nat} (h : MB base W words A n c b f g k) (hb : Below W.heap.size W W') : MB base W' words A n c b f g k := by
  obtain ⟨h0, h1, A1, c1, A2, c2, vs, h2, h3, S⟩ := h
  exact ⟨Boxed.call h0 hb, Boxed.call h1 hb, A1, c1, A2, c2, vs, Boxed.call h2 hb, Boxed.call h3 hb, S.call hb⟩

theorem SH.store {base : Nat} {wr : World} {q : Nat} {f : Nat → List Int} {g : Nat → Nat} {k : Nat} {A1 : Option Addr} {c1 : Nat} {A2 : Option Addr} {c2 : Nat} {vs : List Value} (h : SH base wr q f g k A1 c1 A2 c2 vs) {B : Nat} {t : TypeId} {v : Value} (hb : Boxed wr B t v) (u : Value)
    (h1 : t ≠ 29) (h2 : t ≠ 30) (h3 : t ≠ 3) : SH base (wr.setCell ⟨B, 0, none⟩ u) q f g k A1 c1 A2 c2 vs :=
  ⟨h.o1.kept (grownBy_setCell' _ _ _) (.inr (hb.not_row h1 h.o1).symm), h.o2.kept (grownBy_setCell' _ _ _) (.inr (hb.not_row h2 h.o2).symm), fun j hj => by
    obtain ⟨A', c', e1, e2⟩ := h.row j hj
    exact ⟨A', c', e1, e2.kept (grownBy_setCell' _ _ _) (.inr (hb.not_row h3 e2).symm)⟩⟩
end Go.Proofs.Ytpkekdgpkalceaa
