/-
  Plain law: a number's decimal digits read as that number. Conditions: the number has 256 bits.
-/
import Derived.Test.YtpfpdlgfngkdjaaTxtF
namespace Go.Proofs.Ytpfpdlgfngkdjaa
set_option linter.unusedVariables false

theorem igetD (l : List Int) (i : Nat) (h : i < l.length) : l.getD i 0 = l[i] := by simp [List.getD, h]
theorem bstr_by (zs : List Int) (i : Nat) (hi : i < zs.length) (h : ∀ z ∈ zs, 0 ≤ z ∧ z < 256) : by_ (bstr zs) i = (zs.getD i 0).toNat := by
  have hs := bstr_size zs
  unfold by_
  rw [dif_pos (by rw [hs]; exact hi)]
  have e : (bstr zs)[i]'(by rw [hs]; exact hi) = UInt8.ofNat (zs[i]).toNat := by
    show ((bstr zs).data[i]'(by have h2 := hi; rw [← hs] at h2; exact h2)) = _
    simp [bstr]
  rw [e]
  have hz := h zs[i] (List.getElem_mem hi)
  rw [igetD zs i hi]
  simp
  omega
/-- The byte at place i of a number's text. -/
theorem dg_at (X n i : Nat) (hi : i < n) : ((dg X n).reverse.getD i 0) = ((48 + X / 10 ^ (n - 1 - i) % 10 : Nat) : Int) := by
  have h1 : i < (dg X n).reverse.length := by rw [List.length_reverse, len_dg]; exact hi
  rw [igetD _ i h1, List.getElem_reverse]
  simp [dg]
theorem dg_by (X n i : Nat) (hi : i < n) : by_ (bstr (dg X n).reverse) i = 48 + X / 10 ^ (n - 1 - i) % 10 := by
  rw [bstr_by _ i (by rw [List.length_reverse, len_dg]; exact hi), dg_at X n i hi]
  · omega
  · intro z hz
    obtain ⟨j, _, rfl⟩ := List.mem_map.1 (List.mem_reverse.1 hz)
    omega
theorem vl_dg (X n : Nat) (hz : X / 10 ^ n = 0) : ∀ k, k ≤ n → vl (by_ (bstr (dg X n).reverse)) k = X / 10 ^ (n - k)
  | 0, _ => by rw [Nat.sub_zero, hz]; rfl
  | k + 1, hk => by
    have ih := vl_dg X n hz k (by omega)
    simp only [vl]
    rw [ih, dg_by X n k (by omega)]
    have e1 : n - k = n - (k + 1) + 1 := by omega
    have e2 : n - 1 - k = n - (k + 1) := by omega
    rw [e1, e2, Nat.pow_succ, ← Nat.div_div_eq_div_mul]
    generalize X / 10 ^ (n - (k + 1)) = Y
    omega
theorem tx_back (X n : Nat) (hX : X < 2 ^ 256) (D : Digs X n) : txE (by_ (bstr (dg X n).reverse)) n = 0 ∧ txV (by_ (bstr (dg X n).reverse)) n = X := by
  have hv := vl_dg X n D.zero n (Nat.le_refl _)
  rw [Nat.sub_self, Nat.pow_zero, Nat.div_one] at hv
  have hpos := D.pos
  have hf : formB (by_ (bstr (dg X n).reverse)) n = false := by
    refine form_no _ n (fun i hi => ?_) ?_
    · unfold badD
      rw [dg_by X n i hi]
      refine decide_eq_false ?_
      have : X / 10 ^ (n - 1 - i) % 10 < 10 := Nat.mod_lt _ (by omega)
      omega
    · rintro ⟨h1, h2⟩
      rw [dg_by X n 0 (by omega)] at h1
      have h3 : X / 10 ^ (n - 1) % 10 = 0 := by rw [Nat.sub_zero] at h1; omega
      have h4 : X / 10 ^ (n - 1) / 10 = 0 := by
        rw [Nat.div_div_eq_div_mul, ← Nat.pow_succ, show (n - 1).succ = n by omega]
        exact D.zero
      exact D.more (n - 1) (by omega) (by omega) (by omega)
  have h := tx_ok _ n (by omega) hf (by rw [hv]; exact hX)
  rw [hv] at h
  exact h
end Go.Proofs.Ytpfpdlgfngkdjaa
