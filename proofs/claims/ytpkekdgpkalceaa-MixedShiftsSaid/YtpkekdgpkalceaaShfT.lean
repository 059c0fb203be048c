/-
  Twisted tabulation's shift: plain laws, and the walk of twist.Shift. Conditions: slices no longer than the form lets them be.
-/
import Derived.Test.YtpkekdgpkalceaaShfC
import Derived.Test.YtpkekdgpkalceaaCatA
import Derived.Test.YtpkekdgpkalceaaTwistA
namespace Go.Proofs.Ytpkekdgpkalceaa
open Go.RowKit
set_option linter.unusedVariables false

def keyT (words : List Nat) (x : Nat) : Nat := if x < 4294967296 then turnR words x else x
def keysT (words : List Nat) (xs : List Nat) : List Nat := xs.map (keyT words)
theorem len_keysT (words xs : List Nat) : (keysT words xs).length = xs.length := by simp [keysT]
theorem get_keysT (words xs : List Nat) (i : Nat) (hi : i < xs.length) : (keysT words xs).getD i 0 = keyT words (xs.getD i 0) := by simp [keysT, List.getD, hi]
theorem keyT_lt (words : List Nat) (x : Nat) (hx : x < 18446744073709551616) : keyT words x < 18446744073709551616 := by
  unfold keyT
  split
  · exact turnR_lt64 words x hx
  · exact hx
theorem keyT_bad (words : List Nat) (x : Nat) : 4294967296 ≤ keyT words x ↔ 4294967296 ≤ x := by
  unfold keyT
  split
  · have := turn_lt words x (by assumption)
    omega
  · exact Iff.rfl
theorem targ_keys (words : List Nat) (b : Int) (xs ys : List Nat) : targE b (keysT words xs) ys = targE b xs ys := by
  unfold targE
  rw [len_keysT]
  have h1 : (List.range xs.length).any (tbad b (keysT words xs) ys) = (List.range xs.length).any (tbad b xs ys) := by
    rw [Bool.eq_iff_iff, List.any_eq_true, List.any_eq_true]
    have : ∀ i, i < xs.length → tbad b (keysT words xs) ys i = tbad b xs ys i := fun i hi => by
      unfold tbad
      rw [get_keysT words xs i hi]
      exact decide_eq_decide.2 (or_congr (keyT_bad words _) Iff.rfl)
    constructor
    · rintro ⟨i, hi, h⟩; exact ⟨i, hi, by rw [← this i (List.mem_range.1 hi)]; exact h⟩
    · rintro ⟨i, hi, h⟩; exact ⟨i, hi, by rw [this i (List.mem_range.1 hi)]; exact h⟩
  rw [h1]
  split
  · rfl
  · split
    · rfl
    · rename_i h2
      have hb : ∀ i, i < xs.length → xs.getD i 0 < 4294967296 := fun i hi => by
        have := (List.any_eq_false.1 (Bool.eq_false_iff.2 h2)) i (List.mem_range.2 hi)
        exact (tbad_parts (Bool.eq_false_iff.2 this)).1
      have : twice (keysT words xs) = twice xs := by
        unfold twice
        rw [len_keysT]
        refine decide_eq_decide.2 ⟨fun ⟨i, hi, k, hk, he⟩ => ⟨i, hi, k, hk, ?_⟩, fun ⟨i, hi, k, hk, he⟩ => ⟨i, hi, k, hk, ?_⟩⟩
        · rw [get_keysT words xs k (by omega), get_keysT words xs i hi] at he
          unfold keyT at he
          rw [if_pos (hb k (by omega)), if_pos (hb i hi)] at he
          exact turn_inj words he
        · rw [get_keysT words xs k (by omega), get_keysT words xs i hi, he]
      rw [this]
/-- What twist.Shift hands back. -/
def tshE (n : Nat) (b : Int) (xs ys : List Nat) : Int := if chk n 240 b = 0 then targE b xs ys else chk n 240 b
def tshV (words : List Nat) (b : Int) (xs ys : List Nat) : List Nat := shiftV (words.take 128) b (keysT words xs) ys ++ words.drop 128
theorem sumAt_same (W W' : List Nat) (off : Nat) (row : List Int) (h : ∀ i, off ≤ i → W.getD i 0 = W'.getD i 0) (k : Nat) : sumAt W off row k = sumAt W' off row k := by
  induction k with
  | zero => rfl
  | succ k ih => simp only [sumAt]; rw [ih, h _ (by omega)]
theorem cat_high (S words : List Nat) (q : Nat) (hS : S.length = q) (i : Nat) (hi : q ≤ i) : (S ++ words.drop q).getD i 0 = words.getD i 0 := by
  simp only [List.getD]
  rw [List.getElem?_append_right (by omega), hS, List.getElem?_drop]
  rw [show q + (i - q) = i by omega]
theorem len_shiftV (words : List Nat) (b : Int) (xs ys : List Nat) : (shiftV words b xs ys).length = words.length := len_aim ..
theorem tsh_turn (words : List Nat) (b : Int) (xs ys : List Nat) (hn : words.length = 240) (x : Nat) : turnR (tshV words b xs ys) x = turnR words x := by
  unfold turnR twistV tshV
  rw [sumAt_same _ words 128 _ (cat_high _ words 128 (by rw [len_shiftV]; simp; omega))]
theorem tsh_take (words : List Nat) (b : Int) (xs ys : List Nat) (hn : words.length = 240) : (tshV words b xs ys).take 128 = shiftV (words.take 128) b (keysT words xs) ys := by
  unfold tshV
  rw [List.take_append_of_le_length (by rw [len_shiftV]; simp; omega), List.take_of_length_le (by rw [len_shiftV]; simp; omega)]
theorem tsh_drop (words : List Nat) (b : Int) (xs ys : List Nat) (hn : words.length = 240) : (tshV words b xs ys).drop 128 = words.drop 128 := by
  unfold tshV
  rw [List.drop_append_of_le_length (by rw [len_shiftV]; simp; omega), List.drop_of_length_le (by rw [len_shiftV]; simp; omega), List.nil_append]
theorem len_tsh (words : List Nat) (b : Int) (xs ys : List Nat) (hn : words.length = 240) : (tshV words b xs ys).length = 240 := by
  unfold tshV
  rw [List.length_append, len_shiftV]
  simp; omega
theorem take_lt (words : List Nat) (hw : ∀ x ∈ words, x < 18446744073709551616) (k : Nat) : ∀ x ∈ words.take k, x < 18446744073709551616 := fun x hx => hw x (List.mem_of_mem_take hx)
theorem drop_lt (words : List Nat) (hw : ∀ x ∈ words, x < 18446744073709551616) (k : Nat) : ∀ x ∈ words.drop k, x < 18446744073709551616 := fun x hx => hw x (List.mem_of_mem_drop hx)
theorem tsh_lt (words : List Nat) (b : Int) (xs ys : List Nat) (hw : ∀ x ∈ words, x < 18446744073709551616) (hy : ∀ x ∈ ys, x < 18446744073709551616) : ∀ x ∈ tshV words b xs ys, x < 18446744073709551616 := fun x hx => by
  rcases List.mem_append.1 hx with h | h
  · exact aimV_lt _ _ _ (take_lt words hw 128) (byV_lt _ _ _ _ (take_lt words hw 128) hy) x h
  · exact drop_lt words hw 128 x h
/-- What a key came to. -/
def wasT (words : List Nat) (b : Int) (xs : List Nat) : List Nat := wasV b (words.take 128) (keyRows row8 (keysT words xs))
theorem len_wasT (words : List Nat) (b : Int) (xs : List Nat) : (wasT words b xs).length = xs.length := by unfold wasT; rw [len_wasV, len_keyRows, len_keysT]
theorem tev_of (words : List Nat) (b : Int) (x : Nat) (hn : words.length = 240) (hc : chk 240 240 b = 0) (hx : x < 4294967296) : tevE words b x = 0 ∧ tevV words b x = lowV (sumV (words.take 128) (row8 (turnR words x))) b := by
  have h0 : tevE words b x = 0 := by unfold tevE; rw [hn]; show (if chk 240 240 b = 0 then _ else _) = _; rw [if_pos hc, if_pos hx]
  refine ⟨h0, ?_⟩
  obtain ⟨h1, h2, _⟩ := chk_zero hc
  have h3 : evalE (words.take 128) b (turnR words x) = 0 := by
    unfold evalE
    have : (words.take 128).length = 128 := by simp; omega
    rw [this]
    have hk : chk ((128 : Nat) : Int) 128 b = 0 := by unfold chk; rw [if_neg (by omega)]; rfl
    rw [if_pos hk, if_pos (turn_lt words x hx)]
  unfold tevV evalV
  rw [if_pos h0, if_pos h3]
  rfl
theorem tsh_all (words : List Nat) (b : Int) (xs ys : List Nat) (hn : words.length = 240) (hc : chk 240 240 b = 0) (ht : targE b xs ys = 0) :
    (∀ k, k < xs.length → tevE words b (xs.getD k 0) = 0 ∧ tevE (tshV words b xs ys) b (xs.getD k 0) = 0 ∧ tevV words b (xs.getD k 0) = (wasT words b xs).getD k 0 ∧ tevV (tshV words b xs ys) b (xs.getD k 0) = ys.getD k 0) ∧
    targE b xs (wasT words b xs) = 0 ∧ tshV (tshV words b xs ys) b xs (wasT words b xs) = words := by
  have hk : targE b (keysT words xs) ys = 0 := by rw [targ_keys]; exact ht
  have hp := targ_parts ht
  have hkp := targ_parts hk
  have hl : (words.take 128).length = 128 := by simp; omega
  have g := goodR8 (n := 128) rfl hk
  have hkey : ∀ k, k < xs.length → (keysT words xs).getD k 0 = turnR words (xs.getD k 0) := fun k h => by
    rw [get_keysT words xs k h]
    unfold keyT
    rw [if_pos (hp.2.2.2.1 k h).1]
  have hkr : ∀ k, k < xs.length → (keyRows row8 (keysT words xs)).getD k [] = row8 (turnR words (xs.getD k 0)) := fun k h => by
    rw [get_keyRows row8 _ k (by rw [len_keysT]; exact h), hkey k h]
  have hlen : (keyRows row8 (keysT words xs)).length = xs.length := by rw [len_keyRows, len_keysT]
  refine ⟨fun k h => ?_, ?_, ?_⟩
  · have hx := (hp.2.2.2.1 k h).1
    obtain ⟨a1, a2⟩ := tev_of words b _ hn hc hx
    obtain ⟨c1, c2⟩ := tev_of (tshV words b xs ys) b _ (len_tsh words b xs ys hn) hc hx
    refine ⟨a1, c1, ?_, ?_⟩
    · rw [a2]
      unfold wasT
      rw [get_wasV _ _ _ k (by rw [hlen]; exact h), hkr k h]
    · rw [c2, tsh_take words b xs ys hn, tsh_turn words b xs ys hn]
      have := shift_hits g b (words.take 128) ys hl k (by rw [hlen]; exact h) (hp.2.2.2.1 k h).2
      rw [hkr k h] at this
      exact this
  · exact targ_was ht (len_wasT words b xs) (fun i hi => wasV_low b _ _ i (by rw [hlen]; exact hi))
  · have hk2 : keysT (tshV words b xs ys) xs = keysT words xs := by
      refine nat_ext _ _ (by rw [len_keysT, len_keysT]) fun i hi => ?_
      rw [len_keysT] at hi
      rw [get_keysT _ xs i hi, get_keysT _ xs i hi]
      unfold keyT
      rw [tsh_turn words b xs ys hn]
    show shiftV ((tshV words b xs ys).take 128) b (keysT (tshV words b xs ys) xs) (wasT words b xs) ++ (tshV words b xs ys).drop 128 = words
    rw [hk2, tsh_take words b xs ys hn, tsh_drop words b xs ys hn]
    have := shift_back g b (words.take 128) ys hl (fun i hi => (hp.2.2.2.1 i (by rw [hlen] at hi; exact hi)).2)
    show aimV (aimV (words.take 128) _ _) _ (byV b (aimV (words.take 128) _ _) _ (wasV b (words.take 128) _)) ++ _ = _
    rw [this, List.take_append_drop]

theorem turned_any (A : Option Addr) (c n g : Nat) (words : List Nat) (x : Nat) (W : World) (hbox : W.cell? ⟨g, 0, none⟩ = some (.slice A n c)) (hwd : Rs W A (us words)) (hn : words.length = n) (h0 : n = 240) (hnc : n ≤ c)
    (hw : ∀ x ∈ words, x < 18446744073709551616) (hx : x < 18446744073709551616) :
    Calls Try.prog 47 #[.int .u64 x, .pointer (some ⟨g, 0, none⟩)] W fun e w' => e = .returned (.int .u64 (keyT words x : Nat)) ∧ Below W.heap.size W w' := by
  have C := hide (turn_any A c W.heap.size words x W hwd (Nat.le_refl _) (by omega) hw hx n hn hnc)
  have hk : keyE n 240 x = if x < 4294967296 then 0 else 2 := by simp [keyE, h0]
  have HV := hide (show keyE n 240 x = 0 → turnV words x = turnR words x from fun h => by unfold turnV; rw [hn, if_pos h])
  clear hn h0
  by_cases hx32 : x < 4294967296
  · rw [if_pos hx32] at hk
    have ht := HV.out hk
    have hkt : keyT words x = turnR words x := by unfold keyT; rw [if_pos hx32]
    rw [hk, ht] at C
    rw [hkt]
    clear hk ht hkt HV hx32
    generalize turnR words x = tr at *
    go_enter Try.func47, Try.ntmps47
    go_wp2_with fail
    refine C.out.mono ?_
    rintro e w1 ⟨rfl, hb⟩
    go_wp2_with fail
    go_ret
    exact ⟨rfl, hb⟩
  · rw [if_neg hx32] at hk
    have hkt : keyT words x = x := by unfold keyT; rw [if_neg hx32]
    rw [hk] at C
    rw [hkt]
    clear hk hkt HV hx32
    generalize turnV words x = tr at *
    go_enter Try.func47, Try.ntmps47
    go_wp2_with fail
    refine C.out.mono ?_
    rintro e w1 ⟨rfl, hb⟩
    go_wp2_with fail
    go_ret
    exact ⟨rfl, hb⟩
end Go.Proofs.Ytpkekdgpkalceaa
