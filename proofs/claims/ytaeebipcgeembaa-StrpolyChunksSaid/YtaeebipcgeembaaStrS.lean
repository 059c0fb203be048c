/-
  Two texts are alike: bytes.Equal and the reference's Same. Conditions: bytes.
-/
import Derived.Test.YtaeebipcgeembaaStrT
import Derived.Laws.BytesString
import Derived.Laws.Cells
import Derived.OneCell
namespace Go.Proofs.Ytaeebipcgeembaa
open Go.RowKit
set_option linter.unusedVariables false

/-- A text of bytes. -/
def nstr (xs : List Nat) : ByteArray := ⟨(xs.map UInt8.ofNat).toArray⟩
theorem nstr_fold : ∀ (zs acc : List Nat), (zs.map fun n : Nat => (n : Int)).foldl (fun r n => r.push (UInt8.ofNat n.toNat)) (nstr acc) = nstr (acc ++ zs)
  | [], acc => by simp
  | z :: zs, acc => by
    rw [List.map_cons, List.foldl_cons]
    have : (nstr acc).push (UInt8.ofNat ((z : Int)).toNat) = nstr (acc ++ [z]) := by simp [nstr, ByteArray.push]
    rw [this, nstr_fold zs]
    simp
theorem nstr_all (zs : List Nat) : (zs.map fun n : Nat => (n : Int)).foldl (fun r n => r.push (UInt8.ofNat n.toNat)) ByteArray.empty = nstr zs := by
  have h : ByteArray.empty = nstr [] := rfl
  rw [h, nstr_fold, List.nil_append]
theorem nstr_inj {a b : List Nat} (ha : ∀ x ∈ a, x < 256) (hb : ∀ x ∈ b, x < 256) (h : nstr a = nstr b) : a = b := by
  have h1 : a.map UInt8.ofNat = b.map UInt8.ofNat := by
    have := congrArg ByteArray.data h
    simpa [nstr] using this
  have h2 := congrArg (List.map UInt8.toNat) h1
  have e : ∀ l : List Nat, (∀ x ∈ l, x < 256) → (l.map UInt8.ofNat).map UInt8.toNat = l := fun l hl => by
    rw [List.map_map]
    conv => rhs; rw [← List.map_id l]
    refine List.map_congr_left fun x hx => ?_
    have := hl x hx
    simp [UInt8.toNat_ofNat']
    omega
  rwa [e a ha, e b hb] at h2
theorem conv_by8 (A : Option Addr) (n c : Nat) (xs : List Nat) (w : World) (hn : xs.length = n) (hr : Rs w A (by8 xs)) :
    (convert 23 9 (.slice A n c)).run Try.prog w = .ok (.string (nstr xs)) w := by
  subst hn
  rw [run_convert_bytes_string w _ _ 5 _ _ _ Try.underlying23 Try.underlying5 Try.underlying9]
  cases A with
  | none =>
    have h0 : xs = [] := by
      rcases xs with _ | ⟨x, r⟩
      · rfl
      · obtain ⟨_, _, h, _⟩ := hr (by simp [by8])
        cases h
    subst h0
    rfl
  | some a =>
    have hl : (loadCells a (by8 xs).length).run Try.prog w = .ok (by8 xs).toArray w := run_loadCells_list w _ _ (fun j v hj => by
      obtain ⟨b, o, he, _, hc⟩ := hr (by rcases xs with _ | ⟨x, r⟩ <;> simp [by8] at hj ⊢)
      cases he
      rw [Addr.add_lit]
      exact hc j v hj)
    rw [len_by8] at hl
    have e : by8 xs = (xs.map fun n : Nat => (n : Int)).map (Value.int .u8) := by simp [by8]
    rw [e] at hl
    rw [run_bytesToString w _ _ _ _ hl, nstr_all]
theorem toList_loop (bs : ByteArray) : ∀ (k i : Nat) (r : List UInt8), bs.size - i = k → ByteArray.toList.loop bs i r = r.reverse ++ bs.data.toList.drop i
  | 0, i, r, h => by
    have hs : bs.data.toList.length = bs.size := by rw [Array.length_toList]; rfl
    rw [ByteArray.toList.loop.eq_def, if_neg (by omega), List.drop_eq_nil_of_le (by omega), List.append_nil]
  | k + 1, i, r, h => by
    have hs : bs.data.toList.length = bs.size := by rw [Array.length_toList]; rfl
    have hi : i < bs.size := by omega
    have hd : bs.data.toList.drop i = bs.get! i :: bs.data.toList.drop (i + 1) := by
      rw [List.drop_eq_getElem_cons (by omega)]
      congr 1
      simp [ByteArray.get!, getElem!_pos bs.data i hi]
    rw [ByteArray.toList.loop.eq_def, if_pos hi, toList_loop bs k (i + 1) _ (by omega), hd, List.reverse_cons, List.append_assoc]
    rfl
theorem toList_data (bs : ByteArray) : bs.toList = bs.data.toList := by
  have := toList_loop bs _ 0 [] rfl
  simpa [ByteArray.toList] using this
theorem toList_eq (a b : ByteArray) : (a.toList == b.toList) = decide (a = b) := by
  rw [toList_data, toList_data, Bool.eq_iff_iff]
  simp only [beq_iff_eq, decide_eq_true_eq]
  constructor
  · intro h
    have h2 : a.data = b.data := Array.toList_inj.1 h
    cases a; cases b
    simpa using h2
  · intro h
    rw [h]
theorem same_r (A A' : Option Addr) (n m c c' : Nat) (xs ys : List Nat) (w : World) (hn : xs.length = n) (hm : ys.length = m) (hx : ∀ x ∈ xs, x < 256) (hy : ∀ y ∈ ys, y < 256) (hr : Rs w A (by8 xs)) (hr' : Rs w A' (by8 ys)) :
    Calls Try.prog 18 #[.slice A n c, .slice A' m c'] w fun e w' => e = .returned (.bool (decide (xs = ys))) ∧ w = w' := by
  have h1 := conv_by8 A n c xs w hn hr
  have h2 := conv_by8 A' m c' ys w hm hr'
  have hd : (decide (nstr xs = nstr ys)) = decide (xs = ys) := decide_eq_decide.2 ⟨nstr_inj hx hy, fun h => by rw [h]⟩
  rw [← hd]
  generalize nstr xs = s1 at *
  generalize nstr ys = s2 at *
  clear hd hn hm hx hy hr hr'
  go_enter Try.func18, Try.ntmps18
  go_wp2_with fail
  go_ret
  exact ⟨ret_b (toList_eq s1 s2), rfl⟩
theorem equal_b (A A' : Option Addr) (n m c c' : Nat) (xs ys : List Nat) (w : World) (hn : xs.length = n) (hm : ys.length = m) (hx : ∀ x ∈ xs, x < 256) (hy : ∀ y ∈ ys, y < 256) (hr : Rs w A (by8 xs)) (hr' : Rs w A' (by8 ys)) :
    Calls Try.prog 30 #[.slice A n c, .slice A' m c'] w fun e w' => e = .returned (.bool (decide (xs = ys))) ∧ w = w' := by
  have h1 := conv_by8 A n c xs w hn hr
  have h2 := conv_by8 A' m c' ys w hm hr'
  have hd : (decide (nstr xs = nstr ys)) = decide (xs = ys) := decide_eq_decide.2 ⟨nstr_inj hx hy, fun h => by rw [h]⟩
  rw [← hd]
  generalize nstr xs = s1 at *
  generalize nstr ys = s2 at *
  clear hd hn hm hx hy hr hr'
  go_enter Try.func30, Try.ntmps30
  go_wp2_with fail
  go_ret
  exact ⟨ret_b (toList_eq s1 s2), rfl⟩
end Go.Proofs.Ytaeebipcgeembaa
