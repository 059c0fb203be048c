/-
  Walks of tabs.rowSet and tabs.odd: a row's entries as a map, and whether a row has an odd number of some entries. Conditions: slices no longer than the form lets them be.
-/
import Derived.Test.YtpkekdgpkalceaaTabsC
import Derived.Test.YtpkekdgpkalceaaAimM
import Derived.Maps.OwnOps
import Derived.Maps.Views
namespace Go.Proofs.Ytpkekdgpkalceaa
open Go.RowKit Go.Maps
set_option linter.unusedVariables false

theorem law_ki : Keyed Try.prog 3 := int_keyed Try.underlying3
theorem zero_ki (w : World) : (zeroValue 3).run Try.prog w = .ok (.int .i64 0) w := by kernel_rfl
theorem wf_i (a : Int) (h : -9223372036854775808 ≤ a) (h' : a ≤ 9223372036854775807) : (Lit.int .i64 a).wf = true := by
  simp [Lit.wf, IntKind.min, IntKind.max, IntKind.signed, IntKind.bits]; omega
/-- A row's first k entries, as a map. -/
def setV (row : List Int) : Nat → DataW Unit
  | 0 => .map []
  | k + 1 => (setV row k).put (.int .i64 (ent row k : Nat)) (.lit (.int .i64 1))
theorem setV_map (row : List Int) (k : Nat) : IsMap (setV row k) := by
  cases k with
  | zero => exact isMap_empty
  | succ k => exact IsMap.put (by induction k with | zero => exact isMap_empty | succ k ih => exact IsMap.put ih _ _) _ _
theorem setV_at (row : List Int) (hg : row.any badc = false) (e : Nat) : ∀ k, k ≤ row.length → (setV row k).atKey (.int .i64 (e : Nat)) (.lit (.int .i64 0)) = .lit (.int .i64 (if e / 16 < k ∧ row.getD (e / 16) 0 = ((e % 16 : Nat) : Int) then 1 else 0))
  | 0, _ => by simp [setV]; try rfl
  | k + 1, hk => by
    have ih := setV_at row hg e k (by omega)
    have h := any_lo row hg k (by omega)
    have hgd : row.getD k 0 = row[k] := by simp [List.getD, show k < row.length by omega]
    obtain ⟨c, hc⟩ := Int.eq_ofNat_of_zero_le h.1
    have he : ent row k = 16 * k + c := by unfold ent; omega
    simp only [setV]
    by_cases h1 : e = ent row k
    · have h2 : e / 16 = k := by omega
      have h3 : e % 16 = c := by omega
      have h4 : e / 16 < k + 1 ∧ row.getD (e / 16) 0 = ((e % 16 : Nat) : Int) := ⟨by omega, by rw [h2, h3, hgd, hc]⟩
      rw [if_pos h4, h1, atKey_put_same (setV_map row k) (by simp [WideAt.IsKeyLit])]
    · rw [atKey_put_other (by simp; omega), ih]
      by_cases h2 : e / 16 = k
      · have h3 : ¬ row.getD (e / 16) 0 = ((e % 16 : Nat) : Int) := fun hh => by rw [h2, hgd] at hh; omega
        rw [if_neg (fun hh => h3 hh.2), if_neg (fun hh => h3 hh.2)]
      · by_cases h3 : e / 16 < k ∧ row.getD (e / 16) 0 = ((e % 16 : Nat) : Int)
        · rw [if_pos h3, if_pos ⟨by omega, h3.2⟩]
        · rw [if_neg h3, if_neg (fun hh => h3 ⟨by omega, hh.2⟩)]
theorem setV_has (row : List Int) (hg : row.any badc = false) (e : Nat) : (setV row row.length).atKey (.int .i64 (e : Nat)) (.lit (.int .i64 0)) = .lit (.int .i64 (if hasE row e then 1 else 0)) := by
  rw [setV_at row hg e _ (Nat.le_refl _)]
  unfold hasE
  by_cases h : e / 16 < row.length ∧ row.getD (e / 16) 0 = ((e % 16 : Nat) : Int)
  · rw [if_pos h, decide_eq_true h]; rfl
  · rw [if_neg h, decide_eq_false h]; rfl

set_option maxHeartbeats 400000 in
theorem rowset_any (A : Option Addr) (c B : Nat) (row : List Int) (w : World) (hr : Rd w B A (is row)) (hB : B ≤ w.heap.size) (hl : row.length ≤ 17592186043904) (hg : row.any badc = false) (nr : Nat) (hnr : row.length = nr) :
    Calls Try.prog 56 #[.slice A nr c] w fun e w' => e = .returned (.map (some w.heap.size)) ∧ w'.ownsMap Try.prog 3 (plainElem (H := Unit) Try.prog 3) w.heap.size row.length (setV row row.length) ∧ Below w.heap.size w w' := by
  subst hnr
  have hlo : ∀ k (h : k < row.length), 0 ≤ row[k] ∧ row[k] < 16 := fun k h => any_lo row hg k h
  have HL := hide hlo; clear hlo hg
  have hmm := @run_makeMap Try.prog
  go_enter Try.func56, Try.ntmps56
  go_wp2
  go_loopw [9] (fun i wr => ∃ k : Nat, k ≤ row.length ∧ i = .int .i64 k ∧ wr.ownsMap Try.prog 3 (plainElem (H := Unit) Try.prog 3) w.heap.size k (setV row k) ∧ Below w.heap.size w wr) (fun i _ => row.length - (intOf i).toNat)
  case atStart => exact ⟨0, Nat.zero_le _, rfl, World.ownsMap_made _ _ _ _, (Below.refl _ _).alloc (Nat.le_refl _) _⟩
  case round =>
    obtain ⟨k, hk, rfl, hown, hnx⟩ := hrel
    by_cases hlt : k < row.length
    · obtain ⟨b, o, rfl, hb, hc⟩ := (hr.below (hnx.mono hB)).i hlt
      have h16 := HL.out k hlt
      obtain ⟨c, hcc⟩ := Int.eq_ofNat_of_zero_le h16.1
      have hc2 : c < 16 := by omega
      rw [hcc] at hc
      have hen : ent row k = 16 * k + c := by unfold ent; simp [List.getD, hlt, hcc]
      have HE := hide hen
      clear hcc h16 HL hen
      go_wp2_with (first
        | (at_mapUpdate; refine wpList_mapUpdate_own _ rfl _ _ _ 69 rfl 3 3 law_ki Try.underlying69 _ w.heap.size k _ rfl hown (by unfold maxLen; omega) _ _ _ rfl rfl (keyOf_int_mk Try.underlying3 (wf_i _ (by omega) (by omega))) _ [] (plainElem_int Try.underlying3 (wf_i _ (by omega) (by omega))) ?_; intro w1 hown1 hgrow1)
        | go_in)
      go_roundw
      case rel => exact ⟨k + 1, by omega, by go_num, (by simp only [setV]; rw [HE.out]; exact hown1), hnx.grown hgrow1 hnx.size (fun j hj => by cases hj; exact Nat.le_refl _)⟩
      case measure => simp [intOf]; omega
    · go_wp2
      go_ret
      have hkb : k = row.length := by omega
      subst hkb
      exact ⟨rfl, hown, hnx⟩

def ns (xs : List Nat) : List Int := xs.map fun n : Nat => (n : Int)
theorem len_ns (xs : List Nat) : (ns xs).length = xs.length := by simp [ns]
theorem get_ns (xs : List Nat) (k : Nat) (h : k < xs.length) : (ns xs)[k]'(by rw [len_ns]; exact h) = ((xs.getD k 0 : Nat) : Int) := by simp [ns, List.getD, h]
theorem cnt_le (row : List Int) (es : List Nat) (k : Nat) : cntTo row es k ≤ k := by
  induction k with
  | zero => simp [cntTo]
  | succ k ih => simp only [cntTo]; split <;> omega

set_option maxHeartbeats 400000 in
theorem odd_any (A A' : Option Addr) (c c' B B' : Nat) (row : List Int) (es : List Nat) (w : World) (hr : Rd w B A (is row)) (hs : Rd w B' A' (is (ns es))) (hB : B ≤ w.heap.size) (hB' : B' ≤ w.heap.size) (hl : row.length ≤ 17592186043904) (hl' : es.length ≤ 17592186043904)
    (hg : row.any badc = false) (he : ∀ e, e ∈ es → e < 9223372036854775807) (nr : Nat) (hnr : row.length = nr) (ne : Nat) (hne : es.length = ne) :
    Calls Try.prog 32 #[.slice A nr c, .slice A' ne c'] w fun e w' => e = .returned (.bool (oddV row es)) ∧ Below w.heap.size w w' := by
  subst hnr
  subst hne
  have C := hide (rowset_any A c B row w hr hB hl hg row.length rfl)
  have HG := hide hg
  have HE := hide he
  clear hg he
  go_enter Try.func32, Try.ntmps32
  go_wp2_with fail
  refine (C.out).mono ?_
  rintro e w1 ⟨rfl, hown, hb1⟩
  have hs1 := hs.below (hb1.mono hB')
  go_wp2
  go_loop [6, 13] (fun n i => ∃ k m : Nat, k ≤ es.length ∧ i = .int .i64 k ∧ n = .int .i64 m ∧ m ≤ k ∧ Hid (m = cntTo row es k)) (fun _ i => es.length - (intOf i).toNat)
  case atStart => exact ⟨0, 0, Nat.zero_le _, rfl, rfl, Nat.le_refl _, hide rfl⟩
  case round =>
    obtain ⟨k, m, hk, rfl, rfl, hmk, hm⟩ := hrel
    by_cases hlt : k < es.length
    · obtain ⟨b, o, rfl, hb, hc⟩ := hs1.i (k := k) (by rw [len_ns]; exact hlt)
      rw [get_ns es k hlt] at hc
      have hlim : es.getD k 0 < 9223372036854775807 := HE.out _ (by simp [List.getD, hlt])
      have HS := hide (setV_has row HG.out (es.getD k 0))
      have hnext : cntTo row es (k + 1) = cntTo row es k + (if hasE row (es.getD k 0) then 1 else 0) := rfl
      have HN := hide hnext; clear hnext
      generalize es.getD k 0 = v at *
      go_wp2_with (first
        | (at_lookup; refine wpList_lookup_own_int _ rfl _ _ 69 rfl 3 3 .i64 law_ki Try.underlying69 Try.underlying3 (zero_ki _) w.heap.size row.length _ rfl hown _ _ rfl (keyOf_int_mk Try.underlying3 (wf_i _ (by omega) (by omega))) ?_; intro c hat hwc)
        | go_in)
      have hc1 : c = if hasE row v then 1 else 0 := by
        have := HS.out
        rw [hat] at this
        simpa using this
      have hc2 : ∃ d : Nat, c = (d : Int) ∧ d ≤ 1 ∧ d = if hasE row v then 1 else 0 := by
        rw [hc1]; split
        · exact ⟨1, rfl, by omega, rfl⟩
        · exact ⟨0, rfl, by omega, rfl⟩
      obtain ⟨d, rfl, hd1, hd2⟩ := hc2
      have HD := hide hd2; clear hc1 hd2 hat hwc
      go_wp2
      go_round
      case rel => exact ⟨k + 1, m + d, by omega, by go_num, val_i (by unfold wrap64; omega), by omega, hide (by rw [HN.out, hm.out, HD.out])⟩
      case measure => simp [intOf]; omega
    · go_wp2
      have hkb : k = es.length := by omega
      subst hkb
      go_ret
      refine ⟨ret_b ?_, hb1⟩
      unfold oddV
      rw [← hm.out]
      first | (rw [Bool.eq_iff_iff]; simp; omega) | grind
end Go.Proofs.Ytpkekdgpkalceaa
